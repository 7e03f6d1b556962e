/- Plain law: both chapter-18 programs tell the same way through the table. -/
import Derived.Test.YtmecmmpgkcileaaZ4
import Derived.Test.YtmecmmpgkcileaaPw
import Derived.Test.YtmecmmpgkcileaaPe
namespace Go.Proofs.Ytmecmmpgkcileaa.Z
open Go.RowKit Go.Proofs.YtmecmmpgkcileaaW.PrintWords

/-! ### Rounds of walkL -/
theorem walkL_eq (x y : List ByteArray) (k i j f p : Nat) : walkL x y (k + 1) i j f p =
    if i < x.length ∧ j < y.length then
      if sameB (x.getD i ByteArray.empty) (y.getD j ByteArray.empty) = true then clos y i f j p ++ walkL x y k (i + 1) (j + 1) (i + 1) (j + 1)
      else if tabT x y i (j + 1) ≤ tabT x y (i + 1) j then walkL x y k (i + 1) j f p else walkL x y k i (j + 1) f p
    else clos y x.length f y.length p := rfl
theorem walkL_succ (x y : List ByteArray) (k : Nat) : ∀ i j f p, (x.length - i) + (y.length - j) ≤ k → walkL x y (k + 1) i j f p = walkL x y k i j f p := by
  induction k with
  | zero =>
    intro i j f p hk
    rw [walkL_eq, if_neg (by omega)]
    rfl
  | succ k ih =>
    intro i j f p hk
    rw [walkL_eq x y (k + 1), walkL_eq x y k i j f p]
    by_cases hc : i < x.length ∧ j < y.length
    · obtain ⟨h1, h2⟩ := hc
      have hb : i < x.length ∧ j < y.length := ⟨h1, h2⟩
      rw [if_pos hb, if_pos hb]
      rw [ih (i + 1) (j + 1) (i + 1) (j + 1) (by omega), ih (i + 1) j f p (by omega), ih i (j + 1) f p (by omega)]
    · rw [if_neg hc, if_neg hc]
theorem walkL_more (x y : List ByteArray) (i j f p : Nat) (d : Nat) : walkL x y ((x.length - i) + (y.length - j) + d) i j f p = walkL x y ((x.length - i) + (y.length - j)) i j f p := by
  induction d with
  | zero => rfl
  | succ d ih => rw [← Nat.add_assoc, walkL_succ _ _ _ _ _ _ _ (by omega), ih]
/-- With as many rounds as it needs. -/
def wl (x y : List ByteArray) (i j f p : Nat) : List S33 := walkL x y ((x.length - i) + (y.length - j)) i j f p
theorem walkL_wl {x y : List ByteArray} {k i j : Nat} (h : (x.length - i) + (y.length - j) ≤ k) (f p : Nat) : walkL x y k i j f p = wl x y i j f p := by
  have := walkL_more x y i j f p (k - ((x.length - i) + (y.length - j)))
  rw [Nat.add_sub_cancel' h] at this
  exact this
theorem wl_end {x y : List ByteArray} {i j : Nat} (h : ¬ (i < x.length ∧ j < y.length)) (f p : Nat) : wl x y i j f p = clos y x.length f y.length p := by
  rw [← walkL_wl (Nat.le_succ _), walkL, if_neg h]
theorem wl_same {x y : List ByteArray} {i j : Nat} (hi : i < x.length) (hj : j < y.length) (h : sameB x[i] y[j] = true) (f p : Nat) : wl x y i j f p = clos y i f j p ++ wl x y (i + 1) (j + 1) (i + 1) (j + 1) := by
  rw [← walkL_wl (Nat.le_succ _), walkL, if_pos ⟨hi, hj⟩, show x.getD i ByteArray.empty = x[i] from by simp [hi], show y.getD j ByteArray.empty = y[j] from by simp [hj], if_pos h, walkL_wl (by omega)]
theorem wl_x {x y : List ByteArray} {i j : Nat} (hi : i < x.length) (hj : j < y.length) (h : sameB x[i] y[j] = false) (ht : tabT x y i (j + 1) ≤ tabT x y (i + 1) j) (f p : Nat) : wl x y i j f p = wl x y (i + 1) j f p := by
  rw [← walkL_wl (Nat.le_succ _), walkL, if_pos ⟨hi, hj⟩, show x.getD i ByteArray.empty = x[i] from by simp [hi], show y.getD j ByteArray.empty = y[j] from by simp [hj], if_neg (by rw [h]; simp), if_pos ht, walkL_wl (by omega)]
theorem wl_y {x y : List ByteArray} {i j : Nat} (hi : i < x.length) (hj : j < y.length) (h : sameB x[i] y[j] = false) (ht : ¬ tabT x y i (j + 1) ≤ tabT x y (i + 1) j) (f p : Nat) : wl x y i j f p = wl x y i (j + 1) f p := by
  rw [← walkL_wl (Nat.le_succ _), walkL, if_pos ⟨hi, hj⟩, show x.getD i ByteArray.empty = x[i] from by simp [hi], show y.getD j ByteArray.empty = y[j] from by simp [hj], if_neg (by rw [h]; simp), if_neg ht, walkL_wl (by omega)]

/-! ### The second program's loops -/
theorem rd_tab (x y : List ByteArray) {i j : Nat} (hi : i ≤ x.length) (hj : j ≤ y.length) : rd (rd_L5 (tabL x y) (i : Int)) (j : Int) = tabT x y i j := by
  unfold rd rd_L5 tabL
  rw [Int.toNat_natCast, Int.toNat_natCast, List.getD_eq_getElem?_getD, List.getD_eq_getElem?_getD, List.getElem?_map, List.getElem?_range (by omega)]
  simp only [Option.map_some, Option.getD_some, List.getElem?_map]
  rw [List.getElem?_range (by omega)]
  rfl
theorem tab_len (x y : List ByteArray) {i : Nat} (hi : i ≤ x.length) : (rd_L5 (tabL x y) (i : Int)).length = y.length + 1 := by
  unfold rd_L5 tabL
  rw [Int.toNat_natCast, List.getD_eq_getElem?_getD, List.getElem?_map, List.getElem?_range (by omega)]
  simp
theorem tab_rows (x y : List ByteArray) : (tabL x y).length = x.length + 1 := by unfold tabL; simp
theorem rdOf_lt {x : List ByteArray} {i : Nat} (h : i < x.length) : rdOf ByteArray.empty x (i : Int) = x[i] := by unfold rdOf; rw [Int.toNat_natCast]; simp [h]
theorem w_succ {i : Nat} (h : i ≤ 2000) : wrap64 ((i : Int) + 1) = ((i + 1 : Nat) : Int) := by rw [wrap_id _ (by omega) (by omega)]; rfl

structure Two (x y : List ByteArray) : Prop where
  xl : x.length ≤ 2000
  yl : y.length ≤ 2000
  yc : (catL y).length ≤ 2000

/-- The test at the head of both loops: do the two lines stand, and are they one? -/
def meet (x y : List ByteArray) (i j : Nat) : Bool := decide (i < x.length) && (decide (j < y.length) && ((rdOf ByteArray.empty x (i : Int)).toList == (rdOf ByteArray.empty y (j : Int)).toList))
theorem meet_pos {x y : List ByteArray} {i j : Nat} (hi : i < x.length) (hj : j < y.length) : meet x y i j = sameB x[i] y[j] := by
  unfold meet
  rw [decide_eq_true hi, decide_eq_true hj, rdOf_lt hi, rdOf_lt hj, toList_same]
  rfl
theorem meet_none {x y : List ByteArray} {i j : Nat} (h : ¬ (i < x.length ∧ j < y.length)) : meet x y i j = false := by
  unfold meet
  by_cases hi : i < x.length
  · rw [decide_eq_false (fun hj => h ⟨hi, hj⟩)]; simp
  · rw [decide_eq_false hi]; simp
theorem l0_go {x y : List ByteArray} (_ : Two x y) {out : List S33} {i j : Nat} (hc : i < x.length ∨ j < y.length) {r : List S33 × Int}
    (hr : Evs (fun k => regletref18_Between.j2 k x y (tabL x y) out (i : Int) (j : Int) (meet x y i j)) r) : Evs (fun k => regletref18_Between.l0 k x y (tabL x y) out (i : Int) (j : Int)) r := by
  have hj1 : Evs (fun k => regletref18_Between.j1 k x y (tabL x y) out (i : Int) (j : Int) true) r := by
    refine Evs.succ (Evs.congr (fun k => ?_) hr)
    simp only [regletref18_Between.j1, if_true]
    by_cases hi : i < x.length
    · rw [if_pos (by omega)]
      by_cases hj : j < y.length
      · rw [if_pos (by omega), if_pos (by omega), if_pos (by omega)]
        unfold meet
        rw [decide_eq_true hi, decide_eq_true hj]
        rfl
      · rw [if_neg (by omega), meet_none (fun h => hj h.2)]
    · rw [if_neg (by omega), meet_none (fun h => hi h.1)]
  refine Evs.succ (Evs.congr (fun k => ?_) hj1)
  simp only [regletref18_Between.l0]
  by_cases hi : i < x.length
  · rw [if_pos (by omega)]
  · rw [if_neg (by omega), decide_eq_true (by omega : (j : Int) < (y.length : Int))]
theorem l0_end {x y : List ByteArray} {out : List S33} {i j : Nat} (hi : ¬ i < x.length) (hj : ¬ j < y.length) : Evs (fun k => regletref18_Between.l0 k x y (tabL x y) out (i : Int) (j : Int)) (out, 0) := by
  refine Evs.succ (Evs.congr (g := fun k => regletref18_Between.j1 k x y (tabL x y) out (i : Int) (j : Int) false) (fun k => ?_) (Evs.succ (Evs.congr (g := fun _ => some (out, 0)) (fun k => ?_) (Evs.ret _))))
  · simp only [regletref18_Between.l0]
    rw [if_neg (by omega), decide_eq_false (by omega : ¬ (j : Int) < (y.length : Int))]
  · simp only [regletref18_Between.j1]
    rfl
theorem l1_go {x y : List ByteArray} (_ : Two x y) {out : List S33} {i j f p : Nat} (hc : i < x.length ∨ j < y.length) {r : List S33 × Int}
    (hr : Evs (fun k => regletref18_Between.j5 k x y (tabL x y) out (i : Int) (j : Int) (f : Int) (p : Int) (meet x y i j)) r) : Evs (fun k => regletref18_Between.l1 k x y (tabL x y) out (i : Int) (j : Int) (f : Int) (p : Int)) r := by
  have hj1 : Evs (fun k => regletref18_Between.j4 k x y (tabL x y) out (i : Int) (j : Int) (f : Int) (p : Int) true) r := by
    refine Evs.succ (Evs.congr (fun k => ?_) hr)
    simp only [regletref18_Between.j4, if_true]
    by_cases hi : i < x.length
    · rw [if_pos (by omega)]
      by_cases hj : j < y.length
      · rw [if_pos (by omega), if_pos (by omega), if_pos (by omega)]
        unfold meet
        rw [decide_eq_true hi, decide_eq_true hj]
        rfl
      · rw [if_neg (by omega), meet_none (fun h => hj h.2)]
    · rw [if_neg (by omega), meet_none (fun h => hi h.1)]
  refine Evs.succ (Evs.congr (fun k => ?_) hj1)
  simp only [regletref18_Between.l1]
  by_cases hi : i < x.length
  · rw [if_pos (by omega)]
  · rw [if_neg (by omega), decide_eq_true (by omega : (j : Int) < (y.length : Int))]
/-- Where the inner loop has come to its end: one edit more. -/
theorem j5_out {x y : List ByteArray} (h : Two x y) {out : List S33} {i j f p : Nat} (hp : p ≤ j) (hj : j ≤ y.length) (hfp : f < i ∨ p < j) (ho : out.length ≤ 4000) {r : List S33 × Int}
    (hr : Evs (fun k => regletref18_Between.l0 k x y (tabL x y) (out ++ clos y i f j p) (i : Int) (j : Int)) r) :
    Evs (fun k => (regletref18_join.f k y (p : Int) (j : Int)).bind fun t => if out.length < 4398046511104 then regletref18_Between.l0 k x y (tabL x y) (out ++ [(⟨(f : Int), (i : Int), t⟩ : S33)]) (i : Int) (j : Int) else none) r := by
  have hjn := refJoin y (p : Int) (j : Int) (by omega) (by omega) (by omega) (by have := h.yl; omega) (by rw [Int.toNat_natCast, Int.toNat_natCast]; have := catL_mid_le y p j; have := h.yc; omega)
  rw [Int.toNat_natCast, Int.toNat_natCast] at hjn
  unfold clos at hr
  rw [if_pos hfp] at hr
  refine Evs.bind hjn ?_
  simp only [if_pos (show out.length < 4398046511104 by omega)]
  exact hr
theorem ref_walk {x y : List ByteArray} (h : Two x y) (d : Nat) :
    (∀ i j (out : List S33), i ≤ x.length → j ≤ y.length → (x.length - i) + (y.length - j) = d → out.length ≤ i + j → Evs (fun k => regletref18_Between.l0 k x y (tabL x y) out (i : Int) (j : Int)) (out ++ wl x y i j i j, 0)) ∧
    (∀ i j f p (out : List S33), f ≤ i → i ≤ x.length → p ≤ j → j ≤ y.length → (x.length - i) + (y.length - j) = d → out.length ≤ f + p → (f < i ∨ p < j ∨ ((i < x.length ∨ j < y.length) ∧ meet x y i j = false)) →
      Evs (fun k => regletref18_Between.l1 k x y (tabL x y) out (i : Int) (j : Int) (f : Int) (p : Int)) (out ++ wl x y i j f p, 0)) := by
  have hxl := h.xl
  have hyl := h.yl
  induction d using Nat.strongRecOn with
  | ind d ih =>
    have hB : ∀ i j f p (out : List S33), f ≤ i → i ≤ x.length → p ≤ j → j ≤ y.length → (x.length - i) + (y.length - j) = d → out.length ≤ f + p → (f < i ∨ p < j ∨ ((i < x.length ∨ j < y.length) ∧ meet x y i j = false)) →
        Evs (fun k => regletref18_Between.l1 k x y (tabL x y) out (i : Int) (j : Int) (f : Int) (p : Int)) (out ++ wl x y i j f p, 0) := by
      intro i j f p out hf hi hp hj hd ho hcond
      by_cases hc : i < x.length ∨ j < y.length
      · refine l1_go h hc ?_
        by_cases hm : meet x y i j = true
        · -- the lines are one: the edit is told, and the outer loop goes on
          have hb : i < x.length ∧ j < y.length := by
            refine Classical.byContradiction fun hn => ?_
            rw [meet_none hn] at hm; cases hm
          obtain ⟨h1, h2⟩ := hb
          have hs : sameB x[i] y[j] = true := by rw [← meet_pos h1 h2]; exact hm
          have hfp : f < i ∨ p < j := by
            rcases hcond with h3 | h3 | ⟨_, h3⟩
            · exact .inl h3
            · exact .inr h3
            · rw [hm] at h3; cases h3
          rw [hm, wl_same h1 h2 hs, ← List.append_assoc]
          have hl : (out ++ clos y i f j p).length ≤ i + j := by
            have := clos_length y i f j p
            have : (clos y i f j p).length ≤ 1 := by unfold clos; split <;> simp
            rw [List.length_append]; omega
          have hA := (ih (d - 2) (by omega)).1 (i + 1) (j + 1) (out ++ clos y i f j p) (by omega) (by omega) (by omega) (by omega)
          refine Evs.succ ?_
          simp only [regletref18_Between.j5, if_true]
          refine j5_out h hp hj hfp (by omega) ?_
          refine l0_go h (.inl h1) ?_
          rw [hm]
          refine Evs.succ (Evs.congr (fun k => ?_) hA)
          simp only [regletref18_Between.j2, if_true]
          rw [w_succ (by omega), w_succ (by omega)]
        · have hm' : meet x y i j = false := by simpa using hm
          rw [hm']
          refine Evs.succ ?_
          simp only [regletref18_Between.j5, Bool.false_eq_true, if_false]
          by_cases hjm : j = y.length
          · have h1 : i < x.length := by omega
            simp only [if_pos (show (j : Int) = (y.length : Int) by omega), w_succ (show i ≤ 2000 by omega)]
            rw [wl_end (by omega), ← wl_end (x := x) (i := i + 1) (j := j) (by omega)]
            exact (ih (d - 1) (by omega)).2 (i + 1) j f p out (by omega) (by omega) hp hj (by omega) ho (.inl (by omega))
          · simp only [if_neg (show ¬ (j : Int) = (y.length : Int) by omega)]
            by_cases hin : i < x.length
            · have h2 : j < y.length := by omega
              have hs : sameB x[i] y[j] = false := by rw [← meet_pos hin h2]; exact hm'
              simp only [if_pos (show (i : Int) < (x.length : Int) by omega), w_succ (show i ≤ 2000 by omega), w_succ (show j ≤ 2000 by omega)]
              rw [tab_rows, tab_len x y (show i + 1 ≤ x.length by omega), tab_len x y (show i ≤ x.length by omega), rd_tab x y (show i + 1 ≤ x.length by omega) hj, rd_tab x y (show i ≤ x.length by omega) (show j + 1 ≤ y.length by omega)]
              simp only [if_pos (show (0 : Int) ≤ ((i + 1 : Nat) : Int) by omega), if_pos (show ((i + 1 : Nat) : Int) < ((x.length + 1 : Nat) : Int) by omega), if_pos (show (0 : Int) ≤ (j : Int) by omega), if_pos (show (j : Int) < ((y.length + 1 : Nat) : Int) by omega), if_pos (show (0 : Int) ≤ (i : Int) by omega), if_pos (show (i : Int) < ((x.length + 1 : Nat) : Int) by omega), if_pos (show (0 : Int) ≤ ((j + 1 : Nat) : Int) by omega), if_pos (show ((j + 1 : Nat) : Int) < ((y.length + 1 : Nat) : Int) by omega)]
              by_cases ht : tabT x y i (j + 1) ≤ tabT x y (i + 1) j
              · simp only [if_pos (show tabT x y (i + 1) j ≥ tabT x y i (j + 1) from ht)]
                rw [wl_x hin h2 hs ht]
                exact (ih (d - 1) (by omega)).2 (i + 1) j f p out (by omega) (by omega) hp hj (by omega) ho (.inl (by omega))
              · simp only [if_neg (show ¬ tabT x y (i + 1) j ≥ tabT x y i (j + 1) from ht)]
                rw [wl_y hin h2 hs ht]
                exact (ih (d - 1) (by omega)).2 i (j + 1) f p out hf hi (by omega) (by omega) (by omega) ho (.inr (.inl (by omega)))
            · simp only [if_neg (show ¬ (i : Int) < (x.length : Int) by omega), w_succ (show j ≤ 2000 by omega)]
              rw [wl_end (by omega), ← wl_end (x := x) (i := i) (j := j + 1) (by omega)]
              exact (ih (d - 1) (by omega)).2 i (j + 1) f p out hf hi (by omega) (by omega) (by omega) ho (.inr (.inl (by omega)))
      · -- both are at their end
        have h1 : i = x.length := by omega
        have h2 : j = y.length := by omega
        have hfp : f < i ∨ p < j := by
          rcases hcond with h3 | h3 | ⟨h3, _⟩
          · exact .inl h3
          · exact .inr h3
          · exact absurd h3 hc
        rw [wl_end (by omega), ← h1, ← h2]
        refine Evs.succ (Evs.congr (g := fun k => regletref18_Between.j4 k x y (tabL x y) out (i : Int) (j : Int) (f : Int) (p : Int) false) (fun k => ?_) (Evs.succ ?_))
        · simp only [regletref18_Between.l1]
          rw [if_neg (by omega), decide_eq_false (by omega : ¬ (j : Int) < (y.length : Int))]
        · simp only [regletref18_Between.j4, Bool.false_eq_true, if_false]
          exact j5_out h hp hj hfp (by omega) (l0_end (by omega) (by omega))
    refine ⟨fun i j out hi hj hd ho => ?_, hB⟩
    by_cases hc : i < x.length ∨ j < y.length
    · refine l0_go h hc ?_
      by_cases hm : meet x y i j = true
      · have hb : i < x.length ∧ j < y.length := by
          refine Classical.byContradiction fun hn => ?_
          rw [meet_none hn] at hm; cases hm
        obtain ⟨h1, h2⟩ := hb
        have hs : sameB x[i] y[j] = true := by rw [← meet_pos h1 h2]; exact hm
        have hcl : clos y i i j j = [] := by unfold clos; rw [if_neg (by omega)]
        rw [hm, wl_same h1 h2 hs, hcl, List.nil_append]
        have hA := (ih (d - 2) (by omega)).1 (i + 1) (j + 1) out (by omega) (by omega) (by omega) (by omega)
        refine Evs.succ (Evs.congr (fun k => ?_) hA)
        simp only [regletref18_Between.j2, if_true]
        rw [w_succ (by omega), w_succ (by omega)]
      · have hm' : meet x y i j = false := by simpa using hm
        rw [hm']
        refine Evs.succ ?_
        simp only [regletref18_Between.j2, Bool.false_eq_true, if_false]
        exact hB i j i j out (Nat.le_refl _) hi (Nat.le_refl _) hj hd ho (.inr (.inr ⟨hc, hm'⟩))
    · have h1 : i = x.length := by omega
      have h2 : j = y.length := by omega
      have hcl : clos y x.length i y.length j = [] := by unfold clos; rw [if_neg (by omega)]
      rw [wl_end (by omega), hcl, List.append_nil]
      exact l0_end (by omega) (by omega)
/-- What the second program tells of two texts. -/
theorem refBetween {a b : ByteArray} (ha : a.size ≤ 2000) (hb : b.size ≤ 2000) :
    ∃ r, edit_Between.f a b = some r ∧ Evs (fun k => regletref18_Between.f k a b) r ∧ r.1.length ≤ 4000 := by
  have h1 := lines_length a
  have h2 := lines_length b
  have h3 : (linesB a).length * (linesB b).length ≤ 2000 * 2000 := Nat.mul_le_mul (by omega) (by omega)
  have hw : wrap64 (((linesB a).length : Int) * ((linesB b).length : Int)) = (((linesB a).length * (linesB b).length : Nat) : Int) := by
    rw [← Int.natCast_mul]; exact wrap_id _ (by omega) (by omega)
  have hra := refLines a (by omega)
  have hrb := refLines b (by omega)
  unfold edit_Between.f
  rw [if_pos ⟨by omega, by omega⟩]
  by_cases hm : 1048576 < (linesB a).length * (linesB b).length
  · rw [if_pos hm]
    refine ⟨_, rfl, ?_, by simp⟩
    refine Evs.bind hra (Evs.bind hrb ?_)
    simp only [hw, if_pos (show (((linesB a).length * (linesB b).length : Nat) : Int) > 1048576 by omega)]
    exact Evs.ret _
  · rw [if_neg hm]
    have hT : Two (linesB a) (linesB b) := ⟨by omega, by omega, by rw [catL_linesB, size_toList]; exact hb⟩
    have ht : regletref18_Table.f (linesB a) (linesB b) = some (tabL (linesB a) (linesB b)) := by unfold regletref18_Table.f; rw [if_pos ⟨by omega, by omega⟩]
    have hwk := (ref_walk hT _).1 0 0 [] (Nat.zero_le _) (Nat.zero_le _) rfl (Nat.zero_le _)
    rw [List.nil_append] at hwk
    have e : walkB (linesB a) (linesB b) ((linesB a).length + (linesB b).length) 0 0 0 0 [] = wl (linesB a) (linesB b) 0 0 0 0 := by rw [walkB_eq]; rfl
    have hs := (walk_small _ 0 0 0 0 (atW0 (linesB a) (linesB b)) (Nat.le_refl _)).2
    refine ⟨_, rfl, ?_, ?_⟩
    · refine Evs.bind hra (Evs.bind hrb ?_)
      simp only [hw, if_neg (show ¬ (((linesB a).length * (linesB b).length : Nat) : Int) > 1048576 by omega), ht, Option.bind_some]
      rw [e]
      exact hwk
    · rw [e]
      unfold wl
      simp only [Nat.sub_zero] at hs ⊢
      omega
end Go.Proofs.Ytmecmmpgkcileaa.Z
