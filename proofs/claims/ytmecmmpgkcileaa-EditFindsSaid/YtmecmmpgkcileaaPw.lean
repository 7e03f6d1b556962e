/- Plain laws of the way through the table: what it tells fits, makes the other text, and takes out and puts in as few lines as may be. -/
import Derived.Test.YtmecmmpgkcileaaGBetween
import Derived.Test.YtmecmmpgkcileaaPv1
namespace Go.Proofs.Ytmecmmpgkcileaa.Z
open Go.RowKit Go.Proofs.YtmecmmpgkcileaaW.PrintWords

/-! ### Rows in common -/
theorem lcs_sub (x : List ByteArray) : ∀ y : List ByteArray, ∃ z : List ByteArray, z.Sublist x ∧ z.Sublist y ∧ z.length = lcs x y := by
  induction x with
  | nil => intro y; exact ⟨[], List.nil_sublist _, List.nil_sublist _, rfl⟩
  | cons a x ih =>
    intro y
    induction y with
    | nil => exact ⟨[], List.nil_sublist _, List.nil_sublist _, by rw [lcs_nil_right]; rfl⟩
    | cons b y ihy =>
      rw [lcs_cons]
      split
      · rename_i h
        rw [(sameB_iff a b).1 h]
        obtain ⟨z, h1, h2, h3⟩ := ih y
        exact ⟨b :: z, h1.cons_cons b, h2.cons_cons b, by simp [h3]⟩
      · obtain ⟨z, h1, h2, h3⟩ := ih (b :: y)
        obtain ⟨u, g1, g2, g3⟩ := ihy
        by_cases hm : lcs x (b :: y) ≤ lcs (a :: x) y
        · exact ⟨u, g1, g2.cons b, by rw [g3]; omega⟩
        · exact ⟨z, h1.cons a, h2, by rw [h3]; omega⟩
theorem sub_tail {c a : ByteArray} {z x : List ByteArray} (h : (c :: z).Sublist (a :: x)) : z.Sublist x := by
  cases h with
  | cons _ h => exact (List.sublist_cons_self c z).trans h
  | cons_cons _ h => exact h
theorem lcs_max (x : List ByteArray) : ∀ y z : List ByteArray, z.Sublist x → z.Sublist y → z.length ≤ lcs x y := by
  induction x with
  | nil => intro y z h _; rw [List.sublist_nil.1 h]; exact Nat.zero_le _
  | cons a x ih =>
    intro y
    induction y with
    | nil => intro z _ h; rw [List.sublist_nil.1 h]; exact Nat.zero_le _
    | cons b y ihy =>
      intro z h1 h2
      rw [lcs_cons]
      split
      · cases z with
        | nil => exact Nat.zero_le _
        | cons c z =>
          have := ih y z (sub_tail h1) (sub_tail h2)
          rw [List.length_cons]
          omega
      · rename_i hne
        cases h1 with
        | cons _ h => have := ih (b :: y) z h h2; omega
        | cons_cons _ h =>
          cases h2 with
          | cons _ k => have := ihy _ (h.cons_cons a) k; omega
          | cons_cons _ k => exact absurd ((sameB_iff a a).2 rfl) hne
theorem lcs_comm (x y : List ByteArray) : lcs x y = lcs y x := by
  obtain ⟨z, h1, h2, h3⟩ := lcs_sub x y
  obtain ⟨u, g1, g2, g3⟩ := lcs_sub y x
  have := lcs_max y x z h2 h1
  have := lcs_max x y u g2 g1
  omega
theorem lcs_le_right (x y : List ByteArray) : lcs x y ≤ y.length := by rw [lcs_comm]; exact lcs_le y x
theorem sub_meet (b : List ByteArray) : ∀ z1 z2 : List ByteArray, z1.Sublist b → z2.Sublist b → ∃ z : List ByteArray, z.Sublist z1 ∧ z.Sublist z2 ∧ z1.length + z2.length ≤ b.length + z.length := by
  induction b with
  | nil =>
    intro z1 z2 h1 h2
    rw [List.sublist_nil.1 h1, List.sublist_nil.1 h2]
    exact ⟨[], List.nil_sublist _, List.nil_sublist _, Nat.le_refl _⟩
  | cons c b ih =>
    intro z1 z2 h1 h2
    cases h1 with
    | cons _ h1 =>
      cases h2 with
      | cons _ h2 => obtain ⟨z, g1, g2, g3⟩ := ih z1 z2 h1 h2; exact ⟨z, g1, g2, by rw [List.length_cons]; omega⟩
      | cons_cons _ h2 =>
        rename_i w
        obtain ⟨z, g1, g2, g3⟩ := ih z1 w h1 h2
        exact ⟨z, g1, g2.cons c, by rw [List.length_cons, List.length_cons]; omega⟩
    | cons_cons _ h1 =>
      rename_i v
      cases h2 with
      | cons _ h2 => obtain ⟨z, g1, g2, g3⟩ := ih v z2 h1 h2; exact ⟨z, g1.cons c, g2, by rw [List.length_cons, List.length_cons]; omega⟩
      | cons_cons _ h2 =>
        rename_i w
        obtain ⟨z, g1, g2, g3⟩ := ih v w h1 h2
        exact ⟨c :: z, g1.cons_cons c, g2.cons_cons c, by simp only [List.length_cons]; omega⟩
/-- By way of a third one. -/
theorem lcs_ways (a b c : List ByteArray) : lcs a b + lcs b c ≤ b.length + lcs a c := by
  obtain ⟨z1, h1, h2, h3⟩ := lcs_sub a b
  obtain ⟨z2, g1, g2, g3⟩ := lcs_sub b c
  obtain ⟨z, k1, k2, k3⟩ := sub_meet b z1 z2 h2 g1
  have := lcs_max a c z (k1.trans h1) (k2.trans g2)
  omega

/-! ### The way, without what was told before -/
def clos (y : List ByteArray) (i f j p : Nat) : List S33 := if f < i ∨ p < j then [⟨(f : Int), (i : Int), mkB (catL ((y.take j).drop p))⟩] else []
theorem closeStep_eq (y : List ByteArray) (xs : List S33) (i f j p : Nat) : closeStep y xs i f j p = xs ++ clos y i f j p := by
  unfold closeStep clos
  split
  · rfl
  · rw [List.append_nil]
def walkL (x y : List ByteArray) : Nat → Nat → Nat → Nat → Nat → List S33
  | 0, _, _, f, p => clos y x.length f y.length p
  | k + 1, i, j, f, p =>
    if i < x.length ∧ j < y.length then
      if sameB (x.getD i ByteArray.empty) (y.getD j ByteArray.empty) = true then clos y i f j p ++ walkL x y k (i + 1) (j + 1) (i + 1) (j + 1)
      else if tabT x y i (j + 1) ≤ tabT x y (i + 1) j then walkL x y k (i + 1) j f p else walkL x y k i (j + 1) f p
    else clos y x.length f y.length p
theorem walkB_eq (x y : List ByteArray) (k : Nat) : ∀ i j f p out, walkB x y k i j f p out = out ++ walkL x y k i j f p := by
  induction k with
  | zero => intro i j f p out; exact closeStep_eq ..
  | succ k ih =>
    intro i j f p out
    unfold walkB walkL
    split
    · split
      · rw [ih, closeStep_eq, List.append_assoc]
      · split
        · exact ih ..
        · exact ih ..
    · exact closeStep_eq ..

structure AtW (x y : List ByteArray) (i j f p : Nat) : Prop where
  fi : f ≤ i
  il : i ≤ x.length
  pj : p ≤ j
  jl : j ≤ y.length
  m : (f = 0 ∧ p = 0) ∨ (0 < f ∧ 0 < p ∧ x[f - 1]? = y[p - 1]?)

theorem walk_ind {x y : List ByteArray} {P : Nat → Nat → Nat → Nat → List S33 → Prop}
    (hend : ∀ i j f p, AtW x y i j f p → ¬ (i < x.length ∧ j < y.length) → P i j f p (clos y x.length f y.length p))
    (hsame : ∀ i j f p l, AtW x y i j f p → ∀ (hi : i < x.length) (hj : j < y.length), x[i] = y[j] → P (i + 1) (j + 1) (i + 1) (j + 1) l → P i j f p (clos y i f j p ++ l))
    (hx : ∀ i j f p l, AtW x y i j f p → ∀ (hi : i < x.length) (hj : j < y.length), sameB x[i] y[j] = false → tabT x y i (j + 1) ≤ tabT x y (i + 1) j → P (i + 1) j f p l → P i j f p l)
    (hy : ∀ i j f p l, AtW x y i j f p → ∀ (hi : i < x.length) (hj : j < y.length), sameB x[i] y[j] = false → ¬ tabT x y i (j + 1) ≤ tabT x y (i + 1) j → P i (j + 1) f p l → P i j f p l) :
    ∀ k i j f p, AtW x y i j f p → (x.length - i) + (y.length - j) ≤ k → P i j f p (walkL x y k i j f p) := by
  intro k
  induction k with
  | zero => intro i j f p h hk; exact hend i j f p h (fun hc => by omega)
  | succ k ih =>
    intro i j f p h hk
    unfold walkL
    split
    · rename_i hc
      obtain ⟨hi, hj⟩ := hc
      rw [show x.getD i ByteArray.empty = x[i] from by simp [hi], show y.getD j ByteArray.empty = y[j] from by simp [hj]]
      obtain ⟨h1, h2, h3, h4, h5⟩ := h
      split
      · rename_i hs
        have he := (sameB_iff _ _).1 hs
        refine hsame i j f p _ ⟨h1, h2, h3, h4, h5⟩ hi hj he (ih _ _ _ _ ⟨Nat.le_refl _, by omega, Nat.le_refl _, by omega, .inr ⟨by omega, by omega, ?_⟩⟩ (by omega))
        simp only [Nat.add_sub_cancel]
        rw [List.getElem?_eq_getElem hi, List.getElem?_eq_getElem hj, he]
      · rename_i hs
        have hs' : sameB x[i] y[j] = false := by simpa using hs
        split
        · rename_i ht
          exact hx i j f p _ ⟨h1, h2, h3, h4, h5⟩ hi hj hs' ht (ih _ _ _ _ ⟨by omega, by omega, h3, h4, h5⟩ (by omega))
        · rename_i ht
          exact hy i j f p _ ⟨h1, h2, h3, h4, h5⟩ hi hj hs' ht (ih _ _ _ _ ⟨h1, h2, by omega, by omega, h5⟩ (by omega))
    · rename_i hc
      exact hend i j f p h hc

/-! ### Lines -/
structure Lns (y : List ByteArray) : Prop where
  mid : ∀ p j, j ≤ y.length → linesB (mkB (catL ((y.take j).drop p))) = (y.take j).drop p
  full : ∀ p j, j < y.length → AllFull (rawL ((y.take j).drop p))
  ne : ∀ u ∈ y, u.data.toList ≠ []
theorem lns (s : ByteArray) : Lns (linesB s) :=
  ⟨fun p j h => mid_lines s p j h, fun _ _ h => full_mid s (.inl h), fun u hu => raw_ne s _ (List.mem_map.2 ⟨u, hu, rfl⟩)⟩
theorem Lns.text {y : List ByteArray} (h : Lns y) {p j : Nat} (hp : p < j) (hj : j ≤ y.length) : catL ((y.take j).drop p) ≠ [] := by
  have hlt : p < (y.take j).length := by rw [List.length_take]; omega
  rw [List.drop_eq_getElem_cons hlt]
  intro e
  have e1 : ((y.take j)[p]).data.toList = [] := by
    have e2 : catL ((y.take j)[p] :: (y.take j).drop (p + 1)) = ((y.take j)[p]).data.toList ++ catL ((y.take j).drop (p + 1)) := by simp [catL]
    rw [e2] at e
    exact (List.append_eq_nil_iff.1 e).1
  exact h.ne _ (List.mem_of_mem_take (List.getElem_mem hlt)) e1
theorem Lns.whole {y : List ByteArray} (h : Lns y) {p j : Nat} (hj : j < y.length) : wholeB (mkB (catL ((y.take j).drop p))) = true := by
  unfold wholeB
  rw [mkB_toList, ← rawL_flatten]
  exact whole_all (h.full p j hj)
theorem Lns.line {y : List ByteArray} (h : Lns y) {q : Nat} (hq : q + 1 < y.length) {u : ByteArray} (hu : y[q]? = some u) : wholeB u = true := by
  refine full_whole (h.full 0 (q + 1) hq _ (List.mem_map.2 ⟨u, ?_, rfl⟩))
  rw [List.drop_zero]
  refine List.mem_of_getElem? (i := q) ?_
  rw [List.getElem?_take, if_pos (by omega)]
  exact hu

theorem walk_fit {x y : List ByteArray} (hy : Lns y) (k : Nat) (i j f p : Nat) (h : AtW x y i j f p) (hk : (x.length - i) + (y.length - j) ≤ k) :
    ∀ last : Int, last < (f : Int) → fitFrom x last (walkL x y k i j f p) = true := by
  refine walk_ind (P := fun i j f p l => ∀ last : Int, last < (f : Int) → fitFrom x last l = true) ?_ ?_ ?_ ?_ k i j f p h hk
  · intro i j f p h hc last hl
    obtain ⟨h1, h2, h3, h4, h5⟩ := h
    unfold clos
    split
    · rename_i hfp
      refine fit_mk hl (by show (f : Int) ≤ (x.length : Int); omega) (Int.le_refl _) ?_ (fun h => absurd h (by show ¬ (x.length : Int) < _; omega)) ?_ rfl
      · rintro ⟨e1, e2⟩
        have e1' : (f : Int) = (x.length : Int) := e1
        rw [mkB_toList] at e2
        exact hy.text (p := p) (j := y.length) (by omega) (Nat.le_refl _) e2
      · intro e h0
        have e' : (f : Int) = (x.length : Int) := e
        rcases h5 with ⟨h5, _⟩ | ⟨h5, h6, h7⟩
        · omega
        · have hf : f - 1 = x.length - 1 := by omega
          rw [hf, List.getElem?_eq_getElem (by omega)] at h7
          rw [show x.getD (x.length - 1) ByteArray.empty = x[x.length - 1] from by rw [List.getD_eq_getElem?_getD, List.getElem?_eq_getElem (by omega)]; rfl]
          exact hy.line (q := p - 1) (by omega) h7.symm
    · rfl
  · intro i j f p l h hi hj he ih last hl
    obtain ⟨h1, h2, h3, h4, h5⟩ := h
    unfold clos
    split
    · rename_i hfp
      refine fit_mk hl (by show (f : Int) ≤ (i : Int); omega) (by show (i : Int) ≤ _; omega) ?_ (fun _ => hy.whole hj) ?_ (ih _ (by show (i : Int) < _; omega))
      · rintro ⟨e1, e2⟩
        have e1' : (f : Int) = (i : Int) := e1
        rw [mkB_toList] at e2
        exact hy.text (p := p) (j := j) (by omega) h4 e2
      · intro e
        have e' : (f : Int) = (x.length : Int) := e
        omega
    · exact ih _ (by omega)
  · intro i j f p l h hi hj _ _ ih; exact ih
  · intro i j f p l h hi hj _ _ ih; exact ih

theorem take_drop_succ {x : List ByteArray} {i a : Nat} (hi : i < x.length) (ha : a ≤ i) : (x.take (i + 1)).drop a = (x.take i).drop a ++ [x[i]] := by
  rw [List.take_succ_eq_append_getElem hi, List.drop_append_of_le_length (by rw [List.length_take]; omega)]
theorem mid_app {y : List ByteArray} {p j : Nat} (hp : p ≤ j) : (y.take j).drop p ++ y.drop j = y.drop p := by
  have h2 : y.drop j = (y.drop p).drop (j - p) := by rw [List.drop_drop]; congr 1; omega
  rw [h2, List.drop_take, List.take_append_drop]
theorem walk_lines {x y : List ByteArray} (hy : Lns y) (k : Nat) (i j f p : Nat) (h : AtW x y i j f p) (hk : (x.length - i) + (y.length - j) ≤ k) :
    ∀ a : Nat, a ≤ f → linesFrom x a (walkL x y k i j f p) = (x.take f).drop a ++ y.drop p := by
  refine walk_ind (P := fun i j f p l => ∀ a : Nat, a ≤ f → linesFrom x a l = (x.take f).drop a ++ y.drop p) ?_ ?_ ?_ ?_ k i j f p h hk
  · intro i j f p h hc a ha
    obtain ⟨h1, h2, h3, h4, h5⟩ := h
    unfold clos
    split
    · show (x.take ((f : Int)).toNat).drop a ++ linesB (mkB (catL ((y.take y.length).drop p))) ++ x.drop ((x.length : Int)).toNat = _
      rw [hy.mid p y.length (Nat.le_refl _), Int.toNat_natCast, Int.toNat_natCast, List.drop_length, List.append_nil, List.take_length]
    · rename_i hfp
      show x.drop a = _
      rw [show f = x.length by omega, show p = y.length by omega, List.take_length, List.drop_length, List.append_nil]
  · intro i j f p l h hi hj he ih a ha
    obtain ⟨h1, h2, h3, h4, h5⟩ := h
    have hyj : y.drop j = x[i] :: y.drop (j + 1) := by rw [List.drop_eq_getElem_cons hj, he]
    unfold clos
    split
    · show (x.take ((f : Int)).toNat).drop a ++ linesB (mkB (catL ((y.take j).drop p))) ++ linesFrom x ((i : Int)).toNat l = _
      rw [hy.mid p j h4, Int.toNat_natCast, Int.toNat_natCast, ih i (by omega), take_drop_succ hi (Nat.le_refl _), List.append_assoc, List.append_assoc, List.drop_of_length_le (l := x.take i) (by rw [List.length_take]; omega)]
      rw [← mid_app (y := y) (p := p) (j := j) h3, hyj]
      rfl
    · rename_i hfp
      rw [List.nil_append, ih a (by omega), show f = i by omega, show p = j by omega, take_drop_succ hi (by omega), List.append_assoc, hyj]
      rfl
  · intro i j f p l h hi hj _ _ ih; exact ih
  · intro i j f p l h hi hj _ _ ih; exact ih

theorem sizeOut_append (a b : List S33) : sizeOut (a ++ b) = sizeOut a + sizeOut b := by
  induction a with
  | nil => simp [sizeOut]
  | cons e r ih => show (e.f1 - e.f0) + sizeOut (r ++ b) = ((e.f1 - e.f0) + sizeOut r) + sizeOut b; rw [ih]; omega
theorem sizeIn_append (a b : List S33) : sizeIn (a ++ b) = sizeIn a + sizeIn b := by
  induction a with
  | nil => simp [sizeIn]
  | cons e r ih => show ((linesB e.f2).length : Int) + sizeIn (r ++ b) = (((linesB e.f2).length : Int) + sizeIn r) + sizeIn b; rw [ih]; omega
theorem clos_out (y : List ByteArray) {i f j p : Nat} (h : f ≤ i) : sizeOut (clos y i f j p) = (i : Int) - f := by
  unfold clos
  split
  · simp [sizeOut]
  · simp [sizeOut]; omega
theorem clos_in {y : List ByteArray} (hy : Lns y) {i f j p : Nat} (hp : p ≤ j) (hj : j ≤ y.length) : sizeIn (clos y i f j p) = (j : Int) - p := by
  unfold clos
  split
  · simp only [sizeIn]
    rw [hy.mid p j hj, List.length_drop, List.length_take]
    omega
  · simp [sizeIn]; omega
theorem walk_sizes {x y : List ByteArray} (hy : Lns y) (k : Nat) (i j f p : Nat) (h : AtW x y i j f p) (hk : (x.length - i) + (y.length - j) ≤ k) :
    sizeOut (walkL x y k i j f p) = (x.length : Int) - f - tabT x y i j ∧ sizeIn (walkL x y k i j f p) = (y.length : Int) - p - tabT x y i j := by
  refine walk_ind (P := fun i j f p l => sizeOut l = (x.length : Int) - f - tabT x y i j ∧ sizeIn l = (y.length : Int) - p - tabT x y i j) ?_ ?_ ?_ ?_ k i j f p h hk
  · intro i j f p h hc
    obtain ⟨h1, h2, h3, h4, h5⟩ := h
    have hT : tabT x y i j = 0 := by
      by_cases e : i < x.length
      · rw [show j = y.length by omega]; exact tabT_end x y i
      · rw [show i = x.length by omega]; exact tabT_last x y j
    rw [clos_out y (by omega), clos_in hy (by omega) (Nat.le_refl _), hT]
    omega
  · intro i j f p l h hi hj he ih
    obtain ⟨h1, h2, h3, h4, h5⟩ := h
    have hT := tabT_same hi hj ((sameB_iff _ _).2 he)
    rw [sizeOut_append, sizeIn_append, clos_out y h1, clos_in hy h3 h4, ih.1, ih.2, hT]
    omega
  · intro i j f p l h hi hj hs ht ih
    have hT := tabT_else hi hj hs
    rw [ih.1, ih.2]
    omega
  · intro i j f p l h hi hj hs ht ih
    have hT := tabT_else hi hj hs
    rw [ih.1, ih.2]
    omega
theorem walk_self (x : List ByteArray) (k : Nat) : ∀ i, i ≤ x.length → x.length - i ≤ k → walkL x x k i i i i = [] := by
  have hc : ∀ i, clos x i i i i = [] := fun i => by unfold clos; rw [if_neg (by omega)]
  induction k with
  | zero =>
    intro i hi hk
    obtain rfl : i = x.length := by omega
    exact hc _
  | succ k ih =>
    intro i hi hk
    unfold walkL
    by_cases h : i < x.length
    · rw [if_pos ⟨h, h⟩, if_pos ((sameB_iff _ _).2 rfl), hc, ih (i + 1) (by omega) (by omega)]
      rfl
    · obtain rfl : i = x.length := by omega
      rw [if_neg (fun h' => h h'.1), hc]

/-- The lines that stay behind edits are lines of both texts. -/
theorem kept_sub {x : List ByteArray} {l : List S33} : ∀ {last : Int} {a : Nat}, fitFrom x last l = true → -1 ≤ last → (a : Int) ≤ last + 1 → a ≤ x.length →
    ∃ z : List ByteArray, z.Sublist (x.drop a) ∧ z.Sublist (linesFrom x a l) ∧ (z.length : Int) = (x.length : Int) - a - sizeOut l := by
  induction l with
  | nil => intro last a _ _ _ ha; exact ⟨x.drop a, List.Sublist.refl _, List.Sublist.refl _, by rw [List.length_drop]; unfold sizeOut; omega⟩
  | cons e r ih =>
    intro last a h h0 ha hax
    obtain ⟨h1, h2, h3, _, _, _, h7⟩ := fit_cons h
    obtain ⟨z, g1, g2, g3⟩ := ih (a := e.f1.toNat) h7 (by omega) (by omega) (by omega)
    refine ⟨(x.take e.f0.toNat).drop a ++ z, ?_, ?_, ?_⟩
    · have e1 : x.drop a = (x.take e.f0.toNat).drop a ++ x.drop e.f0.toNat := (mid_app (by omega)).symm
      have e2 : x.drop e.f1.toNat = (x.drop e.f0.toNat).drop (e.f1.toNat - e.f0.toNat) := by rw [List.drop_drop]; congr 1; omega
      rw [e1]
      exact (List.Sublist.refl _).append (g1.trans (by rw [e2]; exact List.drop_sublist _ _))
    · show ((x.take e.f0.toNat).drop a ++ z).Sublist ((x.take e.f0.toNat).drop a ++ linesB e.f2 ++ linesFrom x e.f1.toNat r)
      rw [List.append_assoc]
      exact (List.Sublist.refl _).append (g2.trans (List.sublist_append_right _ _))
    · rw [List.length_append, List.length_drop, List.length_take]
      unfold sizeOut
      omega

/-- What makes one text of another one: the edits. -/
def betw (a b : ByteArray) : List S33 := walkB (linesB a) (linesB b) ((linesB a).length + (linesB b).length) 0 0 0 0 []
theorem atW0 (x y : List ByteArray) : AtW x y 0 0 0 0 := ⟨Nat.le_refl _, Nat.zero_le _, Nat.le_refl _, Nat.zero_le _, .inl ⟨rfl, rfl⟩⟩
theorem betw_eq (a b : ByteArray) : betw a b = walkL (linesB a) (linesB b) ((linesB a).length + (linesB b).length) 0 0 0 0 := by
  unfold betw; rw [walkB_eq]; rfl
theorem betw_fit (a b : ByteArray) : fitB (linesB a) (betw a b) = true := by
  rw [betw_eq]; exact walk_fit (lns b) _ 0 0 0 0 (atW0 _ _) (by omega) (-1) (by omega)
theorem betw_lines (a b : ByteArray) : linesFrom (linesB a) 0 (betw a b) = linesB b := by
  rw [betw_eq, walk_lines (lns b) _ 0 0 0 0 (atW0 _ _) (by omega) 0 (Nat.le_refl _)]
  simp
theorem betw_apply (a b : ByteArray) : applyB (linesB a) (betw a b) = b.data.toList := by
  unfold applyB; rw [← catL_linesFrom, betw_lines, catL_linesB]
theorem betw_sizes (a b : ByteArray) : sizeOut (betw a b) = ((linesB a).length : Int) - lcs (linesB a) (linesB b) ∧ sizeIn (betw a b) = ((linesB b).length : Int) - lcs (linesB a) (linesB b) := by
  have h := walk_sizes (lns b) _ 0 0 0 0 (atW0 (linesB a) (linesB b)) (Nat.le_refl ((linesB a).length - 0 + ((linesB b).length - 0)))
  rw [betw_eq]
  have hT : tabT (linesB a) (linesB b) 0 0 = (lcs (linesB a) (linesB b) : Int) := by unfold tabT; rw [List.drop_zero, List.drop_zero]
  rw [hT] at h
  simp only [Nat.sub_zero] at h
  omega
theorem textSz_append (a b : List S33) : textSz (a ++ b) = textSz a + textSz b := by
  induction a with
  | nil => simp [textSz]
  | cons e r ih => rw [List.cons_append, textSz_cons, textSz_cons, ih]; omega
theorem clos_text (y : List ByteArray) (i f j p : Nat) : textSz (clos y i f j p) ≤ (catL ((y.take j).drop p)).length := by
  unfold clos
  split
  · rw [textSz_cons]; simp [textSz, mkB_size]
  · simp [textSz]
theorem clos_length (y : List ByteArray) (i f j p : Nat) : (clos y i f j p).length ≤ (i - f) + (j - p) := by
  unfold clos
  split
  · rw [List.length_singleton]; omega
  · simp
theorem walk_small {x y : List ByteArray} (k : Nat) (i j f p : Nat) (h : AtW x y i j f p) (hk : (x.length - i) + (y.length - j) ≤ k) :
    textSz (walkL x y k i j f p) ≤ (catL (y.drop p)).length ∧ (walkL x y k i j f p).length ≤ (x.length - f) + (y.length - p) := by
  refine walk_ind (P := fun i j f p l => textSz l ≤ (catL (y.drop p)).length ∧ l.length ≤ (x.length - f) + (y.length - p)) ?_ ?_ ?_ ?_ k i j f p h hk
  · intro i j f p h hc
    have h1 := clos_text y x.length f y.length p
    rw [List.take_length] at h1
    exact ⟨h1, clos_length ..⟩
  · intro i j f p l h hi hj he ih
    obtain ⟨h1, h2, h3, h4, h5⟩ := h
    have g1 := clos_text y i f j p
    have g2 := clos_length y i f j p
    have g3 := catL_drop_mono y j (j + 1) (by omega)
    have g4 := congrArg List.length (congrArg catL (mid_app (y := y) h3))
    rw [catL_append, List.length_append] at g4
    rw [textSz_append, List.length_append]
    omega
  · intro i j f p l h hi hj _ _ ih; exact ih
  · intro i j f p l h hi hj _ _ ih; exact ih
theorem betw_small (a b : ByteArray) : textSz (betw a b) ≤ b.size ∧ (betw a b).length ≤ (linesB a).length + (linesB b).length := by
  have h := walk_small _ 0 0 0 0 (atW0 (linesB a) (linesB b)) (Nat.le_refl ((linesB a).length - 0 + ((linesB b).length - 0)))
  rw [betw_eq]
  simp only [Nat.sub_zero, List.drop_zero, catL_linesB, size_toList] at h
  exact h
theorem betw_self (a : ByteArray) : betw a a = [] := by
  rw [betw_eq]; exact walk_self _ _ 0 (Nat.zero_le _) (by omega)
/-- No edits that make the other text take out and put in fewer lines. -/
theorem betw_least {a b : ByteArray} {l : List S33} (hf : fitB (linesB a) l = true) (hb : applyB (linesB a) l = b.data.toList) :
    sizeOut (betw a b) + sizeIn (betw a b) ≤ sizeOut l + sizeIn l := by
  obtain ⟨h1, h2⟩ := betw_sizes a b
  have hl := lines_apply hf
  rw [hb, mkB_of] at hl
  obtain ⟨z, g1, g2, g3⟩ := kept_sub (x := linesB a) (l := l) (last := -1) (a := 0) hf (by omega) (by omega) (Nat.zero_le _)
  rw [List.drop_zero] at g1
  have hm := lcs_max (linesB a) (linesB b) z g1 (by rw [hl]; exact g2)
  have hn := linesFrom_length (x := linesB a) (l := l) (last := -1) (a := 0) hf (by omega) (by omega) (Nat.zero_le _)
  rw [← hl] at hn
  omega

/-! ### Within the statements' bound -/
theorem betw_some {a b : ByteArray} (ha : a.size ≤ 1000) (hb : b.size ≤ 1000) : edit_Between.f a b = some (betw a b, 0) := by
  unfold edit_Between.f
  have h1 := lines_length a
  have h2 := lines_length b
  have h3 : (linesB a).length * (linesB b).length ≤ 1000 * 1000 := Nat.mul_le_mul (by omega) (by omega)
  rw [if_pos ⟨by omega, by omega⟩, if_neg (by omega)]
  rfl
theorem betw_fits {a b : ByteArray} (ha : a.size ≤ 1000) (hb : b.size ≤ 1000) : Fits a (betw a b) := by
  have h1 := lines_length a
  have h2 := lines_length b
  obtain ⟨h3, h4⟩ := betw_small a b
  exact ⟨by omega, by omega, by omega⟩
end Go.Proofs.Ytmecmmpgkcileaa.Z
