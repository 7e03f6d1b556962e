/- Plain laws of places behind edits: cuts in order, the text behind them, where a place moves, where it came from, and what stays. -/
import Derived.Test.YtmecmmpgkcileaaPg0
import Derived.Test.YtmecmmpgkcileaaGKept
namespace Go.Proofs.Ytmecmmpgkcileaa.Z
open Go.RowKit Go.Proofs.YtmecmmpgkcileaaW.PrintWords

theorem splitL_ne {l : List UInt8} : ∀ u ∈ splitL l, u ≠ [] := by
  induction l with
  | nil => intro u hu; cases hu
  | cons c r ih =>
    intro u hu
    unfold splitL at hu
    split at hu
    · rcases List.mem_cons.1 hu with rfl | h
      · simp
      · exact ih u h
    · split at hu
      · rcases List.mem_cons.1 hu with rfl | h
        · simp
        · cases h
      · rename_i h t he
        rcases List.mem_cons.1 hu with rfl | h'
        · simp
        · exact ih u (by rw [he]; simp [h'])
theorem lines_pos (s : ByteArray) {k : Nat} (h : k < (linesB s).length) : 0 < ((linesB s)[k]).size := by
  have hm : (linesB s)[k] ∈ linesB s := List.getElem_mem h
  obtain ⟨u, hu, he⟩ := List.mem_map.1 hm
  rw [← he, mkB_size]
  exact List.length_pos_iff.2 (splitL_ne u hu)
theorem begB_lt (s : ByteArray) {i j : Nat} (h : i < j) (hj : j ≤ (linesB s).length) : begB (linesB s) i < begB (linesB s) j := by
  have h1 := begB_succ (linesB s) i (by omega)
  have h2 := lines_pos s (k := i) (by omega)
  have h3 := begB_mono (linesB s) (show i + 1 ≤ j by omega)
  omega
theorem begB_all (s : ByteArray) : begB (linesB s) (linesB s).length = s.size := by
  unfold begB
  rw [List.take_of_length_le (Nat.le_refl _), catL_linesB, size_toList]
theorem begB_le_size (s : ByteArray) (k : Nat) : begB (linesB s) k ≤ s.size := by
  have := begB_le (linesB s) k
  rw [catL_linesB, size_toList] at this
  exact this
theorem begB_zero (x : List ByteArray) : begB x 0 = 0 := by simp [begB, catL]

/-- Cuts of a text: in order, with their texts. -/
inductive Cuts (n : Nat) : Nat → List (Cut3 × List UInt8) → Prop
  | nil {a : Nat} : a ≤ n → Cuts n a []
  | cons {a : Nat} {c : Cut3} {u : List UInt8} {r : List (Cut3 × List UInt8)} : a ≤ c.from_ → u.length = c.put → c.to_ ≤ n → (∀ d ∈ r, c.to_ < d.1.from_) → Cuts n c.to_ r → Cuts n a ((c, u) :: r)

def withTexts (x : List ByteArray) (l : List S33) : List (Cut3 × List UInt8) := l.map fun e => (cutOf x e, e.f2.data.toList)
theorem withTexts_cuts (x : List ByteArray) (l : List S33) : (withTexts x l).map (·.1) = cutsB x l := by
  unfold withTexts cutsB; rw [List.map_map]; rfl

theorem cutOf_fit {s : ByteArray} {e : S33} (hs : s.size ≤ 1048576) (he : e.f2.size ≤ 1048576) (h : e.f0 ≤ e.f1) :
    (cutOf (linesB s) e).from_ = begB (linesB s) e.f0.toNat ∧ (cutOf (linesB s) e).to_ = begB (linesB s) e.f1.toNat ∧ (cutOf (linesB s) e).put = e.f2.size := by
  unfold cutOf
  rw [dif_pos ⟨begB_mono _ (by omega), by have := begB_le_size s e.f1.toNat; omega, he⟩]
  exact ⟨rfl, rfl, rfl⟩
theorem fit_later {x : List ByteArray} {l : List S33} : ∀ {last : Int}, fitFrom x last l = true → ∀ e ∈ l, last < e.f0 ∧ e.f0 ≤ e.f1 ∧ e.f1 ≤ (x.length : Int) := by
  induction l with
  | nil => intro _ _ e he; cases he
  | cons a r ih =>
    intro last h e he
    obtain ⟨h1, h2, h3, _, _, _, h7⟩ := fit_cons h
    rcases List.mem_cons.1 he with rfl | he
    · exact ⟨h1, h2, h3⟩
    · have := ih h7 e he; omega
theorem cuts_of_fit {s : ByteArray} (hs : s.size ≤ 1048576) {l : List S33} : ∀ {last : Int} {a : Nat}, fitFrom (linesB s) last l = true → -1 ≤ last → (a : Int) ≤ last + 1 → (∀ e ∈ l, e.f2.size ≤ 1048576) →
    Cuts s.size (begB (linesB s) a) (withTexts (linesB s) l) := by
  induction l with
  | nil => intro _ a _ _ _ _; exact .nil (begB_le_size s a)
  | cons e r ih =>
    intro last a h h0 ha ht
    obtain ⟨h1, h2, h3, _, _, _, h7⟩ := fit_cons h
    obtain ⟨c1, c2, c3⟩ := cutOf_fit hs (ht e (by simp)) h2
    have hr := ih (last := e.f1) (a := e.f1.toNat) h7 (by omega) (by omega) (fun d hd => ht d (by simp [hd]))
    refine Cuts.cons (by rw [c1]; exact begB_mono _ (by omega)) (by rw [c3, size_toList]) (by rw [c2]; exact begB_le_size s _) ?_ (by rw [c2]; exact hr)
    intro d hd
    obtain ⟨q, hq, rfl⟩ := List.mem_map.1 hd
    obtain ⟨q1, q2, q3⟩ := fit_later h7 q hq
    have := (cutOf_fit hs (ht q (by simp [hq])) q2).1
    show _ < (cutOf (linesB s) q).from_
    rw [this, c2]
    exact begB_lt s (by omega) (by omega)

/-- The text behind cuts, from a place on. -/
def apB (L : List UInt8) : Nat → List (Cut3 × List UInt8) → List UInt8
  | a, [] => L.drop a
  | a, (c, u) :: r => (L.take c.from_).drop a ++ u ++ apB L c.to_ r
theorem catL_take_beg (x : List ByteArray) (k : Nat) : catL (x.take k) = (catL x).take (begB x k) := by
  unfold begB
  conv => rhs; rw [← List.take_append_drop k x, catL_append]
  rw [List.take_append_of_le_length (by simp), List.take_append_drop, List.take_of_length_le (Nat.le_refl _)]
theorem catL_drop_beg (x : List ByteArray) (k : Nat) : catL (x.drop k) = (catL x).drop (begB x k) := by
  unfold begB
  conv => rhs; rw [← List.take_append_drop k x, catL_append]
  rw [List.take_append_drop, List.drop_append_of_le_length (Nat.le_refl _), List.drop_of_length_le (Nat.le_refl _), List.nil_append]
theorem catL_mid_beg (x : List ByteArray) {a b : Nat} (h : a ≤ b) : catL ((x.take b).drop a) = ((catL x).take (begB x b)).drop (begB x a) := by
  have h1 : begB (x.take b) a = begB x a := by unfold begB; rw [List.take_take, Nat.min_eq_left h]
  rw [catL_drop_beg, catL_take_beg, h1]
theorem applyFrom_ap {s : ByteArray} (hs : s.size ≤ 1048576) {l : List S33} : ∀ {last : Int} {a : Nat}, fitFrom (linesB s) last l = true → -1 ≤ last → (a : Int) ≤ last + 1 → (∀ e ∈ l, e.f2.size ≤ 1048576) →
    applyFrom (linesB s) a l = apB s.data.toList (begB (linesB s) a) (withTexts (linesB s) l) := by
  induction l with
  | nil => intro _ a _ _ _ _; show catL ((linesB s).drop a) = _; rw [catL_drop_beg, catL_linesB]; rfl
  | cons e r ih =>
    intro last a h h0 ha ht
    obtain ⟨h1, h2, h3, _, _, _, h7⟩ := fit_cons h
    obtain ⟨c1, c2, _⟩ := cutOf_fit hs (ht e (by simp)) h2
    have hr := ih (last := e.f1) (a := e.f1.toNat) h7 (by omega) (by omega) (fun d hd => ht d (by simp [hd]))
    show catL (((linesB s).take e.f0.toNat).drop a) ++ e.f2.data.toList ++ applyFrom (linesB s) e.f1.toNat r = (s.data.toList.take (cutOf (linesB s) e).from_).drop (begB (linesB s) a) ++ e.f2.data.toList ++ apB s.data.toList (cutOf (linesB s) e).to_ (withTexts (linesB s) r)
    rw [hr, c1, c2, catL_mid_beg _ (by omega), catL_linesB]

def gone : List (Cut3 × List UInt8) → Nat
  | [] => 0
  | (c, _) :: r => (c.to_ - c.from_) + gone r
def puts : List (Cut3 × List UInt8) → Nat
  | [] => 0
  | (c, _) :: r => c.put + puts r
def cs (l : List (Cut3 × List UInt8)) : List Cut3 := l.map (·.1)

theorem ap_length {L : List UInt8} {n : Nat} (hL : L.length = n) {a : Nat} {l : List (Cut3 × List UInt8)} (h : Cuts n a l) : (apB L a l).length + gone l = (n - a) + puts l ∧ a ≤ n := by
  induction h with
  | nil h => simp [apB, gone, puts, hL, h]
  | @cons a c u r h1 h2 h3 h4 _ ih =>
    have := c.ok
    simp only [apB, gone, puts, List.length_append, List.length_drop, List.length_take, hL, h2]
    omega

theorem mv_range {L : List UInt8} {n : Nat} (hL : L.length = n) {a : Nat} {l : List (Cut3 × List UInt8)} (h : Cuts n a l) : ∀ (more p : Int), (a : Int) ≤ p → p ≤ n →
    (a : Int) + more ≤ moveFrom (cs l) more p ∧ moveFrom (cs l) more p ≤ (a : Int) + more + ((apB L a l).length : Int) := by
  induction h with
  | nil h => intro more p h1 h2; simp only [cs, List.map_nil, moveFrom, apB, List.length_drop, hL]; omega
  | @cons a c u r h1 h2 h3 h4 hr ih =>
    intro more p hp hn
    have := c.ok
    simp only [cs, List.map_cons, moveFrom, apB, List.length_append, List.length_drop, List.length_take, hL, h2]
    split
    · omega
    · split
      · omega
      · have := ih (more + c.more) p (by omega) hn
        unfold Cut3.more at this ⊢
        simp only [cs] at this
        omega
theorem mv_mono {L : List UInt8} {n : Nat} (hL : L.length = n) {a : Nat} {l : List (Cut3 × List UInt8)} (h : Cuts n a l) : ∀ (more p q : Int), (a : Int) ≤ p → p ≤ q → q ≤ n → moveFrom (cs l) more p ≤ moveFrom (cs l) more q := by
  induction h with
  | nil h => intro more p q h1 h2 h3; simp only [cs, List.map_nil, moveFrom]; omega
  | @cons a c u r h1 h2 h3 h4 hr ih =>
    intro more p q hp hpq hn
    have := c.ok
    simp only [cs, List.map_cons, moveFrom]
    by_cases p1 : (c.from_ : Int) > p
    · rw [if_pos p1]
      by_cases q1 : (c.from_ : Int) > q
      · rw [if_pos q1]; omega
      · rw [if_neg q1]
        by_cases q2 : q < (c.to_ : Int)
        · rw [if_pos q2]; omega
        · rw [if_neg q2]
          have := (mv_range hL hr (more + c.more) q (by omega) hn).1
          unfold Cut3.more at this ⊢
          simp only [cs] at this
          omega
    · rw [if_neg p1, if_neg (by omega : ¬ (c.from_ : Int) > q)]
      by_cases p2 : p < (c.to_ : Int)
      · rw [if_pos p2]
        by_cases q2 : q < (c.to_ : Int)
        · rw [if_pos q2]; omega
        · rw [if_neg q2]
          have := (mv_range hL hr (more + c.more) q (by omega) hn).1
          unfold Cut3.more at this ⊢
          simp only [cs] at this
          omega
      · rw [if_neg p2, if_neg (by omega : ¬ q < (c.to_ : Int))]
        exact ih _ _ _ (by omega) hpq hn
/-- A place that stays. -/
def Stays (l : List (Cut3 × List UInt8)) (p : Nat) : Prop := ∀ d ∈ l, ¬ (d.1.from_ ≤ p ∧ p < d.1.to_)
theorem mv_kept {L : List UInt8} {n : Nat} (hL : L.length = n) {a : Nat} {l : List (Cut3 × List UInt8)} (h : Cuts n a l) : ∀ (more : Int) (p : Nat), a ≤ p → p < n → Stays l p →
    ∃ j : Nat, moveFrom (cs l) more p = (a : Int) + more + j ∧ j < (apB L a l).length ∧ (apB L a l)[j]? = L[p]? ∧ fromFrom (cs l) more ((a : Int) + more + j) = ((p : Int), true) := by
  induction h with
  | @nil a h =>
    intro more p h1 h2 _
    refine ⟨p - a, by simp only [cs, List.map_nil, moveFrom]; omega, by simp only [apB, List.length_drop, hL]; omega, ?_, ?_⟩
    · simp only [apB, List.getElem?_drop, show a + (p - a) = p by omega]
    · simp only [cs, List.map_nil, fromFrom, Prod.mk.injEq, and_true]; omega
  | @cons a c u r h1 h2 h3 h4 hr ih =>
    intro more p hp hn hst
    have hok := c.ok
    have hc := hst (c, u) (by simp)
    simp only at hc
    simp only [cs, List.map_cons, moveFrom, apB, fromFrom]
    have hl1 : ((L.take c.from_).drop a).length = c.from_ - a := by rw [List.length_drop, List.length_take, hL]; omega
    by_cases p1 : p < c.from_
    · refine ⟨p - a, ?_, ?_, ?_, ?_⟩
      · rw [if_pos (by omega)]; omega
      · rw [List.length_append, List.length_append, hl1]; omega
      · rw [List.append_assoc, List.getElem?_append_left (by rw [hl1]; omega), List.getElem?_drop, List.getElem?_take_of_lt (by omega), show a + (p - a) = p by omega]
      · rw [if_pos (by omega)]
        simp only [Prod.mk.injEq, and_true]; omega
    · obtain ⟨j, e1, e2, e3, e4⟩ := ih (more + c.more) p (by omega) hn (fun d hd => hst d (by simp [hd]))
      refine ⟨(c.from_ - a) + c.put + j, ?_, ?_, ?_, ?_⟩
      · rw [if_neg (by omega), if_neg (by omega)]
        simp only [cs] at e1
        rw [e1]
        unfold Cut3.more
        omega
      · rw [List.length_append, List.length_append, hl1, h2]; omega
      · rw [List.getElem?_append_right (by rw [List.length_append, hl1, h2]; omega), List.length_append, hl1, h2, show c.from_ - a + c.put + j - (c.from_ - a + c.put) = j by omega]
        exact e3
      · rw [if_neg (by omega), if_neg (by omega)]
        simp only [cs] at e4
        have e : (a : Int) + more + (((c.from_ - a) + c.put + j : Nat) : Int) = (c.to_ : Int) + (more + c.more) + j := by unfold Cut3.more; omega
        rw [e]
        exact e4

/-! ### what stays -/
theorem rd64 (l : List S64) (i : Nat) (h : i < l.length) : rd_T64 l (i : Int) = l[i] := by
  unfold rd_T64
  rw [List.getD_eq_getElem?_getD, Int.toNat_natCast, List.getElem?_eq_getElem h]
  rfl
theorem keepStep_nil (f t : Int) : keepStep [] f t = if f = t then [] else [⟨f, t⟩] := by
  unfold keepStep
  split
  · rfl
  · simp
theorem keepStep_snoc (ys : List S64) (e : S64) (f t : Int) : keepStep (ys ++ [e]) f t = if f = t then ys ++ [e] else if e.f1 = f then ys ++ [⟨e.f0, t⟩] else ys ++ [e] ++ [⟨f, t⟩] := by
  have hl : (ys ++ [e]).length - 1 = ys.length := by simp
  have hr : rd_T64 (ys ++ [e]) (((ys ++ [e]).length - 1 : Nat) : Int) = e := by
    rw [hl, rd64 _ _ (by simp)]; simp
  unfold keepStep
  rw [hr, hl]
  by_cases h1 : f = t
  · rw [if_pos h1, if_pos h1]
  · rw [if_neg h1, if_neg h1]
    by_cases h2 : e.f1 = f
    · rw [if_pos ⟨by simp, h2⟩, if_pos h2]; simp
    · rw [if_neg (fun h => h2 h.2), if_neg h2]
def total : List S64 → Int
  | [] => 0
  | e :: r => (e.f1 - e.f0) + total r
theorem total_append (a b : List S64) : total (a ++ b) = total a + total b := by
  induction a with
  | nil => simp [total]
  | cons e r ih => simp only [List.cons_append, total, ih]; omega
/-- Ranges that rise, up to a place. -/
structure Rising (xs : List S64) (a : Int) : Prop where
  each : ∀ e ∈ xs, 0 ≤ e.f0 ∧ e.f0 < e.f1 ∧ e.f1 ≤ a
  rise : xs.Pairwise fun e d => e.f1 < d.f0
def In (xs : List S64) (p : Int) : Prop := ∃ e ∈ xs, e.f0 ≤ p ∧ p < e.f1
theorem Rising.up {xs : List S64} {a b : Int} (h : Rising xs a) (hab : a ≤ b) : Rising xs b := ⟨fun e he => by have := h.each e he; omega, h.rise⟩
theorem snoc_cases {α : Type} (l : List α) : l = [] ∨ ∃ ys e, l = ys ++ [e] := by
  rcases List.eq_nil_or_concat l with h | ⟨ys, e, h⟩
  · exact .inl h
  · exact .inr ⟨ys, e, by simpa using h⟩
theorem keepStep_spec {xs : List S64} {f t : Int} (h : Rising xs f) (h0 : 0 ≤ f) (hft : f ≤ t) :
    Rising (keepStep xs f t) t ∧ total (keepStep xs f t) = total xs + (t - f) ∧ ∀ p, In (keepStep xs f t) p → In xs p ∨ (f ≤ p ∧ p < t) := by
  by_cases e : f = t
  · have : keepStep xs f t = xs := by unfold keepStep; rw [if_pos e]
    rw [this]
    exact ⟨h.up hft, by omega, fun p hp => .inl hp⟩
  · rcases snoc_cases xs with rfl | ⟨ys, d, rfl⟩
    · rw [keepStep_nil, if_neg e]
      refine ⟨⟨fun d hd => ?_, by simp⟩, by simp [total], ?_⟩
      · obtain rfl := List.mem_singleton.1 hd; exact ⟨h0, by simp only; omega, Int.le_refl _⟩
      · rintro p ⟨d, hd, h1⟩
        obtain rfl := List.mem_singleton.1 hd
        exact .inr h1
    · have hd := h.each d (by simp)
      have hp := List.pairwise_append.1 h.rise
      rw [keepStep_snoc, if_neg e]
      by_cases e2 : d.f1 = f
      · rw [if_pos e2]
        refine ⟨⟨fun q hq => ?_, ?_⟩, ?_, ?_⟩
        · rcases List.mem_append.1 hq with hq | hq
          · have := h.each q (by simp [hq]); omega
          · obtain rfl := List.mem_singleton.1 hq; simp only; omega
        · refine List.pairwise_append.2 ⟨hp.1, by simp, fun q hq r hr => ?_⟩
          obtain rfl := List.mem_singleton.1 hr
          exact hp.2.2 q hq d (by simp)
        · rw [total_append, total_append]; simp only [total]; omega
        · rintro p ⟨q, hq, h1⟩
          rcases List.mem_append.1 hq with hq | hq
          · exact .inl ⟨q, by simp [hq], h1⟩
          · obtain rfl := List.mem_singleton.1 hq
            simp only at h1
            rcases Int.lt_or_le p f with hlt | hge
            · exact .inl ⟨d, by simp, by omega⟩
            · exact .inr ⟨hge, h1.2⟩
      · rw [if_neg e2]
        refine ⟨⟨fun q hq => ?_, ?_⟩, ?_, ?_⟩
        · rcases List.mem_append.1 hq with hq | hq
          · have := h.each q hq; omega
          · obtain rfl := List.mem_singleton.1 hq; simp only; omega
        · refine List.pairwise_append.2 ⟨h.rise, by simp, fun q hq r hr => ?_⟩
          obtain rfl := List.mem_singleton.1 hr
          simp only
          rcases List.mem_append.1 hq with hq | hq
          · have := hp.2.2 q hq d (by simp); omega
          · obtain rfl := List.mem_singleton.1 hq; omega
        · rw [total_append]; simp only [total]; omega
        · rintro p ⟨q, hq, h1⟩
          rcases List.mem_append.1 hq with hq | hq
          · exact .inl ⟨q, hq, h1⟩
          · obtain rfl := List.mem_singleton.1 hq
            exact .inr h1
theorem kept_spec {n : Nat} {a : Nat} {l : List (Cut3 × List UInt8)} (h : Cuts n a l) : ∀ xs : List S64, Rising xs a →
    Rising (keepStep ((cs l).foldl keepCut (xs, (a : Int))).1 ((cs l).foldl keepCut (xs, (a : Int))).2 n) n ∧
    total (keepStep ((cs l).foldl keepCut (xs, (a : Int))).1 ((cs l).foldl keepCut (xs, (a : Int))).2 n) + gone l = total xs + ((n : Int) - a) ∧
    ∀ p : Nat, In (keepStep ((cs l).foldl keepCut (xs, (a : Int))).1 ((cs l).foldl keepCut (xs, (a : Int))).2 n) p → In xs p ∨ (a ≤ p ∧ p < n ∧ Stays l p) := by
  induction h with
  | nil h =>
    intro xs hx
    obtain ⟨h1, h2, h3⟩ := keepStep_spec hx (by omega) (show (_ : Int) ≤ (n : Int) by omega)
    simp only [cs, List.map_nil, List.foldl_nil, gone]
    refine ⟨h1, by omega, fun p hp => ?_⟩
    rcases h3 p hp with h | h
    · exact .inl h
    · exact .inr ⟨by omega, by omega, fun d hd => by cases hd⟩
  | @cons a c u r h1 h2 h3 h4 hr ih =>
    intro xs hx
    have hok := c.ok
    obtain ⟨k1, k2, k3⟩ := keepStep_spec hx (by omega) (show (a : Int) ≤ (c.from_ : Int) by omega)
    obtain ⟨i1, i2, i3⟩ := ih (keepStep xs a c.from_) (k1.up (by omega))
    have ef : (cs ((c, u) :: r)).foldl keepCut (xs, (a : Int)) = (cs r).foldl keepCut (keepStep xs a c.from_, (c.to_ : Int)) := rfl
    rw [ef]
    refine ⟨i1, by simp only [gone]; omega, fun p hp => ?_⟩
    rcases i3 p hp with h | ⟨ha, hb, hc⟩
    · rcases k3 p h with h | h
      · exact .inl h
      · refine .inr ⟨by omega, by omega, fun d hd => ?_⟩
        rcases List.mem_cons.1 hd with rfl | hd
        · simp only; omega
        · have := h4 d hd; omega
    · refine .inr ⟨by omega, hb, fun d hd => ?_⟩
      rcases List.mem_cons.1 hd with rfl | hd
      · simp only; omega
      · exact hc d hd
end Go.Proofs.Ytmecmmpgkcileaa.Z
