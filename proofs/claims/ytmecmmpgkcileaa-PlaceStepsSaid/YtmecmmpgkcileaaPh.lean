/- Plain laws of lines and columns of places: what both chapter-20 programs come to, and that they undo one another. -/
import Derived.Test.YtmecmmpgkcileaaPe
import Derived.Test.YtmecmmpgkcileaaZ26
namespace Go.Proofs.Ytmecmmpgkcileaa.Z
open Go.RowKit Go.Proofs.YtmecmmpgkcileaaW.PrintWords

def colOf (l : List UInt8) : Nat := l.foldl (fun n c => if c = 10 then 0 else n + 1) 0
def cnt (s : ByteArray) (k : Nat) : Nat := (s.data.toList.take k).count 10
def col (s : ByteArray) (k : Nat) : Nat := colOf (s.data.toList.take k)
def isNl (s : ByteArray) (k : Nat) : Prop := s.data.toList[k]? = some 10

theorem take_step (s : ByteArray) {k : Nat} (h : k < s.size) : ∃ c, s.data.toList[k]? = some c ∧ s.data.toList.take (k + 1) = s.data.toList.take k ++ [c] ∧ bt s (k : Int) = (c.toNat : Int) := by
  have hk : k < s.data.toList.length := by rw [size_toList]; exact h
  exact ⟨s.data.toList[k], List.getElem?_eq_getElem hk, List.take_succ_eq_append_getElem hk, bt_at s k hk⟩
theorem step_nl {s : ByteArray} {k : Nat} (h : isNl s k) : cnt s (k + 1) = cnt s k + 1 ∧ col s (k + 1) = 0 ∧ k < s.size := by
  have hk : k < s.size := by rw [← size_toList]; exact (List.getElem?_eq_some_iff.1 h).1
  obtain ⟨c, hc, ht, _⟩ := take_step s hk
  have : c = 10 := by have := hc.symm.trans h; exact Option.some.inj this
  subst this
  unfold cnt col colOf
  rw [ht, List.count_append, List.foldl_append]
  simp [hk]
theorem step_no {s : ByteArray} {k : Nat} (h : ¬ isNl s k) (hk : k < s.size) : cnt s (k + 1) = cnt s k ∧ col s (k + 1) = col s k + 1 := by
  obtain ⟨c, hc, ht, _⟩ := take_step s hk
  have hne : ¬ c = 10 := by rintro rfl; exact h hc
  unfold cnt col colOf
  rw [ht, List.count_append, List.foldl_append]
  simp [hne]
theorem cnt_zero (s : ByteArray) : cnt s 0 = 0 := by simp [cnt]
theorem col_zero (s : ByteArray) : col s 0 = 0 := by simp [col, colOf]
theorem cnt_mono (s : ByteArray) {j k : Nat} (h : j ≤ k) (hk : k ≤ s.size) : cnt s j ≤ cnt s k := by
  induction h with
  | refl => exact Nat.le_refl _
  | step _ ih =>
    rename_i m _
    have := ih (by omega)
    by_cases hn : isNl s m
    · have := step_nl hn; simp only [Nat.succ_eq_add_one] at *; omega
    · have := step_no hn (by simp only [Nat.succ_eq_add_one] at hk; omega); simp only [Nat.succ_eq_add_one] at *; omega
theorem no_nl {s : ByteArray} {j k : Nat} (h : j ≤ k) (hk : k ≤ s.size) (hn : ∀ i, j ≤ i → i < k → ¬ isNl s i) : cnt s k = cnt s j ∧ col s k = col s j + (k - j) := by
  induction h with
  | refl => simp
  | step hle ih =>
    rename_i m
    have := ih (by omega) (fun i h1 h2 => hn i h1 (by omega))
    have := step_no (hn m hle (by omega)) (by omega)
    simp only [Nat.succ_eq_add_one] at *
    have : j ≤ m := hle
    omega
theorem same_cnt {s : ByteArray} {j k : Nat} (h : j ≤ k) (hk : k ≤ s.size) (he : cnt s k = cnt s j) : col s k = col s j + (k - j) := by
  refine (no_nl h hk fun i h1 h2 hi => ?_).2
  have := step_nl hi
  have := cnt_mono s h1 (by omega)
  have := cnt_mono s (show i + 1 ≤ k by omega) hk
  omega
theorem place_unique {s : ByteArray} {j k : Nat} (hj : j ≤ s.size) (hk : k ≤ s.size) (h1 : cnt s j = cnt s k) (h2 : col s j = col s k) : j = k := by
  rcases Nat.lt_trichotomy j k with h | h | h
  · have := same_cnt (Nat.le_of_lt h) hk h1.symm; omega
  · exact h
  · have := same_cnt (Nat.le_of_lt h) hj h1; omega
theorem cnt_le (s : ByteArray) (k : Nat) : cnt s k ≤ k := by
  unfold cnt
  exact Nat.le_trans List.count_le_length (by rw [List.length_take]; omega)
theorem col_le (s : ByteArray) {k : Nat} (hk : k ≤ s.size) : col s k ≤ k := by
  induction k with
  | zero => rw [col_zero]; exact Nat.le_refl _
  | succ k ih =>
    have := ih (by omega)
    by_cases hn : isNl s k
    · have := step_nl hn; omega
    · have := step_no hn (by omega); omega
theorem nl_iff {s : ByteArray} {k : Nat} (h : k < s.size) : bt s (k : Int) = 10 ↔ isNl s k := by
  obtain ⟨c, hc, _, hb⟩ := take_step s h
  rw [hb]
  unfold isNl
  rw [hc]
  constructor
  · intro e
    have : c.toNat = 10 := by omega
    rw [UInt8.toNat_inj.1 (show c.toNat = (10 : UInt8).toNat from this)]
  · intro e
    cases e
    rfl

/-! ### Of -/
theorem refOf_l0 (s : ByteArray) (hs : s.size ≤ 4611686018427387904) (n : Nat) (hn : n ≤ s.size) (d : Nat) :
    ∀ i : Nat, i + d = n → Evs (fun k => regletref20_Of.l0 k s (n : Int) (cnt s i : Int) (col s i : Int) (i : Int)) ((cnt s n : Int), (col s n : Int), 0) := by
  induction d with
  | zero =>
    intro i hi
    refine Evs.succ (Evs.congr (fun k => ?_) (Evs.ret _))
    simp only [regletref20_Of.l0]
    rw [if_neg (by omega)]
    have : i = n := by omega
    subst this
    rfl
  | succ d ih =>
    intro i hi
    have hlt : i < s.size := by omega
    refine Evs.succ (Evs.congr (fun k => ?_) (ih (i + 1) (by omega)))
    simp only [regletref20_Of.l0]
    rw [if_pos (by omega), if_pos (by omega), if_pos (by omega), wrap_succ i (by omega)]
    have h1 := cnt_le s i
    have h2 := col_le s (k := i) (by omega)
    by_cases hnl : isNl s i
    · obtain ⟨e1, e2, _⟩ := step_nl hnl
      rw [if_pos ((nl_iff hlt).2 hnl), wrap_succ _ (by omega), e1, e2]
      rfl
    · obtain ⟨e1, e2⟩ := step_no hnl hlt
      rw [if_neg (fun e => hnl ((nl_iff hlt).1 e)), wrap_succ _ (by omega), e1, e2]
def ofR (s : ByteArray) (p : Int) : Int × Int × Int := if p < 0 ∨ (s.size : Int) < p then (0, 0, 2) else ((cnt s p.toNat : Int), (col s p.toNat : Int), 0)
theorem refOf (s : ByteArray) (hs : s.size ≤ 4611686018427387904) (p : Int) : Evs (fun k => regletref20_Of.f k s p) (ofR s p) := by
  unfold regletref20_Of.f ofR
  by_cases h1 : p < 0
  · simp only [if_pos h1, if_pos (Or.inl h1 : p < 0 ∨ (s.size : Int) < p)]
    refine Evs.succ (Evs.congr (fun k => ?_) (Evs.ret _))
    simp [regletref20_Of.j0]
  · simp only [if_neg h1]
    by_cases h2 : (s.size : Int) < p
    · simp only [if_pos (Or.inr h2 : p < 0 ∨ (s.size : Int) < p)]
      refine Evs.succ (Evs.congr (fun k => ?_) (Evs.ret _))
      simp [regletref20_Of.j0, h2]
    · simp only [if_neg (show ¬ (p < 0 ∨ (s.size : Int) < p) by omega)]
      obtain ⟨n, rfl⟩ := Int.eq_ofNat_of_zero_le (show 0 ≤ p by omega)
      have := refOf_l0 s hs n (by omega) n 0 (by omega)
      rw [cnt_zero, col_zero] at this
      refine Evs.succ (Evs.congr (fun k => ?_) this)
      simp only [regletref20_Of.j0]
      rw [if_neg (by simpa using h2)]
      rfl
theorem lastIdx_col (s : ByteArray) : ∀ k : Nat, k ≤ s.size → (k : Int) - Lib.lastIdx s 10 k - 1 = (col s k : Int)
  | 0, _ => by rw [col_zero]; unfold Lib.lastIdx; rfl
  | k + 1, h => by
    have ih := lastIdx_col s k (by omega)
    have hk : k < s.data.toList.length := by rw [size_toList]; omega
    have he : ((s.data[k]!).toNat : Int) = bt s (k : Int) := by
      rw [bt_at s k hk]
      have : s.data[k]! = s.data.toList[k] := by
        rw [getElem!_pos s.data k (by simpa using hk)]; simp
      rw [this]
    unfold Lib.lastIdx
    rw [he]
    by_cases hn : isNl s k
    · rw [if_pos ((nl_iff (by omega)).2 hn), (step_nl hn).2.1]; omega
    · rw [if_neg (fun e => hn ((nl_iff (by omega)).1 e)), (step_no hn (by omega)).2]; omega
theorem lastIdx_bounds (s : ByteArray) (k : Nat) : -1 ≤ Lib.lastIdx s 10 k ∧ Lib.lastIdx s 10 k < (k : Int) := by
  rcases Lib.lastIdx_spec s 10 k with ⟨h, _⟩ | ⟨i, h1, h2, _⟩ <;> omega
theorem cnt_extract (s : ByteArray) (n : Nat) (h : n ≤ s.size) : (s.extract 0 n).size = n ∧ col (s.extract 0 n) n = col s n ∧ Lib.countByte (s.extract 0 n).data.toList 10 = cnt s n := by
  have he : (s.extract 0 n).data.toList = s.data.toList.take n := by rw [extract_list, List.drop_zero]
  refine ⟨by rw [ByteArray.size_extract]; omega, ?_, ?_⟩
  · unfold col; rw [he, List.take_take, Nat.min_self]
  · unfold Lib.countByte cnt; rw [he]
theorem placeOf (s : ByteArray) (hs : s.size < 4611686018427387904) (p : Int) : Evs (fun k => place_Of.f k s p) (ofR s p) := by
  unfold place_Of.f ofR
  by_cases h1 : p < 0
  · simp only [if_pos h1, if_pos (Or.inl h1 : p < 0 ∨ (s.size : Int) < p)]
    refine Evs.succ (Evs.congr (fun k => ?_) (Evs.ret _))
    simp [place_Of.j0]
  · simp only [if_neg h1]
    by_cases h2 : (s.size : Int) < p
    · simp only [if_pos (Or.inr h2 : p < 0 ∨ (s.size : Int) < p)]
      refine Evs.succ (Evs.congr (fun k => ?_) (Evs.ret _))
      simp [place_Of.j0, h2]
    · simp only [if_neg (show ¬ (p < 0 ∨ (s.size : Int) < p) by omega)]
      obtain ⟨n, rfl⟩ := Int.eq_ofNat_of_zero_le (show 0 ≤ p by omega)
      refine Evs.succ (Evs.congr (fun k => ?_) (Evs.ret _))
      simp only [place_Of.j0]
      rw [if_neg (by simpa using h2), if_pos (by omega), if_pos (by omega)]
      obtain ⟨e1, e2, e3⟩ := cnt_extract s n (by omega)
      simp only [Int.toNat_natCast]
      have hc : strings_Count.f (s.extract 0 n) ⟨#[10]⟩ = some ((cnt s n : Nat) : Int) := by
        unfold strings_Count.f; rw [if_pos rfl, e3]
      have hl : strings_LastIndexByte.f (s.extract 0 n) 10 = some (Lib.lastIdx (s.extract 0 n) 10 n) := by
        unfold strings_LastIndexByte.f; rw [if_pos (by omega)]; unfold Lib.lastIndexByte; rw [e1]
      rw [hc, hl]
      simp only [Option.bind_some]
      have hb := lastIdx_bounds (s.extract 0 n) n
      have hcol := lastIdx_col (s.extract 0 n) n (by omega)
      rw [e2] at hcol
      have w1 : wrap64 ((n : Int) - Lib.lastIdx (s.extract 0 n) 10 n) = (n : Int) - Lib.lastIdx (s.extract 0 n) 10 n := by unfold wrap64; omega
      have w2 : wrap64 ((n : Int) - Lib.lastIdx (s.extract 0 n) 10 n - 1) = (n : Int) - Lib.lastIdx (s.extract 0 n) 10 n - 1 := by unfold wrap64; omega
      rw [w1, w2, hcol]

/-! ### At -/
/-- The place of a line and column. -/
def Is (s : ByteArray) (line column : Int) (p : Nat) : Prop := p ≤ s.size ∧ (cnt s p : Int) = line ∧ (col s p : Int) = column
/-- An answer for a line and column. -/
def AtR (s : ByteArray) (line column : Int) (r : Int × Int) : Prop := (∃ p : Nat, Is s line column p ∧ r = ((p : Int), 0)) ∨ ((∀ p, ¬ Is s line column p) ∧ r = (0, 2))
theorem AtR.same {s : ByteArray} {line column : Int} {r t : Int × Int} (h : AtR s line column r) (k : AtR s line column t) : r = t := by
  rcases h with ⟨p, hp, rfl⟩ | ⟨hp, rfl⟩ <;> rcases k with ⟨q, hq, rfl⟩ | ⟨hq, rfl⟩
  · rw [place_unique hp.1 hq.1 (by have := hp.2.1; have := hq.2.1; omega) (by have := hp.2.2; have := hq.2.2; omega)]
  · exact absurd hp (hq p)
  · exact absurd hq (hp q)
  · rfl
theorem refAt_l0 (s : ByteArray) (hs : s.size < 4611686018427387904) (line column : Int) (d : Nat) :
    ∀ i : Nat, i + d = s.size + 1 → (∀ p, p < i → ¬ Is s line column p) → ∃ r, Evs (fun k => regletref20_At.l0 k s line column (i : Int)) r ∧ AtR s line column r := by
  induction d with
  | zero =>
    intro i hi hno
    refine ⟨(0, 2), Evs.succ (Evs.congr (fun k => ?_) (Evs.ret _)), .inr ⟨fun p hp => hno p (by have := hp.1; omega) hp, rfl⟩⟩
    simp only [regletref20_At.l0]
    rw [if_neg (by omega)]
  | succ d ih =>
    intro i hi hno
    have hof := refOf s (by omega) (i : Int)
    have ho : ofR s (i : Int) = ((cnt s i : Int), (col s i : Int), 0) := by unfold ofR; rw [if_neg (by omega), Int.toNat_natCast]
    rw [ho] at hof
    have c1 : (i : Int) ≤ (s.size : Int) := by omega
    by_cases hp : Is s line column i
    · refine ⟨((i : Int), 0), Evs.succ ?_, .inl ⟨i, hp, rfl⟩⟩
      simp only [regletref20_At.l0, if_pos c1]
      refine Evs.bind hof ?_
      simp only [if_pos hp.2.1, if_pos hp.2.2]
      exact Evs.ret _
    · obtain ⟨r, hr, hR⟩ := ih (i + 1) (by omega) (fun p h => by
        by_cases e : p = i
        · subst e; exact hp
        · exact hno p (by omega))
      refine ⟨r, Evs.succ ?_, hR⟩
      simp only [regletref20_At.l0, if_pos c1]
      refine Evs.bind hof ?_
      rw [wrap_succ i (by omega)]
      by_cases h1 : (cnt s i : Int) = line
      · have h2 : ¬ (col s i : Int) = column := fun e => hp ⟨by omega, h1, e⟩
        simp only [if_pos h1, if_neg h2]
        exact hr
      · simp only [if_neg h1]
        exact hr
theorem refAt (s : ByteArray) (hs : s.size < 4611686018427387904) (line column : Int) : ∃ r, Evs (fun k => regletref20_At.f k s line column) r ∧ AtR s line column r :=
  refAt_l0 s hs line column (s.size + 1) 0 (by omega) (fun p h => by omega)
theorem drop_list (s : ByteArray) (a : Nat) : (s.extract a s.size).data.toList = s.data.toList.drop a := by
  rw [extract_list, List.take_of_length_le (Nat.le_of_eq (size_toList s))]
theorem idx_none {s : ByteArray} {a : Nat} (h : Lib.indexByte (s.data.toList.drop a) 10 < 0) : ∀ i, a ≤ i → ¬ isNl s i := by
  intro i hi hn
  have hge := Lib.indexByte_ge (s.data.toList.drop a) 10
  have := indexByte_none (show Lib.indexByte (s.data.toList.drop a) 10 = -1 by omega)
  apply this
  have : (s.data.toList.drop a)[i - a]? = some 10 := by rw [List.getElem?_drop, show a + (i - a) = i by omega]; exact hn
  exact List.mem_of_getElem? this
theorem idx_some {s : ByteArray} {a : Nat} (h : ¬ Lib.indexByte (s.data.toList.drop a) 10 < 0) : ∃ j : Nat, Lib.indexByte (s.data.toList.drop a) 10 = j ∧ isNl s (a + j) ∧ ∀ i, a ≤ i → i < a + j → ¬ isNl s i := by
  obtain ⟨j, hj⟩ := Int.eq_ofNat_of_zero_le (show 0 ≤ Lib.indexByte (s.data.toList.drop a) 10 by omega)
  obtain ⟨h1, h2, h3⟩ := indexByte_some hj
  refine ⟨j, hj, by rw [List.getElem?_drop] at h2; exact h2, fun i ha hi hn => h3 ?_⟩
  have : ((s.data.toList.drop a).take j)[i - a]? = some 10 := by
    rw [List.getElem?_take_of_lt (by omega), List.getElem?_drop, show a + (i - a) = i by omega]; exact hn
  exact List.mem_of_getElem? this
theorem placeAt_l0 (s : ByteArray) (hs : s.size < 4611686018427387904) (line column : Nat) (d : Nat) :
    ∀ a : Nat, a + d = s.size → cnt s a ≤ line → col s a = 0 → ∃ r, Evs (fun k => place_At.l0 k s (column : Int) (a : Int) (line : Int) (cnt s a : Int)) r ∧ AtR s line column r := by
  induction d using Nat.strongRecOn with
  | _ d ih =>
    intro a ha hc h0
    have hca := cnt_le s a
    have c1 : (0 : Int) ≤ (a : Int) := by omega
    have c2 : (a : Int) ≤ (s.size : Int) := by omega
    have hx : ∀ k, place_At.l0 (k + 1) s (column : Int) (a : Int) (line : Int) (cnt s a : Int) =
        (if (cnt s a : Int) < (line : Int) then (if Lib.indexByte (s.data.toList.drop a) 10 < 0 then some (0, 2) else place_At.l0 k s (column : Int) (wrap64 ((a : Int) + (wrap64 (Lib.indexByte (s.data.toList.drop a) 10 + 1)))) (line : Int) (wrap64 ((cnt s a : Int) + 1)))
         else if Lib.indexByte (s.data.toList.drop a) 10 < 0 then (if (column : Int) > wrap64 ((s.size : Int) - (a : Int)) then some (0, 2) else some (wrap64 ((a : Int) + (column : Int)), 0))
         else if (column : Int) > Lib.indexByte (s.data.toList.drop a) 10 then some (0, 2) else some (wrap64 ((a : Int) + (column : Int)), 0)) := by
      intro k
      have e : strings_IndexByte.f (s.extract a s.size) 10 = some (Lib.indexByte (s.data.toList.drop a) 10) := by
        unfold strings_IndexByte.f; rw [drop_list]; rfl
      simp only [place_At.l0, if_pos c1, if_pos c2, Int.toNat_natCast, e, Option.bind_some]
    by_cases hlt : (cnt s a : Int) < (line : Int)
    · by_cases hn : Lib.indexByte (s.data.toList.drop a) 10 < 0
      · refine ⟨(0, 2), Evs.succ (Evs.congr (fun k => by rw [hx k, if_pos hlt, if_pos hn]) (Evs.ret _)), .inr ⟨?_, rfl⟩⟩
        rintro p ⟨hp, hp1, hp2⟩
        have h1 := (no_nl (s := s) (j := a) (k := s.size) (by omega) (Nat.le_refl _) (fun i h1 _ => idx_none hn i h1)).1
        have := cnt_mono s hp (Nat.le_refl _)
        omega
      · obtain ⟨j, hj, hnl, hno⟩ := idx_some hn
        obtain ⟨e1, e2, e3⟩ := step_nl hnl
        have e4 := (no_nl (s := s) (j := a) (k := a + j) (by omega) (by omega) (fun i h1 h2 => hno i h1 h2)).1
        obtain ⟨r, hr, hR⟩ := ih (s.size - (a + j + 1)) (by omega) (a + j + 1) (by omega) (by omega) e2
        refine ⟨r, Evs.succ (Evs.congr (fun k => ?_) hr), hR⟩
        rw [hx k, if_pos hlt, if_neg hn, hj, wrap_succ j (by omega), wrap_succ (cnt s a) (by omega)]
        have w : wrap64 ((a : Int) + ((j + 1 : Nat) : Int)) = ((a + j + 1 : Nat) : Int) := by unfold wrap64; omega
        rw [w, e1, e4]
    · have hcl : cnt s a = line := by omega
      have huse : ∀ long : Nat, a + long ≤ s.size → (∀ i, a ≤ i → i < a + long → ¬ isNl s i) → (a + long = s.size ∨ isNl s (a + long)) →
          ∃ r, (if (column : Int) > (long : Int) then some (0, 2) else some (wrap64 ((a : Int) + (column : Int)), 0)) = some r ∧ AtR s line column r := by
        intro long hle hno hend
        by_cases hc2 : (column : Int) > (long : Int)
        · refine ⟨(0, 2), by rw [if_pos hc2], .inr ⟨?_, rfl⟩⟩
          rintro p ⟨hp, hp1, hp2⟩
          have hpc : cnt s p = cnt s a := by omega
          rcases Nat.lt_or_ge p a with h | h
          · have := same_cnt (Nat.le_of_lt h) (by omega) hpc.symm; omega
          · have h2 := same_cnt h hp hpc
            rcases hend with e | e
            · omega
            · have h3 := step_nl e
              have h4 : a + long < p := by omega
              have := cnt_mono s (show a + long + 1 ≤ p by omega) hp
              have := (no_nl (s := s) (j := a) (k := a + long) (by omega) (by omega) hno).1
              omega
        · have hb := no_nl (s := s) (j := a) (k := a + column) (by omega) (by omega) (fun i h1 h2 => hno i h1 (by omega))
          have w : wrap64 ((a : Int) + (column : Int)) = ((a + column : Nat) : Int) := by unfold wrap64; omega
          refine ⟨_, by rw [if_neg hc2, w], .inl ⟨a + column, ⟨by omega, by omega, by omega⟩, rfl⟩⟩
      by_cases hn : Lib.indexByte (s.data.toList.drop a) 10 < 0
      · obtain ⟨r, hr, hR⟩ := huse (s.size - a) (by omega) (fun i h1 _ => idx_none hn i h1) (.inl (by omega))
        refine ⟨r, Evs.succ (Evs.congr (fun k => ?_) (Evs.ret r)), hR⟩
        have w : wrap64 ((s.size : Int) - (a : Int)) = ((s.size - a : Nat) : Int) := by unfold wrap64; omega
        rw [hx k, if_neg hlt, if_pos hn, w, hr]
      · obtain ⟨j, hj, hnl, hno⟩ := idx_some hn
        have e3 := (step_nl hnl).2.2
        obtain ⟨r, hr, hR⟩ := huse j (by omega) hno (.inr hnl)
        refine ⟨r, Evs.succ (Evs.congr (fun k => ?_) (Evs.ret r)), hR⟩
        rw [hx k, if_neg hlt, if_neg hn, hj, hr]
theorem placeAt (s : ByteArray) (hs : s.size < 4611686018427387904) (line column : Int) : ∃ r, Evs (fun k => place_At.f k s line column) r ∧ AtR s line column r := by
  by_cases h1 : line < 0
  · refine ⟨(0, 2), ?_, .inr ⟨fun p hp => by have := hp.2.1; omega, rfl⟩⟩
    simp only [place_At.f, if_pos h1]
    refine Evs.succ (Evs.congr (fun k => ?_) (Evs.ret _))
    simp [place_At.j0]
  · by_cases h2 : column < 0
    · refine ⟨(0, 2), ?_, .inr ⟨fun p hp => by have := hp.2.2; omega, rfl⟩⟩
      simp only [place_At.f, if_neg h1]
      refine Evs.succ (Evs.congr (fun k => ?_) (Evs.ret _))
      simp [place_At.j0, h2]
    · obtain ⟨n, rfl⟩ := Int.eq_ofNat_of_zero_le (show 0 ≤ line by omega)
      obtain ⟨m, rfl⟩ := Int.eq_ofNat_of_zero_le (show 0 ≤ column by omega)
      obtain ⟨r, hr, hR⟩ := placeAt_l0 s hs n m s.size 0 (by omega) (by rw [cnt_zero]; omega) (col_zero s)
      refine ⟨r, ?_, hR⟩
      simp only [place_At.f, if_neg h1]
      rw [cnt_zero] at hr
      refine Evs.succ (Evs.congr (fun k => ?_) hr)
      simp only [place_At.j0]
      rw [if_neg (by simp)]
      rfl
end Go.Proofs.Ytmecmmpgkcileaa.Z
