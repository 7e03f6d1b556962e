/- Plain laws of whether edits fit: what the two programs' tests come to. -/
import Derived.Test.YtmecmmpgkcileaaZ7
import Derived.Test.YtmecmmpgkcileaaPl
namespace Go.Proofs.Ytmecmmpgkcileaa.Z
open Go.RowKit Go.Proofs.YtmecmmpgkcileaaW.PrintWords

/-- Does a text end with a byte 10, or is it empty? -/
def wholeL (l : List UInt8) : Bool := match l.getLast? with
  | none => true
  | some c => c == 10
def wholeB (s : ByteArray) : Bool := wholeL s.data.toList

theorem extract_last (s : ByteArray) (h : 0 < s.size) : (s.extract (s.size - 1) s.size).data.toList = [s.data.toList.getLast (by intro e; rw [← size_toList, e] at h; simp at h)] := by
  rw [extract_list, List.take_of_length_le (Nat.le_of_eq (size_toList s))]
  have h0 : s.data.toList ≠ [] := by intro e; rw [← size_toList, e] at h; simp at h
  conv => lhs; rw [← List.dropLast_concat_getLast h0]
  rw [List.drop_append_of_le_length (by simp)]
  rw [List.drop_of_length_le (by simp)]
  rfl

theorem wrap_pred (n : Nat) (h : 0 < n) (hn : n ≤ 9223372036854775807) : wrap64 ((n : Int) - 1) = ((n - 1 : Nat) : Int) := by
  unfold wrap64; omega
theorem wrap_succ (i : Nat) (hi : i < 9223372036854775807) : wrap64 ((i : Int) + 1) = ((i + 1 : Nat) : Int) := by
  unfold wrap64; omega

theorem whole_some (s : ByteArray) (hs : s.size ≤ 9223372036854775807) : edit_whole.f s = some (wholeB s) := by
  unfold edit_whole.f
  rw [Lib.toList_data]
  by_cases h : s.data.toList = []
  · rw [if_pos h]; simp [wholeB, wholeL, h]
  · rw [if_neg h]
    have h0 : 0 < s.size := by rw [← size_toList]; exact List.length_pos_iff.2 h
    unfold strings_HasSuffix.f stringslite_HasSuffix.f
    have e1 : ((⟨#[10]⟩ : ByteArray).size : Int) = ((1 : Nat) : Int) := rfl
    rw [e1, if_pos (by omega)]
    have e2 : wrap64 ((s.size : Int) - ((1 : Nat) : Int)) = ((s.size - 1 : Nat) : Int) := wrap_pred _ h0 hs
    rw [e2, if_pos (by omega), if_pos (by omega)]
    simp only [Option.bind_some, Int.toNat_natCast]
    rw [Lib.toList_data, Lib.toList_data, extract_last s h0]
    unfold wholeB wholeL
    rw [List.getLast?_eq_some_getLast h]
    congr 1
    show ([_] == [(10 : UInt8)]) = _
    simp

/-- Do edits fit, from a line on? -/
def fitFrom (x : List ByteArray) : Int → List S33 → Bool
  | _, [] => true
  | last, e :: r =>
    !(decide (e.f0 ≤ last) || decide (e.f1 < e.f0) || decide ((x.length : Int) < e.f1)) &&
    !(decide (e.f0 = e.f1) && decide (e.f2.data.toList = [])) &&
    !(decide (e.f1 < (x.length : Int)) && !wholeB e.f2) &&
    !(decide (e.f0 = (x.length : Int)) && decide (0 < x.length) && !wholeB (x.getD (x.length - 1) ByteArray.empty)) &&
    fitFrom x e.f1 r
def fitB (x : List ByteArray) (l : List S33) : Bool := fitFrom x (-1) l

theorem fit_cons {x : List ByteArray} {last : Int} {e : S33} {r : List S33} (h : fitFrom x last (e :: r) = true) :
    last < e.f0 ∧ e.f0 ≤ e.f1 ∧ e.f1 ≤ (x.length : Int) ∧ ¬ (e.f0 = e.f1 ∧ e.f2.data.toList = []) ∧ (e.f1 < (x.length : Int) → wholeB e.f2 = true) ∧
    (e.f0 = (x.length : Int) → 0 < x.length → wholeB (x.getD (x.length - 1) ByteArray.empty) = true) ∧ fitFrom x e.f1 r = true := by
  unfold fitFrom at h
  simp only [Bool.and_eq_true, Bool.not_eq_true', Bool.or_eq_false_iff, decide_eq_false_iff_not, Bool.and_eq_false_iff] at h
  obtain ⟨⟨⟨⟨⟨⟨h1, h2⟩, h3⟩, h4⟩, h5⟩, h6⟩, h7⟩ := h
  refine ⟨by omega, by omega, by omega, ?_, ?_, ?_, h7⟩
  · rintro ⟨a, b⟩
    rcases h4 with h4 | h4
    · exact h4 a
    · exact h4 b
  · intro a
    rcases h5 with h5 | h5
    · exact absurd a h5
    · simpa using h5
  · intro a b
    rcases h6 with (h6 | h6) | h6
    · exact absurd a h6
    · exact absurd b h6
    · simpa using h6

theorem rd33 (l : List S33) (i : Nat) (h : i < l.length) : rd_T33 l (i : Int) = l[i] := by
  unfold rd_T33
  rw [List.getD_eq_getElem?_getD, Int.toNat_natCast, List.getElem?_eq_getElem h]
  rfl

theorem fit_l0 (x : List ByteArray) (l : List S33) (hx : x.length ≤ 4611686018427387904) (hl : l.length ≤ 4611686018427387904)
    (hxs : ∀ s ∈ x, s.size ≤ 9223372036854775807) (hls : ∀ e ∈ l, e.f2.size ≤ 9223372036854775807) (d : Nat) :
    ∀ (k i : Nat) (last : Int), i ≤ l.length → l.length - i = d → 3 * d < k → edit_fit.l0 k x last l (l.length : Int) (i : Int) = some (fitFrom x last (l.drop i)) := by
  induction d with
  | zero =>
    intro k i last hi hd hk
    obtain ⟨k, rfl⟩ : ∃ m, k = m + 1 := ⟨k - 1, by omega⟩
    simp only [edit_fit.l0]
    rw [if_neg (by omega), List.drop_of_length_le (by omega)]
    rfl
  | succ d ih =>
    intro k i last hi hd hk
    obtain ⟨k, rfl⟩ : ∃ m, k = m + 1 + 1 + 1 := ⟨k - 3, by omega⟩
    have hlt : i < l.length := by omega
    have hstep : ∀ last', edit_fit.l0 k x last' l (l.length : Int) (wrap64 ((i : Int) + 1)) = some (fitFrom x last' (l.drop (i + 1))) := by
      intro last'
      rw [wrap_succ i (by omega)]
      exact ih k (i + 1) last' (by omega) (by omega) (by omega)
    rw [List.drop_eq_getElem_cons hlt]
    have hmem : l[i] ∈ l := List.getElem_mem hlt
    generalize hrest : l.drop (i + 1) = rest at hstep ⊢
    simp only [edit_fit.l0]
    rw [if_pos (by omega), if_pos (by omega), if_pos (by omega)]
    rw [rd33 l i hlt]
    have hw := hls _ hmem
    generalize l[i] = e at hw ⊢
    obtain ⟨f, t, s⟩ := e
    simp only at hw ⊢
    -- behind the first test
    have hj2 : ∀ b : Bool, edit_fit.j2 (k + 1) x l (l.length : Int) (i : Int) b f t s = some (!b && (!(decide (f = (x.length : Int)) && decide (0 < x.length) && !wholeB (x.getD (x.length - 1) ByteArray.empty)) && fitFrom x t rest)) := by
      intro b
      simp only [edit_fit.j2]
      cases b with
      | true => simp
      | false =>
        rw [if_neg (by simp)]
        by_cases h1 : f = (x.length : Int)
        · rw [if_pos h1]
          by_cases h2 : (x.length : Int) > 0
          · rw [if_pos h2, wrap_pred _ (by omega) (by omega), if_pos (by omega), if_pos (by omega)]
            have e3 : rdOf ByteArray.empty x ((x.length - 1 : Nat) : Int) = x.getD (x.length - 1) ByteArray.empty := by
              unfold rdOf; rw [Int.toNat_natCast]
            rw [e3]
            have hm : (x.getD (x.length - 1) ByteArray.empty).size ≤ 9223372036854775807 := by
              rw [List.getD_eq_getElem?_getD, List.getElem?_eq_getElem (by omega)]
              exact hxs _ (List.getElem_mem _)
            rw [whole_some _ hm]
            simp only [Option.bind_some]
            by_cases h3 : wholeB (x.getD (x.length - 1) ByteArray.empty) = true
            · rw [if_pos h3, hstep, h3]; simp
            · rw [if_neg h3]
              simp only [Bool.not_eq_true] at h3
              rw [h3]
              have : 0 < x.length := by omega
              simp [h1, this]
          · rw [if_neg h2, hstep]
            have : ¬ 0 < x.length := by omega
            simp [this]
        · rw [if_neg h1, hstep]
          simp [h1]
    have hj1 : ∀ b : Bool, edit_fit.j1 (k + 1 + 1) x l (l.length : Int) (i : Int) b f t s =
        some (!b && (!(decide (f = t) && decide (s.data.toList = [])) && (!(decide (t < (x.length : Int)) && !wholeB s) && (!(decide (f = (x.length : Int)) && decide (0 < x.length) && !wholeB (x.getD (x.length - 1) ByteArray.empty)) && fitFrom x t rest)))) := by
      intro b
      simp only [edit_fit.j1]
      cases b with
      | true => rw [if_pos rfl, hj2]; simp
      | false =>
        rw [if_neg (by simp)]
        have hws := whole_some s hw
        by_cases h1 : f = t
        · rw [if_pos h1]
          rw [Lib.toList_data]
          by_cases h2 : s.data.toList = []
          · rw [if_pos h2, hj2, h2]
            simp [h1]
          · rw [if_neg h2]
            by_cases h3 : t < (x.length : Int)
            · rw [if_pos h3, hws]; simp only [Option.bind_some]; rw [hj2]; simp [h2, h3]
            · rw [if_neg h3, hj2]; simp [h2, h3]
        · rw [if_neg h1]
          by_cases h3 : t < (x.length : Int)
          · rw [if_pos h3, hws]; simp only [Option.bind_some]; rw [hj2]; simp [h1, h3]
          · rw [if_neg h3, hj2]; simp [h1, h3]
    unfold fitFrom
    by_cases h1 : f ≤ last
    · rw [if_pos h1, hj1]; simp [h1]
    · rw [if_neg h1]
      by_cases h2 : t < f
      · rw [if_pos h2, hj1]; simp [h2]
      · rw [if_neg h2, hj1]
        simp only [h1, h2, decide_false, Bool.false_or, gt_iff_lt, Bool.and_assoc]

theorem fit_some (x : List ByteArray) (l : List S33) (hx : x.length ≤ 4611686018427387904) (hl : l.length ≤ 4611686018427387904)
    (hxs : ∀ s ∈ x, s.size ≤ 9223372036854775807) (hls : ∀ e ∈ l, e.f2.size ≤ 9223372036854775807) : edit_fit.f (3 * l.length + 1) x l = some (fitB x l) := by
  unfold edit_fit.f fitB
  have := fit_l0 x l hx hl hxs hls l.length (3 * l.length + 1) 0 (-1) (by omega) (by omega) (by omega)
  simpa using this
end Go.Proofs.Ytmecmmpgkcileaa.Z
