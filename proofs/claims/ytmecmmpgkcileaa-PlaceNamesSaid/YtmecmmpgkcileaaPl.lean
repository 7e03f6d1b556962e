/- Plain facts on lines of a text: no program in sight. -/
import Derived.Lib.Bytealg
namespace Go.Proofs.Ytmecmmpgkcileaa.Z

/-- The lines of a list of bytes. -/
def splitL : List UInt8 → List (List UInt8)
  | [] => []
  | c :: r => if c = 10 then [c] :: splitL r else match splitL r with
    | [] => [[c]]
    | h :: t => (c :: h) :: t

def mkB (l : List UInt8) : ByteArray := ⟨l.toArray⟩
def linesB (s : ByteArray) : List ByteArray := (splitL s.data.toList).map mkB

theorem mkB_toList (l : List UInt8) : (mkB l).data.toList = l := rfl
theorem mkB_of (s : ByteArray) : mkB s.data.toList = s := rfl
theorem mkB_size (l : List UInt8) : (mkB l).size = l.length := rfl
theorem size_toList (s : ByteArray) : s.data.toList.length = s.size := rfl
theorem mkB_inj {a b : List UInt8} (h : mkB a = mkB b) : a = b := by
  have := congrArg (fun s : ByteArray => s.data.toList) h
  exact this
theorem extract_list (s : ByteArray) (i j : Nat) : (s.extract i j).data.toList = (s.data.toList.take j).drop i := by
  rw [ByteArray.data_extract, Array.toList_extract, List.extract_eq_take_drop]
  rw [List.drop_take]

theorem splitL_ne_nil {l : List UInt8} (h : l ≠ []) : splitL l ≠ [] := by
  cases l with
  | nil => exact absurd rfl h
  | cons c r =>
    unfold splitL
    split
    · simp
    · split <;> simp

theorem indexByte_none {l : List UInt8} {c : UInt8} (h : Lib.indexByte l c = -1) : c ∉ l := by
  induction l with
  | nil => simp
  | cons b l ih =>
    unfold Lib.indexByte at h
    split at h
    · omega
    · rename_i hb
      split at h
      · rename_i h1
        have := ih (by simpa using h1)
        simp only [List.mem_cons, not_or]
        exact ⟨fun e => hb (by simp [e]), this⟩
      · have := Lib.indexByte_ge l c
        omega

theorem split_none {l : List UInt8} (h0 : l ≠ []) (h : (10 : UInt8) ∉ l) : splitL l = [l] := by
  induction l with
  | nil => exact absurd rfl h0
  | cons c r ih =>
    simp only [List.mem_cons, not_or] at h
    unfold splitL
    rw [if_neg (fun e => h.1 e.symm)]
    cases r with
    | nil => rfl
    | cons d r =>
      rw [ih (by simp) h.2]

theorem indexByte_some {l : List UInt8} {c : UInt8} {i : Nat} (h : Lib.indexByte l c = i) : i < l.length ∧ l[i]? = some c ∧ c ∉ l.take i := by
  induction l generalizing i with
  | nil => simp [Lib.indexByte] at h
  | cons b l ih =>
    unfold Lib.indexByte at h
    split at h
    · rename_i hb
      obtain rfl : i = 0 := by omega
      simp at hb
      simp [hb]
    · rename_i hb
      split at h
      · omega
      · have hg := Lib.indexByte_ge l c
        rename_i h1
        have h1' : Lib.indexByte l c ≠ -1 := by simpa using h1
        obtain ⟨j, rfl⟩ : ∃ j, i = j + 1 := ⟨i - 1, by omega⟩
        obtain ⟨h2, h3, h4⟩ := ih (i := j) (by omega)
        refine ⟨by simp; omega, by simpa using h3, ?_⟩
        simp only [List.take_succ_cons, List.mem_cons, not_or]
        exact ⟨fun e => hb (by simp [e]), h4⟩

theorem split_some {l : List UInt8} {i : Nat} (h1 : l[i]? = some 10) (h2 : (10 : UInt8) ∉ l.take i) : splitL l = l.take (i + 1) :: splitL (l.drop (i + 1)) := by
  induction l generalizing i with
  | nil => simp at h1
  | cons c r ih =>
    cases i with
    | zero =>
      obtain rfl : c = 10 := by simpa using h1
      conv => lhs; unfold splitL
      simp
    | succ i =>
      simp only [List.take_succ_cons, List.mem_cons, not_or] at h2
      have h1' : r[i]? = some 10 := by simpa using h1
      conv => lhs; unfold splitL
      rw [if_neg (fun e => h2.1 e.symm), ih h1' h2.2]
      rfl

/-- One round of the iterator: how long the first line is. -/
def lineLen (l : List UInt8) : Nat := if Lib.indexByte l 10 + 1 = 0 then l.length else (Lib.indexByte l 10 + 1).toNat

theorem split_step {l : List UInt8} (h0 : l ≠ []) : splitL l = l.take (lineLen l) :: splitL (l.drop (lineLen l)) ∧ 0 < lineLen l ∧ lineLen l ≤ l.length := by
  have hg := Lib.indexByte_ge l 10
  have hp : 0 < l.length := List.length_pos_iff.2 h0
  unfold lineLen
  split
  · rename_i h
    have h1 : Lib.indexByte l 10 = -1 := by omega
    refine ⟨?_, hp, Nat.le_refl _⟩
    rw [split_none h0 (indexByte_none h1)]
    simp [splitL]
  · rename_i h
    obtain ⟨i, hi⟩ : ∃ i : Nat, Lib.indexByte l 10 = i := ⟨(Lib.indexByte l 10).toNat, by omega⟩
    obtain ⟨h2, h3, h4⟩ := indexByte_some hi
    have e : (Lib.indexByte l 10 + 1).toNat = i + 1 := by omega
    rw [e]
    exact ⟨split_some h3 h4, by omega, by omega⟩

theorem lines_nil {s : ByteArray} (h : s.size = 0) : linesB s = [] := by
  have : s.data.toList = [] := List.length_eq_zero_iff.1 h
  simp [linesB, this, splitL]

theorem lines_step {s : ByteArray} (h0 : s.size ≠ 0) : linesB s = s.extract 0 (lineLen s.data.toList) :: linesB (s.extract (lineLen s.data.toList) s.size) ∧ 0 < lineLen s.data.toList ∧ lineLen s.data.toList ≤ s.size := by
  have hn : s.data.toList ≠ [] := fun e => h0 (by rw [← size_toList, e]; rfl)
  obtain ⟨h1, h2, h3⟩ := split_step hn
  refine ⟨?_, h2, h3⟩
  unfold linesB
  rw [h1, List.map_cons, extract_list, List.take_of_length_le (i := s.size) (Nat.le_of_eq (size_toList s))]
  congr 1
  have := extract_list s 0 (lineLen s.data.toList)
  rw [List.drop_zero] at this
  rw [← this]
  rfl

theorem lines_length (s : ByteArray) : (linesB s).length ≤ s.size := by
  have key : ∀ l : List UInt8, (splitL l).length ≤ l.length := by
    intro l
    induction l with
    | nil => simp [splitL]
    | cons c r ih =>
      unfold splitL
      split
      · simpa using ih
      · split
        · simp
        · rename_i h t he
          rw [he] at ih
          simp at ih ⊢
          omega
  unfold linesB
  rw [List.length_map]
  exact key _
end Go.Proofs.Ytmecmmpgkcileaa.Z
