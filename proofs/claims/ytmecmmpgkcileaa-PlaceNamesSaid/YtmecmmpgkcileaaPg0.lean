/- Plain laws of lines one behind the other, and of how long a text is behind edits. -/
import Derived.Test.YtmecmmpgkcileaaPe0
import Derived.Test.YtmecmmpgkcileaaGApply
namespace Go.Proofs.Ytmecmmpgkcileaa.Z
open Go.RowKit Go.Proofs.YtmecmmpgkcileaaW.PrintWords

theorem catL_linesB (s : ByteArray) : catL (linesB s) = s.data.toList := by
  have key : ∀ l : List UInt8, (splitL l).flatten = l := by
    intro l
    induction l with
    | nil => rfl
    | cons c r ih =>
      unfold splitL
      split
      · rw [List.flatten_cons, ih]; rfl
      · split
        · rename_i he
          rw [he] at ih
          simp at ih
          simp [ih]
        · rename_i h t he
          rw [he, List.flatten_cons] at ih
          rw [List.flatten_cons, List.cons_append, ih]
  unfold catL linesB
  rw [List.map_map]
  have : ((fun x : ByteArray => x.data.toList) ∘ mkB) = id := rfl
  rw [this, List.map_id, key]
theorem catL_append (a b : List ByteArray) : catL (a ++ b) = catL a ++ catL b := by simp [catL]
theorem catL_split (x : List ByteArray) (n : Nat) : (catL x).length = (catL (x.take n)).length + (catL (x.drop n)).length := by
  conv => lhs; rw [← List.take_append_drop n x, catL_append, List.length_append]
theorem catL_drop_le (x : List ByteArray) (n : Nat) : (catL (x.drop n)).length ≤ (catL x).length := by have := catL_split x n; omega
theorem catL_take_le (x : List ByteArray) (n : Nat) : (catL (x.take n)).length ≤ (catL x).length := by have := catL_split x n; omega
theorem catL_mid_le (x : List ByteArray) (a b : Nat) : (catL ((x.take b).drop a)).length ≤ (catL x).length := Nat.le_trans (catL_drop_le _ _) (catL_take_le _ _)
theorem catL_mid_drop (x : List ByteArray) (a b : Nat) (h : a ≤ b) : catL (x.drop a) = catL ((x.take b).drop a) ++ catL (x.drop b) := by
  rw [← catL_append]
  congr 1
  have h2 : x.drop b = (x.drop a).drop (b - a) := by rw [List.drop_drop]; congr 1; omega
  rw [h2, List.drop_take, List.take_append_drop]
theorem catL_drop_mono (x : List ByteArray) (a b : Nat) (h : a ≤ b) : (catL (x.drop b)).length ≤ (catL (x.drop a)).length := by
  rw [catL_mid_drop x a b h, List.length_append]; omega

/-- How long edits' texts are together. -/
def textSz (l : List S33) : Nat := (l.map fun e => e.f2.size).sum
theorem textSz_cons (e : S33) (l : List S33) : textSz (e :: l) = e.f2.size + textSz l := by simp [textSz]
theorem textSz_mem {l : List S33} {e : S33} (h : e ∈ l) : e.f2.size ≤ textSz l := by
  induction l with
  | nil => cases h
  | cons a l ih =>
    rw [textSz_cons]
    rcases List.mem_cons.1 h with rfl | h
    · omega
    · have := ih h; omega
theorem textSz_drop (l : List S33) (i : Nat) : textSz (l.drop i) ≤ textSz l := by
  induction l generalizing i with
  | nil => simp [textSz]
  | cons a l ih =>
    cases i with
    | zero => simp
    | succ i => rw [List.drop_succ_cons, textSz_cons]; have := ih i; omega

theorem apply_len {x : List ByteArray} {l : List S33} : ∀ {last : Int} {a : Nat}, fitFrom x last l = true → (a : Int) ≤ last + 1 → (applyFrom x a l).length ≤ (catL (x.drop a)).length + textSz l := by
  induction l with
  | nil => intro last a _ _; simp [applyFrom, textSz]
  | cons e r ih =>
    intro last a h ha
    obtain ⟨h1, h2, h3, _, _, _, h7⟩ := fit_cons h
    have := ih (last := e.f1) (a := e.f1.toNat) h7 (by omega)
    unfold applyFrom
    rw [List.length_append, List.length_append, textSz_cons, catL_mid_drop x a e.f0.toNat (by omega), List.length_append, size_toList]
    have hm := catL_drop_mono x e.f0.toNat e.f1.toNat (by omega)
    omega

def applyR (s : ByteArray) (l : List S33) : ByteArray × Int := if fitB (linesB s) l = true then (mkB (applyB (linesB s) l), 0) else (⟨#[]⟩, 180)
theorem wrap_id (z : Int) (h0 : -4611686018427387904 ≤ z) (h1 : z ≤ 4611686018427387904) : wrap64 z = z := by unfold wrap64; omega
end Go.Proofs.Ytmecmmpgkcileaa.Z
