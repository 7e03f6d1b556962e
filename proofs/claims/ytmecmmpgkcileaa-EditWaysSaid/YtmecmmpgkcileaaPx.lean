/- What makes one text of another one, within the statements' bound: told by the program, and within the bound of the other functions. -/
import Derived.Test.YtmecmmpgkcileaaPw
import Derived.Test.YtmecmmpgkcileaaPb
namespace Go.Proofs.Ytmecmmpgkcileaa.Z
open Go.RowKit Go.Proofs.YtmecmmpgkcileaaW.PrintWords

theorem betw_some {a b : ByteArray} (ha : a.size ≤ 1000) (hb : b.size ≤ 1000) : edit_Between.f a b = some (betw a b, 0) := by
  unfold edit_Between.f
  have h1 := lines_length a
  have h2 := lines_length b
  have h3 : (linesB a).length * (linesB b).length ≤ 1000 * 1000 := Nat.mul_le_mul (by omega) (by omega)
  rw [if_pos ⟨by omega, by omega⟩, if_neg (by omega)]
  rfl
theorem betw_fits {a b : ByteArray} (ha : a.size ≤ 1000) (hb : b.size ≤ 1000) : Fits a (betw a b) := by
  have h1 := lines_length a
  have h2 := lines_length b
  obtain ⟨h3, h4⟩ := betw_small a b
  exact ⟨by omega, by omega, by omega⟩
end Go.Proofs.Ytmecmmpgkcileaa.Z
