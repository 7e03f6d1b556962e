/- The plain statement of the law PlaceLines: lines and columns of places are the same by both programs, and undo one another. -/
import Derived.Test.YtmecmmpgkcileaaZ27
import Derived.Test.YtmecmmpgkcileaaPh
namespace Go.Proofs.Ytmecmmpgkcileaa.Pure
open Go.RowKit Go.Proofs.Ytmecmmpgkcileaa.Z Go.Proofs.YtmecmmpgkcileaaW.PrintWords Go.Proofs.YtmecmmpgkcileaaW.PrintLast

theorem alive20 : regletlaw20_alive.f = some true := by decide +kernel

theorem PlaceLines : regletlaw20_PlaceLines.Pure := by
  intro s at_ line column _ _ _ _
  refine Evs.get (f := fun k => regletlaw20_PlaceLines.f k s at_ line column) ?_
  unfold regletlaw20_PlaceLines.f
  simp only [alive20, Option.bind_some]
  by_cases h : (s.size : Int) > 2000
  · simp only [if_pos h]
    refine Evs.succ (Evs.congr (fun k => ?_) (Evs.ret true))
    simp [regletlaw20_PlaceLines.j0]
  · simp only [if_neg h, Bool.not_true]
    refine Evs.succ ?_
    simp only [regletlaw20_PlaceLines.j0, Bool.false_eq_true, if_false]
    have hsz : s.size < 4611686018427387904 := by omega
    refine Evs.bind (placeOf s hsz at_) (Evs.bind (refOf s (by omega) at_) ?_)
    obtain ⟨r, hr, hR⟩ := placeAt s hsz line column
    obtain ⟨t, ht, hT⟩ := refAt s hsz line column
    obtain rfl := hR.same hT
    refine Evs.bind hr (Evs.bind ht ?_)
    simp only [if_true, bne_self_eq_false]
    refine Evs.succ ?_
    simp only [regletlaw20_PlaceLines.j1, Bool.false_eq_true, if_false, if_true]
    by_cases hb : at_ < 0 ∨ (s.size : Int) < at_
    · have e : ofR s at_ = (0, 0, 2) := by unfold ofR; rw [if_pos hb]
      rw [e]
      exact Evs.ret true
    · obtain ⟨n, rfl⟩ := Int.eq_ofNat_of_zero_le (show 0 ≤ at_ by omega)
      have e : ofR s (n : Int) = ((cnt s n : Int), (col s n : Int), 0) := by unfold ofR; rw [if_neg hb, Int.toNat_natCast]
      rw [e]
      simp only [if_true]
      obtain ⟨q, hq, hQ⟩ := placeAt s hsz (cnt s n : Int) (col s n : Int)
      obtain rfl := hQ.same (.inl ⟨n, ⟨by omega, rfl, rfl⟩, rfl⟩)
      refine Evs.bind hq ?_
      simpa using Evs.ret true
end Go.Proofs.Ytmecmmpgkcileaa.Pure
