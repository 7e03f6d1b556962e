/- The plain statement of the law EditFinds: lines, and what makes one text of another one, are the second program's. -/
import Derived.Test.YtmecmmpgkcileaaZ6
import Derived.Test.YtmecmmpgkcileaaPz
namespace Go.Proofs.Ytmecmmpgkcileaa.Pure
open Go.RowKit Go.Proofs.Ytmecmmpgkcileaa.Z Go.Proofs.YtmecmmpgkcileaaW.PrintWords Go.Proofs.YtmecmmpgkcileaaW.PrintLast

theorem EditFinds : regletlaw18_EditFinds.Pure := by
  intro a b _ _
  suffices hk : Evs (fun k => regletlaw18_EditFinds.f k a b) true from hk.get
  have big : Evs (fun k => regletlaw18_EditFinds.j0 k a b true) true := Evs.succ (Evs.congr (fun k => by simp only [regletlaw18_EditFinds.j0]; rfl) (Evs.ret _))
  simp only [regletlaw18_EditFinds.f]
  by_cases ca : (a.size : Int) > 2000
  · simp only [if_pos ca]; exact big
  simp only [if_neg ca]
  by_cases cb : (b.size : Int) > 2000
  · simp only [decide_eq_true cb]; exact big
  simp only [decide_eq_false cb]
  have ha : a.size ≤ 2000 := by omega
  have hb : b.size ≤ 2000 := by omega
  clear big ca cb
  have h1 := lines_length a
  have hl : edit_Lines.f a = some (linesB a) := by unfold edit_Lines.f; rw [if_pos (by omega)]
  refine Evs.succ ?_
  simp only [regletlaw18_EditFinds.j0, hl, Option.bind_some, Bool.false_eq_true, if_false]
  refine Evs.bind (refLines a (by omega)) ?_
  simp only [if_true]
  have key : ∀ d i : Nat, i + d = (linesB a).length → Evs (fun k => regletlaw18_EditFinds.l0 k a b (linesB a) (linesB a) (i : Int)) true := by
    intro d
    induction d with
    | zero =>
      intro i hi
      obtain ⟨r, hr1, hr2, hr3⟩ := refBetween ha hb
      refine Evs.succ ?_
      simp only [regletlaw18_EditFinds.l0, if_neg (show ¬ (i : Int) < ((linesB a).length : Int) by omega), hr1, Option.bind_some]
      refine Evs.bind hr2 ?_
      simp only [if_true]
      refine Evs.bind (refSame_refl r.1 (by omega)) ?_
      exact Evs.ret _
    | succ d ih =>
      intro i hi
      refine Evs.succ (Evs.congr (fun k => ?_) (ih (i + 1) (by omega)))
      simp only [regletlaw18_EditFinds.l0]
      rw [if_pos (by omega), if_pos (by omega), if_pos (by omega), if_true, w_succ (by omega)]
  exact key _ 0 (Nat.zero_add _)
end Go.Proofs.Ytmecmmpgkcileaa.Pure
