/- The plain statement of the law EditWays: by way of a third text no fewer lines go out and in; there and back as many go out as came in. -/
import Derived.Test.YtmecmmpgkcileaaZ13
import Derived.Test.YtmecmmpgkcileaaPal
import Derived.Test.YtmecmmpgkcileaaPx
import Derived.Test.YtmecmmpgkcileaaPg
namespace Go.Proofs.Ytmecmmpgkcileaa.Pure
open Go.RowKit Go.Proofs.Ytmecmmpgkcileaa.Z Go.Proofs.YtmecmmpgkcileaaW.PrintWords Go.Proofs.YtmecmmpgkcileaaW.PrintLast

theorem size_betw {a b : ByteArray} (ha : a.size ≤ 1000) (hb : b.size ≤ 1000) :
    Evs (fun k => edit_Size.f k a (betw a b)) (((linesB a).length : Int) - lcs (linesB a) (linesB b), ((linesB b).length : Int) - lcs (linesB a) (linesB b), 0) := by
  have h := (betw_fits ha hb).size
  unfold sizeR at h
  rw [if_pos (betw_fit a b), (betw_sizes a b).1, (betw_sizes a b).2] at h
  exact h

theorem EditWays : regletlaw18_EditWays.Pure := by
  intro a b c _ _ _
  suffices hk : Evs (fun k => regletlaw18_EditWays.f k a b c) true from hk.get
  have big : Evs (fun k => regletlaw18_EditWays.j0 k a b c true true) true := Evs.succ (Evs.congr (fun k => by simp only [regletlaw18_EditWays.j0]; rfl) (Evs.ret _))
  simp only [regletlaw18_EditWays.f, alive18_true, Option.bind_some]
  by_cases ca : (a.size : Int) > 1000
  · simp only [if_pos ca]; exact big
  simp only [if_neg ca]
  by_cases cb : (b.size : Int) > 1000
  · simp only [if_pos cb]; exact big
  simp only [if_neg cb]
  by_cases cc : (c.size : Int) > 1000
  · simp only [if_pos cc]; exact big
  simp only [if_neg cc]
  have ha : a.size ≤ 1000 := by omega
  have hb : b.size ≤ 1000 := by omega
  have hc : c.size ≤ 1000 := by omega
  clear big ca cb cc
  refine Evs.succ ?_
  simp only [regletlaw18_EditWays.j0, betw_some ha hb, betw_some hb hc, betw_some ha hc, betw_some hb ha, Option.bind_some, Bool.not_true, Bool.false_eq_true, if_false]
  refine Evs.bind (size_betw ha hb) ?_
  refine Evs.bind (size_betw hb hc) ?_
  refine Evs.bind (size_betw ha hc) ?_
  refine Evs.bind (size_betw hb ha) ?_
  have h1 := lines_length a
  have h2 := lines_length b
  have h3 := lines_length c
  have l1 := lcs_le (linesB a) (linesB b)
  have l2 := lcs_le_right (linesB a) (linesB b)
  have l3 := lcs_le (linesB b) (linesB c)
  have l4 := lcs_le_right (linesB b) (linesB c)
  have l5 := lcs_le (linesB a) (linesB c)
  have l6 := lcs_le_right (linesB a) (linesB c)
  have hw := lcs_ways (linesB a) (linesB b) (linesB c)
  rw [lcs_comm (linesB b) (linesB a)]
  generalize lcs (linesB a) (linesB b) = p at *
  generalize lcs (linesB b) (linesB c) = q at *
  generalize lcs (linesB a) (linesB c) = r at *
  generalize (linesB a).length = x at *
  generalize (linesB b).length = y at *
  generalize (linesB c).length = z at *
  have w1 : wrap64 (((x : Int) - r) + ((z : Int) - r)) = ((x : Int) - r) + ((z : Int) - r) := wrap_id _ (by omega) (by omega)
  have w2 : wrap64 (((x : Int) - p) + ((y : Int) - p)) = ((x : Int) - p) + ((y : Int) - p) := wrap_id _ (by omega) (by omega)
  have w3 : wrap64 ((((x : Int) - p) + ((y : Int) - p)) + ((y : Int) - q)) = (((x : Int) - p) + ((y : Int) - p)) + ((y : Int) - q) := wrap_id _ (by omega) (by omega)
  have w4 : wrap64 (((((x : Int) - p) + ((y : Int) - p)) + ((y : Int) - q)) + ((z : Int) - q)) = ((((x : Int) - p) + ((y : Int) - p)) + ((y : Int) - q)) + ((z : Int) - q) := wrap_id _ (by omega) (by omega)
  simp only [if_true, w1, w2, w3, w4]
  rw [if_pos (by omega), beq_self_eq_true]
  exact Evs.ret _
end Go.Proofs.Ytmecmmpgkcileaa.Pure
