/- The row of the second form of the law EditMakes, out of its plain statement and the walk. -/
import Derived.Test.YtmecmmpgkcileaaRows
import Derived.Test.YtmecmmpgkcileaaZ15
import Derived.Test.YtmecmmpgkcileaaOp3
import Derived.WalkKit
import Derived.ProofKit
import Derived.OpenShut
import Derived.ShutString
import Derived.ChangeOld
import Derived.Below
import Derived.JoinedCond
import Derived.Test.YtmecmmpgkcileaaPal
import Derived.Test.YtmecmmpgkcileaaPw
import Derived.Test.YtmecmmpgkcileaaPy
import Derived.Test.YtmecmmpgkcileaaPg
namespace Go.Proofs.Ytmecmmpgkcileaa.Pure
open Go.RowKit Go.Proofs.Ytmecmmpgkcileaa.Z Go.Proofs.YtmecmmpgkcileaaW.PrintWords Go.Proofs.YtmecmmpgkcileaaW.PrintLast

theorem toList_inj {a b : ByteArray} (h : a.toList = b.toList) : a = b := by
  rw [ByteArray.toList_eq, ByteArray.toList_eq] at h
  exact (sameB_iff a b).1 (by unfold sameB; rw [h, beq_self_eq_true])

theorem EditMakes (a b : ByteArray) (l : List S33) (_ : a.size ≤ 1048576) (_ : b.size ≤ 1048576) (_ : l.length ≤ 1048576) (ht : ∀ e ∈ l, e.f2.size ≤ 1048576) : ∃ k, regletlaw18_EditMakes.f k a b l = some true := by
  suffices hk : Evs (fun k => regletlaw18_EditMakes.f k a b l) true from hk.get
  have big : Evs (fun k => regletlaw18_EditMakes.j0 k a b l true true) true := Evs.succ (Evs.congr (fun k => by simp only [regletlaw18_EditMakes.j0]; rfl) (Evs.ret _))
  simp only [regletlaw18_EditMakes.f, alive18_true, Option.bind_some]
  by_cases ca : (a.size : Int) > 1000
  · simp only [if_pos ca]; exact big
  simp only [if_neg ca]
  by_cases cb : (b.size : Int) > 1000
  · simp only [if_pos cb]; exact big
  simp only [if_neg cb]
  by_cases cl : (l.length : Int) > 50
  · simp only [if_pos cl]; exact big
  simp only [if_neg cl]
  have ha : a.size ≤ 1000 := by omega
  have hb : b.size ≤ 1000 := by omega
  have hl : l.length ≤ 50 := by omega
  clear big ca cb cl
  have htx := textSz_le ht
  have htl : l.length * 1048576 ≤ 50 * 1048576 := Nat.mul_le_mul_right _ hl
  have hF : Fits a l := ⟨by omega, by omega, by omega⟩
  have hM := betw_fits ha hb
  have hfm := betw_fit a b
  have ham := hM.apply
  have hbm := hM.back
  have hzm := hM.size
  unfold applyR at ham
  unfold backR at hbm
  unfold sizeR at hzm
  rw [if_pos hfm, betw_apply, mkB_of] at ham
  rw [if_pos hfm] at hbm hzm
  obtain ⟨b1, b2, b3, b4, b5, b6, b7⟩ := backs hfm
  rw [betw_apply, mkB_of] at b1 b2 b3
  obtain ⟨s1, s2⟩ := betw_small a b
  have n1 := lines_length a
  have n2 := lines_length b
  have hF2 : Fits b (backFrom (linesB a) 0 (betw a b)) := ⟨by omega, by omega, by omega⟩
  have ha2 := hF2.apply
  unfold applyR at ha2
  rw [if_pos b1, b2, mkB_of] at ha2
  refine Evs.succ ?_
  simp only [regletlaw18_EditMakes.j0, betw_some ha hb, ham, Option.bind_some, Bool.not_true, Bool.false_eq_true, if_false]
  refine Evs.bind hbm ?_
  simp only [ha2, Option.bind_some]
  refine Evs.bind hzm ?_
  simp only [if_true]
  have hrest : Evs (fun k => regletlaw18_EditMakes.j1 k a b l true (sizeOut (betw a b)) (sizeIn (betw a b)) false) true := by
    refine Evs.succ ?_
    have hzl := hF.size
    simp only [regletlaw18_EditMakes.j1, hF.apply, Option.bind_some, Bool.false_eq_true, if_false]
    refine Evs.bind hzl ?_
    unfold applyR sizeR
    by_cases hf : fitB (linesB a) l = true
    · simp only [if_pos hf, if_true]
      by_cases he : (mkB (applyB (linesB a) l)).toList = b.toList
      · simp only [if_pos he]
        have hab : applyB (linesB a) l = b.data.toList := by rw [← mkB_toList (applyB (linesB a) l), toList_inj he]
        have hle := betw_least hf hab
        obtain ⟨z1, z2⟩ := betw_sizes a b
        have o1 := sizeOut_le (x := linesB a) (last := -1) hf (by omega) (by omega)
        have o2 := sizeIn_le l
        have l1 := lcs_le (linesB a) (linesB b)
        have l2 := lcs_le_right (linesB a) (linesB b)
        rw [wrap_id _ (by omega) (by omega), wrap_id _ (by omega) (by omega), decide_eq_true hle]
        exact Evs.ret _
      · simp only [if_neg he]
        exact Evs.ret _
    · simp only [if_neg hf]
      exact Evs.ret _
  by_cases he : a.toList = b.toList
  · simp only [if_pos he]
    have hab := toList_inj he
    have h0 : (betw a b).length = 0 := by rw [hab, betw_self]; rfl
    simp only [h0]
    exact hrest
  · simp only [if_neg he]
    exact hrest
end Go.Proofs.Ytmecmmpgkcileaa.Pure
namespace Go.Proofs.Ytmecmmpgkcileaa.editMakes
open Go.ChangeShapes Go.WideShapes Go.ChangeAt Go.RowKit
open Go.ChangeMaps (open_string shut_string)
theorem own : ownKnob Try.prog.godebug = none := by kernel_rfl
theorem laidOut : laidOutB Try.prog = true := by kernel_rfl
theorem str_bulk {H : Type} {a : ByteArray} {l : List (DataW H)} {B : Nat} (hk : Rows.uptoBulkAll l ≤ B) (h : (DataW.lit (.string a.data.toList) : DataW H) ∈ l) : a.size ≤ B := by
  have h1 := Z.bulk_mem h
  have h2 : a.data.toList.length = a.size := rfl
  simp only [Rows.uptoBulk] at h1
  omega
set_option maxRecDepth 100000 in
theorem contract (H : Type) (enc : TypeId × Value → H) (W : World) (base : Nat) (args : Array Value) (ds gs : List (DataW H)) (before : List MemPlace)
    (hval0 : ∀ (j : Nat) t v, Try.f7.params[j]? = some t → args[j]? = some v → Value.okWide Try.prog W .any base t v)
    (hW : DataW.Whole enc Try.prog Try.f7.params.toList Rows.editMakesSpec.vars false W args.toList ds gs before) (hk0 : Rows.uptoSmall H (ds ++ gs) = true) :
    Calls Try.prog 7 args W fun e W' => ∃ v, e = .returned v ∧ Rows.editMakesSpec.post enc Try.prog Try.f7 false true false false W args v W' := by
  have hval := hval0
  have hW' := hW
  obtain ⟨p, q, hA0, hV, rfl, hfz, hnd⟩ := hW
  have hA : DataW.TrodAll enc Try.prog W 0 (fun _ => true) true Try.f7.params.toList args.toList ds p := hA0
  rw [Try.params7] at hA hval
  obtain ⟨v0, vs0, d0, ds0, p0, q0, hargs, rfl, rfl, h0, r0⟩ := trodAll_cons hA
  obtain ⟨v1, vs1, d1, ds1, p1, q1, rfl, rfl, rfl, h1, r1⟩ := trodAll_cons r0
  obtain ⟨v2, vs2, d2, ds2, p2, q2, rfl, rfl, rfl, h2, r2⟩ := trodAll_cons r1
  obtain ⟨rfl, rfl, rfl⟩ := trodAll_nil r2
  obtain rfl : args = #[v0, v1, v2] := by cases args; simp_all
  obtain ⟨rfl, rfl⟩ := trodVars_none hV
  have hbk : Rows.uptoBulkAll [d0, d1, d2] ≤ 1048576 := of_decide_eq_true hk0
  obtain ⟨a0, rfl, rfl, rfl, y0⟩ := open_string Try.underlying9 (hval 0 9 v0 rfl rfl) h0
  have hz0 : a0.size ≤ 1048576 := str_bulk hbk (.head _)
  obtain ⟨a1, rfl, rfl, rfl, y1⟩ := open_string Try.underlying9 (hval 1 9 v1 rfl rfl) h1
  have hz1 : a1.size ≤ 1048576 := str_bulk hbk (.tail _ (.head _))
  obtain ⟨a2, len2, cap2, rfl⟩ := okWide_slice Try.underlying24 (hval 2 24 v2 rfl rfl)
  have lt2 : ∀ x ∈ p2, x.block < W.heap.size := by obtain ⟨m, hm⟩ := h2; exact DataW.trod_lt m _ _ _ hm
  have hb2 : Rows.uptoBulk d2 ≤ 1048576 := Nat.le_trans (Z.bulk_mem (.tail _ (.tail _ (.head _)))) hbk
  obtain ⟨l2, rfl, hlc2, hC2, hlen2, htx2⟩ := Z.bulk_edits hb2 h2
  clear hA0 hval0
  obtain ⟨k, hk⟩ := Pure.EditMakes a0 a1 l2 hz0 hz1 hlen2 htx2
  refine (Z.regletlaw18_EditMakes.calls k a0 a1 a2 cap2 l2 true W hC2 hlc2 hk).mono fun e W' ⟨he, bel⟩ => ?_
  subst he
  exact ⟨_, rfl, _, _, _, [], _, [], hW', trodAll_mk1 (shut_bool Try.underlying4 _), (trodAll_cons_mk (shut_string Try.underlying9 y0) (trodAll_cons_mk (shut_string Try.underlying9 y1) (trodAll_cons_mk (Below.trod laidOut (by kernel_rfl) (of_decide_eq_true (by kernel_rfl)) h2 bel lt2) trodAll_mk0))), rfl, bel.frame _, fun h => by cases h⟩
set_option maxRecDepth 100000 in
theorem lifted (os : Os) (started : os.Started) (H : Type) (enc : TypeId × Value → H) (F : Stop.Interp) :
    ReturnsInHanded {} Try.checked os 7 .any ((Rows.OpenSpec.upto Rows.editMakesSpec).pre6 enc Try.prog Try.f7 Rows.editMakesUptoRow.domain false) (((Rows.OpenSpec.upto Rows.editMakesSpec).at F).post enc Try.prog Try.f7 false true false false) := by
  refine returnsInHanded_of_cond (C := Try.checked) (s := Rows.OpenSpec.upto Rows.editMakesSpec) (k := Rows.uptoSmall) rfl own started (by kernel_rfl) Try.func7
    (OpenSpec.witness (enc := enc) (C := Try.checked) (s := Rows.OpenSpec.upto Rows.editMakesSpec) (k := Rows.uptoSmall) rfl false ⟨#[], #[.string ByteArray.empty, .string ByteArray.empty, .slice none 0 0], []⟩ 8 (by kernel_rfl) (by kernel_rfl) (by kernel_rfl)
      (x := ([.lit (.string []), .lit (.string []), .nil], [], [])) (by kernel_rfl) rfl (by kernel_rfl)) ?_
  intro W base args ds gs before hval hW _ hk _
  exact contract H enc W base args ds gs before hval hW hk
theorem over : Rows.editMakesUptoRow.holds Try.pinned (Rows.OpenSpec.upto Rows.editMakesSpec) :=
  OpenClaim.holds_of_cond 7 Try.f7 rfl rfl rfl rfl rfl rfl rfl ⟨rfl, rfl, rfl, rfl, rfl⟩ rfl rfl rfl rfl rfl (by kernel_rfl) Try.func7 (by kernel_rfl)
    (of_decide_eq_true (by kernel_rfl)) (by unfold Func.isWrapper; first | (rw [if_pos (by decide +kernel)]; kernel_rfl) | (rw [if_neg (by decide +kernel)]; exact ⟨rfl, rfl⟩))
    (fun os started H enc _ F => lifted os started H enc F)
theorem proved : Rows.EditMakesUptoSaid := over
end Go.Proofs.Ytmecmmpgkcileaa.editMakes
namespace Go.Proofs.Ytmecmmpgkcileaa
/-- The row, under a short name, for the claim. -/
theorem editMakes_holds : Rows.EditMakesUptoSaid := editMakes.proved
end Go.Proofs.Ytmecmmpgkcileaa
