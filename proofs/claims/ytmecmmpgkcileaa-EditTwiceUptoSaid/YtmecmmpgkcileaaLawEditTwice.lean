/- The row of the second form of the law EditTwice, out of its plain statement and the walk. -/
import Derived.Test.YtmecmmpgkcileaaRows
import Derived.Test.YtmecmmpgkcileaaZ16
import Derived.Test.YtmecmmpgkcileaaOp3
import Derived.WalkKit
import Derived.ProofKit
import Derived.OpenShut
import Derived.ShutString
import Derived.ChangeOld
import Derived.Below
import Derived.JoinedCond
import Derived.Test.YtmecmmpgkcileaaPal
import Derived.Test.YtmecmmpgkcileaaPy
import Derived.Test.YtmecmmpgkcileaaPg
namespace Go.Proofs.Ytmecmmpgkcileaa.Pure
open Go.RowKit Go.Proofs.Ytmecmmpgkcileaa.Z Go.Proofs.YtmecmmpgkcileaaW.PrintWords Go.Proofs.YtmecmmpgkcileaaW.PrintLast

theorem EditTwice (s : ByteArray) (l : List S33) (_ : s.size ≤ 1048576) (_ : l.length ≤ 1048576) (ht : ∀ e ∈ l, e.f2.size ≤ 1048576) : ∃ k, regletlaw18_EditTwice.f k s l = some true := by
  suffices hk : Evs (fun k => regletlaw18_EditTwice.f k s l) true from hk.get
  have big : Evs (fun k => regletlaw18_EditTwice.j0 k s l true true) true := Evs.succ (Evs.congr (fun k => by simp only [regletlaw18_EditTwice.j0]; rfl) (Evs.ret _))
  simp only [regletlaw18_EditTwice.f, alive18_true, Option.bind_some]
  by_cases ca : (s.size : Int) > 1000
  · simp only [if_pos ca]; exact big
  simp only [if_neg ca]
  by_cases cb : (l.length : Int) > 50
  · simp only [if_pos cb]; exact big
  simp only [if_neg cb]
  have hs : s.size ≤ 1000 := by omega
  have hl : l.length ≤ 50 := by omega
  clear big ca cb
  have htx := textSz_le ht
  have htl : l.length * 1048576 ≤ 50 * 1048576 := Nat.mul_le_mul_right _ hl
  have hF : Fits s l := ⟨by omega, by omega, by omega⟩
  refine Evs.succ ?_
  simp only [regletlaw18_EditTwice.j0, hF.apply, Option.bind_some, Bool.not_true, Bool.false_eq_true, if_false]
  refine Evs.bind hF.back ?_
  unfold applyR backR
  by_cases hf : fitB (linesB s) l = true
  · simp only [if_pos hf]
    refine Evs.succ ?_
    obtain ⟨b1, b2, b3, b4, b5, b6, b7⟩ := backs hf
    have hal := hF.applyLen hf
    have hF2 : Fits (mkB (applyB (linesB s) l)) (backFrom (linesB s) 0 l) := ⟨by rw [mkB_size]; omega, by omega, by omega⟩
    have hb2 := hF2.back
    have ha2 := hF2.apply
    have hz2 := hF2.size
    unfold backR at hb2
    unfold applyR at ha2
    unfold sizeR at hz2
    rw [if_pos b1] at ha2
    rw [if_pos b1, b3] at hb2
    rw [if_pos b1, b4, b5] at hz2
    have hz1 := hF.size
    unfold sizeR at hz1
    rw [if_pos hf] at hz1
    rw [b2, mkB_of] at ha2
    simp only [regletlaw18_EditTwice.j1, ha2, Option.bind_some, bne_self_eq_false, Bool.false_eq_true, if_false]
    refine Evs.bind hb2 ?_
    refine Evs.bind hz1 ?_
    refine Evs.bind hz2 ?_
    simp only [if_true]
    refine Evs.bind (refSame_refl l (by omega)) ?_
    simp only [if_true, beq_self_eq_true]
    exact Evs.ret _
  · simp only [if_neg hf]
    refine Evs.succ ?_
    simp only [regletlaw18_EditTwice.j1]
    exact Evs.ret _
end Go.Proofs.Ytmecmmpgkcileaa.Pure
namespace Go.Proofs.Ytmecmmpgkcileaa.editTwice
open Go.ChangeShapes Go.WideShapes Go.ChangeAt Go.RowKit
open Go.ChangeMaps (open_string shut_string)
theorem own : ownKnob Try.prog.godebug = none := by kernel_rfl
theorem laidOut : laidOutB Try.prog = true := by kernel_rfl
theorem str_bulk {H : Type} {a : ByteArray} {l : List (DataW H)} {B : Nat} (hk : Rows.uptoBulkAll l ≤ B) (h : (DataW.lit (.string a.data.toList) : DataW H) ∈ l) : a.size ≤ B := by
  have h1 := Z.bulk_mem h
  have h2 : a.data.toList.length = a.size := rfl
  simp only [Rows.uptoBulk] at h1
  omega
set_option maxRecDepth 100000 in
theorem contract (H : Type) (enc : TypeId × Value → H) (W : World) (base : Nat) (args : Array Value) (ds gs : List (DataW H)) (before : List MemPlace)
    (hval0 : ∀ (j : Nat) t v, Try.f8.params[j]? = some t → args[j]? = some v → Value.okWide Try.prog W .any base t v)
    (hW : DataW.Whole enc Try.prog Try.f8.params.toList Rows.editTwiceSpec.vars false W args.toList ds gs before) (hk0 : Rows.uptoSmall H (ds ++ gs) = true) :
    Calls Try.prog 8 args W fun e W' => ∃ v, e = .returned v ∧ Rows.editTwiceSpec.post enc Try.prog Try.f8 false true false false W args v W' := by
  have hval := hval0
  have hW' := hW
  obtain ⟨p, q, hA0, hV, rfl, hfz, hnd⟩ := hW
  have hA : DataW.TrodAll enc Try.prog W 0 (fun _ => true) true Try.f8.params.toList args.toList ds p := hA0
  rw [Try.params8] at hA hval
  obtain ⟨v0, vs0, d0, ds0, p0, q0, hargs, rfl, rfl, h0, r0⟩ := trodAll_cons hA
  obtain ⟨v1, vs1, d1, ds1, p1, q1, rfl, rfl, rfl, h1, r1⟩ := trodAll_cons r0
  obtain ⟨rfl, rfl, rfl⟩ := trodAll_nil r1
  obtain rfl : args = #[v0, v1] := by cases args; simp_all
  obtain ⟨rfl, rfl⟩ := trodVars_none hV
  have hbk : Rows.uptoBulkAll [d0, d1] ≤ 1048576 := of_decide_eq_true hk0
  obtain ⟨a0, rfl, rfl, rfl, y0⟩ := open_string Try.underlying9 (hval 0 9 v0 rfl rfl) h0
  have hz0 : a0.size ≤ 1048576 := str_bulk hbk (.head _)
  obtain ⟨a1, len1, cap1, rfl⟩ := okWide_slice Try.underlying24 (hval 1 24 v1 rfl rfl)
  have lt1 : ∀ x ∈ p1, x.block < W.heap.size := by obtain ⟨m, hm⟩ := h1; exact DataW.trod_lt m _ _ _ hm
  have hb1 : Rows.uptoBulk d1 ≤ 1048576 := Nat.le_trans (Z.bulk_mem (.tail _ (.head _))) hbk
  obtain ⟨l1, rfl, hlc1, hC1, hlen1, htx1⟩ := Z.bulk_edits hb1 h1
  clear hA0 hval0
  obtain ⟨k, hk⟩ := Pure.EditTwice a0 l1 hz0 hlen1 htx1
  refine (Z.regletlaw18_EditTwice.calls k a0 a1 cap1 l1 true W hC1 hlc1 hk).mono fun e W' ⟨he, bel⟩ => ?_
  subst he
  exact ⟨_, rfl, _, _, _, [], _, [], hW', trodAll_mk1 (shut_bool Try.underlying4 _), (trodAll_cons_mk (shut_string Try.underlying9 y0) (trodAll_cons_mk (Below.trod laidOut (by kernel_rfl) (of_decide_eq_true (by kernel_rfl)) h1 bel lt1) trodAll_mk0)), rfl, bel.frame _, fun h => by cases h⟩
set_option maxRecDepth 100000 in
theorem lifted (os : Os) (started : os.Started) (H : Type) (enc : TypeId × Value → H) (F : Stop.Interp) :
    ReturnsInHanded {} Try.checked os 8 .any ((Rows.OpenSpec.upto Rows.editTwiceSpec).pre6 enc Try.prog Try.f8 Rows.editTwiceUptoRow.domain false) (((Rows.OpenSpec.upto Rows.editTwiceSpec).at F).post enc Try.prog Try.f8 false true false false) := by
  refine returnsInHanded_of_cond (C := Try.checked) (s := Rows.OpenSpec.upto Rows.editTwiceSpec) (k := Rows.uptoSmall) rfl own started (by kernel_rfl) Try.func8
    (OpenSpec.witness (enc := enc) (C := Try.checked) (s := Rows.OpenSpec.upto Rows.editTwiceSpec) (k := Rows.uptoSmall) rfl false ⟨#[], #[.string ByteArray.empty, .slice none 0 0], []⟩ 8 (by kernel_rfl) (by kernel_rfl) (by kernel_rfl)
      (x := ([.lit (.string []), .nil], [], [])) (by kernel_rfl) rfl (by kernel_rfl)) ?_
  intro W base args ds gs before hval hW _ hk _
  exact contract H enc W base args ds gs before hval hW hk
theorem over : Rows.editTwiceUptoRow.holds Try.pinned (Rows.OpenSpec.upto Rows.editTwiceSpec) :=
  OpenClaim.holds_of_cond 8 Try.f8 rfl rfl rfl rfl rfl rfl rfl ⟨rfl, rfl, rfl, rfl, rfl⟩ rfl rfl rfl rfl rfl (by kernel_rfl) Try.func8 (by kernel_rfl)
    (of_decide_eq_true (by kernel_rfl)) (by unfold Func.isWrapper; first | (rw [if_pos (by decide +kernel)]; kernel_rfl) | (rw [if_neg (by decide +kernel)]; exact ⟨rfl, rfl⟩))
    (fun os started H enc _ F => lifted os started H enc F)
theorem proved : Rows.EditTwiceUptoSaid := over
end Go.Proofs.Ytmecmmpgkcileaa.editTwice
namespace Go.Proofs.Ytmecmmpgkcileaa
/-- The row, under a short name, for the claim. -/
theorem editTwice_holds : Rows.EditTwiceUptoSaid := editTwice.proved
end Go.Proofs.Ytmecmmpgkcileaa
