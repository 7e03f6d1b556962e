/- The row of the second form of the law PlaceMoves, out of its plain statement and the walk. -/
import Derived.Test.YtmecmmpgkcileaaRows
import Derived.Test.YtmecmmpgkcileaaZ21
import Derived.Test.YtmecmmpgkcileaaOp3
import Derived.WalkKit
import Derived.ProofKit
import Derived.OpenShut
import Derived.ShutString
import Derived.ChangeOld
import Derived.Below
import Derived.JoinedCond
import Derived.Test.YtmecmmpgkcileaaPm
import Derived.Test.YtmecmmpgkcileaaPg1
namespace Go.Proofs.Ytmecmmpgkcileaa.Pure
open Go.RowKit Go.Proofs.Ytmecmmpgkcileaa.Z Go.Proofs.YtmecmmpgkcileaaW.PrintWords Go.Proofs.YtmecmmpgkcileaaW.PrintLast

theorem gone_stays {s : ByteArray} {l : List S33} (h : Ref s l) (k : Nat) : Gone s l k ↔ ¬ Stays (withTexts (linesB s) l) k := by
  have hs := h.s1
  have hc : ∀ e ∈ l, (cutOf (linesB s) e).from_ = begB (linesB s) e.f0.toNat ∧ (cutOf (linesB s) e).to_ = begB (linesB s) e.f1.toNat := fun e he => by
    obtain ⟨a, b, _⟩ := cutOf_fit (s := s) (by omega) (by have := h.text e he; omega) (fit_later (last := -1) h.fit e he).2.1
    exact ⟨a, b⟩
  constructor
  · rintro ⟨e, he, hk⟩ hst
    have := hst (cutOf (linesB s) e, e.f2.data.toList) (List.mem_map.2 ⟨e, he, rfl⟩)
    simp only at this
    rw [(hc e he).1, (hc e he).2] at this
    exact this hk
  · intro hn
    refine Classical.byContradiction fun hg => hn fun d hd hk => hg ?_
    obtain ⟨e, he, rfl⟩ := List.mem_map.1 hd
    simp only at hk
    rw [(hc e he).1, (hc e he).2] at hk
    exact ⟨e, he, hk⟩
theorem same64 (l : List S64) (hl : l.length ≤ 4611686018427387904) : Evs (fun k => regletref19_Same.f k l l) true := by
  refine Evs.congr (g := fun k => regletref19_Same.l0 k l l 0) (fun k => by unfold regletref19_Same.f; rw [if_pos rfl]) ?_
  have key : ∀ d i : Nat, i + d = l.length → Evs (fun k => regletref19_Same.l0 k l l (i : Int)) true := by
    intro d
    induction d with
    | zero =>
      intro i hi
      refine Evs.succ (Evs.congr (fun k => ?_) (Evs.ret _))
      simp only [regletref19_Same.l0]
      rw [if_neg (by omega)]
    | succ d ih =>
      intro i hi
      refine Evs.succ (Evs.congr (fun k => ?_) (ih (i + 1) (by omega)))
      simp only [regletref19_Same.l0]
      rw [if_pos (by omega), if_pos (by omega), if_pos (by omega), if_neg (by simp), wrap_succ _ (by omega)]
  exact key l.length 0 (by omega)
theorem keptRef {s : ByteArray} {l : List S33} (h : Small s l) (hf : fitB (linesB s) l = true) : Evs (fun k => regletref20_Kept.l0 k s l (linesB s) (List.replicate s.size false) 0) (keptB (linesB s) l s.size, 0) := by
  have hr := h.ref hf
  refine refKept_l0 hr (fun M hM => ?_) l.length 0 _ (by omega) ⟨by simp, fun k hk => ⟨fun e => by simp [List.getD_eq_getElem?_getD, hk] at e, fun ⟨e, he, _⟩ => by simp at he⟩⟩
  have h2 := refKept_l2 h.s1 M hM.1 s.size 0 [] (by omega) (by simp)
  have h3 := unmarked_cuts (h.cuts hf) M [] (fun k _ hk => (hM.2 k hk).trans (gone_stays hr k))
  rw [Nat.sub_zero] at h3
  rw [h3, ← keptB_eq] at h2
  exact h2

theorem PlaceMoves (s : ByteArray) (l : List S33) (p : Int) (hs : s.size ≤ 1048576) (hl : l.length ≤ 1048576) (ht : ∀ e ∈ l, e.f2.size ≤ 1048576) : ∃ k, regletlaw20_PlaceMoves.f k s l p = some true := by
  refine Evs.get (f := fun k => regletlaw20_PlaceMoves.f k s l p) ?_
  unfold regletlaw20_PlaceMoves.f
  obtain ⟨g, hg, hG⟩ := great_ev s l (by omega)
  refine Evs.bind hg ?_
  cases g with
  | true => simpa using Evs.ret true
  | false =>
    simp only [Bool.false_eq_true, if_false]
    have hgs := gsum_le ht
    have hmul := Nat.mul_le_mul_right (10 + 1048576) hl
    have hsum := hG rfl (by omega)
    have hS : Small s l := Small.of (by omega) (by omega) (fun e he => by have := ht e he; omega) (fun _ => hsum)
    have hs1 := hS.s1
    have htg := textSz_gsum l
    have hF : Fits s l := ⟨by omega, by omega, by omega⟩
    have hln := refLines s (by omega)
    rw [hS.move, hS.from_, hS.kept]
    by_cases hf : fitB (linesB s) l = true
    · have hr := hS.ref hf
      have hap : (applyB (linesB s) l).length ≤ 2000 := by have := hF.applyLen hf; omega
      have hR : applyR s l = (mkB (applyB (linesB s) l), 0) := by unfold applyR; rw [if_pos hf]
      simp only [if_pos hf, Option.bind_some]
      have hkl : (keptB (linesB s) l s.size).length ≤ 4611686018427387904 := by
        have := keepStep_length (keepCuts (cutsB (linesB s) l)).1 (keepCuts (cutsB (linesB s) l)).2 (s.size : Int)
        have h2 := keepCuts_length (cutsB (linesB s) l)
        have h3 : (cutsB (linesB s) l).length = l.length := by unfold cutsB; rw [List.length_map]
        unfold keptB
        omega
      have hKept : Evs (fun k => regletref20_Kept.f k s l) (keptB (linesB s) l s.size, 0) := by
        unfold regletref20_Kept.f
        refine Evs.bind hln (Evs.bind hF.fitR ?_)
        have c1 : (0 : Int) ≤ (s.size : Int) := by omega
        have c2 : s.size ≤ 281474976710656 := by omega
        simp only [if_pos hf, if_pos c1, Int.toNat_natCast, if_pos c2]
        exact keptRef hS hf
      have hMove : Evs (fun k => regletref20_Move.f k s l p) (if p < 0 ∨ (s.size : Int) < p then (0, 2) else (moveB (linesB s) l p, 0)) := by
        unfold regletref20_Move.f
        refine Evs.bind hln (Evs.bind hF.fitR ?_)
        simp only [if_pos hf]
        by_cases h1 : p < 0
        · simp only [if_pos h1, if_pos (Or.inl h1 : p < 0 ∨ (s.size : Int) < p)]
          refine Evs.succ (Evs.congr (fun k => ?_) (Evs.ret _))
          simp [regletref20_Move.j0]
        · by_cases h2 : (s.size : Int) < p
          · simp only [if_neg h1, if_pos (Or.inr h2 : p < 0 ∨ (s.size : Int) < p)]
            refine Evs.succ (Evs.congr (fun k => ?_) (Evs.ret _))
            simp [regletref20_Move.j0, h2]
          · simp only [if_neg h1, if_neg (show ¬ (p < 0 ∨ (s.size : Int) < p) by omega)]
            have := refMove_l0 hr p (by omega) (by omega) l.length 0 (-1) 0 (by omega) (by rw [List.drop_zero]; exact hf) (by omega) (by omega) (by omega)
            rw [List.drop_zero, Int.add_zero] at this
            refine Evs.succ (Evs.congr (fun k => ?_) this)
            simp only [regletref20_Move.j0]
            rw [if_neg (by simpa using h2)]
            rfl
      have hFrom : Evs (fun k => regletref20_From.f k s l p) (if p < 0 ∨ ((applyB (linesB s) l).length : Int) < p then (0, false, 2) else ((fromB (linesB s) l p).1, (fromB (linesB s) l p).2, 0)) := by
        unfold regletref20_From.f
        have h0 := hF.applyRef
        rw [hR] at h0
        refine Evs.bind h0 ?_
        simp only [if_true, mkB_size]
        by_cases h1 : p < 0
        · simp only [if_pos h1, if_pos (Or.inl h1 : p < 0 ∨ ((applyB (linesB s) l).length : Int) < p)]
          refine Evs.succ (Evs.congr (fun k => ?_) (Evs.ret _))
          simp [regletref20_From.j0]
        · by_cases h2 : ((applyB (linesB s) l).length : Int) < p
          · simp only [if_neg h1, if_pos (Or.inr h2 : p < 0 ∨ ((applyB (linesB s) l).length : Int) < p)]
            refine Evs.succ (Evs.congr (fun k => ?_) (Evs.ret _))
            simp [regletref20_From.j0, h2]
          · simp only [if_neg h1, if_neg (show ¬ (p < 0 ∨ ((applyB (linesB s) l).length : Int) < p) by omega)]
            have := refFrom_l0 hr p (by omega) (by omega) l.length 0 (-1) 0 (by omega) (by rw [List.drop_zero]; exact hf) (by omega) (by omega) (by omega)
            rw [List.drop_zero] at this
            have h2' : decide (p > ((applyB (linesB s) l).length : Int)) = false := decide_eq_false (by omega)
            show Evs (fun k => regletref20_From.j0 k s l p (decide (p > ((applyB (linesB s) l).length : Int)))) _
            rw [h2']
            refine Evs.succ ?_
            simp only [regletref20_From.j0, Bool.false_eq_true, if_false]
            exact Evs.bind hln this
      have e1 : (if p < 0 ∨ (s.size : Int) < p then some ((0 : Int), (2 : Int)) else some (moveB (linesB s) l p, 0)) = some (if p < 0 ∨ (s.size : Int) < p then (0, 2) else (moveB (linesB s) l p, 0)) := by split <;> rfl
      have e2 : (if p < 0 ∨ ((applyB (linesB s) l).length : Int) < p then some ((0 : Int), false, (2 : Int)) else some ((fromB (linesB s) l p).1, (fromB (linesB s) l p).2, 0)) = some (if p < 0 ∨ ((applyB (linesB s) l).length : Int) < p then (0, false, 2) else ((fromB (linesB s) l p).1, (fromB (linesB s) l p).2, 0)) := by split <;> rfl
      rw [e1, e2]
      simp only [Option.bind_some]
      refine Evs.bind hMove (Evs.bind hFrom (Evs.bind hKept ?_))
      simp only [if_true, beq_self_eq_true]
      refine Evs.bind (same64 _ hkl) ?_
      simpa using Evs.ret true
    · have hR : applyR s l = (⟨#[]⟩, 180) := by unfold applyR; rw [if_neg hf]
      simp only [if_neg hf, Option.bind_some]
      have hKept : Evs (fun k => regletref20_Kept.f k s l) ([], 180) := by
        unfold regletref20_Kept.f
        refine Evs.bind hln (Evs.bind hF.fitR ?_)
        simp only [if_neg hf]
        exact Evs.ret _
      have hMove : Evs (fun k => regletref20_Move.f k s l p) (0, 180) := by
        unfold regletref20_Move.f
        refine Evs.bind hln (Evs.bind hF.fitR ?_)
        simp only [if_neg hf]
        exact Evs.ret _
      have hFrom : Evs (fun k => regletref20_From.f k s l p) (0, false, 180) := by
        unfold regletref20_From.f
        have h0 := hF.applyRef
        rw [hR] at h0
        refine Evs.bind h0 ?_
        simpa using Evs.ret ((0 : Int), false, (180 : Int))
      refine Evs.bind hMove (Evs.bind hFrom (Evs.bind hKept ?_))
      simp only [if_true, beq_self_eq_true]
      refine Evs.bind (same64 [] (by simp)) ?_
      simpa using Evs.ret true
end Go.Proofs.Ytmecmmpgkcileaa.Pure
namespace Go.Proofs.Ytmecmmpgkcileaa.placeMoves
open Go.ChangeShapes Go.WideShapes Go.ChangeAt Go.RowKit
open Go.ChangeMaps (open_string shut_string)
theorem own : ownKnob Try.prog.godebug = none := by kernel_rfl
theorem laidOut : laidOutB Try.prog = true := by kernel_rfl
theorem str_bulk {H : Type} {a : ByteArray} {l : List (DataW H)} {B : Nat} (hk : Rows.uptoBulkAll l ≤ B) (h : (DataW.lit (.string a.data.toList) : DataW H) ∈ l) : a.size ≤ B := by
  have h1 := Z.bulk_mem h
  have h2 : a.data.toList.length = a.size := rfl
  simp only [Rows.uptoBulk] at h1
  omega
set_option maxRecDepth 100000 in
theorem contract (H : Type) (enc : TypeId × Value → H) (W : World) (base : Nat) (args : Array Value) (ds gs : List (DataW H)) (before : List MemPlace)
    (hval0 : ∀ (j : Nat) t v, Try.f9.params[j]? = some t → args[j]? = some v → Value.okWide Try.prog W .any base t v)
    (hW : DataW.Whole enc Try.prog Try.f9.params.toList Rows.placeMovesSpec.vars false W args.toList ds gs before) (hk0 : Rows.uptoSmall H (ds ++ gs) = true) :
    Calls Try.prog 9 args W fun e W' => ∃ v, e = .returned v ∧ Rows.placeMovesSpec.post enc Try.prog Try.f9 false true false false W args v W' := by
  have hval := hval0
  have hW' := hW
  obtain ⟨p, q, hA0, hV, rfl, hfz, hnd⟩ := hW
  have hA : DataW.TrodAll enc Try.prog W 0 (fun _ => true) true Try.f9.params.toList args.toList ds p := hA0
  rw [Try.params9] at hA hval
  obtain ⟨v0, vs0, d0, ds0, p0, q0, hargs, rfl, rfl, h0, r0⟩ := trodAll_cons hA
  obtain ⟨v1, vs1, d1, ds1, p1, q1, rfl, rfl, rfl, h1, r1⟩ := trodAll_cons r0
  obtain ⟨v2, vs2, d2, ds2, p2, q2, rfl, rfl, rfl, h2, r2⟩ := trodAll_cons r1
  obtain ⟨rfl, rfl, rfl⟩ := trodAll_nil r2
  obtain rfl : args = #[v0, v1, v2] := by cases args; simp_all
  obtain ⟨rfl, rfl⟩ := trodVars_none hV
  have hbk : Rows.uptoBulkAll [d0, d1, d2] ≤ 1048576 := of_decide_eq_true hk0
  obtain ⟨a0, rfl, rfl, rfl, y0⟩ := open_string Try.underlying9 (hval 0 9 v0 rfl rfl) h0
  have hz0 : a0.size ≤ 1048576 := str_bulk hbk (.head _)
  obtain ⟨a1, len1, cap1, rfl⟩ := okWide_slice Try.underlying24 (hval 1 24 v1 rfl rfl)
  have lt1 : ∀ x ∈ p1, x.block < W.heap.size := by obtain ⟨m, hm⟩ := h1; exact DataW.trod_lt m _ _ _ hm
  have hb1 : Rows.uptoBulk d1 ≤ 1048576 := Nat.le_trans (Z.bulk_mem (.tail _ (.head _))) hbk
  obtain ⟨l1, rfl, hlc1, hC1, hlen1, htx1⟩ := Z.bulk_edits hb1 h1
  obtain ⟨a2, rfl, rfl, rfl, w2⟩ := open_int Try.underlying3 (hval 2 3 v2 rfl rfl) h2
  clear hA0 hval0
  obtain ⟨k, hk⟩ := Pure.PlaceMoves a0 l1 a2 hz0 hlen1 htx1
  refine (Z.regletlaw20_PlaceMoves.calls k a0 a1 cap1 l1 a2 true W hC1 hlc1 hk).mono fun e W' ⟨he, bel⟩ => ?_
  subst he
  exact ⟨_, rfl, _, _, _, [], _, [], hW', trodAll_mk1 (shut_bool Try.underlying4 _), (trodAll_cons_mk (shut_string Try.underlying9 y0) (trodAll_cons_mk (Below.trod laidOut (by kernel_rfl) (of_decide_eq_true (by kernel_rfl)) h1 bel lt1) (trodAll_cons_mk (shut_int Try.underlying3 w2) trodAll_mk0))), rfl, bel.frame _, fun h => by cases h⟩
set_option maxRecDepth 100000 in
theorem lifted (os : Os) (started : os.Started) (H : Type) (enc : TypeId × Value → H) (F : Stop.Interp) :
    ReturnsInHanded {} Try.checked os 9 .any ((Rows.OpenSpec.upto Rows.placeMovesSpec).pre6 enc Try.prog Try.f9 Rows.placeMovesUptoRow.domain false) (((Rows.OpenSpec.upto Rows.placeMovesSpec).at F).post enc Try.prog Try.f9 false true false false) := by
  refine returnsInHanded_of_cond (C := Try.checked) (s := Rows.OpenSpec.upto Rows.placeMovesSpec) (k := Rows.uptoSmall) rfl own started (by kernel_rfl) Try.func9
    (OpenSpec.witness (enc := enc) (C := Try.checked) (s := Rows.OpenSpec.upto Rows.placeMovesSpec) (k := Rows.uptoSmall) rfl false ⟨#[], #[.string ByteArray.empty, .slice none 0 0, .int .i64 0], []⟩ 8 (by kernel_rfl) (by kernel_rfl) (by kernel_rfl)
      (x := ([.lit (.string []), .nil, .lit (.int .i64 0)], [], [])) (by kernel_rfl) rfl (by kernel_rfl)) ?_
  intro W base args ds gs before hval hW _ hk _
  exact contract H enc W base args ds gs before hval hW hk
theorem over : Rows.placeMovesUptoRow.holds Try.pinned (Rows.OpenSpec.upto Rows.placeMovesSpec) :=
  OpenClaim.holds_of_cond 9 Try.f9 rfl rfl rfl rfl rfl rfl rfl ⟨rfl, rfl, rfl, rfl, rfl⟩ rfl rfl rfl rfl rfl (by kernel_rfl) Try.func9 (by kernel_rfl)
    (of_decide_eq_true (by kernel_rfl)) (by unfold Func.isWrapper; first | (rw [if_pos (by decide +kernel)]; kernel_rfl) | (rw [if_neg (by decide +kernel)]; exact ⟨rfl, rfl⟩))
    (fun os started H enc _ F => lifted os started H enc F)
theorem proved : Rows.PlaceMovesUptoSaid := over
end Go.Proofs.Ytmecmmpgkcileaa.placeMoves
namespace Go.Proofs.Ytmecmmpgkcileaa
/-- The row, under a short name, for the claim. -/
theorem placeMoves_holds : Rows.PlaceMovesUptoSaid := placeMoves.proved
end Go.Proofs.Ytmecmmpgkcileaa
