/- The closure in edit.Between: what it adds to the row of edits. -/
import Derived.Test.YtmecmmpgkcileaaGApply
namespace Go.Proofs.Ytmecmmpgkcileaa.Z
open Go.RowKit Go.Shelf Go.Proofs.YtmecmmpgkcileaaW.PrintWords Go.Proofs.YtmecmmpgkcileaaW.PrintLast Go.Proofs.YtmecmmpgkcileaaW.PrintMore Go.Proofs.Ytmecmmpgkcileaa.Rf

/-- What the closure adds. -/
def closeStep (y : List ByteArray) (xs : List S33) (i f j p : Nat) : List S33 :=
  if f < i ∨ p < j then xs ++ [⟨(f : Int), (i : Int), ⟨(catL ((y.take j).drop p)).toArray⟩⟩] else xs

/-- What the closure leaves: its box and its row of edits; all else stays. -/
def ClosedTo (Bo B : Nat) (v : Value) (ys : List S33) (W W' : World) : Prop :=
  (∃ v', Boxed W' Bo 24 v' ∧ Kd.R k33 33 W' B (fun k => B ≤ k) v' ys) ∧ (∀ k, k < W.heap.size → k ≠ Bo → some k ≠ v.ownBlock → W'.heap[k]? = W.heap[k]?) ∧ Below Bo W W'

theorem catL_sub (y : List ByteArray) (p j : Nat) : (catL ((y.take j).drop p)).length ≤ (catL y).length := by
  have h1 : (catL y) = catL (y.take j) ++ catL (y.drop j) := by unfold catL; rw [← List.flatten_append, ← List.map_append, List.take_append_drop]
  have h2 : catL (y.take j) = catL ((y.take j).take p) ++ catL ((y.take j).drop p) := by unfold catL; rw [← List.flatten_append, ← List.map_append, List.take_append_drop]
  rw [h1, h2]
  simp only [List.length_append]
  omega

theorem closedTo_box {Bo B : Nat} {v : Value} {W W0 w1 : World} (hO : Boxed W Bo 24 v) (hb : Below B W W0) (hBo : Bo < B) (hv : ∀ k, v.ownBlock = some k → B ≤ k)
    (hg : W0.grownBy w1 v.ownBlock) : Boxed w1 Bo 24 v := by
  have hlt := hO.lt
  exact (hg.block Bo (by have := hb.size; omega) (fun e => by have := hv Bo e.symm; omega)).trans ((hb.block _ hBo).trans hO)

/-- The row has grown by one, and its box is told so. -/
theorem closedTo_add {Bo B : Nat} {v v1 : Value} {xs : List S33} {x : S33} {W W0 w1 : World} (hO : Boxed W Bo 24 v) (h0 : Below W.heap.size W W0) (hB : B ≤ W.heap.size) (hBo : Bo < B) (hv : ∀ k, v.ownBlock = some k → B ≤ k)
    (hg : W0.grownBy w1 v.ownBlock) (hb : Below B W w1) (ho : Kd.R k33 33 w1 B (fun k => B ≤ k) v1 (xs ++ [x])) : ClosedTo Bo B v (xs ++ [x]) W (w1.setCell ⟨Bo, 0, none⟩ v1) := by
  have e := closedTo_box hO (h0.mono hB) hBo hv hg
  have hs := h0.size
  refine ⟨⟨v1, e.set v1, Kd.R_far ho (fun k hk e => by have : k = Bo := e; omega) v1⟩, fun k hk hkb hkv => ?_, (hb.mono (Nat.le_of_lt hBo)).setCell (p := ⟨Bo, 0, none⟩) (Nat.le_refl _) v1⟩
  exact ((grownBy_setCell' w1 Bo v1).block k (by have := hg.size; omega) (fun e => hkb (Option.some.inj e))).trans ((hg.block k (by omega) hkv).trans (h0.block k hk))

set_option maxRecDepth 100000 in
set_option maxHeartbeats 4000000 in
theorem close1 (By Bo Bi Bj Bf Bp B : Nat) (v : Value) (xs : List S33) (y : List ByteArray) (Ay : Option Addr) (cy : Nat) (i f j p : Nat) (W : World) (hO : Boxed W Bo 24 v) (hI : Boxed W Bi 3 (.int .i64 (i : Int)))
    (hJ : Boxed W Bj 3 (.int .i64 (j : Int))) (hF : Boxed W Bf 3 (.int .i64 (f : Int))) (hP : Boxed W Bp 3 (.int .i64 (p : Int))) (hY : Boxed W By 22 (.slice Ay y.length cy)) (hC : Kd.C Kd.string W Ay y.length y) (hcy : y.length ≤ cy)
    (hR : Kd.R k33 33 W B (fun k => B ≤ k) v xs) (by_ : By < Bo) (bo : Bo < B) (bi : Bi < B) (bj : Bj < B) (bf : Bf < B) (bp : Bp < B)
    (hB : B ≤ W.heap.size) (hl : xs.length < 1073741824) (hp : p ≤ j) (hj : j ≤ y.length) (hyl : y.length ≤ 4398046511104) (hcat : (catL y).length ≤ 4398046511104) :
    Calls Try.prog 45 #[.pointer (some ⟨Bi, 0, none⟩), .pointer (some ⟨Bf, 0, none⟩), .pointer (some ⟨Bj, 0, none⟩), .pointer (some ⟨Bp, 0, none⟩), .pointer (some ⟨Bo, 0, none⟩), .pointer (some ⟨By, 0, none⟩)] W fun e W' => (∃ u, e = .returned u) ∧ ClosedTo Bo B v (closeStep y xs i f j p) W W' := by
  have hu33 := Try.underlying33
  have hu24 := Try.underlying24
  have HV := Lib.hid (show ∀ k, v.ownBlock = some k → B ≤ k from fun k hk => hR.1 k hk)
  have cO := hO.cell
  have fO := hO.frozen
  have cI := hI.cell
  have cJ := hJ.cell
  have cF := hF.cell
  have cP := hP.cell
  have cY := hY.cell
  have HR := Lib.hid hR; clear hR
  have HO := Lib.hid hO; clear hO
  have HC := Lib.hid hC; clear hC
  clear hI hJ hF hP hY
  by_cases hc : f < i ∨ p < j
  · have hk : closeStep y xs i f j p = xs ++ [⟨(f : Int), (i : Int), ⟨(catL ((y.take j).drop p)).toArray⟩⟩] := by unfold closeStep; rw [if_pos hc]
    rw [hk]
    clear hk
    have hcl := catL_sub y p j
    obtain ⟨i0, hi0, _, hsz0, _⟩ := info_parts info9
    have hcut := cut_mid (P := Try.prog) 22 9 .i64 .i64 Try.underlying22 hi0 1 hsz0 Ay y.length cy (p : Int) (j : Int) (by omega) (by omega) (by omega) hcy
    have hr := Kd.C_mid (lo := p) (hi := j) (c := cy) HC.out hp hj hcy
    clear hi0 hsz0
    obtain ⟨ys, hys⟩ : ∃ ys, ys = (y.take j).drop p := ⟨_, rfl⟩
    have hyl2 : ys.length = j - p := by rw [hys, List.length_drop, List.length_take]; omega
    rw [← hys] at hr hcl ⊢
    obtain ⟨Az, hAz⟩ : ∃ Az, Az = (if cy = ((p : Nat) : Int).toNat then Ay else (Ay : Option Addr).map (·.add (((p : Nat) : Int).toNat * 1))) := ⟨_, rfl⟩
    obtain ⟨cz, hcz⟩ : ∃ cz, cz = cy - ((p : Nat) : Int).toNat := ⟨_, rfl⟩
    replace hr : Kd.C Kd.string W Az ys.length ys := by rw [hAz, hyl2]; rw [hyl2] at hr; exact hr
    have hyl' : ((j : Nat) : Int).toNat - ((p : Nat) : Int).toNat = ys.length := by rw [hyl2]; rfl
    rw [← hAz, ← hcz, hyl'] at hcut
    have hyc : ys.length ≤ cz := by rw [hcz, hyl2]; simp; omega
    obtain ⟨z, hz⟩ : ∃ z : ByteArray, z = ⟨(catL ys).toArray⟩ := ⟨_, rfl⟩
    have hjn : strings_Join.f ys (⟨#[]⟩ : ByteArray) = some z := by
      unfold strings_Join.f
      rw [if_pos ⟨rfl, by omega, by omega⟩, hz]
    rw [← hz]
    have HY := Lib.hid hr; clear hr
    have HJ := Lib.hid hjn; clear hjn
    clear hys hyl2 hyl' hAz hcz hcl hz
    have HWD := Lib.hid (((Below.refl W.heap.size W).drew))
    have HS := Lib.hid (show ∀ w', Below B W w' → w'.cell? ⟨Bo, 0, none⟩ = some v ∧ w'.cell? ⟨Bf, 0, none⟩ = some (.int .i64 (f : Int)) ∧ w'.cell? ⟨Bi, 0, none⟩ = some (.int .i64 (i : Int)) ∧ w'.cell? ⟨By, 0, none⟩ = some (.slice Ay y.length cy) ∧ w'.cell? ⟨Bp, 0, none⟩ = some (.int .i64 (p : Int)) ∧ w'.cell? ⟨Bj, 0, none⟩ = some (.int .i64 (j : Int)) from
      fun w' h => ⟨(h.cell bo).trans cO, (h.cell bf).trans cF, (h.cell bi).trans cI, (h.cell (p := ⟨By, 0, none⟩) (Nat.lt_trans by_ bo)).trans cY, (h.cell bp).trans cP, (h.cell bj).trans cJ⟩)
    by_cases c1 : f < i
    · have c1' : decide (f < i) = true := decide_eq_true c1
      clear hc
      go_enter Try.func45, Try.ntmps45
      go_upto_region 1 with (fail)
      refine start_ (n := 12) (S := fun w' => w'.cell? ⟨Bo, 0, none⟩ = some v ∧ w'.cell? ⟨Bf, 0, none⟩ = some (.int .i64 (f : Int)) ∧ w'.cell? ⟨Bi, 0, none⟩ = some (.int .i64 (i : Int)) ∧ w'.cell? ⟨By, 0, none⟩ = some (.slice Ay y.length cy) ∧ w'.cell? ⟨Bp, 0, none⟩ = some (.int .i64 (p : Int)) ∧ w'.cell? ⟨Bj, 0, none⟩ = some (.int .i64 (j : Int))) (ds := [11]) #[false, false, false, false, false, false, false, false, false, false, false, false] (by kernel_rfl) rfl rfl (HS.out _ (HWD.out.mono hB)) (fun hHeld => ?_)
      generalize W.drew = W2 at HWD hHeld ⊢
      refine take_ (i := 0) (N := some 14) (v := ?_) (a' := ?_) #[true, false, false, false, false, false, false, false, false, false, false, false] rfl rfl (by kernel_rfl) (fun _ _ _ h => h) (Or.inl ⟨by rfl, ?_⟩) hHeld ?_ ?_
      rotate_left
      · rintro w' ⟨s0, s1, s2, s3, s4, s5⟩
        go_simp
        with_reducible rfl
      rotate_left
      · simp only [Act.put, List.setIfInBounds_toArray, List.set_cons_zero, List.set_cons_succ]
        rfl
      refine take_ (i := 1) (N := some 15) (v := ?_) (a' := ?_) #[true, true, false, false, false, false, false, false, false, false, false, false] rfl rfl (by kernel_rfl) (fun _ _ _ h => h) (Or.inl ⟨by rfl, ?_⟩) hHeld ?_ ?_
      rotate_left
      · rintro w' ⟨s0, s1, s2, s3, s4, s5⟩
        go_simp
        with_reducible rfl
      rotate_left
      · simp only [Act.put, List.setIfInBounds_toArray, List.set_cons_zero, List.set_cons_succ]
        rfl
      refine take_ (i := 2) (N := some 16) (v := ?_) (a' := ?_) #[true, true, true, false, false, false, false, false, false, false, false, false] rfl rfl (by kernel_rfl) (fun _ _ _ h => h) (Or.inl ⟨by rfl, ?_⟩) hHeld ?_ ?_
      rotate_left
      · rintro w' ⟨s0, s1, s2, s3, s4, s5⟩
        go_simp
        with_reducible rfl
      rotate_left
      · simp only [Act.put, List.setIfInBounds_toArray, List.set_cons_zero, List.set_cons_succ]
        rfl
      refine take_ (i := 3) (N := some 17) (v := ?_) (a' := ?_) #[true, true, true, true, false, false, false, false, false, false, false, false] rfl rfl (by kernel_rfl) (fun _ _ _ h => h) (Or.inl ⟨by rfl, ?_⟩) hHeld ?_ ?_
      rotate_left
      · rintro w' ⟨s0, s1, s2, s3, s4, s5⟩
        go_simp
        with_reducible rfl
      rotate_left
      · simp only [Act.put, List.setIfInBounds_toArray, List.set_cons_zero, List.set_cons_succ]
        rfl
      refine take_ (i := 4) (N := some 18) (v := ?_) (a' := ?_) #[true, true, true, true, true, false, false, false, false, false, false, false] rfl rfl (by kernel_rfl) (fun _ _ _ h => h) (Or.inl ⟨by rfl, ?_⟩) hHeld ?_ ?_
      rotate_left
      · rintro w' ⟨s0, s1, s2, s3, s4, s5⟩
        go_simp
        with_reducible rfl
      rotate_left
      · simp only [Act.put, List.setIfInBounds_toArray, List.set_cons_zero, List.set_cons_succ]
        rfl
      refine take_ (i := 5) (N := some 19) (v := ?_) (a' := ?_) #[true, true, true, true, true, true, false, false, false, false, false, false] rfl rfl (by kernel_rfl) (fun _ _ _ h => h) (Or.inl ⟨by rfl, ?_⟩) hHeld ?_ ?_
      rotate_left
      · rintro w' ⟨s0, s1, s2, s3, s4, s5⟩
        go_simp
        with_reducible rfl
      rotate_left
      · simp only [Act.put, List.setIfInBounds_toArray, List.set_cons_zero, List.set_cons_succ]
        rfl
      refine pure_ (i := 6) (N := some 20) (v := ?_) (a' := ?_) #[true, true, true, true, true, true, true, false, false, false, false, false] rfl rfl (by kernel_rfl) (fun _ _ _ h => h) (Or.inl ⟨by rfl, ?_⟩) ?_ ?_
      rotate_left
      · intro w'
        go_simp
        with_reducible rfl
      rotate_left
      · simp only [Act.put, List.setIfInBounds_toArray, List.set_cons_zero, List.set_cons_succ]
        rfl
      refine one_ (i := 7) (N := some 21) #[true, true, true, true, true, true, true, true, false, false, false, false] rfl rfl (by kernel_rfl) (by decide) (fun K hK => ?_)
      refine goes_ Try.func46 (by kernel_rfl) rfl #[.slice Az ys.length cz, .string (⟨#[]⟩ : ByteArray)] (by rfl) rfl rfl (by (try simp only [List.map_toArray, List.map_cons, List.map_nil]); first | done | rfl) ?_
      refine (strings_Join.calls Az cz ys (⟨#[]⟩ : ByteArray) z _ (Kd.C_below HY.out HWD.out) hyc HJ.out).mono ?_
      rintro e w4 ⟨rfl, hb4⟩
      refine ⟨_, rfl, ?_⟩
      have HB4 := Lib.hid (HWD.out.trans (hb4.mono HWD.out.size))
      clear hb4
      refine hK.out _ _ (HS.out _ (HB4.out.mono hB)) (fun hHeld => ?_)
      clear hK K
      refine norm_ (a' := ?_) ?_ ?_
      rotate_left
      · show Act.put _ (some 21) _ = _
        simp only [Act.put, List.setIfInBounds_toArray, List.set_cons_zero, List.set_cons_succ]
        rfl
      refine pure_ (i := 8) (N := some 22) (v := ?_) (a' := ?_) #[true, true, true, true, true, true, true, true, true, false, false, false] rfl rfl (by kernel_rfl) (fun _ _ _ h => h) (Or.inl ⟨by rfl, ?_⟩) ?_ ?_
      rotate_left
      · intro w'
        go_simp
        with_reducible rfl
      rotate_left
      · simp only [Act.put, List.setIfInBounds_toArray, List.set_cons_zero, List.set_cons_succ]
        rfl
      refine one_ (i := 9) (N := some 23) #[true, true, true, true, true, true, true, true, true, true, false, false] rfl rfl (by kernel_rfl) (by decide) (fun K hK => ?_)
      refine value_ (w1 := ?_) (v := ?_) (by rfl) rfl ?_ ?_
      rotate_left 2
      · go_simp
        constructor
        · rfl
        · rfl
      refine hK.out _ _ (HS.out _ ((HB4.out.mono hB).alloc (Nat.le_trans hB HB4.out.size) _)) (fun hHeld => ?_)
      clear hK K
      refine norm_ (a' := ?_) ?_ ?_
      rotate_left
      · show Act.put _ (some 23) _ = _
        simp only [Act.put, List.setIfInBounds_toArray, List.set_cons_zero, List.set_cons_succ]
        rfl
      refine one_ (i := 10) (N := some 24) #[true, true, true, true, true, true, true, true, true, true, true, false] rfl rfl (by kernel_rfl) (by decide) (fun K hK => ?_)
      refine Kd.R_append_step k33 (w0 := W) B (by rfl) (.tmp 14) (.tmp 23) 24 33 (.agg #[(.int .i64 0), (.int .i64 0), (.string ⟨#[]⟩)]) 32 rfl Try.underlying24 info33 rfl (by decide) (by omega) v xs (⟨(f : Int), (i : Int), z⟩ : S33) [.int .i64 (f : Int), .int .i64 (i : Int), .string z] (fun k => B ≤ k) (fun _ => False) rfl rfl ?aP (fun _ hk => hk.elim) ?aF ?aO ?aB ?aS ?aL ?_
      case aP => exact k33_mkM _ _ _ (⟨(f : Int), (i : Int), z⟩ : S33)
      case aF => exact fun k hk => Nat.le_trans (Nat.le_trans hB HB4.out.size) hk
      case aO => exact Kd.R_below HR.out HB4.out
      case aB => exact HB4.out.mono hB
      case aS => exact Nat.le_trans hB HB4.out.size
      case aL => omega
      intro v1 w1 ho hb1 hg hat
      obtain ⟨A1, c1n, rfl⟩ := Kd.R_slice ho
      have HBX := Lib.hid (closedTo_box HO.out (HB4.out.mono hB) bo HV.out hg)
      have HADD := Lib.hid (closedTo_add HO.out HB4.out hB bo HV.out hg hb1 ho)
      clear hat hg
      refine hK.out _ _ (HS.out _ hb1) (fun hHeld => ?_)
      clear hK K
      refine norm_ (a' := ?_) ?_ ?_
      rotate_left
      · show Act.put _ (some 24) _ = _
        simp only [Act.put, List.setIfInBounds_toArray, List.set_cons_zero, List.set_cons_succ]
        rfl
      have fB := HBX.out.frozen
      have cB := HBX.out.cell
      refine last_ (i := 11) (N := none) #[true, true, true, true, true, true, true, true, true, true, true, true] rfl rfl (by kernel_rfl) (by decide) (fun K hK => ?_)
      clear hHeld ho hb1
      go_simp
      refine hK.out _ _ ?_
      clear hK K
      refine done_ (by kernel_rfl) ?_
      go_wp2
      exact bodyPost_end (results_none rfl _ _ _) rfl ⟨⟨_, rfl⟩, by simpa using HADD.out⟩
    · have c1' : decide (f < i) = false := decide_eq_false c1
      have c2 : decide (p < j) = true := decide_eq_true (by omega)
      clear hc
      go_enter Try.func45, Try.ntmps45
      go_upto_region 1 with (fail)
      refine start_ (n := 12) (S := fun w' => w'.cell? ⟨Bo, 0, none⟩ = some v ∧ w'.cell? ⟨Bf, 0, none⟩ = some (.int .i64 (f : Int)) ∧ w'.cell? ⟨Bi, 0, none⟩ = some (.int .i64 (i : Int)) ∧ w'.cell? ⟨By, 0, none⟩ = some (.slice Ay y.length cy) ∧ w'.cell? ⟨Bp, 0, none⟩ = some (.int .i64 (p : Int)) ∧ w'.cell? ⟨Bj, 0, none⟩ = some (.int .i64 (j : Int))) (ds := [11]) #[false, false, false, false, false, false, false, false, false, false, false, false] (by kernel_rfl) rfl rfl (HS.out _ (HWD.out.mono hB)) (fun hHeld => ?_)
      generalize W.drew = W2 at HWD hHeld ⊢
      refine take_ (i := 0) (N := some 14) (v := ?_) (a' := ?_) #[true, false, false, false, false, false, false, false, false, false, false, false] rfl rfl (by kernel_rfl) (fun _ _ _ h => h) (Or.inl ⟨by rfl, ?_⟩) hHeld ?_ ?_
      rotate_left
      · rintro w' ⟨s0, s1, s2, s3, s4, s5⟩
        go_simp
        with_reducible rfl
      rotate_left
      · simp only [Act.put, List.setIfInBounds_toArray, List.set_cons_zero, List.set_cons_succ]
        rfl
      refine take_ (i := 1) (N := some 15) (v := ?_) (a' := ?_) #[true, true, false, false, false, false, false, false, false, false, false, false] rfl rfl (by kernel_rfl) (fun _ _ _ h => h) (Or.inl ⟨by rfl, ?_⟩) hHeld ?_ ?_
      rotate_left
      · rintro w' ⟨s0, s1, s2, s3, s4, s5⟩
        go_simp
        with_reducible rfl
      rotate_left
      · simp only [Act.put, List.setIfInBounds_toArray, List.set_cons_zero, List.set_cons_succ]
        rfl
      refine take_ (i := 2) (N := some 16) (v := ?_) (a' := ?_) #[true, true, true, false, false, false, false, false, false, false, false, false] rfl rfl (by kernel_rfl) (fun _ _ _ h => h) (Or.inl ⟨by rfl, ?_⟩) hHeld ?_ ?_
      rotate_left
      · rintro w' ⟨s0, s1, s2, s3, s4, s5⟩
        go_simp
        with_reducible rfl
      rotate_left
      · simp only [Act.put, List.setIfInBounds_toArray, List.set_cons_zero, List.set_cons_succ]
        rfl
      refine take_ (i := 3) (N := some 17) (v := ?_) (a' := ?_) #[true, true, true, true, false, false, false, false, false, false, false, false] rfl rfl (by kernel_rfl) (fun _ _ _ h => h) (Or.inl ⟨by rfl, ?_⟩) hHeld ?_ ?_
      rotate_left
      · rintro w' ⟨s0, s1, s2, s3, s4, s5⟩
        go_simp
        with_reducible rfl
      rotate_left
      · simp only [Act.put, List.setIfInBounds_toArray, List.set_cons_zero, List.set_cons_succ]
        rfl
      refine take_ (i := 4) (N := some 18) (v := ?_) (a' := ?_) #[true, true, true, true, true, false, false, false, false, false, false, false] rfl rfl (by kernel_rfl) (fun _ _ _ h => h) (Or.inl ⟨by rfl, ?_⟩) hHeld ?_ ?_
      rotate_left
      · rintro w' ⟨s0, s1, s2, s3, s4, s5⟩
        go_simp
        with_reducible rfl
      rotate_left
      · simp only [Act.put, List.setIfInBounds_toArray, List.set_cons_zero, List.set_cons_succ]
        rfl
      refine take_ (i := 5) (N := some 19) (v := ?_) (a' := ?_) #[true, true, true, true, true, true, false, false, false, false, false, false] rfl rfl (by kernel_rfl) (fun _ _ _ h => h) (Or.inl ⟨by rfl, ?_⟩) hHeld ?_ ?_
      rotate_left
      · rintro w' ⟨s0, s1, s2, s3, s4, s5⟩
        go_simp
        with_reducible rfl
      rotate_left
      · simp only [Act.put, List.setIfInBounds_toArray, List.set_cons_zero, List.set_cons_succ]
        rfl
      refine pure_ (i := 6) (N := some 20) (v := ?_) (a' := ?_) #[true, true, true, true, true, true, true, false, false, false, false, false] rfl rfl (by kernel_rfl) (fun _ _ _ h => h) (Or.inl ⟨by rfl, ?_⟩) ?_ ?_
      rotate_left
      · intro w'
        go_simp
        with_reducible rfl
      rotate_left
      · simp only [Act.put, List.setIfInBounds_toArray, List.set_cons_zero, List.set_cons_succ]
        rfl
      refine one_ (i := 7) (N := some 21) #[true, true, true, true, true, true, true, true, false, false, false, false] rfl rfl (by kernel_rfl) (by decide) (fun K hK => ?_)
      refine goes_ Try.func46 (by kernel_rfl) rfl #[.slice Az ys.length cz, .string (⟨#[]⟩ : ByteArray)] (by rfl) rfl rfl (by (try simp only [List.map_toArray, List.map_cons, List.map_nil]); first | done | rfl) ?_
      refine (strings_Join.calls Az cz ys (⟨#[]⟩ : ByteArray) z _ (Kd.C_below HY.out HWD.out) hyc HJ.out).mono ?_
      rintro e w4 ⟨rfl, hb4⟩
      refine ⟨_, rfl, ?_⟩
      have HB4 := Lib.hid (HWD.out.trans (hb4.mono HWD.out.size))
      clear hb4
      refine hK.out _ _ (HS.out _ (HB4.out.mono hB)) (fun hHeld => ?_)
      clear hK K
      refine norm_ (a' := ?_) ?_ ?_
      rotate_left
      · show Act.put _ (some 21) _ = _
        simp only [Act.put, List.setIfInBounds_toArray, List.set_cons_zero, List.set_cons_succ]
        rfl
      refine pure_ (i := 8) (N := some 22) (v := ?_) (a' := ?_) #[true, true, true, true, true, true, true, true, true, false, false, false] rfl rfl (by kernel_rfl) (fun _ _ _ h => h) (Or.inl ⟨by rfl, ?_⟩) ?_ ?_
      rotate_left
      · intro w'
        go_simp
        with_reducible rfl
      rotate_left
      · simp only [Act.put, List.setIfInBounds_toArray, List.set_cons_zero, List.set_cons_succ]
        rfl
      refine one_ (i := 9) (N := some 23) #[true, true, true, true, true, true, true, true, true, true, false, false] rfl rfl (by kernel_rfl) (by decide) (fun K hK => ?_)
      refine value_ (w1 := ?_) (v := ?_) (by rfl) rfl ?_ ?_
      rotate_left 2
      · go_simp
        constructor
        · rfl
        · rfl
      refine hK.out _ _ (HS.out _ ((HB4.out.mono hB).alloc (Nat.le_trans hB HB4.out.size) _)) (fun hHeld => ?_)
      clear hK K
      refine norm_ (a' := ?_) ?_ ?_
      rotate_left
      · show Act.put _ (some 23) _ = _
        simp only [Act.put, List.setIfInBounds_toArray, List.set_cons_zero, List.set_cons_succ]
        rfl
      refine one_ (i := 10) (N := some 24) #[true, true, true, true, true, true, true, true, true, true, true, false] rfl rfl (by kernel_rfl) (by decide) (fun K hK => ?_)
      refine Kd.R_append_step k33 (w0 := W) B (by rfl) (.tmp 14) (.tmp 23) 24 33 (.agg #[(.int .i64 0), (.int .i64 0), (.string ⟨#[]⟩)]) 32 rfl Try.underlying24 info33 rfl (by decide) (by omega) v xs (⟨(f : Int), (i : Int), z⟩ : S33) [.int .i64 (f : Int), .int .i64 (i : Int), .string z] (fun k => B ≤ k) (fun _ => False) rfl rfl ?aP (fun _ hk => hk.elim) ?aF ?aO ?aB ?aS ?aL ?_
      case aP => exact k33_mkM _ _ _ (⟨(f : Int), (i : Int), z⟩ : S33)
      case aF => exact fun k hk => Nat.le_trans (Nat.le_trans hB HB4.out.size) hk
      case aO => exact Kd.R_below HR.out HB4.out
      case aB => exact HB4.out.mono hB
      case aS => exact Nat.le_trans hB HB4.out.size
      case aL => omega
      intro v1 w1 ho hb1 hg hat
      obtain ⟨A1, c1n, rfl⟩ := Kd.R_slice ho
      have HBX := Lib.hid (closedTo_box HO.out (HB4.out.mono hB) bo HV.out hg)
      have HADD := Lib.hid (closedTo_add HO.out HB4.out hB bo HV.out hg hb1 ho)
      clear hat hg
      refine hK.out _ _ (HS.out _ hb1) (fun hHeld => ?_)
      clear hK K
      refine norm_ (a' := ?_) ?_ ?_
      rotate_left
      · show Act.put _ (some 24) _ = _
        simp only [Act.put, List.setIfInBounds_toArray, List.set_cons_zero, List.set_cons_succ]
        rfl
      have fB := HBX.out.frozen
      have cB := HBX.out.cell
      refine last_ (i := 11) (N := none) #[true, true, true, true, true, true, true, true, true, true, true, true] rfl rfl (by kernel_rfl) (by decide) (fun K hK => ?_)
      clear hHeld ho hb1
      go_simp
      refine hK.out _ _ ?_
      clear hK K
      refine done_ (by kernel_rfl) ?_
      go_wp2
      exact bodyPost_end (results_none rfl _ _ _) rfl ⟨⟨_, rfl⟩, by simpa using HADD.out⟩
  · have hk : closeStep y xs i f j p = xs := by unfold closeStep; rw [if_neg hc]
    rw [hk]
    clear hk
    have c1 : decide (f < i) = false := decide_eq_false (by omega)
    have c2 : decide (p < j) = false := decide_eq_false (by omega)
    clear hc
    go_enter Try.func45, Try.ntmps45
    go_wp2
    exact bodyPost_end (results_none rfl _ _ _) rfl ⟨⟨_, rfl⟩, ⟨_, HO.out, HR.out⟩, fun _ _ _ _ => rfl, Below.refl _ _⟩
end Go.Proofs.Ytmecmmpgkcileaa.Z
