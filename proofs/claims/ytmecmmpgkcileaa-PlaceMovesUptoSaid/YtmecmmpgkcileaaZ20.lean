/- Written by a program out of the translation; Lean checks it. -/
import Derived.Test.YtmecmmpgkcileaaZ0
import Derived.Test.YtmecmmpgkcileaaZ2
import Derived.Test.YtmecmmpgkcileaaZ3
import Derived.Test.YtmecmmpgkcileaaZ8
import Derived.Test.YtmecmmpgkcileaaZ19
namespace Go.Proofs.Ytmecmmpgkcileaa.Z
open Go.RowKit Go.Proofs.YtmecmmpgkcileaaW.PrintWords Go.Proofs.YtmecmmpgkcileaaW.PrintLast Go.Proofs.YtmecmmpgkcileaaW.PrintMore
attribute [local go_sem] max2_int min2_int max_two min_two max_three min_three max_four min_four   -- for this text's walks alone
set_option linter.unusedVariables false
set_option linter.unusedSimpArgs false

attribute [local go_sem high] eqA64
/-! ### regletref20_Kept: function 35 -/
mutual
def regletref20_Kept.l0 : Nat → ByteArray → List (S33) → List ByteArray → List Bool → Int → Option ((List (S64)) × Int)
  | 0, _, _, _, _, _ => none
  | k + 1, x0, x1, x6, x8, x9 => if x9 < (x1.length : Int) then (if 0 ≤ x9 then ((regletref20_begin.f k x6 ((rd_T33 x1 x9).f0)).bind fun t502 => ((regletref20_begin.f k x6 ((rd_T33 x1 x9).f1)).bind fun t504 => (regletref20_Kept.l1 k x0 x1 x6 x8 x9 t504 t502))) else (none)) else (regletref20_Kept.l2 k x0 x8 ([] : List (S64)) 0)
def regletref20_Kept.l1 : Nat → ByteArray → List (S33) → List ByteArray → List Bool → Int → Int → Int → Option ((List (S64)) × Int)
  | 0, _, _, _, _, _, _, _ => none
  | k + 1, x0, x1, x6, x8, x9, x11, x12 => if x12 < x11 then (if 0 ≤ x12 then (if x12 < (x8.length : Int) then (regletref20_Kept.l1 k x0 x1 x6 (x8.set (x12 : Int).toNat true) x9 x11 (wrap64 (x12 + 1))) else (none)) else (none)) else (regletref20_Kept.l0 k x0 x1 x6 x8 (wrap64 (x9 + 1)))
def regletref20_Kept.l2 : Nat → ByteArray → List Bool → List (S64) → Int → Option ((List (S64)) × Int)
  | 0, _, _, _, _ => none
  | k + 1, x0, x8, x13, x14 => if x14 < (x0.size : Int) then (if 0 ≤ x14 then (if x14 < (x8.length : Int) then (if rdOf false x8 x14 = true then (regletref20_Kept.l2 k x0 x8 x13 (wrap64 (x14 + 1))) else (if (x13.length : Int) > 0 then (if 0 ≤ (wrap64 ((x13.length : Int) - 1)) then (if (wrap64 ((x13.length : Int) - 1)) < (x13.length : Int) then (if ((rd_T64 x13 (wrap64 ((x13.length : Int) - 1))).f1) = x14 then (regletref20_Kept.l2 k x0 x8 (x13.set ((wrap64 ((x13.length : Int) - 1)) : Int).toNat (⟨(rd_T64 x13 (wrap64 ((x13.length : Int) - 1))).f0, wrap64 (x14 + 1)⟩ : S64)) (wrap64 (x14 + 1))) else (if x13.length < 8796093022208 then (regletref20_Kept.l2 k x0 x8 (x13 ++ [(⟨x14, wrap64 (x14 + 1)⟩ : S64)]) (wrap64 (x14 + 1))) else (none))) else (none)) else (none)) else (if x13.length < 8796093022208 then (regletref20_Kept.l2 k x0 x8 (x13 ++ [(⟨x14, wrap64 (x14 + 1)⟩ : S64)]) (wrap64 (x14 + 1))) else (none)))) else (none)) else (none)) else (some (x13, 0))
end
def regletref20_Kept.f (k : Nat) (a0 : ByteArray) (l1 : List (S33)) : Option ((List (S64)) × Int) := (regletref18_Lines.f k a0).bind fun t494 => ((regletref18_Fit.f k t494 l1).bind fun t497 => (if t497 = true then (if 0 ≤ (a0.size : Int) then (if ((a0.size : Int) : Int).toNat ≤ 281474976710656 then (regletref20_Kept.l0 k a0 l1 t494 (List.replicate ((a0.size : Int) : Int).toNat false) 0) else (none)) else (none)) else (some (([] : List (S64)), 180))))
theorem regletref20_Kept.mono_l : ∀ k, (∀ y0 y1 y2 y3 y4, LeO (regletref20_Kept.l0 k y0 y1 y2 y3 y4) (regletref20_Kept.l0 (k + 1) y0 y1 y2 y3 y4)) ∧ (∀ y0 y1 y2 y3 y4 y5 y6, LeO (regletref20_Kept.l1 k y0 y1 y2 y3 y4 y5 y6) (regletref20_Kept.l1 (k + 1) y0 y1 y2 y3 y4 y5 y6)) ∧ (∀ y0 y1 y2 y3, LeO (regletref20_Kept.l2 k y0 y1 y2 y3) (regletref20_Kept.l2 (k + 1) y0 y1 y2 y3))
  | 0 => ⟨fun _ _ _ _ _ r h => by simp [regletref20_Kept.l0] at h, fun _ _ _ _ _ _ _ r h => by simp [regletref20_Kept.l1] at h, fun _ _ _ _ r h => by simp [regletref20_Kept.l2] at h⟩
  | k + 1 => by
    obtain ⟨ih0, ih1, ih2⟩ := regletref20_Kept.mono_l k
    refine ⟨?_, ?_, ?_⟩
    · intro y0 y1 y2 y3 y4
      unfold regletref20_Kept.l0
      repeat' first
      | (with_reducible exact ih0 _ _ _ _ _)
      | (with_reducible exact ih1 _ _ _ _ _ _ _)
      | (with_reducible exact ih2 _ _ _ _)
      | (with_reducible exact regletref18_Fit.mono _ _ _)
      | (with_reducible exact regletref18_Lines.mono _ _)
      | (with_reducible exact regletref20_begin.mono _ _ _)
      | (with_reducible exact LeO.refl _)
      | (with_reducible exact LeO.none _)
      | (with_reducible refine LeO.ite ?_ ?_)
      | (with_reducible refine LeO.bind ?_ (fun _ => ?_))
      | exact ih0 _ _ _ _ _
      | exact ih1 _ _ _ _ _ _ _
      | exact ih2 _ _ _ _
      | exact regletref18_Fit.mono _ _ _
      | exact regletref18_Lines.mono _ _
      | exact regletref20_begin.mono _ _ _
      | exact LeO.none _
      | refine LeO.ite ?_ ?_
      | refine LeO.bind ?_ (fun _ => ?_)
    · intro y0 y1 y2 y3 y4 y5 y6
      unfold regletref20_Kept.l1
      repeat' first
      | (with_reducible exact ih0 _ _ _ _ _)
      | (with_reducible exact ih1 _ _ _ _ _ _ _)
      | (with_reducible exact ih2 _ _ _ _)
      | (with_reducible exact regletref18_Fit.mono _ _ _)
      | (with_reducible exact regletref18_Lines.mono _ _)
      | (with_reducible exact regletref20_begin.mono _ _ _)
      | (with_reducible exact LeO.refl _)
      | (with_reducible exact LeO.none _)
      | (with_reducible refine LeO.ite ?_ ?_)
      | (with_reducible refine LeO.bind ?_ (fun _ => ?_))
      | exact ih0 _ _ _ _ _
      | exact ih1 _ _ _ _ _ _ _
      | exact ih2 _ _ _ _
      | exact regletref18_Fit.mono _ _ _
      | exact regletref18_Lines.mono _ _
      | exact regletref20_begin.mono _ _ _
      | exact LeO.none _
      | refine LeO.ite ?_ ?_
      | refine LeO.bind ?_ (fun _ => ?_)
    · intro y0 y1 y2 y3
      unfold regletref20_Kept.l2
      repeat' first
      | (with_reducible exact ih0 _ _ _ _ _)
      | (with_reducible exact ih1 _ _ _ _ _ _ _)
      | (with_reducible exact ih2 _ _ _ _)
      | (with_reducible exact regletref18_Fit.mono _ _ _)
      | (with_reducible exact regletref18_Lines.mono _ _)
      | (with_reducible exact regletref20_begin.mono _ _ _)
      | (with_reducible exact LeO.refl _)
      | (with_reducible exact LeO.none _)
      | (with_reducible refine LeO.ite ?_ ?_)
      | (with_reducible refine LeO.bind ?_ (fun _ => ?_))
      | exact ih0 _ _ _ _ _
      | exact ih1 _ _ _ _ _ _ _
      | exact ih2 _ _ _ _
      | exact regletref18_Fit.mono _ _ _
      | exact regletref18_Lines.mono _ _
      | exact regletref20_begin.mono _ _ _
      | exact LeO.none _
      | refine LeO.ite ?_ ?_
      | refine LeO.bind ?_ (fun _ => ?_)
theorem regletref20_Kept.mono : ∀ a0 a1 k, LeO (regletref20_Kept.f k a0 a1) (regletref20_Kept.f (k + 1) a0 a1) := by
  intro a0 a1 k
  obtain ⟨ih0, ih1, ih2⟩ := regletref20_Kept.mono_l k
  unfold regletref20_Kept.f
  repeat' first
      | (with_reducible exact ih0 _ _ _ _ _)
      | (with_reducible exact ih1 _ _ _ _ _ _ _)
      | (with_reducible exact ih2 _ _ _ _)
      | (with_reducible exact regletref18_Fit.mono _ _ _)
      | (with_reducible exact regletref18_Lines.mono _ _)
      | (with_reducible exact regletref20_begin.mono _ _ _)
      | (with_reducible exact LeO.refl _)
      | (with_reducible exact LeO.none _)
      | (with_reducible refine LeO.ite ?_ ?_)
      | (with_reducible refine LeO.bind ?_ (fun _ => ?_))
      | exact ih0 _ _ _ _ _
      | exact ih1 _ _ _ _ _ _ _
      | exact ih2 _ _ _ _
      | exact regletref18_Fit.mono _ _ _
      | exact regletref18_Lines.mono _ _
      | exact regletref20_begin.mono _ _ _
      | exact LeO.none _
      | refine LeO.ite ?_ ?_
      | refine LeO.bind ?_ (fun _ => ?_)
set_option maxHeartbeats 8000000 in
set_option maxRecDepth 100000 in
theorem regletref20_Kept.calls (k : Nat) (a0 : ByteArray) (A1 : Option Addr) (c1 : Nat) (l1 : List (S33)) (r1 : List (S64)) (r2 : Int) (w : World) (hr1 : Kd.C k33 w A1 l1.length l1) (hc1 : l1.length ≤ c1) (h : regletref20_Kept.f k a0 l1 = some (r1, r2)) :
    Calls Try.prog 35 #[.string a0, .slice A1 l1.length c1] w fun e w' => ∃ v0_ : Value, e = .returned (.tuple #[v0_, .int .i64 r2]) ∧ Kd.R k64 64 w' w.heap.size (fun _ => True) v0_ r1 ∧ Below w.heap.size w w' := by
  have hu64 := Try.underlying64
  have HR1 := Aside0.mk hr1
  have HC1 := Aside0.mk hc1
  clear hr1 hc1
  have HB := Aside0.mk (Below.refl w.heap.size w)
  have H : ((regletref18_Lines.f k a0).bind fun t494 => ((regletref18_Fit.f k t494 l1).bind fun t497 => (if t497 = true then (if 0 ≤ (a0.size : Int) then (if ((a0.size : Int) : Int).toNat ≤ 281474976710656 then (regletref20_Kept.l0 k a0 l1 t494 (List.replicate ((a0.size : Int) : Int).toNat false) 0) else (none)) else (none)) else (some (([] : List (S64)), 180))))) = some (r1, r2) := h
  clear h
  replace H := Option.bind_eq_some_iff.mp H
  obtain ⟨t494, A30, H⟩ := H
  replace H : ((regletref18_Fit.f k t494 l1).bind fun t497 => (if t497 = true then (if 0 ≤ (a0.size : Int) then (if ((a0.size : Int) : Int).toNat ≤ 281474976710656 then (regletref20_Kept.l0 k a0 l1 t494 (List.replicate ((a0.size : Int) : Int).toNat false) 0) else (none)) else (none)) else (some (([] : List (S64)), 180)))) = some (r1, r2) := H
  have A3 := Aside0.mk A30
  clear A30
  replace H := Option.bind_eq_some_iff.mp H
  obtain ⟨t497, A40, H⟩ := H
  replace H : (if t497 = true then (if 0 ≤ (a0.size : Int) then (if ((a0.size : Int) : Int).toNat ≤ 281474976710656 then (regletref20_Kept.l0 k a0 l1 t494 (List.replicate ((a0.size : Int) : Int).toNat false) 0) else (none)) else (none)) else (some (([] : List (S64)), 180))) = some (r1, r2) := H
  have A4 := Aside0.mk A40
  clear A40
  by_cases c5 : t497 = true
  · subst c5
    have H1 : (if 0 ≤ (a0.size : Int) then (if ((a0.size : Int) : Int).toNat ≤ 281474976710656 then (regletref20_Kept.l0 k a0 l1 t494 (List.replicate ((a0.size : Int) : Int).toNat false) 0) else (none)) else (none)) = some (r1, r2) := by rw [if_pos rfl] at H; exact H
    clear H
    have H := H1
    clear H1
    by_cases c6 : 0 ≤ (a0.size : Int)
    · rw [if_pos c6] at H
      have c6b0 := eq_true c6
      have c6b1 : decide (0 ≤ (a0.size : Int)) = true := decide_eq_true c6
      clear c6
      by_cases c7 : ((a0.size : Int) : Int).toNat ≤ 281474976710656
      · rw [if_pos c7] at H
        have c7b0 := eq_true c7
        have c7b1 : decide (((a0.size : Int) : Int).toNat ≤ 281474976710656) = true := decide_eq_true c7
        clear c7
        obtain ⟨y498, hy498⟩ : ∃ y_ : List Bool, y_ = (List.replicate ((a0.size : Int) : Int).toNat false) := ⟨_, rfl⟩
        replace H : (regletref20_Kept.l0 k a0 l1 t494 y498 0) = some (r1, r2) := by first | (rw [hy498]; with_reducible exact H) | (have H2_ := (Option.bind_some _ _).symm.trans H; rw [hy498]; with_reducible exact H2_) | (have H2_ := (Option.bind_some _ _).symm.trans H; with_reducible exact H2_) | with_reducible exact H | (rw [hy498]; exact H) | exact H
        have Ny498 := Aside0.mk hy498
        clear hy498
        have H' := Aside0.mk H
        clear H
        go_enter Try.func35, Try.ntmps35
        go_wp2_with (first | ((with_reducible refine gate_callee (f := 18) rfl ?_); refine goesL_ (some 17) rfl rfl Try.func18 (by kernel_rfl) rfl #[.string a0] rfl (by (try simp only [List.map_toArray, List.map_cons, List.map_nil]); first | done | rfl | (simp only [List.length_drop, List.length_take]; rfl)) ?_; (with_reducible refine (regletref18_Lines.calls k a0 t494 _ A3.out).mono ?_); rintro e w8 ⟨v495, rfl, ho0, hb⟩; refine ⟨_, rfl, ?_⟩; have n0_ := Aside0.mk (Kd.R_lower ho0 (below_size (by repeat (first | (with_reducible first | exact HB.out | apply below_alloc | apply pw_below_drewN | apply below_drew1) | exact HB.out)))); have n1_ := Aside0.mk (below_step (by repeat (first | (with_reducible first | exact HB.out | apply below_alloc | apply pw_below_drewN | apply below_drew1) | exact HB.out)) hb); clear HB; have HO496 := n0_; have HB := n1_; clear n0_ n1_; (try clear hb); (try clear hb2); (try clear hk); (try clear hi); (try clear ho0); obtain ⟨Ao9, co9, eo9⟩ := Kd.R_slice HO496.out; subst eo9) | ((with_reducible refine gate_callee (f := 52) rfl ?_); refine goesL_ (some 20) rfl rfl Try.func52 (by kernel_rfl) rfl #[.slice Ao9 t494.length co9, .slice A1 l1.length c1] rfl (by (try simp only [List.map_toArray, List.map_cons, List.map_nil]); first | done | rfl | (simp only [List.length_drop, List.length_take]; rfl)) ?_; (with_reducible refine (regletref18_Fit.calls k _ _ t494 _ _ l1 true _ ?side1 ?side2 ?side3 ?side4 A4.out).mono ?_); (case side1 => repeat (first | exact (Kd.R_reads' HO496.out).2.2 | (with_reducible refine Kd.C_alloc ?_ _) | (with_reducible refine Kd.C_drewN ?_ _) | (with_reducible refine Kd.C_drew ?_))); (case side2 => exact (Kd.R_reads' HO496.out).2.1); (case side3 => repeat (first | exact (Kd.C_below HR1.out HB.out) | (with_reducible refine Kd.C_alloc ?_ _) | (with_reducible refine Kd.C_drewN ?_ _) | (with_reducible refine Kd.C_drew ?_))); (case side4 => exact HC1.out); rintro e w10 ⟨rfl, hb⟩; refine ⟨_, rfl, ?_⟩; have n0_ := Aside0.mk (Kd.R_below (by (with_reducible repeat (first | apply Kd.R_alloc | apply Kd.R_drewN | apply Kd.R_drew)); exact HO496.out) hb); have n1_ := Aside0.mk (below_step (by repeat (first | (with_reducible first | exact HB.out | apply below_alloc | apply pw_below_drewN | apply below_drew1) | exact HB.out)) hb); clear HO496; clear HB; have HO496 := n0_; have HB := n1_; clear n0_ n1_; (try clear hb); (try clear hb2); (try clear hk); (try clear hi)) | ((with_reducible refine gate_dst (N := 25) rfl ?_); refine Kd.R_make Kd.bool _ 4 rfl (N := 25) rfl 102 _ _ rfl (a0.size : Int) rfl rfl Try.underlying102 (.bool false) 1 info4 rfl (by decide) (by omega) false (ok := fun _ => True) (okp := fun _ => True) rfl (fun _ hk => hk) trivial (of_decide_eq_true (by first | (with_reducible assumption) | assumption)) (Nat.le_trans (Nat.mul_le_mul_right _ (of_decide_eq_true (by first | (with_reducible assumption) | assumption) : (a0.size : Int).toNat ≤ 281474976710656)) (by omega)) (Below.refl _ _) (Nat.le_refl _) ?_; intro v499 w11 ho12 hb hg_ hnew_; clear hg_ hnew_; (first | rw [← Ny498.out] at ho12 | (simp only [Int.reduceToNat] at ho12; rw [← Ny498.out] at ho12)); have n0_ := Aside0.mk (Kd.R_below (by (with_reducible repeat (first | apply Kd.R_alloc | apply Kd.R_drewN | apply Kd.R_drew)); exact HO496.out) hb); have n1_ := Aside0.mk (Kd.R_lower ho12 (below_size (by repeat (first | (with_reducible first | exact HB.out | apply below_alloc | apply pw_below_drewN | apply below_drew1) | exact HB.out)))); have n2_ := Aside0.mk (below_step (by repeat (first | (with_reducible first | exact HB.out | apply below_alloc | apply pw_below_drewN | apply below_drew1) | exact HB.out)) hb); clear HO496; clear HB; have HO496 := n0_; have HO500 := n1_; have HB := n2_; clear n0_ n1_ n2_; clear hb ho12))
        go_loopg [9] k (fun kq v9 w' => ∃ (x8_1 : List Bool) (x9_1 : Int), v9 = .int .i64 x9_1 ∧ Aside0 (regletref20_Kept.l0 kq a0 l1 t494 x8_1 x9_1 = some (r1, r2)) ∧ Aside0 (kq ≤ k) ∧ Aside0 (Kd.R Kd.string 9 w' w.heap.size (fun _ => True) (.slice Ao9 t494.length co9) t494) ∧ Aside0 (Kd.R Kd.bool 4 w' w.heap.size (fun _ => True) v499 x8_1) ∧ Aside0 (Below w.heap.size w w'))
        case atStart => exact ⟨(y498), (0), (by first | rfl | (simp; done) | (simp [*]; done)), H', ⟨Nat.le_refl _⟩, ⟨by (with_reducible repeat (first | apply Kd.R_alloc | apply Kd.R_drewN | apply Kd.R_drew)); exact HO496.out⟩, ⟨by (with_reducible repeat (first | apply Kd.R_alloc | apply Kd.R_drewN | apply Kd.R_drew)); exact HO500.out⟩, ⟨by repeat (first | (with_reducible first | exact HB.out | apply below_alloc | apply pw_below_drewN | apply below_drew1) | exact HB.out)⟩⟩
        case round =>
          clear H'
          try clear c1
          try clear p2
          try clear c3
          try clear c5
          try clear c6
          try clear c6b0
          try clear c6b1
          try clear c7
          try clear c7b0
          try clear c7b1
          obtain ⟨x8_1, x9_1, rfl, HA, HK1, HO_6, HO_8, HB⟩ := hrel
          cases gk with
          | zero => exact absurd HA.out (by simp [regletref20_Kept.l0])
          | succ k1 =>
            have H := HA.out
            clear HA
            simp only [regletref20_Kept.l0] at H
            by_cases c13 : x9_1 < (l1.length : Int)
            · rw [if_pos c13] at H
              have c13b0 : decide (x9_1 < (l1.length : Int)) = true := decide_eq_true c13
              clear c13
              by_cases c14 : 0 ≤ x9_1
              · rw [if_pos c14] at H
                have c14b0 : decide (0 ≤ x9_1) = true := decide_eq_true c14
                clear c14
                replace H := Option.bind_eq_some_iff.mp H
                obtain ⟨t502, A150, H⟩ := H
                replace H : ((regletref20_begin.f k1 t494 ((rd_T33 l1 x9_1).f1)).bind fun t504 => (regletref20_Kept.l1 k1 a0 l1 t494 x8_1 x9_1 t504 t502)) = some (r1, r2) := H
                have A15 := Aside0.mk A150
                clear A150
                replace H := Option.bind_eq_some_iff.mp H
                obtain ⟨t504, A160, H⟩ := H
                replace H : (regletref20_Kept.l1 k1 a0 l1 t494 x8_1 x9_1 t504 t502) = some (r1, r2) := H
                have A16 := Aside0.mk A160
                clear A160
                have H' := Aside0.mk H
                clear H
                have p501 : 0 ≤ (x9_1 : Int) := of_decide_eq_true (by first | (with_reducible assumption) | assumption)
                have q501 : x9_1 < (l1.length : Int) := of_decide_eq_true (by first | (with_reducible assumption) | assumption)
                obtain ⟨ad501, e501, hx501_0, hx501_1, hx501_2⟩ := at_T33 HR1.out x9_1 p501 q501
                cases e501
                replace hx501_0 := (HB.out.cell (World.block_lt_of_cell? w _ hx501_0)).trans hx501_0
                replace hx501_1 := (HB.out.cell (World.block_lt_of_cell? w _ hx501_1)).trans hx501_1
                replace hx501_2 := (HB.out.cell (World.block_lt_of_cell? w _ hx501_2)).trans hx501_2
                replace p501 := eq_true p501
                replace q501 := eq_true q501
                go_wp2_with (first | ((with_reducible refine gate_callee (f := 55) rfl ?_); refine goesL_ (some 38) rfl rfl Try.func55 (by kernel_rfl) rfl #[.slice Ao9 t494.length co9, .int .i64 ((rd_T33 l1 x9_1).f0)] rfl (by (try simp only [List.map_toArray, List.map_cons, List.map_nil]); first | done | rfl | (simp only [List.length_drop, List.length_take]; rfl)) ?_; (with_reducible refine (regletref20_begin.calls k1 _ _ t494 ((rd_T33 l1 x9_1).f0) t502 _ ?side1 ?side2 A15.out).mono ?_); (case side1 => repeat (first | exact (Kd.R_reads' HO_6.out).2.2 | (with_reducible refine Kd.C_alloc ?_ _) | (with_reducible refine Kd.C_drewN ?_ _) | (with_reducible refine Kd.C_drew ?_))); (case side2 => exact (Kd.R_reads' HO_6.out).2.1); rintro e w' ⟨rfl, ⟨nd, rfl⟩⟩; refine ⟨_, rfl, ?_⟩; have p503 : 0 ≤ (x9_1 : Int) := of_decide_eq_true (by first | (with_reducible assumption) | assumption); have q503 : x9_1 < (l1.length : Int) := of_decide_eq_true (by first | (with_reducible assumption) | assumption); obtain ⟨ad503, e503, hx503_0, hx503_1, hx503_2⟩ := at_T33 HR1.out x9_1 p503 q503; obtain rfl : ad501 = ad503 := (by injection e503); replace hx503_0 := (HB.out.cell (World.block_lt_of_cell? w _ hx503_0)).trans hx503_0; replace hx503_1 := (HB.out.cell (World.block_lt_of_cell? w _ hx503_1)).trans hx503_1; replace hx503_2 := (HB.out.cell (World.block_lt_of_cell? w _ hx503_2)).trans hx503_2; replace p503 := eq_true p503; replace q503 := eq_true q503) | ((with_reducible refine gate_callee (f := 55) rfl ?_); refine goesL_ (some 45) rfl rfl Try.func55 (by kernel_rfl) rfl #[.slice Ao9 t494.length co9, .int .i64 ((rd_T33 l1 x9_1).f1)] rfl (by (try simp only [List.map_toArray, List.map_cons, List.map_nil]); first | done | rfl | (simp only [List.length_drop, List.length_take]; rfl)) ?_; (with_reducible refine (regletref20_begin.calls k1 _ _ t494 ((rd_T33 l1 x9_1).f1) t504 _ ?side1 ?side2 A16.out).mono ?_); (case side1 => repeat (first | exact (Kd.R_reads' HO_6.out).2.2 | (with_reducible refine Kd.C_alloc ?_ _) | (with_reducible refine Kd.C_drewN ?_ _) | (with_reducible refine Kd.C_drew ?_))); (case side2 => exact (Kd.R_reads' HO_6.out).2.1); rintro e w' ⟨rfl, ⟨nd, rfl⟩⟩; refine ⟨_, rfl, ?_⟩))
                go_loopg [12] k1 (fun kq v12 w' => ∃ (x8_2 : List Bool) (x12_2 : Int), v12 = .int .i64 x12_2 ∧ Aside0 (regletref20_Kept.l1 kq a0 l1 t494 x8_2 x9_1 t504 x12_2 = some (r1, r2)) ∧ Aside0 (kq ≤ k1) ∧ Aside0 (Kd.R Kd.string 9 w' w.heap.size (fun _ => True) (.slice Ao9 t494.length co9) t494) ∧ Aside0 (Kd.R Kd.bool 4 w' w.heap.size (fun _ => True) v499 x8_2) ∧ Aside0 (Below w.heap.size w w'))
                case atStart => exact ⟨(x8_1), (t502), (by first | rfl | (simp; done) | (simp [*]; done)), H', ⟨Nat.le_refl _⟩, ⟨by (with_reducible repeat (first | apply Kd.R_alloc | apply Kd.R_drewN | apply Kd.R_drew)); exact HO_6.out⟩, ⟨by (with_reducible repeat (first | apply Kd.R_alloc | apply Kd.R_drewN | apply Kd.R_drew)); exact HO_8.out⟩, ⟨by repeat (first | (with_reducible first | exact HB.out | apply below_alloc | apply pw_below_drewN | apply below_drew1) | exact HB.out)⟩⟩
                case round =>
                  clear H'
                  try clear c1
                  try clear p2
                  try clear c3
                  try clear c5
                  try clear p5
                  try clear q5
                  try clear hx5
                  try clear c6
                  try clear c6b0
                  try clear c6b1
                  try clear c7
                  try clear c7b0
                  try clear c7b1
                  try clear c13
                  try clear c13b0
                  try clear c14
                  try clear c14b0
                  try clear hx501_0
                  try clear hx501_1
                  try clear hx501_2
                  try clear hx503_0
                  try clear hx503_1
                  try clear hx503_2
                  try clear p2
                  try clear p501
                  try clear p503
                  try clear q501
                  try clear q503
                  obtain ⟨x8_2, x12_2, rfl, HA, HK2, HO_6, HO_8, HB⟩ := hrel
                  cases gk with
                  | zero => exact absurd HA.out (by simp [regletref20_Kept.l1])
                  | succ k2 =>
                    have H := HA.out
                    clear HA
                    simp only [regletref20_Kept.l1] at H
                    by_cases c17 : x12_2 < t504
                    · rw [if_pos c17] at H
                      have c17b0 : decide (x12_2 < t504) = true := decide_eq_true c17
                      clear c17
                      by_cases c18 : 0 ≤ x12_2
                      · rw [if_pos c18] at H
                        have c18b0 : decide (0 ≤ x12_2) = true := decide_eq_true c18
                        clear c18
                        by_cases c19 : x12_2 < (x8_2.length : Int)
                        · rw [if_pos c19] at H
                          have c19b0 : decide (x12_2 < (x8_2.length : Int)) = true := decide_eq_true c19
                          clear c19
                          obtain ⟨y505, hy505⟩ : ∃ y_ : List Bool, y_ = (x8_2.set (x12_2 : Int).toNat true) := ⟨_, rfl⟩
                          replace H : (regletref20_Kept.l1 k2 a0 l1 t494 y505 x9_1 t504 (wrap64 (x12_2 + 1))) = some (r1, r2) := by first | (rw [hy505]; with_reducible exact H) | (have H2_ := (Option.bind_some _ _).symm.trans H; rw [hy505]; with_reducible exact H2_) | (have H2_ := (Option.bind_some _ _).symm.trans H; with_reducible exact H2_) | with_reducible exact H | (rw [hy505]; exact H) | exact H
                          have Ny505 := Aside0.mk hy505
                          clear hy505
                          have H' := Aside0.mk H
                          clear H
                          have p20 : 0 ≤ (x12_2 : Int) := of_decide_eq_true (by first | (with_reducible assumption) | assumption)
                          have q20 : (x12_2 : Int) < ((x8_2.length : Int) : Int) := of_decide_eq_true (by first | (with_reducible assumption) | assumption)
                          obtain ⟨go20, co20, eo20, gb20, gl20, cl20, HG20⟩ := Kd.R_form HO_8.out (by omega)
                          (first | cases eo20 | (injection eo20 with ea_ en_ ec_; (first | subst ea_ | (injection ea_ with ea_; subst ea_)); subst ec_; clear en_))
                          have GB20 := Aside0.mk gb20
                          have GG20 := Aside0.mk HG20
                          clear gb20 gl20 HG20
                          obtain ⟨hx20_0, hf20_0⟩ := Kd.R_celln false HO_8.out (x12_2 : Int) p20 q20
                          replace p20 := eq_true p20
                          replace q20 := eq_true q20
                          have HP21 := Kd.R_putg HO_8.out (x12_2 : Int) true
                          go_wp2_with (first | ((with_reducible refine gate_store (t := 4) (p := 54) rfl ?_); refine store_event (t := 4) (p := 54) (v := ?vo_w22) (w1 := (wr.setCell ⟨go20, (x12_2 : Int).toNat, none⟩ (.bool true))) ?hg ?ho ?hn ?hr ?_; (case ho => rfl); (case hg => rfl); (case hn => rfl); (case hr => first | (go_simp; done) | (go_simp; rfl)); intro w22 hw; have hg : wr.grownBy w22 (some go20) := (by rw [hw]; exact HP21.2); have hp_ : Kd.R Kd.bool 4 w22 w.heap.size (fun _ => True) (.slice (some ⟨go20, 0, none⟩) x8_2.length co20) y505 := (by rw [hw, Ny505.out]; exact HP21.1); clear HP21; have n0_ := Aside0.mk (Kd.R_over' (v := (.slice (some ⟨go20, 0, none⟩) x8_2.length co20)) (by (with_reducible repeat (first | apply Kd.R_alloc | apply Kd.R_drewN | apply Kd.R_drew)); exact HO_6.out) (Kd.R_typed HO_8.out) (by decide) hg); have n1_ := Aside0.mk (hp_); have n2_ := Aside0.mk ((by rw [hw]; exact below_set (HB.out) GB20.out : Below w.heap.size w w22)); clear HO_6; clear HO_8; clear HB; have HO_6 := n0_; have HO_8 := n1_; have HB := n2_; clear n0_ n1_ n2_; clear hg hw hp_))
                          go_roundg k2
                          case measure => have := HK1.out; have := HK2.out; omega
                          case rel => exact ⟨(y505), (wrap64 (x12_2 + 1)), (by first | rfl | (simp; done) | (simp [*]; done)), H', ⟨by have := HK1.out; have := HK2.out; omega⟩, ⟨by (with_reducible repeat (first | apply Kd.R_alloc | apply Kd.R_drewN | apply Kd.R_drew)); exact HO_6.out⟩, ⟨by (with_reducible repeat (first | apply Kd.R_alloc | apply Kd.R_drewN | apply Kd.R_drew)); exact HO_8.out⟩, ⟨by repeat (first | (with_reducible first | exact HB.out | apply below_alloc | apply pw_below_drewN | apply below_drew1) | exact HB.out)⟩⟩
                        · rw [if_neg c19] at H
                          exact absurd H (by simp)
                      · rw [if_neg c18] at H
                        exact absurd H (by simp)
                    · rw [if_neg c17] at H
                      have c17b0 : decide (x12_2 < t504) = false := decide_eq_false c17
                      clear c17
                      have H' := Aside0.mk H
                      clear H
                      go_wp2
                      go_roundg k2
                      case measure => have := HK1.out; have := HK2.out; omega
                      case rel => exact ⟨(x8_2), (wrap64 (x9_1 + 1)), (by first | rfl | (simp; done) | (simp [*]; done)), H', ⟨by have := HK1.out; have := HK2.out; omega⟩, ⟨by (with_reducible repeat (first | apply Kd.R_alloc | apply Kd.R_drewN | apply Kd.R_drew)); exact HO_6.out⟩, ⟨by (with_reducible repeat (first | apply Kd.R_alloc | apply Kd.R_drewN | apply Kd.R_drew)); exact HO_8.out⟩, ⟨by repeat (first | (with_reducible first | exact HB.out | apply below_alloc | apply pw_below_drewN | apply below_drew1) | exact HB.out)⟩⟩
              · rw [if_neg c14] at H
                exact absurd H (by simp)
            · rw [if_neg c13] at H
              have c13b0 : decide (x9_1 < (l1.length : Int)) = false := decide_eq_false c13
              clear c13
              have H' := Aside0.mk H
              clear H
              go_wp2
              go_loopg [13, 14] k1 (fun kq v13 v14 w' => ∃ (x13_2 : List (S64)) (x14_2 : Int), v14 = .int .i64 x14_2 ∧ Aside0 (regletref20_Kept.l2 kq a0 x8_1 x13_2 x14_2 = some (r1, r2)) ∧ Aside0 (kq ≤ k1) ∧ Aside0 (Kd.R Kd.bool 4 w' w.heap.size (fun _ => True) v499 x8_1) ∧ Aside0 (Kd.R k64 64 w' w.heap.size (fun _ => True) v13 x13_2) ∧ Aside0 (Below w.heap.size w w'))
              case atStart => exact ⟨(([] : List (S64))), (0), (by first | rfl | (simp; done) | (simp [*]; done)), H', ⟨Nat.le_refl _⟩, ⟨by (with_reducible repeat (first | apply Kd.R_alloc | apply Kd.R_drewN | apply Kd.R_drew)); exact HO_8.out⟩, ⟨by first | exact Kd.R_nil _ _ _ _ _ | exact Kd.N_nil _ _ _ _ _ | exact Kd.V_nil _ _ _ _ _ | exact Kd.Q_nil _ _ _ _ _ | exact Kd.S_nil _ _ _ _ _⟩, ⟨by repeat (first | (with_reducible first | exact HB.out | apply below_alloc | apply pw_below_drewN | apply below_drew1) | exact HB.out)⟩⟩
              case round =>
                clear H'
                try clear c1
                try clear p2
                try clear q2
                try clear hx2
                try clear hf2
                try clear c3
                try clear c5
                try clear p5
                try clear q5
                try clear hx5
                try clear c6
                try clear c6b0
                try clear c6b1
                try clear p6
                try clear c7
                try clear c7b0
                try clear c7b1
                try clear c13
                try clear c13b0
                try clear c14
                try clear c14b0
                try clear c17
                try clear c17b0
                try clear c18
                try clear c18b0
                try clear c19
                try clear c19b0
                try clear p20
                try clear q20
                try clear hx20
                try clear hf20
                try clear hx20_0
                try clear hx501_0
                try clear hx501_1
                try clear hx501_2
                try clear hx503_0
                try clear hx503_1
                try clear hx503_2
                try clear p2
                try clear p20
                try clear p5
                try clear p501
                try clear p503
                try clear q20
                try clear q5
                try clear q501
                try clear q503
                obtain ⟨x13_2, x14_2, rfl, HA, HK2, HO_8, HO_13, HB⟩ := hrel
                cases gk with
                | zero => exact absurd HA.out (by simp [regletref20_Kept.l2])
                | succ k2 =>
                  have H := HA.out
                  clear HA
                  simp only [regletref20_Kept.l2] at H
                  by_cases c23 : x14_2 < (a0.size : Int)
                  · rw [if_pos c23] at H
                    have c23b0 : decide (x14_2 < (a0.size : Int)) = true := decide_eq_true c23
                    clear c23
                    by_cases c24 : 0 ≤ x14_2
                    · rw [if_pos c24] at H
                      have c24b0 : decide (0 ≤ x14_2) = true := decide_eq_true c24
                      clear c24
                      by_cases c25 : x14_2 < (x8_1.length : Int)
                      · rw [if_pos c25] at H
                        have c25b0 : decide (x14_2 < (x8_1.length : Int)) = true := decide_eq_true c25
                        clear c25
                        obtain ⟨bq26, hbq26⟩ : ∃ b_ : Bool, b_ = (rdOf false x8_1 x14_2) := ⟨_, rfl⟩
                        replace H : (if bq26 = true then (regletref20_Kept.l2 k2 a0 x8_1 x13_2 (wrap64 (x14_2 + 1))) else (if (x13_2.length : Int) > 0 then (if 0 ≤ (wrap64 ((x13_2.length : Int) - 1)) then (if (wrap64 ((x13_2.length : Int) - 1)) < (x13_2.length : Int) then (if ((rd_T64 x13_2 (wrap64 ((x13_2.length : Int) - 1))).f1) = x14_2 then (regletref20_Kept.l2 k2 a0 x8_1 (x13_2.set ((wrap64 ((x13_2.length : Int) - 1)) : Int).toNat (⟨(rd_T64 x13_2 (wrap64 ((x13_2.length : Int) - 1))).f0, wrap64 (x14_2 + 1)⟩ : S64)) (wrap64 (x14_2 + 1))) else (if x13_2.length < 8796093022208 then (regletref20_Kept.l2 k2 a0 x8_1 (x13_2 ++ [(⟨x14_2, wrap64 (x14_2 + 1)⟩ : S64)]) (wrap64 (x14_2 + 1))) else (none))) else (none)) else (none)) else (if x13_2.length < 8796093022208 then (regletref20_Kept.l2 k2 a0 x8_1 (x13_2 ++ [(⟨x14_2, wrap64 (x14_2 + 1)⟩ : S64)]) (wrap64 (x14_2 + 1))) else (none)))) = some (r1, r2) := by rw [← hbq26] at H; exact H
                        have Nbq26 := Aside0.mk hbq26
                        clear hbq26
                        by_cases c27 : bq26 = true
                        · subst c27
                          have H1 : (regletref20_Kept.l2 k2 a0 x8_1 x13_2 (wrap64 (x14_2 + 1))) = some (r1, r2) := by rw [if_pos rfl] at H; exact H
                          clear H
                          have H := H1
                          clear H1
                          have H' := Aside0.mk H
                          clear H
                          obtain ⟨Ao28, co28, eo28⟩ := Kd.R_slice HO_8.out
                          subst eo28
                          have p506 : 0 ≤ (x14_2 : Int) := of_decide_eq_true (by first | (with_reducible assumption) | assumption)
                          have q506 : x14_2 < (x8_1.length : Int) := of_decide_eq_true (by first | (with_reducible assumption) | assumption)
                          obtain ⟨ad506, e506, hx506_0⟩ := Kd.at_bool (Kd.R_reads' HO_8.out).2.2 x14_2 p506 q506
                          (try rw [← Nbq26.out] at hx506_0)
                          cases e506
                          replace p506 := eq_true p506
                          replace q506 := eq_true q506
                          go_wp2
                          go_roundg k2
                          case measure => have := HK1.out; have := HK2.out; omega
                          case rel => exact ⟨(x13_2), (wrap64 (x14_2 + 1)), (by first | rfl | (simp; done) | (simp [*]; done)), H', ⟨by have := HK1.out; have := HK2.out; omega⟩, ⟨by (with_reducible repeat (first | apply Kd.R_alloc | apply Kd.R_drewN | apply Kd.R_drew)); exact HO_8.out⟩, ⟨by (with_reducible repeat (first | apply Kd.R_alloc | apply Kd.R_drewN | apply Kd.R_drew)); exact HO_13.out⟩, ⟨by repeat (first | (with_reducible first | exact HB.out | apply below_alloc | apply pw_below_drewN | apply below_drew1) | exact HB.out)⟩⟩
                        · replace c27 := Bool.eq_false_iff.mpr c27
                          subst c27
                          have H1 : (if (x13_2.length : Int) > 0 then (if 0 ≤ (wrap64 ((x13_2.length : Int) - 1)) then (if (wrap64 ((x13_2.length : Int) - 1)) < (x13_2.length : Int) then (if ((rd_T64 x13_2 (wrap64 ((x13_2.length : Int) - 1))).f1) = x14_2 then (regletref20_Kept.l2 k2 a0 x8_1 (x13_2.set ((wrap64 ((x13_2.length : Int) - 1)) : Int).toNat (⟨(rd_T64 x13_2 (wrap64 ((x13_2.length : Int) - 1))).f0, wrap64 (x14_2 + 1)⟩ : S64)) (wrap64 (x14_2 + 1))) else (if x13_2.length < 8796093022208 then (regletref20_Kept.l2 k2 a0 x8_1 (x13_2 ++ [(⟨x14_2, wrap64 (x14_2 + 1)⟩ : S64)]) (wrap64 (x14_2 + 1))) else (none))) else (none)) else (none)) else (if x13_2.length < 8796093022208 then (regletref20_Kept.l2 k2 a0 x8_1 (x13_2 ++ [(⟨x14_2, wrap64 (x14_2 + 1)⟩ : S64)]) (wrap64 (x14_2 + 1))) else (none))) = some (r1, r2) := by rw [if_neg (show ¬ (false = true) by decide)] at H; exact H
                          clear H
                          have H := H1
                          clear H1
                          by_cases c29 : (x13_2.length : Int) > 0
                          · rw [if_pos c29] at H
                            have c29b0 : decide (0 < (x13_2.length : Int)) = true := decide_eq_true c29
                            have c29b1 : decide (0 < x13_2.length) = true := decide_eq_true (by omega)
                            clear c29
                            obtain ⟨ji30, hji30⟩ : ∃ j_ : Int, (wrap64 ((x13_2.length : Int) - 1)) = j_ := ⟨_, rfl⟩
                            replace H : (if 0 ≤ (ji30) then (if (ji30) < (x13_2.length : Int) then (if ((rd_T64 x13_2 (ji30)).f1) = x14_2 then (regletref20_Kept.l2 k2 a0 x8_1 (x13_2.set ((ji30) : Int).toNat (⟨(rd_T64 x13_2 (ji30)).f0, wrap64 (x14_2 + 1)⟩ : S64)) (wrap64 (x14_2 + 1))) else (if x13_2.length < 8796093022208 then (regletref20_Kept.l2 k2 a0 x8_1 (x13_2 ++ [(⟨x14_2, wrap64 (x14_2 + 1)⟩ : S64)]) (wrap64 (x14_2 + 1))) else (none))) else (none)) else (none)) = some (r1, r2) := by first | (rw [hji30] at H; exact H) | (simp only [hji30] at H ⊢; exact H)
                            have hji30w : (IntKind.i64.wrap ((x13_2.length : Int) - 1)) = ji30 := (i64_w _).trans hji30
                            by_cases c31 : 0 ≤ (ji30)
                            · rw [if_pos c31] at H
                              have c31b0 : decide (0 ≤ (ji30)) = true := decide_eq_true c31
                              clear c31
                              by_cases c32 : (ji30) < (x13_2.length : Int)
                              · rw [if_pos c32] at H
                                have c32b0 : decide ((ji30) < (x13_2.length : Int)) = true := decide_eq_true c32
                                clear c32
                                by_cases c33 : ((rd_T64 x13_2 (ji30)).f1) = x14_2
                                · rw [if_pos c33] at H
                                  have c33b0 : (((rd_T64 x13_2 (ji30)).f1) == x14_2) = true := beq_iff_eq.mpr c33
                                  have c33b1 : (((rd_T64 x13_2 (ji30)).f1) != x14_2) = false := bne_eq_false_iff_eq.mpr c33
                                  clear c33
                                  obtain ⟨y508, hy508⟩ : ∃ y_ : List (S64), y_ = (x13_2.set ((ji30) : Int).toNat (⟨(rd_T64 x13_2 (ji30)).f0, wrap64 (x14_2 + 1)⟩ : S64)) := ⟨_, rfl⟩
                                  replace H : (regletref20_Kept.l2 k2 a0 x8_1 y508 (wrap64 (x14_2 + 1))) = some (r1, r2) := by first | (rw [hy508]; with_reducible exact H) | (have H2_ := (Option.bind_some _ _).symm.trans H; rw [hy508]; with_reducible exact H2_) | (have H2_ := (Option.bind_some _ _).symm.trans H; with_reducible exact H2_) | with_reducible exact H | (rw [hy508]; exact H) | exact H
                                  have Ny508 := Aside0.mk hy508
                                  clear hy508
                                  have H' := Aside0.mk H
                                  clear H
                                  obtain ⟨Ao35, co35, eo35⟩ := Kd.R_slice HO_8.out
                                  subst eo35
                                  have p506 : 0 ≤ (x14_2 : Int) := of_decide_eq_true (by first | (with_reducible assumption) | assumption)
                                  have q506 : x14_2 < (x8_1.length : Int) := of_decide_eq_true (by first | (with_reducible assumption) | assumption)
                                  obtain ⟨ad506, e506, hx506_0⟩ := Kd.at_bool (Kd.R_reads' HO_8.out).2.2 x14_2 p506 q506
                                  (try rw [← Nbq26.out] at hx506_0)
                                  cases e506
                                  replace p506 := eq_true p506
                                  replace q506 := eq_true q506
                                  obtain ⟨Ao36, co36, eo36⟩ := Kd.R_slice HO_13.out
                                  subst eo36
                                  have p507 : 0 ≤ ((ji30) : Int) := of_decide_eq_true (by first | (with_reducible assumption) | assumption)
                                  have q507 : (ji30) < (x13_2.length : Int) := of_decide_eq_true (by first | (with_reducible assumption) | assumption)
                                  obtain ⟨ad507, e507, hx507_0, hx507_1⟩ := at_T64 (Kd.R_reads' HO_13.out).2.2 (ji30) p507 q507
                                  cases e507
                                  replace p507 := eq_true p507
                                  replace q507 := eq_true q507
                                  have p34 : 0 ≤ ((ji30) : Int) := of_decide_eq_true (by first | (with_reducible assumption) | assumption)
                                  have q34 : ((ji30) : Int) < ((x13_2.length : Int) : Int) := of_decide_eq_true (by first | (with_reducible assumption) | assumption)
                                  obtain ⟨go34, co34, eo34, gb34, gl34, cl34, HG34⟩ := Kd.R_form HO_13.out (by omega)
                                  (first | cases eo34 | (injection eo34 with ea_ en_ ec_; (first | subst ea_ | (injection ea_ with ea_; subst ea_)); subst ec_; clear en_))
                                  have GB34 := Aside0.mk gb34
                                  have GG34 := Aside0.mk HG34
                                  clear gb34 gl34 HG34
                                  (first | simp only [add_plain] at hx507_0 | skip)
                                  (first | simp only [add_plain] at hx507_1 | skip)
                                  obtain ⟨ce34, hcl34, hM34, hcc34, hfr34⟩ := Kd.R_elem HO_13.out z64 ((ji30) : Int) p34 q34
                                  obtain rfl := k64_openM hM34
                                  have hx34_0 : wr.cell? ⟨go34, ((ji30) : Int).toNat * 2, none⟩ = some (.int .i64 ((rd_T64 x13_2 (ji30)).f0)) := hcc34 0 _ rfl
                                  have hx34_1 : wr.cell? ⟨go34, ((ji30) : Int).toNat * 2 + 1, none⟩ = some (.int .i64 ((rd_T64 x13_2 (ji30)).f1)) := hcc34 1 _ rfl
                                  have hf34_0 : wr.frozen? ⟨go34, ((ji30) : Int).toNat * 2, none⟩ = false := hfr34 0
                                  have hf34_1 : wr.frozen? ⟨go34, ((ji30) : Int).toNat * 2 + 1, none⟩ = false := hfr34 1
                                  clear hcl34 hcc34 hfr34 hM34
                                  replace p34 := eq_true p34
                                  replace q34 := eq_true q34
                                  have HX37 := Aside0.mk (show Kd.R k64 64 wr w.heap.size (fun _ => True) (.slice (some ⟨go34, 0, none⟩) x13_2.length co36) x13_2 from (by (with_reducible repeat (first | apply Kd.R_alloc | apply Kd.R_drewN | apply Kd.R_drew)); exact HO_13.out))
                                  obtain ⟨ce37, hcl37, hM37, hcc37, hfr37⟩ := Kd.R_elem HX37.out z64 ((ji30) : Int) (of_decide_eq_true (by first | (with_reducible assumption) | assumption)) (by have h_ : ((ji30) : Int) < ((x13_2.length : Int) : Int) := of_decide_eq_true (by first | (with_reducible assumption) | assumption); first | exact h_ | (have e_ := (Kd.R_reads' HO_13.out).1; omega) | simpa using h_)
                                  obtain rfl := k64_openM hM37
                                  have HP37 := Kd.R_seg HX37.out ((ji30) : Int) (of_decide_eq_true (by first | (with_reducible assumption) | assumption)) (by have h_ : ((ji30) : Int) < ((x13_2.length : Int) : Int) := of_decide_eq_true (by first | (with_reducible assumption) | assumption); first | exact h_ | (have e_ := (Kd.R_reads' HO_13.out).1; omega) | simpa using h_) (seg := [.int .i64 (wrap64 (x14_2 + 1))]) (j := 1) hcl37 hcc37 (show 2 ≤ 2 from by decide) (x' := (⟨(rd_T64 x13_2 (ji30)).f0, wrap64 (x14_2 + 1)⟩ : S64)) (k64_mkM _ _ _ (⟨(rd_T64 x13_2 (ji30)).f0, wrap64 (x14_2 + 1)⟩ : S64) ) (fun _ hk => hk)
                                  have hx37_1 := hcc37 1 _ rfl
                                  (try simp only [show (k64).sz = 2 from rfl, Nat.mul_one, Nat.add_zero] at hx37_1)
                                  have hf37_1 := hfr37 1
                                  (try simp only [show (k64).sz = 2 from rfl, Nat.mul_one, Nat.add_zero] at hf37_1)
                                  clear hcl37 hcc37 hfr37 hM37
                                  go_wp2_with (first | ((with_reducible refine gate_store (t := 3) (p := 85) rfl ?_); refine store_event (t := 3) (p := 85) (v := ?vo_w38) (w1 := (wr.setCell ⟨go34, ((ji30) : Int).toNat * 2 + 1, none⟩ (.int .i64 (wrap64 (x14_2 + 1))))) ?hg ?ho ?hn ?hr ?_; (case ho => rfl); (case hg => rfl); (case hn => rfl); (case hr => first | (go_simp; done) | (go_simp; rfl)); intro w38 hw; have hg : wr.grownBy w38 (some go34) := (by rw [hw]; exact HP37.2); have hp_ : Kd.R k64 64 w38 w.heap.size (fun _ => True) (.slice (some ⟨go34, 0, none⟩) x13_2.length co36) y508 := (by rw [hw, Ny508.out]; exact HP37.1); clear HP37; have n0_ := Aside0.mk (Kd.R_over' (v := (.slice (some ⟨go34, 0, none⟩) x13_2.length co36)) (by (with_reducible repeat (first | apply Kd.R_alloc | apply Kd.R_drewN | apply Kd.R_drew)); exact HO_8.out) (Kd.R_typed HO_13.out) (by decide) hg); have n1_ := Aside0.mk (hp_); have n2_ := Aside0.mk ((by rw [hw]; exact below_set (HB.out) GB34.out : Below w.heap.size w w38)); clear HO_8; clear HO_13; clear HB; have HO_8 := n0_; have HO_13 := n1_; have HB := n2_; clear n0_ n1_ n2_; clear hg hw hp_))
                                  go_roundg k2
                                  case measure => have := HK1.out; have := HK2.out; omega
                                  case rel => exact ⟨(y508), (wrap64 (x14_2 + 1)), (by first | rfl | (simp; done) | (simp [*]; done)), H', ⟨by have := HK1.out; have := HK2.out; omega⟩, ⟨by (with_reducible repeat (first | apply Kd.R_alloc | apply Kd.R_drewN | apply Kd.R_drew)); exact HO_8.out⟩, ⟨by (with_reducible repeat (first | apply Kd.R_alloc | apply Kd.R_drewN | apply Kd.R_drew)); exact HO_13.out⟩, ⟨by repeat (first | (with_reducible first | exact HB.out | apply below_alloc | apply pw_below_drewN | apply below_drew1) | exact HB.out)⟩⟩
                                · rw [if_neg c33] at H
                                  have c33b0 : (((rd_T64 x13_2 (ji30)).f1) == x14_2) = false := beq_eq_false_iff_ne.mpr c33
                                  have c33b1 : (((rd_T64 x13_2 (ji30)).f1) != x14_2) = true := bne_iff_ne.mpr c33
                                  by_cases c39 : x13_2.length < 8796093022208
                                  · rw [if_pos c39] at H
                                    have LMc39 := Aside0.mk c39
                                    clear c39
                                    obtain ⟨y509, hy509⟩ : ∃ y_ : List (S64), y_ = (x13_2 ++ [(⟨x14_2, wrap64 (x14_2 + 1)⟩ : S64)]) := ⟨_, rfl⟩
                                    replace H : (regletref20_Kept.l2 k2 a0 x8_1 y509 (wrap64 (x14_2 + 1))) = some (r1, r2) := by first | (rw [hy509]; with_reducible exact H) | (have H2_ := (Option.bind_some _ _).symm.trans H; rw [hy509]; with_reducible exact H2_) | (have H2_ := (Option.bind_some _ _).symm.trans H; with_reducible exact H2_) | with_reducible exact H | (rw [hy509]; exact H) | exact H
                                    have Ny509 := Aside0.mk hy509
                                    clear hy509
                                    have H' := Aside0.mk H
                                    clear H
                                    obtain ⟨Ao40, co40, eo40⟩ := Kd.R_slice HO_8.out
                                    subst eo40
                                    have p506 : 0 ≤ (x14_2 : Int) := of_decide_eq_true (by first | (with_reducible assumption) | assumption)
                                    have q506 : x14_2 < (x8_1.length : Int) := of_decide_eq_true (by first | (with_reducible assumption) | assumption)
                                    obtain ⟨ad506, e506, hx506_0⟩ := Kd.at_bool (Kd.R_reads' HO_8.out).2.2 x14_2 p506 q506
                                    (try rw [← Nbq26.out] at hx506_0)
                                    cases e506
                                    replace p506 := eq_true p506
                                    replace q506 := eq_true q506
                                    obtain ⟨Ao41, co41, eo41⟩ := Kd.R_slice HO_13.out
                                    subst eo41
                                    have p507 : 0 ≤ ((ji30) : Int) := of_decide_eq_true (by first | (with_reducible assumption) | assumption)
                                    have q507 : (ji30) < (x13_2.length : Int) := of_decide_eq_true (by first | (with_reducible assumption) | assumption)
                                    obtain ⟨ad507, e507, hx507_0, hx507_1⟩ := at_T64 (Kd.R_reads' HO_13.out).2.2 (ji30) p507 q507
                                    cases e507
                                    replace p507 := eq_true p507
                                    replace q507 := eq_true q507
                                    go_wp2_with (first | ((with_reducible refine gate_builtin (b := .append) (xs := #[.tmp 86, .tmp 91]) rfl ?_); at_builtin; refine Kd.R_append k64 (w0 := w) w.heap.size rfl (.tmp 86) (.tmp 91) 56 64 (.agg #[(.int .i64 0), (.int .i64 0)]) 16 rfl Try.underlying56 info64 rfl (by decide) (by omega) (.slice (some ad507) x13_2.length co41) x13_2 (⟨x14_2, wrap64 (x14_2 + 1)⟩ : S64) [.int .i64 x14_2, .int .i64 (wrap64 (x14_2 + 1))] (fun _ => True) (fun _ => False) rfl rfl ?aP (fun _ hk => hk.elim) ?aF ?aO ?aB ?aS ?aL ?_; (case aP => exact k64_mkM _ _ _ (⟨x14_2, wrap64 (x14_2 + 1)⟩ : S64)); (case aB => exact (by repeat (first | (with_reducible first | exact HB.out | apply below_alloc | apply pw_below_drewN | apply below_drew1) | exact HB.out))); (case aF => exact (fun _ _ => trivial)); (case aO => exact (by (with_reducible repeat (first | apply Kd.R_alloc | apply Kd.R_drewN | apply Kd.R_drew)); exact HO_13.out)); (case aS => exact (below_size (by repeat (first | (with_reducible first | exact HB.out | apply below_alloc | apply pw_below_drewN | apply below_drew1) | exact HB.out)))); (case aL => have := LMc39.out; omega); intro v510 w42 ho hb hg hat; rw [← Ny509.out] at ho; have n0_ := Aside0.mk (Kd.R_over' (by (with_reducible repeat (first | apply Kd.R_alloc | apply Kd.R_drewN | apply Kd.R_drew)); exact HO_8.out) (Kd.R_typed (by (with_reducible repeat (first | apply Kd.R_alloc | apply Kd.R_drewN | apply Kd.R_drew)); exact HO_13.out)) (by decide) hg); have n1_ := Aside0.mk (hb); have n2_ := Aside0.mk (ho); clear HO_8; clear HB; clear HO_13; have HO_8 := n0_; have HB := n1_; have HO511 := n2_; clear n0_ n1_ n2_; clear ho hb hg hat))
                                    go_roundg k2
                                    case measure => have := HK1.out; have := HK2.out; omega
                                    case rel => exact ⟨(y509), (wrap64 (x14_2 + 1)), (by first | rfl | (simp; done) | (simp [*]; done)), H', ⟨by have := HK1.out; have := HK2.out; omega⟩, ⟨by (with_reducible repeat (first | apply Kd.R_alloc | apply Kd.R_drewN | apply Kd.R_drew)); exact HO_8.out⟩, ⟨by (with_reducible repeat (first | apply Kd.R_alloc | apply Kd.R_drewN | apply Kd.R_drew)); exact HO511.out⟩, ⟨by repeat (first | (with_reducible first | exact HB.out | apply below_alloc | apply pw_below_drewN | apply below_drew1) | exact HB.out)⟩⟩
                                  · rw [if_neg c39] at H
                                    exact absurd H (by simp)
                              · rw [if_neg c32] at H
                                exact absurd H (by simp)
                            · rw [if_neg c31] at H
                              exact absurd H (by simp)
                          · rw [if_neg c29] at H
                            have c29b0 : decide (0 < (x13_2.length : Int)) = false := decide_eq_false c29
                            have c29b1 : decide (0 < x13_2.length) = false := decide_eq_false (by omega)
                            clear c29
                            by_cases c43 : x13_2.length < 8796093022208
                            · rw [if_pos c43] at H
                              have LMc43 := Aside0.mk c43
                              clear c43
                              obtain ⟨y512, hy512⟩ : ∃ y_ : List (S64), y_ = (x13_2 ++ [(⟨x14_2, wrap64 (x14_2 + 1)⟩ : S64)]) := ⟨_, rfl⟩
                              replace H : (regletref20_Kept.l2 k2 a0 x8_1 y512 (wrap64 (x14_2 + 1))) = some (r1, r2) := by first | (rw [hy512]; with_reducible exact H) | (have H2_ := (Option.bind_some _ _).symm.trans H; rw [hy512]; with_reducible exact H2_) | (have H2_ := (Option.bind_some _ _).symm.trans H; with_reducible exact H2_) | with_reducible exact H | (rw [hy512]; exact H) | exact H
                              have Ny512 := Aside0.mk hy512
                              clear hy512
                              have H' := Aside0.mk H
                              clear H
                              obtain ⟨Ao44, co44, eo44⟩ := Kd.R_slice HO_8.out
                              subst eo44
                              have p506 : 0 ≤ (x14_2 : Int) := of_decide_eq_true (by first | (with_reducible assumption) | assumption)
                              have q506 : x14_2 < (x8_1.length : Int) := of_decide_eq_true (by first | (with_reducible assumption) | assumption)
                              obtain ⟨ad506, e506, hx506_0⟩ := Kd.at_bool (Kd.R_reads' HO_8.out).2.2 x14_2 p506 q506
                              (try rw [← Nbq26.out] at hx506_0)
                              cases e506
                              replace p506 := eq_true p506
                              replace q506 := eq_true q506
                              obtain ⟨Ao45, co45, eo45⟩ := Kd.R_slice HO_13.out
                              subst eo45
                              go_wp2_with (first | ((with_reducible refine gate_builtin (b := .append) (xs := #[.tmp 86, .tmp 91]) rfl ?_); at_builtin; refine Kd.R_append k64 (w0 := w) w.heap.size rfl (.tmp 86) (.tmp 91) 56 64 (.agg #[(.int .i64 0), (.int .i64 0)]) 16 rfl Try.underlying56 info64 rfl (by decide) (by omega) (.slice Ao45 x13_2.length co45) x13_2 (⟨x14_2, wrap64 (x14_2 + 1)⟩ : S64) [.int .i64 x14_2, .int .i64 (wrap64 (x14_2 + 1))] (fun _ => True) (fun _ => False) rfl rfl ?aP (fun _ hk => hk.elim) ?aF ?aO ?aB ?aS ?aL ?_; (case aP => exact k64_mkM _ _ _ (⟨x14_2, wrap64 (x14_2 + 1)⟩ : S64)); (case aB => exact (by repeat (first | (with_reducible first | exact HB.out | apply below_alloc | apply pw_below_drewN | apply below_drew1) | exact HB.out))); (case aF => exact (fun _ _ => trivial)); (case aO => exact (by (with_reducible repeat (first | apply Kd.R_alloc | apply Kd.R_drewN | apply Kd.R_drew)); exact HO_13.out)); (case aS => exact (below_size (by repeat (first | (with_reducible first | exact HB.out | apply below_alloc | apply pw_below_drewN | apply below_drew1) | exact HB.out)))); (case aL => have := LMc43.out; omega); intro v513 w46 ho hb hg hat; rw [← Ny512.out] at ho; have n0_ := Aside0.mk (Kd.R_over' (by (with_reducible repeat (first | apply Kd.R_alloc | apply Kd.R_drewN | apply Kd.R_drew)); exact HO_8.out) (Kd.R_typed (by (with_reducible repeat (first | apply Kd.R_alloc | apply Kd.R_drewN | apply Kd.R_drew)); exact HO_13.out)) (by decide) hg); have n1_ := Aside0.mk (hb); have n2_ := Aside0.mk (ho); clear HO_8; clear HB; clear HO_13; have HO_8 := n0_; have HB := n1_; have HO514 := n2_; clear n0_ n1_ n2_; clear ho hb hg hat))
                              go_roundg k2
                              case measure => have := HK1.out; have := HK2.out; omega
                              case rel => exact ⟨(y512), (wrap64 (x14_2 + 1)), (by first | rfl | (simp; done) | (simp [*]; done)), H', ⟨by have := HK1.out; have := HK2.out; omega⟩, ⟨by (with_reducible repeat (first | apply Kd.R_alloc | apply Kd.R_drewN | apply Kd.R_drew)); exact HO_8.out⟩, ⟨by (with_reducible repeat (first | apply Kd.R_alloc | apply Kd.R_drewN | apply Kd.R_drew)); exact HO514.out⟩, ⟨by repeat (first | (with_reducible first | exact HB.out | apply below_alloc | apply pw_below_drewN | apply below_drew1) | exact HB.out)⟩⟩
                            · rw [if_neg c43] at H
                              exact absurd H (by simp)
                      · rw [if_neg c25] at H
                        exact absurd H (by simp)
                    · rw [if_neg c24] at H
                      exact absurd H (by simp)
                  · rw [if_neg c23] at H
                    have c23b0 : decide (x14_2 < (a0.size : Int)) = false := decide_eq_false c23
                    clear c23
                    simp only [Option.some.injEq, Prod.mk.injEq] at H
                    obtain ⟨rfl, rfl⟩ := H
                    go_wp2
                    go_ret2
                    exact ⟨_, by first | rfl | (simp [errW_none, errW_some] <;> rfl) | (simp [*, errW_none, errW_some] <;> rfl), by (with_reducible repeat (first | apply Kd.R_alloc | apply Kd.R_drewN | apply Kd.R_drew)); exact HO_13.out, by repeat (first | (with_reducible first | exact HB.out | apply below_alloc | apply pw_below_drewN | apply below_drew1) | exact HB.out)⟩
      · rw [if_neg c7] at H
        exact absurd H (by simp)
    · rw [if_neg c6] at H
      exact absurd H (by simp)
  · replace c5 := Bool.eq_false_iff.mpr c5
    subst c5
    have H1 : (some (([] : List (S64)), 180)) = some (r1, r2) := by rw [if_neg (show ¬ (false = true) by decide)] at H; exact H
    clear H
    have H := H1
    clear H1
    simp only [Option.some.injEq, Prod.mk.injEq] at H
    obtain ⟨rfl, rfl⟩ := H
    go_enter Try.func35, Try.ntmps35
    go_wp2_with (first | ((with_reducible refine gate_callee (f := 18) rfl ?_); refine goesL_ (some 17) rfl rfl Try.func18 (by kernel_rfl) rfl #[.string a0] rfl (by (try simp only [List.map_toArray, List.map_cons, List.map_nil]); first | done | rfl | (simp only [List.length_drop, List.length_take]; rfl)) ?_; (with_reducible refine (regletref18_Lines.calls k a0 t494 _ A3.out).mono ?_); rintro e w47 ⟨v495, rfl, ho0, hb⟩; refine ⟨_, rfl, ?_⟩; have n0_ := Aside0.mk (Kd.R_lower ho0 (below_size (by repeat (first | (with_reducible first | exact HB.out | apply below_alloc | apply pw_below_drewN | apply below_drew1) | exact HB.out)))); have n1_ := Aside0.mk (below_step (by repeat (first | (with_reducible first | exact HB.out | apply below_alloc | apply pw_below_drewN | apply below_drew1) | exact HB.out)) hb); clear HB; have HO496 := n0_; have HB := n1_; clear n0_ n1_; (try clear hb); (try clear hb2); (try clear hk); (try clear hi); (try clear ho0); obtain ⟨Ao48, co48, eo48⟩ := Kd.R_slice HO496.out; subst eo48) | ((with_reducible refine gate_callee (f := 52) rfl ?_); refine goesL_ (some 20) rfl rfl Try.func52 (by kernel_rfl) rfl #[.slice Ao48 t494.length co48, .slice A1 l1.length c1] rfl (by (try simp only [List.map_toArray, List.map_cons, List.map_nil]); first | done | rfl | (simp only [List.length_drop, List.length_take]; rfl)) ?_; (with_reducible refine (regletref18_Fit.calls k _ _ t494 _ _ l1 false _ ?side1 ?side2 ?side3 ?side4 A4.out).mono ?_); (case side1 => repeat (first | exact (Kd.R_reads' HO496.out).2.2 | (with_reducible refine Kd.C_alloc ?_ _) | (with_reducible refine Kd.C_drewN ?_ _) | (with_reducible refine Kd.C_drew ?_))); (case side2 => exact (Kd.R_reads' HO496.out).2.1); (case side3 => repeat (first | exact (Kd.C_below HR1.out HB.out) | (with_reducible refine Kd.C_alloc ?_ _) | (with_reducible refine Kd.C_drewN ?_ _) | (with_reducible refine Kd.C_drew ?_))); (case side4 => exact HC1.out); rintro e w49 ⟨rfl, hb⟩; refine ⟨_, rfl, ?_⟩; have n0_ := Aside0.mk (Kd.R_below (by (with_reducible repeat (first | apply Kd.R_alloc | apply Kd.R_drewN | apply Kd.R_drew)); exact HO496.out) hb); have n1_ := Aside0.mk (below_step (by repeat (first | (with_reducible first | exact HB.out | apply below_alloc | apply pw_below_drewN | apply below_drew1) | exact HB.out)) hb); clear HO496; clear HB; have HO496 := n0_; have HB := n1_; clear n0_ n1_; (try clear hb); (try clear hb2); (try clear hk); (try clear hi)))
    go_ret2
    exact ⟨_, by first | rfl | (simp [errW_none, errW_some] <;> rfl) | (simp [*, errW_none, errW_some] <;> rfl), by first | exact Kd.R_nil _ _ _ _ _ | exact Kd.N_nil _ _ _ _ _ | exact Kd.V_nil _ _ _ _ _ | exact Kd.Q_nil _ _ _ _ _ | exact Kd.S_nil _ _ _ _ _, by repeat (first | (with_reducible first | exact HB.out | apply below_alloc | apply pw_below_drewN | apply below_drew1) | exact HB.out)⟩

/-! ### regletref19_Same: function 36 -/
def regletref19_Same.l0 : Nat → List (S64) → List (S64) → Int → Option (Bool)
  | 0, _, _, _ => none
  | k + 1, x0, x1, x5 => if x5 < (x0.length : Int) then (if 0 ≤ x5 then (if x5 < (x1.length : Int) then (if (!(((rd_T64 x0 x5).f0) == ((rd_T64 x1 x5).f0)) || (!(((rd_T64 x0 x5).f1) == ((rd_T64 x1 x5).f1)))) = true then (some false) else (regletref19_Same.l0 k x0 x1 (wrap64 (x5 + 1)))) else (none)) else (none)) else (some true)
def regletref19_Same.f (k : Nat) (l0 : List (S64)) (l1 : List (S64)) : Option (Bool) := if (l0.length : Int) = (l1.length : Int) then (regletref19_Same.l0 k l0 l1 0) else (some false)
theorem regletref19_Same.mono_l : ∀ k, (∀ y0 y1 y2, LeO (regletref19_Same.l0 k y0 y1 y2) (regletref19_Same.l0 (k + 1) y0 y1 y2))
  | 0 => fun _ _ _ r h => by simp [regletref19_Same.l0] at h
  | k + 1 => by
    have ih0 := regletref19_Same.mono_l k
    · intro y0 y1 y2
      unfold regletref19_Same.l0
      repeat' first
      | (with_reducible exact ih0 _ _ _)
      | (with_reducible exact LeO.refl _)
      | (with_reducible exact LeO.none _)
      | (with_reducible refine LeO.ite ?_ ?_)
      | (with_reducible refine LeO.bind ?_ (fun _ => ?_))
      | exact ih0 _ _ _
      | exact LeO.none _
      | refine LeO.ite ?_ ?_
      | refine LeO.bind ?_ (fun _ => ?_)
theorem regletref19_Same.mono : ∀ a0 a1 k, LeO (regletref19_Same.f k a0 a1) (regletref19_Same.f (k + 1) a0 a1) := by
  intro a0 a1 k
  have ih0 := regletref19_Same.mono_l k
  unfold regletref19_Same.f
  repeat' first
      | (with_reducible exact ih0 _ _ _)
      | (with_reducible exact LeO.refl _)
      | (with_reducible exact LeO.none _)
      | (with_reducible refine LeO.ite ?_ ?_)
      | (with_reducible refine LeO.bind ?_ (fun _ => ?_))
      | exact ih0 _ _ _
      | exact LeO.none _
      | refine LeO.ite ?_ ?_
      | refine LeO.bind ?_ (fun _ => ?_)
set_option maxHeartbeats 8000000 in
set_option maxRecDepth 100000 in
theorem regletref19_Same.calls (k : Nat) (A0 : Option Addr) (c0 : Nat) (l0 : List (S64)) (A1 : Option Addr) (c1 : Nat) (l1 : List (S64)) (r : Bool) (w : World) (hr0 : Kd.C k64 w A0 l0.length l0) (hc0 : l0.length ≤ c0) (hr1 : Kd.C k64 w A1 l1.length l1) (hc1 : l1.length ≤ c1) (h : regletref19_Same.f k l0 l1 = some r) :
    Calls Try.prog 36 #[.slice A0 l0.length c0, .slice A1 l1.length c1] w fun e w' => e = .returned (.bool r) ∧ Drawn0 w w' := by
  have hu64 := Try.underlying64
  have HR0 := Aside0.mk hr0
  have HC0 := Aside0.mk hc0
  clear hr0 hc0
  have HR1 := Aside0.mk hr1
  have HC1 := Aside0.mk hc1
  clear hr1 hc1
  have H : (if (l0.length : Int) = (l1.length : Int) then (regletref19_Same.l0 k l0 l1 0) else (some false)) = some r := h
  clear h
  by_cases c3 : (l0.length : Int) = (l1.length : Int)
  · rw [if_pos c3] at H
    have c3b0 : ((l0.length : Int) == (l1.length : Int)) = true := beq_iff_eq.mpr c3
    have c3b1 : ((l0.length : Int) != (l1.length : Int)) = false := bne_eq_false_iff_eq.mpr c3
    have c3b2 : (l0.length == l1.length) = true := by first | simpa using c3 | (simp at c3 ⊢; omega)
    clear c3
    have H' := Aside0.mk H
    clear H
    go_enter Try.func36, Try.ntmps36
    go_wp2
    repeat (go_quiet (fail); try go_wp2)
    go_loopg [5] k (fun kq v5 w' => ∃ (x5_1 : Int), v5 = .int .i64 x5_1 ∧ Aside0 (regletref19_Same.l0 kq l0 l1 x5_1 = some r) ∧ Aside0 (kq ≤ k) ∧ Drawn0 w w')
    case atStart => exact ⟨(0), (by first | rfl | (simp; done) | (simp [*]; done)), H', ⟨Nat.le_refl _⟩, by repeat (first | exact Drawn0.refl _ | apply Drawn0.step)⟩
    case round =>
      clear H'
      try clear c1
      try clear p2
      try clear c3
      try clear c3b0
      try clear c3b1
      try clear c3b2
      obtain ⟨x5_1, rfl, HA, HK1, ⟨m1, rfl⟩⟩ := hrel
      cases gk with
      | zero => exact absurd HA.out (by simp [regletref19_Same.l0])
      | succ k1 =>
        have H := HA.out
        clear HA
        simp only [regletref19_Same.l0] at H
        by_cases c4 : x5_1 < (l0.length : Int)
        · rw [if_pos c4] at H
          have c4b0 : decide (x5_1 < (l0.length : Int)) = true := decide_eq_true c4
          clear c4
          by_cases c5 : 0 ≤ x5_1
          · rw [if_pos c5] at H
            have c5b0 : decide (0 ≤ x5_1) = true := decide_eq_true c5
            clear c5
            by_cases c6 : x5_1 < (l1.length : Int)
            · rw [if_pos c6] at H
              have c6b0 : decide (x5_1 < (l1.length : Int)) = true := decide_eq_true c6
              clear c6
              by_cases c7 : (!(((rd_T64 l0 x5_1).f0) == ((rd_T64 l1 x5_1).f0)) || (!(((rd_T64 l0 x5_1).f1) == ((rd_T64 l1 x5_1).f1)))) = true
              · rw [if_pos c7] at H
                have c7b0 : (!(((rd_T64 l0 x5_1).f0) == ((rd_T64 l1 x5_1).f0)) || (!(((rd_T64 l0 x5_1).f1) == ((rd_T64 l1 x5_1).f1)))) = true := c7
                clear c7
                obtain rfl := Option.some.inj H
                have p515 : 0 ≤ (x5_1 : Int) := of_decide_eq_true (by first | (with_reducible assumption) | assumption)
                have q515 : x5_1 < (l0.length : Int) := of_decide_eq_true (by first | (with_reducible assumption) | assumption)
                obtain ⟨ad515, e515, hx515_0, hx515_1⟩ := at_T64 HR0.out x5_1 p515 q515
                cases e515
                replace p515 := eq_true p515
                replace q515 := eq_true q515
                have p516 : 0 ≤ (x5_1 : Int) := of_decide_eq_true (by first | (with_reducible assumption) | assumption)
                have q516 : x5_1 < (l1.length : Int) := of_decide_eq_true (by first | (with_reducible assumption) | assumption)
                obtain ⟨ad516, e516, hx516_0, hx516_1⟩ := at_T64 HR1.out x5_1 p516 q516
                cases e516
                replace p516 := eq_true p516
                replace q516 := eq_true q516
                go_wp2
                repeat (go_quiet (fail); try go_wp2)
                go_ret
                exact ⟨by first | rfl | (simp; done) | (simp [*]; done), by repeat (first | exact Drawn0.refl _ | apply Drawn0.step)⟩
              · rw [if_neg c7] at H
                have c7b0 : (!(((rd_T64 l0 x5_1).f0) == ((rd_T64 l1 x5_1).f0)) || (!(((rd_T64 l0 x5_1).f1) == ((rd_T64 l1 x5_1).f1)))) = false := by simpa using c7
                clear c7
                have H' := Aside0.mk H
                clear H
                have p515 : 0 ≤ (x5_1 : Int) := of_decide_eq_true (by first | (with_reducible assumption) | assumption)
                have q515 : x5_1 < (l0.length : Int) := of_decide_eq_true (by first | (with_reducible assumption) | assumption)
                obtain ⟨ad515, e515, hx515_0, hx515_1⟩ := at_T64 HR0.out x5_1 p515 q515
                cases e515
                replace p515 := eq_true p515
                replace q515 := eq_true q515
                have p516 : 0 ≤ (x5_1 : Int) := of_decide_eq_true (by first | (with_reducible assumption) | assumption)
                have q516 : x5_1 < (l1.length : Int) := of_decide_eq_true (by first | (with_reducible assumption) | assumption)
                obtain ⟨ad516, e516, hx516_0, hx516_1⟩ := at_T64 HR1.out x5_1 p516 q516
                cases e516
                replace p516 := eq_true p516
                replace q516 := eq_true q516
                go_wp2
                repeat (go_quiet (fail); try go_wp2)
                go_roundg k1
                case measure => have := HK1.out; omega
                case rel => exact ⟨(wrap64 (x5_1 + 1)), (by first | rfl | (simp; done) | (simp [*]; done)), H', ⟨by have := HK1.out; omega⟩, by repeat (first | exact Drawn0.refl _ | apply Drawn0.step)⟩
            · rw [if_neg c6] at H
              exact absurd H (by simp)
          · rw [if_neg c5] at H
            exact absurd H (by simp)
        · rw [if_neg c4] at H
          have c4b0 : decide (x5_1 < (l0.length : Int)) = false := decide_eq_false c4
          clear c4
          obtain rfl := Option.some.inj H
          go_wp2
          repeat (go_quiet (fail); try go_wp2)
          go_ret
          exact ⟨by first | rfl | (simp; done) | (simp [*]; done), by repeat (first | exact Drawn0.refl _ | apply Drawn0.step)⟩
  · rw [if_neg c3] at H
    have c3b0 : ((l0.length : Int) == (l1.length : Int)) = false := beq_eq_false_iff_ne.mpr c3
    have c3b1 : ((l0.length : Int) != (l1.length : Int)) = true := bne_iff_ne.mpr c3
    have c3b2 : (l0.length == l1.length) = false := by first | simpa using c3 | (simp at c3 ⊢; omega)
    obtain rfl := Option.some.inj H
    go_enter Try.func36, Try.ntmps36
    go_wp2
    repeat (go_quiet (fail); try go_wp2)
    go_ret
    exact ⟨by first | rfl | (simp; done) | (simp [*]; done), by repeat (first | exact Drawn0.refl _ | apply Drawn0.step)⟩

end Go.Proofs.Ytmecmmpgkcileaa.Z
