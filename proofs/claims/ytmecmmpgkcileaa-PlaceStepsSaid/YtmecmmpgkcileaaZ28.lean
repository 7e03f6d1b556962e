/- Written by a program out of the translation; Lean checks it. -/
import Derived.Test.YtmecmmpgkcileaaZ0
import Derived.Test.YtmecmmpgkcileaaZ22
import Derived.Test.YtmecmmpgkcileaaZ26
namespace Go.Proofs.Ytmecmmpgkcileaa.Z
open Go.RowKit Go.Proofs.YtmecmmpgkcileaaW.PrintWords Go.Proofs.YtmecmmpgkcileaaW.PrintLast Go.Proofs.YtmecmmpgkcileaaW.PrintMore
attribute [local go_sem] max2_int min2_int max_two min_two max_three min_three max_four min_four   -- for this text's walks alone
set_option linter.unusedVariables false
set_option linter.unusedSimpArgs false

/-! ### regletlaw20_PlaceSteps: function 15 -/
mutual
def regletlaw20_PlaceSteps.j0 : Nat → ByteArray → Int → Bool → Bool → Option (Bool)
  | 0, _, _, _, _ => none
  | k + 1, x0, x1, x5, x27 => if x27 = true then (some x5) else (if (wrap64 ((x0.size : Int) + 1)) = 0 then (none) else ((place_Of.f k x0 (Int.tmod (wrap64 (x1)) (wrap64 ((x0.size : Int) + 1)))).bind fun bt636 => (if bt636.2.2 = 0 then (if (Int.tmod (wrap64 (x1)) (wrap64 ((x0.size : Int) + 1))) = 0 then (if bt636.1 = 0 then (regletlaw20_PlaceSteps.j1 k x0 x5 (Int.tmod (wrap64 (x1)) (wrap64 ((x0.size : Int) + 1))) bt636.1 bt636.2.1 (bt636.2.1 != 0)) else (regletlaw20_PlaceSteps.j1 k x0 x5 (Int.tmod (wrap64 (x1)) (wrap64 ((x0.size : Int) + 1))) bt636.1 bt636.2.1 true)) else (regletlaw20_PlaceSteps.j1 k x0 x5 (Int.tmod (wrap64 (x1)) (wrap64 ((x0.size : Int) + 1))) bt636.1 bt636.2.1 false)) else (regletlaw20_PlaceSteps.j1 k x0 x5 (Int.tmod (wrap64 (x1)) (wrap64 ((x0.size : Int) + 1))) bt636.1 bt636.2.1 true))))
def regletlaw20_PlaceSteps.j1 : Nat → ByteArray → Bool → Int → Int → Int → Bool → Option (Bool)
  | 0, _, _, _, _, _, _ => none
  | k + 1, x0, x5, x6, x7, x8, x55 => if x55 = true then (some false) else (if x6 = (x0.size : Int) then ((place_At.f k x0 x7 (wrap64 (x8 + 1))).bind fun bt639 => ((place_Of.f k x0 (wrap64 (x6 + 1))).bind fun bt641 => (if x5 = true then (if bt639.2 = 2 then (some (bt641.2.2 == 2)) else (some false)) else (some false)))) else ((place_Of.f k x0 (wrap64 (x6 + 1))).bind fun bt644 => (if 0 ≤ x6 then (if x6 < (x0.size : Int) then (if (bt x0 x6) = 10 then ((place_At.f k x0 x7 (wrap64 (x8 + 1))).bind fun bt647 => (if x5 = true then (if bt644.2.2 = 0 then (if bt644.1 = (wrap64 (x7 + 1)) then (if bt644.2.1 = 0 then (some (bt647.2 == 2)) else (some false)) else (some false)) else (some false)) else (some false))) else (if x5 = true then (if bt644.2.2 = 0 then (if bt644.1 = x7 then (some (bt644.2.1 == (wrap64 (x8 + 1)))) else (some false)) else (some false)) else (some false))) else (none)) else (none))))
end
def regletlaw20_PlaceSteps.f (k : Nat) (a0 : ByteArray) (a1 : Int) : Option (Bool) := (regletlaw20_alive.f).bind fun t635 => (if (a0.size : Int) > 1000 then (regletlaw20_PlaceSteps.j0 k a0 a1 t635 true) else (regletlaw20_PlaceSteps.j0 k a0 a1 t635 (!t635)))
theorem regletlaw20_PlaceSteps.mono_l : ∀ k, (∀ y0 y1 y2 y3, LeO (regletlaw20_PlaceSteps.j0 k y0 y1 y2 y3) (regletlaw20_PlaceSteps.j0 (k + 1) y0 y1 y2 y3)) ∧ (∀ y0 y1 y2 y3 y4 y5, LeO (regletlaw20_PlaceSteps.j1 k y0 y1 y2 y3 y4 y5) (regletlaw20_PlaceSteps.j1 (k + 1) y0 y1 y2 y3 y4 y5))
  | 0 => ⟨fun _ _ _ _ r h => by simp [regletlaw20_PlaceSteps.j0] at h, fun _ _ _ _ _ _ r h => by simp [regletlaw20_PlaceSteps.j1] at h⟩
  | k + 1 => by
    obtain ⟨ih0, ih1⟩ := regletlaw20_PlaceSteps.mono_l k
    refine ⟨?_, ?_⟩
    · intro y0 y1 y2 y3
      unfold regletlaw20_PlaceSteps.j0
      repeat' first
      | (with_reducible exact ih0 _ _ _ _)
      | (with_reducible exact ih1 _ _ _ _ _ _)
      | (with_reducible exact place_At.mono _ _ _ _)
      | (with_reducible exact place_Of.mono _ _ _)
      | (with_reducible exact LeO.refl _)
      | (with_reducible exact LeO.none _)
      | (with_reducible refine LeO.ite ?_ ?_)
      | (with_reducible refine LeO.bind ?_ (fun _ => ?_))
      | exact ih0 _ _ _ _
      | exact ih1 _ _ _ _ _ _
      | exact place_At.mono _ _ _ _
      | exact place_Of.mono _ _ _
      | exact LeO.none _
      | refine LeO.ite ?_ ?_
      | refine LeO.bind ?_ (fun _ => ?_)
    · intro y0 y1 y2 y3 y4 y5
      unfold regletlaw20_PlaceSteps.j1
      repeat' first
      | (with_reducible exact ih0 _ _ _ _)
      | (with_reducible exact ih1 _ _ _ _ _ _)
      | (with_reducible exact place_At.mono _ _ _ _)
      | (with_reducible exact place_Of.mono _ _ _)
      | (with_reducible exact LeO.refl _)
      | (with_reducible exact LeO.none _)
      | (with_reducible refine LeO.ite ?_ ?_)
      | (with_reducible refine LeO.bind ?_ (fun _ => ?_))
      | exact ih0 _ _ _ _
      | exact ih1 _ _ _ _ _ _
      | exact place_At.mono _ _ _ _
      | exact place_Of.mono _ _ _
      | exact LeO.none _
      | refine LeO.ite ?_ ?_
      | refine LeO.bind ?_ (fun _ => ?_)
theorem regletlaw20_PlaceSteps.mono : ∀ a0 a1 k, LeO (regletlaw20_PlaceSteps.f k a0 a1) (regletlaw20_PlaceSteps.f (k + 1) a0 a1) := by
  intro a0 a1 k
  obtain ⟨ih0, ih1⟩ := regletlaw20_PlaceSteps.mono_l k
  unfold regletlaw20_PlaceSteps.f
  repeat' first
      | (with_reducible exact ih0 _ _ _ _)
      | (with_reducible exact ih1 _ _ _ _ _ _)
      | (with_reducible exact place_At.mono _ _ _ _)
      | (with_reducible exact place_Of.mono _ _ _)
      | (with_reducible exact LeO.refl _)
      | (with_reducible exact LeO.none _)
      | (with_reducible refine LeO.ite ?_ ?_)
      | (with_reducible refine LeO.bind ?_ (fun _ => ?_))
      | exact ih0 _ _ _ _
      | exact ih1 _ _ _ _ _ _
      | exact place_At.mono _ _ _ _
      | exact place_Of.mono _ _ _
      | exact LeO.none _
      | refine LeO.ite ?_ ?_
      | refine LeO.bind ?_ (fun _ => ?_)
set_option maxHeartbeats 8000000 in
set_option maxRecDepth 100000 in
theorem regletlaw20_PlaceSteps.calls (k : Nat) (a0 : ByteArray) (a1 : Int) (r : Bool) (w : World) (h : regletlaw20_PlaceSteps.f k a0 a1 = some r) :
    Calls Try.prog 15 #[.string a0, .int .u16 a1] w fun e w' => e = .returned (.bool r) ∧ Below w.heap.size w w' := by
  have HB := Aside0.mk (Below.refl w.heap.size w)
  have H : ((regletlaw20_alive.f).bind fun t635 => (if (a0.size : Int) > 1000 then (regletlaw20_PlaceSteps.j0 k a0 a1 t635 true) else (regletlaw20_PlaceSteps.j0 k a0 a1 t635 (!t635)))) = some r := h
  clear h
  replace H := Option.bind_eq_some_iff.mp H
  obtain ⟨t635, A30, H⟩ := H
  replace H : (if (a0.size : Int) > 1000 then (regletlaw20_PlaceSteps.j0 k a0 a1 t635 true) else (regletlaw20_PlaceSteps.j0 k a0 a1 t635 (!t635))) = some r := H
  have A3 := Aside0.mk A30
  clear A30
  have HC4 := Aside0.mk H
  clear H
  go_enter Try.func15, Try.ntmps15
  go_upto_region 2 with (first | ((with_reducible refine gate_callee (f := 37) rfl ?_); refine goesL_ (some 20) rfl rfl Try.func37 (by kernel_rfl) rfl #[] rfl (by (try simp only [List.map_toArray, List.map_cons, List.map_nil]); first | done | rfl | (simp only [List.length_drop, List.length_take]; rfl)) ?_; (with_reducible refine (regletlaw20_alive.calls  t635 _ A3.out).mono ?_); rintro e w5 ⟨rfl, hb⟩; refine ⟨_, rfl, ?_⟩; have n0_ := Aside0.mk (below_step (by repeat (first | (with_reducible first | exact HB.out | apply below_alloc | apply pw_below_drewN | apply below_drew1) | exact HB.out)) hb); clear HB; have HB := n0_; clear n0_; (try clear hb); (try clear hb2); (try clear hk); (try clear hi)))
  (try simp only [Act.put, List.setIfInBounds_toArray, List.set_cons_zero, List.set_cons_succ])
  go_cut [27] (fun v27 wc => ∃ (kq : Nat) (x27_3 : Bool), v27 = .bool x27_3 ∧ Aside0 (regletlaw20_PlaceSteps.j0 kq a0 a1 t635 x27_3 = some r) ∧ Aside0 (kq ≤ k) ∧ Aside0 (Below w.heap.size w wc))
  case first =>
    have H := HC4.out
    clear HC4
    by_cases c6 : (a0.size : Int) > 1000
    · rw [if_pos c6] at H
      have c6b0 : decide (1000 < (a0.size : Int)) = true := decide_eq_true c6
      have c6b1 : decide (1000 < a0.size) = true := decide_eq_true (by omega)
      clear c6
      (first | rw [c6b0] | (simp only [i64_w, i32_w]; rw [c6b0]) | skip)
      have H' := Aside0.mk H
      clear H
      go_wp2
      go_meet
      case rel => exact ⟨_, (true), (by first | rfl | (simp; done) | (simp [*]; done)), H', ⟨by first | omega | exact Nat.le_refl _⟩, ⟨by repeat (first | (with_reducible first | exact HB.out | apply below_alloc | apply pw_below_drewN | apply below_drew1) | exact HB.out)⟩⟩
    · rw [if_neg c6] at H
      have c6b0 : decide (1000 < (a0.size : Int)) = false := decide_eq_false c6
      have c6b1 : decide (1000 < a0.size) = false := decide_eq_false (by omega)
      clear c6
      (first | rw [c6b0] | (simp only [i64_w, i32_w]; rw [c6b0]) | skip)
      have H' := Aside0.mk H
      clear H
      go_wp2
      go_meet
      case rel => exact ⟨_, (!t635), (by first | rfl | (simp; done) | (simp [*]; done)), H', ⟨by first | omega | exact Nat.le_refl _⟩, ⟨by repeat (first | (with_reducible first | exact HB.out | apply below_alloc | apply pw_below_drewN | apply below_drew1) | exact HB.out)⟩⟩
  case rest =>
    clear HC4
    try clear c1
    try clear p2
    try clear c3
    try clear c6
    try clear c6b0
    try clear c6b1
    obtain ⟨kq, x27_3, rfl, HA, HJ3, HB⟩ := hcut
    cases kq with
    | zero => exact absurd HA.out (by simp [regletlaw20_PlaceSteps.j0])
    | succ kj3 =>
      have H := HA.out
      clear HA
      simp only [regletlaw20_PlaceSteps.j0] at H
      by_cases c7 : x27_3 = true
      · subst c7
        have H1 : (some t635) = some r := by rw [if_pos rfl] at H; exact H
        clear H
        have H := H1
        clear H1
        obtain rfl := Option.some.inj H
        go_wp2
        go_ret
        exact ⟨by first | rfl | (simp [errW_none, errW_some] <;> rfl) | (simp [*, errW_none, errW_some] <;> rfl), by repeat (first | (with_reducible first | exact HB.out | apply below_alloc | apply pw_below_drewN | apply below_drew1) | exact HB.out)⟩
      · replace c7 := Bool.eq_false_iff.mpr c7
        subst c7
        have H1 : (if (wrap64 ((a0.size : Int) + 1)) = 0 then (none) else ((place_Of.f kj3 a0 (Int.tmod (wrap64 (a1)) (wrap64 ((a0.size : Int) + 1)))).bind fun bt636 => (if bt636.2.2 = 0 then (if (Int.tmod (wrap64 (a1)) (wrap64 ((a0.size : Int) + 1))) = 0 then (if bt636.1 = 0 then (regletlaw20_PlaceSteps.j1 kj3 a0 t635 (Int.tmod (wrap64 (a1)) (wrap64 ((a0.size : Int) + 1))) bt636.1 bt636.2.1 (bt636.2.1 != 0)) else (regletlaw20_PlaceSteps.j1 kj3 a0 t635 (Int.tmod (wrap64 (a1)) (wrap64 ((a0.size : Int) + 1))) bt636.1 bt636.2.1 true)) else (regletlaw20_PlaceSteps.j1 kj3 a0 t635 (Int.tmod (wrap64 (a1)) (wrap64 ((a0.size : Int) + 1))) bt636.1 bt636.2.1 false)) else (regletlaw20_PlaceSteps.j1 kj3 a0 t635 (Int.tmod (wrap64 (a1)) (wrap64 ((a0.size : Int) + 1))) bt636.1 bt636.2.1 true)))) = some r := by rw [if_neg (show ¬ (false = true) by decide)] at H; exact H
        clear H
        have H := H1
        clear H1
        by_cases c8 : (wrap64 ((a0.size : Int) + 1)) = 0
        · rw [if_pos c8] at H
          exact absurd H (by simp)
        · rw [if_neg c8] at H
          have c8b0 : ((wrap64 ((a0.size : Int) + 1)) == 0) = false := beq_eq_false_iff_ne.mpr c8
          have c8b1 : ((wrap64 ((a0.size : Int) + 1)) != 0) = true := bne_iff_ne.mpr c8
          replace H := Option.bind_eq_some_iff.mp H
          obtain ⟨⟨t636, t637, t638⟩, A90, H⟩ := H
          replace H : (if t638 = 0 then (if (Int.tmod (wrap64 (a1)) (wrap64 ((a0.size : Int) + 1))) = 0 then (if t636 = 0 then (regletlaw20_PlaceSteps.j1 kj3 a0 t635 (Int.tmod (wrap64 (a1)) (wrap64 ((a0.size : Int) + 1))) t636 t637 (t637 != 0)) else (regletlaw20_PlaceSteps.j1 kj3 a0 t635 (Int.tmod (wrap64 (a1)) (wrap64 ((a0.size : Int) + 1))) t636 t637 true)) else (regletlaw20_PlaceSteps.j1 kj3 a0 t635 (Int.tmod (wrap64 (a1)) (wrap64 ((a0.size : Int) + 1))) t636 t637 false)) else (regletlaw20_PlaceSteps.j1 kj3 a0 t635 (Int.tmod (wrap64 (a1)) (wrap64 ((a0.size : Int) + 1))) t636 t637 true)) = some r := H
          have A9 := Aside0.mk A90
          clear A90
          have HC10 := Aside0.mk H
          clear H
          go_upto_region 6 with (first | ((with_reducible refine gate_callee (f := 39) rfl ?_); refine goesL_ (some 38) rfl rfl Try.func39 (by kernel_rfl) rfl #[.string a0, .int .i64 (Int.tmod (wrap64 (a1)) (wrap64 ((a0.size : Int) + 1)))] rfl (by (try simp only [List.map_toArray, List.map_cons, List.map_nil]); first | done | rfl | (simp only [List.length_drop, List.length_take]; rfl)) ?_; (with_reducible refine (place_Of.calls kj3 a0 (Int.tmod (wrap64 (a1)) (wrap64 ((a0.size : Int) + 1))) t636 t637 t638 _ A9.out).mono ?_); rintro e w' ⟨rfl, ⟨nd, rfl⟩⟩; refine ⟨_, rfl, ?_⟩))
          (try simp only [Act.put, List.setIfInBounds_toArray, List.set_cons_zero, List.set_cons_succ])
          go_cut [55] (fun v55 wc => ∃ (kq : Nat) (x55_9 : Bool), v55 = .bool x55_9 ∧ Aside0 (regletlaw20_PlaceSteps.j1 kq a0 t635 (Int.tmod (wrap64 (a1)) (wrap64 ((a0.size : Int) + 1))) t636 t637 x55_9 = some r) ∧ Aside0 (kq ≤ kj3) ∧ Aside0 (Below w.heap.size w wc))
          case first =>
            have H := HC10.out
            clear HC10
            by_cases c11 : t638 = 0
            · rw [if_pos c11] at H
              have c11b0 : (t638 == 0) = true := beq_iff_eq.mpr c11
              have c11b1 : (t638 != 0) = false := bne_eq_false_iff_eq.mpr c11
              clear c11
              (first | rw [c11b0] | (simp only [i64_w, i32_w]; rw [c11b0]) | skip)
              by_cases c12 : (Int.tmod (wrap64 (a1)) (wrap64 ((a0.size : Int) + 1))) = 0
              · rw [if_pos c12] at H
                have c12b0 : ((Int.tmod (wrap64 (a1)) (wrap64 ((a0.size : Int) + 1))) == 0) = true := beq_iff_eq.mpr c12
                have c12b1 : ((Int.tmod (wrap64 (a1)) (wrap64 ((a0.size : Int) + 1))) != 0) = false := bne_eq_false_iff_eq.mpr c12
                clear c12
                by_cases c13 : t636 = 0
                · rw [if_pos c13] at H
                  have c13b0 : (t636 == 0) = true := beq_iff_eq.mpr c13
                  have c13b1 : (t636 != 0) = false := bne_eq_false_iff_eq.mpr c13
                  clear c13
                  have H' := Aside0.mk H
                  clear H
                  go_wp2
                  go_meet
                  case rel => exact ⟨_, ((t637 != 0)), (by first | rfl | (simp; done) | (simp [*]; done)), H', ⟨by have := HJ3.out; first | omega | exact Nat.le_refl _⟩, ⟨by repeat (first | (with_reducible first | exact HB.out | apply below_alloc | apply pw_below_drewN | apply below_drew1) | exact HB.out)⟩⟩
                · rw [if_neg c13] at H
                  have c13b0 : (t636 == 0) = false := beq_eq_false_iff_ne.mpr c13
                  have c13b1 : (t636 != 0) = true := bne_iff_ne.mpr c13
                  have H' := Aside0.mk H
                  clear H
                  go_wp2
                  go_meet
                  case rel => exact ⟨_, (true), (by first | rfl | (simp; done) | (simp [*]; done)), H', ⟨by have := HJ3.out; first | omega | exact Nat.le_refl _⟩, ⟨by repeat (first | (with_reducible first | exact HB.out | apply below_alloc | apply pw_below_drewN | apply below_drew1) | exact HB.out)⟩⟩
              · rw [if_neg c12] at H
                have c12b0 : ((Int.tmod (wrap64 (a1)) (wrap64 ((a0.size : Int) + 1))) == 0) = false := beq_eq_false_iff_ne.mpr c12
                have c12b1 : ((Int.tmod (wrap64 (a1)) (wrap64 ((a0.size : Int) + 1))) != 0) = true := bne_iff_ne.mpr c12
                have H' := Aside0.mk H
                clear H
                go_wp2
                go_meet
                case rel => exact ⟨_, (false), (by first | rfl | (simp; done) | (simp [*]; done)), H', ⟨by have := HJ3.out; first | omega | exact Nat.le_refl _⟩, ⟨by repeat (first | (with_reducible first | exact HB.out | apply below_alloc | apply pw_below_drewN | apply below_drew1) | exact HB.out)⟩⟩
            · rw [if_neg c11] at H
              have c11b0 : (t638 == 0) = false := beq_eq_false_iff_ne.mpr c11
              have c11b1 : (t638 != 0) = true := bne_iff_ne.mpr c11
              (first | rw [c11b0] | (simp only [i64_w, i32_w]; rw [c11b0]) | skip)
              have H' := Aside0.mk H
              clear H
              go_wp2
              go_meet
              case rel => exact ⟨_, (true), (by first | rfl | (simp; done) | (simp [*]; done)), H', ⟨by have := HJ3.out; first | omega | exact Nat.le_refl _⟩, ⟨by repeat (first | (with_reducible first | exact HB.out | apply below_alloc | apply pw_below_drewN | apply below_drew1) | exact HB.out)⟩⟩
          case rest =>
            clear HC10
            try clear c1
            try clear p2
            try clear c3
            try clear c6
            try clear c6b0
            try clear c6b1
            try clear p6
            try clear c7
            try clear c8
            try clear c8b0
            try clear c8b1
            try clear c11
            try clear c11b0
            try clear c11b1
            try clear c12
            try clear c12b0
            try clear c12b1
            try clear c13
            try clear c13b0
            try clear c13b1
            try clear p2
            obtain ⟨kq, x55_9, rfl, HA, HJ9, HB⟩ := hcut
            cases kq with
            | zero => exact absurd HA.out (by simp [regletlaw20_PlaceSteps.j1])
            | succ kj9 =>
              have H := HA.out
              clear HA
              simp only [regletlaw20_PlaceSteps.j1] at H
              by_cases c14 : x55_9 = true
              · subst c14
                have H1 : (some false) = some r := by rw [if_pos rfl] at H; exact H
                clear H
                have H := H1
                clear H1
                obtain rfl := Option.some.inj H
                go_wp2
                go_ret
                exact ⟨by first | rfl | (simp [errW_none, errW_some] <;> rfl) | (simp [*, errW_none, errW_some] <;> rfl), by repeat (first | (with_reducible first | exact HB.out | apply below_alloc | apply pw_below_drewN | apply below_drew1) | exact HB.out)⟩
              · replace c14 := Bool.eq_false_iff.mpr c14
                subst c14
                have H1 : (if (Int.tmod (wrap64 (a1)) (wrap64 ((a0.size : Int) + 1))) = (a0.size : Int) then ((place_At.f kj9 a0 t636 (wrap64 (t637 + 1))).bind fun bt639 => ((place_Of.f kj9 a0 (wrap64 ((Int.tmod (wrap64 (a1)) (wrap64 ((a0.size : Int) + 1))) + 1))).bind fun bt641 => (if t635 = true then (if bt639.2 = 2 then (some (bt641.2.2 == 2)) else (some false)) else (some false)))) else ((place_Of.f kj9 a0 (wrap64 ((Int.tmod (wrap64 (a1)) (wrap64 ((a0.size : Int) + 1))) + 1))).bind fun bt644 => (if 0 ≤ (Int.tmod (wrap64 (a1)) (wrap64 ((a0.size : Int) + 1))) then (if (Int.tmod (wrap64 (a1)) (wrap64 ((a0.size : Int) + 1))) < (a0.size : Int) then (if (bt a0 (Int.tmod (wrap64 (a1)) (wrap64 ((a0.size : Int) + 1)))) = 10 then ((place_At.f kj9 a0 t636 (wrap64 (t637 + 1))).bind fun bt647 => (if t635 = true then (if bt644.2.2 = 0 then (if bt644.1 = (wrap64 (t636 + 1)) then (if bt644.2.1 = 0 then (some (bt647.2 == 2)) else (some false)) else (some false)) else (some false)) else (some false))) else (if t635 = true then (if bt644.2.2 = 0 then (if bt644.1 = t636 then (some (bt644.2.1 == (wrap64 (t637 + 1)))) else (some false)) else (some false)) else (some false))) else (none)) else (none)))) = some r := by rw [if_neg (show ¬ (false = true) by decide)] at H; exact H
                clear H
                have H := H1
                clear H1
                by_cases c15 : (Int.tmod (wrap64 (a1)) (wrap64 ((a0.size : Int) + 1))) = (a0.size : Int)
                · rw [if_pos c15] at H
                  have c15b0 : ((Int.tmod (wrap64 (a1)) (wrap64 ((a0.size : Int) + 1))) == (a0.size : Int)) = true := beq_iff_eq.mpr c15
                  have c15b1 : ((Int.tmod (wrap64 (a1)) (wrap64 ((a0.size : Int) + 1))) != (a0.size : Int)) = false := bne_eq_false_iff_eq.mpr c15
                  clear c15
                  replace H := Option.bind_eq_some_iff.mp H
                  obtain ⟨⟨t639, t640⟩, A160, H⟩ := H
                  replace H : ((place_Of.f kj9 a0 (wrap64 ((Int.tmod (wrap64 (a1)) (wrap64 ((a0.size : Int) + 1))) + 1))).bind fun bt641 => (if t635 = true then (if t640 = 2 then (some (bt641.2.2 == 2)) else (some false)) else (some false))) = some r := H
                  have A16 := Aside0.mk A160
                  clear A160
                  replace H := Option.bind_eq_some_iff.mp H
                  obtain ⟨⟨t641, t642, t643⟩, A170, H⟩ := H
                  replace H : (if t635 = true then (if t640 = 2 then (some (t643 == 2)) else (some false)) else (some false)) = some r := H
                  have A17 := Aside0.mk A170
                  clear A170
                  by_cases c18 : t635 = true
                  · subst c18
                    have H1 : (if t640 = 2 then (some (t643 == 2)) else (some false)) = some r := by rw [if_pos rfl] at H; exact H
                    clear H
                    have H := H1
                    clear H1
                    by_cases c19 : t640 = 2
                    · rw [if_pos c19] at H
                      have c19b0 : (t640 == 2) = true := beq_iff_eq.mpr c19
                      have c19b1 : (t640 != 2) = false := bne_eq_false_iff_eq.mpr c19
                      clear c19
                      obtain rfl := Option.some.inj H
                      go_wp2_with (first | ((with_reducible refine gate_callee (f := 41) rfl ?_); refine goesL_ (some 65) rfl rfl Try.func41 (by kernel_rfl) rfl #[.string a0, .int .i64 t636, .int .i64 (wrap64 (t637 + 1))] rfl (by (try simp only [List.map_toArray, List.map_cons, List.map_nil]); first | done | rfl | (simp only [List.length_drop, List.length_take]; rfl)) ?_; (with_reducible refine (place_At.calls kj9 a0 t636 (wrap64 (t637 + 1)) t639 t640 _ A16.out).mono ?_); rintro e w' ⟨rfl, ⟨nd, rfl⟩⟩; refine ⟨_, rfl, ?_⟩) | ((with_reducible refine gate_callee (f := 39) rfl ?_); refine goesL_ (some 72) rfl rfl Try.func39 (by kernel_rfl) rfl #[.string a0, .int .i64 (wrap64 ((Int.tmod (wrap64 (a1)) (wrap64 ((a0.size : Int) + 1))) + 1))] rfl (by (try simp only [List.map_toArray, List.map_cons, List.map_nil]); first | done | rfl | (simp only [List.length_drop, List.length_take]; rfl)) ?_; (with_reducible refine (place_Of.calls kj9 a0 (wrap64 ((Int.tmod (wrap64 (a1)) (wrap64 ((a0.size : Int) + 1))) + 1)) t641 t642 t643 _ A17.out).mono ?_); rintro e w' ⟨rfl, ⟨nd, rfl⟩⟩; refine ⟨_, rfl, ?_⟩))
                      go_ret
                      exact ⟨by first | rfl | (simp [errW_none, errW_some] <;> rfl) | (simp [*, errW_none, errW_some] <;> rfl), by repeat (first | (with_reducible first | exact HB.out | apply below_alloc | apply pw_below_drewN | apply below_drew1) | exact HB.out)⟩
                    · rw [if_neg c19] at H
                      have c19b0 : (t640 == 2) = false := beq_eq_false_iff_ne.mpr c19
                      have c19b1 : (t640 != 2) = true := bne_iff_ne.mpr c19
                      obtain rfl := Option.some.inj H
                      go_wp2_with (first | ((with_reducible refine gate_callee (f := 41) rfl ?_); refine goesL_ (some 65) rfl rfl Try.func41 (by kernel_rfl) rfl #[.string a0, .int .i64 t636, .int .i64 (wrap64 (t637 + 1))] rfl (by (try simp only [List.map_toArray, List.map_cons, List.map_nil]); first | done | rfl | (simp only [List.length_drop, List.length_take]; rfl)) ?_; (with_reducible refine (place_At.calls kj9 a0 t636 (wrap64 (t637 + 1)) t639 t640 _ A16.out).mono ?_); rintro e w' ⟨rfl, ⟨nd, rfl⟩⟩; refine ⟨_, rfl, ?_⟩) | ((with_reducible refine gate_callee (f := 39) rfl ?_); refine goesL_ (some 72) rfl rfl Try.func39 (by kernel_rfl) rfl #[.string a0, .int .i64 (wrap64 ((Int.tmod (wrap64 (a1)) (wrap64 ((a0.size : Int) + 1))) + 1))] rfl (by (try simp only [List.map_toArray, List.map_cons, List.map_nil]); first | done | rfl | (simp only [List.length_drop, List.length_take]; rfl)) ?_; (with_reducible refine (place_Of.calls kj9 a0 (wrap64 ((Int.tmod (wrap64 (a1)) (wrap64 ((a0.size : Int) + 1))) + 1)) t641 t642 t643 _ A17.out).mono ?_); rintro e w' ⟨rfl, ⟨nd, rfl⟩⟩; refine ⟨_, rfl, ?_⟩))
                      go_ret
                      exact ⟨by first | rfl | (simp [errW_none, errW_some] <;> rfl) | (simp [*, errW_none, errW_some] <;> rfl), by repeat (first | (with_reducible first | exact HB.out | apply below_alloc | apply pw_below_drewN | apply below_drew1) | exact HB.out)⟩
                  · replace c18 := Bool.eq_false_iff.mpr c18
                    subst c18
                    have H1 : (some false) = some r := by rw [if_neg (show ¬ (false = true) by decide)] at H; exact H
                    clear H
                    have H := H1
                    clear H1
                    obtain rfl := Option.some.inj H
                    go_wp2_with (first | ((with_reducible refine gate_callee (f := 41) rfl ?_); refine goesL_ (some 65) rfl rfl Try.func41 (by kernel_rfl) rfl #[.string a0, .int .i64 t636, .int .i64 (wrap64 (t637 + 1))] rfl (by (try simp only [List.map_toArray, List.map_cons, List.map_nil]); first | done | rfl | (simp only [List.length_drop, List.length_take]; rfl)) ?_; (with_reducible refine (place_At.calls kj9 a0 t636 (wrap64 (t637 + 1)) t639 t640 _ A16.out).mono ?_); rintro e w' ⟨rfl, ⟨nd, rfl⟩⟩; refine ⟨_, rfl, ?_⟩) | ((with_reducible refine gate_callee (f := 39) rfl ?_); refine goesL_ (some 72) rfl rfl Try.func39 (by kernel_rfl) rfl #[.string a0, .int .i64 (wrap64 ((Int.tmod (wrap64 (a1)) (wrap64 ((a0.size : Int) + 1))) + 1))] rfl (by (try simp only [List.map_toArray, List.map_cons, List.map_nil]); first | done | rfl | (simp only [List.length_drop, List.length_take]; rfl)) ?_; (with_reducible refine (place_Of.calls kj9 a0 (wrap64 ((Int.tmod (wrap64 (a1)) (wrap64 ((a0.size : Int) + 1))) + 1)) t641 t642 t643 _ A17.out).mono ?_); rintro e w' ⟨rfl, ⟨nd, rfl⟩⟩; refine ⟨_, rfl, ?_⟩))
                    go_ret
                    exact ⟨by first | rfl | (simp [errW_none, errW_some] <;> rfl) | (simp [*, errW_none, errW_some] <;> rfl), by repeat (first | (with_reducible first | exact HB.out | apply below_alloc | apply pw_below_drewN | apply below_drew1) | exact HB.out)⟩
                · rw [if_neg c15] at H
                  have c15b0 : ((Int.tmod (wrap64 (a1)) (wrap64 ((a0.size : Int) + 1))) == (a0.size : Int)) = false := beq_eq_false_iff_ne.mpr c15
                  have c15b1 : ((Int.tmod (wrap64 (a1)) (wrap64 ((a0.size : Int) + 1))) != (a0.size : Int)) = true := bne_iff_ne.mpr c15
                  replace H := Option.bind_eq_some_iff.mp H
                  obtain ⟨⟨t644, t645, t646⟩, A200, H⟩ := H
                  replace H : (if 0 ≤ (Int.tmod (wrap64 (a1)) (wrap64 ((a0.size : Int) + 1))) then (if (Int.tmod (wrap64 (a1)) (wrap64 ((a0.size : Int) + 1))) < (a0.size : Int) then (if (bt a0 (Int.tmod (wrap64 (a1)) (wrap64 ((a0.size : Int) + 1)))) = 10 then ((place_At.f kj9 a0 t636 (wrap64 (t637 + 1))).bind fun bt647 => (if t635 = true then (if t646 = 0 then (if t644 = (wrap64 (t636 + 1)) then (if t645 = 0 then (some (bt647.2 == 2)) else (some false)) else (some false)) else (some false)) else (some false))) else (if t635 = true then (if t646 = 0 then (if t644 = t636 then (some (t645 == (wrap64 (t637 + 1)))) else (some false)) else (some false)) else (some false))) else (none)) else (none)) = some r := H
                  have A20 := Aside0.mk A200
                  clear A200
                  obtain ⟨ji21, hji21⟩ : ∃ j_ : Int, (Int.tmod (wrap64 (a1)) (wrap64 ((a0.size : Int) + 1))) = j_ := ⟨_, rfl⟩
                  replace H : (if 0 ≤ (ji21) then (if (ji21) < (a0.size : Int) then (if (bt a0 (ji21)) = 10 then ((place_At.f kj9 a0 t636 (wrap64 (t637 + 1))).bind fun bt647 => (if t635 = true then (if t646 = 0 then (if t644 = (wrap64 (t636 + 1)) then (if t645 = 0 then (some (bt647.2 == 2)) else (some false)) else (some false)) else (some false)) else (some false))) else (if t635 = true then (if t646 = 0 then (if t644 = t636 then (some (t645 == (wrap64 (t637 + 1)))) else (some false)) else (some false)) else (some false))) else (none)) else (none)) = some r := by first | (rw [hji21] at H; exact H) | (simp only [hji21] at H ⊢; exact H)
                  (try rw [hji21] at c15b0)
                  (try rw [hji21] at c15b1)
                  (try rw [hji21] at A20)
                  by_cases c22 : 0 ≤ (ji21)
                  · rw [if_pos c22] at H
                    have c22b0 : decide (0 ≤ (ji21)) = true := decide_eq_true c22
                    clear c22
                    by_cases c23 : (ji21) < (a0.size : Int)
                    · rw [if_pos c23] at H
                      have c23b0 : decide ((ji21) < (a0.size : Int)) = true := decide_eq_true c23
                      clear c23
                      by_cases c25 : (bt a0 (ji21)) = 10
                      · rw [if_pos c25] at H
                        have c25b0 : ((bt a0 (ji21)) == 10) = true := beq_iff_eq.mpr c25
                        have c25b1 : ((bt a0 (ji21)) != 10) = false := bne_eq_false_iff_eq.mpr c25
                        clear c25
                        replace H := Option.bind_eq_some_iff.mp H
                        obtain ⟨⟨t647, t648⟩, A260, H⟩ := H
                        replace H : (if t635 = true then (if t646 = 0 then (if t644 = (wrap64 (t636 + 1)) then (if t645 = 0 then (some (t648 == 2)) else (some false)) else (some false)) else (some false)) else (some false)) = some r := H
                        have A26 := Aside0.mk A260
                        clear A260
                        by_cases c27 : t635 = true
                        · subst c27
                          have H1 : (if t646 = 0 then (if t644 = (wrap64 (t636 + 1)) then (if t645 = 0 then (some (t648 == 2)) else (some false)) else (some false)) else (some false)) = some r := by rw [if_pos rfl] at H; exact H
                          clear H
                          have H := H1
                          clear H1
                          by_cases c28 : t646 = 0
                          · rw [if_pos c28] at H
                            have c28b0 : (t646 == 0) = true := beq_iff_eq.mpr c28
                            have c28b1 : (t646 != 0) = false := bne_eq_false_iff_eq.mpr c28
                            clear c28
                            by_cases c29 : t644 = (wrap64 (t636 + 1))
                            · rw [if_pos c29] at H
                              have c29b0 : (t644 == (wrap64 (t636 + 1))) = true := beq_iff_eq.mpr c29
                              have c29b1 : (t644 != (wrap64 (t636 + 1))) = false := bne_eq_false_iff_eq.mpr c29
                              clear c29
                              by_cases c30 : t645 = 0
                              · rw [if_pos c30] at H
                                have c30b0 : (t645 == 0) = true := beq_iff_eq.mpr c30
                                have c30b1 : (t645 != 0) = false := bne_eq_false_iff_eq.mpr c30
                                clear c30
                                obtain rfl := Option.some.inj H
                                go_wp2_with (first | ((with_reducible refine gate_callee (f := 39) rfl ?_); refine goesL_ (some 89) rfl rfl Try.func39 (by kernel_rfl) rfl #[.string a0, .int .i64 (wrap64 ((ji21) + 1))] rfl (by (try simp only [List.map_toArray, List.map_cons, List.map_nil]); first | done | (simp only [hji21]; rfl) | rfl | (simp only [List.length_drop, List.length_take]; rfl)) ?_; (with_reducible refine (place_Of.calls kj9 a0 (wrap64 ((ji21) + 1)) t644 t645 t646 _ A20.out).mono ?_); rintro e w' ⟨rfl, ⟨nd, rfl⟩⟩; refine ⟨_, rfl, ?_⟩; have p24 : 0 ≤ ((ji21) : Int) := of_decide_eq_true (by first | (with_reducible assumption) | assumption); have q24 : (ji21) < (a0.size : Int) := of_decide_eq_true (by first | (with_reducible assumption) | assumption); have hx24 := bt_at a0 (ji21); replace p24 := eq_true p24; replace q24 := eq_true q24) | ((with_reducible refine gate_callee (f := 41) rfl ?_); refine goesL_ (some 118) rfl rfl Try.func41 (by kernel_rfl) rfl #[.string a0, .int .i64 t636, .int .i64 (wrap64 (t637 + 1))] rfl (by (try simp only [List.map_toArray, List.map_cons, List.map_nil]); first | done | rfl | (simp only [List.length_drop, List.length_take]; rfl)) ?_; (with_reducible refine (place_At.calls kj9 a0 t636 (wrap64 (t637 + 1)) t647 t648 _ A26.out).mono ?_); rintro e w' ⟨rfl, ⟨nd, rfl⟩⟩; refine ⟨_, rfl, ?_⟩))
                                go_ret
                                exact ⟨by first | rfl | (simp [errW_none, errW_some] <;> rfl) | (simp only [← hji21]; first | rfl | (simp [errW_none, errW_some] <;> rfl)) | (simp [*, errW_none, errW_some] <;> rfl), by repeat (first | (with_reducible first | exact HB.out | apply below_alloc | apply pw_below_drewN | apply below_drew1) | exact HB.out)⟩
                              · rw [if_neg c30] at H
                                have c30b0 : (t645 == 0) = false := beq_eq_false_iff_ne.mpr c30
                                have c30b1 : (t645 != 0) = true := bne_iff_ne.mpr c30
                                obtain rfl := Option.some.inj H
                                go_wp2_with (first | ((with_reducible refine gate_callee (f := 39) rfl ?_); refine goesL_ (some 89) rfl rfl Try.func39 (by kernel_rfl) rfl #[.string a0, .int .i64 (wrap64 ((ji21) + 1))] rfl (by (try simp only [List.map_toArray, List.map_cons, List.map_nil]); first | done | (simp only [hji21]; rfl) | rfl | (simp only [List.length_drop, List.length_take]; rfl)) ?_; (with_reducible refine (place_Of.calls kj9 a0 (wrap64 ((ji21) + 1)) t644 t645 t646 _ A20.out).mono ?_); rintro e w' ⟨rfl, ⟨nd, rfl⟩⟩; refine ⟨_, rfl, ?_⟩; have p24 : 0 ≤ ((ji21) : Int) := of_decide_eq_true (by first | (with_reducible assumption) | assumption); have q24 : (ji21) < (a0.size : Int) := of_decide_eq_true (by first | (with_reducible assumption) | assumption); have hx24 := bt_at a0 (ji21); replace p24 := eq_true p24; replace q24 := eq_true q24) | ((with_reducible refine gate_callee (f := 41) rfl ?_); refine goesL_ (some 118) rfl rfl Try.func41 (by kernel_rfl) rfl #[.string a0, .int .i64 t636, .int .i64 (wrap64 (t637 + 1))] rfl (by (try simp only [List.map_toArray, List.map_cons, List.map_nil]); first | done | rfl | (simp only [List.length_drop, List.length_take]; rfl)) ?_; (with_reducible refine (place_At.calls kj9 a0 t636 (wrap64 (t637 + 1)) t647 t648 _ A26.out).mono ?_); rintro e w' ⟨rfl, ⟨nd, rfl⟩⟩; refine ⟨_, rfl, ?_⟩))
                                go_ret
                                exact ⟨by first | rfl | (simp [errW_none, errW_some] <;> rfl) | (simp only [← hji21]; first | rfl | (simp [errW_none, errW_some] <;> rfl)) | (simp [*, errW_none, errW_some] <;> rfl), by repeat (first | (with_reducible first | exact HB.out | apply below_alloc | apply pw_below_drewN | apply below_drew1) | exact HB.out)⟩
                            · rw [if_neg c29] at H
                              have c29b0 : (t644 == (wrap64 (t636 + 1))) = false := beq_eq_false_iff_ne.mpr c29
                              have c29b1 : (t644 != (wrap64 (t636 + 1))) = true := bne_iff_ne.mpr c29
                              obtain rfl := Option.some.inj H
                              go_wp2_with (first | ((with_reducible refine gate_callee (f := 39) rfl ?_); refine goesL_ (some 89) rfl rfl Try.func39 (by kernel_rfl) rfl #[.string a0, .int .i64 (wrap64 ((ji21) + 1))] rfl (by (try simp only [List.map_toArray, List.map_cons, List.map_nil]); first | done | (simp only [hji21]; rfl) | rfl | (simp only [List.length_drop, List.length_take]; rfl)) ?_; (with_reducible refine (place_Of.calls kj9 a0 (wrap64 ((ji21) + 1)) t644 t645 t646 _ A20.out).mono ?_); rintro e w' ⟨rfl, ⟨nd, rfl⟩⟩; refine ⟨_, rfl, ?_⟩; have p24 : 0 ≤ ((ji21) : Int) := of_decide_eq_true (by first | (with_reducible assumption) | assumption); have q24 : (ji21) < (a0.size : Int) := of_decide_eq_true (by first | (with_reducible assumption) | assumption); have hx24 := bt_at a0 (ji21); replace p24 := eq_true p24; replace q24 := eq_true q24) | ((with_reducible refine gate_callee (f := 41) rfl ?_); refine goesL_ (some 118) rfl rfl Try.func41 (by kernel_rfl) rfl #[.string a0, .int .i64 t636, .int .i64 (wrap64 (t637 + 1))] rfl (by (try simp only [List.map_toArray, List.map_cons, List.map_nil]); first | done | rfl | (simp only [List.length_drop, List.length_take]; rfl)) ?_; (with_reducible refine (place_At.calls kj9 a0 t636 (wrap64 (t637 + 1)) t647 t648 _ A26.out).mono ?_); rintro e w' ⟨rfl, ⟨nd, rfl⟩⟩; refine ⟨_, rfl, ?_⟩))
                              go_ret
                              exact ⟨by first | rfl | (simp [errW_none, errW_some] <;> rfl) | (simp only [← hji21]; first | rfl | (simp [errW_none, errW_some] <;> rfl)) | (simp [*, errW_none, errW_some] <;> rfl), by repeat (first | (with_reducible first | exact HB.out | apply below_alloc | apply pw_below_drewN | apply below_drew1) | exact HB.out)⟩
                          · rw [if_neg c28] at H
                            have c28b0 : (t646 == 0) = false := beq_eq_false_iff_ne.mpr c28
                            have c28b1 : (t646 != 0) = true := bne_iff_ne.mpr c28
                            obtain rfl := Option.some.inj H
                            go_wp2_with (first | ((with_reducible refine gate_callee (f := 39) rfl ?_); refine goesL_ (some 89) rfl rfl Try.func39 (by kernel_rfl) rfl #[.string a0, .int .i64 (wrap64 ((ji21) + 1))] rfl (by (try simp only [List.map_toArray, List.map_cons, List.map_nil]); first | done | (simp only [hji21]; rfl) | rfl | (simp only [List.length_drop, List.length_take]; rfl)) ?_; (with_reducible refine (place_Of.calls kj9 a0 (wrap64 ((ji21) + 1)) t644 t645 t646 _ A20.out).mono ?_); rintro e w' ⟨rfl, ⟨nd, rfl⟩⟩; refine ⟨_, rfl, ?_⟩; have p24 : 0 ≤ ((ji21) : Int) := of_decide_eq_true (by first | (with_reducible assumption) | assumption); have q24 : (ji21) < (a0.size : Int) := of_decide_eq_true (by first | (with_reducible assumption) | assumption); have hx24 := bt_at a0 (ji21); replace p24 := eq_true p24; replace q24 := eq_true q24) | ((with_reducible refine gate_callee (f := 41) rfl ?_); refine goesL_ (some 118) rfl rfl Try.func41 (by kernel_rfl) rfl #[.string a0, .int .i64 t636, .int .i64 (wrap64 (t637 + 1))] rfl (by (try simp only [List.map_toArray, List.map_cons, List.map_nil]); first | done | rfl | (simp only [List.length_drop, List.length_take]; rfl)) ?_; (with_reducible refine (place_At.calls kj9 a0 t636 (wrap64 (t637 + 1)) t647 t648 _ A26.out).mono ?_); rintro e w' ⟨rfl, ⟨nd, rfl⟩⟩; refine ⟨_, rfl, ?_⟩))
                            go_ret
                            exact ⟨by first | rfl | (simp [errW_none, errW_some] <;> rfl) | (simp only [← hji21]; first | rfl | (simp [errW_none, errW_some] <;> rfl)) | (simp [*, errW_none, errW_some] <;> rfl), by repeat (first | (with_reducible first | exact HB.out | apply below_alloc | apply pw_below_drewN | apply below_drew1) | exact HB.out)⟩
                        · replace c27 := Bool.eq_false_iff.mpr c27
                          subst c27
                          have H1 : (some false) = some r := by rw [if_neg (show ¬ (false = true) by decide)] at H; exact H
                          clear H
                          have H := H1
                          clear H1
                          obtain rfl := Option.some.inj H
                          go_wp2_with (first | ((with_reducible refine gate_callee (f := 39) rfl ?_); refine goesL_ (some 89) rfl rfl Try.func39 (by kernel_rfl) rfl #[.string a0, .int .i64 (wrap64 ((ji21) + 1))] rfl (by (try simp only [List.map_toArray, List.map_cons, List.map_nil]); first | done | (simp only [hji21]; rfl) | rfl | (simp only [List.length_drop, List.length_take]; rfl)) ?_; (with_reducible refine (place_Of.calls kj9 a0 (wrap64 ((ji21) + 1)) t644 t645 t646 _ A20.out).mono ?_); rintro e w' ⟨rfl, ⟨nd, rfl⟩⟩; refine ⟨_, rfl, ?_⟩; have p24 : 0 ≤ ((ji21) : Int) := of_decide_eq_true (by first | (with_reducible assumption) | assumption); have q24 : (ji21) < (a0.size : Int) := of_decide_eq_true (by first | (with_reducible assumption) | assumption); have hx24 := bt_at a0 (ji21); replace p24 := eq_true p24; replace q24 := eq_true q24) | ((with_reducible refine gate_callee (f := 41) rfl ?_); refine goesL_ (some 118) rfl rfl Try.func41 (by kernel_rfl) rfl #[.string a0, .int .i64 t636, .int .i64 (wrap64 (t637 + 1))] rfl (by (try simp only [List.map_toArray, List.map_cons, List.map_nil]); first | done | rfl | (simp only [List.length_drop, List.length_take]; rfl)) ?_; (with_reducible refine (place_At.calls kj9 a0 t636 (wrap64 (t637 + 1)) t647 t648 _ A26.out).mono ?_); rintro e w' ⟨rfl, ⟨nd, rfl⟩⟩; refine ⟨_, rfl, ?_⟩))
                          go_ret
                          exact ⟨by first | rfl | (simp [errW_none, errW_some] <;> rfl) | (simp only [← hji21]; first | rfl | (simp [errW_none, errW_some] <;> rfl)) | (simp [*, errW_none, errW_some] <;> rfl), by repeat (first | (with_reducible first | exact HB.out | apply below_alloc | apply pw_below_drewN | apply below_drew1) | exact HB.out)⟩
                      · rw [if_neg c25] at H
                        have c25b0 : ((bt a0 (ji21)) == 10) = false := beq_eq_false_iff_ne.mpr c25
                        have c25b1 : ((bt a0 (ji21)) != 10) = true := bne_iff_ne.mpr c25
                        by_cases c31 : t635 = true
                        · subst c31
                          have H1 : (if t646 = 0 then (if t644 = t636 then (some (t645 == (wrap64 (t637 + 1)))) else (some false)) else (some false)) = some r := by rw [if_pos rfl] at H; exact H
                          clear H
                          have H := H1
                          clear H1
                          by_cases c32 : t646 = 0
                          · rw [if_pos c32] at H
                            have c32b0 : (t646 == 0) = true := beq_iff_eq.mpr c32
                            have c32b1 : (t646 != 0) = false := bne_eq_false_iff_eq.mpr c32
                            clear c32
                            by_cases c33 : t644 = t636
                            · rw [if_pos c33] at H
                              have c33b0 : (t644 == t636) = true := beq_iff_eq.mpr c33
                              have c33b1 : (t644 != t636) = false := bne_eq_false_iff_eq.mpr c33
                              clear c33
                              obtain rfl := Option.some.inj H
                              go_wp2_with (first | ((with_reducible refine gate_callee (f := 39) rfl ?_); refine goesL_ (some 89) rfl rfl Try.func39 (by kernel_rfl) rfl #[.string a0, .int .i64 (wrap64 ((ji21) + 1))] rfl (by (try simp only [List.map_toArray, List.map_cons, List.map_nil]); first | done | (simp only [hji21]; rfl) | rfl | (simp only [List.length_drop, List.length_take]; rfl)) ?_; (with_reducible refine (place_Of.calls kj9 a0 (wrap64 ((ji21) + 1)) t644 t645 t646 _ A20.out).mono ?_); rintro e w' ⟨rfl, ⟨nd, rfl⟩⟩; refine ⟨_, rfl, ?_⟩; have p24 : 0 ≤ ((ji21) : Int) := of_decide_eq_true (by first | (with_reducible assumption) | assumption); have q24 : (ji21) < (a0.size : Int) := of_decide_eq_true (by first | (with_reducible assumption) | assumption); have hx24 := bt_at a0 (ji21); replace p24 := eq_true p24; replace q24 := eq_true q24))
                              go_ret
                              exact ⟨by first | rfl | (simp [errW_none, errW_some] <;> rfl) | (simp only [← hji21]; first | rfl | (simp [errW_none, errW_some] <;> rfl)) | (simp [*, errW_none, errW_some] <;> rfl), by repeat (first | (with_reducible first | exact HB.out | apply below_alloc | apply pw_below_drewN | apply below_drew1) | exact HB.out)⟩
                            · rw [if_neg c33] at H
                              have c33b0 : (t644 == t636) = false := beq_eq_false_iff_ne.mpr c33
                              have c33b1 : (t644 != t636) = true := bne_iff_ne.mpr c33
                              obtain rfl := Option.some.inj H
                              go_wp2_with (first | ((with_reducible refine gate_callee (f := 39) rfl ?_); refine goesL_ (some 89) rfl rfl Try.func39 (by kernel_rfl) rfl #[.string a0, .int .i64 (wrap64 ((ji21) + 1))] rfl (by (try simp only [List.map_toArray, List.map_cons, List.map_nil]); first | done | (simp only [hji21]; rfl) | rfl | (simp only [List.length_drop, List.length_take]; rfl)) ?_; (with_reducible refine (place_Of.calls kj9 a0 (wrap64 ((ji21) + 1)) t644 t645 t646 _ A20.out).mono ?_); rintro e w' ⟨rfl, ⟨nd, rfl⟩⟩; refine ⟨_, rfl, ?_⟩; have p24 : 0 ≤ ((ji21) : Int) := of_decide_eq_true (by first | (with_reducible assumption) | assumption); have q24 : (ji21) < (a0.size : Int) := of_decide_eq_true (by first | (with_reducible assumption) | assumption); have hx24 := bt_at a0 (ji21); replace p24 := eq_true p24; replace q24 := eq_true q24))
                              go_ret
                              exact ⟨by first | rfl | (simp [errW_none, errW_some] <;> rfl) | (simp only [← hji21]; first | rfl | (simp [errW_none, errW_some] <;> rfl)) | (simp [*, errW_none, errW_some] <;> rfl), by repeat (first | (with_reducible first | exact HB.out | apply below_alloc | apply pw_below_drewN | apply below_drew1) | exact HB.out)⟩
                          · rw [if_neg c32] at H
                            have c32b0 : (t646 == 0) = false := beq_eq_false_iff_ne.mpr c32
                            have c32b1 : (t646 != 0) = true := bne_iff_ne.mpr c32
                            obtain rfl := Option.some.inj H
                            go_wp2_with (first | ((with_reducible refine gate_callee (f := 39) rfl ?_); refine goesL_ (some 89) rfl rfl Try.func39 (by kernel_rfl) rfl #[.string a0, .int .i64 (wrap64 ((ji21) + 1))] rfl (by (try simp only [List.map_toArray, List.map_cons, List.map_nil]); first | done | (simp only [hji21]; rfl) | rfl | (simp only [List.length_drop, List.length_take]; rfl)) ?_; (with_reducible refine (place_Of.calls kj9 a0 (wrap64 ((ji21) + 1)) t644 t645 t646 _ A20.out).mono ?_); rintro e w' ⟨rfl, ⟨nd, rfl⟩⟩; refine ⟨_, rfl, ?_⟩; have p24 : 0 ≤ ((ji21) : Int) := of_decide_eq_true (by first | (with_reducible assumption) | assumption); have q24 : (ji21) < (a0.size : Int) := of_decide_eq_true (by first | (with_reducible assumption) | assumption); have hx24 := bt_at a0 (ji21); replace p24 := eq_true p24; replace q24 := eq_true q24))
                            go_ret
                            exact ⟨by first | rfl | (simp [errW_none, errW_some] <;> rfl) | (simp only [← hji21]; first | rfl | (simp [errW_none, errW_some] <;> rfl)) | (simp [*, errW_none, errW_some] <;> rfl), by repeat (first | (with_reducible first | exact HB.out | apply below_alloc | apply pw_below_drewN | apply below_drew1) | exact HB.out)⟩
                        · replace c31 := Bool.eq_false_iff.mpr c31
                          subst c31
                          have H1 : (some false) = some r := by rw [if_neg (show ¬ (false = true) by decide)] at H; exact H
                          clear H
                          have H := H1
                          clear H1
                          obtain rfl := Option.some.inj H
                          go_wp2_with (first | ((with_reducible refine gate_callee (f := 39) rfl ?_); refine goesL_ (some 89) rfl rfl Try.func39 (by kernel_rfl) rfl #[.string a0, .int .i64 (wrap64 ((ji21) + 1))] rfl (by (try simp only [List.map_toArray, List.map_cons, List.map_nil]); first | done | (simp only [hji21]; rfl) | rfl | (simp only [List.length_drop, List.length_take]; rfl)) ?_; (with_reducible refine (place_Of.calls kj9 a0 (wrap64 ((ji21) + 1)) t644 t645 t646 _ A20.out).mono ?_); rintro e w' ⟨rfl, ⟨nd, rfl⟩⟩; refine ⟨_, rfl, ?_⟩; have p24 : 0 ≤ ((ji21) : Int) := of_decide_eq_true (by first | (with_reducible assumption) | assumption); have q24 : (ji21) < (a0.size : Int) := of_decide_eq_true (by first | (with_reducible assumption) | assumption); have hx24 := bt_at a0 (ji21); replace p24 := eq_true p24; replace q24 := eq_true q24))
                          go_ret
                          exact ⟨by first | rfl | (simp [errW_none, errW_some] <;> rfl) | (simp only [← hji21]; first | rfl | (simp [errW_none, errW_some] <;> rfl)) | (simp [*, errW_none, errW_some] <;> rfl), by repeat (first | (with_reducible first | exact HB.out | apply below_alloc | apply pw_below_drewN | apply below_drew1) | exact HB.out)⟩
                    · rw [if_neg c23] at H
                      exact absurd H (by simp)
                  · rw [if_neg c22] at H
                    exact absurd H (by simp)

/-- THE ONE PURE STATEMENT of regletlaw20_PlaceSteps: yours. -/
def regletlaw20_PlaceSteps.Pure : Prop := ∀ (a0 : ByteArray) (a1 : Int), a0.size ≤ 140737488351232 → (Lit.int .u16 a1).wf = true → ∃ k, regletlaw20_PlaceSteps.f k a0 a1 = some true
theorem regletlaw20_PlaceSteps.walk (P : regletlaw20_PlaceSteps.Pure) (a0 : ByteArray) (a1 : Int) (w : World) (w0 : a0.size ≤ 140737488351232) (w1 : (Lit.int .u16 a1).wf = true) :
    Calls Try.prog 15 #[.string a0, .int .u16 a1] w fun e w' => e = .returned (.bool true) ∧ Below w.heap.size w w' := by
  obtain ⟨k, h⟩ := P a0 a1 w0 w1
  refine (regletlaw20_PlaceSteps.calls k a0 a1 true w h).mono ?_
  rintro e w' ⟨rfl, hd⟩
  exact ⟨rfl, hd⟩

end Go.Proofs.Ytmecmmpgkcileaa.Z
