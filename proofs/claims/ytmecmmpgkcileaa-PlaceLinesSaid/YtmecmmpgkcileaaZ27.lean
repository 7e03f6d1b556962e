/- Written by a program out of the translation; Lean checks it. -/
import Derived.Test.YtmecmmpgkcileaaZ0
import Derived.Test.YtmecmmpgkcileaaZ22
import Derived.Test.YtmecmmpgkcileaaZ26
namespace Go.Proofs.Ytmecmmpgkcileaa.Z
open Go.RowKit Go.Proofs.YtmecmmpgkcileaaW.PrintWords Go.Proofs.YtmecmmpgkcileaaW.PrintLast Go.Proofs.YtmecmmpgkcileaaW.PrintMore
attribute [local go_sem] max2_int min2_int max_two min_two max_three min_three max_four min_four   -- for this text's walks alone
set_option linter.unusedVariables false
set_option linter.unusedSimpArgs false

/-! ### regletlaw20_PlaceLines: function 14 -/
mutual
def regletlaw20_PlaceLines.j0 : Nat → ByteArray → Int → Int → Int → Bool → Bool → Option (Bool)
  | 0, _, _, _, _, _, _ => none
  | k + 1, x0, x1, x2, x3, x9, x29 => if x29 = true then (some x9) else ((place_Of.f k x0 x1).bind fun bt623 => ((regletref20_Of.f k x0 x1).bind fun bt626 => ((place_At.f k x0 x2 x3).bind fun bt629 => ((regletref20_At.f k x0 x2 x3).bind fun bt631 => (if bt623.1 = bt626.1 then (if bt623.2.1 = bt626.2.1 then (if bt623.2.2 = bt626.2.2 then (if bt629.1 = bt631.1 then (regletlaw20_PlaceLines.j1 k x0 x1 x9 bt623.1 bt623.2.1 bt623.2.2 (bt629.2 != bt631.2)) else (regletlaw20_PlaceLines.j1 k x0 x1 x9 bt623.1 bt623.2.1 bt623.2.2 true)) else (regletlaw20_PlaceLines.j1 k x0 x1 x9 bt623.1 bt623.2.1 bt623.2.2 true)) else (regletlaw20_PlaceLines.j1 k x0 x1 x9 bt623.1 bt623.2.1 bt623.2.2 true)) else (regletlaw20_PlaceLines.j1 k x0 x1 x9 bt623.1 bt623.2.1 bt623.2.2 true))))))
def regletlaw20_PlaceLines.j1 : Nat → ByteArray → Int → Bool → Int → Int → Int → Bool → Option (Bool)
  | 0, _, _, _, _, _, _, _ => none
  | k + 1, x0, x1, x9, x10, x11, x12, x81 => if x81 = true then (some false) else (if x12 = 0 then ((place_At.f k x0 x10 x11).bind fun bt633 => (if x9 = true then (if bt633.2 = 0 then (some (bt633.1 == x1)) else (some false)) else (some false))) else (some x9))
end
def regletlaw20_PlaceLines.f (k : Nat) (a0 : ByteArray) (a1 : Int) (a2 : Int) (a3 : Int) : Option (Bool) := (regletlaw20_alive.f).bind fun t622 => (if (a0.size : Int) > 2000 then (regletlaw20_PlaceLines.j0 k a0 a1 a2 a3 t622 true) else (regletlaw20_PlaceLines.j0 k a0 a1 a2 a3 t622 (!t622)))
theorem regletlaw20_PlaceLines.mono_l : ∀ k, (∀ y0 y1 y2 y3 y4 y5, LeO (regletlaw20_PlaceLines.j0 k y0 y1 y2 y3 y4 y5) (regletlaw20_PlaceLines.j0 (k + 1) y0 y1 y2 y3 y4 y5)) ∧ (∀ y0 y1 y2 y3 y4 y5 y6, LeO (regletlaw20_PlaceLines.j1 k y0 y1 y2 y3 y4 y5 y6) (regletlaw20_PlaceLines.j1 (k + 1) y0 y1 y2 y3 y4 y5 y6))
  | 0 => ⟨fun _ _ _ _ _ _ r h => by simp [regletlaw20_PlaceLines.j0] at h, fun _ _ _ _ _ _ _ r h => by simp [regletlaw20_PlaceLines.j1] at h⟩
  | k + 1 => by
    obtain ⟨ih0, ih1⟩ := regletlaw20_PlaceLines.mono_l k
    refine ⟨?_, ?_⟩
    · intro y0 y1 y2 y3 y4 y5
      unfold regletlaw20_PlaceLines.j0
      repeat' first
      | (with_reducible exact ih0 _ _ _ _ _ _)
      | (with_reducible exact ih1 _ _ _ _ _ _ _)
      | (with_reducible exact place_At.mono _ _ _ _)
      | (with_reducible exact place_Of.mono _ _ _)
      | (with_reducible exact regletref20_At.mono _ _ _ _)
      | (with_reducible exact regletref20_Of.mono _ _ _)
      | (with_reducible exact LeO.refl _)
      | (with_reducible exact LeO.none _)
      | (with_reducible refine LeO.ite ?_ ?_)
      | (with_reducible refine LeO.bind ?_ (fun _ => ?_))
      | exact ih0 _ _ _ _ _ _
      | exact ih1 _ _ _ _ _ _ _
      | exact place_At.mono _ _ _ _
      | exact place_Of.mono _ _ _
      | exact regletref20_At.mono _ _ _ _
      | exact regletref20_Of.mono _ _ _
      | exact LeO.none _
      | refine LeO.ite ?_ ?_
      | refine LeO.bind ?_ (fun _ => ?_)
    · intro y0 y1 y2 y3 y4 y5 y6
      unfold regletlaw20_PlaceLines.j1
      repeat' first
      | (with_reducible exact ih0 _ _ _ _ _ _)
      | (with_reducible exact ih1 _ _ _ _ _ _ _)
      | (with_reducible exact place_At.mono _ _ _ _)
      | (with_reducible exact place_Of.mono _ _ _)
      | (with_reducible exact regletref20_At.mono _ _ _ _)
      | (with_reducible exact regletref20_Of.mono _ _ _)
      | (with_reducible exact LeO.refl _)
      | (with_reducible exact LeO.none _)
      | (with_reducible refine LeO.ite ?_ ?_)
      | (with_reducible refine LeO.bind ?_ (fun _ => ?_))
      | exact ih0 _ _ _ _ _ _
      | exact ih1 _ _ _ _ _ _ _
      | exact place_At.mono _ _ _ _
      | exact place_Of.mono _ _ _
      | exact regletref20_At.mono _ _ _ _
      | exact regletref20_Of.mono _ _ _
      | exact LeO.none _
      | refine LeO.ite ?_ ?_
      | refine LeO.bind ?_ (fun _ => ?_)
theorem regletlaw20_PlaceLines.mono : ∀ a0 a1 a2 a3 k, LeO (regletlaw20_PlaceLines.f k a0 a1 a2 a3) (regletlaw20_PlaceLines.f (k + 1) a0 a1 a2 a3) := by
  intro a0 a1 a2 a3 k
  obtain ⟨ih0, ih1⟩ := regletlaw20_PlaceLines.mono_l k
  unfold regletlaw20_PlaceLines.f
  repeat' first
      | (with_reducible exact ih0 _ _ _ _ _ _)
      | (with_reducible exact ih1 _ _ _ _ _ _ _)
      | (with_reducible exact place_At.mono _ _ _ _)
      | (with_reducible exact place_Of.mono _ _ _)
      | (with_reducible exact regletref20_At.mono _ _ _ _)
      | (with_reducible exact regletref20_Of.mono _ _ _)
      | (with_reducible exact LeO.refl _)
      | (with_reducible exact LeO.none _)
      | (with_reducible refine LeO.ite ?_ ?_)
      | (with_reducible refine LeO.bind ?_ (fun _ => ?_))
      | exact ih0 _ _ _ _ _ _
      | exact ih1 _ _ _ _ _ _ _
      | exact place_At.mono _ _ _ _
      | exact place_Of.mono _ _ _
      | exact regletref20_At.mono _ _ _ _
      | exact regletref20_Of.mono _ _ _
      | exact LeO.none _
      | refine LeO.ite ?_ ?_
      | refine LeO.bind ?_ (fun _ => ?_)
set_option maxHeartbeats 8000000 in
set_option maxRecDepth 100000 in
theorem regletlaw20_PlaceLines.calls (k : Nat) (a0 : ByteArray) (a1 : Int) (a2 : Int) (a3 : Int) (r : Bool) (w : World) (h : regletlaw20_PlaceLines.f k a0 a1 a2 a3 = some r) :
    Calls Try.prog 14 #[.string a0, .int .i64 a1, .int .i64 a2, .int .i64 a3] w fun e w' => e = .returned (.bool r) ∧ Below w.heap.size w w' := by
  have HB := Aside0.mk (Below.refl w.heap.size w)
  have H : ((regletlaw20_alive.f).bind fun t622 => (if (a0.size : Int) > 2000 then (regletlaw20_PlaceLines.j0 k a0 a1 a2 a3 t622 true) else (regletlaw20_PlaceLines.j0 k a0 a1 a2 a3 t622 (!t622)))) = some r := h
  clear h
  replace H := Option.bind_eq_some_iff.mp H
  obtain ⟨t622, A50, H⟩ := H
  replace H : (if (a0.size : Int) > 2000 then (regletlaw20_PlaceLines.j0 k a0 a1 a2 a3 t622 true) else (regletlaw20_PlaceLines.j0 k a0 a1 a2 a3 t622 (!t622))) = some r := H
  have A5 := Aside0.mk A50
  clear A50
  have HC6 := Aside0.mk H
  clear H
  go_enter Try.func14, Try.ntmps14
  go_upto_region 2 with (first | ((with_reducible refine gate_callee (f := 37) rfl ?_); refine goesL_ (some 22) rfl rfl Try.func37 (by kernel_rfl) rfl #[] rfl (by (try simp only [List.map_toArray, List.map_cons, List.map_nil]); first | done | rfl | (simp only [List.length_drop, List.length_take]; rfl)) ?_; (with_reducible refine (regletlaw20_alive.calls  t622 _ A5.out).mono ?_); rintro e w7 ⟨rfl, hb⟩; refine ⟨_, rfl, ?_⟩; have n0_ := Aside0.mk (below_step (by repeat (first | (with_reducible first | exact HB.out | apply below_alloc | apply pw_below_drewN | apply below_drew1) | exact HB.out)) hb); clear HB; have HB := n0_; clear n0_; (try clear hb); (try clear hb2); (try clear hk); (try clear hi)))
  (try simp only [Act.put, List.setIfInBounds_toArray, List.set_cons_zero, List.set_cons_succ])
  go_cut [29] (fun v29 wc => ∃ (kq : Nat) (x29_5 : Bool), v29 = .bool x29_5 ∧ Aside0 (regletlaw20_PlaceLines.j0 kq a0 a1 a2 a3 t622 x29_5 = some r) ∧ Aside0 (kq ≤ k) ∧ Aside0 (Below w.heap.size w wc))
  case first =>
    have H := HC6.out
    clear HC6
    by_cases c8 : (a0.size : Int) > 2000
    · rw [if_pos c8] at H
      have c8b0 : decide (2000 < (a0.size : Int)) = true := decide_eq_true c8
      have c8b1 : decide (2000 < a0.size) = true := decide_eq_true (by omega)
      clear c8
      (first | rw [c8b0] | (simp only [i64_w, i32_w]; rw [c8b0]) | skip)
      have H' := Aside0.mk H
      clear H
      go_wp2
      go_meet
      case rel => exact ⟨_, (true), (by first | rfl | (simp; done) | (simp [*]; done)), H', ⟨by first | omega | exact Nat.le_refl _⟩, ⟨by repeat (first | (with_reducible first | exact HB.out | apply below_alloc | apply pw_below_drewN | apply below_drew1) | exact HB.out)⟩⟩
    · rw [if_neg c8] at H
      have c8b0 : decide (2000 < (a0.size : Int)) = false := decide_eq_false c8
      have c8b1 : decide (2000 < a0.size) = false := decide_eq_false (by omega)
      clear c8
      (first | rw [c8b0] | (simp only [i64_w, i32_w]; rw [c8b0]) | skip)
      have H' := Aside0.mk H
      clear H
      go_wp2
      go_meet
      case rel => exact ⟨_, (!t622), (by first | rfl | (simp; done) | (simp [*]; done)), H', ⟨by first | omega | exact Nat.le_refl _⟩, ⟨by repeat (first | (with_reducible first | exact HB.out | apply below_alloc | apply pw_below_drewN | apply below_drew1) | exact HB.out)⟩⟩
  case rest =>
    clear HC6
    try clear c1
    try clear p2
    try clear c3
    try clear c8
    try clear c8b0
    try clear c8b1
    obtain ⟨kq, x29_5, rfl, HA, HJ5, HB⟩ := hcut
    cases kq with
    | zero => exact absurd HA.out (by simp [regletlaw20_PlaceLines.j0])
    | succ kj5 =>
      have H := HA.out
      clear HA
      simp only [regletlaw20_PlaceLines.j0] at H
      by_cases c9 : x29_5 = true
      · subst c9
        have H1 : (some t622) = some r := by rw [if_pos rfl] at H; exact H
        clear H
        have H := H1
        clear H1
        obtain rfl := Option.some.inj H
        go_wp2
        go_ret
        exact ⟨by first | rfl | (simp [errW_none, errW_some] <;> rfl) | (simp [*, errW_none, errW_some] <;> rfl), by repeat (first | (with_reducible first | exact HB.out | apply below_alloc | apply pw_below_drewN | apply below_drew1) | exact HB.out)⟩
      · replace c9 := Bool.eq_false_iff.mpr c9
        subst c9
        have H1 : ((place_Of.f kj5 a0 a1).bind fun bt623 => ((regletref20_Of.f kj5 a0 a1).bind fun bt626 => ((place_At.f kj5 a0 a2 a3).bind fun bt629 => ((regletref20_At.f kj5 a0 a2 a3).bind fun bt631 => (if bt623.1 = bt626.1 then (if bt623.2.1 = bt626.2.1 then (if bt623.2.2 = bt626.2.2 then (if bt629.1 = bt631.1 then (regletlaw20_PlaceLines.j1 kj5 a0 a1 t622 bt623.1 bt623.2.1 bt623.2.2 (bt629.2 != bt631.2)) else (regletlaw20_PlaceLines.j1 kj5 a0 a1 t622 bt623.1 bt623.2.1 bt623.2.2 true)) else (regletlaw20_PlaceLines.j1 kj5 a0 a1 t622 bt623.1 bt623.2.1 bt623.2.2 true)) else (regletlaw20_PlaceLines.j1 kj5 a0 a1 t622 bt623.1 bt623.2.1 bt623.2.2 true)) else (regletlaw20_PlaceLines.j1 kj5 a0 a1 t622 bt623.1 bt623.2.1 bt623.2.2 true)))))) = some r := by rw [if_neg (show ¬ (false = true) by decide)] at H; exact H
        clear H
        have H := H1
        clear H1
        replace H := Option.bind_eq_some_iff.mp H
        obtain ⟨⟨t623, t624, t625⟩, A100, H⟩ := H
        replace H : ((regletref20_Of.f kj5 a0 a1).bind fun bt626 => ((place_At.f kj5 a0 a2 a3).bind fun bt629 => ((regletref20_At.f kj5 a0 a2 a3).bind fun bt631 => (if t623 = bt626.1 then (if t624 = bt626.2.1 then (if t625 = bt626.2.2 then (if bt629.1 = bt631.1 then (regletlaw20_PlaceLines.j1 kj5 a0 a1 t622 t623 t624 t625 (bt629.2 != bt631.2)) else (regletlaw20_PlaceLines.j1 kj5 a0 a1 t622 t623 t624 t625 true)) else (regletlaw20_PlaceLines.j1 kj5 a0 a1 t622 t623 t624 t625 true)) else (regletlaw20_PlaceLines.j1 kj5 a0 a1 t622 t623 t624 t625 true)) else (regletlaw20_PlaceLines.j1 kj5 a0 a1 t622 t623 t624 t625 true))))) = some r := H
        have A10 := Aside0.mk A100
        clear A100
        replace H := Option.bind_eq_some_iff.mp H
        obtain ⟨⟨t626, t627, t628⟩, A110, H⟩ := H
        replace H : ((place_At.f kj5 a0 a2 a3).bind fun bt629 => ((regletref20_At.f kj5 a0 a2 a3).bind fun bt631 => (if t623 = t626 then (if t624 = t627 then (if t625 = t628 then (if bt629.1 = bt631.1 then (regletlaw20_PlaceLines.j1 kj5 a0 a1 t622 t623 t624 t625 (bt629.2 != bt631.2)) else (regletlaw20_PlaceLines.j1 kj5 a0 a1 t622 t623 t624 t625 true)) else (regletlaw20_PlaceLines.j1 kj5 a0 a1 t622 t623 t624 t625 true)) else (regletlaw20_PlaceLines.j1 kj5 a0 a1 t622 t623 t624 t625 true)) else (regletlaw20_PlaceLines.j1 kj5 a0 a1 t622 t623 t624 t625 true)))) = some r := H
        have A11 := Aside0.mk A110
        clear A110
        replace H := Option.bind_eq_some_iff.mp H
        obtain ⟨⟨t629, t630⟩, A120, H⟩ := H
        replace H : ((regletref20_At.f kj5 a0 a2 a3).bind fun bt631 => (if t623 = t626 then (if t624 = t627 then (if t625 = t628 then (if t629 = bt631.1 then (regletlaw20_PlaceLines.j1 kj5 a0 a1 t622 t623 t624 t625 (t630 != bt631.2)) else (regletlaw20_PlaceLines.j1 kj5 a0 a1 t622 t623 t624 t625 true)) else (regletlaw20_PlaceLines.j1 kj5 a0 a1 t622 t623 t624 t625 true)) else (regletlaw20_PlaceLines.j1 kj5 a0 a1 t622 t623 t624 t625 true)) else (regletlaw20_PlaceLines.j1 kj5 a0 a1 t622 t623 t624 t625 true))) = some r := H
        have A12 := Aside0.mk A120
        clear A120
        replace H := Option.bind_eq_some_iff.mp H
        obtain ⟨⟨t631, t632⟩, A130, H⟩ := H
        replace H : (if t623 = t626 then (if t624 = t627 then (if t625 = t628 then (if t629 = t631 then (regletlaw20_PlaceLines.j1 kj5 a0 a1 t622 t623 t624 t625 (t630 != t632)) else (regletlaw20_PlaceLines.j1 kj5 a0 a1 t622 t623 t624 t625 true)) else (regletlaw20_PlaceLines.j1 kj5 a0 a1 t622 t623 t624 t625 true)) else (regletlaw20_PlaceLines.j1 kj5 a0 a1 t622 t623 t624 t625 true)) else (regletlaw20_PlaceLines.j1 kj5 a0 a1 t622 t623 t624 t625 true)) = some r := H
        have A13 := Aside0.mk A130
        clear A130
        have HC14 := Aside0.mk H
        clear H
        go_upto_region 8 with (first | ((with_reducible refine gate_callee (f := 39) rfl ?_); refine goesL_ (some 34) rfl rfl Try.func39 (by kernel_rfl) rfl #[.string a0, .int .i64 a1] rfl (by (try simp only [List.map_toArray, List.map_cons, List.map_nil]); first | done | rfl | (simp only [List.length_drop, List.length_take]; rfl)) ?_; (with_reducible refine (place_Of.calls kj5 a0 a1 t623 t624 t625 _ A10.out).mono ?_); rintro e w' ⟨rfl, ⟨nd, rfl⟩⟩; refine ⟨_, rfl, ?_⟩) | ((with_reducible refine gate_callee (f := 40) rfl ?_); refine goesL_ (some 41) rfl rfl Try.func40 (by kernel_rfl) rfl #[.string a0, .int .i64 a1] rfl (by (try simp only [List.map_toArray, List.map_cons, List.map_nil]); first | done | rfl | (simp only [List.length_drop, List.length_take]; rfl)) ?_; (with_reducible refine (regletref20_Of.calls kj5 a0 a1 t626 t627 t628 _ A11.out).mono ?_); rintro e w' ⟨rfl, ⟨nd, rfl⟩⟩; refine ⟨_, rfl, ?_⟩) | ((with_reducible refine gate_callee (f := 41) rfl ?_); refine goesL_ (some 49) rfl rfl Try.func41 (by kernel_rfl) rfl #[.string a0, .int .i64 a2, .int .i64 a3] rfl (by (try simp only [List.map_toArray, List.map_cons, List.map_nil]); first | done | rfl | (simp only [List.length_drop, List.length_take]; rfl)) ?_; (with_reducible refine (place_At.calls kj5 a0 a2 a3 t629 t630 _ A12.out).mono ?_); rintro e w' ⟨rfl, ⟨nd, rfl⟩⟩; refine ⟨_, rfl, ?_⟩) | ((with_reducible refine gate_callee (f := 42) rfl ?_); refine goesL_ (some 56) rfl rfl Try.func42 (by kernel_rfl) rfl #[.string a0, .int .i64 a2, .int .i64 a3] rfl (by (try simp only [List.map_toArray, List.map_cons, List.map_nil]); first | done | rfl | (simp only [List.length_drop, List.length_take]; rfl)) ?_; (with_reducible refine (regletref20_At.calls kj5 a0 a2 a3 t631 t632 _ A13.out).mono ?_); rintro e w' ⟨rfl, ⟨nd, rfl⟩⟩; refine ⟨_, rfl, ?_⟩))
        (try simp only [Act.put, List.setIfInBounds_toArray, List.set_cons_zero, List.set_cons_succ])
        go_cut [81] (fun v81 wc => ∃ (kq : Nat) (x81_13 : Bool), v81 = .bool x81_13 ∧ Aside0 (regletlaw20_PlaceLines.j1 kq a0 a1 t622 t623 t624 t625 x81_13 = some r) ∧ Aside0 (kq ≤ kj5) ∧ Aside0 (Below w.heap.size w wc))
        case first =>
          have H := HC14.out
          clear HC14
          by_cases c15 : t623 = t626
          · rw [if_pos c15] at H
            have c15b0 : (t623 == t626) = true := beq_iff_eq.mpr c15
            have c15b1 : (t623 != t626) = false := bne_eq_false_iff_eq.mpr c15
            clear c15
            (first | rw [c15b0] | (simp only [i64_w, i32_w]; rw [c15b0]) | skip)
            by_cases c16 : t624 = t627
            · rw [if_pos c16] at H
              have c16b0 : (t624 == t627) = true := beq_iff_eq.mpr c16
              have c16b1 : (t624 != t627) = false := bne_eq_false_iff_eq.mpr c16
              clear c16
              by_cases c17 : t625 = t628
              · rw [if_pos c17] at H
                have c17b0 : (t625 == t628) = true := beq_iff_eq.mpr c17
                have c17b1 : (t625 != t628) = false := bne_eq_false_iff_eq.mpr c17
                clear c17
                by_cases c18 : t629 = t631
                · rw [if_pos c18] at H
                  have c18b0 : (t629 == t631) = true := beq_iff_eq.mpr c18
                  have c18b1 : (t629 != t631) = false := bne_eq_false_iff_eq.mpr c18
                  clear c18
                  have H' := Aside0.mk H
                  clear H
                  go_wp2
                  go_meet
                  case rel => exact ⟨_, ((t630 != t632)), (by first | rfl | (simp; done) | (simp [*]; done)), H', ⟨by have := HJ5.out; first | omega | exact Nat.le_refl _⟩, ⟨by repeat (first | (with_reducible first | exact HB.out | apply below_alloc | apply pw_below_drewN | apply below_drew1) | exact HB.out)⟩⟩
                · rw [if_neg c18] at H
                  have c18b0 : (t629 == t631) = false := beq_eq_false_iff_ne.mpr c18
                  have c18b1 : (t629 != t631) = true := bne_iff_ne.mpr c18
                  have H' := Aside0.mk H
                  clear H
                  go_wp2
                  go_meet
                  case rel => exact ⟨_, (true), (by first | rfl | (simp; done) | (simp [*]; done)), H', ⟨by have := HJ5.out; first | omega | exact Nat.le_refl _⟩, ⟨by repeat (first | (with_reducible first | exact HB.out | apply below_alloc | apply pw_below_drewN | apply below_drew1) | exact HB.out)⟩⟩
              · rw [if_neg c17] at H
                have c17b0 : (t625 == t628) = false := beq_eq_false_iff_ne.mpr c17
                have c17b1 : (t625 != t628) = true := bne_iff_ne.mpr c17
                have H' := Aside0.mk H
                clear H
                go_wp2
                go_meet
                case rel => exact ⟨_, (true), (by first | rfl | (simp; done) | (simp [*]; done)), H', ⟨by have := HJ5.out; first | omega | exact Nat.le_refl _⟩, ⟨by repeat (first | (with_reducible first | exact HB.out | apply below_alloc | apply pw_below_drewN | apply below_drew1) | exact HB.out)⟩⟩
            · rw [if_neg c16] at H
              have c16b0 : (t624 == t627) = false := beq_eq_false_iff_ne.mpr c16
              have c16b1 : (t624 != t627) = true := bne_iff_ne.mpr c16
              have H' := Aside0.mk H
              clear H
              go_wp2
              go_meet
              case rel => exact ⟨_, (true), (by first | rfl | (simp; done) | (simp [*]; done)), H', ⟨by have := HJ5.out; first | omega | exact Nat.le_refl _⟩, ⟨by repeat (first | (with_reducible first | exact HB.out | apply below_alloc | apply pw_below_drewN | apply below_drew1) | exact HB.out)⟩⟩
          · rw [if_neg c15] at H
            have c15b0 : (t623 == t626) = false := beq_eq_false_iff_ne.mpr c15
            have c15b1 : (t623 != t626) = true := bne_iff_ne.mpr c15
            (first | rw [c15b0] | (simp only [i64_w, i32_w]; rw [c15b0]) | skip)
            have H' := Aside0.mk H
            clear H
            go_wp2
            go_meet
            case rel => exact ⟨_, (true), (by first | rfl | (simp; done) | (simp [*]; done)), H', ⟨by have := HJ5.out; first | omega | exact Nat.le_refl _⟩, ⟨by repeat (first | (with_reducible first | exact HB.out | apply below_alloc | apply pw_below_drewN | apply below_drew1) | exact HB.out)⟩⟩
        case rest =>
          clear HC14
          try clear c1
          try clear p2
          try clear c3
          try clear c4
          try clear c8
          try clear c8b0
          try clear c8b1
          try clear c9
          try clear c14
          try clear c15
          try clear c15b0
          try clear c15b1
          try clear c16
          try clear c16b0
          try clear c16b1
          try clear c17
          try clear c17b0
          try clear c17b1
          try clear c18
          try clear c18b0
          try clear c18b1
          try clear p2
          obtain ⟨kq, x81_13, rfl, HA, HJ13, HB⟩ := hcut
          cases kq with
          | zero => exact absurd HA.out (by simp [regletlaw20_PlaceLines.j1])
          | succ kj13 =>
            have H := HA.out
            clear HA
            simp only [regletlaw20_PlaceLines.j1] at H
            by_cases c19 : x81_13 = true
            · subst c19
              have H1 : (some false) = some r := by rw [if_pos rfl] at H; exact H
              clear H
              have H := H1
              clear H1
              obtain rfl := Option.some.inj H
              go_wp2
              go_ret
              exact ⟨by first | rfl | (simp [errW_none, errW_some] <;> rfl) | (simp [*, errW_none, errW_some] <;> rfl), by repeat (first | (with_reducible first | exact HB.out | apply below_alloc | apply pw_below_drewN | apply below_drew1) | exact HB.out)⟩
            · replace c19 := Bool.eq_false_iff.mpr c19
              subst c19
              have H1 : (if t625 = 0 then ((place_At.f kj13 a0 t623 t624).bind fun bt633 => (if t622 = true then (if bt633.2 = 0 then (some (bt633.1 == a1)) else (some false)) else (some false))) else (some t622)) = some r := by rw [if_neg (show ¬ (false = true) by decide)] at H; exact H
              clear H
              have H := H1
              clear H1
              by_cases c20 : t625 = 0
              · rw [if_pos c20] at H
                have c20b0 : (t625 == 0) = true := beq_iff_eq.mpr c20
                have c20b1 : (t625 != 0) = false := bne_eq_false_iff_eq.mpr c20
                clear c20
                replace H := Option.bind_eq_some_iff.mp H
                obtain ⟨⟨t633, t634⟩, A210, H⟩ := H
                replace H : (if t622 = true then (if t634 = 0 then (some (t633 == a1)) else (some false)) else (some false)) = some r := H
                have A21 := Aside0.mk A210
                clear A210
                by_cases c22 : t622 = true
                · subst c22
                  have H1 : (if t634 = 0 then (some (t633 == a1)) else (some false)) = some r := by rw [if_pos rfl] at H; exact H
                  clear H
                  have H := H1
                  clear H1
                  by_cases c23 : t634 = 0
                  · rw [if_pos c23] at H
                    have c23b0 : (t634 == 0) = true := beq_iff_eq.mpr c23
                    have c23b1 : (t634 != 0) = false := bne_eq_false_iff_eq.mpr c23
                    clear c23
                    obtain rfl := Option.some.inj H
                    go_wp2_with (first | ((with_reducible refine gate_callee (f := 41) rfl ?_); refine goesL_ (some 88) rfl rfl Try.func41 (by kernel_rfl) rfl #[.string a0, .int .i64 t623, .int .i64 t624] rfl (by (try simp only [List.map_toArray, List.map_cons, List.map_nil]); first | done | rfl | (simp only [List.length_drop, List.length_take]; rfl)) ?_; (with_reducible refine (place_At.calls kj13 a0 t623 t624 t633 t634 _ A21.out).mono ?_); rintro e w' ⟨rfl, ⟨nd, rfl⟩⟩; refine ⟨_, rfl, ?_⟩))
                    go_ret
                    exact ⟨by first | rfl | (simp [errW_none, errW_some] <;> rfl) | (simp [*, errW_none, errW_some] <;> rfl), by repeat (first | (with_reducible first | exact HB.out | apply below_alloc | apply pw_below_drewN | apply below_drew1) | exact HB.out)⟩
                  · rw [if_neg c23] at H
                    have c23b0 : (t634 == 0) = false := beq_eq_false_iff_ne.mpr c23
                    have c23b1 : (t634 != 0) = true := bne_iff_ne.mpr c23
                    obtain rfl := Option.some.inj H
                    go_wp2_with (first | ((with_reducible refine gate_callee (f := 41) rfl ?_); refine goesL_ (some 88) rfl rfl Try.func41 (by kernel_rfl) rfl #[.string a0, .int .i64 t623, .int .i64 t624] rfl (by (try simp only [List.map_toArray, List.map_cons, List.map_nil]); first | done | rfl | (simp only [List.length_drop, List.length_take]; rfl)) ?_; (with_reducible refine (place_At.calls kj13 a0 t623 t624 t633 t634 _ A21.out).mono ?_); rintro e w' ⟨rfl, ⟨nd, rfl⟩⟩; refine ⟨_, rfl, ?_⟩))
                    go_ret
                    exact ⟨by first | rfl | (simp [errW_none, errW_some] <;> rfl) | (simp [*, errW_none, errW_some] <;> rfl), by repeat (first | (with_reducible first | exact HB.out | apply below_alloc | apply pw_below_drewN | apply below_drew1) | exact HB.out)⟩
                · replace c22 := Bool.eq_false_iff.mpr c22
                  subst c22
                  have H1 : (some false) = some r := by rw [if_neg (show ¬ (false = true) by decide)] at H; exact H
                  clear H
                  have H := H1
                  clear H1
                  obtain rfl := Option.some.inj H
                  go_wp2_with (first | ((with_reducible refine gate_callee (f := 41) rfl ?_); refine goesL_ (some 88) rfl rfl Try.func41 (by kernel_rfl) rfl #[.string a0, .int .i64 t623, .int .i64 t624] rfl (by (try simp only [List.map_toArray, List.map_cons, List.map_nil]); first | done | rfl | (simp only [List.length_drop, List.length_take]; rfl)) ?_; (with_reducible refine (place_At.calls kj13 a0 t623 t624 t633 t634 _ A21.out).mono ?_); rintro e w' ⟨rfl, ⟨nd, rfl⟩⟩; refine ⟨_, rfl, ?_⟩))
                  go_ret
                  exact ⟨by first | rfl | (simp [errW_none, errW_some] <;> rfl) | (simp [*, errW_none, errW_some] <;> rfl), by repeat (first | (with_reducible first | exact HB.out | apply below_alloc | apply pw_below_drewN | apply below_drew1) | exact HB.out)⟩
              · rw [if_neg c20] at H
                have c20b0 : (t625 == 0) = false := beq_eq_false_iff_ne.mpr c20
                have c20b1 : (t625 != 0) = true := bne_iff_ne.mpr c20
                obtain rfl := Option.some.inj H
                go_wp2
                go_ret
                exact ⟨by first | rfl | (simp [errW_none, errW_some] <;> rfl) | (simp [*, errW_none, errW_some] <;> rfl), by repeat (first | (with_reducible first | exact HB.out | apply below_alloc | apply pw_below_drewN | apply below_drew1) | exact HB.out)⟩

/-- THE ONE PURE STATEMENT of regletlaw20_PlaceLines: yours. -/
def regletlaw20_PlaceLines.Pure : Prop := ∀ (a0 : ByteArray) (a1 : Int) (a2 : Int) (a3 : Int), a0.size ≤ 140737488351232 → (Lit.int .i64 a1).wf = true → (Lit.int .i64 a2).wf = true → (Lit.int .i64 a3).wf = true → ∃ k, regletlaw20_PlaceLines.f k a0 a1 a2 a3 = some true
theorem regletlaw20_PlaceLines.walk (P : regletlaw20_PlaceLines.Pure) (a0 : ByteArray) (a1 : Int) (a2 : Int) (a3 : Int) (w : World) (w0 : a0.size ≤ 140737488351232) (w1 : (Lit.int .i64 a1).wf = true) (w2 : (Lit.int .i64 a2).wf = true) (w3 : (Lit.int .i64 a3).wf = true) :
    Calls Try.prog 14 #[.string a0, .int .i64 a1, .int .i64 a2, .int .i64 a3] w fun e w' => e = .returned (.bool true) ∧ Below w.heap.size w w' := by
  obtain ⟨k, h⟩ := P a0 a1 a2 a3 w0 w1 w2 w3
  refine (regletlaw20_PlaceLines.calls k a0 a1 a2 a3 true w h).mono ?_
  rintro e w' ⟨rfl, hd⟩
  exact ⟨rfl, hd⟩

end Go.Proofs.Ytmecmmpgkcileaa.Z
