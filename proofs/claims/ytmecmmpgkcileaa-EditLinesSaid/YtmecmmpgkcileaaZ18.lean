/- Written by a program out of the translation; Lean checks it. -/
import Derived.Test.YtmecmmpgkcileaaZ0
import Derived.Test.YtmecmmpgkcileaaZ12
import Derived.Test.YtmecmmpgkcileaaGLines
import Derived.Test.YtmecmmpgkcileaaGStrs
namespace Go.Proofs.Ytmecmmpgkcileaa.Z
open Go.RowKit Go.Proofs.YtmecmmpgkcileaaW.PrintWords Go.Proofs.YtmecmmpgkcileaaW.PrintLast Go.Proofs.YtmecmmpgkcileaaW.PrintMore
attribute [local go_sem] max2_int min2_int max_two min_two max_three min_three max_four min_four   -- for this text's walks alone
set_option linter.unusedVariables false
set_option linter.unusedSimpArgs false

/-! ### regletlaw18_EditLines: function 13 -/
mutual
def regletlaw18_EditLines.j0 : Nat → ByteArray → Bool → Bool → Option (Bool)
  | 0, _, _, _ => none
  | k + 1, x0, x3, x15 => if x15 = true then (some x3) else ((edit_Lines.f x0).bind fun t460 => (regletlaw18_EditLines.l0 k x0 x3 t460 (⟨#[]⟩ : ByteArray) (t460.length : Int) 0))
def regletlaw18_EditLines.l0 : Nat → ByteArray → Bool → List ByteArray → ByteArray → Int → Int → Option (Bool)
  | 0, _, _, _, _, _, _ => none
  | k + 1, x0, x3, x4, x5, x20, x21 => if x21 < x20 then (if 0 ≤ x21 then (if x21 < (x4.length : Int) then ((strings_Index.f (rdOf ByteArray.empty x4 x21) (⟨#[10]⟩ : ByteArray)).bind fun t464 => (if ((rdOf ByteArray.empty x4 x21).size : Int) = 0 then (some false) else (if t464 ≥ 0 then (if t464 = (wrap64 (((rdOf ByteArray.empty x4 x21).size : Int) - 1)) then (if t464 < 0 then (if x21 < (wrap64 ((x4.length : Int) - 1)) then (some false) else (if x5.size + (rdOf ByteArray.empty x4 x21).size ≤ 9223372036854775807 then (regletlaw18_EditLines.l0 k x0 x3 x4 (x5 ++ (rdOf ByteArray.empty x4 x21)) x20 (wrap64 (x21 + 1))) else (none))) else (if x5.size + (rdOf ByteArray.empty x4 x21).size ≤ 9223372036854775807 then (regletlaw18_EditLines.l0 k x0 x3 x4 (x5 ++ (rdOf ByteArray.empty x4 x21)) x20 (wrap64 (x21 + 1))) else (none))) else (some false)) else (if t464 < 0 then (if x21 < (wrap64 ((x4.length : Int) - 1)) then (some false) else (if x5.size + (rdOf ByteArray.empty x4 x21).size ≤ 9223372036854775807 then (regletlaw18_EditLines.l0 k x0 x3 x4 (x5 ++ (rdOf ByteArray.empty x4 x21)) x20 (wrap64 (x21 + 1))) else (none))) else (if x5.size + (rdOf ByteArray.empty x4 x21).size ≤ 9223372036854775807 then (regletlaw18_EditLines.l0 k x0 x3 x4 (x5 ++ (rdOf ByteArray.empty x4 x21)) x20 (wrap64 (x21 + 1))) else (none)))))) else (none)) else (none)) else (if x3 = true then (some (x5.toList == x0.toList)) else (some false))
end
def regletlaw18_EditLines.f (k : Nat) (a0 : ByteArray) : Option (Bool) := (regletlaw18_alive.f).bind fun t459 => (if (a0.size : Int) > 2000 then (regletlaw18_EditLines.j0 k a0 t459 true) else (regletlaw18_EditLines.j0 k a0 t459 (!t459)))
theorem regletlaw18_EditLines.mono_l : ∀ k, (∀ y0 y1 y2, LeO (regletlaw18_EditLines.j0 k y0 y1 y2) (regletlaw18_EditLines.j0 (k + 1) y0 y1 y2)) ∧ (∀ y0 y1 y2 y3 y4 y5, LeO (regletlaw18_EditLines.l0 k y0 y1 y2 y3 y4 y5) (regletlaw18_EditLines.l0 (k + 1) y0 y1 y2 y3 y4 y5))
  | 0 => ⟨fun _ _ _ r h => by simp [regletlaw18_EditLines.j0] at h, fun _ _ _ _ _ _ r h => by simp [regletlaw18_EditLines.l0] at h⟩
  | k + 1 => by
    obtain ⟨ih0, ih1⟩ := regletlaw18_EditLines.mono_l k
    refine ⟨?_, ?_⟩
    · intro y0 y1 y2
      unfold regletlaw18_EditLines.j0
      repeat' first
      | (with_reducible exact ih0 _ _ _)
      | (with_reducible exact ih1 _ _ _ _ _ _)
      | (with_reducible exact LeO.refl _)
      | (with_reducible exact LeO.none _)
      | (with_reducible refine LeO.ite ?_ ?_)
      | (with_reducible refine LeO.bind ?_ (fun _ => ?_))
      | exact ih0 _ _ _
      | exact ih1 _ _ _ _ _ _
      | exact LeO.none _
      | refine LeO.ite ?_ ?_
      | refine LeO.bind ?_ (fun _ => ?_)
    · intro y0 y1 y2 y3 y4 y5
      unfold regletlaw18_EditLines.l0
      repeat' first
      | (with_reducible exact ih0 _ _ _)
      | (with_reducible exact ih1 _ _ _ _ _ _)
      | (with_reducible exact LeO.refl _)
      | (with_reducible exact LeO.none _)
      | (with_reducible refine LeO.ite ?_ ?_)
      | (with_reducible refine LeO.bind ?_ (fun _ => ?_))
      | exact ih0 _ _ _
      | exact ih1 _ _ _ _ _ _
      | exact LeO.none _
      | refine LeO.ite ?_ ?_
      | refine LeO.bind ?_ (fun _ => ?_)
theorem regletlaw18_EditLines.mono : ∀ a0 k, LeO (regletlaw18_EditLines.f k a0) (regletlaw18_EditLines.f (k + 1) a0) := by
  intro a0 k
  obtain ⟨ih0, ih1⟩ := regletlaw18_EditLines.mono_l k
  unfold regletlaw18_EditLines.f
  repeat' first
      | (with_reducible exact ih0 _ _ _)
      | (with_reducible exact ih1 _ _ _ _ _ _)
      | (with_reducible exact LeO.refl _)
      | (with_reducible exact LeO.none _)
      | (with_reducible refine LeO.ite ?_ ?_)
      | (with_reducible refine LeO.bind ?_ (fun _ => ?_))
      | exact ih0 _ _ _
      | exact ih1 _ _ _ _ _ _
      | exact LeO.none _
      | refine LeO.ite ?_ ?_
      | refine LeO.bind ?_ (fun _ => ?_)
set_option maxHeartbeats 8000000 in
set_option maxRecDepth 100000 in
theorem regletlaw18_EditLines.calls (k : Nat) (a0 : ByteArray) (r : Bool) (w : World) (h : regletlaw18_EditLines.f k a0 = some r) :
    Calls Try.prog 13 #[.string a0] w fun e w' => e = .returned (.bool r) ∧ Below w.heap.size w w' := by
  have HB := Aside0.mk (Below.refl w.heap.size w)
  have H : ((regletlaw18_alive.f).bind fun t459 => (if (a0.size : Int) > 2000 then (regletlaw18_EditLines.j0 k a0 t459 true) else (regletlaw18_EditLines.j0 k a0 t459 (!t459)))) = some r := h
  clear h
  replace H := Option.bind_eq_some_iff.mp H
  obtain ⟨t459, A20, H⟩ := H
  replace H : (if (a0.size : Int) > 2000 then (regletlaw18_EditLines.j0 k a0 t459 true) else (regletlaw18_EditLines.j0 k a0 t459 (!t459))) = some r := H
  have A2 := Aside0.mk A20
  clear A20
  have HC3 := Aside0.mk H
  clear H
  go_enter Try.func13, Try.ntmps13
  go_upto_region 2 with (first | ((with_reducible refine gate_callee (f := 28) rfl ?_); refine goesL_ (some 8) rfl rfl Try.func28 (by kernel_rfl) rfl #[] rfl (by (try simp only [List.map_toArray, List.map_cons, List.map_nil]); first | done | rfl | (simp only [List.length_drop, List.length_take]; rfl)) ?_; (with_reducible refine (regletlaw18_alive.calls  t459 _ A2.out).mono ?_); rintro e w4 ⟨rfl, hb⟩; refine ⟨_, rfl, ?_⟩; have n0_ := Aside0.mk (below_step (by repeat (first | (with_reducible first | exact HB.out | apply below_alloc | apply pw_below_drewN | apply below_drew1) | exact HB.out)) hb); clear HB; have HB := n0_; clear n0_; (try clear hb); (try clear hb2); (try clear hk); (try clear hi)))
  (try simp only [Act.put, List.setIfInBounds_toArray, List.set_cons_zero, List.set_cons_succ])
  go_cut [15] (fun v15 wc => ∃ (kq : Nat) (x15_2 : Bool), v15 = .bool x15_2 ∧ Aside0 (regletlaw18_EditLines.j0 kq a0 t459 x15_2 = some r) ∧ Aside0 (kq ≤ k) ∧ Aside0 (Below w.heap.size w wc))
  case first =>
    have H := HC3.out
    clear HC3
    by_cases c5 : (a0.size : Int) > 2000
    · rw [if_pos c5] at H
      have c5b0 : decide (2000 < (a0.size : Int)) = true := decide_eq_true c5
      have c5b1 : decide (2000 < a0.size) = true := decide_eq_true (by omega)
      clear c5
      (first | rw [c5b0] | (simp only [i64_w, i32_w]; rw [c5b0]) | skip)
      have H' := Aside0.mk H
      clear H
      go_wp2
      go_meet
      case rel => exact ⟨_, (true), (by first | rfl | (simp; done) | (simp [*]; done)), H', ⟨by first | omega | exact Nat.le_refl _⟩, ⟨by repeat (first | (with_reducible first | exact HB.out | apply below_alloc | apply pw_below_drewN | apply below_drew1) | exact HB.out)⟩⟩
    · rw [if_neg c5] at H
      have c5b0 : decide (2000 < (a0.size : Int)) = false := decide_eq_false c5
      have c5b1 : decide (2000 < a0.size) = false := decide_eq_false (by omega)
      clear c5
      (first | rw [c5b0] | (simp only [i64_w, i32_w]; rw [c5b0]) | skip)
      have H' := Aside0.mk H
      clear H
      go_wp2
      go_meet
      case rel => exact ⟨_, (!t459), (by first | rfl | (simp; done) | (simp [*]; done)), H', ⟨by first | omega | exact Nat.le_refl _⟩, ⟨by repeat (first | (with_reducible first | exact HB.out | apply below_alloc | apply pw_below_drewN | apply below_drew1) | exact HB.out)⟩⟩
  case rest =>
    clear HC3
    try clear c1
    try clear c2
    try clear p2
    try clear c5
    try clear c5b0
    try clear c5b1
    obtain ⟨kq, x15_2, rfl, HA, HJ2, HB⟩ := hcut
    cases kq with
    | zero => exact absurd HA.out (by simp [regletlaw18_EditLines.j0])
    | succ kj2 =>
      have H := HA.out
      clear HA
      simp only [regletlaw18_EditLines.j0] at H
      by_cases c6 : x15_2 = true
      · subst c6
        have H1 : (some t459) = some r := by rw [if_pos rfl] at H; exact H
        clear H
        have H := H1
        clear H1
        obtain rfl := Option.some.inj H
        go_wp2
        go_ret
        exact ⟨by first | rfl | (simp [errW_none, errW_some] <;> rfl) | (simp [*, errW_none, errW_some] <;> rfl), by repeat (first | (with_reducible first | exact HB.out | apply below_alloc | apply pw_below_drewN | apply below_drew1) | exact HB.out)⟩
      · replace c6 := Bool.eq_false_iff.mpr c6
        subst c6
        have H1 : ((edit_Lines.f a0).bind fun t460 => (regletlaw18_EditLines.l0 kj2 a0 t459 t460 (⟨#[]⟩ : ByteArray) (t460.length : Int) 0)) = some r := by rw [if_neg (show ¬ (false = true) by decide)] at H; exact H
        clear H
        have H := H1
        clear H1
        replace H := Option.bind_eq_some_iff.mp H
        obtain ⟨t460, A70, H⟩ := H
        replace H : (regletlaw18_EditLines.l0 kj2 a0 t459 t460 (⟨#[]⟩ : ByteArray) (t460.length : Int) 0) = some r := H
        have A7 := Aside0.mk A70
        clear A70
        have H' := Aside0.mk H
        clear H
        go_wp2_with (first | ((with_reducible refine gate_callee (f := 17) rfl ?_); refine goesL_ (some 18) rfl rfl Try.func17 (by kernel_rfl) rfl #[.string a0] rfl (by (try simp only [List.map_toArray, List.map_cons, List.map_nil]); first | done | rfl | (simp only [List.length_drop, List.length_take]; rfl)) ?_; (with_reducible refine (edit_Lines.calls a0 t460 _ A7.out).mono ?_); rintro e w8 ⟨v461, rfl, ho0, hb⟩; refine ⟨_, rfl, ?_⟩; have n0_ := Aside0.mk (Kd.R_lower ho0 (below_size (by repeat (first | (with_reducible first | exact HB.out | apply below_alloc | apply pw_below_drewN | apply below_drew1) | exact HB.out)))); have n1_ := Aside0.mk (below_step (by repeat (first | (with_reducible first | exact HB.out | apply below_alloc | apply pw_below_drewN | apply below_drew1) | exact HB.out)) hb); clear HB; have HO462 := n0_; have HB := n1_; clear n0_ n1_; (try clear hb); (try clear hb2); (try clear hk); (try clear hi); (try clear ho0); obtain ⟨Ao9, co9, eo9⟩ := Kd.R_slice HO462.out; subst eo9))
        go_loopg [5, 21] kj2 (fun kq v5 v21 w' => ∃ (x5_2 : ByteArray) (x21_2 : Int), v5 = .string x5_2 ∧ v21 = .int .i64 x21_2 ∧ Aside0 (regletlaw18_EditLines.l0 kq a0 t459 t460 x5_2 (t460.length : Int) x21_2 = some r) ∧ Aside0 (kq ≤ kj2) ∧ Aside0 (Kd.R Kd.string 9 w' w.heap.size (fun _ => True) (.slice Ao9 t460.length co9) t460) ∧ Aside0 (Below w.heap.size w w'))
        case atStart => exact ⟨((⟨#[]⟩ : ByteArray)), (0), (by first | rfl | (simp; done) | (simp [*]; done)), (by first | rfl | (simp; done) | (simp [*]; done)), H', ⟨Nat.le_refl _⟩, ⟨by (with_reducible repeat (first | apply Kd.R_alloc | apply Kd.R_drewN | apply Kd.R_drew)); exact HO462.out⟩, ⟨by repeat (first | (with_reducible first | exact HB.out | apply below_alloc | apply pw_below_drewN | apply below_drew1) | exact HB.out)⟩⟩
        case round =>
          clear H'
          try clear c1
          try clear c2
          try clear p2
          try clear c5
          try clear c5b0
          try clear c5b1
          try clear c6
          try clear p2
          obtain ⟨x5_2, x21_2, rfl, rfl, HA, HK2, HO_4, HB⟩ := hrel
          cases gk with
          | zero => exact absurd HA.out (by simp [regletlaw18_EditLines.l0])
          | succ k2 =>
            have H := HA.out
            clear HA
            simp only [regletlaw18_EditLines.l0] at H
            by_cases c10 : x21_2 < (t460.length : Int)
            · rw [if_pos c10] at H
              have c10b0 : decide (x21_2 < (t460.length : Int)) = true := decide_eq_true c10
              clear c10
              by_cases c11 : 0 ≤ x21_2
              · rw [if_pos c11] at H
                have c11b0 : decide (0 ≤ x21_2) = true := decide_eq_true c11
                clear c11
                by_cases c12 : x21_2 < (t460.length : Int)
                · rw [if_pos c12] at H
                  have c12b0 : decide (x21_2 < (t460.length : Int)) = true := decide_eq_true c12
                  clear c12
                  replace H := Option.bind_eq_some_iff.mp H
                  obtain ⟨t464, A130, H⟩ := H
                  replace H : (if ((rdOf ByteArray.empty t460 x21_2).size : Int) = 0 then (some false) else (if t464 ≥ 0 then (if t464 = (wrap64 (((rdOf ByteArray.empty t460 x21_2).size : Int) - 1)) then (if t464 < 0 then (if x21_2 < (wrap64 ((t460.length : Int) - 1)) then (some false) else (if x5_2.size + (rdOf ByteArray.empty t460 x21_2).size ≤ 9223372036854775807 then (regletlaw18_EditLines.l0 k2 a0 t459 t460 (x5_2 ++ (rdOf ByteArray.empty t460 x21_2)) (t460.length : Int) (wrap64 (x21_2 + 1))) else (none))) else (if x5_2.size + (rdOf ByteArray.empty t460 x21_2).size ≤ 9223372036854775807 then (regletlaw18_EditLines.l0 k2 a0 t459 t460 (x5_2 ++ (rdOf ByteArray.empty t460 x21_2)) (t460.length : Int) (wrap64 (x21_2 + 1))) else (none))) else (some false)) else (if t464 < 0 then (if x21_2 < (wrap64 ((t460.length : Int) - 1)) then (some false) else (if x5_2.size + (rdOf ByteArray.empty t460 x21_2).size ≤ 9223372036854775807 then (regletlaw18_EditLines.l0 k2 a0 t459 t460 (x5_2 ++ (rdOf ByteArray.empty t460 x21_2)) (t460.length : Int) (wrap64 (x21_2 + 1))) else (none))) else (if x5_2.size + (rdOf ByteArray.empty t460 x21_2).size ≤ 9223372036854775807 then (regletlaw18_EditLines.l0 k2 a0 t459 t460 (x5_2 ++ (rdOf ByteArray.empty t460 x21_2)) (t460.length : Int) (wrap64 (x21_2 + 1))) else (none))))) = some r := H
                  have A13 := Aside0.mk A130
                  clear A130
                  by_cases c14 : ((rdOf ByteArray.empty t460 x21_2).size : Int) = 0
                  · rw [if_pos c14] at H
                    have c14b0 : (((rdOf ByteArray.empty t460 x21_2).size : Int) == 0) = true := beq_iff_eq.mpr c14
                    have c14b1 : (((rdOf ByteArray.empty t460 x21_2).size : Int) != 0) = false := bne_eq_false_iff_eq.mpr c14
                    clear c14
                    obtain rfl := Option.some.inj H
                    have p463 : 0 ≤ (x21_2 : Int) := of_decide_eq_true (by first | (with_reducible assumption) | assumption)
                    have q463 : x21_2 < (t460.length : Int) := of_decide_eq_true (by first | (with_reducible assumption) | assumption)
                    obtain ⟨ad463, e463, hx463_0⟩ := Kd.at_string (Kd.R_reads' HO_4.out).2.2 x21_2 p463 q463
                    cases e463
                    replace p463 := eq_true p463
                    replace q463 := eq_true q463
                    go_wp2_with (first | ((with_reducible refine gate_callee (f := 38) rfl ?_); refine goesL_ (some 28) rfl rfl Try.func38 (by kernel_rfl) rfl #[.string (rdOf ByteArray.empty t460 x21_2), .string (⟨#[10]⟩ : ByteArray)] rfl (by (try simp only [List.map_toArray, List.map_cons, List.map_nil]); first | done | rfl | (simp only [List.length_drop, List.length_take]; rfl)) ?_; (with_reducible refine (strings_Index.calls (rdOf ByteArray.empty t460 x21_2) (⟨#[10]⟩ : ByteArray) t464 _ A13.out).mono ?_); rintro e w' ⟨rfl, ⟨nd, rfl⟩⟩; refine ⟨_, rfl, ?_⟩; have p465 : 0 ≤ (x21_2 : Int) := of_decide_eq_true (by first | (with_reducible assumption) | assumption); have q465 : x21_2 < (t460.length : Int) := of_decide_eq_true (by first | (with_reducible assumption) | assumption); obtain ⟨ad465, e465, hx465_0⟩ := Kd.at_string (Kd.R_reads' HO_4.out).2.2 x21_2 p465 q465; obtain rfl : ad463 = ad465 := (by injection e465); replace p465 := eq_true p465; replace q465 := eq_true q465))
                    go_ret
                    exact ⟨by first | rfl | (simp [errW_none, errW_some] <;> rfl) | (simp [*, errW_none, errW_some] <;> rfl), by repeat (first | (with_reducible first | exact HB.out | apply below_alloc | apply pw_below_drewN | apply below_drew1) | exact HB.out)⟩
                  · rw [if_neg c14] at H
                    have c14b0 : (((rdOf ByteArray.empty t460 x21_2).size : Int) == 0) = false := beq_eq_false_iff_ne.mpr c14
                    have c14b1 : (((rdOf ByteArray.empty t460 x21_2).size : Int) != 0) = true := bne_iff_ne.mpr c14
                    by_cases c15 : t464 ≥ 0
                    · rw [if_pos c15] at H
                      have c15b0 : decide (0 ≤ t464) = true := decide_eq_true c15
                      clear c15
                      by_cases c16 : t464 = (wrap64 (((rdOf ByteArray.empty t460 x21_2).size : Int) - 1))
                      · rw [if_pos c16] at H
                        have c16b0 : (t464 == (wrap64 (((rdOf ByteArray.empty t460 x21_2).size : Int) - 1))) = true := beq_iff_eq.mpr c16
                        have c16b1 : (t464 != (wrap64 (((rdOf ByteArray.empty t460 x21_2).size : Int) - 1))) = false := bne_eq_false_iff_eq.mpr c16
                        clear c16
                        by_cases c17 : t464 < 0
                        · rw [if_pos c17] at H
                          have c17b0 : decide (t464 < 0) = true := decide_eq_true c17
                          clear c17
                          by_cases c18 : x21_2 < (wrap64 ((t460.length : Int) - 1))
                          · rw [if_pos c18] at H
                            have c18b0 : decide (x21_2 < (wrap64 ((t460.length : Int) - 1))) = true := decide_eq_true c18
                            clear c18
                            obtain rfl := Option.some.inj H
                            have p463 : 0 ≤ (x21_2 : Int) := of_decide_eq_true (by first | (with_reducible assumption) | assumption)
                            have q463 : x21_2 < (t460.length : Int) := of_decide_eq_true (by first | (with_reducible assumption) | assumption)
                            obtain ⟨ad463, e463, hx463_0⟩ := Kd.at_string (Kd.R_reads' HO_4.out).2.2 x21_2 p463 q463
                            cases e463
                            replace p463 := eq_true p463
                            replace q463 := eq_true q463
                            go_wp2_with (first | ((with_reducible refine gate_callee (f := 38) rfl ?_); refine goesL_ (some 28) rfl rfl Try.func38 (by kernel_rfl) rfl #[.string (rdOf ByteArray.empty t460 x21_2), .string (⟨#[10]⟩ : ByteArray)] rfl (by (try simp only [List.map_toArray, List.map_cons, List.map_nil]); first | done | rfl | (simp only [List.length_drop, List.length_take]; rfl)) ?_; (with_reducible refine (strings_Index.calls (rdOf ByteArray.empty t460 x21_2) (⟨#[10]⟩ : ByteArray) t464 _ A13.out).mono ?_); rintro e w' ⟨rfl, ⟨nd, rfl⟩⟩; refine ⟨_, rfl, ?_⟩; have p465 : 0 ≤ (x21_2 : Int) := of_decide_eq_true (by first | (with_reducible assumption) | assumption); have q465 : x21_2 < (t460.length : Int) := of_decide_eq_true (by first | (with_reducible assumption) | assumption); obtain ⟨ad465, e465, hx465_0⟩ := Kd.at_string (Kd.R_reads' HO_4.out).2.2 x21_2 p465 q465; obtain rfl : ad463 = ad465 := (by injection e465); replace p465 := eq_true p465; replace q465 := eq_true q465; have p466 : 0 ≤ (x21_2 : Int) := of_decide_eq_true (by first | (with_reducible assumption) | assumption); have q466 : x21_2 < (t460.length : Int) := of_decide_eq_true (by first | (with_reducible assumption) | assumption); obtain ⟨ad466, e466, hx466_0⟩ := Kd.at_string (Kd.R_reads' HO_4.out).2.2 x21_2 p466 q466; obtain rfl : ad463 = ad466 := (by injection e466); replace p466 := eq_true p466; replace q466 := eq_true q466))
                            go_ret
                            exact ⟨by first | rfl | (simp [errW_none, errW_some] <;> rfl) | (simp [*, errW_none, errW_some] <;> rfl), by repeat (first | (with_reducible first | exact HB.out | apply below_alloc | apply pw_below_drewN | apply below_drew1) | exact HB.out)⟩
                          · rw [if_neg c18] at H
                            have c18b0 : decide (x21_2 < (wrap64 ((t460.length : Int) - 1))) = false := decide_eq_false c18
                            clear c18
                            by_cases c19 : x5_2.size + (rdOf ByteArray.empty t460 x21_2).size ≤ 9223372036854775807
                            · rw [if_pos c19] at H
                              have c19b0 := eq_true c19
                              have c19b1 : decide (x5_2.size + (rdOf ByteArray.empty t460 x21_2).size ≤ 9223372036854775807) = true := decide_eq_true c19
                              try have c19b2 : (9223372036854775807 < x5_2.size + (rdOf ByteArray.empty t460 x21_2).size) = False := eq_false (Nat.not_lt.2 c19)
                              have hzw_ : wrap64 (((rdOf ByteArray.empty t460 x21_2).size : Int) - 1) = ((rdOf ByteArray.empty t460 x21_2).size : Int) - 1 := by unfold wrap64; omega
                              try (have c16z0 := c16b0; have c16z1 := c16b1; rw [hzw_] at c16z0 c16z1)
                              clear hzw_
                              have H' := Aside0.mk H
                              clear H
                              have p463 : 0 ≤ (x21_2 : Int) := of_decide_eq_true (by first | (with_reducible assumption) | assumption)
                              have q463 : x21_2 < (t460.length : Int) := of_decide_eq_true (by first | (with_reducible assumption) | assumption)
                              obtain ⟨ad463, e463, hx463_0⟩ := Kd.at_string (Kd.R_reads' HO_4.out).2.2 x21_2 p463 q463
                              cases e463
                              replace p463 := eq_true p463
                              replace q463 := eq_true q463
                              go_wp2_with (first | ((with_reducible refine gate_callee (f := 38) rfl ?_); refine goesL_ (some 28) rfl rfl Try.func38 (by kernel_rfl) rfl #[.string (rdOf ByteArray.empty t460 x21_2), .string (⟨#[10]⟩ : ByteArray)] rfl (by (try simp only [List.map_toArray, List.map_cons, List.map_nil]); first | done | rfl | (simp only [List.length_drop, List.length_take]; rfl)) ?_; (with_reducible refine (strings_Index.calls (rdOf ByteArray.empty t460 x21_2) (⟨#[10]⟩ : ByteArray) t464 _ A13.out).mono ?_); rintro e w' ⟨rfl, ⟨nd, rfl⟩⟩; refine ⟨_, rfl, ?_⟩; have p465 : 0 ≤ (x21_2 : Int) := of_decide_eq_true (by first | (with_reducible assumption) | assumption); have q465 : x21_2 < (t460.length : Int) := of_decide_eq_true (by first | (with_reducible assumption) | assumption); obtain ⟨ad465, e465, hx465_0⟩ := Kd.at_string (Kd.R_reads' HO_4.out).2.2 x21_2 p465 q465; obtain rfl : ad463 = ad465 := (by injection e465); replace p465 := eq_true p465; replace q465 := eq_true q465; have p466 : 0 ≤ (x21_2 : Int) := of_decide_eq_true (by first | (with_reducible assumption) | assumption); have q466 : x21_2 < (t460.length : Int) := of_decide_eq_true (by first | (with_reducible assumption) | assumption); obtain ⟨ad466, e466, hx466_0⟩ := Kd.at_string (Kd.R_reads' HO_4.out).2.2 x21_2 p466 q466; obtain rfl : ad463 = ad466 := (by injection e466); replace p466 := eq_true p466; replace q466 := eq_true q466; have p467 : 0 ≤ (x21_2 : Int) := of_decide_eq_true (by first | (with_reducible assumption) | assumption); have q467 : x21_2 < (t460.length : Int) := of_decide_eq_true (by first | (with_reducible assumption) | assumption); obtain ⟨ad467, e467, hx467_0⟩ := Kd.at_string (Kd.R_reads' HO_4.out).2.2 x21_2 p467 q467; obtain rfl : ad463 = ad467 := (by injection e467); replace p467 := eq_true p467; replace q467 := eq_true q467))
                              go_roundg k2
                              case measure => have := HJ2.out; have := HK2.out; omega
                              case rel => exact ⟨(x5_2 ++ (rdOf ByteArray.empty t460 x21_2)), (wrap64 (x21_2 + 1)), (by first | rfl | (simp; done) | (simp [*]; done)), (by first | rfl | (simp; done) | (simp [*]; done)), H', ⟨by have := HJ2.out; have := HK2.out; omega⟩, ⟨by (with_reducible repeat (first | apply Kd.R_alloc | apply Kd.R_drewN | apply Kd.R_drew)); exact HO_4.out⟩, ⟨by repeat (first | (with_reducible first | exact HB.out | apply below_alloc | apply pw_below_drewN | apply below_drew1) | exact HB.out)⟩⟩
                            · rw [if_neg c19] at H
                              exact absurd H (by simp)
                        · rw [if_neg c17] at H
                          have c17b0 : decide (t464 < 0) = false := decide_eq_false c17
                          clear c17
                          by_cases c20 : x5_2.size + (rdOf ByteArray.empty t460 x21_2).size ≤ 9223372036854775807
                          · rw [if_pos c20] at H
                            have c20b0 := eq_true c20
                            have c20b1 : decide (x5_2.size + (rdOf ByteArray.empty t460 x21_2).size ≤ 9223372036854775807) = true := decide_eq_true c20
                            try have c20b2 : (9223372036854775807 < x5_2.size + (rdOf ByteArray.empty t460 x21_2).size) = False := eq_false (Nat.not_lt.2 c20)
                            have hzw_ : wrap64 (((rdOf ByteArray.empty t460 x21_2).size : Int) - 1) = ((rdOf ByteArray.empty t460 x21_2).size : Int) - 1 := by unfold wrap64; omega
                            try (have c16z0 := c16b0; have c16z1 := c16b1; rw [hzw_] at c16z0 c16z1)
                            clear hzw_
                            have H' := Aside0.mk H
                            clear H
                            have p463 : 0 ≤ (x21_2 : Int) := of_decide_eq_true (by first | (with_reducible assumption) | assumption)
                            have q463 : x21_2 < (t460.length : Int) := of_decide_eq_true (by first | (with_reducible assumption) | assumption)
                            obtain ⟨ad463, e463, hx463_0⟩ := Kd.at_string (Kd.R_reads' HO_4.out).2.2 x21_2 p463 q463
                            cases e463
                            replace p463 := eq_true p463
                            replace q463 := eq_true q463
                            go_wp2_with (first | ((with_reducible refine gate_callee (f := 38) rfl ?_); refine goesL_ (some 28) rfl rfl Try.func38 (by kernel_rfl) rfl #[.string (rdOf ByteArray.empty t460 x21_2), .string (⟨#[10]⟩ : ByteArray)] rfl (by (try simp only [List.map_toArray, List.map_cons, List.map_nil]); first | done | rfl | (simp only [List.length_drop, List.length_take]; rfl)) ?_; (with_reducible refine (strings_Index.calls (rdOf ByteArray.empty t460 x21_2) (⟨#[10]⟩ : ByteArray) t464 _ A13.out).mono ?_); rintro e w' ⟨rfl, ⟨nd, rfl⟩⟩; refine ⟨_, rfl, ?_⟩; have p465 : 0 ≤ (x21_2 : Int) := of_decide_eq_true (by first | (with_reducible assumption) | assumption); have q465 : x21_2 < (t460.length : Int) := of_decide_eq_true (by first | (with_reducible assumption) | assumption); obtain ⟨ad465, e465, hx465_0⟩ := Kd.at_string (Kd.R_reads' HO_4.out).2.2 x21_2 p465 q465; obtain rfl : ad463 = ad465 := (by injection e465); replace p465 := eq_true p465; replace q465 := eq_true q465; have p466 : 0 ≤ (x21_2 : Int) := of_decide_eq_true (by first | (with_reducible assumption) | assumption); have q466 : x21_2 < (t460.length : Int) := of_decide_eq_true (by first | (with_reducible assumption) | assumption); obtain ⟨ad466, e466, hx466_0⟩ := Kd.at_string (Kd.R_reads' HO_4.out).2.2 x21_2 p466 q466; obtain rfl : ad463 = ad466 := (by injection e466); replace p466 := eq_true p466; replace q466 := eq_true q466; have p468 : 0 ≤ (x21_2 : Int) := of_decide_eq_true (by first | (with_reducible assumption) | assumption); have q468 : x21_2 < (t460.length : Int) := of_decide_eq_true (by first | (with_reducible assumption) | assumption); obtain ⟨ad468, e468, hx468_0⟩ := Kd.at_string (Kd.R_reads' HO_4.out).2.2 x21_2 p468 q468; obtain rfl : ad463 = ad468 := (by injection e468); replace p468 := eq_true p468; replace q468 := eq_true q468))
                            go_roundg k2
                            case measure => have := HJ2.out; have := HK2.out; omega
                            case rel => exact ⟨(x5_2 ++ (rdOf ByteArray.empty t460 x21_2)), (wrap64 (x21_2 + 1)), (by first | rfl | (simp; done) | (simp [*]; done)), (by first | rfl | (simp; done) | (simp [*]; done)), H', ⟨by have := HJ2.out; have := HK2.out; omega⟩, ⟨by (with_reducible repeat (first | apply Kd.R_alloc | apply Kd.R_drewN | apply Kd.R_drew)); exact HO_4.out⟩, ⟨by repeat (first | (with_reducible first | exact HB.out | apply below_alloc | apply pw_below_drewN | apply below_drew1) | exact HB.out)⟩⟩
                          · rw [if_neg c20] at H
                            exact absurd H (by simp)
                      · rw [if_neg c16] at H
                        have c16b0 : (t464 == (wrap64 (((rdOf ByteArray.empty t460 x21_2).size : Int) - 1))) = false := beq_eq_false_iff_ne.mpr c16
                        have c16b1 : (t464 != (wrap64 (((rdOf ByteArray.empty t460 x21_2).size : Int) - 1))) = true := bne_iff_ne.mpr c16
                        obtain rfl := Option.some.inj H
                        have p463 : 0 ≤ (x21_2 : Int) := of_decide_eq_true (by first | (with_reducible assumption) | assumption)
                        have q463 : x21_2 < (t460.length : Int) := of_decide_eq_true (by first | (with_reducible assumption) | assumption)
                        obtain ⟨ad463, e463, hx463_0⟩ := Kd.at_string (Kd.R_reads' HO_4.out).2.2 x21_2 p463 q463
                        cases e463
                        replace p463 := eq_true p463
                        replace q463 := eq_true q463
                        go_wp2_with (first | ((with_reducible refine gate_callee (f := 38) rfl ?_); refine goesL_ (some 28) rfl rfl Try.func38 (by kernel_rfl) rfl #[.string (rdOf ByteArray.empty t460 x21_2), .string (⟨#[10]⟩ : ByteArray)] rfl (by (try simp only [List.map_toArray, List.map_cons, List.map_nil]); first | done | rfl | (simp only [List.length_drop, List.length_take]; rfl)) ?_; (with_reducible refine (strings_Index.calls (rdOf ByteArray.empty t460 x21_2) (⟨#[10]⟩ : ByteArray) t464 _ A13.out).mono ?_); rintro e w' ⟨rfl, ⟨nd, rfl⟩⟩; refine ⟨_, rfl, ?_⟩; have p465 : 0 ≤ (x21_2 : Int) := of_decide_eq_true (by first | (with_reducible assumption) | assumption); have q465 : x21_2 < (t460.length : Int) := of_decide_eq_true (by first | (with_reducible assumption) | assumption); obtain ⟨ad465, e465, hx465_0⟩ := Kd.at_string (Kd.R_reads' HO_4.out).2.2 x21_2 p465 q465; obtain rfl : ad463 = ad465 := (by injection e465); replace p465 := eq_true p465; replace q465 := eq_true q465; have p466 : 0 ≤ (x21_2 : Int) := of_decide_eq_true (by first | (with_reducible assumption) | assumption); have q466 : x21_2 < (t460.length : Int) := of_decide_eq_true (by first | (with_reducible assumption) | assumption); obtain ⟨ad466, e466, hx466_0⟩ := Kd.at_string (Kd.R_reads' HO_4.out).2.2 x21_2 p466 q466; obtain rfl : ad463 = ad466 := (by injection e466); replace p466 := eq_true p466; replace q466 := eq_true q466))
                        go_ret
                        exact ⟨by first | rfl | (simp [errW_none, errW_some] <;> rfl) | (simp [*, errW_none, errW_some] <;> rfl), by repeat (first | (with_reducible first | exact HB.out | apply below_alloc | apply pw_below_drewN | apply below_drew1) | exact HB.out)⟩
                    · rw [if_neg c15] at H
                      have c15b0 : decide (0 ≤ t464) = false := decide_eq_false c15
                      clear c15
                      by_cases c21 : t464 < 0
                      · rw [if_pos c21] at H
                        have c21b0 : decide (t464 < 0) = true := decide_eq_true c21
                        clear c21
                        by_cases c22 : x21_2 < (wrap64 ((t460.length : Int) - 1))
                        · rw [if_pos c22] at H
                          have c22b0 : decide (x21_2 < (wrap64 ((t460.length : Int) - 1))) = true := decide_eq_true c22
                          clear c22
                          obtain rfl := Option.some.inj H
                          have p463 : 0 ≤ (x21_2 : Int) := of_decide_eq_true (by first | (with_reducible assumption) | assumption)
                          have q463 : x21_2 < (t460.length : Int) := of_decide_eq_true (by first | (with_reducible assumption) | assumption)
                          obtain ⟨ad463, e463, hx463_0⟩ := Kd.at_string (Kd.R_reads' HO_4.out).2.2 x21_2 p463 q463
                          cases e463
                          replace p463 := eq_true p463
                          replace q463 := eq_true q463
                          go_wp2_with (first | ((with_reducible refine gate_callee (f := 38) rfl ?_); refine goesL_ (some 28) rfl rfl Try.func38 (by kernel_rfl) rfl #[.string (rdOf ByteArray.empty t460 x21_2), .string (⟨#[10]⟩ : ByteArray)] rfl (by (try simp only [List.map_toArray, List.map_cons, List.map_nil]); first | done | rfl | (simp only [List.length_drop, List.length_take]; rfl)) ?_; (with_reducible refine (strings_Index.calls (rdOf ByteArray.empty t460 x21_2) (⟨#[10]⟩ : ByteArray) t464 _ A13.out).mono ?_); rintro e w' ⟨rfl, ⟨nd, rfl⟩⟩; refine ⟨_, rfl, ?_⟩; have p465 : 0 ≤ (x21_2 : Int) := of_decide_eq_true (by first | (with_reducible assumption) | assumption); have q465 : x21_2 < (t460.length : Int) := of_decide_eq_true (by first | (with_reducible assumption) | assumption); obtain ⟨ad465, e465, hx465_0⟩ := Kd.at_string (Kd.R_reads' HO_4.out).2.2 x21_2 p465 q465; obtain rfl : ad463 = ad465 := (by injection e465); replace p465 := eq_true p465; replace q465 := eq_true q465))
                          go_ret
                          exact ⟨by first | rfl | (simp [errW_none, errW_some] <;> rfl) | (simp [*, errW_none, errW_some] <;> rfl), by repeat (first | (with_reducible first | exact HB.out | apply below_alloc | apply pw_below_drewN | apply below_drew1) | exact HB.out)⟩
                        · rw [if_neg c22] at H
                          have c22b0 : decide (x21_2 < (wrap64 ((t460.length : Int) - 1))) = false := decide_eq_false c22
                          clear c22
                          by_cases c23 : x5_2.size + (rdOf ByteArray.empty t460 x21_2).size ≤ 9223372036854775807
                          · rw [if_pos c23] at H
                            have c23b0 := eq_true c23
                            have c23b1 : decide (x5_2.size + (rdOf ByteArray.empty t460 x21_2).size ≤ 9223372036854775807) = true := decide_eq_true c23
                            try have c23b2 : (9223372036854775807 < x5_2.size + (rdOf ByteArray.empty t460 x21_2).size) = False := eq_false (Nat.not_lt.2 c23)
                            have hzw_ : wrap64 (((rdOf ByteArray.empty t460 x21_2).size : Int) - 1) = ((rdOf ByteArray.empty t460 x21_2).size : Int) - 1 := by unfold wrap64; omega
                            try (have c16z0 := c16b0; have c16z1 := c16b1; rw [hzw_] at c16z0 c16z1)
                            clear hzw_
                            have H' := Aside0.mk H
                            clear H
                            have p463 : 0 ≤ (x21_2 : Int) := of_decide_eq_true (by first | (with_reducible assumption) | assumption)
                            have q463 : x21_2 < (t460.length : Int) := of_decide_eq_true (by first | (with_reducible assumption) | assumption)
                            obtain ⟨ad463, e463, hx463_0⟩ := Kd.at_string (Kd.R_reads' HO_4.out).2.2 x21_2 p463 q463
                            cases e463
                            replace p463 := eq_true p463
                            replace q463 := eq_true q463
                            go_wp2_with (first | ((with_reducible refine gate_callee (f := 38) rfl ?_); refine goesL_ (some 28) rfl rfl Try.func38 (by kernel_rfl) rfl #[.string (rdOf ByteArray.empty t460 x21_2), .string (⟨#[10]⟩ : ByteArray)] rfl (by (try simp only [List.map_toArray, List.map_cons, List.map_nil]); first | done | rfl | (simp only [List.length_drop, List.length_take]; rfl)) ?_; (with_reducible refine (strings_Index.calls (rdOf ByteArray.empty t460 x21_2) (⟨#[10]⟩ : ByteArray) t464 _ A13.out).mono ?_); rintro e w' ⟨rfl, ⟨nd, rfl⟩⟩; refine ⟨_, rfl, ?_⟩; have p465 : 0 ≤ (x21_2 : Int) := of_decide_eq_true (by first | (with_reducible assumption) | assumption); have q465 : x21_2 < (t460.length : Int) := of_decide_eq_true (by first | (with_reducible assumption) | assumption); obtain ⟨ad465, e465, hx465_0⟩ := Kd.at_string (Kd.R_reads' HO_4.out).2.2 x21_2 p465 q465; obtain rfl : ad463 = ad465 := (by injection e465); replace p465 := eq_true p465; replace q465 := eq_true q465; have p469 : 0 ≤ (x21_2 : Int) := of_decide_eq_true (by first | (with_reducible assumption) | assumption); have q469 : x21_2 < (t460.length : Int) := of_decide_eq_true (by first | (with_reducible assumption) | assumption); obtain ⟨ad469, e469, hx469_0⟩ := Kd.at_string (Kd.R_reads' HO_4.out).2.2 x21_2 p469 q469; obtain rfl : ad463 = ad469 := (by injection e469); replace p469 := eq_true p469; replace q469 := eq_true q469))
                            go_roundg k2
                            case measure => have := HJ2.out; have := HK2.out; omega
                            case rel => exact ⟨(x5_2 ++ (rdOf ByteArray.empty t460 x21_2)), (wrap64 (x21_2 + 1)), (by first | rfl | (simp; done) | (simp [*]; done)), (by first | rfl | (simp; done) | (simp [*]; done)), H', ⟨by have := HJ2.out; have := HK2.out; omega⟩, ⟨by (with_reducible repeat (first | apply Kd.R_alloc | apply Kd.R_drewN | apply Kd.R_drew)); exact HO_4.out⟩, ⟨by repeat (first | (with_reducible first | exact HB.out | apply below_alloc | apply pw_below_drewN | apply below_drew1) | exact HB.out)⟩⟩
                          · rw [if_neg c23] at H
                            exact absurd H (by simp)
                      · rw [if_neg c21] at H
                        have c21b0 : decide (t464 < 0) = false := decide_eq_false c21
                        clear c21
                        by_cases c24 : x5_2.size + (rdOf ByteArray.empty t460 x21_2).size ≤ 9223372036854775807
                        · rw [if_pos c24] at H
                          have c24b0 := eq_true c24
                          have c24b1 : decide (x5_2.size + (rdOf ByteArray.empty t460 x21_2).size ≤ 9223372036854775807) = true := decide_eq_true c24
                          try have c24b2 : (9223372036854775807 < x5_2.size + (rdOf ByteArray.empty t460 x21_2).size) = False := eq_false (Nat.not_lt.2 c24)
                          have hzw_ : wrap64 (((rdOf ByteArray.empty t460 x21_2).size : Int) - 1) = ((rdOf ByteArray.empty t460 x21_2).size : Int) - 1 := by unfold wrap64; omega
                          try (have c16z0 := c16b0; have c16z1 := c16b1; rw [hzw_] at c16z0 c16z1)
                          clear hzw_
                          have H' := Aside0.mk H
                          clear H
                          have p463 : 0 ≤ (x21_2 : Int) := of_decide_eq_true (by first | (with_reducible assumption) | assumption)
                          have q463 : x21_2 < (t460.length : Int) := of_decide_eq_true (by first | (with_reducible assumption) | assumption)
                          obtain ⟨ad463, e463, hx463_0⟩ := Kd.at_string (Kd.R_reads' HO_4.out).2.2 x21_2 p463 q463
                          cases e463
                          replace p463 := eq_true p463
                          replace q463 := eq_true q463
                          go_wp2_with (first | ((with_reducible refine gate_callee (f := 38) rfl ?_); refine goesL_ (some 28) rfl rfl Try.func38 (by kernel_rfl) rfl #[.string (rdOf ByteArray.empty t460 x21_2), .string (⟨#[10]⟩ : ByteArray)] rfl (by (try simp only [List.map_toArray, List.map_cons, List.map_nil]); first | done | rfl | (simp only [List.length_drop, List.length_take]; rfl)) ?_; (with_reducible refine (strings_Index.calls (rdOf ByteArray.empty t460 x21_2) (⟨#[10]⟩ : ByteArray) t464 _ A13.out).mono ?_); rintro e w' ⟨rfl, ⟨nd, rfl⟩⟩; refine ⟨_, rfl, ?_⟩; have p465 : 0 ≤ (x21_2 : Int) := of_decide_eq_true (by first | (with_reducible assumption) | assumption); have q465 : x21_2 < (t460.length : Int) := of_decide_eq_true (by first | (with_reducible assumption) | assumption); obtain ⟨ad465, e465, hx465_0⟩ := Kd.at_string (Kd.R_reads' HO_4.out).2.2 x21_2 p465 q465; obtain rfl : ad463 = ad465 := (by injection e465); replace p465 := eq_true p465; replace q465 := eq_true q465; have p470 : 0 ≤ (x21_2 : Int) := of_decide_eq_true (by first | (with_reducible assumption) | assumption); have q470 : x21_2 < (t460.length : Int) := of_decide_eq_true (by first | (with_reducible assumption) | assumption); obtain ⟨ad470, e470, hx470_0⟩ := Kd.at_string (Kd.R_reads' HO_4.out).2.2 x21_2 p470 q470; obtain rfl : ad463 = ad470 := (by injection e470); replace p470 := eq_true p470; replace q470 := eq_true q470))
                          go_roundg k2
                          case measure => have := HJ2.out; have := HK2.out; omega
                          case rel => exact ⟨(x5_2 ++ (rdOf ByteArray.empty t460 x21_2)), (wrap64 (x21_2 + 1)), (by first | rfl | (simp; done) | (simp [*]; done)), (by first | rfl | (simp; done) | (simp [*]; done)), H', ⟨by have := HJ2.out; have := HK2.out; omega⟩, ⟨by (with_reducible repeat (first | apply Kd.R_alloc | apply Kd.R_drewN | apply Kd.R_drew)); exact HO_4.out⟩, ⟨by repeat (first | (with_reducible first | exact HB.out | apply below_alloc | apply pw_below_drewN | apply below_drew1) | exact HB.out)⟩⟩
                        · rw [if_neg c24] at H
                          exact absurd H (by simp)
                · rw [if_neg c12] at H
                  exact absurd H (by simp)
              · rw [if_neg c11] at H
                exact absurd H (by simp)
            · rw [if_neg c10] at H
              have c10b0 : decide (x21_2 < (t460.length : Int)) = false := decide_eq_false c10
              clear c10
              by_cases c25 : t459 = true
              · subst c25
                have H1 : (some (x5_2.toList == a0.toList)) = some r := by rw [if_pos rfl] at H; exact H
                clear H
                have H := H1
                clear H1
                obtain rfl := Option.some.inj H
                go_wp2
                go_ret
                exact ⟨by first | rfl | (simp [errW_none, errW_some] <;> rfl) | (simp [*, errW_none, errW_some] <;> rfl), by repeat (first | (with_reducible first | exact HB.out | apply below_alloc | apply pw_below_drewN | apply below_drew1) | exact HB.out)⟩
              · replace c25 := Bool.eq_false_iff.mpr c25
                subst c25
                have H1 : (some false) = some r := by rw [if_neg (show ¬ (false = true) by decide)] at H; exact H
                clear H
                have H := H1
                clear H1
                obtain rfl := Option.some.inj H
                go_wp2
                go_ret
                exact ⟨by first | rfl | (simp [errW_none, errW_some] <;> rfl) | (simp [*, errW_none, errW_some] <;> rfl), by repeat (first | (with_reducible first | exact HB.out | apply below_alloc | apply pw_below_drewN | apply below_drew1) | exact HB.out)⟩

/-- THE ONE PURE STATEMENT of regletlaw18_EditLines: yours. -/
def regletlaw18_EditLines.Pure : Prop := ∀ (a0 : ByteArray), a0.size ≤ 140737488351232 → ∃ k, regletlaw18_EditLines.f k a0 = some true
theorem regletlaw18_EditLines.walk (P : regletlaw18_EditLines.Pure) (a0 : ByteArray) (w : World) (w0 : a0.size ≤ 140737488351232) :
    Calls Try.prog 13 #[.string a0] w fun e w' => e = .returned (.bool true) ∧ Below w.heap.size w w' := by
  obtain ⟨k, h⟩ := P a0 w0
  refine (regletlaw18_EditLines.calls k a0 true w h).mono ?_
  rintro e w' ⟨rfl, hd⟩
  exact ⟨rfl, hd⟩

end Go.Proofs.Ytmecmmpgkcileaa.Z
