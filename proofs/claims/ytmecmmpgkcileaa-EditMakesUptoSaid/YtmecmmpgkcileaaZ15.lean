/- Written by a program out of the translation; Lean checks it. -/
import Derived.Test.YtmecmmpgkcileaaZ0
import Derived.Test.YtmecmmpgkcileaaZ9
import Derived.Test.YtmecmmpgkcileaaZ10
import Derived.Test.YtmecmmpgkcileaaZ12
import Derived.Test.YtmecmmpgkcileaaGApply
import Derived.Test.YtmecmmpgkcileaaGBetween
namespace Go.Proofs.Ytmecmmpgkcileaa.Z
open Go.RowKit Go.Proofs.YtmecmmpgkcileaaW.PrintWords Go.Proofs.YtmecmmpgkcileaaW.PrintLast Go.Proofs.YtmecmmpgkcileaaW.PrintMore
attribute [local go_sem] max2_int min2_int max_two min_two max_three min_three max_four min_four   -- for this text's walks alone
set_option linter.unusedVariables false
set_option linter.unusedSimpArgs false

/-! ### regletlaw18_EditMakes: function 7 -/
mutual
def regletlaw18_EditMakes.j0 : Nat → ByteArray → ByteArray → List (S33) → Bool → Bool → Option (Bool)
  | 0, _, _, _, _, _ => none
  | k + 1, x0, x1, x2, x7, x41 => if x41 = true then (some x7) else ((edit_Between.f x0 x1).bind fun bt417 => ((edit_Apply.f x0 bt417.1).bind fun bt421 => ((edit_Back.f k x0 bt417.1).bind fun bt423 => ((edit_Apply.f x1 bt423.1).bind fun bt427 => ((edit_Size.f k x0 bt417.1).bind fun bt429 => (if bt417.2 = 0 then (if bt421.2 = 0 then (if bt423.2 = 0 then (if bt427.2 = 0 then (if bt429.2.2 = 0 then (if bt421.1.toList = x1.toList then (if bt427.1.toList = x0.toList then (if x0.toList = x1.toList then (regletlaw18_EditMakes.j1 k x0 x1 x2 x7 bt429.1 bt429.2.1 (decide ((bt417.1.length : Int) > 0))) else (regletlaw18_EditMakes.j1 k x0 x1 x2 x7 bt429.1 bt429.2.1 false)) else (regletlaw18_EditMakes.j1 k x0 x1 x2 x7 bt429.1 bt429.2.1 true)) else (regletlaw18_EditMakes.j1 k x0 x1 x2 x7 bt429.1 bt429.2.1 true)) else (regletlaw18_EditMakes.j1 k x0 x1 x2 x7 bt429.1 bt429.2.1 true)) else (regletlaw18_EditMakes.j1 k x0 x1 x2 x7 bt429.1 bt429.2.1 true)) else (regletlaw18_EditMakes.j1 k x0 x1 x2 x7 bt429.1 bt429.2.1 true)) else (regletlaw18_EditMakes.j1 k x0 x1 x2 x7 bt429.1 bt429.2.1 true)) else (regletlaw18_EditMakes.j1 k x0 x1 x2 x7 bt429.1 bt429.2.1 true)))))))
def regletlaw18_EditMakes.j1 : Nat → ByteArray → ByteArray → List (S33) → Bool → Int → Int → Bool → Option (Bool)
  | 0, _, _, _, _, _, _, _ => none
  | k + 1, x0, x1, x2, x7, x16, x17, x111 => if x111 = true then (some false) else ((edit_Apply.f x0 x2).bind fun bt432 => ((edit_Size.f k x0 x2).bind fun bt434 => (if x7 = true then (if bt432.2 = 0 then (if bt434.2.2 = 0 then (if bt432.1.toList = x1.toList then (some (decide ((wrap64 (x16 + x17)) ≤ (wrap64 (bt434.1 + bt434.2.1))))) else (some true)) else (some true)) else (some true)) else (some false))))
end
def regletlaw18_EditMakes.f (k : Nat) (a0 : ByteArray) (a1 : ByteArray) (l2 : List (S33)) : Option (Bool) := (regletlaw18_alive.f).bind fun t416 => (if (a0.size : Int) > 1000 then (regletlaw18_EditMakes.j0 k a0 a1 l2 t416 true) else (if (a1.size : Int) > 1000 then (regletlaw18_EditMakes.j0 k a0 a1 l2 t416 true) else (if (l2.length : Int) > 50 then (regletlaw18_EditMakes.j0 k a0 a1 l2 t416 true) else (regletlaw18_EditMakes.j0 k a0 a1 l2 t416 (!t416)))))
theorem regletlaw18_EditMakes.mono_l : ∀ k, (∀ y0 y1 y2 y3 y4, LeO (regletlaw18_EditMakes.j0 k y0 y1 y2 y3 y4) (regletlaw18_EditMakes.j0 (k + 1) y0 y1 y2 y3 y4)) ∧ (∀ y0 y1 y2 y3 y4 y5 y6, LeO (regletlaw18_EditMakes.j1 k y0 y1 y2 y3 y4 y5 y6) (regletlaw18_EditMakes.j1 (k + 1) y0 y1 y2 y3 y4 y5 y6))
  | 0 => ⟨fun _ _ _ _ _ r h => by simp [regletlaw18_EditMakes.j0] at h, fun _ _ _ _ _ _ _ r h => by simp [regletlaw18_EditMakes.j1] at h⟩
  | k + 1 => by
    obtain ⟨ih0, ih1⟩ := regletlaw18_EditMakes.mono_l k
    refine ⟨?_, ?_⟩
    · intro y0 y1 y2 y3 y4
      unfold regletlaw18_EditMakes.j0
      repeat' first
      | (with_reducible exact ih0 _ _ _ _ _)
      | (with_reducible exact ih1 _ _ _ _ _ _ _)
      | (with_reducible exact edit_Back.mono _ _ _)
      | (with_reducible exact edit_Size.mono _ _ _)
      | (with_reducible exact LeO.refl _)
      | (with_reducible exact LeO.none _)
      | (with_reducible refine LeO.ite ?_ ?_)
      | (with_reducible refine LeO.bind ?_ (fun _ => ?_))
      | exact ih0 _ _ _ _ _
      | exact ih1 _ _ _ _ _ _ _
      | exact edit_Back.mono _ _ _
      | exact edit_Size.mono _ _ _
      | exact LeO.none _
      | refine LeO.ite ?_ ?_
      | refine LeO.bind ?_ (fun _ => ?_)
    · intro y0 y1 y2 y3 y4 y5 y6
      unfold regletlaw18_EditMakes.j1
      repeat' first
      | (with_reducible exact ih0 _ _ _ _ _)
      | (with_reducible exact ih1 _ _ _ _ _ _ _)
      | (with_reducible exact edit_Back.mono _ _ _)
      | (with_reducible exact edit_Size.mono _ _ _)
      | (with_reducible exact LeO.refl _)
      | (with_reducible exact LeO.none _)
      | (with_reducible refine LeO.ite ?_ ?_)
      | (with_reducible refine LeO.bind ?_ (fun _ => ?_))
      | exact ih0 _ _ _ _ _
      | exact ih1 _ _ _ _ _ _ _
      | exact edit_Back.mono _ _ _
      | exact edit_Size.mono _ _ _
      | exact LeO.none _
      | refine LeO.ite ?_ ?_
      | refine LeO.bind ?_ (fun _ => ?_)
theorem regletlaw18_EditMakes.mono : ∀ a0 a1 a2 k, LeO (regletlaw18_EditMakes.f k a0 a1 a2) (regletlaw18_EditMakes.f (k + 1) a0 a1 a2) := by
  intro a0 a1 a2 k
  obtain ⟨ih0, ih1⟩ := regletlaw18_EditMakes.mono_l k
  unfold regletlaw18_EditMakes.f
  repeat' first
      | (with_reducible exact ih0 _ _ _ _ _)
      | (with_reducible exact ih1 _ _ _ _ _ _ _)
      | (with_reducible exact edit_Back.mono _ _ _)
      | (with_reducible exact edit_Size.mono _ _ _)
      | (with_reducible exact LeO.refl _)
      | (with_reducible exact LeO.none _)
      | (with_reducible refine LeO.ite ?_ ?_)
      | (with_reducible refine LeO.bind ?_ (fun _ => ?_))
      | exact ih0 _ _ _ _ _
      | exact ih1 _ _ _ _ _ _ _
      | exact edit_Back.mono _ _ _
      | exact edit_Size.mono _ _ _
      | exact LeO.none _
      | refine LeO.ite ?_ ?_
      | refine LeO.bind ?_ (fun _ => ?_)
set_option maxHeartbeats 8000000 in
set_option maxRecDepth 100000 in
theorem regletlaw18_EditMakes.calls (k : Nat) (a0 : ByteArray) (a1 : ByteArray) (A2 : Option Addr) (c2 : Nat) (l2 : List (S33)) (r : Bool) (w : World) (hr2 : Kd.C k33 w A2 l2.length l2) (hc2 : l2.length ≤ c2) (h : regletlaw18_EditMakes.f k a0 a1 l2 = some r) :
    Calls Try.prog 7 #[.string a0, .string a1, .slice A2 l2.length c2] w fun e w' => e = .returned (.bool r) ∧ Below w.heap.size w w' := by
  have HR2 := Aside0.mk hr2
  have HC2 := Aside0.mk hc2
  clear hr2 hc2
  have HB := Aside0.mk (Below.refl w.heap.size w)
  have H : ((regletlaw18_alive.f).bind fun t416 => (if (a0.size : Int) > 1000 then (regletlaw18_EditMakes.j0 k a0 a1 l2 t416 true) else (if (a1.size : Int) > 1000 then (regletlaw18_EditMakes.j0 k a0 a1 l2 t416 true) else (if (l2.length : Int) > 50 then (regletlaw18_EditMakes.j0 k a0 a1 l2 t416 true) else (regletlaw18_EditMakes.j0 k a0 a1 l2 t416 (!t416)))))) = some r := h
  clear h
  replace H := Option.bind_eq_some_iff.mp H
  obtain ⟨t416, A40, H⟩ := H
  replace H : (if (a0.size : Int) > 1000 then (regletlaw18_EditMakes.j0 k a0 a1 l2 t416 true) else (if (a1.size : Int) > 1000 then (regletlaw18_EditMakes.j0 k a0 a1 l2 t416 true) else (if (l2.length : Int) > 50 then (regletlaw18_EditMakes.j0 k a0 a1 l2 t416 true) else (regletlaw18_EditMakes.j0 k a0 a1 l2 t416 (!t416))))) = some r := H
  have A4 := Aside0.mk A40
  clear A40
  have HC5 := Aside0.mk H
  clear H
  go_enter Try.func7, Try.ntmps7
  go_upto_region 2 with (first | ((with_reducible refine gate_callee (f := 28) rfl ?_); refine goesL_ (some 24) rfl rfl Try.func28 (by kernel_rfl) rfl #[] rfl (by (try simp only [List.map_toArray, List.map_cons, List.map_nil]); first | done | rfl | (simp only [List.length_drop, List.length_take]; rfl)) ?_; (with_reducible refine (regletlaw18_alive.calls  t416 _ A4.out).mono ?_); rintro e w6 ⟨rfl, hb⟩; refine ⟨_, rfl, ?_⟩; have n0_ := Aside0.mk (below_step (by repeat (first | (with_reducible first | exact HB.out | apply below_alloc | apply pw_below_drewN | apply below_drew1) | exact HB.out)) hb); clear HB; have HB := n0_; clear n0_; (try clear hb); (try clear hb2); (try clear hk); (try clear hi)))
  (try simp only [Act.put, List.setIfInBounds_toArray, List.set_cons_zero, List.set_cons_succ])
  go_cut [41] (fun v41 wc => ∃ (kq : Nat) (x41_4 : Bool), v41 = .bool x41_4 ∧ Aside0 (regletlaw18_EditMakes.j0 kq a0 a1 l2 t416 x41_4 = some r) ∧ Aside0 (kq ≤ k) ∧ Aside0 (Below w.heap.size w wc))
  case first =>
    have H := HC5.out
    clear HC5
    by_cases c7 : (a0.size : Int) > 1000
    · rw [if_pos c7] at H
      have c7b0 : decide (1000 < (a0.size : Int)) = true := decide_eq_true c7
      have c7b1 : decide (1000 < a0.size) = true := decide_eq_true (by omega)
      clear c7
      (first | rw [c7b0] | (simp only [i64_w, i32_w]; rw [c7b0]) | skip)
      have H' := Aside0.mk H
      clear H
      go_wp2
      go_meet
      case rel => exact ⟨_, (true), (by first | rfl | (simp; done) | (simp [*]; done)), H', ⟨by first | omega | exact Nat.le_refl _⟩, ⟨by repeat (first | (with_reducible first | exact HB.out | apply below_alloc | apply pw_below_drewN | apply below_drew1) | exact HB.out)⟩⟩
    · rw [if_neg c7] at H
      have c7b0 : decide (1000 < (a0.size : Int)) = false := decide_eq_false c7
      have c7b1 : decide (1000 < a0.size) = false := decide_eq_false (by omega)
      clear c7
      (first | rw [c7b0] | (simp only [i64_w, i32_w]; rw [c7b0]) | skip)
      by_cases c8 : (a1.size : Int) > 1000
      · rw [if_pos c8] at H
        have c8b0 : decide (1000 < (a1.size : Int)) = true := decide_eq_true c8
        have c8b1 : decide (1000 < a1.size) = true := decide_eq_true (by omega)
        clear c8
        have H' := Aside0.mk H
        clear H
        go_wp2
        go_meet
        case rel => exact ⟨_, (true), (by first | rfl | (simp; done) | (simp [*]; done)), H', ⟨by first | omega | exact Nat.le_refl _⟩, ⟨by repeat (first | (with_reducible first | exact HB.out | apply below_alloc | apply pw_below_drewN | apply below_drew1) | exact HB.out)⟩⟩
      · rw [if_neg c8] at H
        have c8b0 : decide (1000 < (a1.size : Int)) = false := decide_eq_false c8
        have c8b1 : decide (1000 < a1.size) = false := decide_eq_false (by omega)
        clear c8
        by_cases c9 : (l2.length : Int) > 50
        · rw [if_pos c9] at H
          have c9b0 : decide (50 < (l2.length : Int)) = true := decide_eq_true c9
          have c9b1 : decide (50 < l2.length) = true := decide_eq_true (by omega)
          clear c9
          have H' := Aside0.mk H
          clear H
          go_wp2
          go_meet
          case rel => exact ⟨_, (true), (by first | rfl | (simp; done) | (simp [*]; done)), H', ⟨by first | omega | exact Nat.le_refl _⟩, ⟨by repeat (first | (with_reducible first | exact HB.out | apply below_alloc | apply pw_below_drewN | apply below_drew1) | exact HB.out)⟩⟩
        · rw [if_neg c9] at H
          have c9b0 : decide (50 < (l2.length : Int)) = false := decide_eq_false c9
          have c9b1 : decide (50 < l2.length) = false := decide_eq_false (by omega)
          clear c9
          have H' := Aside0.mk H
          clear H
          go_wp2
          go_meet
          case rel => exact ⟨_, (!t416), (by first | rfl | (simp; done) | (simp [*]; done)), H', ⟨by first | omega | exact Nat.le_refl _⟩, ⟨by repeat (first | (with_reducible first | exact HB.out | apply below_alloc | apply pw_below_drewN | apply below_drew1) | exact HB.out)⟩⟩
  case rest =>
    clear HC5
    try clear c2
    try clear p2
    try clear c7
    try clear c7b0
    try clear c7b1
    try clear c8
    try clear c8b0
    try clear c8b1
    try clear c9
    try clear c9b0
    try clear c9b1
    obtain ⟨kq, x41_4, rfl, HA, HJ4, HB⟩ := hcut
    cases kq with
    | zero => exact absurd HA.out (by simp [regletlaw18_EditMakes.j0])
    | succ kj4 =>
      have H := HA.out
      clear HA
      simp only [regletlaw18_EditMakes.j0] at H
      by_cases c10 : x41_4 = true
      · subst c10
        have H1 : (some t416) = some r := by rw [if_pos rfl] at H; exact H
        clear H
        have H := H1
        clear H1
        obtain rfl := Option.some.inj H
        go_wp2
        go_ret
        exact ⟨by first | rfl | (simp [errW_none, errW_some] <;> rfl) | (simp [*, errW_none, errW_some] <;> rfl), by repeat (first | (with_reducible first | exact HB.out | apply below_alloc | apply pw_below_drewN | apply below_drew1) | exact HB.out)⟩
      · replace c10 := Bool.eq_false_iff.mpr c10
        subst c10
        have H1 : ((edit_Between.f a0 a1).bind fun bt417 => ((edit_Apply.f a0 bt417.1).bind fun bt421 => ((edit_Back.f kj4 a0 bt417.1).bind fun bt423 => ((edit_Apply.f a1 bt423.1).bind fun bt427 => ((edit_Size.f kj4 a0 bt417.1).bind fun bt429 => (if bt417.2 = 0 then (if bt421.2 = 0 then (if bt423.2 = 0 then (if bt427.2 = 0 then (if bt429.2.2 = 0 then (if bt421.1.toList = a1.toList then (if bt427.1.toList = a0.toList then (if a0.toList = a1.toList then (regletlaw18_EditMakes.j1 kj4 a0 a1 l2 t416 bt429.1 bt429.2.1 (decide ((bt417.1.length : Int) > 0))) else (regletlaw18_EditMakes.j1 kj4 a0 a1 l2 t416 bt429.1 bt429.2.1 false)) else (regletlaw18_EditMakes.j1 kj4 a0 a1 l2 t416 bt429.1 bt429.2.1 true)) else (regletlaw18_EditMakes.j1 kj4 a0 a1 l2 t416 bt429.1 bt429.2.1 true)) else (regletlaw18_EditMakes.j1 kj4 a0 a1 l2 t416 bt429.1 bt429.2.1 true)) else (regletlaw18_EditMakes.j1 kj4 a0 a1 l2 t416 bt429.1 bt429.2.1 true)) else (regletlaw18_EditMakes.j1 kj4 a0 a1 l2 t416 bt429.1 bt429.2.1 true)) else (regletlaw18_EditMakes.j1 kj4 a0 a1 l2 t416 bt429.1 bt429.2.1 true)) else (regletlaw18_EditMakes.j1 kj4 a0 a1 l2 t416 bt429.1 bt429.2.1 true))))))) = some r := by rw [if_neg (show ¬ (false = true) by decide)] at H; exact H
        clear H
        have H := H1
        clear H1
        replace H := Option.bind_eq_some_iff.mp H
        obtain ⟨⟨t417, t418⟩, A110, H⟩ := H
        replace H : ((edit_Apply.f a0 t417).bind fun bt421 => ((edit_Back.f kj4 a0 t417).bind fun bt423 => ((edit_Apply.f a1 bt423.1).bind fun bt427 => ((edit_Size.f kj4 a0 t417).bind fun bt429 => (if t418 = 0 then (if bt421.2 = 0 then (if bt423.2 = 0 then (if bt427.2 = 0 then (if bt429.2.2 = 0 then (if bt421.1.toList = a1.toList then (if bt427.1.toList = a0.toList then (if a0.toList = a1.toList then (regletlaw18_EditMakes.j1 kj4 a0 a1 l2 t416 bt429.1 bt429.2.1 (decide ((t417.length : Int) > 0))) else (regletlaw18_EditMakes.j1 kj4 a0 a1 l2 t416 bt429.1 bt429.2.1 false)) else (regletlaw18_EditMakes.j1 kj4 a0 a1 l2 t416 bt429.1 bt429.2.1 true)) else (regletlaw18_EditMakes.j1 kj4 a0 a1 l2 t416 bt429.1 bt429.2.1 true)) else (regletlaw18_EditMakes.j1 kj4 a0 a1 l2 t416 bt429.1 bt429.2.1 true)) else (regletlaw18_EditMakes.j1 kj4 a0 a1 l2 t416 bt429.1 bt429.2.1 true)) else (regletlaw18_EditMakes.j1 kj4 a0 a1 l2 t416 bt429.1 bt429.2.1 true)) else (regletlaw18_EditMakes.j1 kj4 a0 a1 l2 t416 bt429.1 bt429.2.1 true)) else (regletlaw18_EditMakes.j1 kj4 a0 a1 l2 t416 bt429.1 bt429.2.1 true)))))) = some r := H
        have A11 := Aside0.mk A110
        clear A110
        replace H := Option.bind_eq_some_iff.mp H
        obtain ⟨⟨t421, t422⟩, A120, H⟩ := H
        replace H : ((edit_Back.f kj4 a0 t417).bind fun bt423 => ((edit_Apply.f a1 bt423.1).bind fun bt427 => ((edit_Size.f kj4 a0 t417).bind fun bt429 => (if t418 = 0 then (if t422 = 0 then (if bt423.2 = 0 then (if bt427.2 = 0 then (if bt429.2.2 = 0 then (if t421.toList = a1.toList then (if bt427.1.toList = a0.toList then (if a0.toList = a1.toList then (regletlaw18_EditMakes.j1 kj4 a0 a1 l2 t416 bt429.1 bt429.2.1 (decide ((t417.length : Int) > 0))) else (regletlaw18_EditMakes.j1 kj4 a0 a1 l2 t416 bt429.1 bt429.2.1 false)) else (regletlaw18_EditMakes.j1 kj4 a0 a1 l2 t416 bt429.1 bt429.2.1 true)) else (regletlaw18_EditMakes.j1 kj4 a0 a1 l2 t416 bt429.1 bt429.2.1 true)) else (regletlaw18_EditMakes.j1 kj4 a0 a1 l2 t416 bt429.1 bt429.2.1 true)) else (regletlaw18_EditMakes.j1 kj4 a0 a1 l2 t416 bt429.1 bt429.2.1 true)) else (regletlaw18_EditMakes.j1 kj4 a0 a1 l2 t416 bt429.1 bt429.2.1 true)) else (regletlaw18_EditMakes.j1 kj4 a0 a1 l2 t416 bt429.1 bt429.2.1 true)) else (regletlaw18_EditMakes.j1 kj4 a0 a1 l2 t416 bt429.1 bt429.2.1 true))))) = some r := H
        have A12 := Aside0.mk A120
        clear A120
        replace H := Option.bind_eq_some_iff.mp H
        obtain ⟨⟨t423, t424⟩, A130, H⟩ := H
        replace H : ((edit_Apply.f a1 t423).bind fun bt427 => ((edit_Size.f kj4 a0 t417).bind fun bt429 => (if t418 = 0 then (if t422 = 0 then (if t424 = 0 then (if bt427.2 = 0 then (if bt429.2.2 = 0 then (if t421.toList = a1.toList then (if bt427.1.toList = a0.toList then (if a0.toList = a1.toList then (regletlaw18_EditMakes.j1 kj4 a0 a1 l2 t416 bt429.1 bt429.2.1 (decide ((t417.length : Int) > 0))) else (regletlaw18_EditMakes.j1 kj4 a0 a1 l2 t416 bt429.1 bt429.2.1 false)) else (regletlaw18_EditMakes.j1 kj4 a0 a1 l2 t416 bt429.1 bt429.2.1 true)) else (regletlaw18_EditMakes.j1 kj4 a0 a1 l2 t416 bt429.1 bt429.2.1 true)) else (regletlaw18_EditMakes.j1 kj4 a0 a1 l2 t416 bt429.1 bt429.2.1 true)) else (regletlaw18_EditMakes.j1 kj4 a0 a1 l2 t416 bt429.1 bt429.2.1 true)) else (regletlaw18_EditMakes.j1 kj4 a0 a1 l2 t416 bt429.1 bt429.2.1 true)) else (regletlaw18_EditMakes.j1 kj4 a0 a1 l2 t416 bt429.1 bt429.2.1 true)) else (regletlaw18_EditMakes.j1 kj4 a0 a1 l2 t416 bt429.1 bt429.2.1 true)))) = some r := H
        have A13 := Aside0.mk A130
        clear A130
        replace H := Option.bind_eq_some_iff.mp H
        obtain ⟨⟨t427, t428⟩, A140, H⟩ := H
        replace H : ((edit_Size.f kj4 a0 t417).bind fun bt429 => (if t418 = 0 then (if t422 = 0 then (if t424 = 0 then (if t428 = 0 then (if bt429.2.2 = 0 then (if t421.toList = a1.toList then (if t427.toList = a0.toList then (if a0.toList = a1.toList then (regletlaw18_EditMakes.j1 kj4 a0 a1 l2 t416 bt429.1 bt429.2.1 (decide ((t417.length : Int) > 0))) else (regletlaw18_EditMakes.j1 kj4 a0 a1 l2 t416 bt429.1 bt429.2.1 false)) else (regletlaw18_EditMakes.j1 kj4 a0 a1 l2 t416 bt429.1 bt429.2.1 true)) else (regletlaw18_EditMakes.j1 kj4 a0 a1 l2 t416 bt429.1 bt429.2.1 true)) else (regletlaw18_EditMakes.j1 kj4 a0 a1 l2 t416 bt429.1 bt429.2.1 true)) else (regletlaw18_EditMakes.j1 kj4 a0 a1 l2 t416 bt429.1 bt429.2.1 true)) else (regletlaw18_EditMakes.j1 kj4 a0 a1 l2 t416 bt429.1 bt429.2.1 true)) else (regletlaw18_EditMakes.j1 kj4 a0 a1 l2 t416 bt429.1 bt429.2.1 true)) else (regletlaw18_EditMakes.j1 kj4 a0 a1 l2 t416 bt429.1 bt429.2.1 true))) = some r := H
        have A14 := Aside0.mk A140
        clear A140
        replace H := Option.bind_eq_some_iff.mp H
        obtain ⟨⟨t429, t430, t431⟩, A150, H⟩ := H
        replace H : (if t418 = 0 then (if t422 = 0 then (if t424 = 0 then (if t428 = 0 then (if t431 = 0 then (if t421.toList = a1.toList then (if t427.toList = a0.toList then (if a0.toList = a1.toList then (regletlaw18_EditMakes.j1 kj4 a0 a1 l2 t416 t429 t430 (decide ((t417.length : Int) > 0))) else (regletlaw18_EditMakes.j1 kj4 a0 a1 l2 t416 t429 t430 false)) else (regletlaw18_EditMakes.j1 kj4 a0 a1 l2 t416 t429 t430 true)) else (regletlaw18_EditMakes.j1 kj4 a0 a1 l2 t416 t429 t430 true)) else (regletlaw18_EditMakes.j1 kj4 a0 a1 l2 t416 t429 t430 true)) else (regletlaw18_EditMakes.j1 kj4 a0 a1 l2 t416 t429 t430 true)) else (regletlaw18_EditMakes.j1 kj4 a0 a1 l2 t416 t429 t430 true)) else (regletlaw18_EditMakes.j1 kj4 a0 a1 l2 t416 t429 t430 true)) else (regletlaw18_EditMakes.j1 kj4 a0 a1 l2 t416 t429 t430 true)) = some r := H
        have A15 := Aside0.mk A150
        clear A150
        have HC16 := Aside0.mk H
        clear H
        go_upto_region 9 with (first | ((with_reducible refine gate_callee (f := 19) rfl ?_); refine goesL_ (some 46) rfl rfl Try.func19 (by kernel_rfl) rfl #[.string a0, .string a1] rfl (by (try simp only [List.map_toArray, List.map_cons, List.map_nil]); first | done | rfl | (simp only [List.length_drop, List.length_take]; rfl)) ?_; (with_reducible refine (edit_Between.calls a0 a1 t417 t418 _ A11.out).mono ?_); rintro e w17 ⟨v419, rfl, ho0, hb⟩; refine ⟨_, rfl, ?_⟩; have n0_ := Aside0.mk (Kd.R_lower ho0 (below_size (by repeat (first | (with_reducible first | exact HB.out | apply below_alloc | apply pw_below_drewN | apply below_drew1) | exact HB.out)))); have n1_ := Aside0.mk (below_step (by repeat (first | (with_reducible first | exact HB.out | apply below_alloc | apply pw_below_drewN | apply below_drew1) | exact HB.out)) hb); clear HB; have HO420 := n0_; have HB := n1_; clear n0_ n1_; (try clear hb); (try clear hb2); (try clear hk); (try clear hi); (try clear ho0); obtain ⟨Ao18, co18, eo18⟩ := Kd.R_slice HO420.out; subst eo18) | ((with_reducible refine gate_callee (f := 22) rfl ?_); refine goesL_ (some 52) rfl rfl Try.func22 (by kernel_rfl) rfl #[.string a0, .slice Ao18 t417.length co18] rfl (by (try simp only [List.map_toArray, List.map_cons, List.map_nil]); first | done | rfl | (simp only [List.length_drop, List.length_take]; rfl)) ?_; (with_reducible refine (edit_Apply.calls a0 _ _ t417 t421 t422 _ ?side1 ?side2 A12.out).mono ?_); (case side1 => repeat (first | exact (Kd.R_reads' HO420.out).2.2 | (with_reducible refine Kd.C_alloc ?_ _) | (with_reducible refine Kd.C_drewN ?_ _) | (with_reducible refine Kd.C_drew ?_))); (case side2 => exact (Kd.R_reads' HO420.out).2.1); rintro e w19 ⟨rfl, hb⟩; refine ⟨_, rfl, ?_⟩; have n0_ := Aside0.mk (Kd.R_below (by (with_reducible repeat (first | apply Kd.R_alloc | apply Kd.R_drewN | apply Kd.R_drew)); exact HO420.out) hb); have n1_ := Aside0.mk (below_step (by repeat (first | (with_reducible first | exact HB.out | apply below_alloc | apply pw_below_drewN | apply below_drew1) | exact HB.out)) hb); clear HO420; clear HB; have HO420 := n0_; have HB := n1_; clear n0_ n1_; (try clear hb); (try clear hb2); (try clear hk); (try clear hi)) | ((with_reducible refine gate_callee (f := 24) rfl ?_); refine goesL_ (some 58) rfl rfl Try.func24 (by kernel_rfl) rfl #[.string a0, .slice Ao18 t417.length co18] rfl (by (try simp only [List.map_toArray, List.map_cons, List.map_nil]); first | done | rfl | (simp only [List.length_drop, List.length_take]; rfl)) ?_; (with_reducible refine (edit_Back.calls kj4 a0 _ _ t417 t423 t424 _ ?side1 ?side2 A13.out).mono ?_); (case side1 => repeat (first | exact (Kd.R_reads' HO420.out).2.2 | (with_reducible refine Kd.C_alloc ?_ _) | (with_reducible refine Kd.C_drewN ?_ _) | (with_reducible refine Kd.C_drew ?_))); (case side2 => exact (Kd.R_reads' HO420.out).2.1); rintro e w20 ⟨v425, rfl, ho0, hb⟩; refine ⟨_, rfl, ?_⟩; have n0_ := Aside0.mk (Kd.R_elder' (by (with_reducible repeat (first | apply Kd.R_alloc | apply Kd.R_drewN | apply Kd.R_drew)); exact HO420.out) (Kd.R_base ho0) hb); have n1_ := Aside0.mk (Kd.R_lower (Kd.R_new' ho0 (Kd.R_lt (by (with_reducible repeat (first | apply Kd.R_alloc | apply Kd.R_drewN | apply Kd.R_drew)); exact HO420.out))) (below_size (by repeat (first | (with_reducible first | exact HB.out | apply below_alloc | apply pw_below_drewN | apply below_drew1) | exact HB.out)))); have n2_ := Aside0.mk (below_step (by repeat (first | (with_reducible first | exact HB.out | apply below_alloc | apply pw_below_drewN | apply below_drew1) | exact HB.out)) hb); clear HO420; clear HB; have HO420 := n0_; have HO426 := n1_; have HB := n2_; clear n0_ n1_ n2_; (try clear hb); (try clear hb2); (try clear hk); (try clear hi); (try clear ho0); obtain ⟨Ao21, co21, eo21⟩ := Kd.R_slice HO426.out; subst eo21) | ((with_reducible refine gate_callee (f := 22) rfl ?_); refine goesL_ (some 64) rfl rfl Try.func22 (by kernel_rfl) rfl #[.string a1, .slice Ao21 t423.length co21] rfl (by (try simp only [List.map_toArray, List.map_cons, List.map_nil]); first | done | rfl | (simp only [List.length_drop, List.length_take]; rfl)) ?_; (with_reducible refine (edit_Apply.calls a1 _ _ t423 t427 t428 _ ?side1 ?side2 A14.out).mono ?_); (case side1 => repeat (first | exact (Kd.R_reads' HO426.out).2.2 | (with_reducible refine Kd.C_alloc ?_ _) | (with_reducible refine Kd.C_drewN ?_ _) | (with_reducible refine Kd.C_drew ?_))); (case side2 => exact (Kd.R_reads' HO426.out).2.1); rintro e w22 ⟨rfl, hb⟩; refine ⟨_, rfl, ?_⟩; have n0_ := Aside0.mk (Kd.R_below (by (with_reducible repeat (first | apply Kd.R_alloc | apply Kd.R_drewN | apply Kd.R_drew)); exact HO420.out) hb); have n1_ := Aside0.mk (Kd.R_below (by (with_reducible repeat (first | apply Kd.R_alloc | apply Kd.R_drewN | apply Kd.R_drew)); exact HO426.out) hb); have n2_ := Aside0.mk (below_step (by repeat (first | (with_reducible first | exact HB.out | apply below_alloc | apply pw_below_drewN | apply below_drew1) | exact HB.out)) hb); clear HO420; clear HO426; clear HB; have HO420 := n0_; have HO426 := n1_; have HB := n2_; clear n0_ n1_ n2_; (try clear hb); (try clear hb2); (try clear hk); (try clear hi)) | ((with_reducible refine gate_callee (f := 26) rfl ?_); refine goesL_ (some 70) rfl rfl Try.func26 (by kernel_rfl) rfl #[.string a0, .slice Ao18 t417.length co18] rfl (by (try simp only [List.map_toArray, List.map_cons, List.map_nil]); first | done | rfl | (simp only [List.length_drop, List.length_take]; rfl)) ?_; (with_reducible refine (edit_Size.calls kj4 a0 _ _ t417 t429 t430 t431 _ ?side1 ?side2 A15.out).mono ?_); (case side1 => repeat (first | exact (Kd.R_reads' HO420.out).2.2 | (with_reducible refine Kd.C_alloc ?_ _) | (with_reducible refine Kd.C_drewN ?_ _) | (with_reducible refine Kd.C_drew ?_))); (case side2 => exact (Kd.R_reads' HO420.out).2.1); rintro e w23 ⟨rfl, hb⟩; refine ⟨_, rfl, ?_⟩; have n0_ := Aside0.mk (Kd.R_below (by (with_reducible repeat (first | apply Kd.R_alloc | apply Kd.R_drewN | apply Kd.R_drew)); exact HO420.out) hb); have n1_ := Aside0.mk (Kd.R_below (by (with_reducible repeat (first | apply Kd.R_alloc | apply Kd.R_drewN | apply Kd.R_drew)); exact HO426.out) hb); have n2_ := Aside0.mk (below_step (by repeat (first | (with_reducible first | exact HB.out | apply below_alloc | apply pw_below_drewN | apply below_drew1) | exact HB.out)) hb); clear HO420; clear HO426; clear HB; have HO420 := n0_; have HO426 := n1_; have HB := n2_; clear n0_ n1_ n2_; (try clear hb); (try clear hb2); (try clear hk); (try clear hi)))
        (try simp only [Act.put, List.setIfInBounds_toArray, List.set_cons_zero, List.set_cons_succ])
        go_cut [111] (fun v111 wc => ∃ (kq : Nat) (x111_15 : Bool), v111 = .bool x111_15 ∧ Aside0 (regletlaw18_EditMakes.j1 kq a0 a1 l2 t416 t429 t430 x111_15 = some r) ∧ Aside0 (kq ≤ kj4) ∧ Aside0 (Below w.heap.size w wc))
        case first =>
          have H := HC16.out
          clear HC16
          by_cases c24 : t418 = 0
          · rw [if_pos c24] at H
            have c24b0 : (t418 == 0) = true := beq_iff_eq.mpr c24
            have c24b1 : (t418 != 0) = false := bne_eq_false_iff_eq.mpr c24
            clear c24
            (first | rw [c24b0] | (simp only [i64_w, i32_w]; rw [c24b0]) | skip)
            by_cases c25 : t422 = 0
            · rw [if_pos c25] at H
              have c25b0 : (t422 == 0) = true := beq_iff_eq.mpr c25
              have c25b1 : (t422 != 0) = false := bne_eq_false_iff_eq.mpr c25
              clear c25
              by_cases c26 : t424 = 0
              · rw [if_pos c26] at H
                have c26b0 : (t424 == 0) = true := beq_iff_eq.mpr c26
                have c26b1 : (t424 != 0) = false := bne_eq_false_iff_eq.mpr c26
                clear c26
                by_cases c27 : t428 = 0
                · rw [if_pos c27] at H
                  have c27b0 : (t428 == 0) = true := beq_iff_eq.mpr c27
                  have c27b1 : (t428 != 0) = false := bne_eq_false_iff_eq.mpr c27
                  clear c27
                  by_cases c28 : t431 = 0
                  · rw [if_pos c28] at H
                    have c28b0 : (t431 == 0) = true := beq_iff_eq.mpr c28
                    have c28b1 : (t431 != 0) = false := bne_eq_false_iff_eq.mpr c28
                    clear c28
                    by_cases c29 : t421.toList = a1.toList
                    · rw [if_pos c29] at H
                      have c29b0 : (t421.toList == a1.toList) = true := beq_iff_eq.mpr c29
                      have c29b1 : (t421.toList != a1.toList) = false := bne_eq_false_iff_eq.mpr c29
                      clear c29
                      by_cases c30 : t427.toList = a0.toList
                      · rw [if_pos c30] at H
                        have c30b0 : (t427.toList == a0.toList) = true := beq_iff_eq.mpr c30
                        have c30b1 : (t427.toList != a0.toList) = false := bne_eq_false_iff_eq.mpr c30
                        clear c30
                        by_cases c31 : a0.toList = a1.toList
                        · rw [if_pos c31] at H
                          have c31b0 : (a0.toList == a1.toList) = true := beq_iff_eq.mpr c31
                          have c31b1 : (a0.toList != a1.toList) = false := bne_eq_false_iff_eq.mpr c31
                          clear c31
                          have H' := Aside0.mk H
                          clear H
                          go_wp2
                          go_meet
                          case rel => exact ⟨_, (decide ((t417.length : Int) > 0)), (by first | rfl | (simp; done) | (simp [*]; done)), H', ⟨by have := HJ4.out; first | omega | exact Nat.le_refl _⟩, ⟨by repeat (first | (with_reducible first | exact HB.out | apply below_alloc | apply pw_below_drewN | apply below_drew1) | exact HB.out)⟩⟩
                        · rw [if_neg c31] at H
                          have c31b0 : (a0.toList == a1.toList) = false := beq_eq_false_iff_ne.mpr c31
                          have c31b1 : (a0.toList != a1.toList) = true := bne_iff_ne.mpr c31
                          have H' := Aside0.mk H
                          clear H
                          go_wp2
                          go_meet
                          case rel => exact ⟨_, (false), (by first | rfl | (simp; done) | (simp [*]; done)), H', ⟨by have := HJ4.out; first | omega | exact Nat.le_refl _⟩, ⟨by repeat (first | (with_reducible first | exact HB.out | apply below_alloc | apply pw_below_drewN | apply below_drew1) | exact HB.out)⟩⟩
                      · rw [if_neg c30] at H
                        have c30b0 : (t427.toList == a0.toList) = false := beq_eq_false_iff_ne.mpr c30
                        have c30b1 : (t427.toList != a0.toList) = true := bne_iff_ne.mpr c30
                        have H' := Aside0.mk H
                        clear H
                        go_wp2
                        go_meet
                        case rel => exact ⟨_, (true), (by first | rfl | (simp; done) | (simp [*]; done)), H', ⟨by have := HJ4.out; first | omega | exact Nat.le_refl _⟩, ⟨by repeat (first | (with_reducible first | exact HB.out | apply below_alloc | apply pw_below_drewN | apply below_drew1) | exact HB.out)⟩⟩
                    · rw [if_neg c29] at H
                      have c29b0 : (t421.toList == a1.toList) = false := beq_eq_false_iff_ne.mpr c29
                      have c29b1 : (t421.toList != a1.toList) = true := bne_iff_ne.mpr c29
                      have H' := Aside0.mk H
                      clear H
                      go_wp2
                      go_meet
                      case rel => exact ⟨_, (true), (by first | rfl | (simp; done) | (simp [*]; done)), H', ⟨by have := HJ4.out; first | omega | exact Nat.le_refl _⟩, ⟨by repeat (first | (with_reducible first | exact HB.out | apply below_alloc | apply pw_below_drewN | apply below_drew1) | exact HB.out)⟩⟩
                  · rw [if_neg c28] at H
                    have c28b0 : (t431 == 0) = false := beq_eq_false_iff_ne.mpr c28
                    have c28b1 : (t431 != 0) = true := bne_iff_ne.mpr c28
                    have H' := Aside0.mk H
                    clear H
                    go_wp2
                    go_meet
                    case rel => exact ⟨_, (true), (by first | rfl | (simp; done) | (simp [*]; done)), H', ⟨by have := HJ4.out; first | omega | exact Nat.le_refl _⟩, ⟨by repeat (first | (with_reducible first | exact HB.out | apply below_alloc | apply pw_below_drewN | apply below_drew1) | exact HB.out)⟩⟩
                · rw [if_neg c27] at H
                  have c27b0 : (t428 == 0) = false := beq_eq_false_iff_ne.mpr c27
                  have c27b1 : (t428 != 0) = true := bne_iff_ne.mpr c27
                  have H' := Aside0.mk H
                  clear H
                  go_wp2
                  go_meet
                  case rel => exact ⟨_, (true), (by first | rfl | (simp; done) | (simp [*]; done)), H', ⟨by have := HJ4.out; first | omega | exact Nat.le_refl _⟩, ⟨by repeat (first | (with_reducible first | exact HB.out | apply below_alloc | apply pw_below_drewN | apply below_drew1) | exact HB.out)⟩⟩
              · rw [if_neg c26] at H
                have c26b0 : (t424 == 0) = false := beq_eq_false_iff_ne.mpr c26
                have c26b1 : (t424 != 0) = true := bne_iff_ne.mpr c26
                have H' := Aside0.mk H
                clear H
                go_wp2
                go_meet
                case rel => exact ⟨_, (true), (by first | rfl | (simp; done) | (simp [*]; done)), H', ⟨by have := HJ4.out; first | omega | exact Nat.le_refl _⟩, ⟨by repeat (first | (with_reducible first | exact HB.out | apply below_alloc | apply pw_below_drewN | apply below_drew1) | exact HB.out)⟩⟩
            · rw [if_neg c25] at H
              have c25b0 : (t422 == 0) = false := beq_eq_false_iff_ne.mpr c25
              have c25b1 : (t422 != 0) = true := bne_iff_ne.mpr c25
              have H' := Aside0.mk H
              clear H
              go_wp2
              go_meet
              case rel => exact ⟨_, (true), (by first | rfl | (simp; done) | (simp [*]; done)), H', ⟨by have := HJ4.out; first | omega | exact Nat.le_refl _⟩, ⟨by repeat (first | (with_reducible first | exact HB.out | apply below_alloc | apply pw_below_drewN | apply below_drew1) | exact HB.out)⟩⟩
          · rw [if_neg c24] at H
            have c24b0 : (t418 == 0) = false := beq_eq_false_iff_ne.mpr c24
            have c24b1 : (t418 != 0) = true := bne_iff_ne.mpr c24
            (first | rw [c24b0] | (simp only [i64_w, i32_w]; rw [c24b0]) | skip)
            have H' := Aside0.mk H
            clear H
            go_wp2
            go_meet
            case rel => exact ⟨_, (true), (by first | rfl | (simp; done) | (simp [*]; done)), H', ⟨by have := HJ4.out; first | omega | exact Nat.le_refl _⟩, ⟨by repeat (first | (with_reducible first | exact HB.out | apply below_alloc | apply pw_below_drewN | apply below_drew1) | exact HB.out)⟩⟩
        case rest =>
          clear HC16
          try clear c1
          try clear c2
          try clear p2
          try clear c3
          try clear c7
          try clear c7b0
          try clear c7b1
          try clear c8
          try clear c8b0
          try clear c8b1
          try clear c9
          try clear c9b0
          try clear c9b1
          try clear c10
          try clear c19
          try clear c22
          try clear c24
          try clear c24b0
          try clear c24b1
          try clear c25
          try clear c25b0
          try clear c25b1
          try clear c26
          try clear c26b0
          try clear c26b1
          try clear c27
          try clear c27b0
          try clear c27b1
          try clear c28
          try clear c28b0
          try clear c28b1
          try clear c29
          try clear c29b0
          try clear c29b1
          try clear c30
          try clear c30b0
          try clear c30b1
          try clear c31
          try clear c31b0
          try clear c31b1
          try clear p2
          obtain ⟨kq, x111_15, rfl, HA, HJ15, HB⟩ := hcut
          cases kq with
          | zero => exact absurd HA.out (by simp [regletlaw18_EditMakes.j1])
          | succ kj15 =>
            have H := HA.out
            clear HA
            simp only [regletlaw18_EditMakes.j1] at H
            by_cases c32 : x111_15 = true
            · subst c32
              have H1 : (some false) = some r := by rw [if_pos rfl] at H; exact H
              clear H
              have H := H1
              clear H1
              obtain rfl := Option.some.inj H
              go_wp2
              go_ret
              exact ⟨by first | rfl | (simp [errW_none, errW_some] <;> rfl) | (simp [*, errW_none, errW_some] <;> rfl), by repeat (first | (with_reducible first | exact HB.out | apply below_alloc | apply pw_below_drewN | apply below_drew1) | exact HB.out)⟩
            · replace c32 := Bool.eq_false_iff.mpr c32
              subst c32
              have H1 : ((edit_Apply.f a0 l2).bind fun bt432 => ((edit_Size.f kj15 a0 l2).bind fun bt434 => (if t416 = true then (if bt432.2 = 0 then (if bt434.2.2 = 0 then (if bt432.1.toList = a1.toList then (some (decide ((wrap64 (t429 + t430)) ≤ (wrap64 (bt434.1 + bt434.2.1))))) else (some true)) else (some true)) else (some true)) else (some false)))) = some r := by rw [if_neg (show ¬ (false = true) by decide)] at H; exact H
              clear H
              have H := H1
              clear H1
              replace H := Option.bind_eq_some_iff.mp H
              obtain ⟨⟨t432, t433⟩, A330, H⟩ := H
              replace H : ((edit_Size.f kj15 a0 l2).bind fun bt434 => (if t416 = true then (if t433 = 0 then (if bt434.2.2 = 0 then (if t432.toList = a1.toList then (some (decide ((wrap64 (t429 + t430)) ≤ (wrap64 (bt434.1 + bt434.2.1))))) else (some true)) else (some true)) else (some true)) else (some false))) = some r := H
              have A33 := Aside0.mk A330
              clear A330
              replace H := Option.bind_eq_some_iff.mp H
              obtain ⟨⟨t434, t435, t436⟩, A340, H⟩ := H
              replace H : (if t416 = true then (if t433 = 0 then (if t436 = 0 then (if t432.toList = a1.toList then (some (decide ((wrap64 (t429 + t430)) ≤ (wrap64 (t434 + t435))))) else (some true)) else (some true)) else (some true)) else (some false)) = some r := H
              have A34 := Aside0.mk A340
              clear A340
              by_cases c35 : t416 = true
              · subst c35
                have H1 : (if t433 = 0 then (if t436 = 0 then (if t432.toList = a1.toList then (some (decide ((wrap64 (t429 + t430)) ≤ (wrap64 (t434 + t435))))) else (some true)) else (some true)) else (some true)) = some r := by rw [if_pos rfl] at H; exact H
                clear H
                have H := H1
                clear H1
                by_cases c36 : t433 = 0
                · rw [if_pos c36] at H
                  have c36b0 : (t433 == 0) = true := beq_iff_eq.mpr c36
                  have c36b1 : (t433 != 0) = false := bne_eq_false_iff_eq.mpr c36
                  clear c36
                  by_cases c37 : t436 = 0
                  · rw [if_pos c37] at H
                    have c37b0 : (t436 == 0) = true := beq_iff_eq.mpr c37
                    have c37b1 : (t436 != 0) = false := bne_eq_false_iff_eq.mpr c37
                    clear c37
                    by_cases c38 : t432.toList = a1.toList
                    · rw [if_pos c38] at H
                      have c38b0 : (t432.toList == a1.toList) = true := beq_iff_eq.mpr c38
                      have c38b1 : (t432.toList != a1.toList) = false := bne_eq_false_iff_eq.mpr c38
                      clear c38
                      obtain rfl := Option.some.inj H
                      go_wp2_with (first | ((with_reducible refine gate_callee (f := 22) rfl ?_); refine goesL_ (some 115) rfl rfl Try.func22 (by kernel_rfl) rfl #[.string a0, .slice A2 l2.length c2] rfl (by (try simp only [List.map_toArray, List.map_cons, List.map_nil]); first | done | rfl | (simp only [List.length_drop, List.length_take]; rfl)) ?_; (with_reducible refine (edit_Apply.calls a0 _ _ l2 t432 t433 _ ?side1 ?side2 A33.out).mono ?_); (case side1 => repeat (first | exact (Kd.C_below HR2.out HB.out) | (with_reducible refine Kd.C_alloc ?_ _) | (with_reducible refine Kd.C_drewN ?_ _) | (with_reducible refine Kd.C_drew ?_))); (case side2 => exact HC2.out); rintro e w39 ⟨rfl, hb⟩; refine ⟨_, rfl, ?_⟩; have n0_ := Aside0.mk (below_step (by repeat (first | (with_reducible first | exact HB.out | apply below_alloc | apply pw_below_drewN | apply below_drew1) | exact HB.out)) hb); clear HB; have HB := n0_; clear n0_; (try clear hb); (try clear hb2); (try clear hk); (try clear hi)) | ((with_reducible refine gate_callee (f := 26) rfl ?_); refine goesL_ (some 121) rfl rfl Try.func26 (by kernel_rfl) rfl #[.string a0, .slice A2 l2.length c2] rfl (by (try simp only [List.map_toArray, List.map_cons, List.map_nil]); first | done | rfl | (simp only [List.length_drop, List.length_take]; rfl)) ?_; (with_reducible refine (edit_Size.calls kj15 a0 _ _ l2 t434 t435 t436 _ ?side1 ?side2 A34.out).mono ?_); (case side1 => repeat (first | exact (Kd.C_below HR2.out HB.out) | (with_reducible refine Kd.C_alloc ?_ _) | (with_reducible refine Kd.C_drewN ?_ _) | (with_reducible refine Kd.C_drew ?_))); (case side2 => exact HC2.out); rintro e w40 ⟨rfl, hb⟩; refine ⟨_, rfl, ?_⟩; have n0_ := Aside0.mk (below_step (by repeat (first | (with_reducible first | exact HB.out | apply below_alloc | apply pw_below_drewN | apply below_drew1) | exact HB.out)) hb); clear HB; have HB := n0_; clear n0_; (try clear hb); (try clear hb2); (try clear hk); (try clear hi)))
                      go_ret
                      exact ⟨by first | rfl | (simp [errW_none, errW_some] <;> rfl) | (simp [*, errW_none, errW_some] <;> rfl), by repeat (first | (with_reducible first | exact HB.out | apply below_alloc | apply pw_below_drewN | apply below_drew1) | exact HB.out)⟩
                    · rw [if_neg c38] at H
                      have c38b0 : (t432.toList == a1.toList) = false := beq_eq_false_iff_ne.mpr c38
                      have c38b1 : (t432.toList != a1.toList) = true := bne_iff_ne.mpr c38
                      obtain rfl := Option.some.inj H
                      go_wp2_with (first | ((with_reducible refine gate_callee (f := 22) rfl ?_); refine goesL_ (some 115) rfl rfl Try.func22 (by kernel_rfl) rfl #[.string a0, .slice A2 l2.length c2] rfl (by (try simp only [List.map_toArray, List.map_cons, List.map_nil]); first | done | rfl | (simp only [List.length_drop, List.length_take]; rfl)) ?_; (with_reducible refine (edit_Apply.calls a0 _ _ l2 t432 t433 _ ?side1 ?side2 A33.out).mono ?_); (case side1 => repeat (first | exact (Kd.C_below HR2.out HB.out) | (with_reducible refine Kd.C_alloc ?_ _) | (with_reducible refine Kd.C_drewN ?_ _) | (with_reducible refine Kd.C_drew ?_))); (case side2 => exact HC2.out); rintro e w41 ⟨rfl, hb⟩; refine ⟨_, rfl, ?_⟩; have n0_ := Aside0.mk (below_step (by repeat (first | (with_reducible first | exact HB.out | apply below_alloc | apply pw_below_drewN | apply below_drew1) | exact HB.out)) hb); clear HB; have HB := n0_; clear n0_; (try clear hb); (try clear hb2); (try clear hk); (try clear hi)) | ((with_reducible refine gate_callee (f := 26) rfl ?_); refine goesL_ (some 121) rfl rfl Try.func26 (by kernel_rfl) rfl #[.string a0, .slice A2 l2.length c2] rfl (by (try simp only [List.map_toArray, List.map_cons, List.map_nil]); first | done | rfl | (simp only [List.length_drop, List.length_take]; rfl)) ?_; (with_reducible refine (edit_Size.calls kj15 a0 _ _ l2 t434 t435 t436 _ ?side1 ?side2 A34.out).mono ?_); (case side1 => repeat (first | exact (Kd.C_below HR2.out HB.out) | (with_reducible refine Kd.C_alloc ?_ _) | (with_reducible refine Kd.C_drewN ?_ _) | (with_reducible refine Kd.C_drew ?_))); (case side2 => exact HC2.out); rintro e w42 ⟨rfl, hb⟩; refine ⟨_, rfl, ?_⟩; have n0_ := Aside0.mk (below_step (by repeat (first | (with_reducible first | exact HB.out | apply below_alloc | apply pw_below_drewN | apply below_drew1) | exact HB.out)) hb); clear HB; have HB := n0_; clear n0_; (try clear hb); (try clear hb2); (try clear hk); (try clear hi)))
                      go_ret
                      exact ⟨by first | rfl | (simp [errW_none, errW_some] <;> rfl) | (simp [*, errW_none, errW_some] <;> rfl), by repeat (first | (with_reducible first | exact HB.out | apply below_alloc | apply pw_below_drewN | apply below_drew1) | exact HB.out)⟩
                  · rw [if_neg c37] at H
                    have c37b0 : (t436 == 0) = false := beq_eq_false_iff_ne.mpr c37
                    have c37b1 : (t436 != 0) = true := bne_iff_ne.mpr c37
                    obtain rfl := Option.some.inj H
                    go_wp2_with (first | ((with_reducible refine gate_callee (f := 22) rfl ?_); refine goesL_ (some 115) rfl rfl Try.func22 (by kernel_rfl) rfl #[.string a0, .slice A2 l2.length c2] rfl (by (try simp only [List.map_toArray, List.map_cons, List.map_nil]); first | done | rfl | (simp only [List.length_drop, List.length_take]; rfl)) ?_; (with_reducible refine (edit_Apply.calls a0 _ _ l2 t432 t433 _ ?side1 ?side2 A33.out).mono ?_); (case side1 => repeat (first | exact (Kd.C_below HR2.out HB.out) | (with_reducible refine Kd.C_alloc ?_ _) | (with_reducible refine Kd.C_drewN ?_ _) | (with_reducible refine Kd.C_drew ?_))); (case side2 => exact HC2.out); rintro e w43 ⟨rfl, hb⟩; refine ⟨_, rfl, ?_⟩; have n0_ := Aside0.mk (below_step (by repeat (first | (with_reducible first | exact HB.out | apply below_alloc | apply pw_below_drewN | apply below_drew1) | exact HB.out)) hb); clear HB; have HB := n0_; clear n0_; (try clear hb); (try clear hb2); (try clear hk); (try clear hi)) | ((with_reducible refine gate_callee (f := 26) rfl ?_); refine goesL_ (some 121) rfl rfl Try.func26 (by kernel_rfl) rfl #[.string a0, .slice A2 l2.length c2] rfl (by (try simp only [List.map_toArray, List.map_cons, List.map_nil]); first | done | rfl | (simp only [List.length_drop, List.length_take]; rfl)) ?_; (with_reducible refine (edit_Size.calls kj15 a0 _ _ l2 t434 t435 t436 _ ?side1 ?side2 A34.out).mono ?_); (case side1 => repeat (first | exact (Kd.C_below HR2.out HB.out) | (with_reducible refine Kd.C_alloc ?_ _) | (with_reducible refine Kd.C_drewN ?_ _) | (with_reducible refine Kd.C_drew ?_))); (case side2 => exact HC2.out); rintro e w44 ⟨rfl, hb⟩; refine ⟨_, rfl, ?_⟩; have n0_ := Aside0.mk (below_step (by repeat (first | (with_reducible first | exact HB.out | apply below_alloc | apply pw_below_drewN | apply below_drew1) | exact HB.out)) hb); clear HB; have HB := n0_; clear n0_; (try clear hb); (try clear hb2); (try clear hk); (try clear hi)))
                    go_ret
                    exact ⟨by first | rfl | (simp [errW_none, errW_some] <;> rfl) | (simp [*, errW_none, errW_some] <;> rfl), by repeat (first | (with_reducible first | exact HB.out | apply below_alloc | apply pw_below_drewN | apply below_drew1) | exact HB.out)⟩
                · rw [if_neg c36] at H
                  have c36b0 : (t433 == 0) = false := beq_eq_false_iff_ne.mpr c36
                  have c36b1 : (t433 != 0) = true := bne_iff_ne.mpr c36
                  obtain rfl := Option.some.inj H
                  go_wp2_with (first | ((with_reducible refine gate_callee (f := 22) rfl ?_); refine goesL_ (some 115) rfl rfl Try.func22 (by kernel_rfl) rfl #[.string a0, .slice A2 l2.length c2] rfl (by (try simp only [List.map_toArray, List.map_cons, List.map_nil]); first | done | rfl | (simp only [List.length_drop, List.length_take]; rfl)) ?_; (with_reducible refine (edit_Apply.calls a0 _ _ l2 t432 t433 _ ?side1 ?side2 A33.out).mono ?_); (case side1 => repeat (first | exact (Kd.C_below HR2.out HB.out) | (with_reducible refine Kd.C_alloc ?_ _) | (with_reducible refine Kd.C_drewN ?_ _) | (with_reducible refine Kd.C_drew ?_))); (case side2 => exact HC2.out); rintro e w45 ⟨rfl, hb⟩; refine ⟨_, rfl, ?_⟩; have n0_ := Aside0.mk (below_step (by repeat (first | (with_reducible first | exact HB.out | apply below_alloc | apply pw_below_drewN | apply below_drew1) | exact HB.out)) hb); clear HB; have HB := n0_; clear n0_; (try clear hb); (try clear hb2); (try clear hk); (try clear hi)) | ((with_reducible refine gate_callee (f := 26) rfl ?_); refine goesL_ (some 121) rfl rfl Try.func26 (by kernel_rfl) rfl #[.string a0, .slice A2 l2.length c2] rfl (by (try simp only [List.map_toArray, List.map_cons, List.map_nil]); first | done | rfl | (simp only [List.length_drop, List.length_take]; rfl)) ?_; (with_reducible refine (edit_Size.calls kj15 a0 _ _ l2 t434 t435 t436 _ ?side1 ?side2 A34.out).mono ?_); (case side1 => repeat (first | exact (Kd.C_below HR2.out HB.out) | (with_reducible refine Kd.C_alloc ?_ _) | (with_reducible refine Kd.C_drewN ?_ _) | (with_reducible refine Kd.C_drew ?_))); (case side2 => exact HC2.out); rintro e w46 ⟨rfl, hb⟩; refine ⟨_, rfl, ?_⟩; have n0_ := Aside0.mk (below_step (by repeat (first | (with_reducible first | exact HB.out | apply below_alloc | apply pw_below_drewN | apply below_drew1) | exact HB.out)) hb); clear HB; have HB := n0_; clear n0_; (try clear hb); (try clear hb2); (try clear hk); (try clear hi)))
                  go_ret
                  exact ⟨by first | rfl | (simp [errW_none, errW_some] <;> rfl) | (simp [*, errW_none, errW_some] <;> rfl), by repeat (first | (with_reducible first | exact HB.out | apply below_alloc | apply pw_below_drewN | apply below_drew1) | exact HB.out)⟩
              · replace c35 := Bool.eq_false_iff.mpr c35
                subst c35
                have H1 : (some false) = some r := by rw [if_neg (show ¬ (false = true) by decide)] at H; exact H
                clear H
                have H := H1
                clear H1
                obtain rfl := Option.some.inj H
                go_wp2_with (first | ((with_reducible refine gate_callee (f := 22) rfl ?_); refine goesL_ (some 115) rfl rfl Try.func22 (by kernel_rfl) rfl #[.string a0, .slice A2 l2.length c2] rfl (by (try simp only [List.map_toArray, List.map_cons, List.map_nil]); first | done | rfl | (simp only [List.length_drop, List.length_take]; rfl)) ?_; (with_reducible refine (edit_Apply.calls a0 _ _ l2 t432 t433 _ ?side1 ?side2 A33.out).mono ?_); (case side1 => repeat (first | exact (Kd.C_below HR2.out HB.out) | (with_reducible refine Kd.C_alloc ?_ _) | (with_reducible refine Kd.C_drewN ?_ _) | (with_reducible refine Kd.C_drew ?_))); (case side2 => exact HC2.out); rintro e w47 ⟨rfl, hb⟩; refine ⟨_, rfl, ?_⟩; have n0_ := Aside0.mk (below_step (by repeat (first | (with_reducible first | exact HB.out | apply below_alloc | apply pw_below_drewN | apply below_drew1) | exact HB.out)) hb); clear HB; have HB := n0_; clear n0_; (try clear hb); (try clear hb2); (try clear hk); (try clear hi)) | ((with_reducible refine gate_callee (f := 26) rfl ?_); refine goesL_ (some 121) rfl rfl Try.func26 (by kernel_rfl) rfl #[.string a0, .slice A2 l2.length c2] rfl (by (try simp only [List.map_toArray, List.map_cons, List.map_nil]); first | done | rfl | (simp only [List.length_drop, List.length_take]; rfl)) ?_; (with_reducible refine (edit_Size.calls kj15 a0 _ _ l2 t434 t435 t436 _ ?side1 ?side2 A34.out).mono ?_); (case side1 => repeat (first | exact (Kd.C_below HR2.out HB.out) | (with_reducible refine Kd.C_alloc ?_ _) | (with_reducible refine Kd.C_drewN ?_ _) | (with_reducible refine Kd.C_drew ?_))); (case side2 => exact HC2.out); rintro e w48 ⟨rfl, hb⟩; refine ⟨_, rfl, ?_⟩; have n0_ := Aside0.mk (below_step (by repeat (first | (with_reducible first | exact HB.out | apply below_alloc | apply pw_below_drewN | apply below_drew1) | exact HB.out)) hb); clear HB; have HB := n0_; clear n0_; (try clear hb); (try clear hb2); (try clear hk); (try clear hi)))
                go_ret
                exact ⟨by first | rfl | (simp [errW_none, errW_some] <;> rfl) | (simp [*, errW_none, errW_some] <;> rfl), by repeat (first | (with_reducible first | exact HB.out | apply below_alloc | apply pw_below_drewN | apply below_drew1) | exact HB.out)⟩

end Go.Proofs.Ytmecmmpgkcileaa.Z
