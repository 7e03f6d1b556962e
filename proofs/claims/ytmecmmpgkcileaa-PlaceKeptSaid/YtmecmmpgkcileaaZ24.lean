/- Written by a program out of the translation; Lean checks it. -/
import Derived.Test.YtmecmmpgkcileaaZ0
import Derived.Test.YtmecmmpgkcileaaZ19
import Derived.Test.YtmecmmpgkcileaaZ22
import Derived.Test.YtmecmmpgkcileaaGApply
import Derived.Test.YtmecmmpgkcileaaGKept
import Derived.Test.YtmecmmpgkcileaaGLines
namespace Go.Proofs.Ytmecmmpgkcileaa.Z
open Go.RowKit Go.Proofs.YtmecmmpgkcileaaW.PrintWords Go.Proofs.YtmecmmpgkcileaaW.PrintLast Go.Proofs.YtmecmmpgkcileaaW.PrintMore
attribute [local go_sem] max2_int min2_int max_two min_two max_three min_three max_four min_four   -- for this text's walks alone
set_option linter.unusedVariables false
set_option linter.unusedSimpArgs false

/-! ### regletlaw20_PlaceKept: function 11 -/
mutual
def regletlaw20_PlaceKept.j0 : Nat → ByteArray → List (S33) → Bool → Bool → Option (Bool)
  | 0, _, _, _, _ => none
  | k + 1, x0, x1, x5, x30 => if x30 = true then (some x5) else ((place_Kept.f x0 x1).bind fun bt577 => ((edit_Apply.f x0 x1).bind fun bt581 => (if bt577.2 = 0 then (regletlaw20_PlaceKept.j1 k x0 x1 x5 bt577.1 bt577.2 bt581.1 bt581.2 (bt581.2 != 0)) else (regletlaw20_PlaceKept.j1 k x0 x1 x5 bt577.1 bt577.2 bt581.1 bt581.2 true))))
def regletlaw20_PlaceKept.j1 : Nat → ByteArray → List (S33) → Bool → List (S64) → Int → ByteArray → Int → Bool → Option (Bool)
  | 0, _, _, _, _, _, _, _, _ => none
  | k + 1, x0, x1, x5, x6, x7, x8, x9, x49 => if x49 = true then (if x5 = true then (if x7 = x9 then (some ((x6.length : Int) == 0)) else (some false)) else (some false)) else ((edit_Lines.f x0).bind fun t583 => (regletlaw20_PlaceKept.l0 k x0 x1 x5 x6 x8 t583 0 0 (x1.length : Int) 0))
def regletlaw20_PlaceKept.l0 : Nat → ByteArray → List (S33) → Bool → List (S64) → ByteArray → List ByteArray → Int → Int → Int → Int → Option (Bool)
  | 0, _, _, _, _, _, _, _, _, _, _ => none
  | k + 1, x0, x1, x5, x6, x8, x10, x11, x12, x64, x65 => if x65 < x64 then (if 0 ≤ x65 then (if x65 < (x1.length : Int) then (regletlaw20_PlaceKept.l1 k x0 x1 x5 x6 x8 x10 x11 x12 x65 ((rd_T33 x1 x65).f0) x64 x65) else (none)) else (none)) else (regletlaw20_PlaceKept.l2 k x0 x5 x6 x8 x11 x12 0 (-1) (x6.length : Int) 0)
def regletlaw20_PlaceKept.l1 : Nat → ByteArray → List (S33) → Bool → List (S64) → ByteArray → List ByteArray → Int → Int → Int → Int → Int → Int → Option (Bool)
  | 0, _, _, _, _, _, _, _, _, _, _, _, _ => none
  | k + 1, x0, x1, x5, x6, x8, x10, x11, x12, x13, x14, x64, x65 => if 0 ≤ x13 then (if x13 < (x1.length : Int) then (if x14 < ((rd_T33 x1 x13).f1) then (if 0 ≤ x14 then (if x14 < (x10.length : Int) then (regletlaw20_PlaceKept.l1 k x0 x1 x5 x6 x8 x10 (wrap64 (x11 + ((rdOf ByteArray.empty x10 x14).size : Int))) x12 x13 (wrap64 (x14 + 1)) x64 x65) else (none)) else (none)) else (regletlaw20_PlaceKept.l0 k x0 x1 x5 x6 x8 x10 x11 (wrap64 (x12 + (((rd_T33 x1 x13).f2).size : Int))) x64 (wrap64 (x65 + 1)))) else (none)) else (none)
def regletlaw20_PlaceKept.l2 : Nat → ByteArray → Bool → List (S64) → ByteArray → Int → Int → Int → Int → Int → Int → Option (Bool)
  | 0, _, _, _, _, _, _, _, _, _, _ => none
  | k + 1, x0, x5, x6, x8, x11, x12, x15, x16, x99, x100 => if x100 < x99 then (if 0 ≤ x100 then (if x100 < (x6.length : Int) then (if ((rd_T64 x6 x100).f0) ≤ x16 then (some false) else (if ((rd_T64 x6 x100).f1) ≤ ((rd_T64 x6 x100).f0) then (some false) else (if ((rd_T64 x6 x100).f1) > (x0.size : Int) then (some false) else (regletlaw20_PlaceKept.l2 k x0 x5 x6 x8 x11 x12 (wrap64 ((wrap64 (x15 + ((rd_T64 x6 x100).f1))) - ((rd_T64 x6 x100).f0))) ((rd_T64 x6 x100).f1) x99 (wrap64 (x100 + 1)))))) else (none)) else (none)) else (if x5 = true then (if x15 = (wrap64 ((x0.size : Int) - x11)) then (some ((x8.size : Int) == (wrap64 (x15 + x12)))) else (some false)) else (some false))
end
def regletlaw20_PlaceKept.f (k : Nat) (a0 : ByteArray) (l1 : List (S33)) : Option (Bool) := (regletlaw20_alive.f).bind fun t575 => ((regletlaw20_great.f k a0 l1).bind fun t576 => (if t576 = true then (regletlaw20_PlaceKept.j0 k a0 l1 t575 true) else (if (a0.size : Int) > 1000 then (regletlaw20_PlaceKept.j0 k a0 l1 t575 true) else (regletlaw20_PlaceKept.j0 k a0 l1 t575 (!t575)))))
theorem regletlaw20_PlaceKept.mono_l : ∀ k, (∀ y0 y1 y2 y3, LeO (regletlaw20_PlaceKept.j0 k y0 y1 y2 y3) (regletlaw20_PlaceKept.j0 (k + 1) y0 y1 y2 y3)) ∧ (∀ y0 y1 y2 y3 y4 y5 y6 y7, LeO (regletlaw20_PlaceKept.j1 k y0 y1 y2 y3 y4 y5 y6 y7) (regletlaw20_PlaceKept.j1 (k + 1) y0 y1 y2 y3 y4 y5 y6 y7)) ∧ (∀ y0 y1 y2 y3 y4 y5 y6 y7 y8 y9, LeO (regletlaw20_PlaceKept.l0 k y0 y1 y2 y3 y4 y5 y6 y7 y8 y9) (regletlaw20_PlaceKept.l0 (k + 1) y0 y1 y2 y3 y4 y5 y6 y7 y8 y9)) ∧ (∀ y0 y1 y2 y3 y4 y5 y6 y7 y8 y9 y10 y11, LeO (regletlaw20_PlaceKept.l1 k y0 y1 y2 y3 y4 y5 y6 y7 y8 y9 y10 y11) (regletlaw20_PlaceKept.l1 (k + 1) y0 y1 y2 y3 y4 y5 y6 y7 y8 y9 y10 y11)) ∧ (∀ y0 y1 y2 y3 y4 y5 y6 y7 y8 y9, LeO (regletlaw20_PlaceKept.l2 k y0 y1 y2 y3 y4 y5 y6 y7 y8 y9) (regletlaw20_PlaceKept.l2 (k + 1) y0 y1 y2 y3 y4 y5 y6 y7 y8 y9))
  | 0 => ⟨fun _ _ _ _ r h => by simp [regletlaw20_PlaceKept.j0] at h, fun _ _ _ _ _ _ _ _ r h => by simp [regletlaw20_PlaceKept.j1] at h, fun _ _ _ _ _ _ _ _ _ _ r h => by simp [regletlaw20_PlaceKept.l0] at h, fun _ _ _ _ _ _ _ _ _ _ _ _ r h => by simp [regletlaw20_PlaceKept.l1] at h, fun _ _ _ _ _ _ _ _ _ _ r h => by simp [regletlaw20_PlaceKept.l2] at h⟩
  | k + 1 => by
    obtain ⟨ih0, ih1, ih2, ih3, ih4⟩ := regletlaw20_PlaceKept.mono_l k
    refine ⟨?_, ?_, ?_, ?_, ?_⟩
    · intro y0 y1 y2 y3
      unfold regletlaw20_PlaceKept.j0
      repeat' first
      | (with_reducible exact ih0 _ _ _ _)
      | (with_reducible exact ih1 _ _ _ _ _ _ _ _)
      | (with_reducible exact ih2 _ _ _ _ _ _ _ _ _ _)
      | (with_reducible exact ih3 _ _ _ _ _ _ _ _ _ _ _ _)
      | (with_reducible exact ih4 _ _ _ _ _ _ _ _ _ _)
      | (with_reducible exact regletlaw20_great.mono _ _ _)
      | (with_reducible exact LeO.refl _)
      | (with_reducible exact LeO.none _)
      | (with_reducible refine LeO.ite ?_ ?_)
      | (with_reducible refine LeO.bind ?_ (fun _ => ?_))
      | exact ih0 _ _ _ _
      | exact ih1 _ _ _ _ _ _ _ _
      | exact ih2 _ _ _ _ _ _ _ _ _ _
      | exact ih3 _ _ _ _ _ _ _ _ _ _ _ _
      | exact ih4 _ _ _ _ _ _ _ _ _ _
      | exact regletlaw20_great.mono _ _ _
      | exact LeO.none _
      | refine LeO.ite ?_ ?_
      | refine LeO.bind ?_ (fun _ => ?_)
    · intro y0 y1 y2 y3 y4 y5 y6 y7
      unfold regletlaw20_PlaceKept.j1
      repeat' first
      | (with_reducible exact ih0 _ _ _ _)
      | (with_reducible exact ih1 _ _ _ _ _ _ _ _)
      | (with_reducible exact ih2 _ _ _ _ _ _ _ _ _ _)
      | (with_reducible exact ih3 _ _ _ _ _ _ _ _ _ _ _ _)
      | (with_reducible exact ih4 _ _ _ _ _ _ _ _ _ _)
      | (with_reducible exact regletlaw20_great.mono _ _ _)
      | (with_reducible exact LeO.refl _)
      | (with_reducible exact LeO.none _)
      | (with_reducible refine LeO.ite ?_ ?_)
      | (with_reducible refine LeO.bind ?_ (fun _ => ?_))
      | exact ih0 _ _ _ _
      | exact ih1 _ _ _ _ _ _ _ _
      | exact ih2 _ _ _ _ _ _ _ _ _ _
      | exact ih3 _ _ _ _ _ _ _ _ _ _ _ _
      | exact ih4 _ _ _ _ _ _ _ _ _ _
      | exact regletlaw20_great.mono _ _ _
      | exact LeO.none _
      | refine LeO.ite ?_ ?_
      | refine LeO.bind ?_ (fun _ => ?_)
    · intro y0 y1 y2 y3 y4 y5 y6 y7 y8 y9
      unfold regletlaw20_PlaceKept.l0
      repeat' first
      | (with_reducible exact ih0 _ _ _ _)
      | (with_reducible exact ih1 _ _ _ _ _ _ _ _)
      | (with_reducible exact ih2 _ _ _ _ _ _ _ _ _ _)
      | (with_reducible exact ih3 _ _ _ _ _ _ _ _ _ _ _ _)
      | (with_reducible exact ih4 _ _ _ _ _ _ _ _ _ _)
      | (with_reducible exact regletlaw20_great.mono _ _ _)
      | (with_reducible exact LeO.refl _)
      | (with_reducible exact LeO.none _)
      | (with_reducible refine LeO.ite ?_ ?_)
      | (with_reducible refine LeO.bind ?_ (fun _ => ?_))
      | exact ih0 _ _ _ _
      | exact ih1 _ _ _ _ _ _ _ _
      | exact ih2 _ _ _ _ _ _ _ _ _ _
      | exact ih3 _ _ _ _ _ _ _ _ _ _ _ _
      | exact ih4 _ _ _ _ _ _ _ _ _ _
      | exact regletlaw20_great.mono _ _ _
      | exact LeO.none _
      | refine LeO.ite ?_ ?_
      | refine LeO.bind ?_ (fun _ => ?_)
    · intro y0 y1 y2 y3 y4 y5 y6 y7 y8 y9 y10 y11
      unfold regletlaw20_PlaceKept.l1
      repeat' first
      | (with_reducible exact ih0 _ _ _ _)
      | (with_reducible exact ih1 _ _ _ _ _ _ _ _)
      | (with_reducible exact ih2 _ _ _ _ _ _ _ _ _ _)
      | (with_reducible exact ih3 _ _ _ _ _ _ _ _ _ _ _ _)
      | (with_reducible exact ih4 _ _ _ _ _ _ _ _ _ _)
      | (with_reducible exact regletlaw20_great.mono _ _ _)
      | (with_reducible exact LeO.refl _)
      | (with_reducible exact LeO.none _)
      | (with_reducible refine LeO.ite ?_ ?_)
      | (with_reducible refine LeO.bind ?_ (fun _ => ?_))
      | exact ih0 _ _ _ _
      | exact ih1 _ _ _ _ _ _ _ _
      | exact ih2 _ _ _ _ _ _ _ _ _ _
      | exact ih3 _ _ _ _ _ _ _ _ _ _ _ _
      | exact ih4 _ _ _ _ _ _ _ _ _ _
      | exact regletlaw20_great.mono _ _ _
      | exact LeO.none _
      | refine LeO.ite ?_ ?_
      | refine LeO.bind ?_ (fun _ => ?_)
    · intro y0 y1 y2 y3 y4 y5 y6 y7 y8 y9
      unfold regletlaw20_PlaceKept.l2
      repeat' first
      | (with_reducible exact ih0 _ _ _ _)
      | (with_reducible exact ih1 _ _ _ _ _ _ _ _)
      | (with_reducible exact ih2 _ _ _ _ _ _ _ _ _ _)
      | (with_reducible exact ih3 _ _ _ _ _ _ _ _ _ _ _ _)
      | (with_reducible exact ih4 _ _ _ _ _ _ _ _ _ _)
      | (with_reducible exact regletlaw20_great.mono _ _ _)
      | (with_reducible exact LeO.refl _)
      | (with_reducible exact LeO.none _)
      | (with_reducible refine LeO.ite ?_ ?_)
      | (with_reducible refine LeO.bind ?_ (fun _ => ?_))
      | exact ih0 _ _ _ _
      | exact ih1 _ _ _ _ _ _ _ _
      | exact ih2 _ _ _ _ _ _ _ _ _ _
      | exact ih3 _ _ _ _ _ _ _ _ _ _ _ _
      | exact ih4 _ _ _ _ _ _ _ _ _ _
      | exact regletlaw20_great.mono _ _ _
      | exact LeO.none _
      | refine LeO.ite ?_ ?_
      | refine LeO.bind ?_ (fun _ => ?_)
theorem regletlaw20_PlaceKept.mono : ∀ a0 a1 k, LeO (regletlaw20_PlaceKept.f k a0 a1) (regletlaw20_PlaceKept.f (k + 1) a0 a1) := by
  intro a0 a1 k
  obtain ⟨ih0, ih1, ih2, ih3, ih4⟩ := regletlaw20_PlaceKept.mono_l k
  unfold regletlaw20_PlaceKept.f
  repeat' first
      | (with_reducible exact ih0 _ _ _ _)
      | (with_reducible exact ih1 _ _ _ _ _ _ _ _)
      | (with_reducible exact ih2 _ _ _ _ _ _ _ _ _ _)
      | (with_reducible exact ih3 _ _ _ _ _ _ _ _ _ _ _ _)
      | (with_reducible exact ih4 _ _ _ _ _ _ _ _ _ _)
      | (with_reducible exact regletlaw20_great.mono _ _ _)
      | (with_reducible exact LeO.refl _)
      | (with_reducible exact LeO.none _)
      | (with_reducible refine LeO.ite ?_ ?_)
      | (with_reducible refine LeO.bind ?_ (fun _ => ?_))
      | exact ih0 _ _ _ _
      | exact ih1 _ _ _ _ _ _ _ _
      | exact ih2 _ _ _ _ _ _ _ _ _ _
      | exact ih3 _ _ _ _ _ _ _ _ _ _ _ _
      | exact ih4 _ _ _ _ _ _ _ _ _ _
      | exact regletlaw20_great.mono _ _ _
      | exact LeO.none _
      | refine LeO.ite ?_ ?_
      | refine LeO.bind ?_ (fun _ => ?_)
set_option maxHeartbeats 8000000 in
set_option maxRecDepth 100000 in
theorem regletlaw20_PlaceKept.calls (k : Nat) (a0 : ByteArray) (A1 : Option Addr) (c1 : Nat) (l1 : List (S33)) (r : Bool) (w : World) (hr1 : Kd.C k33 w A1 l1.length l1) (hc1 : l1.length ≤ c1) (h : regletlaw20_PlaceKept.f k a0 l1 = some r) :
    Calls Try.prog 11 #[.string a0, .slice A1 l1.length c1] w fun e w' => e = .returned (.bool r) ∧ Below w.heap.size w w' := by
  have HR1 := Aside0.mk hr1
  have HC1 := Aside0.mk hc1
  clear hr1 hc1
  have HB := Aside0.mk (Below.refl w.heap.size w)
  have H : ((regletlaw20_alive.f).bind fun t575 => ((regletlaw20_great.f k a0 l1).bind fun t576 => (if t576 = true then (regletlaw20_PlaceKept.j0 k a0 l1 t575 true) else (if (a0.size : Int) > 1000 then (regletlaw20_PlaceKept.j0 k a0 l1 t575 true) else (regletlaw20_PlaceKept.j0 k a0 l1 t575 (!t575)))))) = some r := h
  clear h
  replace H := Option.bind_eq_some_iff.mp H
  obtain ⟨t575, A30, H⟩ := H
  replace H : ((regletlaw20_great.f k a0 l1).bind fun t576 => (if t576 = true then (regletlaw20_PlaceKept.j0 k a0 l1 t575 true) else (if (a0.size : Int) > 1000 then (regletlaw20_PlaceKept.j0 k a0 l1 t575 true) else (regletlaw20_PlaceKept.j0 k a0 l1 t575 (!t575))))) = some r := H
  have A3 := Aside0.mk A30
  clear A30
  have HC4 := Aside0.mk H
  clear H
  go_enter Try.func11, Try.ntmps11
  go_upto_region 2 with (first | (go_at_call 37; (with_reducible refine (regletlaw20_alive.calls  t575 _ A3.out).mono ?_); rintro e w5 ⟨rfl, hb⟩; have n0_ := Aside0.mk (below_step (by repeat (first | (with_reducible first | exact HB.out | apply below_alloc | apply pw_below_drewN | apply below_drew1) | exact HB.out)) hb); clear HB; have HB := n0_; clear n0_; (try clear hb); (try clear hb2); (try clear hk); (try clear hi)))
  repeat (go_quiet (first | (go_at_call 37; (with_reducible refine (regletlaw20_alive.calls  t575 _ A3.out).mono ?_); rintro e w5 ⟨rfl, hb⟩; have n0_ := Aside0.mk (below_step (by repeat (first | (with_reducible first | exact HB.out | apply below_alloc | apply pw_below_drewN | apply below_drew1) | exact HB.out)) hb); clear HB; have HB := n0_; clear n0_; (try clear hb); (try clear hb2); (try clear hk); (try clear hi))); go_upto_region 2 with (first | (go_at_call 37; (with_reducible refine (regletlaw20_alive.calls  t575 _ A3.out).mono ?_); rintro e w5 ⟨rfl, hb⟩; have n0_ := Aside0.mk (below_step (by repeat (first | (with_reducible first | exact HB.out | apply below_alloc | apply pw_below_drewN | apply below_drew1) | exact HB.out)) hb); clear HB; have HB := n0_; clear n0_; (try clear hb); (try clear hb2); (try clear hk); (try clear hi))))
  (try simp only [Act.put, List.setIfInBounds_toArray, List.set_cons_zero, List.set_cons_succ])
  go_cut [30] (fun v30 wc => ∃ (kq : Nat) (x30_3 : Bool), v30 = .bool x30_3 ∧ Aside0 (regletlaw20_PlaceKept.j0 kq a0 l1 t575 x30_3 = some r) ∧ Aside0 (kq ≤ k) ∧ Aside0 (Below w.heap.size w wc))
  case first =>
    have H := HC4.out
    clear HC4
    replace H := Option.bind_eq_some_iff.mp H
    obtain ⟨t576, A60, H⟩ := H
    replace H : (if t576 = true then (regletlaw20_PlaceKept.j0 k a0 l1 t575 true) else (if (a0.size : Int) > 1000 then (regletlaw20_PlaceKept.j0 k a0 l1 t575 true) else (regletlaw20_PlaceKept.j0 k a0 l1 t575 (!t575)))) = some r := H
    have A6 := Aside0.mk A60
    clear A60
    by_cases c7 : t576 = true
    · subst c7
      have H1 : (regletlaw20_PlaceKept.j0 k a0 l1 t575 true) = some r := by rw [if_pos rfl] at H; exact H
      clear H
      have H := H1
      clear H1
      have H' := Aside0.mk H
      clear H
      go_wp2_with (first | (go_at_call 29; (with_reducible refine (regletlaw20_great.calls k a0 _ _ l1 true _ ?side1 ?side2 A6.out).mono ?_); (case side1 => repeat (first | exact (Kd.C_below HR1.out HB.out) | (with_reducible refine Kd.C_alloc ?_ _) | (with_reducible refine Kd.C_drewN ?_ _) | (with_reducible refine Kd.C_drew ?_))); (case side2 => exact HC1.out); rintro e w' ⟨rfl, ⟨nd, rfl⟩⟩; (try first | exact ⟨rfl, _, World.drewN_drewN _ _ _⟩ | exact ⟨rfl, _, Eq.trans (World.drewN_drewN _ _ _) (congrArg (World.drewN _) (Nat.add_assoc _ _ _))⟩)))
      repeat (go_quiet (first | (go_at_call 29; (with_reducible refine (regletlaw20_great.calls k a0 _ _ l1 true _ ?side1 ?side2 A6.out).mono ?_); (case side1 => repeat (first | exact (Kd.C_below HR1.out HB.out) | (with_reducible refine Kd.C_alloc ?_ _) | (with_reducible refine Kd.C_drewN ?_ _) | (with_reducible refine Kd.C_drew ?_))); (case side2 => exact HC1.out); rintro e w' ⟨rfl, ⟨nd, rfl⟩⟩; (try first | exact ⟨rfl, _, World.drewN_drewN _ _ _⟩ | exact ⟨rfl, _, Eq.trans (World.drewN_drewN _ _ _) (congrArg (World.drewN _) (Nat.add_assoc _ _ _))⟩))); try go_wp2_with (first | (go_at_call 29; (with_reducible refine (regletlaw20_great.calls k a0 _ _ l1 true _ ?side1 ?side2 A6.out).mono ?_); (case side1 => repeat (first | exact (Kd.C_below HR1.out HB.out) | (with_reducible refine Kd.C_alloc ?_ _) | (with_reducible refine Kd.C_drewN ?_ _) | (with_reducible refine Kd.C_drew ?_))); (case side2 => exact HC1.out); rintro e w' ⟨rfl, ⟨nd, rfl⟩⟩; (try first | exact ⟨rfl, _, World.drewN_drewN _ _ _⟩ | exact ⟨rfl, _, Eq.trans (World.drewN_drewN _ _ _) (congrArg (World.drewN _) (Nat.add_assoc _ _ _))⟩))))
      go_meet
      case rel => exact ⟨_, (true), (by first | rfl | (simp; done) | (simp [*]; done)), H', ⟨by first | omega | exact Nat.le_refl _⟩, ⟨by repeat (first | (with_reducible first | exact HB.out | apply below_alloc | apply pw_below_drewN | apply below_drew1) | exact HB.out)⟩⟩
    · replace c7 := Bool.eq_false_iff.mpr c7
      subst c7
      have H1 : (if (a0.size : Int) > 1000 then (regletlaw20_PlaceKept.j0 k a0 l1 t575 true) else (regletlaw20_PlaceKept.j0 k a0 l1 t575 (!t575))) = some r := by rw [if_neg (show ¬ (false = true) by decide)] at H; exact H
      clear H
      have H := H1
      clear H1
      by_cases c8 : (a0.size : Int) > 1000
      · rw [if_pos c8] at H
        have c8b0 : decide (1000 < (a0.size : Int)) = true := decide_eq_true c8
        have c8b1 : decide (1000 < a0.size) = true := decide_eq_true (by omega)
        clear c8
        (first | rw [c8b0] | (simp only [i64_w, i32_w]; rw [c8b0]) | skip)
        have H' := Aside0.mk H
        clear H
        go_wp2_with (first | (go_at_call 29; (with_reducible refine (regletlaw20_great.calls k a0 _ _ l1 false _ ?side1 ?side2 A6.out).mono ?_); (case side1 => repeat (first | exact (Kd.C_below HR1.out HB.out) | (with_reducible refine Kd.C_alloc ?_ _) | (with_reducible refine Kd.C_drewN ?_ _) | (with_reducible refine Kd.C_drew ?_))); (case side2 => exact HC1.out); rintro e w' ⟨rfl, ⟨nd, rfl⟩⟩; (try first | exact ⟨rfl, _, World.drewN_drewN _ _ _⟩ | exact ⟨rfl, _, Eq.trans (World.drewN_drewN _ _ _) (congrArg (World.drewN _) (Nat.add_assoc _ _ _))⟩)))
        repeat (go_quiet (first | (go_at_call 29; (with_reducible refine (regletlaw20_great.calls k a0 _ _ l1 false _ ?side1 ?side2 A6.out).mono ?_); (case side1 => repeat (first | exact (Kd.C_below HR1.out HB.out) | (with_reducible refine Kd.C_alloc ?_ _) | (with_reducible refine Kd.C_drewN ?_ _) | (with_reducible refine Kd.C_drew ?_))); (case side2 => exact HC1.out); rintro e w' ⟨rfl, ⟨nd, rfl⟩⟩; (try first | exact ⟨rfl, _, World.drewN_drewN _ _ _⟩ | exact ⟨rfl, _, Eq.trans (World.drewN_drewN _ _ _) (congrArg (World.drewN _) (Nat.add_assoc _ _ _))⟩))); try go_wp2_with (first | (go_at_call 29; (with_reducible refine (regletlaw20_great.calls k a0 _ _ l1 false _ ?side1 ?side2 A6.out).mono ?_); (case side1 => repeat (first | exact (Kd.C_below HR1.out HB.out) | (with_reducible refine Kd.C_alloc ?_ _) | (with_reducible refine Kd.C_drewN ?_ _) | (with_reducible refine Kd.C_drew ?_))); (case side2 => exact HC1.out); rintro e w' ⟨rfl, ⟨nd, rfl⟩⟩; (try first | exact ⟨rfl, _, World.drewN_drewN _ _ _⟩ | exact ⟨rfl, _, Eq.trans (World.drewN_drewN _ _ _) (congrArg (World.drewN _) (Nat.add_assoc _ _ _))⟩))))
        go_meet
        case rel => exact ⟨_, (true), (by first | rfl | (simp; done) | (simp [*]; done)), H', ⟨by first | omega | exact Nat.le_refl _⟩, ⟨by repeat (first | (with_reducible first | exact HB.out | apply below_alloc | apply pw_below_drewN | apply below_drew1) | exact HB.out)⟩⟩
      · rw [if_neg c8] at H
        have c8b0 : decide (1000 < (a0.size : Int)) = false := decide_eq_false c8
        have c8b1 : decide (1000 < a0.size) = false := decide_eq_false (by omega)
        clear c8
        (first | rw [c8b0] | (simp only [i64_w, i32_w]; rw [c8b0]) | skip)
        have H' := Aside0.mk H
        clear H
        go_wp2_with (first | (go_at_call 29; (with_reducible refine (regletlaw20_great.calls k a0 _ _ l1 false _ ?side1 ?side2 A6.out).mono ?_); (case side1 => repeat (first | exact (Kd.C_below HR1.out HB.out) | (with_reducible refine Kd.C_alloc ?_ _) | (with_reducible refine Kd.C_drewN ?_ _) | (with_reducible refine Kd.C_drew ?_))); (case side2 => exact HC1.out); rintro e w' ⟨rfl, ⟨nd, rfl⟩⟩; (try first | exact ⟨rfl, _, World.drewN_drewN _ _ _⟩ | exact ⟨rfl, _, Eq.trans (World.drewN_drewN _ _ _) (congrArg (World.drewN _) (Nat.add_assoc _ _ _))⟩)))
        repeat (go_quiet (first | (go_at_call 29; (with_reducible refine (regletlaw20_great.calls k a0 _ _ l1 false _ ?side1 ?side2 A6.out).mono ?_); (case side1 => repeat (first | exact (Kd.C_below HR1.out HB.out) | (with_reducible refine Kd.C_alloc ?_ _) | (with_reducible refine Kd.C_drewN ?_ _) | (with_reducible refine Kd.C_drew ?_))); (case side2 => exact HC1.out); rintro e w' ⟨rfl, ⟨nd, rfl⟩⟩; (try first | exact ⟨rfl, _, World.drewN_drewN _ _ _⟩ | exact ⟨rfl, _, Eq.trans (World.drewN_drewN _ _ _) (congrArg (World.drewN _) (Nat.add_assoc _ _ _))⟩))); try go_wp2_with (first | (go_at_call 29; (with_reducible refine (regletlaw20_great.calls k a0 _ _ l1 false _ ?side1 ?side2 A6.out).mono ?_); (case side1 => repeat (first | exact (Kd.C_below HR1.out HB.out) | (with_reducible refine Kd.C_alloc ?_ _) | (with_reducible refine Kd.C_drewN ?_ _) | (with_reducible refine Kd.C_drew ?_))); (case side2 => exact HC1.out); rintro e w' ⟨rfl, ⟨nd, rfl⟩⟩; (try first | exact ⟨rfl, _, World.drewN_drewN _ _ _⟩ | exact ⟨rfl, _, Eq.trans (World.drewN_drewN _ _ _) (congrArg (World.drewN _) (Nat.add_assoc _ _ _))⟩))))
        go_meet
        case rel => exact ⟨_, (!t575), (by first | rfl | (simp; done) | (simp [*]; done)), H', ⟨by first | omega | exact Nat.le_refl _⟩, ⟨by repeat (first | (with_reducible first | exact HB.out | apply below_alloc | apply pw_below_drewN | apply below_drew1) | exact HB.out)⟩⟩
  case rest =>
    clear HC4
    try clear c1
    try clear p2
    try clear c7
    try clear c8
    try clear c8b0
    try clear c8b1
    obtain ⟨kq, x30_3, rfl, HA, HJ3, HB⟩ := hcut
    cases kq with
    | zero => exact absurd HA.out (by simp [regletlaw20_PlaceKept.j0])
    | succ kj3 =>
      have H := HA.out
      clear HA
      simp only [regletlaw20_PlaceKept.j0] at H
      by_cases c9 : x30_3 = true
      · subst c9
        have H1 : (some t575) = some r := by rw [if_pos rfl] at H; exact H
        clear H
        have H := H1
        clear H1
        obtain rfl := Option.some.inj H
        go_wp2
        repeat (go_quiet (fail); try go_wp2)
        go_ret
        exact ⟨by first | rfl | (simp [errW_none, errW_some] <;> rfl) | (simp [*, errW_none, errW_some] <;> rfl), by repeat (first | (with_reducible first | exact HB.out | apply below_alloc | apply pw_below_drewN | apply below_drew1) | exact HB.out)⟩
      · replace c9 := Bool.eq_false_iff.mpr c9
        subst c9
        have H1 : ((place_Kept.f a0 l1).bind fun bt577 => ((edit_Apply.f a0 l1).bind fun bt581 => (if bt577.2 = 0 then (regletlaw20_PlaceKept.j1 kj3 a0 l1 t575 bt577.1 bt577.2 bt581.1 bt581.2 (bt581.2 != 0)) else (regletlaw20_PlaceKept.j1 kj3 a0 l1 t575 bt577.1 bt577.2 bt581.1 bt581.2 true)))) = some r := by rw [if_neg (show ¬ (false = true) by decide)] at H; exact H
        clear H
        have H := H1
        clear H1
        replace H := Option.bind_eq_some_iff.mp H
        obtain ⟨⟨t577, t578⟩, A100, H⟩ := H
        replace H : ((edit_Apply.f a0 l1).bind fun bt581 => (if t578 = 0 then (regletlaw20_PlaceKept.j1 kj3 a0 l1 t575 t577 t578 bt581.1 bt581.2 (bt581.2 != 0)) else (regletlaw20_PlaceKept.j1 kj3 a0 l1 t575 t577 t578 bt581.1 bt581.2 true))) = some r := H
        have A10 := Aside0.mk A100
        clear A100
        replace H := Option.bind_eq_some_iff.mp H
        obtain ⟨⟨t581, t582⟩, A110, H⟩ := H
        replace H : (if t578 = 0 then (regletlaw20_PlaceKept.j1 kj3 a0 l1 t575 t577 t578 t581 t582 (t582 != 0)) else (regletlaw20_PlaceKept.j1 kj3 a0 l1 t575 t577 t578 t581 t582 true)) = some r := H
        have A11 := Aside0.mk A110
        clear A110
        have HC12 := Aside0.mk H
        clear H
        go_upto_region 6 with (first | (go_at_call 34; (with_reducible refine (place_Kept.calls a0 _ _ l1 t577 t578 _ ?side1 ?side2 A10.out).mono ?_); (case side1 => repeat (first | exact (Kd.C_below HR1.out HB.out) | (with_reducible refine Kd.C_alloc ?_ _) | (with_reducible refine Kd.C_drewN ?_ _) | (with_reducible refine Kd.C_drew ?_))); (case side2 => exact HC1.out); rintro e w13 ⟨v579, rfl, ho0, hb⟩; have n0_ := Aside0.mk (Kd.R_lower ho0 (below_size (by repeat (first | (with_reducible first | exact HB.out | apply below_alloc | apply pw_below_drewN | apply below_drew1) | exact HB.out)))); have n1_ := Aside0.mk (below_step (by repeat (first | (with_reducible first | exact HB.out | apply below_alloc | apply pw_below_drewN | apply below_drew1) | exact HB.out)) hb); clear HB; have HO580 := n0_; have HB := n1_; clear n0_ n1_; (try clear hb); (try clear hb2); (try clear hk); (try clear hi); (try clear ho0)) | (go_at_call 22; (with_reducible refine (edit_Apply.calls a0 _ _ l1 t581 t582 _ ?side1 ?side2 A11.out).mono ?_); (case side1 => repeat (first | exact (Kd.C_below HR1.out HB.out) | (with_reducible refine Kd.C_alloc ?_ _) | (with_reducible refine Kd.C_drewN ?_ _) | (with_reducible refine Kd.C_drew ?_))); (case side2 => exact HC1.out); rintro e w14 ⟨rfl, hb⟩; have n0_ := Aside0.mk (Kd.R_below (by (with_reducible repeat (first | apply Kd.R_alloc | apply Kd.R_drewN | apply Kd.R_drew)); exact HO580.out) hb); have n1_ := Aside0.mk (below_step (by repeat (first | (with_reducible first | exact HB.out | apply below_alloc | apply pw_below_drewN | apply below_drew1) | exact HB.out)) hb); clear HO580; clear HB; have HO580 := n0_; have HB := n1_; clear n0_ n1_; (try clear hb); (try clear hb2); (try clear hk); (try clear hi)))
        repeat (go_quiet (first | (go_at_call 34; (with_reducible refine (place_Kept.calls a0 _ _ l1 t577 t578 _ ?side1 ?side2 A10.out).mono ?_); (case side1 => repeat (first | exact (Kd.C_below HR1.out HB.out) | (with_reducible refine Kd.C_alloc ?_ _) | (with_reducible refine Kd.C_drewN ?_ _) | (with_reducible refine Kd.C_drew ?_))); (case side2 => exact HC1.out); rintro e w13 ⟨v579, rfl, ho0, hb⟩; have n0_ := Aside0.mk (Kd.R_lower ho0 (below_size (by repeat (first | (with_reducible first | exact HB.out | apply below_alloc | apply pw_below_drewN | apply below_drew1) | exact HB.out)))); have n1_ := Aside0.mk (below_step (by repeat (first | (with_reducible first | exact HB.out | apply below_alloc | apply pw_below_drewN | apply below_drew1) | exact HB.out)) hb); clear HB; have HO580 := n0_; have HB := n1_; clear n0_ n1_; (try clear hb); (try clear hb2); (try clear hk); (try clear hi); (try clear ho0)) | (go_at_call 22; (with_reducible refine (edit_Apply.calls a0 _ _ l1 t581 t582 _ ?side1 ?side2 A11.out).mono ?_); (case side1 => repeat (first | exact (Kd.C_below HR1.out HB.out) | (with_reducible refine Kd.C_alloc ?_ _) | (with_reducible refine Kd.C_drewN ?_ _) | (with_reducible refine Kd.C_drew ?_))); (case side2 => exact HC1.out); rintro e w14 ⟨rfl, hb⟩; have n0_ := Aside0.mk (Kd.R_below (by (with_reducible repeat (first | apply Kd.R_alloc | apply Kd.R_drewN | apply Kd.R_drew)); exact HO580.out) hb); have n1_ := Aside0.mk (below_step (by repeat (first | (with_reducible first | exact HB.out | apply below_alloc | apply pw_below_drewN | apply below_drew1) | exact HB.out)) hb); clear HO580; clear HB; have HO580 := n0_; have HB := n1_; clear n0_ n1_; (try clear hb); (try clear hb2); (try clear hk); (try clear hi))); go_upto_region 6 with (first | (go_at_call 34; (with_reducible refine (place_Kept.calls a0 _ _ l1 t577 t578 _ ?side1 ?side2 A10.out).mono ?_); (case side1 => repeat (first | exact (Kd.C_below HR1.out HB.out) | (with_reducible refine Kd.C_alloc ?_ _) | (with_reducible refine Kd.C_drewN ?_ _) | (with_reducible refine Kd.C_drew ?_))); (case side2 => exact HC1.out); rintro e w13 ⟨v579, rfl, ho0, hb⟩; have n0_ := Aside0.mk (Kd.R_lower ho0 (below_size (by repeat (first | (with_reducible first | exact HB.out | apply below_alloc | apply pw_below_drewN | apply below_drew1) | exact HB.out)))); have n1_ := Aside0.mk (below_step (by repeat (first | (with_reducible first | exact HB.out | apply below_alloc | apply pw_below_drewN | apply below_drew1) | exact HB.out)) hb); clear HB; have HO580 := n0_; have HB := n1_; clear n0_ n1_; (try clear hb); (try clear hb2); (try clear hk); (try clear hi); (try clear ho0)) | (go_at_call 22; (with_reducible refine (edit_Apply.calls a0 _ _ l1 t581 t582 _ ?side1 ?side2 A11.out).mono ?_); (case side1 => repeat (first | exact (Kd.C_below HR1.out HB.out) | (with_reducible refine Kd.C_alloc ?_ _) | (with_reducible refine Kd.C_drewN ?_ _) | (with_reducible refine Kd.C_drew ?_))); (case side2 => exact HC1.out); rintro e w14 ⟨rfl, hb⟩; have n0_ := Aside0.mk (Kd.R_below (by (with_reducible repeat (first | apply Kd.R_alloc | apply Kd.R_drewN | apply Kd.R_drew)); exact HO580.out) hb); have n1_ := Aside0.mk (below_step (by repeat (first | (with_reducible first | exact HB.out | apply below_alloc | apply pw_below_drewN | apply below_drew1) | exact HB.out)) hb); clear HO580; clear HB; have HO580 := n0_; have HB := n1_; clear n0_ n1_; (try clear hb); (try clear hb2); (try clear hk); (try clear hi))))
        (try simp only [Act.put, List.setIfInBounds_toArray, List.set_cons_zero, List.set_cons_succ])
        go_cut [49] (fun v49 wc => ∃ (kq : Nat) (x49_11 : Bool), v49 = .bool x49_11 ∧ Aside0 (regletlaw20_PlaceKept.j1 kq a0 l1 t575 t577 t578 t581 t582 x49_11 = some r) ∧ Aside0 (kq ≤ kj3) ∧ Aside0 (Kd.R k64 64 wc w.heap.size (fun _ => True) v579 t577) ∧ Aside0 (Below w.heap.size w wc))
        case first =>
          have H := HC12.out
          clear HC12
          by_cases c15 : t578 = 0
          · rw [if_pos c15] at H
            have c15b0 : (t578 == 0) = true := beq_iff_eq.mpr c15
            have c15b1 : (t578 != 0) = false := bne_eq_false_iff_eq.mpr c15
            clear c15
            (first | rw [c15b0] | (simp only [i64_w, i32_w]; rw [c15b0]) | skip)
            have H' := Aside0.mk H
            clear H
            go_wp2
            repeat (go_quiet (fail); try go_wp2)
            go_meet
            case rel => exact ⟨_, ((t582 != 0)), (by first | rfl | (simp; done) | (simp [*]; done)), H', ⟨by have := HJ3.out; first | omega | exact Nat.le_refl _⟩, ⟨by (with_reducible repeat (first | apply Kd.R_alloc | apply Kd.R_drewN | apply Kd.R_drew)); exact HO580.out⟩, ⟨by repeat (first | (with_reducible first | exact HB.out | apply below_alloc | apply pw_below_drewN | apply below_drew1) | exact HB.out)⟩⟩
          · rw [if_neg c15] at H
            have c15b0 : (t578 == 0) = false := beq_eq_false_iff_ne.mpr c15
            have c15b1 : (t578 != 0) = true := bne_iff_ne.mpr c15
            (first | rw [c15b0] | (simp only [i64_w, i32_w]; rw [c15b0]) | skip)
            have H' := Aside0.mk H
            clear H
            go_wp2
            repeat (go_quiet (fail); try go_wp2)
            go_meet
            case rel => exact ⟨_, (true), (by first | rfl | (simp; done) | (simp [*]; done)), H', ⟨by have := HJ3.out; first | omega | exact Nat.le_refl _⟩, ⟨by (with_reducible repeat (first | apply Kd.R_alloc | apply Kd.R_drewN | apply Kd.R_drew)); exact HO580.out⟩, ⟨by repeat (first | (with_reducible first | exact HB.out | apply below_alloc | apply pw_below_drewN | apply below_drew1) | exact HB.out)⟩⟩
        case rest =>
          clear HC12
          try clear c1
          try clear p2
          try clear c7
          try clear c8
          try clear c8b0
          try clear c8b1
          try clear c9
          try clear c11
          try clear c15
          try clear c15b0
          try clear c15b1
          try clear p2
          obtain ⟨kq, x49_11, rfl, HA, HJ11, HO_6, HB⟩ := hcut
          cases kq with
          | zero => exact absurd HA.out (by simp [regletlaw20_PlaceKept.j1])
          | succ kj11 =>
            have H := HA.out
            clear HA
            simp only [regletlaw20_PlaceKept.j1] at H
            by_cases c16 : x49_11 = true
            · subst c16
              have H1 : (if t575 = true then (if t578 = t582 then (some ((t577.length : Int) == 0)) else (some false)) else (some false)) = some r := by rw [if_pos rfl] at H; exact H
              clear H
              have H := H1
              clear H1
              by_cases c17 : t575 = true
              · subst c17
                have H1 : (if t578 = t582 then (some ((t577.length : Int) == 0)) else (some false)) = some r := by rw [if_pos rfl] at H; exact H
                clear H
                have H := H1
                clear H1
                by_cases c18 : t578 = t582
                · rw [if_pos c18] at H
                  have c18b0 : (t578 == t582) = true := beq_iff_eq.mpr c18
                  have c18b1 : (t578 != t582) = false := bne_eq_false_iff_eq.mpr c18
                  clear c18
                  obtain rfl := Option.some.inj H
                  obtain ⟨Ao19, co19, eo19⟩ := Kd.R_slice HO_6.out
                  subst eo19
                  go_wp2
                  repeat (go_quiet (fail); try go_wp2)
                  go_ret
                  exact ⟨by first | rfl | (simp [errW_none, errW_some] <;> rfl) | (simp [*, errW_none, errW_some] <;> rfl), by repeat (first | (with_reducible first | exact HB.out | apply below_alloc | apply pw_below_drewN | apply below_drew1) | exact HB.out)⟩
                · rw [if_neg c18] at H
                  have c18b0 : (t578 == t582) = false := beq_eq_false_iff_ne.mpr c18
                  have c18b1 : (t578 != t582) = true := bne_iff_ne.mpr c18
                  obtain rfl := Option.some.inj H
                  go_wp2
                  repeat (go_quiet (fail); try go_wp2)
                  go_ret
                  exact ⟨by first | rfl | (simp [errW_none, errW_some] <;> rfl) | (simp [*, errW_none, errW_some] <;> rfl), by repeat (first | (with_reducible first | exact HB.out | apply below_alloc | apply pw_below_drewN | apply below_drew1) | exact HB.out)⟩
              · replace c17 := Bool.eq_false_iff.mpr c17
                subst c17
                have H1 : (some false) = some r := by rw [if_neg (show ¬ (false = true) by decide)] at H; exact H
                clear H
                have H := H1
                clear H1
                obtain rfl := Option.some.inj H
                go_wp2
                repeat (go_quiet (fail); try go_wp2)
                go_ret
                exact ⟨by first | rfl | (simp [errW_none, errW_some] <;> rfl) | (simp [*, errW_none, errW_some] <;> rfl), by repeat (first | (with_reducible first | exact HB.out | apply below_alloc | apply pw_below_drewN | apply below_drew1) | exact HB.out)⟩
            · replace c16 := Bool.eq_false_iff.mpr c16
              subst c16
              have H1 : ((edit_Lines.f a0).bind fun t583 => (regletlaw20_PlaceKept.l0 kj11 a0 l1 t575 t577 t581 t583 0 0 (l1.length : Int) 0)) = some r := by rw [if_neg (show ¬ (false = true) by decide)] at H; exact H
              clear H
              have H := H1
              clear H1
              replace H := Option.bind_eq_some_iff.mp H
              obtain ⟨t583, A200, H⟩ := H
              replace H : (regletlaw20_PlaceKept.l0 kj11 a0 l1 t575 t577 t581 t583 0 0 (l1.length : Int) 0) = some r := H
              have A20 := Aside0.mk A200
              clear A200
              have H' := Aside0.mk H
              clear H
              go_wp2_with (first | (go_at_call 17; (with_reducible refine (edit_Lines.calls a0 t583 _ A20.out).mono ?_); rintro e w21 ⟨v584, rfl, ho0, hb⟩; have n0_ := Aside0.mk (Kd.R_below (by (with_reducible repeat (first | apply Kd.R_alloc | apply Kd.R_drewN | apply Kd.R_drew)); exact HO_6.out) hb); have n1_ := Aside0.mk (Kd.R_lower ho0 (below_size (by repeat (first | (with_reducible first | exact HB.out | apply below_alloc | apply pw_below_drewN | apply below_drew1) | exact HB.out)))); have n2_ := Aside0.mk (below_step (by repeat (first | (with_reducible first | exact HB.out | apply below_alloc | apply pw_below_drewN | apply below_drew1) | exact HB.out)) hb); clear HO_6; clear HB; have HO_6 := n0_; have HO585 := n1_; have HB := n2_; clear n0_ n1_ n2_; (try clear hb); (try clear hb2); (try clear hk); (try clear hi); (try clear ho0)))
              repeat (go_quiet (first | (go_at_call 17; (with_reducible refine (edit_Lines.calls a0 t583 _ A20.out).mono ?_); rintro e w21 ⟨v584, rfl, ho0, hb⟩; have n0_ := Aside0.mk (Kd.R_below (by (with_reducible repeat (first | apply Kd.R_alloc | apply Kd.R_drewN | apply Kd.R_drew)); exact HO_6.out) hb); have n1_ := Aside0.mk (Kd.R_lower ho0 (below_size (by repeat (first | (with_reducible first | exact HB.out | apply below_alloc | apply pw_below_drewN | apply below_drew1) | exact HB.out)))); have n2_ := Aside0.mk (below_step (by repeat (first | (with_reducible first | exact HB.out | apply below_alloc | apply pw_below_drewN | apply below_drew1) | exact HB.out)) hb); clear HO_6; clear HB; have HO_6 := n0_; have HO585 := n1_; have HB := n2_; clear n0_ n1_ n2_; (try clear hb); (try clear hb2); (try clear hk); (try clear hi); (try clear ho0))); try go_wp2_with (first | (go_at_call 17; (with_reducible refine (edit_Lines.calls a0 t583 _ A20.out).mono ?_); rintro e w21 ⟨v584, rfl, ho0, hb⟩; have n0_ := Aside0.mk (Kd.R_below (by (with_reducible repeat (first | apply Kd.R_alloc | apply Kd.R_drewN | apply Kd.R_drew)); exact HO_6.out) hb); have n1_ := Aside0.mk (Kd.R_lower ho0 (below_size (by repeat (first | (with_reducible first | exact HB.out | apply below_alloc | apply pw_below_drewN | apply below_drew1) | exact HB.out)))); have n2_ := Aside0.mk (below_step (by repeat (first | (with_reducible first | exact HB.out | apply below_alloc | apply pw_below_drewN | apply below_drew1) | exact HB.out)) hb); clear HO_6; clear HB; have HO_6 := n0_; have HO585 := n1_; have HB := n2_; clear n0_ n1_ n2_; (try clear hb); (try clear hb2); (try clear hk); (try clear hi); (try clear ho0))))
              go_loopg [11, 12, 65] kj11 (fun kq v11 v12 v65 w' => ∃ (x11_3 : Int) (x12_3 : Int) (x65_3 : Int), v11 = .int .i64 x11_3 ∧ v12 = .int .i64 x12_3 ∧ v65 = .int .i64 x65_3 ∧ Aside0 (regletlaw20_PlaceKept.l0 kq a0 l1 t575 t577 t581 t583 x11_3 x12_3 (l1.length : Int) x65_3 = some r) ∧ Aside0 (kq ≤ kj11) ∧ Aside0 (Kd.R k64 64 w' w.heap.size (fun _ => True) v579 t577) ∧ Aside0 (Kd.R Kd.string 9 w' w.heap.size (fun _ => True) v584 t583) ∧ Aside0 (Below w.heap.size w w'))
              case atStart => exact ⟨(0), (0), (0), (by first | rfl | (simp; done) | (simp [*]; done)), (by first | rfl | (simp; done) | (simp [*]; done)), (by first | rfl | (simp; done) | (simp [*]; done)), H', ⟨Nat.le_refl _⟩, ⟨by (with_reducible repeat (first | apply Kd.R_alloc | apply Kd.R_drewN | apply Kd.R_drew)); exact HO_6.out⟩, ⟨by (with_reducible repeat (first | apply Kd.R_alloc | apply Kd.R_drewN | apply Kd.R_drew)); exact HO585.out⟩, ⟨by repeat (first | (with_reducible first | exact HB.out | apply below_alloc | apply pw_below_drewN | apply below_drew1) | exact HB.out)⟩⟩
              case round =>
                clear H'
                try clear c1
                try clear p2
                try clear c7
                try clear c8
                try clear c8b0
                try clear c8b1
                try clear c9
                try clear c11
                try clear c15
                try clear c15b0
                try clear c15b1
                try clear c16
                try clear c17
                try clear c18
                try clear c18b0
                try clear c18b1
                try clear p2
                obtain ⟨x11_3, x12_3, x65_3, rfl, rfl, rfl, HA, HK3, HO_6, HO_10, HB⟩ := hrel
                cases gk with
                | zero => exact absurd HA.out (by simp [regletlaw20_PlaceKept.l0])
                | succ k3 =>
                  have H := HA.out
                  clear HA
                  simp only [regletlaw20_PlaceKept.l0] at H
                  by_cases c22 : x65_3 < (l1.length : Int)
                  · rw [if_pos c22] at H
                    have c22b0 : decide (x65_3 < (l1.length : Int)) = true := decide_eq_true c22
                    clear c22
                    by_cases c23 : 0 ≤ x65_3
                    · rw [if_pos c23] at H
                      have c23b0 : decide (0 ≤ x65_3) = true := decide_eq_true c23
                      clear c23
                      by_cases c24 : x65_3 < (l1.length : Int)
                      · rw [if_pos c24] at H
                        have c24b0 : decide (x65_3 < (l1.length : Int)) = true := decide_eq_true c24
                        clear c24
                        have H' := Aside0.mk H
                        clear H
                        have p586 : 0 ≤ (x65_3 : Int) := of_decide_eq_true (by first | (with_reducible assumption) | assumption)
                        have q586 : x65_3 < (l1.length : Int) := of_decide_eq_true (by first | (with_reducible assumption) | assumption)
                        obtain ⟨ad586, e586, hx586_0, hx586_1, hx586_2⟩ := at_T33 HR1.out x65_3 p586 q586
                        cases e586
                        replace hx586_0 := (HB.out.cell (World.block_lt_of_cell? w _ hx586_0)).trans hx586_0
                        replace hx586_1 := (HB.out.cell (World.block_lt_of_cell? w _ hx586_1)).trans hx586_1
                        replace hx586_2 := (HB.out.cell (World.block_lt_of_cell? w _ hx586_2)).trans hx586_2
                        replace p586 := eq_true p586
                        replace q586 := eq_true q586
                        go_wp2
                        repeat (go_quiet (fail); try go_wp2)
                        go_loopg [11, 14] k3 (fun kq v11 v14 w' => ∃ (x11_4 : Int) (x14_4 : Int), v11 = .int .i64 x11_4 ∧ v14 = .int .i64 x14_4 ∧ Aside0 (regletlaw20_PlaceKept.l1 kq a0 l1 t575 t577 t581 t583 x11_4 x12_3 x65_3 x14_4 (l1.length : Int) x65_3 = some r) ∧ Aside0 (kq ≤ k3) ∧ Aside0 (Kd.R k64 64 w' w.heap.size (fun _ => True) v579 t577) ∧ Aside0 (Kd.R Kd.string 9 w' w.heap.size (fun _ => True) v584 t583) ∧ Aside0 (Below w.heap.size w w'))
                        case atStart => exact ⟨(x11_3), ((rd_T33 l1 x65_3).f0), (by first | rfl | (simp; done) | (simp [*]; done)), (by first | rfl | (simp; done) | (simp [*]; done)), H', ⟨Nat.le_refl _⟩, ⟨by (with_reducible repeat (first | apply Kd.R_alloc | apply Kd.R_drewN | apply Kd.R_drew)); exact HO_6.out⟩, ⟨by (with_reducible repeat (first | apply Kd.R_alloc | apply Kd.R_drewN | apply Kd.R_drew)); exact HO_10.out⟩, ⟨by repeat (first | (with_reducible first | exact HB.out | apply below_alloc | apply pw_below_drewN | apply below_drew1) | exact HB.out)⟩⟩
                        case round =>
                          clear H'
                          try clear c1
                          try clear c2
                          try clear p2
                          try clear p5
                          try clear q5
                          try clear hx5
                          try clear c7
                          try clear c8
                          try clear c8b0
                          try clear c8b1
                          try clear c9
                          try clear c11
                          try clear c15
                          try clear c15b0
                          try clear c15b1
                          try clear c16
                          try clear c17
                          try clear c18
                          try clear c18b0
                          try clear c18b1
                          try clear c22
                          try clear c22b0
                          try clear c23
                          try clear c23b0
                          try clear c24
                          try clear c24b0
                          try clear hx586_0
                          try clear hx586_1
                          try clear hx586_2
                          try clear p2
                          try clear p586
                          try clear q586
                          obtain ⟨x11_4, x14_4, rfl, rfl, HA, HK4, HO_6, HO_10, HB⟩ := hrel
                          cases gk with
                          | zero => exact absurd HA.out (by simp [regletlaw20_PlaceKept.l1])
                          | succ k4 =>
                            have H := HA.out
                            clear HA
                            simp only [regletlaw20_PlaceKept.l1] at H
                            by_cases c25 : 0 ≤ x65_3
                            · rw [if_pos c25] at H
                              have c25b0 : decide (0 ≤ x65_3) = true := decide_eq_true c25
                              clear c25
                              by_cases c26 : x65_3 < (l1.length : Int)
                              · rw [if_pos c26] at H
                                have c26b0 : decide (x65_3 < (l1.length : Int)) = true := decide_eq_true c26
                                clear c26
                                by_cases c27 : x14_4 < ((rd_T33 l1 x65_3).f1)
                                · rw [if_pos c27] at H
                                  have c27b0 : decide (x14_4 < ((rd_T33 l1 x65_3).f1)) = true := decide_eq_true c27
                                  clear c27
                                  by_cases c28 : 0 ≤ x14_4
                                  · rw [if_pos c28] at H
                                    have c28b0 : decide (0 ≤ x14_4) = true := decide_eq_true c28
                                    clear c28
                                    by_cases c29 : x14_4 < (t583.length : Int)
                                    · rw [if_pos c29] at H
                                      have c29b0 : decide (x14_4 < (t583.length : Int)) = true := decide_eq_true c29
                                      clear c29
                                      have H' := Aside0.mk H
                                      clear H
                                      have p587 : 0 ≤ (x65_3 : Int) := of_decide_eq_true (by first | (with_reducible assumption) | assumption)
                                      have q587 : x65_3 < (l1.length : Int) := of_decide_eq_true (by first | (with_reducible assumption) | assumption)
                                      obtain ⟨ad587, e587, hx587_0, hx587_1, hx587_2⟩ := at_T33 HR1.out x65_3 p587 q587
                                      obtain rfl : ad586 = ad587 := (by injection e587)
                                      replace hx587_0 := (HB.out.cell (World.block_lt_of_cell? w _ hx587_0)).trans hx587_0
                                      replace hx587_1 := (HB.out.cell (World.block_lt_of_cell? w _ hx587_1)).trans hx587_1
                                      replace hx587_2 := (HB.out.cell (World.block_lt_of_cell? w _ hx587_2)).trans hx587_2
                                      replace p587 := eq_true p587
                                      replace q587 := eq_true q587
                                      obtain ⟨Ao30, co30, eo30⟩ := Kd.R_slice HO_10.out
                                      subst eo30
                                      have p588 : 0 ≤ (x14_4 : Int) := of_decide_eq_true (by first | (with_reducible assumption) | assumption)
                                      have q588 : x14_4 < (t583.length : Int) := of_decide_eq_true (by first | (with_reducible assumption) | assumption)
                                      obtain ⟨ad588, e588, hx588_0⟩ := Kd.at_string (Kd.R_reads' HO_10.out).2.2 x14_4 p588 q588
                                      cases e588
                                      replace p588 := eq_true p588
                                      replace q588 := eq_true q588
                                      go_wp2
                                      repeat (go_quiet (fail); try go_wp2)
                                      go_roundg k4
                                      case measure => have := HJ3.out; have := HJ11.out; have := HK3.out; have := HK4.out; omega
                                      case rel => exact ⟨(wrap64 (x11_4 + ((rdOf ByteArray.empty t583 x14_4).size : Int))), (wrap64 (x14_4 + 1)), (by first | rfl | (simp; done) | (simp [*]; done)), (by first | rfl | (simp; done) | (simp [*]; done)), H', ⟨by have := HJ3.out; have := HJ11.out; have := HK3.out; have := HK4.out; omega⟩, ⟨by (with_reducible repeat (first | apply Kd.R_alloc | apply Kd.R_drewN | apply Kd.R_drew)); exact HO_6.out⟩, ⟨by (with_reducible repeat (first | apply Kd.R_alloc | apply Kd.R_drewN | apply Kd.R_drew)); exact HO_10.out⟩, ⟨by repeat (first | (with_reducible first | exact HB.out | apply below_alloc | apply pw_below_drewN | apply below_drew1) | exact HB.out)⟩⟩
                                    · rw [if_neg c29] at H
                                      exact absurd H (by simp)
                                  · rw [if_neg c28] at H
                                    exact absurd H (by simp)
                                · rw [if_neg c27] at H
                                  have c27b0 : decide (x14_4 < ((rd_T33 l1 x65_3).f1)) = false := decide_eq_false c27
                                  clear c27
                                  have H' := Aside0.mk H
                                  clear H
                                  have p587 : 0 ≤ (x65_3 : Int) := of_decide_eq_true (by first | (with_reducible assumption) | assumption)
                                  have q587 : x65_3 < (l1.length : Int) := of_decide_eq_true (by first | (with_reducible assumption) | assumption)
                                  obtain ⟨ad587, e587, hx587_0, hx587_1, hx587_2⟩ := at_T33 HR1.out x65_3 p587 q587
                                  obtain rfl : ad586 = ad587 := (by injection e587)
                                  replace hx587_0 := (HB.out.cell (World.block_lt_of_cell? w _ hx587_0)).trans hx587_0
                                  replace hx587_1 := (HB.out.cell (World.block_lt_of_cell? w _ hx587_1)).trans hx587_1
                                  replace hx587_2 := (HB.out.cell (World.block_lt_of_cell? w _ hx587_2)).trans hx587_2
                                  replace p587 := eq_true p587
                                  replace q587 := eq_true q587
                                  have p589 : 0 ≤ (x65_3 : Int) := of_decide_eq_true (by first | (with_reducible assumption) | assumption)
                                  have q589 : x65_3 < (l1.length : Int) := of_decide_eq_true (by first | (with_reducible assumption) | assumption)
                                  obtain ⟨ad589, e589, hx589_0, hx589_1, hx589_2⟩ := at_T33 HR1.out x65_3 p589 q589
                                  obtain rfl : ad586 = ad589 := (by injection e589)
                                  replace hx589_0 := (HB.out.cell (World.block_lt_of_cell? w _ hx589_0)).trans hx589_0
                                  replace hx589_1 := (HB.out.cell (World.block_lt_of_cell? w _ hx589_1)).trans hx589_1
                                  replace hx589_2 := (HB.out.cell (World.block_lt_of_cell? w _ hx589_2)).trans hx589_2
                                  replace p589 := eq_true p589
                                  replace q589 := eq_true q589
                                  go_wp2
                                  repeat (go_quiet (fail); try go_wp2)
                                  go_roundg k4
                                  case measure => have := HJ3.out; have := HJ11.out; have := HK3.out; have := HK4.out; omega
                                  case rel => exact ⟨(x11_4), (wrap64 (x12_3 + (((rd_T33 l1 x65_3).f2).size : Int))), (wrap64 (x65_3 + 1)), (by first | rfl | (simp; done) | (simp [*]; done)), (by first | rfl | (simp; done) | (simp [*]; done)), (by first | rfl | (simp; done) | (simp [*]; done)), H', ⟨by have := HJ3.out; have := HJ11.out; have := HK3.out; have := HK4.out; omega⟩, ⟨by (with_reducible repeat (first | apply Kd.R_alloc | apply Kd.R_drewN | apply Kd.R_drew)); exact HO_6.out⟩, ⟨by (with_reducible repeat (first | apply Kd.R_alloc | apply Kd.R_drewN | apply Kd.R_drew)); exact HO_10.out⟩, ⟨by repeat (first | (with_reducible first | exact HB.out | apply below_alloc | apply pw_below_drewN | apply below_drew1) | exact HB.out)⟩⟩
                              · rw [if_neg c26] at H
                                exact absurd H (by simp)
                            · rw [if_neg c25] at H
                              exact absurd H (by simp)
                      · rw [if_neg c24] at H
                        exact absurd H (by simp)
                    · rw [if_neg c23] at H
                      exact absurd H (by simp)
                  · rw [if_neg c22] at H
                    have c22b0 : decide (x65_3 < (l1.length : Int)) = false := decide_eq_false c22
                    clear c22
                    have H' := Aside0.mk H
                    clear H
                    obtain ⟨Ao31, co31, eo31⟩ := Kd.R_slice HO_6.out
                    subst eo31
                    go_wp2
                    repeat (go_quiet (fail); try go_wp2)
                    go_loopg [15, 16, 100] k3 (fun kq v15 v16 v100 w' => ∃ (x15_4 : Int) (x16_4 : Int) (x100_4 : Int), v15 = .int .i64 x15_4 ∧ v16 = .int .i64 x16_4 ∧ v100 = .int .i64 x100_4 ∧ Aside0 (regletlaw20_PlaceKept.l2 kq a0 t575 t577 t581 x11_3 x12_3 x15_4 x16_4 (t577.length : Int) x100_4 = some r) ∧ Aside0 (kq ≤ k3) ∧ Aside0 (Kd.R k64 64 w' w.heap.size (fun _ => True) (.slice Ao31 t577.length co31) t577) ∧ Aside0 (Below w.heap.size w w'))
                    case atStart => exact ⟨(0), ((-1)), (0), (by first | rfl | (simp; done) | (simp [*]; done)), (by first | rfl | (simp; done) | (simp [*]; done)), (by first | rfl | (simp; done) | (simp [*]; done)), H', ⟨Nat.le_refl _⟩, ⟨by (with_reducible repeat (first | apply Kd.R_alloc | apply Kd.R_drewN | apply Kd.R_drew)); exact HO_6.out⟩, ⟨by repeat (first | (with_reducible first | exact HB.out | apply below_alloc | apply pw_below_drewN | apply below_drew1) | exact HB.out)⟩⟩
                    case round =>
                      clear H'
                      try clear c1
                      try clear c2
                      try clear p2
                      try clear p5
                      try clear q5
                      try clear hx5
                      try clear p6
                      try clear c7
                      try clear c8
                      try clear c8b0
                      try clear c8b1
                      try clear c9
                      try clear c11
                      try clear c15
                      try clear c15b0
                      try clear c15b1
                      try clear c16
                      try clear c17
                      try clear c18
                      try clear c18b0
                      try clear c18b1
                      try clear c22
                      try clear c22b0
                      try clear c23
                      try clear c23b0
                      try clear c24
                      try clear c24b0
                      try clear c25
                      try clear c25b0
                      try clear c26
                      try clear c26b0
                      try clear c27
                      try clear c27b0
                      try clear c28
                      try clear c28b0
                      try clear c29
                      try clear c29b0
                      try clear hx586_0
                      try clear hx586_1
                      try clear hx586_2
                      try clear hx587_0
                      try clear hx587_1
                      try clear hx587_2
                      try clear hx588_0
                      try clear hx589_0
                      try clear hx589_1
                      try clear hx589_2
                      try clear p2
                      try clear p5
                      try clear p586
                      try clear p587
                      try clear p588
                      try clear p589
                      try clear q5
                      try clear q586
                      try clear q587
                      try clear q588
                      try clear q589
                      obtain ⟨x15_4, x16_4, x100_4, rfl, rfl, rfl, HA, HK4, HO_6, HB⟩ := hrel
                      cases gk with
                      | zero => exact absurd HA.out (by simp [regletlaw20_PlaceKept.l2])
                      | succ k4 =>
                        have H := HA.out
                        clear HA
                        simp only [regletlaw20_PlaceKept.l2] at H
                        by_cases c32 : x100_4 < (t577.length : Int)
                        · rw [if_pos c32] at H
                          have c32b0 : decide (x100_4 < (t577.length : Int)) = true := decide_eq_true c32
                          clear c32
                          by_cases c33 : 0 ≤ x100_4
                          · rw [if_pos c33] at H
                            have c33b0 : decide (0 ≤ x100_4) = true := decide_eq_true c33
                            clear c33
                            by_cases c34 : x100_4 < (t577.length : Int)
                            · rw [if_pos c34] at H
                              have c34b0 : decide (x100_4 < (t577.length : Int)) = true := decide_eq_true c34
                              clear c34
                              by_cases c35 : ((rd_T64 t577 x100_4).f0) ≤ x16_4
                              · rw [if_pos c35] at H
                                have c35b0 : decide (((rd_T64 t577 x100_4).f0) ≤ x16_4) = true := decide_eq_true c35
                                clear c35
                                obtain rfl := Option.some.inj H
                                have p590 : 0 ≤ (x100_4 : Int) := of_decide_eq_true (by first | (with_reducible assumption) | assumption)
                                have q590 : x100_4 < (t577.length : Int) := of_decide_eq_true (by first | (with_reducible assumption) | assumption)
                                obtain ⟨ad590, e590, hx590_0, hx590_1⟩ := at_T64 (Kd.R_reads' HO_6.out).2.2 x100_4 p590 q590
                                cases e590
                                replace p590 := eq_true p590
                                replace q590 := eq_true q590
                                go_wp2
                                repeat (go_quiet (fail); try go_wp2)
                                go_ret
                                exact ⟨by first | rfl | (simp [errW_none, errW_some] <;> rfl) | (simp [*, errW_none, errW_some] <;> rfl), by repeat (first | (with_reducible first | exact HB.out | apply below_alloc | apply pw_below_drewN | apply below_drew1) | exact HB.out)⟩
                              · rw [if_neg c35] at H
                                have c35b0 : decide (((rd_T64 t577 x100_4).f0) ≤ x16_4) = false := decide_eq_false c35
                                clear c35
                                by_cases c36 : ((rd_T64 t577 x100_4).f1) ≤ ((rd_T64 t577 x100_4).f0)
                                · rw [if_pos c36] at H
                                  have c36b0 : decide (((rd_T64 t577 x100_4).f1) ≤ ((rd_T64 t577 x100_4).f0)) = true := decide_eq_true c36
                                  clear c36
                                  obtain rfl := Option.some.inj H
                                  have p590 : 0 ≤ (x100_4 : Int) := of_decide_eq_true (by first | (with_reducible assumption) | assumption)
                                  have q590 : x100_4 < (t577.length : Int) := of_decide_eq_true (by first | (with_reducible assumption) | assumption)
                                  obtain ⟨ad590, e590, hx590_0, hx590_1⟩ := at_T64 (Kd.R_reads' HO_6.out).2.2 x100_4 p590 q590
                                  cases e590
                                  replace p590 := eq_true p590
                                  replace q590 := eq_true q590
                                  have p591 : 0 ≤ (x100_4 : Int) := of_decide_eq_true (by first | (with_reducible assumption) | assumption)
                                  have q591 : x100_4 < (t577.length : Int) := of_decide_eq_true (by first | (with_reducible assumption) | assumption)
                                  obtain ⟨ad591, e591, hx591_0, hx591_1⟩ := at_T64 (Kd.R_reads' HO_6.out).2.2 x100_4 p591 q591
                                  obtain rfl : ad590 = ad591 := (by injection e591)
                                  replace p591 := eq_true p591
                                  replace q591 := eq_true q591
                                  have p592 : 0 ≤ (x100_4 : Int) := of_decide_eq_true (by first | (with_reducible assumption) | assumption)
                                  have q592 : x100_4 < (t577.length : Int) := of_decide_eq_true (by first | (with_reducible assumption) | assumption)
                                  obtain ⟨ad592, e592, hx592_0, hx592_1⟩ := at_T64 (Kd.R_reads' HO_6.out).2.2 x100_4 p592 q592
                                  obtain rfl : ad590 = ad592 := (by injection e592)
                                  replace p592 := eq_true p592
                                  replace q592 := eq_true q592
                                  go_wp2
                                  repeat (go_quiet (fail); try go_wp2)
                                  go_ret
                                  exact ⟨by first | rfl | (simp [errW_none, errW_some] <;> rfl) | (simp [*, errW_none, errW_some] <;> rfl), by repeat (first | (with_reducible first | exact HB.out | apply below_alloc | apply pw_below_drewN | apply below_drew1) | exact HB.out)⟩
                                · rw [if_neg c36] at H
                                  have c36b0 : decide (((rd_T64 t577 x100_4).f1) ≤ ((rd_T64 t577 x100_4).f0)) = false := decide_eq_false c36
                                  clear c36
                                  by_cases c37 : ((rd_T64 t577 x100_4).f1) > (a0.size : Int)
                                  · rw [if_pos c37] at H
                                    have c37b0 : decide ((a0.size : Int) < ((rd_T64 t577 x100_4).f1)) = true := decide_eq_true c37
                                    clear c37
                                    obtain rfl := Option.some.inj H
                                    have p590 : 0 ≤ (x100_4 : Int) := of_decide_eq_true (by first | (with_reducible assumption) | assumption)
                                    have q590 : x100_4 < (t577.length : Int) := of_decide_eq_true (by first | (with_reducible assumption) | assumption)
                                    obtain ⟨ad590, e590, hx590_0, hx590_1⟩ := at_T64 (Kd.R_reads' HO_6.out).2.2 x100_4 p590 q590
                                    cases e590
                                    replace p590 := eq_true p590
                                    replace q590 := eq_true q590
                                    have p591 : 0 ≤ (x100_4 : Int) := of_decide_eq_true (by first | (with_reducible assumption) | assumption)
                                    have q591 : x100_4 < (t577.length : Int) := of_decide_eq_true (by first | (with_reducible assumption) | assumption)
                                    obtain ⟨ad591, e591, hx591_0, hx591_1⟩ := at_T64 (Kd.R_reads' HO_6.out).2.2 x100_4 p591 q591
                                    obtain rfl : ad590 = ad591 := (by injection e591)
                                    replace p591 := eq_true p591
                                    replace q591 := eq_true q591
                                    have p592 : 0 ≤ (x100_4 : Int) := of_decide_eq_true (by first | (with_reducible assumption) | assumption)
                                    have q592 : x100_4 < (t577.length : Int) := of_decide_eq_true (by first | (with_reducible assumption) | assumption)
                                    obtain ⟨ad592, e592, hx592_0, hx592_1⟩ := at_T64 (Kd.R_reads' HO_6.out).2.2 x100_4 p592 q592
                                    obtain rfl : ad590 = ad592 := (by injection e592)
                                    replace p592 := eq_true p592
                                    replace q592 := eq_true q592
                                    have p593 : 0 ≤ (x100_4 : Int) := of_decide_eq_true (by first | (with_reducible assumption) | assumption)
                                    have q593 : x100_4 < (t577.length : Int) := of_decide_eq_true (by first | (with_reducible assumption) | assumption)
                                    obtain ⟨ad593, e593, hx593_0, hx593_1⟩ := at_T64 (Kd.R_reads' HO_6.out).2.2 x100_4 p593 q593
                                    obtain rfl : ad590 = ad593 := (by injection e593)
                                    replace p593 := eq_true p593
                                    replace q593 := eq_true q593
                                    go_wp2
                                    repeat (go_quiet (fail); try go_wp2)
                                    go_ret
                                    exact ⟨by first | rfl | (simp [errW_none, errW_some] <;> rfl) | (simp [*, errW_none, errW_some] <;> rfl), by repeat (first | (with_reducible first | exact HB.out | apply below_alloc | apply pw_below_drewN | apply below_drew1) | exact HB.out)⟩
                                  · rw [if_neg c37] at H
                                    have c37b0 : decide ((a0.size : Int) < ((rd_T64 t577 x100_4).f1)) = false := decide_eq_false c37
                                    clear c37
                                    have H' := Aside0.mk H
                                    clear H
                                    have p590 : 0 ≤ (x100_4 : Int) := of_decide_eq_true (by first | (with_reducible assumption) | assumption)
                                    have q590 : x100_4 < (t577.length : Int) := of_decide_eq_true (by first | (with_reducible assumption) | assumption)
                                    obtain ⟨ad590, e590, hx590_0, hx590_1⟩ := at_T64 (Kd.R_reads' HO_6.out).2.2 x100_4 p590 q590
                                    cases e590
                                    replace p590 := eq_true p590
                                    replace q590 := eq_true q590
                                    have p591 : 0 ≤ (x100_4 : Int) := of_decide_eq_true (by first | (with_reducible assumption) | assumption)
                                    have q591 : x100_4 < (t577.length : Int) := of_decide_eq_true (by first | (with_reducible assumption) | assumption)
                                    obtain ⟨ad591, e591, hx591_0, hx591_1⟩ := at_T64 (Kd.R_reads' HO_6.out).2.2 x100_4 p591 q591
                                    obtain rfl : ad590 = ad591 := (by injection e591)
                                    replace p591 := eq_true p591
                                    replace q591 := eq_true q591
                                    have p592 : 0 ≤ (x100_4 : Int) := of_decide_eq_true (by first | (with_reducible assumption) | assumption)
                                    have q592 : x100_4 < (t577.length : Int) := of_decide_eq_true (by first | (with_reducible assumption) | assumption)
                                    obtain ⟨ad592, e592, hx592_0, hx592_1⟩ := at_T64 (Kd.R_reads' HO_6.out).2.2 x100_4 p592 q592
                                    obtain rfl : ad590 = ad592 := (by injection e592)
                                    replace p592 := eq_true p592
                                    replace q592 := eq_true q592
                                    have p593 : 0 ≤ (x100_4 : Int) := of_decide_eq_true (by first | (with_reducible assumption) | assumption)
                                    have q593 : x100_4 < (t577.length : Int) := of_decide_eq_true (by first | (with_reducible assumption) | assumption)
                                    obtain ⟨ad593, e593, hx593_0, hx593_1⟩ := at_T64 (Kd.R_reads' HO_6.out).2.2 x100_4 p593 q593
                                    obtain rfl : ad590 = ad593 := (by injection e593)
                                    replace p593 := eq_true p593
                                    replace q593 := eq_true q593
                                    have p594 : 0 ≤ (x100_4 : Int) := of_decide_eq_true (by first | (with_reducible assumption) | assumption)
                                    have q594 : x100_4 < (t577.length : Int) := of_decide_eq_true (by first | (with_reducible assumption) | assumption)
                                    obtain ⟨ad594, e594, hx594_0, hx594_1⟩ := at_T64 (Kd.R_reads' HO_6.out).2.2 x100_4 p594 q594
                                    obtain rfl : ad590 = ad594 := (by injection e594)
                                    replace p594 := eq_true p594
                                    replace q594 := eq_true q594
                                    have p595 : 0 ≤ (x100_4 : Int) := of_decide_eq_true (by first | (with_reducible assumption) | assumption)
                                    have q595 : x100_4 < (t577.length : Int) := of_decide_eq_true (by first | (with_reducible assumption) | assumption)
                                    obtain ⟨ad595, e595, hx595_0, hx595_1⟩ := at_T64 (Kd.R_reads' HO_6.out).2.2 x100_4 p595 q595
                                    obtain rfl : ad590 = ad595 := (by injection e595)
                                    replace p595 := eq_true p595
                                    replace q595 := eq_true q595
                                    have p596 : 0 ≤ (x100_4 : Int) := of_decide_eq_true (by first | (with_reducible assumption) | assumption)
                                    have q596 : x100_4 < (t577.length : Int) := of_decide_eq_true (by first | (with_reducible assumption) | assumption)
                                    obtain ⟨ad596, e596, hx596_0, hx596_1⟩ := at_T64 (Kd.R_reads' HO_6.out).2.2 x100_4 p596 q596
                                    obtain rfl : ad590 = ad596 := (by injection e596)
                                    replace p596 := eq_true p596
                                    replace q596 := eq_true q596
                                    go_wp2
                                    repeat (go_quiet (fail); try go_wp2)
                                    go_roundg k4
                                    case measure => have := HJ3.out; have := HJ11.out; have := HK3.out; have := HK4.out; omega
                                    case rel => exact ⟨(wrap64 ((wrap64 (x15_4 + ((rd_T64 t577 x100_4).f1))) - ((rd_T64 t577 x100_4).f0))), ((rd_T64 t577 x100_4).f1), (wrap64 (x100_4 + 1)), (by first | rfl | (simp; done) | (simp [*]; done)), (by first | rfl | (simp; done) | (simp [*]; done)), (by first | rfl | (simp; done) | (simp [*]; done)), H', ⟨by have := HJ3.out; have := HJ11.out; have := HK3.out; have := HK4.out; omega⟩, ⟨by (with_reducible repeat (first | apply Kd.R_alloc | apply Kd.R_drewN | apply Kd.R_drew)); exact HO_6.out⟩, ⟨by repeat (first | (with_reducible first | exact HB.out | apply below_alloc | apply pw_below_drewN | apply below_drew1) | exact HB.out)⟩⟩
                            · rw [if_neg c34] at H
                              exact absurd H (by simp)
                          · rw [if_neg c33] at H
                            exact absurd H (by simp)
                        · rw [if_neg c32] at H
                          have c32b0 : decide (x100_4 < (t577.length : Int)) = false := decide_eq_false c32
                          clear c32
                          by_cases c38 : t575 = true
                          · subst c38
                            have H1 : (if x15_4 = (wrap64 ((a0.size : Int) - x11_3)) then (some ((t581.size : Int) == (wrap64 (x15_4 + x12_3)))) else (some false)) = some r := by rw [if_pos rfl] at H; exact H
                            clear H
                            have H := H1
                            clear H1
                            by_cases c39 : x15_4 = (wrap64 ((a0.size : Int) - x11_3))
                            · rw [if_pos c39] at H
                              have c39b0 : (x15_4 == (wrap64 ((a0.size : Int) - x11_3))) = true := beq_iff_eq.mpr c39
                              have c39b1 : (x15_4 != (wrap64 ((a0.size : Int) - x11_3))) = false := bne_eq_false_iff_eq.mpr c39
                              clear c39
                              obtain rfl := Option.some.inj H
                              go_wp2
                              repeat (go_quiet (fail); try go_wp2)
                              go_ret
                              exact ⟨by first | rfl | (simp [errW_none, errW_some] <;> rfl) | (simp [*, errW_none, errW_some] <;> rfl), by repeat (first | (with_reducible first | exact HB.out | apply below_alloc | apply pw_below_drewN | apply below_drew1) | exact HB.out)⟩
                            · rw [if_neg c39] at H
                              have c39b0 : (x15_4 == (wrap64 ((a0.size : Int) - x11_3))) = false := beq_eq_false_iff_ne.mpr c39
                              have c39b1 : (x15_4 != (wrap64 ((a0.size : Int) - x11_3))) = true := bne_iff_ne.mpr c39
                              obtain rfl := Option.some.inj H
                              go_wp2
                              repeat (go_quiet (fail); try go_wp2)
                              go_ret
                              exact ⟨by first | rfl | (simp [errW_none, errW_some] <;> rfl) | (simp [*, errW_none, errW_some] <;> rfl), by repeat (first | (with_reducible first | exact HB.out | apply below_alloc | apply pw_below_drewN | apply below_drew1) | exact HB.out)⟩
                          · replace c38 := Bool.eq_false_iff.mpr c38
                            subst c38
                            have H1 : (some false) = some r := by rw [if_neg (show ¬ (false = true) by decide)] at H; exact H
                            clear H
                            have H := H1
                            clear H1
                            obtain rfl := Option.some.inj H
                            go_wp2
                            repeat (go_quiet (fail); try go_wp2)
                            go_ret
                            exact ⟨by first | rfl | (simp [errW_none, errW_some] <;> rfl) | (simp [*, errW_none, errW_some] <;> rfl), by repeat (first | (with_reducible first | exact HB.out | apply below_alloc | apply pw_below_drewN | apply below_drew1) | exact HB.out)⟩

end Go.Proofs.Ytmecmmpgkcileaa.Z
