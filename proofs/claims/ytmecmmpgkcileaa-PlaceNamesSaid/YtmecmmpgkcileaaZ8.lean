/- Written by a program out of the translation; Lean checks it. -/
import Derived.Test.YtmecmmpgkcileaaZ0
import Derived.Test.YtmecmmpgkcileaaZ7
namespace Go.Proofs.Ytmecmmpgkcileaa.Z
open Go.RowKit Go.Proofs.YtmecmmpgkcileaaW.PrintWords Go.Proofs.YtmecmmpgkcileaaW.PrintLast Go.Proofs.YtmecmmpgkcileaaW.PrintMore
attribute [local go_sem] max2_int min2_int max_two min_two max_three min_three max_four min_four   -- for this text's walks alone
set_option linter.unusedVariables false
set_option linter.unusedSimpArgs false

/-! ### regletref18_Fit: function 52 -/
mutual
def regletref18_Fit.l0 : Nat → List ByteArray → List (S33) → Int → Option (Bool)
  | 0, _, _, _ => none
  | k + 1, x0, x1, x5 => if x5 < (x1.length : Int) then (if 0 ≤ x5 then (if ((rd_T33 x1 x5).f0) < 0 then (regletref18_Fit.j1 k x0 x1 x5 true ((rd_T33 x1 x5).f0) ((rd_T33 x1 x5).f1) ((rd_T33 x1 x5).f2)) else (if ((rd_T33 x1 x5).f1) < ((rd_T33 x1 x5).f0) then (regletref18_Fit.j1 k x0 x1 x5 true ((rd_T33 x1 x5).f0) ((rd_T33 x1 x5).f1) ((rd_T33 x1 x5).f2)) else (if ((rd_T33 x1 x5).f1) > (x0.length : Int) then (regletref18_Fit.j1 k x0 x1 x5 true ((rd_T33 x1 x5).f0) ((rd_T33 x1 x5).f1) ((rd_T33 x1 x5).f2)) else (if ((rd_T33 x1 x5).f0) = ((rd_T33 x1 x5).f1) then (if ((rd_T33 x1 x5).f2).toList = ([] : List UInt8) then (regletref18_Fit.j1 k x0 x1 x5 true ((rd_T33 x1 x5).f0) ((rd_T33 x1 x5).f1) ((rd_T33 x1 x5).f2)) else (if x5 > 0 then (if 0 ≤ (wrap64 (x5 - 1)) then (if (wrap64 (x5 - 1)) < (x1.length : Int) then (regletref18_Fit.j1 k x0 x1 x5 (decide (((rd_T33 x1 x5).f0) ≤ ((rd_T33 x1 (wrap64 (x5 - 1))).f1))) ((rd_T33 x1 x5).f0) ((rd_T33 x1 x5).f1) ((rd_T33 x1 x5).f2)) else (none)) else (none)) else (regletref18_Fit.j1 k x0 x1 x5 false ((rd_T33 x1 x5).f0) ((rd_T33 x1 x5).f1) ((rd_T33 x1 x5).f2)))) else (if x5 > 0 then (if 0 ≤ (wrap64 (x5 - 1)) then (if (wrap64 (x5 - 1)) < (x1.length : Int) then (regletref18_Fit.j1 k x0 x1 x5 (decide (((rd_T33 x1 x5).f0) ≤ ((rd_T33 x1 (wrap64 (x5 - 1))).f1))) ((rd_T33 x1 x5).f0) ((rd_T33 x1 x5).f1) ((rd_T33 x1 x5).f2)) else (none)) else (none)) else (regletref18_Fit.j1 k x0 x1 x5 false ((rd_T33 x1 x5).f0) ((rd_T33 x1 x5).f1) ((rd_T33 x1 x5).f2))))))) else (none)) else (some true)
def regletref18_Fit.j1 : Nat → List ByteArray → List (S33) → Int → Bool → Int → Int → ByteArray → Option (Bool)
  | 0, _, _, _, _, _, _, _ => none
  | k + 1, x0, x1, x5, x60, x162000, x162001, x162002 => if x60 = true then (some false) else (if x162001 < (x0.length : Int) then ((regletref18_whole.f x162002).bind fun t164 => (if t164 = true then (if x162000 = (x0.length : Int) then (if (x0.length : Int) > 0 then (if 0 ≤ (wrap64 ((x0.length : Int) - 1)) then (if (wrap64 ((x0.length : Int) - 1)) < (x0.length : Int) then ((regletref18_whole.f (rdOf ByteArray.empty x0 (wrap64 ((x0.length : Int) - 1)))).bind fun t166 => (if t166 = true then (regletref18_Fit.l0 k x0 x1 (wrap64 (x5 + 1))) else (some false))) else (none)) else (none)) else (regletref18_Fit.l0 k x0 x1 (wrap64 (x5 + 1)))) else (regletref18_Fit.l0 k x0 x1 (wrap64 (x5 + 1)))) else (some false))) else (if x162000 = (x0.length : Int) then (if (x0.length : Int) > 0 then (if 0 ≤ (wrap64 ((x0.length : Int) - 1)) then (if (wrap64 ((x0.length : Int) - 1)) < (x0.length : Int) then ((regletref18_whole.f (rdOf ByteArray.empty x0 (wrap64 ((x0.length : Int) - 1)))).bind fun t168 => (if t168 = true then (regletref18_Fit.l0 k x0 x1 (wrap64 (x5 + 1))) else (some false))) else (none)) else (none)) else (regletref18_Fit.l0 k x0 x1 (wrap64 (x5 + 1)))) else (regletref18_Fit.l0 k x0 x1 (wrap64 (x5 + 1)))))
end
def regletref18_Fit.f (k : Nat) (l0 : List ByteArray) (l1 : List (S33)) : Option (Bool) := regletref18_Fit.l0 k l0 l1 0
theorem regletref18_Fit.mono_l : ∀ k, (∀ y0 y1 y2, LeO (regletref18_Fit.l0 k y0 y1 y2) (regletref18_Fit.l0 (k + 1) y0 y1 y2)) ∧ (∀ y0 y1 y2 y3 y4 y5 y6, LeO (regletref18_Fit.j1 k y0 y1 y2 y3 y4 y5 y6) (regletref18_Fit.j1 (k + 1) y0 y1 y2 y3 y4 y5 y6))
  | 0 => ⟨fun _ _ _ r h => by simp [regletref18_Fit.l0] at h, fun _ _ _ _ _ _ _ r h => by simp [regletref18_Fit.j1] at h⟩
  | k + 1 => by
    obtain ⟨ih0, ih1⟩ := regletref18_Fit.mono_l k
    refine ⟨?_, ?_⟩
    · intro y0 y1 y2
      unfold regletref18_Fit.l0
      repeat' first
      | (with_reducible exact ih0 _ _ _)
      | (with_reducible exact ih1 _ _ _ _ _ _ _)
      | (with_reducible exact LeO.refl _)
      | (with_reducible exact LeO.none _)
      | (with_reducible refine LeO.ite ?_ ?_)
      | (with_reducible refine LeO.bind ?_ (fun _ => ?_))
      | exact ih0 _ _ _
      | exact ih1 _ _ _ _ _ _ _
      | exact LeO.none _
      | refine LeO.ite ?_ ?_
      | refine LeO.bind ?_ (fun _ => ?_)
    · intro y0 y1 y2 y3 y4 y5 y6
      unfold regletref18_Fit.j1
      repeat' first
      | (with_reducible exact ih0 _ _ _)
      | (with_reducible exact ih1 _ _ _ _ _ _ _)
      | (with_reducible exact LeO.refl _)
      | (with_reducible exact LeO.none _)
      | (with_reducible refine LeO.ite ?_ ?_)
      | (with_reducible refine LeO.bind ?_ (fun _ => ?_))
      | exact ih0 _ _ _
      | exact ih1 _ _ _ _ _ _ _
      | exact LeO.none _
      | refine LeO.ite ?_ ?_
      | refine LeO.bind ?_ (fun _ => ?_)
theorem regletref18_Fit.mono : ∀ a0 a1 k, LeO (regletref18_Fit.f k a0 a1) (regletref18_Fit.f (k + 1) a0 a1) := by
  intro a0 a1 k
  obtain ⟨ih0, ih1⟩ := regletref18_Fit.mono_l k
  unfold regletref18_Fit.f
  repeat' first
      | (with_reducible exact ih0 _ _ _)
      | (with_reducible exact ih1 _ _ _ _ _ _ _)
      | (with_reducible exact LeO.refl _)
      | (with_reducible exact LeO.none _)
      | (with_reducible refine LeO.ite ?_ ?_)
      | (with_reducible refine LeO.bind ?_ (fun _ => ?_))
      | exact ih0 _ _ _
      | exact ih1 _ _ _ _ _ _ _
      | exact LeO.none _
      | refine LeO.ite ?_ ?_
      | refine LeO.bind ?_ (fun _ => ?_)
set_option maxHeartbeats 8000000 in
set_option maxRecDepth 100000 in
theorem regletref18_Fit.calls (k : Nat) (A0 : Option Addr) (c0 : Nat) (l0 : List ByteArray) (A1 : Option Addr) (c1 : Nat) (l1 : List (S33)) (r : Bool) (w : World) (hr0 : Kd.C Kd.string w A0 l0.length l0) (hc0 : l0.length ≤ c0) (hr1 : Kd.C k33 w A1 l1.length l1) (hc1 : l1.length ≤ c1) (h : regletref18_Fit.f k l0 l1 = some r) :
    Calls Try.prog 52 #[.slice A0 l0.length c0, .slice A1 l1.length c1] w fun e w' => e = .returned (.bool r) ∧ Below w.heap.size w w' := by
  have hu33 := Try.underlying33
  have HR0 := Aside0.mk hr0
  have HC0 := Aside0.mk hc0
  clear hr0 hc0
  have HR1 := Aside0.mk hr1
  have HC1 := Aside0.mk hc1
  clear hr1 hc1
  have HB := Aside0.mk (Below.refl w.heap.size w)
  have H : (regletref18_Fit.l0 k l0 l1 0) = some r := h
  clear h
  have H' := Aside0.mk H
  clear H
  go_enter Try.func52, Try.ntmps52
  go_wp2
  repeat (go_quiet (fail); try go_wp2)
  go_loopg [5] k (fun kq v5 w' => ∃ (x5_1 : Int), v5 = .int .i64 x5_1 ∧ Aside0 (regletref18_Fit.l0 kq l0 l1 x5_1 = some r) ∧ Aside0 (kq ≤ k) ∧ Aside0 (Below w.heap.size w w'))
  case atStart => exact ⟨(0), (by first | rfl | (simp; done) | (simp [*]; done)), H', ⟨Nat.le_refl _⟩, ⟨by repeat (first | (with_reducible first | exact HB.out | apply below_alloc | apply pw_below_drewN | apply below_drew1) | exact HB.out)⟩⟩
  case round =>
    clear H'
    try clear c1
    try clear p2
    obtain ⟨x5_1, rfl, HA, HK1, HB⟩ := hrel
    cases gk with
    | zero => exact absurd HA.out (by simp [regletref18_Fit.l0])
    | succ k1 =>
      have H := HA.out
      clear HA
      simp only [regletref18_Fit.l0] at H
      by_cases c3 : x5_1 < (l1.length : Int)
      · rw [if_pos c3] at H
        have c3b0 : decide (x5_1 < (l1.length : Int)) = true := decide_eq_true c3
        clear c3
        by_cases c4 : 0 ≤ x5_1
        · rw [if_pos c4] at H
          have c4b0 : decide (0 ≤ x5_1) = true := decide_eq_true c4
          clear c4
          have HC5 := Aside0.mk H
          clear H
          have p160 : 0 ≤ (x5_1 : Int) := of_decide_eq_true (by first | (with_reducible assumption) | assumption)
          have q160 : x5_1 < (l1.length : Int) := of_decide_eq_true (by first | (with_reducible assumption) | assumption)
          obtain ⟨ad160, e160, hx160_0, hx160_1, hx160_2⟩ := at_T33 HR1.out x5_1 p160 q160
          cases e160
          replace hx160_0 := (HB.out.cell (World.block_lt_of_cell? w _ hx160_0)).trans hx160_0
          replace hx160_1 := (HB.out.cell (World.block_lt_of_cell? w _ hx160_1)).trans hx160_1
          replace hx160_2 := (HB.out.cell (World.block_lt_of_cell? w _ hx160_2)).trans hx160_2
          replace p160 := eq_true p160
          replace q160 := eq_true q160
          go_upto_region 5 with (first | ((with_reducible refine gate_dst (N := 6) rfl ?_); (try (refine gate_guard (by rfl) ?_; dsimp only)); refine box_event ?hg (N := 6) ?hd (cs := #[.int .i64 0, .int .i64 0, .string (⟨#[]⟩ : ByteArray)]) (t := 33) ?hr ?_; (case hd => rfl); (case hg => rfl); (case hr => first | (go_simp; done) | (go_simp; rfl)); intro gb161 hg w6 hbox hb; have n0_ := Aside0.mk (below_step (by repeat (first | (with_reducible first | exact HB.out | apply below_alloc | apply pw_below_drewN | apply below_drew1) | exact HB.out)) hb); have n1_ := Aside0.mk (hbox); have n2_ := Aside0.mk ((by rw [hg]; exact (below_size (by repeat (first | (with_reducible first | exact HB.out | apply below_alloc | apply pw_below_drewN | apply below_drew1) | exact HB.out))) : w.heap.size ≤ gb161)); have n3_ := Aside0.mk ((by rw [hg]; exact (below_size (by repeat (first | (with_reducible first | exact HB.out | apply below_alloc | apply pw_below_drewN | apply below_drew1) | exact HB.out))) : w.heap.size ≤ gb161)); clear HB; have HB := n0_; have BK161 := n1_; have GW161 := n2_; have GE161 := n3_; clear n0_ n1_ n2_ n3_; clear hb hbox hg; have hcz7_0 : w6.cell? ⟨gb161, 0, none⟩ = some (.int .i64 0) := (blk_cell BK161.out 0).trans rfl; have hcz7_1 : w6.cell? ⟨gb161, 1, none⟩ = some (.int .i64 0) := (blk_cell BK161.out 1).trans rfl; have hcz7_2 : w6.cell? ⟨gb161, 2, none⟩ = some (.string (⟨#[]⟩ : ByteArray)) := (blk_cell BK161.out 2).trans rfl; have hfz7_0 := blk_frozen BK161.out 0; have hfz7_1 := blk_frozen BK161.out 1; have hfz7_2 := blk_frozen BK161.out 2))
          repeat (go_quiet (first | ((with_reducible refine gate_dst (N := 6) rfl ?_); (try (refine gate_guard (by rfl) ?_; dsimp only)); refine box_event ?hg (N := 6) ?hd (cs := #[.int .i64 0, .int .i64 0, .string (⟨#[]⟩ : ByteArray)]) (t := 33) ?hr ?_; (case hd => rfl); (case hg => rfl); (case hr => first | (go_simp; done) | (go_simp; rfl)); intro gb161 hg w6 hbox hb; have n0_ := Aside0.mk (below_step (by repeat (first | (with_reducible first | exact HB.out | apply below_alloc | apply pw_below_drewN | apply below_drew1) | exact HB.out)) hb); have n1_ := Aside0.mk (hbox); have n2_ := Aside0.mk ((by rw [hg]; exact (below_size (by repeat (first | (with_reducible first | exact HB.out | apply below_alloc | apply pw_below_drewN | apply below_drew1) | exact HB.out))) : w.heap.size ≤ gb161)); have n3_ := Aside0.mk ((by rw [hg]; exact (below_size (by repeat (first | (with_reducible first | exact HB.out | apply below_alloc | apply pw_below_drewN | apply below_drew1) | exact HB.out))) : w.heap.size ≤ gb161)); clear HB; have HB := n0_; have BK161 := n1_; have GW161 := n2_; have GE161 := n3_; clear n0_ n1_ n2_ n3_; clear hb hbox hg; have hcz7_0 : w6.cell? ⟨gb161, 0, none⟩ = some (.int .i64 0) := (blk_cell BK161.out 0).trans rfl; have hcz7_1 : w6.cell? ⟨gb161, 1, none⟩ = some (.int .i64 0) := (blk_cell BK161.out 1).trans rfl; have hcz7_2 : w6.cell? ⟨gb161, 2, none⟩ = some (.string (⟨#[]⟩ : ByteArray)) := (blk_cell BK161.out 2).trans rfl; have hfz7_0 := blk_frozen BK161.out 0; have hfz7_1 := blk_frozen BK161.out 1; have hfz7_2 := blk_frozen BK161.out 2)); go_upto_region 5 with (first | ((with_reducible refine gate_dst (N := 6) rfl ?_); (try (refine gate_guard (by rfl) ?_; dsimp only)); refine box_event ?hg (N := 6) ?hd (cs := #[.int .i64 0, .int .i64 0, .string (⟨#[]⟩ : ByteArray)]) (t := 33) ?hr ?_; (case hd => rfl); (case hg => rfl); (case hr => first | (go_simp; done) | (go_simp; rfl)); intro gb161 hg w6 hbox hb; have n0_ := Aside0.mk (below_step (by repeat (first | (with_reducible first | exact HB.out | apply below_alloc | apply pw_below_drewN | apply below_drew1) | exact HB.out)) hb); have n1_ := Aside0.mk (hbox); have n2_ := Aside0.mk ((by rw [hg]; exact (below_size (by repeat (first | (with_reducible first | exact HB.out | apply below_alloc | apply pw_below_drewN | apply below_drew1) | exact HB.out))) : w.heap.size ≤ gb161)); have n3_ := Aside0.mk ((by rw [hg]; exact (below_size (by repeat (first | (with_reducible first | exact HB.out | apply below_alloc | apply pw_below_drewN | apply below_drew1) | exact HB.out))) : w.heap.size ≤ gb161)); clear HB; have HB := n0_; have BK161 := n1_; have GW161 := n2_; have GE161 := n3_; clear n0_ n1_ n2_ n3_; clear hb hbox hg; have hcz7_0 : w6.cell? ⟨gb161, 0, none⟩ = some (.int .i64 0) := (blk_cell BK161.out 0).trans rfl; have hcz7_1 : w6.cell? ⟨gb161, 1, none⟩ = some (.int .i64 0) := (blk_cell BK161.out 1).trans rfl; have hcz7_2 : w6.cell? ⟨gb161, 2, none⟩ = some (.string (⟨#[]⟩ : ByteArray)) := (blk_cell BK161.out 2).trans rfl; have hfz7_0 := blk_frozen BK161.out 0; have hfz7_1 := blk_frozen BK161.out 1; have hfz7_2 := blk_frozen BK161.out 2)))
          (try simp only [Act.put, List.setIfInBounds_toArray, List.set_cons_zero, List.set_cons_succ])
          go_cut [60] (fun v60 wc => ∃ (kq : Nat) (x60_4 : Bool), v60 = .bool x60_4 ∧ Aside0 (regletref18_Fit.j1 kq l0 l1 x5_1 x60_4 ((rd_T33 l1 x5_1).f0) ((rd_T33 l1 x5_1).f1) ((rd_T33 l1 x5_1).f2) = some r) ∧ Aside0 (kq ≤ k1) ∧ Aside0 (wc.heap[gb161]? = some (.cells #[.int .i64 ((rd_T33 l1 x5_1).f0), .int .i64 ((rd_T33 l1 x5_1).f1), .string ((rd_T33 l1 x5_1).f2)] 33 (0, 0))) ∧ Aside0 (Below w.heap.size w wc))
          case first =>
            have H := HC5.out
            clear HC5
            by_cases c8 : ((rd_T33 l1 x5_1).f0) < 0
            · rw [if_pos c8] at H
              have c8b0 : decide (((rd_T33 l1 x5_1).f0) < 0) = true := decide_eq_true c8
              clear c8
              (first | rw [c8b0] | (simp only [i64_w, i32_w]; rw [c8b0]) | skip)
              have H' := Aside0.mk H
              clear H
              have hcz9_0 : w6.cell? ⟨gb161, 0, none⟩ = some (.int .i64 0) := (blk_cell BK161.out 0).trans rfl
              have hcz9_1 : w6.cell? ⟨gb161, 1, none⟩ = some (.int .i64 0) := (blk_cell BK161.out 1).trans rfl
              have hcz9_2 : w6.cell? ⟨gb161, 2, none⟩ = some (.string (⟨#[]⟩ : ByteArray)) := (blk_cell BK161.out 2).trans rfl
              have hfz9_0 := blk_frozen BK161.out 0
              have hfz9_1 := blk_frozen BK161.out 1
              have hfz9_2 := blk_frozen BK161.out 2
              go_wp2
              repeat (go_quiet (fail); try go_wp2)
              go_meet
              case rel => exact ⟨_, (true), (by first | rfl | (simp; done) | (simp [*]; done)), H', ⟨by have := HK1.out; first | omega | exact Nat.le_refl _⟩, ⟨by (with_reducible repeat (first | refine blk_drewN ?_ _ | refine blk_drew ?_ | refine blk_alloc ?_ _)); refine blk_put (cs := #[.int .i64 ((rd_T33 l1 x5_1).f0), .int .i64 ((rd_T33 l1 x5_1).f1), .string (⟨#[]⟩ : ByteArray)]) ?_ 2 _ rfl; (with_reducible repeat (first | refine blk_drewN ?_ _ | refine blk_drew ?_ | refine blk_alloc ?_ _)); refine blk_put (cs := #[.int .i64 ((rd_T33 l1 x5_1).f0), .int .i64 0, .string (⟨#[]⟩ : ByteArray)]) ?_ 1 _ rfl; (with_reducible repeat (first | refine blk_drewN ?_ _ | refine blk_drew ?_ | refine blk_alloc ?_ _)); refine blk_put (cs := #[.int .i64 0, .int .i64 0, .string (⟨#[]⟩ : ByteArray)]) ?_ 0 _ rfl; (with_reducible repeat (first | refine blk_drewN ?_ _ | refine blk_drew ?_ | refine blk_alloc ?_ _)); exact BK161.out⟩, ⟨by repeat (first | (with_reducible first | exact HB.out | apply below_alloc | apply pw_below_drewN | apply below_drew1 | refine below_set ?_ GE161.out) | exact HB.out)⟩⟩
            · rw [if_neg c8] at H
              have c8b0 : decide (((rd_T33 l1 x5_1).f0) < 0) = false := decide_eq_false c8
              clear c8
              (first | rw [c8b0] | (simp only [i64_w, i32_w]; rw [c8b0]) | skip)
              by_cases c10 : ((rd_T33 l1 x5_1).f1) < ((rd_T33 l1 x5_1).f0)
              · rw [if_pos c10] at H
                have c10b0 : decide (((rd_T33 l1 x5_1).f1) < ((rd_T33 l1 x5_1).f0)) = true := decide_eq_true c10
                clear c10
                have H' := Aside0.mk H
                clear H
                have hcz11_0 : w6.cell? ⟨gb161, 0, none⟩ = some (.int .i64 0) := (blk_cell BK161.out 0).trans rfl
                have hcz11_1 : w6.cell? ⟨gb161, 1, none⟩ = some (.int .i64 0) := (blk_cell BK161.out 1).trans rfl
                have hcz11_2 : w6.cell? ⟨gb161, 2, none⟩ = some (.string (⟨#[]⟩ : ByteArray)) := (blk_cell BK161.out 2).trans rfl
                have hfz11_0 := blk_frozen BK161.out 0
                have hfz11_1 := blk_frozen BK161.out 1
                have hfz11_2 := blk_frozen BK161.out 2
                go_wp2
                repeat (go_quiet (fail); try go_wp2)
                go_meet
                case rel => exact ⟨_, (true), (by first | rfl | (simp; done) | (simp [*]; done)), H', ⟨by have := HK1.out; first | omega | exact Nat.le_refl _⟩, ⟨by (with_reducible repeat (first | refine blk_drewN ?_ _ | refine blk_drew ?_ | refine blk_alloc ?_ _)); refine blk_put (cs := #[.int .i64 ((rd_T33 l1 x5_1).f0), .int .i64 ((rd_T33 l1 x5_1).f1), .string (⟨#[]⟩ : ByteArray)]) ?_ 2 _ rfl; (with_reducible repeat (first | refine blk_drewN ?_ _ | refine blk_drew ?_ | refine blk_alloc ?_ _)); refine blk_put (cs := #[.int .i64 ((rd_T33 l1 x5_1).f0), .int .i64 0, .string (⟨#[]⟩ : ByteArray)]) ?_ 1 _ rfl; (with_reducible repeat (first | refine blk_drewN ?_ _ | refine blk_drew ?_ | refine blk_alloc ?_ _)); refine blk_put (cs := #[.int .i64 0, .int .i64 0, .string (⟨#[]⟩ : ByteArray)]) ?_ 0 _ rfl; (with_reducible repeat (first | refine blk_drewN ?_ _ | refine blk_drew ?_ | refine blk_alloc ?_ _)); exact BK161.out⟩, ⟨by repeat (first | (with_reducible first | exact HB.out | apply below_alloc | apply pw_below_drewN | apply below_drew1 | refine below_set ?_ GE161.out) | exact HB.out)⟩⟩
              · rw [if_neg c10] at H
                have c10b0 : decide (((rd_T33 l1 x5_1).f1) < ((rd_T33 l1 x5_1).f0)) = false := decide_eq_false c10
                clear c10
                by_cases c12 : ((rd_T33 l1 x5_1).f1) > (l0.length : Int)
                · rw [if_pos c12] at H
                  have c12b0 : decide ((l0.length : Int) < ((rd_T33 l1 x5_1).f1)) = true := decide_eq_true c12
                  clear c12
                  have H' := Aside0.mk H
                  clear H
                  have hcz13_0 : w6.cell? ⟨gb161, 0, none⟩ = some (.int .i64 0) := (blk_cell BK161.out 0).trans rfl
                  have hcz13_1 : w6.cell? ⟨gb161, 1, none⟩ = some (.int .i64 0) := (blk_cell BK161.out 1).trans rfl
                  have hcz13_2 : w6.cell? ⟨gb161, 2, none⟩ = some (.string (⟨#[]⟩ : ByteArray)) := (blk_cell BK161.out 2).trans rfl
                  have hfz13_0 := blk_frozen BK161.out 0
                  have hfz13_1 := blk_frozen BK161.out 1
                  have hfz13_2 := blk_frozen BK161.out 2
                  go_wp2
                  repeat (go_quiet (fail); try go_wp2)
                  go_meet
                  case rel => exact ⟨_, (true), (by first | rfl | (simp; done) | (simp [*]; done)), H', ⟨by have := HK1.out; first | omega | exact Nat.le_refl _⟩, ⟨by (with_reducible repeat (first | refine blk_drewN ?_ _ | refine blk_drew ?_ | refine blk_alloc ?_ _)); refine blk_put (cs := #[.int .i64 ((rd_T33 l1 x5_1).f0), .int .i64 ((rd_T33 l1 x5_1).f1), .string (⟨#[]⟩ : ByteArray)]) ?_ 2 _ rfl; (with_reducible repeat (first | refine blk_drewN ?_ _ | refine blk_drew ?_ | refine blk_alloc ?_ _)); refine blk_put (cs := #[.int .i64 ((rd_T33 l1 x5_1).f0), .int .i64 0, .string (⟨#[]⟩ : ByteArray)]) ?_ 1 _ rfl; (with_reducible repeat (first | refine blk_drewN ?_ _ | refine blk_drew ?_ | refine blk_alloc ?_ _)); refine blk_put (cs := #[.int .i64 0, .int .i64 0, .string (⟨#[]⟩ : ByteArray)]) ?_ 0 _ rfl; (with_reducible repeat (first | refine blk_drewN ?_ _ | refine blk_drew ?_ | refine blk_alloc ?_ _)); exact BK161.out⟩, ⟨by repeat (first | (with_reducible first | exact HB.out | apply below_alloc | apply pw_below_drewN | apply below_drew1 | refine below_set ?_ GE161.out) | exact HB.out)⟩⟩
                · rw [if_neg c12] at H
                  have c12b0 : decide ((l0.length : Int) < ((rd_T33 l1 x5_1).f1)) = false := decide_eq_false c12
                  clear c12
                  by_cases c14 : ((rd_T33 l1 x5_1).f0) = ((rd_T33 l1 x5_1).f1)
                  · rw [if_pos c14] at H
                    have c14b0 : (((rd_T33 l1 x5_1).f0) == ((rd_T33 l1 x5_1).f1)) = true := beq_iff_eq.mpr c14
                    have c14b1 : (((rd_T33 l1 x5_1).f0) != ((rd_T33 l1 x5_1).f1)) = false := bne_eq_false_iff_eq.mpr c14
                    clear c14
                    by_cases c15 : ((rd_T33 l1 x5_1).f2).toList = ([] : List UInt8)
                    · rw [if_pos c15] at H
                      have c15b0 : (((rd_T33 l1 x5_1).f2).toList == ([] : List UInt8)) = true := beq_iff_eq.mpr c15
                      have c15b1 : (((rd_T33 l1 x5_1).f2).toList != ([] : List UInt8)) = false := bne_eq_false_iff_eq.mpr c15
                      clear c15
                      have H' := Aside0.mk H
                      clear H
                      have hcz16_0 : w6.cell? ⟨gb161, 0, none⟩ = some (.int .i64 0) := (blk_cell BK161.out 0).trans rfl
                      have hcz16_1 : w6.cell? ⟨gb161, 1, none⟩ = some (.int .i64 0) := (blk_cell BK161.out 1).trans rfl
                      have hcz16_2 : w6.cell? ⟨gb161, 2, none⟩ = some (.string (⟨#[]⟩ : ByteArray)) := (blk_cell BK161.out 2).trans rfl
                      have hfz16_0 := blk_frozen BK161.out 0
                      have hfz16_1 := blk_frozen BK161.out 1
                      have hfz16_2 := blk_frozen BK161.out 2
                      go_wp2
                      repeat (go_quiet (fail); try go_wp2)
                      go_meet
                      case rel => exact ⟨_, (true), (by first | rfl | (simp; done) | (simp [*]; done)), H', ⟨by have := HK1.out; first | omega | exact Nat.le_refl _⟩, ⟨by (with_reducible repeat (first | refine blk_drewN ?_ _ | refine blk_drew ?_ | refine blk_alloc ?_ _)); refine blk_put (cs := #[.int .i64 ((rd_T33 l1 x5_1).f0), .int .i64 ((rd_T33 l1 x5_1).f1), .string (⟨#[]⟩ : ByteArray)]) ?_ 2 _ rfl; (with_reducible repeat (first | refine blk_drewN ?_ _ | refine blk_drew ?_ | refine blk_alloc ?_ _)); refine blk_put (cs := #[.int .i64 ((rd_T33 l1 x5_1).f0), .int .i64 0, .string (⟨#[]⟩ : ByteArray)]) ?_ 1 _ rfl; (with_reducible repeat (first | refine blk_drewN ?_ _ | refine blk_drew ?_ | refine blk_alloc ?_ _)); refine blk_put (cs := #[.int .i64 0, .int .i64 0, .string (⟨#[]⟩ : ByteArray)]) ?_ 0 _ rfl; (with_reducible repeat (first | refine blk_drewN ?_ _ | refine blk_drew ?_ | refine blk_alloc ?_ _)); exact BK161.out⟩, ⟨by repeat (first | (with_reducible first | exact HB.out | apply below_alloc | apply pw_below_drewN | apply below_drew1 | refine below_set ?_ GE161.out) | exact HB.out)⟩⟩
                    · rw [if_neg c15] at H
                      have c15b0 : (((rd_T33 l1 x5_1).f2).toList == ([] : List UInt8)) = false := beq_eq_false_iff_ne.mpr c15
                      have c15b1 : (((rd_T33 l1 x5_1).f2).toList != ([] : List UInt8)) = true := bne_iff_ne.mpr c15
                      by_cases c17 : x5_1 > 0
                      · rw [if_pos c17] at H
                        have c17b0 : decide (0 < x5_1) = true := decide_eq_true c17
                        clear c17
                        obtain ⟨ji18, hji18⟩ : ∃ j_ : Int, (wrap64 (x5_1 - 1)) = j_ := ⟨_, rfl⟩
                        replace H : (if 0 ≤ (ji18) then (if (ji18) < (l1.length : Int) then (regletref18_Fit.j1 k1 l0 l1 x5_1 (decide (((rd_T33 l1 x5_1).f0) ≤ ((rd_T33 l1 (ji18)).f1))) ((rd_T33 l1 x5_1).f0) ((rd_T33 l1 x5_1).f1) ((rd_T33 l1 x5_1).f2)) else (none)) else (none)) = some r := by first | (rw [hji18] at H; exact H) | (simp only [hji18] at H ⊢; exact H)
                        have hji18w : (IntKind.i64.wrap (x5_1 - 1)) = ji18 := (i64_w _).trans hji18
                        by_cases c19 : 0 ≤ (ji18)
                        · rw [if_pos c19] at H
                          have c19b0 : decide (0 ≤ (ji18)) = true := decide_eq_true c19
                          clear c19
                          by_cases c20 : (ji18) < (l1.length : Int)
                          · rw [if_pos c20] at H
                            have c20b0 : decide ((ji18) < (l1.length : Int)) = true := decide_eq_true c20
                            clear c20
                            have H' := Aside0.mk H
                            clear H
                            have hcz21_0 : w6.cell? ⟨gb161, 0, none⟩ = some (.int .i64 0) := (blk_cell BK161.out 0).trans rfl
                            have hcz21_1 : w6.cell? ⟨gb161, 1, none⟩ = some (.int .i64 0) := (blk_cell BK161.out 1).trans rfl
                            have hcz21_2 : w6.cell? ⟨gb161, 2, none⟩ = some (.string (⟨#[]⟩ : ByteArray)) := (blk_cell BK161.out 2).trans rfl
                            have hfz21_0 := blk_frozen BK161.out 0
                            have hfz21_1 := blk_frozen BK161.out 1
                            have hfz21_2 := blk_frozen BK161.out 2
                            have p162 : 0 ≤ ((ji18) : Int) := of_decide_eq_true (by first | (with_reducible assumption) | assumption)
                            have q162 : (ji18) < (l1.length : Int) := of_decide_eq_true (by first | (with_reducible assumption) | assumption)
                            obtain ⟨ad162, e162, hx162_0, hx162_1, hx162_2⟩ := at_T33 HR1.out (ji18) p162 q162
                            obtain rfl : ad160 = ad162 := (by injection e162)
                            have hn162_0 : ad160.block ≠ gb161 := Nat.ne_of_lt (Nat.lt_of_lt_of_le (by have := World.block_lt_of_cell? _ _ hx162_0; first | rwa [add_block] at this | exact this) GW161.out)
                            have hn162_1 : ad160.block ≠ gb161 := Nat.ne_of_lt (Nat.lt_of_lt_of_le (by have := World.block_lt_of_cell? _ _ hx162_0; first | rwa [add_block] at this | exact this) GW161.out)
                            have hn162_2 : ad160.block ≠ gb161 := Nat.ne_of_lt (Nat.lt_of_lt_of_le (by have := World.block_lt_of_cell? _ _ hx162_0; first | rwa [add_block] at this | exact this) GW161.out)
                            replace hx162_0 := (HB.out.cell (World.block_lt_of_cell? w _ hx162_0)).trans hx162_0
                            replace hx162_1 := (HB.out.cell (World.block_lt_of_cell? w _ hx162_1)).trans hx162_1
                            replace hx162_2 := (HB.out.cell (World.block_lt_of_cell? w _ hx162_2)).trans hx162_2
                            replace hx162_0 := (cell_far (p := ⟨gb161, 0, none⟩) (by first | (rw [add_block]; exact hn162_0) | (show (Addr.add _ _).block ≠ _; rw [add_block]; exact hn162_0) | exact hn162_0) (.int .i64 ((rd_T33 l1 x5_1).f0))).trans hx162_0
                            replace hx162_1 := (cell_far (p := ⟨gb161, 0, none⟩) (by first | (rw [add_block]; exact hn162_0) | (show (Addr.add _ _).block ≠ _; rw [add_block]; exact hn162_0) | exact hn162_0) (.int .i64 ((rd_T33 l1 x5_1).f0))).trans hx162_1
                            replace hx162_2 := (cell_far (p := ⟨gb161, 0, none⟩) (by first | (rw [add_block]; exact hn162_0) | (show (Addr.add _ _).block ≠ _; rw [add_block]; exact hn162_0) | exact hn162_0) (.int .i64 ((rd_T33 l1 x5_1).f0))).trans hx162_2
                            replace hx162_0 := (cell_far (p := ⟨gb161, 1, none⟩) (by first | (rw [add_block]; exact hn162_1) | (show (Addr.add _ _).block ≠ _; rw [add_block]; exact hn162_1) | exact hn162_1) (.int .i64 ((rd_T33 l1 x5_1).f1))).trans hx162_0
                            replace hx162_1 := (cell_far (p := ⟨gb161, 1, none⟩) (by first | (rw [add_block]; exact hn162_1) | (show (Addr.add _ _).block ≠ _; rw [add_block]; exact hn162_1) | exact hn162_1) (.int .i64 ((rd_T33 l1 x5_1).f1))).trans hx162_1
                            replace hx162_2 := (cell_far (p := ⟨gb161, 1, none⟩) (by first | (rw [add_block]; exact hn162_1) | (show (Addr.add _ _).block ≠ _; rw [add_block]; exact hn162_1) | exact hn162_1) (.int .i64 ((rd_T33 l1 x5_1).f1))).trans hx162_2
                            replace hx162_0 := (cell_far (p := ⟨gb161, 2, none⟩) (by first | (rw [add_block]; exact hn162_2) | (show (Addr.add _ _).block ≠ _; rw [add_block]; exact hn162_2) | exact hn162_2) (.string ((rd_T33 l1 x5_1).f2))).trans hx162_0
                            replace hx162_1 := (cell_far (p := ⟨gb161, 2, none⟩) (by first | (rw [add_block]; exact hn162_2) | (show (Addr.add _ _).block ≠ _; rw [add_block]; exact hn162_2) | exact hn162_2) (.string ((rd_T33 l1 x5_1).f2))).trans hx162_1
                            replace hx162_2 := (cell_far (p := ⟨gb161, 2, none⟩) (by first | (rw [add_block]; exact hn162_2) | (show (Addr.add _ _).block ≠ _; rw [add_block]; exact hn162_2) | exact hn162_2) (.string ((rd_T33 l1 x5_1).f2))).trans hx162_2
                            (try have hy162_0 := fun (n_ : Nat) => (show (((((w6.drewN n_).setCell ⟨gb161, 0, none⟩ (.int .i64 ((rd_T33 l1 x5_1).f0))).setCell ⟨gb161, 1, none⟩ (.int .i64 ((rd_T33 l1 x5_1).f1))).setCell ⟨gb161, 2, none⟩ (.string ((rd_T33 l1 x5_1).f2)))).cell? _ = some _ from hx162_0))
                            (try have hy162_1 := fun (n_ : Nat) => (show (((((w6.drewN n_).setCell ⟨gb161, 0, none⟩ (.int .i64 ((rd_T33 l1 x5_1).f0))).setCell ⟨gb161, 1, none⟩ (.int .i64 ((rd_T33 l1 x5_1).f1))).setCell ⟨gb161, 2, none⟩ (.string ((rd_T33 l1 x5_1).f2)))).cell? _ = some _ from hx162_1))
                            (try have hy162_2 := fun (n_ : Nat) => (show (((((w6.drewN n_).setCell ⟨gb161, 0, none⟩ (.int .i64 ((rd_T33 l1 x5_1).f0))).setCell ⟨gb161, 1, none⟩ (.int .i64 ((rd_T33 l1 x5_1).f1))).setCell ⟨gb161, 2, none⟩ (.string ((rd_T33 l1 x5_1).f2)))).cell? _ = some _ from hx162_2))
                            clear hn162_0
                            clear hn162_1
                            clear hn162_2
                            replace p162 := eq_true p162
                            replace q162 := eq_true q162
                            go_wp2
                            repeat (go_quiet (fail); try go_wp2)
                            go_meet
                            case rel => exact ⟨_, (decide (((rd_T33 l1 x5_1).f0) ≤ ((rd_T33 l1 (ji18)).f1))), (by first | rfl | (simp; done) | (simp only [← hji18] <;> (first | rfl | simp)) | (simp [*]; done)), H', ⟨by have := HK1.out; first | omega | exact Nat.le_refl _⟩, ⟨by (with_reducible repeat (first | refine blk_drewN ?_ _ | refine blk_drew ?_ | refine blk_alloc ?_ _)); refine blk_put (cs := #[.int .i64 ((rd_T33 l1 x5_1).f0), .int .i64 ((rd_T33 l1 x5_1).f1), .string (⟨#[]⟩ : ByteArray)]) ?_ 2 _ rfl; (with_reducible repeat (first | refine blk_drewN ?_ _ | refine blk_drew ?_ | refine blk_alloc ?_ _)); refine blk_put (cs := #[.int .i64 ((rd_T33 l1 x5_1).f0), .int .i64 0, .string (⟨#[]⟩ : ByteArray)]) ?_ 1 _ rfl; (with_reducible repeat (first | refine blk_drewN ?_ _ | refine blk_drew ?_ | refine blk_alloc ?_ _)); refine blk_put (cs := #[.int .i64 0, .int .i64 0, .string (⟨#[]⟩ : ByteArray)]) ?_ 0 _ rfl; (with_reducible repeat (first | refine blk_drewN ?_ _ | refine blk_drew ?_ | refine blk_alloc ?_ _)); exact BK161.out⟩, ⟨by repeat (first | (with_reducible first | exact HB.out | apply below_alloc | apply pw_below_drewN | apply below_drew1 | refine below_set ?_ GE161.out) | exact HB.out)⟩⟩
                          · rw [if_neg c20] at H
                            exact absurd H (by simp)
                        · rw [if_neg c19] at H
                          exact absurd H (by simp)
                      · rw [if_neg c17] at H
                        have c17b0 : decide (0 < x5_1) = false := decide_eq_false c17
                        clear c17
                        have H' := Aside0.mk H
                        clear H
                        have hcz22_0 : w6.cell? ⟨gb161, 0, none⟩ = some (.int .i64 0) := (blk_cell BK161.out 0).trans rfl
                        have hcz22_1 : w6.cell? ⟨gb161, 1, none⟩ = some (.int .i64 0) := (blk_cell BK161.out 1).trans rfl
                        have hcz22_2 : w6.cell? ⟨gb161, 2, none⟩ = some (.string (⟨#[]⟩ : ByteArray)) := (blk_cell BK161.out 2).trans rfl
                        have hfz22_0 := blk_frozen BK161.out 0
                        have hfz22_1 := blk_frozen BK161.out 1
                        have hfz22_2 := blk_frozen BK161.out 2
                        go_wp2
                        repeat (go_quiet (fail); try go_wp2)
                        go_meet
                        case rel => exact ⟨_, (false), (by first | rfl | (simp; done) | (simp [*]; done)), H', ⟨by have := HK1.out; first | omega | exact Nat.le_refl _⟩, ⟨by (with_reducible repeat (first | refine blk_drewN ?_ _ | refine blk_drew ?_ | refine blk_alloc ?_ _)); refine blk_put (cs := #[.int .i64 ((rd_T33 l1 x5_1).f0), .int .i64 ((rd_T33 l1 x5_1).f1), .string (⟨#[]⟩ : ByteArray)]) ?_ 2 _ rfl; (with_reducible repeat (first | refine blk_drewN ?_ _ | refine blk_drew ?_ | refine blk_alloc ?_ _)); refine blk_put (cs := #[.int .i64 ((rd_T33 l1 x5_1).f0), .int .i64 0, .string (⟨#[]⟩ : ByteArray)]) ?_ 1 _ rfl; (with_reducible repeat (first | refine blk_drewN ?_ _ | refine blk_drew ?_ | refine blk_alloc ?_ _)); refine blk_put (cs := #[.int .i64 0, .int .i64 0, .string (⟨#[]⟩ : ByteArray)]) ?_ 0 _ rfl; (with_reducible repeat (first | refine blk_drewN ?_ _ | refine blk_drew ?_ | refine blk_alloc ?_ _)); exact BK161.out⟩, ⟨by repeat (first | (with_reducible first | exact HB.out | apply below_alloc | apply pw_below_drewN | apply below_drew1 | refine below_set ?_ GE161.out) | exact HB.out)⟩⟩
                  · rw [if_neg c14] at H
                    have c14b0 : (((rd_T33 l1 x5_1).f0) == ((rd_T33 l1 x5_1).f1)) = false := beq_eq_false_iff_ne.mpr c14
                    have c14b1 : (((rd_T33 l1 x5_1).f0) != ((rd_T33 l1 x5_1).f1)) = true := bne_iff_ne.mpr c14
                    by_cases c23 : x5_1 > 0
                    · rw [if_pos c23] at H
                      have c23b0 : decide (0 < x5_1) = true := decide_eq_true c23
                      clear c23
                      obtain ⟨ji24, hji24⟩ : ∃ j_ : Int, (wrap64 (x5_1 - 1)) = j_ := ⟨_, rfl⟩
                      replace H : (if 0 ≤ (ji24) then (if (ji24) < (l1.length : Int) then (regletref18_Fit.j1 k1 l0 l1 x5_1 (decide (((rd_T33 l1 x5_1).f0) ≤ ((rd_T33 l1 (ji24)).f1))) ((rd_T33 l1 x5_1).f0) ((rd_T33 l1 x5_1).f1) ((rd_T33 l1 x5_1).f2)) else (none)) else (none)) = some r := by first | (rw [hji24] at H; exact H) | (simp only [hji24] at H ⊢; exact H)
                      have hji24w : (IntKind.i64.wrap (x5_1 - 1)) = ji24 := (i64_w _).trans hji24
                      by_cases c25 : 0 ≤ (ji24)
                      · rw [if_pos c25] at H
                        have c25b0 : decide (0 ≤ (ji24)) = true := decide_eq_true c25
                        clear c25
                        by_cases c26 : (ji24) < (l1.length : Int)
                        · rw [if_pos c26] at H
                          have c26b0 : decide ((ji24) < (l1.length : Int)) = true := decide_eq_true c26
                          clear c26
                          have H' := Aside0.mk H
                          clear H
                          have hcz27_0 : w6.cell? ⟨gb161, 0, none⟩ = some (.int .i64 0) := (blk_cell BK161.out 0).trans rfl
                          have hcz27_1 : w6.cell? ⟨gb161, 1, none⟩ = some (.int .i64 0) := (blk_cell BK161.out 1).trans rfl
                          have hcz27_2 : w6.cell? ⟨gb161, 2, none⟩ = some (.string (⟨#[]⟩ : ByteArray)) := (blk_cell BK161.out 2).trans rfl
                          have hfz27_0 := blk_frozen BK161.out 0
                          have hfz27_1 := blk_frozen BK161.out 1
                          have hfz27_2 := blk_frozen BK161.out 2
                          have p163 : 0 ≤ ((ji24) : Int) := of_decide_eq_true (by first | (with_reducible assumption) | assumption)
                          have q163 : (ji24) < (l1.length : Int) := of_decide_eq_true (by first | (with_reducible assumption) | assumption)
                          obtain ⟨ad163, e163, hx163_0, hx163_1, hx163_2⟩ := at_T33 HR1.out (ji24) p163 q163
                          obtain rfl : ad160 = ad163 := (by injection e163)
                          have hn163_0 : ad160.block ≠ gb161 := Nat.ne_of_lt (Nat.lt_of_lt_of_le (by have := World.block_lt_of_cell? _ _ hx163_0; first | rwa [add_block] at this | exact this) GW161.out)
                          have hn163_1 : ad160.block ≠ gb161 := Nat.ne_of_lt (Nat.lt_of_lt_of_le (by have := World.block_lt_of_cell? _ _ hx163_0; first | rwa [add_block] at this | exact this) GW161.out)
                          have hn163_2 : ad160.block ≠ gb161 := Nat.ne_of_lt (Nat.lt_of_lt_of_le (by have := World.block_lt_of_cell? _ _ hx163_0; first | rwa [add_block] at this | exact this) GW161.out)
                          replace hx163_0 := (HB.out.cell (World.block_lt_of_cell? w _ hx163_0)).trans hx163_0
                          replace hx163_1 := (HB.out.cell (World.block_lt_of_cell? w _ hx163_1)).trans hx163_1
                          replace hx163_2 := (HB.out.cell (World.block_lt_of_cell? w _ hx163_2)).trans hx163_2
                          replace hx163_0 := (cell_far (p := ⟨gb161, 0, none⟩) (by first | (rw [add_block]; exact hn163_0) | (show (Addr.add _ _).block ≠ _; rw [add_block]; exact hn163_0) | exact hn163_0) (.int .i64 ((rd_T33 l1 x5_1).f0))).trans hx163_0
                          replace hx163_1 := (cell_far (p := ⟨gb161, 0, none⟩) (by first | (rw [add_block]; exact hn163_0) | (show (Addr.add _ _).block ≠ _; rw [add_block]; exact hn163_0) | exact hn163_0) (.int .i64 ((rd_T33 l1 x5_1).f0))).trans hx163_1
                          replace hx163_2 := (cell_far (p := ⟨gb161, 0, none⟩) (by first | (rw [add_block]; exact hn163_0) | (show (Addr.add _ _).block ≠ _; rw [add_block]; exact hn163_0) | exact hn163_0) (.int .i64 ((rd_T33 l1 x5_1).f0))).trans hx163_2
                          replace hx163_0 := (cell_far (p := ⟨gb161, 1, none⟩) (by first | (rw [add_block]; exact hn163_1) | (show (Addr.add _ _).block ≠ _; rw [add_block]; exact hn163_1) | exact hn163_1) (.int .i64 ((rd_T33 l1 x5_1).f1))).trans hx163_0
                          replace hx163_1 := (cell_far (p := ⟨gb161, 1, none⟩) (by first | (rw [add_block]; exact hn163_1) | (show (Addr.add _ _).block ≠ _; rw [add_block]; exact hn163_1) | exact hn163_1) (.int .i64 ((rd_T33 l1 x5_1).f1))).trans hx163_1
                          replace hx163_2 := (cell_far (p := ⟨gb161, 1, none⟩) (by first | (rw [add_block]; exact hn163_1) | (show (Addr.add _ _).block ≠ _; rw [add_block]; exact hn163_1) | exact hn163_1) (.int .i64 ((rd_T33 l1 x5_1).f1))).trans hx163_2
                          replace hx163_0 := (cell_far (p := ⟨gb161, 2, none⟩) (by first | (rw [add_block]; exact hn163_2) | (show (Addr.add _ _).block ≠ _; rw [add_block]; exact hn163_2) | exact hn163_2) (.string ((rd_T33 l1 x5_1).f2))).trans hx163_0
                          replace hx163_1 := (cell_far (p := ⟨gb161, 2, none⟩) (by first | (rw [add_block]; exact hn163_2) | (show (Addr.add _ _).block ≠ _; rw [add_block]; exact hn163_2) | exact hn163_2) (.string ((rd_T33 l1 x5_1).f2))).trans hx163_1
                          replace hx163_2 := (cell_far (p := ⟨gb161, 2, none⟩) (by first | (rw [add_block]; exact hn163_2) | (show (Addr.add _ _).block ≠ _; rw [add_block]; exact hn163_2) | exact hn163_2) (.string ((rd_T33 l1 x5_1).f2))).trans hx163_2
                          (try have hy163_0 := fun (n_ : Nat) => (show (((((w6.drewN n_).setCell ⟨gb161, 0, none⟩ (.int .i64 ((rd_T33 l1 x5_1).f0))).setCell ⟨gb161, 1, none⟩ (.int .i64 ((rd_T33 l1 x5_1).f1))).setCell ⟨gb161, 2, none⟩ (.string ((rd_T33 l1 x5_1).f2)))).cell? _ = some _ from hx163_0))
                          (try have hy163_1 := fun (n_ : Nat) => (show (((((w6.drewN n_).setCell ⟨gb161, 0, none⟩ (.int .i64 ((rd_T33 l1 x5_1).f0))).setCell ⟨gb161, 1, none⟩ (.int .i64 ((rd_T33 l1 x5_1).f1))).setCell ⟨gb161, 2, none⟩ (.string ((rd_T33 l1 x5_1).f2)))).cell? _ = some _ from hx163_1))
                          (try have hy163_2 := fun (n_ : Nat) => (show (((((w6.drewN n_).setCell ⟨gb161, 0, none⟩ (.int .i64 ((rd_T33 l1 x5_1).f0))).setCell ⟨gb161, 1, none⟩ (.int .i64 ((rd_T33 l1 x5_1).f1))).setCell ⟨gb161, 2, none⟩ (.string ((rd_T33 l1 x5_1).f2)))).cell? _ = some _ from hx163_2))
                          clear hn163_0
                          clear hn163_1
                          clear hn163_2
                          replace p163 := eq_true p163
                          replace q163 := eq_true q163
                          go_wp2
                          repeat (go_quiet (fail); try go_wp2)
                          go_meet
                          case rel => exact ⟨_, (decide (((rd_T33 l1 x5_1).f0) ≤ ((rd_T33 l1 (ji24)).f1))), (by first | rfl | (simp; done) | (simp only [← hji24] <;> (first | rfl | simp)) | (simp [*]; done)), H', ⟨by have := HK1.out; first | omega | exact Nat.le_refl _⟩, ⟨by (with_reducible repeat (first | refine blk_drewN ?_ _ | refine blk_drew ?_ | refine blk_alloc ?_ _)); refine blk_put (cs := #[.int .i64 ((rd_T33 l1 x5_1).f0), .int .i64 ((rd_T33 l1 x5_1).f1), .string (⟨#[]⟩ : ByteArray)]) ?_ 2 _ rfl; (with_reducible repeat (first | refine blk_drewN ?_ _ | refine blk_drew ?_ | refine blk_alloc ?_ _)); refine blk_put (cs := #[.int .i64 ((rd_T33 l1 x5_1).f0), .int .i64 0, .string (⟨#[]⟩ : ByteArray)]) ?_ 1 _ rfl; (with_reducible repeat (first | refine blk_drewN ?_ _ | refine blk_drew ?_ | refine blk_alloc ?_ _)); refine blk_put (cs := #[.int .i64 0, .int .i64 0, .string (⟨#[]⟩ : ByteArray)]) ?_ 0 _ rfl; (with_reducible repeat (first | refine blk_drewN ?_ _ | refine blk_drew ?_ | refine blk_alloc ?_ _)); exact BK161.out⟩, ⟨by repeat (first | (with_reducible first | exact HB.out | apply below_alloc | apply pw_below_drewN | apply below_drew1 | refine below_set ?_ GE161.out) | exact HB.out)⟩⟩
                        · rw [if_neg c26] at H
                          exact absurd H (by simp)
                      · rw [if_neg c25] at H
                        exact absurd H (by simp)
                    · rw [if_neg c23] at H
                      have c23b0 : decide (0 < x5_1) = false := decide_eq_false c23
                      clear c23
                      have H' := Aside0.mk H
                      clear H
                      have hcz28_0 : w6.cell? ⟨gb161, 0, none⟩ = some (.int .i64 0) := (blk_cell BK161.out 0).trans rfl
                      have hcz28_1 : w6.cell? ⟨gb161, 1, none⟩ = some (.int .i64 0) := (blk_cell BK161.out 1).trans rfl
                      have hcz28_2 : w6.cell? ⟨gb161, 2, none⟩ = some (.string (⟨#[]⟩ : ByteArray)) := (blk_cell BK161.out 2).trans rfl
                      have hfz28_0 := blk_frozen BK161.out 0
                      have hfz28_1 := blk_frozen BK161.out 1
                      have hfz28_2 := blk_frozen BK161.out 2
                      go_wp2
                      repeat (go_quiet (fail); try go_wp2)
                      go_meet
                      case rel => exact ⟨_, (false), (by first | rfl | (simp; done) | (simp [*]; done)), H', ⟨by have := HK1.out; first | omega | exact Nat.le_refl _⟩, ⟨by (with_reducible repeat (first | refine blk_drewN ?_ _ | refine blk_drew ?_ | refine blk_alloc ?_ _)); refine blk_put (cs := #[.int .i64 ((rd_T33 l1 x5_1).f0), .int .i64 ((rd_T33 l1 x5_1).f1), .string (⟨#[]⟩ : ByteArray)]) ?_ 2 _ rfl; (with_reducible repeat (first | refine blk_drewN ?_ _ | refine blk_drew ?_ | refine blk_alloc ?_ _)); refine blk_put (cs := #[.int .i64 ((rd_T33 l1 x5_1).f0), .int .i64 0, .string (⟨#[]⟩ : ByteArray)]) ?_ 1 _ rfl; (with_reducible repeat (first | refine blk_drewN ?_ _ | refine blk_drew ?_ | refine blk_alloc ?_ _)); refine blk_put (cs := #[.int .i64 0, .int .i64 0, .string (⟨#[]⟩ : ByteArray)]) ?_ 0 _ rfl; (with_reducible repeat (first | refine blk_drewN ?_ _ | refine blk_drew ?_ | refine blk_alloc ?_ _)); exact BK161.out⟩, ⟨by repeat (first | (with_reducible first | exact HB.out | apply below_alloc | apply pw_below_drewN | apply below_drew1 | refine below_set ?_ GE161.out) | exact HB.out)⟩⟩
          case rest =>
            clear HC5
            try clear c1
            try clear p1
            try clear q1
            try clear hx1
            try clear c2
            try clear p2
            try clear c3
            try clear c3b0
            try clear c4
            try clear c4b0
            try clear c5
            try clear p6
            try clear c8
            try clear c8b0
            try clear c10
            try clear c10b0
            try clear c12
            try clear c12b0
            try clear c14
            try clear c14b0
            try clear c14b1
            try clear c15
            try clear c15b0
            try clear c15b1
            try clear p16
            try clear q16
            try clear hx16
            try clear c17
            try clear c17b0
            try clear c19
            try clear c19b0
            try clear c20
            try clear c20b0
            try clear c23
            try clear c23b0
            try clear c25
            try clear c25b0
            try clear c26
            try clear c26b0
            try clear hcz11_0
            try clear hcz11_1
            try clear hcz11_2
            try clear hcz13_0
            try clear hcz13_1
            try clear hcz13_2
            try clear hcz16_0
            try clear hcz16_1
            try clear hcz16_2
            try clear hcz21_0
            try clear hcz21_1
            try clear hcz21_2
            try clear hcz22_0
            try clear hcz22_1
            try clear hcz22_2
            try clear hcz27_0
            try clear hcz27_1
            try clear hcz27_2
            try clear hcz28_0
            try clear hcz28_1
            try clear hcz28_2
            try clear hcz7_0
            try clear hcz7_1
            try clear hcz7_2
            try clear hcz9_0
            try clear hcz9_1
            try clear hcz9_2
            try clear hfz11_0
            try clear hfz11_1
            try clear hfz11_2
            try clear hfz13_0
            try clear hfz13_1
            try clear hfz13_2
            try clear hfz16_0
            try clear hfz16_1
            try clear hfz16_2
            try clear hfz21_0
            try clear hfz21_1
            try clear hfz21_2
            try clear hfz22_0
            try clear hfz22_1
            try clear hfz22_2
            try clear hfz27_0
            try clear hfz27_1
            try clear hfz27_2
            try clear hfz28_0
            try clear hfz28_1
            try clear hfz28_2
            try clear hfz7_0
            try clear hfz7_1
            try clear hfz7_2
            try clear hfz9_0
            try clear hfz9_1
            try clear hfz9_2
            try clear hx160_0
            try clear hx160_1
            try clear hx160_2
            try clear hx162_0
            try clear hx162_1
            try clear hx162_2
            try clear hx163_0
            try clear hx163_1
            try clear hx163_2
            try clear p160
            try clear p162
            try clear p163
            try clear p2
            try clear q160
            try clear q162
            try clear q163
            obtain ⟨kq, x60_4, rfl, HA, HJ4, BK161, HB⟩ := hcut
            cases kq with
            | zero => exact absurd HA.out (by simp [regletref18_Fit.j1])
            | succ kj4 =>
              have H := HA.out
              clear HA
              simp only [regletref18_Fit.j1] at H
              by_cases c29 : x60_4 = true
              · subst c29
                have H1 : (some false) = some r := by rw [if_pos rfl] at H; exact H
                clear H
                have H := H1
                clear H1
                obtain rfl := Option.some.inj H
                go_wp2
                repeat (go_quiet (fail); try go_wp2)
                go_ret
                exact ⟨by first | rfl | (simp [errW_none, errW_some] <;> rfl) | (simp [*, errW_none, errW_some] <;> rfl), by repeat (first | (with_reducible first | exact HB.out | apply below_alloc | apply pw_below_drewN | apply below_drew1 | refine below_set ?_ GE161.out) | exact HB.out)⟩
              · replace c29 := Bool.eq_false_iff.mpr c29
                subst c29
                have H1 : (if ((rd_T33 l1 x5_1).f1) < (l0.length : Int) then ((regletref18_whole.f ((rd_T33 l1 x5_1).f2)).bind fun t164 => (if t164 = true then (if ((rd_T33 l1 x5_1).f0) = (l0.length : Int) then (if (l0.length : Int) > 0 then (if 0 ≤ (wrap64 ((l0.length : Int) - 1)) then (if (wrap64 ((l0.length : Int) - 1)) < (l0.length : Int) then ((regletref18_whole.f (rdOf ByteArray.empty l0 (wrap64 ((l0.length : Int) - 1)))).bind fun t166 => (if t166 = true then (regletref18_Fit.l0 kj4 l0 l1 (wrap64 (x5_1 + 1))) else (some false))) else (none)) else (none)) else (regletref18_Fit.l0 kj4 l0 l1 (wrap64 (x5_1 + 1)))) else (regletref18_Fit.l0 kj4 l0 l1 (wrap64 (x5_1 + 1)))) else (some false))) else (if ((rd_T33 l1 x5_1).f0) = (l0.length : Int) then (if (l0.length : Int) > 0 then (if 0 ≤ (wrap64 ((l0.length : Int) - 1)) then (if (wrap64 ((l0.length : Int) - 1)) < (l0.length : Int) then ((regletref18_whole.f (rdOf ByteArray.empty l0 (wrap64 ((l0.length : Int) - 1)))).bind fun t168 => (if t168 = true then (regletref18_Fit.l0 kj4 l0 l1 (wrap64 (x5_1 + 1))) else (some false))) else (none)) else (none)) else (regletref18_Fit.l0 kj4 l0 l1 (wrap64 (x5_1 + 1)))) else (regletref18_Fit.l0 kj4 l0 l1 (wrap64 (x5_1 + 1))))) = some r := by rw [if_neg (show ¬ (false = true) by decide)] at H; exact H
                clear H
                have H := H1
                clear H1
                by_cases c30 : ((rd_T33 l1 x5_1).f1) < (l0.length : Int)
                · rw [if_pos c30] at H
                  have c30b0 : decide (((rd_T33 l1 x5_1).f1) < (l0.length : Int)) = true := decide_eq_true c30
                  clear c30
                  replace H := Option.bind_eq_some_iff.mp H
                  obtain ⟨t164, A310, H⟩ := H
                  replace H : (if t164 = true then (if ((rd_T33 l1 x5_1).f0) = (l0.length : Int) then (if (l0.length : Int) > 0 then (if 0 ≤ (wrap64 ((l0.length : Int) - 1)) then (if (wrap64 ((l0.length : Int) - 1)) < (l0.length : Int) then ((regletref18_whole.f (rdOf ByteArray.empty l0 (wrap64 ((l0.length : Int) - 1)))).bind fun t166 => (if t166 = true then (regletref18_Fit.l0 kj4 l0 l1 (wrap64 (x5_1 + 1))) else (some false))) else (none)) else (none)) else (regletref18_Fit.l0 kj4 l0 l1 (wrap64 (x5_1 + 1)))) else (regletref18_Fit.l0 kj4 l0 l1 (wrap64 (x5_1 + 1)))) else (some false)) = some r := H
                  have A31 := Aside0.mk A310
                  clear A310
                  by_cases c32 : t164 = true
                  · subst c32
                    have H1 : (if ((rd_T33 l1 x5_1).f0) = (l0.length : Int) then (if (l0.length : Int) > 0 then (if 0 ≤ (wrap64 ((l0.length : Int) - 1)) then (if (wrap64 ((l0.length : Int) - 1)) < (l0.length : Int) then ((regletref18_whole.f (rdOf ByteArray.empty l0 (wrap64 ((l0.length : Int) - 1)))).bind fun t166 => (if t166 = true then (regletref18_Fit.l0 kj4 l0 l1 (wrap64 (x5_1 + 1))) else (some false))) else (none)) else (none)) else (regletref18_Fit.l0 kj4 l0 l1 (wrap64 (x5_1 + 1)))) else (regletref18_Fit.l0 kj4 l0 l1 (wrap64 (x5_1 + 1)))) = some r := by rw [if_pos rfl] at H; exact H
                    clear H
                    have H := H1
                    clear H1
                    by_cases c33 : ((rd_T33 l1 x5_1).f0) = (l0.length : Int)
                    · rw [if_pos c33] at H
                      have c33b0 : (((rd_T33 l1 x5_1).f0) == (l0.length : Int)) = true := beq_iff_eq.mpr c33
                      have c33b1 : (((rd_T33 l1 x5_1).f0) != (l0.length : Int)) = false := bne_eq_false_iff_eq.mpr c33
                      clear c33
                      by_cases c34 : (l0.length : Int) > 0
                      · rw [if_pos c34] at H
                        have c34b0 : decide (0 < (l0.length : Int)) = true := decide_eq_true c34
                        have c34b1 : decide (0 < l0.length) = true := decide_eq_true (by omega)
                        clear c34
                        obtain ⟨ji35, hji35⟩ : ∃ j_ : Int, (wrap64 ((l0.length : Int) - 1)) = j_ := ⟨_, rfl⟩
                        replace H : (if 0 ≤ (ji35) then (if (ji35) < (l0.length : Int) then ((regletref18_whole.f (rdOf ByteArray.empty l0 (ji35))).bind fun t166 => (if t166 = true then (regletref18_Fit.l0 kj4 l0 l1 (wrap64 (x5_1 + 1))) else (some false))) else (none)) else (none)) = some r := by first | (rw [hji35] at H; exact H) | (simp only [hji35] at H ⊢; exact H)
                        (try rw [hji35] at A31)
                        have hji35w : (IntKind.i64.wrap ((l0.length : Int) - 1)) = ji35 := (i64_w _).trans hji35
                        by_cases c36 : 0 ≤ (ji35)
                        · rw [if_pos c36] at H
                          have c36b0 : decide (0 ≤ (ji35)) = true := decide_eq_true c36
                          clear c36
                          by_cases c37 : (ji35) < (l0.length : Int)
                          · rw [if_pos c37] at H
                            have c37b0 : decide ((ji35) < (l0.length : Int)) = true := decide_eq_true c37
                            clear c37
                            replace H := Option.bind_eq_some_iff.mp H
                            obtain ⟨t166, A380, H⟩ := H
                            replace H : (if t166 = true then (regletref18_Fit.l0 kj4 l0 l1 (wrap64 (x5_1 + 1))) else (some false)) = some r := H
                            have A38 := Aside0.mk A380
                            clear A380
                            by_cases c39 : t166 = true
                            · subst c39
                              have H1 : (regletref18_Fit.l0 kj4 l0 l1 (wrap64 (x5_1 + 1))) = some r := by rw [if_pos rfl] at H; exact H
                              clear H
                              have H := H1
                              clear H1
                              have H' := Aside0.mk H
                              clear H
                              have hcz40_0 : wc.cell? ⟨gb161, 0, none⟩ = some (.int .i64 ((rd_T33 l1 x5_1).f0)) := (blk_cell BK161.out 0).trans rfl
                              have hcz40_1 : wc.cell? ⟨gb161, 1, none⟩ = some (.int .i64 ((rd_T33 l1 x5_1).f1)) := (blk_cell BK161.out 1).trans rfl
                              have hcz40_2 : wc.cell? ⟨gb161, 2, none⟩ = some (.string ((rd_T33 l1 x5_1).f2)) := (blk_cell BK161.out 2).trans rfl
                              have hfz40_0 := blk_frozen BK161.out 0
                              have hfz40_1 := blk_frozen BK161.out 1
                              have hfz40_2 := blk_frozen BK161.out 2
                              go_wp2_with (first | (go_at_call 65; (with_reducible refine (regletref18_whole.calls ((rd_T33 l1 x5_1).f2) true _ A31.out).mono ?_); rintro e w' ⟨rfl, ⟨nd, rfl⟩⟩; (try first | exact ⟨rfl, _, World.drewN_drewN _ _ _⟩ | exact ⟨rfl, _, Eq.trans (World.drewN_drewN _ _ _) (congrArg (World.drewN _) (Nat.add_assoc _ _ _))⟩); have p165 : 0 ≤ ((ji35) : Int) := of_decide_eq_true (by first | (with_reducible assumption) | assumption); have q165 : (ji35) < (l0.length : Int) := of_decide_eq_true (by first | (with_reducible assumption) | assumption); obtain ⟨ad165, e165, hx165_0⟩ := Kd.at_string HR0.out (ji35) p165 q165; cases e165; replace hx165_0 := (HB.out.cell (World.block_lt_of_cell? w _ hx165_0)).trans hx165_0; replace p165 := eq_true p165; replace q165 := eq_true q165) | (go_at_call 65; (with_reducible refine (regletref18_whole.calls (rdOf ByteArray.empty l0 (ji35)) true _ A38.out).mono ?_); rintro e w' ⟨rfl, ⟨nd, rfl⟩⟩; (try first | exact ⟨rfl, _, World.drewN_drewN _ _ _⟩ | exact ⟨rfl, _, Eq.trans (World.drewN_drewN _ _ _) (congrArg (World.drewN _) (Nat.add_assoc _ _ _))⟩)))
                              repeat (go_quiet (first | (go_at_call 65; (with_reducible refine (regletref18_whole.calls ((rd_T33 l1 x5_1).f2) true _ A31.out).mono ?_); rintro e w' ⟨rfl, ⟨nd, rfl⟩⟩; (try first | exact ⟨rfl, _, World.drewN_drewN _ _ _⟩ | exact ⟨rfl, _, Eq.trans (World.drewN_drewN _ _ _) (congrArg (World.drewN _) (Nat.add_assoc _ _ _))⟩)) | (go_at_call 65; (with_reducible refine (regletref18_whole.calls (rdOf ByteArray.empty l0 (ji35)) true _ A38.out).mono ?_); rintro e w' ⟨rfl, ⟨nd, rfl⟩⟩; (try first | exact ⟨rfl, _, World.drewN_drewN _ _ _⟩ | exact ⟨rfl, _, Eq.trans (World.drewN_drewN _ _ _) (congrArg (World.drewN _) (Nat.add_assoc _ _ _))⟩))); try go_wp2_with (first | (go_at_call 65; (with_reducible refine (regletref18_whole.calls ((rd_T33 l1 x5_1).f2) true _ A31.out).mono ?_); rintro e w' ⟨rfl, ⟨nd, rfl⟩⟩; (try first | exact ⟨rfl, _, World.drewN_drewN _ _ _⟩ | exact ⟨rfl, _, Eq.trans (World.drewN_drewN _ _ _) (congrArg (World.drewN _) (Nat.add_assoc _ _ _))⟩); have p165 : 0 ≤ ((ji35) : Int) := of_decide_eq_true (by first | (with_reducible assumption) | assumption); have q165 : (ji35) < (l0.length : Int) := of_decide_eq_true (by first | (with_reducible assumption) | assumption); obtain ⟨ad165, e165, hx165_0⟩ := Kd.at_string HR0.out (ji35) p165 q165; cases e165; replace hx165_0 := (HB.out.cell (World.block_lt_of_cell? w _ hx165_0)).trans hx165_0; replace p165 := eq_true p165; replace q165 := eq_true q165) | (go_at_call 65; (with_reducible refine (regletref18_whole.calls (rdOf ByteArray.empty l0 (ji35)) true _ A38.out).mono ?_); rintro e w' ⟨rfl, ⟨nd, rfl⟩⟩; (try first | exact ⟨rfl, _, World.drewN_drewN _ _ _⟩ | exact ⟨rfl, _, Eq.trans (World.drewN_drewN _ _ _) (congrArg (World.drewN _) (Nat.add_assoc _ _ _))⟩))))
                              go_roundg kj4
                              case measure => have := HK1.out; have := HJ4.out; omega
                              case rel => exact ⟨(wrap64 (x5_1 + 1)), (by first | rfl | (simp; done) | (simp [*]; done)), H', ⟨by have := HK1.out; have := HJ4.out; omega⟩, ⟨by repeat (first | (with_reducible first | exact HB.out | apply below_alloc | apply pw_below_drewN | apply below_drew1 | refine below_set ?_ GE161.out) | exact HB.out)⟩⟩
                            · replace c39 := Bool.eq_false_iff.mpr c39
                              subst c39
                              have H1 : (some false) = some r := by rw [if_neg (show ¬ (false = true) by decide)] at H; exact H
                              clear H
                              have H := H1
                              clear H1
                              obtain rfl := Option.some.inj H
                              have hcz41_0 : wc.cell? ⟨gb161, 0, none⟩ = some (.int .i64 ((rd_T33 l1 x5_1).f0)) := (blk_cell BK161.out 0).trans rfl
                              have hcz41_1 : wc.cell? ⟨gb161, 1, none⟩ = some (.int .i64 ((rd_T33 l1 x5_1).f1)) := (blk_cell BK161.out 1).trans rfl
                              have hcz41_2 : wc.cell? ⟨gb161, 2, none⟩ = some (.string ((rd_T33 l1 x5_1).f2)) := (blk_cell BK161.out 2).trans rfl
                              have hfz41_0 := blk_frozen BK161.out 0
                              have hfz41_1 := blk_frozen BK161.out 1
                              have hfz41_2 := blk_frozen BK161.out 2
                              go_wp2_with (first | (go_at_call 65; (with_reducible refine (regletref18_whole.calls ((rd_T33 l1 x5_1).f2) true _ A31.out).mono ?_); rintro e w' ⟨rfl, ⟨nd, rfl⟩⟩; (try first | exact ⟨rfl, _, World.drewN_drewN _ _ _⟩ | exact ⟨rfl, _, Eq.trans (World.drewN_drewN _ _ _) (congrArg (World.drewN _) (Nat.add_assoc _ _ _))⟩); have p165 : 0 ≤ ((ji35) : Int) := of_decide_eq_true (by first | (with_reducible assumption) | assumption); have q165 : (ji35) < (l0.length : Int) := of_decide_eq_true (by first | (with_reducible assumption) | assumption); obtain ⟨ad165, e165, hx165_0⟩ := Kd.at_string HR0.out (ji35) p165 q165; cases e165; replace hx165_0 := (HB.out.cell (World.block_lt_of_cell? w _ hx165_0)).trans hx165_0; replace p165 := eq_true p165; replace q165 := eq_true q165) | (go_at_call 65; (with_reducible refine (regletref18_whole.calls (rdOf ByteArray.empty l0 (ji35)) false _ A38.out).mono ?_); rintro e w' ⟨rfl, ⟨nd, rfl⟩⟩; (try first | exact ⟨rfl, _, World.drewN_drewN _ _ _⟩ | exact ⟨rfl, _, Eq.trans (World.drewN_drewN _ _ _) (congrArg (World.drewN _) (Nat.add_assoc _ _ _))⟩)))
                              repeat (go_quiet (first | (go_at_call 65; (with_reducible refine (regletref18_whole.calls ((rd_T33 l1 x5_1).f2) true _ A31.out).mono ?_); rintro e w' ⟨rfl, ⟨nd, rfl⟩⟩; (try first | exact ⟨rfl, _, World.drewN_drewN _ _ _⟩ | exact ⟨rfl, _, Eq.trans (World.drewN_drewN _ _ _) (congrArg (World.drewN _) (Nat.add_assoc _ _ _))⟩)) | (go_at_call 65; (with_reducible refine (regletref18_whole.calls (rdOf ByteArray.empty l0 (ji35)) false _ A38.out).mono ?_); rintro e w' ⟨rfl, ⟨nd, rfl⟩⟩; (try first | exact ⟨rfl, _, World.drewN_drewN _ _ _⟩ | exact ⟨rfl, _, Eq.trans (World.drewN_drewN _ _ _) (congrArg (World.drewN _) (Nat.add_assoc _ _ _))⟩))); try go_wp2_with (first | (go_at_call 65; (with_reducible refine (regletref18_whole.calls ((rd_T33 l1 x5_1).f2) true _ A31.out).mono ?_); rintro e w' ⟨rfl, ⟨nd, rfl⟩⟩; (try first | exact ⟨rfl, _, World.drewN_drewN _ _ _⟩ | exact ⟨rfl, _, Eq.trans (World.drewN_drewN _ _ _) (congrArg (World.drewN _) (Nat.add_assoc _ _ _))⟩); have p165 : 0 ≤ ((ji35) : Int) := of_decide_eq_true (by first | (with_reducible assumption) | assumption); have q165 : (ji35) < (l0.length : Int) := of_decide_eq_true (by first | (with_reducible assumption) | assumption); obtain ⟨ad165, e165, hx165_0⟩ := Kd.at_string HR0.out (ji35) p165 q165; cases e165; replace hx165_0 := (HB.out.cell (World.block_lt_of_cell? w _ hx165_0)).trans hx165_0; replace p165 := eq_true p165; replace q165 := eq_true q165) | (go_at_call 65; (with_reducible refine (regletref18_whole.calls (rdOf ByteArray.empty l0 (ji35)) false _ A38.out).mono ?_); rintro e w' ⟨rfl, ⟨nd, rfl⟩⟩; (try first | exact ⟨rfl, _, World.drewN_drewN _ _ _⟩ | exact ⟨rfl, _, Eq.trans (World.drewN_drewN _ _ _) (congrArg (World.drewN _) (Nat.add_assoc _ _ _))⟩))))
                              go_ret
                              exact ⟨by first | rfl | (simp [errW_none, errW_some] <;> rfl) | (simp only [← hji35]; first | rfl | (simp [errW_none, errW_some] <;> rfl)) | (simp [*, errW_none, errW_some] <;> rfl), by repeat (first | (with_reducible first | exact HB.out | apply below_alloc | apply pw_below_drewN | apply below_drew1 | refine below_set ?_ GE161.out) | exact HB.out)⟩
                          · rw [if_neg c37] at H
                            exact absurd H (by simp)
                        · rw [if_neg c36] at H
                          exact absurd H (by simp)
                      · rw [if_neg c34] at H
                        have c34b0 : decide (0 < (l0.length : Int)) = false := decide_eq_false c34
                        have c34b1 : decide (0 < l0.length) = false := decide_eq_false (by omega)
                        clear c34
                        have H' := Aside0.mk H
                        clear H
                        have hcz42_0 : wc.cell? ⟨gb161, 0, none⟩ = some (.int .i64 ((rd_T33 l1 x5_1).f0)) := (blk_cell BK161.out 0).trans rfl
                        have hcz42_1 : wc.cell? ⟨gb161, 1, none⟩ = some (.int .i64 ((rd_T33 l1 x5_1).f1)) := (blk_cell BK161.out 1).trans rfl
                        have hcz42_2 : wc.cell? ⟨gb161, 2, none⟩ = some (.string ((rd_T33 l1 x5_1).f2)) := (blk_cell BK161.out 2).trans rfl
                        have hfz42_0 := blk_frozen BK161.out 0
                        have hfz42_1 := blk_frozen BK161.out 1
                        have hfz42_2 := blk_frozen BK161.out 2
                        go_wp2_with (first | (go_at_call 65; (with_reducible refine (regletref18_whole.calls ((rd_T33 l1 x5_1).f2) true _ A31.out).mono ?_); rintro e w' ⟨rfl, ⟨nd, rfl⟩⟩; (try first | exact ⟨rfl, _, World.drewN_drewN _ _ _⟩ | exact ⟨rfl, _, Eq.trans (World.drewN_drewN _ _ _) (congrArg (World.drewN _) (Nat.add_assoc _ _ _))⟩)))
                        repeat (go_quiet (first | (go_at_call 65; (with_reducible refine (regletref18_whole.calls ((rd_T33 l1 x5_1).f2) true _ A31.out).mono ?_); rintro e w' ⟨rfl, ⟨nd, rfl⟩⟩; (try first | exact ⟨rfl, _, World.drewN_drewN _ _ _⟩ | exact ⟨rfl, _, Eq.trans (World.drewN_drewN _ _ _) (congrArg (World.drewN _) (Nat.add_assoc _ _ _))⟩))); try go_wp2_with (first | (go_at_call 65; (with_reducible refine (regletref18_whole.calls ((rd_T33 l1 x5_1).f2) true _ A31.out).mono ?_); rintro e w' ⟨rfl, ⟨nd, rfl⟩⟩; (try first | exact ⟨rfl, _, World.drewN_drewN _ _ _⟩ | exact ⟨rfl, _, Eq.trans (World.drewN_drewN _ _ _) (congrArg (World.drewN _) (Nat.add_assoc _ _ _))⟩))))
                        go_roundg kj4
                        case measure => have := HK1.out; have := HJ4.out; omega
                        case rel => exact ⟨(wrap64 (x5_1 + 1)), (by first | rfl | (simp; done) | (simp [*]; done)), H', ⟨by have := HK1.out; have := HJ4.out; omega⟩, ⟨by repeat (first | (with_reducible first | exact HB.out | apply below_alloc | apply pw_below_drewN | apply below_drew1 | refine below_set ?_ GE161.out) | exact HB.out)⟩⟩
                    · rw [if_neg c33] at H
                      have c33b0 : (((rd_T33 l1 x5_1).f0) == (l0.length : Int)) = false := beq_eq_false_iff_ne.mpr c33
                      have c33b1 : (((rd_T33 l1 x5_1).f0) != (l0.length : Int)) = true := bne_iff_ne.mpr c33
                      have H' := Aside0.mk H
                      clear H
                      have hcz43_0 : wc.cell? ⟨gb161, 0, none⟩ = some (.int .i64 ((rd_T33 l1 x5_1).f0)) := (blk_cell BK161.out 0).trans rfl
                      have hcz43_1 : wc.cell? ⟨gb161, 1, none⟩ = some (.int .i64 ((rd_T33 l1 x5_1).f1)) := (blk_cell BK161.out 1).trans rfl
                      have hcz43_2 : wc.cell? ⟨gb161, 2, none⟩ = some (.string ((rd_T33 l1 x5_1).f2)) := (blk_cell BK161.out 2).trans rfl
                      have hfz43_0 := blk_frozen BK161.out 0
                      have hfz43_1 := blk_frozen BK161.out 1
                      have hfz43_2 := blk_frozen BK161.out 2
                      go_wp2_with (first | (go_at_call 65; (with_reducible refine (regletref18_whole.calls ((rd_T33 l1 x5_1).f2) true _ A31.out).mono ?_); rintro e w' ⟨rfl, ⟨nd, rfl⟩⟩; (try first | exact ⟨rfl, _, World.drewN_drewN _ _ _⟩ | exact ⟨rfl, _, Eq.trans (World.drewN_drewN _ _ _) (congrArg (World.drewN _) (Nat.add_assoc _ _ _))⟩)))
                      repeat (go_quiet (first | (go_at_call 65; (with_reducible refine (regletref18_whole.calls ((rd_T33 l1 x5_1).f2) true _ A31.out).mono ?_); rintro e w' ⟨rfl, ⟨nd, rfl⟩⟩; (try first | exact ⟨rfl, _, World.drewN_drewN _ _ _⟩ | exact ⟨rfl, _, Eq.trans (World.drewN_drewN _ _ _) (congrArg (World.drewN _) (Nat.add_assoc _ _ _))⟩))); try go_wp2_with (first | (go_at_call 65; (with_reducible refine (regletref18_whole.calls ((rd_T33 l1 x5_1).f2) true _ A31.out).mono ?_); rintro e w' ⟨rfl, ⟨nd, rfl⟩⟩; (try first | exact ⟨rfl, _, World.drewN_drewN _ _ _⟩ | exact ⟨rfl, _, Eq.trans (World.drewN_drewN _ _ _) (congrArg (World.drewN _) (Nat.add_assoc _ _ _))⟩))))
                      go_roundg kj4
                      case measure => have := HK1.out; have := HJ4.out; omega
                      case rel => exact ⟨(wrap64 (x5_1 + 1)), (by first | rfl | (simp; done) | (simp [*]; done)), H', ⟨by have := HK1.out; have := HJ4.out; omega⟩, ⟨by repeat (first | (with_reducible first | exact HB.out | apply below_alloc | apply pw_below_drewN | apply below_drew1 | refine below_set ?_ GE161.out) | exact HB.out)⟩⟩
                  · replace c32 := Bool.eq_false_iff.mpr c32
                    subst c32
                    have H1 : (some false) = some r := by rw [if_neg (show ¬ (false = true) by decide)] at H; exact H
                    clear H
                    have H := H1
                    clear H1
                    obtain rfl := Option.some.inj H
                    have hcz44_0 : wc.cell? ⟨gb161, 0, none⟩ = some (.int .i64 ((rd_T33 l1 x5_1).f0)) := (blk_cell BK161.out 0).trans rfl
                    have hcz44_1 : wc.cell? ⟨gb161, 1, none⟩ = some (.int .i64 ((rd_T33 l1 x5_1).f1)) := (blk_cell BK161.out 1).trans rfl
                    have hcz44_2 : wc.cell? ⟨gb161, 2, none⟩ = some (.string ((rd_T33 l1 x5_1).f2)) := (blk_cell BK161.out 2).trans rfl
                    have hfz44_0 := blk_frozen BK161.out 0
                    have hfz44_1 := blk_frozen BK161.out 1
                    have hfz44_2 := blk_frozen BK161.out 2
                    go_wp2_with (first | (go_at_call 65; (with_reducible refine (regletref18_whole.calls ((rd_T33 l1 x5_1).f2) false _ A31.out).mono ?_); rintro e w' ⟨rfl, ⟨nd, rfl⟩⟩; (try first | exact ⟨rfl, _, World.drewN_drewN _ _ _⟩ | exact ⟨rfl, _, Eq.trans (World.drewN_drewN _ _ _) (congrArg (World.drewN _) (Nat.add_assoc _ _ _))⟩)))
                    repeat (go_quiet (first | (go_at_call 65; (with_reducible refine (regletref18_whole.calls ((rd_T33 l1 x5_1).f2) false _ A31.out).mono ?_); rintro e w' ⟨rfl, ⟨nd, rfl⟩⟩; (try first | exact ⟨rfl, _, World.drewN_drewN _ _ _⟩ | exact ⟨rfl, _, Eq.trans (World.drewN_drewN _ _ _) (congrArg (World.drewN _) (Nat.add_assoc _ _ _))⟩))); try go_wp2_with (first | (go_at_call 65; (with_reducible refine (regletref18_whole.calls ((rd_T33 l1 x5_1).f2) false _ A31.out).mono ?_); rintro e w' ⟨rfl, ⟨nd, rfl⟩⟩; (try first | exact ⟨rfl, _, World.drewN_drewN _ _ _⟩ | exact ⟨rfl, _, Eq.trans (World.drewN_drewN _ _ _) (congrArg (World.drewN _) (Nat.add_assoc _ _ _))⟩))))
                    go_ret
                    exact ⟨by first | rfl | (simp [errW_none, errW_some] <;> rfl) | (simp [*, errW_none, errW_some] <;> rfl), by repeat (first | (with_reducible first | exact HB.out | apply below_alloc | apply pw_below_drewN | apply below_drew1 | refine below_set ?_ GE161.out) | exact HB.out)⟩
                · rw [if_neg c30] at H
                  have c30b0 : decide (((rd_T33 l1 x5_1).f1) < (l0.length : Int)) = false := decide_eq_false c30
                  clear c30
                  by_cases c45 : ((rd_T33 l1 x5_1).f0) = (l0.length : Int)
                  · rw [if_pos c45] at H
                    have c45b0 : (((rd_T33 l1 x5_1).f0) == (l0.length : Int)) = true := beq_iff_eq.mpr c45
                    have c45b1 : (((rd_T33 l1 x5_1).f0) != (l0.length : Int)) = false := bne_eq_false_iff_eq.mpr c45
                    clear c45
                    by_cases c46 : (l0.length : Int) > 0
                    · rw [if_pos c46] at H
                      have c46b0 : decide (0 < (l0.length : Int)) = true := decide_eq_true c46
                      have c46b1 : decide (0 < l0.length) = true := decide_eq_true (by omega)
                      clear c46
                      obtain ⟨ji47, hji47⟩ : ∃ j_ : Int, (wrap64 ((l0.length : Int) - 1)) = j_ := ⟨_, rfl⟩
                      replace H : (if 0 ≤ (ji47) then (if (ji47) < (l0.length : Int) then ((regletref18_whole.f (rdOf ByteArray.empty l0 (ji47))).bind fun t168 => (if t168 = true then (regletref18_Fit.l0 kj4 l0 l1 (wrap64 (x5_1 + 1))) else (some false))) else (none)) else (none)) = some r := by first | (rw [hji47] at H; exact H) | (simp only [hji47] at H ⊢; exact H)
                      have hji47w : (IntKind.i64.wrap ((l0.length : Int) - 1)) = ji47 := (i64_w _).trans hji47
                      by_cases c48 : 0 ≤ (ji47)
                      · rw [if_pos c48] at H
                        have c48b0 : decide (0 ≤ (ji47)) = true := decide_eq_true c48
                        clear c48
                        by_cases c49 : (ji47) < (l0.length : Int)
                        · rw [if_pos c49] at H
                          have c49b0 : decide ((ji47) < (l0.length : Int)) = true := decide_eq_true c49
                          clear c49
                          replace H := Option.bind_eq_some_iff.mp H
                          obtain ⟨t168, A500, H⟩ := H
                          replace H : (if t168 = true then (regletref18_Fit.l0 kj4 l0 l1 (wrap64 (x5_1 + 1))) else (some false)) = some r := H
                          have A50 := Aside0.mk A500
                          clear A500
                          by_cases c51 : t168 = true
                          · subst c51
                            have H1 : (regletref18_Fit.l0 kj4 l0 l1 (wrap64 (x5_1 + 1))) = some r := by rw [if_pos rfl] at H; exact H
                            clear H
                            have H := H1
                            clear H1
                            have H' := Aside0.mk H
                            clear H
                            have hcz52_0 : wc.cell? ⟨gb161, 0, none⟩ = some (.int .i64 ((rd_T33 l1 x5_1).f0)) := (blk_cell BK161.out 0).trans rfl
                            have hcz52_1 : wc.cell? ⟨gb161, 1, none⟩ = some (.int .i64 ((rd_T33 l1 x5_1).f1)) := (blk_cell BK161.out 1).trans rfl
                            have hcz52_2 : wc.cell? ⟨gb161, 2, none⟩ = some (.string ((rd_T33 l1 x5_1).f2)) := (blk_cell BK161.out 2).trans rfl
                            have hfz52_0 := blk_frozen BK161.out 0
                            have hfz52_1 := blk_frozen BK161.out 1
                            have hfz52_2 := blk_frozen BK161.out 2
                            have p167 : 0 ≤ ((ji47) : Int) := of_decide_eq_true (by first | (with_reducible assumption) | assumption)
                            have q167 : (ji47) < (l0.length : Int) := of_decide_eq_true (by first | (with_reducible assumption) | assumption)
                            obtain ⟨ad167, e167, hx167_0⟩ := Kd.at_string HR0.out (ji47) p167 q167
                            cases e167
                            replace hx167_0 := (HB.out.cell (World.block_lt_of_cell? w _ hx167_0)).trans hx167_0
                            replace p167 := eq_true p167
                            replace q167 := eq_true q167
                            go_wp2_with (first | (go_at_call 65; (with_reducible refine (regletref18_whole.calls (rdOf ByteArray.empty l0 (ji47)) true _ A50.out).mono ?_); rintro e w' ⟨rfl, ⟨nd, rfl⟩⟩; (try first | exact ⟨rfl, _, World.drewN_drewN _ _ _⟩ | exact ⟨rfl, _, Eq.trans (World.drewN_drewN _ _ _) (congrArg (World.drewN _) (Nat.add_assoc _ _ _))⟩)))
                            repeat (go_quiet (first | (go_at_call 65; (with_reducible refine (regletref18_whole.calls (rdOf ByteArray.empty l0 (ji47)) true _ A50.out).mono ?_); rintro e w' ⟨rfl, ⟨nd, rfl⟩⟩; (try first | exact ⟨rfl, _, World.drewN_drewN _ _ _⟩ | exact ⟨rfl, _, Eq.trans (World.drewN_drewN _ _ _) (congrArg (World.drewN _) (Nat.add_assoc _ _ _))⟩))); try go_wp2_with (first | (go_at_call 65; (with_reducible refine (regletref18_whole.calls (rdOf ByteArray.empty l0 (ji47)) true _ A50.out).mono ?_); rintro e w' ⟨rfl, ⟨nd, rfl⟩⟩; (try first | exact ⟨rfl, _, World.drewN_drewN _ _ _⟩ | exact ⟨rfl, _, Eq.trans (World.drewN_drewN _ _ _) (congrArg (World.drewN _) (Nat.add_assoc _ _ _))⟩))))
                            go_roundg kj4
                            case measure => have := HK1.out; have := HJ4.out; omega
                            case rel => exact ⟨(wrap64 (x5_1 + 1)), (by first | rfl | (simp; done) | (simp [*]; done)), H', ⟨by have := HK1.out; have := HJ4.out; omega⟩, ⟨by repeat (first | (with_reducible first | exact HB.out | apply below_alloc | apply pw_below_drewN | apply below_drew1 | refine below_set ?_ GE161.out) | exact HB.out)⟩⟩
                          · replace c51 := Bool.eq_false_iff.mpr c51
                            subst c51
                            have H1 : (some false) = some r := by rw [if_neg (show ¬ (false = true) by decide)] at H; exact H
                            clear H
                            have H := H1
                            clear H1
                            obtain rfl := Option.some.inj H
                            have hcz53_0 : wc.cell? ⟨gb161, 0, none⟩ = some (.int .i64 ((rd_T33 l1 x5_1).f0)) := (blk_cell BK161.out 0).trans rfl
                            have hcz53_1 : wc.cell? ⟨gb161, 1, none⟩ = some (.int .i64 ((rd_T33 l1 x5_1).f1)) := (blk_cell BK161.out 1).trans rfl
                            have hcz53_2 : wc.cell? ⟨gb161, 2, none⟩ = some (.string ((rd_T33 l1 x5_1).f2)) := (blk_cell BK161.out 2).trans rfl
                            have hfz53_0 := blk_frozen BK161.out 0
                            have hfz53_1 := blk_frozen BK161.out 1
                            have hfz53_2 := blk_frozen BK161.out 2
                            have p167 : 0 ≤ ((ji47) : Int) := of_decide_eq_true (by first | (with_reducible assumption) | assumption)
                            have q167 : (ji47) < (l0.length : Int) := of_decide_eq_true (by first | (with_reducible assumption) | assumption)
                            obtain ⟨ad167, e167, hx167_0⟩ := Kd.at_string HR0.out (ji47) p167 q167
                            cases e167
                            replace hx167_0 := (HB.out.cell (World.block_lt_of_cell? w _ hx167_0)).trans hx167_0
                            replace p167 := eq_true p167
                            replace q167 := eq_true q167
                            go_wp2_with (first | (go_at_call 65; (with_reducible refine (regletref18_whole.calls (rdOf ByteArray.empty l0 (ji47)) false _ A50.out).mono ?_); rintro e w' ⟨rfl, ⟨nd, rfl⟩⟩; (try first | exact ⟨rfl, _, World.drewN_drewN _ _ _⟩ | exact ⟨rfl, _, Eq.trans (World.drewN_drewN _ _ _) (congrArg (World.drewN _) (Nat.add_assoc _ _ _))⟩)))
                            repeat (go_quiet (first | (go_at_call 65; (with_reducible refine (regletref18_whole.calls (rdOf ByteArray.empty l0 (ji47)) false _ A50.out).mono ?_); rintro e w' ⟨rfl, ⟨nd, rfl⟩⟩; (try first | exact ⟨rfl, _, World.drewN_drewN _ _ _⟩ | exact ⟨rfl, _, Eq.trans (World.drewN_drewN _ _ _) (congrArg (World.drewN _) (Nat.add_assoc _ _ _))⟩))); try go_wp2_with (first | (go_at_call 65; (with_reducible refine (regletref18_whole.calls (rdOf ByteArray.empty l0 (ji47)) false _ A50.out).mono ?_); rintro e w' ⟨rfl, ⟨nd, rfl⟩⟩; (try first | exact ⟨rfl, _, World.drewN_drewN _ _ _⟩ | exact ⟨rfl, _, Eq.trans (World.drewN_drewN _ _ _) (congrArg (World.drewN _) (Nat.add_assoc _ _ _))⟩))))
                            go_ret
                            exact ⟨by first | rfl | (simp [errW_none, errW_some] <;> rfl) | (simp only [← hji47]; first | rfl | (simp [errW_none, errW_some] <;> rfl)) | (simp [*, errW_none, errW_some] <;> rfl), by repeat (first | (with_reducible first | exact HB.out | apply below_alloc | apply pw_below_drewN | apply below_drew1 | refine below_set ?_ GE161.out) | exact HB.out)⟩
                        · rw [if_neg c49] at H
                          exact absurd H (by simp)
                      · rw [if_neg c48] at H
                        exact absurd H (by simp)
                    · rw [if_neg c46] at H
                      have c46b0 : decide (0 < (l0.length : Int)) = false := decide_eq_false c46
                      have c46b1 : decide (0 < l0.length) = false := decide_eq_false (by omega)
                      clear c46
                      have H' := Aside0.mk H
                      clear H
                      have hcz54_0 : wc.cell? ⟨gb161, 0, none⟩ = some (.int .i64 ((rd_T33 l1 x5_1).f0)) := (blk_cell BK161.out 0).trans rfl
                      have hcz54_1 : wc.cell? ⟨gb161, 1, none⟩ = some (.int .i64 ((rd_T33 l1 x5_1).f1)) := (blk_cell BK161.out 1).trans rfl
                      have hcz54_2 : wc.cell? ⟨gb161, 2, none⟩ = some (.string ((rd_T33 l1 x5_1).f2)) := (blk_cell BK161.out 2).trans rfl
                      have hfz54_0 := blk_frozen BK161.out 0
                      have hfz54_1 := blk_frozen BK161.out 1
                      have hfz54_2 := blk_frozen BK161.out 2
                      go_wp2
                      repeat (go_quiet (fail); try go_wp2)
                      go_roundg kj4
                      case measure => have := HK1.out; have := HJ4.out; omega
                      case rel => exact ⟨(wrap64 (x5_1 + 1)), (by first | rfl | (simp; done) | (simp [*]; done)), H', ⟨by have := HK1.out; have := HJ4.out; omega⟩, ⟨by repeat (first | (with_reducible first | exact HB.out | apply below_alloc | apply pw_below_drewN | apply below_drew1 | refine below_set ?_ GE161.out) | exact HB.out)⟩⟩
                  · rw [if_neg c45] at H
                    have c45b0 : (((rd_T33 l1 x5_1).f0) == (l0.length : Int)) = false := beq_eq_false_iff_ne.mpr c45
                    have c45b1 : (((rd_T33 l1 x5_1).f0) != (l0.length : Int)) = true := bne_iff_ne.mpr c45
                    have H' := Aside0.mk H
                    clear H
                    have hcz55_0 : wc.cell? ⟨gb161, 0, none⟩ = some (.int .i64 ((rd_T33 l1 x5_1).f0)) := (blk_cell BK161.out 0).trans rfl
                    have hcz55_1 : wc.cell? ⟨gb161, 1, none⟩ = some (.int .i64 ((rd_T33 l1 x5_1).f1)) := (blk_cell BK161.out 1).trans rfl
                    have hcz55_2 : wc.cell? ⟨gb161, 2, none⟩ = some (.string ((rd_T33 l1 x5_1).f2)) := (blk_cell BK161.out 2).trans rfl
                    have hfz55_0 := blk_frozen BK161.out 0
                    have hfz55_1 := blk_frozen BK161.out 1
                    have hfz55_2 := blk_frozen BK161.out 2
                    go_wp2
                    repeat (go_quiet (fail); try go_wp2)
                    go_roundg kj4
                    case measure => have := HK1.out; have := HJ4.out; omega
                    case rel => exact ⟨(wrap64 (x5_1 + 1)), (by first | rfl | (simp; done) | (simp [*]; done)), H', ⟨by have := HK1.out; have := HJ4.out; omega⟩, ⟨by repeat (first | (with_reducible first | exact HB.out | apply below_alloc | apply pw_below_drewN | apply below_drew1 | refine below_set ?_ GE161.out) | exact HB.out)⟩⟩
        · rw [if_neg c4] at H
          exact absurd H (by simp)
      · rw [if_neg c3] at H
        have c3b0 : decide (x5_1 < (l1.length : Int)) = false := decide_eq_false c3
        clear c3
        obtain rfl := Option.some.inj H
        go_wp2
        repeat (go_quiet (fail); try go_wp2)
        go_ret
        exact ⟨by first | rfl | (simp [errW_none, errW_some] <;> rfl) | (simp [*, errW_none, errW_some] <;> rfl), by repeat (first | (with_reducible first | exact HB.out | apply below_alloc | apply pw_below_drewN | apply below_drew1) | exact HB.out)⟩

end Go.Proofs.Ytmecmmpgkcileaa.Z
