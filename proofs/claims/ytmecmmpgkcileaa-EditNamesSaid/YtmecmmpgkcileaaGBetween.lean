/- edit.Between: what makes one text of another one, for every two texts within a bound. -/
import Derived.Test.YtmecmmpgkcileaaGClose
import Derived.Test.YtmecmmpgkcileaaGGrid
import Derived.Test.YtmecmmpgkcileaaPg0
import Derived.WalkMore
namespace Go.Proofs.Ytmecmmpgkcileaa.Z
open Go.RowKit Go.Shelf Go.Proofs.YtmecmmpgkcileaaW.PrintWords Go.Proofs.YtmecmmpgkcileaaW.PrintLast Go.Proofs.YtmecmmpgkcileaaW.PrintMore Go.Proofs.Ytmecmmpgkcileaa.Rf
attribute [local go_sem] max2_int min2_int max_two min_two

/-- The way through the table. -/
def walkB (x y : List ByteArray) : Nat → Nat → Nat → Nat → Nat → List S33 → List S33
  | 0, _, _, f, p, out => closeStep y out x.length f y.length p
  | k + 1, i, j, f, p, out =>
    if i < x.length ∧ j < y.length then
      if sameB (x.getD i ByteArray.empty) (y.getD j ByteArray.empty) = true then walkB x y k (i + 1) (j + 1) (i + 1) (j + 1) (closeStep y out i f j p)
      else if tabT x y i (j + 1) ≤ tabT x y (i + 1) j then walkB x y k (i + 1) j f p out else walkB x y k i (j + 1) f p out
    else closeStep y out x.length f y.length p

def edit_Between.f (a0 a1 : ByteArray) : Option (List S33 × Int) :=
  if a0.size ≤ 1048576 ∧ a1.size ≤ 1048576 then
    if 1048576 < (linesB a0).length * (linesB a1).length then some ([], 4)
    else some (walkB (linesB a0) (linesB a1) ((linesB a0).length + (linesB a1).length) 0 0 0 0 [], 0)
  else none

theorem lines_small {s : ByteArray} (h : s.size ≤ 1048576) : edit_Lines.f s = some (linesB s) := by unfold edit_Lines.f; rw [if_pos (by omega)]

theorem toList_same (a b : ByteArray) : (a.toList == b.toList) = sameB a b := by unfold sameB; rw [ByteArray.toList_eq, ByteArray.toList_eq]

theorem info80 : (Try.prog.info? 80).map (fun i => (i.zero, i.size, i.bytes)) = some (some (.slice none 0 0), 1, 24) := by kernel_rfl
theorem info3 : (Try.prog.info? 3).map (fun i => (i.zero, i.size, i.bytes)) = some (some (.int .i64 0), 1, 8) := by kernel_rfl

/-- What the way through the table holds in its boxes. -/
structure St (Wg W : World) (sB : Nat) (v : Value) (out : List S33) (i j f p : Nat) : Prop where
  o : Boxed W sB 24 v
  i : Boxed W (sB + 1) 3 (.int .i64 (i : Int))
  j : Boxed W (sB + 1 + 1) 3 (.int .i64 (j : Int))
  f : Boxed W (sB + 1 + 1 + 1) 3 (.int .i64 (f : Int))
  p : Boxed W (sB + 1 + 1 + 1 + 1) 3 (.int .i64 (p : Int))
  r : Kd.R k33 33 W (sB + 5) (fun k => sB + 5 ≤ k) v out
  b : Below sB Wg W
  s : sB + 5 ≤ W.heap.size
theorem St.drewN {Wg W : World} {sB : Nat} {v : Value} {out : List S33} {i j f p : Nat} (h : St Wg W sB v out i j f p) (q : Nat) : St Wg (W.drewN q) sB v out i j f p :=
  ⟨h.o, h.i, h.j, h.f, h.p, Kd.R_drewN h.r q, pw_below_drewN h.b q, h.s⟩
theorem St.drew {Wg W : World} {sB : Nat} {v : Value} {out : List S33} {i j f p : Nat} (h : St Wg W sB v out i j f p) : St Wg W.drew sB v out i j f p := h.drewN 1
theorem St.start (Wg : World) : St Wg (((((Wg.alloc (.cells #[.slice none 0 0] 24)).alloc (.cells #[.int .i64 0] 3)).alloc (.cells #[.int .i64 0] 3)).alloc (.cells #[.int .i64 0] 3)).alloc (.cells #[.int .i64 0] 3)) Wg.heap.size (.slice none 0 0) [] 0 0 0 0 := by
  have h0 := Boxed.new Wg 24 (.slice none 0 0)
  have h1 := Boxed.new (Wg.alloc (.cells #[.slice none 0 0] 24)) 3 (.int .i64 0)
  have h2 := Boxed.new ((Wg.alloc (.cells #[.slice none 0 0] 24)).alloc (.cells #[.int .i64 0] 3)) 3 (.int .i64 0)
  have h3 := Boxed.new (((Wg.alloc (.cells #[.slice none 0 0] 24)).alloc (.cells #[.int .i64 0] 3)).alloc (.cells #[.int .i64 0] 3)) 3 (.int .i64 0)
  have h4 := Boxed.new ((((Wg.alloc (.cells #[.slice none 0 0] 24)).alloc (.cells #[.int .i64 0] 3)).alloc (.cells #[.int .i64 0] 3)).alloc (.cells #[.int .i64 0] 3)) 3 (.int .i64 0)
  simp only [World.size_alloc] at h1 h2 h3 h4
  exact ⟨(((h0.alloc _).alloc _).alloc _).alloc _, ((h1.alloc _).alloc _).alloc _, (h2.alloc _).alloc _, h3.alloc _, h4, Kd.R_nil _ _ _ _ _,
    (((((Below.refl _ _).alloc (Nat.le_refl _) _).alloc (by simp) _).alloc (by simp; omega) _).alloc (by simp; omega) _).alloc (by simp; omega) _, by simp⟩
theorem St.setI {Wg W : World} {sB : Nat} {v : Value} {out : List S33} {i j f p : Nat} (h : St Wg W sB v out i j f p) (z : Nat) : St Wg (W.setCell ⟨sB + 1, 0, none⟩ (.int .i64 (z : Int))) sB v out z j f p :=
  have hg := grownBy_setCell' W (sB + 1) (.int .i64 (z : Int))
  ⟨h.o.kept hg (fun e => absurd (Option.some.inj e) (by omega)), h.i.set _, h.j.kept hg (fun e => absurd (Option.some.inj e) (by omega)), h.f.kept hg (fun e => absurd (Option.some.inj e) (by omega)), h.p.kept hg (fun e => absurd (Option.some.inj e) (by omega)),
    Kd.R_far h.r (fun k hk e => by have : k = sB + 1 := e; omega) _, h.b.setCell (p := ⟨sB + 1, 0, none⟩) (by show sB ≤ sB + 1; omega) _, Nat.le_trans h.s hg.size⟩
theorem St.setJ {Wg W : World} {sB : Nat} {v : Value} {out : List S33} {i j f p : Nat} (h : St Wg W sB v out i j f p) (z : Nat) : St Wg (W.setCell ⟨sB + 1 + 1, 0, none⟩ (.int .i64 (z : Int))) sB v out i z f p :=
  have hg := grownBy_setCell' W (sB + 1 + 1) (.int .i64 (z : Int))
  ⟨h.o.kept hg (fun e => absurd (Option.some.inj e) (by omega)), h.i.kept hg (fun e => absurd (Option.some.inj e) (by omega)), h.j.set _, h.f.kept hg (fun e => absurd (Option.some.inj e) (by omega)), h.p.kept hg (fun e => absurd (Option.some.inj e) (by omega)),
    Kd.R_far h.r (fun k hk e => by have : k = sB + 1 + 1 := e; omega) _, h.b.setCell (p := ⟨sB + 1 + 1, 0, none⟩) (by show sB ≤ sB + 1 + 1; omega) _, Nat.le_trans h.s hg.size⟩
theorem St.setF {Wg W : World} {sB : Nat} {v : Value} {out : List S33} {i j f p : Nat} (h : St Wg W sB v out i j f p) (z : Nat) : St Wg (W.setCell ⟨sB + 1 + 1 + 1, 0, none⟩ (.int .i64 (z : Int))) sB v out i j z p :=
  have hg := grownBy_setCell' W (sB + 1 + 1 + 1) (.int .i64 (z : Int))
  ⟨h.o.kept hg (fun e => absurd (Option.some.inj e) (by omega)), h.i.kept hg (fun e => absurd (Option.some.inj e) (by omega)), h.j.kept hg (fun e => absurd (Option.some.inj e) (by omega)), h.f.set _, h.p.kept hg (fun e => absurd (Option.some.inj e) (by omega)),
    Kd.R_far h.r (fun k hk e => by have : k = sB + 1 + 1 + 1 := e; omega) _, h.b.setCell (p := ⟨sB + 1 + 1 + 1, 0, none⟩) (by show sB ≤ sB + 1 + 1 + 1; omega) _, Nat.le_trans h.s hg.size⟩
theorem St.setP {Wg W : World} {sB : Nat} {v : Value} {out : List S33} {i j f p : Nat} (h : St Wg W sB v out i j f p) (z : Nat) : St Wg (W.setCell ⟨sB + 1 + 1 + 1 + 1, 0, none⟩ (.int .i64 (z : Int))) sB v out i j f z :=
  have hg := grownBy_setCell' W (sB + 1 + 1 + 1 + 1) (.int .i64 (z : Int))
  ⟨h.o.kept hg (fun e => absurd (Option.some.inj e) (by omega)), h.i.kept hg (fun e => absurd (Option.some.inj e) (by omega)), h.j.kept hg (fun e => absurd (Option.some.inj e) (by omega)), h.f.kept hg (fun e => absurd (Option.some.inj e) (by omega)), h.p.set _,
    Kd.R_far h.r (fun k hk e => by have : k = sB + 1 + 1 + 1 + 1 := e; omega) _, h.b.setCell (p := ⟨sB + 1 + 1 + 1 + 1, 0, none⟩) (by show sB ≤ sB + 1 + 1 + 1 + 1; omega) _, Nat.le_trans h.s hg.size⟩
theorem St.close {Wg W W2 : World} {sB : Nat} {v : Value} {out ys : List S33} {i j f p : Nat} (h : St Wg W sB v out i j f p) (hc : ClosedTo sB (sB + 5) v ys W W2) : ∃ v', St Wg W2 sB v' ys i j f p := by
  obtain ⟨⟨v', hv', hR'⟩, hfr, hbl⟩ := hc
  have hown : ∀ k, v.ownBlock = some k → sB + 5 ≤ k := fun k hk => h.r.1 k hk
  have key : ∀ k, sB < k → k < sB + 5 → W2.heap[k]? = W.heap[k]? := fun k h1 h2 => hfr k (by have := h.s; omega) (by omega) (fun e => by have := hown _ e.symm; omega)
  exact ⟨v', hv', (key _ (by omega) (by omega)).trans h.i, (key _ (by omega) (by omega)).trans h.j, (key _ (by omega) (by omega)).trans h.f, (key _ (by omega) (by omega)).trans h.p, hR', h.b.trans hbl, Nat.le_trans h.s hbl.size⟩
theorem closeStep_length (y : List ByteArray) (xs : List S33) (i f j p : Nat) : (closeStep y xs i f j p).length ≤ xs.length + 1 := by
  unfold closeStep
  split <;> simp
theorem walkB_end {x y : List ByteArray} {i j : Nat} (h : ¬ (i < x.length ∧ j < y.length)) (f p : Nat) (out : List S33) (k : Nat) : walkB x y k i j f p out = closeStep y out x.length f y.length p := by
  cases k with
  | zero => rfl
  | succ k => unfold walkB; rw [if_neg h]

set_option maxRecDepth 100000 in
set_option maxHeartbeats 4000000 in
theorem edit_Between.calls (a0 a1 : ByteArray) (r1 : List S33) (r2 : Int) (w : World) (h : edit_Between.f a0 a1 = some (r1, r2)) :
    Calls Try.prog 19 #[.string a0, .string a1] w fun e w' => ∃ v0_ : Value, e = .returned (.tuple #[v0_, .int .i64 r2]) ∧ Kd.R k33 33 w' w.heap.size (fun _ => True) v0_ r1 ∧ Below w.heap.size w w' := by
  unfold edit_Between.f at h
  split at h
  · rename_i hd
    obtain ⟨hd0, hd1⟩ := hd
    have hx1 := lines_length a0
    have hy1 := lines_length a1
    have hcat : (catL (linesB a1)).length ≤ 4398046511104 := by rw [catL_linesB, size_toList]; omega
    obtain ⟨x, hx⟩ : ∃ x, x = linesB a0 := ⟨_, rfl⟩
    obtain ⟨y, hy⟩ : ∃ y, y = linesB a1 := ⟨_, rfl⟩
    have HL0 := Lib.hid (lines_small hd0)
    have HL1 := Lib.hid (lines_small hd1)
    rw [← hx] at hx1 HL0 h
    rw [← hy] at hy1 HL1 h hcat
    have hxl : x.length ≤ 1048576 := by omega
    have hyl : y.length ≤ 1048576 := by omega
    clear hx hy hx1 hy1 hd0 hd1
    have hmul : IntKind.i64.wrap ((x.length : Int) * (y.length : Int)) = ((x.length * y.length : Nat) : Int) := by
      rw [i64_w]
      have h1 : x.length * y.length ≤ 1048576 * 1048576 := Nat.mul_le_mul hxl hyl
      rw [← Int.natCast_mul]
      exact wrap_id _ (by omega) (by omega)
    split at h
    · rename_i hb
      have hb' : decide ((1048576 : Int) < (x.length : Int) * (y.length : Int)) = true := decide_eq_true (by rw [← Int.natCast_mul]; omega)
      have H1 := Lib.hid h; clear h hb
      go_enter Try.func19, Try.ntmps19
      go_wp2
      go_step3
      go_wp2_with fail
      refine (edit_Lines.calls a0 x _ HL0.out).mono ?_
      rintro e w1 ⟨vx, rfl, hR, hB1⟩
      obtain ⟨Ax, cx, rfl, hcx, hC⟩ := Kd.R_reads hR
      clear hC hR
      have HB1 := Lib.hid hB1; clear hB1
      go_wp2_with fail
      refine (edit_Lines.calls a1 y _ HL1.out).mono ?_
      rintro e w2 ⟨vy, rfl, hR, hB2⟩
      obtain ⟨Ay, cy, rfl, hcy, hC⟩ := Kd.R_reads hR
      clear hC hR
      have HB2 := Lib.hid hB2; clear hB2
      go_upto_region 2 with (fail)
      have bY := Boxed.new w2 22 (.slice Ay y.length cy)
      have hW1 : Below w2.heap.size w2 (w2.alloc (.cells #[.slice Ay y.length cy] 22)) := (Below.refl _ _).alloc (Nat.le_refl _) _
      generalize w2.alloc (.cells #[.slice Ay y.length cy] 22) = W1 at bY hW1 ⊢
      have cY := bY.cell
      have HW1 := Lib.hid (HB1.out.trans ((HB2.out.trans (hW1.mono HB2.out.size)).mono HB1.out.size))
      clear bY hW1
      go_wp2_with fail
      simp only [Exit.noGoto_ret]
      go_ret2
      have h1 := H1.out
      simp only [Option.some.injEq, Prod.mk.injEq] at h1
      obtain ⟨rfl, rfl⟩ := h1
      exact ⟨_, rfl, Kd.R_nil _ _ _ _ _, HW1.out⟩
    · rename_i hb
      have hb' : decide ((1048576 : Int) < (x.length : Int) * (y.length : Int)) = false := decide_eq_false (by rw [← Int.natCast_mul]; omega)
      have H1 := Lib.hid h; clear h hb
      go_enter Try.func19, Try.ntmps19
      go_wp2
      go_step3
      go_wp2_with fail
      refine (edit_Lines.calls a0 x _ HL0.out).mono ?_
      rintro e w1 ⟨vx, rfl, hR, hB1⟩
      obtain ⟨Ax, cx, rfl, hcx, hC⟩ := Kd.R_reads hR
      have HC := Lib.hid hC; clear hC hR
      have HB1 := Lib.hid hB1; clear hB1
      go_wp2_with fail
      refine (edit_Lines.calls a1 y _ HL1.out).mono ?_
      rintro e w2 ⟨vy, rfl, hR, hB2⟩
      obtain ⟨Ay, cy, rfl, hcy, hC⟩ := Kd.R_reads hR
      have HCY := Lib.hid hC; clear hC hR
      have HB2L := Lib.hid hB2; clear hB2
      go_upto_region 2 with (fail)
      have bY := Boxed.new w2 22 (.slice Ay y.length cy)
      have hW1 : Below w2.heap.size w2 (w2.alloc (.cells #[.slice Ay y.length cy] 22)) := (Below.refl _ _).alloc (Nat.le_refl _) _
      have hs1 : (w2.alloc (.cells #[.slice Ay y.length cy] 22)).heap.size = w2.heap.size + 1 := by simp
      generalize w2.alloc (.cells #[.slice Ay y.length cy] 22) = W1 at bY hW1 hs1 ⊢
      obtain ⟨by_, hby⟩ : ∃ b, w2.heap.size = b := ⟨_, rfl⟩
      rw [hby] at bY hs1 ⊢
      have HBY := Lib.hid hby
      have HW1 := Lib.hid hW1
      have cY := bY.cell
      have BY := Lib.hid bY
      clear hby hW1 bY
      obtain ⟨n1, hn1⟩ : ∃ n1, n1 = x.length + 1 := ⟨_, rfl⟩
      obtain ⟨m1, hm1⟩ : ∃ m1, m1 = y.length + 1 := ⟨_, rfl⟩
      have hwn : IntKind.i64.wrap ((x.length : Int) + 1) = (n1 : Int) := by rw [i64_w, wrap_id _ (by omega) (by omega), hn1]; rfl
      have hwm : IntKind.i64.wrap ((y.length : Int) + 1) = (m1 : Int) := by rw [i64_w, wrap_id _ (by omega) (by omega), hm1]; rfl
      have hmk := print_make_of (P := Try.prog) 79 80 (.slice none 0 0) 24 Try.underlying79 info80 rfl (by decide) n1 (by omega)
      have hmr := print_make_of (P := Try.prog) 80 3 (.int .i64 0) 8 Try.underlying80 info3 rfl (by decide) m1 (by omega)
      have hln : x.length < n1 := by omega
      have hO := (OuterAt.made W1 x.length y.length).alloc (.cells (madeCells #[.int .i64 0] m1) 3)
      rw [← hn1, hs1] at hO
      obtain ⟨vO, cO⟩ := hO.there (Nat.le_refl x.length)
      have fO := hO.frozen x.length
      have hG := Grid.start W1 x.length y.length (T := tabT x y) (tabT_last x y)
      rw [← hn1, ← hm1, hs1] at hG
      have hGs : (((W1.alloc (.cells (madeCells #[.slice none 0 0] n1) 80)).alloc (.cells (madeCells #[.int .i64 0] m1) 3)).setCell ⟨by_ + 1, x.length, none⟩ (.slice (some ⟨by_ + 1 + 1, 0, none⟩) m1 m1)).heap.size = by_ + 3 := by simp [World.setCell, hs1]
      have hGb : Below (by_ + 1) W1 (((W1.alloc (.cells (madeCells #[.slice none 0 0] n1) 80)).alloc (.cells (madeCells #[.int .i64 0] m1) 3)).setCell ⟨by_ + 1, x.length, none⟩ (.slice (some ⟨by_ + 1 + 1, 0, none⟩) m1 m1)) :=
        (((Below.refl _ _).alloc (by omega) _).alloc (by simp; omega) _).setCell (p := ⟨by_ + 1, x.length, none⟩) (by show by_ + 1 ≤ by_ + 1; omega) _
      have hEq : (((W1.alloc (.cells (madeCells #[.slice none 0 0] n1) 80)).alloc (.cells (madeCells #[.int .i64 0] m1) 3)).setCell ⟨by_ + 1, x.length, none⟩ (.slice (some ⟨by_ + 1 + 1, 0, none⟩) m1 m1)) =
        (W1.alloc (.cells ((madeCells #[.slice none 0 0] n1).setIfInBounds x.length (.slice (some ⟨by_ + 1 + 1, 0, none⟩) m1 m1)) 80)).alloc (.cells (madeCells #[.int .i64 0] m1) 3) := by simp [go_sem, hs1]
      rw [hEq] at hG hGs hGb
      clear hO hEq
      have HN1 := Lib.hid hn1; clear hn1
      have HM1 := Lib.hid hm1; clear hm1
      have HG := Lib.hid hG; clear hG
      have HGS := Lib.hid hGs; clear hGs
      have HGB := Lib.hid hGb; clear hGb
      go_upto_region 6 with (fail)
      generalize (W1.alloc (.cells ((madeCells #[.slice none 0 0] n1).setIfInBounds x.length (.slice (some ⟨by_ + 1 + 1, 0, none⟩) m1 m1)) 80)).alloc (.cells (madeCells #[.int .i64 0] m1) 3) = W3 at HG HGS HGB ⊢
      clear vO cO fO
      have hwp : IntKind.i64.wrap ((x.length : Int) - 1) = (x.length : Int) - 1 := by rw [i64_w]; exact wrap_id _ (by omega) (by omega)
      go_upto_region 7 with (fail)
      clear hwp
      go_loopg [9] (x.length + 1) (fun kq v9 wr => ∃ i : Nat, i ≤ x.length ∧ v9 = .int .i64 ((i : Int) - 1) ∧ i ≤ kq ∧ Hid (Below (by_ + 1) W1 wr) ∧ Hid (Grid wr (by_ + 1) x.length y.length i 0 (tabT x y)) ∧ wr.heap.size = by_ + 3 + (x.length - i))
      case atStart => exact ⟨x.length, Nat.le_refl _, rfl, by omega, HGB, HG, by have := HGS.out; omega⟩
      case round =>
        obtain ⟨i, hi, rfl, hk, HBR, HGR, hsr⟩ := hrel
        have hY := (HBR.out.block by_ (by omega)).trans BY.out
        have cYr : wr.cell? ⟨by_, 0, none⟩ = some (.slice Ay y.length cy) := Boxed.cell (W := wr) (t := 22) hY
        have HY := Lib.hid hY; clear hY cY
        rcases i with _ | i
        · rw [show (((0 : Nat) : Int) - 1) = (-1 : Int) from rfl]
          have HSR := Lib.hid hsr; clear hsr
          have HST := Lib.hid (St.start wr)
          go_wp2
          go_step3
          go_wp2
          generalize ((((wr.alloc (.cells #[.slice none 0 0] 24)).alloc (.cells #[.int .i64 0] 3)).alloc (.cells #[.int .i64 0] 3)).alloc (.cells #[.int .i64 0] 3)).alloc (.cells #[.int .i64 0] 3) = Wb at HST ⊢
          have hbs : by_ + 3 ≤ wr.heap.size := by have := HSR.out; omega
          have hgs : ∀ k, by_ + 1 ≤ k → k ≤ by_ + 1 + 1 + x.length → k < wr.heap.size := fun k h1 h2 => by have := HSR.out; omega
          have HGS := Lib.hid hgs; clear hgs
          obtain ⟨sB, hsB⟩ : ∃ sB, wr.heap.size = sB := ⟨_, rfl⟩
          rw [hsB] at HST hbs HGS ⊢
          have hbc := HBR.out
          have HSB := Lib.hid hsB; clear hsB
          have hyB : Boxed wr by_ 22 (.slice Ay y.length cy) := HY.out
          have HYB := Lib.hid hyB; clear hyB cYr
          have h1 := H1.out
          simp only [Option.some.injEq, Prod.mk.injEq] at h1
          obtain ⟨h1, rfl⟩ := h1
          have HANS := Lib.hid h1; clear h1 H1
          have hb2 : Below w2.heap.size w2 wr := HW1.out.trans (hbc.mono (by have := HBY.out; omega))
          have hb1 : Below w1.heap.size w1 wr := HB2L.out.trans (hb2.mono HB2L.out.size)
          have HX2 := Lib.hid (Kd.C_below HC.out hb1)
          have HY2 := Lib.hid (Kd.C_below HCY.out hb2)
          have HB0 := Lib.hid (HB1.out.trans (hb1.mono HB1.out.size))
          clear hb1 hb2 hbc
          generalize wr = Wg at *
          go_loopg [] (x.length + y.length) (fun kq wr' => ∃ (i j f p : Nat) (v : Value) (out : List S33), Hid (St Wg wr' sB v out i j f p) ∧ i ≤ x.length ∧ j ≤ y.length ∧ f ≤ i ∧ p ≤ j ∧ (x.length - i) + (y.length - j) ≤ kq ∧ out.length ≤ i + j ∧ Hid (walkB x y kq i j f p out = r1))
          case atStart => exact ⟨0, 0, 0, 0, _, [], HST, by omega, by omega, by omega, by omega, by omega, by simp, HANS⟩
          case round =>
            obtain ⟨i, j, f, p, v, out, HS, hi, hj, hf, hp, hk, hol, HAK⟩ := hrel
            have cI := HS.out.i.cell
            have cJ := HS.out.j.cell
            have hYr : Boxed wr by_ 22 (.slice Ay y.length cy) := (HS.out.b.block by_ (by omega)).trans HYB.out
            have cYr := hYr.cell
            have HYR := Lib.hid hYr; clear hYr
            have HBW : Hid (Below Wg.heap.size Wg wr) := Lib.hid (by rw [HSB.out]; exact HS.out.b)
            by_cases hc : i < x.length ∧ j < y.length
            · obtain ⟨c1, c2⟩ := hc
              obtain ⟨k1, rfl⟩ : ∃ k1, gk = k1 + 1 := ⟨gk - 1, by omega⟩
              have d1 : decide (i < x.length) = true := decide_eq_true c1
              have d2 : decide (j < y.length) = true := decide_eq_true c2
              obtain ⟨bx, ox, rfl, hbx, hxs⟩ := C_strings HX2.out (by omega)
              obtain ⟨bv, ov, rfl, hbv, hys⟩ := C_strings HY2.out (by omega)
              have cxi := (HBW.out.cell (p := ⟨bx, ox + i, none⟩) hbx).trans (hxs i _ (List.getElem?_eq_getElem c1))
              have cyj := (HBW.out.cell (p := ⟨bv, ov + j, none⟩) hbv).trans (hys j _ (List.getElem?_eq_getElem c2))
              have ha := HAK.out
              unfold walkB at ha
              rw [if_pos ⟨c1, c2⟩, show x.getD i ByteArray.empty = x[i] from by simp [c1], show y.getD j ByteArray.empty = y[j] from by simp [c2]] at ha
              clear hxs hys HAK
              have HA := Lib.hid ha; clear ha
              have HLT := Lib.hid (show i < x.length ∧ j < y.length from ⟨c1, c2⟩)
              generalize x[i] = xi at cxi HA
              generalize y[j] = yj at cyj HA
              obtain ⟨i1, hi1⟩ : ∃ i1, i1 = i + 1 := ⟨_, rfl⟩
              obtain ⟨j1, hj1⟩ : ∃ j1, j1 = j + 1 := ⟨_, rfl⟩
              have hwi : IntKind.i64.wrap ((i : Int) + 1) = (i1 : Int) := by rw [i64_w, wrap_id _ (by omega) (by omega), hi1]; rfl
              have hwj : IntKind.i64.wrap ((j : Int) + 1) = (j1 : Int) := by rw [i64_w, wrap_id _ (by omega) (by omega), hj1]; rfl
              by_cases hs : sameB xi yj = true
              · have he : (xi.toList == yj.toList) = true := (toList_same xi yj).trans hs
                have ha := HA.out
                rw [if_pos hs] at ha
                rw [← hi1, ← hj1] at ha
                have HA2 := Lib.hid ha; clear ha HA
                have HI1 := Lib.hid hi1; clear hi1
                have HJ1 := Lib.hid hj1; clear hj1
                clear hs
                go_upto_region 22 with (fail)
                go_quiet (fail)
                go_upto_region 23 with (fail)
                have HS5 := Lib.hid (HS.out.drewN nq)
                have HC5 := Lib.hid (Kd.C_below HY2.out (pw_below_drewN HBW.out nq))
                have hY5 : Boxed (wr.drewN nq) by_ 22 (.slice (some ⟨bv, ov, none⟩) y.length cy) := HYR.out
                have HY5 := Lib.hid hY5; clear hY5
                clear cxi cyj he cYr cI cJ HYR HBW HS d1 d2 c1 c2
                generalize wr.drewN nq = W5 at HS5 HC5 HY5 ⊢
                go_wp2_with fail
                refine (close1 by_ sB (sB + 1) (sB + 1 + 1) (sB + 1 + 1 + 1) (sB + 1 + 1 + 1 + 1) (sB + 5) v out y (some ⟨bv, ov, none⟩) cy i f j p W5 HS5.out.o HS5.out.i HS5.out.j HS5.out.f HS5.out.p HY5.out HC5.out hcy HS5.out.r (by omega) (by omega) (by omega) (by omega) (by omega) (by omega) HS5.out.s (by omega) hp hj (by omega) hcat).mono ?_
                rintro e W6 ⟨⟨u, rfl⟩, hcl⟩
                have hol2 := closeStep_length y out i f j p
                obtain ⟨v6, hs6⟩ := HS5.out.close hcl
                have cI := hs6.i.cell
                have fI := hs6.i.frozen
                have hs7 := hs6.setI i1
                have HS7 := Lib.hid hs7
                have cJ := hs7.j.cell
                have fJ := hs7.j.frozen
                have hs8 := hs7.setJ j1
                have HS8 := Lib.hid hs8
                clear hcl hs6 hs7 hs8 HS5 HC5 HY5
                go_upto_region 25 with (fail)
                clear cI fI
                generalize W6.setCell ⟨sB + 1, 0, none⟩ (.int .i64 (i1 : Int)) = W7 at HS7 HS8 cJ fJ ⊢
                go_upto_region 26 with (fail)
                clear cJ fJ
                generalize W7.setCell ⟨sB + 1 + 1, 0, none⟩ (.int .i64 (j1 : Int)) = W8 at HS8 ⊢
                generalize closeStep y out i f j p = out2 at *
                have hs8 := HS8.out
                have fF := hs8.f.frozen
                have cF := hs8.f.cell
                have fP := hs8.p.frozen
                have cP := hs8.p.cell
                have hs9 := (hs8.drew.setF i1).setP j1
                have hs9' := (hs8.drew.setP j1).setF i1
                have hT0 : W8.drew.cell? ⟨sB + 1, 0, none⟩ = some (.int .i64 (i1 : Int)) ∧ W8.drew.cell? ⟨sB + 1 + 1, 0, none⟩ = some (.int .i64 (j1 : Int)) := ⟨hs8.drew.i.cell, hs8.drew.j.cell⟩
                have hT1 := show _ ∧ _ from ⟨(hs8.drew.setF i1).i.cell, (hs8.drew.setF i1).j.cell⟩
                have hT2 := show _ ∧ _ from ⟨(hs8.drew.setP j1).i.cell, (hs8.drew.setP j1).j.cell⟩
                have hT3 := show _ ∧ _ from ⟨hs9.i.cell, hs9.j.cell⟩
                have hT4 := show _ ∧ _ from ⟨hs9'.i.cell, hs9'.j.cell⟩
                have HS9 := Lib.hid ((hs8.setF i1).setP j1).drew
                clear hs8 hs9 hs9'
                go_region_held3 (fun W => W.cell? ⟨sB + 1, 0, none⟩ = some (.int .i64 (i1 : Int)) ∧ W.cell? ⟨sB + 1 + 1, 0, none⟩ = some (.int .i64 (j1 : Int)))
                  (first | exact hT0 | exact hT1 | exact hT2 | exact hT3 | exact hT4)
                  (fail)
                generalize ((W8.setCell ⟨sB + 1 + 1 + 1, 0, none⟩ (.int .i64 (i1 : Int))).setCell ⟨sB + 1 + 1 + 1 + 1, 0, none⟩ (.int .i64 (j1 : Int))).drew = W9 at HS9 ⊢
                clear hT0 hT1 hT2 hT3 hT4 fF cF fP cP
                go_wp2
                go_roundg k1
                case measure => omega
                case rel =>
                  have e1 := HI1.out
                  have e2 := HJ1.out
                  obtain ⟨c1, c2⟩ := HLT.out
                  exact ⟨i1, j1, i1, j1, v6, out2, HS9, by omega, by omega, by omega, by omega, by omega, by omega, HA2⟩
              · have he : (xi.toList == yj.toList) = false := (toList_same xi yj).trans (by simpa using hs)
                have ha := HA.out
                rw [if_neg hs] at ha
                have HA2 := Lib.hid ha; clear ha HA
                clear hs
                obtain ⟨g0, hg0⟩ : ∃ g0, g0 = by_ + 1 + 1 + (x.length - i) := ⟨_, rfl⟩
                obtain ⟨g1, hg1⟩ : ∃ g1, g1 = by_ + 1 + 1 + (x.length - i1) := ⟨_, rfl⟩
                have q1 : i < n1 := by have := HN1.out; omega
                have q2 : i1 < n1 := by have := HN1.out; omega
                have q3 : j < m1 := by have := HM1.out; omega
                have q4 : j1 < m1 := by have := HM1.out; omega
                obtain ⟨t10, ht10⟩ : ∃ t, t = tabT x y i1 j := ⟨_, rfl⟩
                obtain ⟨t01, ht01⟩ : ∃ t, t = tabT x y i j1 := ⟨_, rfl⟩
                rw [hi1] at ht10
                rw [hj1] at ht01
                rw [← ht10, ← ht01] at HA2
                have hGW : Grid wr (by_ + 1) x.length y.length 0 0 (tabT x y) := HGR.out.keep (fun k h1 h2 => HBW.out.block k (by rw [HSB.out]; exact HGS.out k h1 (by omega)))
                have cG1 : wr.cell? ⟨by_ + 1, i1, none⟩ = some (.slice (some ⟨g1, 0, none⟩) m1 m1) := by rw [hg1, HM1.out]; exact hGW.outer.cell (Nat.zero_le _) (by omega)
                have cG0 : wr.cell? ⟨by_ + 1, i, none⟩ = some (.slice (some ⟨g0, 0, none⟩) m1 m1) := by rw [hg0, HM1.out]; exact hGW.outer.cell (Nat.zero_le _) (by omega)
                have cT1 : wr.cell? ⟨g1, j, none⟩ = some (.int .i64 t10) := by rw [hg1, ht10, hi1]; exact hGW.at (Nat.zero_le _) (by omega) (by omega)
                have cT0 : wr.cell? ⟨g0, j1, none⟩ = some (.int .i64 t01) := by rw [hg0, ht01, hj1]; exact hGW.at (Nat.zero_le _) (by omega) (by omega)
                rw [← hi1, ← hj1] at HA2
                clear hGW hg0 hg1 ht10 ht01
                have HI1 := Lib.hid hi1; clear hi1
                have HJ1 := Lib.hid hj1; clear hj1
                by_cases ht : t01 ≤ t10
                · have dt : decide (t01 ≤ t10) = true := decide_eq_true ht
                  have ha := HA2.out
                  rw [if_pos ht] at ha
                  have HA3 := Lib.hid ha; clear ha HA2 ht
                  go_upto_region 22 with (fail)
                  go_quiet (fail)
                  revert nq; intro nq1
                  go_upto_region 27 with (fail)
                  go_quiet (fail)
                  go_upto_region 28 with (fail)
                  have hs5 := (HS.out.drewN nq1).drewN nq
                  clear cxi cyj he cYr cI cJ HYR HBW HS d1 d2 c1 c2 cG1 cG0 cT1 cT0 dt q1 q2 q3 q4
                  generalize (wr.drewN nq1).drewN nq = W5 at hs5 ⊢
                  have c0 := hs5.i.cell
                  have f0 := hs5.i.frozen
                  have HS6 := Lib.hid (hs5.setI i1)
                  clear hs5
                  go_wp2
                  go_roundg k1
                  case measure => omega
                  case rel =>
                    have e1 := HI1.out
                    have e2 := HJ1.out
                    obtain ⟨c1, c2⟩ := HLT.out
                    exact ⟨i1, j, f, p, v, out, HS6, by omega, by omega, by omega, by omega, by omega, by omega, HA3⟩
                · have dt : decide (t01 ≤ t10) = false := decide_eq_false ht
                  have ha := HA2.out
                  rw [if_neg ht] at ha
                  have HA3 := Lib.hid ha; clear ha HA2 ht
                  go_upto_region 22 with (fail)
                  go_quiet (fail)
                  revert nq; intro nq1
                  go_upto_region 27 with (fail)
                  go_quiet (fail)
                  go_upto_region 21 with (fail)
                  have hs5 := (HS.out.drewN nq1).drewN nq
                  clear cxi cyj he cYr cI cJ HYR HBW HS d1 d2 c1 c2 cG1 cG0 cT1 cT0 dt q1 q2 q3 q4
                  generalize (wr.drewN nq1).drewN nq = W5 at hs5 ⊢
                  have c0 := hs5.j.cell
                  have f0 := hs5.j.frozen
                  have HS6 := Lib.hid (hs5.setJ j1)
                  clear hs5
                  go_wp2
                  go_roundg k1
                  case measure => omega
                  case rel =>
                    have e1 := HI1.out
                    have e2 := HJ1.out
                    obtain ⟨c1, c2⟩ := HLT.out
                    exact ⟨i, j1, f, p, v, out, HS6, by omega, by omega, by omega, by omega, by omega, by omega, HA3⟩
            · have ha := (walkB_end hc f p out gk).symm.trans HAK.out
              have HA := Lib.hid ha; clear ha HAK
              have HS5 := HS
              have hn2 := HS.out.drew
              have cT : wr.drew.cell? ⟨by_, 0, none⟩ = some (.slice Ay y.length cy) := HYR.out.cell
              have hfar1 : ∀ (W : World) (u : Value), (W.setCell ⟨sB + 1, 0, none⟩ u).cell? ⟨by_, 0, none⟩ = W.cell? ⟨by_, 0, none⟩ := fun W u => World.cell?_of_block (Below.heap_setCell W ⟨sB + 1, 0, none⟩ u by_ (by show by_ ≠ sB + 1; omega))
              have hfar2 : ∀ (W : World) (u : Value), (W.setCell ⟨sB + 1 + 1, 0, none⟩ u).cell? ⟨by_, 0, none⟩ = W.cell? ⟨by_, 0, none⟩ := fun W u => World.cell?_of_block (Below.heap_setCell W ⟨sB + 1 + 1, 0, none⟩ u by_ (by show by_ ≠ sB + 1 + 1; omega))
              have fI := HS.out.i.frozen
              have fJ := HS.out.j.frozen
              have k1 := (hfar1 wr (.int .i64 (x.length : Int))).trans cYr
              have k2 := (hfar2 wr (.int .i64 (y.length : Int))).trans cYr
              have k3 := (hfar2 (wr.setCell ⟨sB + 1, 0, none⟩ (.int .i64 (x.length : Int))) (.int .i64 (y.length : Int))).trans k1
              have k4 := (hfar1 (wr.setCell ⟨sB + 1 + 1, 0, none⟩ (.int .i64 (y.length : Int))) (.int .i64 (x.length : Int))).trans k2
              clear hfar1 hfar2
              have hs9 := ((HS.out.setI x.length).setJ y.length).drew
              have HS9 := Lib.hid hs9; clear hs9 hn2
              have hY9 : Boxed (((wr.setCell ⟨sB + 1, 0, none⟩ (.int .i64 (x.length : Int))).setCell ⟨sB + 1 + 1, 0, none⟩ (.int .i64 (y.length : Int))).drew) by_ 22 (.slice Ay y.length cy) :=
                (Below.heap_setCell _ ⟨sB + 1 + 1, 0, none⟩ _ by_ (by show by_ ≠ sB + 1 + 1; omega)).trans ((Below.heap_setCell wr ⟨sB + 1, 0, none⟩ _ by_ (by show by_ ≠ sB + 1; omega)).trans HYR.out)
              have HY9 := Lib.hid hY9; clear hY9
              have hend : ∀ Wz : World, Hid (Below Wg.heap.size Wg Wz) → Kd.C Kd.string Wz Ay y.length y := fun Wz hb => Kd.C_below HY2.out hb.out
              by_cases c1 : i < x.length
              · have d1 : decide (i < x.length) = true := decide_eq_true c1
                have d2 : decide (j < y.length) = false := decide_eq_false (fun h => hc ⟨c1, h⟩)
                clear hc
                go_upto_region 29 with (fail)
                go_region_held3 (fun W => W.cell? ⟨by_, 0, none⟩ = some (.slice Ay y.length cy))
                  (first | exact cT | exact k1 | exact k2 | exact k3 | exact k4)
                  (fail)
                generalize ((wr.setCell ⟨sB + 1, 0, none⟩ (.int .i64 (x.length : Int))).setCell ⟨sB + 1 + 1, 0, none⟩ (.int .i64 (y.length : Int))).drew = W9 at HS9 HY9 ⊢
                clear cT k1 k2 k3 k4 fI fJ cI cJ cYr HYR HBW HS HS5
                have HBW9 : Hid (Below Wg.heap.size Wg W9) := Lib.hid (by rw [HSB.out]; exact HS9.out.b)
                go_wp2_with fail
                refine (close1 by_ sB (sB + 1) (sB + 1 + 1) (sB + 1 + 1 + 1) (sB + 1 + 1 + 1 + 1) (sB + 5) v out y Ay cy x.length f y.length p W9 HS9.out.o HS9.out.i HS9.out.j HS9.out.f HS9.out.p HY9.out (hend W9 HBW9) hcy HS9.out.r (by omega) (by omega) (by omega) (by omega) (by omega) (by omega) HS9.out.s (by omega) (by omega) (Nat.le_refl _) (by omega) hcat).mono ?_
                rintro e W6 ⟨⟨u, rfl⟩, hcl⟩
                obtain ⟨v6, hs6⟩ := HS9.out.close hcl
                rw [HA.out] at hs6
                obtain ⟨A6, c6, rfl⟩ := Kd.R_slice hs6.r
                have cO := hs6.o.cell
                have HS6 := Lib.hid hs6
                clear hcl hs6
                go_wp2_with fail
                simp only [Exit.noGoto_ret]
                go_ret2
                have hsz := HB0.out.size
                have hsz2 := HSB.out
                exact ⟨_, rfl, Kd.R_lower (Kd.R_mono HS6.out.r (fun _ _ => trivial)) (by omega), HB0.out.trans (HS6.out.b.mono (by omega))⟩
              · have d1 : decide (i < x.length) = false := decide_eq_false c1
                clear hc
                go_upto_region 29 with (fail)
                go_region_held3 (fun W => W.cell? ⟨by_, 0, none⟩ = some (.slice Ay y.length cy))
                  (first | exact cT | exact k1 | exact k2 | exact k3 | exact k4)
                  (fail)
                generalize ((wr.setCell ⟨sB + 1, 0, none⟩ (.int .i64 (x.length : Int))).setCell ⟨sB + 1 + 1, 0, none⟩ (.int .i64 (y.length : Int))).drew = W9 at HS9 HY9 ⊢
                clear cT k1 k2 k3 k4 fI fJ cI cJ cYr HYR HBW HS HS5
                have HBW9 : Hid (Below Wg.heap.size Wg W9) := Lib.hid (by rw [HSB.out]; exact HS9.out.b)
                go_wp2_with fail
                refine (close1 by_ sB (sB + 1) (sB + 1 + 1) (sB + 1 + 1 + 1) (sB + 1 + 1 + 1 + 1) (sB + 5) v out y Ay cy x.length f y.length p W9 HS9.out.o HS9.out.i HS9.out.j HS9.out.f HS9.out.p HY9.out (hend W9 HBW9) hcy HS9.out.r (by omega) (by omega) (by omega) (by omega) (by omega) (by omega) HS9.out.s (by omega) (by omega) (Nat.le_refl _) (by omega) hcat).mono ?_
                rintro e W6 ⟨⟨u, rfl⟩, hcl⟩
                obtain ⟨v6, hs6⟩ := HS9.out.close hcl
                rw [HA.out] at hs6
                obtain ⟨A6, c6, rfl⟩ := Kd.R_slice hs6.r
                have cO := hs6.o.cell
                have HS6 := Lib.hid hs6
                clear hcl hs6
                go_wp2_with fail
                simp only [Exit.noGoto_ret]
                go_ret2
                have hsz := HB0.out.size
                have hsz2 := HSB.out
                exact ⟨_, rfl, Kd.R_lower (Kd.R_mono HS6.out.r (fun _ _ => trivial)) (by omega), HB0.out.trans (HS6.out.b.mono (by omega))⟩
        · obtain ⟨ko, rfl⟩ : ∃ ko, gk = ko + 1 := ⟨gk - 1, by omega⟩
          have ei : (((i + 1 : Nat) : Int) - 1) = (i : Int) := by omega
          rw [ei]
          clear ei
          have hin : i < n1 := by have := HN1.out; omega
          have hO := HGR.out.outer.alloc (.cells (madeCells #[.int .i64 0] m1) 3)
          obtain ⟨vO, cO⟩ := hO.there (r := i) (by omega)
          have fO := hO.frozen i
          have hG := Grid.next HGR.out (by omega) (by omega) (tabT_end x y i)
          rw [← HM1.out] at hG
          have hB := (HBR.out.alloc (o := .cells (madeCells #[.int .i64 0] m1) 3) (by omega)).setCell (p := ⟨by_ + 1, i, none⟩) (by show by_ + 1 ≤ by_ + 1; omega) (.slice (some ⟨wr.heap.size, 0, none⟩) m1 m1)
          have hS : ((wr.alloc (.cells (madeCells #[.int .i64 0] m1) 3)).setCell ⟨by_ + 1, i, none⟩ (.slice (some ⟨wr.heap.size, 0, none⟩) m1 m1)).heap.size = by_ + 3 + (x.length - i) := by simp [World.setCell]; omega
          have HG2 := Lib.hid hG; clear hG hO
          have HB2 := Lib.hid hB; clear hB
          have HS2 := Lib.hid hS; clear hS
          have HSR := Lib.hid hsr; clear hsr
          go_upto_region 10 with (fail)
          generalize (wr.alloc (.cells (madeCells #[.int .i64 0] m1) 3)).setCell ⟨by_ + 1, i, none⟩ (.slice (some ⟨wr.heap.size, 0, none⟩) m1 m1) = W4 at HG2 HB2 HS2 ⊢
          clear vO cO fO cYr HY
          have hY := (HB2.out.block by_ (by omega)).trans BY.out
          have cYr : W4.cell? ⟨by_, 0, none⟩ = some (.slice Ay y.length cy) := Boxed.cell (W := W4) (t := 22) hY
          have HY := Lib.hid hY; clear hY
          have hwp : IntKind.i64.wrap ((y.length : Int) - 1) = (y.length : Int) - 1 := by rw [i64_w]; exact wrap_id _ (by omega) (by omega)
          go_upto_region 11 with (fail)
          clear hwp
          go_loopg [10] (y.length + 1) (fun kq v10 wq => ∃ j : Nat, j ≤ y.length ∧ v10 = .int .i64 ((j : Int) - 1) ∧ j ≤ kq ∧ Hid (Below (by_ + 1) W1 wq) ∧ Hid (Grid wq (by_ + 1) x.length y.length i j (tabT x y)) ∧ wq.heap.size = by_ + 3 + (x.length - i))
          case atStart => exact ⟨y.length, Nat.le_refl _, rfl, by omega, HB2, HG2, HS2.out⟩
          case round =>
            obtain ⟨j, hj, rfl, hkj, HBQ, HGQ, hsq⟩ := hrel
            clear HY cYr
            have hY := (HBQ.out.block by_ (by omega)).trans BY.out
            have cYr : wr.cell? ⟨by_, 0, none⟩ = some (.slice Ay y.length cy) := Boxed.cell (W := wr) (t := 22) hY
            clear hY
            rcases j with _ | j
            · have hwd : IntKind.i64.wrap ((i : Int) - 1) = (i : Int) - 1 := by rw [i64_w]; exact wrap_id _ (by omega) (by omega)
              go_wp2
              go_roundg ko
              case measure => omega
              case rel => exact ⟨i, by omega, rfl, by omega, HBQ, HGQ, hsq⟩
            · have ej : (((j + 1 : Nat) : Int) - 1) = (j : Int) := by omega
              rw [ej]
              clear ej
              have hin : i < x.length := by omega
              have hjm : j < y.length := by omega
              have hb1 : Below w1.heap.size w1 wr := HB2L.out.trans ((HW1.out.mono HB2L.out.size).trans (HBQ.out.mono (by have := HB2L.out.size; have := HBY.out; omega)))
              have hb2 : Below w2.heap.size w2 wr := HW1.out.trans (HBQ.out.mono (by have := HBY.out; omega))
              obtain ⟨bx, ox, rfl, hbx, hxs⟩ := C_strings HC.out (by omega)
              obtain ⟨bv, ov, rfl, hbv, hys⟩ := C_strings HCY.out (by omega)
              have cxi := (hb1.cell (p := ⟨bx, ox + i, none⟩) hbx).trans (hxs i _ (List.getElem?_eq_getElem hin))
              have cyj := (hb2.cell (p := ⟨bv, ov + j, none⟩) hbv).trans (hys j _ (List.getElem?_eq_getElem hjm))
              have hsame := tabT_same hin hjm
              have helse := tabT_else hin hjm
              have HSM := Lib.hid hsame; clear hsame
              have HEL := Lib.hid helse; clear helse
              clear hxs hys hb1 hb2
              generalize x[i] = xi at cxi HSM HEL
              generalize y[j] = yj at cyj HSM HEL
              obtain ⟨k1, rfl⟩ : ∃ k1, gk = k1 + 1 := ⟨gk - 1, by omega⟩
              obtain ⟨i1, hi1⟩ : ∃ i1, i1 = i + 1 := ⟨_, rfl⟩
              obtain ⟨j1, hj1⟩ : ∃ j1, j1 = j + 1 := ⟨_, rfl⟩
              obtain ⟨g0, hg0⟩ : ∃ g0, g0 = by_ + 1 + 1 + (x.length - i) := ⟨_, rfl⟩
              obtain ⟨g1, hg1⟩ : ∃ g1, g1 = by_ + 1 + 1 + (x.length - i1) := ⟨_, rfl⟩
              have hwi : IntKind.i64.wrap ((i : Int) + 1) = (i1 : Int) := by rw [i64_w, wrap_id _ (by omega) (by omega), hi1]; rfl
              have hwj : IntKind.i64.wrap ((j : Int) + 1) = (j1 : Int) := by rw [i64_w, wrap_id _ (by omega) (by omega), hj1]; rfl
              have hwd : IntKind.i64.wrap ((j : Int) - 1) = (j : Int) - 1 := by rw [i64_w]; exact wrap_id _ (by omega) (by omega)
              have q1 : i < n1 := by have := HN1.out; omega
              have q2 : i1 < n1 := by have := HN1.out; omega
              have q3 : j < m1 := by have := HM1.out; omega
              have q4 : j1 < m1 := by have := HM1.out; omega
              obtain ⟨t, ht⟩ : ∃ t, t = tabT x y i j := ⟨_, rfl⟩
              obtain ⟨t11, ht11⟩ : ∃ t, t = tabT x y i1 j1 := ⟨_, rfl⟩
              obtain ⟨t10, ht10⟩ : ∃ t, t = tabT x y i1 j := ⟨_, rfl⟩
              obtain ⟨t01, ht01⟩ : ∃ t, t = tabT x y i j1 := ⟨_, rfl⟩
              have hT := tabT_le x y i1 j1
              rw [← ht11] at hT
              have HCELL := Lib.hid (show ∀ (W : World), Grid W (by_ + 1) x.length y.length i (j + 1) (tabT x y) → W.cell? ⟨by_ + 1, i, none⟩ = some (.slice (some ⟨g0, 0, none⟩) m1 m1) ∧ W.cell? ⟨by_ + 1, i1, none⟩ = some (.slice (some ⟨g1, 0, none⟩) m1 m1) ∧ W.cell? ⟨g1, j1, none⟩ = some (.int .i64 t11) ∧ W.cell? ⟨g1, j, none⟩ = some (.int .i64 t10) ∧ W.cell? ⟨g0, j1, none⟩ = some (.int .i64 t01) from fun W hG => by
                rw [hg0, hg1, ht11, ht10, ht01, hi1, hj1, HM1.out]
                exact ⟨hG.outer.cell (Nat.le_refl _) (by omega), hG.outer.cell (by omega) (by omega), (hG.rows (i + 1) (by omega) (by omega)).cell (Nat.zero_le _) (by omega), (hG.rows (i + 1) (by omega) (by omega)).cell (Nat.zero_le _) (by omega), hG.row.cell (Nat.le_refl _) (by omega)⟩)
              have HPUT := Lib.hid (show ∀ (W : World), Grid W (by_ + 1) x.length y.length i (j + 1) (tabT x y) → Grid (W.setCell ⟨g0, j, none⟩ (.int .i64 t)) (by_ + 1) x.length y.length i j (tabT x y) from fun W hG => hG.put (by omega) (by omega) ht hg0)
              have HRUN := Lib.hid (show ∀ (W : World), Grid W (by_ + 1) x.length y.length i j (tabT x y) → W.cell? ⟨by_ + 1, i, none⟩ = some (.slice (some ⟨g0, 0, none⟩) m1 m1) ∧ W.cell? ⟨by_ + 1, i1, none⟩ = some (.slice (some ⟨g1, 0, none⟩) m1 m1) ∧ W.cell? ⟨g1, j1, none⟩ = some (.int .i64 t11) ∧ W.cell? ⟨g1, j, none⟩ = some (.int .i64 t10) ∧ W.cell? ⟨g0, j1, none⟩ = some (.int .i64 t01) from fun W hG => by
                rw [hg0, hg1, ht11, ht10, ht01, hi1, hj1, HM1.out]
                exact ⟨hG.outer.cell (Nat.le_refl _) (by omega), hG.outer.cell (by omega) (by omega), (hG.rows (i + 1) (by omega) (by omega)).cell (Nat.zero_le _) (by omega), (hG.rows (i + 1) (by omega) (by omega)).cell (Nat.zero_le _) (by omega), hG.row.cell (by omega) (by omega)⟩)
              have HTHERE := Lib.hid (show ∀ (W : World), Grid W (by_ + 1) x.length y.length i (j + 1) (tabT x y) → (∃ v, W.cell? ⟨g0, j, none⟩ = some v) ∧ W.frozen? ⟨g0, j, none⟩ = false from fun W hG => by
                rw [hg0]
                exact ⟨hG.row.there (by omega), hG.row.frozen j⟩)
              have HGE := Lib.hid (show by_ + 1 ≤ g0 from by omega)
              have HI1 := Lib.hid hi1; clear hi1
              have HJ1 := Lib.hid hj1; clear hj1
              have HT0 := Lib.hid ht; clear ht
              have HT11 := Lib.hid ht11; clear ht11
              have HT10 := Lib.hid ht10; clear ht10
              have HT01 := Lib.hid ht01; clear ht01
              clear hg0 hg1
              by_cases hs : sameB xi yj = true
              · have he : (xi.toList == yj.toList) = true := (toList_same xi yj).trans hs
                have hwt : IntKind.i64.wrap (t11 + 1) = t := by rw [i64_w, wrap_id _ (by omega) (by omega), HT0.out, HSM.out hs, HT11.out, HI1.out, HJ1.out]
                clear hs
                go_upto_region 13 with (fail)
                go_quiet (fail)
                go_upto_region 14 with (fail)
                have HG5 := Lib.hid (HGQ.out.drewN nq)
                have HB5 := Lib.hid (pw_below_drewN HBQ.out nq)
                have HS5 := Lib.hid (show (wr.drewN nq).heap.size = by_ + 3 + (x.length - i) from hsq)
                clear cxi cyj he cYr
                generalize wr.drewN nq = W5 at HG5 HB5 HS5 ⊢
                obtain ⟨⟨v5, hv5⟩, hf5⟩ := HTHERE.out W5 HG5.out
                have hS0 := HCELL.out W5.drew HG5.out.drew
                have hS1 := HRUN.out _ (HPUT.out W5.drew HG5.out.drew)
                go_region_held3 (fun W => W.cell? ⟨by_ + 1, i, none⟩ = some (.slice (some ⟨g0, 0, none⟩) m1 m1) ∧ W.cell? ⟨by_ + 1, i1, none⟩ = some (.slice (some ⟨g1, 0, none⟩) m1 m1) ∧ W.cell? ⟨g1, j1, none⟩ = some (.int .i64 t11) ∧ W.cell? ⟨g1, j, none⟩ = some (.int .i64 t10) ∧ W.cell? ⟨g0, j1, none⟩ = some (.int .i64 t01))
                  (first | exact hS0 | exact hS1)
                  (fail)
                have HG6 := Lib.hid (HPUT.out W5 HG5.out).drew
                have HB6 := Lib.hid (HB5.out.setCell (p := ⟨g0, j, none⟩) HGE.out (.int .i64 t)).drew
                have HS6 := Lib.hid (show (W5.setCell ⟨g0, j, none⟩ (.int .i64 t)).drew.heap.size = by_ + 3 + (x.length - i) from by have := HS5.out; simpa [World.setCell] using this)
                generalize (W5.setCell ⟨g0, j, none⟩ (.int .i64 t)).drew = W6 at HG6 HB6 HS6 ⊢
                clear hS0 hS1 hv5 hf5
                go_wp2
                go_roundg k1
                case measure => omega
                case rel => exact ⟨j, by omega, rfl, by omega, HB6, HG6, HS6.out⟩
              · have he : (xi.toList == yj.toList) = false := (toList_same xi yj).trans (by simpa using hs)
                have hmx : (if t10 < t01 then t01 else t10) = t := by
                  rw [HT0.out, HEL.out (by simpa using hs), HT10.out, HT01.out, HI1.out, HJ1.out]
                  split <;> omega
                clear hs
                go_upto_region 13 with (fail)
                go_quiet (fail)
                go_upto_region 15 with (fail)
                have HG5 := Lib.hid (HGQ.out.drewN nq)
                have HB5 := Lib.hid (pw_below_drewN HBQ.out nq)
                have HS5 := Lib.hid (show (wr.drewN nq).heap.size = by_ + 3 + (x.length - i) from hsq)
                clear cxi cyj he cYr
                generalize wr.drewN nq = W5 at HG5 HB5 HS5 ⊢
                obtain ⟨⟨v5, hv5⟩, hf5⟩ := HTHERE.out W5 HG5.out
                have hS0 := HCELL.out W5.drew HG5.out.drew
                have hS1 := HRUN.out _ (HPUT.out W5.drew HG5.out.drew)
                go_region_held3 (fun W => W.cell? ⟨by_ + 1, i, none⟩ = some (.slice (some ⟨g0, 0, none⟩) m1 m1) ∧ W.cell? ⟨by_ + 1, i1, none⟩ = some (.slice (some ⟨g1, 0, none⟩) m1 m1) ∧ W.cell? ⟨g1, j1, none⟩ = some (.int .i64 t11) ∧ W.cell? ⟨g1, j, none⟩ = some (.int .i64 t10) ∧ W.cell? ⟨g0, j1, none⟩ = some (.int .i64 t01))
                  (first | exact hS0 | exact hS1)
                  (fail)
                have HG6 := Lib.hid (HPUT.out W5 HG5.out).drew
                have HB6 := Lib.hid (HB5.out.setCell (p := ⟨g0, j, none⟩) HGE.out (.int .i64 t)).drew
                have HS6 := Lib.hid (show (W5.setCell ⟨g0, j, none⟩ (.int .i64 t)).drew.heap.size = by_ + 3 + (x.length - i) from by have := HS5.out; simpa [World.setCell] using this)
                generalize (W5.setCell ⟨g0, j, none⟩ (.int .i64 t)).drew = W6 at HG6 HB6 HS6 ⊢
                clear hS0 hS1 hv5 hf5
                go_wp2
                go_roundg k1
                case measure => omega
                case rel => exact ⟨j, by omega, rfl, by omega, HB6, HG6, HS6.out⟩
  · cases h
end Go.Proofs.Ytmecmmpgkcileaa.Z
