/- The closure in place.Kept: what it adds to the ranges that stay. -/
import Derived.Test.YtmecmmpgkcileaaGFrom
import Derived.Deep.RegionHeld3
import Derived.Deep.DrawnRows
namespace Go.Proofs.Ytmecmmpgkcileaa.Z
open Go.RowKit Go.Shelf Go.Proofs.YtmecmmpgkcileaaW.PrintWords Go.Proofs.YtmecmmpgkcileaaW.PrintLast Go.Proofs.YtmecmmpgkcileaaW.PrintMore Go.Proofs.Ytmecmmpgkcileaa.Rf

def keepStep (xs : List S64) (f t : Int) : List S64 :=
  if f = t then xs else if 0 < xs.length ∧ (rd_T64 xs ((xs.length - 1 : Nat) : Int)).f1 = f then xs.set (xs.length - 1) ⟨(rd_T64 xs ((xs.length - 1 : Nat) : Int)).f0, t⟩ else xs ++ [⟨f, t⟩]

/-- What the closure leaves: its box and its row of ranges; all else stays. -/
def KeptTo (Bo B : Nat) (v : Value) (ys : List S64) (W W' : World) : Prop :=
  (∃ v', Boxed W' Bo 56 v' ∧ Kd.R k64 64 W' B (fun k => B ≤ k) v' ys) ∧ (∀ k, k < W.heap.size → k ≠ Bo → some k ≠ v.ownBlock → W'.heap[k]? = W.heap[k]?) ∧ Below Bo W W'

theorem keptTo_box {Bo B : Nat} {v : Value} {W W0 w1 : World} (hO : Boxed W Bo 56 v) (h0 : ∀ k, k < W.heap.size → W0.heap[k]? = W.heap[k]?) (hs : W.heap.size ≤ W0.heap.size) (hBo : Bo < B) (hv : ∀ k, v.ownBlock = some k → B ≤ k)
    (hg : W0.grownBy w1 v.ownBlock) : Boxed w1 Bo 56 v := by
  have hlt := hO.lt
  exact (hg.block Bo (by omega) (fun e => by have := hv Bo e.symm; omega)).trans ((h0 Bo hlt).trans hO)
theorem drawn_same (W : World) (n : Nat) : (∀ k, k < W.heap.size → (W.drewN n).heap[k]? = W.heap[k]?) ∧ W.heap.size ≤ (W.drewN n).heap.size := by
  have hb : Below W.heap.size W (W.drewN n) := pw_below_drewN (Below.refl _ _) n
  exact ⟨fun k hk => hb.block k hk, hb.size⟩

/-- The row has grown by one, and its box is told so. -/
theorem keptTo_add {Bo B : Nat} {v v1 : Value} {xs : List S64} {x : S64} {W W0 w1 : World} (hO : Boxed W Bo 56 v) (h0 : ∀ k, k < W.heap.size → W0.heap[k]? = W.heap[k]?) (hs : W.heap.size ≤ W0.heap.size) (hBo : Bo < B) (hv : ∀ k, v.ownBlock = some k → B ≤ k)
    (hg : W0.grownBy w1 v.ownBlock) (hb : Below B W w1) (ho : Kd.R k64 64 w1 B (fun k => B ≤ k) v1 (xs ++ [x])) : KeptTo Bo B v (xs ++ [x]) W (w1.setCell ⟨Bo, 0, none⟩ v1) := by
  have hlt := hO.lt
  have e : Boxed w1 Bo 56 v := (hg.block Bo (by omega) (fun e => by have := hv Bo e.symm; omega)).trans ((h0 Bo hlt).trans hO)
  refine ⟨⟨v1, e.set v1, Kd.R_far ho (fun k hk e => by have : k = Bo := e; omega) v1⟩, fun k hk hkb hkv => ?_, (hb.mono (Nat.le_of_lt hBo)).setCell (p := ⟨Bo, 0, none⟩) (Nat.le_refl _) v1⟩
  exact ((grownBy_setCell' w1 Bo v1).block k (by have := hg.size; omega) (fun e => hkb (Option.some.inj e))).trans ((hg.block k (by omega) hkv).trans (h0 k hk))

set_option maxRecDepth 100000 in
set_option maxHeartbeats 2000000 in
theorem kept1 (Bo Bf B : Nat) (v : Value) (xs : List S64) (f t : Int) (W : World) (hO : Boxed W Bo 56 v) (hF : Boxed W Bf 3 (.int .i64 f)) (hR : Kd.R k64 64 W B (fun k => B ≤ k) v xs)
    (hBo : Bo < B) (hB : B ≤ W.heap.size) (hl : xs.length < 1073741824) :
    Calls Try.prog 56 #[.int .i64 t, .pointer (some ⟨Bo, 0, none⟩), .pointer (some ⟨Bf, 0, none⟩)] W fun e W' => (∃ u, e = .returned u) ∧ KeptTo Bo B v (keepStep xs f t) W W' := by
  have hu64 := Try.underlying64
  have hu56 := Try.underlying56
  have HV := Lib.hid (show ∀ k, v.ownBlock = some k → B ≤ k from fun k hk => hR.1 k hk)
  obtain ⟨A, c, rfl⟩ := Kd.R_slice hR
  have cO := hO.cell
  have cF := hF.cell
  have fO := hO.frozen
  have HR := Lib.hid hR; clear hR
  have HO := Lib.hid hO; clear hO
  have HF := Lib.hid hF; clear hF
  by_cases hf : f = t
  · have hb : (f == t) = true := by simp [hf]
    have hk : keepStep xs f t = xs := by unfold keepStep; rw [if_pos hf]
    rw [hk]
    clear hk
    go_enter Try.func56, Try.ntmps56
    go_wp2
    exact bodyPost_end (results_none rfl _ _ _) rfl ⟨⟨_, rfl⟩, ⟨_, HO.out, HR.out⟩, fun _ _ _ _ => rfl, Below.refl _ _⟩
  · have hb : (f == t) = false := by simp [hf]
    by_cases hn : 0 < xs.length
    · have n0 : decide (0 < xs.length) = true := decide_eq_true hn
      have w1 : IntKind.i64.wrap ((xs.length : Int) - 1) = ((xs.length - 1 : Nat) : Int) := (i64_w _).trans (wrap_pred _ hn (by omega))
      obtain ⟨g, cap, eg, hg0, hg1, cells, hgc⟩ := Kd.R_form HR.out hn
      cases eg
      have p0 : (0 : Int) ≤ ((xs.length - 1 : Nat) : Int) := by omega
      have q0 : ((xs.length - 1 : Nat) : Int) < (xs.length : Int) := by omega
      obtain ⟨ce, hcl, hM, hcc, hfr⟩ := Kd.R_elem HR.out z64 ((xs.length - 1 : Nat) : Int) p0 q0
      obtain rfl := k64_openM hM
      have hx1 : W.cell? ⟨g, (xs.length - 1) * 2 + 1, none⟩ = some (.int .i64 (rd_T64 xs ((xs.length - 1 : Nat) : Int)).f1) := hcc 1 _ rfl
      have hf1 : W.frozen? ⟨g, (xs.length - 1) * 2 + 1, none⟩ = false := hfr 1
      have hset : ∀ m, KeptTo Bo B (.slice (some ⟨g, 0, none⟩) xs.length c) (xs.set (xs.length - 1) ⟨(rd_T64 xs ((xs.length - 1 : Nat) : Int)).f0, t⟩) W ((W.drewN m).setCell ⟨g, (xs.length - 1) * 2 + 1, none⟩ (.int .i64 t)) := by
        intro m
        have hs := Kd.R_seg (Kd.R_drewN HR.out m) ((xs.length - 1 : Nat) : Int) p0 q0 (seg := [.int .i64 t]) (j := 1) hcl hcc (show 2 ≤ 2 from by decide) (x' := (⟨(rd_T64 xs ((xs.length - 1 : Nat) : Int)).f0, t⟩ : S64)) (k64_mkM _ _ (fun _ => False) _) (fun _ hk => hk.elim)
        obtain ⟨hs1, hs2⟩ := hs
        have hg2 : (W.drewN m).grownBy ((W.drewN m).setCell ⟨g, (xs.length - 1) * 2 + 1, none⟩ (.int .i64 t)) (some g) := hs2
        refine ⟨⟨_, keptTo_box (v := .slice (some ⟨g, 0, none⟩) xs.length c) HO.out (drawn_same W m).1 (drawn_same W m).2 hBo HV.out hg2, hs1⟩, fun k hk _ hkv => (hg2.block k hk hkv).trans ((drawn_same W m).1 k hk), (pw_below_drewN (Below.refl Bo W) m).setCell (p := ⟨g, (xs.length - 1) * 2 + 1, none⟩) (by show Bo ≤ g; omega) _⟩
      have HSET := Lib.hid hset; clear hset
      clear hcl hM hcc hfr
      have pI : decide ((0 : Int) ≤ ((xs.length - 1 : Nat) : Int)) = true := decide_eq_true p0
      have qI : decide (((xs.length - 1 : Nat) : Int) < (xs.length : Int)) = true := decide_eq_true q0
      have qN : decide (xs.length - 1 < xs.length) = true := decide_eq_true (by omega)
      by_cases he : (rd_T64 xs ((xs.length - 1 : Nat) : Int)).f1 = f
      · have hk : keepStep xs f t = xs.set (xs.length - 1) ⟨(rd_T64 xs ((xs.length - 1 : Nat) : Int)).f0, t⟩ := by unfold keepStep; rw [if_neg hf, if_pos ⟨hn, he⟩]
        rw [hk]
        clear hk
        have he' : ((rd_T64 xs ((xs.length - 1 : Nat) : Int)).f1 == f) = true := by simp [he]
        generalize rd_T64 xs ((xs.length - 1 : Nat) : Int) = y at *
        obtain ⟨y0, y1⟩ := y
        simp only at *
        generalize hj : xs.length - 1 = j at *
        go_enter Try.func56, Try.ntmps56
        go_wp2
        repeat (go_quiet (fail); try go_wp2)
        exact bodyPost_end (results_none rfl _ _ _) rfl ⟨⟨_, rfl⟩, HSET.out _⟩
      · have hk : keepStep xs f t = xs ++ [⟨f, t⟩] := by unfold keepStep; rw [if_neg hf, if_neg (fun h => he h.2)]
        rw [hk]
        clear hk
        have he' : ((rd_T64 xs ((xs.length - 1 : Nat) : Int)).f1 == f) = false := by simp [he]
        clear HSET
        generalize rd_T64 xs ((xs.length - 1 : Nat) : Int) = y at *
        obtain ⟨y0, y1⟩ := y
        simp only at *
        generalize hj : xs.length - 1 = j at *
        go_enter Try.func56, Try.ntmps56
        go_wp2
        go_quiet (first | ((with_reducible refine gate_builtin (b := .append) (xs := #[.tmp 7, .tmp 11]) rfl ?_); at_builtin; refine Kd.R_append k64 (w0 := W) B rfl (.tmp 7) (.tmp 11) 56 64 (.agg #[(.int .i64 0), (.int .i64 0)]) 16 rfl Try.underlying56 info64 rfl (by decide) (by omega) (.slice (some ⟨g, 0, none⟩) xs.length c) xs (⟨f, t⟩ : S64) [.int .i64 f, .int .i64 t] (fun k => B ≤ k) (fun _ => False) rfl rfl ?aP (fun _ hk => hk.elim) ?aF ?aO ?aB ?aS ?aL ?_; (case aP => exact k64_mkM _ _ _ (⟨f, t⟩ : S64)); (case aF => exact fun k hk => Nat.le_trans hB hk); (case aO => exact Kd.R_drewN HR.out _); (case aB => exact (pw_below_drewN (Below.refl _ _) _).mono hB); (case aS => exact hB); (case aL => omega); intro v1 w1 ho hb1 hg hat; obtain ⟨A1, c1, rfl⟩ := Kd.R_slice ho; have HBX := Lib.hid (keptTo_box HO.out (drawn_same W _).1 (drawn_same W _).2 hBo HV.out hg); have fB := HBX.out.frozen; have cB := HBX.out.cell; have HADD := Lib.hid (keptTo_add HO.out (drawn_same W _).1 (drawn_same W _).2 hBo HV.out hg hb1 ho); clear ho hb1 hg hat))
        try go_wp2_with (first | ((with_reducible refine gate_builtin (b := .append) (xs := #[.tmp 7, .tmp 11]) rfl ?_); at_builtin; refine Kd.R_append k64 (w0 := W) B rfl (.tmp 7) (.tmp 11) 56 64 (.agg #[(.int .i64 0), (.int .i64 0)]) 16 rfl Try.underlying56 info64 rfl (by decide) (by omega) (.slice (some ⟨g, 0, none⟩) xs.length c) xs (⟨f, t⟩ : S64) [.int .i64 f, .int .i64 t] (fun k => B ≤ k) (fun _ => False) rfl rfl ?aP (fun _ hk => hk.elim) ?aF ?aO ?aB ?aS ?aL ?_; (case aP => exact k64_mkM _ _ _ (⟨f, t⟩ : S64)); (case aF => exact fun k hk => Nat.le_trans hB hk); (case aO => exact Kd.R_drewN HR.out _); (case aB => exact (pw_below_drewN (Below.refl _ _) _).mono hB); (case aS => exact hB); (case aL => omega); intro v1 w1 ho hb1 hg hat; obtain ⟨A1, c1, rfl⟩ := Kd.R_slice ho; have HBX := Lib.hid (keptTo_box HO.out (drawn_same W _).1 (drawn_same W _).2 hBo HV.out hg); have fB := HBX.out.frozen; have cB := HBX.out.cell; have HADD := Lib.hid (keptTo_add HO.out (drawn_same W _).1 (drawn_same W _).2 hBo HV.out hg hb1 ho); clear ho hb1 hg hat))
        exact bodyPost_end (results_none rfl _ _ _) rfl ⟨⟨_, rfl⟩, by simpa using HADD.out⟩
    · have n0 : decide (0 < xs.length) = false := decide_eq_false hn
      have hk : keepStep xs f t = xs ++ [⟨f, t⟩] := by unfold keepStep; rw [if_neg hf, if_neg (fun h => hn h.1)]
      rw [hk]
      clear hk
      go_enter Try.func56, Try.ntmps56
      go_wp2
      go_quiet (first | ((with_reducible refine gate_builtin (b := .append) (xs := #[.tmp 7, .tmp 11]) rfl ?_); at_builtin; refine Kd.R_append k64 (w0 := W) B rfl (.tmp 7) (.tmp 11) 56 64 (.agg #[(.int .i64 0), (.int .i64 0)]) 16 rfl Try.underlying56 info64 rfl (by decide) (by omega) (.slice A xs.length c) xs (⟨f, t⟩ : S64) [.int .i64 f, .int .i64 t] (fun k => B ≤ k) (fun _ => False) rfl rfl ?aP (fun _ hk => hk.elim) ?aF ?aO ?aB ?aS ?aL ?_; (case aP => exact k64_mkM _ _ _ (⟨f, t⟩ : S64)); (case aF => exact fun k hk => Nat.le_trans hB hk); (case aO => exact Kd.R_drewN HR.out _); (case aB => exact (pw_below_drewN (Below.refl _ _) _).mono hB); (case aS => exact hB); (case aL => omega); intro v1 w1 ho hb1 hg hat; obtain ⟨A1, c1, rfl⟩ := Kd.R_slice ho; have HBX := Lib.hid (keptTo_box HO.out (drawn_same W _).1 (drawn_same W _).2 hBo HV.out hg); have fB := HBX.out.frozen; have cB := HBX.out.cell; have HADD := Lib.hid (keptTo_add HO.out (drawn_same W _).1 (drawn_same W _).2 hBo HV.out hg hb1 ho); clear ho hb1 hg hat))
      try go_wp2_with (first | ((with_reducible refine gate_builtin (b := .append) (xs := #[.tmp 7, .tmp 11]) rfl ?_); at_builtin; refine Kd.R_append k64 (w0 := W) B rfl (.tmp 7) (.tmp 11) 56 64 (.agg #[(.int .i64 0), (.int .i64 0)]) 16 rfl Try.underlying56 info64 rfl (by decide) (by omega) (.slice A xs.length c) xs (⟨f, t⟩ : S64) [.int .i64 f, .int .i64 t] (fun k => B ≤ k) (fun _ => False) rfl rfl ?aP (fun _ hk => hk.elim) ?aF ?aO ?aB ?aS ?aL ?_; (case aP => exact k64_mkM _ _ _ (⟨f, t⟩ : S64)); (case aF => exact fun k hk => Nat.le_trans hB hk); (case aO => exact Kd.R_drewN HR.out _); (case aB => exact (pw_below_drewN (Below.refl _ _) _).mono hB); (case aS => exact hB); (case aL => omega); intro v1 w1 ho hb1 hg hat; obtain ⟨A1, c1, rfl⟩ := Kd.R_slice ho; have HBX := Lib.hid (keptTo_box HO.out (drawn_same W _).1 (drawn_same W _).2 hBo HV.out hg); have fB := HBX.out.frozen; have cB := HBX.out.cell; have HADD := Lib.hid (keptTo_add HO.out (drawn_same W _).1 (drawn_same W _).2 hBo HV.out hg hb1 ho); clear ho hb1 hg hat))
      exact bodyPost_end (results_none rfl _ _ _) rfl ⟨⟨_, rfl⟩, by simpa using HADD.out⟩
end Go.Proofs.Ytmecmmpgkcileaa.Z
