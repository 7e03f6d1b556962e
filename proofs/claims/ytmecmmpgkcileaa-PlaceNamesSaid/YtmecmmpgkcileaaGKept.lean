/- place.Kept: what stays of a text behind edits, for every text and edits within a bound. -/
import Derived.Test.YtmecmmpgkcileaaGKept1
namespace Go.Proofs.Ytmecmmpgkcileaa.Z
open Go.RowKit Go.Shelf Go.Proofs.YtmecmmpgkcileaaW.PrintWords Go.Proofs.YtmecmmpgkcileaaW.PrintLast Go.Proofs.YtmecmmpgkcileaaW.PrintMore Go.Proofs.Ytmecmmpgkcileaa.Rf
attribute [local go_sem] Oper.semAt_some

theorem run_store_func {P : Program} {w : World} {a : Addr} {m : Mode} (f : Fn) (b l : Array Value) : (store a (.func f b l) m).run P w = stored P w a (.func f b l) m := run_store P w a _ m rfl
attribute [local go_sem] run_store_func

def keepCut (p : List S64 × Int) (c : Cut3) : List S64 × Int := (keepStep p.1 p.2 (c.from_ : Int), (c.to_ : Int))
def keepCuts (cs : List Cut3) : List S64 × Int := cs.foldl keepCut ([], 0)
def keptB (x : List ByteArray) (l : List S33) (n : Nat) : List S64 := keepStep (keepCuts (cutsB x l)).1 (keepCuts (cutsB x l)).2 (n : Int)

def place_Kept.f (a0 : ByteArray) (l1 : List S33) : Option (List S64 × Int) :=
  if domP a0 l1 then
    if fitB (linesB a0) l1 = true then some (keptB (linesB a0) l1 a0.size, 0) else some ([], 180)
  else none

theorem keepCuts_snoc (pre : List Cut3) (c : Cut3) : keepCuts (pre ++ [c]) = keepCut (keepCuts pre) c := by unfold keepCuts; rw [List.foldl_append]; rfl
theorem keepStep_length (xs : List S64) (f t : Int) : (keepStep xs f t).length ≤ xs.length + 1 := by
  unfold keepStep
  split
  · omega
  · split <;> simp
theorem keepCuts_length (cs : List Cut3) : (keepCuts cs).1.length ≤ cs.length := by
  suffices h : ∀ (cs : List Cut3) (p : List S64 × Int), (cs.foldl keepCut p).1.length ≤ p.1.length + cs.length by
    have := h cs ([], 0); simpa [keepCuts] using this
  intro cs
  induction cs with
  | nil => intro p; simp
  | cons c r ih =>
    intro p
    rw [List.foldl_cons, List.length_cons]
    have h1 := ih (keepCut p c)
    have h2 := keepStep_length p.1 p.2 (c.from_ : Int)
    unfold keepCut at h1 ⊢
    simp only at h1 ⊢
    omega

def KeptMem (n₀ n₁ : Nat) (w : World) (pre : List Cut3) (W : World) : Prop :=
  (∃ v, Boxed W n₁ 56 v ∧ Kd.R k64 64 W (n₁ + 5) (fun k => n₁ + 5 ≤ k) v (keepCuts pre).1 ∧ (pre = [] → v = .slice none 0 0)) ∧ Boxed W (n₁ + 1) 3 (.int .i64 (keepCuts pre).2) ∧ Boxed W (n₁ + 1 + 1) 101 (.func (.func 56) #[] #[.pointer (some ⟨n₁, 0, none⟩), .pointer (some ⟨n₁ + 1, 0, none⟩)]) ∧ Below n₀ w W ∧ n₁ + 5 ≤ W.heap.size ∧ n₀ ≤ n₁ ∧ n₀ = w.heap.size

theorem kept_move {W W' : World} {B : Nat} {v : Value} {xs : List S64} (h : Kd.R k64 64 W B (fun k => B ≤ k) v xs) (hm : ∀ k cells, B ≤ k → k < W.heap.size → W.heap[k]? = some (.cells cells 64 (0, 0)) → W'.heap[k]? = W.heap[k]?) : Kd.R k64 64 W' B (fun k => B ≤ k) v xs := by
  refine Kd.R_mono (Kd.R_move (Kd.R_bound h) (fun k hk => ?_)) (fun _ hk => hk.1)
  obtain ⟨h1, _, h3, q, hq, cells, hc⟩ := hk
  have : q = 64 := by
    rcases List.mem_cons.1 hq with h | h
    · exact h
    · simp [k64, Kd.iso, Kd.pair, Kd.int, Kd.scalar] at h
  subst this
  exact hm k cells h1 h3 hc
theorem KeptMem.abide {n₀ n₁ : Nat} {w : World} {pre : List Cut3} {W W' : World} {B : Nat} {row : Option Nat} (h : KeptMem n₀ n₁ w pre W) (hB : n₀ ≤ B) (hg : W.grownBy W' row)
    (hr : ∀ k, row = some k → none = some k ∨ (B ≤ k ∧ ∃ o : Obj, W.heap[k]? = some o ∧ o.isCells = false)) : KeptMem n₀ n₁ w pre W' := by
  obtain ⟨⟨v, h1, h2, h3⟩, h4, h5, h6, h7, h8, h9⟩ := h
  refine ⟨⟨v, boxed_abide h1 hg hr (by simp), kept_move h2 (fun k cells _ hk hc => hg.block k hk (fun e => ?_)), h3⟩, boxed_abide h4 hg hr (by simp), boxed_abide h5 hg hr (by simp),
    h6.grown hg (by rw [h9]; exact h9 ▸ h6.size) (fun k e => by rcases hr k e with h | h; cases h; omega), Nat.le_trans h7 hg.size, h8, h9⟩
  rcases hr k e.symm with h | ⟨_, o, ho, hn⟩
  · cases h
  · rw [hc] at ho; cases ho; cases hn
theorem KeptMem.alloc {n₀ n₁ : Nat} {w : World} {pre : List Cut3} {W : World} (h : KeptMem n₀ n₁ w pre W) (o : Obj) : KeptMem n₀ n₁ w pre (W.alloc o) :=
  h.abide (B := n₀) (Nat.le_refl _) (World.grownBy_alloc W o none) (fun k e => by cases e)
theorem KeptMem.first {n₀ n₁ : Nat} {w : World} {W W' : World} (h : KeptMem n₀ n₁ w [] W) (hb : Below (n₁ + 5) W W') : KeptMem n₀ n₁ w [] W' := by
  obtain ⟨⟨v, h1, _, h3⟩, h4, h5, h6, h7, h8, h9⟩ := h
  obtain rfl := h3 rfl
  exact ⟨⟨_, (hb.block _ (by omega)).trans h1, Kd.R_nil _ _ _ _ _, fun _ => rfl⟩, (hb.block _ (by omega)).trans h4, (hb.block _ (by omega)).trans h5, h6.trans (hb.mono (by omega)), Nat.le_trans h7 hb.size, h8, h9⟩
theorem kept_other {n₁ B : Nat} {v : Value} {xs ys : List S64} {W W2 : World} (hR : Kd.R k64 64 W B (fun k => B ≤ k) v xs) (hk : KeptTo n₁ B v ys W W2) {k t : Nat} {cs : Array Value} {fz : Nat × Nat} (hc : W.heap[k]? = some (.cells cs t fz)) (ht : t ≠ 64) (hne : k ≠ n₁) :
    W2.heap[k]? = some (.cells cs t fz) := by
  refine (hk.2.1 k (Array.getElem?_eq_some_iff.1 hc).1 hne (fun e => ?_)).trans hc
  obtain ⟨cells, hc'⟩ := Kd.R_typed hR k e.symm
  rw [hc] at hc'; cases hc'; exact ht rfl
/-- One round: the closure, and the store behind it. -/
theorem KeptMem.round {n₀ n₁ : Nat} {w : World} {pre : List Cut3} {c : Cut3} {v : Value} {W W2 : World} (h : KeptMem n₀ n₁ w pre W) (hv : Boxed W n₁ 56 v) (hR : Kd.R k64 64 W (n₁ + 5) (fun k => n₁ + 5 ≤ k) v (keepCuts pre).1)
    (hk : KeptTo n₁ (n₁ + 5) v (keepStep (keepCuts pre).1 (keepCuts pre).2 (c.from_ : Int)) W W2) :
    KeptMem n₀ n₁ w (pre ++ [c]) (W2.setCell ⟨n₁ + 1, 0, none⟩ (.int .i64 (c.to_ : Int))) ∧ KeepsFrom (n₁ + 5) W (W2.setCell ⟨n₁ + 1, 0, none⟩ (.int .i64 (c.to_ : Int))) ∧ KpC n₀ (n₁ + 1) W (W2.setCell ⟨n₁ + 1, 0, none⟩ (.int .i64 (c.to_ : Int))) := by
  obtain ⟨_, h4, h5, h6, h7, h8, h9⟩ := h
  obtain ⟨⟨v', hv', hR'⟩, hfr, hbl⟩ := hk
  have hown : ∀ k, v.ownBlock = some k → n₁ + 5 ≤ k := fun k hk => hR.1 k hk
  have hty := Kd.R_typed hR
  have h4' : Boxed W2 (n₁ + 1) 3 (.int .i64 (keepCuts pre).2) := (hfr _ (by omega) (by omega) (fun e => by have := hown _ e.symm; omega)).trans h4
  have h5' : Boxed W2 (n₁ + 1 + 1) 101 (.func (.func 56) #[] #[.pointer (some ⟨n₁, 0, none⟩), .pointer (some ⟨n₁ + 1, 0, none⟩)]) := (hfr _ (by omega) (by omega) (fun e => by have := hown _ e.symm; omega)).trans h5
  have hg := grownBy_setCell' W2 (n₁ + 1) (.int .i64 (c.to_ : Int))
  refine ⟨⟨⟨v', hv'.kept hg (fun e => absurd (Option.some.inj e) (by omega)), ?_, fun e => by simp at e⟩, ?_, h5'.kept hg (fun e => absurd (Option.some.inj e) (by omega)), (h6.trans (hbl.mono h8)).setCell (p := ⟨n₁ + 1, 0, none⟩) (by show n₀ ≤ n₁ + 1; omega) _, Nat.le_trans h7 (Nat.le_trans hbl.size hg.size), h8, h9⟩, ?_, ?_⟩
  · rw [keepCuts_snoc]
    exact Kd.R_far hR' (fun k hk e => by have : k = n₁ + 1 := e; omega) _
  · rw [keepCuts_snoc]
    exact h4'.set _
  · refine ⟨Nat.le_trans hbl.size hg.size, fun k o hB hk hn => ?_⟩
    have hlt := (Array.getElem?_eq_some_iff.1 hk).1
    rw [hg.block k (by have := hbl.size; omega) (fun e => absurd (Option.some.inj e) (by omega)), hfr k hlt (by omega) (fun e => ?_)]
    · exact hk
    · obtain ⟨cells, hc⟩ := hty k e.symm
      rw [hk] at hc; cases hc; cases hn
  · refine ⟨(hbl.mono h8).setCell (p := ⟨n₁ + 1, 0, none⟩) (by show n₀ ≤ n₁ + 1; omega) _, Nat.le_trans hbl.size hg.size, fun k cs hk hb => ?_⟩
    have hlt := (Array.getElem?_eq_some_iff.1 hk).1
    rw [hg.block k (by have := hbl.size; omega) (fun e => hb (Option.some.inj e)), hfr k hlt (fun e => ?_) (fun e => ?_)]
    · exact hk
    · subst e; have := hv.symm.trans hk; cases this
    · obtain ⟨cells, hc⟩ := hty k e.symm
      rw [hk] at hc; cases hc

set_option maxRecDepth 100000 in
set_option maxHeartbeats 4000000 in
theorem place_Kept.calls (a0 : ByteArray) (A1 : Option Addr) (c1 : Nat) (l1 : List S33) (r1 : List S64) (r2 : Int) (w : World) (hr1 : Kd.C k33 w A1 l1.length l1) (hc1 : l1.length ≤ c1) (h : place_Kept.f a0 l1 = some (r1, r2)) :
    Calls Try.prog 34 #[.string a0, .slice A1 l1.length c1] w fun e w' => ∃ v0_ : Value, e = .returned (.tuple #[v0_, .int .i64 r2]) ∧ Kd.R k64 64 w' w.heap.size (fun _ => True) v0_ r1 ∧ Below w.heap.size w w' := by
  have hu99 := Try.underlying99
  have hu101 := Try.underlying101
  unfold place_Kept.f at h
  split at h
  · rename_i hd
    have HD := Lib.hid hd; clear hd
    have hsz : a0.size ≤ 1048576 := HD.out.1
    have HR1 := Lib.hid hr1; clear hr1
    split at h
    · rename_i hf
      have HDF := Lib.hid (HD.out.2.2.2 hf); clear HD
      have HD := HDF; clear HDF
      have HCH := Lib.hid (check_fit HD.out hf)
      have HF := Lib.hid hf; clear hf
      obtain ⟨z, hz⟩ : ∃ z : Int, ((applyB (linesB a0) l1).length : Int) = z := ⟨_, rfl⟩
      rw [hz] at HCH
      clear hz
      have H1 := Lib.hid h; clear h
      refine (callsIn_wide (n := 5)).1 ?_
      refine callsIn_of_wp_marks Try.func34 rfl trivial ?_ rfl
      simp only [Try.ntmps34, List.size_toArray, List.length_cons, List.length_nil, Nat.reduceAdd, Nat.reduceSub, Array.replicate_succ, Array.replicate_zero, List.push_toArray, List.append_toArray, List.nil_append, List.cons_append]
      gi_wp2_with (refine ⟨trivial, ?_⟩; gi_at_call 53; refine (callsIn_wide.2 (place_check.calls a0 A1 c1 l1 z 0 _ HR1.out hc1 HCH.out)).mono ?_; rintro e w1 ⟨rfl, hb1⟩; have HB1 := Lib.hid hb1; clear hb1)
      gi_wp2_with (refine ⟨trivial, ?_⟩; gi_at_call 54; refine (cuts_in _ _ _ _ _).mono ?_; rintro e w' ⟨rfl, rfl⟩)
      have hs1 := HB1.out.size
      have hlt := C33_lt HR1.out
      have HLT := Lib.hid hlt; clear hlt
      obtain ⟨bO, bF, bN⟩ := three_boxes w1 (.slice none 0 0) (.int .i64 0) (.func (.func 56) #[] #[.pointer (some ⟨w1.heap.size, 0, none⟩), .pointer (some ⟨w1.heap.size + 1, 0, none⟩)]) 56 3 101
      have hW3 : Below w1.heap.size w1 (((w1.alloc (.cells #[.slice none 0 0] 56)).alloc (.cells #[.int .i64 0] 3)).alloc (.cells #[.func (.func 56) #[] #[.pointer (some ⟨w1.heap.size, 0, none⟩), .pointer (some ⟨w1.heap.size + 1, 0, none⟩)]] 101)) := (((Below.refl _ w1).alloc (Nat.le_refl _) _).alloc (by simp) _).alloc (by simp; omega) _
      have hs3 : (((w1.alloc (.cells #[.slice none 0 0] 56)).alloc (.cells #[.int .i64 0] 3)).alloc (.cells #[.func (.func 56) #[] #[.pointer (some ⟨w1.heap.size, 0, none⟩), .pointer (some ⟨w1.heap.size + 1, 0, none⟩)]] 101)).heap.size = w1.heap.size + 1 + 1 + 1 := by simp
      generalize ((w1.alloc (.cells #[.slice none 0 0] 56)).alloc (.cells #[.int .i64 0] 3)).alloc (.cells #[.func (.func 56) #[] #[.pointer (some ⟨w1.heap.size, 0, none⟩), .pointer (some ⟨w1.heap.size + 1, 0, none⟩)]] 101) = w3 at bO bF bN hW3 hs3 ⊢
      have bS0 := Boxed.new w3 9 (.string a0)
      have bL := Boxed.new (w3.alloc (.cells #[.string a0] 9)) 24 (.slice A1 l1.length c1)
      have bS := bS0.alloc (.cells #[.slice A1 l1.length c1] 24)
      rw [World.size_alloc] at bL
      rw [hs3] at bS bL
      have hsW : ((w3.alloc (.cells #[.string a0] 9)).alloc (.cells #[.slice A1 l1.length c1] 24)).heap.size = w1.heap.size + 5 := by simp [hs3]
      have hW5 : Below w1.heap.size w1 ((w3.alloc (.cells #[.string a0] 9)).alloc (.cells #[.slice A1 l1.length c1] 24)) := (hW3.alloc (by omega) _).alloc (by simp; omega) _
      have hBW := HB1.out.trans (hW5.mono hs1)
      have hC2 := Kd.C_below HR1.out hBW
      have bO' := (bO.alloc (.cells #[.string a0] 9)).alloc (.cells #[.slice A1 l1.length c1] 24)
      have bF' := (bF.alloc (.cells #[.string a0] 9)).alloc (.cells #[.slice A1 l1.length c1] 24)
      have bN' := (bN.alloc (.cells #[.string a0] 9)).alloc (.cells #[.slice A1 l1.length c1] 24)
      refine rangeFunc_H rfl (by omega) (gf := 66) (lb := #[.pointer (some ⟨w1.heap.size + 1 + 1 + 1, 0, none⟩), .pointer (some ⟨w1.heap.size + 1 + 1 + 1 + 1, 0, none⟩)]) (by simp [Act.eval]) trivial (enters_of Try.func66 (by kernel_rfl) rfl)
        (cuts_stops (w1.heap.size + 1 + 1 + 1) (w1.heap.size + 1 + 1 + 1 + 1) w.heap.size (w1.heap.size + 1) a0 (linesB a0) l1 A1 c1 hsz rfl HD.out.2.1 hc1 HF.out HD.out.2.2.1 _ (by rw [hsW]; omega) (by rw [hsW]; omega) HLT.out hC2 bS bL)
        KpC.trans (fun W l o o' hl h1 h2 h3 => KpC.put (w := (w3.alloc (.cells #[.string a0] 9)).alloc (.cells #[.slice A1 l1.length c1] 24)) (by rw [hsW]; omega) W l o o' hl h1 h2 h3) (Below.refl _ _) (fun _ => rfl) (fun k e => by cases e)
        (fun pre W => KeptMem w.heap.size w1.heap.size w pre W)
        (fun _ _ _ => False)
        ?hI (fun _ => abide_false) ?hI0 ?h0
        (fun x a' W => ∃ Bc, w1.heap.size + 5 ≤ Bc ∧ W.heap[Bc]? = some (.cells #[.int .i64 x.from_, .int .i64 x.to_, .int .i64 x.put] 99 (0, 0)) ∧
          a' = { tmps := #[.string a0, .slice A1 l1.length c1, undef, undef, .slice none 0 0, .int .i64 0, .int .i64 z, .int .i64 0, .pointer (some ⟨w1.heap.size, 0, none⟩), .pointer (some ⟨w1.heap.size + 1, 0, none⟩), .pointer (some ⟨w1.heap.size + 1 + 1, 0, none⟩), .pointer (some ⟨Bc, 0, none⟩), .tuple #[.int .i64 z, .int .i64 0], .string a0, .slice A1 l1.length c1, .tuple #[.int .i64 z, .int .i64 0], .int .i64 z, .int .i64 0, .int .i64 0, .bool false, undef, .func (.func 56) #[] #[.pointer (some ⟨w1.heap.size, 0, none⟩), .pointer (some ⟨w1.heap.size + 1, 0, none⟩)], .string a0, .slice A1 l1.length c1, .func (.func 66) #[] #[.pointer (some ⟨w1.heap.size + 1 + 1 + 1, 0, none⟩), .pointer (some ⟨w1.heap.size + 1 + 1 + 1 + 1, 0, none⟩)], .agg #[.int .i64 x.from_, .int .i64 x.to_, .int .i64 x.put], undef, undef, undef, undef, undef, undef, undef, undef, undef, undef, undef], defers := [] }) ?hAx ?assign ?body ?done ?stop
      case hI => exact fun s A B r hm hg hr => hm.abide (by rw [hsW]; omega) hg hr
      case hI0 =>
        intro A B hm _ hb
        exact hm.first (hb.mono (by rw [hsW]; exact Nat.le_refl _))
      case h0 => exact ⟨⟨_, bO', Kd.R_nil _ _ _ _ _, fun _ => rfl⟩, bF', bN', hBW, by rw [hsW]; exact Nat.le_refl _, hs1, rfl⟩
      case hAx =>
        rintro x a' _ A B r ⟨Bc, h1, h2, h3⟩ hg hr
        refine ⟨Bc, h1, (hg.block _ (Array.getElem?_eq_some_iff.1 h2).1 ?_).trans h2, h3⟩
        intro e
        rcases hr Bc e.symm with h | ⟨_, o, ho, hc⟩
        · cases h
        · rw [h2] at ho; cases ho; cases hc
      case assign =>
        rintro l pre x W K hm hK
        simp only [encC]
        gi_wp2
        refine hK _ _ ((KeepsOthers.alloc _ _).from _) ⟨(Below.refl _ _).alloc (by have := hm.2.2.2.2.1; omega) _, by simp, fun k cs hk _ => (Below.heap_alloc _ _ _ (Array.getElem?_eq_some_iff.1 hk).1).trans hk⟩ (hm.alloc _) ⟨W.heap.size, hm.2.2.2.2.1, World.alloc_heap_new _ _, rfl⟩
      case body =>
        rintro l pre x a' W hm ⟨Bc, hBc, hbc, rfl⟩ hlt
        obtain ⟨⟨v, hv, hR, _⟩, hF, hN, _, hsz5, hn01, _⟩ := id hm
        have c10 := hN.cell
        have k0 : W.cell? ⟨Bc, 0, none⟩ = some (.int .i64 x.from_) := by rw [cell_block hbc]; rfl
        have hlen : (keepCuts pre).1.length < 1073741824 := by have := keepCuts_length pre; have := HD.out.2.1; omega
        have HM := Lib.hid hm; clear hm
        have HV := Lib.hid hv; clear hv
        have HR := Lib.hid hR; clear hR
        have HF5 := Lib.hid hF; clear hF
        have HBC := Lib.hid hbc; clear hbc
        gi_wp2_with (refine ⟨trivial, ?_⟩; gi_at_call 56; refine (CallsIn.inRound l (callsIn_wide.2 (kept1 w1.heap.size (w1.heap.size + 1) (w1.heap.size + 5) v (keepCuts pre).1 (keepCuts pre).2 (x.from_ : Int) W HV.out HF5.out HR.out (by omega) hsz5 hlen))).mono ?_; rintro e w2 ⟨⟨u, rfl⟩, hk⟩; have hb2 := kept_other HR.out hk HBC.out (by decide) (by omega); have k1 : w2.cell? ⟨Bc, 1, none⟩ = some (.int .i64 x.to_) := (by rw [cell_block hb2]; rfl); have hF2 : Boxed w2 (w1.heap.size + 1) 3 (.int .i64 (keepCuts pre).2) := kept_other HR.out hk HF5.out (by decide) (by omega); have c9 := hF2.cell; have f9 := hF2.frozen; have HK := Lib.hid hk; clear hk hb2 hF2)
        obtain ⟨h1, h2, h3⟩ := HM.out.round (c := x) HV.out HR.out HK.out
        exact ⟨by rw [hsW]; exact h2, h3, h1⟩
      case done =>
        rintro D pre W hD rfl hm hK
        obtain ⟨⟨v, hv, hR, _⟩, hF, hN, hbw, hsz5, hn01, _⟩ := id hm
        have c10 := hN.cell
        have hlen : (keepCuts (cutsB (linesB a0) l1)).1.length < 1073741824 := by
          have := keepCuts_length (cutsB (linesB a0) l1)
          have h2 : (cutsB (linesB a0) l1).length = l1.length := by unfold cutsB; rw [List.length_map]
          have := HD.out.2.1
          omega
        have HV := Lib.hid hv; clear hv
        have HR := Lib.hid hR; clear hR
        have HF5 := Lib.hid hF; clear hF
        have HKD := Lib.hid hK; clear hK
        gi_wp2_with (refine ⟨trivial, ?_⟩; gi_at_call 56; refine (callsIn_wide.2 (kept1 w1.heap.size (w1.heap.size + 1) (w1.heap.size + 5) v (keepCuts (cutsB (linesB a0) l1)).1 (keepCuts (cutsB (linesB a0) l1)).2 (a0.size : Int) W HV.out HF5.out HR.out (by omega) hsz5 hlen)).mono ?_; rintro e w2 ⟨⟨u, rfl⟩, hk⟩; obtain ⟨⟨v2, hv2, hR2⟩, hfr2, hbl2⟩ := id hk; obtain ⟨A2, c2, rfl⟩ := Kd.R_slice hR2; have c8 := hv2.cell; have HK := Lib.hid hk; have HR2 := Lib.hid hR2; have HBL2 := Lib.hid hbl2; clear hk hv2 hR2 hfr2 hbl2)
        change LeavesInM Fence.wide 5 Try.prog Try.f34 _ _ _ _ _
        have hDlt := (Array.getElem?_eq_some_iff.1 HKD.out).1
        have hKD2 : w2.heap[D]? = some (.deferred (some [])) := (HK.out.2.1 D hDlt (by rw [hsW] at hD; omega) (fun e => by
          obtain ⟨cells, hc⟩ := Kd.R_typed HR.out D e.symm
          rw [HKD.out] at hc; cases hc)).trans HKD.out
        have h1 := H1.out
        simp only [Option.some.injEq, Prod.mk.injEq] at h1
        obtain ⟨rfl, rfl⟩ := h1
        refine ⟨by simp, .inl ⟨_, _, rfl, run_takeDeferred hKD2, ?_⟩⟩
        refine ⟨_, results_tmp2 rfl _ _ _, _, rfl, Kd.R_lower (Kd.R_mono (kept_move HR2.out (fun k cells _ _ hc => World.putObj_heap_other (fun e => ?_))) (fun _ _ => trivial)) (by omega), (hbw.trans (HBL2.out.mono hn01)).trans (belowK_b (w := w) (Nat.le_refl _) w2 D _ _ (by rw [hsW] at hD; omega) hKD2 rfl rfl)⟩
        subst e
        rw [hKD2] at hc; cases hc
      case stop =>
        rintro D c pre W _ _ h _
        exact h.elim
    · rename_i hf
      have hf' : fitB (linesB a0) l1 = false := by simpa using hf
      have HCH := Lib.hid (check_not HD.out hf')
      have h1 := h
      clear hf hf' h
      simp only [Option.some.injEq, Prod.mk.injEq] at h1
      obtain ⟨rfl, rfl⟩ := h1
      refine (callsIn_wide (n := 5)).1 ?_
      refine callsIn_of_wp_marks Try.func34 rfl trivial ?_ rfl
      simp only [Try.ntmps34, List.size_toArray, List.length_cons, List.length_nil, Nat.reduceAdd, Nat.reduceSub, Array.replicate_succ, Array.replicate_zero, List.push_toArray, List.append_toArray, List.nil_append, List.cons_append]
      gi_wp2_with (refine ⟨trivial, ?_⟩; gi_at_call 53; refine (callsIn_wide.2 (place_check.calls a0 A1 c1 l1 0 180 _ HR1.out hc1 HCH.out)).mono ?_; rintro e w1 ⟨rfl, hb1⟩; have HB1 := Lib.hid hb1; clear hb1)
      change LeavesInM Fence.wide 5 Try.prog Try.f34 _ _ [] _ _
      exact ⟨_, results_tmp2 rfl _ _ _, _, rfl, Kd.R_nil _ _ _ _ _, HB1.out⟩
  · cases h
end Go.Proofs.Ytmecmmpgkcileaa.Z
