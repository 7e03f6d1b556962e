/- place.cuts, the iterator of edits by places: what it hands over, round by round, where the edits fit. -/
import Derived.Test.YtmecmmpgkcileaaGApply
import Derived.Test.YtmecmmpgkcileaaRf
import Derived.Test.YtmecmmpgkcileaaRt
namespace Go.Proofs.Ytmecmmpgkcileaa.Z
open Go.RowKit Go.Shelf Go.Proofs.YtmecmmpgkcileaaW.PrintWords Go.Proofs.YtmecmmpgkcileaaW.PrintLast Go.Proofs.YtmecmmpgkcileaaW.PrintMore Go.Proofs.Ytmecmmpgkcileaa.Rf
attribute [local go_sem] Oper.semAt_some

/-- Where a line begins. -/
def begB (x : List ByteArray) (n : Nat) : Nat := (catL (x.take n)).length
structure Cut3 where
  from_ : Nat
  to_ : Nat
  put : Nat
  ok : from_ ≤ to_ ∧ to_ ≤ 1048576 ∧ put ≤ 1048576
def cutOf (x : List ByteArray) (e : S33) : Cut3 :=
  if h : begB x e.f0.toNat ≤ begB x e.f1.toNat ∧ begB x e.f1.toNat ≤ 1048576 ∧ e.f2.size ≤ 1048576 then ⟨begB x e.f0.toNat, begB x e.f1.toNat, e.f2.size, h⟩ else ⟨0, 0, 0, by decide⟩
def cutsB (x : List ByteArray) (l : List S33) : List Cut3 := l.map (cutOf x)
def begins (x : List ByteArray) (k : Nat) : List Int := (List.range (k + 1)).map fun j => (begB x j : Int)

theorem catL_lines (s : ByteArray) : catL (linesB s) = s.data.toList := by
  have key : ∀ l : List UInt8, (splitL l).flatten = l := by
    intro l
    induction l with
    | nil => rfl
    | cons c r ih =>
      unfold splitL
      split
      · rw [List.flatten_cons, ih]; rfl
      · split
        · rename_i he
          rw [he] at ih
          simp at ih
          simp [ih]
        · rename_i h t he
          rw [he, List.flatten_cons] at ih
          rw [List.flatten_cons, List.cons_append, ih]
  unfold catL linesB
  rw [List.map_map]
  have : ((fun x : ByteArray => x.data.toList) ∘ mkB) = id := rfl
  rw [this, List.map_id, key]

theorem begB_succ (x : List ByteArray) (k : Nat) (h : k < x.length) : begB x (k + 1) = begB x k + x[k].size := by
  unfold begB catL
  rw [List.take_succ_eq_append_getElem h, List.map_append, List.flatten_append, List.length_append]
  simp
theorem begB_le (x : List ByteArray) (k : Nat) : begB x k ≤ (catL x).length := by
  unfold begB
  conv => rhs; rw [← List.take_append_drop k x]
  unfold catL
  rw [List.map_append, List.flatten_append, List.length_append]
  omega
theorem begB_mono (x : List ByteArray) {i j : Nat} (h : i ≤ j) : begB x i ≤ begB x j := by
  induction h with
  | refl => exact Nat.le_refl _
  | step _ ih =>
    rename_i m _
    show begB x i ≤ begB x (m + 1)
    rcases Nat.lt_or_ge m x.length with hl | hl
    · rw [begB_succ x m hl]; omega
    · have : begB x (m + 1) = begB x m := by unfold begB; rw [List.take_of_length_le (by omega), List.take_of_length_le hl]
      omega
theorem begins_succ (x : List ByteArray) (k : Nat) (h : k < x.length) : begins x (k + 1) = begins x k ++ [((begB x k + x[k].size : Nat) : Int)] := by
  unfold begins
  rw [List.range_succ, List.map_append, List.map_singleton, begB_succ x k h]
theorem begins_length (x : List ByteArray) (k : Nat) : (begins x k).length = k + 1 := by simp [begins]
theorem begins_at (x : List ByteArray) (k j : Nat) (h : j ≤ k) : (begins x k)[j]? = some (begB x j : Int) := by
  unfold begins
  rw [List.getElem?_map, List.getElem?_range (by omega)]
  rfl

/-- What a round must keep for the iterator: what lay below n₀; rows of ints but one box. -/
def KpC (n₀ Bx : Nat) (W W' : World) : Prop := Below n₀ W W' ∧ W.heap.size ≤ W'.heap.size ∧ ∀ k cs, W.heap[k]? = some (.cells cs 3 (0, 0)) → k ≠ Bx → W'.heap[k]? = some (.cells cs 3 (0, 0))
theorem KpC.trans {n₀ Bx : Nat} {A B C : World} (h : KpC n₀ Bx A B) (k : KpC n₀ Bx B C) : KpC n₀ Bx A C :=
  ⟨h.1.trans k.1, Nat.le_trans h.2.1 k.2.1, fun i cs hi hb => k.2.2 i cs (h.2.2 i cs hi hb) hb⟩
theorem KpC.put {n₀ Bx : Nat} {w : World} (hn : n₀ ≤ w.heap.size) (W : World) (l : Nat) (o o' : Obj) (hl : w.heap.size ≤ l) (h : W.heap[l]? = some o) (hc : o.isCells = false) (hw : o.isWalk = false) : KpC n₀ Bx W (W.putObj l o') :=
  ⟨belowK_b hn W l o o' hl h hc hw, by simp, fun k cs hk _ => (World.putObj_heap_other (fun e => by subst e; rw [h] at hk; cases hk; cases hc)).trans hk⟩

theorem C33_keep {n₀ : Nat} {w w' : World} {A : Option Addr} {l : List S33} (h : Kd.C k33 w A l.length l) (hb : Below n₀ w w') (hlt : ∀ ad, A = some ad → 0 < l.length → ad.block < n₀) : Kd.C k33 w' A l.length l := by
  obtain ⟨h1, h2, h3⟩ := h
  refine ⟨h1, h2, fun hn => ?_⟩
  obtain ⟨ad, rfl, hc⟩ := h3 hn
  refine ⟨ad, rfl, fun j p hp => ?_⟩
  obtain ⟨c, hl, hK, hcell⟩ := hc j p hp
  obtain rfl := k33_open hK
  refine ⟨_, hl, k33_mk _ _, fun i u hu => ?_⟩
  have hbk : (ad.add (j * k33.sz + i)).block = ad.block := by unfold Addr.add; split <;> rfl
  rw [hb.cell (by rw [hbk]; exact hlt ad rfl hn)]
  exact hcell i u hu

theorem fit_mem {x : List ByteArray} : ∀ {last : Int} {l : List S33}, fitFrom x last l = true → -1 ≤ last → ∀ e ∈ l, 0 ≤ e.f0 ∧ e.f0 ≤ e.f1 ∧ e.f1 ≤ (x.length : Int)
  | _, [], _, _, _, he => by cases he
  | last, a :: r, h, hl, e, he => by
    obtain ⟨h1, h2, h3, _, _, _, h7⟩ := fit_cons h
    rcases List.mem_cons.1 he with rfl | he
    · omega
    · exact fit_mem h7 (by omega) e he

def CutsRel1 (W : World) (x : List ByteArray) (Ax : Option Addr) (cx : Nat) (v4 v13 : Value) (wr : World) : Prop :=
  ∃ k : Nat, k ≤ x.length ∧ v13 = .int .i64 (k : Int) ∧ wr.ownsRow W.heap.size 3 1 v4 (k + 1) ((begins x k).map (Value.int .i64)) ∧
    Kd.R Kd.string 9 wr W.heap.size (fun _ => True) (.slice Ax x.length cx) x ∧ Below W.heap.size W wr
def CutsRel2 (n₀ : Nat) (w0 : World) (x : List ByteArray) (es : List S33) (g : Nat) (cur : Array Value) (J : List Cut3 → World → Prop) (v32 : Value) (wr : World) : Prop :=
  ∃ k : Nat, k ≤ es.length ∧ v32 = .int .i64 (k : Int) ∧ J ((cutsB x es).take k) wr ∧ wr.heap[g]? = some (.cells cur 3 (0, 0)) ∧ Below n₀ w0 wr

theorem info3' : (Try.prog.info? 3).map (fun i => (i.zero, i.size, i.bytes)) = some (some (.int .i64 0), 1, 8) := by kernel_rfl

set_option maxRecDepth 100000 in
set_option maxHeartbeats 4000000 in
theorem cuts1_in (l Bs Bl n₀ Bx : Nat) (s : ByteArray) (x : List ByteArray) (es : List S33) (A1 : Option Addr) (c1 : Nat) (hs : s.size ≤ 1048576) (hx : linesB s = x) (hn : es.length ≤ 1048576) (_hc1 : es.length ≤ c1)
    (hfit : fitB x es = true) (hls : ∀ e ∈ es, e.f2.size ≤ 1048576) (J Jx : List Cut3 → World → Prop)
    (hJ : ∀ s A B, J s A → A.grownBy B none → J s B)
    (w0 : World) (hn₀ : n₀ ≤ w0.heap.size) (hbx : Bx < w0.heap.size) (hl1 : ∀ ad, A1 = some ad → 0 < es.length → ad.block < n₀) (hC0 : Kd.C k33 w0 A1 es.length es) (hBs : Boxed w0 Bs 9 (.string s)) (hBl : Boxed w0 Bl 24 (.slice A1 es.length c1))
    (W : World) (hW : Below w0.heap.size w0 W)
    (hJ0 : ∀ A B, J [] A → W.heap.size ≤ A.heap.size → Below W.heap.size A B → J [] B)
    (hY : ∀ pre x W, J pre W → pre.length < es.length → YieldAt Fence.wide (4 - 1) Try.prog l #[.agg #[.int .i64 x.from_, .int .i64 x.to_, .int .i64 x.put]] W fun e W' =>
      (e = .returned (.bool true) ∧ J (pre ++ [x]) W' ∧ KpC n₀ Bx W W') ∨ (e = .returned (.bool false) ∧ Jx (pre ++ [x]) W'))
    (h0 : J [] W) :
    CallsIn Fence.wide 4 Try.prog 66 #[.func (.yield l) #[] #[], .pointer (some ⟨Bs, 0, none⟩), .pointer (some ⟨Bl, 0, none⟩)] W fun e W' => (∃ v, e = .returned v) ∧
      ((∃ ys, ys = cutsB x es ∧ J ys W') ∨ (∃ pre, pre <+: cutsB x es ∧ Jx pre W')) := by
  have hu33 := Try.underlying33
  have hu99 := Try.underlying99
  obtain ⟨i0, hi, hz0, hz1, hz2⟩ := info_parts info3'
  have hL : edit_Lines.f s = some x := by unfold edit_Lines.f; rw [if_pos (by omega), hx]
  have hxl : x.length ≤ s.size := by rw [← hx]; exact lines_length s
  have HX := Lib.hid hx; clear hx
  have HL := Lib.hid hL; clear hL
  have HF := Lib.hid hfit; clear hfit
  have HC0 := Lib.hid hC0; clear hC0
  have bS : Boxed W Bs 9 (.string s) := (hW.block _ hBs.lt).trans hBs
  have bL : Boxed W Bl 24 (.slice A1 es.length c1) := (hW.block _ hBl.lt).trans hBl
  have cS := (bS.alloc (.cells #[.int .i64 0] 3)).cell
  have hsL := hBl.lt
  refine callsIn_of_wp Try.func66 rfl trivial ?_ rfl
  simp only [Try.ntmps66, List.size_toArray, List.length_cons, List.length_nil, Nat.reduceAdd, Nat.reduceSub, Array.replicate_succ, Array.replicate_zero, List.push_toArray, List.append_toArray, List.nil_append, List.cons_append]
  gi_wp2_with (refine ⟨trivial, ?_⟩; gi_at_call 17; refine (callsIn_wide.2 (edit_Lines.calls s x _ HL.out)).mono ?_; rintro e w1 ⟨vx, rfl, hR, hB1⟩; obtain ⟨Ax, cx, rfl, hcx, hC⟩ := Kd.R_reads hR; clear hC)
  have hBW : Below W.heap.size W w1 := ((Below.refl _ W).alloc (Nat.le_refl _) _).trans (hB1.mono (by simp))
  gi_loopw [4, 13] (fun v4 v13 wr => CutsRel1 W x Ax cx v4 v13 wr) (fun _ v13 _ => x.length - (intOf v13).toNat)
  case atStart =>
    refine ⟨0, Nat.zero_le _, rfl, ?_, Kd.R_lower hR (by simp), hBW⟩
    refine pw_own_below (w := W.alloc (.cells #[.int .i64 0] 3)) ⟨rfl, .inr ⟨W.heap.size, 1, #[.int .i64 0], rfl, Nat.le_refl _, World.alloc_heap_new W _, Nat.le_refl _, by decide, rfl, rfl⟩⟩ hB1
  case round =>
    obtain ⟨k, hk, rfl, hown, hRx, hBr⟩ := hrel
    clear hR hB1 hBW
    obtain ⟨g, cap, rfl⟩ := ownsRow_succ hown
    have HOWN := Lib.hid hown
    by_cases hlt : k < x.length
    · obtain ⟨_, _, eA, _, hCx⟩ := Kd.R_reads hRx
      obtain ⟨b, o, rfl, hb, hcells⟩ : ∃ b o, Ax = some ⟨b, o, none⟩ ∧ b < wr.heap.size ∧ ∀ j y, x[j]? = some y → wr.cell? ⟨b, o + j, none⟩ = some (.string y) := by
        injection eA with e1 e2 e3
        subst e1
        exact C_strings hCx (by omega)
      have hxk := hcells k _ (List.getElem?_eq_getElem hlt)
      clear hcells hCx eA
      have hbk : wr.cell? ⟨g, k, none⟩ = some (.int .i64 (begB x k)) := by
        have := hown.cells (g := g) rfl k (.int .i64 (begB x k)) (by rw [List.getElem?_map, begins_at x k k (Nat.le_refl _)]; rfl)
        rw [add_plain] at this
        exact this
      have hle := begB_le x k
      have hle1 := begB_le x (k + 1)
      rw [begB_succ x k hlt] at hle1
      have hcl : (catL x).length ≤ 1048576 := by rw [← HX.out, catL_lines]; exact hs
      have hbsz := hBr.size
      have HR := Lib.hid hRx; clear hRx
      have HBR := Lib.hid hBr; clear hBr
      have HSUC := Lib.hid (begins_succ x k hlt)
      generalize x[k] = y at hxk hle1 HSUC
      gi_wp2_with (gi_at_builtin; refine wpListIn_append_own _ rfl _ _ 80 rfl W.heap.size 3 i0 (.int .i64 0) 1 8 Try.underlying80 hi hz0 hz1 hz2 rfl (by decide) _ _ _ rfl (hown.alloc _) ⟨wr.heap.size, 0, none⟩ 1 1 [.int .i64 (begB x k + y.size)] rfl rfl (cell_one_new _ _ _) (by simp [Value.oneCell']) (by unfold maxLen; omega) (by omega) (by simp; omega) ?_; intro v' w2 hown' hgrow0 _; have hgrow : (wr.alloc (.cells #[.int .i64 (begB x k + y.size)] 3)).grownBy w2 (some g) := hgrow0; clear hgrow0)
      go_roundw
      case rel =>
        have hal : Below wr.heap.size wr (wr.alloc (.cells #[.int .i64 (begB x k + y.size)] 3)) := (Below.refl _ _).alloc (Nat.le_refl _) _
        obtain ⟨cells, hgc⟩ := own_typed (pw_own_below HOWN.out hal) g rfl
        refine ⟨k + 1, hlt, by simp, ?_, ?_, (HBR.out.alloc hbsz _).grown hgrow (by simp; omega) (fun j e => by cases e; exact own_base HOWN.out _ rfl)⟩
        · rw [HSUC.out, List.map_append]
          exact hown'
        · exact Kd.R_mono (Kd.R_grown (Kd.R_types (Kd.R_below HR.out hal) hgc (fun q hq => by simp [Kd.string, Kd.scalar] at hq; omega)) hgrow (fun j hj e => hj.2 (Option.some.inj e))) (fun _ _ => trivial)
      case measure => simp [intOf]; omega
    · obtain rfl : k = x.length := by omega
      have bL3 : Boxed wr Bl 24 (.slice A1 es.length c1) := (hBr.block _ (Nat.lt_of_lt_of_le hBl.lt hW.size)).trans bL
      have cL := bL3.cell
      obtain ⟨hg0, cur, hgb, hcs⟩ : W.heap.size ≤ g ∧ ∃ cur, wr.heap[g]? = some (.cells cur 3 (0, 0)) ∧ ∀ j, j ≤ x.length → cur[j]? = some (.int .i64 (begB x j)) := by
        rcases hown.2 with ⟨e, _⟩ | ⟨g', cap', cur, e, h1, h2, h3, h4, h5, h6⟩
        · cases e
        · injection e with e1 e2 e3
          injection e1 with e1
          injection e1 with e1
          subst e1
          refine ⟨h1, cur, h2, fun j hj => ?_⟩
          have h7 : (cur.toList.take ((x.length + 1) * 1))[j]? = some (.int .i64 (begB x j)) := by
            rw [h6, List.getElem?_map, begins_at x x.length j hj]; rfl
          rw [List.getElem?_take] at h7
          split at h7
          · simpa using h7
          · cases h7
      have hgx : g ≠ Bx := by have := hW.size; omega
      have HB0 := Lib.hid ((hW.trans (hBr.mono hW.size)).mono hn₀)
      have HJ0 := Lib.hid (hJ0 W wr h0 (Nat.le_refl _) hBr)
      have HGB := Lib.hid hgb
      have HCS := Lib.hid hcs
      have hcap : x.length + 1 ≤ cap := by
        rcases hown.2 with ⟨e, _⟩ | ⟨g', cap', cur, e, h1, h2, h3, _⟩
        · cases e
        · injection e with e1 e2 e3; omega
      clear hown HOWN hRx hBr hgb hcs bL3
      gi_wp2_with fail
      gi_loopw [32] (fun v32 W3 => CutsRel2 n₀ w0 x es g cur J v32 W3) (fun v32 _ => es.length - (intOf v32).toNat)
      case atStart => exact ⟨0, Nat.zero_le _, rfl, by simpa using HJ0.out, HGB.out, HB0.out⟩
      case round =>
        obtain ⟨k, hk, rfl, hJk, hgb, hB3⟩ := hrel
        by_cases hlt : k < es.length
        · obtain ⟨ad, ead, hc0, hc1', hc2⟩ := at_T33 (C33_keep HC0.out hB3 hl1) (k : Int) (by omega) (by omega)
          subst ead
          rw [rd33 es k hlt] at hc0 hc1' hc2
          rw [Int.toNat_natCast] at hc0 hc1' hc2
          have hmem : es[k] ∈ es := List.getElem_mem hlt
          have hsz := hls _ hmem
          obtain ⟨f0, f1, f2⟩ := fit_mem HF.out (by omega) _ hmem
          have hcut : (cutsB x es)[k]? = some (cutOf x es[k]) := by
            unfold cutsB; rw [List.getElem?_map, List.getElem?_eq_getElem hlt]; rfl
          clear hmem
          generalize es[k] = e at hc0 hc1' hc2 hsz f0 f1 f2 hcut
          obtain ⟨f, t, str⟩ := e
          simp only at hc0 hc1' hc2 hsz f0 f1 f2
          obtain ⟨f, rfl⟩ := Int.eq_ofNat_of_zero_le f0
          obtain ⟨t, rfl⟩ := Int.eq_ofNat_of_zero_le (Int.le_trans f0 f1)
          have hok : begB x f ≤ begB x t ∧ begB x t ≤ 1048576 ∧ str.size ≤ 1048576 := by
            refine ⟨begB_mono x (by omega), ?_, hsz⟩
            have h1 := begB_le x t
            have h2 : (catL x).length ≤ 1048576 := by rw [← HX.out, catL_lines]; exact hs
            omega
          rw [show cutOf x ⟨(f : Int), (t : Int), str⟩ = ⟨begB x f, begB x t, str.size, hok⟩ from dif_pos hok] at hcut
          have hlen : ((cutsB x es).take k).length < es.length := by rw [List.length_take]; unfold cutsB; rw [List.length_map]; omega
          have hgl := (Array.getElem?_eq_some_iff.1 hgb).1
          have hal : Below wr.heap.size wr (wr.alloc (.cells #[.int .i64 f, .int .i64 t, .string str] 33)) := (Below.refl _ _).alloc (Nat.le_refl _) _
          have e0 := cell_alloc_new wr #[.int .i64 f, .int .i64 t, .string str] 33 0
          have e1 := cell_alloc_new wr #[.int .i64 f, .int .i64 t, .string str] 33 1
          have e2 := cell_alloc_new wr #[.int .i64 f, .int .i64 t, .string str] 33 2
          have hgb4 := (hal.block g hgl).trans hgb
          have hJ4 := hJ _ _ _ hJk (World.grownBy_alloc wr (.cells #[.int .i64 f, .int .i64 t, .string str] 33) none)
          have hB4 := hB3.alloc (Nat.le_trans hn₀ hB3.size) (.cells #[.int .i64 f, .int .i64 t, .string str] 33)
          have b0 : (wr.alloc (.cells #[.int .i64 f, .int .i64 t, .string str] 33)).cell? ⟨g, f, none⟩ = some (.int .i64 (begB x f)) := by rw [cell_block hgb4]; exact HCS.out f (by omega)
          have b1 : (wr.alloc (.cells #[.int .i64 f, .int .i64 t, .string str] 33)).cell? ⟨g, t, none⟩ = some (.int .i64 (begB x t)) := by rw [cell_block hgb4]; exact HCS.out t (by omega)
          have hE : g < wr.heap.size := hgl
          clear hal hgb hJk hB3
          have HGB4 := Lib.hid hgb4; clear hgb4
          have HB4 := Lib.hid hB4; clear hB4
          have HCUT := Lib.hid hcut; clear hcut
          have fl : (f : Int) < ((x.length + 1 : Nat) : Int) := by omega
          have tl : (t : Int) < ((x.length + 1 : Nat) : Int) := by omega
          have fl' : (f : Int) < (x.length : Int) + 1 := by omega
          have tl' : (t : Int) < (x.length : Int) + 1 := by omega
          have fl2 : f < x.length + 1 := by omega
          have tl2 : t < x.length + 1 := by omega
          have fl3 : (0 : Int) ≤ (f : Int) := by omega
          have tl3 : (0 : Int) ≤ (t : Int) := by omega
          gi_wp2_with fail
          have hEE : (wr.alloc (.cells #[.int .i64 f, .int .i64 t, .string str] 33)).heap.size = wr.heap.size + 1 := by simp
          have HEE := Lib.hid hEE; clear hEE
          obtain ⟨W4, hW4⟩ : ∃ W4, W4 = wr.alloc (.cells #[.int .i64 f, .int .i64 t, .string str] 33) := ⟨_, rfl⟩
          rw [← hW4] at e0 e1 e2 b0 b1 HGB4 HB4 hJ4 HEE ⊢
          have HW4 := Lib.hid hW4; clear hW4
          simp at e0 e1 e2
          have hJ5 := hJ _ _ W4.drew hJ4 ⟨rfl, rfl, rfl, Nat.le_refl _, fun _ _ _ => rfl⟩
          obtain ⟨fn, tmps, assign, body, hy, hR⟩ := hY _ ⟨begB x f, begB x t, str.size, hok⟩ W4.drew hJ5 hlen
          dsimp only at hy
          have hR2 : RoundIn Fence.wide (4 - 1) Try.prog l fn tmps assign body W4.drew fun e W' => ∃ bv : Bool, e = .returned (.bool bv) ∧
              ((bv = true ∧ J ((cutsB x es).take k ++ [⟨begB x f, begB x t, str.size, hok⟩]) W' ∧ KpC n₀ Bx W4.drew W') ∨ (bv = false ∧ Jx ((cutsB x es).take k ++ [⟨begB x f, begB x t, str.size, hok⟩]) W')) :=
            hR.mono (by rintro e W' (⟨rfl, h1, h2⟩ | ⟨rfl, h1⟩); exact ⟨true, rfl, .inl ⟨rfl, h1, h2⟩⟩; exact ⟨false, rfl, .inr ⟨rfl, h1⟩⟩)
          have HR := Lib.hid hR2; clear hR hR2 hY
          have mixed : Try.prog.follows .mixedOrders = true := by kernel_rfl
          refine region_still_tail 15 (by kernel_rfl) (by kernel_rfl) ?_
          simp only [List.take_succ_cons, List.take_zero, List.drop_succ_cons, List.drop_zero]
          repeat still_step
          refine wpStill_nil ?_
          clear b0 b1 e0 e1 e2
          gi_wp2
          refine HR.out.mono ?_
          rintro e W5 ⟨bv, rfl, ⟨rfl, hJ6, hk6⟩ | ⟨rfl, hJx6⟩⟩
          · gi_wp2
            go_roundw
            case rel =>
              have hcc : (cutsB x es).take (k + 1) = (cutsB x es).take k ++ [⟨begB x f, begB x t, str.size, hok⟩] := by
                rw [List.take_add_one, HCUT.out]; rfl
              exact ⟨k + 1, hlt, by simp, by rw [hcc]; exact hJ6, hk6.2.2 g cur HGB4.out hgx, HB4.out.drew.trans hk6.1⟩
            case measure => simp [intOf]; omega
          · gi_wp2
            refine bodyPost_ret (results_none rfl _ _ _) rfl ?_
            have hcc : (cutsB x es).take (k + 1) = (cutsB x es).take k ++ [⟨begB x f, begB x t, str.size, hok⟩] := by
              rw [List.take_add_one, HCUT.out]; rfl
            exact ⟨⟨_, rfl⟩, .inr ⟨_, by rw [← hcc]; exact List.take_prefix _ _, hJx6⟩⟩
        · obtain rfl : k = es.length := by omega
          gi_wp2
          go_end0
          exact ⟨⟨_, rfl⟩, .inl ⟨_, rfl, by rw [List.take_of_length_le (by unfold cutsB; rw [List.length_map]; omega)] at hJk; exact hJk⟩⟩

set_option maxHeartbeats 1000000 in
/-- The maker: text and edits are boxed. -/
theorem cuts_in (s : ByteArray) (A1 : Option Addr) (n c1 : Nat) (w : World) :
    CallsIn Fence.wide 4 Try.prog 54 #[.string s, .slice A1 n c1] w fun e w' => e = .returned (.func (.func 66) #[] #[.pointer (some ⟨w.heap.size, 0, none⟩), .pointer (some ⟨w.heap.size + 1, 0, none⟩)]) ∧
      w' = (w.alloc (.cells #[.string s] 9)).alloc (.cells #[.slice A1 n c1] 24) := by
  refine callsIn_of_wp Try.func54 rfl trivial ?_ rfl
  simp only [Try.ntmps54, List.size_toArray, List.length_cons, List.length_nil, Nat.reduceAdd, Nat.reduceSub, Array.replicate_succ, Array.replicate_zero, List.push_toArray, List.append_toArray, List.nil_append, List.cons_append]
  gi_wp2
  go_ret
  exact ⟨by simp, rfl⟩

def encC (x : Cut3) : Array Value := #[.agg #[.int .i64 x.from_, .int .i64 x.to_, .int .i64 x.put]]
theorem cuts_stops (Bs Bl n₀ Bx : Nat) (s : ByteArray) (x : List ByteArray) (es : List S33) (A1 : Option Addr) (c1 : Nat) (hs : s.size ≤ 1048576) (hx : linesB s = x) (hn : es.length ≤ 1048576) (hc1 : es.length ≤ c1)
    (hfit : fitB x es = true) (hls : ∀ e ∈ es, e.f2.size ≤ 1048576)
    (w : World) (hn₀ : n₀ ≤ w.heap.size) (hbx : Bx < w.heap.size) (hl1 : ∀ ad, A1 = some ad → 0 < es.length → ad.block < n₀) (hC0 : Kd.C k33 w A1 es.length es) (hBs : Boxed w Bs 9 (.string s)) (hBl : Boxed w Bl 24 (.slice A1 es.length c1)) :
    SeqS Fence.wide 4 Try.prog 66 #[.pointer (some ⟨Bs, 0, none⟩), .pointer (some ⟨Bl, 0, none⟩)] encC (KpC n₀ Bx) none (fun ys => ys = cutsB x es) (fun pre => pre <+: cutsB x es) es.length w :=
  fun l J Jx W hW hJ _ hJ0 hY h0 => cuts1_in l Bs Bl n₀ Bx s x es A1 c1 hs hx hn hc1 hfit hls J Jx hJ w hn₀ hbx hl1 hC0 hBs hBl W hW hJ0 hY h0
end Go.Proofs.Ytmecmmpgkcileaa.Z
