/- place.From: where a place behind edits came from, for every text and edits within a bound, and every place. -/
import Derived.Test.YtmecmmpgkcileaaGMove
namespace Go.Proofs.Ytmecmmpgkcileaa.Z
open Go.RowKit Go.Shelf Go.Proofs.YtmecmmpgkcileaaW.PrintWords Go.Proofs.YtmecmmpgkcileaaW.PrintLast Go.Proofs.YtmecmmpgkcileaaW.PrintMore Go.Proofs.Ytmecmmpgkcileaa.Rf
attribute [local go_sem] Oper.semAt_some

def fromFrom : List Cut3 → Int → Int → Int × Bool
  | [], more, p => (p - more, true)
  | c :: r, more, p => if (c.from_ : Int) + more > p then (p - more, true) else if p < (c.from_ : Int) + more + (c.put : Int) then ((c.from_ : Int), false) else fromFrom r (more + c.more) p
def fromB (x : List ByteArray) (l : List S33) (p : Int) : Int × Bool := fromFrom (cutsB x l) 0 p

def place_From.f (a0 : ByteArray) (l1 : List S33) (a2 : Int) : Option (Int × Bool × Int) :=
  if domP a0 l1 then
    if fitB (linesB a0) l1 = true then
      if a2 < 0 ∨ ((applyB (linesB a0) l1).length : Int) < a2 then some (0, false, 2) else some ((fromB (linesB a0) l1 a2).1, (fromB (linesB a0) l1 a2).2, 0)
    else some (0, false, 180)
  else none

def FromIs (p : Int) (pre : List Cut3) (more : Int) : Prop := (∀ rest, fromFrom (pre ++ rest) 0 p = fromFrom rest more p) ∧ -(1048576 * (pre.length : Int)) ≤ more ∧ more ≤ 1048576 * (pre.length : Int)
def FromStops (p : Int) (pre : List Cut3) (more : Int) : Prop := (∀ rest, fromFrom (pre ++ rest) 0 p = (p - more, true)) ∧ -(1048576 * (pre.length : Int)) ≤ more ∧ more ≤ 1048576 * (pre.length : Int)
def FromSays (p : Int) (pre : List Cut3) (v : Int) : Prop := ∀ rest, fromFrom (pre ++ rest) 0 p = (v, false)

theorem fromIs_nil (p : Int) : FromIs p [] 0 := ⟨fun _ => rfl, by simp, by simp⟩
theorem fromIs_snoc {p : Int} {pre : List Cut3} {more : Int} {x : Cut3} (h : FromIs p pre more) (h1 : ¬ p < (x.from_ : Int) + more) (h2 : ¬ p < (x.from_ : Int) + more + (x.put : Int)) : FromIs p (pre ++ [x]) (more + ((x.put : Int) - ((x.to_ : Int) - (x.from_ : Int)))) := by
  obtain ⟨h0, hl, hu⟩ := h
  have := x.ok
  refine ⟨fun rest => ?_, by simp; omega, by simp; omega⟩
  rw [List.append_assoc, List.singleton_append, h0, fromFrom, if_neg (by omega), if_neg h2]
  rfl
theorem fromStops_snoc {p : Int} {pre : List Cut3} {more : Int} {x : Cut3} (h : FromIs p pre more) (h1 : p < (x.from_ : Int) + more) : FromStops p (pre ++ [x]) more := by
  obtain ⟨h0, hl, hu⟩ := h
  refine ⟨fun rest => ?_, by simp; omega, by simp; omega⟩
  rw [List.append_assoc, List.singleton_append, h0, fromFrom, if_pos (by omega)]
theorem fromSays_snoc {p : Int} {pre : List Cut3} {more : Int} {x : Cut3} (h : FromIs p pre more) (h1 : ¬ p < (x.from_ : Int) + more) (h2 : p < (x.from_ : Int) + more + (x.put : Int)) : FromSays p (pre ++ [x]) (x.from_ : Int) := by
  intro rest
  rw [List.append_assoc, List.singleton_append, h.1, fromFrom, if_neg (by omega), if_pos h2]

def FromMem (n₀ n₁ : Nat) (w : World) (a2 r : Int) (b : Bool) (more : Int) (W : World) : Prop :=
  Boxed W n₁ 3 (.int .i64 more) ∧ Boxed W n₀ 3 (.int .i64 a2) ∧ Boxed W (n₀ + 1) 3 (.int .i64 r) ∧ Boxed W (n₀ + 1 + 1) 4 (.bool b) ∧ Boxed W (n₀ + 1 + 1 + 1) 25 (.int .i64 0) ∧ Below n₀ w W ∧ n₁ + 3 ≤ W.heap.size ∧ n₀ + 1 + 1 + 1 < n₁ ∧ n₀ = w.heap.size
theorem FromMem.abide {n₀ n₁ : Nat} {w : World} {a2 r : Int} {b : Bool} {more : Int} {W W' : World} {B : Nat} {row : Option Nat} (h : FromMem n₀ n₁ w a2 r b more W) (hB : n₀ ≤ B) (hg : W.grownBy W' row)
    (hr : ∀ k, row = some k → none = some k ∨ (B ≤ k ∧ ∃ o : Obj, W.heap[k]? = some o ∧ o.isCells = false)) : FromMem n₀ n₁ w a2 r b more W' := by
  obtain ⟨h1, h2, h3, h4, h4', h5, h6, h7, h8⟩ := h
  exact ⟨boxed_abide h1 hg hr (by simp), boxed_abide h2 hg hr (by simp), boxed_abide h3 hg hr (by simp), boxed_abide h4 hg hr (by simp), boxed_abide h4' hg hr (by simp),
    h5.grown hg (by rw [h8]; exact h8 ▸ h5.size) (fun k e => by rcases hr k e with h | h; cases h; omega), Nat.le_trans h6 hg.size, h7, h8⟩
theorem FromMem.below {n₀ n₁ : Nat} {w : World} {a2 r : Int} {b : Bool} {more : Int} {W W' : World} (h : FromMem n₀ n₁ w a2 r b more W) (hb : Below (n₁ + 3) W W') : FromMem n₀ n₁ w a2 r b more W' := by
  obtain ⟨h1, h2, h3, h4, h4', h5, h6, h7, h8⟩ := h
  exact ⟨(hb.block _ (by omega)).trans h1, (hb.block _ (by omega)).trans h2, (hb.block _ (by omega)).trans h3, (hb.block _ (by omega)).trans h4, (hb.block _ (by omega)).trans h4', h5.trans (hb.mono (by omega)), Nat.le_trans h6 hb.size, h7, h8⟩
theorem FromMem.alloc {n₀ n₁ : Nat} {w : World} {a2 r : Int} {b : Bool} {more : Int} {W : World} (h : FromMem n₀ n₁ w a2 r b more W) (o : Obj) : FromMem n₀ n₁ w a2 r b more (W.alloc o) :=
  h.below ((Below.refl _ _).alloc h.2.2.2.2.2.2.1 o)
theorem FromMem.setMore {n₀ n₁ : Nat} {w : World} {a2 r : Int} {b : Bool} {more : Int} {W : World} (h : FromMem n₀ n₁ w a2 r b more W) (m : Int) : FromMem n₀ n₁ w a2 r b m (W.setCell ⟨n₁, 0, none⟩ (.int .i64 m)) := by
  obtain ⟨h1, h2, h3, h4, h4', h5, h6, h7, h8⟩ := h
  have hg := grownBy_setCell' W n₁ (.int .i64 m)
  exact ⟨h1.set _, h2.kept hg (fun e => absurd (Option.some.inj e) (by omega)), h3.kept hg (fun e => absurd (Option.some.inj e) (by omega)), h4.kept hg (fun e => absurd (Option.some.inj e) (by omega)), h4'.kept hg (fun e => absurd (Option.some.inj e) (by omega)), h5.setCell (p := ⟨n₁, 0, none⟩) (by show n₀ ≤ n₁; omega) _, Nat.le_trans h6 hg.size, h7, h8⟩
theorem FromMem.setR {n₀ n₁ : Nat} {w : World} {a2 r : Int} {b : Bool} {more : Int} {W : World} (h : FromMem n₀ n₁ w a2 r b more W) (m : Int) : FromMem n₀ n₁ w a2 m b more (W.setCell ⟨n₀ + 1, 0, none⟩ (.int .i64 m)) := by
  obtain ⟨h1, h2, h3, h4, h4', h5, h6, h7, h8⟩ := h
  have hg := grownBy_setCell' W (n₀ + 1) (.int .i64 m)
  exact ⟨h1.kept hg (fun e => absurd (Option.some.inj e) (by omega)), h2.kept hg (fun e => absurd (Option.some.inj e) (by omega)), h3.set _, h4.kept hg (fun e => absurd (Option.some.inj e) (by omega)), h4'.kept hg (fun e => absurd (Option.some.inj e) (by omega)), h5.setCell (p := ⟨n₀ + 1, 0, none⟩) (by show n₀ ≤ n₀ + 1; omega) _, Nat.le_trans h6 hg.size, h7, h8⟩
theorem FromMem.setB {n₀ n₁ : Nat} {w : World} {a2 r : Int} {b : Bool} {more : Int} {W : World} (h : FromMem n₀ n₁ w a2 r b more W) (c : Bool) : FromMem n₀ n₁ w a2 r c more (W.setCell ⟨n₀ + 1 + 1, 0, none⟩ (.bool c)) := by
  obtain ⟨h1, h2, h3, h4, h4', h5, h6, h7, h8⟩ := h
  have hg := grownBy_setCell' W (n₀ + 1 + 1) (.bool c)
  exact ⟨h1.kept hg (fun e => absurd (Option.some.inj e) (by omega)), h2.kept hg (fun e => absurd (Option.some.inj e) (by omega)), h3.kept hg (fun e => absurd (Option.some.inj e) (by omega)), h4.set _, h4'.kept hg (fun e => absurd (Option.some.inj e) (by omega)), h5.setCell (p := ⟨n₀ + 1 + 1, 0, none⟩) (by show n₀ ≤ n₀ + 1 + 1; omega) _, Nat.le_trans h6 hg.size, h7, h8⟩
theorem FromMem.setE {n₀ n₁ : Nat} {w : World} {a2 r : Int} {b : Bool} {more : Int} {W : World} (h : FromMem n₀ n₁ w a2 r b more W) : FromMem n₀ n₁ w a2 r b more (W.setCell ⟨n₀ + 1 + 1 + 1, 0, none⟩ (.int .i64 0)) := by
  obtain ⟨h1, h2, h3, h4, h4', h5, h6, h7, h8⟩ := h
  have hg := grownBy_setCell' W (n₀ + 1 + 1 + 1) (.int .i64 0)
  exact ⟨h1.kept hg (fun e => absurd (Option.some.inj e) (by omega)), h2.kept hg (fun e => absurd (Option.some.inj e) (by omega)), h3.kept hg (fun e => absurd (Option.some.inj e) (by omega)), h4.kept hg (fun e => absurd (Option.some.inj e) (by omega)), h4'.set _, h5.setCell (p := ⟨n₀ + 1 + 1 + 1, 0, none⟩) (by show n₀ ≤ n₀ + 1 + 1 + 1; omega) _, Nat.le_trans h6 hg.size, h7, h8⟩

theorem results_cells3 {fn : Func} (h : fn.results = #[.cell 6 3, .cell 7 4, .cell 8 25]) {tmps : Array Value} {n6 n7 n8 : Nat} {v u z : Value} {W : World}
    (h6 : tmps.getD 6 undef = .pointer (some ⟨n6, 0, none⟩)) (h7 : tmps.getD 7 undef = .pointer (some ⟨n7, 0, none⟩)) (h8 : tmps.getD 8 undef = .pointer (some ⟨n8, 0, none⟩)) (b6 : Boxed W n6 3 v) (b7 : Boxed W n7 4 u) (b8 : Boxed W n8 25 z) :
    (results fn tmps).run Try.prog W = .ok (.tuple #[v, u, z]) W := by
  have c6 := b6.cell
  have c7 := b7.cell
  have c8 := b8.cell
  rw [Array.getD_eq_getD_getElem?] at h6 h7 h8
  simp only [results, h]
  simp [Sem.run_bind, Result.andThen, h6, h7, h8, go_sem, c6, c7, c8]
theorem leave_three {fn : Func} (h : fn.results = #[.cell 6 3, .cell 7 4, .cell 8 25]) {tmps : Array Value} {n6 n7 n8 D : Nat} {v u z : Value} {W : World} {R : Ending → World → Prop} (hK : W.heap[D]? = some (.deferred (some [])))
    (h6 : tmps.getD 6 undef = .pointer (some ⟨n6, 0, none⟩)) (h7 : tmps.getD 7 undef = .pointer (some ⟨n7, 0, none⟩)) (h8 : tmps.getD 8 undef = .pointer (some ⟨n8, 0, none⟩)) (b6 : Boxed W n6 3 v) (b7 : Boxed W n7 4 u) (b8 : Boxed W n8 25 z)
    (hR : R (.returned (.tuple #[v, u, z])) (W.putObj D (.deferred none))) : LeavesInM Fence.wide 5 Try.prog fn tmps R [{ target := .collected D, args := #[] }] .returning W := by
  have e : ∀ {n t x}, Boxed W n t x → n ≠ D := by
    rintro n t x hb rfl
    have := hb.symm.trans hK
    cases this
  refine ⟨by simp, .inl ⟨_, _, rfl, run_takeDeferred hK, ?_⟩⟩
  exact ⟨_, results_cells3 h h6 h7 h8 (b6.kept (grownBy_putObj' W D _) (fun x => e b6 (Option.some.inj x))) (b7.kept (grownBy_putObj' W D _) (fun x => e b7 (Option.some.inj x))) (b8.kept (grownBy_putObj' W D _) (fun x => e b8 (Option.some.inj x))), hR⟩
theorem leave_three0 {fn : Func} (h : fn.results = #[.cell 6 3, .cell 7 4, .cell 8 25]) {tmps : Array Value} {n : Nat} {v u z v' u' z' : Value} {w W : World} {R : Ending → World → Prop}
    (h6 : tmps.getD 6 undef = .pointer (some ⟨n + 1, 0, none⟩)) (h7 : tmps.getD 7 undef = .pointer (some ⟨n + 1 + 1, 0, none⟩)) (h8 : tmps.getD 8 undef = .pointer (some ⟨n + 1 + 1 + 1, 0, none⟩)) (b6 : Boxed W (n + 1) 3 v') (b7 : Boxed W (n + 1 + 1) 4 u') (b8 : Boxed W (n + 1 + 1 + 1) 25 z')
    (hB : Below w.heap.size w W) (hn : n = w.heap.size) (hR : ∀ W', Below w.heap.size w W' → R (.returned (.tuple #[v, u, z])) W') :
    LeavesInM Fence.wide 5 Try.prog fn tmps R [] .returning (((W.setCell ⟨n + 1, 0, none⟩ v).setCell ⟨n + 1 + 1, 0, none⟩ u).setCell ⟨n + 1 + 1 + 1, 0, none⟩ z) := by
  have g1 := grownBy_setCell' W (n + 1) v
  have g2 := grownBy_setCell' (W.setCell ⟨n + 1, 0, none⟩ v) (n + 1 + 1) u
  have g3 := grownBy_setCell' ((W.setCell ⟨n + 1, 0, none⟩ v).setCell ⟨n + 1 + 1, 0, none⟩ u) (n + 1 + 1 + 1) z
  have s6 := ((b6.set v).kept g2 (fun e => absurd (Option.some.inj e) (by omega))).kept g3 (fun e => absurd (Option.some.inj e) (by omega))
  have s7 := ((b7.kept g1 (fun e => absurd (Option.some.inj e) (by omega))).set u).kept g3 (fun e => absurd (Option.some.inj e) (by omega))
  have s8 := ((b8.kept g1 (fun e => absurd (Option.some.inj e) (by omega))).kept g2 (fun e => absurd (Option.some.inj e) (by omega))).set z
  exact ⟨_, results_cells3 h h6 h7 h8 s6 s7 s8, hR _ (((hB.setCell (p := ⟨n + 1, 0, none⟩) (by show w.heap.size ≤ n + 1; omega) _).setCell (p := ⟨n + 1 + 1, 0, none⟩) (by show w.heap.size ≤ n + 1 + 1; omega) _).setCell (p := ⟨n + 1 + 1 + 1, 0, none⟩) (by show w.heap.size ≤ n + 1 + 1 + 1; omega) _)⟩
theorem four_boxes (w : World) (u v z q : Value) (t1 t2 t3 t4 : TypeId) :
    Boxed ((((w.alloc (.cells #[u] t1)).alloc (.cells #[v] t2)).alloc (.cells #[z] t3)).alloc (.cells #[q] t4)) w.heap.size t1 u ∧
    Boxed ((((w.alloc (.cells #[u] t1)).alloc (.cells #[v] t2)).alloc (.cells #[z] t3)).alloc (.cells #[q] t4)) (w.heap.size + 1) t2 v ∧
    Boxed ((((w.alloc (.cells #[u] t1)).alloc (.cells #[v] t2)).alloc (.cells #[z] t3)).alloc (.cells #[q] t4)) (w.heap.size + 1 + 1) t3 z ∧
    Boxed ((((w.alloc (.cells #[u] t1)).alloc (.cells #[v] t2)).alloc (.cells #[z] t3)).alloc (.cells #[q] t4)) (w.heap.size + 1 + 1 + 1) t4 q := by
  obtain ⟨h1, h2, h3⟩ := three_boxes w u v z t1 t2 t3
  have h4 := Boxed.new (((w.alloc (.cells #[u] t1)).alloc (.cells #[v] t2)).alloc (.cells #[z] t3)) t4 q
  simp only [World.size_alloc] at h4
  exact ⟨h1.alloc _, h2.alloc _, h3.alloc _, h4⟩

set_option maxRecDepth 100000 in
set_option maxHeartbeats 4000000 in
theorem place_From.calls (a0 : ByteArray) (A1 : Option Addr) (c1 : Nat) (l1 : List S33) (a2 : Int) (r1 : Int) (r2 : Bool) (r3 : Int) (w : World) (hr1 : Kd.C k33 w A1 l1.length l1) (hc1 : l1.length ≤ c1) (h : place_From.f a0 l1 a2 = some (r1, r2, r3)) :
    Calls Try.prog 32 #[.string a0, .slice A1 l1.length c1, .int .i64 a2] w fun e w' => e = .returned (.tuple #[.int .i64 r1, .bool r2, .int .i64 r3]) ∧ Below w.heap.size w w' := by
  have hu99 := Try.underlying99
  unfold place_From.f at h
  split at h
  · rename_i hd
    have HD := Lib.hid hd; clear hd
    have hsz : a0.size ≤ 1048576 := HD.out.1
    have HR1 := Lib.hid hr1; clear hr1
    split at h
    · rename_i hf
      have HDF := Lib.hid (HD.out.2.2.2 hf); clear HD
      have HD := HDF; clear HDF
      have HCH := Lib.hid (check_fit HD.out hf)
      have HF := Lib.hid hf; clear hf
      obtain ⟨z, hz⟩ : ∃ z : Int, ((applyB (linesB a0) l1).length : Int) = z := ⟨_, rfl⟩
      rw [hz] at HCH
      have hzb : z ≤ 140737488355328 := by have := HD.out.2.2.2 HF.out; omega
      split at h
      · rename_i hbad
        have H1 := Lib.hid h; clear h
        by_cases n0' : a2 < 0
        · have n0 : decide (a2 < 0) = true := decide_eq_true n0'
          refine (callsIn_wide (n := 5)).1 ?_
          refine callsIn_of_wp_marks Try.func32 rfl trivial ?_ rfl
          simp only [Try.ntmps32, List.size_toArray, List.length_cons, List.length_nil, Nat.reduceAdd, Nat.reduceSub, Array.replicate_succ, Array.replicate_zero, List.push_toArray, List.append_toArray, List.nil_append, List.cons_append]
          have hBA : Below w.heap.size w ((((w.alloc (.cells #[.int .i64 a2] 3)).alloc (.cells #[.int .i64 0] 3)).alloc (.cells #[.bool false] 4)).alloc (.cells #[.int .i64 0] 25)) := ((((Below.refl _ w).alloc (Nat.le_refl _) _).alloc (by simp) _).alloc (by simp; omega) _).alloc (by simp; omega) _
          have HC1 := Lib.hid (Kd.C_below HR1.out hBA)
          have HBA := Lib.hid hBA; clear hBA
          obtain ⟨b5, b6, b7, b8⟩ := four_boxes w (.int .i64 a2) (.int .i64 0) (.bool false) (.int .i64 0) 3 3 4 25
          have B5 := Lib.hid b5; clear b5
          have B6 := Lib.hid b6; clear b6
          have B7 := Lib.hid b7; clear b7
          have B8 := Lib.hid b8; clear b8
          gi_wp2
          refine (wpIn_wide (n := 5)).2 ?_
          apply wp_scope_straight
          refine (wpIn_wide (n := 5)).1 ?_
          gi_wp2_with (refine ⟨trivial, ?_⟩; gi_at_call 53; refine (callsIn_wide.2 (place_check.calls a0 A1 c1 l1 z 0 _ HC1.out hc1 HCH.out)).mono ?_; rintro e w1 ⟨rfl, hb1⟩; have b5 : Boxed w1 w.heap.size 3 (.int .i64 a2) := (hb1.block _ B5.out.lt).trans B5.out; have b6 : Boxed w1 (w.heap.size + 1) 3 (.int .i64 0) := (hb1.block _ B6.out.lt).trans B6.out; have b7 : Boxed w1 (w.heap.size + 1 + 1) 4 (.bool false) := (hb1.block _ B7.out.lt).trans B7.out; have b8 : Boxed w1 (w.heap.size + 1 + 1 + 1) 25 (.int .i64 0) := (hb1.block _ B8.out.lt).trans B8.out; have c5 := b5.cell; have c6 := b6.cell; have c7 := b7.cell; have c8 := b8.cell; have f6 := b6.frozen; have f7 := b7.frozen; have f8 := b8.frozen; have HB1 := Lib.hid (HBA.out.trans (hb1.mono HBA.out.size)); clear hb1)
          change LeavesInM Fence.wide 5 Try.prog Try.f32 _ _ [] _ _
          refine leave_three0 rfl rfl rfl rfl b6 b7 b8 HB1.out rfl fun W' hW' => ⟨?_, hW'⟩
          have := Option.some.inj H1.out
          cases this
          rfl
        · have n0 : decide (a2 < 0) = false := decide_eq_false n0'
          have n1 : decide (z < a2) = true := decide_eq_true (by omega)
          refine (callsIn_wide (n := 5)).1 ?_
          refine callsIn_of_wp_marks Try.func32 rfl trivial ?_ rfl
          simp only [Try.ntmps32, List.size_toArray, List.length_cons, List.length_nil, Nat.reduceAdd, Nat.reduceSub, Array.replicate_succ, Array.replicate_zero, List.push_toArray, List.append_toArray, List.nil_append, List.cons_append]
          have hBA : Below w.heap.size w ((((w.alloc (.cells #[.int .i64 a2] 3)).alloc (.cells #[.int .i64 0] 3)).alloc (.cells #[.bool false] 4)).alloc (.cells #[.int .i64 0] 25)) := ((((Below.refl _ w).alloc (Nat.le_refl _) _).alloc (by simp) _).alloc (by simp; omega) _).alloc (by simp; omega) _
          have HC1 := Lib.hid (Kd.C_below HR1.out hBA)
          have HBA := Lib.hid hBA; clear hBA
          obtain ⟨b5, b6, b7, b8⟩ := four_boxes w (.int .i64 a2) (.int .i64 0) (.bool false) (.int .i64 0) 3 3 4 25
          have B5 := Lib.hid b5; clear b5
          have B6 := Lib.hid b6; clear b6
          have B7 := Lib.hid b7; clear b7
          have B8 := Lib.hid b8; clear b8
          gi_wp2
          refine (wpIn_wide (n := 5)).2 ?_
          apply wp_scope_straight
          refine (wpIn_wide (n := 5)).1 ?_
          gi_wp2_with (refine ⟨trivial, ?_⟩; gi_at_call 53; refine (callsIn_wide.2 (place_check.calls a0 A1 c1 l1 z 0 _ HC1.out hc1 HCH.out)).mono ?_; rintro e w1 ⟨rfl, hb1⟩; have b5 : Boxed w1 w.heap.size 3 (.int .i64 a2) := (hb1.block _ B5.out.lt).trans B5.out; have b6 : Boxed w1 (w.heap.size + 1) 3 (.int .i64 0) := (hb1.block _ B6.out.lt).trans B6.out; have b7 : Boxed w1 (w.heap.size + 1 + 1) 4 (.bool false) := (hb1.block _ B7.out.lt).trans B7.out; have b8 : Boxed w1 (w.heap.size + 1 + 1 + 1) 25 (.int .i64 0) := (hb1.block _ B8.out.lt).trans B8.out; have c5 := b5.cell; have c6 := b6.cell; have c7 := b7.cell; have c8 := b8.cell; have f6 := b6.frozen; have f7 := b7.frozen; have f8 := b8.frozen; have HB1 := Lib.hid (HBA.out.trans (hb1.mono HBA.out.size)); clear hb1)
          change LeavesInM Fence.wide 5 Try.prog Try.f32 _ _ [] _ _
          refine leave_three0 rfl rfl rfl rfl b6 b7 b8 HB1.out rfl fun W' hW' => ⟨?_, hW'⟩
          have := Option.some.inj H1.out
          cases this
          rfl
      · rename_i hgood
        have H1 := Lib.hid h; clear h
        have g0 : (0 : Int) ≤ a2 := by omega
        have g1 : a2 ≤ z := by omega
        clear hgood
        have n0 : decide (a2 < 0) = false := decide_eq_false (by omega)
        have n1 : decide (z < a2) = false := decide_eq_false (by omega)
        refine (callsIn_wide (n := 5)).1 ?_
        refine callsIn_of_wp_marks Try.func32 rfl trivial ?_ rfl
        simp only [Try.ntmps32, List.size_toArray, List.length_cons, List.length_nil, Nat.reduceAdd, Nat.reduceSub, Array.replicate_succ, Array.replicate_zero, List.push_toArray, List.append_toArray, List.nil_append, List.cons_append]
        have hBA : Below w.heap.size w ((((w.alloc (.cells #[.int .i64 a2] 3)).alloc (.cells #[.int .i64 0] 3)).alloc (.cells #[.bool false] 4)).alloc (.cells #[.int .i64 0] 25)) := ((((Below.refl _ w).alloc (Nat.le_refl _) _).alloc (by simp) _).alloc (by simp; omega) _).alloc (by simp; omega) _
        have HC1 := Lib.hid (Kd.C_below HR1.out hBA)
        have HBA := Lib.hid hBA; clear hBA
        obtain ⟨b5, b6, b7, b8⟩ := four_boxes w (.int .i64 a2) (.int .i64 0) (.bool false) (.int .i64 0) 3 3 4 25
        have B5 := Lib.hid b5; clear b5
        have B6 := Lib.hid b6; clear b6
        have B7 := Lib.hid b7; clear b7
        have B8 := Lib.hid b8; clear b8
        gi_wp2
        refine (wpIn_wide (n := 5)).2 ?_
        apply wp_scope_straight
        refine (wpIn_wide (n := 5)).1 ?_
        gi_wp2_with (refine ⟨trivial, ?_⟩; gi_at_call 53; refine (callsIn_wide.2 (place_check.calls a0 A1 c1 l1 z 0 _ HC1.out hc1 HCH.out)).mono ?_; rintro e w1 ⟨rfl, hb1⟩; have b5 : Boxed w1 w.heap.size 3 (.int .i64 a2) := (hb1.block _ B5.out.lt).trans B5.out; have b6 : Boxed w1 (w.heap.size + 1) 3 (.int .i64 0) := (hb1.block _ B6.out.lt).trans B6.out; have b7 : Boxed w1 (w.heap.size + 1 + 1) 4 (.bool false) := (hb1.block _ B7.out.lt).trans B7.out; have b8 : Boxed w1 (w.heap.size + 1 + 1 + 1) 25 (.int .i64 0) := (hb1.block _ B8.out.lt).trans B8.out; have c5 := b5.cell; have HB1 := Lib.hid (HBA.out.trans (hb1.mono HBA.out.size)); clear hb1)
        refine wpIn_label ?_
        gi_wp2_with (refine ⟨trivial, ?_⟩; gi_at_call 54; refine (cuts_in _ _ _ _ _).mono ?_; rintro e w' ⟨rfl, rfl⟩)
        obtain ⟨bM, bS, bL⟩ := three_boxes w1 (.int .i64 0) (.string a0) (.slice A1 l1.length c1) 3 9 24
        have hsz1 := HB1.out.size
        have hlt := C33_lt HR1.out
        have HLT := Lib.hid hlt; clear hlt
        have hW : Below w1.heap.size w1 (((w1.alloc (.cells #[.int .i64 0] 3)).alloc (.cells #[.string a0] 9)).alloc (.cells #[.slice A1 l1.length c1] 24)) := (((Below.refl _ w1).alloc (Nat.le_refl _) _).alloc (by simp) _).alloc (by simp; omega) _
        have b5' := (hW.block _ b5.lt).trans b5
        have b6' := (hW.block _ b6.lt).trans b6
        have b7' := (hW.block _ b7.lt).trans b7
        have b8' := (hW.block _ b8.lt).trans b8
        have hBW := HB1.out.trans (hW.mono hsz1)
        have hC2 := Kd.C_below HR1.out hBW
        have hsW : (((w1.alloc (.cells #[.int .i64 0] 3)).alloc (.cells #[.string a0] 9)).alloc (.cells #[.slice A1 l1.length c1] 24)).heap.size = w1.heap.size + 3 := by simp
        clear hW
        refine rangeFunc_H rfl (by omega) (gf := 66) (lb := #[.pointer (some ⟨w1.heap.size + 1, 0, none⟩), .pointer (some ⟨w1.heap.size + 1 + 1, 0, none⟩)]) (by simp [Act.eval]) trivial (enters_of Try.func66 (by kernel_rfl) rfl)
          (cuts_stops (w1.heap.size + 1) (w1.heap.size + 1 + 1) w.heap.size w1.heap.size a0 (linesB a0) l1 A1 c1 hsz rfl HD.out.2.1 hc1 HF.out HD.out.2.2.1 _ (by rw [hsW]; omega) (by rw [hsW]; omega) HLT.out hC2 bS bL)
          KpC.trans (fun W l o o' hl h1 h2 h3 => KpC.put (w := ((w1.alloc (.cells #[.int .i64 0] 3)).alloc (.cells #[.string a0] 9)).alloc (.cells #[.slice A1 l1.length c1] 24)) (by rw [hsW]; omega) W l o o' hl h1 h2 h3) (Below.refl _ _) (fun _ => rfl) (fun k e => by cases e)
          (fun pre W => ∃ more : Int, FromMem w.heap.size w1.heap.size w a2 0 false more W ∧ FromIs a2 pre more)
          (fun c pre W => (c = .exit 0 ∧ ∃ more : Int, FromMem w.heap.size w1.heap.size w a2 0 false more W ∧ FromStops a2 pre more) ∨ (c = .ret ∧ ∃ more v : Int, FromMem w.heap.size w1.heap.size w a2 v false more W ∧ FromSays a2 pre v))
          ?hI ?hIx ?hI0 ?h0
          (fun x a' W => ∃ Bc, w1.heap.size + 3 ≤ Bc ∧ W.heap[Bc]? = some (.cells #[.int .i64 x.from_, .int .i64 x.to_, .int .i64 x.put] 99 (0, 0)) ∧
            a' = { tmps := #[.string a0, .slice A1 l1.length c1, .int .i64 a2, undef, undef, .pointer (some ⟨w.heap.size, 0, none⟩), .pointer (some ⟨w.heap.size + 1, 0, none⟩), .pointer (some ⟨w.heap.size + 1 + 1, 0, none⟩), .pointer (some ⟨w.heap.size + 1 + 1 + 1, 0, none⟩), .int .i64 z, .int .i64 0, .pointer (some ⟨w1.heap.size, 0, none⟩), .pointer (some ⟨Bc, 0, none⟩), .tuple #[.int .i64 z, .int .i64 0], .string a0, .slice A1 l1.length c1, .tuple #[.int .i64 z, .int .i64 0], .int .i64 z, .int .i64 0, .int .i64 0, .bool false, undef, .int .i64 a2, .bool false, .bool false, .int .i64 a2, .int .i64 z, .bool false, .bool false, .string a0, .slice A1 l1.length c1, .func (.func 66) #[] #[.pointer (some ⟨w1.heap.size + 1, 0, none⟩), .pointer (some ⟨w1.heap.size + 1 + 1, 0, none⟩)], .agg #[.int .i64 x.from_, .int .i64 x.to_, .int .i64 x.put], undef, undef, undef, undef, undef, undef, undef, undef, undef, undef, undef, undef, undef, undef, undef, undef, undef, undef, undef, undef, undef, undef, undef, undef, undef, undef, undef, undef, undef, undef, undef, undef], defers := [] }) ?hAx ?assign ?body ?done ?stop
        case hI => exact fun s A B r ⟨more, hm, hi⟩ hg hr => ⟨more, hm.abide (by rw [hsW]; omega) hg hr, hi⟩
        case hIx =>
          rintro c s A B r (⟨rfl, more, hm, hi⟩ | ⟨rfl, more, v, hm, hi⟩) hg hr
          · exact .inl ⟨rfl, more, hm.abide (by rw [hsW]; omega) hg hr, hi⟩
          · exact .inr ⟨rfl, more, v, hm.abide (by rw [hsW]; omega) hg hr, hi⟩
        case hI0 =>
          rintro A B ⟨more, hm, hi⟩ _ hb
          exact ⟨more, hm.below (hb.mono (by rw [hsW]; exact Nat.le_refl _)), hi⟩
        case h0 => exact ⟨0, ⟨bM, b5', b6', b7', b8', hBW, by rw [hsW]; exact Nat.le_refl _, b8.lt, rfl⟩, fromIs_nil _⟩
        case hAx =>
          rintro x a' _ A B r ⟨Bc, h1, h2, h3⟩ hg hr
          refine ⟨Bc, h1, (hg.block _ (Array.getElem?_eq_some_iff.1 h2).1 ?_).trans h2, h3⟩
          intro e
          rcases hr Bc e.symm with h | ⟨_, o, ho, hc⟩
          · cases h
          · rw [h2] at ho; cases ho; cases hc
        case assign =>
          rintro l pre x W K ⟨more, hm, hi⟩ hK
          simp only [encC]
          gi_wp2
          refine hK _ _ ((KeepsOthers.alloc _ _).from _) ⟨(Below.refl _ _).alloc (by have := hm.2.2.2.2.2.2.1; omega) _, by simp, fun k cs hk _ => (Below.heap_alloc _ _ _ (Array.getElem?_eq_some_iff.1 hk).1).trans hk⟩ ⟨more, hm.alloc _, hi⟩ ⟨W.heap.size, hm.2.2.2.2.2.2.1, World.alloc_heap_new _ _, rfl⟩
        case body =>
          rintro l pre x a' W ⟨more, hm, hi⟩ ⟨Bc, hBc, hbc, rfl⟩ hlt
          have c10 := hm.1.cell
          have c5 := hm.2.1.cell
          have c6 := hm.2.2.1.cell
          have c7 := hm.2.2.2.1.cell
          have c8 := hm.2.2.2.2.1.cell
          have k0 : W.cell? ⟨Bc, 0, none⟩ = some (.int .i64 x.from_) := by rw [cell_block hbc]; rfl
          have k1 : W.cell? ⟨Bc, 1, none⟩ = some (.int .i64 x.to_) := by rw [cell_block hbc]; rfl
          have k2 : W.cell? ⟨Bc, 2, none⟩ = some (.int .i64 x.put) := by rw [cell_block hbc]; rfl
          have f10 := hm.1.frozen
          have f6 := hm.2.2.1.frozen
          have f7 := hm.2.2.2.1.frozen
          have f8 := hm.2.2.2.2.1.frozen
          have hok := x.ok
          have hb1 := hi.2.1
          have hb2 := hi.2.2
          have hl1 := HD.out.2.1
          have HM := Lib.hid hm; clear hm
          have HI := Lib.hid hi; clear hi
          by_cases h1 : a2 < (x.from_ : Int) + more
          · gi_wp2
            exact ⟨(KeepsOthers.refl _).from _, .inl ⟨rfl, more, HM.out, fromStops_snoc HI.out h1⟩⟩
          · have h1' : (x.from_ : Int) + more ≤ a2 := by omega
            by_cases h2 : a2 < (x.from_ : Int) + more + (x.put : Int)
            · gi_wp2
              exact ⟨(((KeepsOthers.setCell _ _ _).trans (KeepsOthers.setCell _ _ _)).trans (KeepsOthers.setCell _ _ _)).from _, .inr ⟨rfl, more, _, ((HM.out.setR _).setB _).setE, fromSays_snoc HI.out (by omega) (by omega)⟩⟩
            · have h2' : (x.from_ : Int) + more + (x.put : Int) ≤ a2 := by omega
              gi_wp2
              refine ⟨(KeepsOthers.setCell _ _ _).from _, ?_, more + ((x.put : Int) - ((x.to_ : Int) - (x.from_ : Int))), HM.out.setMore _, fromIs_snoc HI.out (by omega) (by omega)⟩
              exact KpC_set (by have := HM.out.2.2.2.2.2.2.2.1; omega) _
        case done =>
          rintro D pre W hD rfl ⟨more, hm, hi⟩ hK
          have c10 := hm.1.cell
          have c5 := hm.2.1.cell
          have c6 := hm.2.2.1.cell
          have c7 := hm.2.2.2.1.cell
          have c8 := hm.2.2.2.2.1.cell
          have f6 := hm.2.2.1.frozen
          have f7 := hm.2.2.2.1.frozen
          have f8 := hm.2.2.2.2.1.frozen
          have hlen : (cutsB (linesB a0) l1).length = l1.length := by unfold cutsB; rw [List.length_map]
          have hb1 := hi.2.1
          have hb2 := hi.2.2
          have hl1 := HD.out.2.1
          rw [hlen] at hb1 hb2
          have hv : fromB (linesB a0) l1 a2 = (a2 - more, true) := by have := hi.1 []; rw [List.append_nil] at this; exact this
          have HM := Lib.hid hm; clear hm
          have HI := Lib.hid hi; clear hi
          gi_wp2
          change LeavesInM Fence.wide 5 Try.prog Try.f32 _ _ _ _ _
          have HM2 := ((HM.out.setR (a2 - more)).setB true).setE
          refine leave_three rfl ((((KeepsOthers.setCell _ _ _).trans (KeepsOthers.setCell _ _ _)).trans (KeepsOthers.setCell _ _ _)).same _ _ hK rfl) rfl rfl rfl HM2.2.2.1 HM2.2.2.2.1 HM2.2.2.2.2.1 ⟨?_, HM2.2.2.2.2.2.1.trans (belowK_b (w := w) (Nat.le_refl _) _ D _ _ (by rw [hsW] at hD; omega) ((((KeepsOthers.setCell _ _ _).trans (KeepsOthers.setCell _ _ _)).trans (KeepsOthers.setCell _ _ _)).same _ _ hK rfl) rfl rfl)⟩
          have := Option.some.inj H1.out
          cases this
          rw [hv]
        case stop =>
          rintro D c pre W hD ⟨rest, hrest⟩ hx hK
          have hlen : (cutsB (linesB a0) l1).length = l1.length := by unfold cutsB; rw [List.length_map]
          have hpl : pre.length ≤ l1.length := by rw [← hlen, ← hrest, List.length_append]; omega
          have hl1 := HD.out.2.1
          rcases hx with ⟨rfl, more, hm, hi⟩ | ⟨rfl, more, v, hm, hi⟩
          · have c10 := hm.1.cell
            have c5 := hm.2.1.cell
            have c6 := hm.2.2.1.cell
            have c7 := hm.2.2.2.1.cell
            have c8 := hm.2.2.2.2.1.cell
            have f6 := hm.2.2.1.frozen
            have f7 := hm.2.2.2.1.frozen
            have f8 := hm.2.2.2.2.1.frozen
            have hb1 := hi.2.1
            have hb2 := hi.2.2
            have hv : fromB (linesB a0) l1 a2 = (a2 - more, true) := by have := hi.1 rest; rw [hrest] at this; exact this
            have HM := Lib.hid hm; clear hm
            have HI := Lib.hid hi; clear hi
            gi_wp2
            change LeavesInM Fence.wide 5 Try.prog Try.f32 _ _ _ _ _
            have HM2 := ((HM.out.setR (a2 - more)).setB true).setE
            refine leave_three rfl ((((KeepsOthers.setCell _ _ _).trans (KeepsOthers.setCell _ _ _)).trans (KeepsOthers.setCell _ _ _)).same _ _ hK rfl) rfl rfl rfl HM2.2.2.1 HM2.2.2.2.1 HM2.2.2.2.2.1 ⟨?_, HM2.2.2.2.2.2.1.trans (belowK_b (w := w) (Nat.le_refl _) _ D _ _ (by rw [hsW] at hD; omega) ((((KeepsOthers.setCell _ _ _).trans (KeepsOthers.setCell _ _ _)).trans (KeepsOthers.setCell _ _ _)).same _ _ hK rfl) rfl rfl)⟩
            have := Option.some.inj H1.out
            cases this
            rw [hv]
          · have hv : fromB (linesB a0) l1 a2 = (v, false) := by have := hi rest; rw [hrest] at this; exact this
            gi_wp2
            change LeavesInM Fence.wide 5 Try.prog Try.f32 _ _ _ _ _
            refine leave_three rfl hK rfl rfl rfl hm.2.2.1 hm.2.2.2.1 hm.2.2.2.2.1 ⟨?_, hm.2.2.2.2.2.1.trans (belowK_b (w := w) (Nat.le_refl _) _ D _ _ (by rw [hsW] at hD; omega) hK rfl rfl)⟩
            have := Option.some.inj H1.out
            cases this
            rw [hv]
    · rename_i hf
      have hf' : fitB (linesB a0) l1 = false := by simpa using hf
      have HCH := Lib.hid (check_not HD.out hf')
      have H1 := Lib.hid h; clear h
      clear hf hf'
      refine (callsIn_wide (n := 5)).1 ?_
      refine callsIn_of_wp_marks Try.func32 rfl trivial ?_ rfl
      simp only [Try.ntmps32, List.size_toArray, List.length_cons, List.length_nil, Nat.reduceAdd, Nat.reduceSub, Array.replicate_succ, Array.replicate_zero, List.push_toArray, List.append_toArray, List.nil_append, List.cons_append]
      have hBA : Below w.heap.size w ((((w.alloc (.cells #[.int .i64 a2] 3)).alloc (.cells #[.int .i64 0] 3)).alloc (.cells #[.bool false] 4)).alloc (.cells #[.int .i64 0] 25)) := ((((Below.refl _ w).alloc (Nat.le_refl _) _).alloc (by simp) _).alloc (by simp; omega) _).alloc (by simp; omega) _
      have HC1 := Lib.hid (Kd.C_below HR1.out hBA)
      have HBA := Lib.hid hBA; clear hBA
      obtain ⟨b5, b6, b7, b8⟩ := four_boxes w (.int .i64 a2) (.int .i64 0) (.bool false) (.int .i64 0) 3 3 4 25
      have B5 := Lib.hid b5; clear b5
      have B6 := Lib.hid b6; clear b6
      have B7 := Lib.hid b7; clear b7
      have B8 := Lib.hid b8; clear b8
      gi_wp2
      refine (wpIn_wide (n := 5)).2 ?_
      apply wp_scope_straight
      refine (wpIn_wide (n := 5)).1 ?_
      gi_wp2_with (refine ⟨trivial, ?_⟩; gi_at_call 53; refine (callsIn_wide.2 (place_check.calls a0 A1 c1 l1 0 180 _ HC1.out hc1 HCH.out)).mono ?_; rintro e w1 ⟨rfl, hb1⟩; have b5 : Boxed w1 w.heap.size 3 (.int .i64 a2) := (hb1.block _ B5.out.lt).trans B5.out; have b6 : Boxed w1 (w.heap.size + 1) 3 (.int .i64 0) := (hb1.block _ B6.out.lt).trans B6.out; have b7 : Boxed w1 (w.heap.size + 1 + 1) 4 (.bool false) := (hb1.block _ B7.out.lt).trans B7.out; have b8 : Boxed w1 (w.heap.size + 1 + 1 + 1) 25 (.int .i64 0) := (hb1.block _ B8.out.lt).trans B8.out; have c6 := b6.cell; have c7 := b7.cell; have c8 := b8.cell; have f6 := b6.frozen; have f7 := b7.frozen; have f8 := b8.frozen; have HB1 := Lib.hid (HBA.out.trans (hb1.mono HBA.out.size)); clear hb1)
      change LeavesInM Fence.wide 5 Try.prog Try.f32 _ _ [] _ _
      refine leave_three0 rfl rfl rfl rfl b6 b7 b8 HB1.out rfl fun W' hW' => ⟨?_, hW'⟩
      have := Option.some.inj H1.out
      cases this
      rfl
  · cases h
end Go.Proofs.Ytmecmmpgkcileaa.Z
