/- A law's argument that is a row of edits, opened: what is read of it, as a list. -/
import Derived.Test.YtmecmmpgkcileaaZ0
import Derived.Deep.Slices
import Derived.Deep.Fields
import Derived.ChangeSame
namespace Go.Proofs.Ytmecmmpgkcileaa.Z
open Go.RowKit Go.Proofs.YtmecmmpgkcileaaW.PrintWords Go.ChangeShapes Go.WideShapes Go.Deep

theorem three_of {α : Type} {l : List α} (h : l.length = 3) : ∃ a b c, l = [a, b, c] := by
  match l, h with
  | [a, b, c], _ => exact ⟨a, b, c, rfl⟩

set_option maxRecDepth 100000 in
/-- One edit, read. -/
theorem open_edit {H : Type} {enc : TypeId × Value → H} {w : World} {base : Nat} {spare : Nat → Bool} {held : Bool} {fuel : Nat} {cs : List Value} {x : DataW H × List MemPlace}
    (h : DataW.trod enc Try.prog w base spare held fuel 33 cs = some x) :
    ∃ e : S33, cs = [.int .i64 e.f0, .int .i64 e.f1, .string e.f2] ∧ (Lit.int .i64 e.f0).wf = true ∧ (Lit.int .i64 e.f1).wf = true ∧ e.f2.size ≤ maxLen ∧
      x.1 = .agg [.lit (.int .i64 e.f0), .lit (.int .i64 e.f1), .lit (.string e.f2.data.toList)] := by
  obtain ⟨xs, n, _, hx, hlen, hxl, hf⟩ := DataW.trod_struct Try.underlying33 h
  have hc : Try.prog.cellsOf 33 = 3 := by kernel_rfl
  rw [hc] at hlen
  have hxl : xs.length = 3 := hxl
  obtain ⟨u0, u1, u2, rfl⟩ := three_of hlen
  obtain ⟨y0, y1, y2, rfl⟩ := three_of hxl
  have h0 := hf 0 _ rfl
  have h1 := hf 1 _ rfl
  have h2 := hf 2 _ rfl
  simp only [List.getElem?_cons_zero, List.getElem?_cons_succ] at h0 h1 h2
  obtain ⟨a, e0, x0, w0⟩ := DataW.trod_int Try.underlying3 h0
  obtain ⟨b, e1, x1, w1⟩ := DataW.trod_int Try.underlying3 h1
  obtain ⟨s, e2, x2, w2⟩ := DataW.trod_string Try.underlying9 h2
  obtain rfl : u0 = _ := (List.cons.inj e0).1
  obtain rfl : u1 = _ := (List.cons.inj e1).1
  obtain rfl : u2 = _ := (List.cons.inj e2).1
  refine ⟨⟨a, b, s⟩, rfl, w0, w1, w2, ?_⟩
  rw [hx, x0, x1, x2]
  rfl

set_option maxRecDepth 100000 in
/-- A row of edits, read. -/
theorem open_edits {H : Type} {enc : TypeId × Value → H} {w : World} {base : Nat} {spare : Nat → Bool} {held : Bool} {A : Option Addr} {len cap : Nat} {d : DataW H} {p : List MemPlace}
    (h : DataW.Trod enc Try.prog w base spare held 24 (.slice A len cap) d p) :
    ∃ l : List S33, l.length = len ∧ len ≤ cap ∧ Kd.C k33 w A len l ∧ ∀ e ∈ l, (Lit.int .i64 e.f0).wf = true ∧ (Lit.int .i64 e.f1).wf = true ∧ e.f2.size ≤ maxLen := by
  obtain ⟨fuel, hf⟩ := h
  have hc : Try.prog.cellsOf 33 = 3 := by kernel_rfl
  rcases open_slice Try.underlying24 hf with ⟨hcs, _⟩ | ⟨a, len', cap', m, n, D, Pl, hcs, _, hl, hm, hmm, _, hi⟩
  · simp [Value.cells] at hcs
    obtain ⟨rfl, rfl, rfl⟩ := hcs
    exact ⟨[], rfl, Nat.le_refl _, ⟨rfl, by omega, fun h => absurd h (by omega)⟩, fun e he => by cases he⟩
  · simp [Value.cells] at hcs
    obtain ⟨rfl, rfl, rfl⟩ := hcs
    have hlm : len ≤ m := by rw [hmm]; split <;> omega
    have hall : ∀ i, i < len → ∃ e : S33, (∀ j u, ([.int .i64 e.f0, .int .i64 e.f1, .string e.f2] : List Value)[j]? = some u → w.cell? (a.add (i * 3 + j)) = some u) ∧ (Lit.int .i64 e.f0).wf = true ∧ (Lit.int .i64 e.f1).wf = true ∧ e.f2.size ≤ maxLen := by
      intro i him
      obtain ⟨cs', hcell, ht⟩ := hi i (by omega)
      obtain ⟨e, rfl, w0, w1, w2, _⟩ := open_edit ht
      refine ⟨e, fun j u hj => ?_, w0, w1, w2⟩
      rw [hc] at hcell
      obtain ⟨_, hcl, hat⟩ := World.cells?_some hcell
      have hj3 : j < 3 := by have := (List.getElem?_eq_some_iff.1 hj).1; simpa using this
      rw [← hj, ← hat j hj3, Go.Deep.add_add]
    obtain ⟨f, hfc⟩ : ∃ f : Nat → S33, ∀ i, i < len → (∀ j u, ([.int .i64 (f i).f0, .int .i64 (f i).f1, .string (f i).f2] : List Value)[j]? = some u → w.cell? (a.add (i * 3 + j)) = some u) ∧ (Lit.int .i64 (f i).f0).wf = true ∧ (Lit.int .i64 (f i).f1).wf = true ∧ (f i).f2.size ≤ maxLen :=
      ⟨fun i => if h : i < len then Classical.choose (hall i h) else z33, fun i h => by simp only [dif_pos h]; exact Classical.choose_spec (hall i h)⟩
    refine ⟨(List.range len).map f, by simp, hl, ⟨by simp, by unfold maxLen at hm; omega, fun _ => ⟨a, rfl, fun j e hj => ?_⟩⟩, fun e he => ?_⟩
    · obtain ⟨hjl, rfl⟩ := List.getElem?_eq_some_iff.1 hj
      rw [List.length_map, List.length_range] at hjl
      rw [List.getElem_map, List.getElem_range]
      exact ⟨_, rfl, k33_mk w _, (hfc j hjl).1⟩
    · obtain ⟨j, hj, rfl⟩ := List.mem_map.1 he
      exact (hfc j (List.mem_range.1 hj)).2
end Go.Proofs.Ytmecmmpgkcileaa.Z
