/- A law's argument that is a row of edits, opened within the bound of the second form: what is read of it, as a list, the row and each text within the bound. -/
import Derived.Test.YtmecmmpgkcileaaOp
import Derived.Test.YtmecmmpgkcileaaRows
namespace Go.Proofs.Ytmecmmpgkcileaa.Z
open Go.RowKit Go.Proofs.YtmecmmpgkcileaaW.PrintWords Go.ChangeShapes Go.WideShapes Go.Deep

theorem bulk_one {H : Type} (d : DataW H) : 1 ≤ Rows.uptoBulk d := by
  cases d with
  | lit l => cases l <;> simp [Rows.uptoBulk]
  | nil => simp [Rows.uptoBulk]
  | ptr d => simp [Rows.uptoBulk]
  | slice elems spare => simp [Rows.uptoBulk]
  | agg parts => simp [Rows.uptoBulk]
  | iface t d => simp [Rows.uptoBulk]
  | map entries => simp [Rows.uptoBulk]
  | held h => simp [Rows.uptoBulk]
theorem bulk_mem {H : Type} {d : DataW H} {l : List (DataW H)} (h : d ∈ l) : Rows.uptoBulk d ≤ Rows.uptoBulkAll l := by
  induction l with
  | nil => cases h
  | cons x r ih =>
    simp only [Rows.uptoBulkAll]
    rcases List.mem_cons.1 h with e | e
    · subst e; omega
    · have := ih e; omega
theorem bulk_length {H : Type} (l : List (DataW H)) : l.length ≤ Rows.uptoBulkAll l := by
  induction l with
  | nil => simp [Rows.uptoBulkAll]
  | cons x r ih => have := bulk_one x; simp only [Rows.uptoBulkAll, List.length_cons]; omega

set_option maxRecDepth 100000 in
/-- A row of edits, read, within the bound. -/
theorem bulk_edits {H : Type} {enc : TypeId × Value → H} {w : World} {base : Nat} {spare : Nat → Bool} {held : Bool} {A : Option Addr} {len cap : Nat} {d : DataW H} {p : List MemPlace} {B : Nat} (hk : Rows.uptoBulk d ≤ B)
    (h : DataW.Trod enc Try.prog w base spare held 24 (.slice A len cap) d p) :
    ∃ l : List S33, l.length = len ∧ len ≤ cap ∧ Kd.C k33 w A len l ∧ len ≤ B ∧ ∀ e ∈ l, e.f2.size ≤ B := by
  obtain ⟨fuel, hf⟩ := h
  have hc : Try.prog.cellsOf 33 = 3 := by kernel_rfl
  rcases open_slice Try.underlying24 hf with ⟨hcs, _⟩ | ⟨a, len', cap', m, n, D, Pl, hcs, _, hl, hm, hmm, hx, hi⟩
  · simp [Value.cells] at hcs
    obtain ⟨rfl, rfl, rfl⟩ := hcs
    exact ⟨[], rfl, Nat.le_refl _, ⟨rfl, by omega, fun h => absurd h (by omega)⟩, by omega, fun e he => by cases he⟩
  · simp [Value.cells] at hcs
    obtain ⟨rfl, rfl, rfl⟩ := hcs
    obtain rfl := (Prod.mk.inj hx).1
    have hlm : len ≤ m := by rw [hmm]; split <;> omega
    simp only [Rows.uptoBulk] at hk
    have hlen := bulk_length ((List.range len).map D)
    rw [List.length_map, List.length_range] at hlen
    have hall : ∀ i, i < len → ∃ e : S33, (∀ j u, ([.int .i64 e.f0, .int .i64 e.f1, .string e.f2] : List Value)[j]? = some u → w.cell? (a.add (i * 3 + j)) = some u) ∧ e.f2.size ≤ B := by
      intro i him
      obtain ⟨cs', hcell, ht'⟩ := hi i (by omega)
      obtain ⟨e, rfl, w0, w1, w2, hD⟩ := open_edit ht'
      refine ⟨e, fun j u hj => ?_, ?_⟩
      · rw [hc] at hcell
        obtain ⟨_, hcl, hat⟩ := World.cells?_some hcell
        have hj3 : j < 3 := by have := (List.getElem?_eq_some_iff.1 hj).1; simpa using this
        rw [← hj, ← hat j hj3, Go.Deep.add_add]
      · have hDm : D i ∈ (List.range len).map D := List.mem_map.2 ⟨i, List.mem_range.2 him, rfl⟩
        have hDD : D i = .agg [.lit (.int .i64 e.f0), .lit (.int .i64 e.f1), .lit (.string e.f2.data.toList)] := hD
        have h1 := bulk_mem hDm
        rw [hDD] at h1
        have hz : e.f2.data.toList.length = e.f2.size := rfl
        simp only [Rows.uptoBulk, Rows.uptoBulkAll] at h1
        omega
    obtain ⟨f, hfc⟩ : ∃ f : Nat → S33, ∀ i, i < len → (∀ j u, ([.int .i64 (f i).f0, .int .i64 (f i).f1, .string (f i).f2] : List Value)[j]? = some u → w.cell? (a.add (i * 3 + j)) = some u) ∧ (f i).f2.size ≤ B :=
      ⟨fun i => if h : i < len then Classical.choose (hall i h) else z33, fun i h => by simp only [dif_pos h]; exact Classical.choose_spec (hall i h)⟩
    refine ⟨(List.range len).map f, by simp, hl, ⟨by simp, by unfold maxLen at hm; omega, fun _ => ⟨a, rfl, fun j e hj => ?_⟩⟩, by omega, fun e he => ?_⟩
    · obtain ⟨hjl, rfl⟩ := List.getElem?_eq_some_iff.1 hj
      rw [List.length_map, List.length_range] at hjl
      rw [List.getElem_map, List.getElem_range]
      exact ⟨_, rfl, k33_mk w _, (hfc j hjl).1⟩
    · obtain ⟨j, hj, rfl⟩ := List.mem_map.1 he
      exact (hfc j (List.mem_range.1 hj)).2
end Go.Proofs.Ytmecmmpgkcileaa.Z
