/- A law's argument that is a row of edits, opened with its sizes: what is read of it, as a list, each text within the reach. -/
import Derived.Test.YtmecmmpgkcileaaOp
import Derived.SizedLaws
namespace Go.Proofs.Ytmecmmpgkcileaa.Z
open Go.RowKit Go.Proofs.YtmecmmpgkcileaaW.PrintWords Go.ChangeShapes Go.WideShapes Go.Deep

theorem weightsAll_mem {H : Type} {P : Program} {t : TypeId} {l : List (DataW H)} {d : DataW H} (h : d ∈ l) : ∀ n ∈ d.weights P t, n ∈ DataW.weightsAll P t l := by
  induction l with
  | nil => cases h
  | cons a r ih =>
    intro n hn
    simp only [DataW.weightsAll, List.mem_append]
    rcases List.mem_cons.1 h with rfl | h
    · exact .inl hn
    · exact .inr (ih h n hn)

set_option maxRecDepth 100000 in
/-- A row of edits, read, with its sizes. -/
theorem sized_edits {H : Type} {enc : TypeId × Value → H} {w : World} {base : Nat} {spare : Nat → Bool} {held : Bool} {A : Option Addr} {len cap : Nat} {d : DataW H} {p : List MemPlace} {ts : List TypeId} {ds : List (DataW H)} {j : Nat}
    (hsz : (DataW.weightsEach Try.prog ts ds).all (· ≤ reachBytes) = true) (ht : ts[j]? = some 24) (hd : ds[j]? = some d)
    (h : DataW.Trod enc Try.prog w base spare held 24 (.slice A len cap) d p) :
    ∃ l : List S33, l.length = len ∧ len ≤ cap ∧ Kd.C k33 w A len l ∧ len ≤ 4398046511104 ∧ ∀ e ∈ l, e.f2.size ≤ 140737488351232 := by
  obtain ⟨fuel, hf⟩ := h
  have hc : Try.prog.cellsOf 33 = 3 := by kernel_rfl
  have hby : Try.prog.bytesOf 33 = 32 := by kernel_rfl
  have hrb : reachBytes = 140737488351232 := by decide
  rcases open_slice Try.underlying24 hf with ⟨hcs, _⟩ | ⟨a, len', cap', m, n, D, Pl, hcs, _, hl, hm, hmm, hx, hi⟩
  · simp [Value.cells] at hcs
    obtain ⟨rfl, rfl, rfl⟩ := hcs
    exact ⟨[], rfl, Nat.le_refl _, ⟨rfl, by omega, fun h => absurd h (by omega)⟩, by omega, fun e he => by cases he⟩
  · simp [Value.cells] at hcs
    obtain ⟨rfl, rfl, rfl⟩ := hcs
    obtain rfl := (Prod.mk.inj hx).1
    have hlm : len ≤ m := by rw [hmm]; split <;> omega
    have hbulk := sized_slice hsz ht hd Try.underlying24
    rw [hby, hrb, List.length_map, List.length_range] at hbulk
    have hall : ∀ i, i < len → ∃ e : S33, (∀ j u, ([.int .i64 e.f0, .int .i64 e.f1, .string e.f2] : List Value)[j]? = some u → w.cell? (a.add (i * 3 + j)) = some u) ∧ e.f2.size ≤ 140737488351232 := by
      intro i him
      obtain ⟨cs', hcell, ht'⟩ := hi i (by omega)
      obtain ⟨e, rfl, w0, w1, w2, hD⟩ := open_edit ht'
      refine ⟨e, fun j u hj => ?_, ?_⟩
      · rw [hc] at hcell
        obtain ⟨_, hcl, hat⟩ := World.cells?_some hcell
        have hj3 : j < 3 := by have := (List.getElem?_eq_some_iff.1 hj).1; simpa using this
        rw [← hj, ← hat j hj3, Go.Deep.add_add]
      · have hDm : D i ∈ (List.range len).map D := List.mem_map.2 ⟨i, List.mem_range.2 him, rfl⟩
        have hDD : D i = .agg [.lit (.int .i64 e.f0), .lit (.int .i64 e.f1), .lit (.string e.f2.data.toList)] := hD
        have hw : e.f2.data.toList.length ∈ (D i).weights Try.prog 33 := by
          rw [hDD]
          simp [DataW.weights, Try.underlying33, DataW.weightsEach]
        have h1 := weightsAll_mem (t := 33) hDm _ hw
        have h2 : e.f2.data.toList.length ∈ (DataW.slice ((List.range len).map D) ((List.range (m - len)).map fun j => D (len + j)) : DataW H).weights Try.prog 24 := by
          simp only [DataW.weights, Try.underlying24, List.mem_cons, List.mem_append]
          exact .inr (.inl h1)
        have h3 := List.all_eq_true.1 hsz _ (DataW.weights_mem_each ht hd _ h2)
        rw [hrb] at h3
        simpa using h3
    obtain ⟨f, hfc⟩ : ∃ f : Nat → S33, ∀ i, i < len → (∀ j u, ([.int .i64 (f i).f0, .int .i64 (f i).f1, .string (f i).f2] : List Value)[j]? = some u → w.cell? (a.add (i * 3 + j)) = some u) ∧ (f i).f2.size ≤ 140737488351232 :=
      ⟨fun i => if h : i < len then Classical.choose (hall i h) else z33, fun i h => by simp only [dif_pos h]; exact Classical.choose_spec (hall i h)⟩
    refine ⟨(List.range len).map f, by simp, hl, ⟨by simp, by unfold maxLen at hm; omega, fun _ => ⟨a, rfl, fun j e hj => ?_⟩⟩, by omega, fun e he => ?_⟩
    · obtain ⟨hjl, rfl⟩ := List.getElem?_eq_some_iff.1 hj
      rw [List.length_map, List.length_range] at hjl
      rw [List.getElem_map, List.getElem_range]
      exact ⟨_, rfl, k33_mk w _, (hfc j hjl).1⟩
    · obtain ⟨j, hj, rfl⟩ := List.mem_map.1 he
      exact (hfc j (List.mem_range.1 hj)).2
end Go.Proofs.Ytmecmmpgkcileaa.Z
