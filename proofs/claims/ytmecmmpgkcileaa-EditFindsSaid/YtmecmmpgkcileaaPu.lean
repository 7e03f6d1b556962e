/- Plain laws of edits taken back: they fit what the edits made, make the first text of it, and taken back are the edits. -/
import Derived.Test.YtmecmmpgkcileaaPt
import Derived.Test.YtmecmmpgkcileaaPb
namespace Go.Proofs.Ytmecmmpgkcileaa.Z
open Go.RowKit Go.Proofs.YtmecmmpgkcileaaW.PrintWords

theorem raw_ne (s : ByteArray) : ∀ u ∈ rawL (linesB s), u ≠ [] := by
  rw [rawL_linesB]
  have key : ∀ (L : List UInt8), ∀ u ∈ splitL L, u ≠ [] := by
    intro L
    induction L with
    | nil => intro u hu; cases hu
    | cons c r ih =>
      intro u hu
      unfold splitL at hu
      split at hu
      · rcases List.mem_cons.1 hu with rfl | h
        · simp
        · exact ih u h
      · split at hu
        · rcases List.mem_cons.1 hu with rfl | h
          · simp
          · cases h
        · rename_i h t he
          rcases List.mem_cons.1 hu with rfl | h'
          · simp
          · exact ih u (by rw [he]; simp [h'])
  exact key _
theorem mid_lines (s : ByteArray) (f t : Nat) (ht : t ≤ (linesB s).length) : linesB (mkB (catL (((linesB s).take t).drop f))) = ((linesB s).take t).drop f := by
  refine linesB_of ?_
  by_cases h : t < (linesB s).length
  · exact lined_all (full_mid s (.inl h))
  · have e : (linesB s).take t = linesB s := List.take_of_length_le (by omega)
    rw [e]
    unfold rawL
    rw [List.map_drop]
    exact lined_drop (lined_of s) f
theorem linesFrom_length {x : List ByteArray} {l : List S33} : ∀ {last : Int} {a : Nat}, fitFrom x last l = true → -1 ≤ last → (a : Int) ≤ last + 1 → a ≤ x.length → ((linesFrom x a l).length : Int) = (x.length : Int) - a + sizeIn l - sizeOut l := by
  induction l with
  | nil => intro _ a _ _ _ ha; show ((x.drop a).length : Int) = _; rw [List.length_drop]; simp only [sizeIn, sizeOut]; omega
  | cons e r ih =>
    intro last a h h0 hal ha
    obtain ⟨h1, h2, h3, _, _, _, h7⟩ := fit_cons h
    have := ih (a := e.f1.toNat) h7 (by omega) (by omega) (by omega)
    show (((x.take e.f0.toNat).drop a ++ linesB e.f2 ++ linesFrom x e.f1.toNat r).length : Int) = _
    simp only [List.length_append, List.length_drop, List.length_take, sizeIn, sizeOut]
    omega

/-- What is asked of the two texts' lines, from a line of each on. -/
structure At2 (x Z : List ByteArray) (l : List S33) (a : Nat) (more : Int) (pre : List ByteArray) : Prop where
  eq : Z = pre ++ linesFrom x a l
  len : (pre.length : Int) = (a : Int) + more
theorem At2.step {x Z : List ByteArray} {e : S33} {r : List S33} {a : Nat} {more : Int} {pre : List ByteArray} (h : At2 x Z (e :: r) a more pre) (h0 : (a : Int) ≤ e.f0) (h1 : e.f0 ≤ e.f1) (h2 : e.f1 ≤ (x.length : Int)) :
    At2 x Z r e.f1.toNat (more + ((linesB e.f2).length : Int) - e.f1 + e.f0) (pre ++ (x.take e.f0.toNat).drop a ++ linesB e.f2) := by
  refine ⟨?_, ?_⟩
  · rw [h.eq]
    show pre ++ ((x.take e.f0.toNat).drop a ++ linesB e.f2 ++ linesFrom x e.f1.toNat r) = _
    simp [List.append_assoc]
  · have := h.len
    simp only [List.length_append, List.length_drop, List.length_take]
    omega
theorem At2.mid {x Z : List ByteArray} {e : S33} {r : List S33} {a : Nat} {more : Int} {pre : List ByteArray} (h : At2 x Z (e :: r) a more pre) (h0 : (a : Int) ≤ e.f0) (h1 : e.f0 ≤ e.f1) (h2 : e.f1 ≤ (x.length : Int)) :
    Z.take (e.f0 + more).toNat = pre ++ (x.take e.f0.toNat).drop a ∧ (Z.take (e.f0 + more).toNat).drop ((a : Int) + more).toNat = (x.take e.f0.toNat).drop a ∧
      (Z.take (e.f0 + more + ((linesB e.f2).length : Int)).toNat).drop (e.f0 + more).toNat = linesB e.f2 ∧ (e.f0 + more + ((linesB e.f2).length : Int)).toNat ≤ Z.length := by
  have hl := h.len
  have hz : Z = pre ++ (x.take e.f0.toNat).drop a ++ (linesB e.f2 ++ linesFrom x e.f1.toNat r) := by
    rw [h.eq]
    show pre ++ ((x.take e.f0.toNat).drop a ++ linesB e.f2 ++ linesFrom x e.f1.toNat r) = _
    simp [List.append_assoc]
  have hp : (pre ++ (x.take e.f0.toNat).drop a).length = (e.f0 + more).toNat := by
    simp only [List.length_append, List.length_drop, List.length_take]; omega
  have h3 : Z.take (e.f0 + more).toNat = pre ++ (x.take e.f0.toNat).drop a := by rw [hz, ← hp, List.take_left']; rfl
  refine ⟨h3, ?_, ?_, ?_⟩
  · rw [h3, show ((a : Int) + more).toNat = pre.length by omega, List.drop_left']; rfl
  · have e1 : (e.f0 + more + ((linesB e.f2).length : Int)).toNat = (pre ++ (x.take e.f0.toNat).drop a ++ linesB e.f2).length := by rw [List.length_append, hp]; omega
    rw [e1, hz, ← List.append_assoc, List.take_left' rfl, ← hp, List.drop_left' rfl]
  · rw [hz, List.length_append, hp, List.length_append]; omega

theorem back_apply (s : ByteArray) (Z : List ByteArray) (l : List S33) : ∀ {last more : Int} {a : Nat} {pre : List ByteArray}, fitFrom (linesB s) last l = true → -1 ≤ last → (a : Int) ≤ last + 1 → At2 (linesB s) Z l a more pre →
    applyFrom Z ((a : Int) + more).toNat (backFrom (linesB s) more l) = catL ((linesB s).drop a) := by
  induction l with
  | nil =>
    intro last more a pre _ _ _ h
    show catL (Z.drop _) = _
    rw [h.eq, show ((a : Int) + more).toNat = pre.length by have := h.len; omega, List.drop_left' rfl]
    rfl
  | cons e r ih =>
    intro last more a pre hf h0 ha h
    obtain ⟨h1, h2, h3, _, _, _, h7⟩ := fit_cons hf
    obtain ⟨m1, m2, m3, m4⟩ := h.mid (by omega) h2 h3
    have hr := ih h7 (by omega) (by omega) (h.step (by omega) h2 h3)
    have e1 : ((e.f1.toNat : Nat) : Int) + (more + ((linesB e.f2).length : Int) - e.f1 + e.f0) = e.f0 + more + ((linesB e.f2).length : Int) := by omega
    rw [e1] at hr
    show catL ((Z.take (e.f0 + more).toNat).drop ((a : Int) + more).toNat) ++ catL (((linesB s).take e.f1.toNat).drop e.f0.toNat) ++ applyFrom Z (e.f0 + more + ((linesB e.f2).length : Int)).toNat _ = _
    rw [hr, m2, catL_mid_drop (linesB s) a e.f0.toNat (by omega), catL_mid_drop (linesB s) e.f0.toNat e.f1.toNat (by omega), List.append_assoc]
theorem back_back (s : ByteArray) (Z : List ByteArray) (l : List S33) : ∀ {last more : Int} {a : Nat} {pre : List ByteArray}, fitFrom (linesB s) last l = true → -1 ≤ last → (a : Int) ≤ last + 1 → At2 (linesB s) Z l a more pre →
    backFrom Z (-more) (backFrom (linesB s) more l) = l := by
  induction l with
  | nil => intro last more a pre _ _ _ _; rfl
  | cons e r ih =>
    intro last more a pre hf h0 ha h
    obtain ⟨h1, h2, h3, _, _, _, h7⟩ := fit_cons hf
    obtain ⟨m1, m2, m3, m4⟩ := h.mid (by omega) h2 h3
    have hr := ih h7 (by omega) (by omega) (h.step (by omega) h2 h3)
    have hml := mid_lines s e.f0.toNat e.f1.toNat (by omega)
    have hmn : ((linesB (mkB (catL (((linesB s).take e.f1.toNat).drop e.f0.toNat)))).length : Int) = e.f1 - e.f0 := by
      rw [hml, List.length_drop, List.length_take]; omega
    simp only [backFrom]
    rw [hmn, m3, catL_linesB, mkB_of]
    have e1 : e.f0 + more + -more = e.f0 := by omega
    have e2 : e.f0 + (e.f1 - e.f0) = e.f1 := by omega
    have e3 : -more + (e.f1 - e.f0) - (e.f0 + more + ((linesB e.f2).length : Int)) + (e.f0 + more) = -(more + ((linesB e.f2).length : Int) - e.f1 + e.f0) := by omega
    rw [e1, e2, e3, hr]
theorem back_sizes (s : ByteArray) (l : List S33) : ∀ {last more : Int}, fitFrom (linesB s) last l = true → -1 ≤ last → sizeOut (backFrom (linesB s) more l) = sizeIn l ∧ sizeIn (backFrom (linesB s) more l) = sizeOut l := by
  induction l with
  | nil => intro _ _ _ _; exact ⟨rfl, rfl⟩
  | cons e r ih =>
    intro last more hf h0
    obtain ⟨h1, h2, h3, _, _, _, h7⟩ := fit_cons hf
    obtain ⟨i1, i2⟩ := ih (more := more + ((linesB e.f2).length : Int) - e.f1 + e.f0) h7 (by omega)
    have hml := mid_lines s e.f0.toNat e.f1.toNat (by omega)
    have hmn : ((linesB (mkB (catL (((linesB s).take e.f1.toNat).drop e.f0.toNat)))).length : Int) = e.f1 - e.f0 := by
      rw [hml, List.length_drop, List.length_take]; omega
    simp only [backFrom, sizeOut, sizeIn]
    rw [hmn, i1, i2]
    omega
end Go.Proofs.Ytmecmmpgkcileaa.Z
