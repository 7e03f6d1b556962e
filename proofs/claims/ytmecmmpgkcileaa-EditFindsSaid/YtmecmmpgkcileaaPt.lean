/- Plain laws of lines behind edits: the lines of what edits make of a text, and that what takes edits back fits it. -/
import Derived.Test.YtmecmmpgkcileaaPg0
namespace Go.Proofs.Ytmecmmpgkcileaa.Z
open Go.RowKit Go.Proofs.YtmecmmpgkcileaaW.PrintWords

/-- A line with its byte 10. -/
def Full (u : List UInt8) : Prop := ∃ v, u = v ++ [10] ∧ (10 : UInt8) ∉ v
/-- Lines of some text: each is full, but for the last one, which may have no byte 10 and is not empty. -/
def Lined : List (List UInt8) → Prop
  | [] => True
  | [u] => Full u ∨ (u ≠ [] ∧ (10 : UInt8) ∉ u)
  | u :: r => Full u ∧ Lined r
theorem lined_cons {u : List UInt8} {r : List (List UInt8)} (h : Full u) (hr : Lined r) : Lined (u :: r) := by
  cases r with
  | nil => exact .inl h
  | cons a r => exact ⟨h, hr⟩
theorem lined_tail {u : List UInt8} {r : List (List UInt8)} (h : Lined (u :: r)) : Lined r := by
  cases r with
  | nil => trivial
  | cons a r => exact h.2
theorem lined_head {u : List UInt8} {r : List (List UInt8)} (h : Lined (u :: r)) (hr : r ≠ []) : Full u := by
  cases r with
  | nil => exact absurd rfl hr
  | cons a r => exact h.1
theorem split_full {v : List UInt8} (h : (10 : UInt8) ∉ v) (rest : List UInt8) : splitL (v ++ [10] ++ rest) = (v ++ [10]) :: splitL rest := by
  have e : v ++ [10] ++ rest = v ++ 10 :: rest := by simp
  rw [e, split_some (i := v.length) (by simp) (by simpa using h), List.take_append, List.drop_append, List.take_of_length_le (by omega), List.drop_of_length_le (by omega)]
  simp
theorem split_lined {X : List (List UInt8)} (h : Lined X) : splitL X.flatten = X := by
  induction X with
  | nil => rfl
  | cons u r ih =>
    rw [List.flatten_cons]
    by_cases hr : r = []
    · subst hr
      rcases h with ⟨v, rfl, hv⟩ | ⟨h0, hv⟩
      · rw [List.flatten_nil, split_full hv]; rfl
      · rw [List.flatten_nil, List.append_nil, split_none h0 hv]
    · obtain ⟨v, rfl, hv⟩ := lined_head h hr
      rw [split_full hv, ih (lined_tail h)]
theorem lined_split (L : List UInt8) : Lined (splitL L) := by
  induction L with
  | nil => trivial
  | cons c r ih =>
    unfold splitL
    split
    · rename_i hc
      subst hc
      exact lined_cons ⟨[], by simp, by simp⟩ ih
    · rename_i hc
      split
      · exact .inr ⟨by simp, by simp; exact fun h => hc h.symm⟩
      · rename_i h t he
        rw [he] at ih
        have hf : Full h → Full (c :: h) := by
          rintro ⟨v, rfl, hv⟩
          exact ⟨c :: v, rfl, by simp [hv]; exact fun h => hc h.symm⟩
        cases t with
        | nil =>
          rcases ih with h1 | ⟨h1, h2⟩
          · exact .inl (hf h1)
          · exact .inr ⟨by simp, by simp [h2]; exact fun h => hc h.symm⟩
        | cons a t => exact ⟨hf ih.1, ih.2⟩
def AllFull (X : List (List UInt8)) : Prop := ∀ u ∈ X, Full u
theorem lined_append {X Y : List (List UInt8)} (h : AllFull X) (hY : Lined Y) : Lined (X ++ Y) := by
  induction X with
  | nil => exact hY
  | cons u r ih => exact lined_cons (h u (by simp)) (ih fun d hd => h d (by simp [hd]))
theorem lined_all {X : List (List UInt8)} (h : AllFull X) : Lined X := by simpa using lined_append h (Y := []) trivial
theorem lined_take {X : List (List UInt8)} (h : Lined X) : ∀ {k : Nat}, k < X.length → AllFull (X.take k) := by
  induction X with
  | nil => intro k hk; simp at hk
  | cons u r ih =>
    intro k hk d hd
    cases k with
    | zero => simp at hd
    | succ k =>
      rw [List.take_succ_cons] at hd
      rw [List.length_cons] at hk
      rcases List.mem_cons.1 hd with rfl | hd
      · exact lined_head h (by rintro rfl; simp at hk)
      · exact ih (lined_tail h) (by omega) d hd
theorem lined_drop {X : List (List UInt8)} (h : Lined X) (k : Nat) : Lined (X.drop k) := by
  induction X generalizing k with
  | nil => simp [Lined]
  | cons u r ih =>
    cases k with
    | zero => exact h
    | succ k => exact ih (lined_tail h) k
theorem full_not {u : List UInt8} (h : Full u) : u.getLast? = some 10 := by obtain ⟨v, rfl, _⟩ := h; simp
theorem lined_whole {X : List (List UInt8)} (h : Lined X) (hw : wholeL X.flatten = true) : AllFull X := by
  induction X with
  | nil => intro u hu; cases hu
  | cons u r ih =>
    by_cases hr : r = []
    · subst hr
      intro d hd
      obtain rfl := List.mem_singleton.1 hd
      rcases h with h | ⟨h0, hn⟩
      · exact h
      · exfalso
        rw [List.flatten_cons, List.flatten_nil, List.append_nil] at hw
        unfold wholeL at hw
        rw [List.getLast?_eq_some_getLast h0] at hw
        simp only [beq_iff_eq] at hw
        exact hn (hw ▸ List.getLast_mem h0)
    · have hf := lined_head h hr
      intro d hd
      rcases List.mem_cons.1 hd with rfl | hd
      · exact hf
      · refine ih (lined_tail h) ?_ d hd
        have hne : r.flatten ≠ [] := by
          cases r with
          | nil => exact absurd rfl hr
          | cons a q =>
            have hl := lined_tail h
            rw [List.flatten_cons]
            intro e
            have ha := (List.append_eq_nil_iff.1 e).1
            subst ha
            cases q with
            | nil =>
              rcases hl with ⟨v, hv, _⟩ | ⟨h0, _⟩
              · simp at hv
              · exact h0 rfl
            | cons b q => obtain ⟨v, hv, _⟩ := hl.1; simp at hv
        rw [List.flatten_cons] at hw
        unfold wholeL at hw ⊢
        rw [List.getLast?_append, List.getLast?_eq_some_getLast hne] at hw
        rw [List.getLast?_eq_some_getLast hne]
        exact hw
theorem whole_all {X : List (List UInt8)} (h : AllFull X) : wholeL X.flatten = true := by
  rcases List.eq_nil_or_concat X with rfl | ⟨ys, e, rfl⟩
  · rfl
  · have he : Full e := h e (by simp)
    unfold wholeL
    have : (ys.concat e).flatten.getLast? = some 10 := by
      obtain ⟨v, rfl, _⟩ := he
      simp
    rw [this]
    rfl

/-! ### the lines behind edits -/
/-- The lines that edits make, from a line on. -/
def linesFrom (x : List ByteArray) : Nat → List S33 → List ByteArray
  | a, [] => x.drop a
  | a, e :: r => (x.take e.f0.toNat).drop a ++ linesB e.f2 ++ linesFrom x e.f1.toNat r
theorem catL_linesFrom (x : List ByteArray) (l : List S33) : ∀ a, catL (linesFrom x a l) = applyFrom x a l := by
  induction l with
  | nil => intro a; rfl
  | cons e r ih => intro a; show catL ((x.take e.f0.toNat).drop a ++ linesB e.f2 ++ linesFrom x e.f1.toNat r) = _; rw [catL_append, catL_append, ih, catL_linesB]; rfl
/-- Lines, as rows of bytes. -/
def rawL (x : List ByteArray) : List (List UInt8) := x.map (·.data.toList)
theorem rawL_flatten (x : List ByteArray) : (rawL x).flatten = catL x := rfl
theorem rawL_linesB (s : ByteArray) : rawL (linesB s) = splitL s.data.toList := by
  unfold rawL linesB
  rw [List.map_map]
  have : ((fun x : ByteArray => x.data.toList) ∘ mkB) = id := rfl
  rw [this, List.map_id]
theorem rawL_inj {x y : List ByteArray} (h : rawL x = rawL y) : x = y := by
  have hm : ∀ z : List ByteArray, (rawL z).map mkB = z := by
    intro z
    unfold rawL
    rw [List.map_map]
    have : (mkB ∘ fun x : ByteArray => x.data.toList) = id := rfl
    rw [this, List.map_id]
  rw [← hm x, ← hm y, h]
theorem linesB_of {x : List ByteArray} (h : Lined (rawL x)) : linesB (mkB (catL x)) = x := by
  refine rawL_inj ?_
  rw [rawL_linesB, mkB_toList, ← rawL_flatten, split_lined h]
theorem lined_of (s : ByteArray) : Lined (rawL (linesB s)) := by rw [rawL_linesB]; exact lined_split _
theorem full_mid (s : ByteArray) {a b : Nat} (hb : b < (linesB s).length ∨ AllFull (rawL (linesB s))) : AllFull (rawL (((linesB s).take b).drop a)) := by
  intro u hu
  obtain ⟨w, hw, rfl⟩ := List.mem_map.1 hu
  rcases hb with hb | hb
  · have h1 : AllFull ((rawL (linesB s)).take b) := lined_take (lined_of s) (by unfold rawL; rw [List.length_map]; exact hb)
    refine h1 _ ?_
    unfold rawL
    rw [← List.map_take]
    exact List.mem_map.2 ⟨w, List.mem_of_mem_drop hw, rfl⟩
  · exact hb _ (List.mem_map.2 ⟨w, List.mem_of_mem_take (List.mem_of_mem_drop hw), rfl⟩)
theorem last_full {s : ByteArray} (h : 0 < (linesB s).length → wholeB ((linesB s).getD ((linesB s).length - 1) ByteArray.empty) = true) : AllFull (rawL (linesB s)) := by
  rcases List.eq_nil_or_concat (linesB s) with e | ⟨ys, d, e⟩
  · rw [e]; intro u hu; cases hu
  · have hl := lined_of s
    rw [e] at h hl ⊢
    simp only [List.concat_eq_append] at h hl ⊢
    have hw := h (by simp)
    have e1 : (ys ++ [d]).getD ((ys ++ [d]).length - 1) ByteArray.empty = d := by simp
    rw [e1] at hw
    refine lined_whole hl ?_
    rw [rawL_flatten, catL_append]
    have hd : catL [d] = d.data.toList := by simp [catL]
    rw [hd]
    unfold wholeB at hw
    by_cases hne : d.data.toList = []
    · exfalso
      have : ∀ u ∈ rawL (ys ++ [d]), u ≠ [] := by
        rw [show ys ++ [d] = linesB s by rw [e]; simp, rawL_linesB]
        intro u hu
        have key : ∀ (L : List UInt8), ∀ u ∈ splitL L, u ≠ [] := by
          intro L
          induction L with
          | nil => intro u hu; cases hu
          | cons c r ih =>
            intro u hu
            unfold splitL at hu
            split at hu
            · rcases List.mem_cons.1 hu with rfl | h
              · simp
              · exact ih u h
            · split at hu
              · rcases List.mem_cons.1 hu with rfl | h
                · simp
                · cases h
              · rename_i h t he
                rcases List.mem_cons.1 hu with rfl | h'
                · simp
                · exact ih u (by rw [he]; simp [h'])
        exact key _ u hu
      exact this d.data.toList (by unfold rawL; simp) hne
    · unfold wholeL at hw ⊢
      rw [List.getLast?_append, List.getLast?_eq_some_getLast hne]
      rw [List.getLast?_eq_some_getLast hne] at hw
      exact hw
theorem text_full {u : ByteArray} (h : wholeB u = true) : AllFull (rawL (linesB u)) := by
  refine lined_whole (lined_of u) ?_
  rw [rawL_flatten, catL_linesB]
  exact h
theorem rawL_append (x y : List ByteArray) : rawL (x ++ y) = rawL x ++ rawL y := by unfold rawL; rw [List.map_append]
theorem allFull_append {X Y : List (List UInt8)} (h : AllFull X) (k : AllFull Y) : AllFull (X ++ Y) := fun u hu => by
  rcases List.mem_append.1 hu with hu | hu
  · exact h u hu
  · exact k u hu
theorem fit_end {x : List ByteArray} {l : List S33} {last : Int} (h : fitFrom x last l = true) (hl : (x.length : Int) ≤ last) : l = [] := by
  cases l with
  | nil => rfl
  | cons e r => obtain ⟨h1, h2, h3, _⟩ := fit_cons h; omega
theorem lined_linesFrom (s : ByteArray) (l : List S33) : ∀ {last : Int} {a : Nat}, fitFrom (linesB s) last l = true → -1 ≤ last → Lined (rawL (linesFrom (linesB s) a l)) := by
  induction l with
  | nil =>
    intro _ a _ _
    show Lined (rawL ((linesB s).drop a))
    unfold rawL
    rw [List.map_drop]
    exact lined_drop (lined_of s) a
  | cons e r ih =>
    intro last a h h0
    obtain ⟨h1, h2, h3, _, h5, h6, h7⟩ := fit_cons h
    have hmid : AllFull (rawL (((linesB s).take e.f0.toNat).drop a)) := by
      refine full_mid s ?_
      by_cases he : e.f0 = ((linesB s).length : Int)
      · exact .inr (last_full fun hp => h6 he hp)
      · exact .inl (by omega)
    show Lined (rawL (((linesB s).take e.f0.toNat).drop a ++ linesB e.f2 ++ linesFrom (linesB s) e.f1.toNat r))
    rw [rawL_append, rawL_append, List.append_assoc]
    refine lined_append hmid ?_
    by_cases hlt : e.f1 < ((linesB s).length : Int)
    · exact lined_append (text_full (h5 hlt)) (ih h7 (by omega))
    · have hr := fit_end h7 (by omega)
      subst hr
      have : linesFrom (linesB s) e.f1.toNat [] = [] := List.drop_of_length_le (by omega)
      rw [this]
      simpa [rawL] using lined_of e.f2
/-- THE LINES OF WHAT EDITS MAKE. -/
theorem lines_apply {s : ByteArray} {l : List S33} (h : fitB (linesB s) l = true) : linesB (mkB (applyB (linesB s) l)) = linesFrom (linesB s) 0 l := by
  unfold applyB
  rw [← catL_linesFrom]
  exact linesB_of (lined_linesFrom s l h (by omega))
end Go.Proofs.Ytmecmmpgkcileaa.Z
