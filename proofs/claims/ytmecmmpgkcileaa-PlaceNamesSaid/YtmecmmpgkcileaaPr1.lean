/- Plain laws that the chapter-20 statements share: their bound, and what Move, From, Kept and Apply come to within it. -/
import Derived.Test.YtmecmmpgkcileaaPp
namespace Go.Proofs.Ytmecmmpgkcileaa.Z
open Go.RowKit Go.Proofs.YtmecmmpgkcileaaW.PrintWords


def gsum (l : List S33) : Nat := (l.map fun e => 10 + e.f2.size).sum
theorem gsum_cons (e : S33) (l : List S33) : gsum (e :: l) = 10 + e.f2.size + gsum l := by simp [gsum]
theorem gsum_le {l : List S33} {m : Nat} (h : ∀ e ∈ l, e.f2.size ≤ m) : gsum l ≤ l.length * (10 + m) := by
  induction l with
  | nil => simp [gsum]
  | cons a l ih =>
    rw [gsum_cons, List.length_cons, Nat.add_mul]
    have := h a (by simp)
    have := ih fun e he => h e (by simp [he])
    omega
theorem textSz_gsum (l : List S33) : textSz l ≤ gsum l := by
  induction l with
  | nil => simp [gsum, textSz]
  | cons a l ih => rw [gsum_cons, textSz_cons]; omega
theorem great_l0 (l : List S33) (hl : l.length ≤ 4398046511104) (d : Nat) : ∀ (i : Nat) (m : Int), i + d = l.length →
    ∃ b, Evs (fun k => regletlaw20_great.l0 k l m (i : Int)) b ∧ (b = false → 0 ≤ m → m + (gsum (l.drop i) : Int) ≤ 9223372036854775807 → m + (gsum (l.drop i) : Int) ≤ 2000) := by
  induction d with
  | zero =>
    intro i m hi
    rw [List.drop_of_length_le (by omega)]
    refine ⟨decide (m > 2000), Evs.succ (Evs.congr (fun k => ?_) (Evs.ret _)), fun h _ _ => by simp [gsum] at h ⊢; omega⟩
    simp only [regletlaw20_great.l0]
    rw [if_neg (by omega)]
  | succ d ih =>
    intro i m hi
    have hlt : i < l.length := by omega
    obtain ⟨b, hb, hB⟩ := ih (i + 1) (wrap64 ((wrap64 (m + 10)) + ((l[i]).f2.size : Int))) (by omega)
    refine ⟨b, Evs.succ (Evs.congr (fun k => ?_) hb), fun h h0 h1 => ?_⟩
    · simp only [regletlaw20_great.l0]
      rw [if_pos (by omega), if_pos (by omega), rd33 l i hlt, wrap_succ i (by omega)]
    · rw [List.drop_eq_getElem_cons hlt, gsum_cons] at h1 ⊢
      have w1 : wrap64 (m + 10) = m + 10 := by unfold wrap64; omega
      have w2 : wrap64 (m + 10 + ((l[i]).f2.size : Int)) = m + 10 + ((l[i]).f2.size : Int) := by unfold wrap64; omega
      rw [w1, w2] at hB
      have := hB h (by omega) (by omega)
      omega
theorem great_ev (s : ByteArray) (l : List S33) (hl : l.length ≤ 4398046511104) :
    ∃ b, Evs (fun k => regletlaw20_great.f k s l) b ∧ (b = false → (s.size : Int) + (gsum l : Int) ≤ 9223372036854775807 → s.size + gsum l ≤ 2000) := by
  obtain ⟨b, hb, hB⟩ := great_l0 l hl l.length 0 (s.size : Int) (by omega)
  refine ⟨b, hb, fun h h1 => ?_⟩
  have := hB h (by omega) (by rw [List.drop_zero]; exact h1)
  rw [List.drop_zero] at this
  omega
theorem fit_length {x : List ByteArray} {l : List S33} : ∀ {last : Int}, fitFrom x last l = true → last ≤ (x.length : Int) → (l.length : Int) ≤ (x.length : Int) - last := by
  induction l with
  | nil => intro last _ h; simp; omega
  | cons e r ih =>
    intro last h hl
    obtain ⟨h1, h2, h3, _, _, _, h7⟩ := fit_cons h
    have := ih h7 h3
    rw [List.length_cons]
    omega
/-- A text and edits within the statements' bound. -/
structure Small (s : ByteArray) (l : List S33) : Prop where
  dom : domP s l
  s1 : s.size ≤ 2000
  sum : fitB (linesB s) l = true → s.size + gsum l ≤ 2000
theorem Small.of {s : ByteArray} {l : List S33} (hs : s.size ≤ 2000) (hl : l.length ≤ 4398046511104) (ht : ∀ e ∈ l, e.f2.size ≤ 140737488351232)
    (hg : (s.size : Int) + (gsum l : Int) ≤ 9223372036854775807 → s.size + gsum l ≤ 2000) : Small s l := by
  have hsum : fitB (linesB s) l = true → s.size + gsum l ≤ 2000 := by
    intro hf
    have h1 := fit_length (last := -1) hf (by omega)
    have h2 := lines_length s
    have h3 := gsum_le ht
    have h4 : l.length ≤ 2001 := by omega
    have h5 := Nat.mul_le_mul_right (10 + 140737488351232) h4
    exact hg (by omega)
  refine ⟨⟨by omega, hl, fun e he => by have := ht e he; omega, fun hf => ?_⟩, hs, hsum⟩
  have h := hsum hf
  have h2 := textSz_gsum l
  have h1 := fit_length (last := -1) hf (by omega)
  have h3 := lines_length s
  refine ⟨by omega, by omega, fun e he => by have := textSz_mem he; omega, fun _ => ?_⟩
  have h4 := apply_len (last := -1) (a := 0) hf (by omega)
  have h5 := catL_drop_le (linesB s) 0
  rw [catL_linesB, size_toList] at h5
  unfold applyB
  omega
theorem Small.text {s : ByteArray} {l : List S33} (h : Small s l) (hf : fitB (linesB s) l = true) : ∀ e ∈ l, e.f2.size ≤ 2000 := fun e he => by
  have := h.sum hf; have := textSz_gsum l; have := textSz_mem he; omega
theorem Small.apply {s : ByteArray} {l : List S33} (h : Small s l) : edit_Apply.f s l = some (applyR s l) := by
  unfold edit_Apply.f applyR
  rw [if_pos ⟨by have := h.s1; omega, h.dom.2.1, h.dom.2.2.1⟩]
  by_cases hf : fitB (linesB s) l = true
  · rw [if_pos hf, if_pos hf, if_pos ((h.dom.2.2.2 hf).2.2.2 hf)]
  · rw [if_neg hf, if_neg hf]
theorem Small.kept {s : ByteArray} {l : List S33} (h : Small s l) : place_Kept.f s l = if fitB (linesB s) l = true then some (keptB (linesB s) l s.size, 0) else some ([], 180) := by
  unfold place_Kept.f; rw [if_pos h.dom]
theorem Small.move {s : ByteArray} {l : List S33} (h : Small s l) (p : Int) : place_Move.f s l p = if fitB (linesB s) l = true then (if p < 0 ∨ (s.size : Int) < p then some (0, 2) else some (moveB (linesB s) l p, 0)) else some (0, 180) := by
  unfold place_Move.f; rw [if_pos h.dom]
theorem Small.from_ {s : ByteArray} {l : List S33} (h : Small s l) (p : Int) : place_From.f s l p = if fitB (linesB s) l = true then (if p < 0 ∨ ((applyB (linesB s) l).length : Int) < p then some (0, false, 2) else some ((fromB (linesB s) l p).1, (fromB (linesB s) l p).2, 0)) else some (0, false, 180) := by
  unfold place_From.f; rw [if_pos h.dom]
theorem Small.cuts {s : ByteArray} {l : List S33} (h : Small s l) (hf : fitB (linesB s) l = true) : Cuts s.size 0 (withTexts (linesB s) l) := by
  have := cuts_of_fit (s := s) (by have := h.s1; omega) (l := l) (last := -1) (a := 0) hf (by omega) (by omega) (fun e he => by have := h.text hf e he; omega)
  rwa [begB_zero] at this
theorem Small.ap {s : ByteArray} {l : List S33} (h : Small s l) (hf : fitB (linesB s) l = true) : applyB (linesB s) l = apB s.data.toList 0 (withTexts (linesB s) l) := by
  have := applyFrom_ap (s := s) (by have := h.s1; omega) (l := l) (last := -1) (a := 0) hf (by omega) (by omega) (fun e he => by have := h.text hf e he; omega)
  rwa [begB_zero] at this
theorem moveB_eq (x : List ByteArray) (l : List S33) (p : Int) : moveB x l p = moveFrom (cs (withTexts x l)) 0 p := by
  unfold moveB cs; rw [withTexts_cuts]
theorem fromB_eq (x : List ByteArray) (l : List S33) (p : Int) : fromB x l p = fromFrom (cs (withTexts x l)) 0 p := by
  unfold fromB cs; rw [withTexts_cuts]
theorem keptB_eq (x : List ByteArray) (l : List S33) (n : Nat) : keptB x l n = keepStep ((cs (withTexts x l)).foldl keepCut ([], ((0 : Nat) : Int))).1 ((cs (withTexts x l)).foldl keepCut ([], ((0 : Nat) : Int))).2 n := by
  unfold keptB keepCuts cs; rw [withTexts_cuts]; rfl
theorem rising_nil (a : Int) : Rising [] a := { each := fun e he => (by cases he), rise := List.Pairwise.nil }
theorem Small.ranges {s : ByteArray} {l : List S33} (h : Small s l) (hf : fitB (linesB s) l = true) :
    Rising (keptB (linesB s) l s.size) s.size ∧ total (keptB (linesB s) l s.size) + gone (withTexts (linesB s) l) = s.size ∧ ∀ p : Nat, In (keptB (linesB s) l s.size) p → p < s.size ∧ Stays (withTexts (linesB s) l) p := by
  obtain ⟨h1, h2, h3⟩ := kept_spec (h.cuts hf) [] (rising_nil _)
  rw [← keptB_eq] at h1 h2 h3
  refine ⟨h1, by simp only [total] at h2; omega, fun p hp => ?_⟩
  rcases h3 p hp with ⟨e, he, _⟩ | ⟨_, hb, hc⟩
  · cases he
  · exact ⟨hb, hc⟩
end Go.Proofs.Ytmecmmpgkcileaa.Z
