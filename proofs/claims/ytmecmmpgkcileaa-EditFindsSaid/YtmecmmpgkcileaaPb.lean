/- Plain laws of edits within a bound: what edit.Back comes to, and how many lines go out and in. -/
import Derived.Test.YtmecmmpgkcileaaPg0
import Derived.Test.YtmecmmpgkcileaaZ9
namespace Go.Proofs.Ytmecmmpgkcileaa.Z
open Go.RowKit Go.Proofs.YtmecmmpgkcileaaW.PrintWords

/-- A text that programs go through, and edits of it. -/
structure Fits (s : ByteArray) (l : List S33) : Prop where
  s1 : s.size ≤ 4398046511104
  l1 : l.length ≤ 1073741824
  t1 : textSz l ≤ 4398046511104
theorem Fits.mem {s : ByteArray} {l : List S33} (h : Fits s l) : ∀ e ∈ l, e.f2.size ≤ 9223372036854775807 := fun e he => by
  have := textSz_mem he; have := h.t1; omega
theorem Fits.x1 {s : ByteArray} {l : List S33} (h : Fits s l) : (linesB s).length ≤ 4398046511104 := Nat.le_trans (lines_length s) h.s1
theorem Fits.xs {s : ByteArray} {l : List S33} (h : Fits s l) : ∀ t ∈ linesB s, t.size ≤ 9223372036854775807 := fun t ht => by
  have := lines_sizes s t ht; have := h.s1; omega
theorem Fits.cat {s : ByteArray} {l : List S33} (_ : Fits s l) : (catL (linesB s)).length = s.size := by rw [catL_linesB, size_toList]
theorem Fits.fitE {s : ByteArray} {l : List S33} (h : Fits s l) : Evs (fun k => edit_fit.f k (linesB s) l) (fitB (linesB s) l) :=
  editFit _ _ (by have := h.x1; omega) (by have := h.l1; omega) h.xs h.mem
theorem Fits.lines {s : ByteArray} {l : List S33} (h : Fits s l) : edit_Lines.f s = some (linesB s) := by unfold edit_Lines.f; rw [if_pos h.s1]
theorem Fits.applyLen {s : ByteArray} {l : List S33} (h : Fits s l) (hf : fitB (linesB s) l = true) : (applyB (linesB s) l).length ≤ s.size + textSz l := by
  have := apply_len (last := -1) (a := 0) hf (by omega)
  unfold applyB
  have e := h.cat
  have := catL_drop_le (linesB s) 0
  omega
theorem Fits.apply {s : ByteArray} {l : List S33} (h : Fits s l) : edit_Apply.f s l = some (applyR s l) := by
  unfold edit_Apply.f applyR
  rw [if_pos ⟨h.s1, by have := h.l1; omega, h.mem⟩]
  by_cases hf : fitB (linesB s) l = true
  · rw [if_pos hf, if_pos hf, if_pos]
    have := h.applyLen hf; have := h.s1; have := h.t1; omega
  · rw [if_neg hf, if_neg hf]
def sizeOut : List S33 → Int
  | [] => 0
  | e :: r => (e.f1 - e.f0) + sizeOut r
def sizeIn : List S33 → Int
  | [] => 0
  | e :: r => ((linesB e.f2).length : Int) + sizeIn r
theorem sizeOut_le {x : List ByteArray} {l : List S33} : ∀ {last : Int}, fitFrom x last l = true → -1 ≤ last → last ≤ (x.length : Int) → 0 ≤ sizeOut l ∧ sizeOut l ≤ (x.length : Int) - last := by
  induction l with
  | nil => intro last _ _ _; simp [sizeOut]; omega
  | cons e r ih =>
    intro last h h0 hl
    obtain ⟨h1, h2, h3, _, _, _, h7⟩ := fit_cons h
    obtain ⟨i1, i2⟩ := ih h7 (by omega) h3
    unfold sizeOut
    omega
theorem sizeIn_le (l : List S33) : 0 ≤ sizeIn l ∧ sizeIn l ≤ (textSz l : Int) := by
  induction l with
  | nil => simp [sizeIn, textSz]
  | cons e r ih =>
    rw [textSz_cons]
    have := lines_length e.f2
    unfold sizeIn
    omega
def backFrom (x : List ByteArray) : Int → List S33 → List S33
  | _, [] => []
  | more, e :: r => ⟨e.f0 + more, e.f0 + more + ((linesB e.f2).length : Int), mkB (catL ((x.take e.f1.toNat).drop e.f0.toNat))⟩ :: backFrom x (more + ((linesB e.f2).length : Int) - e.f1 + e.f0) r
def backR (s : ByteArray) (l : List S33) : List S33 × Int := if fitB (linesB s) l = true then (backFrom (linesB s) 0 l, 0) else ([], 180)
theorem backFrom_length (x : List ByteArray) (l : List S33) : ∀ m, (backFrom x m l).length = l.length := by
  induction l with
  | nil => intro m; rfl
  | cons e r ih => intro m; simp [backFrom, ih]
theorem editBack_l0 (x : List ByteArray) (l : List S33) (hl : l.length ≤ 1073741824) (hx : x.length ≤ 4398046511104) (hc : (catL x).length ≤ 4398046511104) (ht : textSz l ≤ 4398046511104) (d : Nat) :
    ∀ (i : Nat) (last more : Int) (acc : List S33), i + d = l.length → fitFrom x last (l.drop i) = true → -1 ≤ last → last ≤ (x.length : Int) → acc.length = i →
      -17592186044416 ≤ more - sizeOut (l.drop i) → more + sizeIn (l.drop i) ≤ 17592186044416 →
      Evs (fun k => edit_Back.l0 k x acc more l (l.length : Int) (i : Int)) (acc ++ backFrom x more (l.drop i), 0) := by
  induction d with
  | zero =>
    intro i last more acc hi _ _ _ _ _ _
    rw [List.drop_of_length_le (by omega)]
    refine Evs.succ (Evs.congr (fun k => ?_) (Evs.ret _))
    simp only [edit_Back.l0]
    rw [if_neg (by omega)]
    simp [backFrom]
  | succ d ih =>
    intro i last more acc hi hf hlast hlast2 hacc hm1 hm2
    have hlt : i < l.length := by omega
    have hd := List.drop_eq_getElem_cons hlt
    have hts := textSz_mem (List.getElem_mem hlt : l[i] ∈ l)
    rw [hd] at hf hm1 hm2 ⊢
    obtain ⟨h1, h2, h3, _, _, _, h7⟩ := fit_cons hf
    have hso := sizeOut_le h7 (by omega) h3
    have hsi := sizeIn_le (l.drop (i + 1))
    unfold sizeOut at hm1
    unfold sizeIn at hm2
    unfold backFrom
    have := ih (i + 1) (l[i]).f1 (more + ((linesB (l[i]).f2).length : Int) - (l[i]).f1 + (l[i]).f0) (acc ++ [⟨(l[i]).f0 + more, (l[i]).f0 + more + ((linesB (l[i]).f2).length : Int), mkB (catL ((x.take (l[i]).f1.toNat).drop (l[i]).f0.toNat))⟩]) (by omega) h7 (by omega) h3 (by simp [hacc]) (by omega) (by omega)
    rw [List.append_assoc] at this
    refine Evs.succ (Evs.congr (fun k => ?_) this)
    simp only [edit_Back.l0]
    rw [if_pos (by omega), if_pos (by omega), if_pos (by omega), rd33 l i hlt]
    have e : edit_Lines.f (l[i]).f2 = some (linesB (l[i]).f2) := by unfold edit_Lines.f; rw [if_pos (by omega)]
    have hln := lines_length (l[i]).f2
    rw [e, Option.bind_some, if_pos (by omega), if_pos (by omega), if_pos (by omega)]
    have ej : strings_Join.f ((x.take (l[i]).f1.toNat).drop (l[i]).f0.toNat) ⟨#[]⟩ = some (mkB (catL ((x.take (l[i]).f1.toNat).drop (l[i]).f0.toNat))) := by
      unfold strings_Join.f
      rw [if_pos ⟨rfl, by simp; omega, by have := catL_mid_le x (l[i]).f0.toNat (l[i]).f1.toNat; omega⟩]
      rfl
    rw [ej, Option.bind_some, if_pos (by omega), wrap_succ i (by omega), wrap_id ((l[i]).f0 + more) (by omega) (by omega), wrap_id ((l[i]).f0 + more + _) (by omega) (by omega), wrap_id ((l[i]).f1 - _) (by omega) (by omega), wrap_id (_ - _) (by omega) (by omega), wrap_id _ (by omega) (by omega)]
    have e2 : more + (((linesB (l[i]).f2).length : Int) - ((l[i]).f1 - (l[i]).f0)) = more + ((linesB (l[i]).f2).length : Int) - (l[i]).f1 + (l[i]).f0 := by omega
    rw [e2]
theorem Fits.back {s : ByteArray} {l : List S33} (h : Fits s l) : Evs (fun k => edit_Back.f k s l) (backR s l) := by
  unfold edit_Back.f backR
  rw [h.lines]
  simp only [Option.bind_some]
  refine Evs.bind h.fitE ?_
  have := h.t1; have := h.x1; have := h.s1
  by_cases hf : fitB (linesB s) l = true
  · simp only [if_pos hf]
    have hso := sizeOut_le hf (by omega) (by omega)
    have hsi := sizeIn_le l
    simpa using editBack_l0 (linesB s) l h.l1 h.x1 (by rw [h.cat]; exact h.s1) h.t1 l.length 0 (-1) 0 [] (by omega) hf (by omega) (by omega) rfl (by rw [List.drop_zero]; omega) (by rw [List.drop_zero]; omega)
  · simp only [if_neg hf]
    exact Evs.ret _
theorem backR_length (s : ByteArray) (l : List S33) : (backR s l).1.length ≤ l.length := by
  unfold backR
  split
  · simp [backFrom_length]
  · simp
end Go.Proofs.Ytmecmmpgkcileaa.Z
