/- Plain laws: what both chapter-18 programs make of a text and edits: applied, taken back, and counted. -/
import Derived.Test.YtmecmmpgkcileaaPg1
import Derived.Test.YtmecmmpgkcileaaZ10
namespace Go.Proofs.Ytmecmmpgkcileaa.Z
open Go.RowKit Go.Proofs.YtmecmmpgkcileaaW.PrintWords
def sizeR (s : ByteArray) (l : List S33) : Int × Int × Int := if fitB (linesB s) l = true then (sizeOut l, sizeIn l, 0) else (0, 0, 180)
theorem editSize_l0 (x : List ByteArray) (l : List S33) (hl : l.length ≤ 1073741824) (_hx : x.length ≤ 4398046511104) (ht : textSz l ≤ 4398046511104) (d : Nat) :
    ∀ (i : Nat) (last o n : Int), i + d = l.length → fitFrom x last (l.drop i) = true → -1 ≤ last → last ≤ (x.length : Int) → 0 ≤ o → 0 ≤ n → o + sizeOut (l.drop i) ≤ 8796093022208 → n + sizeIn (l.drop i) ≤ 8796093022208 →
      Evs (fun k => edit_Size.l0 k o n l (l.length : Int) (i : Int)) (o + sizeOut (l.drop i), n + sizeIn (l.drop i), 0) := by
  induction d with
  | zero =>
    intro i last o n hi _ _ _ _ _ _ _
    rw [List.drop_of_length_le (by omega)]
    refine Evs.succ (Evs.congr (fun k => ?_) (Evs.ret _))
    simp only [edit_Size.l0]
    rw [if_neg (by omega)]
    simp [sizeOut, sizeIn]
  | succ d ih =>
    intro i last o n hi hf hlast hlast2 ho hn ho2 hn2
    have hlt : i < l.length := by omega
    have hd := List.drop_eq_getElem_cons hlt
    have hts := textSz_mem (List.getElem_mem hlt : l[i] ∈ l)
    rw [hd] at hf ho2 hn2 ⊢
    obtain ⟨h1, h2, h3, _, _, _, h7⟩ := fit_cons hf
    have hso := sizeOut_le h7 (by omega) h3
    have hsi := sizeIn_le (l.drop (i + 1))
    unfold sizeOut at ho2 ⊢
    unfold sizeIn at hn2 ⊢
    have := ih (i + 1) (l[i]).f1 (o + ((l[i]).f1 - (l[i]).f0)) (n + ((linesB (l[i]).f2).length : Int)) (by omega) h7 (by omega) h3 (by omega) (by omega) (by omega) (by omega)
    rw [Int.add_assoc, Int.add_assoc] at this
    refine Evs.succ (Evs.congr (fun k => ?_) this)
    simp only [edit_Size.l0]
    rw [if_pos (by omega), if_pos (by omega), if_pos (by omega), rd33 l i hlt]
    have e : edit_Lines.f (l[i]).f2 = some (linesB (l[i]).f2) := by unfold edit_Lines.f; rw [if_pos (by omega)]
    rw [e, Option.bind_some, wrap_succ i (by omega), wrap_id ((l[i]).f1 - (l[i]).f0) (by omega) (by omega), wrap_id (o + _) (by omega) (by omega), wrap_id (n + _) (by omega) (by omega)]
theorem refSize_l0 (x : List ByteArray) (l : List S33) (hl : l.length ≤ 1073741824) (hx : x.length ≤ 4398046511104) (ht : textSz l ≤ 4398046511104) (d : Nat) :
    ∀ (i : Nat) (last o n : Int), i + d = l.length → fitFrom x last (l.drop i) = true → -1 ≤ last → last ≤ (x.length : Int) → 0 ≤ o → 0 ≤ n → o + sizeOut (l.drop i) ≤ 8796093022208 → n + sizeIn (l.drop i) ≤ 8796093022208 →
      Evs (fun k => regletref18_Size.l0 k l o n (i : Int)) (o + sizeOut (l.drop i), n + sizeIn (l.drop i), 0) := by
  induction d with
  | zero =>
    intro i last o n hi _ _ _ _ _ _ _
    rw [List.drop_of_length_le (by omega)]
    refine Evs.succ (Evs.congr (fun k => ?_) (Evs.ret _))
    simp only [regletref18_Size.l0]
    rw [if_neg (by omega)]
    simp [sizeOut, sizeIn]
  | succ d ih =>
    intro i last o n hi hf hlast hlast2 ho hn ho2 hn2
    have hlt : i < l.length := by omega
    have hd := List.drop_eq_getElem_cons hlt
    have hts := textSz_mem (List.getElem_mem hlt : l[i] ∈ l)
    rw [hd] at hf ho2 hn2 ⊢
    obtain ⟨h1, h2, h3, _, _, _, h7⟩ := fit_cons hf
    have hso := sizeOut_le h7 (by omega) h3
    have hsi := sizeIn_le (l.drop (i + 1))
    unfold sizeOut at ho2 ⊢
    unfold sizeIn at hn2 ⊢
    have := ih (i + 1) (l[i]).f1 (o + ((l[i]).f1 - (l[i]).f0)) (n + ((linesB (l[i]).f2).length : Int)) (by omega) h7 (by omega) h3 (by omega) (by omega) (by omega) (by omega)
    rw [Int.add_assoc, Int.add_assoc] at this
    refine Evs.succ ?_
    simp only [regletref18_Size.l0]
    have c1 : ((i : Int) < (l.length : Int)) := by omega
    have c2 : (0 : Int) ≤ (i : Int) := by omega
    simp only [if_pos c1, if_pos c2, rd33 l i hlt]
    refine Evs.bind (refLines _ (by omega)) (Evs.congr (fun k => ?_) this)
    rw [wrap_succ i (by omega), wrap_id (o + _) (by omega) (by omega), wrap_id _ (by omega) (by omega), wrap_id _ (by omega) (by omega)]
    congr 1
    omega
theorem Fits.size {s : ByteArray} {l : List S33} (h : Fits s l) : Evs (fun k => edit_Size.f k s l) (sizeR s l) := by
  unfold edit_Size.f sizeR
  rw [h.lines]
  simp only [Option.bind_some]
  refine Evs.bind h.fitE ?_
  have := h.t1; have := h.x1
  by_cases hf : fitB (linesB s) l = true
  · simp only [if_pos hf]
    have hso := sizeOut_le hf (by omega) (by omega)
    have hsi := sizeIn_le l
    simpa using editSize_l0 (linesB s) l h.l1 h.x1 h.t1 l.length 0 (-1) 0 0 (by omega) hf (by omega) (by omega) (by omega) (by omega) (by rw [List.drop_zero]; omega) (by rw [List.drop_zero]; omega)
  · simp only [if_neg hf]
    exact Evs.ret _
theorem Fits.sizeRef {s : ByteArray} {l : List S33} (h : Fits s l) : Evs (fun k => regletref18_Size.f k s l) (sizeR s l) := by
  unfold regletref18_Size.f sizeR
  refine Evs.bind (refLines s (by have := h.s1; omega)) (Evs.bind h.fitR ?_)
  have := h.t1; have := h.x1
  by_cases hf : fitB (linesB s) l = true
  · simp only [if_pos hf]
    have hso := sizeOut_le hf (by omega) (by omega)
    have hsi := sizeIn_le l
    simpa using refSize_l0 (linesB s) l h.l1 h.x1 h.t1 l.length 0 (-1) 0 0 (by omega) hf (by omega) (by omega) (by omega) (by omega) (by rw [List.drop_zero]; omega) (by rw [List.drop_zero]; omega)
  · simp only [if_neg hf]
    exact Evs.ret _

/-! ### Back -/
theorem refBack_l0 (x : List ByteArray) (l : List S33) (hl : l.length ≤ 1073741824) (hx : x.length ≤ 4398046511104) (hc : (catL x).length ≤ 4398046511104) (ht : textSz l ≤ 4398046511104) (d : Nat) :
    ∀ (i : Nat) (last more : Int) (acc : List S33), i + d = l.length → fitFrom x last (l.drop i) = true → -1 ≤ last → last ≤ (x.length : Int) → acc.length = i →
      -17592186044416 ≤ more - sizeOut (l.drop i) → more + sizeIn (l.drop i) ≤ 17592186044416 →
      Evs (fun k => regletref18_Back.l0 k l x acc more (i : Int)) (acc ++ backFrom x more (l.drop i), 0) := by
  induction d with
  | zero =>
    intro i last more acc hi _ _ _ _ _ _
    rw [List.drop_of_length_le (by omega)]
    refine Evs.succ (Evs.congr (fun k => ?_) (Evs.ret _))
    simp only [regletref18_Back.l0]
    rw [if_neg (by omega)]
    simp [backFrom]
  | succ d ih =>
    intro i last more acc hi hf hlast hlast2 hacc hm1 hm2
    have hlt : i < l.length := by omega
    have hd := List.drop_eq_getElem_cons hlt
    have hts := textSz_mem (List.getElem_mem hlt : l[i] ∈ l)
    rw [hd] at hf hm1 hm2 ⊢
    obtain ⟨h1, h2, h3, _, _, _, h7⟩ := fit_cons hf
    have hso := sizeOut_le h7 (by omega) h3
    have hsi := sizeIn_le (l.drop (i + 1))
    unfold sizeOut at hm1
    unfold sizeIn at hm2
    unfold backFrom
    have := ih (i + 1) (l[i]).f1 (more + ((linesB (l[i]).f2).length : Int) - (l[i]).f1 + (l[i]).f0) (acc ++ [⟨(l[i]).f0 + more, (l[i]).f0 + more + ((linesB (l[i]).f2).length : Int), mkB (catL ((x.take (l[i]).f1.toNat).drop (l[i]).f0.toNat))⟩]) (by omega) h7 (by omega) h3 (by simp [hacc]) (by omega) (by omega)
    rw [List.append_assoc] at this
    have hln := lines_length (l[i]).f2
    refine Evs.succ ?_
    simp only [regletref18_Back.l0]
    have c1 : ((i : Int) < (l.length : Int)) := by omega
    have c2 : (0 : Int) ≤ (i : Int) := by omega
    simp only [if_pos c1, if_pos c2, rd33 l i hlt]
    refine Evs.bind (refLines _ (by omega)) (Evs.bind (refJoin x _ _ (by omega) (by omega) (by omega) (by omega) (by have := catL_mid_le x (l[i]).f0.toNat (l[i]).f1.toNat; omega)) (Evs.congr (fun k => ?_) this))
    rw [if_pos (by omega), wrap_succ i (by omega), wrap_id ((l[i]).f0 + more) (by omega) (by omega), wrap_id ((l[i]).f0 + more + _) (by omega) (by omega), wrap_id (more + _) (by omega) (by omega), wrap_id (_ - _) (by omega) (by omega), wrap_id _ (by omega) (by omega)]
theorem Fits.backRef {s : ByteArray} {l : List S33} (h : Fits s l) : Evs (fun k => regletref18_Back.f k s l) (backR s l) := by
  unfold regletref18_Back.f backR
  refine Evs.bind (refLines s (by have := h.s1; omega)) (Evs.bind h.fitR ?_)
  have := h.t1; have := h.x1; have := h.s1
  by_cases hf : fitB (linesB s) l = true
  · simp only [if_pos hf]
    have hso := sizeOut_le hf (by omega) (by omega)
    have hsi := sizeIn_le l
    simpa using refBack_l0 (linesB s) l h.l1 h.x1 (by rw [h.cat]; exact h.s1) h.t1 l.length 0 (-1) 0 [] (by omega) hf (by omega) (by omega) rfl (by rw [List.drop_zero]; omega) (by rw [List.drop_zero]; omega)
  · simp only [if_neg hf]
    exact Evs.ret _
end Go.Proofs.Ytmecmmpgkcileaa.Z
