/- Plain laws: what both chapter-18 programs make of a text and edits: applied, taken back, and counted. -/
import Derived.Test.YtmecmmpgkcileaaPe
import Derived.Test.YtmecmmpgkcileaaZ9
import Derived.Test.YtmecmmpgkcileaaZ10
import Derived.Test.YtmecmmpgkcileaaGApply
namespace Go.Proofs.Ytmecmmpgkcileaa.Z
open Go.RowKit Go.Proofs.YtmecmmpgkcileaaW.PrintWords

theorem catL_linesB (s : ByteArray) : catL (linesB s) = s.data.toList := by
  have key : ∀ l : List UInt8, (splitL l).flatten = l := by
    intro l
    induction l with
    | nil => rfl
    | cons c r ih =>
      unfold splitL
      split
      · rw [List.flatten_cons, ih]; rfl
      · split
        · rename_i he
          rw [he] at ih
          simp at ih
          simp [ih]
        · rename_i h t he
          rw [he, List.flatten_cons] at ih
          rw [List.flatten_cons, List.cons_append, ih]
  unfold catL linesB
  rw [List.map_map]
  have : ((fun x : ByteArray => x.data.toList) ∘ mkB) = id := rfl
  rw [this, List.map_id, key]
theorem catL_append (a b : List ByteArray) : catL (a ++ b) = catL a ++ catL b := by simp [catL]
theorem catL_split (x : List ByteArray) (n : Nat) : (catL x).length = (catL (x.take n)).length + (catL (x.drop n)).length := by
  conv => lhs; rw [← List.take_append_drop n x, catL_append, List.length_append]
theorem catL_drop_le (x : List ByteArray) (n : Nat) : (catL (x.drop n)).length ≤ (catL x).length := by have := catL_split x n; omega
theorem catL_take_le (x : List ByteArray) (n : Nat) : (catL (x.take n)).length ≤ (catL x).length := by have := catL_split x n; omega
theorem catL_mid_le (x : List ByteArray) (a b : Nat) : (catL ((x.take b).drop a)).length ≤ (catL x).length := Nat.le_trans (catL_drop_le _ _) (catL_take_le _ _)
theorem catL_mid_drop (x : List ByteArray) (a b : Nat) (h : a ≤ b) : catL (x.drop a) = catL ((x.take b).drop a) ++ catL (x.drop b) := by
  rw [← catL_append]
  congr 1
  have h2 : x.drop b = (x.drop a).drop (b - a) := by rw [List.drop_drop]; congr 1; omega
  rw [h2, List.drop_take, List.take_append_drop]
theorem catL_drop_mono (x : List ByteArray) (a b : Nat) (h : a ≤ b) : (catL (x.drop b)).length ≤ (catL (x.drop a)).length := by
  rw [catL_mid_drop x a b h, List.length_append]; omega

/-- How long edits' texts are together. -/
def textSz (l : List S33) : Nat := (l.map fun e => e.f2.size).sum
theorem textSz_cons (e : S33) (l : List S33) : textSz (e :: l) = e.f2.size + textSz l := by simp [textSz]
theorem textSz_mem {l : List S33} {e : S33} (h : e ∈ l) : e.f2.size ≤ textSz l := by
  induction l with
  | nil => cases h
  | cons a l ih =>
    rw [textSz_cons]
    rcases List.mem_cons.1 h with rfl | h
    · omega
    · have := ih h; omega
theorem textSz_drop (l : List S33) (i : Nat) : textSz (l.drop i) ≤ textSz l := by
  induction l generalizing i with
  | nil => simp [textSz]
  | cons a l ih =>
    cases i with
    | zero => simp
    | succ i => rw [List.drop_succ_cons, textSz_cons]; have := ih i; omega

theorem apply_len {x : List ByteArray} {l : List S33} : ∀ {last : Int} {a : Nat}, fitFrom x last l = true → (a : Int) ≤ last + 1 → (applyFrom x a l).length ≤ (catL (x.drop a)).length + textSz l := by
  induction l with
  | nil => intro last a _ _; simp [applyFrom, textSz]
  | cons e r ih =>
    intro last a h ha
    obtain ⟨h1, h2, h3, _, _, _, h7⟩ := fit_cons h
    have := ih (last := e.f1) (a := e.f1.toNat) h7 (by omega)
    unfold applyFrom
    rw [List.length_append, List.length_append, textSz_cons, catL_mid_drop x a e.f0.toNat (by omega), List.length_append, size_toList]
    have hm := catL_drop_mono x e.f0.toNat e.f1.toNat (by omega)
    omega

/-! ### Apply -/
theorem refApply_l0 (x : List ByteArray) (l : List S33) (hx : x.length ≤ 4611686018427387904) (hl : l.length ≤ 4611686018427387904) (hsz : (catL x).length + textSz l ≤ 4611686018427387904) (d : Nat) :
    ∀ (i a : Nat) (last : Int) (acc : ByteArray), i + d = l.length → fitFrom x last (l.drop i) = true → (a : Int) ≤ last + 1 → a ≤ x.length → acc.size + (applyFrom x a (l.drop i)).length ≤ 4611686018427387904 →
      Evs (fun k => regletref18_Apply.l0 k l x acc (a : Int) (i : Int)) (mkB (acc.data.toList ++ applyFrom x a (l.drop i)), 0) := by
  induction d with
  | zero =>
    intro i a last acc hi hf ha hax hacc
    rw [List.drop_of_length_le (by omega)] at hacc ⊢
    have htk : (x.take ((x.length : Int)).toNat).drop ((a : Int)).toNat = x.drop a := by simp
    have hj := refJoin x (a : Int) (x.length : Int) (by omega) (by omega) (by omega) hx (by rw [htk]; have := catL_drop_le x a; omega)
    rw [htk] at hj
    refine Evs.succ ?_
    simp only [regletref18_Apply.l0]
    have c1 : ¬ ((i : Int) < (l.length : Int)) := by omega
    simp only [if_neg c1]
    refine Evs.bind hj ?_
    have c2 : acc.size + (mkB (catL (x.drop a))).size ≤ 9223372036854775807 := by rw [mkB_size]; simp only [applyFrom] at hacc; omega
    simp only [if_pos c2]
    have e : acc ++ mkB (catL (x.drop a)) = mkB (acc.data.toList ++ applyFrom x a []) := by
      rw [← mkB_of (acc ++ _), app_list]; rfl
    rw [e]
    exact Evs.ret _
  | succ d ih =>
    intro i a last acc hi hf ha hax hacc
    have hlt : i < l.length := by omega
    have hd := List.drop_eq_getElem_cons hlt
    have hmem : l[i] ∈ l := List.getElem_mem hlt
    have hts := textSz_mem hmem
    rw [hd] at hf hacc ⊢
    obtain ⟨h1, h2, h3, _, _, _, h7⟩ := fit_cons hf
    have hj := refJoin x (a : Int) (l[i]).f0 (by omega) (by omega) (by omega) hx (by have := catL_mid_le x ((a : Int)).toNat (l[i]).f0.toNat; omega)
    have hmid := catL_mid_le x a (l[i]).f0.toNat
    rw [Int.toNat_natCast] at hj
    unfold applyFrom at hacc ⊢
    rw [List.length_append, List.length_append, size_toList] at hacc
    refine Evs.succ ?_
    simp only [regletref18_Apply.l0]
    have c1 : ((i : Int) < (l.length : Int)) := by omega
    have c2 : (0 : Int) ≤ (i : Int) := by omega
    simp only [if_pos c1, if_pos c2, rd33 l i hlt]
    refine Evs.bind hj ?_
    have z1 : (acc ++ mkB (catL ((x.take (l[i]).f0.toNat).drop a))).size = acc.size + (catL ((x.take (l[i]).f0.toNat).drop a)).length := by
      rw [ByteArray.size_append, mkB_size]
    have c3 : acc.size + (mkB (catL ((x.take (l[i]).f0.toNat).drop a))).size ≤ 9223372036854775807 := by rw [mkB_size]; omega
    have c4 : (acc ++ mkB (catL ((x.take (l[i]).f0.toNat).drop a))).size + (l[i]).f2.size ≤ 9223372036854775807 := by rw [z1]; omega
    simp only [if_pos c3, if_pos c4]
    rw [wrap_succ i (by omega)]
    have e1 : (((l[i]).f1.toNat : Nat) : Int) = (l[i]).f1 := by omega
    have := ih (i + 1) (l[i]).f1.toNat (l[i]).f1 (acc ++ mkB (catL ((x.take (l[i]).f0.toNat).drop a)) ++ (l[i]).f2) (by omega) h7 (by omega) (by omega)
      (by rw [ByteArray.size_append, z1]; omega)
    rw [e1, app_list, app_list, mkB_toList, List.append_assoc, List.append_assoc] at this
    rw [List.append_assoc]
    exact this

/-- A text that programs go through, and edits of it. -/
structure Fits (s : ByteArray) (l : List S33) : Prop where
  s1 : s.size ≤ 4398046511104
  l1 : l.length ≤ 1073741824
  t1 : textSz l ≤ 4398046511104
theorem Fits.mem {s : ByteArray} {l : List S33} (h : Fits s l) : ∀ e ∈ l, e.f2.size ≤ 9223372036854775807 := fun e he => by
  have := textSz_mem he; have := h.t1; omega
theorem Fits.x1 {s : ByteArray} {l : List S33} (h : Fits s l) : (linesB s).length ≤ 4398046511104 := Nat.le_trans (lines_length s) h.s1
theorem Fits.xs {s : ByteArray} {l : List S33} (h : Fits s l) : ∀ t ∈ linesB s, t.size ≤ 9223372036854775807 := fun t ht => by
  have := lines_sizes s t ht; have := h.s1; omega
theorem Fits.cat {s : ByteArray} {l : List S33} (_ : Fits s l) : (catL (linesB s)).length = s.size := by rw [catL_linesB, size_toList]
theorem Fits.fitR {s : ByteArray} {l : List S33} (h : Fits s l) : Evs (fun k => regletref18_Fit.f k (linesB s) l) (fitB (linesB s) l) :=
  refFit _ _ (by have := h.x1; omega) (by have := h.l1; omega) h.xs h.mem
theorem Fits.fitE {s : ByteArray} {l : List S33} (h : Fits s l) : Evs (fun k => edit_fit.f k (linesB s) l) (fitB (linesB s) l) :=
  editFit _ _ (by have := h.x1; omega) (by have := h.l1; omega) h.xs h.mem
theorem Fits.lines {s : ByteArray} {l : List S33} (h : Fits s l) : edit_Lines.f s = some (linesB s) := by unfold edit_Lines.f; rw [if_pos h.s1]
theorem Fits.applyLen {s : ByteArray} {l : List S33} (h : Fits s l) (hf : fitB (linesB s) l = true) : (applyB (linesB s) l).length ≤ s.size + textSz l := by
  have := apply_len (last := -1) (a := 0) hf (by omega)
  unfold applyB
  have e := h.cat
  have := catL_drop_le (linesB s) 0
  omega
def applyR (s : ByteArray) (l : List S33) : ByteArray × Int := if fitB (linesB s) l = true then (mkB (applyB (linesB s) l), 0) else (⟨#[]⟩, 180)
theorem Fits.apply {s : ByteArray} {l : List S33} (h : Fits s l) : edit_Apply.f s l = some (applyR s l) := by
  unfold edit_Apply.f applyR
  rw [if_pos ⟨h.s1, by have := h.l1; omega, h.mem⟩]
  by_cases hf : fitB (linesB s) l = true
  · rw [if_pos hf, if_pos hf, if_pos]
    have := h.applyLen hf; have := h.s1; have := h.t1; omega
  · rw [if_neg hf, if_neg hf]
theorem Fits.applyRef {s : ByteArray} {l : List S33} (h : Fits s l) : Evs (fun k => regletref18_Apply.f k s l) (applyR s l) := by
  unfold regletref18_Apply.f applyR
  refine Evs.bind (refLines s (by have := h.s1; omega)) (Evs.bind h.fitR ?_)
  by_cases hf : fitB (linesB s) l = true
  · simp only [if_pos hf]
    have h3 := h.applyLen hf
    have := h.s1; have := h.t1
    unfold applyB at h3 ⊢
    simpa using refApply_l0 (linesB s) l (by have := h.x1; omega) (by have := h.l1; omega) (by have := h.cat; omega) l.length 0 0 (-1) ⟨#[]⟩ (by omega) hf (by omega) (by omega) (by show 0 + (applyFrom (linesB s) 0 l).length ≤ 4611686018427387904; omega)
  · simp only [if_neg hf]
    exact Evs.ret _

/-! ### Size -/
def sizeOut : List S33 → Int
  | [] => 0
  | e :: r => (e.f1 - e.f0) + sizeOut r
def sizeIn : List S33 → Int
  | [] => 0
  | e :: r => ((linesB e.f2).length : Int) + sizeIn r
def sizeR (s : ByteArray) (l : List S33) : Int × Int × Int := if fitB (linesB s) l = true then (sizeOut l, sizeIn l, 0) else (0, 0, 180)
theorem sizeOut_le {x : List ByteArray} {l : List S33} : ∀ {last : Int}, fitFrom x last l = true → -1 ≤ last → last ≤ (x.length : Int) → 0 ≤ sizeOut l ∧ sizeOut l ≤ (x.length : Int) - last := by
  induction l with
  | nil => intro last _ _ _; simp [sizeOut]; omega
  | cons e r ih =>
    intro last h h0 hl
    obtain ⟨h1, h2, h3, _, _, _, h7⟩ := fit_cons h
    obtain ⟨i1, i2⟩ := ih h7 (by omega) h3
    unfold sizeOut
    omega
theorem sizeIn_le (l : List S33) : 0 ≤ sizeIn l ∧ sizeIn l ≤ (textSz l : Int) := by
  induction l with
  | nil => simp [sizeIn, textSz]
  | cons e r ih =>
    rw [textSz_cons]
    have := lines_length e.f2
    unfold sizeIn
    omega
theorem wrap_id (z : Int) (h0 : -4611686018427387904 ≤ z) (h1 : z ≤ 4611686018427387904) : wrap64 z = z := by unfold wrap64; omega
theorem editSize_l0 (x : List ByteArray) (l : List S33) (hl : l.length ≤ 1073741824) (_hx : x.length ≤ 4398046511104) (ht : textSz l ≤ 4398046511104) (d : Nat) :
    ∀ (i : Nat) (last o n : Int), i + d = l.length → fitFrom x last (l.drop i) = true → -1 ≤ last → last ≤ (x.length : Int) → 0 ≤ o → 0 ≤ n → o + sizeOut (l.drop i) ≤ 8796093022208 → n + sizeIn (l.drop i) ≤ 8796093022208 →
      Evs (fun k => edit_Size.l0 k o n l (l.length : Int) (i : Int)) (o + sizeOut (l.drop i), n + sizeIn (l.drop i), 0) := by
  induction d with
  | zero =>
    intro i last o n hi _ _ _ _ _ _ _
    rw [List.drop_of_length_le (by omega)]
    refine Evs.succ (Evs.congr (fun k => ?_) (Evs.ret _))
    simp only [edit_Size.l0]
    rw [if_neg (by omega)]
    simp [sizeOut, sizeIn]
  | succ d ih =>
    intro i last o n hi hf hlast hlast2 ho hn ho2 hn2
    have hlt : i < l.length := by omega
    have hd := List.drop_eq_getElem_cons hlt
    have hts := textSz_mem (List.getElem_mem hlt : l[i] ∈ l)
    rw [hd] at hf ho2 hn2 ⊢
    obtain ⟨h1, h2, h3, _, _, _, h7⟩ := fit_cons hf
    have hso := sizeOut_le h7 (by omega) h3
    have hsi := sizeIn_le (l.drop (i + 1))
    unfold sizeOut at ho2 ⊢
    unfold sizeIn at hn2 ⊢
    have := ih (i + 1) (l[i]).f1 (o + ((l[i]).f1 - (l[i]).f0)) (n + ((linesB (l[i]).f2).length : Int)) (by omega) h7 (by omega) h3 (by omega) (by omega) (by omega) (by omega)
    rw [Int.add_assoc, Int.add_assoc] at this
    refine Evs.succ (Evs.congr (fun k => ?_) this)
    simp only [edit_Size.l0]
    rw [if_pos (by omega), if_pos (by omega), if_pos (by omega), rd33 l i hlt]
    have e : edit_Lines.f (l[i]).f2 = some (linesB (l[i]).f2) := by unfold edit_Lines.f; rw [if_pos (by omega)]
    rw [e, Option.bind_some, wrap_succ i (by omega), wrap_id ((l[i]).f1 - (l[i]).f0) (by omega) (by omega), wrap_id (o + _) (by omega) (by omega), wrap_id (n + _) (by omega) (by omega)]
theorem refSize_l0 (x : List ByteArray) (l : List S33) (hl : l.length ≤ 1073741824) (hx : x.length ≤ 4398046511104) (ht : textSz l ≤ 4398046511104) (d : Nat) :
    ∀ (i : Nat) (last o n : Int), i + d = l.length → fitFrom x last (l.drop i) = true → -1 ≤ last → last ≤ (x.length : Int) → 0 ≤ o → 0 ≤ n → o + sizeOut (l.drop i) ≤ 8796093022208 → n + sizeIn (l.drop i) ≤ 8796093022208 →
      Evs (fun k => regletref18_Size.l0 k l o n (i : Int)) (o + sizeOut (l.drop i), n + sizeIn (l.drop i), 0) := by
  induction d with
  | zero =>
    intro i last o n hi _ _ _ _ _ _ _
    rw [List.drop_of_length_le (by omega)]
    refine Evs.succ (Evs.congr (fun k => ?_) (Evs.ret _))
    simp only [regletref18_Size.l0]
    rw [if_neg (by omega)]
    simp [sizeOut, sizeIn]
  | succ d ih =>
    intro i last o n hi hf hlast hlast2 ho hn ho2 hn2
    have hlt : i < l.length := by omega
    have hd := List.drop_eq_getElem_cons hlt
    have hts := textSz_mem (List.getElem_mem hlt : l[i] ∈ l)
    rw [hd] at hf ho2 hn2 ⊢
    obtain ⟨h1, h2, h3, _, _, _, h7⟩ := fit_cons hf
    have hso := sizeOut_le h7 (by omega) h3
    have hsi := sizeIn_le (l.drop (i + 1))
    unfold sizeOut at ho2 ⊢
    unfold sizeIn at hn2 ⊢
    have := ih (i + 1) (l[i]).f1 (o + ((l[i]).f1 - (l[i]).f0)) (n + ((linesB (l[i]).f2).length : Int)) (by omega) h7 (by omega) h3 (by omega) (by omega) (by omega) (by omega)
    rw [Int.add_assoc, Int.add_assoc] at this
    refine Evs.succ ?_
    simp only [regletref18_Size.l0]
    have c1 : ((i : Int) < (l.length : Int)) := by omega
    have c2 : (0 : Int) ≤ (i : Int) := by omega
    simp only [if_pos c1, if_pos c2, rd33 l i hlt]
    refine Evs.bind (refLines _ (by omega)) (Evs.congr (fun k => ?_) this)
    rw [wrap_succ i (by omega), wrap_id (o + _) (by omega) (by omega), wrap_id _ (by omega) (by omega), wrap_id _ (by omega) (by omega)]
    congr 1
    omega
theorem Fits.size {s : ByteArray} {l : List S33} (h : Fits s l) : Evs (fun k => edit_Size.f k s l) (sizeR s l) := by
  unfold edit_Size.f sizeR
  rw [h.lines]
  simp only [Option.bind_some]
  refine Evs.bind h.fitE ?_
  have := h.t1; have := h.x1
  by_cases hf : fitB (linesB s) l = true
  · simp only [if_pos hf]
    have hso := sizeOut_le hf (by omega) (by omega)
    have hsi := sizeIn_le l
    simpa using editSize_l0 (linesB s) l h.l1 h.x1 h.t1 l.length 0 (-1) 0 0 (by omega) hf (by omega) (by omega) (by omega) (by omega) (by rw [List.drop_zero]; omega) (by rw [List.drop_zero]; omega)
  · simp only [if_neg hf]
    exact Evs.ret _
theorem Fits.sizeRef {s : ByteArray} {l : List S33} (h : Fits s l) : Evs (fun k => regletref18_Size.f k s l) (sizeR s l) := by
  unfold regletref18_Size.f sizeR
  refine Evs.bind (refLines s (by have := h.s1; omega)) (Evs.bind h.fitR ?_)
  have := h.t1; have := h.x1
  by_cases hf : fitB (linesB s) l = true
  · simp only [if_pos hf]
    have hso := sizeOut_le hf (by omega) (by omega)
    have hsi := sizeIn_le l
    simpa using refSize_l0 (linesB s) l h.l1 h.x1 h.t1 l.length 0 (-1) 0 0 (by omega) hf (by omega) (by omega) (by omega) (by omega) (by rw [List.drop_zero]; omega) (by rw [List.drop_zero]; omega)
  · simp only [if_neg hf]
    exact Evs.ret _

/-! ### Back -/
def backFrom (x : List ByteArray) : Int → List S33 → List S33
  | _, [] => []
  | more, e :: r => ⟨e.f0 + more, e.f0 + more + ((linesB e.f2).length : Int), mkB (catL ((x.take e.f1.toNat).drop e.f0.toNat))⟩ :: backFrom x (more + ((linesB e.f2).length : Int) - e.f1 + e.f0) r
def backR (s : ByteArray) (l : List S33) : List S33 × Int := if fitB (linesB s) l = true then (backFrom (linesB s) 0 l, 0) else ([], 180)
theorem backFrom_length (x : List ByteArray) (l : List S33) : ∀ m, (backFrom x m l).length = l.length := by
  induction l with
  | nil => intro m; rfl
  | cons e r ih => intro m; simp [backFrom, ih]
theorem editBack_l0 (x : List ByteArray) (l : List S33) (hl : l.length ≤ 1073741824) (hx : x.length ≤ 4398046511104) (hc : (catL x).length ≤ 4398046511104) (ht : textSz l ≤ 4398046511104) (d : Nat) :
    ∀ (i : Nat) (last more : Int) (acc : List S33), i + d = l.length → fitFrom x last (l.drop i) = true → -1 ≤ last → last ≤ (x.length : Int) → acc.length = i →
      -17592186044416 ≤ more - sizeOut (l.drop i) → more + sizeIn (l.drop i) ≤ 17592186044416 →
      Evs (fun k => edit_Back.l0 k x acc more l (l.length : Int) (i : Int)) (acc ++ backFrom x more (l.drop i), 0) := by
  induction d with
  | zero =>
    intro i last more acc hi _ _ _ _ _ _
    rw [List.drop_of_length_le (by omega)]
    refine Evs.succ (Evs.congr (fun k => ?_) (Evs.ret _))
    simp only [edit_Back.l0]
    rw [if_neg (by omega)]
    simp [backFrom]
  | succ d ih =>
    intro i last more acc hi hf hlast hlast2 hacc hm1 hm2
    have hlt : i < l.length := by omega
    have hd := List.drop_eq_getElem_cons hlt
    have hts := textSz_mem (List.getElem_mem hlt : l[i] ∈ l)
    rw [hd] at hf hm1 hm2 ⊢
    obtain ⟨h1, h2, h3, _, _, _, h7⟩ := fit_cons hf
    have hso := sizeOut_le h7 (by omega) h3
    have hsi := sizeIn_le (l.drop (i + 1))
    unfold sizeOut at hm1
    unfold sizeIn at hm2
    unfold backFrom
    have := ih (i + 1) (l[i]).f1 (more + ((linesB (l[i]).f2).length : Int) - (l[i]).f1 + (l[i]).f0) (acc ++ [⟨(l[i]).f0 + more, (l[i]).f0 + more + ((linesB (l[i]).f2).length : Int), mkB (catL ((x.take (l[i]).f1.toNat).drop (l[i]).f0.toNat))⟩]) (by omega) h7 (by omega) h3 (by simp [hacc]) (by omega) (by omega)
    rw [List.append_assoc] at this
    refine Evs.succ (Evs.congr (fun k => ?_) this)
    simp only [edit_Back.l0]
    rw [if_pos (by omega), if_pos (by omega), if_pos (by omega), rd33 l i hlt]
    have e : edit_Lines.f (l[i]).f2 = some (linesB (l[i]).f2) := by unfold edit_Lines.f; rw [if_pos (by omega)]
    have hln := lines_length (l[i]).f2
    rw [e, Option.bind_some, if_pos (by omega), if_pos (by omega), if_pos (by omega)]
    have ej : strings_Join.f ((x.take (l[i]).f1.toNat).drop (l[i]).f0.toNat) ⟨#[]⟩ = some (mkB (catL ((x.take (l[i]).f1.toNat).drop (l[i]).f0.toNat))) := by
      unfold strings_Join.f
      rw [if_pos ⟨rfl, by simp; omega, by have := catL_mid_le x (l[i]).f0.toNat (l[i]).f1.toNat; omega⟩]
      rfl
    rw [ej, Option.bind_some, if_pos (by omega), wrap_succ i (by omega), wrap_id ((l[i]).f0 + more) (by omega) (by omega), wrap_id ((l[i]).f0 + more + _) (by omega) (by omega), wrap_id ((l[i]).f1 - _) (by omega) (by omega), wrap_id (_ - _) (by omega) (by omega), wrap_id _ (by omega) (by omega)]
    have e2 : more + (((linesB (l[i]).f2).length : Int) - ((l[i]).f1 - (l[i]).f0)) = more + ((linesB (l[i]).f2).length : Int) - (l[i]).f1 + (l[i]).f0 := by omega
    rw [e2]
theorem refBack_l0 (x : List ByteArray) (l : List S33) (hl : l.length ≤ 1073741824) (hx : x.length ≤ 4398046511104) (hc : (catL x).length ≤ 4398046511104) (ht : textSz l ≤ 4398046511104) (d : Nat) :
    ∀ (i : Nat) (last more : Int) (acc : List S33), i + d = l.length → fitFrom x last (l.drop i) = true → -1 ≤ last → last ≤ (x.length : Int) → acc.length = i →
      -17592186044416 ≤ more - sizeOut (l.drop i) → more + sizeIn (l.drop i) ≤ 17592186044416 →
      Evs (fun k => regletref18_Back.l0 k l x acc more (i : Int)) (acc ++ backFrom x more (l.drop i), 0) := by
  induction d with
  | zero =>
    intro i last more acc hi _ _ _ _ _ _
    rw [List.drop_of_length_le (by omega)]
    refine Evs.succ (Evs.congr (fun k => ?_) (Evs.ret _))
    simp only [regletref18_Back.l0]
    rw [if_neg (by omega)]
    simp [backFrom]
  | succ d ih =>
    intro i last more acc hi hf hlast hlast2 hacc hm1 hm2
    have hlt : i < l.length := by omega
    have hd := List.drop_eq_getElem_cons hlt
    have hts := textSz_mem (List.getElem_mem hlt : l[i] ∈ l)
    rw [hd] at hf hm1 hm2 ⊢
    obtain ⟨h1, h2, h3, _, _, _, h7⟩ := fit_cons hf
    have hso := sizeOut_le h7 (by omega) h3
    have hsi := sizeIn_le (l.drop (i + 1))
    unfold sizeOut at hm1
    unfold sizeIn at hm2
    unfold backFrom
    have := ih (i + 1) (l[i]).f1 (more + ((linesB (l[i]).f2).length : Int) - (l[i]).f1 + (l[i]).f0) (acc ++ [⟨(l[i]).f0 + more, (l[i]).f0 + more + ((linesB (l[i]).f2).length : Int), mkB (catL ((x.take (l[i]).f1.toNat).drop (l[i]).f0.toNat))⟩]) (by omega) h7 (by omega) h3 (by simp [hacc]) (by omega) (by omega)
    rw [List.append_assoc] at this
    have hln := lines_length (l[i]).f2
    refine Evs.succ ?_
    simp only [regletref18_Back.l0]
    have c1 : ((i : Int) < (l.length : Int)) := by omega
    have c2 : (0 : Int) ≤ (i : Int) := by omega
    simp only [if_pos c1, if_pos c2, rd33 l i hlt]
    refine Evs.bind (refLines _ (by omega)) (Evs.bind (refJoin x _ _ (by omega) (by omega) (by omega) (by omega) (by have := catL_mid_le x (l[i]).f0.toNat (l[i]).f1.toNat; omega)) (Evs.congr (fun k => ?_) this))
    rw [if_pos (by omega), wrap_succ i (by omega), wrap_id ((l[i]).f0 + more) (by omega) (by omega), wrap_id ((l[i]).f0 + more + _) (by omega) (by omega), wrap_id (more + _) (by omega) (by omega), wrap_id (_ - _) (by omega) (by omega), wrap_id _ (by omega) (by omega)]
theorem Fits.back {s : ByteArray} {l : List S33} (h : Fits s l) : Evs (fun k => edit_Back.f k s l) (backR s l) := by
  unfold edit_Back.f backR
  rw [h.lines]
  simp only [Option.bind_some]
  refine Evs.bind h.fitE ?_
  have := h.t1; have := h.x1; have := h.s1
  by_cases hf : fitB (linesB s) l = true
  · simp only [if_pos hf]
    have hso := sizeOut_le hf (by omega) (by omega)
    have hsi := sizeIn_le l
    simpa using editBack_l0 (linesB s) l h.l1 h.x1 (by rw [h.cat]; exact h.s1) h.t1 l.length 0 (-1) 0 [] (by omega) hf (by omega) (by omega) rfl (by rw [List.drop_zero]; omega) (by rw [List.drop_zero]; omega)
  · simp only [if_neg hf]
    exact Evs.ret _
theorem Fits.backRef {s : ByteArray} {l : List S33} (h : Fits s l) : Evs (fun k => regletref18_Back.f k s l) (backR s l) := by
  unfold regletref18_Back.f backR
  refine Evs.bind (refLines s (by have := h.s1; omega)) (Evs.bind h.fitR ?_)
  have := h.t1; have := h.x1; have := h.s1
  by_cases hf : fitB (linesB s) l = true
  · simp only [if_pos hf]
    have hso := sizeOut_le hf (by omega) (by omega)
    have hsi := sizeIn_le l
    simpa using refBack_l0 (linesB s) l h.l1 h.x1 (by rw [h.cat]; exact h.s1) h.t1 l.length 0 (-1) 0 [] (by omega) hf (by omega) (by omega) rfl (by rw [List.drop_zero]; omega) (by rw [List.drop_zero]; omega)
  · simp only [if_neg hf]
    exact Evs.ret _
theorem backR_length (s : ByteArray) (l : List S33) : (backR s l).1.length ≤ l.length := by
  unfold backR
  split
  · simp [backFrom_length]
  · simp
end Go.Proofs.Ytmecmmpgkcileaa.Z
