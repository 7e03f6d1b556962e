/- The plain statement of the law PlaceKept: what stays rises, and is all but the lines that are taken out. -/
import Derived.Test.YtmecmmpgkcileaaZ24
import Derived.Test.YtmecmmpgkcileaaPr
namespace Go.Proofs.Ytmecmmpgkcileaa.Pure
open Go.RowKit Go.Proofs.Ytmecmmpgkcileaa.Z Go.Proofs.YtmecmmpgkcileaaW.PrintWords Go.Proofs.YtmecmmpgkcileaaW.PrintLast

theorem total_nonneg {l : List S64} (h : ∀ e ∈ l, e.f0 < e.f1) : 0 ≤ total l := by
  induction l with
  | nil => exact Int.le_refl _
  | cons e r ih =>
    simp only [total]
    have := h e (by simp)
    have := ih fun d hd => h d (by simp [hd])
    omega
theorem wrap_small (z : Int) (h0 : -4611686018427387904 ≤ z) (h1 : z ≤ 4611686018427387904) : wrap64 z = z := by unfold wrap64; omega

theorem kept_l2 (s : ByteArray) (ks : List S64) (t : ByteArray) (G P : Nat) (hs : s.size ≤ 2000) (hP : P ≤ 2000) (hR : Rising ks s.size) (hk : ks.length < 4611686018427387904)
    (hG : total ks + (G : Int) = (s.size : Int)) (ht : (t.size : Int) = total ks + (P : Int)) (d : Nat) :
    ∀ (i : Nat) (m last : Int), i + d = ks.length → 0 ≤ m → m + total (ks.drop i) = total ks → -1 ≤ last → (∀ e ∈ ks.drop i, last < e.f0) →
      Evs (fun k => regletlaw20_PlaceKept.l2 k s true ks t (G : Int) (P : Int) m last (ks.length : Int) (i : Int)) true := by
  have hnn := total_nonneg (l := ks) (fun e he => (hR.each e he).2.1)
  induction d with
  | zero =>
    intro i m last hi h0 hm _ _
    rw [List.drop_of_length_le (by omega)] at hm
    simp only [total] at hm
    have e1 : m = wrap64 ((s.size : Int) - (G : Int)) := by rw [wrap_small _ (by omega) (by omega)]; omega
    have e2 : ((t.size : Int) == wrap64 (m + (P : Int))) = true := by rw [wrap_small _ (by omega) (by omega), beq_iff_eq]; omega
    refine Evs.succ (Evs.congr (fun k => ?_) (Evs.ret true))
    simp only [regletlaw20_PlaceKept.l2]
    rw [if_neg (by omega), if_pos trivial, if_pos e1, e2]
  | succ d ih =>
    intro i m last hi h0 hm hl hlast
    have hlt : i < ks.length := by omega
    have hd := List.drop_eq_getElem_cons hlt
    rw [hd] at hm hlast
    obtain ⟨g0, g1, g2⟩ := hR.each _ (List.getElem_mem hlt)
    have hrest : ∀ e ∈ ks.drop (i + 1), (ks[i]).f1 < e.f0 := by
      have hp := hR.rise.sublist (List.drop_sublist i ks)
      rw [hd] at hp
      exact (List.pairwise_cons.1 hp).1
    have hnr := total_nonneg (l := ks.drop (i + 1)) (fun e he => (hR.each e (List.mem_of_mem_drop he)).2.1)
    simp only [total] at hm
    have hl1 := hlast _ (List.mem_cons_self)
    have := ih (i + 1) (m + (ks[i]).f1 - (ks[i]).f0) (ks[i]).f1 (by omega) (by omega) (by omega) (by omega) hrest
    refine Evs.succ (Evs.congr (fun k => ?_) this)
    simp only [regletlaw20_PlaceKept.l2]
    rw [if_pos (by omega), if_pos (by omega), if_pos (by omega), rd64 ks i hlt, if_neg (by omega), if_neg (by omega), if_neg (by omega), wrap_succ i (by omega),
      wrap_small (m + (ks[i]).f1) (by omega) (by omega), wrap_small (m + (ks[i]).f1 - (ks[i]).f0) (by omega) (by omega)]

theorem kept_l1 (s : ByteArray) (l : List S33) (ks : List S64) (t : ByteArray) (len : Int) (i : Nat) (hi : i < l.length) (hil : i < 4611686018427387904) (hs : s.size ≤ 2000) (p : Int) (g' : Int)
    (h1 : 0 ≤ (l[i]).f0) (h2 : (l[i]).f0 ≤ (l[i]).f1) (h3 : (l[i]).f1 ≤ ((linesB s).length : Int)) (hg' : g' ≤ 2000)
    (hnext : Evs (fun k => regletlaw20_PlaceKept.l0 k s l true ks t (linesB s) g' (wrap64 (p + ((l[i]).f2.size : Int))) len ((i + 1 : Nat) : Int)) true) (d : Nat) :
    ∀ (n : Nat) (g : Int), (n : Int) + d = (l[i]).f1 → 0 ≤ g → g + (begB (linesB s) (l[i]).f1.toNat : Int) = g' + (begB (linesB s) n : Int) →
      Evs (fun k => regletlaw20_PlaceKept.l1 k s l true ks t (linesB s) g p (i : Int) (n : Int) len (i : Int)) true := by
  have hxl := lines_length s
  induction d with
  | zero =>
    intro n g hn _ hg
    have e : (l[i]).f1.toNat = n := by omega
    rw [e] at hg
    have e2 : g = g' := by omega
    subst e2
    refine Evs.succ (Evs.congr (fun k => ?_) hnext)
    simp only [regletlaw20_PlaceKept.l1]
    rw [if_pos (by omega), if_pos (by omega), rd33 l i hi, if_neg (by omega), wrap_succ i (by omega)]
  | succ d ih =>
    intro n g hn h0 hg
    have hlt : n < (linesB s).length := by omega
    have hb := begB_succ (linesB s) n hlt
    have hm := begB_mono (linesB s) (show n + 1 ≤ (l[i]).f1.toNat by omega)
    have := ih (n + 1) (g + ((linesB s)[n].size : Int)) (by omega) (by omega) (by omega)
    refine Evs.succ (Evs.congr (fun k => ?_) this)
    simp only [regletlaw20_PlaceKept.l1]
    have hrd : rdOf ByteArray.empty (linesB s) (n : Int) = (linesB s)[n] := by
      unfold rdOf
      rw [Int.toNat_natCast, List.getD_eq_getElem?_getD, List.getElem?_eq_getElem hlt]; rfl
    rw [if_pos (by omega), if_pos (by omega), rd33 l i hi, if_pos (by omega), if_pos (by omega), if_pos (by omega), hrd, wrap_succ n (by omega), wrap_small _ (by omega) (by omega)]

theorem kept_l0 (s : ByteArray) (l : List S33) (ks : List S64) (t : ByteArray) (G P : Nat) (hs : s.size ≤ 2000) (hP : P ≤ 2000) (hGs : G ≤ 2000) (hR : Rising ks s.size) (hk : ks.length < 4611686018427387904) (hll : l.length < 4611686018427387904)
    (hG : total ks + (G : Int) = (s.size : Int)) (ht : (t.size : Int) = total ks + (P : Int)) (htx : ∀ e ∈ l, e.f2.size ≤ 2000) (d : Nat) :
    ∀ (i : Nat) (last g p : Int), i + d = l.length → fitFrom (linesB s) last (l.drop i) = true → -1 ≤ last → 0 ≤ g → 0 ≤ p → g + (gone (withTexts (linesB s) (l.drop i)) : Int) = G → p + (textSz (l.drop i) : Int) = P →
      Evs (fun k => regletlaw20_PlaceKept.l0 k s l true ks t (linesB s) g p (l.length : Int) (i : Int)) true := by
  induction d with
  | zero =>
    intro i last g p hi _ _ _ _ hg hp
    rw [List.drop_of_length_le (by omega)] at hg hp
    have e1 : g = (G : Int) := by simpa [withTexts, gone] using hg
    have e2 : p = (P : Int) := by simpa [textSz] using hp
    subst e1 e2
    have := kept_l2 s ks t G P hs hP hR hk hG ht ks.length 0 0 (-1) (by omega) (by omega) (by rw [List.drop_zero]; omega) (by omega) (fun e he => by have := hR.each e (List.mem_of_mem_drop he); omega)
    refine Evs.succ (Evs.congr (fun k => ?_) this)
    simp only [regletlaw20_PlaceKept.l0]
    rw [if_neg (by omega)]
    rfl
  | succ d ih =>
    intro i last g p hi hf hl h0 h1 hg hp
    have hlt : i < l.length := by omega
    have hd := List.drop_eq_getElem_cons hlt
    rw [hd] at hf hg hp
    obtain ⟨f1, f2, f3, _, _, _, f7⟩ := fit_cons hf
    have hmem : l[i] ∈ l := List.getElem_mem hlt
    obtain ⟨c1, c2, c3⟩ := cutOf_fit (s := s) (by omega) (by have := htx _ hmem; omega) f2
    rw [textSz_cons] at hp
    have hgc : gone (withTexts (linesB s) (l[i] :: l.drop (i + 1))) = (begB (linesB s) (l[i]).f1.toNat - begB (linesB s) (l[i]).f0.toNat) + gone (withTexts (linesB s) (l.drop (i + 1))) := by
      show ((cutOf (linesB s) l[i]).to_ - (cutOf (linesB s) l[i]).from_) + _ = _
      rw [c1, c2]; rfl
    rw [hgc] at hg
    have hm := begB_mono (linesB s) (show (l[i]).f0.toNat ≤ (l[i]).f1.toNat by omega)
    obtain ⟨n, hn⟩ := Int.eq_ofNat_of_zero_le (show 0 ≤ (l[i]).f0 by omega)
    have hnn : (l[i]).f0.toNat = n := by omega
    rw [hnn] at hg hm
    have w : wrap64 (p + ((l[i]).f2.size : Int)) = p + ((l[i]).f2.size : Int) := wrap_small _ (by omega) (by omega)
    have hnext := ih (i + 1) (l[i]).f1 (g + ((begB (linesB s) (l[i]).f1.toNat - begB (linesB s) n : Nat) : Int)) (p + ((l[i]).f2.size : Int)) (by omega) f7 (by omega) (by omega) (by omega) (by omega) (by omega)
    rw [← w] at hnext
    have := kept_l1 s l ks t (l.length : Int) i hlt (by omega) hs p (g + ((begB (linesB s) (l[i]).f1.toNat - begB (linesB s) n : Nat) : Int)) (by omega) f2 f3 (by omega) hnext ((l[i]).f1 - n).toNat n g (by omega) h0 (by omega)
    rw [← hn] at this
    refine Evs.succ (Evs.congr (fun k => ?_) this)
    simp only [regletlaw20_PlaceKept.l0]
    rw [if_pos (by omega), if_pos (by omega), if_pos (by omega), rd33 l i hlt]

theorem puts_eq (x : List ByteArray) (l : List S33) (h : ∀ e ∈ l, (cutOf x e).put = e.f2.size) : puts (withTexts x l) = textSz l := by
  induction l with
  | nil => rfl
  | cons e r ih =>
    rw [textSz_cons]
    show (cutOf x e).put + puts (withTexts x r) = _
    rw [h e (by simp), ih fun d hd => h d (by simp [hd])]

theorem PlaceKept (s : ByteArray) (l : List S33) (hl : l.length ≤ 4398046511104) (ht : ∀ e ∈ l, e.f2.size ≤ 140737488351232) : ∃ k, regletlaw20_PlaceKept.f k s l = some true := by
  refine Evs.get (f := fun k => regletlaw20_PlaceKept.f k s l) ?_
  unfold regletlaw20_PlaceKept.f
  simp only [alive20_true, Option.bind_some]
  obtain ⟨g, hg, hG⟩ := great_ev s l hl
  refine Evs.bind hg ?_
  have hdone : Evs (fun k => regletlaw20_PlaceKept.j0 k s l true true) true := by
    refine Evs.succ (Evs.congr (fun k => ?_) (Evs.ret true))
    simp [regletlaw20_PlaceKept.j0]
  cases g with
  | true => simpa using hdone
  | false =>
    simp only [Bool.false_eq_true, if_false, Bool.not_true]
    by_cases h : (s.size : Int) > 1000
    · simpa [h] using hdone
    · simp only [if_neg h]
      have hS : Small s l := Small.of (by omega) hl ht (hG rfl)
      refine Evs.succ ?_
      simp only [regletlaw20_PlaceKept.j0, Bool.false_eq_true, if_false, hS.apply, hS.kept]
      by_cases hf : fitB (linesB s) l = true
      · have hR : applyR s l = (mkB (applyB (linesB s) l), 0) := by unfold applyR; rw [if_pos hf]
        simp only [hf, hR, if_true, Option.bind_some]
        obtain ⟨k1, k2, _⟩ := hS.ranges hf
        have hap := (ap_length (size_toList s) (hS.cuts hf)).1
        rw [← hS.ap hf] at hap
        have hpe := puts_eq (linesB s) l (fun e he => (cutOf_fit (s := s) (by have := hS.s1; omega) (by have := hS.text hf e he; omega) (fit_later (last := -1) hf e he).2.1).2.2)
        rw [hpe] at hap
        have hsum := hS.sum hf
        have htg := textSz_gsum l
        have hkl : (keptB (linesB s) l s.size).length < 4611686018427387904 := by
          have := keepStep_length (keepCuts (cutsB (linesB s) l)).1 (keepCuts (cutsB (linesB s) l)).2 (s.size : Int)
          have h2 := keepCuts_length (cutsB (linesB s) l)
          have h3 : (cutsB (linesB s) l).length = l.length := by unfold cutsB; rw [List.length_map]
          unfold keptB
          omega
        have hnn := total_nonneg (l := keptB (linesB s) l s.size) (fun e he => (k1.each e he).2.1)
        have hl0 := kept_l0 s l (keptB (linesB s) l s.size) (mkB (applyB (linesB s) l)) (gone (withTexts (linesB s) l)) (textSz l) hS.s1 (by omega) (by omega) k1 hkl (by omega) k2 (by rw [mkB_size]; omega) (hS.text hf) l.length 0 (-1) 0 0 (by omega) hf (by omega) (by omega) (by omega) (by rw [List.drop_zero]; omega) (by rw [List.drop_zero]; omega)
        have hln : edit_Lines.f s = some (linesB s) := by unfold edit_Lines.f; rw [if_pos (by have := hS.s1; omega)]
        have hj : Evs (fun k => regletlaw20_PlaceKept.j1 k s l true (keptB (linesB s) l s.size) 0 (mkB (applyB (linesB s) l)) 0 false) true := by
          refine Evs.succ (Evs.congr (fun k => ?_) hl0)
          simp only [regletlaw20_PlaceKept.j1, Bool.false_eq_true, if_false, hln, Option.bind_some]
          rfl
        simpa using hj
      · have hR : applyR s l = (⟨#[]⟩, 180) := by unfold applyR; rw [if_neg hf]
        simp only [hf, hR, Bool.false_eq_true, if_false, Option.bind_some]
        have hj : Evs (fun k => regletlaw20_PlaceKept.j1 k s l true [] 180 ⟨#[]⟩ 180 true) true := by
          refine Evs.succ (Evs.congr (fun k => ?_) (Evs.ret true))
          simp [regletlaw20_PlaceKept.j1]
        simpa using hj
end Go.Proofs.Ytmecmmpgkcileaa.Pure
