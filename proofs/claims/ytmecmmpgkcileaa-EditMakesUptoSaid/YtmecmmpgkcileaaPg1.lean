/- Plain laws: what both chapter-18 programs make of a text and edits: applied, taken back, and counted. -/
import Derived.Test.YtmecmmpgkcileaaPe
import Derived.Test.YtmecmmpgkcileaaPb
import Derived.Test.YtmecmmpgkcileaaZ9
import Derived.Test.YtmecmmpgkcileaaGApply
namespace Go.Proofs.Ytmecmmpgkcileaa.Z
open Go.RowKit Go.Proofs.YtmecmmpgkcileaaW.PrintWords

/-! ### Apply -/
theorem refApply_l0 (x : List ByteArray) (l : List S33) (hx : x.length ≤ 4611686018427387904) (hl : l.length ≤ 4611686018427387904) (hsz : (catL x).length + textSz l ≤ 4611686018427387904) (d : Nat) :
    ∀ (i a : Nat) (last : Int) (acc : ByteArray), i + d = l.length → fitFrom x last (l.drop i) = true → (a : Int) ≤ last + 1 → a ≤ x.length → acc.size + (applyFrom x a (l.drop i)).length ≤ 4611686018427387904 →
      Evs (fun k => regletref18_Apply.l0 k l x acc (a : Int) (i : Int)) (mkB (acc.data.toList ++ applyFrom x a (l.drop i)), 0) := by
  induction d with
  | zero =>
    intro i a last acc hi hf ha hax hacc
    rw [List.drop_of_length_le (by omega)] at hacc ⊢
    have htk : (x.take ((x.length : Int)).toNat).drop ((a : Int)).toNat = x.drop a := by simp
    have hj := refJoin x (a : Int) (x.length : Int) (by omega) (by omega) (by omega) hx (by rw [htk]; have := catL_drop_le x a; omega)
    rw [htk] at hj
    refine Evs.succ ?_
    simp only [regletref18_Apply.l0]
    have c1 : ¬ ((i : Int) < (l.length : Int)) := by omega
    simp only [if_neg c1]
    refine Evs.bind hj ?_
    have c2 : acc.size + (mkB (catL (x.drop a))).size ≤ 9223372036854775807 := by rw [mkB_size]; simp only [applyFrom] at hacc; omega
    simp only [if_pos c2]
    have e : acc ++ mkB (catL (x.drop a)) = mkB (acc.data.toList ++ applyFrom x a []) := by
      rw [← mkB_of (acc ++ _), app_list]; rfl
    rw [e]
    exact Evs.ret _
  | succ d ih =>
    intro i a last acc hi hf ha hax hacc
    have hlt : i < l.length := by omega
    have hd := List.drop_eq_getElem_cons hlt
    have hmem : l[i] ∈ l := List.getElem_mem hlt
    have hts := textSz_mem hmem
    rw [hd] at hf hacc ⊢
    obtain ⟨h1, h2, h3, _, _, _, h7⟩ := fit_cons hf
    have hj := refJoin x (a : Int) (l[i]).f0 (by omega) (by omega) (by omega) hx (by have := catL_mid_le x ((a : Int)).toNat (l[i]).f0.toNat; omega)
    have hmid := catL_mid_le x a (l[i]).f0.toNat
    rw [Int.toNat_natCast] at hj
    unfold applyFrom at hacc ⊢
    rw [List.length_append, List.length_append, size_toList] at hacc
    refine Evs.succ ?_
    simp only [regletref18_Apply.l0]
    have c1 : ((i : Int) < (l.length : Int)) := by omega
    have c2 : (0 : Int) ≤ (i : Int) := by omega
    simp only [if_pos c1, if_pos c2, rd33 l i hlt]
    refine Evs.bind hj ?_
    have z1 : (acc ++ mkB (catL ((x.take (l[i]).f0.toNat).drop a))).size = acc.size + (catL ((x.take (l[i]).f0.toNat).drop a)).length := by
      rw [ByteArray.size_append, mkB_size]
    have c3 : acc.size + (mkB (catL ((x.take (l[i]).f0.toNat).drop a))).size ≤ 9223372036854775807 := by rw [mkB_size]; omega
    have c4 : (acc ++ mkB (catL ((x.take (l[i]).f0.toNat).drop a))).size + (l[i]).f2.size ≤ 9223372036854775807 := by rw [z1]; omega
    simp only [if_pos c3, if_pos c4]
    rw [wrap_succ i (by omega)]
    have e1 : (((l[i]).f1.toNat : Nat) : Int) = (l[i]).f1 := by omega
    have := ih (i + 1) (l[i]).f1.toNat (l[i]).f1 (acc ++ mkB (catL ((x.take (l[i]).f0.toNat).drop a)) ++ (l[i]).f2) (by omega) h7 (by omega) (by omega)
      (by rw [ByteArray.size_append, z1]; omega)
    rw [e1, app_list, app_list, mkB_toList, List.append_assoc, List.append_assoc] at this
    rw [List.append_assoc]
    exact this

theorem Fits.fitR {s : ByteArray} {l : List S33} (h : Fits s l) : Evs (fun k => regletref18_Fit.f k (linesB s) l) (fitB (linesB s) l) :=
  refFit _ _ (by have := h.x1; omega) (by have := h.l1; omega) h.xs h.mem
theorem Fits.applyRef {s : ByteArray} {l : List S33} (h : Fits s l) : Evs (fun k => regletref18_Apply.f k s l) (applyR s l) := by
  unfold regletref18_Apply.f applyR
  refine Evs.bind (refLines s (by have := h.s1; omega)) (Evs.bind h.fitR ?_)
  by_cases hf : fitB (linesB s) l = true
  · simp only [if_pos hf]
    have h3 := h.applyLen hf
    have := h.s1; have := h.t1
    unfold applyB at h3 ⊢
    simpa using refApply_l0 (linesB s) l (by have := h.x1; omega) (by have := h.l1; omega) (by have := h.cat; omega) l.length 0 0 (-1) ⟨#[]⟩ (by omega) hf (by omega) (by omega) (by show 0 + (applyFrom (linesB s) 0 l).length ≤ 4611686018427387904; omega)
  · simp only [if_neg hf]
    exact Evs.ret _

/-! ### Size -/
end Go.Proofs.Ytmecmmpgkcileaa.Z
