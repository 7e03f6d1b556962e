/- The plain statement of the law PlaceRises: places rise behind edits; each byte that stays stands where its place moves to, and from there it comes back. -/
import Derived.Test.YtmecmmpgkcileaaZ23
import Derived.Test.YtmecmmpgkcileaaPr
namespace Go.Proofs.Ytmecmmpgkcileaa.Pure
open Go.RowKit Go.Proofs.Ytmecmmpgkcileaa.Z Go.Proofs.YtmecmmpgkcileaaW.PrintWords Go.Proofs.YtmecmmpgkcileaaW.PrintLast

/-- What the inner loops ask of the ranges. -/
def RangeOk (s : ByteArray) (l : List S33) (t : ByteArray) (p : Nat) : Prop :=
  p < s.size ∧ ∃ m : Nat, place_Move.f s l (p : Int) = some ((m : Int), 0) ∧ place_From.f s l (m : Int) = some ((p : Int), true, 0) ∧ m < t.size ∧ bt t (m : Int) = bt s (p : Int)

theorem rises_l1 (s : ByteArray) (l : List S33) (t : ByteArray) (ks : List S64) (i : Nat) (hi : i < ks.length) (hs : s.size ≤ 2000) (hok : ∀ p : Nat, (ks[i]).f0 ≤ p → (p : Int) < (ks[i]).f1 → RangeOk s l t p)
    (hnext : Evs (fun k => regletlaw20_PlaceRises.l0 k s l true t ks ((i + 1 : Nat) : Int)) true) (hil : i < 4611686018427387904) (d : Nat) :
    ∀ n : Nat, (ks[i]).f0 ≤ n → (ks[i]).f1 ≤ (n : Int) + d → Evs (fun k => regletlaw20_PlaceRises.l1 k s l true t ks (i : Int) (n : Int)) true := by
  induction d with
  | zero =>
    intro n h1 h2
    refine Evs.succ (Evs.congr (fun k => ?_) hnext)
    simp only [regletlaw20_PlaceRises.l1]
    rw [if_pos (by omega), if_pos (by omega), rd64 ks i hi, if_neg (by omega), wrap_succ i (by omega)]
  | succ d ih =>
    intro n h1 h2
    by_cases hlt : (n : Int) < (ks[i]).f1
    · obtain ⟨hn, m, hm, hf, hmt, hb⟩ := hok n h1 hlt
      refine Evs.succ (Evs.congr (fun k => ?_) (ih (n + 1) (by omega) (by omega)))
      simp only [regletlaw20_PlaceRises.l1]
      rw [if_pos (by omega), if_pos (by omega), rd64 ks i hi, if_pos hlt, hm]
      simp only [Option.bind_some, hf]
      rw [if_pos trivial, if_pos trivial, if_neg (by omega), if_pos (by omega), if_pos (by omega), if_pos (by omega), if_pos (by omega), if_pos hb, if_pos trivial, if_pos trivial, wrap_succ n (by omega)]
    · refine Evs.succ (Evs.congr (fun k => ?_) hnext)
      simp only [regletlaw20_PlaceRises.l1]
      rw [if_pos (by omega), if_pos (by omega), rd64 ks i hi, if_neg hlt, wrap_succ i (by omega)]
theorem rises_l0 (s : ByteArray) (l : List S33) (t : ByteArray) (ks : List S64) (hs : s.size ≤ 2000) (hk : ks.length < 4611686018427387904) (h0 : ∀ e ∈ ks, 0 ≤ e.f0 ∧ e.f0 ≤ e.f1) (hok : ∀ p : Nat, In ks p → RangeOk s l t p) (d : Nat) :
    ∀ i : Nat, i + d = ks.length → Evs (fun k => regletlaw20_PlaceRises.l0 k s l true t ks (i : Int)) true := by
  induction d with
  | zero =>
    intro i hi
    refine Evs.succ (Evs.congr (fun k => ?_) (Evs.ret _))
    simp only [regletlaw20_PlaceRises.l0]
    rw [if_neg (by omega)]
  | succ d ih =>
    intro i hi
    have hlt : i < ks.length := by omega
    obtain ⟨e0, e1⟩ := h0 _ (List.getElem_mem hlt)
    obtain ⟨n, hn⟩ := Int.eq_ofNat_of_zero_le e0
    have := rises_l1 s l t ks i hlt hs (fun p h1 h2 => hok p ⟨_, List.getElem_mem hlt, h1, h2⟩) (ih (i + 1) (by omega)) (by omega) ((ks[i]).f1 - (ks[i]).f0).toNat n (by omega) (by omega)
    rw [← hn] at this
    refine Evs.succ (Evs.congr (fun k => ?_) this)
    simp only [regletlaw20_PlaceRises.l0]
    rw [if_pos (by omega), if_pos (by omega), rd64 ks i hlt]

theorem rises_ok {s : ByteArray} {l : List S33} (h : Small s l) (hf : fitB (linesB s) l = true) {p : Nat} (hp : In (keptB (linesB s) l s.size) p) : RangeOk s l (mkB (applyB (linesB s) l)) p := by
  obtain ⟨_, _, h3⟩ := h.ranges hf
  obtain ⟨hps, hst⟩ := h3 p hp
  obtain ⟨j, e1, e2, e3, e4⟩ := mv_kept (size_toList s) (h.cuts hf) 0 p (by omega) hps hst
  rw [← h.ap hf] at e2 e3
  rw [← moveB_eq] at e1
  rw [← fromB_eq] at e4
  have ej : ((0 : Nat) : Int) + 0 + (j : Int) = (j : Int) := by omega
  rw [ej] at e1 e4
  refine ⟨hps, j, ?_, ?_, by rw [mkB_size]; exact e2, ?_⟩
  · rw [h.move, if_pos hf, if_neg (by omega), e1]
  · rw [h.from_, if_pos hf, if_neg (by omega), e4]
  · have hp2 : p < s.data.toList.length := by rw [size_toList]; exact hps
    rw [Z.bt_at (mkB (applyB (linesB s) l)) j e2, Z.bt_at s p hp2]
    have : (applyB (linesB s) l)[j]? = some (s.data.toList[p]) := by rw [e3, List.getElem?_eq_getElem hp2]
    obtain ⟨_, hq⟩ := List.getElem?_eq_some_iff.1 this
    exact congrArg (fun u : UInt8 => (u.toNat : Int)) hq

theorem PlaceRises (s : ByteArray) (l : List S33) (a b : Int) (hl : l.length ≤ 4398046511104) (ht : ∀ e ∈ l, e.f2.size ≤ 140737488351232) : ∃ k, regletlaw20_PlaceRises.f k s l a b = some true := by
  refine Evs.get (f := fun k => regletlaw20_PlaceRises.f k s l a b) ?_
  unfold regletlaw20_PlaceRises.f
  simp only [alive20_true, Option.bind_some]
  obtain ⟨g, hg, hG⟩ := great_ev s l hl
  refine Evs.bind hg ?_
  have hdone : Evs (fun k => regletlaw20_PlaceRises.j0 k s l a b true true) true := by
    refine Evs.succ (Evs.congr (fun k => ?_) (Evs.ret true))
    simp [regletlaw20_PlaceRises.j0]
  cases g with
  | true => simpa using hdone
  | false =>
    simp only [Bool.false_eq_true, if_false, Bool.not_true]
    by_cases h : (s.size : Int) > 1000
    · simpa [h] using hdone
    · simp only [if_neg h]
      have hS : Small s l := Small.of (by omega) hl ht (hG rfl)
      have hleave : ∀ (t : ByteArray) (x y : Int), Evs (fun k => regletlaw20_PlaceRises.j1 k s l a b true t x y true) true := by
        intro t x y
        refine Evs.succ (Evs.congr (fun k => ?_) (Evs.ret true))
        simp [regletlaw20_PlaceRises.j1]
      refine Evs.succ ?_
      simp only [regletlaw20_PlaceRises.j0, Bool.false_eq_true, if_false, hS.apply, hS.move, Option.bind_some]
      by_cases hf : fitB (linesB s) l = true
      · have hR : applyR s l = (mkB (applyB (linesB s) l), 0) := by unfold applyR; rw [if_pos hf]
        simp only [hf, hR, if_true]
        by_cases ha : a < 0 ∨ (s.size : Int) < a
        · simp only [if_pos ha, Option.bind_some]
          by_cases hb : b < 0 ∨ (s.size : Int) < b
          · simp only [if_pos hb, Option.bind_some]
            simpa using hleave _ _ _
          · simp only [if_neg hb, Option.bind_some]
            simpa using hleave _ _ _
        · simp only [if_neg ha, Option.bind_some]
          by_cases hb : b < 0 ∨ (s.size : Int) < b
          · simp only [if_pos hb, Option.bind_some]
            simpa using hleave _ _ _
          · simp only [if_neg hb, Option.bind_some]
            have hcut := hS.cuts hf
            obtain ⟨r1, r2⟩ := mv_range (size_toList s) hcut 0 a (by omega) (by omega)
            have hm := mv_mono (size_toList s) hcut 0 a b (by omega)
            rw [← moveB_eq] at r1 r2 hm
            rw [← moveB_eq] at hm
            rw [← hS.ap hf] at r2
            have e0 : ¬ moveB (linesB s) l a < 0 := by omega
            have e1 : ¬ moveB (linesB s) l a > ((mkB (applyB (linesB s) l)).size : Int) := by rw [mkB_size]; omega
            obtain ⟨k1, k2, k3⟩ := hS.ranges hf
            have hl0 := rises_l0 s l (mkB (applyB (linesB s) l)) (keptB (linesB s) l s.size) hS.s1 (by
              have := keepStep_length (keepCuts (cutsB (linesB s) l)).1 (keepCuts (cutsB (linesB s) l)).2 (s.size : Int)
              have h2 := keepCuts_length (cutsB (linesB s) l)
              have h3 : (cutsB (linesB s) l).length = l.length := by unfold cutsB; rw [List.length_map]
              unfold keptB
              omega) (fun e he => by have := k1.each e he; omega) (fun p hp => rises_ok hS hf hp) _ 0 (by rw [Nat.zero_add])
            have hj2 : Evs (fun k => regletlaw20_PlaceRises.j2 k s l true (mkB (applyB (linesB s) l)) false) true := by
              refine Evs.succ (Evs.congr (fun k => ?_) hl0)
              simp only [regletlaw20_PlaceRises.j2, hS.kept, hf, if_true, Option.bind_some, Bool.false_eq_true, if_false]
              rfl
            have hd : decide (moveB (linesB s) l a > ((mkB (applyB (linesB s) l)).size : Int)) = false := decide_eq_false e1
            have hj1 : Evs (fun k => regletlaw20_PlaceRises.j1 k s l a b true (mkB (applyB (linesB s) l)) (moveB (linesB s) l a) (moveB (linesB s) l b) false) true := by
              refine Evs.succ (Evs.congr (fun k => ?_) hj2)
              simp only [regletlaw20_PlaceRises.j1, Bool.false_eq_true, if_false]
              by_cases hab : a ≤ b
              · have h3 := hm hab (by omega)
                rw [if_pos hab, if_neg (by omega), if_neg e0, hd]
              · rw [if_neg hab, if_neg e0, hd]
            simpa using hj1
      · simp only [hf, Bool.false_eq_true, if_false]
        have hR : applyR s l = (⟨#[]⟩, 180) := by unfold applyR; rw [if_neg hf]
        simp only [hR]
        simpa using hleave _ _ _
end Go.Proofs.Ytmecmmpgkcileaa.Pure
