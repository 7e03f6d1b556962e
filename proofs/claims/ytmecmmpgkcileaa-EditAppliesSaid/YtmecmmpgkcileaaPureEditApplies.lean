/- The plain statement of the law EditApplies: proved by what both programs' parts come to. -/
import Derived.Test.YtmecmmpgkcileaaZ11
import Derived.Test.YtmecmmpgkcileaaPg
namespace Go.Proofs.Ytmecmmpgkcileaa.Pure
open Go.RowKit Go.Proofs.Ytmecmmpgkcileaa.Z Go.Proofs.YtmecmmpgkcileaaW.PrintWords Go.Proofs.YtmecmmpgkcileaaW.PrintLast

theorem textSz_le {l : List S33} {m : Nat} (h : ∀ e ∈ l, e.f2.size ≤ m) : textSz l ≤ l.length * m := by
  induction l with
  | nil => simp [textSz]
  | cons a l ih =>
    rw [textSz_cons, List.length_cons, Nat.add_mul]
    have := h a (by simp)
    have := ih fun e he => h e (by simp [he])
    omega

theorem EditApplies_l0 (s : ByteArray) (l : List S33) (hs : s.size ≤ 2000) (hl : l.length ≤ 50) (d : Nat) :
    ∀ i : Nat, i + d = l.length → (∀ j (h : j < l.length), j < i → (l[j]).f2.size ≤ 500) → Evs (fun k => regletlaw18_EditApplies.l0 k s l (i : Int)) true := by
  induction d with
  | zero =>
    intro i hi hj
    have hall : ∀ e ∈ l, e.f2.size ≤ 500 := by
      intro e he
      obtain ⟨j, hjl, rfl⟩ := List.getElem_of_mem he
      exact hj j hjl (by omega)
    have hf : Fits s l := ⟨by omega, by omega, by have := textSz_le hall; omega⟩
    refine Evs.succ ?_
    simp only [regletlaw18_EditApplies.l0]
    have c1 : ¬ ((i : Int) < (l.length : Int)) := by omega
    simp only [if_neg c1, hf.apply, Option.bind_some]
    refine Evs.bind hf.applyRef (Evs.bind hf.back (Evs.bind hf.backRef (Evs.bind hf.size (Evs.bind hf.sizeRef ?_))))
    simp only [if_true]
    refine Evs.bind (refSame_refl _ (by have := backR_length s l; omega)) ?_
    simpa using Evs.ret true
  | succ d ih =>
    intro i hi hj
    have hlt : i < l.length := by omega
    refine Evs.succ ?_
    simp only [regletlaw18_EditApplies.l0]
    have c1 : ((i : Int) < (l.length : Int)) := by omega
    have c2 : (0 : Int) ≤ (i : Int) := by omega
    simp only [if_pos c1, if_pos c2, rd33 l i hlt]
    by_cases h : ((l[i]).f2.size : Int) > 500
    · simp only [if_pos h]; exact Evs.ret _
    · simp only [if_neg h]
      rw [wrap_succ i (by omega)]
      refine ih (i + 1) (by omega) fun j hjl hji => ?_
      by_cases e : j = i
      · subst e; omega
      · exact hj j hjl (by omega)

theorem EditApplies (s : ByteArray) (l : List S33) : ∃ k, regletlaw18_EditApplies.f k s l = some true := by
  refine Evs.get (f := fun k => regletlaw18_EditApplies.f k s l) ?_
  unfold regletlaw18_EditApplies.f
  by_cases h : (s.size : Int) > 2000
  · simp only [if_pos h]
    refine Evs.succ ?_
    simp only [regletlaw18_EditApplies.j0, if_true]
    exact Evs.ret _
  · simp only [if_neg h]
    refine Evs.succ ?_
    simp only [regletlaw18_EditApplies.j0]
    by_cases h2 : (l.length : Int) > 50
    · simp only [h2, decide_true, if_true]
      exact Evs.ret _
    · simp only [h2, decide_false, Bool.false_eq_true, if_false]
      exact EditApplies_l0 s l (by omega) (by omega) l.length 0 (by omega) (fun j _ h => by omega)
end Go.Proofs.Ytmecmmpgkcileaa.Pure
