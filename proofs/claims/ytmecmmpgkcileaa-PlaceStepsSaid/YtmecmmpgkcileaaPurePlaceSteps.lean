/- The plain statement of the law PlaceSteps: how a place's line and column change from one byte to the next. -/
import Derived.Test.YtmecmmpgkcileaaZ28
import Derived.Test.YtmecmmpgkcileaaPh
namespace Go.Proofs.Ytmecmmpgkcileaa.Pure
open Go.RowKit Go.Proofs.Ytmecmmpgkcileaa.Z Go.Proofs.YtmecmmpgkcileaaW.PrintWords Go.Proofs.YtmecmmpgkcileaaW.PrintLast

theorem alive20 : regletlaw20_alive.f = some true := by decide +kernel

theorem of_in {s : ByteArray} {n : Nat} (h : n ≤ s.size) : ofR s (n : Int) = ((cnt s n : Int), (col s n : Int), 0) := by
  unfold ofR; rw [if_neg (by omega), Int.toNat_natCast]

/-- Behind a line's end there is no column. -/
theorem no_more {s : ByteArray} (hs : s.size < 4611686018427387904) {n : Nat} (h : n ≤ s.size) (he : n = s.size ∨ isNl s n) :
    Evs (fun k => place_At.f k s (cnt s n : Int) ((col s n : Int) + 1)) (0, 2) := by
  obtain ⟨r, hr, hR⟩ := placeAt s hs (cnt s n : Int) ((col s n : Int) + 1)
  have : AtR s (cnt s n : Int) ((col s n : Int) + 1) (0, 2) := by
    refine .inr ⟨?_, rfl⟩
    rintro p ⟨h1, h2, h3⟩
    rcases Nat.lt_or_ge n p with hp | hp
    · rcases he with e | e
      · omega
      · have := step_nl e
        have := cnt_mono s (show n + 1 ≤ p by omega) h1
        omega
    · have := same_cnt hp h (by omega)
      omega
  rw [hR.same this] at hr
  exact hr

theorem PlaceSteps : regletlaw20_PlaceSteps.Pure := by
  intro s m _ wm
  have hm0 : 0 ≤ m ∧ m ≤ 65535 := by
    simp [Lit.wf] at wm
    have h1 : IntKind.min .u16 = 0 := by decide
    have h2 : IntKind.max .u16 = 65535 := by decide
    omega
  refine Evs.get (f := fun k => regletlaw20_PlaceSteps.f k s m) ?_
  unfold regletlaw20_PlaceSteps.f
  simp only [alive20, Option.bind_some]
  by_cases h : (s.size : Int) > 1000
  · simp only [if_pos h]
    refine Evs.succ (Evs.congr (fun k => ?_) (Evs.ret true))
    simp [regletlaw20_PlaceSteps.j0]
  · simp only [if_neg h, Bool.not_true]
    refine Evs.succ ?_
    have hsz : s.size < 4611686018427387904 := by omega
    have w1 : wrap64 ((s.size : Int) + 1) = ((s.size + 1 : Nat) : Int) := wrap_succ _ (by omega)
    have w2 : wrap64 m = m := by unfold wrap64; omega
    simp only [regletlaw20_PlaceSteps.j0, Bool.false_eq_true, if_false, w1, w2]
    have c0 : ¬ ((s.size + 1 : Nat) : Int) = 0 := by omega
    simp only [if_neg c0]
    obtain ⟨n, hn, hns⟩ : ∃ n : Nat, Int.tmod m ((s.size + 1 : Nat) : Int) = (n : Int) ∧ n ≤ s.size := by
      have h1 := Int.tmod_nonneg ((s.size + 1 : Nat) : Int) hm0.1
      have h2 := Int.tmod_lt_of_pos m (show (0 : Int) < ((s.size + 1 : Nat) : Int) by omega)
      exact ⟨(Int.tmod m ((s.size + 1 : Nat) : Int)).toNat, by omega, by omega⟩
    simp only [hn]
    clear hn w1 w2 c0 hm0 wm
    refine Evs.bind (placeOf s hsz (n : Int)) ?_
    rw [of_in hns]
    simp only [if_true]
    have hc := cnt_le s n
    have hl := col_le s hns
    have w3 : wrap64 ((col s n : Int) + 1) = ((col s n : Int) + 1) := by unfold wrap64; omega
    have w4 : wrap64 ((cnt s n : Int) + 1) = ((cnt s n : Int) + 1) := by unfold wrap64; omega
    have w5 : wrap64 ((n : Int) + 1) = ((n + 1 : Nat) : Int) := wrap_succ n (by omega)
    have key : Evs (fun k => regletlaw20_PlaceSteps.j1 k s true (n : Int) (cnt s n : Int) (col s n : Int) false) true := by
      refine Evs.succ ?_
      simp only [regletlaw20_PlaceSteps.j1, Bool.false_eq_true, if_false, if_true, w3, w4, w5]
      by_cases he : (n : Int) = (s.size : Int)
      · simp only [if_pos he]
        have hm := no_more hsz hns (.inl (show n = s.size by omega))
        have hp := placeOf s hsz ((n + 1 : Nat) : Int)
        refine Evs.bind hm (Evs.bind hp ?_)
        have e : ofR s ((n + 1 : Nat) : Int) = (0, 0, 2) := by unfold ofR; rw [if_pos (by omega)]
        rw [e]
        simpa using Evs.ret true
      · simp only [if_neg he]
        have hp := placeOf s hsz ((n + 1 : Nat) : Int)
        refine Evs.bind hp ?_
        have c1 : (0 : Int) ≤ (n : Int) := by omega
        have c2 : (n : Int) < (s.size : Int) := by omega
        simp only [if_pos c1, if_pos c2, of_in (show n + 1 ≤ s.size by omega)]
        by_cases hnl : isNl s n
        · simp only [if_pos ((nl_iff (show n < s.size by omega)).2 hnl)]
          have hm := no_more hsz hns (.inr hnl)
          refine Evs.bind hm ?_
          obtain ⟨e1, e2, _⟩ := step_nl hnl
          rw [e1, e2]
          simpa using Evs.ret true
        · simp only [if_neg (fun e => hnl ((nl_iff (show n < s.size by omega)).1 e))]
          obtain ⟨e1, e2⟩ := step_no hnl (by omega)
          rw [e1, e2]
          simpa using Evs.ret true
    by_cases hz : (n : Int) = 0
    · have hz' : n = 0 := by omega
      subst hz'
      have k1 := cnt_zero s
      have k2 := col_zero s
      have c3 : (cnt s 0 : Int) = 0 := by omega
      have c4 : ((col s 0 : Int) != 0) = false := by rw [k2]; rfl
      simp only [if_pos hz, if_pos c3, c4]
      exact key
    · simp only [if_neg hz]
      exact key
end Go.Proofs.Ytmecmmpgkcileaa.Pure
