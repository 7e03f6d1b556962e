/- The plain statement of the law PlaceBack: a byte that stays, moved on by edits and then by those that take them back, is where it was. -/
import Derived.Test.YtmecmmpgkcileaaZ25
import Derived.Test.YtmecmmpgkcileaaPv
import Derived.Test.YtmecmmpgkcileaaPr
namespace Go.Proofs.Ytmecmmpgkcileaa.Pure
open Go.RowKit Go.Proofs.Ytmecmmpgkcileaa.Z Go.Proofs.YtmecmmpgkcileaaW.PrintWords Go.Proofs.YtmecmmpgkcileaaW.PrintLast

theorem mid_length (x : List ByteArray) {a b : Nat} (h : a ≤ b) : (catL ((x.take b).drop a)).length + begB x a = begB x b := by
  have := catL_mid_drop (x.take b) 0 a (by omega)
  rw [List.drop_zero, List.take_take, Nat.min_eq_left h, List.drop_zero] at this
  unfold begB
  rw [this, List.length_append]
  omega

theorem back_cuts (s : ByteArray) (hs : s.size ≤ 1048576) (Z : List ByteArray) (hZ : (catL Z).length ≤ 1048576) (l : List S33) : ∀ {last more : Int} {a : Nat} {pre : List ByteArray}, (∀ e ∈ l, e.f2.size ≤ 1048576) → fitFrom (linesB s) last l = true → -1 ≤ last → (a : Int) ≤ last + 1 → At2 (linesB s) Z l a more pre →
    BackCuts (((catL pre).length : Int) - (begB (linesB s) a : Int)) (cutsB (linesB s) l) (cutsB Z (backFrom (linesB s) more l)) := by
  induction l with
  | nil => intro last more a pre _ _ _ _ _; exact .nil
  | cons e r ih =>
    intro last more a pre ht hf h0 ha h
    obtain ⟨h1, h2, h3, _, _, _, h7⟩ := fit_cons hf
    obtain ⟨m1, m2, m3, m4⟩ := h.mid (by omega) h2 h3
    have hst := h.step (by omega) h2 h3
    have hsl := hst.len
    obtain ⟨c1, c2, c3⟩ := cutOf_fit hs (ht e (by simp)) h2
    have hi := ih (fun d hd => ht d (by simp [hd])) h7 (by omega) (by omega) hst
    have hma := mid_length (linesB s) (show a ≤ e.f0.toNat by omega)
    have hmt := mid_length (linesB s) (show e.f0.toNat ≤ e.f1.toNat by omega)
    have hb0 : begB Z (e.f0 + more).toNat = (catL pre).length + (catL (((linesB s).take e.f0.toNat).drop a)).length := by
      unfold begB; rw [m1, catL_append, List.length_append]
    have htk : Z.take (e.f0 + more + ((linesB e.f2).length : Int)).toNat = pre ++ ((linesB s).take e.f0.toNat).drop a ++ linesB e.f2 := by
      have e1 : (e.f0 + more + ((linesB e.f2).length : Int)).toNat = (pre ++ ((linesB s).take e.f0.toNat).drop a ++ linesB e.f2).length := by omega
      rw [e1, hst.eq, List.take_left' rfl]
    have hcl : (catL (linesB e.f2)).length = e.f2.size := by rw [catL_linesB, size_toList]
    have hb1 : begB Z (e.f0 + more + ((linesB e.f2).length : Int)).toNat = (catL pre).length + (catL (((linesB s).take e.f0.toNat).drop a)).length + e.f2.size := by
      unfold begB; rw [htk, catL_append, catL_append, List.length_append, List.length_append, hcl]
    have hsz : (catL (((linesB s).take e.f1.toNat).drop e.f0.toNat)).length ≤ 1048576 := by
      have := catL_mid_le (linesB s) e.f0.toNat e.f1.toNat
      rw [catL_linesB, size_toList] at this
      omega
    have hcut : cutOf Z ⟨e.f0 + more, e.f0 + more + ((linesB e.f2).length : Int), mkB (catL (((linesB s).take e.f1.toNat).drop e.f0.toNat))⟩ =
        ⟨begB Z (e.f0 + more).toNat, begB Z (e.f0 + more + ((linesB e.f2).length : Int)).toNat, (catL (((linesB s).take e.f1.toNat).drop e.f0.toNat)).length, ⟨begB_mono _ (by omega), Nat.le_trans (begB_le _ _) hZ, hsz⟩⟩ := by
      unfold cutOf
      rw [dif_pos ⟨begB_mono _ (by simp only; omega), Nat.le_trans (begB_le _ _) hZ, by rw [mkB_size]; exact hsz⟩]
      rfl
    show BackCuts _ (cutOf (linesB s) e :: cutsB (linesB s) r) (cutOf Z _ :: cutsB Z _)
    rw [hcut]
    refine BackCuts.cons ?_ ?_ ?_ ?_
    · simp only; rw [c1, hb0]; omega
    · simp only; rw [c1, c3, hb1]; omega
    · simp only; rw [c1, c2]; omega
    · have eo : ((catL pre).length : Int) - (begB (linesB s) a : Int) + (cutOf (linesB s) e).more = ((catL (pre ++ ((linesB s).take e.f0.toNat).drop a ++ linesB e.f2)).length : Int) - (begB (linesB s) e.f1.toNat : Int) := by
        unfold Cut3.more
        rw [c1, c2, c3, catL_append, catL_append, List.length_append, List.length_append, hcl]
        omega
      rw [eo]
      exact hi

/-- What the inner loops ask of the ranges. -/
def BackOk (s : ByteArray) (l : List S33) (t : ByteArray) (b : List S33) (p : Nat) : Prop :=
  ∃ m : Int, place_Move.f s l (p : Int) = some (m, 0) ∧ place_Move.f t b m = some ((p : Int), 0) ∧ p < s.size

theorem back_l1 (s : ByteArray) (l : List S33) (t : ByteArray) (b : List S33) (ks : List S64) (i : Nat) (hi : i < ks.length) (hs : s.size ≤ 2000) (hok : ∀ p : Nat, (ks[i]).f0 ≤ p → (p : Int) < (ks[i]).f1 → BackOk s l t b p)
    (hnext : Evs (fun k => regletlaw20_PlaceBack.l0 k s l true t b ks ((i + 1 : Nat) : Int)) true) (hil : i < 4611686018427387904) (d : Nat) :
    ∀ n : Nat, (ks[i]).f0 ≤ n → (ks[i]).f1 ≤ (n : Int) + d → Evs (fun k => regletlaw20_PlaceBack.l1 k s l true t b ks (i : Int) (n : Int)) true := by
  induction d with
  | zero =>
    intro n h1 h2
    refine Evs.succ (Evs.congr (fun k => ?_) hnext)
    simp only [regletlaw20_PlaceBack.l1]
    rw [if_pos (by omega), if_pos (by omega), rd64 ks i hi, if_neg (by omega), wrap_succ i (by omega)]
  | succ d ih =>
    intro n h1 h2
    by_cases hlt : (n : Int) < (ks[i]).f1
    · obtain ⟨m, hm, hf, hn⟩ := hok n h1 hlt
      refine Evs.succ (Evs.congr (fun k => ?_) (ih (n + 1) (by omega) (by omega)))
      simp only [regletlaw20_PlaceBack.l1]
      rw [if_pos (by omega), if_pos (by omega), rd64 ks i hi, if_pos hlt, hm]
      simp only [Option.bind_some, hf]
      rw [if_pos trivial, if_pos trivial, if_pos trivial, wrap_succ n (by omega)]
    · refine Evs.succ (Evs.congr (fun k => ?_) hnext)
      simp only [regletlaw20_PlaceBack.l1]
      rw [if_pos (by omega), if_pos (by omega), rd64 ks i hi, if_neg hlt, wrap_succ i (by omega)]
theorem back_l0 (s : ByteArray) (l : List S33) (t : ByteArray) (b : List S33) (ks : List S64) (hs : s.size ≤ 2000) (hk : ks.length < 4611686018427387904) (h0 : ∀ e ∈ ks, 0 ≤ e.f0 ∧ e.f0 ≤ e.f1) (hok : ∀ p : Nat, In ks p → BackOk s l t b p) (d : Nat) :
    ∀ i : Nat, i + d = ks.length → Evs (fun k => regletlaw20_PlaceBack.l0 k s l true t b ks (i : Int)) true := by
  induction d with
  | zero =>
    intro i hi
    refine Evs.succ (Evs.congr (fun k => ?_) (Evs.ret _))
    simp only [regletlaw20_PlaceBack.l0]
    rw [if_neg (by omega)]
  | succ d ih =>
    intro i hi
    have hlt : i < ks.length := by omega
    obtain ⟨e0, e1⟩ := h0 _ (List.getElem_mem hlt)
    obtain ⟨n, hn⟩ := Int.eq_ofNat_of_zero_le e0
    have := back_l1 s l t b ks i hlt hs (fun p h1 h2 => hok p ⟨_, List.getElem_mem hlt, h1, h2⟩) (ih (i + 1) (by omega)) (by omega) ((ks[i]).f1 - (ks[i]).f0).toNat n (by omega) (by omega)
    rw [← hn] at this
    refine Evs.succ (Evs.congr (fun k => ?_) this)
    simp only [regletlaw20_PlaceBack.l0]
    rw [if_pos (by omega), if_pos (by omega), rd64 ks i hlt]

theorem back_texts (s : ByteArray) (l : List S33) : ∀ more : Int, ∀ e ∈ backFrom (linesB s) more l, e.f2.size ≤ s.size := by
  induction l with
  | nil => intro more e he; cases he
  | cons a r ih =>
    intro more e he
    unfold backFrom at he
    rcases List.mem_cons.1 he with rfl | he
    · simp only
      rw [mkB_size]
      have := catL_mid_le (linesB s) a.f0.toNat a.f1.toNat
      rw [catL_linesB, size_toList] at this
      exact this
    · exact ih _ e he

theorem back_ok {s : ByteArray} {l : List S33} (h : Small s l) (hf : fitB (linesB s) l = true) {p : Nat} (hp : In (keptB (linesB s) l s.size) p) : BackOk s l (mkB (applyB (linesB s) l)) (backFrom (linesB s) 0 l) p := by
  obtain ⟨_, _, h3⟩ := h.ranges hf
  obtain ⟨hps, hst⟩ := h3 p hp
  obtain ⟨j, e1, e2, _, _⟩ := mv_kept (size_toList s) (h.cuts hf) 0 p (by omega) hps hst
  have hsum := h.sum hf
  have htg := textSz_gsum l
  have hs1 := h.s1
  have hal : (applyB (linesB s) l).length ≤ 2000 := by
    have h4 := apply_len (last := -1) (a := 0) hf (by omega)
    have h5 := catL_drop_le (linesB s) 0
    rw [catL_linesB, size_toList] at h5
    unfold applyB
    omega
  rw [← h.ap hf] at e2
  have ej : ((0 : Nat) : Int) + 0 + (j : Int) = (j : Int) := by omega
  rw [ej] at e1
  have hZ := lines_apply hf
  have hat : At2 (linesB s) (linesB (mkB (applyB (linesB s) l))) l 0 0 [] := ⟨by rw [hZ]; rfl, rfl⟩
  have hbf : fitB (linesB (mkB (applyB (linesB s) l))) (backFrom (linesB s) 0 l) = true := by
    have := back_fit s _ l (last := -1) hf (by omega) (by omega) hat (fun u hu => by cases hu)
    exact this
  have hba := back_apply s _ l (last := -1) hf (by omega) (by omega) hat
  have hba' : (applyB (linesB (mkB (applyB (linesB s) l))) (backFrom (linesB s) 0 l)).length = s.size := by
    have e : (((0 : Nat) : Int) + 0).toNat = 0 := rfl
    rw [e, List.drop_zero, catL_linesB] at hba
    unfold applyB at hba ⊢
    rw [hba, size_toList]
  have hfl := fit_length (last := -1) hf (by omega)
  have hll := lines_length s
  have hbl : (backFrom (linesB s) 0 l).length = l.length := backFrom_length _ _ _
  have hdom : domP (mkB (applyB (linesB s) l)) (backFrom (linesB s) 0 l) := by
    have hF : domF (mkB (applyB (linesB s) l)) (backFrom (linesB s) 0 l) := ⟨by rw [mkB_size]; omega, by rw [hbl]; omega, fun e he => by have := back_texts s l 0 e he; omega, fun _ => by rw [hba']; omega⟩
    exact ⟨hF.1, by have := hF.2.1; omega, fun e he => by have := hF.2.2.1 e he; omega, fun _ => hF⟩
  have hcz : (catL (linesB (mkB (applyB (linesB s) l)))).length ≤ 1048576 := by rw [catL_linesB, mkB_toList]; omega
  have hbc := back_cuts s (by omega) _ hcz l (last := -1) (fun e he => by have := h.text hf e he; omega) hf (by omega) (by omega) hat
  have ez : (((catL ([] : List ByteArray)).length : Int) - (begB (linesB s) 0 : Int)) = 0 := by rw [begB_zero]; rfl
  rw [ez, ← withTexts_cuts] at hbc
  have hmv := mv_back (size_toList s) (h.cuts hf) 0 _ p hbc (by omega) hps hst
  rw [e1] at hmv
  refine ⟨(j : Int), ?_, ?_, hps⟩
  · rw [h.move, if_pos hf, if_neg (by omega), moveB_eq, e1]
  · unfold place_Move.f
    rw [if_pos hdom, if_pos hbf, if_neg (by rw [mkB_size]; omega)]
    have : moveB (linesB (mkB (applyB (linesB s) l))) (backFrom (linesB s) 0 l) (j : Int) = (p : Int) := hmv
    rw [this]

theorem PlaceBack (s : ByteArray) (l : List S33) (hl : l.length ≤ 4398046511104) (ht : ∀ e ∈ l, e.f2.size ≤ 140737488351232) : ∃ k, regletlaw20_PlaceBack.f k s l = some true := by
  refine Evs.get (f := fun k => regletlaw20_PlaceBack.f k s l) ?_
  unfold regletlaw20_PlaceBack.f
  simp only [alive20_true, Option.bind_some]
  obtain ⟨g, hg, hG⟩ := great_ev s l hl
  refine Evs.bind hg ?_
  have hdone : Evs (fun k => regletlaw20_PlaceBack.j0 k s l true true) true := by
    refine Evs.succ (Evs.congr (fun k => ?_) (Evs.ret true))
    simp [regletlaw20_PlaceBack.j0]
  cases g with
  | true => simpa using hdone
  | false =>
    simp only [Bool.false_eq_true, if_false, Bool.not_true]
    by_cases h : (s.size : Int) > 1000
    · simpa [h] using hdone
    · simp only [if_neg h]
      have hS : Small s l := Small.of (by omega) hl ht (hG rfl)
      refine Evs.succ ?_
      simp only [regletlaw20_PlaceBack.j0, Bool.false_eq_true, if_false, hS.apply, hS.kept, Option.bind_some]
      by_cases hf : fitB (linesB s) l = true
      · have hR : applyR s l = (mkB (applyB (linesB s) l), 0) := by unfold applyR; rw [if_pos hf]
        have hsum := hS.sum hf
        have htg := textSz_gsum l
        have hfl := fit_length (last := -1) hf (by omega)
        have hll := lines_length s
        have hs1 := hS.s1
        have hF : Fits s l := ⟨by omega, by omega, by omega⟩
        have hbk := hF.back
        have hbR : backR s l = (backFrom (linesB s) 0 l, 0) := by unfold backR; rw [if_pos hf]
        rw [hbR] at hbk
        refine Evs.bind hbk ?_
        simp only [hf, hR, if_true, Option.bind_some]
        obtain ⟨k1, _, _⟩ := hS.ranges hf
        have hkl : (keptB (linesB s) l s.size).length < 4611686018427387904 := by
          have := keepStep_length (keepCuts (cutsB (linesB s) l)).1 (keepCuts (cutsB (linesB s) l)).2 (s.size : Int)
          have h2 := keepCuts_length (cutsB (linesB s) l)
          have h3 : (cutsB (linesB s) l).length = l.length := by unfold cutsB; rw [List.length_map]
          unfold keptB
          omega
        have hl0 := back_l0 s l (mkB (applyB (linesB s) l)) (backFrom (linesB s) 0 l) (keptB (linesB s) l s.size) hs1 hkl (fun e he => by have := k1.each e he; omega) (fun p hp => back_ok hS hf hp) _ 0 (by rw [Nat.zero_add])
        have hj : Evs (fun k => regletlaw20_PlaceBack.j1 k s l true (mkB (applyB (linesB s) l)) 0 (backFrom (linesB s) 0 l) 0 (keptB (linesB s) l s.size) 0 false) true := by
          refine Evs.succ (Evs.congr (fun k => ?_) hl0)
          simp only [regletlaw20_PlaceBack.j1, Bool.false_eq_true, if_false]
          rfl
        simpa using hj
      · have hR : applyR s l = (⟨#[]⟩, 180) := by unfold applyR; rw [if_neg hf]
        have hxl := lines_length s
        have hs1 := hS.s1
        have hbk : Evs (fun k => edit_Back.f k s l) ([], 180) := by
          unfold edit_Back.f
          have hln : edit_Lines.f s = some (linesB s) := by unfold edit_Lines.f; rw [if_pos (by omega)]
          simp only [hln, Option.bind_some]
          refine Evs.bind (editFit (linesB s) l (by omega) (by omega) (fun t htm => by have := lines_sizes s t htm; omega) (fun e he => by have := ht e he; omega)) ?_
          simp only [if_neg hf]
          exact Evs.ret _
        refine Evs.bind hbk ?_
        simp only [hf, hR, Bool.false_eq_true, if_false, Option.bind_some]
        have hj : Evs (fun k => regletlaw20_PlaceBack.j1 k s l true ⟨#[]⟩ 180 [] 180 [] 180 true) true := by
          refine Evs.succ (Evs.congr (fun k => ?_) (Evs.ret true))
          simp [regletlaw20_PlaceBack.j1]
        simpa using hj
end Go.Proofs.Ytmecmmpgkcileaa.Pure
