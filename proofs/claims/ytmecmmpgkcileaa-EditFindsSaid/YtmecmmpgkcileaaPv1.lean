/- Plain laws of edits taken back: they fit what the edits made. -/
import Derived.Test.YtmecmmpgkcileaaPu
namespace Go.Proofs.Ytmecmmpgkcileaa.Z
open Go.RowKit Go.Proofs.YtmecmmpgkcileaaW.PrintWords

theorem fit_mk {x : List ByteArray} {last : Int} {e : S33} {r : List S33} (h1 : last < e.f0) (h2 : e.f0 ≤ e.f1) (h3 : e.f1 ≤ (x.length : Int)) (h4 : ¬ (e.f0 = e.f1 ∧ e.f2.data.toList = [])) (h5 : e.f1 < (x.length : Int) → wholeB e.f2 = true)
    (h6 : e.f0 = (x.length : Int) → 0 < x.length → wholeB (x.getD (x.length - 1) ByteArray.empty) = true) (h7 : fitFrom x e.f1 r = true) : fitFrom x last (e :: r) = true := by
  unfold fitFrom
  simp only [Bool.and_eq_true, Bool.not_eq_true', Bool.or_eq_false_iff, decide_eq_false_iff_not, Bool.and_eq_false_iff]
  refine ⟨⟨⟨⟨⟨⟨by omega, by omega⟩, by omega⟩, ?_⟩, ?_⟩, ?_⟩, h7⟩
  · by_cases h : e.f0 = e.f1
    · exact .inr fun k => h4 ⟨h, k⟩
    · exact .inl h
  · by_cases h : e.f1 < (x.length : Int)
    · exact .inr (by simpa using h5 h)
    · exact .inl h
  · by_cases h : e.f0 = (x.length : Int)
    · by_cases k : 0 < x.length
      · exact .inr (by simpa using h6 h k)
      · exact .inl (.inr k)
    · exact .inl (.inl h)
theorem full_whole {u : ByteArray} (h : Full u.data.toList) : wholeB u = true := by
  unfold wholeB wholeL
  rw [full_not h]
  rfl
theorem all_last {x : List ByteArray} (h : AllFull (rawL x)) (h0 : 0 < x.length) : wholeB (x.getD (x.length - 1) ByteArray.empty) = true := by
  refine full_whole (h _ ?_)
  unfold rawL
  refine List.mem_map.2 ⟨_, ?_, rfl⟩
  rw [List.getD_eq_getElem?_getD, List.getElem?_eq_getElem (by omega)]
  exact List.getElem_mem _
theorem back_fit (s : ByteArray) (Z : List ByteArray) (l : List S33) : ∀ {last more : Int} {a : Nat} {pre : List ByteArray}, fitFrom (linesB s) last l = true → -1 ≤ last → (a : Int) ≤ last + 1 → At2 (linesB s) Z l a more pre → AllFull (rawL pre) →
    fitFrom Z (last + more) (backFrom (linesB s) more l) = true := by
  induction l with
  | nil => intro last more a pre _ _ _ _ _; rfl
  | cons e r ih =>
    intro last more a pre hf h0 ha h hp
    obtain ⟨h1, h2, h3, h4, h5, h6, h7⟩ := fit_cons hf
    obtain ⟨m1, m2, m3, m4⟩ := h.mid (by omega) h2 h3
    have hst := h.step (by omega) h2 h3
    have hl := h.len
    have hzl : Z.length = (e.f0 + more + ((linesB e.f2).length : Int)).toNat + (linesFrom (linesB s) e.f1.toNat r).length := by
      have := hst.len
      rw [hst.eq, List.length_append]
      omega
    have hn0 : (linesB e.f2).length = 0 → e.f2.data.toList = [] := by
      intro e0
      rw [← catL_linesB, List.length_eq_zero_iff.1 e0]; rfl
    have hend : ¬ e.f1 < ((linesB s).length : Int) → r = [] ∧ linesFrom (linesB s) e.f1.toNat r = [] := by
      intro hn
      have hr := fit_end h7 (by omega)
      subst hr
      exact ⟨rfl, List.drop_of_length_le (by omega)⟩
    have hmidf : e.f0 < ((linesB s).length : Int) → AllFull (rawL (((linesB s).take e.f0.toNat).drop a)) := fun hlt => full_mid s (.inl (by omega))
    unfold backFrom
    refine fit_mk (by simp only; omega) (by simp only; omega) (by simp only; omega) ?_ ?_ ?_ ?_
    · simp only
      rintro ⟨e1, e2⟩
      have hn := hn0 (by omega)
      apply h4
      refine ⟨?_, hn⟩
      rcases Int.lt_or_le e.f0 e.f1 with hlt | hge
      · exfalso
        rw [mkB_toList] at e2
        have hm : (linesB s)[e.f0.toNat]'(by omega) ∈ ((linesB s).take e.f1.toNat).drop e.f0.toNat := by
          refine List.mem_of_getElem? (i := 0) ?_
          rw [List.getElem?_drop, Nat.add_zero, List.getElem?_take_of_lt (by omega), List.getElem?_eq_getElem (by omega)]
        have hne := raw_ne s ((linesB s)[e.f0.toNat]'(by omega)).data.toList (List.mem_map.2 ⟨_, List.getElem_mem _, rfl⟩)
        apply hne
        have := List.flatten_eq_nil_iff.1 e2 _ (List.mem_map.2 ⟨_, hm, rfl⟩)
        exact this
      · omega
    · simp only
      intro hlt
      by_cases hn : e.f1 < ((linesB s).length : Int)
      · have := whole_all (full_mid s (a := e.f0.toNat) (b := e.f1.toNat) (.inl (by omega)))
        rw [rawL_flatten] at this
        exact this
      · have := (hend hn).2
        rw [this, List.length_nil] at hzl
        omega
    · simp only
      intro he hz
      have hn : (linesB e.f2).length = 0 := by omega
      have hlt : e.f0 < e.f1 := by
        rcases Int.lt_or_le e.f0 e.f1 with hlt | hge
        · exact hlt
        · exact absurd ⟨by omega, hn0 hn⟩ h4
      refine all_last ?_ hz
      have hl0 : linesFrom (linesB s) e.f1.toNat r = [] := List.length_eq_zero_iff.1 (by omega)
      have e3 : Z = pre ++ ((linesB s).take e.f0.toNat).drop a := by
        rw [hst.eq, hl0, List.length_eq_zero_iff.1 hn]; simp
      rw [e3, rawL_append]
      exact allFull_append hp (hmidf (by omega))
    · by_cases hn : e.f1 < ((linesB s).length : Int)
      · have := ih h7 (by omega) (by omega) hst (by
          rw [rawL_append, rawL_append]
          exact allFull_append (allFull_append hp (hmidf (by omega))) (text_full (h5 hn)))
        have e1 : e.f1 + (more + ((linesB e.f2).length : Int) - e.f1 + e.f0) = e.f0 + more + ((linesB e.f2).length : Int) := by omega
        rw [e1] at this
        exact this
      · rw [(hend hn).1]; rfl
end Go.Proofs.Ytmecmmpgkcileaa.Z
