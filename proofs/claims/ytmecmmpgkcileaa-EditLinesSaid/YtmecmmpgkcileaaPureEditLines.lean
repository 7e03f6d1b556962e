/- The plain statement of the law EditLines: lines, one behind the other, are the text; each has its byte 10 just at its end. -/
import Derived.Test.YtmecmmpgkcileaaZ18
import Derived.Test.YtmecmmpgkcileaaPal
import Derived.Test.YtmecmmpgkcileaaPt
namespace Go.Proofs.Ytmecmmpgkcileaa.Pure
open Go.RowKit Go.Proofs.Ytmecmmpgkcileaa.Z Go.Proofs.YtmecmmpgkcileaaW.PrintWords Go.Proofs.YtmecmmpgkcileaaW.PrintLast

theorem idx_full {v : List UInt8} (h : (10 : UInt8) ∉ v) : Lib.indexByte (v ++ [10]) 10 = (v.length : Int) := by
  have hg := Lib.indexByte_ge (v ++ [10]) 10
  by_cases e : Lib.indexByte (v ++ [10]) 10 = -1
  · exact absurd (indexByte_none e) (by simp)
  · obtain ⟨i, hi⟩ : ∃ i : Nat, Lib.indexByte (v ++ [10]) 10 = i := ⟨(Lib.indexByte (v ++ [10]) 10).toNat, by omega⟩
    obtain ⟨h1, h2, h3⟩ := indexByte_some hi
    rw [List.length_append, List.length_singleton] at h1
    have : ¬ i < v.length := fun hlt => by
      rw [List.getElem?_append_left hlt] at h2
      exact h (List.mem_of_getElem? h2)
    omega
theorem idx_not {v : List UInt8} (h : (10 : UInt8) ∉ v) : Lib.indexByte v 10 = -1 := by
  have hg := Lib.indexByte_ge v 10
  by_cases e : Lib.indexByte v 10 = -1
  · exact e
  · obtain ⟨i, hi⟩ : ∃ i : Nat, Lib.indexByte v 10 = i := ⟨(Lib.indexByte v 10).toNat, by omega⟩
    obtain ⟨_, h2, _⟩ := indexByte_some hi
    exact absurd (List.mem_of_getElem? h2) h
theorem lined_at {X : List (List UInt8)} (h : Lined X) {i : Nat} (hi : i < X.length) : Full X[i] ∨ (i + 1 = X.length ∧ X[i] ≠ [] ∧ (10 : UInt8) ∉ X[i]) := by
  induction X generalizing i with
  | nil => simp at hi
  | cons u r ih =>
    cases i with
    | zero =>
      cases r with
      | nil =>
        rcases h with h | h
        · exact .inl h
        · exact .inr ⟨rfl, h⟩
      | cons a r => exact .inl h.1
    | succ i =>
      rw [List.length_cons] at hi
      rcases ih (lined_tail h) (i := i) (by omega) with h1 | ⟨h1, h2⟩
      · exact .inl h1
      · exact .inr ⟨by rw [List.length_cons]; omega, h2⟩

theorem EditLines : regletlaw18_EditLines.Pure := by
  intro s _
  suffices hk : Evs (fun k => regletlaw18_EditLines.f k s) true from hk.get
  by_cases c : (s.size : Int) > 2000
  · refine Evs.congr (g := fun k => regletlaw18_EditLines.j0 k s true true) (fun k => by unfold regletlaw18_EditLines.f; rw [alive18_true]; simp only [Option.bind_some, if_pos c]) ?_
    exact Evs.succ (Evs.congr (fun k => by simp only [regletlaw18_EditLines.j0]; rfl) (Evs.ret _))
  · refine Evs.congr (g := fun k => regletlaw18_EditLines.j0 k s true false) (fun k => by unfold regletlaw18_EditLines.f; rw [alive18_true]; simp only [Option.bind_some, if_neg c]; rfl) ?_
    have hl : edit_Lines.f s = some (linesB s) := by unfold edit_Lines.f; rw [if_pos (by omega)]
    refine Evs.succ (Evs.congr (g := fun k => regletlaw18_EditLines.l0 k s true (linesB s) (⟨#[]⟩ : ByteArray) ((linesB s).length : Int) 0) (fun k => by simp only [regletlaw18_EditLines.j0, hl, Option.bind_some]; rfl) ?_)
    have hlen := lines_length s
    have hcat : (catL (linesB s)).length ≤ 2000 := by rw [catL_linesB, size_toList]; omega
    have hlin := lined_of s
    have hall := catL_linesB s
    generalize linesB s = l at *
    have key : ∀ d i : Nat, i + d = l.length → ∀ x5 : ByteArray, x5.data.toList = catL (l.take i) → Evs (fun k => regletlaw18_EditLines.l0 k s true l x5 (l.length : Int) (i : Int)) true := by
      intro d
      induction d with
      | zero =>
        intro i hi x5 hx
        refine Evs.succ (Evs.congr (g := fun _ => some true) (fun k => ?_) (Evs.ret _))
        simp only [regletlaw18_EditLines.l0]
        rw [if_neg (by omega), if_pos trivial]
        rw [List.take_of_length_le (by omega), hall] at hx
        rw [ByteArray.toList_eq, ByteArray.toList_eq, hx, beq_self_eq_true]
      | succ d ih =>
        intro i hi x5 hx
        have hil : i < l.length := by omega
        have hu : rdOf ByteArray.empty l (i : Int) = l[i] := by unfold rdOf; rw [Int.toNat_natCast]; simp [hil]
        have hL := lined_at hlin (i := i) (by unfold rawL; rw [List.length_map]; exact hil)
        have hr : (rawL l)[i]'(by unfold rawL; rw [List.length_map]; exact hil) = l[i].data.toList := by simp [rawL]
        rw [hr] at hL
        have hrl : (rawL l).length = l.length := by unfold rawL; rw [List.length_map]
        rw [hrl] at hL
        have htk : catL (l.take (i + 1)) = catL (l.take i) ++ l[i].data.toList := by
          rw [List.take_succ_eq_append_getElem hil, catL_append]
          simp [catL]
        have hle : (catL (l.take (i + 1))).length ≤ 2000 := by
          have h1 : catL l = catL (l.take (i + 1)) ++ catL (l.drop (i + 1)) := by rw [← catL_append, List.take_append_drop]
          have h2 := congrArg List.length h1
          rw [List.length_append] at h2
          omega
        have hs5 : x5.size + l[i].size ≤ 9223372036854775807 := by
          rw [htk, List.length_append, ← hx, size_toList, size_toList] at hle
          omega
        have hus : l[i].size ≤ 2000 := by rw [htk, List.length_append, size_toList] at hle; omega
        have hnext := ih (i + 1) (by omega) (x5 ++ l[i]) (by rw [app_list, hx, htk])
        refine Evs.succ (Evs.congr (fun k => ?_) hnext)
        have hw : wrap64 ((i : Int) + 1) = ((i + 1 : Nat) : Int) := by rw [wrap_id _ (by omega) (by omega)]; rfl
        have hwl : wrap64 ((l.length : Int) - 1) = (l.length : Int) - 1 := wrap_id _ (by omega) (by omega)
        have hix : strings_Index.f l[i] (⟨#[10]⟩ : ByteArray) = some (Lib.indexByte l[i].data.toList 10) := rfl
        simp only [regletlaw18_EditLines.l0]
        rw [if_pos (by omega), if_pos (by omega), if_pos (by omega), hu, hix, Option.bind_some, hw, hwl]
        generalize l[i] = u at *
        rcases hL with ⟨v, hv, hnv⟩ | ⟨h1, h2, h3⟩
        · have hz : u.size = v.length + 1 := by rw [← size_toList, hv]; simp
          have hwz : wrap64 ((u.size : Int) - 1) = (v.length : Int) := by rw [wrap_id _ (by omega) (by omega)]; omega
          rw [if_neg (by omega), hv, idx_full hnv, if_pos (by omega), hwz, if_pos rfl, if_neg (by omega), if_pos hs5]
        · have hz : u.size ≠ 0 := fun e => h2 (List.length_eq_zero_iff.1 (by rw [size_toList]; exact e))
          rw [if_neg (by omega), idx_not h3, if_neg (by omega), if_pos (by omega), if_neg (by omega), if_pos hs5]
    exact key l.length 0 (by omega) _ rfl
end Go.Proofs.Ytmecmmpgkcileaa.Pure
