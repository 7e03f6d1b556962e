/- edit.Lines, through its iterator: for every text within the reach it hands back the text's lines, in new memory. -/
import Derived.Test.YtmecmmpgkcileaaRf
import Derived.Test.YtmecmmpgkcileaaPl
import Derived.Test.YtmecmmpgkcileaaZ0
import Derived.Test.YtmecmmpgkcileaaShelf
import Derived.Shelf.Abstract
import Derived.Shelf.RegionOpen
import Derived.OwnWalkIn
import Derived.TacticsInMore
import Derived.LoopNIn
import Derived.LoopIn
import Derived.Lib.Hide
import Derived.Maps.AppendAt
namespace Go.Proofs.Ytmecmmpgkcileaa.Z
open Go.RowKit Go.Shelf Go.Proofs.YtmecmmpgkcileaaW.PrintWords Go.Proofs.Ytmecmmpgkcileaa.Rf
attribute [local go_sem] Oper.semAt_some

open Classical in
noncomputable def leftS (Bs : Nat) (W : World) : Nat := if h : ∃ s : ByteArray, Boxed W Bs 9 (.string s) then (Classical.choose h).size else 0
theorem leftS_eq {Bs : Nat} {W : World} {s : ByteArray} (h : Boxed W Bs 9 (.string s)) : leftS Bs W = s.size := by
  have hex : ∃ s : ByteArray, Boxed W Bs 9 (.string s) := ⟨s, h⟩
  unfold leftS
  rw [dif_pos hex]
  have h2 := Classical.choose_spec hex
  have := (show W.heap[Bs]? = _ from h2).symm.trans h
  simp at this
  rw [this]

theorem ext_all (s : ByteArray) : s.extract 0 s.size = s := by
  apply ByteArray.ext
  rw [ByteArray.data_extract]
  simp

theorem idx_any (s : ByteArray) (q : Int) (h : Lib.indexByte s.data.toList 10 = q) (w : World) :
    CallsIn Fence.wide (4 - 1) Try.prog 60 #[.string s, .int .u8 10] w fun e w' => e = .returned (.int .i64 q) ∧ w' = w := by
  rw [← h]
  exact callsIn_wide.2 (Try.strings_IndexByte s 10 w)

set_option maxRecDepth 100000 in
set_option maxHeartbeats 2000000 in
theorem lines1_in (l Bs : Nat) (s : ByteArray) (hs : s.size ≤ 140737488351232) (J Jx : List ByteArray → World → Prop)
    (hJ : ∀ s A B, J s A → A.grownBy B (some Bs) → J s B)
    (hY : ∀ pre x W, J pre W → pre.length < s.size → YieldAt Fence.wide (4 - 1) Try.prog l #[.string x] W fun e W' =>
      (e = .returned (.bool true) ∧ J (pre ++ [x]) W' ∧ W'.heap[Bs]? = W.heap[Bs]?) ∨ (e = .returned (.bool false) ∧ Jx (pre ++ [x]) W'))
    (W : World) (hB : Boxed W Bs 9 (.string s)) (h0 : J [] W) :
    CallsIn Fence.wide 4 Try.prog 61 #[.func (.yield l) #[] #[], .pointer (some ⟨Bs, 0, none⟩)] W fun e W' => (∃ v, e = .returned v) ∧
      ((∃ ys, ys = linesB s ∧ J ys W') ∨ (∃ pre, pre <+: linesB s ∧ Jx pre W')) := by
  refine callsIn_of_wp Try.func61 rfl trivial ?_ rfl
  simp only [Try.ntmps61, List.size_toArray, List.length_cons, List.length_nil, Nat.reduceAdd, Nat.reduceSub, Array.replicate_succ, Array.replicate_zero, List.push_toArray, List.append_toArray, List.nil_append, List.cons_append]
  gi_wp2
  gi_loopw [3] (fun _ wr => ∃ (pre : List ByteArray) (rest : ByteArray), linesB s = pre ++ linesB rest ∧ pre.length + rest.size ≤ s.size ∧ Boxed wr Bs 9 (.string rest) ∧ J pre wr)
    (fun _ wr => leftS Bs wr)
  case atStart =>
    exact ⟨[], s, rfl, by simp, hB, h0⟩
  case round =>
    obtain ⟨pre, rest, hx, hsz, hb, hJs⟩ := hrel
    have hcell := hb.cell
    have hfrz := hb.frozen
    have hxx := Lib.hid hx; clear hx
    by_cases hz : rest.size = 0
    · have hl : (!rest.toList.isEmpty) = false := by
        rw [Lib.toList_data, List.length_eq_zero_iff.1 hz]; rfl
      clear hz
      have hy0 := hY
      clear hY
      gi_wp2
      go_end0
      exact ⟨⟨_, rfl⟩, .inl ⟨pre, by rw [hxx.out, lines_nil (s := rest) (by rw [Lib.toList_data] at hl; rw [← size_toList]; cases hd : rest.data.toList with | nil => rfl | cons a b => rw [hd] at hl; simp at hl)]; simp, hJs⟩⟩
    · have hl : (!rest.toList.isEmpty) = true := by
        rw [Lib.toList_data]
        have : rest.data.toList ≠ [] := fun e => hz (by rw [← size_toList, e]; rfl)
        simpa using this
      obtain ⟨hst, hpos, hle⟩ := lines_step hz
      have hst' := Lib.hid hst; clear hst
      have hg := Lib.indexByte_ge rest.data.toList 10
      obtain ⟨q, hq⟩ : ∃ q, Lib.indexByte rest.data.toList 10 = q := ⟨_, rfl⟩
      obtain ⟨n, hn⟩ : ∃ n, lineLen rest.data.toList = n := ⟨_, rfl⟩
      obtain ⟨fn, tmps, assign, body, hy, hR⟩ := hY pre (rest.extract 0 (lineLen rest.data.toList)) wr hJs (by omega)
      clear hY
      have hR' := Lib.hid hR; clear hR
      by_cases hq1 : q = -1
      · subst hq1
        have hn' : n = rest.size := by rw [← hn]; unfold lineLen; rw [hq, if_pos (by decide)]; rfl
        rw [hn, hn', ext_all] at hy
        have hn1 := Lib.hid hn; clear hn
        have hn2 := Lib.hid hn'; clear hn'
        have hz' : rest.size ≠ 0 := hz
        gi_wp2_with (refine ⟨trivial, ?_⟩; gi_at_call 60; refine (idx_any rest (-1) hq _).mono ?_; clear hq hg; rintro e w' ⟨rfl, rfl⟩)
        refine hR'.out.mono ?_
        rw [hn1.out, hn2.out, ext_all]
        rintro e W3 (⟨rfl, hJ3, hk3⟩ | ⟨rfl, hJx3⟩)
        · have hb3 : Boxed W3 Bs 9 (.string rest) := hk3.trans hb
          have hcell3 := hb3.cell
          have hfrz3 := hb3.frozen
          clear hcell hfrz
          gi_wp2
          go_roundw
          case rel =>
            exact ⟨pre ++ [rest], ByteArray.empty, by rw [hxx.out, hst'.out, hn1.out, hn2.out, ext_all, lines_nil (s := rest.extract rest.size rest.size) (by simp), lines_nil (s := ByteArray.empty) rfl]; simp, by simp; omega, hb3.set _, hJ _ _ _ hJ3 (grownBy_setCell' _ _ _)⟩
          case measure => rw [leftS_eq hb, leftS_eq (hb3.set _)]; simp; omega
        · gi_wp2
          refine bodyPost_ret (results_none rfl _ _ _) rfl ?_
          exact ⟨⟨_, rfl⟩, .inr ⟨_, by rw [hxx.out, hst'.out, hn1.out, hn2.out, ext_all]; exact ⟨_, by simp; rfl⟩, hJx3⟩⟩
      · obtain ⟨i, rfl⟩ : ∃ i : Nat, q = (i : Int) := ⟨q.toNat, by omega⟩
        have hn' : n = i + 1 := by rw [← hn]; unfold lineLen; rw [hq, if_neg (by omega)]; omega
        have hi : i < rest.size := (indexByte_some hq).1
        rw [hn, hn'] at hy
        have hn1 := Lib.hid hn; clear hn
        have hn2 := Lib.hid hn'; clear hn'
        clear hq1
        gi_wp2_with (refine ⟨trivial, ?_⟩; gi_at_call 60; refine (idx_any rest i hq _).mono ?_; clear hq hg; rintro e w' ⟨rfl, rfl⟩)
        refine hR'.out.mono ?_
        rw [hn1.out, hn2.out]
        rintro e W3 (⟨rfl, hJ3, hk3⟩ | ⟨rfl, hJx3⟩)
        · have hb3 : Boxed W3 Bs 9 (.string rest) := hk3.trans hb
          have hcell3 := hb3.cell
          have hfrz3 := hb3.frozen
          clear hcell hfrz
          gi_wp2
          go_roundw
          case rel =>
            exact ⟨pre ++ [rest.extract 0 (i + 1)], rest.extract (i + 1) rest.size, by rw [hxx.out, hst'.out, hn1.out, hn2.out]; simp, by simp; omega, hb3.set _, hJ _ _ _ hJ3 (grownBy_setCell' _ _ _)⟩
          case measure => rw [leftS_eq hb, leftS_eq (hb3.set _)]; simp; omega
        · gi_wp2
          refine bodyPost_ret (results_none rfl _ _ _) rfl ?_
          exact ⟨⟨_, rfl⟩, .inr ⟨_, by rw [hxx.out, hst'.out, hn1.out, hn2.out]; exact ⟨_, by simp; rfl⟩, hJx3⟩⟩

set_option maxHeartbeats 1000000 in
/-- The maker of the iterator: the text is boxed; the function value captures the box. -/
theorem lines_in (s : ByteArray) (w : World) :
    CallsIn Fence.wide 4 Try.prog 44 #[.string s] w fun e w' => e = .returned (.func (.func 61) #[] #[.pointer (some ⟨w.heap.size, 0, none⟩)]) ∧ w' = w.alloc (.cells #[.string s] 9) := by
  refine callsIn_of_wp Try.func44 rfl trivial ?_ rfl
  simp only [Try.ntmps44, List.size_toArray, List.length_cons, List.length_nil, Nat.reduceAdd, Nat.reduceSub, Array.replicate_succ, Array.replicate_zero, List.push_toArray, List.append_toArray, List.nil_append, List.cons_append]
  gi_wp2
  go_ret
  exact ⟨rfl, rfl⟩

theorem lines_stops (Bs : Nat) (s : ByteArray) (hs : s.size ≤ 140737488351232) (w : World) (hB : Boxed w Bs 9 (.string s)) :
    SeqS Fence.wide 4 Try.prog 61 #[.pointer (some ⟨Bs, 0, none⟩)] (fun x : ByteArray => #[Value.string x]) (fun W W' => W'.heap[Bs]? = W.heap[Bs]?) (some Bs) (fun ys => ys = linesB s) (fun pre => pre <+: linesB s) s.size w :=
  fun l J Jx W hW hJ _ _ hY h0 => lines1_in l Bs s hs J Jx hJ hY W ((hW.block Bs hB.lt).trans hB) h0

theorem info9' : (Try.prog.info? 9).map (fun i => (i.zero, i.size, i.bytes)) = some (some (.string ⟨#[]⟩), 1, 16) := by kernel_rfl

def edit_Lines.f (a0 : ByteArray) : Option (List ByteArray) := if a0.size ≤ 4398046511104 then some (linesB a0) else none

set_option maxRecDepth 100000 in
set_option maxHeartbeats 2000000 in
theorem edit_Lines.calls (a0 : ByteArray) (r : List ByteArray) (w : World) (h : edit_Lines.f a0 = some r) :
    Calls Try.prog 17 #[.string a0] w fun e w' => ∃ v0_ : Value, e = .returned (v0_) ∧ Kd.R Kd.string 9 w' w.heap.size (fun _ => True) v0_ r ∧ Below w.heap.size w w' := by
  unfold edit_Lines.f at h
  split at h
  · rename_i hsz
    obtain rfl := Option.some.inj h
    clear h
    obtain ⟨i0, hi, hz0, hz1, hz2⟩ := info_parts info9'
    refine (callsIn_wide (n := 5)).1 ?_
    refine callsIn_of_wp_marks Try.func17 rfl trivial ?_ rfl
    simp only [Try.ntmps17, List.size_toArray, List.length_cons, List.length_nil, Nat.reduceAdd, Nat.reduceSub, Array.replicate_succ, Array.replicate_zero, List.push_toArray, List.append_toArray, List.nil_append, List.cons_append]
    gi_wp2_with (refine ⟨trivial, ?_⟩; gi_at_call 44; refine (lines_in _ _).mono ?_; rintro e w' ⟨rfl, rfl⟩)
    have bO := Boxed.new w 22 (.slice none 0 0)
    have bS := Boxed.new (w.alloc (.cells #[.slice none 0 0] 22)) 9 (.string a0)
    rw [World.size_alloc] at bS
    have hB0 : Below w.heap.size w ((w.alloc (.cells #[.slice none 0 0] 22)).alloc (.cells #[.string a0] 9)) := ((Below.refl _ w).alloc (Nat.le_refl _) _).alloc (by simp) _
    refine rangeFunc_S rfl (by omega) (gf := 61) (lb := #[.pointer (some ⟨w.heap.size + 1, 0, none⟩)]) rfl trivial (enters_of Try.func61 (by kernel_rfl) rfl)
      (lines_stops (w.heap.size + 1) a0 (by omega) _ bS) (fun h k => k.trans h) (fun W l o o' hl _ _ _ => World.putObj_heap_other (by simp at hl; omega)) (Below.refl _ _) (fun _ => rfl)
      (fun k e => by cases e; simp)
      (fun pre W => (∃ v, Boxed W w.heap.size 22 v ∧ W.ownsRow (w.heap.size + 2) 9 1 v pre.length (pre.map Value.string) ∧ (pre = [] → v = .slice none 0 0)) ∧ Below w.heap.size w W ∧ w.heap.size + 2 ≤ W.heap.size)
      (fun _ _ _ => False)
      (Abide.and (fun s A B r hs hg hr => by
        obtain ⟨v, hb, ho, hn⟩ := hs
        exact ⟨v, boxed_abide hb hg hr (by simp), row_abide ho hg hr (fun k e => by cases e; exact .inl (by omega)), hn⟩) (Abide.and (below_abide (Nat.le_refl _) (by simp; omega) (fun k e => by cases e; omega)) (fun s A B r hs hg _ => Nat.le_trans hs hg.size)))
      (fun _ => abide_false)
      (fun A B hs hsz' hbl => by
        obtain ⟨⟨v, hb, ho, hn⟩, hB, hw2⟩ := hs
        obtain rfl := hn rfl
        exact ⟨⟨_, (hbl.block _ (by simp; omega)).trans hb, World.ownsRow_nil _ _ _ _, fun _ => rfl⟩, hB.trans (hbl.mono (by simp; omega)), Nat.le_trans hw2 hbl.size⟩)
      ⟨⟨_, bO.alloc _, World.ownsRow_nil _ _ _ _, fun _ => rfl⟩, hB0, by simp⟩
      (fun x => { tmps := #[.string a0, undef, .slice none 0 0, .pointer (some ⟨w.heap.size, 0, none⟩), .string x, .string a0, .func (.func 61) #[] #[.pointer (some ⟨w.heap.size + 1, 0, none⟩)], .string x, undef, undef, undef, undef, undef], defers := [] }) ?assign ?body ?done ?stop
    case assign =>
      intro l x W K hK
      gi_wp2
      exact hK
    case body =>
      rintro l pre x W ⟨⟨v, hv, hrow, hnil⟩, hB, hw2⟩ hlt
      clear hnil
      have hc := hv.cell
      gi_wp2_with (gi_at_builtin; refine wpListIn_append_own _ rfl _ _ 22 rfl (w.heap.size + 2) 9 i0 (.string ⟨#[]⟩) 1 16 Try.underlying22 hi hz0 hz1 hz2 rfl (by decide) _ _ _ rfl (hrow.alloc _) ⟨W.heap.size, 0, none⟩ 1 1 [.string x] rfl rfl (cell_one_new _ _ _) (by simp [Value.oneCell']) (by unfold maxLen; omega) (by omega) (by simp; omega) ?_; intro v' w1 hown' hgrow0 _; have hgrow : (W.alloc (.cells #[.string x] 9)).grownBy w1 v.ownBlock := hgrow0; clear hgrow0; obtain ⟨g', cap', rfl⟩ := ownsRow_succ hown'; obtain ⟨hv1, hv2, hr2, hk2, hb2⟩ := hv.appended (n₀ := w.heap.size) (by decide) (own_weaken hrow (by omega)) (by omega) (Nat.le_refl _) (own_weaken hown' (by omega)) hgrow; clear hr2; have hc1 := hv1.cell; have hf1 := hv1.frozen)
      have hrb : v.ownBlock ≠ some (w.heap.size + 1) := fun e => by have := own_base hrow _ e; omega
      have hs1 : (w1.setCell ⟨w.heap.size, 0, none⟩ (.slice (some ⟨g', 0, none⟩) (pre.length + 1) cap')).heap[w.heap.size + 1]? = W.heap[w.heap.size + 1]? := by
        rw [Below.heap_setCell _ _ _ _ (by simp), hgrow.block _ (by simp; omega) (fun e => hrb e.symm), Below.heap_alloc _ _ _ (by omega)]
      refine ⟨hk2.from _, hs1, ⟨_, hv2, ?_, fun e => by simp at e⟩, hB.trans hb2, Nat.le_trans hw2 hk2.size⟩
      have ho2 := hown'.kept (grownBy_setCell' w1 w.heap.size (.slice (some ⟨g', 0, none⟩) (pre.length + 1) cap')) (.inr (fun e => by have := own_base hown' _ e; omega))
      simpa using ho2
    case done =>
      rintro D ys W hD rfl ⟨⟨v, hv, hrow, _⟩, hB, _⟩ hK
      have hc := hv.cell
      gi_wp2
      refine ⟨by simp, .inl ⟨_, _, rfl, run_takeDeferred hK, ?_⟩⟩
      refine ⟨_, results_tmp rfl _ _ _, v, rfl, Kd.R_of_own (ownsRow_putObj (own_weaken hrow (by omega)) _ hK rfl) (fun _ _ => trivial), hB.trans (belowK_b (w := w) (Nat.le_refl _) W D _ _ (by simp at hD; omega) hK rfl rfl)⟩
    case stop =>
      rintro D c pre W _ _ h _
      exact h.elim
  · cases h
end Go.Proofs.Ytmecmmpgkcileaa.Z
