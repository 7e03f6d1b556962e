/- edit.Apply: for every text and edits within the reach it hands back what the edits make of the text, or the error where they don't fit. -/
import Derived.Test.YtmecmmpgkcileaaPf
import Derived.Test.YtmecmmpgkcileaaGStrs
import Derived.Test.YtmecmmpgkcileaaGLines
import Derived.Shelf.Strings.BuilderCap
import Derived.Deep.RegionHeld3
import Derived.Deep.DrawnRows
import Derived.Deep.DeepCutAuto
namespace Go.Proofs.Ytmecmmpgkcileaa.Z
open Go.RowKit Go.Proofs.YtmecmmpgkcileaaW.PrintWords Go.Proofs.YtmecmmpgkcileaaW.PrintLast Go.Proofs.YtmecmmpgkcileaaW.PrintMore

/-- What edits make of lines, from a line on. -/
def applyFrom (x : List ByteArray) : Nat → List S33 → List UInt8
  | a, [] => catL (x.drop a)
  | a, e :: r => catL ((x.take e.f0.toNat).drop a) ++ e.f2.data.toList ++ applyFrom x e.f1.toNat r
def applyB (x : List ByteArray) (l : List S33) : List UInt8 := applyFrom x 0 l

def edit_Apply.f (a0 : ByteArray) (l1 : List S33) : Option (ByteArray × Int) :=
  if a0.size ≤ 4398046511104 ∧ l1.length ≤ 4398046511104 ∧ (∀ e ∈ l1, e.f2.size ≤ 9223372036854775807) then
    if fitB (linesB a0) l1 = true then
      if (applyB (linesB a0) l1).length ≤ 140737488355328 then some (mkB (applyB (linesB a0) l1), 0) else none
    else some ((⟨#[]⟩ : ByteArray), 180)
  else none

theorem cell_alloc_new (w : World) (cs : Array Value) (t : TypeId) (j : Nat) : (w.alloc (.cells cs t)).cell? ⟨w.heap.size, j, none⟩ = cs[j]? := by
  have h := World.alloc_heap_new w (.cells cs t)
  unfold World.cell?
  rw [h]
  rfl

theorem block_others {w w' : World} {b k T : Nat} {cs : Array Value} {fz : Nat × Nat} (h : Lib.OthersKept 5 (some b) w w') (hk : w.heap[k]? = some (.cells cs T fz)) (hb : k ≠ b) (hT : T ≠ 5) :
    w'.heap[k]? = some (.cells cs T fz) :=
  h k _ hk (fun e => hb (Option.some.inj e)) (fun c z e => by injection e with _ e2; exact hT e2)
theorem cell_block {w : World} {k T j : Nat} {cs : Array Value} {fz : Nat × Nat} (hk : w.heap[k]? = some (.cells cs T fz)) : w.cell? ⟨k, j, none⟩ = cs[j]? := by
  unfold World.cell?
  simp only [hk]
  rfl

theorem builder_new (w : World) (T e : TypeId) : Lib.IsBuilderF T e w.heap.size w.heap.size [] (w.alloc (.cells #[.pointer none, .slice none 0 0] T)) :=
  .of (.inl ⟨Nat.le_refl _, .slice none 0 0, World.alloc_heap_new w _, World.ownsRow_nil _ _ _ _, by simp [Value.ownBlock]⟩)

/-- What WriteString does to a builder. -/
theorem write_any (B b : Nat) (l : List UInt8) (s : ByteArray) (w : World) (h : Lib.IsBuilderF 88 5 B b (Lib.byteCells l) w) (hlen : l.length + s.size ≤ 140737488355328) (hBw : B ≤ w.heap.size) :
    Calls Try.prog 50 #[.pointer (some ⟨b, 0, none⟩), .string s] w fun e w' => e = .returned (.tuple #[.int .i64 s.size, .nilIface]) ∧ Lib.IsBuilderF 88 5 B b (Lib.byteCells (l ++ s.data.toList)) w' ∧ Below B w w' ∧ Lib.OthersKept 5 (some b) w w' := by
  refine (Any.Builder_WriteString_kc { Try.lays156 with } Try.Builder_Extra_156 B b (Lib.byteCells l) s w h (by rw [Lib.byteCells_length]; exact hlen) hBw).mono ?_
  rintro e w' ⟨rfl, ⟨hb, hbl, hk⟩, _⟩
  refine ⟨rfl, .inr ?_, hbl, hk⟩
  rw [Lib.byteCells_append, ← Lib.strCells_eq]
  exact hb
theorem ownF_below {w w1 : World} {base : Nat} {e : TypeId} {size n : Nat} {v : Value} {xs : List Value} (h : w.ownsRowF base e size v n xs) (hb : Below w.heap.size w w1) : w1.ownsRowF base e size v n xs := by
  obtain ⟨h1, h2⟩ := h
  refine ⟨h1, ?_⟩
  rcases h2 with h2 | ⟨g, cap, cur, fz, h2, h3, h4, h5⟩
  · exact .inl h2
  · exact .inr ⟨g, cap, cur, fz, h2, h3, (hb.block _ (Array.getElem?_eq_some_iff.1 h4).1).trans h4, h5⟩
theorem builder_lt {B b : Nat} {bs : List Value} {w : World} (h : Lib.IsBuilderF 88 5 B b bs w) : b < w.heap.size := by
  rcases h with ⟨_, v, h2, _⟩ | ⟨_, v, h2, _⟩
  · exact (Array.getElem?_eq_some_iff.1 h2).1
  · exact (Array.getElem?_eq_some_iff.1 h2).1
theorem builder_below {B b : Nat} {bs : List Value} {w w1 : World} (h : Lib.IsBuilderF 88 5 B b bs w) (hb : Below w.heap.size w w1) : Lib.IsBuilderF 88 5 B b bs w1 := by
  rcases h with ⟨h1, v, h2, h3, h4⟩ | ⟨h1, v, h2, h3, h4⟩
  · exact .inl ⟨h1, v, (hb.block _ (Array.getElem?_eq_some_iff.1 h2).1).trans h2, ownF_below h3 hb, h4⟩
  · exact .inr ⟨h1, v, (hb.block _ (Array.getElem?_eq_some_iff.1 h2).1).trans h2, ownF_below h3 hb, h4⟩

def ApplyRel (x : List ByteArray) (l : List S33) (B : Nat) (W : World) (v8 v19 : Value) (wr : World) : Prop :=
  ∃ (i a : Nat) (last : Int) (out : List UInt8), v19 = .int .i64 (i : Int) ∧ v8 = .int .i64 (a : Int) ∧ i ≤ l.length ∧ a ≤ x.length ∧ fitFrom x last (l.drop i) = true ∧ ((last = -1 ∧ a = 0) ∨ last = (a : Int)) ∧
    Lib.IsBuilderF 88 5 B B (Lib.byteCells out) wr ∧ out ++ applyFrom x a (l.drop i) = applyB x l ∧ Below B W wr

theorem lines_sizes (s : ByteArray) : ∀ t ∈ linesB s, t.size ≤ s.size := by
  have key : ∀ (l : List UInt8), ∀ t ∈ splitL l, t.length ≤ l.length := by
    intro l
    induction l with
    | nil => simp [splitL]
    | cons c r ih =>
      intro t ht
      unfold splitL at ht
      split at ht
      · rcases List.mem_cons.1 ht with rfl | h
        · simp
        · have := ih t h; simp; omega
      · split at ht
        · simp at ht; subst ht; simp
        · rename_i h t' he
          rcases List.mem_cons.1 ht with rfl | h'
          · have := ih h (by rw [he]; simp); simp; omega
          · have := ih t (by rw [he]; simp [h']); simp; omega
  intro t ht
  obtain ⟨u, hu, rfl⟩ := List.mem_map.1 ht
  have := key _ u hu
  rw [mkB_size]
  exact this

set_option maxRecDepth 100000 in
set_option maxHeartbeats 2000000 in
theorem edit_Apply.calls (a0 : ByteArray) (A1 : Option Addr) (c1 : Nat) (l1 : List S33) (r1 : ByteArray) (r2 : Int) (w : World) (hr1 : Kd.C k33 w A1 l1.length l1) (hc1 : l1.length ≤ c1) (h : edit_Apply.f a0 l1 = some (r1, r2)) :
    Calls Try.prog 22 #[.string a0, .slice A1 l1.length c1] w fun e w' => e = .returned (.tuple #[.string r1, .int .i64 r2]) ∧ Below w.heap.size w w' := by
  have hu33 := Try.underlying33
  unfold edit_Apply.f at h
  split at h
  · rename_i hsz
    obtain ⟨hs1, hs2, hs3⟩ := hsz
    have hL : edit_Lines.f a0 = some (linesB a0) := by unfold edit_Lines.f; rw [if_pos hs1]
    have hxl := lines_length a0
    have hxs := lines_sizes a0
    have hfit := fit_some (linesB a0) l1 (by omega) (by omega) (fun s hs => by have := hxs s hs; omega) hs3
    obtain ⟨x, hx⟩ : ∃ x, linesB a0 = x := ⟨_, rfl⟩
    rw [hx] at hL hxl hxs hfit h
    have HL := Lib.hid hL; clear hL
    have HX := Lib.hid hx; clear hx
    have HR1 := Lib.hid hr1; clear hr1
    have HS := Lib.hid hxs; clear hxs
    have HS3 := Lib.hid hs3; clear hs3
    split at h
    · rename_i hf
      split at h
      · rename_i hlen
        have H1 := Lib.hid h; clear h
        rw [hf] at hfit
        have HFIT := Lib.hid hfit; clear hfit
        have HF := Lib.hid hf; clear hf
        go_enter Try.func22, Try.ntmps22
        go_wp2_with fail
        refine (edit_Lines.calls a0 x _ HL.out).mono ?_
        rintro e w1 ⟨vx, rfl, hR, hB1⟩
        obtain ⟨Ax, cx, rfl, hcx, hC⟩ := Kd.R_reads hR
        have HC := Lib.hid hC; clear hC
        have HRR := Lib.hid hR; clear hR
        have HB1 := Lib.hid hB1; clear hB1
        go_wp2_with fail
        refine (edit_fit.calls _ Ax cx x A1 c1 l1 true _ HC.out hcx (Kd.C_below HR1.out HB1.out) hc1 HFIT.out).mono ?_
        rintro e w2 ⟨rfl, hB2⟩
        have HB2 := Lib.hid hB2; clear hB2
        go_wp2_with fail
        have HW := Lib.hid (builder_new w2 88 5)
        go_loopw [8, 19] (fun v8 v19 wr => ApplyRel x l1 w2.heap.size w2 v8 v19 wr) (fun _ v19 _ => l1.length - (intOf v19).toNat)
        case atStart =>
          exact ⟨0, 0, -1, [], rfl, rfl, Nat.zero_le _, Nat.zero_le _, by simpa [fitB] using HF.out, .inl ⟨rfl, rfl⟩, HW.out, rfl, (Below.refl _ _).alloc (Nat.le_refl _) _⟩
        case round =>
          obtain ⟨i, a, last, out, rfl, rfl, hi, ha, hfi, hla, hbu, hout, hBr⟩ := hrel
          have HBU := Lib.hid hbu; clear hbu
          have HOUT := Lib.hid hout; clear hout
          have HBR := Lib.hid hBr; clear hBr
          have HFI := Lib.hid hfi; clear hfi
          by_cases hlt : i < l1.length
          · have hC1 : Kd.C k33 wr A1 l1.length l1 := Kd.C_below HR1.out (HB1.out.trans ((HB2.out.trans (HBR.out.mono HB2.out.size)).mono HB1.out.size))
            have hCx : Kd.C Kd.string wr Ax x.length x := Kd.C_below HC.out (HB2.out.trans (HBR.out.mono HB2.out.size))
            have HCX := Lib.hid hCx; clear hCx
            obtain ⟨ad, ead, hc0, hc1', hc2⟩ := at_T33 hC1 (i : Int) (by omega) (by omega)
            clear hC1
            subst ead
            rw [rd33 l1 i hlt] at hc0 hc1' hc2
            rw [Int.toNat_natCast] at hc0 hc1' hc2
            have hmem : l1[i] ∈ l1 := List.getElem_mem hlt
            have hdr := Lib.hid (List.drop_eq_getElem_cons hlt)
            have HE := Lib.hid (HS3.out _ hmem); clear hmem
            generalize l1[i] = e at hc0 hc1' hc2 hdr HE
            obtain ⟨f, t, s⟩ := e
            simp only at hc0 hc1' hc2
            have p1 : (0 : Int) ≤ (i : Int) := by omega
            have q1 : (i : Int) < (l1.length : Int) := by omega
            go_upto_region 9 with (fail)
            obtain ⟨g1, g2, g3, g4, g5, g6, g7⟩ := fit_cons (hdr.out ▸ HFI.out)
            clear g4 g5 g6
            simp only at g1 g2 g3
            have G7 := Lib.hid g7; clear g7
            have g0 : (a : Int) ≤ f := by omega
            clear g1
            have ht0 : (0 : Int) ≤ t := by omega
            obtain ⟨i0, hi0, _, hsz0, _⟩ := info_parts info9
            have hcut := cut_mid (P := Try.prog) 22 9 .i64 .i64 Try.underlying22 hi0 1 hsz0 Ax x.length cx (a : Int) f (by omega) g0 (by omega) hcx
            have hr := Kd.C_mid (lo := a) (hi := f.toNat) (c := cx) HCX.out (by omega) (by omega) hcx
            clear hi0 hsz0
            obtain ⟨ys, hys⟩ : ∃ ys, ys = (x.take f.toNat).drop a := ⟨_, rfl⟩
            have hyl : ys.length = f.toNat - a := by rw [hys, List.length_drop, List.length_take]; omega
            rw [← hys] at hr
            obtain ⟨Ay, hAy⟩ : ∃ Ay, Ay = (if cx = ((a : Nat) : Int).toNat then Ax else (Ax : Option Addr).map (·.add (((a : Nat) : Int).toNat * 1))) := ⟨_, rfl⟩
            obtain ⟨cy, hcy⟩ : ∃ cy, cy = cx - ((a : Nat) : Int).toNat := ⟨_, rfl⟩
            replace hr : Kd.C Kd.string wr Ay ys.length ys := by rw [hAy]; exact hr
            have hyl' : f.toNat - ((a : Nat) : Int).toNat = ys.length := by rw [hyl]; rfl
            rw [← hAy, ← hcy, hyl'] at hcut
            have hyc : ys.length ≤ cy := by rw [hcy, hyl]; simp; omega
            have HY := Lib.hid hr; clear hr
            have HYS := Lib.hid hys
            have hysz : ys.length ≤ 140737488355328 := by omega
            have htot : out.length + (catL ys).length + s.size ≤ 140737488355328 := by
              have := congrArg List.length HOUT.out
              rw [hdr.out] at this
              simp only [applyFrom, List.length_append] at this
              rw [Int.toNat_natCast] at *
              rw [HYS.out]
              rw [size_toList] at this
              omega
            obtain ⟨z, hz⟩ : ∃ z : ByteArray, z = ⟨(catL ys).toArray⟩ := ⟨_, rfl⟩
            have hj : strings_Join.f ys (⟨#[]⟩ : ByteArray) = some z := by
              unfold strings_Join.f
              rw [if_pos ⟨rfl, hysz, by omega⟩, hz]
            have hzl : z.data.toList = catL ys := by rw [hz]
            have hzs : z.size + s.size ≤ 9223372036854775807 := by rw [← size_toList z, hzl]; omega
            have HZL := Lib.hid hzl; clear hzl hz
            have HJ := Lib.hid hj; clear hj
            clear hys hyl hyl' hAy hcy hla g0 g2 hc0 hc1' hc2
            go_cut [] (fun wc => Lib.IsBuilderF 88 5 w2.heap.size w2.heap.size (Lib.byteCells (out ++ catL ys ++ s.data.toList)) wc ∧ Below w2.heap.size w2 wc ∧ wc.cell? ⟨wr.heap.size, 1, none⟩ = some (.int .i64 t))
            case first =>
              have e0 := cell_alloc_new wr #[.int .i64 f, .int .i64 t, .string s] 33 0
              have e1 := cell_alloc_new wr #[.int .i64 f, .int .i64 t, .string s] 33 1
              have e2 := cell_alloc_new wr #[.int .i64 f, .int .i64 t, .string s] 33 2
              have hbE := World.alloc_heap_new wr (.cells #[.int .i64 f, .int .i64 t, .string s] 33)
              have hBA : Below wr.heap.size wr (wr.alloc (.cells #[.int .i64 f, .int .i64 t, .string s] 33)) := (Below.refl _ _).alloc (Nat.le_refl _) _
              have HY3 := Lib.hid (Kd.C_below HY.out hBA)
              have HB3 := Lib.hid (builder_below HBU.out hBA)
              have HBR3 := Lib.hid (HBR.out.trans (hBA.mono HBR.out.size))
              have hsz3 : (wr.alloc (.cells #[.int .i64 f, .int .i64 t, .string s] 33)).heap.size = wr.heap.size + 1 := by simp
              have HSZ := Lib.hid hsz3
              have hE : wr.heap.size < (wr.alloc (.cells #[.int .i64 f, .int .i64 t, .string s] 33)).heap.size := by omega
              have HBL := Lib.hid (builder_lt HBU.out)
              clear hBA hsz3
              generalize wr.alloc (.cells #[.int .i64 f, .int .i64 t, .string s] 33) = W3 at e0 e1 e2 HY3 HB3 HBR3 HSZ hE hbE ⊢
              obtain ⟨E, hEE⟩ : ∃ E, wr.heap.size = E := ⟨_, rfl⟩
              rw [hEE] at e0 e1 e2 HSZ hE HBL hbE ⊢
              have HBE := Lib.hid hbE; clear hbE
              have hzs' : (9223372036854775807 < z.size + s.size) = False := eq_false (by omega)
              have HEE := Lib.hid hEE; clear hEE
              simp at e0 e1 e2
              go_region_held3 (fun w' => w'.cell? ⟨E, 0, none⟩ = some (.int .i64 f) ∧ w'.cell? ⟨E, 2, none⟩ = some (.string s))
                (first
                  | go_keep
                  | (go_split_ands; refine ⟨?_, ?_⟩ <;> (rw [hb4.cell (by simp; omega)]; assumption))
                  | (go_split_ands; refine ⟨?_, ?_⟩ <;> (rw [cell_block (block_others hk5 HBE4.out (by have := HBL.out; omega) (by decide))]; rfl)))
                (first
                  | (go_at_call 46; refine (strings_Join.calls Ay cy ys (⟨#[]⟩ : ByteArray) _ _ ?_ hyc HJ.out).mono ?_; (exact Kd.C_drew HY3.out); rintro e w4 ⟨rfl, hb4⟩; have HBE4 := Lib.hid ((hb4.block E (by simp; omega)).trans HBE.out))
                  | (go_at_call 50; refine (write_any w2.heap.size w2.heap.size out (z ++ s) _ ?_ ?_ ?_).mono ?_; (exact builder_below (builder_below HB3.out ((Below.refl _ _).drew)) hb4); (rw [ByteArray.size_append, ← size_toList z, HZL.out]; omega); (have h7 := hb4.size; have h8 := HBL.out; have h9 := HSZ.out; simp at h7; omega); rintro e w5 ⟨rfl, hb5, hbl5, hk5⟩))
              rw [ByteArray.data_append, Array.toList_append, HZL.out, ← List.append_assoc] at hb5
              have hEE := HEE.out
              clear HEE
              subst hEE
              go_wp2_with fail
              go_meet
              case rel =>
                refine ⟨hb5, (HBR3.out.drew.trans ((hb4.mono ?_).trans hbl5)), ?_⟩
                · have := HBL.out; have := HSZ.out; simp; omega
                · rw [cell_block (block_others hk5 HBE4.out (by have := HBL.out; omega) (by decide))]; rfl
            case rest =>
              obtain ⟨hb5, hbl5, hc5⟩ := hcut
              have HB5 := Lib.hid hb5; clear hb5
              have HBL5 := Lib.hid hbl5; clear hbl5
              go_wp2
              go_roundw
              case rel =>
                refine ⟨i + 1, t.toNat, t, out ++ catL ys ++ s.data.toList, by simp, by rw [Int.toNat_of_nonneg (by omega)], hlt, by omega, G7.out, .inr (by rw [Int.toNat_of_nonneg (by omega)]), HB5.out, ?_, HBL5.out⟩
                have := HOUT.out
                rw [hdr.out] at this
                simp only [applyFrom] at this
                rw [HYS.out, ← this]
                simp only [List.append_assoc]
              case measure => simp [intOf]; omega
          · obtain rfl : i = l1.length := by omega
            have hC2 : Kd.C Kd.string wr Ax x.length x := Kd.C_below HC.out (HB2.out.trans (HBR.out.mono HB2.out.size))
            have hHA := HOUT.out
            rw [List.drop_length] at hHA
            simp only [applyFrom] at hHA
            have HHA := Lib.hid hHA; clear hHA
            have ha' : (a : Int) ≤ (x.length : Int) := by omega
            obtain ⟨i0, hi0, _, hsz0, _⟩ := info_parts info9
            have hcut := cut_from (P := Try.prog) 22 9 .i64 Try.underlying22 hi0 1 hsz0 Ax x.length cx (a : Int) (by omega) ha'
            clear hi0 hsz0
            have hr := Kd.C_drop (m := a) (c := cx) hC2 ha hcx
            obtain ⟨ys, hys⟩ : ∃ ys, ys = x.drop a := ⟨_, rfl⟩
            have hyl : ys.length = x.length - a := by rw [hys, List.length_drop]
            rw [← hys] at hr
            obtain ⟨Ay, hAy⟩ : ∃ Ay, Ay = (if cx = ((a : Nat) : Int).toNat then Ax else (Ax : Option Addr).map (·.add (((a : Nat) : Int).toNat * 1))) := ⟨_, rfl⟩
            obtain ⟨cy, hcy⟩ : ∃ cy, cy = cx - ((a : Nat) : Int).toNat := ⟨_, rfl⟩
            replace hr : Kd.C Kd.string wr Ay ys.length ys := by rw [hAy]; exact hr
            have hyl' : x.length - ((a : Nat) : Int).toNat = ys.length := by rw [hyl]; rfl
            rw [← hAy, ← hcy, hyl'] at hcut
            have hyc : ys.length ≤ cy := by rw [hcy, hyl]; simp; omega
            have HY := Lib.hid hr; clear hr hC2
            have htot : out.length + (catL ys).length ≤ 140737488355328 := by
              have := congrArg List.length HHA.out
              rw [List.length_append] at this
              rw [hys]
              omega
            obtain ⟨z, hz⟩ : ∃ z : ByteArray, z = ⟨(catL ys).toArray⟩ := ⟨_, rfl⟩
            have hj : strings_Join.f ys (⟨#[]⟩ : ByteArray) = some z := by
              unfold strings_Join.f
              rw [if_pos ⟨rfl, by omega, by omega⟩, hz]
            have hzl : z.data.toList = catL ys := by rw [hz]
            have HZL := Lib.hid hzl; clear hzl hz
            have HJ := Lib.hid hj; clear hj
            have HYS := Lib.hid hys
            clear hys hyl hyl' hAy hcy hla ha'
            go_wp2_with fail
            refine (strings_Join.calls Ay cy ys (⟨#[]⟩ : ByteArray) _ _ HY.out hyc HJ.out).mono ?_
            rintro e w4 ⟨rfl, hb4⟩
            have HB4 := Lib.hid hb4; clear hb4
            go_wp2_with fail
            refine (write_any w2.heap.size w2.heap.size out z _ (builder_below HBU.out HB4.out) (by rw [← size_toList z, HZL.out]; omega) (Nat.le_trans HBR.out.size HB4.out.size)).mono ?_
            rintro e w5 ⟨rfl, hb5, hbl5, _⟩
            have HB5 := Lib.hid hb5; clear hb5
            have HBL5 := Lib.hid (HBR.out.trans ((HB4.out.mono HBR.out.size).trans hbl5)); clear hbl5
            go_wp2_with fail
            refine (Try.Builder_String_any_f w2.heap.size w2.heap.size _ _ HB5.out HBL5.out.size).mono ?_
            rintro e w6 ⟨rfl, _, hb6⟩
            have HB6 := Lib.hid hb6; clear hb6
            go_wp2_with fail
            go_ret2
            have h1 := Option.some.inj H1.out
            simp only [Prod.mk.injEq] at h1
            obtain ⟨rfl, rfl⟩ := h1
            refine ⟨?_, HB1.out.trans ((HB2.out.trans (((HBL5.out.trans HB6.out)).mono HB2.out.size)).mono HB1.out.size)⟩
            rw [HZL.out, HYS.out, HHA.out]
            rfl
      · cases h
    · rename_i hf
      have H1 := Lib.hid h; clear h
      rw [Bool.not_eq_true] at hf
      rw [hf] at hfit
      have HFIT := Lib.hid hfit; clear hfit hf
      go_enter Try.func22, Try.ntmps22
      go_wp2_with fail
      refine (edit_Lines.calls a0 x _ HL.out).mono ?_
      rintro e w1 ⟨vx, rfl, hR, hB1⟩
      obtain ⟨Ax, cx, rfl, hcx, hC⟩ := Kd.R_reads hR
      have HC := Lib.hid hC; clear hC
      have HRR := Lib.hid hR; clear hR
      have HB1 := Lib.hid hB1; clear hB1
      go_wp2_with fail
      refine (edit_fit.calls _ Ax cx x A1 c1 l1 false _ HC.out hcx (Kd.C_below HR1.out HB1.out) hc1 HFIT.out).mono ?_
      rintro e w2 ⟨rfl, hB2⟩
      have HB2 := Lib.hid hB2; clear hB2
      go_wp2_with fail
      go_ret2
      have h1 := Option.some.inj H1.out
      simp only [Prod.mk.injEq] at h1
      obtain ⟨rfl, rfl⟩ := h1
      exact ⟨rfl, HB1.out.trans (HB2.out.mono HB1.out.size)⟩
  · cases h
end Go.Proofs.Ytmecmmpgkcileaa.Z
