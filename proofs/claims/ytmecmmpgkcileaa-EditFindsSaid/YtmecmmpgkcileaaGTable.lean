/- The second program's table of chapter 18: for every two rows of lines within a bound, the table of the longest common rows. -/
import Derived.Test.YtmecmmpgkcileaaGGrid
import Derived.Test.YtmecmmpgkcileaaGStrs
import Derived.Deep.RegionHeld3
import Derived.Deep.DrawnRows
import Derived.Deep.DeepCutAuto
import Derived.Lib.Hide
namespace Go.Proofs.Ytmecmmpgkcileaa.Z
open Go.RowKit Go.Shelf Go.Proofs.YtmecmmpgkcileaaW.PrintWords Go.Proofs.YtmecmmpgkcileaaW.PrintLast Go.Proofs.YtmecmmpgkcileaaW.PrintMore

/-- The table as a list of rows. -/
def tabL (x y : List ByteArray) : List (List Int) := (List.range (x.length + 1)).map fun i => (List.range (y.length + 1)).map fun j => tabT x y i j
def regletref18_Table.f (l0 l1 : List ByteArray) : Option (List (List Int)) := if l0.length ≤ 1048576 ∧ l1.length ≤ 1048576 then some (tabL l0 l1) else none

/-! ### More on the grid -/
theorem RowAt.touch {W : World} {b m j : Nat} {T : Nat → Int} (h : RowAt W b m (j + 1) T) (u : Value) : RowAt (W.setCell ⟨b, j, none⟩ u) b m (j + 1) T := by
  obtain ⟨cs, g1, g2, g3⟩ := h
  refine ⟨_, blk_set g1 j _, by simp [g2], fun c h1 h2 => ?_⟩
  rw [Array.getElem?_setIfInBounds, if_neg (by omega)]
  exact g3 c h1 h2
theorem RowAt.touched {W : World} {b m j lo : Nat} {T : Nat → Int} (h : RowAt W b m lo T) (hj : j ≤ m) (u : Value) : (W.setCell ⟨b, j, none⟩ u).cell? ⟨b, j, none⟩ = some u := by
  obtain ⟨cs, g1, g2, g3⟩ := h
  rw [blk_cell (blk_set g1 j u), Array.getElem?_setIfInBounds, if_pos rfl, if_pos (by omega)]
theorem RowAt.close {W : World} {b m j : Nat} {T : Nat → Int} (h : RowAt W b m (j + 1) T) (hu : W.cell? ⟨b, j, none⟩ = some (.int .i64 (T j))) : RowAt W b m j T := by
  obtain ⟨cs, g1, g2, g3⟩ := h
  refine ⟨cs, g1, g2, fun c h1 h2 => ?_⟩
  by_cases e : j = c
  · subst e; rw [blk_cell g1] at hu; exact hu
  · exact g3 c (by omega) h2
theorem Grid.touch {W : World} {b n m i j : Nat} {T : Nat → Nat → Int} (h : Grid W b n m i (j + 1) T) (hi : i ≤ n) (u : Value) {k : Nat} (hk : k = b + 1 + (n - i)) : Grid (W.setCell ⟨k, j, none⟩ u) b n m i (j + 1) T := by
  subst hk
  exact ⟨h.outer.far (by show b ≠ b + 1 + (n - i); omega) _, fun r h1 h2 => (h.rows r h1 h2).far (by show b + 1 + (n - r) ≠ b + 1 + (n - i); omega) _, h.row.touch u⟩
/-- Whole rows, from i on. -/
structure Rows (W : World) (b n m i : Nat) (T : Nat → Nat → Int) : Prop where
  outer : OuterAt W b n m i
  rows : ∀ r, i ≤ r → r ≤ n → RowAt W (b + 1 + (n - r)) m 0 (T r)
theorem Grid.rows' {W : World} {b n m i : Nat} {T : Nat → Nat → Int} (h : Grid W b n m i 0 T) : Rows W b n m i T :=
  ⟨h.outer, fun r h1 h2 => by
    by_cases e : r = i
    · subst e; exact h.row
    · exact h.rows r (by omega) h2⟩
/-- A new row, whose places from lo on are 0. -/
theorem Rows.next {W : World} {b n m i lo : Nat} {T : Nat → Nat → Int} (h : Rows W b n m (i + 1) T) (hi : i ≤ n) (hs : W.heap.size = b + 1 + (n - i)) (hT : ∀ c, lo ≤ c → c ≤ m → T i c = 0) :
    Grid ((W.alloc (.cells (madeCells #[.int .i64 0] (m + 1)) 3)).setCell ⟨b, i, none⟩ (.slice (some ⟨W.heap.size, 0, none⟩) (m + 1) (m + 1))) b n m i lo T := by
  have h1 := RowAt.zeros W m lo (T i) hT
  have hlt := h.outer.lt
  refine ⟨(h.outer.alloc _).put (by omega) hs, fun r h2 h3 => ((h.rows r (by omega) h3).alloc _).far (by show b + 1 + (n - r) ≠ b; omega) _, ?_⟩
  rw [← hs]
  exact h1.far (by show W.heap.size ≠ b; omega) _
theorem Rows.start (W : World) (n m : Nat) (T : Nat → Nat → Int) : Rows (W.alloc (.cells (madeCells #[.slice none 0 0] (n + 1)) 80)) W.heap.size n m (n + 1) T :=
  ⟨OuterAt.made W n m, fun r h1 h2 => absurd h1 (by omega)⟩

theorem row_own {W : World} {b m base : Nat} {T : Nat → Int} {ok : Nat → Prop} (h : RowAt W b m 0 T) (hb : base ≤ b) (hm : m ≤ 1048576) (hok : ok b) :
    (Kd.int .i64).R 3 W base ok (.slice (some ⟨b, 0, none⟩) (m + 1) (m + 1)) ((List.range (m + 1)).map T) := by
  obtain ⟨cs, h1, h2, h3⟩ := h
  have hl : cs.toList.length = m + 1 := by rw [Array.length_toList, h2]
  refine ⟨fun k hk => by cases hk; exact hok, cs.toList, ⟨by simp [hl, Kd.int, Kd.scalar], .inr ⟨b, m + 1, cs, by simp, hb, h1, by simp, by unfold maxLen; omega, by simp [h2, Kd.int, Kd.scalar], ?_⟩⟩, by simp [hl, Kd.int, Kd.scalar], fun j p hj => ?_⟩
  · rw [List.take_of_length_le (by simp [hl, Kd.int, Kd.scalar])]
  · rw [List.getElem?_map] at hj
    have hjm : j < m + 1 := by
      by_cases e : j < m + 1
      · exact e
      · rw [List.getElem?_eq_none (by rw [List.length_range]; omega)] at hj; cases hj
    rw [List.getElem?_range hjm] at hj
    simp only [Option.map_some, Option.some.injEq] at hj
    subst hj
    have hc := h3 j (Nat.zero_le _) (by omega)
    show (cs.toList.drop (j * 1)).take 1 = [.int .i64 (T j)]
    rw [Nat.mul_one, List.drop_eq_getElem_cons (by omega), List.take_succ_cons, List.take_zero]
    congr 1
    have := (Array.getElem?_eq_some_iff.1 hc).2
    simpa using this
theorem table_own {W : World} {b n m base : Nat} {T : Nat → Nat → Int} (h : Rows W b n m 0 T) (hb : base ≤ b) (hn : n ≤ 1048576) (hm : m ≤ 1048576) :
    Kd.S (Kd.slice 3 (Kd.int .i64)) 80 W base (fun _ => True) (.slice (some ⟨b, 0, none⟩) (n + 1) (n + 1)) ((List.range (n + 1)).map fun i => (List.range (m + 1)).map fun j => T i j) := by
  obtain ⟨⟨cs, h1, h2, h3⟩, hr⟩ := h
  have hl : cs.toList.length = n + 1 := by rw [Array.length_toList, h2]
  refine ⟨fun k => b + 1 + n - k, fun _ _ => trivial, cs.toList, ⟨by simp [hl, Kd.tag, Kd.slice], .inr ⟨b, n + 1, cs, by simp, hb, h1, by simp, by unfold maxLen; omega, by simp [h2, Kd.tag, Kd.slice], ?_⟩⟩, by simp [hl, Kd.tag, Kd.slice], fun j p hj => ?_⟩
  · rw [List.take_of_length_le (by simp [hl, Kd.tag, Kd.slice])]
  · rw [List.getElem?_zipIdx, List.getElem?_map] at hj
    have hjn : j < n + 1 := by
      by_cases e : j < n + 1
      · exact e
      · rw [List.getElem?_eq_none (by rw [List.length_range]; omega)] at hj; cases hj
    rw [List.getElem?_range hjn] at hj
    simp only [Option.map_some, Option.some.injEq, Nat.zero_add] at hj
    subst hj
    have hc := h3 j (Nat.zero_le _) (by omega)
    show ∃ v, (cs.toList.drop (j * 1)).take 1 = [v] ∧ _
    refine ⟨.slice (some ⟨b + 1 + (n - j), 0, none⟩) (m + 1) (m + 1), ?_, row_own (hr j (Nat.zero_le _) (by omega)) (by omega) hm ⟨⟨trivial, fun e => ?_⟩, ?_⟩⟩
    · rw [Nat.mul_one, List.drop_eq_getElem_cons (by omega), List.take_succ_cons, List.take_zero]
      congr 1
      have := (Array.getElem?_eq_some_iff.1 hc).2
      simpa using this
    · have : b + 1 + (n - j) = b := Option.some.inj e
      omega
    · show b + 1 + n - (b + 1 + (n - j)) = j
      omega

theorem toList_same' (a b : ByteArray) : (a.toList == b.toList) = sameB a b := by unfold sameB; rw [ByteArray.toList_eq, ByteArray.toList_eq]
theorem w64_id (z : Int) (h0 : -4611686018427387904 ≤ z) (h1 : z ≤ 4611686018427387904) : wrap64 z = z := by unfold wrap64; omega
theorem info80' : (Try.prog.info? 80).map (fun i => (i.zero, i.size, i.bytes)) = some (some (.slice none 0 0), 1, 24) := by kernel_rfl
theorem info3' : (Try.prog.info? 3).map (fun i => (i.zero, i.size, i.bytes)) = some (some (.int .i64 0), 1, 8) := by kernel_rfl

set_option maxRecDepth 100000 in
set_option maxHeartbeats 4000000 in
theorem regletref18_Table.calls (A0 : Option Addr) (c0 : Nat) (l0 : List ByteArray) (A1 : Option Addr) (c1 : Nat) (l1 : List ByteArray) (r : List (List Int)) (w : World) (hr0 : Kd.C Kd.string w A0 l0.length l0) (_ : l0.length ≤ c0) (hr1 : Kd.C Kd.string w A1 l1.length l1) (_ : l1.length ≤ c1) (h : regletref18_Table.f l0 l1 = some r) :
    Calls Try.prog 47 #[.slice A0 l0.length c0, .slice A1 l1.length c1] w fun e w' => ∃ v0_ : Value, e = .returned v0_ ∧ Kd.S (Kd.slice 3 (Kd.int .i64)) 80 w' w.heap.size (fun _ => True) v0_ r ∧ Below w.heap.size w w' := by
  unfold regletref18_Table.f at h
  split at h
  · rename_i hd
    obtain ⟨hxl, hyl⟩ := hd
    obtain rfl := Option.some.inj h
    clear h
    obtain ⟨b, hb⟩ : ∃ b, w.heap.size = b := ⟨_, rfl⟩
    have HB0 := Lib.hid hb
    have HX := Lib.hid hr0; clear hr0
    have HY := Lib.hid hr1; clear hr1
    obtain ⟨n1, hn1⟩ : ∃ n1, n1 = l0.length + 1 := ⟨_, rfl⟩
    obtain ⟨m1, hm1⟩ : ∃ m1, m1 = l1.length + 1 := ⟨_, rfl⟩
    have hwn : IntKind.i64.wrap ((l0.length : Int) + 1) = (n1 : Int) := by rw [i64_w, w64_id _ (by omega) (by omega), hn1]; rfl
    have hwm : IntKind.i64.wrap ((l1.length : Int) + 1) = (m1 : Int) := by rw [i64_w, w64_id _ (by omega) (by omega), hm1]; rfl
    have hmk := print_make_of (P := Try.prog) 79 80 (.slice none 0 0) 24 Try.underlying79 info80' rfl (by decide) n1 (by omega)
    have hmr := print_make_of (P := Try.prog) 80 3 (.int .i64 0) 8 Try.underlying80 info3' rfl (by decide) m1 (by omega)
    have hG := Rows.start w l0.length l1.length (tabT l0 l1)
    rw [← hn1, hb] at hG
    have hGs : (w.alloc (.cells (madeCells #[.slice none 0 0] n1) 80)).heap.size = b + 1 := by simp [hb]
    have hGb : Below b w (w.alloc (.cells (madeCells #[.slice none 0 0] n1) 80)) := (Below.refl _ _).alloc (by omega) _
    have HN1 := Lib.hid hn1; clear hn1
    have HM1 := Lib.hid hm1; clear hm1
    have HG := Lib.hid hG; clear hG
    have HGS := Lib.hid hGs; clear hGs
    have HGB := Lib.hid hGb; clear hGb
    go_enter Try.func47, Try.ntmps47
    go_upto_region 3 with (fail)
    generalize w.alloc (.cells (madeCells #[.slice none 0 0] n1) 80) = W3 at HG HGS HGB ⊢
    go_loopg [6] (l0.length + 2) (fun kq v6 wr => ∃ i : Nat, i ≤ l0.length + 1 ∧ v6 = .int .i64 ((i : Int) - 1) ∧ i ≤ kq ∧ Hid (Below b w wr) ∧ Hid (Rows wr b l0.length l1.length i (tabT l0 l1)) ∧ wr.heap.size = b + 1 + (l0.length + 1 - i))
    case atStart => exact ⟨l0.length + 1, Nat.le_refl _, by simp, by omega, HGB, by rw [← HN1.out]; exact HG, by have := HGS.out; omega⟩
    case round =>
      obtain ⟨i, hi, rfl, hk, HBR, HGR, hsr⟩ := hrel
      rcases i with _ | i
      · rw [show (((0 : Nat) : Int) - 1) = (-1 : Int) from rfl]
        have hS : Kd.S (Kd.slice 3 (Kd.int .i64)) 80 wr b (fun _ => True) (.slice (some ⟨b, 0, none⟩) n1 n1) (tabL l0 l1) := by rw [HN1.out]; exact table_own HGR.out (Nat.le_refl _) hxl hyl
        have HS := Lib.hid hS; clear hS
        go_wp2
        go_ret
        exact ⟨_, rfl, by rw [HB0.out]; exact HS.out, by rw [HB0.out]; exact HBR.out⟩
      · obtain ⟨ko, rfl⟩ : ∃ ko, gk = ko + 1 := ⟨gk - 1, by omega⟩
        rw [show (((i + 1 : Nat) : Int) - 1) = (i : Int) by omega]
        have hin : i < n1 := by have := HN1.out; omega
        have hO := HGR.out.outer.alloc (.cells (madeCells #[.int .i64 0] m1) 3)
        obtain ⟨vO, cO⟩ := hO.there (r := i) (by omega)
        have fO := hO.frozen i
        have hT0 : ∀ c, (if i = l0.length then 0 else l1.length) ≤ c → c ≤ l1.length → tabT l0 l1 i c = 0 := fun c h1 h2 => by
          by_cases e : i = l0.length
          · rw [e]; exact tabT_last l0 l1 c
          · rw [if_neg e] at h1
            rw [show c = l1.length by omega]; exact tabT_end l0 l1 i
        have hG := Rows.next HGR.out (by omega) (by omega) hT0
        rw [← HM1.out] at hG
        have hB := (HBR.out.alloc (o := .cells (madeCells #[.int .i64 0] m1) 3) (by omega)).setCell (p := ⟨b, i, none⟩) (by show b ≤ b; omega) (.slice (some ⟨wr.heap.size, 0, none⟩) m1 m1)
        have hS : ((wr.alloc (.cells (madeCells #[.int .i64 0] m1) 3)).setCell ⟨b, i, none⟩ (.slice (some ⟨wr.heap.size, 0, none⟩) m1 m1)).heap.size = b + 1 + (l0.length + 1 - i) := by simp [World.setCell]; omega
        have HG2 := Lib.hid hG; clear hG hO hT0
        have HB2 := Lib.hid hB; clear hB
        have HS2 := Lib.hid hS; clear hS
        have HSR := Lib.hid hsr; clear hsr
        go_upto_region 6 with (fail)
        generalize (wr.alloc (.cells (madeCells #[.int .i64 0] m1) 3)).setCell ⟨b, i, none⟩ (.slice (some ⟨wr.heap.size, 0, none⟩) m1 m1) = W4 at HG2 HB2 HS2 ⊢
        clear vO cO fO
        have hwp : IntKind.i64.wrap ((l1.length : Int) - 1) = (l1.length : Int) - 1 := by rw [i64_w]; exact w64_id _ (by omega) (by omega)
        go_upto_region 7 with (fail)
        clear hwp
        have hwo : IntKind.i64.wrap ((i : Int) - 1) = (i : Int) - 1 := by rw [i64_w]; exact w64_id _ (by omega) (by omega)
        have HWO := Lib.hid hwo; clear hwo
        by_cases hin2 : i = l0.length
        · have hg := HG2.out
          rw [if_pos hin2] at hg
          have HG3 := Lib.hid hg.rows'; clear hg HG2
          have d1 : decide ((i : Int) < (l0.length : Int)) = false := decide_eq_false (by omega)
          have d1n : decide (i < l0.length) = false := decide_eq_false (by omega)
          go_loopg [7] 1 (fun kq v7 wq => v7 = .int .i64 ((l1.length : Int) - 1) ∧ wq = W4)
          case atStart => exact ⟨rfl, rfl⟩
          case round =>
            obtain ⟨rfl, rfl⟩ := hrel
            have hwo := HWO.out
            by_cases hj0 : l1.length = 0
            · have d2 : decide ((0 : Int) ≤ (l1.length : Int) - 1) = false := decide_eq_false (by omega)
              go_wp2
              go_roundg ko
              case measure => omega
              case rel => exact ⟨i, by omega, by rw [hin2], by omega, HB2, HG3, HS2.out⟩
            · have d2 : decide ((0 : Int) ≤ (l1.length : Int) - 1) = true := decide_eq_true (by omega)
              go_wp2
              go_roundg ko
              case measure => omega
              case rel => exact ⟨i, by omega, by rw [hin2], by omega, HB2, HG3, HS2.out⟩
        · have hg := HG2.out
          rw [if_neg hin2] at hg
          have HG3 := Lib.hid hg; clear hg HG2
          have hin3 : i < l0.length := by omega
          go_loopg [7] (l1.length + 1) (fun kq v7 wq => ∃ j : Nat, j ≤ l1.length ∧ v7 = .int .i64 ((j : Int) - 1) ∧ j ≤ kq ∧ Hid (Below b w wq) ∧ Hid (Grid wq b l0.length l1.length i j (tabT l0 l1)) ∧ wq.heap.size = b + 1 + (l0.length + 1 - i))
          case atStart => exact ⟨l1.length, Nat.le_refl _, rfl, by omega, HB2, HG3, HS2.out⟩
          case round =>
            obtain ⟨j, hj, rfl, hkj, HBQ, HGQ, hsq⟩ := hrel
            rcases j with _ | j
            · have hwo := HWO.out
              rw [show (((0 : Nat) : Int) - 1) = (-1 : Int) from rfl]
              have hgr := HGQ.out.rows'
              have HGR2 := Lib.hid hgr; clear hgr
              go_wp2
              go_roundg ko
              case measure => omega
              case rel => exact ⟨i, by omega, rfl, by omega, HBQ, HGR2, hsq⟩
            · rw [show (((j + 1 : Nat) : Int) - 1) = (j : Int) by omega]
              have hjm : j < l1.length := by omega
              have d1 : decide ((i : Int) < (l0.length : Int)) = true := decide_eq_true (by omega)
              have d1n : decide (i < l0.length) = true := decide_eq_true hin3
              obtain ⟨bx, ox, rfl, hbx, hxs⟩ := C_strings HX.out (by omega)
              obtain ⟨bv, ov, rfl, hbv, hys⟩ := C_strings HY.out (by omega)
              rw [hb] at hbx hbv
              have cxi := hxs i _ (List.getElem?_eq_getElem hin3)
              have cyj := hys j _ (List.getElem?_eq_getElem hjm)
              have hsame := tabT_same hin3 hjm
              have helse := tabT_else hin3 hjm
              have HSM := Lib.hid hsame; clear hsame
              have HEL := Lib.hid helse; clear helse
              clear hxs hys
              generalize l0[i] = xi at cxi HSM HEL
              generalize l1[j] = yj at cyj HSM HEL
              obtain ⟨k1, rfl⟩ : ∃ k1, gk = k1 + 1 := ⟨gk - 1, by omega⟩
              obtain ⟨i1, hi1⟩ : ∃ i1, i1 = i + 1 := ⟨_, rfl⟩
              obtain ⟨j1, hj1⟩ : ∃ j1, j1 = j + 1 := ⟨_, rfl⟩
              obtain ⟨g0, hg0⟩ : ∃ g0, g0 = b + 1 + (l0.length - i) := ⟨_, rfl⟩
              obtain ⟨g1, hg1⟩ : ∃ g1, g1 = b + 1 + (l0.length - i1) := ⟨_, rfl⟩
              have hwi : IntKind.i64.wrap ((i : Int) + 1) = (i1 : Int) := by rw [i64_w, w64_id _ (by omega) (by omega), hi1]; rfl
              have hwj : IntKind.i64.wrap ((j : Int) + 1) = (j1 : Int) := by rw [i64_w, w64_id _ (by omega) (by omega), hj1]; rfl
              have hwd : IntKind.i64.wrap ((j : Int) - 1) = (j : Int) - 1 := by rw [i64_w]; exact w64_id _ (by omega) (by omega)
              have q1 : i < n1 := hin
              have q2 : i1 < n1 := by have := HN1.out; omega
              have q3 : j < m1 := by have := HM1.out; omega
              have q4 : j1 < m1 := by have := HM1.out; omega
              obtain ⟨t, ht⟩ : ∃ t, t = tabT l0 l1 i j := ⟨_, rfl⟩
              obtain ⟨t11, ht11⟩ : ∃ t, t = tabT l0 l1 i1 j1 := ⟨_, rfl⟩
              obtain ⟨t10, ht10⟩ : ∃ t, t = tabT l0 l1 i1 j := ⟨_, rfl⟩
              obtain ⟨t01, ht01⟩ : ∃ t, t = tabT l0 l1 i j1 := ⟨_, rfl⟩
              have hT := tabT_le l0 l1 i1 j1
              rw [← ht11] at hT
              have HCELL := Lib.hid (show ∀ (W : World), Grid W b l0.length l1.length i (j + 1) (tabT l0 l1) → W.cell? ⟨b, i, none⟩ = some (.slice (some ⟨g0, 0, none⟩) m1 m1) ∧ W.cell? ⟨b, i1, none⟩ = some (.slice (some ⟨g1, 0, none⟩) m1 m1) ∧ W.cell? ⟨g1, j1, none⟩ = some (.int .i64 t11) ∧ W.cell? ⟨g1, j, none⟩ = some (.int .i64 t10) ∧ W.cell? ⟨g0, j1, none⟩ = some (.int .i64 t01) from fun W hG => by
                rw [hg0, hg1, ht11, ht10, ht01, hi1, hj1, HM1.out]
                exact ⟨hG.outer.cell (Nat.le_refl _) (by omega), hG.outer.cell (by omega) (by omega), (hG.rows (i + 1) (by omega) (by omega)).cell (Nat.zero_le _) (by omega), (hG.rows (i + 1) (by omega) (by omega)).cell (Nat.zero_le _) (by omega), hG.row.cell (Nat.le_refl _) (by omega)⟩)
              have HTOUCH := Lib.hid (show ∀ (W : World) (u : Value), Grid W b l0.length l1.length i (j + 1) (tabT l0 l1) → Grid (W.setCell ⟨g0, j, none⟩ u) b l0.length l1.length i (j + 1) (tabT l0 l1) ∧ (W.setCell ⟨g0, j, none⟩ u).cell? ⟨g0, j, none⟩ = some u from fun W u hG =>
                ⟨hG.touch (by omega) u hg0, by rw [hg0]; exact hG.row.touched (by omega) u⟩)
              have HCLOSE := Lib.hid (show ∀ (W : World), Grid W b l0.length l1.length i (j + 1) (tabT l0 l1) → W.cell? ⟨g0, j, none⟩ = some (.int .i64 t) → Grid W b l0.length l1.length i j (tabT l0 l1) from fun W hG hc => by
                rw [hg0, ht] at hc
                exact ⟨hG.outer, hG.rows, hG.row.close hc⟩)
              have HTHERE := Lib.hid (show ∀ (W : World), Grid W b l0.length l1.length i (j + 1) (tabT l0 l1) → (∃ v, W.cell? ⟨g0, j, none⟩ = some v) ∧ W.frozen? ⟨g0, j, none⟩ = false from fun W hG => by
                rw [hg0]
                exact ⟨hG.row.there (by omega), hG.row.frozen j⟩)
              have HGE := Lib.hid (show b ≤ g0 from by omega)
              have HI1 := Lib.hid hi1; clear hi1
              have HJ1 := Lib.hid hj1; clear hj1
              have HT0 := Lib.hid ht; clear ht
              have HT11 := Lib.hid ht11; clear ht11
              have HT10 := Lib.hid ht10; clear ht10
              have HT01 := Lib.hid ht01; clear ht01
              have HXI := Lib.hid cxi; clear cxi
              have HYJ := Lib.hid cyj; clear cyj
              clear hb
              clear hg0 hg1
              have hwt : IntKind.i64.wrap (t11 + 1) = t11 + 1 := by rw [i64_w]; exact w64_id _ (by omega) (by omega)
              by_cases hlt : t10 < t01
              · have dlt : decide (t10 < t01) = true := decide_eq_true hlt
                by_cases hs : sameB xi yj = true
                · have he : (xi.toList == yj.toList) = true := (toList_same' xi yj).trans hs
                  have hfin : t11 + 1 = t := by rw [HT0.out, HSM.out hs, HT11.out, HI1.out, HJ1.out]
                  have HFIN := Lib.hid hfin; clear hfin
                  clear hs hlt
                  have HGW0 := HGQ
                  have HBW0 := HBQ
                  have HSW0 := Lib.hid hsq
                  clear hsq HGQ HBQ
                  generalize wr = W0 at HGW0 HBW0 HSW0 ⊢
                  go_upto_region 9 with (fail)
                  obtain ⟨⟨v5, hv5⟩, hf5⟩ := HTHERE.out W0 HGW0.out
                  have hS0 := HCELL.out W0.drew HGW0.out.drew
                  have hS1 := HCELL.out _ (HTOUCH.out W0.drew (.int .i64 t10) HGW0.out.drew).1
                  have hg2 := HTOUCH.out W0 (.int .i64 t10) HGW0.out
                  have HGW9 := Lib.hid hg2.1.drew
                  have HCW9 := Lib.hid (show (W0.setCell ⟨g0, j, none⟩ (.int .i64 t10)).drew.cell? ⟨g0, j, none⟩ = some (.int .i64 t10) from hg2.2)
                  have HBW9 := Lib.hid (HBW0.out.setCell (p := ⟨g0, j, none⟩) HGE.out (.int .i64 t10)).drew
                  have HSW9 := Lib.hid (show (W0.setCell ⟨g0, j, none⟩ (.int .i64 t10)).drew.heap.size = b + 1 + (l0.length + 1 - i) from by have := HSW0.out; simpa [World.setCell] using this)
                  clear hg2
                  go_region_held3 (fun W => W.cell? ⟨b, i, none⟩ = some (.slice (some ⟨g0, 0, none⟩) m1 m1) ∧ W.cell? ⟨b, i1, none⟩ = some (.slice (some ⟨g1, 0, none⟩) m1 m1) ∧ W.cell? ⟨g1, j1, none⟩ = some (.int .i64 t11) ∧ W.cell? ⟨g1, j, none⟩ = some (.int .i64 t10) ∧ W.cell? ⟨g0, j1, none⟩ = some (.int .i64 t01))
                    (first | exact hS0 | exact hS1)
                    (fail)
                  generalize (W0.setCell ⟨g0, j, none⟩ (.int .i64 t10)).drew = W9 at HGW9 HCW9 HBW9 HSW9 ⊢
                  clear hS0 hS1 hv5 hf5
                  obtain ⟨z1, z2, z3, z4, z5⟩ := HCELL.out W9 HGW9.out
                  have z6 := HCW9.out
                  go_upto_region 10 with (fail)
                  go_quiet (fail)
                  go_upto_region 11 with (fail)
                  have HGW10 := Lib.hid (HGW9.out.drewN nq)
                  have HBW10 := Lib.hid (pw_below_drewN HBW9.out nq)
                  have HSW10 := Lib.hid (show (W9.drewN nq).heap.size = b + 1 + (l0.length + 1 - i) from HSW9.out)
                  have HCW10 := Lib.hid (show (W9.drewN nq).cell? ⟨g0, j, none⟩ = some (.int .i64 t10) from HCW9.out)
                  clear z1 z2 z3 z4 z5 z6
                  generalize W9.drewN nq = W10 at HGW10 HBW10 HSW10 HCW10 ⊢
                  go_upto_region 11 with (fail)
                  obtain ⟨⟨v5, hv5⟩, hf5⟩ := HTHERE.out W10 HGW10.out
                  have hS0 := HCELL.out W10.drew HGW10.out.drew
                  have hS1 := HCELL.out _ (HTOUCH.out W10.drew (.int .i64 t01) HGW10.out.drew).1
                  have hg2 := HTOUCH.out W10 (.int .i64 t01) HGW10.out
                  have HGW11 := Lib.hid hg2.1.drew
                  have HCW11 := Lib.hid (show (W10.setCell ⟨g0, j, none⟩ (.int .i64 t01)).drew.cell? ⟨g0, j, none⟩ = some (.int .i64 t01) from hg2.2)
                  have HBW11 := Lib.hid (HBW10.out.setCell (p := ⟨g0, j, none⟩) HGE.out (.int .i64 t01)).drew
                  have HSW11 := Lib.hid (show (W10.setCell ⟨g0, j, none⟩ (.int .i64 t01)).drew.heap.size = b + 1 + (l0.length + 1 - i) from by have := HSW10.out; simpa [World.setCell] using this)
                  clear hg2
                  go_region_held3 (fun W => W.cell? ⟨b, i, none⟩ = some (.slice (some ⟨g0, 0, none⟩) m1 m1) ∧ W.cell? ⟨b, i1, none⟩ = some (.slice (some ⟨g1, 0, none⟩) m1 m1) ∧ W.cell? ⟨g1, j1, none⟩ = some (.int .i64 t11) ∧ W.cell? ⟨g1, j, none⟩ = some (.int .i64 t10) ∧ W.cell? ⟨g0, j1, none⟩ = some (.int .i64 t01))
                    (first | exact hS0 | exact hS1)
                    (fail)
                  generalize (W10.setCell ⟨g0, j, none⟩ (.int .i64 t01)).drew = W11 at HGW11 HCW11 HBW11 HSW11 ⊢
                  clear hS0 hS1 hv5 hf5
                  have cxi := (HBW11.out.cell (p := ⟨bx, ox + i, none⟩) hbx).trans HXI.out
                  have cyj := (HBW11.out.cell (p := ⟨bv, ov + j, none⟩) hbv).trans HYJ.out
                  go_upto_region 12 with (fail)
                  go_quiet (fail)
                  go_upto_region 13 with (fail)
                  clear cxi cyj
                  have HGW12 := Lib.hid (HGW11.out.drewN nq)
                  have HBW12 := Lib.hid (pw_below_drewN HBW11.out nq)
                  have HSW12 := Lib.hid (show (W11.drewN nq).heap.size = b + 1 + (l0.length + 1 - i) from HSW11.out)
                  have HCW12 := Lib.hid (show (W11.drewN nq).cell? ⟨g0, j, none⟩ = some (.int .i64 t01) from HCW11.out)
                  generalize W11.drewN nq = W12 at HGW12 HBW12 HSW12 HCW12 ⊢
                  go_upto_region 13 with (fail)
                  obtain ⟨⟨v5, hv5⟩, hf5⟩ := HTHERE.out W12 HGW12.out
                  have hS0 := HCELL.out W12.drew HGW12.out.drew
                  have hS1 := HCELL.out _ (HTOUCH.out W12.drew (.int .i64 (t11 + 1)) HGW12.out.drew).1
                  have hg2 := HTOUCH.out W12 (.int .i64 (t11 + 1)) HGW12.out
                  have HGW13 := Lib.hid hg2.1.drew
                  have HCW13 := Lib.hid (show (W12.setCell ⟨g0, j, none⟩ (.int .i64 (t11 + 1))).drew.cell? ⟨g0, j, none⟩ = some (.int .i64 (t11 + 1)) from hg2.2)
                  have HBW13 := Lib.hid (HBW12.out.setCell (p := ⟨g0, j, none⟩) HGE.out (.int .i64 (t11 + 1))).drew
                  have HSW13 := Lib.hid (show (W12.setCell ⟨g0, j, none⟩ (.int .i64 (t11 + 1))).drew.heap.size = b + 1 + (l0.length + 1 - i) from by have := HSW12.out; simpa [World.setCell] using this)
                  clear hg2
                  go_region_held3 (fun W => W.cell? ⟨b, i, none⟩ = some (.slice (some ⟨g0, 0, none⟩) m1 m1) ∧ W.cell? ⟨b, i1, none⟩ = some (.slice (some ⟨g1, 0, none⟩) m1 m1) ∧ W.cell? ⟨g1, j1, none⟩ = some (.int .i64 t11) ∧ W.cell? ⟨g1, j, none⟩ = some (.int .i64 t10) ∧ W.cell? ⟨g0, j1, none⟩ = some (.int .i64 t01))
                    (first | exact hS0 | exact hS1)
                    (fail)
                  generalize (W12.setCell ⟨g0, j, none⟩ (.int .i64 (t11 + 1))).drew = W13 at HGW13 HCW13 HBW13 HSW13 ⊢
                  clear hS0 hS1 hv5 hf5
                  have hcl := HCW13.out
                  rw [HFIN.out] at hcl
                  have HGF := Lib.hid (HCLOSE.out _ HGW13.out hcl)
                  clear hcl
                  go_wp2
                  go_roundg k1
                  case measure => omega
                  case rel => exact ⟨j, by omega, rfl, by omega, HBW13, HGF, HSW13.out⟩
                · have he : (xi.toList == yj.toList) = false := (toList_same' xi yj).trans (by simpa using hs)
                  have hfin : t01 = t := by
                    have h1 := HEL.out (by simpa using hs)
                    have h2 := HT10.out
                    have h3 := HT01.out
                    rw [HI1.out] at h2
                    rw [HJ1.out] at h3
                    rw [HT0.out, h1]
                    omega
                  have HFIN := Lib.hid hfin; clear hfin
                  clear hs hlt
                  have HGW0 := HGQ
                  have HBW0 := HBQ
                  have HSW0 := Lib.hid hsq
                  clear hsq HGQ HBQ
                  generalize wr = W0 at HGW0 HBW0 HSW0 ⊢
                  go_upto_region 9 with (fail)
                  obtain ⟨⟨v5, hv5⟩, hf5⟩ := HTHERE.out W0 HGW0.out
                  have hS0 := HCELL.out W0.drew HGW0.out.drew
                  have hS1 := HCELL.out _ (HTOUCH.out W0.drew (.int .i64 t10) HGW0.out.drew).1
                  have hg2 := HTOUCH.out W0 (.int .i64 t10) HGW0.out
                  have HGW9 := Lib.hid hg2.1.drew
                  have HCW9 := Lib.hid (show (W0.setCell ⟨g0, j, none⟩ (.int .i64 t10)).drew.cell? ⟨g0, j, none⟩ = some (.int .i64 t10) from hg2.2)
                  have HBW9 := Lib.hid (HBW0.out.setCell (p := ⟨g0, j, none⟩) HGE.out (.int .i64 t10)).drew
                  have HSW9 := Lib.hid (show (W0.setCell ⟨g0, j, none⟩ (.int .i64 t10)).drew.heap.size = b + 1 + (l0.length + 1 - i) from by have := HSW0.out; simpa [World.setCell] using this)
                  clear hg2
                  go_region_held3 (fun W => W.cell? ⟨b, i, none⟩ = some (.slice (some ⟨g0, 0, none⟩) m1 m1) ∧ W.cell? ⟨b, i1, none⟩ = some (.slice (some ⟨g1, 0, none⟩) m1 m1) ∧ W.cell? ⟨g1, j1, none⟩ = some (.int .i64 t11) ∧ W.cell? ⟨g1, j, none⟩ = some (.int .i64 t10) ∧ W.cell? ⟨g0, j1, none⟩ = some (.int .i64 t01))
                    (first | exact hS0 | exact hS1)
                    (fail)
                  generalize (W0.setCell ⟨g0, j, none⟩ (.int .i64 t10)).drew = W9 at HGW9 HCW9 HBW9 HSW9 ⊢
                  clear hS0 hS1 hv5 hf5
                  obtain ⟨z1, z2, z3, z4, z5⟩ := HCELL.out W9 HGW9.out
                  have z6 := HCW9.out
                  go_upto_region 10 with (fail)
                  go_quiet (fail)
                  go_upto_region 11 with (fail)
                  have HGW10 := Lib.hid (HGW9.out.drewN nq)
                  have HBW10 := Lib.hid (pw_below_drewN HBW9.out nq)
                  have HSW10 := Lib.hid (show (W9.drewN nq).heap.size = b + 1 + (l0.length + 1 - i) from HSW9.out)
                  have HCW10 := Lib.hid (show (W9.drewN nq).cell? ⟨g0, j, none⟩ = some (.int .i64 t10) from HCW9.out)
                  clear z1 z2 z3 z4 z5 z6
                  generalize W9.drewN nq = W10 at HGW10 HBW10 HSW10 HCW10 ⊢
                  go_upto_region 11 with (fail)
                  obtain ⟨⟨v5, hv5⟩, hf5⟩ := HTHERE.out W10 HGW10.out
                  have hS0 := HCELL.out W10.drew HGW10.out.drew
                  have hS1 := HCELL.out _ (HTOUCH.out W10.drew (.int .i64 t01) HGW10.out.drew).1
                  have hg2 := HTOUCH.out W10 (.int .i64 t01) HGW10.out
                  have HGW11 := Lib.hid hg2.1.drew
                  have HCW11 := Lib.hid (show (W10.setCell ⟨g0, j, none⟩ (.int .i64 t01)).drew.cell? ⟨g0, j, none⟩ = some (.int .i64 t01) from hg2.2)
                  have HBW11 := Lib.hid (HBW10.out.setCell (p := ⟨g0, j, none⟩) HGE.out (.int .i64 t01)).drew
                  have HSW11 := Lib.hid (show (W10.setCell ⟨g0, j, none⟩ (.int .i64 t01)).drew.heap.size = b + 1 + (l0.length + 1 - i) from by have := HSW10.out; simpa [World.setCell] using this)
                  clear hg2
                  go_region_held3 (fun W => W.cell? ⟨b, i, none⟩ = some (.slice (some ⟨g0, 0, none⟩) m1 m1) ∧ W.cell? ⟨b, i1, none⟩ = some (.slice (some ⟨g1, 0, none⟩) m1 m1) ∧ W.cell? ⟨g1, j1, none⟩ = some (.int .i64 t11) ∧ W.cell? ⟨g1, j, none⟩ = some (.int .i64 t10) ∧ W.cell? ⟨g0, j1, none⟩ = some (.int .i64 t01))
                    (first | exact hS0 | exact hS1)
                    (fail)
                  generalize (W10.setCell ⟨g0, j, none⟩ (.int .i64 t01)).drew = W11 at HGW11 HCW11 HBW11 HSW11 ⊢
                  clear hS0 hS1 hv5 hf5
                  have cxi := (HBW11.out.cell (p := ⟨bx, ox + i, none⟩) hbx).trans HXI.out
                  have cyj := (HBW11.out.cell (p := ⟨bv, ov + j, none⟩) hbv).trans HYJ.out
                  go_upto_region 12 with (fail)
                  go_quiet (fail)
                  go_upto_region 8 with (fail)
                  clear cxi cyj
                  have HGW12 := Lib.hid (HGW11.out.drewN nq)
                  have HBW12 := Lib.hid (pw_below_drewN HBW11.out nq)
                  have HSW12 := Lib.hid (show (W11.drewN nq).heap.size = b + 1 + (l0.length + 1 - i) from HSW11.out)
                  have HCW12 := Lib.hid (show (W11.drewN nq).cell? ⟨g0, j, none⟩ = some (.int .i64 t01) from HCW11.out)
                  generalize W11.drewN nq = W12 at HGW12 HBW12 HSW12 HCW12 ⊢
                  have hcl := HCW12.out
                  rw [HFIN.out] at hcl
                  have HGF := Lib.hid (HCLOSE.out _ HGW12.out hcl)
                  clear hcl
                  go_wp2
                  go_roundg k1
                  case measure => omega
                  case rel => exact ⟨j, by omega, rfl, by omega, HBW12, HGF, HSW12.out⟩
              · have dlt : decide (t10 < t01) = false := decide_eq_false hlt
                by_cases hs : sameB xi yj = true
                · have he : (xi.toList == yj.toList) = true := (toList_same' xi yj).trans hs
                  have hfin : t11 + 1 = t := by rw [HT0.out, HSM.out hs, HT11.out, HI1.out, HJ1.out]
                  have HFIN := Lib.hid hfin; clear hfin
                  clear hs hlt
                  have HGW0 := HGQ
                  have HBW0 := HBQ
                  have HSW0 := Lib.hid hsq
                  clear hsq HGQ HBQ
                  generalize wr = W0 at HGW0 HBW0 HSW0 ⊢
                  go_upto_region 9 with (fail)
                  obtain ⟨⟨v5, hv5⟩, hf5⟩ := HTHERE.out W0 HGW0.out
                  have hS0 := HCELL.out W0.drew HGW0.out.drew
                  have hS1 := HCELL.out _ (HTOUCH.out W0.drew (.int .i64 t10) HGW0.out.drew).1
                  have hg2 := HTOUCH.out W0 (.int .i64 t10) HGW0.out
                  have HGW9 := Lib.hid hg2.1.drew
                  have HCW9 := Lib.hid (show (W0.setCell ⟨g0, j, none⟩ (.int .i64 t10)).drew.cell? ⟨g0, j, none⟩ = some (.int .i64 t10) from hg2.2)
                  have HBW9 := Lib.hid (HBW0.out.setCell (p := ⟨g0, j, none⟩) HGE.out (.int .i64 t10)).drew
                  have HSW9 := Lib.hid (show (W0.setCell ⟨g0, j, none⟩ (.int .i64 t10)).drew.heap.size = b + 1 + (l0.length + 1 - i) from by have := HSW0.out; simpa [World.setCell] using this)
                  clear hg2
                  go_region_held3 (fun W => W.cell? ⟨b, i, none⟩ = some (.slice (some ⟨g0, 0, none⟩) m1 m1) ∧ W.cell? ⟨b, i1, none⟩ = some (.slice (some ⟨g1, 0, none⟩) m1 m1) ∧ W.cell? ⟨g1, j1, none⟩ = some (.int .i64 t11) ∧ W.cell? ⟨g1, j, none⟩ = some (.int .i64 t10) ∧ W.cell? ⟨g0, j1, none⟩ = some (.int .i64 t01))
                    (first | exact hS0 | exact hS1)
                    (fail)
                  generalize (W0.setCell ⟨g0, j, none⟩ (.int .i64 t10)).drew = W9 at HGW9 HCW9 HBW9 HSW9 ⊢
                  clear hS0 hS1 hv5 hf5
                  obtain ⟨z1, z2, z3, z4, z5⟩ := HCELL.out W9 HGW9.out
                  have z6 := HCW9.out
                  go_upto_region 10 with (fail)
                  go_quiet (fail)
                  go_upto_region 12 with (fail)
                  have HGW10 := Lib.hid (HGW9.out.drewN nq)
                  have HBW10 := Lib.hid (pw_below_drewN HBW9.out nq)
                  have HSW10 := Lib.hid (show (W9.drewN nq).heap.size = b + 1 + (l0.length + 1 - i) from HSW9.out)
                  have HCW10 := Lib.hid (show (W9.drewN nq).cell? ⟨g0, j, none⟩ = some (.int .i64 t10) from HCW9.out)
                  clear z1 z2 z3 z4 z5 z6
                  generalize W9.drewN nq = W10 at HGW10 HBW10 HSW10 HCW10 ⊢
                  have cxi := (HBW10.out.cell (p := ⟨bx, ox + i, none⟩) hbx).trans HXI.out
                  have cyj := (HBW10.out.cell (p := ⟨bv, ov + j, none⟩) hbv).trans HYJ.out
                  go_upto_region 12 with (fail)
                  go_quiet (fail)
                  go_upto_region 13 with (fail)
                  clear cxi cyj
                  have HGW12 := Lib.hid (HGW10.out.drewN nq)
                  have HBW12 := Lib.hid (pw_below_drewN HBW10.out nq)
                  have HSW12 := Lib.hid (show (W10.drewN nq).heap.size = b + 1 + (l0.length + 1 - i) from HSW10.out)
                  have HCW12 := Lib.hid (show (W10.drewN nq).cell? ⟨g0, j, none⟩ = some (.int .i64 t10) from HCW10.out)
                  generalize W10.drewN nq = W12 at HGW12 HBW12 HSW12 HCW12 ⊢
                  go_upto_region 13 with (fail)
                  obtain ⟨⟨v5, hv5⟩, hf5⟩ := HTHERE.out W12 HGW12.out
                  have hS0 := HCELL.out W12.drew HGW12.out.drew
                  have hS1 := HCELL.out _ (HTOUCH.out W12.drew (.int .i64 (t11 + 1)) HGW12.out.drew).1
                  have hg2 := HTOUCH.out W12 (.int .i64 (t11 + 1)) HGW12.out
                  have HGW13 := Lib.hid hg2.1.drew
                  have HCW13 := Lib.hid (show (W12.setCell ⟨g0, j, none⟩ (.int .i64 (t11 + 1))).drew.cell? ⟨g0, j, none⟩ = some (.int .i64 (t11 + 1)) from hg2.2)
                  have HBW13 := Lib.hid (HBW12.out.setCell (p := ⟨g0, j, none⟩) HGE.out (.int .i64 (t11 + 1))).drew
                  have HSW13 := Lib.hid (show (W12.setCell ⟨g0, j, none⟩ (.int .i64 (t11 + 1))).drew.heap.size = b + 1 + (l0.length + 1 - i) from by have := HSW12.out; simpa [World.setCell] using this)
                  clear hg2
                  go_region_held3 (fun W => W.cell? ⟨b, i, none⟩ = some (.slice (some ⟨g0, 0, none⟩) m1 m1) ∧ W.cell? ⟨b, i1, none⟩ = some (.slice (some ⟨g1, 0, none⟩) m1 m1) ∧ W.cell? ⟨g1, j1, none⟩ = some (.int .i64 t11) ∧ W.cell? ⟨g1, j, none⟩ = some (.int .i64 t10) ∧ W.cell? ⟨g0, j1, none⟩ = some (.int .i64 t01))
                    (first | exact hS0 | exact hS1)
                    (fail)
                  generalize (W12.setCell ⟨g0, j, none⟩ (.int .i64 (t11 + 1))).drew = W13 at HGW13 HCW13 HBW13 HSW13 ⊢
                  clear hS0 hS1 hv5 hf5
                  have hcl := HCW13.out
                  rw [HFIN.out] at hcl
                  have HGF := Lib.hid (HCLOSE.out _ HGW13.out hcl)
                  clear hcl
                  go_wp2
                  go_roundg k1
                  case measure => omega
                  case rel => exact ⟨j, by omega, rfl, by omega, HBW13, HGF, HSW13.out⟩
                · have he : (xi.toList == yj.toList) = false := (toList_same' xi yj).trans (by simpa using hs)
                  have hfin : t10 = t := by
                    have h1 := HEL.out (by simpa using hs)
                    have h2 := HT10.out
                    have h3 := HT01.out
                    rw [HI1.out] at h2
                    rw [HJ1.out] at h3
                    rw [HT0.out, h1]
                    omega
                  have HFIN := Lib.hid hfin; clear hfin
                  clear hs hlt
                  have HGW0 := HGQ
                  have HBW0 := HBQ
                  have HSW0 := Lib.hid hsq
                  clear hsq HGQ HBQ
                  generalize wr = W0 at HGW0 HBW0 HSW0 ⊢
                  go_upto_region 9 with (fail)
                  obtain ⟨⟨v5, hv5⟩, hf5⟩ := HTHERE.out W0 HGW0.out
                  have hS0 := HCELL.out W0.drew HGW0.out.drew
                  have hS1 := HCELL.out _ (HTOUCH.out W0.drew (.int .i64 t10) HGW0.out.drew).1
                  have hg2 := HTOUCH.out W0 (.int .i64 t10) HGW0.out
                  have HGW9 := Lib.hid hg2.1.drew
                  have HCW9 := Lib.hid (show (W0.setCell ⟨g0, j, none⟩ (.int .i64 t10)).drew.cell? ⟨g0, j, none⟩ = some (.int .i64 t10) from hg2.2)
                  have HBW9 := Lib.hid (HBW0.out.setCell (p := ⟨g0, j, none⟩) HGE.out (.int .i64 t10)).drew
                  have HSW9 := Lib.hid (show (W0.setCell ⟨g0, j, none⟩ (.int .i64 t10)).drew.heap.size = b + 1 + (l0.length + 1 - i) from by have := HSW0.out; simpa [World.setCell] using this)
                  clear hg2
                  go_region_held3 (fun W => W.cell? ⟨b, i, none⟩ = some (.slice (some ⟨g0, 0, none⟩) m1 m1) ∧ W.cell? ⟨b, i1, none⟩ = some (.slice (some ⟨g1, 0, none⟩) m1 m1) ∧ W.cell? ⟨g1, j1, none⟩ = some (.int .i64 t11) ∧ W.cell? ⟨g1, j, none⟩ = some (.int .i64 t10) ∧ W.cell? ⟨g0, j1, none⟩ = some (.int .i64 t01))
                    (first | exact hS0 | exact hS1)
                    (fail)
                  generalize (W0.setCell ⟨g0, j, none⟩ (.int .i64 t10)).drew = W9 at HGW9 HCW9 HBW9 HSW9 ⊢
                  clear hS0 hS1 hv5 hf5
                  obtain ⟨z1, z2, z3, z4, z5⟩ := HCELL.out W9 HGW9.out
                  have z6 := HCW9.out
                  go_upto_region 10 with (fail)
                  go_quiet (fail)
                  go_upto_region 12 with (fail)
                  have HGW10 := Lib.hid (HGW9.out.drewN nq)
                  have HBW10 := Lib.hid (pw_below_drewN HBW9.out nq)
                  have HSW10 := Lib.hid (show (W9.drewN nq).heap.size = b + 1 + (l0.length + 1 - i) from HSW9.out)
                  have HCW10 := Lib.hid (show (W9.drewN nq).cell? ⟨g0, j, none⟩ = some (.int .i64 t10) from HCW9.out)
                  clear z1 z2 z3 z4 z5 z6
                  generalize W9.drewN nq = W10 at HGW10 HBW10 HSW10 HCW10 ⊢
                  have cxi := (HBW10.out.cell (p := ⟨bx, ox + i, none⟩) hbx).trans HXI.out
                  have cyj := (HBW10.out.cell (p := ⟨bv, ov + j, none⟩) hbv).trans HYJ.out
                  go_upto_region 12 with (fail)
                  go_quiet (fail)
                  go_upto_region 8 with (fail)
                  clear cxi cyj
                  have HGW12 := Lib.hid (HGW10.out.drewN nq)
                  have HBW12 := Lib.hid (pw_below_drewN HBW10.out nq)
                  have HSW12 := Lib.hid (show (W10.drewN nq).heap.size = b + 1 + (l0.length + 1 - i) from HSW10.out)
                  have HCW12 := Lib.hid (show (W10.drewN nq).cell? ⟨g0, j, none⟩ = some (.int .i64 t10) from HCW10.out)
                  generalize W10.drewN nq = W12 at HGW12 HBW12 HSW12 HCW12 ⊢
                  have hcl := HCW12.out
                  rw [HFIN.out] at hcl
                  have HGF := Lib.hid (HCLOSE.out _ HGW12.out hcl)
                  clear hcl
                  go_wp2
                  go_roundg k1
                  case measure => omega
                  case rel => exact ⟨j, by omega, rfl, by omega, HBW12, HGF, HSW12.out⟩
  · cases h
end Go.Proofs.Ytmecmmpgkcileaa.Z
