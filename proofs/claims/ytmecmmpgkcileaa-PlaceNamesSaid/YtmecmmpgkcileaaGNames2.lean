/- The walk of the law PlaceNames: the examples of the chapter. -/
import Derived.Test.YtmecmmpgkcileaaPr
import Derived.Test.YtmecmmpgkcileaaZ2
import Derived.Test.YtmecmmpgkcileaaZ26
import Derived.Test.YtmecmmpgkcileaaGKept
namespace Go.Proofs.Ytmecmmpgkcileaa.Z
open Go.RowKit Go.Proofs.YtmecmmpgkcileaaW.PrintWords Go.Proofs.YtmecmmpgkcileaaW.PrintLast Go.Proofs.YtmecmmpgkcileaaW.PrintMore
attribute [local go_sem high] eqA64

/-- A row of one edit, as a literal lays it. -/
theorem C_lit33 (W : World) (f t : Int) (s : ByteArray) : Kd.C k33 (W.alloc (.cells #[.int .i64 f, .int .i64 t, .string s] 33)) (some ⟨W.heap.size, 0, none⟩) 1 [⟨f, t, s⟩] := by
  refine ⟨rfl, by omega, fun _ => ⟨_, rfl, fun j p hj => ?_⟩⟩
  cases j with
  | succ j => simp at hj
  | zero =>
    simp only [List.getElem?_cons_zero, Option.some.injEq] at hj
    subst hj
    refine ⟨_, rfl, k33_mk _ _, fun i u hu => ?_⟩
    have hc := cell_alloc_new W #[.int .i64 f, .int .i64 t, .string s] 33 i
    rw [add_spot _ rfl]
    simp only [Nat.zero_mul, Nat.zero_add] at hc ⊢
    rw [hc]
    simpa using hu
/-- The cells of a row of ranges of one's own. -/
theorem cells64 {W : World} {base g n c : Nat} {ok : Nat → Prop} {xs : List S64} (h : Kd.R k64 64 W base ok (.slice (some ⟨g, 0, none⟩) n c) xs) {j : Nat} {e : S64} (hj : xs[j]? = some e) :
    W.cell? ⟨g, j * 2, none⟩ = some (.int .i64 e.f0) ∧ W.cell? ⟨g, j * 2 + 1, none⟩ = some (.int .i64 e.f1) := by
  obtain ⟨hn, _, hC⟩ := Kd.R_reads' h
  have hjl := (List.getElem?_eq_some_iff.1 hj).1
  obtain ⟨ad, had, hc⟩ := hC.2.2 (by omega)
  cases had
  obtain ⟨cs, _, hK, hcc⟩ := hc j e hj
  obtain rfl := k64_open hK
  have key : ∀ i u, ([.int .i64 e.f0, .int .i64 e.f1] : List Value)[i]? = some u → W.cell? ⟨g, j * 2 + i, none⟩ = some u := fun i u hu => by
    have := hcc i u hu
    rw [add_spot _ rfl, show k64.sz = 2 from rfl] at this
    simpa using this
  exact ⟨key 0 _ rfl, key 1 _ rfl⟩

theorem pn0 : regletlaw20_one.f = some [(⟨1, 2, (⟨#[120, 10]⟩ : ByteArray)⟩ : S33)] := by kernel_rfl
theorem pn1 : place_Move.f (⟨#[97, 98, 10, 99, 100, 10, 101, 102, 10]⟩ : ByteArray) [(⟨1, 2, (⟨#[120, 10]⟩ : ByteArray)⟩ : S33)] 4 = some (4, 0) := by kernel_rfl
theorem pn2 : place_Move.f (⟨#[97, 98, 10, 99, 100, 10, 101, 102, 10]⟩ : ByteArray) [(⟨1, 2, (⟨#[120, 10]⟩ : ByteArray)⟩ : S33)] 6 = some (5, 0) := by kernel_rfl
theorem pn3 : place_From.f (⟨#[97, 98, 10, 99, 100, 10, 101, 102, 10]⟩ : ByteArray) [(⟨1, 2, (⟨#[120, 10]⟩ : ByteArray)⟩ : S33)] 3 = some (3, false, 0) := by kernel_rfl
theorem pn4 : place_At.f 50 (⟨#[97, 98, 10, 99, 100, 10, 101, 102, 10]⟩ : ByteArray) 1 1 = some (4, 0) := by kernel_rfl
theorem pn5 : place_Of.f 50 (⟨#[97, 98, 10, 99, 100, 10, 101, 102, 10]⟩ : ByteArray) 4 = some (1, 1, 0) := by kernel_rfl
theorem pn6 : place_At.f 50 (⟨#[97, 98, 10, 99, 100, 10, 101, 102, 10]⟩ : ByteArray) 1 3 = some (0, 2) := by kernel_rfl
theorem pn7 : place_Kept.f (⟨#[97, 98, 10, 99, 100, 10, 101, 102, 10]⟩ : ByteArray) [(⟨1, 2, (⟨#[120, 10]⟩ : ByteArray)⟩ : S33)]  = some ([(⟨0, 3⟩ : S64), (⟨6, 9⟩ : S64)], 0) := by kernel_rfl
theorem pn8 : place_Move.f (⟨#[97, 98, 10, 99, 100, 10, 101, 102, 10]⟩ : ByteArray) [(⟨1, 2, (⟨#[120, 10]⟩ : ByteArray)⟩ : S33)] 10 = some (0, 2) := by kernel_rfl
theorem pn9 : place_Move.f (⟨#[97, 98, 10, 99, 100, 10, 101, 102, 10]⟩ : ByteArray) [(⟨0, 0, (⟨#[]⟩ : ByteArray)⟩ : S33)] 0 = some (0, 180) := by kernel_rfl
theorem pn10 : place_From.f (⟨#[97, 98, 10, 99, 100, 10, 101, 102, 10]⟩ : ByteArray) [(⟨1, 2, (⟨#[120, 10]⟩ : ByteArray)⟩ : S33)] 9 = some (0, false, 2) := by kernel_rfl
theorem pn11 : place_From.f (⟨#[97, 98, 10, 99, 100, 10, 101, 102, 10]⟩ : ByteArray) [(⟨0, 0, (⟨#[]⟩ : ByteArray)⟩ : S33)] 0 = some (0, false, 180) := by kernel_rfl
theorem pn12 : place_Kept.f (⟨#[97, 98, 10, 99, 100, 10, 101, 102, 10]⟩ : ByteArray) [(⟨0, 0, (⟨#[]⟩ : ByteArray)⟩ : S33)]  = some (([] : List S64), 180) := by kernel_rfl
theorem pn13 : place_Of.f 50 (⟨#[97, 98, 10, 99, 100, 10, 101, 102, 10]⟩ : ByteArray) (-1) = some (0, 0, 2) := by kernel_rfl
theorem pn14 : place_At.f 50 (⟨#[97, 98, 10, 99, 100, 10, 101, 102, 10]⟩ : ByteArray) (-1) 0 = some (0, 2) := by kernel_rfl
theorem pn15 : place_At.f 50 (⟨#[97, 98, 10, 99, 100, 10, 101, 102, 10]⟩ : ByteArray) 3 0 = some (9, 0) := by kernel_rfl

set_option maxRecDepth 100000 in
set_option maxHeartbeats 8000000 in
theorem regletlaw20_PlaceNames.calls (w : World) : Calls Try.prog 16 #[] w fun e w' => e = .returned (.bool true) ∧ Below w.heap.size w w' := by
  have hu33 := Try.underlying33
  have hu64 := Try.underlying64
  have HB := Lib.hid (Below.refl w.heap.size w)
  go_enter Try.func16, Try.ntmps16
  go_wp2_with fail
  refine (regletlaw20_one.calls _ _ pn0).mono ?_
  rintro e w1 ⟨vo, rfl, hR, hb⟩
  obtain ⟨A0, c0, rfl, hc0, hC0⟩ := Kd.R_reads hR
  have HC0 := Lib.hid hC0
  clear hC0 hR
  have hA : Below w.heap.size w w1 := hb
  have hB := HB.out.trans (hA.mono HB.out.size)
  clear HB
  have HB := Lib.hid hB; clear hB
  clear hA hb
  go_wp2_with fail
  refine (place_Move.calls _ A0 c0 _ _ _ _ _ HC0.out hc0 pn1).mono ?_
  rintro e w2 ⟨rfl, hb⟩
  have hA : Below w1.heap.size w1 w2 := hb
  have hB := HB.out.trans (hA.mono HB.out.size)
  clear HB
  have HB := Lib.hid hB; clear hB
  clear hA hb
  go_wp2_with fail
  refine (regletlaw20_one.calls _ _ pn0).mono ?_
  rintro e w3 ⟨vo, rfl, hR, hb⟩
  obtain ⟨A1, c1, rfl, hc1, hC1⟩ := Kd.R_reads hR
  have HC1 := Lib.hid hC1
  clear hC1 hR
  have hA : Below w2.heap.size w2 w3 := hb
  have hB := HB.out.trans (hA.mono HB.out.size)
  clear HB
  have HB := Lib.hid hB; clear hB
  clear hA hb
  go_wp2_with fail
  refine (place_Move.calls _ A1 c1 _ _ _ _ _ HC1.out hc1 pn2).mono ?_
  rintro e w4 ⟨rfl, hb⟩
  have hA : Below w3.heap.size w3 w4 := hb
  have hB := HB.out.trans (hA.mono HB.out.size)
  clear HB
  have HB := Lib.hid hB; clear hB
  clear hA hb
  go_wp2_with fail
  refine (regletlaw20_one.calls _ _ pn0).mono ?_
  rintro e w5 ⟨vo, rfl, hR, hb⟩
  obtain ⟨A2, c2, rfl, hc2, hC2⟩ := Kd.R_reads hR
  have HC2 := Lib.hid hC2
  clear hC2 hR
  have hA : Below w4.heap.size w4 w5 := hb
  have hB := HB.out.trans (hA.mono HB.out.size)
  clear HB
  have HB := Lib.hid hB; clear hB
  clear hA hb
  go_wp2_with fail
  refine (place_From.calls _ A2 c2 _ _ _ _ _ _ HC2.out hc2 pn3).mono ?_
  rintro e w6 ⟨rfl, hb⟩
  have hA : Below w5.heap.size w5 w6 := hb
  have hB := HB.out.trans (hA.mono HB.out.size)
  clear HB
  have HB := Lib.hid hB; clear hB
  clear hA hb
  go_wp2_with fail
  refine (place_At.calls 50 _ _ _ _ _ _ pn4).mono ?_
  rintro e w_ ⟨rfl, m3, rfl⟩
  have hb := pw_below_drewN (Below.refl w6.heap.size w6) m3
  generalize w6.drewN m3 = w7 at hb ⊢
  have hA : Below w6.heap.size w6 w7 := hb
  have hB := HB.out.trans (hA.mono HB.out.size)
  clear HB
  have HB := Lib.hid hB; clear hB
  clear hA hb
  go_wp2_with fail
  refine (place_Of.calls 50 _ _ _ _ _ _ pn5).mono ?_
  rintro e w_ ⟨rfl, m4, rfl⟩
  have hb := pw_below_drewN (Below.refl w7.heap.size w7) m4
  generalize w7.drewN m4 = w8 at hb ⊢
  have hA : Below w7.heap.size w7 w8 := hb
  have hB := HB.out.trans (hA.mono HB.out.size)
  clear HB
  have HB := Lib.hid hB; clear hB
  clear hA hb
  go_wp2_with fail
  refine (place_At.calls 50 _ _ _ _ _ _ pn6).mono ?_
  rintro e w_ ⟨rfl, m5, rfl⟩
  have hb := pw_below_drewN (Below.refl w8.heap.size w8) m5
  generalize w8.drewN m5 = w9 at hb ⊢
  have hA : Below w8.heap.size w8 w9 := hb
  have hB := HB.out.trans (hA.mono HB.out.size)
  clear HB
  have HB := Lib.hid hB; clear hB
  clear hA hb
  go_wp2_with fail
  refine (regletlaw20_one.calls _ _ pn0).mono ?_
  rintro e w10 ⟨vo, rfl, hR, hb⟩
  obtain ⟨A6, c6, rfl, hc6, hC6⟩ := Kd.R_reads hR
  have HC6 := Lib.hid hC6
  clear hC6 hR
  have hA : Below w9.heap.size w9 w10 := hb
  have hB := HB.out.trans (hA.mono HB.out.size)
  clear HB
  have HB := Lib.hid hB; clear hB
  clear hA hb
  go_wp2_with fail
  refine (place_Kept.calls _ A6 c6 _  _ _ _ HC6.out hc6 pn7).mono ?_
  rintro e w11 ⟨vk, rfl, hRk, hb⟩
  have hA : Below w10.heap.size w10 w11 := hb
  have hB := HB.out.trans (hA.mono HB.out.size)
  clear HB
  have HB := Lib.hid hB; clear hB
  obtain ⟨gk, ck, rfl, hgk, hgk', _⟩ := Kd.R_form hRk (by decide)
  have HRK := Lib.hid hRk; clear hRk
  clear hA hb
  go_wp2_with fail
  refine (regletlaw20_one.calls _ _ pn0).mono ?_
  rintro e w12 ⟨vo, rfl, hR, hb⟩
  obtain ⟨A7, c7, rfl, hc7, hC7⟩ := Kd.R_reads hR
  have HC7 := Lib.hid hC7
  clear hC7 hR
  have hA : Below w11.heap.size w11 w12 := hb
  have hB := HB.out.trans (hA.mono HB.out.size)
  clear HB
  have HB := Lib.hid hB; clear hB
  have hR := Kd.R_below HRK.out hA
  clear HRK
  have HRK := Lib.hid hR; clear hR
  clear hA hb
  go_wp2_with fail
  refine (place_Move.calls _ A7 c7 _ _ _ _ _ HC7.out hc7 pn8).mono ?_
  rintro e w13 ⟨rfl, hb⟩
  have hA : Below w12.heap.size w12 w13 := hb
  have hB := HB.out.trans (hA.mono HB.out.size)
  clear HB
  have HB := Lib.hid hB; clear hB
  have hR := Kd.R_below HRK.out hA
  clear HRK
  have HRK := Lib.hid hR; clear hR
  clear hA hb
  go_wp2_with fail
  refine (place_Move.calls _ _ _ _ _ _ _ _ (C_lit33 w13 0 0 (⟨#[]⟩ : ByteArray)) (Nat.le_refl _) pn9).mono ?_
  rintro e w14 ⟨rfl, hb⟩
  have hA : Below w13.heap.size w13 w14 := ((Below.refl _ _).alloc (Nat.le_refl _) _).trans (hb.mono (by simp))
  have hB := HB.out.trans (hA.mono HB.out.size)
  clear HB
  have HB := Lib.hid hB; clear hB
  have hR := Kd.R_below HRK.out hA
  clear HRK
  have HRK := Lib.hid hR; clear hR
  clear hA hb
  go_wp2_with fail
  refine (regletlaw20_one.calls _ _ pn0).mono ?_
  rintro e w15 ⟨vo, rfl, hR, hb⟩
  obtain ⟨A9, c9, rfl, hc9, hC9⟩ := Kd.R_reads hR
  have HC9 := Lib.hid hC9
  clear hC9 hR
  have hA : Below w14.heap.size w14 w15 := hb
  have hB := HB.out.trans (hA.mono HB.out.size)
  clear HB
  have HB := Lib.hid hB; clear hB
  have hR := Kd.R_below HRK.out hA
  clear HRK
  have HRK := Lib.hid hR; clear hR
  clear hA hb
  go_wp2_with fail
  refine (place_From.calls _ A9 c9 _ _ _ _ _ _ HC9.out hc9 pn10).mono ?_
  rintro e w16 ⟨rfl, hb⟩
  have hA : Below w15.heap.size w15 w16 := hb
  have hB := HB.out.trans (hA.mono HB.out.size)
  clear HB
  have HB := Lib.hid hB; clear hB
  have hR := Kd.R_below HRK.out hA
  clear HRK
  have HRK := Lib.hid hR; clear hR
  clear hA hb
  go_wp2_with fail
  refine (place_From.calls _ _ _ _ _ _ _ _ _ (C_lit33 w16 0 0 (⟨#[]⟩ : ByteArray)) (Nat.le_refl _) pn11).mono ?_
  rintro e w17 ⟨rfl, hb⟩
  have hA : Below w16.heap.size w16 w17 := ((Below.refl _ _).alloc (Nat.le_refl _) _).trans (hb.mono (by simp))
  have hB := HB.out.trans (hA.mono HB.out.size)
  clear HB
  have HB := Lib.hid hB; clear hB
  have hR := Kd.R_below HRK.out hA
  clear HRK
  have HRK := Lib.hid hR; clear hR
  clear hA hb
  go_wp2_with fail
  refine (place_Kept.calls _ _ _ _  _ _ _ (C_lit33 w17 0 0 (⟨#[]⟩ : ByteArray)) (Nat.le_refl _) pn12).mono ?_
  rintro e w18 ⟨vk, rfl, hRk, hb⟩
  have hA : Below w17.heap.size w17 w18 := ((Below.refl _ _).alloc (Nat.le_refl _) _).trans (hb.mono (by simp))
  have hB := HB.out.trans (hA.mono HB.out.size)
  clear HB
  have HB := Lib.hid hB; clear hB
  have hR := Kd.R_below HRK.out hA
  clear HRK
  have HRK := Lib.hid hR; clear hR
  obtain ⟨A_, c_, rfl⟩ := Kd.R_slice hRk
  clear hRk
  clear hA hb
  go_wp2_with fail
  refine (place_Of.calls 50 _ _ _ _ _ _ pn13).mono ?_
  rintro e w_ ⟨rfl, m12, rfl⟩
  have hb := pw_below_drewN (Below.refl w18.heap.size w18) m12
  generalize w18.drewN m12 = w19 at hb ⊢
  have hA : Below w18.heap.size w18 w19 := hb
  have hB := HB.out.trans (hA.mono HB.out.size)
  clear HB
  have HB := Lib.hid hB; clear hB
  have hR := Kd.R_below HRK.out hA
  clear HRK
  have HRK := Lib.hid hR; clear hR
  clear hA hb
  go_wp2_with fail
  refine (place_At.calls 50 _ _ _ _ _ _ pn14).mono ?_
  rintro e w_ ⟨rfl, m13, rfl⟩
  have hb := pw_below_drewN (Below.refl w19.heap.size w19) m13
  generalize w19.drewN m13 = w20 at hb ⊢
  have hA : Below w19.heap.size w19 w20 := hb
  have hB := HB.out.trans (hA.mono HB.out.size)
  clear HB
  have HB := Lib.hid hB; clear hB
  have hR := Kd.R_below HRK.out hA
  clear HRK
  have HRK := Lib.hid hR; clear hR
  clear hA hb
  go_wp2_with fail
  refine (place_At.calls 50 _ _ _ _ _ _ pn15).mono ?_
  rintro e w_ ⟨rfl, m14, rfl⟩
  have hb := pw_below_drewN (Below.refl w20.heap.size w20) m14
  generalize w20.drewN m14 = w21 at hb ⊢
  have hA : Below w20.heap.size w20 w21 := hb
  have hB := HB.out.trans (hA.mono HB.out.size)
  clear HB
  have HB := Lib.hid hB; clear hB
  have hR := Kd.R_below HRK.out hA
  clear HRK
  have HRK := Lib.hid hR; clear hR
  clear hA hb
  go_wp2_with fail
  refine (regletlaw20_alive.calls true _ alive20_true).mono ?_
  rintro e w22 ⟨rfl, hb⟩
  have hA : Below w21.heap.size w21 w22 := hb
  have hB := HB.out.trans (hA.mono HB.out.size)
  clear HB
  have HB := Lib.hid hB; clear hB
  have hR := Kd.R_below HRK.out hA
  clear HRK
  have HRK := Lib.hid hR; clear hR
  clear hA hb
  obtain ⟨a0, a1⟩ := cells64 HRK.out (j := 0) rfl
  obtain ⟨a2, a3⟩ := cells64 HRK.out (j := 1) rfl
  simp only [Nat.zero_mul, Nat.one_mul, Nat.zero_add, Nat.reduceAdd] at a0 a1 a2 a3
  go_wp2_with fail
  go_ret
  exact ⟨rfl, HB.out⟩
end Go.Proofs.Ytmecmmpgkcileaa.Z
