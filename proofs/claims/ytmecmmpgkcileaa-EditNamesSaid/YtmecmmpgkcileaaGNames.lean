/- The walk of the law EditNames: the examples of the chapter. -/
import Derived.Test.YtmecmmpgkcileaaPal
import Derived.Test.YtmecmmpgkcileaaZ9
import Derived.Test.YtmecmmpgkcileaaZ10
namespace Go.Proofs.Ytmecmmpgkcileaa.Z
open Go.RowKit Go.Proofs.YtmecmmpgkcileaaW.PrintWords Go.Proofs.YtmecmmpgkcileaaW.PrintLast Go.Proofs.YtmecmmpgkcileaaW.PrintMore
attribute [local go_sem high] eqA33

/-- A row of one edit, as a literal lays it. -/
theorem C_one33 (W : World) (f t : Int) (s : ByteArray) : Kd.C k33 (W.alloc (.cells #[.int .i64 f, .int .i64 t, .string s] 33)) (some ⟨W.heap.size, 0, none⟩) 1 [⟨f, t, s⟩] := by
  refine ⟨rfl, by omega, fun _ => ⟨_, rfl, fun j p hj => ?_⟩⟩
  cases j with
  | succ j => simp at hj
  | zero =>
    simp only [List.getElem?_cons_zero, Option.some.injEq] at hj
    subst hj
    refine ⟨_, rfl, k33_mk _ _, fun i u hu => ?_⟩
    have hc := cell_alloc_new W #[.int .i64 f, .int .i64 t, .string s] 33 i
    rw [add_spot _ rfl]
    simp only [Nat.zero_mul, Nat.zero_add] at hc ⊢
    rw [hc]
    simpa using hu
/-- The cells of a row of edits of one's own. -/
theorem cells33 {W : World} {base g n c : Nat} {ok : Nat → Prop} {xs : List S33} (h : Kd.R k33 33 W base ok (.slice (some ⟨g, 0, none⟩) n c) xs) {j : Nat} {e : S33} (hj : xs[j]? = some e) :
    W.cell? ⟨g, j * 3, none⟩ = some (.int .i64 e.f0) ∧ W.cell? ⟨g, j * 3 + 1, none⟩ = some (.int .i64 e.f1) ∧ W.cell? ⟨g, j * 3 + 2, none⟩ = some (.string e.f2) := by
  obtain ⟨hn, _, hC⟩ := Kd.R_reads' h
  have hjl := (List.getElem?_eq_some_iff.1 hj).1
  obtain ⟨ad, had, hc⟩ := hC.2.2 (by omega)
  cases had
  obtain ⟨cs, _, hK, hcc⟩ := hc j e hj
  obtain rfl := k33_open hK
  have key : ∀ i u, ([.int .i64 e.f0, .int .i64 e.f1, .string e.f2] : List Value)[i]? = some u → W.cell? ⟨g, j * 3 + i, none⟩ = some u := fun i u hu => by
    have := hcc i u hu
    rw [add_spot _ rfl, show k33.sz = 3 from rfl] at this
    simpa using this
  exact ⟨key 0 _ rfl, key 1 _ rfl, key 2 _ rfl⟩

theorem nm0 : edit_Between.f (⟨#[97, 10, 98, 10]⟩ : ByteArray) (⟨#[98, 10, 97, 10]⟩ : ByteArray) = some ([(⟨0, 1, (⟨#[]⟩ : ByteArray)⟩ : S33), (⟨2, 2, (⟨#[97, 10]⟩ : ByteArray)⟩ : S33)], 0) := by kernel_rfl
theorem nm1 : edit_Apply.f (⟨#[97, 10, 98]⟩ : ByteArray) [(⟨1, 2, (⟨#[99]⟩ : ByteArray)⟩ : S33)] = some ((⟨#[97, 10, 99]⟩ : ByteArray), 0) := by kernel_rfl
theorem nm2 : edit_Apply.f (⟨#[97, 10, 98]⟩ : ByteArray) [(⟨2, 2, (⟨#[99]⟩ : ByteArray)⟩ : S33)] = some ((⟨#[]⟩ : ByteArray), 180) := by kernel_rfl
theorem nm3 : edit_Back.f 50 (⟨#[97, 10, 98, 10, 99, 10]⟩ : ByteArray) [(⟨1, 2, (⟨#[120, 10, 121, 10]⟩ : ByteArray)⟩ : S33)] = some ([(⟨1, 3, (⟨#[98, 10]⟩ : ByteArray)⟩ : S33)], 0) := by kernel_rfl
theorem nm4 : edit_Size.f 50 (⟨#[97, 10, 98, 10, 99, 10]⟩ : ByteArray) [(⟨1, 2, (⟨#[120, 10, 121, 10]⟩ : ByteArray)⟩ : S33)] = some (1, 2, 0) := by kernel_rfl
theorem nm5 : edit_Apply.f (⟨#[97, 10]⟩ : ByteArray) [(⟨0, 0, (⟨#[]⟩ : ByteArray)⟩ : S33)] = some ((⟨#[]⟩ : ByteArray), 180) := by kernel_rfl
theorem nm6 : edit_Apply.f (⟨#[97, 10]⟩ : ByteArray) [(⟨0, 0, (⟨#[98]⟩ : ByteArray)⟩ : S33)] = some ((⟨#[]⟩ : ByteArray), 180) := by kernel_rfl
theorem nm7 : edit_Back.f 50 (⟨#[97, 10]⟩ : ByteArray) [(⟨-1, 0, (⟨#[98, 10]⟩ : ByteArray)⟩ : S33)] = some (([] : List S33), 180) := by kernel_rfl
theorem nm8 : edit_Size.f 50 (⟨#[97, 10]⟩ : ByteArray) [(⟨0, 2, (⟨#[98, 10]⟩ : ByteArray)⟩ : S33)] = some (0, 0, 180) := by kernel_rfl

set_option maxRecDepth 100000 in
set_option maxHeartbeats 8000000 in
theorem regletlaw18_EditNames.calls (w : World) : Calls Try.prog 6 #[] w fun e w' => e = .returned (.bool true) ∧ Below w.heap.size w w' := by
  have hu33 := Try.underlying33
  go_enter Try.func6, Try.ntmps6
  go_wp2_with fail
  refine (edit_Between.calls _ _ _ _ _ nm0).mono ?_
  rintro e w1 ⟨v1, rfl, hR1, hB1⟩
  obtain ⟨g1, c1, rfl, hg1, hg1', _⟩ := Kd.R_form hR1 (by decide)
  have HR1 := Lib.hid hR1; clear hR1
  have HB1 := Lib.hid hB1; clear hB1
  go_wp2_with fail
  refine (edit_Apply.calls _ _ _ _ _ _ _ (C_one33 w1 (1) (2) (⟨#[99]⟩ : ByteArray)) (Nat.le_refl _) nm1).mono ?_
  rintro e w2 ⟨rfl, hb⟩
  have hB : Below w.heap.size w w2 := HB1.out.trans ((((Below.refl _ _).alloc (Nat.le_refl _) _).trans (hb.mono (by simp))).mono HB1.out.size)
  have hA : Below w1.heap.size w1 w2 := ((Below.refl _ _).alloc (Nat.le_refl _) _).trans (hb.mono (by simp))
  have HB2 := Lib.hid hB; clear hB hb
  have hR := Kd.R_below HR1.out hA
  clear HR1
  have HR1 := Lib.hid hR; clear hR
  clear hA
  go_wp2_with fail
  refine (edit_Apply.calls _ _ _ _ _ _ _ (C_one33 w2 (2) (2) (⟨#[99]⟩ : ByteArray)) (Nat.le_refl _) nm2).mono ?_
  rintro e w3 ⟨rfl, hb⟩
  have hB : Below w.heap.size w w3 := HB2.out.trans ((((Below.refl _ _).alloc (Nat.le_refl _) _).trans (hb.mono (by simp))).mono HB2.out.size)
  have hA : Below w2.heap.size w2 w3 := ((Below.refl _ _).alloc (Nat.le_refl _) _).trans (hb.mono (by simp))
  have HB3 := Lib.hid hB; clear hB hb
  have hR := Kd.R_below HR1.out hA
  clear HR1
  have HR1 := Lib.hid hR; clear hR
  clear hA
  go_wp2_with fail
  refine (edit_Back.calls 50 _ _ _ _ _ _ _ (C_one33 w3 (1) (2) (⟨#[120, 10, 121, 10]⟩ : ByteArray)) (Nat.le_refl _) nm3).mono ?_
  rintro e w4 ⟨v4, rfl, hR4, hb⟩
  have hB : Below w.heap.size w w4 := HB3.out.trans ((((Below.refl _ _).alloc (Nat.le_refl _) _).trans (hb.mono (by simp))).mono HB3.out.size)
  have hA : Below w3.heap.size w3 w4 := ((Below.refl _ _).alloc (Nat.le_refl _) _).trans (hb.mono (by simp))
  have HB4 := Lib.hid hB; clear hB hb
  have hR := Kd.R_below HR1.out hA
  clear HR1
  have HR1 := Lib.hid hR; clear hR
  obtain ⟨g4, c4, rfl, hg4, hg4', _⟩ := Kd.R_form hR4 (by decide)
  have HR4 := Lib.hid hR4; clear hR4
  clear hA
  go_wp2_with fail
  refine (edit_Size.calls 50 _ _ _ _ _ _ _ _ (C_one33 w4 (1) (2) (⟨#[120, 10, 121, 10]⟩ : ByteArray)) (Nat.le_refl _) nm4).mono ?_
  rintro e w5 ⟨rfl, hb⟩
  have hB : Below w.heap.size w w5 := HB4.out.trans ((((Below.refl _ _).alloc (Nat.le_refl _) _).trans (hb.mono (by simp))).mono HB4.out.size)
  have hA : Below w4.heap.size w4 w5 := ((Below.refl _ _).alloc (Nat.le_refl _) _).trans (hb.mono (by simp))
  have HB5 := Lib.hid hB; clear hB hb
  have hR := Kd.R_below HR1.out hA
  clear HR1
  have HR1 := Lib.hid hR; clear hR
  have hR := Kd.R_below HR4.out hA
  clear HR4
  have HR4 := Lib.hid hR; clear hR
  clear hA
  go_wp2_with fail
  refine (edit_Apply.calls _ _ _ _ _ _ _ (C_one33 w5 (0) (0) (⟨#[]⟩ : ByteArray)) (Nat.le_refl _) nm5).mono ?_
  rintro e w6 ⟨rfl, hb⟩
  have hB : Below w.heap.size w w6 := HB5.out.trans ((((Below.refl _ _).alloc (Nat.le_refl _) _).trans (hb.mono (by simp))).mono HB5.out.size)
  have hA : Below w5.heap.size w5 w6 := ((Below.refl _ _).alloc (Nat.le_refl _) _).trans (hb.mono (by simp))
  have HB6 := Lib.hid hB; clear hB hb
  have hR := Kd.R_below HR1.out hA
  clear HR1
  have HR1 := Lib.hid hR; clear hR
  have hR := Kd.R_below HR4.out hA
  clear HR4
  have HR4 := Lib.hid hR; clear hR
  clear hA
  go_wp2_with fail
  refine (edit_Apply.calls _ _ _ _ _ _ _ (C_one33 w6 (0) (0) (⟨#[98]⟩ : ByteArray)) (Nat.le_refl _) nm6).mono ?_
  rintro e w7 ⟨rfl, hb⟩
  have hB : Below w.heap.size w w7 := HB6.out.trans ((((Below.refl _ _).alloc (Nat.le_refl _) _).trans (hb.mono (by simp))).mono HB6.out.size)
  have hA : Below w6.heap.size w6 w7 := ((Below.refl _ _).alloc (Nat.le_refl _) _).trans (hb.mono (by simp))
  have HB7 := Lib.hid hB; clear hB hb
  have hR := Kd.R_below HR1.out hA
  clear HR1
  have HR1 := Lib.hid hR; clear hR
  have hR := Kd.R_below HR4.out hA
  clear HR4
  have HR4 := Lib.hid hR; clear hR
  clear hA
  go_wp2_with fail
  refine (edit_Back.calls 50 _ _ _ _ _ _ _ (C_one33 w7 (-1) (0) (⟨#[98, 10]⟩ : ByteArray)) (Nat.le_refl _) nm7).mono ?_
  rintro e w8 ⟨v8, rfl, hR8, hb⟩
  have hB : Below w.heap.size w w8 := HB7.out.trans ((((Below.refl _ _).alloc (Nat.le_refl _) _).trans (hb.mono (by simp))).mono HB7.out.size)
  have hA : Below w7.heap.size w7 w8 := ((Below.refl _ _).alloc (Nat.le_refl _) _).trans (hb.mono (by simp))
  have HB8 := Lib.hid hB; clear hB hb
  have hR := Kd.R_below HR1.out hA
  clear HR1
  have HR1 := Lib.hid hR; clear hR
  have hR := Kd.R_below HR4.out hA
  clear HR4
  have HR4 := Lib.hid hR; clear hR
  obtain ⟨A8, c8, rfl⟩ := Kd.R_slice hR8
  clear hR8
  clear hA
  go_wp2_with fail
  refine (edit_Size.calls 50 _ _ _ _ _ _ _ _ (C_one33 w8 (0) (2) (⟨#[98, 10]⟩ : ByteArray)) (Nat.le_refl _) nm8).mono ?_
  rintro e w9 ⟨rfl, hb⟩
  have hB : Below w.heap.size w w9 := HB8.out.trans ((((Below.refl _ _).alloc (Nat.le_refl _) _).trans (hb.mono (by simp))).mono HB8.out.size)
  have hA : Below w8.heap.size w8 w9 := ((Below.refl _ _).alloc (Nat.le_refl _) _).trans (hb.mono (by simp))
  have HB9 := Lib.hid hB; clear hB hb
  have hR := Kd.R_below HR1.out hA
  clear HR1
  have HR1 := Lib.hid hR; clear hR
  have hR := Kd.R_below HR4.out hA
  clear HR4
  have HR4 := Lib.hid hR; clear hR
  clear hA
  obtain ⟨a0, a1, a2⟩ := cells33 HR1.out (j := 0) rfl
  obtain ⟨a3, a4, a5⟩ := cells33 HR1.out (j := 1) rfl
  obtain ⟨b0, b1, b2⟩ := cells33 HR4.out (j := 0) rfl
  simp only [Nat.zero_mul, Nat.one_mul, Nat.zero_add, Nat.reduceAdd] at a0 a1 a2 a3 a4 a5 b0 b1 b2
  go_wp2_with fail
  refine (regletlaw18_alive.calls true _ alive18_true).mono ?_
  rintro e w10 ⟨rfl, hb⟩
  have HB10 := Lib.hid (HB9.out.trans (hb.mono HB9.out.size)); clear hb
  go_wp2_with fail
  go_ret
  exact ⟨rfl, HB10.out⟩
end Go.Proofs.Ytmecmmpgkcileaa.Z
