/- What the library's functions on strings come to, in the form that the printed walks take. -/
import Derived.Test.YtmecmmpgkcileaaZ0
import Derived.Test.YtmecmmpgkcileaaShelf
namespace Go.Proofs.Ytmecmmpgkcileaa.Z
open Go.RowKit Go.Proofs.YtmecmmpgkcileaaW.PrintWords Go.Proofs.YtmecmmpgkcileaaW.PrintLast Go.Proofs.YtmecmmpgkcileaaW.PrintMore

/-- Texts one behind the other. -/
def catL (l : List ByteArray) : List UInt8 := (l.map (·.data.toList)).flatten

def strings_Join.f (l0 : List ByteArray) (a1 : ByteArray) : Option ByteArray :=
  if a1.data.toList = [] ∧ l0.length ≤ 140737488355328 ∧ (catL l0).length ≤ 140737488355328 then some ⟨(catL l0).toArray⟩ else none

theorem add_spot (ad : Addr) (hs : ad.spot = none) (j : Nat) : ad.add j = ⟨ad.block, ad.off + j, none⟩ := by
  unfold Addr.add
  split
  · rename_i h
    subst h
    cases ad
    simp at hs
    simp [hs]
  · rfl
theorem spot_of_cell {w : World} {ad : Addr} {v : Value} (h : w.cell? ad = some v) : ad.spot = none := by
  unfold World.cell? at h
  split at h
  · split at h
    · cases h
    · rename_i hs; simpa using hs
  · cases h
/-- A row of strings that is read, its cells named. -/
theorem C_strings {w : World} {A : Option Addr} {n : Nat} {l : List ByteArray} (h : Kd.C Kd.string w A n l) (hn : 0 < n) :
    ∃ b o, A = some ⟨b, o, none⟩ ∧ b < w.heap.size ∧ ∀ j x, l[j]? = some x → w.cell? ⟨b, o + j, none⟩ = some (.string x) := by
  obtain ⟨h1, _, h3⟩ := h
  obtain ⟨ad, rfl, hc⟩ := h3 hn
  have key : ∀ j x, l[j]? = some x → w.cell? (ad.add j) = some (.string x) := by
    intro j x hj
    obtain ⟨c, _, hK, hcell⟩ := hc j x hj
    obtain rfl : c = [.string x] := hK
    simpa [Kd.string, Kd.scalar] using hcell 0 _ rfl
  have h0 : 0 < l.length := by omega
  have hcell0 := key 0 _ (List.getElem?_eq_getElem h0)
  rw [show ad.add 0 = ad from by simp [Addr.add]] at hcell0
  have hs := spot_of_cell hcell0
  refine ⟨ad.block, ad.off, ?_, World.block_lt_of_cell? w ad hcell0, fun j x hj => ?_⟩
  · cases ad; simp at hs; simp [hs]
  · rw [← add_spot ad hs]; exact key j x hj

theorem join_cat (l : List (List UInt8)) : Lib.join l [] = l.flatten := by
  cases l with
  | nil => rfl
  | cons x r =>
    rw [Lib.join_cons, Lib.joinTail]
    simp

theorem strings_Join.calls (A0 : Option Addr) (c0 : Nat) (l0 : List ByteArray) (a1 : ByteArray) (r : ByteArray) (w : World) (hr0 : Kd.C Kd.string w A0 l0.length l0) (hc0 : l0.length ≤ c0) (h : strings_Join.f l0 a1 = some r) :
    Calls Try.prog 46 #[.slice A0 l0.length c0, .string a1] w fun e w' => e = .returned (.string r) ∧ Below w.heap.size w w' := by
  unfold strings_Join.f at h
  split at h
  · rename_i hc
    obtain ⟨h1, h2, h3⟩ := hc
    obtain rfl := Option.some.inj h
    cases l0 with
    | nil =>
      refine (Try.strings_Join_none A0 c0 a1 w).mono ?_
      rintro e w' ⟨rfl, rfl⟩
      exact ⟨rfl, Below.refl _ _⟩
    | cons x r =>
      have hlen : (Lib.join ((x :: r).map (·.data.toList)) a1.data.toList).length ≤ 140737488355328 := by rw [h1, join_cat]; exact h3
      obtain ⟨b, o, rfl, hb, hcells⟩ := C_strings hr0 (by simp)
      refine (Try.strings_Join b o c0 (x :: r) a1 w hcells hb h2 hc0 hlen).mono ?_
      rintro e w' ⟨rfl, hbl⟩
      refine ⟨?_, hbl⟩
      rw [h1, join_cat]
      rfl
  · cases h

def strings_Index.f (a0 a1 : ByteArray) : Option Int := if a1.data.toList = [10] then some (Lib.indexByte a0.data.toList 10) else none
theorem one_nl {a : ByteArray} (h : a.data.toList = [10]) : a = ⟨#[10]⟩ := by
  obtain ⟨d⟩ := a
  congr 1
  exact Array.ext' h
theorem strings_Index.calls (a0 a1 : ByteArray) (r : Int) (w : World) (h : strings_Index.f a0 a1 = some r) :
    Calls Try.prog 38 #[.string a0, .string a1] w fun e w' => e = .returned (.int .i64 r) ∧ Drawn0 w w' := by
  unfold strings_Index.f at h
  split at h
  · rename_i h1
    obtain rfl := Option.some.inj h
    obtain rfl := one_nl h1
    refine (Try.strings_Index_one a0 10 w).mono ?_
    rintro e w' ⟨rfl, rfl⟩
    exact ⟨rfl, Drawn0.refl _⟩
  · cases h

def strings_IndexByte.f (a0 : ByteArray) (a1 : Int) : Option Int := some (Lib.indexByte a0.data.toList a1.toNat.toUInt8)
theorem strings_IndexByte.calls (a0 : ByteArray) (a1 : Int) (r : Int) (w : World) (h : strings_IndexByte.f a0 a1 = some r) :
    Calls Try.prog 60 #[.string a0, .int .u8 a1] w fun e w' => e = .returned (.int .i64 r) ∧ Drawn0 w w' := by
  obtain rfl := Option.some.inj h
  refine (Try.strings_IndexByte a0 a1 w).mono ?_
  rintro e w' ⟨rfl, rfl⟩
  exact ⟨rfl, Drawn0.refl _⟩

def strings_LastIndexByte.f (a0 : ByteArray) (a1 : Int) : Option Int := if a0.size < 4611686018427387904 then some (Lib.lastIndexByte a0 a1) else none
theorem strings_LastIndexByte.calls (a0 : ByteArray) (a1 : Int) (r : Int) (w : World) (h : strings_LastIndexByte.f a0 a1 = some r) :
    Calls Try.prog 59 #[.string a0, .int .u8 a1] w fun e w' => e = .returned (.int .i64 r) ∧ Drawn0 w w' := by
  unfold strings_LastIndexByte.f at h
  split at h
  · rename_i h1
    obtain rfl := Option.some.inj h
    refine (Try.strings_LastIndexByte a0 a1 h1 w).mono ?_
    rintro e w' ⟨rfl, rfl⟩
    exact ⟨rfl, Drawn0.refl _⟩
  · cases h

def strings_Count.f (a0 a1 : ByteArray) : Option Int := if a1.data.toList = [10] then some (Lib.countByte a0.data.toList 10 : Nat) else none
theorem strings_Count.calls (a0 a1 : ByteArray) (r : Int) (w : World) (h : strings_Count.f a0 a1 = some r) :
    Calls Try.prog 58 #[.string a0, .string a1] w fun e w' => e = .returned (.int .i64 r) ∧ Drawn0 w w' := by
  unfold strings_Count.f at h
  split at h
  · rename_i h1
    obtain rfl := Option.some.inj h
    obtain rfl := one_nl h1
    refine (Try.strings_Count_one a0 10 w).mono ?_
    rintro e w' ⟨rfl, rfl⟩
    exact ⟨rfl, Drawn0.refl _⟩
  · cases h
end Go.Proofs.Ytmecmmpgkcileaa.Z
