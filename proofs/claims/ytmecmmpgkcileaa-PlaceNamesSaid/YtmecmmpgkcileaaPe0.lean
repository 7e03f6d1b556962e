/- Rounds enough: how a loop's answer is told, and bytes of a text by their place. -/
import Derived.Test.YtmecmmpgkcileaaPf
import Derived.Test.YtmecmmpgkcileaaGStrs
namespace Go.Proofs.Ytmecmmpgkcileaa.Z
open Go.RowKit Go.Proofs.YtmecmmpgkcileaaW.PrintWords

/-- With rounds enough it tells this. -/
def Evs {α : Type} (f : Nat → Option α) (r : α) : Prop := ∃ K, ∀ k, K ≤ k → f k = some r
theorem Evs.succ {α : Type} {f : Nat → Option α} {r : α} (h : Evs (fun k => f (k + 1)) r) : Evs f r := by
  obtain ⟨K, hK⟩ := h
  refine ⟨K + 1, fun k hk => ?_⟩
  obtain ⟨j, rfl⟩ : ∃ j, k = j + 1 := ⟨k - 1, by omega⟩
  exact hK j (by omega)
theorem Evs.of {α : Type} {o : Option α} {r : α} (h : o = some r) : Evs (fun _ => o) r := ⟨0, fun _ _ => h⟩
theorem Evs.ret {α : Type} (r : α) : Evs (fun _ => some r) r := ⟨0, fun _ _ => rfl⟩
theorem Evs.bind {α β : Type} {f : Nat → Option α} {g : Nat → α → Option β} {a : α} {r : β} (hf : Evs f a) (hg : Evs (fun k => g k a) r) : Evs (fun k => (f k).bind (g k)) r := by
  obtain ⟨K, hK⟩ := hf
  obtain ⟨L, hL⟩ := hg
  refine ⟨max K L, fun k hk => ?_⟩
  show (f k).bind (g k) = _
  rw [hK k (by omega)]
  exact hL k (by omega)
theorem Evs.congr {α : Type} {f g : Nat → Option α} {r : α} (h : ∀ k, f k = g k) (hg : Evs g r) : Evs f r := by
  obtain ⟨K, hK⟩ := hg
  exact ⟨K, fun k hk => (h k).trans (hK k hk)⟩
theorem Evs.get {α : Type} {f : Nat → Option α} {r : α} (h : Evs f r) : ∃ k, f k = some r := by
  obtain ⟨K, hK⟩ := h
  exact ⟨K, hK K (Nat.le_refl _)⟩
theorem Evs.mono {α : Type} {f : Nat → Option α} {r : α} (hm : ∀ k, LeO (f k) (f (k + 1))) (h : ∃ k, f k = some r) : Evs f r := by
  obtain ⟨K, hK⟩ := h
  refine ⟨K, fun k hk => ?_⟩
  obtain ⟨d, rfl⟩ : ∃ d, k = K + d := ⟨k - K, by omega⟩
  clear hk
  induction d with
  | zero => exact hK
  | succ d ih => exact hm (K + d) r ih

theorem app_list (a b : ByteArray) : (a ++ b).data.toList = a.data.toList ++ b.data.toList := by
  rw [ByteArray.data_append, Array.toList_append]

theorem bt_at (s : ByteArray) (i : Nat) (h : i < s.data.toList.length) : bt s (i : Int) = ((s.data.toList[i]).toNat : Int) := by
  unfold bt
  rw [Int.toNat_natCast, dif_pos (by rw [← size_toList]; exact h)]
  rfl
theorem editFit (x : List ByteArray) (l : List S33) (hx : x.length ≤ 4611686018427387904) (hl : l.length ≤ 4611686018427387904)
    (hxs : ∀ s ∈ x, s.size ≤ 9223372036854775807) (hls : ∀ e ∈ l, e.f2.size ≤ 9223372036854775807) : Evs (fun k => edit_fit.f k x l) (fitB x l) :=
  Evs.mono (fun k => edit_fit.mono _ _ k) ⟨_, fit_some x l hx hl hxs hls⟩
end Go.Proofs.Ytmecmmpgkcileaa.Z
