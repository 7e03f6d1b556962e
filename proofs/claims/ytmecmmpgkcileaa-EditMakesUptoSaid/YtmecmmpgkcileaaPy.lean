/- Plain laws of edits and of those that take them back, together. -/
import Derived.Test.YtmecmmpgkcileaaPv1
namespace Go.Proofs.Ytmecmmpgkcileaa.Z
open Go.RowKit Go.Proofs.YtmecmmpgkcileaaW.PrintWords

theorem textSz_le {l : List S33} {m : Nat} (h : ∀ e ∈ l, e.f2.size ≤ m) : textSz l ≤ l.length * m := by
  induction l with
  | nil => simp [textSz]
  | cons e r ih =>
    have h1 := h e (by simp)
    have h2 := ih (fun d hd => h d (by simp [hd]))
    rw [textSz_cons, List.length_cons, Nat.succ_mul]
    omega
/-- Edits of s, what they make (t), and what takes them back. -/
structure Backs (s t : ByteArray) (l b : List S33) : Prop where
  fit : fitB (linesB t) b = true
  make : applyB (linesB t) b = s.data.toList
  twice : backFrom (linesB t) 0 b = l
  out : sizeOut b = sizeIn l
  in_ : sizeIn b = sizeOut l
  len : b.length = l.length
  text : textSz b ≤ s.size
theorem backFrom_text (x : List ByteArray) (l : List S33) : ∀ {last more : Int} {a : Nat}, fitFrom x last l = true → -1 ≤ last → (a : Int) ≤ last + 1 → textSz (backFrom x more l) ≤ (catL (x.drop a)).length := by
  induction l with
  | nil => intro _ _ _ _ _ _; simp [backFrom, textSz]
  | cons e r ih =>
    intro last more a hf h0 ha
    obtain ⟨h1, h2, h3, _, _, _, h7⟩ := fit_cons hf
    have hi := ih (more := more + ((linesB e.f2).length : Int) - e.f1 + e.f0) (a := e.f1.toNat) h7 (by omega) (by omega)
    have g1 := congrArg List.length (catL_mid_drop x e.f0.toNat e.f1.toNat (by omega))
    have g2 := catL_drop_mono x a e.f0.toNat (by omega)
    rw [List.length_append] at g1
    show textSz (⟨_, _, mkB (catL ((x.take e.f1.toNat).drop e.f0.toNat))⟩ :: backFrom x _ r) ≤ _
    rw [textSz_cons, mkB_size]
    omega
theorem backs {s : ByteArray} {l : List S33} (hf : fitB (linesB s) l = true) : Backs s (mkB (applyB (linesB s) l)) l (backFrom (linesB s) 0 l) := by
  have hZ := lines_apply hf
  have hat : At2 (linesB s) (linesB (mkB (applyB (linesB s) l))) l 0 0 [] := ⟨by rw [hZ]; rfl, rfl⟩
  have h1 := back_fit s _ l (last := -1) hf (by omega) (by omega) hat (fun u hu => by cases hu)
  have h2 := back_apply s _ l (last := -1) hf (by omega) (by omega) hat
  have h3 := back_back s _ l (last := -1) hf (by omega) (by omega) hat
  obtain ⟨h4, h5⟩ := back_sizes s l (last := -1) (more := 0) hf (by omega)
  have h6 := backFrom_text (linesB s) l (last := -1) (more := 0) (a := 0) hf (by omega) (by omega)
  rw [List.drop_zero, catL_linesB] at h2
  rw [List.drop_zero, catL_linesB, size_toList] at h6
  exact ⟨h1, h2, h3, h4, h5, backFrom_length _ _ _, h6⟩
end Go.Proofs.Ytmecmmpgkcileaa.Z
