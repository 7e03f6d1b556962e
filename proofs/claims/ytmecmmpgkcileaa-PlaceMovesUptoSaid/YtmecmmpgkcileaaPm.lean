/- Plain laws of the second chapter-20 program: Move, From and Kept come to what the first one's do. -/
import Derived.Test.YtmecmmpgkcileaaPr1
import Derived.Test.YtmecmmpgkcileaaPe
import Derived.Test.YtmecmmpgkcileaaZ20
namespace Go.Proofs.Ytmecmmpgkcileaa.Z
open Go.RowKit Go.Proofs.YtmecmmpgkcileaaW.PrintWords

theorem wrap_s (z : Int) (h0 : -4611686018427387904 ≤ z) (h1 : z ≤ 4611686018427387904) : wrap64 z = z := by unfold wrap64; omega
theorem begin_l0 (x : List ByteArray) (hx : (catL x).length ≤ 4611686018427387904) (hl : x.length ≤ 4611686018427387904) (n : Nat) (hn : n ≤ x.length) (d : Nat) :
    ∀ i : Nat, i + d = n → Evs (fun k => regletref20_begin.l0 k x (n : Int) (begB x i : Int) (i : Int)) (begB x n : Int) := by
  induction d with
  | zero =>
    intro i hi
    refine Evs.succ (Evs.congr (fun k => ?_) (Evs.ret _))
    simp only [regletref20_begin.l0]
    rw [if_neg (by omega)]
    have : i = n := by omega
    subst this
    rfl
  | succ d ih =>
    intro i hi
    have hlt : i < x.length := by omega
    have hb := begB_succ x i hlt
    have hle := begB_le x (i + 1)
    refine Evs.succ (Evs.congr (fun k => ?_) (ih (i + 1) (by omega)))
    simp only [regletref20_begin.l0]
    rw [if_pos (by omega), if_pos (by omega), if_pos (by omega), rdOf_at x i hlt, wrap_succ i (by omega), wrap_s _ (by omega) (by omega), hb]
    simp
theorem begin_ev (x : List ByteArray) (hx : (catL x).length ≤ 4611686018427387904) (hl : x.length ≤ 4611686018427387904) (n : Int) (h0 : 0 ≤ n) (hn : n ≤ (x.length : Int)) : Evs (fun k => regletref20_begin.f k x n) (begB x n.toNat : Int) := by
  obtain ⟨m, rfl⟩ := Int.eq_ofNat_of_zero_le h0
  have := begin_l0 x hx hl m (by omega) m 0 (by omega)
  rw [begB_zero] at this
  rw [Int.toNat_natCast]
  exact this

theorem keep_step_step (xs : List S64) {a m b : Int} (h1 : a ≤ m) (h2 : m ≤ b) : keepStep (keepStep xs a m) m b = keepStep xs a b := by
  by_cases e1 : a = m
  · subst e1
    have : keepStep xs a a = xs := by unfold keepStep; rw [if_pos rfl]
    rw [this]
  · by_cases e2 : m = b
    · subst e2
      have : ∀ ys : List S64, keepStep ys m m = ys := fun ys => by unfold keepStep; rw [if_pos rfl]
      rw [this]
    · have e3 : ¬ a = b := by omega
      rcases snoc_cases xs with rfl | ⟨ys, d, rfl⟩
      · rw [keepStep_nil, if_neg e1, keepStep_nil, if_neg e3]
        have := keepStep_snoc [] ⟨a, m⟩ m b
        rw [List.nil_append, if_neg e2, if_pos rfl] at this
        exact this
      · rw [keepStep_snoc, if_neg e1, keepStep_snoc, if_neg e3]
        by_cases e4 : d.f1 = a
        · rw [if_pos e4, if_pos e4, keepStep_snoc, if_neg e2, if_pos rfl]
        · rw [if_neg e4, if_neg e4, keepStep_snoc, if_neg e2, if_pos rfl]

/-- What the loops ask of a text and edits, all of them small. -/
structure Ref (s : ByteArray) (l : List S33) : Prop where
  s1 : s.size ≤ 2000
  fit : fitB (linesB s) l = true
  text : ∀ e ∈ l, e.f2.size ≤ 2000
  len : l.length ≤ 2001
theorem Small.ref {s : ByteArray} {l : List S33} (h : Small s l) (hf : fitB (linesB s) l = true) : Ref s l := by
  have h1 := fit_length (last := -1) hf (by omega)
  have h2 := lines_length s
  have h3 := h.s1
  exact ⟨h3, hf, h.text hf, by omega⟩
theorem Ref.catLe {s : ByteArray} {l : List S33} (h : Ref s l) : (catL (linesB s)).length ≤ 4611686018427387904 := by rw [catL_linesB, size_toList]; have := h.s1; omega
theorem Ref.lenLe {s : ByteArray} {l : List S33} (h : Ref s l) : (linesB s).length ≤ 4611686018427387904 := by have := lines_length s; have := h.s1; omega
theorem Ref.at_ {s : ByteArray} {l : List S33} (h : Ref s l) {i : Nat} (hi : i < l.length) : 0 ≤ (l[i]).f0 ∧ (l[i]).f0 ≤ (l[i]).f1 ∧ (l[i]).f1 ≤ ((linesB s).length : Int) ∧ (l[i]).f2.size ≤ 2000 := by
  have hm : l[i] ∈ l := List.getElem_mem hi
  have := fit_later (last := -1) h.fit _ hm
  have := h.text _ hm
  omega
theorem Ref.begins {s : ByteArray} {l : List S33} (h : Ref s l) {i : Nat} (hi : i < l.length) :
    Evs (fun k => regletref20_begin.f k (linesB s) (l[i]).f0) (begB (linesB s) (l[i]).f0.toNat : Int) ∧ Evs (fun k => regletref20_begin.f k (linesB s) (l[i]).f1) (begB (linesB s) (l[i]).f1.toNat : Int) := by
  obtain ⟨a, b, c, _⟩ := h.at_ hi
  exact ⟨begin_ev _ h.catLe h.lenLe _ a (by omega), begin_ev _ h.catLe h.lenLe _ (by omega) c⟩
theorem refMove_after {s : ByteArray} {l : List S33} (h : Ref s l) (p out : Int) (d : Nat) : ∀ i : Nat, i + d = l.length → (∀ e ∈ l.drop i, p < (begB (linesB s) e.f0.toNat : Int)) →
    Evs (fun k => regletref20_Move.l0 k l p (linesB s) out (i : Int)) (out, 0) := by
  have hlen := h.len
  induction d with
  | zero =>
    intro i hi _
    refine Evs.succ (Evs.congr (fun k => ?_) (Evs.ret _))
    simp only [regletref20_Move.l0]
    rw [if_neg (by omega)]
  | succ d ih =>
    intro i hi hlt
    have hil : i < l.length := by omega
    rw [List.drop_eq_getElem_cons hil] at hlt
    obtain ⟨b0, b1⟩ := h.begins hil
    refine Evs.succ ?_
    simp only [regletref20_Move.l0]
    have c1 : ((i : Int) < (l.length : Int)) := by omega
    have c2 : (0 : Int) ≤ (i : Int) := by omega
    have c3 : (begB (linesB s) (l[i]).f0.toNat : Int) > p := hlt _ List.mem_cons_self
    simp only [if_pos c1, if_pos c2, rd33 l i hil]
    refine Evs.bind b0 (Evs.bind b1 ?_)
    simp only [if_pos c3]
    rw [wrap_succ i (by omega)]
    exact ih (i + 1) (by omega) (fun e he => hlt e (List.mem_cons_of_mem _ he))
theorem later_begins {s : ByteArray} {t : Int} {r : List S33} (h : fitFrom (linesB s) t r = true) (h0 : 0 ≤ t) : ∀ e ∈ r, begB (linesB s) t.toNat < begB (linesB s) e.f0.toNat := fun e he => by
  have := fit_later h e he
  exact begB_lt s (by omega) (by omega)
theorem mn_min (a b : Int) : mn a b = min a b := by unfold mn; omega
theorem refMove_l0 {s : ByteArray} {l : List S33} (h : Ref s l) (p : Int) (h0 : 0 ≤ p) (hp : p ≤ (s.size : Int)) (d : Nat) : ∀ (i : Nat) (last more : Int), i + d = l.length → fitFrom (linesB s) last (l.drop i) = true → -1 ≤ last →
    -(2000 * (i : Int)) ≤ more → more ≤ 2000 * (i : Int) → Evs (fun k => regletref20_Move.l0 k l p (linesB s) (p + more) (i : Int)) (moveFrom (cutsB (linesB s) (l.drop i)) more p, 0) := by
  have hlen := h.len
  have hs := h.s1
  induction d with
  | zero =>
    intro i last more hi _ _ _ _
    rw [List.drop_of_length_le (by omega)]
    refine Evs.succ (Evs.congr (fun k => ?_) (Evs.ret _))
    simp only [regletref20_Move.l0]
    rw [if_neg (by omega)]
    rfl
  | succ d ih =>
    intro i last more hi hf hl m0 m1
    have hil : i < l.length := by omega
    have hd := List.drop_eq_getElem_cons hil
    rw [hd] at hf ⊢
    obtain ⟨f1, f2, f3, _, _, _, f7⟩ := fit_cons hf
    obtain ⟨a1, a2, a3, a4⟩ := h.at_ hil
    obtain ⟨b0, b1⟩ := h.begins hil
    obtain ⟨g1, g2, g3⟩ := cutOf_fit (s := s) (by omega) (by omega) f2
    have hm := begB_mono (linesB s) (show (l[i]).f0.toNat ≤ (l[i]).f1.toNat by omega)
    have hbs := begB_le_size s (l[i]).f1.toNat
    have hrest := later_begins f7 (by omega)
    have hmv : moveFrom (cutsB (linesB s) (l[i] :: l.drop (i + 1))) more p = if (begB (linesB s) (l[i]).f0.toNat : Int) > p then p + more else if p < (begB (linesB s) (l[i]).f1.toNat : Int) then (begB (linesB s) (l[i]).f0.toNat : Int) + more + min (p - (begB (linesB s) (l[i]).f0.toNat : Int)) ((l[i]).f2.size : Int) else moveFrom (cutsB (linesB s) (l.drop (i + 1))) (more + (((l[i]).f2.size : Int) - ((begB (linesB s) (l[i]).f1.toNat : Int) - (begB (linesB s) (l[i]).f0.toNat : Int)))) p := by
      show moveFrom (cutOf (linesB s) l[i] :: cutsB (linesB s) (l.drop (i + 1))) more p = _
      simp only [moveFrom, Cut3.more]
      rw [g1, g2, g3]
    rw [hmv]
    refine Evs.succ ?_
    simp only [regletref20_Move.l0]
    have c1 : ((i : Int) < (l.length : Int)) := by omega
    have c2 : (0 : Int) ≤ (i : Int) := by omega
    simp only [if_pos c1, if_pos c2, rd33 l i hil]
    refine Evs.bind b0 (Evs.bind b1 ?_)
    rw [wrap_succ i (by omega)]
    by_cases p1 : (begB (linesB s) (l[i]).f0.toNat : Int) > p
    · simp only [if_pos p1]
      exact refMove_after h p _ d (i + 1) (by omega) (fun e he => by have := hrest e he; omega)
    · simp only [if_neg p1]
      by_cases p2 : p < (begB (linesB s) (l[i]).f1.toNat : Int)
      · simp only [if_pos p2]
        have := refMove_after h p ((begB (linesB s) (l[i]).f0.toNat : Int) + more + min (p - (begB (linesB s) (l[i]).f0.toNat : Int)) ((l[i]).f2.size : Int)) d (i + 1) (by omega) (fun e he => by have := hrest e he; omega)
        rw [mn_min, wrap_s (p - _) (by omega) (by omega), wrap_s (p + more - _) (by omega) (by omega), wrap_s _ (by omega) (by omega)]
        have e1 : p + more - (p - (begB (linesB s) (l[i]).f0.toNat : Int)) + min (p - (begB (linesB s) (l[i]).f0.toNat : Int)) ((l[i]).f2.size : Int) = (begB (linesB s) (l[i]).f0.toNat : Int) + more + min (p - (begB (linesB s) (l[i]).f0.toNat : Int)) ((l[i]).f2.size : Int) := by omega
        rw [e1]
        exact this
      · simp only [if_neg p2]
        have := ih (i + 1) (l[i]).f1 (more + (((l[i]).f2.size : Int) - ((begB (linesB s) (l[i]).f1.toNat : Int) - (begB (linesB s) (l[i]).f0.toNat : Int)))) (by omega) f7 (by omega) (by omega) (by omega)
        rw [wrap_s (p + more + _) (by omega) (by omega), wrap_s ((begB (linesB s) (l[i]).f1.toNat : Int) - _) (by omega) (by omega), wrap_s _ (by omega) (by omega)]
        have e1 : p + more + ((l[i]).f2.size : Int) - ((begB (linesB s) (l[i]).f1.toNat : Int) - (begB (linesB s) (l[i]).f0.toNat : Int)) = p + (more + (((l[i]).f2.size : Int) - ((begB (linesB s) (l[i]).f1.toNat : Int) - (begB (linesB s) (l[i]).f0.toNat : Int)))) := by omega
        rw [e1]
        exact this

theorem refFrom_l0 {s : ByteArray} {l : List S33} (h : Ref s l) (p : Int) (h0 : 0 ≤ p) (hp : p ≤ 8000) (d : Nat) : ∀ (i : Nat) (last more : Int), i + d = l.length → fitFrom (linesB s) last (l.drop i) = true → -1 ≤ last →
    -(2000 * (i : Int)) ≤ more → more ≤ 2000 * (i : Int) → Evs (fun k => regletref20_From.l0 k l p (linesB s) more (i : Int)) ((fromFrom (cutsB (linesB s) (l.drop i)) more p).1, (fromFrom (cutsB (linesB s) (l.drop i)) more p).2, 0) := by
  have hlen := h.len
  have hs := h.s1
  induction d with
  | zero =>
    intro i last more hi _ _ m0 m1
    rw [List.drop_of_length_le (by omega)]
    refine Evs.succ (Evs.congr (fun k => ?_) (Evs.ret _))
    simp only [regletref20_From.l0]
    rw [if_neg (by omega), wrap_s _ (by omega) (by omega)]
    rfl
  | succ d ih =>
    intro i last more hi hf hl m0 m1
    have hil : i < l.length := by omega
    have hd := List.drop_eq_getElem_cons hil
    rw [hd] at hf ⊢
    obtain ⟨f1, f2, f3, _, _, _, f7⟩ := fit_cons hf
    obtain ⟨a1, a2, a3, a4⟩ := h.at_ hil
    obtain ⟨b0, b1⟩ := h.begins hil
    obtain ⟨g1, g2, g3⟩ := cutOf_fit (s := s) (by omega) (by omega) f2
    have hm := begB_mono (linesB s) (show (l[i]).f0.toNat ≤ (l[i]).f1.toNat by omega)
    have hbs := begB_le_size s (l[i]).f1.toNat
    have hmv : fromFrom (cutsB (linesB s) (l[i] :: l.drop (i + 1))) more p = if (begB (linesB s) (l[i]).f0.toNat : Int) + more > p then (p - more, true) else if p < (begB (linesB s) (l[i]).f0.toNat : Int) + more + ((l[i]).f2.size : Int) then ((begB (linesB s) (l[i]).f0.toNat : Int), false) else fromFrom (cutsB (linesB s) (l.drop (i + 1))) (more + (((l[i]).f2.size : Int) - ((begB (linesB s) (l[i]).f1.toNat : Int) - (begB (linesB s) (l[i]).f0.toNat : Int)))) p := by
      show fromFrom (cutOf (linesB s) l[i] :: cutsB (linesB s) (l.drop (i + 1))) more p = _
      simp only [fromFrom, Cut3.more]
      rw [g1, g2, g3]
    rw [hmv]
    refine Evs.succ ?_
    simp only [regletref20_From.l0]
    have c1 : ((i : Int) < (l.length : Int)) := by omega
    have c2 : (0 : Int) ≤ (i : Int) := by omega
    simp only [if_pos c1, if_pos c2, rd33 l i hil]
    refine Evs.bind b0 (Evs.bind b1 ?_)
    have w1 : wrap64 ((begB (linesB s) (l[i]).f0.toNat : Int) + more) = (begB (linesB s) (l[i]).f0.toNat : Int) + more := wrap_s _ (by omega) (by omega)
    have w2 : wrap64 ((begB (linesB s) (l[i]).f0.toNat : Int) + more + ((l[i]).f2.size : Int)) = (begB (linesB s) (l[i]).f0.toNat : Int) + more + ((l[i]).f2.size : Int) := wrap_s _ (by omega) (by omega)
    simp only [w1, w2]
    by_cases p1 : (begB (linesB s) (l[i]).f0.toNat : Int) + more > p
    · have p1' : ¬ p ≥ (begB (linesB s) (l[i]).f0.toNat : Int) + more := by omega
      simp only [if_neg p1', if_pos p1]
      refine Evs.succ (Evs.congr (fun k => ?_) (Evs.ret _))
      simp only [regletref20_From.j2, w1, w2]
      rw [if_neg (by simp), if_neg (by omega), wrap_s _ (by omega) (by omega)]
    · have p1' : p ≥ (begB (linesB s) (l[i]).f0.toNat : Int) + more := by omega
      simp only [if_pos p1', if_neg p1]
      by_cases p2 : p < (begB (linesB s) (l[i]).f0.toNat : Int) + more + ((l[i]).f2.size : Int)
      · simp only [p2, decide_true, if_true]
        refine Evs.succ (Evs.congr (fun k => ?_) (Evs.ret _))
        simp only [regletref20_From.j2, if_true]
      · simp only [p2, decide_false, if_false]
        have := ih (i + 1) (l[i]).f1 (more + (((l[i]).f2.size : Int) - ((begB (linesB s) (l[i]).f1.toNat : Int) - (begB (linesB s) (l[i]).f0.toNat : Int)))) (by omega) f7 (by omega) (by omega) (by omega)
        refine Evs.succ (Evs.congr (fun k => ?_) this)
        simp only [regletref20_From.j2, w1, w2]
        rw [if_neg (by simp), if_pos (by omega), wrap_succ i (by omega), wrap_s (more + _) (by omega) (by omega), wrap_s ((begB (linesB s) (l[i]).f1.toNat : Int) - _) (by omega) (by omega), wrap_s _ (by omega) (by omega)]
        have e1 : more + ((l[i]).f2.size : Int) - ((begB (linesB s) (l[i]).f1.toNat : Int) - (begB (linesB s) (l[i]).f0.toNat : Int)) = more + (((l[i]).f2.size : Int) - ((begB (linesB s) (l[i]).f1.toNat : Int) - (begB (linesB s) (l[i]).f0.toNat : Int))) := by omega
        rw [e1]

/-! ### Kept -/
/-- The ranges that a row of marks leaves, from a place on. -/
def unmarked (M : List Bool) : Nat → Nat → List S64 → List S64
  | 0, _, xs => xs
  | d + 1, i, xs => unmarked M d (i + 1) (if M.getD i false = true then xs else keepStep xs (i : Int) ((i : Int) + 1))
theorem refKept_l2 {s : ByteArray} (hs : s.size ≤ 2000) (M : List Bool) (hM : M.length = s.size) (d : Nat) : ∀ (i : Nat) (xs : List S64), i + d = s.size → xs.length ≤ i →
    Evs (fun k => regletref20_Kept.l2 k s M xs (i : Int)) (unmarked M d i xs, 0) := by
  induction d with
  | zero =>
    intro i xs hi _
    refine Evs.succ (Evs.congr (fun k => ?_) (Evs.ret _))
    simp only [regletref20_Kept.l2]
    rw [if_neg (by omega)]
    rfl
  | succ d ih =>
    intro i xs hi hx
    have hrd : rdOf false M (i : Int) = M.getD i false := by unfold rdOf; rw [Int.toNat_natCast]
    have c1 : ((i : Int) < (s.size : Int)) := by omega
    have c2 : (0 : Int) ≤ (i : Int) := by omega
    have c3 : (i : Int) < (M.length : Int) := by omega
    refine Evs.succ ?_
    simp only [regletref20_Kept.l2, if_pos c1, if_pos c2, if_pos c3, hrd]
    rw [wrap_succ i (by omega)]
    show Evs _ (unmarked M d (i + 1) (if M.getD i false = true then xs else keepStep xs (i : Int) ((i : Int) + 1)), 0)
    by_cases hm : M.getD i false = true
    · simp only [if_pos hm]
      exact ih (i + 1) xs (by omega) (by omega)
    · simp only [if_neg hm]
      have hk := keepStep_length xs (i : Int) ((i : Int) + 1)
      have hi2 := ih (i + 1) (keepStep xs (i : Int) ((i : Int) + 1)) (by omega) (by omega)
      have c4 : xs.length < 8796093022208 := by omega
      have eS : ((i + 1 : Nat) : Int) = (i : Int) + 1 := by omega
      by_cases hn : (xs.length : Int) > 0
      · have hw : wrap64 ((xs.length : Int) - 1) = ((xs.length - 1 : Nat) : Int) := wrap_pred _ (by omega) (by omega)
        have c5 : (0 : Int) ≤ ((xs.length - 1 : Nat) : Int) := by omega
        have c6 : ((xs.length - 1 : Nat) : Int) < (xs.length : Int) := by omega
        simp only [if_pos hn, hw, if_pos c5, if_pos c6]
        by_cases he : (rd_T64 xs ((xs.length - 1 : Nat) : Int)).f1 = (i : Int)
        · simp only [if_pos he, Int.toNat_natCast]
          have e : keepStep xs (i : Int) ((i : Int) + 1) = xs.set (xs.length - 1) ⟨(rd_T64 xs ((xs.length - 1 : Nat) : Int)).f0, ((i + 1 : Nat) : Int)⟩ := by
            unfold keepStep; rw [if_neg (by omega), if_pos ⟨by omega, he⟩, eS]
          rw [e] at hi2 ⊢
          exact hi2
        · simp only [if_neg he, if_pos c4]
          have e : keepStep xs (i : Int) ((i : Int) + 1) = xs ++ [⟨(i : Int), ((i + 1 : Nat) : Int)⟩] := by
            unfold keepStep; rw [if_neg (by omega), if_neg (fun h => he h.2), eS]
          rw [e] at hi2 ⊢
          exact hi2
      · simp only [if_neg hn, if_pos c4]
        have e : keepStep xs (i : Int) ((i : Int) + 1) = xs ++ [⟨(i : Int), ((i + 1 : Nat) : Int)⟩] := by
          unfold keepStep; rw [if_neg (by omega), if_neg (fun h => by omega), eS]
        rw [e] at hi2 ⊢
        exact hi2

/-- A row of marks, and what is marked. -/
def MarkOk (M : List Bool) (n : Nat) (P : Nat → Prop) : Prop := M.length = n ∧ ∀ k, k < n → (M.getD k false = true ↔ P k)
theorem MarkOk.set {M : List Bool} {n : Nat} {P : Nat → Prop} (h : MarkOk M n P) {j : Nat} (hj : j < n) : MarkOk (M.set j true) n (fun k => P k ∨ k = j) := by
  refine ⟨by rw [List.length_set]; exact h.1, fun k hk => ?_⟩
  rw [List.getD_eq_getElem?_getD, List.getElem?_set]
  by_cases e : j = k
  · subst e
    rw [if_pos rfl, if_pos (by rw [h.1]; exact hj)]
    simp
  · rw [if_neg e, ← List.getD_eq_getElem?_getD, h.2 k hk]
    exact ⟨fun h => .inl h, fun h => h.elim id fun h => absurd h.symm e⟩
theorem MarkOk.iff {M : List Bool} {n : Nat} {P Q : Nat → Prop} (h : MarkOk M n P) (hPQ : ∀ k, k < n → (P k ↔ Q k)) : MarkOk M n Q := ⟨h.1, fun k hk => (h.2 k hk).trans (hPQ k hk)⟩
theorem refKept_l1 {s : ByteArray} {l : List S33} {R : List S64 × Int} (hs : s.size ≤ 2000) (i T : Nat) (hT : T ≤ s.size) (hi : i < 4000000) (d : Nat) : ∀ (j : Nat) (M : List Bool) (P : Nat → Prop), j + d = T → MarkOk M s.size P →
    (∀ M', MarkOk M' s.size (fun k => P k ∨ (j ≤ k ∧ k < T)) → Evs (fun k => regletref20_Kept.l0 k s l (linesB s) M' ((i + 1 : Nat) : Int)) R) →
    Evs (fun k => regletref20_Kept.l1 k s l (linesB s) M (i : Int) (T : Int) (j : Int)) R := by
  induction d with
  | zero =>
    intro j M P hj hM hnext
    refine Evs.succ (Evs.congr (fun k => ?_) (hnext M (hM.iff fun k hk => ⟨fun h => .inl h, fun h => h.elim id fun h => by omega⟩)))
    simp only [regletref20_Kept.l1]
    rw [if_neg (by omega), wrap_succ i (by omega)]
  | succ d ih =>
    intro j M P hj hM hnext
    have hlt : j < s.size := by omega
    refine Evs.succ (Evs.congr (fun k => ?_) (ih (j + 1) (M.set j true) (fun k => P k ∨ k = j) (by omega) (hM.set hlt) (fun M' hM' => hnext M' (hM'.iff fun k hk => ?_))))
    · simp only [regletref20_Kept.l1]
      rw [if_pos (by omega), if_pos (by omega), if_pos (by have := hM.1; omega), Int.toNat_natCast, wrap_succ j (by omega)]
    · constructor
      · rintro ((h | h) | h)
        · exact .inl h
        · exact .inr (by omega)
        · exact .inr (by omega)
      · rintro (h | h)
        · exact .inl (.inl h)
        · by_cases e : k = j
          · exact .inl (.inr e)
          · exact .inr (by omega)

theorem keepStep_same (xs : List S64) (a : Int) : keepStep xs a a = xs := by unfold keepStep; rw [if_pos rfl]
theorem unmarked_free {M : List Bool} (d : Nat) : ∀ (a : Nat) (xs : List S64), (∀ k, a ≤ k → k < a + d → ¬ M.getD k false = true) → unmarked M d a xs = keepStep xs (a : Int) ((a + d : Nat) : Int) := by
  induction d with
  | zero => intro a xs _; exact (keepStep_same xs _).symm
  | succ d ih =>
    intro a xs h
    show unmarked M d (a + 1) (if M.getD a false = true then xs else keepStep xs (a : Int) ((a : Int) + 1)) = _
    rw [if_neg (h a (by omega) (by omega)), ih (a + 1) _ (fun k h1 h2 => h k (by omega) (by omega))]
    have e1 : ((a + 1 : Nat) : Int) = (a : Int) + 1 := by omega
    have e2 : ((a + 1 + d : Nat) : Int) = ((a + (d + 1) : Nat) : Int) := by omega
    rw [e1, e2]
    exact keep_step_step xs (by omega) (by omega)
theorem unmarked_all {M : List Bool} (d : Nat) : ∀ (a : Nat) (xs : List S64), (∀ k, a ≤ k → k < a + d → M.getD k false = true) → unmarked M d a xs = xs := by
  induction d with
  | zero => intro a xs _; rfl
  | succ d ih =>
    intro a xs h
    show unmarked M d (a + 1) (if M.getD a false = true then xs else keepStep xs (a : Int) ((a : Int) + 1)) = _
    rw [if_pos (h a (by omega) (by omega))]
    exact ih (a + 1) _ (fun k h1 h2 => h k (by omega) (by omega))
theorem unmarked_add (M : List Bool) (d q : Nat) : ∀ (a : Nat) (xs : List S64), unmarked M (d + q) a xs = unmarked M q (a + d) (unmarked M d a xs) := by
  induction d with
  | zero => intro a xs; rw [Nat.zero_add]; rfl
  | succ d ih =>
    intro a xs
    rw [show d + 1 + q = (d + q) + 1 by omega]
    show unmarked M (d + q) (a + 1) _ = unmarked M q (a + (d + 1)) (unmarked M d (a + 1) _)
    rw [ih, show a + 1 + d = a + (d + 1) by omega]
theorem unmarked_cuts {n a : Nat} {l : List (Cut3 × List UInt8)} (h : Cuts n a l) : ∀ (M : List Bool) (xs : List S64), (∀ k, a ≤ k → k < n → (M.getD k false = true ↔ ¬ Stays l k)) →
    unmarked M (n - a) a xs = keepStep ((cs l).foldl keepCut (xs, (a : Int))).1 ((cs l).foldl keepCut (xs, (a : Int))).2 n := by
  induction h with
  | @nil a h =>
    intro M xs hM
    rw [unmarked_free (n - a) a xs (fun k h1 h2 e => (hM k h1 (by omega)).1 e (fun d hd => by cases hd)), show a + (n - a) = n by omega]
    rfl
  | @cons a c u r h1 h2 h3 h4 hr ih =>
    intro M xs hM
    have hok := c.ok
    have hle := (ap_length (L := List.replicate n 0) (by simp) hr).2
    have e1 : n - a = (c.from_ - a) + ((c.to_ - c.from_) + (n - c.to_)) := by omega
    rw [e1, unmarked_add, unmarked_add]
    have hst : ∀ k, k < n → (Stays ((c, u) :: r) k ↔ ¬ (c.from_ ≤ k ∧ k < c.to_) ∧ Stays r k) := fun k _ =>
      ⟨fun h => ⟨h (c, u) List.mem_cons_self, fun d hd => h d (List.mem_cons_of_mem _ hd)⟩, fun h d hd => by
        rcases List.mem_cons.1 hd with rfl | hd
        · exact h.1
        · exact h.2 d hd⟩
    rw [unmarked_free (c.from_ - a) a xs (fun k k1 k2 e => (hM k k1 (by omega)).1 e ((hst k (by omega)).2 ⟨by omega, fun d hd => by have := h4 d hd; omega⟩)),
      show a + (c.from_ - a) = c.from_ by omega,
      unmarked_all (c.to_ - c.from_) c.from_ _ (fun k k1 k2 => (hM k (by omega) (by omega)).2 (fun h => ((hst k (by omega)).1 h).1 (by omega))),
      show c.from_ + (c.to_ - c.from_) = c.to_ by omega]
    rw [ih M _ (fun k k1 k2 => (hM k (by omega) k2).trans ⟨fun h h' => h ((hst k k2).2 ⟨by omega, h'⟩), fun h h' => h ((hst k k2).1 h').2⟩)]
    rfl

def Gone (s : ByteArray) (l : List S33) (k : Nat) : Prop := ∃ e ∈ l, begB (linesB s) e.f0.toNat ≤ k ∧ k < begB (linesB s) e.f1.toNat
theorem refKept_l0 {s : ByteArray} {l : List S33} {R : List S64 × Int} (h : Ref s l) (hfin : ∀ M, MarkOk M s.size (Gone s l) → Evs (fun k => regletref20_Kept.l2 k s M [] 0) R) (d : Nat) : ∀ (i : Nat) (M : List Bool), i + d = l.length → MarkOk M s.size (Gone s (l.take i)) →
    Evs (fun k => regletref20_Kept.l0 k s l (linesB s) M (i : Int)) R := by
  have hlen := h.len
  have hs := h.s1
  induction d with
  | zero =>
    intro i M hi hM
    rw [List.take_of_length_le (by omega)] at hM
    refine Evs.succ (Evs.congr (fun k => ?_) (hfin M hM))
    simp only [regletref20_Kept.l0]
    rw [if_neg (by omega)]
  | succ d ih =>
    intro i M hi hM
    have hil : i < l.length := by omega
    obtain ⟨a1, a2, a3, a4⟩ := h.at_ hil
    obtain ⟨b0, b1⟩ := h.begins hil
    have hm := begB_mono (linesB s) (show (l[i]).f0.toNat ≤ (l[i]).f1.toNat by omega)
    have hbs := begB_le_size s (l[i]).f1.toNat
    refine Evs.succ ?_
    simp only [regletref20_Kept.l0]
    have c1 : ((i : Int) < (l.length : Int)) := by omega
    have c2 : (0 : Int) ≤ (i : Int) := by omega
    simp only [if_pos c1, if_pos c2, rd33 l i hil]
    refine Evs.bind b0 (Evs.bind b1 ?_)
    refine refKept_l1 hs i (begB (linesB s) (l[i]).f1.toNat) hbs (by omega) (begB (linesB s) (l[i]).f1.toNat - begB (linesB s) (l[i]).f0.toNat) (begB (linesB s) (l[i]).f0.toNat) M (Gone s (l.take i)) (by omega) hM (fun M' hM' => ih (i + 1) M' (by omega) (hM'.iff fun k _ => ?_))
    rw [List.take_succ_eq_append_getElem hil]
    constructor
    · rintro (⟨e, he, hk⟩ | hk)
      · exact ⟨e, List.mem_append_left _ he, hk⟩
      · exact ⟨_, List.mem_append_right _ (List.mem_singleton.2 rfl), hk⟩
    · rintro ⟨e, he, hk⟩
      rcases List.mem_append.1 he with he | he
      · exact .inl ⟨e, he, hk⟩
      · obtain rfl := List.mem_singleton.1 he
        exact .inr hk
end Go.Proofs.Ytmecmmpgkcileaa.Z
