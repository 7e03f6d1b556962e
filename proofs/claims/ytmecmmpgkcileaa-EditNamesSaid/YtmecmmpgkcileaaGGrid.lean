/- A grid of numbers in the heap: an outer row of rows, each row a block of its own, made from the last one down to the first. And the plain table of longest common rows of lines. -/
import Derived.Test.YtmecmmpgkcileaaZ0
namespace Go.Proofs.Ytmecmmpgkcileaa.Z
open Go.RowKit Go.Proofs.YtmecmmpgkcileaaW.PrintWords Go.Proofs.YtmecmmpgkcileaaW.PrintLast Go.Proofs.YtmecmmpgkcileaaW.PrintMore

/-! ### The table -/
def sameB (a b : ByteArray) : Bool := a.data.toList == b.data.toList
theorem sameB_iff (a b : ByteArray) : sameB a b = true ↔ a = b := by
  unfold sameB
  rw [beq_iff_eq]
  constructor
  · intro h; cases a; cases b; simp only at h; rw [Array.toList_inj.1 h]
  · intro h; rw [h]

def lcsRow (a : ByteArray) (prev : List ByteArray → Nat) : List ByteArray → Nat
  | [] => 0
  | b :: y => if sameB a b = true then prev y + 1 else max (prev (b :: y)) (lcsRow a prev y)
/-- The most lines that two texts have in the same order. -/
def lcs : List ByteArray → List ByteArray → Nat
  | [] => fun _ => 0
  | a :: x => lcsRow a (lcs x)
theorem lcs_nil_left (y : List ByteArray) : lcs [] y = 0 := rfl
theorem lcs_nil_right (x : List ByteArray) : lcs x [] = 0 := by cases x <;> rfl
theorem lcs_cons (a b : ByteArray) (x y : List ByteArray) : lcs (a :: x) (b :: y) = if sameB a b = true then lcs x y + 1 else max (lcs x (b :: y)) (lcs (a :: x) y) := rfl
theorem lcs_le (x : List ByteArray) : ∀ y : List ByteArray, lcs x y ≤ x.length := by
  induction x with
  | nil => intro y; exact Nat.le_refl _
  | cons a x ih =>
    intro y
    induction y with
    | nil => rw [lcs_nil_right]; omega
    | cons b y ihy =>
      rw [lcs_cons]
      have h1 := ih y
      have h2 := ih (b :: y)
      simp only [List.length_cons] at ihy ⊢
      split <;> omega
/-- The table's place. -/
def tabT (x y : List ByteArray) (i j : Nat) : Int := (lcs (x.drop i) (y.drop j) : Int)
theorem tabT_le (x y : List ByteArray) (i j : Nat) : 0 ≤ tabT x y i j ∧ tabT x y i j ≤ (x.length : Int) := by
  have h := lcs_le (x.drop i) (y.drop j)
  rw [List.length_drop] at h
  unfold tabT
  omega
theorem tabT_last (x y : List ByteArray) (j : Nat) : tabT x y x.length j = 0 := by unfold tabT; rw [List.drop_length]; rfl
theorem tabT_end (x y : List ByteArray) (i : Nat) : tabT x y i y.length = 0 := by unfold tabT; rw [List.drop_length, lcs_nil_right]; rfl
theorem tabT_same {x y : List ByteArray} {i j : Nat} (hi : i < x.length) (hj : j < y.length) (h : sameB x[i] y[j] = true) : tabT x y i j = tabT x y (i + 1) (j + 1) + 1 := by
  unfold tabT
  rw [List.drop_eq_getElem_cons hi, List.drop_eq_getElem_cons hj, lcs_cons, if_pos h]
  rfl
theorem tabT_else {x y : List ByteArray} {i j : Nat} (hi : i < x.length) (hj : j < y.length) (h : sameB x[i] y[j] = false) : tabT x y i j = max (tabT x y (i + 1) j) (tabT x y i (j + 1)) := by
  unfold tabT
  rw [List.drop_eq_getElem_cons hi, List.drop_eq_getElem_cons hj, lcs_cons, if_neg (by rw [h]; simp)]
  omega

/-! ### The grid -/
/-- A row of numbers that is there from lo on. -/
def RowAt (W : World) (b m lo : Nat) (T : Nat → Int) : Prop := ∃ cs : Array Value, W.heap[b]? = some (.cells cs 3 (0, 0)) ∧ cs.size = m + 1 ∧ ∀ c, lo ≤ c → c ≤ m → cs[c]? = some (.int .i64 (T c))
/-- The outer row: its places from i on hold their rows. -/
def OuterAt (W : World) (b n m i : Nat) : Prop := ∃ cs : Array Value, W.heap[b]? = some (.cells cs 80 (0, 0)) ∧ cs.size = n + 1 ∧ ∀ r, i ≤ r → r ≤ n → cs[r]? = some (.slice (some ⟨b + 1 + (n - r), 0, none⟩) (m + 1) (m + 1))
structure Grid (W : World) (b n m i j : Nat) (T : Nat → Nat → Int) : Prop where
  outer : OuterAt W b n m i
  rows : ∀ r, i < r → r ≤ n → RowAt W (b + 1 + (n - r)) m 0 (T r)
  row : RowAt W (b + 1 + (n - i)) m j (T i)

theorem RowAt.keep {W W' : World} {b m lo : Nat} {T : Nat → Int} (h : RowAt W b m lo T) (hb : W'.heap[b]? = W.heap[b]?) : RowAt W' b m lo T := by
  obtain ⟨cs, h1, h2, h3⟩ := h
  exact ⟨cs, hb.trans h1, h2, h3⟩
theorem RowAt.cell {W : World} {b m lo : Nat} {T : Nat → Int} (h : RowAt W b m lo T) {c : Nat} (h1 : lo ≤ c) (h2 : c ≤ m) : W.cell? ⟨b, c, none⟩ = some (.int .i64 (T c)) := by
  obtain ⟨cs, g1, _, g3⟩ := h
  rw [blk_cell g1]; exact g3 c h1 h2
theorem RowAt.frozen {W : World} {b m lo : Nat} {T : Nat → Int} (h : RowAt W b m lo T) (c : Nat) : W.frozen? ⟨b, c, none⟩ = false := by
  obtain ⟨cs, g1, _, g3⟩ := h
  exact blk_frozen g1 c
theorem RowAt.lt {W : World} {b m lo : Nat} {T : Nat → Int} (h : RowAt W b m lo T) : b < W.heap.size := by
  obtain ⟨cs, g1, _, _⟩ := h
  exact blk_lt g1
theorem RowAt.there {W : World} {b m lo : Nat} {T : Nat → Int} (h : RowAt W b m lo T) {c : Nat} (h2 : c ≤ m) : ∃ v, W.cell? ⟨b, c, none⟩ = some v := by
  obtain ⟨cs, g1, g2, _⟩ := h
  rw [blk_cell g1]; exact ⟨cs[c]'(by omega), Array.getElem?_eq_getElem (by omega)⟩
theorem RowAt.put {W : World} {b m j : Nat} {T : Nat → Int} (h : RowAt W b m (j + 1) T) (hj : j ≤ m) {u : Int} (hu : u = T j) : RowAt (W.setCell ⟨b, j, none⟩ (.int .i64 u)) b m j T := by
  obtain ⟨cs, g1, g2, g3⟩ := h
  refine ⟨_, blk_set g1 j _, by simp [g2], fun c h1 h2 => ?_⟩
  rw [Array.getElem?_setIfInBounds]
  by_cases e : j = c
  · subst e; subst hu; rw [if_pos rfl, if_pos (by omega)]
  · rw [if_neg e]; exact g3 c (by omega) h2
theorem RowAt.zeros (W : World) (m lo : Nat) (T : Nat → Int) (hT : ∀ c, lo ≤ c → c ≤ m → T c = 0) : RowAt (W.alloc (.cells (madeCells #[.int .i64 0] (m + 1)) 3)) W.heap.size m lo T := by
  obtain ⟨cs, g1, g2, g3⟩ := World.rowIs_made W (.int .i64 0) (m + 1) 3
  refine ⟨cs, g1, g2, fun c h1 h2 => ?_⟩
  rw [g3 c (by omega), hT c h1 h2]
theorem RowAt.far {W : World} {b m lo : Nat} {T : Nat → Int} (h : RowAt W b m lo T) {p : Addr} (hp : b ≠ p.block) (u : Value) : RowAt (W.setCell p u) b m lo T :=
  h.keep (Below.heap_setCell W p u b hp)
theorem RowAt.alloc {W : World} {b m lo : Nat} {T : Nat → Int} (h : RowAt W b m lo T) (o : Obj) : RowAt (W.alloc o) b m lo T := h.keep (Below.heap_alloc W o b h.lt)

theorem OuterAt.lt {W : World} {b n m i : Nat} (h : OuterAt W b n m i) : b < W.heap.size := by
  obtain ⟨cs, g1, _, _⟩ := h
  exact blk_lt g1
theorem OuterAt.cell {W : World} {b n m i : Nat} (h : OuterAt W b n m i) {r : Nat} (h1 : i ≤ r) (h2 : r ≤ n) : W.cell? ⟨b, r, none⟩ = some (.slice (some ⟨b + 1 + (n - r), 0, none⟩) (m + 1) (m + 1)) := by
  obtain ⟨cs, g1, _, g3⟩ := h
  rw [blk_cell g1]; exact g3 r h1 h2
theorem OuterAt.there {W : World} {b n m i : Nat} (h : OuterAt W b n m i) {r : Nat} (h2 : r ≤ n) : ∃ v, W.cell? ⟨b, r, none⟩ = some v := by
  obtain ⟨cs, g1, g2, _⟩ := h
  rw [blk_cell g1]; exact ⟨cs[r]'(by omega), Array.getElem?_eq_getElem (by omega)⟩
theorem OuterAt.frozen {W : World} {b n m i : Nat} (h : OuterAt W b n m i) (r : Nat) : W.frozen? ⟨b, r, none⟩ = false := by
  obtain ⟨cs, g1, _, _⟩ := h
  exact blk_frozen g1 r
theorem OuterAt.keep {W W' : World} {b n m i : Nat} (h : OuterAt W b n m i) (hb : W'.heap[b]? = W.heap[b]?) : OuterAt W' b n m i := by
  obtain ⟨cs, g1, g2, g3⟩ := h
  exact ⟨cs, hb.trans g1, g2, g3⟩
theorem OuterAt.alloc {W : World} {b n m i : Nat} (h : OuterAt W b n m i) (o : Obj) : OuterAt (W.alloc o) b n m i := h.keep (Below.heap_alloc W o b h.lt)
theorem OuterAt.put {W : World} {b n m i : Nat} (h : OuterAt W b n m (i + 1)) (hi : i ≤ n) {k : Nat} (hk : k = b + 1 + (n - i)) : OuterAt (W.setCell ⟨b, i, none⟩ (.slice (some ⟨k, 0, none⟩) (m + 1) (m + 1))) b n m i := by
  obtain ⟨cs, g1, g2, g3⟩ := h
  subst hk
  refine ⟨_, blk_set g1 i _, by simp [g2], fun r h1 h2 => ?_⟩
  rw [Array.getElem?_setIfInBounds]
  by_cases e : i = r
  · subst e; rw [if_pos rfl, if_pos (by omega)]
  · rw [if_neg e]; exact g3 r (by omega) h2
theorem OuterAt.made (W : World) (n m : Nat) : OuterAt (W.alloc (.cells (madeCells #[.slice none 0 0] (n + 1)) 80)) W.heap.size n m (n + 1) := by
  obtain ⟨cs, g1, g2, _⟩ := World.rowIs_made W (.slice none 0 0) (n + 1) 80
  exact ⟨cs, g1, g2, fun r h1 h2 => absurd h1 (by omega)⟩
theorem OuterAt.far {W : World} {b n m i : Nat} (h : OuterAt W b n m i) {p : Addr} (hp : b ≠ p.block) (u : Value) : OuterAt (W.setCell p u) b n m i :=
  h.keep (Below.heap_setCell W p u b hp)

theorem Grid.keep {W W' : World} {b n m i j : Nat} {T : Nat → Nat → Int} (h : Grid W b n m i j T) (hb : ∀ k, b ≤ k → k ≤ b + 1 + n → W'.heap[k]? = W.heap[k]?) : Grid W' b n m i j T :=
  ⟨h.outer.keep (hb b (Nat.le_refl _) (by omega)), fun r h1 h2 => (h.rows r h1 h2).keep (hb _ (by omega) (by omega)), h.row.keep (hb _ (by omega) (by omega))⟩
/-- The last row: zeros. -/
theorem Grid.start (W : World) (n m : Nat) {T : Nat → Nat → Int} (hT : ∀ c, T n c = 0) :
    Grid (((W.alloc (.cells (madeCells #[.slice none 0 0] (n + 1)) 80)).alloc (.cells (madeCells #[.int .i64 0] (m + 1)) 3)).setCell ⟨W.heap.size, n, none⟩ (.slice (some ⟨W.heap.size + 1, 0, none⟩) (m + 1) (m + 1))) W.heap.size n m n 0 T := by
  have h1 := RowAt.zeros (W.alloc (.cells (madeCells #[.slice none 0 0] (n + 1)) 80)) m 0 (T n) (fun c _ _ => hT c)
  rw [World.size_alloc] at h1
  refine ⟨((OuterAt.made W n m).alloc _).put (Nat.le_refl _) (by omega), fun r h2 h3 => absurd h2 (by omega), ?_⟩
  rw [show W.heap.size + 1 + (n - n) = W.heap.size + 1 by omega]
  exact h1.far (by show W.heap.size + 1 ≠ W.heap.size; omega) _
/-- A new row. -/
theorem Grid.next {W : World} {b n m i : Nat} {T : Nat → Nat → Int} (h : Grid W b n m (i + 1) 0 T) (hi : i < n) (hs : W.heap.size = b + 1 + (n - i)) (hT : T i m = 0) :
    Grid ((W.alloc (.cells (madeCells #[.int .i64 0] (m + 1)) 3)).setCell ⟨b, i, none⟩ (.slice (some ⟨W.heap.size, 0, none⟩) (m + 1) (m + 1))) b n m i m T := by
  have h1 := RowAt.zeros W m m (T i) (fun c h2 h3 => by have : c = m := by omega
                                                        subst this; exact hT)
  have hlt := h.outer.lt
  refine ⟨(h.outer.alloc _).put (by omega) hs, fun r h2 h3 => ?_, ?_⟩
  · by_cases e : r = i + 1
    · subst e; exact (h.row.alloc _).far (by show b + 1 + (n - (i + 1)) ≠ b; omega) _
    · exact ((h.rows r (by omega) h3).alloc _).far (by show b + 1 + (n - r) ≠ b; omega) _
  · rw [← hs]; exact h1.far (by show W.heap.size ≠ b; omega) _
/-- A number. -/
theorem Grid.put {W : World} {b n m i j : Nat} {T : Nat → Nat → Int} (h : Grid W b n m i (j + 1) T) (hi : i ≤ n) (hj : j ≤ m) {u : Int} (hu : u = T i j) {k : Nat} (hk : k = b + 1 + (n - i)) :
    Grid (W.setCell ⟨k, j, none⟩ (.int .i64 u)) b n m i j T := by
  subst hk
  exact ⟨h.outer.far (by show b ≠ b + 1 + (n - i); omega) _, fun r h1 h2 => (h.rows r h1 h2).far (by show b + 1 + (n - r) ≠ b + 1 + (n - i); omega) _, h.row.put hj hu⟩
theorem Grid.drewN {W : World} {b n m i j : Nat} {T : Nat → Nat → Int} (h : Grid W b n m i j T) (q : Nat) : Grid (W.drewN q) b n m i j T := h.keep (fun _ _ _ => rfl)
theorem Grid.drew {W : World} {b n m i j : Nat} {T : Nat → Nat → Int} (h : Grid W b n m i j T) : Grid W.drew b n m i j T := h.keep (fun _ _ _ => rfl)
/-- The row under way, or one behind it. -/
theorem Grid.at {W : World} {b n m i : Nat} {T : Nat → Nat → Int} (h : Grid W b n m i 0 T) {r c : Nat} (h1 : i ≤ r) (h2 : r ≤ n) (h3 : c ≤ m) : W.cell? ⟨b + 1 + (n - r), c, none⟩ = some (.int .i64 (T r c)) := by
  by_cases e : r = i
  · subst e; exact h.row.cell (Nat.zero_le _) h3
  · exact (h.rows r (by omega) h2).cell (Nat.zero_le _) h3
end Go.Proofs.Ytmecmmpgkcileaa.Z
