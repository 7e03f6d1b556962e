/- Plain laws of the second chapter-18 program's parts: what their loops come to. -/
import Derived.Test.YtmecmmpgkcileaaZ3
import Derived.Test.YtmecmmpgkcileaaZ5
import Derived.Test.YtmecmmpgkcileaaZ8
import Derived.Test.YtmecmmpgkcileaaPe0
namespace Go.Proofs.Ytmecmmpgkcileaa.Z
open Go.RowKit Go.Proofs.YtmecmmpgkcileaaW.PrintWords

/-! ### the lines -/
theorem split_nl (cur rest : List UInt8) (h : (10 : UInt8) ∉ cur) : splitL (cur ++ 10 :: rest) = (cur ++ [10]) :: splitL rest := by
  rw [split_some (i := cur.length) (by simp) (by simpa using h)]
  rw [List.take_append, List.drop_append, List.take_of_length_le (by omega), List.drop_of_length_le (by omega)]
  simp
theorem refLines_l0 (s : ByteArray) (hs : s.size < 8796093022208) (rest : List UInt8) :
    ∀ (pre cur : List UInt8) (acc : List ByteArray), s.data.toList = pre ++ cur ++ rest → (10 : UInt8) ∉ cur → acc.length ≤ pre.length →
      Evs (fun k => regletref18_Lines.l0 k s acc (pre.length : Int) ((pre.length + cur.length : Nat) : Int)) (acc ++ (splitL (cur ++ rest)).map mkB) := by
  induction rest with
  | nil =>
    intro pre cur acc hL hc ha
    have hlen : s.size = pre.length + cur.length := by rw [← size_toList, hL]; simp
    refine Evs.succ (Evs.congr (fun k => ?_) (Evs.ret _))
    simp only [regletref18_Lines.l0]
    rw [if_neg (by omega)]
    by_cases h : cur = []
    · subst h
      rw [if_neg (by simp at hlen; omega)]
      simp [splitL]
    · have : 0 < cur.length := List.length_pos_iff.2 h
      rw [if_pos (by omega), if_pos (by omega), if_pos (by omega), if_pos (by omega)]
      rw [List.append_nil, split_none h hc, Int.toNat_natCast]
      have : s.extract pre.length s.size = mkB cur := by
        rw [← mkB_of (s.extract pre.length s.size), extract_list, hL, List.take_of_length_le (by simp [hlen])]
        congr 1
        simp
      rw [this]; rfl
  | cons c rest ih =>
    intro pre cur acc hL hc ha
    have hlen : s.size = pre.length + cur.length + (rest.length + 1) := by rw [← size_toList, hL]; simp; omega
    have hb : bt s ((pre.length + cur.length : Nat) : Int) = (c.toNat : Int) := by
      rw [bt_at s _ (by rw [size_toList]; omega)]
      congr 2
      have : s.data.toList[pre.length + cur.length]? = some c := by
        rw [hL, List.getElem?_append_right (by simp)]; simp
      rw [List.getElem?_eq_getElem (by rw [size_toList]; omega)] at this
      injection this
    by_cases h10 : c = 10
    · subst h10
      have := ih (pre ++ (cur ++ [10])) [] (acc ++ [mkB (cur ++ [10])]) (by rw [hL]; simp) (by simp) (by simp; omega)
      refine Evs.succ (Evs.congr (fun k => ?_) (by simpa [split_nl cur rest hc] using this))
      simp only [regletref18_Lines.l0]
      rw [if_pos (by omega), if_pos (by omega), hb, if_pos (by rfl), if_pos (by omega), wrap_succ _ (by omega), if_pos (by omega), if_pos (by omega), if_pos (by omega)]
      simp only [Int.toNat_natCast]
      have e : s.extract pre.length (pre.length + cur.length + 1) = mkB (cur ++ [10]) := by
        rw [← mkB_of (s.extract pre.length _), extract_list, hL]
        congr 1
        rw [show pre ++ cur ++ 10 :: rest = (pre ++ cur ++ [10]) ++ rest by simp, List.take_append_of_le_length (by simp; omega), List.take_of_length_le (by simp; omega)]
        simp
      rw [e]
      simp [Nat.add_assoc]
    · have := ih pre (cur ++ [c]) acc (by rw [hL]; simp) (by simp [hc]; exact fun h => h10 h.symm) ha
      refine Evs.succ (Evs.congr (fun k => ?_) (by simpa using this))
      simp only [regletref18_Lines.l0]
      rw [if_pos (by omega), if_pos (by omega), hb, if_neg ?_, wrap_succ _ (by omega)]
      · simp [Nat.add_assoc]
      · intro e
        apply h10
        have : c.toNat = 10 := by omega
        exact UInt8.toNat_inj.1 this
theorem refLines (s : ByteArray) (hs : s.size < 8796093022208) : Evs (fun k => regletref18_Lines.f k s) (linesB s) := by
  have := refLines_l0 s hs s.data.toList [] [] [] rfl (by simp) (by simp)
  simpa [regletref18_Lines.f, linesB] using this

/-! ### join -/
theorem rdOf_at (x : List ByteArray) (i : Nat) (h : i < x.length) : rdOf ByteArray.empty x (i : Int) = x[i] := by
  unfold rdOf
  rw [Int.toNat_natCast, List.getD_eq_getElem?_getD, List.getElem?_eq_getElem h]; rfl
theorem catL_cons (a : ByteArray) (l : List ByteArray) : catL (a :: l) = a.data.toList ++ catL l := by simp [catL]
theorem refJoin_l0 (x : List ByteArray) (q : Nat) (hto : q ≤ x.length) (hx : x.length ≤ 4611686018427387904) (d : Nat) :
    ∀ (i : Nat) (acc : ByteArray), i + d = q → (acc.data.toList ++ catL ((x.take q).drop i)).length ≤ 9223372036854775807 →
      Evs (fun k => regletref18_join.l0 k x (q : Int) acc (i : Int)) (mkB (acc.data.toList ++ catL ((x.take q).drop i))) := by
  induction d with
  | zero =>
    intro i acc hi _
    refine Evs.succ (Evs.congr (fun k => ?_) (Evs.ret _))
    simp only [regletref18_join.l0]
    rw [if_neg (by omega), List.drop_of_length_le (by rw [List.length_take]; omega)]
    simp [catL, mkB_of]
  | succ d ih =>
    intro i acc hi hb
    have hlt : i < (x.take q).length := by rw [List.length_take]; omega
    have hd : (x.take q).drop i = x[i]'(by omega) :: (x.take q).drop (i + 1) := by
      rw [List.drop_eq_getElem_cons hlt]; simp
    rw [hd, catL_cons] at hb ⊢
    have := ih (i + 1) (acc ++ x[i]'(by omega)) (by omega) (by rw [app_list, List.append_assoc]; exact hb)
    rw [app_list, List.append_assoc] at this
    refine Evs.succ (Evs.congr (fun k => ?_) this)
    simp only [regletref18_join.l0]
    rw [if_pos (by omega), if_pos (by omega), if_pos (by omega), rdOf_at x i (by omega), if_pos ?_, wrap_succ _ (by omega)]
    rw [← size_toList, ← size_toList]
    simp only [List.length_append] at hb
    omega
theorem refJoin (x : List ByteArray) (a b : Int) (ha : 0 ≤ a) (hab : a ≤ b) (hb : b ≤ (x.length : Int)) (hx : x.length ≤ 4611686018427387904)
    (hsz : (catL ((x.take b.toNat).drop a.toNat)).length ≤ 9223372036854775807) :
    Evs (fun k => regletref18_join.f k x a b) (mkB (catL ((x.take b.toNat).drop a.toNat))) := by
  obtain ⟨i, rfl⟩ := Int.eq_ofNat_of_zero_le ha
  obtain ⟨j, rfl⟩ := Int.eq_ofNat_of_zero_le (Int.le_trans ha hab)
  have := refJoin_l0 x j (by omega) hx (j - i) i ⟨#[]⟩ (by omega) (by simpa using hsz)
  simpa [regletref18_join.f] using this

/-! ### Same -/
theorem refSame_refl (l : List S33) (hl : l.length ≤ 4611686018427387904) : Evs (fun k => regletref18_Same.f k l l) true := by
  refine Evs.congr (g := fun k => regletref18_Same.l0 k l l 0) (fun k => by unfold regletref18_Same.f; rw [if_pos rfl]) ?_
  have key : ∀ d i : Nat, i + d = l.length → Evs (fun k => regletref18_Same.l0 k l l (i : Int)) true := by
    intro d
    induction d with
    | zero =>
      intro i hi
      refine Evs.succ (Evs.congr (fun k => ?_) (Evs.ret _))
      simp only [regletref18_Same.l0]
      rw [if_neg (by omega)]
    | succ d ih =>
      intro i hi
      refine Evs.succ (Evs.congr (fun k => ?_) (ih (i + 1) (by omega)))
      simp only [regletref18_Same.l0]
      rw [if_pos (by omega), if_pos (by omega), if_pos (by omega), if_neg (by simp), wrap_succ _ (by omega)]
  exact key l.length 0 (by omega)

/-! ### Fit -/
theorem refWhole (s : ByteArray) (hs : s.size ≤ 9223372036854775807) : regletref18_whole.f s = some (wholeB s) := by
  unfold regletref18_whole.f
  by_cases h : s.size = 0
  · rw [if_pos (by omega)]
    have : s.data.toList = [] := List.length_eq_zero_iff.1 (by rw [size_toList]; exact h)
    simp [wholeB, wholeL, this]
  · have h0 : 0 < s.size := by omega
    rw [if_neg (by omega), wrap_pred _ h0 hs, if_pos (by omega), if_pos (by omega)]
    have hne : s.data.toList ≠ [] := by intro e; rw [← size_toList, e] at h; simp at h
    rw [bt_at s _ (by rw [size_toList]; omega)]
    unfold wholeB wholeL
    rw [List.getLast?_eq_some_getLast hne, List.getLast_eq_getElem]
    have e : s.data.toList[s.size - 1]'(by rw [size_toList]; omega) = s.data.toList[s.data.toList.length - 1]'(by rw [size_toList]; omega) := rfl
    rw [e]
    generalize s.data.toList[s.data.toList.length - 1]'(by rw [size_toList]; omega) = c
    congr 1
    rw [Bool.eq_iff_iff]
    simp only [beq_iff_eq]
    constructor
    · intro h
      have : c.toNat = 10 := by omega
      exact UInt8.toNat_inj.1 this
    · rintro rfl; rfl

/-- What the second program asks of an edit: behind the edit ahead of it. -/
def prevTo (l : List S33) (i : Nat) : Int := if i = 0 then -1 else (rd_T33 l ((i - 1 : Nat) : Int)).f1
theorem refFit_l0 (x : List ByteArray) (l : List S33) (hx : x.length ≤ 4611686018427387904) (hl : l.length ≤ 4611686018427387904)
    (hxs : ∀ s ∈ x, s.size ≤ 9223372036854775807) (hls : ∀ e ∈ l, e.f2.size ≤ 9223372036854775807) (d : Nat) :
    ∀ (i : Nat), i + d = l.length → -1 ≤ prevTo l i → Evs (fun k => regletref18_Fit.l0 k x l (i : Int)) (fitFrom x (prevTo l i) (l.drop i)) := by
  induction d with
  | zero =>
    intro i hi _
    refine Evs.succ (Evs.congr (fun k => ?_) (Evs.ret _))
    simp only [regletref18_Fit.l0]
    rw [if_neg (by omega), List.drop_of_length_le (by omega)]
    rfl
  | succ d ih =>
    intro i hi hp
    have hlt : i < l.length := by omega
    rw [List.drop_eq_getElem_cons hlt]
    have hnext : prevTo l (i + 1) = (l[i]).f1 := by
      unfold prevTo
      rw [if_neg (by omega), Nat.add_sub_cancel, rd33 l i hlt]
    have hmem : l[i] ∈ l := List.getElem_mem hlt
    have hw := hls _ hmem
    have hrec := ih (i + 1) (by omega)
    rw [hnext] at hrec
    generalize hrest : l.drop (i + 1) = rest at hrec ⊢
    -- the last test
    have hj1 : ∀ b : Bool, (b = false → -1 ≤ (l[i]).f1) → Evs (fun k => regletref18_Fit.j1 k x l (i : Int) b (l[i]).f0 (l[i]).f1 (l[i]).f2)
        (!b && (!(decide ((l[i]).f1 < (x.length : Int)) && !wholeB (l[i]).f2) && (!(decide ((l[i]).f0 = (x.length : Int)) && decide (0 < x.length) && !wholeB (x.getD (x.length - 1) ByteArray.empty)) && fitFrom x (l[i]).f1 rest))) := by
      intro b hbf
      cases b with
      | true =>
        refine Evs.succ (Evs.congr (fun k => ?_) (Evs.ret _))
        simp only [regletref18_Fit.j1]
        simp
      | false =>
        have hr := hrec (hbf rfl)
        generalize l[i] = e at hw hr ⊢
        obtain ⟨f, t, s⟩ := e
        simp only at hw hr ⊢
        have hlast : Evs (fun k => (if f = (x.length : Int) then (if (x.length : Int) > 0 then (if 0 ≤ (wrap64 ((x.length : Int) - 1)) then (if (wrap64 ((x.length : Int) - 1)) < (x.length : Int) then ((regletref18_whole.f (rdOf ByteArray.empty x (wrap64 ((x.length : Int) - 1)))).bind fun t166 => (if t166 = true then (regletref18_Fit.l0 k x l (wrap64 ((i : Int) + 1))) else (some false))) else (none)) else (none)) else (regletref18_Fit.l0 k x l (wrap64 ((i : Int) + 1)))) else (regletref18_Fit.l0 k x l (wrap64 ((i : Int) + 1)))))
            (!(decide (f = (x.length : Int)) && decide (0 < x.length) && !wholeB (x.getD (x.length - 1) ByteArray.empty)) && fitFrom x t rest) := by
          rw [wrap_succ i (by omega)]
          by_cases h1 : f = (x.length : Int)
          · simp only [if_pos h1]
            by_cases h2 : (x.length : Int) > 0
            · have h2' : 0 < x.length := by omega
              simp only [if_pos h2]
              rw [wrap_pred _ h2' (by omega)]
              have e3 : rdOf ByteArray.empty x ((x.length - 1 : Nat) : Int) = x.getD (x.length - 1) ByteArray.empty := by
                unfold rdOf; rw [Int.toNat_natCast]
              have hm : (x.getD (x.length - 1) ByteArray.empty).size ≤ 9223372036854775807 := by
                rw [List.getD_eq_getElem?_getD, List.getElem?_eq_getElem (by omega)]
                exact hxs _ (List.getElem_mem _)
              have e4 : (0 : Int) ≤ ((x.length - 1 : Nat) : Int) := by omega
              have e5 : ((x.length - 1 : Nat) : Int) < (x.length : Int) := by omega
              simp only [if_pos e4, if_pos e5, e3, refWhole _ hm, Option.bind_some]
              by_cases h3 : wholeB (x.getD (x.length - 1) ByteArray.empty) = true
              · simp only [h3, Bool.not_true, Bool.and_false, Bool.not_false, Bool.true_and]
                exact hr
              · simp only [if_neg h3]
                simp only [Bool.not_eq_true] at h3
                simp only [h1, h2', h3, decide_true, Bool.not_false, Bool.and_true, Bool.not_true, Bool.false_and]
                exact Evs.ret false
            · simp only [if_neg h2]
              have h2' : ¬ 0 < x.length := by omega
              simpa [h2'] using hr
          · simp only [if_neg h1]
            simpa [h1] using hr
        refine Evs.succ ?_
        simp only [regletref18_Fit.j1]
        simp only [Bool.false_eq_true, if_false]
        by_cases h3 : t < (x.length : Int)
        · simp only [if_pos h3, refWhole _ hw, Option.bind_some]
          by_cases h4 : wholeB s = true
          · simp only [if_pos h4]
            simpa [h3, h4] using hlast
          · simp only [if_neg h4]
            simp only [Bool.not_eq_true] at h4
            simpa [h3, h4] using Evs.ret false
        · simp only [if_neg h3]
          simpa [h3] using hlast
    have hprev : ∀ k, (if (i : Int) > 0 then (if 0 ≤ (wrap64 ((i : Int) - 1)) then (if (wrap64 ((i : Int) - 1)) < (l.length : Int) then (regletref18_Fit.j1 k x l (i : Int) (decide ((l[i]).f0 ≤ ((rd_T33 l (wrap64 ((i : Int) - 1))).f1))) ((l[i]).f0) ((l[i]).f1) ((l[i]).f2)) else (none)) else (none)) else (regletref18_Fit.j1 k x l (i : Int) false ((l[i]).f0) ((l[i]).f1) ((l[i]).f2))) =
        regletref18_Fit.j1 k x l (i : Int) (decide (0 < i) && decide ((l[i]).f0 ≤ prevTo l i)) ((l[i]).f0) ((l[i]).f1) ((l[i]).f2) := by
      intro k
      by_cases h0 : 0 < i
      · rw [if_pos (by omega), wrap_pred _ h0 (by omega), if_pos (by omega), if_pos (by omega)]
        unfold prevTo
        rw [if_neg (by omega)]
        simp [h0]
      · rw [if_neg (by omega)]
        simp [h0]
    refine Evs.succ ?_
    simp only [regletref18_Fit.l0]
    have c1 : ((i : Int) < (l.length : Int)) := by omega
    have c2 : (0 : Int) ≤ (i : Int) := by omega
    simp only [if_pos c1, if_pos c2, rd33 l i hlt]
    simp only [hprev]
    have h0i : i = 0 → prevTo l i = -1 := by intro e; unfold prevTo; rw [if_pos e]
    generalize prevTo l i = last at hp h0i ⊢
    unfold fitFrom
    by_cases n1 : (l[i]).f0 < 0
    · simp only [if_pos n1]
      have : (l[i]).f0 ≤ last := by omega
      simpa [this] using hj1 true (by simp)
    · simp only [if_neg n1]
      by_cases n2 : (l[i]).f1 < (l[i]).f0
      · simp only [if_pos n2]
        simpa [n2] using hj1 true (by simp)
      · simp only [if_neg n2]
        by_cases n3 : (l[i]).f1 > (x.length : Int)
        · simp only [if_pos n3]
          have : (x.length : Int) < (l[i]).f1 := by omega
          simpa [this] using hj1 true (by simp)
        · simp only [if_neg n3]
          have n3' : ¬ (x.length : Int) < (l[i]).f1 := by omega
          have nb : (decide (0 < i) && decide ((l[i]).f0 ≤ last)) = decide ((l[i]).f0 ≤ last) := by
            by_cases h0 : 0 < i
            · simp [h0]
            · have := h0i (by omega)
              have : ¬ (l[i]).f0 ≤ last := by omega
              simp [this]
          rw [nb]
          have hj := hj1 (decide ((l[i]).f0 ≤ last)) (by intro _; omega)
          by_cases n4 : (l[i]).f0 = (l[i]).f1
          · simp only [if_pos n4, Lib.toList_data]
            by_cases n5 : (l[i]).f2.data.toList = []
            · simp only [if_pos n5]
              have := hj1 true (by simp)
              simp only [Bool.not_true, Bool.false_and] at this
              simpa [n4, n5] using this
            · simp only [if_neg n5]
              simpa [n2, n3', n4, n5, Bool.and_assoc] using hj
          · simp only [if_neg n4]
            simpa [n2, n3', n4, Bool.and_assoc] using hj
theorem refFit (x : List ByteArray) (l : List S33) (hx : x.length ≤ 4611686018427387904) (hl : l.length ≤ 4611686018427387904)
    (hxs : ∀ s ∈ x, s.size ≤ 9223372036854775807) (hls : ∀ e ∈ l, e.f2.size ≤ 9223372036854775807) : Evs (fun k => regletref18_Fit.f k x l) (fitB x l) := by
  have := refFit_l0 x l hx hl hxs hls l.length 0 (by omega) (by simp [prevTo])
  simpa [regletref18_Fit.f, fitB, prevTo] using this
end Go.Proofs.Ytmecmmpgkcileaa.Z
