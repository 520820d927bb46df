/- Plain: lists by whole numbers, repeats, the round of the check, slack. -/
import Derived.Test.YtakehdnblmonlaaX6
import Derived.Test.YtakehdnblmonlaaDD
import Derived.KernelRfl
set_option linter.unusedVariables false
set_option linter.unusedSimpArgs false
namespace Go.Proofs.Ytakehdnblmonlaa
open Go.RowKit Go.Fp

/- ---- lists by whole numbers ---- -/
def av (l : List Int) (v : Int) : Int := l.getD v.toNat 0
def bv (l : List Bool) (v : Int) : Bool := l.getD v.toNat false
theorem idx_av {l : List Int} {v : Int} (h0 : 0 ≤ v) (h : v < (l.length : Int)) : idx l v = some (av l v) := by
  unfold idx av
  rw [if_pos h0, List.getD_eq_getElem?_getD, List.getElem?_eq_getElem (by omega)]
  rfl
theorem idx_bv {l : List Bool} {v : Int} (h0 : 0 ≤ v) (h : v < (l.length : Int)) : idx l v = some (bv l v) := by
  unfold idx bv
  rw [if_pos h0, List.getD_eq_getElem?_getD, List.getElem?_eq_getElem (by omega)]
  rfl
theorem av_put {l : List Int} {v x : Int} (h0 : 0 ≤ v) (h : v < (l.length : Int)) {u : Int} (hu : 0 ≤ u) : av (put l v x) u = if u = v then x else av l u := by
  unfold av put
  rw [List.getD_eq_getElem?_getD, List.getD_eq_getElem?_getD]
  by_cases e : u = v
  · subst e
    rw [if_pos rfl, List.getElem?_set_self (by omega)]
    rfl
  · rw [if_neg e, List.getElem?_set_ne (by omega)]
theorem bv_put {l : List Bool} {v : Int} {x : Bool} (h0 : 0 ≤ v) (h : v < (l.length : Int)) {u : Int} (hu : 0 ≤ u) : bv (put l v x) u = if u = v then x else bv l u := by
  unfold bv put
  rw [List.getD_eq_getElem?_getD, List.getD_eq_getElem?_getD]
  by_cases e : u = v
  · subst e
    rw [if_pos rfl, List.getElem?_set_self (by omega)]
    rfl
  · rw [if_neg e, List.getElem?_set_ne (by omega)]
theorem av_rep {n : Nat} {x v : Int} (h0 : 0 ≤ v) (h : v < (n : Int)) : av (List.replicate n x) v = x := by
  unfold av
  rw [List.getD_eq_getElem?_getD, List.getElem?_replicate, if_pos (by omega)]
  rfl
theorem bv_rep {n : Nat} {x : Bool} {v : Int} (h0 : 0 ≤ v) (h : v < (n : Int)) : bv (List.replicate n x) v = x := by
  unfold bv
  rw [List.getD_eq_getElem?_getD, List.getElem?_replicate, if_pos (by omega)]
  rfl
theorem av_mem {l : List Int} {v : Int} (h0 : 0 ≤ v) (h : v < (l.length : Int)) : av l v ∈ l := by
  unfold av
  rw [List.getD_eq_getElem?_getD, List.getElem?_eq_getElem (by omega)]
  exact List.getElem_mem _
theorem av_of_mem {l : List Int} {x : Int} (h : x ∈ l) : ∃ v : Int, 0 ≤ v ∧ v < (l.length : Int) ∧ av l v = x := by
  obtain ⟨i, hi, rfl⟩ := List.getElem_of_mem h
  refine ⟨(i : Int), by omega, by omega, ?_⟩
  unfold av
  rw [Int.toNat_natCast, List.getD_eq_getElem?_getD, List.getElem?_eq_getElem hi]
  rfl
theorem link_at {α : Type} {l : List α} {k : Nat} (h : k < l.length) : ∃ x, idx l (k : Int) = some x ∧ l[k]? = some x ∧ x ∈ l := ⟨l[k], idx_lt h, List.getElem?_eq_getElem h, List.getElem_mem h⟩
/-- Sums of natural numbers over a list. -/
def sumN {α : Type} (f : α → Nat) (l : List α) : Nat := (l.map f).sum
theorem sumN_set {α : Type} (f : α → Nat) : ∀ (l : List α) (i : Nat) (x y : α), l[i]? = some y → sumN f (l.set i x) + f y = sumN f l + f x
  | [], _, _, _, h => by cases h
  | a :: l, 0, x, y, h => by
    injection h with h
    subst h
    show (f x + sumN f l) + f a = (f a + sumN f l) + f x
    omega
  | a :: l, i + 1, x, y, h => by
    have := sumN_set f l i x y h
    show (f a + sumN f (l.set i x)) + f y = (f a + sumN f l) + f x
    omega
theorem sumN_put (f : Int → Nat) {l : List Int} {v : Int} (h0 : 0 ≤ v) (h : v < (l.length : Int)) (x : Int) : sumN f (put l v x) + f (av l v) = sumN f l + f x := by
  refine sumN_set f l v.toNat x _ ?_
  unfold av
  rw [List.getD_eq_getElem?_getD, List.getElem?_eq_getElem (by omega)]
  rfl
theorem sumN_le {α : Type} (f : α → Nat) (c : Nat) : ∀ (l : List α), (∀ x ∈ l, f x ≤ c) → sumN f l ≤ l.length * c
  | [], _ => Nat.zero_le _
  | a :: l, h => by
    have h1 := sumN_le f c l (fun x hx => h x (List.mem_cons_of_mem _ hx))
    have h2 := h a List.mem_cons_self
    show f a + sumN f l ≤ (l.length + 1) * c
    rw [Nat.add_mul]
    omega
/- ---- repeats ---- -/
theorem mul_all : ∀ n : Fin 9, mBitsMul (IntKind.wrap .u64 1) (IntKind.wrap .u64 (n.val : Int)) = some (0, (n.val : Int)) := by decide +kernel
theorem mul_small {n : Nat} (h : n ≤ 8) : mBitsMul (IntKind.wrap .u64 1) (IntKind.wrap .u64 (n : Int)) = some (0, (n : Int)) := mul_all ⟨n, by omega⟩
theorem wrap_all : ∀ n : Fin 9, IntKind.wrap .i64 (n.val : Int) = (n.val : Int) := by decide +kernel
theorem wrap_small {n : Nat} (h : n ≤ 8) : IntKind.wrap .i64 (n : Int) = (n : Int) := wrap_all ⟨n, by omega⟩
theorem take_rep (x y : Int) (a c k : Nat) (h : k ≤ a) : (List.replicate a x ++ List.replicate c y).take k = List.replicate k x := by
  rw [List.take_append_of_le_length (by rw [List.length_replicate]; exact h), List.take_replicate, Nat.min_eq_left h]
theorem drop_rep (x y : Int) (a c k : Nat) (h : a ≤ k) : (List.replicate a x ++ List.replicate c y).drop k = List.replicate (c - (k - a)) y := by
  obtain ⟨d, rfl⟩ : ∃ d, k = a + d := ⟨k - a, by omega⟩
  have := List.drop_length_add_append (l₁ := List.replicate a x) (l₂ := List.replicate c y) (i := d)
  rw [List.length_replicate] at this
  rw [this, List.drop_replicate]
  congr 1
  omega
theorem cpy_rep (x y : Int) {n a m : Nat} (ha : a ≤ n) : cpyI (List.replicate a x ++ List.replicate (n - a) y) (a : Int) (n : Int) (List.replicate m x) = List.replicate (a + min m (n - a)) x ++ List.replicate (n - (a + min m (n - a))) y := by
  unfold cpyI cpy
  rw [Int.toNat_natCast, Int.toNat_natCast, take_rep x y a (n - a) a (Nat.le_refl _), List.take_replicate, List.length_replicate, drop_rep x y a (n - a) _ (by omega)]
  rw [List.replicate_append_replicate, Nat.min_comm (n - a) m]
  congr 2
  omega
theorem repeat_eq (x : Int) {n : Nat} (h : n ≤ 8) : mSlicesRepeat [x] (n : Int) = some (List.replicate n x) := by
  unfold mSlicesRepeat
  rw [if_neg (by omega)]
  show (mBitsMul (IntKind.wrap .u64 1) (IntKind.wrap .u64 (n : Int))).bind _ = _
  rw [mul_small h, Option.bind_some]
  simp only [unc2]
  rw [if_neg (by decide), Option.bind_some, decide_eq_false (by omega), if_neg (by decide), wrap_small h, mkLen_ok (by omega) (by omega), Option.bind_some]
  have e1 : cpyN 0 ((List.replicate n (0 : Int)).length : Int) [x] = ((min 1 n : Nat) : Int) := by
    unfold cpyN
    rw [List.length_replicate, Int.toNat_natCast]
    rfl
  have e2 : cpyI (List.replicate n (0 : Int)) 0 ((List.replicate n (0 : Int)).length : Int) [x] = List.replicate (min 1 n) x ++ List.replicate (n - min 1 n) 0 := by
    have := cpy_rep x 0 (n := n) (a := 0) (m := 1) (Nat.zero_le _)
    simp only [List.replicate_zero, List.nil_append, Nat.sub_zero, Nat.zero_add] at this
    rw [List.length_replicate]
    exact this
  rw [e1, e2]
  obtain ⟨t, h1, h2⟩ := loopM_inv (step := mSlicesRepeat_L612) (fun s => ∃ a : Nat, s = ((a : Int), List.replicate a x ++ List.replicate (n - a) 0) ∧ a ≤ n ∧ (a = 0 → n = 0)) (fun t => t = List.replicate n x) (fun s => n - s.1.toNat) (fun s hs => by
    obtain ⟨a, rfl, ha, h0⟩ := hs
    unfold mSlicesRepeat_L612
    simp only [unc2]
    have hl : (List.replicate a x ++ List.replicate (n - a) (0 : Int)).length = n := by
      rw [List.length_append, List.length_replicate, List.length_replicate]
      omega
    rw [hl]
    by_cases hc : a < n
    · have hcut1 := cutS_ok (l := List.replicate a x ++ List.replicate (n - a) (0 : Int)) (a := a) (b := n) ha (by omega)
      have hcut2 := cutS_ok (l := List.replicate a x ++ List.replicate (n - a) (0 : Int)) (a := 0) (b := a) (Nat.zero_le _) (by omega)
      rw [take_rep x 0 a (n - a) a (Nat.le_refl _), List.drop_zero] at hcut2
      have hN : cpyN (a : Int) (n : Int) (List.replicate a x) = ((min a (n - a) : Nat) : Int) := by
        unfold cpyN
        rw [List.length_replicate, Int.toNat_natCast, Int.toNat_natCast]
      rw [if_pos (by omega), hcut1, Option.bind_some, show cutS (List.replicate a x ++ List.replicate (n - a) (0 : Int)) 0 (a : Int) = some (List.replicate a x) from hcut2, Option.bind_some, hN, chk_ok (by omega) (by omega), Option.bind_some, cpy_rep x 0 ha]
      refine .inl ⟨_, rfl, ⟨a + min a (n - a), ?_, by omega, by omega⟩, ?_⟩
      · rw [Int.natCast_add]
      · simp only [Int.toNat_natCast]
        omega
    · rw [if_neg (by omega)]
      have : a = n := by omega
      subst this
      exact .inr ⟨_, rfl, by simp⟩) _ ⟨min 1 n, rfl, by omega, by omega⟩
  rw [h1, h2]
  rfl
/- ---- what the law asks ahead of all ---- -/
theorem awake_true : mFishkeep2AwakeMend = some true := by kernel_rfl
def two : MendRound := ⟨9, [0, 5], [(⟨0, 1, 3, 0⟩ : MendLink)]⟩
theorem room0 : mMendRoom_L29836 two 0 [[], []] = some [[0, 2], []] := by
  unfold mMendRoom_L29836
  rw [show mSlicesRepeat [(-1)] (two.Plan.length : Int) = some [-1, -1] from repeat_eq (-1) (n := 2) (by omega)]
  show (loopM (mMendRoom_L54748 two 0) (true, [[0, -1], []])).bind _ = _
  rw [loopM_next (show mMendRoom_L54748 two 0 (true, [[0, -1], []]) = some (.inl (true, [[0, 2], []])) by kernel_rfl), loopM_next (show mMendRoom_L54748 two 0 (true, [[0, 2], []]) = some (.inl (false, [[0, 2], []])) by kernel_rfl), loopM_last (show mMendRoom_L54748 two 0 (false, [[0, 2], []]) = some (.inr [[0, 2], []]) by kernel_rfl)]
  rfl
theorem room1 : mMendRoom_L29836 two 1 [[0, 2], []] = some [[0, 2], [-1, 0]] := by
  unfold mMendRoom_L29836
  rw [show mSlicesRepeat [(-1)] (two.Plan.length : Int) = some [-1, -1] from repeat_eq (-1) (n := 2) (by omega)]
  show (loopM (mMendRoom_L54748 two 1) (true, [[0, 2], [-1, 0]])).bind _ = _
  rw [loopM_next (show mMendRoom_L54748 two 1 (true, [[0, 2], [-1, 0]]) = some (.inl (false, [[0, 2], [-1, 0]])) by kernel_rfl), loopM_last (show mMendRoom_L54748 two 1 (false, [[0, 2], [-1, 0]]) = some (.inr [[0, 2], [-1, 0]]) by kernel_rfl)]
  rfl
theorem room_two : mMendRoom two = some (0, [[0, 2], [-1, 0]]) := by
  unfold mMendRoom
  rw [show mMendCheckRound two = some 0 by kernel_rfl, Option.bind_some, if_neg (by decide)]
  have hf : forS (mMendRoom_L29836 two) 2 0 [[], []] = some [[0, 2], [-1, 0]] := by
    show (mMendRoom_L29836 two 0 [[], []]).bind _ = _
    rw [room0, Option.bind_some]
    show (mMendRoom_L29836 two 1 [[0, 2], []]).bind _ = _
    rw [room1]
    rfl
  show (forS (mMendRoom_L29836 two) 2 0 [[], []]).bind _ = _
  rw [hf]
  rfl
theorem rounds_true : mFishkeep2Rounds = some true := by
  unfold mFishkeep2Rounds
  show (mMendRoom two).bind _ = _
  rw [room_two]
  kernel_rfl
/- ---- rounds that may be ---- -/
def sg (r : MendRound) (l : MendLink) : Int := av r.Plan l.To - av r.Plan l.From + l.Back * r.Period - l.Len
structure LinkOk (r : MendRound) (l : MendLink) : Prop where
  f0 : 0 ≤ l.From
  f1 : l.From < (r.Plan.length : Int)
  t0 : 0 ≤ l.To
  t1 : l.To < (r.Plan.length : Int)
  n0 : 0 ≤ l.Len
  n1 : l.Len ≤ 28800
  b0 : 0 ≤ l.Back
  b1 : l.Back ≤ 3
structure PlanOk (r : MendRound) : Prop where
  p0 : 1 ≤ r.Period
  p1 : r.Period ≤ 3600
  n0 : 1 ≤ r.Plan.length
  n8 : r.Plan.length ≤ 8
  lk : r.Links.length ≤ 24
  pl : ∀ v : Int, 0 ≤ v → v < (r.Plan.length : Int) → 0 ≤ av r.Plan v ∧ av r.Plan v ≤ r.Period - 1
structure RoundOk (r : MendRound) : Prop extends PlanOk r where
  ok : ∀ l ∈ r.Links, LinkOk r l
  s0 : ∀ l ∈ r.Links, 0 ≤ sg r l
  ac : ∃ τ : Int → Nat, ∀ l ∈ r.Links, l.Back = 0 → τ l.From < τ l.To
theorem sg_bd {r : MendRound} {l : MendLink} (h : PlanOk r) (hl : LinkOk r l) : -50000 ≤ sg r l ∧ sg r l ≤ 14400 ∧ 0 ≤ l.Back * r.Period ∧ l.Back * r.Period ≤ 10800 := by
  have h1 := h.pl _ hl.f0 hl.f1
  have h2 := h.pl _ hl.t0 hl.t1
  have h3 : 0 ≤ l.Back * r.Period := Int.mul_nonneg hl.b0 (by have := h.p0; omega)
  have h4 : l.Back * r.Period ≤ 3 * r.Period := Int.mul_le_mul_of_nonneg_right hl.b1 (by have := h.p0; omega)
  have := h.p1
  have := hl.n0
  have := hl.n1
  unfold sg
  omega
theorem slack_ok {r : MendRound} {l : MendLink} (h : PlanOk r) (hl : LinkOk r l) : mMendRoundSlack r l = some (sg r l) := by
  obtain ⟨b1, b2, b3, b4⟩ := sg_bd h hl
  have h1 := h.pl _ hl.f0 hl.f1
  have h2 := h.pl _ hl.t0 hl.t1
  have := h.p1
  have := hl.n0
  have := hl.n1
  unfold mMendRoundSlack
  rw [idx_av hl.t0 hl.t1, Option.bind_some, idx_av hl.f0 hl.f1, Option.bind_some, chk_ok (by omega) (by omega), Option.bind_some, chk_ok (by omega) (by omega), Option.bind_some, chk_ok (by omega) (by omega), Option.bind_some, chk_ok (by omega) (by omega), Option.bind_some]
  rfl
theorem slackR_ok {r : MendRound} {l : MendLink} (h : PlanOk r) (hl : LinkOk r l) : mFishref2SlackOf r l = some (sg r l) := slack_ok h hl
theorem within_eq (x a b : Int) : mMendWithin x a b = some (decide (a ≤ x ∧ x ≤ b)) := by
  unfold mMendWithin
  by_cases h : a ≤ x
  · rw [if_pos h, Option.bind_some]
    congr 1
    exact decide_eq_decide.2 ⟨fun h2 => ⟨h, h2⟩, fun h2 => h2.2⟩
  · rw [if_neg h, Option.bind_some, decide_eq_false (fun h2 => h h2.1)]
theorem withinR_eq (x a b : Int) : mFishref2Within x a b = some (decide (a ≤ x ∧ x ≤ b)) := within_eq x a b
end Go.Proofs.Ytakehdnblmonlaa
