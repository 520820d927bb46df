/- Plain: rosters, searches, repeats. -/
import Derived.Test.YtnmhabgnfifkdaaTC4
set_option linter.unusedVariables false
set_option linter.unusedSimpArgs false
namespace Go.Proofs.Ytnmhabgnfifkdaa
open Go.RowKit Go.Fp

theorem has_away (l : List FleetAbsence) (x : FleetAbsence) : mSlicesContains_2 l x = some (decide (x ∈ l)) := by
  unfold mSlicesContains_2 mSlicesIndex_2
  obtain ⟨r, h1, h2⟩ := any_spec (p := fun y => x.Driver = y.Driver ∧ x.Day = y.Day) l (mSlicesIndex_2_L61 l x) (fun k h => by
    unfold mSlicesIndex_2_L61
    rw [idx_lt h, Option.bind_some]
    by_cases c : x.Driver = l[k].Driver ∧ x.Day = l[k].Day
    · rw [if_pos c, if_pos c]
    · rw [if_neg c, if_neg c])
  rw [h1, Option.bind_some]
  have : (∃ y ∈ l, x.Driver = y.Driver ∧ x.Day = y.Day) ↔ x ∈ l := ⟨fun ⟨y, hy, e1, e2⟩ => by
    have : x = y := by cases x; cases y; simp only at e1 e2; rw [e1, e2]
    rw [this]; exact hy, fun h => ⟨x, h, rfl, rfl⟩⟩
  rw [this] at h2
  simp [h2]
theorem has_num (l : List Int) (x : Int) : mSlicesContains_3 l x = some (decide (x ∈ l)) := by
  unfold mSlicesContains_3 mSlicesIndex_3
  obtain ⟨r, h1, h2⟩ := any_spec (p := fun y => x = y) l (mSlicesIndex_3_L39 l x) (fun k h => by
    unfold mSlicesIndex_3_L39
    rw [idx_lt h, Option.bind_some]
    by_cases c : x = l[k]
    · rw [if_pos c, if_pos c]
    · rw [if_neg c, if_neg c])
  rw [h1, Option.bind_some]
  have : (∃ y ∈ l, x = y) ↔ x ∈ l := ⟨fun ⟨y, hy, e⟩ => e ▸ hy, fun h => ⟨x, h, rfl⟩⟩
  rw [this] at h2
  simp [h2]
theorem roster_cases (l : List FleetShift) (d : Int) (x : FleetLimits) : (∃ e, e ≠ 0 ∧ mFleetRoster l d x = some (e, [])) ∨ ∃ k : Nat, d = (k : Int) ∧ 1 ≤ k ∧ k ≤ 4 ∧ mFleetCheckShifts l = some 0 ∧ mFleetCheckLimits x = some 0 ∧ l.length ≤ 8 ∧ ∀ s ∈ l, OkS s := by
  obtain ⟨c, c1, c2⟩ := shifts_says l
  by_cases hc : c = 0
  · subst hc
    obtain ⟨e, e1⟩ := limits_says x
    by_cases he : e = 0
    · subst he
      by_cases hd : 1 ≤ d ∧ d ≤ 4
      · refine .inr ⟨d.toNat, by omega, by omega, by omega, c1, e1, (c2 rfl).1, (c2 rfl).2⟩
      · refine .inl ⟨2, by decide, ?_⟩
        unfold mFleetRoster
        rw [c1, Option.bind_some, if_neg (by decide), e1, Option.bind_some, if_neg (by decide), within_eq, Option.bind_some, decide_eq_false hd, if_neg (by decide)]
    · refine .inl ⟨e, he, ?_⟩
      unfold mFleetRoster
      rw [c1, Option.bind_some, if_neg (by decide), e1, Option.bind_some, if_pos he]
  · refine .inl ⟨c, hc, ?_⟩
    unfold mFleetRoster
    rw [c1, Option.bind_some, if_pos hc]
section
variable {l : List FleetShift} (hl : ∀ s ∈ l, OkS s) (hn : l.length ≤ 8)
theorem flat_rep (k : Nat) : (List.replicate k ([] : List Int)).flatten = [] := by
  induction k with
  | zero => rfl
  | succ k ih => rw [List.replicate_succ, List.flatten_cons, ih]; rfl
theorem leaf_good {x : FleetLimits} {k : Nat} (hk : k ≤ 4) {q : Ro} (h : q ∈ leaves (fitB l x) l.length 0 (List.replicate k [])) : Good l x q ∧ q.length = k := by
  obtain ⟨h1, h2, h3⟩ := leaf_inv h
  rw [List.length_replicate] at h1
  rw [flat_rep, List.nil_append] at h2
  exact ⟨⟨by omega, h2, h3 (fun r hr => .inl (List.eq_of_mem_replicate hr))⟩, h1⟩
end
theorem mul_all : ∀ n : Fin 9, mBitsMul (IntKind.wrap .u64 1) (IntKind.wrap .u64 (n.val : Int)) = some (0, (n.val : Int)) := by decide +kernel
theorem mul_small {n : Nat} (h : n ≤ 8) : mBitsMul (IntKind.wrap .u64 1) (IntKind.wrap .u64 (n : Int)) = some (0, (n : Int)) := mul_all ⟨n, by omega⟩
theorem wrap_all : ∀ n : Fin 9, IntKind.wrap .i64 (n.val : Int) = (n.val : Int) := by decide +kernel
theorem wrap_small {n : Nat} (h : n ≤ 8) : IntKind.wrap .i64 (n : Int) = (n : Int) := wrap_all ⟨n, by omega⟩
theorem take_rep (x y : Int) (a c k : Nat) (h : k ≤ a) : (List.replicate a x ++ List.replicate c y).take k = List.replicate k x := by
  rw [List.take_append_of_le_length (by rw [List.length_replicate]; exact h), List.take_replicate, Nat.min_eq_left h]
theorem drop_rep (x y : Int) (a c k : Nat) (h : a ≤ k) : (List.replicate a x ++ List.replicate c y).drop k = List.replicate (c - (k - a)) y := by
  obtain ⟨d, rfl⟩ : ∃ d, k = a + d := ⟨k - a, by omega⟩
  have := List.drop_length_add_append (l₁ := List.replicate a x) (l₂ := List.replicate c y) (i := d)
  rw [List.length_replicate] at this
  rw [this, List.drop_replicate]
  congr 1
  omega
theorem cpy_rep (x y : Int) {n a m : Nat} (ha : a ≤ n) : cpyI (List.replicate a x ++ List.replicate (n - a) y) (a : Int) (n : Int) (List.replicate m x) = List.replicate (a + min m (n - a)) x ++ List.replicate (n - (a + min m (n - a))) y := by
  unfold cpyI cpy
  rw [Int.toNat_natCast, Int.toNat_natCast, take_rep x y a (n - a) a (Nat.le_refl _), List.take_replicate, List.length_replicate, drop_rep x y a (n - a) _ (by omega)]
  rw [List.replicate_append_replicate, Nat.min_comm (n - a) m]
  congr 2
  omega
theorem repeat_eq (x : Int) {n : Nat} (h : n ≤ 8) : mSlicesRepeat [x] (n : Int) = some (List.replicate n x) := by
  unfold mSlicesRepeat
  rw [if_neg (by omega)]
  show (mBitsMul (IntKind.wrap .u64 1) (IntKind.wrap .u64 (n : Int))).bind _ = _
  rw [mul_small h, Option.bind_some]
  simp only [unc2]
  rw [if_neg (by decide), Option.bind_some, decide_eq_false (by omega), if_neg (by decide), wrap_small h, mkLen_ok (by omega) (by omega), Option.bind_some]
  have e1 : cpyN 0 ((List.replicate n (0 : Int)).length : Int) [x] = ((min 1 n : Nat) : Int) := by
    unfold cpyN
    rw [List.length_replicate, Int.toNat_natCast]
    rfl
  have e2 : cpyI (List.replicate n (0 : Int)) 0 ((List.replicate n (0 : Int)).length : Int) [x] = List.replicate (min 1 n) x ++ List.replicate (n - min 1 n) 0 := by
    have := cpy_rep x 0 (n := n) (a := 0) (m := 1) (Nat.zero_le _)
    simp only [List.replicate_zero, List.nil_append, Nat.sub_zero, Nat.zero_add] at this
    rw [List.length_replicate]
    exact this
  rw [e1, e2]
  obtain ⟨t, h1, h2⟩ := loopM_inv (step := mSlicesRepeat_L612) (fun s => ∃ a : Nat, s = ((a : Int), List.replicate a x ++ List.replicate (n - a) 0) ∧ a ≤ n ∧ (a = 0 → n = 0)) (fun t => t = List.replicate n x) (fun s => n - s.1.toNat) (fun s hs => by
    obtain ⟨a, rfl, ha, h0⟩ := hs
    unfold mSlicesRepeat_L612
    simp only [unc2]
    have hl : (List.replicate a x ++ List.replicate (n - a) (0 : Int)).length = n := by
      rw [List.length_append, List.length_replicate, List.length_replicate]
      omega
    rw [hl]
    by_cases hc : a < n
    · have hcut1 := cutS_ok (l := List.replicate a x ++ List.replicate (n - a) (0 : Int)) (a := a) (b := n) ha (by omega)
      have hcut2 := cutS_ok (l := List.replicate a x ++ List.replicate (n - a) (0 : Int)) (a := 0) (b := a) (Nat.zero_le _) (by omega)
      rw [take_rep x 0 a (n - a) a (Nat.le_refl _), List.drop_zero] at hcut2
      have hN : cpyN (a : Int) (n : Int) (List.replicate a x) = ((min a (n - a) : Nat) : Int) := by
        unfold cpyN
        rw [List.length_replicate, Int.toNat_natCast, Int.toNat_natCast]
      rw [if_pos (by omega), hcut1, Option.bind_some, show cutS (List.replicate a x ++ List.replicate (n - a) (0 : Int)) 0 (a : Int) = some (List.replicate a x) from hcut2, Option.bind_some, hN, chk_ok (by omega) (by omega), Option.bind_some, cpy_rep x 0 ha]
      refine .inl ⟨_, rfl, ⟨a + min a (n - a), ?_, by omega, by omega⟩, ?_⟩
      · rw [Int.natCast_add]
      · simp only [Int.toNat_natCast]
        omega
    · rw [if_neg (by omega)]
      have : a = n := by omega
      subst this
      exact .inr ⟨_, rfl, by simp⟩) _ ⟨min 1 n, rfl, by omega, by omega⟩
  rw [h1, h2]
  rfl
end Go.Proofs.Ytnmhabgnfifkdaa
