/- Plain: conditions: faults, check, whether they hold. -/
import Derived.Test.YtiajmiigkjmakaaGreatDoorLA1
set_option linter.unusedVariables false
set_option linter.unusedSimpArgs false
namespace Go.Proofs.YtiajmiigkjmakaaGreatDoor
open Go.RowKit Go.Fp

def numOf (k : Int) : Int := if k = 2 ∨ k = 3 ∨ k = 4 ∨ k = 5 then 2 else if k = 6 ∨ k = 7 ∨ k = 8 then 1 else 0
theorem numbers_spec (k : Int) : mFareNumbers k = some (numOf k) := by
  unfold mFareNumbers numOf
  by_cases h2 : k = 2
  · subst h2; rfl
  by_cases h3 : k = 3
  · subst h3; rfl
  by_cases h4 : k = 4
  · subst h4; rfl
  by_cases h5 : k = 5
  · subst h5; rfl
  by_cases h6 : k = 6
  · subst h6; rfl
  by_cases h7 : k = 7
  · subst h7; rfl
  by_cases h8 : k = 8
  · subst h8; rfl
  simp [h2, h3, h4, h5, h6, h7, h8]
theorem numbers_ref (k : Int) : mFishref2NumbersOf k = some (numOf k) := numbers_spec k
theorem nums_spec (n a b : Int) : (if n < 1 then (
  if a ≠ 0 then (
  some true)
  else (
  if n < 2 then (
  if b ≠ 0 then (
  some true)
  else (
  if n = 2 then (
  some (decide (b < a)))
  else (
  some false)))
  else (
  if n = 2 then (
  some (decide (b < a)))
  else (
  some false))))
  else (
  if n < 2 then (
  if b ≠ 0 then (
  some true)
  else (
  if n = 2 then (
  some (decide (b < a)))
  else (
  some false)))
  else (
  if n = 2 then (
  some (decide (b < a)))
  else (
  some false)))) = some (decide ((n < 1 ∧ a ≠ 0) ∨ (n < 2 ∧ b ≠ 0) ∨ (n = 2 ∧ b < a))) := by
  by_cases h1 : n < 1 <;> by_cases h2 : a = 0 <;> by_cases h3 : n < 2 <;> by_cases h4 : b = 0 <;> by_cases h5 : n = 2 <;> simp [h1, h2, h3, h4, h5] <;> omega
def KidsBad (k n : Int) : Prop := (k = 9 ∧ n ≠ 1) ∨ (9 < k ∧ n < 2) ∨ (k < 9 ∧ 0 < n)
instance (k n : Int) : Decidable (KidsBad k n) := by unfold KidsBad; infer_instance
theorem kids_spec (k n : Int) : (if k = 9 then (
  if n ≠ 1 then (
  some true)
  else (
  if 9 < k then (
  if n < 2 then (
  some true)
  else (
  if k < 9 then (
  some (decide (0 < n)))
  else (
  some false)))
  else (
  if k < 9 then (
  some (decide (0 < n)))
  else (
  some false))))
  else (
  if 9 < k then (
  if n < 2 then (
  some true)
  else (
  if k < 9 then (
  some (decide (0 < n)))
  else (
  some false)))
  else (
  if k < 9 then (
  some (decide (0 < n)))
  else (
  some false)))) = some (decide (KidsBad k n)) := by
  unfold KidsBad
  by_cases h1 : k = 9
  · by_cases h2 : n = 1 <;> simp [h1, h2]
  · by_cases h3 : 9 < k
    · have : ¬ k < 9 := by omega
      by_cases h2 : n < 2 <;> simp [h1, h2, h3, this]
    · have : k < 9 := by omega
      simp [h1, h3, this]
theorem kids_ref (k n : Int) (h : 0 ≤ k ∧ k ≤ 11) : (if k = 9 then (
  if n ≠ 1 then (
  some (.inr 1))
  else (
  some (.inl ())))
  else (
  (if k = 10 then (
  some (decide (k = 10)))
  else (
  some (decide (k = 11)))).bind (fun x309 =>
  if x309 = true then (
  if n < 2 then (
  some (.inr 1))
  else (
  some (.inl ())))
  else (
  if 0 < n then (
  some (.inr 1))
  else (
  some (.inl ())))))) = (if KidsBad k n then some (.inr 1) else some (.inl ()) : Option (Unit ⊕ Int)) := by
  unfold KidsBad
  by_cases h1 : k = 9
  · by_cases h2 : n = 1 <;> simp [h1, h2]
  · by_cases h3 : k = 10
    · by_cases h2 : n < 2 <;> simp [h2, h3]
    · by_cases h4 : k = 11
      · by_cases h2 : n < 2 <;> simp [h2, h4]
      · have h5 : k < 9 := by omega
        have h6 : ¬ 9 < k := by omega
        simp [h1, h3, h4, h5, h6]
/-- What is wrong with a node, its kids aside. -/
def nodeErr (c : FareCond) : Int :=
  if ¬ (0 ≤ c.Kind ∧ c.Kind ≤ 11) then 15 else if ¬ ((0 ≤ c.A ∧ c.A ≤ 28800) ∧ 0 ≤ c.B ∧ c.B ≤ 28800) then 2
  else if (numOf c.Kind < 1 ∧ c.A ≠ 0) ∨ (numOf c.Kind < 2 ∧ c.B ≠ 0) ∨ (numOf c.Kind = 2 ∧ c.B < c.A) then 1
  else if KidsBad c.Kind (c.Kids.length : Int) then 1 else 0
theorem node_succ (N : Nat) (c : FareCond) : mFareCondNode (N + 1) c = if nodeErr c ≠ 0 then some (nodeErr c) else ((Go.Fp.forM (mFareCondNode_L301 c (mFareCondNode N)) c.Kids.length 0 ()).bind fun t => Sum.elim (fun _ => some 0) (fun q => some q) t) := by
  rw [mFareCondNode]
  simp only [nums_spec, kids_spec, numbers_spec, within_spec, Option.bind_some]
  unfold nodeErr
  by_cases h1 : 0 ≤ c.Kind ∧ c.Kind ≤ 11
  · simp only [h1, and_self, decide_true, if_true, not_true_eq_false, if_false]
    by_cases h2 : 0 ≤ c.A ∧ c.A ≤ 28800
    · simp only [h2, and_self, decide_true, if_true, Option.bind_some]
      by_cases h3 : 0 ≤ c.B ∧ c.B ≤ 28800
      · simp only [h3, and_self, decide_true, Bool.not_true, if_true, Option.bind_some, if_false, not_true_eq_false, Bool.false_eq_true]
        by_cases h4 : (numOf c.Kind < 1 ∧ c.A ≠ 0) ∨ (numOf c.Kind < 2 ∧ c.B ≠ 0) ∨ (numOf c.Kind = 2 ∧ c.B < c.A)
        · rw [if_pos (decide_eq_true h4), if_pos h4]
          rfl
        · rw [if_neg (by rw [decide_eq_false h4]; decide), if_neg h4]
          by_cases h5 : KidsBad c.Kind (c.Kids.length : Int)
          · rw [if_pos (decide_eq_true h5), if_pos h5]
            rfl
          · rw [if_neg (by rw [decide_eq_false h5]; decide), if_neg h5]
            rfl
      · simp only [h3, decide_false, Bool.not_false, if_true, Option.bind_some, and_false, not_false_eq_true]
        rfl
    · simp only [h2, decide_false, if_false, if_true, Option.bind_some, false_and, not_false_eq_true, Bool.false_eq_true]
      rfl
  · simp only [h1, decide_false, if_false, if_true, not_false_eq_true, Bool.false_eq_true]
    rfl
theorem fault_succ (N : Nat) (c : FareCond) : mFishref2NodeFault (N + 1) c = if nodeErr c ≠ 0 then some (nodeErr c) else ((Go.Fp.forM (mFishref2NodeFault_L318 c (mFishref2NodeFault N)) c.Kids.length 0 ()).bind fun t => Sum.elim (fun _ => some 0) (fun q => some q) t) := by
  rw [mFishref2NodeFault]
  simp only [nums_spec, numbers_ref, within_ref, Option.bind_some]
  unfold nodeErr
  by_cases h1 : 0 ≤ c.Kind ∧ c.Kind ≤ 11
  · rw [kids_ref _ _ h1]
    simp only [h1, and_self, decide_true, if_true, not_true_eq_false, if_false]
    by_cases h2 : 0 ≤ c.A ∧ c.A ≤ 28800
    · simp only [h2, and_self, decide_true, if_true, Option.bind_some]
      by_cases h3 : 0 ≤ c.B ∧ c.B ≤ 28800
      · simp only [h3, and_self, decide_true, Bool.not_true, if_true, Option.bind_some, if_false, not_true_eq_false, Bool.false_eq_true]
        by_cases h4 : (numOf c.Kind < 1 ∧ c.A ≠ 0) ∨ (numOf c.Kind < 2 ∧ c.B ≠ 0) ∨ (numOf c.Kind = 2 ∧ c.B < c.A)
        · rw [if_pos (decide_eq_true h4), if_pos h4]
          rfl
        · rw [if_neg (by rw [decide_eq_false h4]; decide), if_neg h4]
          by_cases h5 : KidsBad c.Kind (c.Kids.length : Int)
          · rw [if_pos h5, if_pos h5]
            rfl
          · rw [if_neg h5, if_neg h5]
            rfl
      · simp only [h3, decide_false, Bool.not_false, if_true, Option.bind_some, and_false, not_false_eq_true]
        rfl
    · simp only [h2, decide_false, if_false, if_true, Option.bind_some, false_and, not_false_eq_true, Bool.false_eq_true]
      rfl
  · simp only [h1, decide_false, if_false, if_true, not_false_eq_true, Bool.false_eq_true]
    rfl
inductive Good : FareCond → Prop
  | mk (c : FareCond) (h : nodeErr c = 0) (hk : ∀ k ∈ c.Kids, Good k) : Good c
theorem fault_ok (c : FareCond) : ∃ N e, mFishref2NodeFault N c = some e ∧ (e = 0 → Good c) := by
  induction c using cond_ind with
  | h c ih =>
    obtain ⟨N, hN⟩ := fuel_all (Q := fun N k => ∃ e, mFishref2NodeFault N k = some e ∧ (e = 0 → Good k)) (fun n a ⟨e, h1, h2⟩ => ⟨e, fault_mono n a e h1, h2⟩) c.Kids ih
    refine ⟨N + 1, ?_⟩
    rw [fault_succ]
    by_cases h0 : nodeErr c = 0
    · rw [if_neg (fun h => h h0)]
      rcases forM_inv (body := mFishref2NodeFault_L318 c (mFishref2NodeFault N)) (fun k _ => ∀ j : Nat, j < k → ∀ h : j < c.Kids.length, Good c.Kids[j]) (fun e => e ≠ 0) c.Kids.length 0 () (fun j h => absurd h (Nat.not_lt_zero j)) (fun k _ _ hk hI => by
        have hk : k < c.Kids.length := by omega
        obtain ⟨e, h1, h2⟩ := hN c.Kids[k] (List.getElem_mem hk)
        unfold mFishref2NodeFault_L318
        rw [idx_lt hk, Option.bind_some, h1, Option.bind_some]
        by_cases he : e = 0
        · rw [if_neg (fun h => h he)]
          refine .inl ⟨_, rfl, fun j hj hjl => ?_⟩
          by_cases ej : j = k
          · subst ej; exact h2 he
          · exact hI j (by omega) hjl
        · rw [if_pos he]
          exact .inr ⟨_, rfl, he⟩) with ⟨s, f1, f2⟩ | ⟨t, f1, f2⟩
      · rw [f1]
        refine ⟨0, rfl, fun _ => .mk c h0 fun k hk => ?_⟩
        obtain ⟨j, hj, rfl⟩ := List.getElem_of_mem hk
        exact f2 j (by omega) hj
      · rw [f1]
        exact ⟨t, rfl, fun h => absurd h f2⟩
    · rw [if_pos h0]
      exact ⟨_, rfl, fun h => absurd h h0⟩
theorem Good.node {c : FareCond} (h : Good c) : ∃ N, mFareCondNode N c = some 0 := by
  induction h with
  | mk c h0 hk ih =>
    obtain ⟨N, hN⟩ := fuel_all (Q := fun N k => mFareCondNode N k = some 0) (fun n a h => node_mono n a 0 h) c.Kids ih
    refine ⟨N + 1, ?_⟩
    rw [node_succ, if_neg (fun h => h h0)]
    rcases forM_inv (body := mFareCondNode_L301 c (mFareCondNode N)) (fun _ _ => True) (fun _ => False) c.Kids.length 0 () trivial (fun k _ _ hk _ => by
      have hk : k < c.Kids.length := by omega
      unfold mFareCondNode_L301
      rw [idx_lt hk, Option.bind_some, hN _ (List.getElem_mem hk), Option.bind_some, if_neg (fun h => h rfl)]
      exact .inl ⟨_, rfl, trivial⟩) with ⟨s, f1, _⟩ | ⟨t, _, f2⟩
    · rw [f1]
      rfl
    · exact f2.elim
theorem shape_ok (c : FareCond) : ∃ N, ∀ left : Int, 0 ≤ left → left ≤ 40 → ∃ lv lf, mFishref2Shape N c left = some (lv, lf) ∧ -1 ≤ lf ∧ lf < left ∧ 0 ≤ lv ∧ lv ≤ left - lf ∧ (0 ≤ lf → mFareCondSize N c = some (left - lf, lv)) := by
  induction c using cond_ind with
  | h c ih =>
    obtain ⟨N, hN⟩ := fuel_all (Q := fun N k => ∀ left : Int, 0 ≤ left → left ≤ 40 → ∃ lv lf, mFishref2Shape N k left = some (lv, lf) ∧ -1 ≤ lf ∧ lf < left ∧ 0 ≤ lv ∧ lv ≤ left - lf ∧ (0 ≤ lf → mFareCondSize N k = some (left - lf, lv))) (fun n a h left l0 l1 => by
      obtain ⟨lv, lf, h1, h2, h3, h4, h5, h6⟩ := h left l0 l1
      exact ⟨lv, lf, shape_mono n a left _ h1, h2, h3, h4, h5, fun h => size_mono n a _ (h6 h)⟩) c.Kids ih
    refine ⟨N + 1, fun left l0 l1 => ?_⟩
    rw [mFishref2Shape, mFareCondSize]
    dsimp only
    rw [chk_ok (by omega) (by omega), Option.bind_some]
    by_cases hl : left - 1 < 0
    · rw [if_pos hl]
      exact ⟨1, left - 1, rfl, by omega, by omega, by omega, by omega, fun h => by omega⟩
    rw [if_neg hl]
    rcases forM_inv (body := mFishref2Shape_L331 c (mFishref2Shape N)) (fun k (q : Int × Int) => 0 ≤ q.2 ∧ q.2 ≤ left - 1 ∧ 0 ≤ q.1 ∧ q.1 ≤ left - 1 - q.2 ∧ Go.Fp.forS (mFareCondSize_L114 c (mFareCondSize N)) k 0 (1, 0) = some (left - q.2, q.1)) (fun (q : Int × Int) => q.2 = -1 ∧ 0 ≤ q.1 ∧ q.1 ≤ left - 1 - q.2) c.Kids.length 0 (0, left - 1) ⟨by omega, by omega, by omega, by omega, by show some ((1 : Int), (0 : Int)) = some (left - (left - 1), 0); rw [show left - (left - 1) = 1 by omega]⟩ (fun k q _ hk hI => by
      have hk : k < c.Kids.length := by omega
      obtain ⟨lv, le⟩ := q
      obtain ⟨g1, g2, g3, g4, g5⟩ := hI
      simp only at g1 g2 g3 g4 g5
      obtain ⟨v, f, h1, h2, h3, h4, h5, h6⟩ := hN c.Kids[k] (List.getElem_mem hk) le g1 (by omega)
      unfold mFishref2Shape_L331
      simp only [unc2]
      rw [idx_lt hk, Option.bind_some, h1, Option.bind_some]
      simp only [unc2]
      by_cases hf : f < 0
      · rw [if_pos hf]
        exact .inr ⟨_, rfl, by simp only; omega, by simp only; omega, by simp only; omega⟩
      · rw [if_neg hf]
        refine .inl ⟨_, rfl, by simp only; omega, by simp only; omega, by simp only; omega, by simp only; omega, ?_⟩
        rw [forS_snoc, g5, Option.bind_some, Nat.zero_add]
        unfold mFareCondSize_L114
        simp only [unc2]
        rw [idx_lt hk, Option.bind_some, h6 (by omega), Option.bind_some]
        simp only [unc2]
        rw [chk_ok (by omega) (by omega), Option.bind_some]
        rw [show left - le + (le - f) = left - f by omega]) with ⟨q, f1, f2⟩ | ⟨q, f1, f2⟩
    · obtain ⟨lv, le⟩ := q
      obtain ⟨g1, g2, g3, g4, g5⟩ := f2
      simp only [Nat.zero_add] at g1 g2 g3 g4 g5
      rw [f1, g5]
      simp only [Option.bind_some, Sum.elim_inl, unc2]
      rw [chk_ok (by omega) (by omega), Option.bind_some]
      exact ⟨lv + 1, le, rfl, by omega, by omega, by omega, by omega, fun _ => rfl⟩
    · obtain ⟨lv, le⟩ := q
      obtain ⟨g1, g2, g3⟩ := f2
      simp only at g1 g2 g3
      rw [f1]
      simp only [Option.bind_some, Sum.elim_inr, unc2]
      rw [chk_ok (by omega) (by omega), Option.bind_some]
      exact ⟨lv + 1, le, rfl, by omega, by omega, by omega, by omega, fun h => by omega⟩
theorem cond_ok (c : FareCond) : ∃ e, mFishref2CondFault c = some e ∧ (e = 0 → Good c ∧ mFareCondCheck c = some 0) := by
  obtain ⟨N, hN⟩ := shape_ok c
  obtain ⟨lv, lf, h1, h2, h3, h4, h5, h6⟩ := hN 40 (by omega) (by omega)
  obtain ⟨M, e, h7, h8⟩ := fault_ok c
  unfold mFishref2CondFault mFareCondCheck
  rw [lim_is (fun n => shape_mono n c 40) h1, lim_is (fun n => fault_mono n c) h7]
  simp only [Option.bind_some, unc2]
  by_cases hf : lf < 0
  · rw [if_pos hf, Option.bind_some, if_pos rfl]
    exact ⟨4, rfl, fun h => absurd h (by decide)⟩
  · rw [if_neg hf, Option.bind_some]
    by_cases hv : 6 < lv
    · rw [if_pos (decide_eq_true hv)]
      exact ⟨4, rfl, fun h => absurd h (by decide)⟩
    · rw [if_neg (by rw [decide_eq_false hv]; decide)]
      refine ⟨e, rfl, fun he => ⟨h8 he, ?_⟩⟩
      obtain ⟨K, hK⟩ := (h8 he).node
      rw [lim_is (fun n => size_mono n c) (h6 (by omega)), lim_is (fun n => node_mono n c) hK]
      simp only [Option.bind_some, unc2]
      rw [if_neg (by omega), Option.bind_some, if_neg (by rw [decide_eq_false hv]; decide)]
theorem any_spec {α : Type} {p : α → Prop} [DecidablePred p] (l : List α) (body : Nat → Unit → Option (Unit ⊕ Int)) (hb : ∀ (k : Nat) (h : k < l.length), body k () = some (if p l[k] then .inr (k : Int) else .inl ())) :
    ∃ r, ((Go.Fp.forM body l.length 0 ()).bind fun t => Sum.elim (fun _ => some (-1)) (fun q => some q) t) = some r ∧ (0 ≤ r ↔ ∃ x ∈ l, p x) ∧ (0 ≤ r → r < (l.length : Int)) := by
  rcases forM_inv (body := body) (fun k _ => ∀ j : Nat, j < k → ∀ h : j < l.length, ¬ p l[j]) (fun r => (0 ≤ r ∧ ∃ x ∈ l, p x) ∧ r < (l.length : Int)) l.length 0 () (fun j h => absurd h (Nat.not_lt_zero j)) (fun k _ _ hk hI => by
      have hk : k < l.length := by omega
      rw [hb k hk]
      by_cases c : p l[k]
      · rw [if_pos c]
        exact .inr ⟨_, rfl, ⟨by omega, l[k], List.getElem_mem hk, c⟩, by omega⟩
      · rw [if_neg c]
        refine .inl ⟨_, rfl, fun j hj h => ?_⟩
        by_cases e : j = k
        · subst e; exact c
        · exact hI j (by omega) h) with ⟨s, f1, f2⟩ | ⟨t, f1, f2⟩
  · rw [f1]
    refine ⟨-1, rfl, ⟨fun h => absurd h (by decide), fun ⟨x, hx, hp⟩ => ?_⟩, fun h => absurd h (by decide)⟩
    obtain ⟨j, hj, rfl⟩ := List.getElem_of_mem hx
    exact absurd hp (f2 j (by omega) hj)
  · rw [f1]
    exact ⟨t, rfl, ⟨fun _ => f2.1.2, fun _ => f2.1.1⟩, fun _ => f2.2⟩
theorem contains_eq (l : List Int) (x : Int) : mSlicesContains l x = some (decide (x ∈ l)) := by
  unfold mSlicesContains mSlicesIndex
  obtain ⟨r, h1, h2, _⟩ := any_spec (p := fun y => x = y) l (mSlicesIndex_L39 l x) (fun k h => by
    unfold mSlicesIndex_L39
    rw [idx_lt h, Option.bind_some]
    by_cases c : x = l[k]
    · rw [if_pos c, if_pos c]
    · rw [if_neg c, if_neg c])
  rw [h1, Option.bind_some]
  have : (∃ y ∈ l, x = y) ↔ x ∈ l := ⟨fun ⟨y, hy, e⟩ => e ▸ hy, fun h => ⟨x, h, rfl⟩⟩
  rw [this] at h2
  simp [h2]
theorem Good.holds {c : FareCond} (h : Good c) (t : FareTrip) (hz : 1 ≤ t.Zones.length) (hz2 : t.Zones.length ≤ 10) : ∃ N b, mFareCondHolds N c t = some b := by
  induction h with
  | mk c h0 hk ih =>
    obtain ⟨N, hN⟩ := fuel_all (Q := fun N k => ∃ b, mFareCondHolds N k t = some b) (fun n a ⟨b, h⟩ => ⟨b, holds_mono n a t b h⟩) c.Kids ih
    refine ⟨N + 1, ?_⟩
    rw [mFareCondHolds]
    dsimp only
    by_cases h1 : c.Kind = 1
    · rw [if_pos h1]; exact ⟨_, rfl⟩
    rw [if_neg h1]
    by_cases h2 : c.Kind = 2
    · rw [if_pos h2, mFareCondHolds_1, within_spec]; exact ⟨_, rfl⟩
    rw [if_neg h2]
    by_cases h3 : c.Kind = 3
    · rw [if_pos h3, mFareCondHolds_1, within_spec]; exact ⟨_, rfl⟩
    rw [if_neg h3]
    by_cases h4 : c.Kind = 4
    · rw [if_pos h4, mFareCondHolds_1, within_spec]; exact ⟨_, rfl⟩
    rw [if_neg h4]
    by_cases h5 : c.Kind = 5
    · rw [if_pos h5, mFareCondHolds_1, within_spec]; exact ⟨_, rfl⟩
    rw [if_neg h5]
    by_cases h6 : c.Kind = 6
    · rw [if_pos h6, contains_eq]; exact ⟨_, rfl⟩
    rw [if_neg h6]
    by_cases h7 : c.Kind = 7
    · rw [if_pos h7, show (0 : Int) = ((0 : Nat) : Int) from rfl, idx_lt (by omega)]; exact ⟨_, rfl⟩
    rw [if_neg h7]
    by_cases h8 : c.Kind = 8
    · rw [if_pos h8, chk_ok (by omega) (by omega), Option.bind_some, show (t.Zones.length : Int) - 1 = ((t.Zones.length - 1 : Nat) : Int) by omega, idx_lt (by omega)]; exact ⟨_, rfl⟩
    rw [if_neg h8]
    by_cases h9 : c.Kind = 9
    · rw [if_pos h9]
      have hl : c.Kids.length = 1 := by
        unfold nodeErr at h0
        split at h0
        · cases h0
        split at h0
        · cases h0
        split at h0
        · cases h0
        split at h0
        · cases h0
        · rename_i hb
          unfold KidsBad at hb
          omega
      rw [show (0 : Int) = ((0 : Nat) : Int) from rfl, idx_lt (by omega), Option.bind_some]
      obtain ⟨b, hb⟩ := hN c.Kids[0] (List.getElem_mem (by omega))
      rw [hb]
      exact ⟨_, rfl⟩
    rw [if_neg h9]
    by_cases h10 : c.Kind = 10
    · rw [if_pos h10]
      unfold mSlicesContainsFunc mSlicesIndexFunc_2
      rcases forM_end (f := mSlicesIndexFunc_2_L62 c.Kids t.Day t.At t.Km t.Age t.Zones t.Card (mFareCondHolds N)) (fun _ => True) c.Kids.length 0 () (fun k _ _ hk => by
        have hk : k < c.Kids.length := by omega
        obtain ⟨b, hb⟩ := hN c.Kids[k] (List.getElem_mem hk)
        unfold mSlicesIndexFunc_2_L62 mFareCondHolds_2_5
        rw [idx_lt hk, Option.bind_some, hb, Option.bind_some, Option.bind_some]
        by_cases hb : (!b) = true
        · rw [if_pos hb]; exact .inr ⟨_, rfl, trivial⟩
        · rw [if_neg hb]; exact .inl ⟨_, rfl⟩) with ⟨s, f1⟩ | ⟨q, f1, _⟩
      · rw [f1]; exact ⟨_, rfl⟩
      · rw [f1]; exact ⟨_, rfl⟩
    rw [if_neg h10]
    by_cases h11 : c.Kind = 11
    · rw [if_pos h11]
      unfold mSlicesContainsFunc_2 mSlicesIndexFunc_3
      rcases forM_end (f := mSlicesIndexFunc_3_L62 c.Kids t.Day t.At t.Km t.Age t.Zones t.Card (mFareCondHolds N)) (fun _ => True) c.Kids.length 0 () (fun k _ _ hk => by
        have hk : k < c.Kids.length := by omega
        obtain ⟨b, hb⟩ := hN c.Kids[k] (List.getElem_mem hk)
        unfold mSlicesIndexFunc_3_L62 mFareCondHolds_3_5
        rw [idx_lt hk, Option.bind_some, hb, Option.bind_some, Option.bind_some]
        by_cases hb : b = true
        · rw [if_pos hb]; exact .inr ⟨_, rfl, trivial⟩
        · rw [if_neg hb]; exact .inl ⟨_, rfl⟩) with ⟨s, f1⟩ | ⟨q, f1, _⟩
      · rw [f1]; exact ⟨_, rfl⟩
      · rw [f1]; exact ⟨_, rfl⟩
    rw [if_neg h11]
    exact ⟨_, rfl⟩
theorem Good.lim {c : FareCond} (h : Good c) (t : FareTrip) (hz : 1 ≤ t.Zones.length) (hz2 : t.Zones.length ≤ 10) : ∃ b, Go.Fp.lim (fun N => mFareCondHolds N c t) = some b := by
  obtain ⟨N, b, h⟩ := h.holds t hz hz2
  exact ⟨b, lim_is (fun n => holds_mono n c t) h⟩
end Go.Proofs.YtiajmiigkjmakaaGreatDoor
