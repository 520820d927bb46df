/- Plain: contains, and what the model of fishref2.kept answers. -/
import Derived.Test.YtajmocgpjkhjlaaL4
set_option linter.unusedVariables false
set_option linter.unusedSimpArgs false
namespace Go.Proofs.Ytajmocgpjkhjlaa
open Go.RowKit Go.Fp

theorem contains_eq (l : List Int) (x : Int) : mSlicesContains l x = some (decide (x ∈ l)) := by
  unfold mSlicesContains mSlicesIndex
  rcases forM_inv (body := mSlicesIndex_L39 l x) (fun k _ => ∀ j (h : j < l.length), j < k → x ≠ l[j]) (fun r => 0 ≤ r ∧ x ∈ l) l.length 0 () (fun j _ h => absurd h (by omega)) (fun k _ _ hk hi => by
    unfold mSlicesIndex_L39
    rw [idx_lt (show k < l.length by omega), Option.bind_some]
    by_cases h : x = l[k]'(by omega)
    · rw [if_pos h]
      exact .inr ⟨_, rfl, by omega, by rw [h]; exact List.getElem_mem _⟩
    · rw [if_neg h]
      refine .inl ⟨_, rfl, fun j hj hjk => ?_⟩
      by_cases e : j = k
      · subst e; exact h
      · exact hi j hj (by omega)) with ⟨q, h1, h2⟩ | ⟨r, h1, h2, h3⟩
  · rw [h1]
    have : x ∉ l := fun hx => by
      obtain ⟨j, hj, e⟩ := List.getElem_of_mem hx
      exact h2 j hj (by omega) e.symm
    simp [this]
  · rw [h1]
    simp [h2, h3]
section
variable {l4 : List FleetTask} {x : List Int} {s : FleetSet} {p : FleetShop}
theorem run_bounds {a L : Int} {km : Nat → Int} {n k : Nat} {P : Nat → Bool} (ha : 0 ≤ a) (haL : a ≤ L) (hkm : ∀ j, j < n → 0 ≤ km j) (hk : k ≤ n) (h : ∀ j, j < k → run a km P (j + 1) ≤ L) : 0 ≤ run a km P k ∧ run a km P k ≤ L := by
  refine ⟨run_nonneg ha hkm k hk, ?_⟩
  cases k with
  | zero => exact haL
  | succ k => exact h k (by omega)
theorem kept_spec (h : RowOk l4 x) (hp : OkShop p) (hs : OkSet p.Limit s) (l : List Int) : ∃ b, mFishref2Kept l4 x s p l = some b ∧ (b = true ↔ Kept s.Km (kmOf l4 x) p.Limit x.length (memB l)) := by
  have hx := h.len
  have hL := hp.2.2
  have ha := hs.2
  have hkm : ∀ j, j < x.length → 0 ≤ kmOf l4 x j := fun j hj => (km_nonneg h j hj).1
  unfold mFishref2Kept
  rw [chk_ok (by omega) (by omega), Option.bind_some, Option.bind_some]
  rcases forM_inv (body := mFishref2Kept_L133 l4 x l p)
    (fun k v => (k ≤ x.length → v = run s.Km (kmOf l4 x) (memB l) k) ∧ ∀ j, j < k → j < x.length → run s.Km (kmOf l4 x) (memB l) (j + 1) ≤ p.Limit)
    (fun t => t = false ∧ ¬ Kept s.Km (kmOf l4 x) p.Limit x.length (memB l))
    (((x.length : Int) + 1).toNat) 0 s.Km ⟨fun _ => rfl, fun j hj => by omega⟩ (fun k v _ hk hi => by
      obtain ⟨h1, h2⟩ := hi
      have hk' : k ≤ x.length := by omega
      have hv := h1 hk'
      subst hv
      show (∃ s', ((mSlicesContains l (k : Int)).bind _).bind _ = _ ∧ _) ∨ ∃ t, ((mSlicesContains l (k : Int)).bind _).bind _ = _ ∧ _
      rw [contains_eq, Option.bind_some]
      have em : (if decide ((k : Int) ∈ l) = true then some (0 : Int) else some (run s.Km (kmOf l4 x) (memB l) k)) = some (if memB l k then 0 else run s.Km (kmOf l4 x) (memB l) k) := by
        unfold memB
        split <;> rfl
      rw [em, Option.bind_some]
      have rb := run_bounds (P := memB l) (km := kmOf l4 x) ha.1 ha.2 hkm hk' (fun j hj => h2 j hj (by omega))
      by_cases hn : (k : Int) < (x.length : Int)
      · rw [if_pos hn]
        obtain ⟨v, t, e1, e2, e3, e4⟩ := row_at h (j := k) (by omega)
        have kb := km_nonneg h k (by omega)
        have es := run_succ (a := s.Km) (km := kmOf l4 x) (P := memB l) k
        have b4 : 0 ≤ (if memB l k then 0 else run s.Km (kmOf l4 x) (memB l) k) ∧ (if memB l k then 0 else run s.Km (kmOf l4 x) (memB l) k) ≤ p.Limit := by split <;> omega
        rw [e1, Option.bind_some, e2, Option.bind_some, ← e4, chk_ok (by omega) (by omega), Option.bind_some, ← es]
        by_cases hgt : p.Limit < run s.Km (kmOf l4 x) (memB l) (k + 1)
        · rw [if_pos hgt]
          exact .inr ⟨_, rfl, rfl, fun hK => by have := hK k (by omega); omega⟩
        · rw [if_neg hgt]
          refine .inl ⟨_, rfl, fun _ => rfl, fun j hj hjn => ?_⟩
          by_cases e : j = k
          · subst e; omega
          · exact h2 j (by omega) hjn
      · rw [if_neg hn]
        exact .inl ⟨_, rfl, fun hh => by omega, fun j hj hjn => h2 j (by omega) hjn⟩) with ⟨q, e1, _, e2⟩ | ⟨t, e1, rfl, e2⟩
  · rw [e1]
    exact ⟨true, rfl, fun _ j hj => e2 j (by omega) hj, fun _ => rfl⟩
  · rw [e1]
    exact ⟨false, rfl, fun hh => (by cases hh), fun hh => absurd hh e2⟩
theorem row_take (h : RowOk l4 x) (c : Nat) : RowOk l4 (x.take c) where
  len := by have := h.len; rw [List.length_take]; omega
  get := fun j v hv => by
    rw [List.getElem?_take] at hv
    split at hv
    · exact h.get j v hv
    · cases hv
theorem km_take {c j : Nat} (h : j < c) : kmOf l4 (x.take c) j = kmOf l4 x j := by
  unfold kmOf
  rw [List.getElem?_take, if_pos h]
theorem run_km {a : Int} {km km' : Nat → Int} {P : Nat → Bool} : ∀ k, (∀ j, j < k → km j = km' j) → run a km P k = run a km' P k
  | 0, _ => rfl
  | k + 1, h => by rw [run_succ, run_succ, run_km k (fun j hj => h j (by omega)), h k (by omega)]
theorem kept_take {c : Nat} (hc : c ≤ x.length) {a L : Int} {P : Nat → Bool} : Kept a (kmOf l4 (x.take c)) L (x.take c).length P ↔ ∀ j, j < c → run a (kmOf l4 x) P (j + 1) ≤ L := by
  have hl : (x.take c).length = c := by rw [List.length_take]; omega
  unfold Kept
  rw [hl]
  constructor
  · intro h j hj
    rw [← run_km (km := kmOf l4 (x.take c)) (j + 1) (fun i hi => km_take (by omega))]
    exact h j hj
  · intro h j hj
    rw [run_km (km' := kmOf l4 x) (j + 1) (fun i hi => km_take (by omega))]
    exact h j hj
/-- The candidates: where one may inspect. -/
structure Cands (may : Nat → Bool) (n : Nat) (C : List Int) : Prop where
  mem : ∀ j : Nat, (j : Int) ∈ C ↔ j < n ∧ may j = true
  nat : ∀ z ∈ C, ∃ j : Nat, z = (j : Int)
  inc : C.Pairwise (· < ·)
  len : C.length ≤ n
theorem cands_spec (h : RowOk l4 x) (hp : OkShop p) : ∃ C, forS (mFishref2Positions_L792 l4 x s p) (((x.length : Int) + 1).toNat) 0 [] = some C ∧ Cands (mayOf l4 x s p) (x.length + 1) C := by
  have hx := h.len
  obtain ⟨C, h1, h2⟩ := forS_inv (body := mFishref2Positions_L792 l4 x s p) (fun k l => Cands (mayOf l4 x s p) k l) (((x.length : Int) + 1).toNat) 0 [] ⟨fun j => by simp, fun z hz => by simp at hz, .nil, by simp⟩ (fun k l _ hk hi => by
    unfold mFishref2Positions_L792
    rw [may_eq, may_total h hp (by omega), Option.bind_some]
    cases hm : mayOf l4 x s p k
    · refine ⟨l, rfl, fun j => ?_, hi.nat, hi.inc, by have := hi.len; omega⟩
      rw [hi.mem j]
      constructor
      · rintro ⟨a1, a2⟩; exact ⟨by omega, a2⟩
      · rintro ⟨a1, a2⟩
        refine ⟨?_, a2⟩
        by_cases e : j = k
        · subst e; rw [hm] at a2; cases a2
        · omega
    · rw [if_pos rfl, room_ok (by have := hi.len; omega) (by have := hi.len; omega)]
      refine ⟨_, rfl, fun j => ?_, fun z hz => ?_, ?_, by have := hi.len; simp; omega⟩
      · simp only [List.mem_append, List.mem_singleton, hi.mem j]
        constructor
        · rintro (⟨a1, a2⟩ | a1)
          · exact ⟨by omega, a2⟩
          · have : j = k := by omega
            subst this; exact ⟨by omega, hm⟩
        · rintro ⟨a1, a2⟩
          by_cases e : j = k
          · right; omega
          · left; exact ⟨by omega, a2⟩
      · simp only [List.mem_append, List.mem_singleton] at hz
        rcases hz with hz | rfl
        · exact hi.nat z hz
        · exact ⟨k, rfl⟩
      · rw [List.pairwise_append]
        refine ⟨hi.inc, by simp, fun a ha b hb => ?_⟩
        simp only [List.mem_singleton] at hb
        subst hb
        obtain ⟨j, rfl⟩ := hi.nat a ha
        have := ((hi.mem j).1 ha).1
        omega)
  refine ⟨C, h1, ?_⟩
  have e : 0 + ((x.length : Int) + 1).toNat = x.length + 1 := by omega
  rw [e] at h2
  exact h2
theorem kept_cands {a L : Int} {km : Nat → Int} {may : Nat → Bool} {n : Nat} {C : List Int} (hC : Cands may (n + 1) C) : Kept a km L n (memB C) ↔ Kept a km L n may := by
  have e : ∀ j, j < n → run a km (memB C) (j + 1) = run a km may (j + 1) := fun j hj => run_congr (j + 1) (fun i hi => by
    have := hC.mem i
    unfold memB
    cases hm : may i
    · rw [decide_eq_false_iff_not, this, hm]; simp
    · rw [decide_eq_true_iff, this, hm]; exact ⟨by omega, rfl⟩)
  exact ⟨fun h j hj => by rw [← e j hj]; exact h j hj, fun h j hj => by rw [e j hj]; exact h j hj⟩
theorem kept_sub {a L : Int} {km : Nat → Int} {may : Nat → Bool} {n : Nat} {C l : List Int} (ha : 0 ≤ a) (hkm : ∀ j, j < n → 0 ≤ km j) (hC : Cands may (n + 1) C) (hl : ∀ z ∈ l, z ∈ C) (h : Kept a km L n (memB l)) : Kept a km L n may :=
  h.up ha hkm (fun j _ hj => by
    unfold memB at hj
    rw [decide_eq_true_iff] at hj
    exact ((hC.mem j).1 (hl _ hj)).2)
end

end Go.Proofs.Ytajmocgpjkhjlaa
