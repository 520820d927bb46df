/- Plain: the multiples of the period that a rule can take. -/
import Derived.Test.YtdphlkddelnaiaaKL2
set_option linter.unusedVariables false
set_option linter.unusedSimpArgs false
namespace Go.Proofs.Ytdphlkddelnaiaa
open Go.RowKit Go.Fp

theorem mul_ge {k m P : Int} (hP : 0 < P) (h : k ≤ m) : k * P ≤ m * P := Int.mul_le_mul_of_nonneg_right h (by omega)
theorem small_of_mul {q P : Int} {M : Int} (hP : 2 ≤ P) (h : -M ≤ q * P ∧ q * P ≤ M) (hM : 0 ≤ M) : -M ≤ q ∧ q ≤ M := by
  constructor
  · by_cases hq : -M ≤ q
    · exact hq
    · have := mul_ge (k := q) (m := -M - 1) (P := P) (by omega) (by omega)
      have e : (-M - 1) * P = -(M * P) - P := by rw [Int.sub_mul, Int.neg_mul, Int.one_mul]
      have h2 := mul_ge (k := 1) (m := P) (P := M) 
      have : M * 1 ≤ M * P := Int.mul_le_mul_of_nonneg_left (by omega) hM
      rw [Int.mul_one] at this
      omega
  · by_cases hq : q ≤ M
    · exact hq
    · have := mul_ge (k := M + 1) (m := q) (P := P) (by omega) (by omega)
      have e : (M + 1) * P = M * P + P := by rw [Int.add_mul, Int.one_mul]
      have : M * 1 ≤ M * P := Int.mul_le_mul_of_nonneg_left (by omega) hM
      rw [Int.mul_one] at this
      omega
theorem floor_spec {a P : Int} (hP : 2 ≤ P ∧ P ≤ 3600) (ha : -100000 ≤ a ∧ a ≤ 100000) : ∃ q, mPlanFloor a P = some q ∧ q * P ≤ a ∧ a < q * P + P := by
  have h1 := Int.tmod_add_mul_tdiv a P
  have h2 := Int.tmod_lt_of_pos a (show 0 < P by omega)
  have h3 := Int.tmod_lt_of_pos (-a) (show 0 < P by omega)
  rw [Int.neg_tmod] at h3
  rw [Int.mul_comm] at h1
  have hb := small_of_mul (q := Int.tdiv a P) (M := 200000) hP.1 ⟨by omega, by omega⟩ (by omega)
  unfold mPlanFloor
  have hne : ne0 P = some () := by
    unfold ne0
    rw [if_neg (by omega)]
  rw [hne, Option.bind_some, chk_ok (by omega) (by omega), Option.bind_some, Option.bind_some]
  by_cases hm : Int.tmod a P < 0
  · rw [if_pos hm, chk_ok (by omega) (by omega)]
    refine ⟨_, rfl, ?_, ?_⟩
    · rw [Int.sub_mul, Int.one_mul]; omega
    · rw [Int.sub_mul, Int.one_mul]; omega
  · rw [if_neg hm]
    exact ⟨_, rfl, by omega, by omega⟩
structure OkRule (n : Nat) (P : Int) (r : PlanRule) : Prop where
  f : 0 ≤ r.From ∧ r.From < (n : Int)
  t : 0 ≤ r.To ∧ r.To < (n : Int)
  ne : r.From ≠ r.To
  min : 0 ≤ r.Min ∧ r.Min ≤ 3600
  max : r.Min ≤ r.Max ∧ r.Max ≤ r.Min + P - 1
  wt : 0 ≤ r.Weight ∧ r.Weight ≤ 1000
/-- A choice of a multiple is one that the table leaves open. -/
def Ch (P : Int) (b : List (List Int)) (r : PlanRule) (k : Int) : Prop := r.Min - k * P ≤ mg b r.From.toNat r.To.toNat ∧ - mg b r.To.toNat r.From.toNat ≤ r.Max - k * P
theorem choices_spec {n : Nat} {P : Int} {b : List (List Int)} (h8 : n ≤ 8) (hP : 2 ≤ P ∧ P ≤ 3600) (h : Mx n P b) {r : PlanRule} (hr : OkRule n P r) (x1 : Int) (l1 : List PlanRule) (x2 x3 : Int) (l2 : List Int) (l3 : List Bool) :
    ∃ L, mPlanSearchChoices (some b) r P x1 l1 x2 x3 l2 l3 = some L ∧ ∀ k, k ∈ L ↔ Ch P b r k := by
  obtain ⟨f, hf⟩ : ∃ f : Nat, r.From = (f : Int) := ⟨r.From.toNat, by have := hr.f; omega⟩
  obtain ⟨t, ht⟩ : ∃ t : Nat, r.To = (t : Int) := ⟨r.To.toNat, by have := hr.t; omega⟩
  have hf' : f < n := by have := hr.f; omega
  have ht' : t < n := by have := hr.t; omega
  obtain ⟨rf, f1, f2, f3, f4⟩ := h.sq.at (i := f) (by omega)
  obtain ⟨rt, t1, t2, t3, t4⟩ := h.sq.at (i := t) (by omega)
  have v1 := h.le f t hf' ht'
  have v2 := h.ge hf' ht'
  have v3 := h.le t f ht' hf'
  have v4 := h.ge ht' hf'
  have m1 := hr.min
  have m2 := hr.max
  have eC : ∀ k, Ch P b r k ↔ (r.Min - k * P ≤ mg b f t ∧ - mg b t f ≤ r.Max - k * P) := fun k => by
    unfold Ch
    rw [hf, ht, Int.toNat_natCast, Int.toNat_natCast]
  obtain ⟨q, q1, q2, q3⟩ := floor_spec (a := mg b f t - r.Min) hP (by omega)
  have hq := small_of_mul (q := q) (M := 20000) hP.1 ⟨by omega, by omega⟩ (by omega)
  unfold mPlanSearchChoices
  rw [Option.bind_some, hf, ht, f1, Option.bind_some, f4 t (by omega), Option.bind_some, chk_ok (by omega) (by omega), Option.bind_some, q1, Option.bind_some, chk_ok (by omega) (by omega), Option.bind_some]
  have low : ∀ k : Int, r.Min - k * P ≤ mg b f t ↔ -q ≤ k := fun k => by
    constructor
    · intro hk
      by_cases hc : -q ≤ k
      · exact hc
      · have := mul_ge (k := q + 1) (m := -k) (P := P) (by omega) (by omega)
        rw [Int.add_mul, Int.one_mul, Int.neg_mul] at this
        omega
    · intro hk
      have := mul_ge (k := -q) (m := k) (P := P) (by omega) hk
      rw [Int.neg_mul] at this
      omega
  obtain ⟨L, e1, e2⟩ := loopM_inv (step := mPlanSearchChoices_L718 r P b) (fun s => -q ≤ s.1 ∧ s.1 ≤ 20001 ∧ (s.2.length : Int) = s.1 + q ∧ (∀ x, x ∈ s.2 ↔ -q ≤ x ∧ x < s.1) ∧ ∀ x, -q ≤ x → x < s.1 → - mg b t f ≤ r.Max - x * P)
    (fun L => ∀ k, k ∈ L ↔ Ch P b r k) (fun s => (20001 - s.1).toNat) (fun s hs => by
      obtain ⟨k, L⟩ := s
      obtain ⟨h1, h2, h3, h4, h5⟩ := hs
      simp only at h1 h2 h3 h4 h5
      have hk1 := mul_ge (k := -q) (m := k) (P := P) (by omega) h1
      rw [Int.neg_mul] at hk1
      have hk2 := mul_ge (k := k) (m := 20001) (P := P) (by omega) h2
      unfold mPlanSearchChoices_L718
      simp only [unc2]
      rw [chk_ok (by omega) (by omega), Option.bind_some, chk_ok (by omega) (by omega), Option.bind_some, hf, ht, t1, Option.bind_some, t4 f (by omega), Option.bind_some, chk_ok (by omega) (by omega), Option.bind_some]
      by_cases hc : - mg b t f ≤ r.Max - k * P
      · have hkb : k ≤ 20000 := by
          by_cases hk : k ≤ 20000
          · exact hk
          · have := mul_ge (k := 20001) (m := k) (P := P) (by omega) (by omega)
            omega
        rw [if_pos hc, room_ok (by omega) (by omega), Option.bind_some, chk_ok (by omega) (by omega), Option.bind_some]
        refine .inl ⟨_, rfl, ⟨by simp only; omega, by simp only; omega, by simp only [List.length_append, List.length_singleton]; omega, fun x => ?_, fun x hx1 hx2 => ?_⟩, by simp only; omega⟩
        · simp only [List.mem_append, List.mem_singleton]
          rw [h4]
          omega
        · simp only at hx2
          by_cases e : x = k
          · subst e; exact hc
          · exact h5 x hx1 (by omega)
      · rw [if_neg hc]
        refine .inr ⟨_, rfl, fun x => ?_⟩
        rw [h4, eC, low]
        constructor
        · rintro ⟨a1, a2⟩
          exact ⟨a1, h5 x a1 a2⟩
        · rintro ⟨a1, a2⟩
          refine ⟨a1, ?_⟩
          by_cases hx : x < k
          · exact hx
          · have := mul_ge (k := k) (m := x) (P := P) (by omega) (by omega)
            omega) ((-q), []) ⟨by simp only; omega, by simp only; omega, by simp only [List.length_nil]; omega, fun x => by simp only [List.not_mem_nil, false_iff]; omega, fun x hx1 hx2 => by simp only at hx2; omega⟩
  rw [e1]
  exact ⟨L, rfl, e2⟩
/-- The rule is kept with this multiple. -/
def With (P : Int) (r : PlanRule) (s : Nat → Int) (k : Int) : Prop := r.Min - k * P ≤ s r.To.toNat - s r.From.toNat ∧ s r.To.toNat - s r.From.toNat ≤ r.Max - k * P
def Kept (P : Int) (r : PlanRule) (s : Nat → Int) : Prop := ∃ k, With P r s k
theorem ch_of {n : Nat} {P : Int} {b : List (List Int)} {r : PlanRule} (hr : OkRule n P r) {s : Nat → Int} (hs : Sol n (mg b) s) {k : Int} (h : With P r s k) : Ch P b r k := by
  have h1 := hs r.From.toNat r.To.toNat (by have := hr.f; omega) (by have := hr.t; omega)
  have h2 := hs r.To.toNat r.From.toNat (by have := hr.t; omega) (by have := hr.f; omega)
  unfold With at h
  unfold Ch
  omega
theorem ch_bd {n : Nat} {P : Int} {b : List (List Int)} (hP : 2 ≤ P ∧ P ≤ 3600) (h : Mx n P b) {r : PlanRule} (hr : OkRule n P r) {k : Int} (hk : Ch P b r k) : -20000 ≤ k * P ∧ k * P ≤ 20000 := by
  have v1 := h.le r.From.toNat r.To.toNat (by have := hr.f; omega) (by have := hr.t; omega)
  have v2 := h.le r.To.toNat r.From.toNat (by have := hr.t; omega) (by have := hr.f; omega)
  have m1 := hr.min
  have m2 := hr.max
  unfold Ch at hk
  omega
end Go.Proofs.Ytdphlkddelnaiaa
