/- Plain: sums, and times that no step of a set makes cheaper are the cheapest. -/
import Derived.Test.YtdphlkddelnaiaaKLK1
set_option linter.unusedVariables false
set_option linter.unusedSimpArgs false
namespace Go.Proofs.Ytdphlkddelnaiaa
open Go.RowKit Go.Fp

def sumN : Nat → (Nat → Int) → Int
  | 0, _ => 0
  | n + 1, f => sumN n f + f n
theorem sumN_congr {f g : Nat → Int} : ∀ {n : Nat}, (∀ i, i < n → f i = g i) → sumN n f = sumN n g
  | 0, _ => rfl
  | n + 1, h => by
    unfold sumN
    rw [sumN_congr (n := n) (fun i hi => h i (by omega)), h n (by omega)]
theorem sumN_add {f g : Nat → Int} : ∀ {n : Nat}, sumN n (fun i => f i + g i) = sumN n f + sumN n g
  | 0 => rfl
  | n + 1 => by
    unfold sumN
    rw [sumN_add (n := n)]
    dsimp only
    omega
theorem sumN_sub {f g : Nat → Int} : ∀ {n : Nat}, sumN n (fun i => f i - g i) = sumN n f - sumN n g
  | 0 => rfl
  | n + 1 => by
    unfold sumN
    rw [sumN_sub (n := n)]
    dsimp only
    omega
theorem sumN_mul {f : Nat → Int} (c : Int) : ∀ {n : Nat}, sumN n (fun i => c * f i) = c * sumN n f
  | 0 => by simp [sumN]
  | n + 1 => by
    unfold sumN
    rw [sumN_mul c (n := n), Int.mul_add]
theorem sumN_zero : ∀ {n : Nat}, sumN n (fun _ => 0) = 0
  | 0 => rfl
  | n + 1 => by
    unfold sumN
    rw [sumN_zero]
    rfl
theorem sumN_le {f g : Nat → Int} : ∀ {n : Nat}, (∀ i, i < n → f i ≤ g i) → sumN n f ≤ sumN n g
  | 0, _ => Int.le_refl _
  | n + 1, h => by
    have := sumN_le (n := n) (fun i hi => h i (by omega))
    have := h n (by omega)
    unfold sumN
    omega
theorem sumN_lt {f g : Nat → Int} : ∀ {n : Nat}, (∀ i, i < n → f i ≤ g i) → (∃ i, i < n ∧ f i < g i) → sumN n f < sumN n g
  | 0, _, ⟨i, hi, _⟩ => by omega
  | n + 1, h, ⟨i, hi, hlt⟩ => by
    unfold sumN
    by_cases e : i = n
    · subst e
      have := sumN_le (n := i) (fun j hj => h j (by omega))
      omega
    · have := sumN_lt (n := n) (fun j hj => h j (by omega)) ⟨i, by omega, hlt⟩
      have := h n (by omega)
      omega
theorem sumN_bd {f : Nat → Int} {M : Int} : ∀ {n : Nat}, (∀ i, i < n → f i ≤ M) → sumN n f ≤ n * M
  | 0, _ => by simp [sumN]
  | n + 1, h => by
    have := sumN_bd (n := n) (fun i hi => h i (by omega))
    have := h n (by omega)
    unfold sumN
    rw [Int.natCast_add, Int.add_mul]
    simp only [Int.natCast_one, Int.one_mul]
    omega
def rate (n : Nat) (σ : Nat → Int) (S : Nat → Bool) : Int := sumN n (fun i => if S i = true then σ i else 0)
def step (S : Nat → Bool) (t : Nat → Int) (d : Int) (i : Nat) : Int := if S i = true then t i + d else t i
theorem step_sum {n : Nat} {σ t : Nat → Int} {S : Nat → Bool} (d : Int) : sumN n (fun i => σ i * step S t d i) = sumN n (fun i => σ i * t i) + d * rate n σ S := by
  unfold rate
  rw [← sumN_mul, ← sumN_add]
  refine sumN_congr (fun i _ => ?_)
  unfold step
  by_cases h : S i = true
  · rw [if_pos h, if_pos h, Int.mul_add, Int.mul_comm d]
  · rw [if_neg h, if_neg h, Int.mul_zero, Int.add_zero]
/-- No step of a set that is allowed makes it cheaper. -/
def Opt (n : Nat) (B : Nat → Nat → Int) (σ t : Nat → Int) : Prop := ∀ S : Nat → Bool, S 0 = false → (∀ i, n ≤ i → S i = false) → (∃ i, i < n ∧ S i = true) →
  (rate n σ S < 0 → ¬ Sol n B (step S t 1)) ∧ (0 < rate n σ S → ¬ Sol n B (step S t (-1)))
theorem optimal {n : Nat} {B : Nat → Nat → Int} {σ t : Nat → Int} (ht : Sol n B t) (ho : Opt n B σ t) : ∀ (m : Nat) (s : Nat → Int), sumN n (fun i => ((s i - t i).natAbs : Int)) ≤ (m : Int) → Sol n B s → s 0 = t 0 → 0 ≤ sumN n (fun i => σ i * (s i - t i)) := by
  intro m
  induction m with
  | zero =>
    intro s hd _ _
    have : sumN n (fun i => σ i * (s i - t i)) = sumN n (fun _ => 0) := sumN_congr (fun i hi => by
      by_cases e : s i - t i = 0
      · rw [e, Int.mul_zero]
      · have := sumN_lt (n := n) (f := fun _ => 0) (g := fun i => ((s i - t i).natAbs : Int)) (fun j _ => by omega) ⟨i, hi, by show (0 : Int) < ((s i - t i).natAbs : Int); omega⟩
        rw [sumN_zero] at this
        omega)
    rw [this, sumN_zero]
    exact Int.le_refl _
  | succ m ih =>
    intro s hd hs h0
    by_cases hS : ∃ i, i < n ∧ 1 ≤ s i - t i
    · let S : Nat → Bool := fun i => decide (i < n ∧ 1 ≤ s i - t i)
      have hSt : ∀ i, S i = true ↔ i < n ∧ 1 ≤ s i - t i := fun i => decide_eq_true_iff
      have hS0 : S 0 = false := decide_eq_false (by omega)
      have hSn : ∀ i, n ≤ i → S i = false := fun i hi => decide_eq_false (by omega)
      have hup : Sol n B (step S t 1) := fun i j hi hj => by
        have a1 := hs i j hi hj
        have a2 := ht i j hi hj
        have b1 := hSt i
        have b2 := hSt j
        unfold step
        by_cases c1 : S i = true <;> by_cases c2 : S j = true <;> simp only [c1, c2, if_true, if_false, Bool.false_eq_true] <;> simp only [c1, c2, true_iff, false_iff, Bool.false_eq_true] at b1 b2 <;> omega
      have hdn : Sol n B (step S s (-1)) := fun i j hi hj => by
        have a1 := hs i j hi hj
        have a2 := ht i j hi hj
        have b1 := hSt i
        have b2 := hSt j
        unfold step
        by_cases c1 : S i = true <;> by_cases c2 : S j = true <;> simp only [c1, c2, if_true, if_false, Bool.false_eq_true] <;> simp only [c1, c2, true_iff, false_iff, Bool.false_eq_true] at b1 b2 <;> omega
      obtain ⟨i0, i1, i2⟩ := hS
      have hr : 0 ≤ rate n σ S := by
        by_cases h : rate n σ S < 0
        · exact absurd hup ((ho S hS0 hSn ⟨i0, i1, (hSt i0).2 ⟨i1, i2⟩⟩).1 h)
        · omega
      have hlt := sumN_lt (n := n) (f := fun i => ((step S s (-1) i - t i).natAbs : Int)) (g := fun i => ((s i - t i).natAbs : Int)) (fun i hi => by
        have b1 := hSt i
        show ((step S s (-1) i - t i).natAbs : Int) ≤ ((s i - t i).natAbs : Int)
        unfold step
        by_cases c1 : S i = true
        · rw [if_pos c1]; have := b1.1 c1; omega
        · rw [if_neg c1]; omega) ⟨i0, i1, by
        show ((step S s (-1) i0 - t i0).natAbs : Int) < ((s i0 - t i0).natAbs : Int)
        unfold step
        rw [if_pos ((hSt i0).2 ⟨i1, i2⟩)]
        omega⟩
      have hi := ih (step S s (-1)) (by omega) hdn (by unfold step; rw [hS0]; simpa using h0)
      have e : sumN n (fun i => σ i * (step S s (-1) i - t i)) = sumN n (fun i => σ i * (s i - t i)) + (-1) * rate n σ S := by
        have := step_sum (n := n) (σ := σ) (t := fun i => s i - t i) (S := S) (-1)
        rw [← this]
        refine sumN_congr (fun i _ => ?_)
        unfold step
        by_cases c1 : S i = true
        · rw [if_pos c1, if_pos c1]
          show σ i * (s i + -1 - t i) = σ i * (s i - t i + -1)
          congr 1
          omega
        · rw [if_neg c1, if_neg c1]
      omega
    · by_cases hT : ∃ i, i < n ∧ s i - t i ≤ -1
      · let S : Nat → Bool := fun i => decide (i < n ∧ s i - t i ≤ -1)
        have hSt : ∀ i, S i = true ↔ i < n ∧ s i - t i ≤ -1 := fun i => decide_eq_true_iff
        have hS0 : S 0 = false := decide_eq_false (by omega)
        have hSn : ∀ i, n ≤ i → S i = false := fun i hi => decide_eq_false (by omega)
        have hup : Sol n B (step S t (-1)) := fun i j hi hj => by
          have a1 := hs i j hi hj
          have a2 := ht i j hi hj
          have b1 := hSt i
          have b2 := hSt j
          unfold step
          by_cases c1 : S i = true <;> by_cases c2 : S j = true <;> simp only [c1, c2, if_true, if_false, Bool.false_eq_true] <;> simp only [c1, c2, true_iff, false_iff, Bool.false_eq_true] at b1 b2 <;> omega
        have hdn : Sol n B (step S s 1) := fun i j hi hj => by
          have a1 := hs i j hi hj
          have a2 := ht i j hi hj
          have b1 := hSt i
          have b2 := hSt j
          unfold step
          by_cases c1 : S i = true <;> by_cases c2 : S j = true <;> simp only [c1, c2, if_true, if_false, Bool.false_eq_true] <;> simp only [c1, c2, true_iff, false_iff, Bool.false_eq_true] at b1 b2 <;> omega
        obtain ⟨i0, i1, i2⟩ := hT
        have hr : rate n σ S ≤ 0 := by
          by_cases h : 0 < rate n σ S
          · exact absurd hup ((ho S hS0 hSn ⟨i0, i1, (hSt i0).2 ⟨i1, i2⟩⟩).2 h)
          · omega
        have hlt := sumN_lt (n := n) (f := fun i => ((step S s 1 i - t i).natAbs : Int)) (g := fun i => ((s i - t i).natAbs : Int)) (fun i hi => by
          have b1 := hSt i
          show ((step S s 1 i - t i).natAbs : Int) ≤ ((s i - t i).natAbs : Int)
          unfold step
          by_cases c1 : S i = true
          · rw [if_pos c1]; have := b1.1 c1; omega
          · rw [if_neg c1]; omega) ⟨i0, i1, by
          show ((step S s 1 i0 - t i0).natAbs : Int) < ((s i0 - t i0).natAbs : Int)
          unfold step
          rw [if_pos ((hSt i0).2 ⟨i1, i2⟩)]
          omega⟩
        have hi := ih (step S s 1) (by omega) hdn (by unfold step; rw [hS0]; simpa using h0)
        have e : sumN n (fun i => σ i * (step S s 1 i - t i)) = sumN n (fun i => σ i * (s i - t i)) + 1 * rate n σ S := by
          have := step_sum (n := n) (σ := σ) (t := fun i => s i - t i) (S := S) 1
          rw [← this]
          refine sumN_congr (fun i _ => ?_)
          unfold step
          by_cases c1 : S i = true
          · rw [if_pos c1, if_pos c1]
            show σ i * (s i + 1 - t i) = σ i * (s i - t i + 1)
            congr 1
            omega
          · rw [if_neg c1, if_neg c1]
        omega
      · have : sumN n (fun i => σ i * (s i - t i)) = sumN n (fun _ => 0) := sumN_congr (fun i hi => by
          have : s i - t i = 0 := by
            have a : ¬ 1 ≤ s i - t i := fun h => hS ⟨i, hi, h⟩
            have b : ¬ s i - t i ≤ -1 := fun h => hT ⟨i, hi, h⟩
            omega
          rw [this, Int.mul_zero])
        rw [this, sumN_zero]
        exact Int.le_refl _
theorem cheapest_of {n : Nat} {B : Nat → Nat → Int} {σ t : Nat → Int} (ht : Sol n B t) (ho : Opt n B σ t) {s : Nat → Int} (hs : Sol n B s) (h0 : s 0 = t 0) : sumN n (fun i => σ i * t i) ≤ sumN n (fun i => σ i * s i) := by
  have hnn : 0 ≤ sumN n (fun i => ((s i - t i).natAbs : Int)) := by
    have := sumN_le (n := n) (f := fun _ => 0) (g := fun i => ((s i - t i).natAbs : Int)) (fun i _ => by omega)
    rw [sumN_zero] at this
    exact this
  have h := optimal ht ho (sumN n (fun i => ((s i - t i).natAbs : Int))).toNat s (by omega) hs h0
  have e : sumN n (fun i => σ i * (s i - t i)) = sumN n (fun i => σ i * s i) - sumN n (fun i => σ i * t i) := by
    rw [← sumN_sub]
    exact sumN_congr (fun i _ => Int.mul_sub _ _ _)
  omega
end Go.Proofs.Ytdphlkddelnaiaa
