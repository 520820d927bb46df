/- Plain: the little theorem of Fermat; a power and its inverse modulo a product of two primes. -/
import Derived.Test.YtglmhaihgpnogaaGreatDoorX6
set_option linter.unusedVariables false
set_option linter.unusedSimpArgs false
namespace Go.Proofs.YtglmhaihgpnogaaGreatDoor
open Go.RowKit Go.Fp

def ch : Nat → Nat → Nat
  | _, 0 => 1
  | 0, _ + 1 => 0
  | n + 1, k + 1 => ch n k + ch n (k + 1)
theorem ch_zero (n : Nat) : ch n 0 = 1 := by cases n <;> rfl
theorem ch_succ (n k : Nat) : ch (n + 1) (k + 1) = ch n k + ch n (k + 1) := rfl
theorem ch_mul : ∀ (n k : Nat), (k + 1) * ch (n + 1) (k + 1) = (n + 1) * ch n k
  | 0, 0 => rfl
  | 0, k + 1 => by rw [ch_succ]; simp [ch]
  | n + 1, 0 => by
    have h := ch_mul n 0
    rw [ch_zero, Nat.zero_add, Nat.one_mul] at h
    rw [ch_zero, Nat.zero_add, Nat.one_mul, ch_succ, ch_zero, h]
    omega
  | n + 1, k + 1 => by
    have h1 := ch_mul n (k + 1)
    have h2 := ch_mul n k
    rw [ch_succ (n + 1) (k + 1), Nat.mul_add, h1]
    have h3 : (k + 1 + 1) * ch (n + 1) (k + 1) = (k + 1) * ch (n + 1) (k + 1) + ch (n + 1) (k + 1) := by rw [Nat.add_mul (k + 1) 1, Nat.one_mul]
    rw [h3, h2]
    have h4 : ch (n + 1) (k + 1) = ch n k + ch n (k + 1) := rfl
    have h5 : (n + 1 + 1) * ch (n + 1) (k + 1) = (n + 1) * ch (n + 1) (k + 1) + ch (n + 1) (k + 1) := by rw [Nat.add_mul (n + 1) 1, Nat.one_mul]
    rw [h5, h4, Nat.mul_add]
    omega
theorem ch_over : ∀ (n k : Nat), n < k → ch n k = 0
  | _, 0, h => by omega
  | 0, k + 1, _ => rfl
  | n + 1, k + 1, h => by rw [ch_succ, ch_over n k (by omega), ch_over n (k + 1) (by omega)]
/-- The first 'm' parts of (1 + a)^n. -/
def psum (a n : Nat) : Nat → Nat
  | 0 => 0
  | m + 1 => psum a n m + ch n m * a ^ m
theorem psum_succ (a n : Nat) : ∀ m, psum a (n + 1) (m + 1) = psum a n (m + 1) + a * psum a n m
  | 0 => by simp [psum, ch_zero]
  | m + 1 => by
    have h := psum_succ a n m
    have : a * (ch n m * a ^ m) = ch n m * a ^ (m + 1) := by rw [Nat.pow_succ, Nat.mul_left_comm, Nat.mul_comm a]
    have h0 : psum a n (m + 1) = psum a n m + ch n m * a ^ m := rfl
    rw [psum, h, ch_succ, psum.eq_2 a n (m + 1), h0, Nat.add_mul, Nat.mul_add, this]
    omega
theorem binomial (a : Nat) : ∀ n, (1 + a) ^ n = psum a n (n + 1)
  | 0 => by simp [psum, ch]
  | n + 1 => by
    rw [Nat.pow_succ, binomial a n, psum_succ, psum.eq_2 a n (n + 1), ch_over n (n + 1) (by omega), Nat.zero_mul, Nat.mul_add, Nat.mul_one, Nat.mul_comm a]
    rfl
structure Pr (p : Nat) : Prop where
  two : 2 ≤ p
  no : ∀ d, 2 ≤ d → d < p → ¬ d ∣ p
theorem Pr.cop {p : Nat} (h : Pr p) {k : Nat} (h0 : 0 < k) (hk : k < p) : Nat.Coprime p k := by
  have h1 := Nat.gcd_dvd_left p k
  have h2 := Nat.gcd_dvd_right p k
  have h3 := Nat.le_of_dvd h0 h2
  have h4 : 0 < Nat.gcd p k := Nat.gcd_pos_of_pos_right _ h0
  by_cases h5 : 2 ≤ Nat.gcd p k
  · exact absurd h1 (h.no _ h5 (by omega))
  · show Nat.gcd p k = 1
    omega
theorem Pr.dvd_ch {p : Nat} (h : Pr p) {k : Nat} (h0 : 0 < k) (hk : k < p) : p ∣ ch p k := by
  obtain ⟨n, rfl⟩ : ∃ n, p = n + 1 := ⟨p - 1, by have := h.two; omega⟩
  obtain ⟨j, rfl⟩ : ∃ j, k = j + 1 := ⟨k - 1, by omega⟩
  exact (h.cop h0 hk).dvd_of_dvd_mul_left ⟨_, ch_mul n j⟩
theorem Pr.psum_mod {p : Nat} (h : Pr p) (a : Nat) : ∀ m, m < p → psum a p (m + 1) % p = 1 % p
  | 0, _ => by simp [psum, ch_zero]
  | m + 1, hm => by
    have h1 := h.psum_mod a m (by omega)
    rw [psum, Nat.add_mod, h1, Nat.mod_eq_zero_of_dvd (Nat.dvd_trans (h.dvd_ch (by omega) hm) (Nat.dvd_mul_right _ _)), Nat.add_zero, Nat.mod_mod]
theorem Pr.fermat {p : Nat} (h : Pr p) : ∀ a, a ^ p % p = a % p
  | 0 => by rw [Nat.zero_pow (by have := h.two; omega)]
  | a + 1 => by
    have ih := h.fermat a
    have h2 := h.two
    have e : ch p p = 1 := by
      have : ∀ n, ch n n = 1 := fun n => by
        induction n with
        | zero => rfl
        | succ n ih => rw [ch_succ, ih, ch_over n (n + 1) (by omega)]
      exact this p
    have h3 := h.psum_mod a (p - 1) (by omega)
    rw [show p - 1 + 1 = p by omega] at h3
    rw [Nat.add_comm a 1, binomial, psum, e, Nat.one_mul, Nat.add_mod, h3, ih, ← Nat.add_mod]
theorem Pr.rsa {p : Nat} (h : Pr p) (x : Nat) : ∀ k, x ^ (1 + k * (p - 1)) % p = x % p
  | 0 => by simp
  | k + 1 => by
    have h2 := h.two
    have e : 1 + (k + 1) * (p - 1) = (1 + k * (p - 1)) + (p - 1) := by rw [Nat.add_mul, Nat.one_mul]; omega
    rw [e, Nat.pow_add, Nat.mul_mod, h.rsa x k, ← Nat.mul_mod, ← Nat.pow_add_one', show p - 1 + 1 = p by omega, h.fermat]
theorem eq_of_mod {p q x y : Nat} (hp : Pr p) (hq : Pr q) (hne : p ≠ q) (h1 : x % p = y % p) (h2 : x % q = y % q) : x % (p * q) = y % (p * q) := by
  have hc : Nat.Coprime p q := by
    rcases Nat.lt_or_ge q p with h | h
    · exact hp.cop (by have := hq.two; omega) h
    · exact (hq.cop (k := p) (by have := hp.two; omega) (by omega)).symm
  have key : ∀ {x y : Nat}, y ≤ x → x % p = y % p → x % q = y % q → x % (p * q) = y % (p * q) := fun {x y} hle h1 h2 => by
    have d1 : p ∣ x - y := Nat.dvd_of_mod_eq_zero (Nat.sub_mod_eq_zero_of_mod_eq h1)
    have d2 : q ∣ x - y := Nat.dvd_of_mod_eq_zero (Nat.sub_mod_eq_zero_of_mod_eq h2)
    have d3 : p * q ∣ x - y := hc.mul_dvd_of_dvd_of_dvd d1 d2
    obtain ⟨c, hc⟩ := d3
    rw [show x = y + p * q * c by omega, Nat.add_mul_mod_self_left]
  rcases Nat.le_total y x with h | h
  · exact key h h1 h2
  · exact (key h h1.symm h2.symm).symm
theorem rsa {p q e d : Nat} (hp : Pr p) (hq : Pr q) (hne : p ≠ q) (hed : e * d % ((p - 1) * (q - 1)) = 1) (x : Nat) : (x ^ e) ^ d % (p * q) = x % (p * q) := by
  rw [← Nat.pow_mul]
  have h1 := Nat.div_add_mod (e * d) ((p - 1) * (q - 1))
  rw [hed] at h1
  refine eq_of_mod hp hq hne ?_ ?_
  · have := hp.rsa x ((q - 1) * (e * d / ((p - 1) * (q - 1))))
    rw [Nat.mul_right_comm, Nat.mul_comm (q - 1), Nat.add_comm, h1] at this
    exact this
  · have := hq.rsa x ((p - 1) * (e * d / ((p - 1) * (q - 1))))
    rw [Nat.mul_right_comm, Nat.add_comm, h1] at this
    exact this

end Go.Proofs.YtglmhaihgpnogaaGreatDoor
