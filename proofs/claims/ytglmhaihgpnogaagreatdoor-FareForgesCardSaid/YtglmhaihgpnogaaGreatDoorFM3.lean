/- Plain: primes by trial division, the inverse by the algorithm of Euclid, keys. -/
import Derived.Test.YtglmhaihgpnogaaGreatDoorFM1
import Derived.Test.YtglmhaihgpnogaaGreatDoorFM2
set_option linter.unusedVariables false
set_option linter.unusedSimpArgs false
namespace Go.Proofs.YtglmhaihgpnogaaGreatDoor
open Go.RowKit Go.Fp

theorem tmod_nat (a b : Nat) : Int.tmod (a : Int) (b : Int) = ((a % b : Nat) : Int) := by
  rw [Int.tmod_eq_emod_of_nonneg (by omega)]
  exact (Int.natCast_emod a b).symm
theorem tdiv_nat (a b : Nat) : Int.tdiv (a : Int) (b : Int) = ((a / b : Nat) : Int) := by
  rw [Int.tdiv_eq_ediv_of_nonneg (by omega)]
  exact (Int.natCast_ediv a b).symm
theorem ne0_nat {b : Nat} (h : 0 < b) : ne0 (b : Int) = some () := by
  unfold ne0
  rw [if_neg (by omega)]
theorem prime_loop (n : Nat) (h2 : 2 ≤ n) (hn : n ≤ 40000) : ∃ t, loopM (mFarePrime_L74 (n : Int)) 2 = some t ∧ (t = .inr false ∨ (t = .inl () ∧ Pr n)) := by
  refine loopM_inv (step := mFarePrime_L74 (n : Int)) (fun s => ∃ d : Nat, s = (d : Int) ∧ 2 ≤ d ∧ d ≤ n ∧ ∀ k, 2 ≤ k → k < d → ¬ k ∣ n) (fun t => t = .inr false ∨ (t = .inl () ∧ Pr n)) (fun s => (n + 1 - s).toNat) ?_ 2 ⟨2, rfl, by omega, h2, fun k h0 h1 => by omega⟩
  rintro s ⟨d, rfl, hd2, hdn, hno⟩
  unfold mFarePrime_L74
  have hdd : (d : Int) * (d : Int) = ((d * d : Nat) : Int) := by rw [Int.natCast_mul]
  have hb : d * d ≤ 40000 * 40000 := Nat.mul_le_mul (by omega) (by omega)
  rw [hdd, chk_ok (by omega) (by omega), Option.bind_some]
  by_cases hle : ((d * d : Nat) : Int) ≤ (n : Int)
  · rw [if_pos hle, ne0_nat (by omega), Option.bind_some, tmod_nat]
    by_cases hm : ((n % d : Nat) : Int) = 0
    · rw [if_pos hm]
      exact .inr ⟨_, rfl, .inl rfl⟩
    · rw [if_neg hm, chk_ok (by omega) (by omega), Option.bind_some]
      refine .inl ⟨_, rfl, ⟨d + 1, by omega, by omega, ?_, fun k h0 h1 hk => ?_⟩, by omega⟩
      · have : 2 * d ≤ d * d := Nat.mul_le_mul_right d hd2
        omega
      · by_cases he : k = d
        · subst he
          exact hm (by rw [Nat.mod_eq_zero_of_dvd hk]; rfl)
        · exact hno k h0 (by omega) hk
  · rw [if_neg hle]
    refine .inr ⟨_, rfl, .inr ⟨rfl, h2, fun k h0 h1 hk => ?_⟩⟩
    obtain ⟨m, hm⟩ := hk
    by_cases hkd : k < d
    · exact hno k h0 hkd ⟨m, hm⟩
    · have hm2 : 2 ≤ m := by
        rcases Nat.lt_or_ge m 2 with h | h
        · have : m = 0 ∨ m = 1 := by omega
          rcases this with rfl | rfl <;> simp at hm <;> omega
        · exact h
      have hmd : m < d := by
        rcases Nat.lt_or_ge m d with h | h
        · exact h
        · have := Nat.mul_le_mul (show d ≤ k by omega) h
          omega
      exact hno m hm2 hmd ⟨k, by rw [hm, Nat.mul_comm]⟩
theorem prime_spec (n : Nat) (h2 : 2 ≤ n) (hn : n ≤ 40000) : ∃ b, mFarePrime (n : Int) = some b ∧ (b = true → Pr n) := by
  obtain ⟨t, ht, hQ⟩ := prime_loop n h2 hn
  unfold mFarePrime
  rw [ht, Option.bind_some]
  rcases hQ with rfl | ⟨rfl, hp⟩
  · exact ⟨false, rfl, fun h => by cases h⟩
  · exact ⟨_, rfl, fun _ => hp⟩
theorem dvd_mulL {m a b : Int} (h : m ∣ a) : m ∣ b * a := by
  obtain ⟨c, rfl⟩ := h
  exact ⟨b * c, by rw [Int.mul_left_comm]⟩
theorem dvd_mulR {m a b : Int} (h : m ∣ a) : m ∣ a * b := by
  rw [Int.mul_comm]
  exact dvd_mulL h
theorem chk_abs {x : Int} {m : Nat} (h : x.natAbs ≤ m) (hm : m ≤ 9223372036854775807) : chk x = some x := chk_ok (by omega) (by omega)
theorem inverse_loop (e m : Nat) (hm0 : 0 < m) (hm : m ≤ 2000000000) : ∃ t, loopM mFareInverse_L117 (((e % m : Nat) : Int), (m : Int), 1, 0) = some t ∧ ∃ A : Nat, t.1 = (A : Int) ∧ (m : Int) ∣ t.2 * e - A := by
  refine loopM_inv (step := mFareInverse_L117) (fun s => ∃ A B : Nat, s.1 = (A : Int) ∧ s.2.1 = (B : Int) ∧ A ≤ m ∧ B ≤ m ∧ (m : Int) ∣ s.2.2.1 * e - A ∧ (m : Int) ∣ s.2.2.2 * e - B ∧ A * s.2.2.2.natAbs + B * s.2.2.1.natAbs ≤ m) (fun t => ∃ A : Nat, t.1 = (A : Int) ∧ (m : Int) ∣ t.2 * e - A) (fun s => s.2.1.toNat) ?_ _ ⟨e % m, m, rfl, rfl, Nat.le_of_lt (Nat.mod_lt _ hm0), Nat.le_refl _, ?_, ?_, by simp⟩
  · rintro ⟨a, b, x, y⟩ ⟨A, B, h1, h2, hA, hB, hx, hy, hs⟩
    simp only at h1 h2 hx hy hs
    subst h1; subst h2
    unfold mFareInverse_L117
    simp only [unc4]
    by_cases hB0 : 0 < (B : Int)
    · have hB1 : 0 < B := by omega
      left
      rw [if_pos hB0, ne0_nat hB1, Option.bind_some, tdiv_nat]
      have hdm := Nat.div_add_mod A B
      have hqA := Nat.div_le_self A B
      have hrB := Nat.mod_lt A hB1
      have hrA := Nat.mod_le A B
      generalize A / B = q at *
      generalize A % B = r at *
      have hBq : q * B = B * q := Nat.mul_comm _ _
      have hqy : q * y.natAbs ≤ m := by
        have h4 := Nat.mul_le_mul_right y.natAbs hqA
        omega
      have hxm : x.natAbs ≤ m := by
        have h4 : 1 * x.natAbs ≤ B * x.natAbs := Nat.mul_le_mul_right _ hB1
        omega
      have e1 : (q : Int) * (B : Int) = ((q * B : Nat) : Int) := by rw [Int.natCast_mul]
      have e2 : (A : Int) - ((q * B : Nat) : Int) = (r : Int) := by omega
      have e3 : ((q : Int) * y).natAbs = q * y.natAbs := by rw [Int.natAbs_mul, Int.natAbs_natCast]
      have e4 : (x - (q : Int) * y).natAbs ≤ x.natAbs + q * y.natAbs := by
        have := Int.natAbs_sub_le x ((q : Int) * y)
        omega
      rw [chk_ok (by omega) (by omega), Option.bind_some, e1, chk_ok (by omega) (by omega), Option.bind_some, e2, chk_ok (by omega) (by omega), Option.bind_some, chk_abs (m := m) (by omega) (by omega), Option.bind_some, chk_abs (m := 2 * m) (by omega) (by omega), Option.bind_some]
      refine ⟨_, rfl, ⟨B, r, rfl, rfl, hB, by omega, hy, ?_, ?_⟩, ?_⟩
      · have h5 := Int.dvd_sub hx (dvd_mulL (b := (q : Int)) hy)
        have h6 : x * (e : Int) - (A : Int) - (q : Int) * (y * (e : Int) - (B : Int)) = (x - (q : Int) * y) * (e : Int) - (r : Int) := by
          rw [← e2, ← e1, Int.sub_mul, Int.mul_sub, Int.mul_assoc]
          omega
        rw [h6] at h5
        exact h5
      · show B * (x - (q : Int) * y).natAbs + r * y.natAbs ≤ m
        have h7 := Nat.mul_le_mul_left B e4
        rw [Nat.mul_add, ← Nat.mul_assoc] at h7
        have h8 : A * y.natAbs = (B * q) * y.natAbs + r * y.natAbs := by rw [← Nat.add_mul, hdm]
        omega
      · show ((r : Int)).toNat < (B : Int).toNat
        omega
    · right
      exact ⟨_, by rw [if_neg hB0], A, rfl, hx⟩
  · show (m : Int) ∣ 1 * (e : Int) - ((e % m : Nat) : Int)
    have := Nat.div_add_mod e m
    refine ⟨((e / m : Nat) : Int), ?_⟩
    rw [← Int.natCast_mul]
    omega
  · show (m : Int) ∣ 0 * (e : Int) - (m : Int)
    exact ⟨-1, by omega⟩
theorem inverse_spec (e m : Nat) (hm1 : 1 < m) (hm : m ≤ 2000000000) : ∃ x b, mFareInverse (e : Int) (m : Int) = some (x, b) ∧ (b = true → ∃ d : Nat, x = (d : Int) ∧ 1 ≤ d ∧ d < m ∧ e * d % m = 1) := by
  obtain ⟨t, ht, A, hA, hd⟩ := inverse_loop e m (by omega) hm
  obtain ⟨a, x⟩ := t
  simp only at hA hd
  subst hA
  unfold mFareInverse
  rw [ne0_nat (by omega), Option.bind_some, tmod_nat, ht, Option.bind_some]
  simp only [unc2]
  by_cases h1 : (A : Int) ≠ 1
  · rw [if_pos h1]
    exact ⟨_, _, rfl, fun h => by cases h⟩
  · rw [if_neg h1]
    have hA1 : A = 1 := by omega
    subst hA1
    have hl := Int.tmod_lt_of_pos x (show 0 < (m : Int) by omega)
    have hg := Int.lt_tmod_of_pos x (show 0 < (m : Int) by omega)
    obtain ⟨u, hu⟩ : ∃ u : Nat, x.tmod m + m = (u : Int) := ⟨(x.tmod m + m).toNat, by omega⟩
    rw [Option.bind_some, chk_ok (by omega) (by omega), Option.bind_some, Option.bind_some, hu, tmod_nat]
    refine ⟨_, _, rfl, fun _ => ⟨u % m, rfl, ?_, Nat.mod_lt _ (by omega), ?_⟩⟩
    all_goals
      have h3 : (m : Int) ∣ (u : Int) - x := by
        have h4 := Int.tmod_add_mul_tdiv x m
        refine ⟨1 - x.tdiv m, ?_⟩
        rw [← hu, Int.mul_sub]
        omega
      have h5 : (m : Int) ∣ (u : Int) * e - 1 := by
        have h6 := Int.dvd_add (dvd_mulR (b := (e : Int)) h3) hd
        have h7 : ((u : Int) - x) * (e : Int) + (x * (e : Int) - ((1 : Nat) : Int)) = (u : Int) * e - 1 := by
          rw [Int.sub_mul]
          omega
        rw [h7] at h6
        exact h6
      have h8 : e * (u % m) % m = 1 := by
        rw [Nat.mul_mod, Nat.mod_mod, ← Nat.mul_mod, Nat.mul_comm]
        obtain ⟨c, hc⟩ := h5
        have h9 : (((u * e) % m : Nat) : Int) = 1 := by
          rw [Int.natCast_emod, Int.natCast_mul, show (u : Int) * (e : Int) = 1 + (m : Int) * c by omega, Int.add_mul_emod_self_left, Int.emod_eq_of_lt (by omega) (by omega)]
        omega
    · rcases Nat.eq_zero_or_pos (u % m) with h | h
      · rw [h] at h8
        simp at h8
      · exact h
    · exact h8
/-- What a key is that was made. -/
structure KeyOk (N E D : Int) : Prop where
  ex : ∃ p q e d : Nat, N = ((p * q : Nat) : Int) ∧ E = (e : Int) ∧ D = (d : Int) ∧ Pr p ∧ Pr q ∧ p ≠ q ∧ 1009 ≤ p ∧ p ≤ 32749 ∧ 1009 ≤ q ∧ q ≤ 32749 ∧ 3 ≤ e ∧ e ≤ 32749 ∧ 1 ≤ d ∧ d < (p - 1) * (q - 1) ∧ e * d % ((p - 1) * (q - 1)) = 1
theorem makeKey_spec (p q e : Int) : ∃ N E D f, mFareMakeKey p q e = some (N, E, D, f) ∧ ((f ≠ 0 ∧ N = 0 ∧ E = 0 ∧ D = 0) ∨ (f = 0 ∧ KeyOk N E D)) := by
  unfold mFareMakeKey
  rw [within_spec, Option.bind_some]
  by_cases hp : 1009 ≤ p ∧ p ≤ 32749
  · rw [if_pos (decide_eq_true hp), within_spec, Option.bind_some]
    by_cases hq : 1009 ≤ q ∧ q ≤ 32749
    · rw [if_pos (decide_eq_true hq), within_spec, Option.bind_some]
      by_cases he : 3 ≤ e ∧ e ≤ 32749
      · rw [decide_eq_true he, Option.bind_some, if_neg (show ¬ ((!true) = true) by decide)]
        obtain ⟨P, rfl⟩ : ∃ P : Nat, p = (P : Int) := ⟨p.toNat, by omega⟩
        obtain ⟨Q, rfl⟩ : ∃ Q : Nat, q = (Q : Int) := ⟨q.toNat, by omega⟩
        obtain ⟨E, rfl⟩ : ∃ E : Nat, e = (E : Int) := ⟨e.toNat, by omega⟩
        obtain ⟨b1, hb1, hP⟩ := prime_spec P (by omega) (by omega)
        obtain ⟨b2, hb2, hQ⟩ := prime_spec Q (by omega) (by omega)
        rw [hb1, Option.bind_some]
        cases b1 with
        | false =>
          rw [if_neg (show ¬ (false = true) by decide), Option.bind_some, if_pos rfl]
          exact ⟨_, _, _, _, rfl, .inl ⟨by decide, rfl, rfl, rfl⟩⟩
        | true =>
          rw [if_pos rfl, hb2, Option.bind_some]
          cases b2 with
          | false =>
            rw [if_neg (show ¬ (false = true) by decide), Option.bind_some, if_pos rfl]
            exact ⟨_, _, _, _, rfl, .inl ⟨by decide, rfl, rfl, rfl⟩⟩
          | true =>
            rw [if_pos rfl, Option.bind_some]
            by_cases hpq : (P : Int) = (Q : Int)
            · rw [if_pos (decide_eq_true hpq)]
              exact ⟨_, _, _, _, rfl, .inl ⟨by decide, rfl, rfl, rfl⟩⟩
            · rw [if_neg (by rw [decide_eq_false hpq]; decide)]
              have e1 : ((P : Int) - 1) * ((Q : Int) - 1) = (((P - 1) * (Q - 1) : Nat) : Int) := by
                rw [Int.natCast_mul]
                congr 1 <;> omega
              have hb : (P - 1) * (Q - 1) ≤ 32748 * 32748 := Nat.mul_le_mul (by omega) (by omega)
              have hb' : 1008 * 1008 ≤ (P - 1) * (Q - 1) := Nat.mul_le_mul (by omega) (by omega)
              have hb3 : P * Q ≤ 32749 * 32749 := Nat.mul_le_mul (by omega) (by omega)
              rw [chk_ok (by omega) (by omega), Option.bind_some, chk_ok (by omega) (by omega), Option.bind_some, e1, chk_ok (by omega) (by omega), Option.bind_some]
              obtain ⟨x, b, hi, hx⟩ := inverse_spec E ((P - 1) * (Q - 1)) (by omega) (by omega)
              rw [hi, Option.bind_some]
              simp only [unc2]
              cases b with
              | false =>
                rw [if_neg (show ¬ (false = true) by decide)]
                exact ⟨_, _, _, _, rfl, .inl ⟨by decide, rfl, rfl, rfl⟩⟩
              | true =>
                obtain ⟨d, rfl, h1, h2, h3⟩ := hx rfl
                have e2 : (P : Int) * (Q : Int) = ((P * Q : Nat) : Int) := by rw [Int.natCast_mul]
                rw [if_pos rfl, e2, chk_ok (by omega) (by omega), Option.bind_some]
                exact ⟨_, _, _, _, rfl, .inr ⟨rfl, ⟨P, Q, E, d, rfl, rfl, rfl, hP rfl, hQ rfl, by omega, by omega, by omega, by omega, by omega, by omega, by omega, h1, h2, h3⟩⟩⟩
      · rw [decide_eq_false he, Option.bind_some, if_pos (show (!false) = true by decide)]
        exact ⟨_, _, _, _, rfl, .inl ⟨by decide, rfl, rfl, rfl⟩⟩
    · rw [if_neg (by rw [decide_eq_false hq]; decide), Option.bind_some, if_pos rfl]
      exact ⟨_, _, _, _, rfl, .inl ⟨by decide, rfl, rfl, rfl⟩⟩
  · rw [if_neg (by rw [decide_eq_false hp]; decide), Option.bind_some, if_pos rfl]
    exact ⟨_, _, _, _, rfl, .inl ⟨by decide, rfl, rfl, rfl⟩⟩

end Go.Proofs.YtglmhaihgpnogaaGreatDoor
