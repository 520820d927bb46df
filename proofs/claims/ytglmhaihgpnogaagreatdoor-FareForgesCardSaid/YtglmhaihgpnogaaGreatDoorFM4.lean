/- Plain: powers, digests, signatures. -/
import Derived.Test.YtglmhaihgpnogaaGreatDoorFM3
import Derived.Test.YtglmhaihgpnogaaGreatDoorFMS
set_option linter.unusedVariables false
set_option linter.unusedSimpArgs false
namespace Go.Proofs.YtglmhaihgpnogaaGreatDoor
open Go.RowKit Go.Fp

theorem and_one {K : Nat} (h : K < 9223372036854775808) : andI .i64 (K : Int) 1 = ((K % 2 : Nat) : Int) := by
  have h1 : (BitVec.ofInt 64 (K : Int) &&& BitVec.ofInt 64 1).toNat = K % 2 := by
    rw [BitVec.toNat_and]
    have e1 : (BitVec.ofInt 64 (K : Int)).toNat = K := by
      rw [BitVec.toNat_ofInt]
      omega
    have e2 : (BitVec.ofInt 64 1).toNat = 1 := by decide
    rw [e1, e2, Nat.and_one_is_mod]
  unfold andI
  show IntKind.wrap .i64 ((BitVec.ofInt 64 (K : Int) &&& BitVec.ofInt 64 1).toNat : Int) = _
  rw [h1]
  have h2 : K % 2 = 0 ∨ K % 2 = 1 := by omega
  rcases h2 with e | e <;> rw [e] <;> decide
theorem shr_one (K : Nat) : shrI .i64 (K : Int) 1 = ((K / 2 : Nat) : Int) := by
  unfold shrI
  show (K : Int).fdiv (2 ^ 1) = _
  rw [Int.fdiv_eq_ediv_of_nonneg _ (by decide)]
  omega
theorem pow_odd (X K : Nat) (h : K % 2 = 1) : X ^ K = X * (X * X) ^ (K / 2) := by
  have : K = 1 + 2 * (K / 2) := by omega
  rw [← Nat.pow_two, ← Nat.pow_mul, ← Nat.pow_add_one']
  congr 1
  omega
theorem pow_even (X K : Nat) (h : ¬ K % 2 = 1) : X ^ K = (X * X) ^ (K / 2) := by
  rw [← Nat.pow_two, ← Nat.pow_mul]
  congr 1
  omega
theorem power_spec (x n m : Nat) (hn : n < 9223372036854775808) (hm1 : 1 < m) (hm : m ≤ 2000000000) : mFarePower (x : Int) (n : Int) (m : Int) = some ((x ^ n % m : Nat) : Int) := by
  have hl : ∃ t, loopM (mFarePower_L172 (m : Int)) (((x % m : Nat) : Int), (n : Int), ((1 % m : Nat) : Int)) = some t ∧ t = ((x ^ n % m : Nat) : Int) := by
    refine loopM_inv (step := mFarePower_L172 (m : Int)) (fun s => ∃ X K O : Nat, s = ((X : Int), (K : Int), (O : Int)) ∧ X < m ∧ O < m ∧ K ≤ n ∧ O * X ^ K % m = x ^ n % m) (fun t => t = ((x ^ n % m : Nat) : Int)) (fun s => s.2.1.toNat) ?_ _ ⟨x % m, n, 1 % m, rfl, Nat.mod_lt _ (by omega), Nat.mod_lt _ (by omega), Nat.le_refl _, ?_⟩
    · rintro s ⟨X, K, O, rfl, hX, hO, hK, hI⟩
      unfold mFarePower_L172
      simp only [unc3]
      by_cases hK0 : 0 < (K : Int)
      · left
        have hXX : X * X ≤ 2000000000 * 2000000000 := Nat.mul_le_mul (by omega) (by omega)
        have hOX : O * X ≤ 2000000000 * 2000000000 := Nat.mul_le_mul (by omega) (by omega)
        have e1 : (X : Int) * (X : Int) = ((X * X : Nat) : Int) := by rw [Int.natCast_mul]
        have e2 : (O : Int) * (X : Int) = ((O * X : Nat) : Int) := by rw [Int.natCast_mul]
        rw [if_pos hK0, and_one (by omega), e1, e2]
        by_cases hod : K % 2 = 1
        · rw [hod, if_pos (by rfl), chk_ok (by omega) (by omega), Option.bind_some, ne0_nat (by omega), Option.bind_some, Option.bind_some, chk_ok (by omega) (by omega), Option.bind_some, Option.bind_some, shN_ok (by decide), Option.bind_some, tmod_nat, tmod_nat, shr_one]
          refine ⟨_, rfl, ⟨X * X % m, K / 2, O * X % m, rfl, Nat.mod_lt _ (by omega), Nat.mod_lt _ (by omega), by omega, ?_⟩, by show ((K / 2 : Nat) : Int).toNat < (K : Int).toNat; omega⟩
          rw [← hI, pow_odd X K hod, ← Nat.mul_assoc, Nat.mul_mod, Nat.mod_mod, ← Nat.pow_mod, ← Nat.mul_mod]
        · rw [if_neg (by omega), Option.bind_some, chk_ok (by omega) (by omega), Option.bind_some, ne0_nat (by omega), Option.bind_some, shN_ok (by decide), Option.bind_some, tmod_nat, shr_one]
          refine ⟨_, rfl, ⟨X * X % m, K / 2, O, rfl, Nat.mod_lt _ (by omega), hO, by omega, ?_⟩, by show ((K / 2 : Nat) : Int).toNat < (K : Int).toNat; omega⟩
          rw [← hI, pow_even X K hod, Nat.mul_mod, ← Nat.pow_mod, ← Nat.mul_mod]
      · right
        have : K = 0 := by omega
        subst this
        refine ⟨_, by rw [if_neg hK0], ?_⟩
        rw [Nat.pow_zero, Nat.mul_one, Nat.mod_eq_of_lt hO] at hI
        rw [hI]
    · rw [Nat.mul_mod, Nat.mod_mod, ← Nat.pow_mod, ← Nat.mul_mod, Nat.one_mul]
  obtain ⟨t, ht, rfl⟩ := hl
  unfold mFarePower
  rw [ne0_nat (by omega), Option.bind_some, Option.bind_some, tmod_nat, show Int.tmod 1 (m : Int) = ((1 % m : Nat) : Int) from tmod_nat 1 m, ht, Option.bind_some]

/- ---- digests ---- -/
def dgs (h : Nat) (l : List UInt8) : Nat := l.foldl (fun h c => (h * 257 + c.toNat + 1) % 999983) h
def dg (l : List UInt8) : Nat := dgs 1 l
theorem dgs_lt (l : List UInt8) : ∀ h, h < 999983 → dgs h l < 999983 := by
  induction l with
  | nil => exact fun h hh => hh
  | cons c r ih => exact fun h _ => ih _ (Nat.mod_lt _ (by omega))
theorem dg_lt (l : List UInt8) : dg l < 999983 := dgs_lt l 1 (by omega)
theorem wrap_byte : ∀ b : Fin 256, IntKind.wrap .i64 (b.val : Int) = (b.val : Int) := by decide +kernel
theorem sIdx_bs {l : List UInt8} {k : Nat} (h : k < l.length) : sIdx (bs l) (k : Int) = some (l[k].toNat : Int) := by
  unfold sIdx
  have hs : k < (bs l).size := by rw [bs_size]; exact h
  rw [if_pos (by omega), Int.toNat_natCast, getElem?_pos (bs l) k hs]
  rfl
theorem digest_spec (l : List UInt8) (hl : l.length ≤ 1000000) : mFareDigest (bs l) = some (dg l : Int) := by
  unfold mFareDigest
  rw [bs_size, chk_ok (by omega) (by omega), Option.bind_some, Int.toNat_natCast]
  obtain ⟨s, h1, h2⟩ := forS_inv (body := mFareDigest_L30 (bs l)) (fun k s => s = (dgs 1 (l.take k) : Int)) l.length 0 1 rfl (fun k s _ hk hs => by
    subst hs
    have hkl : k < l.length := by omega
    have hb := dgs_lt (l.take k) 1 (by omega)
    have hu := UInt8.toNat_lt l[k]
    unfold mFareDigest_L30
    rw [chk_ok (by omega) (by omega), Option.bind_some, sIdx_bs hkl, Option.bind_some, show IntKind.wrap .i64 (l[k].toNat : Int) = (l[k].toNat : Int) from wrap_byte ⟨l[k].toNat, by omega⟩, chk_ok (by omega) (by omega), Option.bind_some, chk_ok (by omega) (by omega), Option.bind_some]
    refine ⟨_, rfl, ?_⟩
    rw [show ((dgs 1 (l.take k) : Int) * 257 + (l[k].toNat : Int) + 1) = ((dgs 1 (l.take k) * 257 + l[k].toNat + 1 : Nat) : Int) by omega, show (999983 : Int) = ((999983 : Nat) : Int) from rfl, tmod_nat, ← List.take_append_getElem hkl]
    unfold dgs
    rw [List.foldl_append]
    rfl)
  rw [h1, Option.bind_some, h2]
  simp [dg]
theorem step_inj {h g k : Nat} (hh : h < 999983) (hg : g < 999983) (he : (h * 257 + k + 1) % 999983 = (g * 257 + k + 1) % 999983) : h = g := by
  have key : ∀ {h g : Nat}, h < 999983 → g ≤ h → (h * 257 + k + 1) % 999983 = (g * 257 + k + 1) % 999983 → h = g := fun {h g} hh hle he => by
    have d : 999983 ∣ (h * 257 + k + 1) - (g * 257 + k + 1) := Nat.dvd_of_mod_eq_zero (Nat.sub_mod_eq_zero_of_mod_eq he)
    have e : (h * 257 + k + 1) - (g * 257 + k + 1) = (h - g) * 257 := by omega
    rw [e] at d
    have d2 : 999983 ∣ (h - g) := (show Nat.Coprime 999983 257 by decide).dvd_of_dvd_mul_right d
    rcases Nat.eq_zero_or_pos (h - g) with h0 | h0
    · omega
    · have := Nat.le_of_dvd h0 d2
      omega
  rcases Nat.le_total g h with hle | hle
  · exact key hh hle he
  · exact (key hg hle he.symm).symm
theorem dgs_inj (l : List UInt8) : ∀ {h g : Nat}, h < 999983 → g < 999983 → dgs h l = dgs g l → h = g := by
  induction l with
  | nil => exact fun _ _ he => he
  | cons c r ih => exact fun hh hg he => step_inj hh hg (ih (Nat.mod_lt _ (by omega)) (Nat.mod_lt _ (by omega)) he)
/-- One byte changed changes the digest. -/
theorem dg_change (p s : List UInt8) {c d : UInt8} (h : c ≠ d) : dg (p ++ c :: s) ≠ dg (p ++ d :: s) := fun he => by
  unfold dg dgs at he
  rw [List.foldl_append, List.foldl_append, List.foldl_cons, List.foldl_cons] at he
  have hb := dgs_lt p 1 (by omega)
  unfold dgs at hb
  generalize List.foldl (fun h c => (h * 257 + c.toNat + 1) % 999983) 1 p = g at *
  have h1 := dgs_inj s (Nat.mod_lt _ (by omega)) (Nat.mod_lt _ (by omega)) he
  have hc := UInt8.toNat_lt c
  have hd := UInt8.toNat_lt d
  have : c.toNat = d.toNat := by omega
  exact h (UInt8.toNat_inj.1 this)
theorem within_nat (x a b : Nat) : mFareWithin (x : Int) (a : Int) (b : Int) = some (decide (a ≤ x ∧ x ≤ b)) := by
  rw [within_spec]
  congr 1
  rw [decide_eq_decide]
  omega
theorem keyCheck_ok {N E D : Int} (h : KeyOk N E D) (D' : Int) : mFareKeyCheck ⟨N, E, D⟩ true = some 0 ∧ mFareKeyCheck ⟨N, E, D'⟩ false = some 0 := by
  obtain ⟨p, q, e, d, rfl, rfl, rfl, hp, hq, hne, p0, p1, q0, q1, e0, e1, d0, d1, hed⟩ := h.ex
  have hb1 : 1009 * 1009 ≤ p * q := Nat.mul_le_mul p0 q0
  have hb2 : p * q ≤ 32749 * 32749 := Nat.mul_le_mul p1 q1
  have hb3 : (p - 1) * (q - 1) ≤ (p - 1) * q := Nat.mul_le_mul_left _ (by omega)
  have hb4 : (p - 1) * q = p * q - q := by rw [Nat.sub_mul, Nat.one_mul]
  unfold mFareKeyCheck
  simp only [within_spec, Option.bind_some]
  rw [chk_ok (by omega) (by omega)]
  have a1 : (1018081 : Int) ≤ ((p * q : Nat) : Int) ∧ ((p * q : Nat) : Int) ≤ 1072497001 := by omega
  have a2 : (3 : Int) ≤ (e : Int) ∧ (e : Int) ≤ 32749 := by omega
  have a3 : (1 : Int) ≤ (d : Int) ∧ (d : Int) ≤ ((p * q : Nat) : Int) - 1 := by omega
  simp only [decide_eq_true a1, decide_eq_true a2, Option.bind_some, decide_eq_true a3]
  exact ⟨rfl, rfl⟩
/-- What is known of a key and a text that it signs: the signature, and that no other number is one. -/
theorem sign_spec {N E D : Int} (h : KeyOk N E D) (l : List UInt8) (hl : l.length ≤ 1000000) : ∃ s : Nat, mFareSign ⟨N, E, D⟩ (bs l) = some ((s : Int), 0) ∧ s < 1072497002 ∧
    (∀ (D' : Int), mFareVerify ⟨N, E, D'⟩ (bs l) (s : Int) = some (true, 0)) ∧
    (∀ (D' : Int) (x : Int), x ≠ (s : Int) → mFareVerify ⟨N, E, D'⟩ (bs l) x = some (false, 0)) ∧
    (∀ (D' : Int) (m : List UInt8), m.length ≤ 1000000 → dg m ≠ dg l → mFareVerify ⟨N, E, D'⟩ (bs m) (s : Int) = some (false, 0)) := by
  have hk := fun D' => keyCheck_ok h D'
  obtain ⟨p, q, e, d, rfl, rfl, rfl, hp, hq, hne, p0, p1, q0, q1, e0, e1, d0, d1, hed⟩ := h.ex
  have hb1 : 1009 * 1009 ≤ p * q := Nat.mul_le_mul p0 q0
  have hb2 : p * q ≤ 32749 * 32749 := Nat.mul_le_mul p1 q1
  have hb3 : (p - 1) * (q - 1) ≤ (p - 1) * q := Nat.mul_le_mul_left _ (by omega)
  have hb4 : (p - 1) * q = p * q - q := by rw [Nat.sub_mul, Nat.one_mul]
  have hdg := dg_lt l
  have hv : ∀ (D' : Int) (m : List UInt8) (x : Int), m.length ≤ 1000000 → mFareVerify ⟨((p * q : Nat) : Int), (e : Int), D'⟩ (bs m) x = some (decide (0 ≤ x ∧ x ≤ ((p * q : Nat) : Int) - 1 ∧ (x.toNat ^ e % (p * q)) = dg m), 0) := fun D' m x hm => by
    unfold mFareVerify
    rw [(hk D').2, Option.bind_some, if_neg (by decide)]
    show ((chk (((p * q : Nat) : Int) - 1)).bind fun _ => (mFareWithin x 0 (((p * q : Nat) : Int) - 1)).bind _).bind _ = _
    rw [chk_ok (by omega) (by omega), Option.bind_some, within_spec, Option.bind_some]
    by_cases hx : 0 ≤ x ∧ x ≤ ((p * q : Nat) : Int) - 1
    · obtain ⟨X, rfl⟩ : ∃ X : Nat, x = (X : Int) := ⟨x.toNat, by omega⟩
      rw [if_pos (decide_eq_true hx)]
      show ((mFarePower (X : Int) (e : Int) ((p * q : Nat) : Int)).bind _).bind _ = _
      rw [power_spec X e (p * q) (by omega) (by omega) (by omega), Option.bind_some, digest_spec m hm, Option.bind_some, Option.bind_some, Int.toNat_natCast]
      congr 2
      rw [decide_eq_decide]
      constructor
      · intro he
        exact ⟨hx.1, hx.2, by omega⟩
      · intro he
        have := he.2.2
        omega
    · rw [if_neg (by rw [decide_eq_false hx]; decide), Option.bind_some]
      rw [decide_eq_false (fun he => hx ⟨he.1, he.2.1⟩)]
  have hlt : ∀ a : Nat, a % (p * q) < p * q := fun a => Nat.mod_lt _ (by omega)
  have hinv : ∀ a : Nat, a < p * q → ((a ^ e % (p * q)) ^ d) % (p * q) = a := fun a ha => by
    rw [← Nat.pow_mod, rsa hp hq hne hed, Nat.mod_eq_of_lt ha]
  have hsig : ((dg l ^ d % (p * q)) ^ e) % (p * q) = dg l := by
    rw [← Nat.pow_mod, ← Nat.pow_mul, Nat.mul_comm d e, Nat.pow_mul, rsa hp hq hne hed, Nat.mod_eq_of_lt (by omega)]
  refine ⟨dg l ^ d % (p * q), ?_, by have := hlt (dg l ^ d); omega, fun D' => ?_, fun D' x hx => ?_, fun D' m hm hne' => ?_⟩
  · unfold mFareSign
    rw [(hk 0).1, Option.bind_some, if_neg (by decide), digest_spec l hl, Option.bind_some]
    show ((mFarePower (dg l : Int) (d : Int) ((p * q : Nat) : Int)).bind _).bind _ = _
    rw [power_spec (dg l) d (p * q) (by omega) (by omega) (by omega), Option.bind_some, Option.bind_some]
  · rw [hv D' l _ hl, Int.toNat_natCast, hsig, decide_eq_true]
    have := hlt (dg l ^ d)
    exact ⟨by omega, by omega, rfl⟩
  · rw [hv D' l x hl, decide_eq_false]
    rintro ⟨h1, h2, h3⟩
    have h4 := hinv x.toNat (by omega)
    rw [h3] at h4
    omega
  · rw [hv D' m _ hm, Int.toNat_natCast, hsig, decide_eq_false]
    rintro ⟨_, _, h3⟩
    exact hne' h3.symm

end Go.Proofs.YtglmhaihgpnogaaGreatDoor
