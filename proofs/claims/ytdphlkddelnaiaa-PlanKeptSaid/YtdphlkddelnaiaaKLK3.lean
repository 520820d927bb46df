/- Plain: the cheapest times within a table. -/
import Derived.Test.YtdphlkddelnaiaaKLK2
import Derived.KernelRfl
set_option linter.unusedVariables false
set_option linter.unusedSimpArgs false
namespace Go.Proofs.Ytdphlkddelnaiaa
open Go.RowKit Go.Fp

theorem bits_ex : ∀ (n : Nat) (S : Nat → Bool), (∀ i, n ≤ i → S i = false) → ∃ m : Nat, ∀ i, m.testBit i = S i
  | 0, S, h => ⟨0, fun i => by rw [Nat.zero_testBit, h i (Nat.zero_le _)]⟩
  | n + 1, S, h => by
    obtain ⟨m, hm⟩ := bits_ex n (fun i => S (i + 1)) (fun i hi => h (i + 1) (by omega))
    refine ⟨2 * m + (S 0).toNat, fun i => ?_⟩
    cases i with
    | zero =>
      rw [Nat.testBit_zero]
      cases S 0 <;> simp <;> omega
    | succ i =>
      rw [Nat.testBit_succ, show (2 * m + (S 0).toNat) / 2 = m by cases S 0 <;> simp <;> omega]
      exact hm i
theorem bit_all : ∀ (m : Fin 64) (i : Fin 6), (andI .i64 (shrI .i64 (m.val : Int) (i.val : Int)) 1) = if m.val.testBit i.val = true then 1 else 0 := by decide +kernel
theorem bit_one {m i : Nat} (hm : m < 64) (hi : i < 6) : (andI .i64 (shrI .i64 (m : Int) (i : Int)) 1 = 1) ↔ m.testBit i = true := by
  have h := bit_all ⟨m, hm⟩ ⟨i, hi⟩
  simp only at h
  rw [h]
  by_cases e : m.testBit i = true
  · simp [e]
  · simp [e]
theorem bit_nul {m i : Nat} (hm : m < 64) (hi : i < 6) : (andI .i64 (shrI .i64 (m : Int) (i : Int)) 1 = 0) ↔ ¬ m.testBit i = true := by
  have h := bit_all ⟨m, hm⟩ ⟨i, hi⟩
  simp only at h
  rw [h]
  by_cases e : m.testBit i = true
  · simp [e]
  · simp [e]
theorem pow_all : ∀ n : Fin 7, shlI .i64 1 (n.val : Int) = ((2 ^ n.val : Nat) : Int) := by decide +kernel
theorem pow_eq {n : Nat} (h : n ≤ 6) : shlI .i64 1 (n : Int) = ((2 ^ n : Nat) : Int) := pow_all ⟨n, by omega⟩
theorem pow_le {n : Nat} (h : n ≤ 6) : 2 ^ n ≤ 64 := by
  have := Nat.pow_le_pow_right (n := 2) (by decide) h
  simpa using this
theorem sumN_single {n a : Nat} {c : Int} : sumN n (fun i => if i = a then c else 0) = if a < n then c else 0 := by
  induction n with
  | zero => rfl
  | succ n ih =>
    unfold sumN
    rw [ih]
    dsimp only
    by_cases h : n = a
    · subst h
      rw [if_neg (by omega), if_pos rfl, if_pos (by omega)]
      omega
    · rw [if_neg h]
      by_cases h2 : a < n
      · rw [if_pos h2, if_pos (by omega)]
        omega
      · rw [if_neg h2, if_neg (by omega)]
        rfl
def rr (R : List PlanRule) (k : Nat) : PlanRule := (R[k]?).getD ⟨0, 0, 0, 0, 0⟩
theorem rr_at {R : List PlanRule} {k : Nat} (h : k < R.length) : rr R k = R[k] := by
  unfold rr
  rw [List.getElem?_eq_getElem h]
  rfl
def term (P : Int) (R : List PlanRule) (tk : List Int) (k : Nat) (s : Nat → Int) : Int := (rr R k).Weight * (s (rr R k).To.toNat - s (rr R k).From.toNat + tm tk k * P - (rr R k).Min)
def lin (P : Int) (R : List PlanRule) (tk : List Int) : Nat → (Nat → Int) → Int
  | 0, _ => 0
  | k + 1, s => lin P R tk k s + term P R tk k s
theorem tm_put {l : List Int} {i j : Nat} {v : Int} (hi : i < l.length) : tm (put l (i : Int) v) j = if j = i then v else tm l j := by
  unfold tm
  rw [put_nat]
  by_cases e : i = j
  · subst e
    rw [List.getElem?_set_self hi, if_pos rfl]
    rfl
  · rw [List.getElem?_set_ne e, if_neg (fun h => e h.symm)]
theorem tm_idx {l : List Int} {i : Nat} (hi : i < l.length) : idx l (i : Int) = some (tm l i) := by rw [idx_lt hi, tm_at hi]
/-- A leaf of the search: a table, and a multiple for each rule, by which all times of the table keep it. -/
structure Leaf (n : Nat) (P : Int) (R : List PlanRule) (b : List (List Int)) (tk : List Int) : Prop where
  mx : Mx n P b
  rng : ∀ s, Sol n (mg b) s → s 0 = 0 → ∀ j, j < n → 0 ≤ s j ∧ s j ≤ P - 1
  len : tk.length = R.length
  wth : ∀ k, k < R.length → ∀ s, Sol n (mg b) s → With P (rr R k) s (tm tk k)
section
variable {n : Nat} {P : Int} {R : List PlanRule} {b : List (List Int)} {tk : List Int}
theorem term_bd (C : Ctx n P R) (F : Leaf n P R b tk) {k : Nat} (hk : k < R.length) {s : Nat → Int} (hs : Sol n (mg b) s) : 0 ≤ term P R tk k s ∧ term P R tk k s ≤ 3600000 := by
  have hok := C.ok _ (List.getElem_mem hk)
  rw [← rr_at hk] at hok
  have hw := F.wth k hk s hs
  have mx := hok.max
  have pp := C.pp
  unfold With at hw
  have := wmul_bd (w := (rr R k).Weight) (g := s (rr R k).To.toNat - s (rr R k).From.toNat + tm tk k * P - (rr R k).Min) hok.wt (M := 3600) ⟨by omega, by omega⟩
  unfold term
  omega
theorem lin_bd (C : Ctx n P R) (F : Leaf n P R b tk) {s : Nat → Int} (hs : Sol n (mg b) s) : ∀ k, k ≤ R.length → 0 ≤ lin P R tk k s ∧ lin P R tk k s ≤ 3600000 * (k : Int)
  | 0, _ => by simp [lin]
  | k + 1, h => by
    have h1 := lin_bd C F hs k (by omega)
    have h2 := term_bd C F (k := k) (by omega) hs
    unfold lin
    rw [Int.natCast_add]
    simp only [Int.natCast_one]
    omega
theorem lin_cost (C : Ctx n P R) (F : Leaf n P R b tk) {s : Nat → Int} (hs : Sol n (mg b) s) : ∀ k, k ≤ R.length → lin P R tk k s = costR P (R.take k) s
  | 0, _ => by simp [lin, costR]
  | k + 1, h => by
    have hk : k < R.length := by omega
    have hok := C.ok _ (List.getElem_mem hk)
    unfold lin
    rw [lin_cost C F hs k (by omega), List.take_succ_eq_append_getElem hk, costR_app, costR_one]
    have hw := F.wth k hk s hs
    rw [rr_at hk] at hw
    unfold term wc
    rw [rr_at hk, wc_with C.pp.1 hok.max.2 hw]
/-- The first times, and their cost with the slopes. -/
theorem first_spec (C : Ctx n P R) (F : Leaf n P R b tk) : ∃ T, forS mPlanCheapest_L4813 ((List.replicate n (0 : Int)).length) 0 (some b, List.replicate n (0 : Int)) = some (some b, T) ∧ T.length = n ∧ ∀ i, i < n → tm T i = - mg b i 0 := by
  have n8 := C.n8
  have pp := C.pp
  obtain ⟨st, h1, h2, h3, h4⟩ := forS_inv (body := mPlanCheapest_L4813) (fun k st => st.1 = some b ∧ st.2.length = n ∧ ∀ i, i < k → tm st.2 i = - mg b i 0) ((List.replicate n (0 : Int)).length) 0 (some b, List.replicate n (0 : Int)) ⟨rfl, List.length_replicate, fun i hi => absurd hi (by omega)⟩ (fun k st _ hk hi => by
    obtain ⟨q, T⟩ := st
    obtain ⟨g1, g2, g3⟩ := hi
    simp only at g1 g2 g3
    subst g1
    rw [List.length_replicate] at hk
    have hk' : k < n := by omega
    obtain ⟨r, r1, r2, r3, r4⟩ := F.mx.sq.at (i := k) (by omega)
    have h0 := r4 0 (by omega)
    have v1 := F.mx.le k 0 hk' C.n1
    have v2 := F.mx.ge hk' C.n1
    unfold mPlanCheapest_L4813
    simp only [unc2]
    rw [Option.bind_some, r1, Option.bind_some, show idx r 0 = some (mg b k 0) from h0, Option.bind_some, chk_ok (by omega) (by omega), Option.bind_some, tm_idx (show k < T.length by omega), Option.bind_some]
    refine ⟨_, rfl, rfl, by rw [put_length]; exact g2, fun i hi => ?_⟩
    rw [tm_put (by omega)]
    by_cases e : i = k
    · rw [if_pos e, e]
    · rw [if_neg e]
      exact g3 i (by omega))
  obtain ⟨q, T⟩ := st
  simp only at h2 h3 h4
  subst h2
  exact ⟨T, h1, h3, fun i hi => h4 i (by rw [List.length_replicate]; omega)⟩
theorem slope_spec (C : Ctx n P R) (F : Leaf n P R b tk) {T : List Int} (hT : T.length = n) (hs : Sol n (mg b) (tm T)) (h0 : tm T 0 = 0) :
    ∃ v σ, forS (mPlanCheapest_L5112 ⟨P, (n : Int), R⟩ tk T) R.length 0 (0, List.replicate n (0 : Int)) = some (v, σ) ∧ v = lin P R tk R.length (tm T) ∧ σ.length = n ∧ (∀ i, i < n → -40000 ≤ tm σ i ∧ tm σ i ≤ 40000) ∧
      ∃ K, ∀ s, lin P R tk R.length s = sumN n (fun i => tm σ i * s i) + K := by
  have n8 := C.n8
  have pp := C.pp
  have hl := C.len
  obtain ⟨⟨v, σ⟩, h1, h2, h3, h4, h5⟩ := forS_inv (body := mPlanCheapest_L5112 ⟨P, (n : Int), R⟩ tk T) (fun k st => st.1 = lin P R tk k (tm T) ∧ st.2.length = n ∧ (∀ i, i < n → -1000 * (k : Int) ≤ tm st.2 i ∧ tm st.2 i ≤ 1000 * (k : Int)) ∧ ∃ K, ∀ s, lin P R tk k s = sumN n (fun i => tm st.2 i * s i) + K) R.length 0 (0, List.replicate n (0 : Int))
    ⟨rfl, List.length_replicate, fun i hi => by
      unfold tm
      simp only
      rw [List.getElem?_replicate, if_pos hi]
      simp, 0, fun s => by
      have : sumN n (fun i => tm (List.replicate n (0 : Int)) i * s i) = sumN n (fun _ => 0) := sumN_congr (fun i hi => by
        unfold tm
        rw [List.getElem?_replicate, if_pos hi]
        simp)
      simp only
      rw [this, sumN_zero]
      rfl⟩ (fun k st _ hk hi => by
      obtain ⟨v, σ⟩ := st
      obtain ⟨g1, g2, g3, K, g4⟩ := hi
      simp only at g1 g2 g3 g4
      have hk' : k < R.length := by omega
      have hok := C.ok _ (List.getElem_mem hk')
      have f := hok.f
      have t := hok.t
      have ne := hok.ne
      have wt := hok.wt
      have mi := hok.min
      have mx := hok.max
      obtain ⟨a, ha⟩ : ∃ a : Nat, R[k].From = (a : Int) := ⟨R[k].From.toNat, by omega⟩
      obtain ⟨c, hc⟩ : ∃ c : Nat, R[k].To = (c : Int) := ⟨R[k].To.toNat, by omega⟩
      have han : a < n := by omega
      have hcn : c < n := by omega
      have hac : a ≠ c := fun e => ne (by rw [ha, hc, e])
      have hw := F.wth k hk' (tm T) hs
      have hterm := term_bd C F hk' hs
      have hlin := lin_bd C F hs k (by omega)
      have eterm : term P R tk k (tm T) = R[k].Weight * (tm T c - tm T a + tm tk k * P - R[k].Min) := by
        unfold term
        rw [rr_at hk', ha, hc, Int.toNat_natCast, Int.toNat_natCast]
      rw [eterm] at hterm
      unfold With at hw
      rw [rr_at hk', ha, hc, Int.toNat_natCast, Int.toNat_natCast] at hw
      have rc := F.rng (tm T) hs h0 c hcn
      have ra := F.rng (tm T) hs h0 a han
      have s1 := g3 c hcn
      have s2 := g3 a han
      have hkl : (k : Int) < 40 := by omega
      unfold mPlanCheapest_L5112
      simp only [unc2]
      rw [idx_lt hk', Option.bind_some, hc, ha, tm_idx (show c < σ.length by omega), Option.bind_some, chk_ok (by omega) (by omega), Option.bind_some, Option.bind_some, tm_idx (show a < (put σ (c : Int) (tm σ c + R[k].Weight)).length by rw [put_length]; omega), Option.bind_some, tm_put (by omega), if_neg hac, chk_ok (by omega) (by omega), Option.bind_some, Option.bind_some, tm_idx (show c < T.length by omega), Option.bind_some, tm_idx (show a < T.length by omega), Option.bind_some, chk_ok (by omega) (by omega), Option.bind_some, tm_idx (show k < tk.length by rw [F.len]; exact hk'), Option.bind_some, chk_ok (by omega) (by omega), Option.bind_some, chk_ok (by omega) (by omega), Option.bind_some, chk_ok (by omega) (by omega), Option.bind_some, chk_ok (by omega) (by omega), Option.bind_some, chk_ok (by omega) (by omega), Option.bind_some]
      have hσ : ∀ i, i < n → tm (put (put σ (c : Int) (tm σ c + R[k].Weight)) (a : Int) (tm σ a - R[k].Weight)) i = tm σ i + (if i = c then R[k].Weight else 0) - (if i = a then R[k].Weight else 0) := fun i hi => by
        rw [tm_put (by rw [put_length]; omega), tm_put (by omega)]
        by_cases e1 : i = a
        · rw [if_pos e1, if_neg (by omega), if_pos e1, e1]
          omega
        · rw [if_neg e1, if_neg e1]
          by_cases e2 : i = c
          · rw [if_pos e2, if_pos e2, e2]
            omega
          · rw [if_neg e2, if_neg e2]
            omega
      refine ⟨_, rfl, ?_, by rw [put_length, put_length]; exact g2, fun i hi => ?_, K + R[k].Weight * (tm tk k * P - R[k].Min), fun s => ?_⟩
      · simp only
        rw [g1, ← eterm]
        rfl
      · simp only
        rw [hσ i hi]
        have := g3 i hi
        rw [Int.natCast_add]
        simp only [Int.natCast_one]
        split <;> split <;> omega
      · simp only
        have e1 : sumN n (fun i => tm (put (put σ (c : Int) (tm σ c + R[k].Weight)) (a : Int) (tm σ a - R[k].Weight)) i * s i) = sumN n (fun i => tm σ i * s i) + (R[k].Weight * s c - R[k].Weight * s a) := by
          have h1 := sumN_single (n := n) (a := c) (c := R[k].Weight * s c)
          have h2 := sumN_single (n := n) (a := a) (c := R[k].Weight * s a)
          rw [if_pos hcn] at h1
          rw [if_pos han] at h2
          rw [← h1, ← h2, ← sumN_sub, ← sumN_add]
          refine sumN_congr (fun i hi => ?_)
          rw [hσ i hi, Int.sub_mul, Int.add_mul]
          by_cases e1 : i = c
          · rw [if_pos e1, if_pos e1, e1, if_neg (fun h => hac h.symm), if_neg (fun h => hac h.symm)]
            omega
          · rw [if_neg e1, if_neg e1]
            by_cases e2 : i = a
            · rw [if_pos e2, if_pos e2, e2]
              omega
            · rw [if_neg e2, if_neg e2]
              omega
        unfold lin
        rw [e1, g4 s]
        unfold term
        rw [rr_at hk', ha, hc, Int.toNat_natCast, Int.toNat_natCast]
        have e3 : R[k].Weight * (s c - s a + tm tk k * P - R[k].Min) = R[k].Weight * s c - R[k].Weight * s a + R[k].Weight * (tm tk k * P - R[k].Min) := by
          rw [← Int.mul_sub, ← Int.mul_add]
          congr 1
          omega
        rw [e3]
        omega)
  simp only at h2 h3 h4 h5
  rw [Nat.zero_add] at h2 h4 h5
  exact ⟨v, σ, h1, h2, h3, fun i hi => by have := h4 i hi; omega, h5⟩
end
end Go.Proofs.Ytdphlkddelnaiaa
