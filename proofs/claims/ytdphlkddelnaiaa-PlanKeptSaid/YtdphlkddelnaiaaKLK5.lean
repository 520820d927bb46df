/- Plain: the descent ends at the cheapest times. -/
import Derived.Test.YtdphlkddelnaiaaKLK4
set_option linter.unusedVariables false
set_option linter.unusedSimpArgs false
namespace Go.Proofs.Ytdphlkddelnaiaa
open Go.RowKit Go.Fp

theorem passL {α β γ τ : Type} {A : α → Option γ} {B : β → Option γ} {a : α} : (some (Sum.inl a : α ⊕ β)).bind (fun t => Sum.elim A B t) = A a := rfl
section
variable {n : Nat} {P : Int} {R : List PlanRule} {b : List (List Int)} {tk : List Int}
structure J (n : Nat) (P : Int) (R : List PlanRule) (b : List (List Int)) (tk : List Int) (v : Int) (T : List Int) : Prop where
  len : T.length = n
  sol : Sol n (mg b) (tm T)
  zero : tm T 0 = 0
  val : v = lin P R tk R.length (tm T)
def mu (n : Nat) (P : Int) (R : List PlanRule) (tk T : List Int) : Nat := (lin P R tk R.length (tm T)).toNat * 30000 + (sumN n (tm T)).toNat
theorem sum_bd (C : Ctx n P R) (h6 : n ≤ 6) (F : Leaf n P R b tk) {v : Int} {T : List Int} (h : J n P R b tk v T) : 0 ≤ sumN n (tm T) ∧ sumN n (tm T) ≤ 21600 := by
  have hr := F.rng _ h.sol h.zero
  have pp := C.pp
  have h1 := sumN_le (n := n) (f := fun _ => 0) (g := tm T) (fun i hi => (hr i hi).1)
  rw [sumN_zero] at h1
  have h2 := sumN_bd (n := n) (f := tm T) (M := 3600) (fun i hi => by have := (hr i hi).2; omega)
  omega
theorem step_sol {B : Nat → Nat → Int} {t : Nat → Int} {S : Nat → Bool} {sg m : Int} (hs : Sol n B t) (hsg : sg = 1 ∨ sg = -1) (hI : RoomI n P sg B t S (fun _ _ => True) m) : Sol n B (step S t (sg * m)) := fun i j hi hj => by
  have a1 := hs i j hi hj
  have hb := hI.bd
  unfold step
  by_cases c1 : S i = true
  · by_cases c2 : S j = true
    · rw [if_pos c1, if_pos c2]
      omega
    · rw [if_pos c1, if_neg c2]
      have := hI.le i j hi hj trivial c1 c2
      unfold slk at this
      rcases hsg with rfl | rfl
      · omega
      · rw [if_neg (by omega)] at this
        omega
  · by_cases c2 : S j = true
    · rw [if_neg c1, if_pos c2]
      have := hI.le j i hj hi trivial c2 c1
      unfold slk at this
      rcases hsg with rfl | rfl
      · rw [if_pos (by omega)] at this
        omega
      · omega
    · rw [if_neg c1, if_neg c2]
      exact a1
theorem step_not {B : Nat → Nat → Int} {t : Nat → Int} {S : Nat → Bool} {sg : Int} (hP : 2 ≤ P) (hsg : sg = 1 ∨ sg = -1) (hI : RoomI n P sg B t S (fun _ _ => True) 0) : ¬ Sol n B (step S t sg) := fun hs => by
  rcases hI.src with h | ⟨i, k, hi, hk, h1, h2, h3⟩
  · omega
  · unfold slk at h3
    rcases hsg with rfl | rfl
    · have := hs k i hk hi
      unfold step at this
      rw [if_pos h1, if_neg h2] at this
      rw [if_pos (by omega)] at h3
      omega
    · have := hs i k hi hk
      unfold step at this
      rw [if_pos h1, if_neg h2] at this
      rw [if_neg (by omega)] at h3
      omega
/-- What has been looked at, and found to be of no use. -/
def Tried (n : Nat) (B : Nat → Nat → Int) (σ t : Nat → Int) (m : Nat) : Prop := (rate n σ (bitS m) < 0 → ¬ Sol n B (step (bitS m) t 1)) ∧ (0 < rate n σ (bitS m) → ¬ Sol n B (step (bitS m) t (-1)))
theorem opt_of {B : Nat → Nat → Int} {σ t : Nat → Int} (h : ∀ m : Nat, 2 ≤ m → m < 2 ^ n → m % 2 = 0 → Tried n B σ t m) : Opt n B σ t := fun S h0 hn ⟨i, hi, hS⟩ => by
  obtain ⟨m, hm⟩ := bits_ex n S hn
  have e : bitS m = S := funext hm
  have h1 : m % 2 = 0 := by
    have := hm 0
    rw [h0, Nat.testBit_zero] at this
    have := of_decide_eq_false this
    omega
  have h2 : m < 2 ^ n := Nat.lt_pow_two_of_testBit m (fun j hj => by rw [hm j, hn j hj])
  have h3 : m ≠ 0 := fun e0 => by
    subst e0
    have := hm i
    rw [Nat.zero_testBit, hS] at this
    cases this
  have := h m (by omega) h2 h1
  unfold Tried at this
  rw [e] at this
  exact this
theorem descent_step (C : Ctx n P R) (h6 : n ≤ 6) (F : Leaf n P R b tk) {σ : List Int} (hσ : σ.length = n) (hb : ∀ i, i < n → -40000 ≤ tm σ i ∧ tm σ i ≤ 40000) {K : Int} (hK : ∀ s, lin P R tk R.length s = sumN n (fun i => tm σ i * s i) + K)
    {v : Int} {T : List Int} (h : J n P R b tk v T) {m : Nat} (hm2 : 2 ≤ m) (hm : m < 2 ^ n) (he : m % 2 = 0) {sg r : Int} (hsg : sg = if rate n (tm σ) (bitS m) < 0 then 1 else -1) (hI : RoomI n P sg (mg b) (tm T) (bitS m) (fun _ _ => True) r) (hr0 : 0 < r)
    {U : List Int} (hU : U.length = n) (hUs : ∀ i, i < n → tm U i = step (bitS m) (tm T) (sg * r) i) : J n P R b tk (v + sg * r * rate n (tm σ) (bitS m)) U ∧ mu n P R tk U < mu n P R tk T := by
  have hs1 : sg = 1 ∨ sg = -1 := by
    rw [hsg]
    split <;> omega
  have hsol := step_sol (n := n) (P := P) h.sol hs1 hI
  have n1 := C.n1
  have hb0 : bitS m 0 = false := by
    unfold bitS
    rw [Nat.testBit_zero]
    exact decide_eq_false (by omega)
  have hsU : Sol n (mg b) (tm U) := fun i j hi hj => by
    rw [hUs i hi, hUs j hj]
    exact hsol i j hi hj
  have hU0 : tm U 0 = 0 := by
    rw [hUs 0 n1]
    unfold step
    rw [hb0, if_neg (by decide)]
    exact h.zero
  have hlin : lin P R tk R.length (tm U) = lin P R tk R.length (tm T) + sg * r * rate n (tm σ) (bitS m) := by
    rw [hK, hK, sumN_congr (f := fun i => tm σ i * tm U i) (g := fun i => tm σ i * step (bitS m) (tm T) (sg * r) i) (fun i hi => by rw [hUs i hi]), step_sum]
    omega
  have hJ : J n P R b tk (v + sg * r * rate n (tm σ) (bitS m)) U := ⟨hU, hsU, hU0, by rw [hlin, h.val]⟩
  refine ⟨hJ, ?_⟩
  have l1 := lin_bd C F h.sol R.length (Nat.le_refl _)
  have l2 := lin_bd C F hsU R.length (Nat.le_refl _)
  have s1 := sum_bd C h6 F h
  have s2 := sum_bd C h6 F hJ
  have hbit : ∃ i, i < n ∧ bitS m i = true := by
    by_cases hx : ∃ i, i < n ∧ bitS m i = true
    · exact hx
    · exfalso
      have : m < 2 ^ 0 := Nat.lt_pow_two_of_testBit m (fun j _ => by
        by_cases hj : j < n
        · have : ¬ bitS m j = true := fun e => hx ⟨j, hj, e⟩
          simpa [bitS] using this
        · exact Nat.testBit_lt_two_pow (Nat.lt_of_lt_of_le hm (Nat.pow_le_pow_right (by decide) (by omega))))
      omega
  unfold mu
  by_cases hneg : rate n (tm σ) (bitS m) < 0
  · rw [if_pos hneg] at hsg
    subst hsg
    have := Int.mul_pos hr0 (show 0 < - rate n (tm σ) (bitS m) by omega)
    rw [Int.mul_neg] at this
    rw [Int.one_mul] at hlin
    omega
  · rw [if_neg hneg] at hsg
    subst hsg
    by_cases hz : rate n (tm σ) (bitS m) = 0
    · rw [hz, Int.mul_zero] at hlin
      obtain ⟨i, hi, hS⟩ := hbit
      have := sumN_lt (n := n) (f := tm U) (g := tm T) (fun j hj => by
        rw [hUs j hj]
        unfold step
        split <;> omega) ⟨i, hi, by
        rw [hUs i hi]
        unfold step
        rw [if_pos hS]
        omega⟩
      omega
    · have := Int.mul_pos hr0 (show 0 < rate n (tm σ) (bitS m) by omega)
      have e : -1 * r * rate n (tm σ) (bitS m) = -(r * rate n (tm σ) (bitS m)) := by rw [Int.neg_mul, Int.one_mul, Int.neg_mul]
      rw [e] at hlin
      omega
theorem pass_spec (C : Ctx n P R) (h6 : n ≤ 6) (F : Leaf n P R b tk) {σ : List Int} (hσ : σ.length = n) (hb : ∀ i, i < n → -40000 ≤ tm σ i ∧ tm σ i ≤ 40000) {K : Int} (hK : ∀ s, lin P R tk R.length s = sumN n (fun i => tm σ i * s i) + K)
    {v0 : Int} {T0 : List Int} (h0 : J n P R b tk v0 T0) :
    ∃ ag v T, loopM (mPlanCheapest_L8966 ⟨P, (n : Int), R⟩ σ) (false, 2, v0, some b, T0) = some (.inl (ag, v, some b, T)) ∧ J n P R b tk v T ∧ ((ag = false ∧ T = T0 ∧ Opt n (mg b) (tm σ) (tm T0)) ∨ (ag = true ∧ mu n P R tk T < mu n P R tk T0)) := by
  have n1 := C.n1
  have pp := C.pp
  have hp := pow_le h6
  obtain ⟨t, t1, ag, v, T, rfl, t2⟩ := loopM_inv (step := mPlanCheapest_L8966 ⟨P, (n : Int), R⟩ σ)
    (fun st => ∃ ag m v T, st = (ag, ((m : Nat) : Int), v, some b, T) ∧ J n P R b tk v T ∧ 2 ≤ m ∧ m % 2 = 0 ∧ m ≤ 64 ∧ ((ag = false ∧ T = T0 ∧ ∀ m', 2 ≤ m' → m' < m → m' < 2 ^ n → m' % 2 = 0 → Tried n (mg b) (tm σ) (tm T0) m') ∨ (ag = true ∧ mu n P R tk T < mu n P R tk T0)))
    (fun t => ∃ ag v T, t = .inl (ag, v, some b, T) ∧ J n P R b tk v T ∧ ((ag = false ∧ T = T0 ∧ Opt n (mg b) (tm σ) (tm T0)) ∨ (ag = true ∧ mu n P R tk T < mu n P R tk T0)))
    (fun st => (100 - st.2.1).toNat) (fun st hst => by
      obtain ⟨ag, m, v, T, rfl, hJ, h2, he, h64, hor⟩ := hst
      have hlb := lin_bd C F hJ.sol R.length (Nat.le_refl _)
      have hl := C.len
      have hr := F.rng _ hJ.sol hJ.zero
      unfold mPlanCheapest_L8966
      simp only [unc5]
      rw [shN_ok (by omega), Option.bind_some, pow_eq h6]
      by_cases hm : m < 2 ^ n
      · rw [if_pos (by omega)]
        obtain ⟨w, w1, w2, w3⟩ := rate_spec h6 hJ.len hσ hb (m := m) (by omega)
        rw [w1, Option.bind_some]
        obtain ⟨sg, hsg⟩ : ∃ sg : Int, sg = if w < 0 then 1 else -1 := ⟨_, rfl⟩
        rw [show (if w < 0 then some (1 : Int) else some (-1)) = some sg by rw [hsg]; split <;> rfl, Option.bind_some]
        have hs1 : sg = 1 ∨ sg = -1 := by
          rw [hsg]
          split <;> omega
        obtain ⟨r, r1, r2⟩ := room_spec h6 pp F.mx hJ.len hJ.sol hr (m := m) (by omega) sg (n : Int) R
        rw [r1, pass2]
        by_cases hr0 : 0 < r
        · have hbd := r2.bd
          have hd : -3600 ≤ sg * r ∧ sg * r ≤ 3600 := by
            rcases hs1 with rfl | rfl <;> omega
          rw [if_pos hr0, chk_ok (by omega) (by omega), Option.bind_some]
          have hv : -1000000000 ≤ v ∧ v ≤ 1000000000 := by rw [hJ.val]; omega
          obtain ⟨U, u1, u2, u3⟩ := move_spec h6 hJ.len hσ hb (fun j hj => by have := hr j hj; omega) (m := m) (by omega) hd hv
          rw [u1, pass2, pass4, chk_ok (by omega) (by omega), Option.bind_some]
          rw [w2] at hsg
          obtain ⟨d1, d2⟩ := descent_step C h6 F hσ hb hK hJ h2 hm he hsg r2 hr0 u2 u3
          refine .inl ⟨_, rfl, ⟨true, m + 2, _, U, by rw [Int.natCast_add]; rfl, d1, by omega, by omega, by omega, .inr ⟨rfl, ?_⟩⟩, by simp only; omega⟩
          rcases hor with ⟨_, rfl, _⟩ | ⟨_, h⟩
          · exact d2
          · omega
        · have hbd := r2.bd
          have hr00 : r = 0 := by omega
          subst hr00
          rw [if_neg hr0, pass4, chk_ok (by omega) (by omega), Option.bind_some]
          refine .inl ⟨_, rfl, ⟨ag, m + 2, v, T, by rw [Int.natCast_add]; rfl, hJ, by omega, by omega, by omega, ?_⟩, by simp only; omega⟩
          rcases hor with ⟨g1, rfl, g3⟩ | h
          · refine .inl ⟨g1, rfl, fun m' a1 a2 a3 a4 => ?_⟩
            by_cases e : m' = m
            · subst e
              have hno := step_not (n := n) (P := P) pp.1 hs1 r2
              rw [w2] at hsg
              refine ⟨fun hlt => ?_, fun hgt => ?_⟩
              · rw [if_pos hlt] at hsg
                rw [hsg] at hno
                exact hno
              · rw [if_neg (by omega)] at hsg
                rw [hsg] at hno
                exact hno
            · exact g3 m' a1 (by omega) a3 a4
          · exact .inr h
      · rw [if_neg (by omega)]
        refine .inr ⟨_, rfl, ag, v, T, rfl, hJ, ?_⟩
        rcases hor with ⟨g1, rfl, g3⟩ | h
        · exact .inl ⟨g1, rfl, opt_of (fun m' a1 a2 a3 => g3 m' a1 (by omega) a2 a3)⟩
        · exact .inr h) (false, 2, v0, some b, T0) ⟨false, 2, v0, T0, rfl, h0, by omega, by omega, by omega, .inl ⟨rfl, rfl, fun m' a1 a2 => by omega⟩⟩
  exact ⟨ag, v, T, t1, t2⟩
theorem cheapest_spec (C : Ctx n P R) (h6 : n ≤ 6) (F : Leaf n P R b tk) : ∃ v T, mPlanCheapest ⟨P, (n : Int), R⟩ (some b) tk = some (v, T) ∧ T.length = n ∧ Sol n (mg b) (tm T) ∧ tm T 0 = 0 ∧ v = costR P R (tm T) ∧ ∀ s, Sol n (mg b) s → s 0 = 0 → v ≤ costR P R s := by
  have n1 := C.n1
  have hcost : ∀ s, Sol n (mg b) s → lin P R tk R.length s = costR P R s := fun s hs => by
    rw [lin_cost C F hs R.length (Nat.le_refl _), List.take_length]
  obtain ⟨T0, f1, f2, f3⟩ := first_spec C F
  have least := sol_least F.mx.tri n1
  have hs0 : Sol n (mg b) (tm T0) := fun i j hi hj => by
    rw [f3 i hi, f3 j hj]
    exact least.1 i j hi hj
  have hz0 : tm T0 0 = 0 := by
    rw [f3 0 n1, F.mx.tri.diag 0 n1]
    rfl
  obtain ⟨v0, σ, s1, s2, s3, s4, K, s5⟩ := slope_spec C F f2 hs0 hz0
  unfold mPlanCheapest
  rw [show mkLen 8 (n : Int) = some n from mkLen_ok (by omega) (by omega), Option.bind_some, Option.bind_some, f1, pass2, s1, pass2]
  obtain ⟨⟨v, T⟩, t1, t2, t3⟩ := loopM_inv (step := mPlanCheapest_L7727 ⟨P, (n : Int), R⟩ σ)
    (fun st => ∃ ag v T, st = (ag, v, some b, T) ∧ J n P R b tk v T ∧ (ag = false → Opt n (mg b) (tm σ) (tm T)))
    (fun t => J n P R b tk t.1 t.2 ∧ Opt n (mg b) (tm σ) (tm t.2)) (fun st => 2 * mu n P R tk st.2.2.2 + (if st.1 = true then 1 else 0)) (fun st hst => by
      obtain ⟨ag, v, T, rfl, hJ, ho⟩ := hst
      unfold mPlanCheapest_L7727
      simp only [unc4]
      by_cases ha : ag = true
      · rw [if_pos ha]
        obtain ⟨ag2, v2, T2, p1, p2, p3⟩ := pass_spec C h6 F s3 s4 s5 hJ
        refine .inl ⟨_, p1, ⟨ag2, v2, T2, rfl, p2, fun e => ?_⟩, ?_⟩
        · rcases p3 with ⟨_, rfl, h⟩ | ⟨h, _⟩
          · exact h
          · rw [e] at h; cases h
        · simp only
          rw [if_pos ha]
          rcases p3 with ⟨h, rfl, _⟩ | ⟨h, h2⟩
          · rw [if_neg (by rw [h]; decide)]
            omega
          · rw [if_pos h]
            omega
      · rw [if_neg ha]
        refine .inr ⟨_, rfl, hJ, ho (by simpa using ha)⟩) (true, v0, some b, T0) ⟨true, v0, T0, rfl, ⟨f2, hs0, hz0, s2⟩, fun e => by cases e⟩
  rw [t1, pass2]
  simp only at t2 t3
  refine ⟨v, T, rfl, t2.len, t2.sol, t2.zero, by rw [t2.val, hcost _ t2.sol], fun s hs hz => ?_⟩
  rw [t2.val, ← hcost s hs, s5, s5]
  have := cheapest_of t2.sol t3 hs (by rw [hz, t2.zero])
  omega
end
end Go.Proofs.Ytdphlkddelnaiaa
