/- Plain: the descent by sets of events. -/
import Derived.Test.YtdphlkddelnaiaaKLK3
set_option linter.unusedVariables false
set_option linter.unusedSimpArgs false
namespace Go.Proofs.Ytdphlkddelnaiaa
open Go.RowKit Go.Fp

theorem rate_succ (k : Nat) (σ : Nat → Int) (S : Nat → Bool) : rate (k + 1) σ S = rate k σ S + (if S k = true then σ k else 0) := rfl
def bitS (m : Nat) (i : Nat) : Bool := m.testBit i
/-- How far a pair lets a set be moved. -/
def slk (sg : Int) (B : Nat → Nat → Int) (t : Nat → Int) (i k : Nat) : Int := if 0 < sg then B k i - (t i - t k) else B i k - (t k - t i)
structure RoomI (n : Nat) (P sg : Int) (B : Nat → Nat → Int) (t : Nat → Int) (S : Nat → Bool) (vis : Nat → Nat → Prop) (m : Int) : Prop where
  bd : 0 ≤ m ∧ m ≤ P
  le : ∀ i k, i < n → k < n → vis i k → S i = true → ¬ S k = true → m ≤ slk sg B t i k
  src : m = P ∨ ∃ i k, i < n ∧ k < n ∧ S i = true ∧ ¬ S k = true ∧ m = slk sg B t i k
section
variable {n : Nat} {P : Int} {b : List (List Int)} {T : List Int}
theorem room_spec (h6 : n ≤ 6) (hP : 2 ≤ P ∧ P ≤ 3600) (h : Mx n P b) (hT : T.length = n) (hs : Sol n (mg b) (tm T)) (hr : ∀ j, j < n → 0 ≤ tm T j ∧ tm T j ≤ P - 1) {m : Nat} (hm : m < 64) (sg x1 : Int) (l1 : List PlanRule) :
    ∃ v, mPlanCheapest_1 (m : Int) sg P x1 l1 (some b) T = some (v, some b) ∧ RoomI n P sg (mg b) (tm T) (bitS m) (fun _ _ => True) v := by
  unfold mPlanCheapest_1
  obtain ⟨⟨v, q⟩, h1, h2, h3⟩ := forS_inv (body := mPlanCheapest_1_L2389 (m : Int) T sg) (fun i st => st.2 = some b ∧ RoomI n P sg (mg b) (tm T) (bitS m) (fun a _ => a < i) st.1) T.length 0 (P, some b) ⟨rfl, ⟨by simp only; omega, by simp only; omega⟩, fun i k _ _ hv => absurd hv (by omega), .inl rfl⟩ (fun i st _ hi hI => by
    obtain ⟨v, q⟩ := st
    obtain ⟨g1, g2⟩ := hI
    simp only at g1 g2
    subst g1
    have hi' : i < n := by omega
    unfold mPlanCheapest_1_L2389
    simp only [unc2]
    obtain ⟨⟨v2, q2⟩, e1, e2, e3⟩ := forS_inv (body := mPlanCheapest_1_L3970 (m : Int) T sg i) (fun k st => st.2 = some b ∧ RoomI n P sg (mg b) (tm T) (bitS m) (fun a c => a < i ∨ (a = i ∧ c < k)) st.1) T.length 0 (v, some b) ⟨rfl, g2.bd, fun a c ha hc hv => g2.le a c ha hc (by omega), g2.src⟩ (fun k st _ hk hK => by
      obtain ⟨w, q⟩ := st
      obtain ⟨c1, c2⟩ := hK
      simp only at c1 c2
      subst c1
      have hk' : k < n := by omega
      have bi := bit_one hm (show i < 6 by omega)
      have bk := bit_nul hm (show k < 6 by omega)
      unfold mPlanCheapest_1_L3970
      simp only [unc2]
      rw [shN_ok (by omega), Option.bind_some]
      have stay : ¬ (bitS m i = true ∧ ¬ bitS m k = true) → ∃ s', some (w, some b) = some s' ∧ (s'.2 = some b ∧ RoomI n P sg (mg b) (tm T) (bitS m) (fun a c => a < i ∨ (a = i ∧ c < k + 1)) s'.1) := fun hno => ⟨_, rfl, rfl, c2.bd, fun a c ha hc hv h1 h2 => by
        by_cases e : a = i ∧ c = k
        · obtain ⟨rfl, rfl⟩ := e
          exact absurd ⟨h1, h2⟩ hno
        · exact c2.le a c ha hc (by omega) h1 h2, c2.src⟩
      by_cases d1 : andI .i64 (shrI .i64 (m : Int) (i : Int)) 1 = 1
      · rw [if_pos d1, shN_ok (by omega), Option.bind_some, Option.bind_some]
        have b1 : bitS m i = true := bi.1 d1
        by_cases d2 : andI .i64 (shrI .i64 (m : Int) (k : Int)) 1 = 0
        · have b2 : ¬ bitS m k = true := bk.1 d2
          rw [decide_eq_true d2, if_pos rfl]
          obtain ⟨ri, i1, i2, i3, i4⟩ := h.sq.at (i := i) (by omega)
          obtain ⟨rk, k1, k2, k3, k4⟩ := h.sq.at (i := k) (by omega)
          have u1 := hr i hi'
          have u2 := hr k hk'
          have w1 := h.le i k hi' hk'
          have w2 := h.ge hi' hk'
          have w3 := h.le k i hk' hi'
          have w4 := h.ge hk' hi'
          have s1 := hs i k hi' hk'
          have s2 := hs k i hk' hi'
          have cb := c2.bd
          have fin : ∀ z, z = slk sg (mg b) (tm T) i k → 0 ≤ z → RoomI n P sg (mg b) (tm T) (bitS m) (fun a c => a < i ∨ (a = i ∧ c < k + 1)) (min w z) := fun z hz hz0 => by
            refine ⟨by omega, fun a c ha hc hv h1 h2 => ?_, ?_⟩
            · by_cases e : a = i ∧ c = k
              · obtain ⟨rfl, rfl⟩ := e
                rw [← hz]
                omega
              · have := c2.le a c ha hc (by omega) h1 h2
                omega
            · by_cases hwz : w ≤ z
              · rw [show min w z = w by omega]
                exact c2.src
              · refine .inr ⟨i, k, hi', hk', b1, b2, by rw [← hz]; omega⟩
          by_cases hsg : 0 < sg
          · rw [if_pos hsg, Option.bind_some, k1, Option.bind_some, k4 i (by omega), Option.bind_some, tm_idx (show i < T.length by omega), Option.bind_some, tm_idx (show k < T.length by omega), Option.bind_some, chk_ok (by omega) (by omega), Option.bind_some, chk_ok (by omega) (by omega), Option.bind_some]
            exact ⟨_, rfl, rfl, fin _ (by unfold slk; rw [if_pos hsg]) (by omega)⟩
          · rw [if_neg hsg, Option.bind_some, i1, Option.bind_some, i4 k (by omega), Option.bind_some, tm_idx (show k < T.length by omega), Option.bind_some, tm_idx (show i < T.length by omega), Option.bind_some, chk_ok (by omega) (by omega), Option.bind_some, chk_ok (by omega) (by omega), Option.bind_some]
            exact ⟨_, rfl, rfl, fin _ (by unfold slk; rw [if_neg hsg]) (by omega)⟩
        · rw [decide_eq_false d2, if_neg (by decide)]
          exact stay (fun h => d2 (bk.2 h.2))
      · rw [if_neg d1, Option.bind_some, if_neg (by decide)]
        exact stay (fun h => d1 (bi.2 h.1)))
    rw [e1, pass2]
    simp only at e2 e3
    subst e2
    exact ⟨_, rfl, rfl, e3.bd, fun a c ha hc hv h1 h2 => e3.le a c ha hc (by omega) h1 h2, e3.src⟩)
  simp only at h2 h3
  subst h2
  rw [h1, pass2]
  exact ⟨v, rfl, h3.bd, fun a c ha hc _ h1 h2 => h3.le a c ha hc (by omega) h1 h2, h3.src⟩
theorem rate_spec (h6 : n ≤ 6) {σ : List Int} (hT : T.length = n) (hσ : σ.length = n) (hb : ∀ i, i < n → -40000 ≤ tm σ i ∧ tm σ i ≤ 40000) {m : Nat} (hm : m < 64) :
    ∃ v, forS (mPlanCheapest_L9483 σ (m : Int)) T.length 0 0 = some v ∧ v = rate n (tm σ) (bitS m) ∧ -240000 ≤ v ∧ v ≤ 240000 := by
  obtain ⟨v, h1, h2, h3⟩ := forS_inv (body := mPlanCheapest_L9483 σ (m : Int)) (fun k v => v = rate k (tm σ) (bitS m) ∧ -40000 * (k : Int) ≤ v ∧ v ≤ 40000 * (k : Int)) T.length 0 0 ⟨rfl, by omega, by omega⟩ (fun k v _ hk hi => by
    obtain ⟨g1, g2⟩ := hi
    have hk' : k < n := by omega
    have hbk := hb k hk'
    have bk := bit_one hm (show k < 6 by omega)
    unfold mPlanCheapest_L9483
    rw [shN_ok (by omega), Option.bind_some]
    by_cases d : andI .i64 (shrI .i64 (m : Int) (k : Int)) 1 = 1
    · rw [if_pos d, tm_idx (show k < σ.length by omega), Option.bind_some, chk_ok (by omega) (by omega), Option.bind_some]
      refine ⟨_, rfl, ?_, by omega, by omega⟩
      rw [rate_succ, if_pos (show bitS m k = true from bk.1 d), g1]
    · rw [if_neg d]
      refine ⟨_, rfl, ?_, by omega, by omega⟩
      rw [rate_succ, if_neg (show ¬ bitS m k = true from fun h => d (bk.2 h)), g1, Int.add_zero])
  rw [Nat.zero_add, hT] at h2
  exact ⟨v, h1, h2, by omega⟩
theorem move_spec (h6 : n ≤ 6) {σ : List Int} (hT : T.length = n) (hσ : σ.length = n) (hb : ∀ i, i < n → -40000 ≤ tm σ i ∧ tm σ i ≤ 40000) (hr : ∀ j, j < n → -100000 ≤ tm T j ∧ tm T j ≤ 100000) {m : Nat} (hm : m < 64) {d : Int} (hd : -3600 ≤ d ∧ d ≤ 3600) {v0 : Int} (hv : -1000000000 ≤ v0 ∧ v0 ≤ 1000000000) :
    ∃ U, mPlanCheapest_2 (m : Int) d v0 T σ = some (v0 + d * rate n (tm σ) (bitS m), U) ∧ U.length = n ∧ ∀ i, i < n → tm U i = step (bitS m) (tm T) d i := by
  unfold mPlanCheapest_2
  obtain ⟨⟨v, U⟩, h1, h2, h3, h4, h5⟩ := forS_inv (body := mPlanCheapest_2_L263 σ (m : Int) d) (fun k st => st.1 = v0 + d * rate k (tm σ) (bitS m) ∧ (-144000000 * (k : Int) ≤ st.1 - v0 ∧ st.1 - v0 ≤ 144000000 * (k : Int)) ∧ st.2.length = n ∧ ∀ i, i < n → tm st.2 i = if i < k then step (bitS m) (tm T) d i else tm T i) T.length 0 (v0, T)
    ⟨by unfold rate sumN; simp, by simp only; omega, hT, fun i hi => by rw [if_neg (by omega)]⟩ (fun k st _ hk hi => by
    obtain ⟨v, U⟩ := st
    obtain ⟨g1, g2, g3, g4⟩ := hi
    simp only at g1 g2 g3 g4
    have hk' : k < n := by omega
    have hbk := hb k hk'
    have hrk := hr k hk'
    have bk := bit_one hm (show k < 6 by omega)
    have ek := g4 k hk'
    rw [if_neg (by omega)] at ek
    unfold mPlanCheapest_2_L263
    simp only [unc2]
    rw [shN_ok (by omega), Option.bind_some]
    by_cases c : andI .i64 (shrI .i64 (m : Int) (k : Int)) 1 = 1
    · have hS : bitS m k = true := bk.1 c
      have hp : -144000000 ≤ d * tm σ k ∧ d * tm σ k ≤ 144000000 := by
        have e : (d * tm σ k).natAbs = d.natAbs * (tm σ k).natAbs := Int.natAbs_mul _ _
        have := Nat.mul_le_mul (show d.natAbs ≤ 3600 by omega) (show (tm σ k).natAbs ≤ 40000 by omega)
        omega
      rw [if_pos c, tm_idx (show k < U.length by omega), Option.bind_some, ek, chk_ok (by omega) (by omega), Option.bind_some, Option.bind_some, tm_idx (show k < σ.length by omega), Option.bind_some, chk_ok (by omega) (by omega), Option.bind_some, chk_ok (by omega) (by omega), Option.bind_some]
      refine ⟨_, rfl, ?_, by simp only; omega, by rw [put_length]; exact g3, fun i hi => ?_⟩
      · show v + d * tm σ k = v0 + d * rate (k + 1) (tm σ) (bitS m)
        rw [rate_succ, if_pos hS, Int.mul_add, g1]
        omega
      · simp only
        rw [tm_put (by omega)]
        by_cases e : i = k
        · subst e
          rw [if_pos rfl, if_pos (by omega)]
          unfold step
          rw [if_pos hS]
        · rw [if_neg e, g4 i hi]
          by_cases e2 : i < k
          · rw [if_pos e2, if_pos (by omega)]
          · rw [if_neg e2, if_neg (by omega)]
    · have hS : ¬ bitS m k = true := fun h => c (bk.2 h)
      rw [if_neg c]
      refine ⟨_, rfl, ?_, by simp only; omega, g3, fun i hi => ?_⟩
      · show v = v0 + d * rate (k + 1) (tm σ) (bitS m)
        rw [rate_succ, if_neg hS, Int.add_zero, g1]
      · simp only
        rw [g4 i hi]
        by_cases e : i = k
        · subst e
          rw [if_neg (by omega), if_pos (by omega)]
          unfold step
          rw [if_neg hS]
        · by_cases e2 : i < k
          · rw [if_pos e2, if_pos (by omega)]
          · rw [if_neg e2, if_neg (by omega)])
  simp only at h2 h3 h4 h5
  rw [h1, pass2]
  rw [Nat.zero_add, hT] at h2 h5
  exact ⟨U, by rw [h2], h4, fun i hi => by rw [h5 i hi, if_pos hi]⟩
end
end Go.Proofs.Ytdphlkddelnaiaa
