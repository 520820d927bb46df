/- Plain: the reference tries all choices of at most twelve places. -/
import Derived.Test.YtajmocgpjkhjlaaL5
set_option linter.unusedVariables false
set_option linter.unusedSimpArgs false
namespace Go.Proofs.Ytajmocgpjkhjlaa
open Go.RowKit Go.Fp

theorem bits_full : ∀ c : Nat, c < 13 → ∀ j : Nat, j < c → andI .i64 (shrI .i64 ((2 ^ c - 1 : Nat) : Int) (j : Int)) 1 = 1 := by decide +kernel
theorem shl_full : ∀ c : Nat, c < 13 → shlI .i64 1 (c : Int) = ((2 ^ c : Nat) : Int) := by decide +kernel
theorem compareI_total (a b : Int) : ∃ v, mCmpCompare a b = some v := by
  unfold mCmpCompare mCmpIsNaN
  simp only [Option.bind_some, ne_eq, not_true_eq_false, decide_false, Bool.false_eq_true, if_false]
  split
  · exact ⟨_, rfl⟩
  · split <;> exact ⟨_, rfl⟩
theorem compare_total (l m : List Int) : ∃ v, mSlicesCompare l m = some v := by
  unfold mSlicesCompare
  rcases forM_inv (body := mSlicesCompare_L70 l m) (fun _ _ => True) (fun _ => True) l.length 0 () trivial (fun k _ _ hk _ => by
    unfold mSlicesCompare_L70
    rw [idx_lt (show k < l.length by omega), Option.bind_some]
    by_cases h : (m.length : Int) ≤ (k : Int)
    · rw [if_pos h]; exact .inr ⟨_, rfl, trivial⟩
    · rw [if_neg h, idx_lt (show k < m.length by omega), Option.bind_some]
      obtain ⟨v, hv⟩ := compareI_total (l[k]'(by omega)) (m[k]'(by omega))
      rw [hv, Option.bind_some]
      by_cases h0 : v ≠ 0
      · rw [if_pos h0]; exact .inr ⟨_, rfl, trivial⟩
      · rw [if_neg h0]; exact .inl ⟨_, rfl, trivial⟩) with ⟨q, h1, _⟩ | ⟨q, h1, _⟩
  · rw [h1]
    simp only [Option.bind_some, Sum.elim_inl]
    split <;> exact ⟨_, rfl⟩
  · rw [h1]
    exact ⟨_, rfl⟩
theorem subset_spec (C : List Int) (hC : C.length ≤ 12) (m : Nat) : ∃ l, forS (mFishref2Positions_L1446 C m) C.length 0 [] = some l ∧ (∀ z ∈ l, z ∈ C) ∧ l.length ≤ C.length ∧ (m = 2 ^ C.length - 1 → l = C) := by
  obtain ⟨l, h1, h2, h3, h4⟩ := forS_inv (body := mFishref2Positions_L1446 C m) (fun j l => (∀ z ∈ l, z ∈ C) ∧ l.length ≤ j ∧ (m = 2 ^ C.length - 1 → l = C.take j)) C.length 0 [] ⟨fun z hz => by simp at hz, by simp, fun _ => by simp⟩ (fun j l _ hj hi => by
    obtain ⟨i1, i2, i3⟩ := hi
    have hj' : j < C.length := by omega
    unfold mFishref2Positions_L1446
    rw [idx_lt hj', Option.bind_some, shN_ok (by omega), Option.bind_some]
    by_cases hb : andI .i64 (shrI .i64 (m : Int) (j : Int)) 1 = 1
    · rw [if_pos hb, room_ok (by omega) (by omega)]
      refine ⟨_, rfl, fun z hz => ?_, by simp; omega, fun e => ?_⟩
      · simp only [List.mem_append, List.mem_singleton] at hz
        rcases hz with hz | rfl
        · exact i1 z hz
        · exact List.getElem_mem _
      · rw [i3 e, List.take_add_one, List.getElem?_eq_getElem hj']
        rfl
    · rw [if_neg hb]
      refine ⟨_, rfl, i1, by omega, fun e => ?_⟩
      subst e
      exact absurd (bits_full C.length (by omega) j hj') hb)
  refine ⟨l, h1, h2, by omega, fun e => ?_⟩
  rw [h4 e]
  simp
section
variable {l4 : List FleetTask} {x : List Int} {s : FleetSet} {p : FleetShop}
theorem masks_spec (h : RowOk l4 x) (hp : OkShop p) (hs : OkSet p.Limit s) {C : List Int} (hC : C.length ≤ 12) (z : Nat) (M : Nat) : ∃ b l, forS (mFishref2Positions_L1209 l4 x s p C z) M 0 (false, []) = some (b, l) ∧
    (b = true → ∃ l, (∀ z ∈ l, z ∈ C) ∧ Kept s.Km (kmOf l4 x) p.Limit x.length (memB l)) ∧ (z = C.length → 2 ^ C.length - 1 < M → Kept s.Km (kmOf l4 x) p.Limit x.length (memB C) → b = true) := by
  obtain ⟨⟨b, l⟩, h1, h2, h3⟩ := forS_inv (body := mFishref2Positions_L1209 l4 x s p C z)
    (fun m q => (q.1 = true → ∃ l, (∀ z ∈ l, z ∈ C) ∧ Kept s.Km (kmOf l4 x) p.Limit x.length (memB l)) ∧ (z = C.length → 2 ^ C.length - 1 < m → Kept s.Km (kmOf l4 x) p.Limit x.length (memB C) → q.1 = true))
    M 0 (false, []) ⟨fun hh => (by cases hh), fun _ hh => by omega⟩ (fun m q _ _ hi => by
      obtain ⟨b, l⟩ := q
      obtain ⟨i1, i2⟩ := hi
      simp only at i1 i2
      obtain ⟨d, d1, d2, d3, d4⟩ := subset_spec C hC m
      show ∃ s', (forS (mFishref2Positions_L1446 C m) C.length 0 []).bind _ = some s' ∧ _
      rw [d1, Option.bind_some]
      have old : ∃ s' : Bool × List Int, some (b, l) = some s' ∧ (s'.1 = true → ∃ l, (∀ z ∈ l, z ∈ C) ∧ Kept s.Km (kmOf l4 x) p.Limit x.length (memB l)) ∧ (z = C.length → 2 ^ C.length - 1 < m → Kept s.Km (kmOf l4 x) p.Limit x.length (memB C) → s'.1 = true) := ⟨_, rfl, i1, i2⟩
      by_cases hz : (d.length : Int) = (z : Int)
      · rw [if_pos hz]
        obtain ⟨k, k1, k2⟩ := kept_spec h hp hs d
        rw [k1, Option.bind_some]
        cases k
        · rw [if_neg (by decide), Option.bind_some, if_neg (by decide)]
          refine ⟨_, rfl, i1, fun e hm hK => ?_⟩
          by_cases em : 2 ^ C.length - 1 < m
          · exact i2 e em hK
          · exfalso
            have := d4 (by omega)
            subst this
            exact absurd (k2.2 hK) (by decide)
        · rw [if_pos rfl]
          have hk := k2.1 rfl
          cases b
          · rw [if_neg (fun hh => Bool.noConfusion hh), Option.bind_some, if_pos rfl]
            exact ⟨_, rfl, fun _ => ⟨d, d2, hk⟩, fun _ _ _ => rfl⟩
          · rw [if_pos rfl]
            obtain ⟨v, hv⟩ := compare_total d l
            rw [hv, Option.bind_some, Option.bind_some]
            by_cases hv0 : 0 < v
            · rw [decide_eq_true hv0, if_pos rfl]
              exact ⟨_, rfl, fun _ => ⟨d, d2, hk⟩, fun _ _ _ => rfl⟩
            · rw [decide_eq_false hv0, if_neg (by decide)]
              exact ⟨_, rfl, i1, fun _ _ _ => rfl⟩
      · rw [if_neg hz, Option.bind_some, if_neg (by decide)]
        refine ⟨_, rfl, i1, fun e hm hK => ?_⟩
        by_cases em : 2 ^ C.length - 1 < m
        · exact i2 e em hK
        · exfalso
          have := d4 (by omega)
          subst this
          omega)
  refine ⟨b, l, h1, h2, fun e hM hK => h3 e (by omega) hK⟩
theorem sizes_spec (h : RowOk l4 x) (hp : OkShop p) (hs : OkSet p.Limit s) {C : List Int} (hC : C.length ≤ 12) (hCs : Cands (mayOf l4 x s p) (x.length + 1) C) :
    ∃ b l, ((forM (mFishref2Positions_L850 l4 x s p C) (((C.length : Int) + 1).toNat) 0 ()).bind fun t => Sum.elim (fun _ => some (false, [])) (fun q => some q) t) = some (b, l) ∧ (b = true ↔ Kept s.Km (kmOf l4 x) p.Limit x.length (mayOf l4 x s p)) := by
  have hkm : ∀ j, j < x.length → 0 ≤ kmOf l4 x j := fun j hj => (km_nonneg h j hj).1
  rcases forM_inv (body := mFishref2Positions_L850 l4 x s p C)
    (fun k _ => C.length < k → ¬ Kept s.Km (kmOf l4 x) p.Limit x.length (memB C))
    (fun r => r.1 = true ∧ Kept s.Km (kmOf l4 x) p.Limit x.length (mayOf l4 x s p))
    (((C.length : Int) + 1).toNat) 0 () (fun hh => by omega) (fun k _ _ hk hi => by
      have hp2 : 2 ^ C.length ≤ 2 ^ 12 := Nat.pow_le_pow_right (by decide) hC
      have hp1 : 0 < 2 ^ C.length := Nat.pow_pos (by decide)
      unfold mFishref2Positions_L850
      rw [shN_ok (by omega), Option.bind_some, shl_full _ (by omega), chk_ok (by omega) (by omega), Option.bind_some, Int.toNat_natCast]
      obtain ⟨b, l, m1, m2, m3⟩ := masks_spec h hp hs hC k (2 ^ C.length)
      rw [m1, Option.bind_some]
      simp only [unc2]
      cases b
      · rw [if_neg (by decide)]
        refine .inl ⟨_, rfl, fun hk2 hK => ?_⟩
        by_cases e : k = C.length
        · exact absurd (m3 e (by omega) hK) (by decide)
        · exact hi (by omega) hK
      · rw [if_pos rfl]
        obtain ⟨d, d1, d2⟩ := m2 rfl
        exact .inr ⟨_, rfl, rfl, kept_sub hs.2.1 hkm hCs d1 d2⟩) with ⟨q, e1, e2⟩ | ⟨⟨b, l⟩, e1, e2, e3⟩
  · rw [e1]
    refine ⟨false, [], rfl, fun hh => (by cases hh), fun hK => absurd ((kept_cands hCs).2 hK) (e2 (by omega))⟩
  · rw [e1]
    exact ⟨b, l, rfl, fun _ => e3, fun _ => e2⟩
end

end Go.Proofs.Ytajmocgpjkhjlaa
