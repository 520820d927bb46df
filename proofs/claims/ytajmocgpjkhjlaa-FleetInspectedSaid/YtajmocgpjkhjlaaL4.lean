/- Plain: what the model of fleet.positions answers. -/
import Derived.Test.YtajmocgpjkhjlaaL1
import Derived.Test.YtajmocgpjkhjlaaL3
set_option linter.unusedVariables false
set_option linter.unusedSimpArgs false
namespace Go.Proofs.Ytajmocgpjkhjlaa
open Go.RowKit Go.Fp

structure RowOk (l4 : List FleetTask) (x : List Int) : Prop where
  len : x.length ≤ 28801
  get : ∀ (j : Nat) (v : Int), x[j]? = some v → ∃ t, idx l4 v = some t ∧ OkTask t
def kmOf (l4 : List FleetTask) (x : List Int) (j : Nat) : Int := match x[j]? with
  | some v => (match idx l4 v with | some t => t.Km | none => 0)
  | none => 0
noncomputable def mayOf (l4 : List FleetTask) (x : List Int) (s : FleetSet) (p : FleetShop) (j : Nat) : Bool := (mFleetMay l4 x s p (j : Int)).getD false
section
variable {l4 : List FleetTask} {x : List Int} {s : FleetSet} {p : FleetShop}
theorem row_at (h : RowOk l4 x) {j : Nat} (hj : j < x.length) : ∃ v t, idx x (j : Int) = some v ∧ idx l4 v = some t ∧ OkTask t ∧ kmOf l4 x j = t.Km := by
  have e : x[j]? = some x[j] := List.getElem?_eq_getElem hj
  obtain ⟨t, h1, h2⟩ := h.get j _ e
  refine ⟨x[j], t, idx_nat e, h1, h2, ?_⟩
  unfold kmOf
  rw [e]
  simp only [h1]
theorem may_total (h : RowOk l4 x) (hp : OkShop p) {k : Nat} (hk : k ≤ x.length) : mFleetMay l4 x s p (k : Int) = some (mayOf l4 x s p k) := by
  suffices ∃ b, mFleetMay l4 x s p (k : Int) = some b by
    obtain ⟨b, hb⟩ := this
    unfold mayOf
    rw [hb]
    rfl
  have tail : ∀ A B : Int, 0 ≤ B → B ≤ 28800 → ∃ b, ((if A = p.Place then (if (k : Int) = (x.length : Int) then some true else (idx x (k : Int)).bind fun v => (idx l4 v).bind fun t => (chk (B + p.Long)).bind fun _ => some (decide ((B + p.Long) ≤ t.Dep))) else some false).bind fun b => some b) = some b := fun A B hB hB2 => by
    have := hp.2.1
    by_cases h1 : A = p.Place
    · rw [if_pos h1]
      by_cases h2 : (k : Int) = (x.length : Int)
      · rw [if_pos h2]; exact ⟨_, rfl⟩
      · rw [if_neg h2]
        obtain ⟨v, t, e1, e2, e3, _⟩ := row_at h (j := k) (by omega)
        rw [e1, Option.bind_some, e2, Option.bind_some, chk_ok (by omega) (by omega)]
        exact ⟨_, rfl⟩
    · rw [if_neg h1]; exact ⟨_, rfl⟩
  unfold mFleetMay
  by_cases h0 : 0 < (k : Int)
  · obtain ⟨q, rfl⟩ : ∃ q, k = q + 1 := ⟨k - 1, by omega⟩
    rw [if_pos h0]
    have e0 : ((q + 1 : Nat) : Int) - 1 = (q : Int) := by omega
    obtain ⟨v, t, e1, e2, e3, _⟩ := row_at h (j := q) (by omega)
    have hx := h.len
    simp only [e0, chk_ok (x := (q : Int)) (by omega) (by omega), e1, e2, Option.bind_some]
    exact tail t.To t.Arr e3.2.2.2.1.1 e3.2.2.2.1.2
  · rw [if_neg h0]
    exact tail s.Home 0 (by omega) (by omega)
theorem km_nonneg (h : RowOk l4 x) : ∀ j, j < x.length → 0 ≤ kmOf l4 x j ∧ kmOf l4 x j ≤ 10000 := fun j hj => by
  obtain ⟨v, t, _, _, e3, e4⟩ := row_at h hj
  have := e3.2.2.2.2.2.1
  omega
theorem ginv_bounds {a L : Int} {km : Nat → Int} {may : Nat → Bool} {n k : Nat} {tot lm ld sn : Int} {done : List Int} (ha : 0 ≤ a) (haL : a ≤ L) (hkm : ∀ j, j < n → 0 ≤ km j) (hk : k ≤ n) (h : GInv a km may L n k tot lm ld sn done) : 0 ≤ sn ∧ sn ≤ tot ∧ tot ≤ L := by
  have h0 := h.hlm
  have p0 := pre_mono (n := n) hkm (i := 0) (k := k) (by omega) hk
  have e0 : pre km 0 = 0 := rfl
  have ht : tot ≤ L := by
    cases k with
    | zero => rw [h.hrun]; exact haL
    | succ k => rw [h.hrun]; exact h.hkept k (by omega)
  by_cases h1 : 0 ≤ lm
  · obtain ⟨m, rfl⟩ : ∃ m : Nat, lm = (m : Int) := ⟨lm.toNat, by omega⟩
    have e1 := h.hsn.1 m rfl
    have p1 := pre_mono (n := n) hkm (i := m) (k := k) (by omega) hk
    by_cases h2 : 0 ≤ ld
    · obtain ⟨q, rfl⟩ : ∃ m : Nat, ld = (m : Int) := ⟨ld.toNat, by omega⟩
      have e2 := h.htot.1 q rfl
      have p2 := pre_mono (n := n) hkm (i := q) (k := m) (by omega) (by omega)
      omega
    · have e2 := h.htot.2 (by omega)
      have p2 := pre_mono (n := n) hkm (i := 0) (k := m) (by omega) (by omega)
      omega
  · have e1 := h.hsn.2 (by omega)
    have e2 := h.htot.2 (by omega)
    omega
theorem positions_spec (h : RowOk l4 x) (hp : OkShop p) (hs : OkSet p.Limit s) : ∃ b l, mFleetPositions l4 x s p = some (b, l) ∧
    (b = true → ∃ tot lm ld sn, GInv s.Km (kmOf l4 x) (mayOf l4 x s p) p.Limit x.length x.length tot lm ld sn l) ∧ (b = false → l = [] ∧ ¬ Kept s.Km (kmOf l4 x) p.Limit x.length (mayOf l4 x s p)) := by
  have hx := h.len
  have hL := hp.2.2
  have ha := hs.2
  have hkm : ∀ j, j < x.length → 0 ≤ kmOf l4 x j := fun j hj => (km_nonneg h j hj).1
  unfold mFleetPositions
  rw [chk_ok (by omega) (by omega), Option.bind_some, Option.bind_some]
  rcases forM_inv (body := mFleetPositions_L752 l4 x s p)
    (fun k q => k ≤ x.length ∧ GInv s.Km (kmOf l4 x) (mayOf l4 x s p) p.Limit x.length k q.1 q.2.1 q.2.2.1 q.2.2.2.1 q.2.2.2.2)
    (fun t => Sum.elim (fun l => ∃ tot lm ld sn, GInv s.Km (kmOf l4 x) (mayOf l4 x s p) p.Limit x.length x.length tot lm ld sn l) (fun r => r.1 = false ∧ r.2 = [] ∧ ¬ Kept s.Km (kmOf l4 x) p.Limit x.length (mayOf l4 x s p)) t)
    (((x.length : Int) + 1).toNat) 0 (s.Km, -1, -1, 0, []) ⟨by omega, ginv_start⟩ (fun k q _ _ hi => by
      obtain ⟨tot, lm, ld, sn, done⟩ := q
      obtain ⟨hk, hI⟩ := hi
      simp only at hI
      obtain ⟨b1, b2, b3⟩ := ginv_bounds ha.1 ha.2 hkm hk hI
      have hmid := ginv_mid hI
      show (∃ s', ((mFleetMay l4 x s p (k : Int)).bind _).bind _ = _ ∧ _) ∨ ∃ t, ((mFleetMay l4 x s p (k : Int)).bind _).bind _ = _ ∧ _
      rw [may_total h hp hk, Option.bind_some]
      have em : (if mayOf l4 x s p k = true then some ((k : Int), (0 : Int)) else some (lm, sn)) = some (if mayOf l4 x s p k = true then (k : Int) else lm, if mayOf l4 x s p k = true then 0 else sn) := by split <;> rfl
      rw [em, Option.bind_some]
      have b4 : 0 ≤ (if mayOf l4 x s p k = true then 0 else sn) ∧ (if mayOf l4 x s p k = true then 0 else sn) ≤ tot := by split <;> omega
      generalize (if mayOf l4 x s p k = true then (k : Int) else lm) = lm' at hmid ⊢
      generalize (if mayOf l4 x s p k = true then 0 else sn) = sn' at hmid b4 ⊢
      simp only [unc2]
      by_cases hn : (k : Int) = (x.length : Int)
      · rw [if_pos hn]
        have : k = x.length := by omega
        subst this
        exact .inr ⟨_, rfl, tot, lm, ld, sn, hI⟩
      · rw [if_neg hn]
        have hk' : k < x.length := by omega
        obtain ⟨v, t, e1, e2, e3, e4⟩ := row_at h hk'
        have kb := km_nonneg h k hk'
        rw [e4] at hmid kb
        simp only [e1, e2, Option.bind_some]
        rw [chk_ok (by omega) (by omega), Option.bind_some, chk_ok (by omega) (by omega), Option.bind_some]
        have hmid' : GMid s.Km (kmOf l4 x) (mayOf l4 x s p) k ld lm' (sn' + t.Km) := hmid
        by_cases hle : tot + t.Km ≤ p.Limit
        · rw [if_pos hle]
          have := ginv_keep ha.1 hkm hk' hI hmid' (by rw [e4]; exact hle)
          rw [e4] at this
          exact .inl ⟨_, rfl, hk', this⟩
        · rw [if_neg hle]
          by_cases hf : lm' ≤ ld ∨ p.Limit < sn' + t.Km
          · have e5 : (if lm' ≤ ld then some true else some (decide (p.Limit < sn' + t.Km))) = some true := by
              split
              · rfl
              · rename_i h1
                rw [decide_eq_true (hf.resolve_left h1)]
            rw [e5, Option.bind_some, if_pos rfl]
            exact .inr ⟨_, rfl, rfl, rfl, ginv_fail ha.1 hk' hI hmid' (by rw [e4]; exact hle) hf⟩
          · have f1 : ¬ lm' ≤ ld := fun q => hf (.inl q)
            have f2 : ¬ p.Limit < sn' + t.Km := fun q => hf (.inr q)
            rw [if_neg f1, Option.bind_some, decide_eq_false f2, if_neg (by decide), room_ok (by have := hI.hlen; omega) (by have := hI.hlen; omega)]
            exact .inl ⟨_, rfl, hk', ginv_add ha.1 hkm hk' hI hmid' (by rw [e4]; exact hle) f1 f2⟩) with ⟨q, _, h2, _⟩ | ⟨t, h1, h2⟩
  · exfalso
    have : 0 + ((x.length : Int) + 1).toNat ≤ x.length := h2
    omega
  · rw [h1]
    rcases t with l | ⟨b, l⟩
    · exact ⟨true, l, rfl, fun _ => h2, fun hh => by cases hh⟩
    · obtain ⟨rfl, rfl, h3⟩ := (show b = false ∧ l = [] ∧ _ from h2)
      exact ⟨false, [], rfl, fun hh => (by cases hh), fun _ => ⟨rfl, h3⟩⟩
end

end Go.Proofs.Ytajmocgpjkhjlaa
