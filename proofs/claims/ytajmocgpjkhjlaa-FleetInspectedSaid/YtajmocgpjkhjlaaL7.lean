/- Plain: the reference, where there are more than twelve places, takes the latest place that it can reach, again and again. -/
import Derived.Test.YtajmocgpjkhjlaaL6
set_option linter.unusedVariables false
set_option linter.unusedSimpArgs false
namespace Go.Proofs.Ytajmocgpjkhjlaa
open Go.RowKit Go.Fp

theorem inc_len : ∀ (C l : List Int), C.Pairwise (· < ·) → l.Pairwise (· < ·) → (∀ z ∈ l, z ∈ C) → l.length ≤ C.length
  | [], l, _, _, h => by
    cases l with
    | nil => exact Nat.le_refl _
    | cons d r => exact absurd (h d (by simp)) (by simp)
  | c :: C, [], _, _, _ => Nat.zero_le _
  | c :: C, d :: r, hC, hl, h => by
    rw [List.pairwise_cons] at hC hl
    by_cases e : d = c
    · subst e
      have := inc_len C r hC.2 hl.2 (fun z hz => by
        have h1 := hl.1 z hz
        have h2 := h z (by simp [hz])
        simp only [List.mem_cons] at h2
        rcases h2 with h2 | h2
        · omega
        · exact h2)
      simp only [List.length_cons]
      omega
    · have hd := h d (by simp)
      simp only [List.mem_cons] at hd
      have hd : d ∈ C := hd.resolve_left e
      have hcd := hC.1 d hd
      have := inc_len C (d :: r) hC.2 (List.pairwise_cons.2 hl) (fun z hz => by
        have h2 := h z hz
        simp only [List.mem_cons] at h2 hz
        rcases h2 with h2 | h2
        · exfalso
          rcases hz with hz | hz
          · omega
          · have := hl.1 z hz; omega
        · exact h2)
      simp only [List.length_cons] at this ⊢
      omega
theorem least {Q : Nat → Prop} [DecidablePred Q] : ∀ n, (∃ k, k < n ∧ ¬ Q k) → ∃ k, k < n ∧ ¬ Q k ∧ ∀ j, j < k → Q j
  | 0, ⟨k, hk, _⟩ => absurd hk (by omega)
  | n + 1, ⟨k, hk, hq⟩ => by
    by_cases h : ∃ k, k < n ∧ ¬ Q k
    · obtain ⟨k, h1, h2, h3⟩ := least n h
      exact ⟨k, by omega, h2, h3⟩
    · refine ⟨n, by omega, ?_, fun j hj => ?_⟩
      · by_cases e : k = n
        · subst e; exact hq
        · exact absurd ⟨k, by omega, hq⟩ h
      · by_cases hj2 : Q j
        · exact hj2
        · exact absurd ⟨j, hj, hj2⟩ h
theorem lastOf (Q : Nat → Bool) : ∀ k, (∀ j, j < k → Q j = false) ∨ ∃ m, m < k ∧ Q m = true ∧ ∀ j, m < j → j < k → Q j = false
  | 0 => .inl (fun j hj => by omega)
  | k + 1 => by
    cases hq : Q k
    · rcases lastOf Q k with h | ⟨m, h1, h2, h3⟩
      · refine .inl (fun j hj => ?_)
        by_cases e : j = k
        · subst e; exact hq
        · exact h j (by omega)
      · refine .inr ⟨m, by omega, h2, fun j h4 h5 => ?_⟩
        by_cases e : j = k
        · subst e; exact hq
        · exact h3 j h4 (by omega)
    · exact .inr ⟨k, by omega, hq, fun j h1 h2 => by omega⟩
structure LInv (a : Int) (km : Nat → Int) (L : Int) (C : List Int) (done : List Int) : Prop where
  sub : ∀ z ∈ done, z ∈ C
  inc : done.Pairwise (· < ·)
  ok : ∀ z ∈ done, ∀ j : Nat, (j : Int) < z → run a km (memB done) (j + 1) ≤ L
/-- A place that the walk can take next. -/
def Good (a : Int) (km : Nat → Int) (L : Int) (done : List Int) (v : Int) : Prop := (∀ z ∈ done, z < v) ∧ ∀ j : Nat, (j : Int) < v → run a km (memB done) (j + 1) ≤ L
section
variable {a : Int} {km : Nat → Int} {L : Int} {C done : List Int} {n : Nat} {may : Nat → Bool}
theorem good_ex (hC : Cands may (n + 1) C) (h : LInv a km L C done) (hK : Kept a km L n may) (hn : ¬ Kept a km L n (memB done)) : ∃ v ∈ C, Good a km L done v := by
  have : ∃ k, k < n ∧ ¬ (run a km (memB done) (k + 1) ≤ L) := by
    by_cases hh : ∃ k, k < n ∧ ¬ (run a km (memB done) (k + 1) ≤ L)
    · exact hh
    · exact absurd (fun j hj => by
        by_cases h2 : run a km (memB done) (j + 1) ≤ L
        · exact h2
        · exact absurd ⟨j, hj, h2⟩ hh) hn
  obtain ⟨k, h1, h2, h3⟩ := least n this
  have hk := hK k h1
  have sub : ∀ j : Nat, memB done j = true → may j = true := fun j hj => by
    unfold memB at hj
    rw [decide_eq_true_iff] at hj
    exact ((hC.mem j).1 (h.sub _ hj)).2
  have nsub : ∀ j : Nat, may j = false → memB done j = false := fun j hj => by
    cases hm : memB done j
    · rfl
    · rw [sub j hm] at hj; cases hj
  rcases lastOf may (k + 1) with g | ⟨m, g1, g2, g3⟩
  · exfalso
    rw [run_none (k + 1) g] at hk
    rw [run_none (k + 1) (fun j hj => nsub j (g j hj))] at h2
    omega
  · have gr := run_since (a := a) (km := km) (P := may) (k + 1) g1 g2 g3
    refine ⟨(m : Int), (hC.mem m).2 ⟨by omega, g2⟩, fun z hz => ?_, fun j hj => h3 j (by omega)⟩
    obtain ⟨q, rfl⟩ := hC.nat z (h.sub z hz)
    by_cases hlt : (q : Int) < (m : Int)
    · exact hlt
    · exfalso
      have hqk : q < k + 1 := by
        by_cases hh : (k : Int) < (q : Int)
        · exact absurd (h.ok _ hz k hh) h2
        · omega
      have hqm : memB done q = true := by unfold memB; rw [decide_eq_true_iff]; exact hz
      have e : q = m := by
        by_cases e : m < q
        · have := g3 q e hqk
          rw [sub q hqm] at this
          cases this
        · omega
      subst e
      have := run_since (a := a) (km := km) (P := memB done) (k + 1) g1 hqm (fun j h4 h5 => nsub j (g3 j h4 h5))
      omega
theorem linv_add (h : LInv a km L C done) {v : Int} (hv : v ∈ C) (g : Good a km L done v) : LInv a km L C (done ++ [v]) := by
  have e : ∀ j : Nat, (j : Int) < v → run a km (memB (done ++ [v])) (j + 1) = run a km (memB done) (j + 1) := fun j hj => run_congr (j + 1) (fun i hi => by
    have : (i : Int) ≠ v := by omega
    simp [memB, this])
  refine ⟨fun z hz => ?_, ?_, fun z hz j hj => ?_⟩
  · simp only [List.mem_append, List.mem_singleton] at hz
    rcases hz with hz | rfl
    · exact h.sub z hz
    · exact hv
  · rw [List.pairwise_append]
    refine ⟨h.inc, by simp, fun x hx y hy => ?_⟩
    simp only [List.mem_singleton] at hy
    subst hy
    exact g.1 x hx
  · simp only [List.mem_append, List.mem_singleton] at hz
    rcases hz with hz | rfl
    · have := g.1 z hz
      rw [e j (by omega)]
      exact h.ok z hz j hj
    · rw [e j hj]
      exact g.2 j hj
end
section
variable {l4 : List FleetTask} {x : List Int} {s : FleetSet} {p : FleetShop}
theorem pick_spec (h : RowOk l4 x) (hp : OkShop p) (hs : OkSet p.Limit s) {C done : List Int} (hC : Cands (mayOf l4 x s p) (x.length + 1) C) (hD : LInv s.Km (kmOf l4 x) p.Limit C done) :
    ∃ v, forS (mFishref2Latest_L1390 l4 x s C p done) C.length 0 (-1) = some v ∧ (v = -1 ∨ 0 ≤ v ∧ v ∈ C ∧ Good s.Km (kmOf l4 x) p.Limit done v) ∧ (v = -1 → ∀ z ∈ C, ¬ Good s.Km (kmOf l4 x) p.Limit done z) := by
  obtain ⟨v, h1, h2, h3⟩ := forS_inv (body := mFishref2Latest_L1390 l4 x s C p done)
    (fun k v => (v = -1 ∨ 0 ≤ v ∧ v ∈ C ∧ Good s.Km (kmOf l4 x) p.Limit done v) ∧ (v = -1 → ∀ i (hi : i < C.length), i < k → ¬ Good s.Km (kmOf l4 x) p.Limit done C[i]))
    C.length 0 (-1) ⟨.inl rfl, fun _ i _ hi => by omega⟩ (fun k v _ hk hi => by
      obtain ⟨i1, i2⟩ := hi
      have hk' : k < C.length := by omega
      have hmem : C[k] ∈ C := List.getElem_mem _
      obtain ⟨q, hq⟩ := hC.nat _ hmem
      have hqn : q < x.length + 1 := ((hC.mem q).1 (by rw [← hq]; exact hmem)).1
      unfold mFishref2Latest_L1390
      rw [idx_lt hk', Option.bind_some]
      have hlen := inc_len C done hC.inc hD.inc hD.sub
      have hlen2 := hC.len
      have hxl := h.len
      have keep : ¬ Good s.Km (kmOf l4 x) p.Limit done C[k] → ∃ s', some v = some s' ∧ (s' = -1 ∨ 0 ≤ s' ∧ s' ∈ C ∧ Good s.Km (kmOf l4 x) p.Limit done s') ∧ (s' = -1 → ∀ i (hi : i < C.length), i < k + 1 → ¬ Good s.Km (kmOf l4 x) p.Limit done C[i]) := fun hb =>
        ⟨v, rfl, i1, fun e i hi hik => by
          by_cases ei : i = k
          · subst ei; exact hb
          · exact i2 e i hi (by omega)⟩
      have cond : ∃ c : Bool, (if 0 < (done.length : Int) then (chk ((done.length : Int) - 1)).bind fun _ => (idx done ((done.length : Int) - 1)).bind fun l => some (decide (C[k] ≤ l)) else some false) = some c ∧ (c = false ↔ ∀ z ∈ done, z < C[k]) := by
        by_cases h0 : 0 < (done.length : Int)
        · rw [if_pos h0]
          have e0 : (done.length : Int) - 1 = ((done.length - 1 : Nat) : Int) := by omega
          rw [e0, chk_ok (by omega) (by omega), Option.bind_some, idx_lt (show done.length - 1 < done.length by omega), Option.bind_some]
          refine ⟨_, rfl, ?_⟩
          rw [decide_eq_false_iff_not]
          constructor
          · intro hh z hz
            obtain ⟨j, hj, rfl⟩ := List.getElem_of_mem hz
            by_cases e : j = done.length - 1
            · subst e; omega
            · have := List.pairwise_iff_getElem.1 hD.inc j (done.length - 1) hj (by omega) (by omega)
              omega
          · intro hh
            have := hh _ (List.getElem_mem (show done.length - 1 < done.length by omega))
            omega
        · rw [if_neg h0]
          refine ⟨false, rfl, fun _ z hz => ?_, fun _ => rfl⟩
          have : done = [] := List.length_eq_zero_iff.1 (by omega)
          subst this
          simp at hz
      obtain ⟨c, c1, c2⟩ := cond
      rw [c1, Option.bind_some]
      cases c
      · rw [if_neg (by decide)]
        have c3 := c2.1 rfl
        rw [hq] at keep c3 hmem ⊢
        rw [show (0 : Int) = ((0 : Nat) : Int) from rfl, cutS_ok (by omega) (by omega), Option.bind_some, List.drop_zero]
        obtain ⟨b, b1, b2⟩ := kept_spec (row_take h q) hp hs done
        rw [b1, Option.bind_some]
        rw [kept_take (by omega)] at b2
        cases b
        · rw [if_neg (by decide)]
          exact keep (fun g => absurd (b2.2 (fun j hj => g.2 j (by omega))) (by decide))
        · rw [if_pos rfl]
          have b3 := b2.1 rfl
          exact ⟨_, rfl, .inr ⟨by omega, hmem, c3, fun j hj => b3 j (by omega)⟩, fun e => by omega⟩
      · rw [if_pos rfl]
        exact keep (fun g => absurd (c2.2 g.1) (by decide)))
  refine ⟨v, h1, h2, fun e z hz => ?_⟩
  obtain ⟨i, hi, rfl⟩ := List.getElem_of_mem hz
  exact h3 e i hi (by omega)
theorem latest_spec (h : RowOk l4 x) (hp : OkShop p) (hs : OkSet p.Limit s) {C : List Int} (hC : Cands (mayOf l4 x s p) (x.length + 1) C) :
    ∃ b l, mFishref2Latest l4 x s p C = some (b, l) ∧ (b = true ↔ Kept s.Km (kmOf l4 x) p.Limit x.length (mayOf l4 x s p)) := by
  have hkm : ∀ j, j < x.length → 0 ≤ kmOf l4 x j := fun j hj => (km_nonneg h j hj).1
  have hlen2 := hC.len
  have hxl := h.len
  unfold mFishref2Latest
  rw [chk_ok (by omega) (by omega), Option.bind_some, Option.bind_some]
  rcases forM_inv (body := mFishref2Latest_L847 l4 x s C p)
    (fun k d => d.length = k ∧ LInv s.Km (kmOf l4 x) p.Limit C d)
    (fun r => r.1 = true ↔ Kept s.Km (kmOf l4 x) p.Limit x.length (mayOf l4 x s p))
    (((C.length : Int) + 1).toNat) 0 [] ⟨rfl, fun z hz => by simp at hz, .nil, fun z hz => by simp at hz⟩ (fun k d _ hk hi => by
      obtain ⟨i1, i2⟩ := hi
      unfold mFishref2Latest_L847
      obtain ⟨b, b1, b2⟩ := kept_spec h hp hs d
      rw [b1, Option.bind_some]
      cases b
      · rw [if_neg (by decide)]
        have hnk : ¬ Kept s.Km (kmOf l4 x) p.Limit x.length (memB d) := fun hh => absurd (b2.2 hh) (by decide)
        obtain ⟨v, v1, v2, v3⟩ := pick_spec h hp hs hC i2
        rw [v1, Option.bind_some]
        rcases v2 with rfl | ⟨v4, v5, v6⟩
        · rw [if_pos (by decide)]
          refine .inr ⟨_, rfl, fun hh => (by cases hh), fun hK => ?_⟩
          obtain ⟨z, z1, z2⟩ := good_ex hC i2 hK hnk
          exact absurd z2 (v3 rfl z z1)
        · rw [if_neg (by omega), room_ok (by omega) (by omega)]
          exact .inl ⟨_, rfl, by simp [i1], linv_add i2 v5 v6⟩
      · rw [if_pos rfl]
        exact .inr ⟨_, rfl, fun _ => kept_sub hs.2.1 hkm hC i2.sub (b2.1 rfl), fun _ => rfl⟩) with ⟨d, e1, e2, e3⟩ | ⟨⟨b, l⟩, e1, e2⟩
  · exfalso
    have := inc_len C d hC.inc e3.inc e3.sub
    omega
  · rw [e1]
    exact ⟨b, l, rfl, e2⟩
theorem refpos_spec (h : RowOk l4 x) (hp : OkShop p) (hs : OkSet p.Limit s) : ∃ b l, mFishref2Positions l4 x s p = some (b, l) ∧ (b = true ↔ Kept s.Km (kmOf l4 x) p.Limit x.length (mayOf l4 x s p)) := by
  have hxl := h.len
  unfold mFishref2Positions
  rw [chk_ok (by omega) (by omega), Option.bind_some, Option.bind_some]
  obtain ⟨C, c1, c2⟩ := cands_spec (s := s) h hp
  have hlen2 := c2.len
  rw [c1, Option.bind_some]
  by_cases h12 : 12 < (C.length : Int)
  · rw [if_pos h12]
    obtain ⟨b, l, e1, e2⟩ := latest_spec h hp hs c2
    rw [e1]
    exact ⟨b, l, rfl, e2⟩
  · rw [if_neg h12, chk_ok (by omega) (by omega), Option.bind_some, Option.bind_some]
    exact sizes_spec h hp hs (by omega) c2
end

end Go.Proofs.Ytajmocgpjkhjlaa
