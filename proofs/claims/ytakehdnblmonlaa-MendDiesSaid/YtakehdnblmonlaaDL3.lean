/- Plain: levels come to rest where links without a period between make no ring; CheckRound. -/
import Derived.Test.YtakehdnblmonlaaDL2
set_option linter.unusedVariables false
set_option linter.unusedSimpArgs false
namespace Go.Proofs.Ytakehdnblmonlaa
open Go.RowKit Go.Fp

theorem cp_lt {α : Type} {p q : α → Bool} : ∀ {l : List α}, (∀ x ∈ l, p x = true → q x = true) → (∃ x ∈ l, q x = true ∧ p x = false) → l.countP p < l.countP q
  | [], _, ⟨_, h, _⟩ => by cases h
  | a :: l, h, ⟨x, hx, h1, h2⟩ => by
    rw [List.countP_cons, List.countP_cons]
    have hle : l.countP p ≤ l.countP q := List.countP_mono_left (fun y hy => h y (List.mem_cons_of_mem _ hy))
    rcases List.mem_cons.1 hx with rfl | hx
    · rw [if_pos h1, if_neg (by rw [h2]; decide)]
      omega
    · have := cp_lt (fun y hy => h y (List.mem_cons_of_mem _ hy)) ⟨x, hx, h1, h2⟩
      by_cases hp : p a = true
      · rw [if_pos hp, if_pos (h a List.mem_cons_self hp)]
        omega
      · rw [if_neg hp]
        omega
def rk (τ : Int → Nat) (n : Nat) (v : Int) : Nat := (List.range n).countP (fun (u : Nat) => decide (τ (u : Int) < τ v))
theorem rk_lt {τ : Int → Nat} {n : Nat} {v : Int} (h0 : 0 ≤ v) (h1 : v < (n : Int)) : rk τ n v < n := by
  have h := cp_lt (p := fun (u : Nat) => decide (τ (u : Int) < τ v)) (q := fun _ => true) (l := List.range n) (fun _ _ _ => rfl) ⟨v.toNat, List.mem_range.2 (by omega), rfl, decide_eq_false (by rw [Int.toNat_of_nonneg h0]; omega)⟩
  have h2 : (List.range n).countP (fun _ => true) ≤ (List.range n).length := List.countP_le_length
  rw [List.length_range] at h2
  unfold rk
  omega
theorem rk_mono {τ : Int → Nat} {n : Nat} {u v : Int} (h0 : 0 ≤ u) (h1 : u < (n : Int)) (h : τ u < τ v) : rk τ n u < rk τ n v :=
  cp_lt (fun x _ hx => decide_eq_true (by have := of_decide_eq_true hx; omega)) ⟨u.toNat, List.mem_range.2 (by omega), decide_eq_true (by rw [Int.toNat_of_nonneg h0]; exact h), decide_eq_false (by rw [Int.toNat_of_nonneg h0]; omega)⟩
section
variable {r : MendRound} (hR : RoundOk r) {ρ : Int → Nat} (hρ : ∀ l ∈ r.Links, l.Back = 0 → ρ l.From < ρ l.To)
/-- What is settled in the first k rounds. -/
def Settled (r : MendRound) (ρ : Int → Nat) (k : Nat) (L : List Int) : Prop :=
  L.length = r.Plan.length ∧ (∀ v : Int, 0 ≤ v → v < (r.Plan.length : Int) → 0 ≤ av L v ∧ av L v ≤ 24 * (k : Int)) ∧ ∀ l ∈ r.Links, l.Back = 0 → ρ l.To < k → av L l.From < av L l.To
structure Rnd (r : MendRound) (ρ : Int → Nat) (k : Nat) (L0 : List Int) (i : Nat) (s : Bool × List Int) : Prop where
  len : s.2.length = r.Plan.length
  bd : ∀ v : Int, 0 ≤ v → v < (r.Plan.length : Int) → 0 ≤ av s.2 v ∧ av s.2 v ≤ 24 * (k : Int) + (i : Int)
  eq : ∀ v : Int, 0 ≤ v → v < (r.Plan.length : Int) → ρ v < k → av s.2 v = av L0 v
  dn : ∀ (j : Nat) l, j < i → r.Links[j]? = some l → l.Back = 0 → ρ l.To ≤ k → av s.2 l.From < av s.2 l.To
  ag : s.1 = true → ∃ v : Int, 0 ≤ v ∧ v < (r.Plan.length : Int) ∧ k ≤ ρ v
include hR hρ in
theorem rnd_step {k : Nat} (hkk : k ≤ 8) {L0 : List Int} (h0 : Settled r ρ k L0) {i : Nat} (hi : i < r.Links.length) {s : Bool × List Int} (h : Rnd r ρ k L0 i s) : ∃ s', mMendRoundRing_L3433 r i s = some s' ∧ Rnd r ρ k L0 (i + 1) s' := by
  obtain ⟨b, L⟩ := s
  obtain ⟨hlen, hbd, heq, hdn, hag⟩ := h
  replace hlen : L.length = r.Plan.length := hlen
  replace hbd : ∀ v : Int, 0 ≤ v → v < (r.Plan.length : Int) → 0 ≤ av L v ∧ av L v ≤ 24 * (k : Int) + (i : Int) := hbd
  replace heq : ∀ v : Int, 0 ≤ v → v < (r.Plan.length : Int) → ρ v < k → av L v = av L0 v := heq
  replace hdn : ∀ (j : Nat) l, j < i → r.Links[j]? = some l → l.Back = 0 → ρ l.To ≤ k → av L l.From < av L l.To := hdn
  replace hag : b = true → ∃ v : Int, 0 ≤ v ∧ v < (r.Plan.length : Int) ∧ k ≤ ρ v := hag
  obtain ⟨x, x1, x2, x3⟩ := link_at hi
  have hx := hR.ok x x3
  have hk24 := hR.lk
  have hn8 := hR.n8
  have stay : (x.Back = 0 → ρ x.To ≤ k → av L x.From < av L x.To) → Rnd r ρ k L0 (i + 1) (b, L) := fun hc => by
    refine ⟨hlen, fun v a c => by have := hbd v a c; show 0 ≤ av L v ∧ av L v ≤ _; omega, heq, fun j l hj hl h1 h2 => ?_, hag⟩
    by_cases e : j = i
    · subst e
      rw [x2] at hl
      injection hl with hl
      subst hl
      exact hc h1 h2
    · exact hdn j l (by omega) hl h1 h2
  unfold mMendRoundRing_L3433
  simp only [unc2]
  rw [x1, Option.bind_some]
  have rf : ∃ c, (if x.Back = 0 then (idx L x.To).bind fun x4003 => (idx L x.From).bind fun x4019 => some (decide (x4003 ≤ x4019)) else some false) = some c ∧ (c = true ↔ x.Back = 0 ∧ av L x.To ≤ av L x.From) := by
    by_cases hb : x.Back = 0
    · rw [if_pos hb, idx_av hx.t0 (by rw [hlen]; exact hx.t1), Option.bind_some, idx_av hx.f0 (by rw [hlen]; exact hx.f1), Option.bind_some]
      exact ⟨_, rfl, ⟨fun h => ⟨hb, of_decide_eq_true h⟩, fun h => decide_eq_true h.2⟩⟩
    · rw [if_neg hb]
      exact ⟨_, rfl, ⟨(fun h => by cases h), fun h => absurd h.1 hb⟩⟩
  obtain ⟨c, c1, c2⟩ := rf
  rw [c1, Option.bind_some]
  cases c with
  | false =>
    rw [if_neg (by decide)]
    refine ⟨_, rfl, stay (fun h1 _ => ?_)⟩
    have : ¬ (x.Back = 0 ∧ av L x.To ≤ av L x.From) := fun h => by cases c2.2 h
    by_cases h2 : av L x.To ≤ av L x.From
    · exact absurd ⟨h1, h2⟩ this
    · omega
  | true =>
    obtain ⟨h1, h2⟩ := c2.1 rfl
    have hbf := hbd x.From hx.f0 hx.f1
    have hst := hρ x x3 h1
    have hto : k ≤ ρ x.To := by
      rcases Nat.lt_or_ge (ρ x.To) k with hlt | hge
      · have e1 := heq x.To hx.t0 hx.t1 hlt
        have e2 := heq x.From hx.f0 hx.f1 (by omega)
        have := h0.2.2 x x3 h1 hlt
        omega
      · exact hge
    rw [if_pos rfl, idx_av hx.f0 (by rw [hlen]; exact hx.f1), Option.bind_some, chk_ok (by omega) (by omega), Option.bind_some, idx_av hx.t0 (by rw [hlen]; exact hx.t1), Option.bind_some]
    have hput : ∀ u : Int, 0 ≤ u → av (put L x.To (av L x.From + 1)) u = if u = x.To then av L x.From + 1 else av L u := fun u hu => av_put hx.t0 (by rw [hlen]; exact hx.t1) hu
    refine ⟨_, rfl, by show (put L x.To _).length = _; rw [put_length]; exact hlen, fun v a c => ?_, fun v a c hv => ?_, fun j l hj hl g1 g2 => ?_, fun _ => ⟨x.To, hx.t0, hx.t1, hto⟩⟩
    · show 0 ≤ av (put L x.To (av L x.From + 1)) v ∧ av (put L x.To (av L x.From + 1)) v ≤ _
      rw [hput v a]
      have := hbd v a c
      split <;> omega
    · show av (put L x.To (av L x.From + 1)) v = _
      rw [hput v a, if_neg (fun e => by subst e; omega)]
      exact heq v a c hv
    · show av (put L x.To (av L x.From + 1)) l.From < av (put L x.To (av L x.From + 1)) l.To
      have hm : l ∈ r.Links := List.mem_of_getElem? hl
      have hl' := hR.ok l hm
      have hs := hρ l hm g1
      rw [hput _ hl'.f0, hput _ hl'.t0, if_neg (fun e : l.From = x.To => by rw [e] at hs; omega)]
      by_cases e : j = i
      · subst e
        rw [x2] at hl
        injection hl with hl
        subst hl
        rw [if_pos rfl]
        omega
      · have := hdn j l (by omega) hl g1 g2
        by_cases e2 : l.To = x.To
        · rw [if_pos e2]
          rw [e2] at this
          omega
        · rw [if_neg e2]
          exact this
include hR hρ in
theorem rnd_all {k : Nat} (hkk : k ≤ 8) {L0 : List Int} (h0 : Settled r ρ k L0) : ∃ s, forS (mMendRoundRing_L3433 r) r.Links.length 0 (false, L0) = some s ∧ Rnd r ρ k L0 r.Links.length s := by
  have h1 : Rnd r ρ k L0 0 (false, L0) := ⟨h0.1, fun v a c => by have := h0.2.1 v a c; show 0 ≤ av L0 v ∧ av L0 v ≤ _; omega, fun _ _ _ _ => rfl, fun j l hj => absurd hj (by omega), fun h => by cases h⟩
  obtain ⟨s, e1, e2⟩ := forS_inv (body := mMendRoundRing_L3433 r) (fun i s => Rnd r ρ k L0 i s) r.Links.length 0 (false, L0) h1 (fun i s _ hi h => rnd_step hR hρ hkk h0 (by omega) h)
  rw [Nat.zero_add] at e2
  exact ⟨s, e1, e2⟩
include hR hρ in
theorem ring_false0 (hρn : ∀ v : Int, 0 ≤ v → v < (r.Plan.length : Int) → ρ v < r.Plan.length) : mMendRoundRing r = some false := by
  have hn8 := hR.n8
  unfold mMendRoundRing
  rw [mkLen_ok (by omega) (by omega), Option.bind_some, chk_ok (by omega) (by omega), Option.bind_some, Option.bind_some]
  have e : ((r.Plan.length : Int) + 1).toNat = r.Plan.length + 1 := by omega
  rw [e]
  rcases forM_inv (body := mMendRoundRing_L2067 r) (fun k L => k ≤ r.Plan.length ∧ Settled r ρ k L) (fun b => b = false) (r.Plan.length + 1) 0 (List.replicate r.Plan.length 0) ⟨by omega, List.length_replicate, fun v a c => by rw [av_rep a c]; omega, fun l hm _ h => absurd h (by omega)⟩ (fun k L _ hk hi => by
    obtain ⟨h1, h2⟩ := hi
    obtain ⟨⟨b, L'⟩, e1, e2⟩ := rnd_all hR hρ (k := k) (by omega) h2
    unfold mMendRoundRing_L2067
    rw [e1, Option.bind_some]
    simp only [unc2]
    cases b with
    | false => exact .inr ⟨false, by rw [if_neg (by decide)], rfl⟩
    | true =>
      rw [if_pos rfl]
      obtain ⟨v, v1, v2, v3⟩ := e2.ag rfl
      have := hρn v v1 v2
      refine .inl ⟨L', rfl, by omega, e2.len, fun v a c => ?_, fun l hm g1 g2 => ?_⟩
      · have := e2.bd v a c
        have := hR.lk
        show 0 ≤ av L' v ∧ av L' v ≤ _
        have h3 : 0 ≤ av L' v ∧ av L' v ≤ 24 * (k : Int) + (r.Links.length : Int) := e2.bd v a c
        omega
      · obtain ⟨j, hj, rfl⟩ := List.getElem_of_mem hm
        exact e2.dn j _ hj (List.getElem?_eq_getElem hj) g1 (by omega)) with ⟨L, _, h, _⟩ | ⟨b, h1, h2⟩
  · omega
  · rw [h1, Option.bind_some, h2]
    rfl
end
theorem ring_false {r : MendRound} (hR : RoundOk r) : mMendRoundRing r = some false := by
  obtain ⟨τ, hτ⟩ := hR.ac
  exact ring_false0 hR (ρ := rk τ r.Plan.length) (fun l hm h => rk_mono (hR.ok l hm).f0 (hR.ok l hm).f1 (hτ l hm h)) (fun v a b => rk_lt a b)
theorem check_ok {r : MendRound} (hR : RoundOk r) : mMendCheckRound r = some 0 := by
  have hn8 := hR.n8
  have hn0 := hR.n0
  have hlk := hR.lk
  unfold mMendCheckRound
  rw [within_eq, Option.bind_some, if_pos (decide_eq_true ⟨hR.p0, hR.p1⟩), within_eq, Option.bind_some, if_pos (decide_eq_true ⟨by omega, by omega⟩), Option.bind_some, if_neg (by rw [decide_eq_false (by omega)]; decide)]
  rcases forM_inv (body := mMendCheckRound_L188 r) (fun _ _ => True) (fun _ => False) r.Plan.length 0 () trivial (fun k u _ hk _ => by
    have hp := hR.pl (k : Int) (by omega) (by omega)
    have := hR.p1
    unfold mMendCheckRound_L188
    rw [idx_av (by omega) (by omega), Option.bind_some, chk_ok (by omega) (by omega), Option.bind_some, within_eq, Option.bind_some, if_pos (decide_eq_true hp)]
    exact .inl ⟨(), rfl, trivial⟩) with ⟨_, h1, _⟩ | ⟨_, _, h⟩
  · rw [h1, Option.bind_some]
    show (forM (mMendCheckRound_L226 r) r.Links.length 0 ()).bind _ = _
    rcases forM_inv (body := mMendCheckRound_L226 r) (fun _ _ => True) (fun _ => False) r.Links.length 0 () trivial (fun k u _ hk _ => by
      obtain ⟨x, x1, x2, x3⟩ := link_at (l := r.Links) (k := k) (by omega)
      have hx := hR.ok x x3
      have := hx.f0
      have := hx.f1
      have := hx.t0
      have := hx.t1
      unfold mMendCheckRound_L226
      rw [x1, Option.bind_some, chk_ok (by omega) (by omega), Option.bind_some, within_eq, Option.bind_some, if_pos (decide_eq_true ⟨by omega, by omega⟩), Option.bind_some, within_eq, Option.bind_some, decide_eq_true (show 0 ≤ x.To ∧ x.To ≤ (r.Plan.length : Int) - 1 by omega), Option.bind_some, if_neg (by decide), within_eq, Option.bind_some, if_pos (decide_eq_true ⟨hx.n0, hx.n1⟩), within_eq, Option.bind_some, decide_eq_true (show 0 ≤ x.Back ∧ x.Back ≤ 3 from ⟨hx.b0, hx.b1⟩), Option.bind_some, if_neg (by decide), slack_ok hR.toPlanOk hx, Option.bind_some, if_neg (by have := hR.s0 x x3; omega)]
      exact .inl ⟨(), rfl, trivial⟩) with ⟨_, h2, _⟩ | ⟨_, _, h⟩
    · rw [h2, Option.bind_some]
      show (mMendRoundRing r).bind _ = _
      rw [ring_false hR, Option.bind_some, if_neg (by decide)]
    · exact h.elim
  · exact h.elim
end Go.Proofs.Ytakehdnblmonlaa
