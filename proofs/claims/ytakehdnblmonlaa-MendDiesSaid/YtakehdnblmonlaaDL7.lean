/- Plain: the ring with the greatest mean; a stable round has no ring without loss. -/
import Derived.Test.YtakehdnblmonlaaDL6
set_option linter.unusedVariables false
set_option linter.unusedSimpArgs false
namespace Go.Proofs.Ytakehdnblmonlaa
open Go.RowKit Go.Fp

theorem forS_or {σ : Type} {body : Nat → σ → Option σ} (Q : Prop) (I : Nat → σ → Prop) : ∀ (m k : Nat) (s : σ), I k s → (∀ j s, k ≤ j → j < k + m → I j s → (body j s = none ∧ Q) ∨ ∃ s', body j s = some s' ∧ I (j + 1) s') → (forS body m k s = none ∧ Q) ∨ ∃ s', forS body m k s = some s' ∧ I (k + m) s'
  | 0, k, s, h0, _ => .inr ⟨s, rfl, h0⟩
  | m + 1, k, s, h0, h => by
    have e : forS body (m + 1) k s = (body k s).bind (forS body m (k + 1)) := rfl
    rcases h k s (Nat.le_refl _) (by omega) h0 with ⟨h1, h2⟩ | ⟨s', h1, h2⟩
    · exact .inl ⟨by rw [e, h1]; rfl, h2⟩
    · rcases forS_or Q I m (k + 1) s' h2 (fun j t hj hj' hi => h j t (by omega) (by omega) hi) with ⟨h3, h4⟩ | ⟨s'', h3, h4⟩
      · exact .inl ⟨by rw [e, h1]; exact h3, h4⟩
      · exact .inr ⟨s'', by rw [e, h1]; exact h3, by rw [show k + (m + 1) = k + 1 + m by omega]; exact h4⟩
def fB (b : Bool) : Nat := if b = true then 0 else 1
theorem cF_put {S : List Bool} {t : Int} (h0 : 0 ≤ t) (h1 : t < (S.length : Int)) (h : bv S t = false) : sumN fB (put S t true) + 1 = sumN fB S := by
  have hy : S[t.toNat]? = some false := by
    unfold bv at h
    rw [List.getD_eq_getElem?_getD, List.getElem?_eq_getElem (by omega)] at h
    rw [List.getElem?_eq_getElem (by omega)]
    exact congrArg some h
  exact sumN_set fB S t.toNat true false hy
theorem put_back {S : List Bool} {t : Int} (h0 : 0 ≤ t) (h1 : t < (S.length : Int)) (h : bv S t = false) : put (put S t true) t false = S := by
  have hy : S[t.toNat]? = some false := by
    unfold bv at h
    rw [List.getD_eq_getElem?_getD, List.getElem?_eq_getElem (by omega)] at h
    rw [List.getElem?_eq_getElem (by omega)]
    exact congrArg some h
  unfold put
  rw [List.set_set]
  refine List.ext_getElem? (fun i => ?_)
  by_cases e : t.toNat = i
  · subst e
    rw [List.getElem?_set_self (by omega), hy]
  · rw [List.getElem?_set_ne e]
structure MInv (back long : Int) (best : List Int) : Prop where
  b0 : 0 ≤ back
  b1 : back ≤ 27
  l0 : 0 ≤ long
  l1 : long ≤ 259200
  pos : best ≠ [] → 0 < back
def Over (back long : Int) (best : List Int) (back' long' : Int) (best' : List Int) : Prop := best ≠ [] → best' ≠ [] ∧ ∀ x y : Int, 0 ≤ y → x * back ≤ long * y → x * back' ≤ long' * y
theorem Over.refl {back long : Int} {best : List Int} : Over back long best back long best := fun h => ⟨h, fun _ _ _ h => h⟩
theorem Over.trans {b l b' l' b'' l'' : Int} {e e' e'' : List Int} (h : Over b l e b' l' e') (h' : Over b' l' e' b'' l'' e'') : Over b l e b'' l'' e'' := fun hne =>
  ⟨(h' (h hne).1).1, fun x y hy hxy => (h' (h hne).1).2 x y hy ((h hne).2 x y hy hxy)⟩
theorem ratio {p q back long x y : Int} (hb : 0 < back) (hq : 0 ≤ q) (hy : 0 ≤ y) (h1 : p * back ≤ long * q) (h2 : long * y ≤ x * back) : p * y ≤ x * q := by
  have a1 : p * back * y ≤ long * q * y := Int.mul_le_mul_of_nonneg_right h1 hy
  have a2 : long * y * q ≤ x * back * q := Int.mul_le_mul_of_nonneg_right h2 hq
  have e1 : p * back * y = p * y * back := by rw [Int.mul_assoc, Int.mul_comm back y, ← Int.mul_assoc]
  have e2 : long * q * y = long * y * q := by rw [Int.mul_assoc, Int.mul_comm q y, ← Int.mul_assoc]
  have e3 : x * back * q = x * q * back := by rw [Int.mul_assoc, Int.mul_comm back q, ← Int.mul_assoc]
  exact Int.le_of_mul_le_mul_right (by omega : p * y * back ≤ x * q * back) hb
structure At (r : MendRound) (f u a b : Int) (p : List Int) (S : List Bool) (pre : List MendLink) : Prop where
  wk : Wk r f pre u
  ea : a = sL pre
  eb : b = sB pre
  el : p.length = pre.length
  n8 : pre.length + sumN fB S ≤ 8
  sl : S.length = r.Plan.length
  f0 : 0 ≤ f
  f1 : f < (r.Plan.length : Int)
def Cov (r : MendRound) (f a b : Int) (S : List Bool) (back' long' : Int) (best' : List Int) (ws : List MendLink) : Prop :=
  Wk r (match ws with | [] => f | x :: _ => x.From) ws f → ws ≠ [] → (∀ x ∈ ws.dropLast, f < x.To ∧ bv S x.To = false) → (ws.map MendLink.To).Nodup → best' ≠ [] ∧ (a + sL ws) * back' ≤ long' * (b + sB ws)
structure Got (r : MendRound) (f u a b : Int) (S : List Bool) (back long : Int) (best : List Int) (back' long' : Int) (best' : List Int) : Prop where
  inv : MInv back' long' best'
  over : Over back long best back' long' best'
  cov : ∀ ws, (∀ x l, ws = x :: l → x.From = u) → Cov r f a b S back' long' best' ws
abbrev RC : Type := Int → Int → Int → Int → Int → List Int → List MendLink → Int → Int → List Bool → List Int → List Int → Option (Int × Int × List Bool × List Int)
def GrowOk (r : MendRound) (f : Int) (rc : RC) (Q : Prop) (c : Nat) : Prop := ∀ u a b p back long S best pre, At r f u a b p S pre → sumN fB S < c → MInv back long best →
  (rc f u a b r.Period r.Plan r.Links back long S p best = none ∧ Q) ∨ ∃ back' long' best', rc f u a b r.Period r.Plan r.Links back long S p best = some (back', long', S, best') ∧ Got r f u a b S back long best back' long' best'
theorem pass4 {β γ δ ε τ : Type} {A : β → γ → δ → ε → Option τ} {x : β} {y : γ} {z : δ} {w : ε} : (some (x, y, z, w)).bind (unc4 A) = A x y z w := rfl
section
variable {r : MendRound} (hR : RoundOk r) {f u a b : Int} {p : List Int} {S : List Bool} {pre : List MendLink}
theorem Cov.over {ws : List MendLink} {back long back' long' : Int} {best best' : List Int} (hb : ∀ l ∈ r.Links, 0 ≤ l.Back) (hb0 : 0 ≤ b) (ho : Over back long best back' long' best') (h : Cov r f a b S back long best ws) : Cov r f a b S back' long' best' ws := fun h1 h2 h3 h4 => by
  have h5 := h h1 h2 h3 h4
  have h6 : 0 ≤ sB ws := by
    have : ∀ (ws : List MendLink) (u v : Int), Wk r u ws v → 0 ≤ sB ws := by
      intro ws
      induction ws with
      | nil => intro _ _ _; exact Int.le_refl _
      | cons x xs ih =>
        intro u v h
        have := hb x h.1
        have := ih _ _ h.2.2
        show 0 ≤ x.Back + sB xs
        omega
    exact this ws _ _ h1
  exact ⟨(ho h5.1).1, (ho h5.1).2 _ _ (by omega) h5.2⟩
structure GRnd (r : MendRound) (f u a b : Int) (S : List Bool) (back long : Int) (best : List Int) (i : Nat) (s : Int × Int × List Bool × List Int) : Prop where
  seen : s.2.2.1 = S
  inv : MInv s.1 s.2.1 s.2.2.2
  over : Over back long best s.1 s.2.1 s.2.2.2
  cov : ∀ (j : Nat) x, j < i → r.Links[j]? = some x → x.From = u → ∀ l, Cov r f a b S s.1 s.2.1 s.2.2.2 (x :: l)
include hR in
theorem grow_step (hA : At r f u a b p S pre) {rc : RC} {Q : Prop} (hrc : GrowOk r f rc Q (sumN fB S)) {back0 long0 : Int} {best0 : List Int} {i : Nat} (hi : i < r.Links.length) {s : Int × Int × List Bool × List Int} (h : GRnd r f u a b S back0 long0 best0 i s) :
    (mMendRoundMean_1_2_L1919 r.Plan r.Links p f u a b r.Period rc i s = none ∧ Q) ∨ ∃ s', mMendRoundMean_1_2_L1919 r.Plan r.Links p f u a b r.Period rc i s = some s' ∧ GRnd r f u a b S back0 long0 best0 (i + 1) s' := by
  obtain ⟨back, long, S', best⟩ := s
  obtain ⟨hseen, hinv, hover, hcov⟩ := h
  replace hseen : S' = S := hseen
  subst hseen
  replace hinv : MInv back long best := hinv
  replace hover : Over back0 long0 best0 back long best := hover
  replace hcov : ∀ (j : Nat) x, j < i → r.Links[j]? = some x → x.From = u → ∀ l, Cov r f a b S' back long best (x :: l) := hcov
  obtain ⟨x, x1, x2, x3⟩ := link_at hi
  have hx := hR.ok x x3
  have hps := sS_nonneg hR pre f u hA.wk
  have hpl : pre.length ≤ 8 := by have := hA.n8; omega
  have ha : 0 ≤ a ∧ a ≤ 230400 := by rw [hA.ea]; omega
  have hb : 0 ≤ b ∧ b ≤ 24 := by rw [hA.eb]; omega
  have := hx.n0
  have := hx.n1
  have := hx.b0
  have := hx.b1
  have hbk : ∀ l ∈ r.Links, 0 ≤ l.Back := fun l hl => (hR.ok l hl).b0
  -- what is known of all links so far
  have next : ∀ {back' long' : Int} {best' : List Int}, MInv back' long' best' → Over back long best back' long' best' → (x.From = u → ∀ l, Cov r f a b S' back' long' best' (x :: l)) → GRnd r f u a b S' back0 long0 best0 (i + 1) (back', long', S', best') := fun hi' ho hc =>
    ⟨rfl, hi', hover.trans ho, fun j y hj hy hu l => by
      by_cases e : j = i
      · subst e
        rw [x2] at hy
        injection hy with hy
        subst hy
        exact hc hu l
      · exact (hcov j y (by omega) hy hu l).over hbk hb.1 ho⟩
  unfold mMendRoundMean_1_2_L1919
  simp only [unc4]
  rw [x1, Option.bind_some]
  have skip : ∃ c, (if x.From ≠ u then some true else some (decide (x.To < f))) = some c ∧ (c = true ↔ x.From ≠ u ∨ x.To < f) := by
    by_cases h1 : x.From ≠ u
    · rw [if_pos h1]
      exact ⟨_, rfl, ⟨fun _ => .inl h1, fun _ => rfl⟩⟩
    · rw [if_neg h1]
      exact ⟨_, rfl, ⟨fun h => .inr (of_decide_eq_true h), fun h => decide_eq_true (h.elim (fun h => absurd h h1) id)⟩⟩
  obtain ⟨c, c1, c2⟩ := skip
  rw [c1, Option.bind_some]
  cases c with
  | true =>
    rw [if_pos rfl]
    refine .inr ⟨_, rfl, next hinv Over.refl (fun hu l hw hne hd hn => ?_)⟩
    rcases c2.1 rfl with h1 | h1
    · exact absurd hu h1
    · cases l with
      | nil =>
        have : x.To = f := hw.2.2
        omega
      | cons y l =>
        have := (hd x (by simp)).1
        omega
  | false =>
    have hc0 : ¬ (x.From ≠ u ∨ x.To < f) := fun h => by cases c2.2 h
    have hu : x.From = u := Classical.byContradiction (fun h => hc0 (.inl h))
    have hge : f ≤ x.To := by
      rcases Int.lt_or_le x.To f with h | h
      · exact absurd (.inr h) hc0
      · exact h
    rw [if_neg (by decide)]
    by_cases he : x.To = f
    · -- the ring is closed
      rw [if_pos he, chk_ok (by omega) (by omega), Option.bind_some, chk_ok (by omega) (by omega), Option.bind_some]
      have hring : 0 < b + x.Back := by
        have h1 := ring_back hR (ws := pre ++ [x]) (u := f) (Wk.app.2 ⟨u, hA.wk, x3, hu, he⟩) (by simp)
        rw [sB_app] at h1
        have e1 : sB [x] = x.Back + 0 := rfl
        rw [hA.eb]
        omega
      have hm1 : 0 ≤ (a + x.Len) * back := Int.mul_nonneg (by omega) hinv.b0
      have hm2 : (a + x.Len) * back ≤ 300000 * 27 := by
        have h1 : (a + x.Len) * back ≤ 300000 * back := Int.mul_le_mul_of_nonneg_right (by omega) hinv.b0
        have := hinv.b1
        omega
      have hm3 : 0 ≤ long * (b + x.Back) := Int.mul_nonneg hinv.l0 (by omega)
      have hm4 : long * (b + x.Back) ≤ 300000 * 27 := by
        have h1 : long * (b + x.Back) ≤ 300000 * (b + x.Back) := Int.mul_le_mul_of_nonneg_right (by have := hinv.l1; omega) (by omega)
        omega
      have sums : ∀ l, Wk r x.From (x :: l) f → (∀ y ∈ (x :: l).dropLast, f < y.To ∧ bv S' y.To = false) → l = [] := fun l hw hd => by
        cases l with
        | nil => rfl
        | cons y l =>
          have := (hd x (by simp)).1
          omega
      have fill : ∀ best' : List Int, best' ≠ [] → (best ≠ [] → long * (b + x.Back) ≤ (a + x.Len) * back) → GRnd r f u a b S' back0 long0 best0 (i + 1) (b + x.Back, a + x.Len, S', best') := fun best' hne hlt =>
        next ⟨by omega, by omega, by omega, by omega, fun _ => hring⟩ (fun hb0 => ⟨hne, fun p' q' hq hpq => ratio (hinv.pos hb0) hq (by omega) hpq (hlt hb0)⟩) (fun _ l hw hne' hd hn => by
          have := sums l hw hd
          subst this
          have e1 : sL [x] = x.Len + 0 := rfl
          have e2 : sB [x] = x.Back + 0 := rfl
          rw [e1, e2, Int.add_zero, Int.add_zero]
          exact ⟨hne, Int.le_refl _⟩)
      have cmp : ∃ c, (if best.isEmpty = true then some true else (chk ((a + x.Len) * back)).bind fun _ => (chk (long * (b + x.Back))).bind fun _ => some (decide (long * (b + x.Back) < (a + x.Len) * back))) = some c ∧ (c = true ↔ best = [] ∨ long * (b + x.Back) < (a + x.Len) * back) := by
        by_cases h1 : best.isEmpty = true
        · rw [if_pos h1]
          exact ⟨_, rfl, ⟨fun _ => .inl (List.isEmpty_iff.1 h1), fun _ => rfl⟩⟩
        · rw [if_neg h1, chk_ok (by omega) (by omega), Option.bind_some, chk_ok (by omega) (by omega), Option.bind_some]
          exact ⟨_, rfl, ⟨fun h => .inr (of_decide_eq_true h), fun h => decide_eq_true (h.elim (fun h => absurd (List.isEmpty_iff.2 h) h1) id)⟩⟩
      obtain ⟨d, d1, d2⟩ := cmp
      rw [d1, Option.bind_some]
      cases d with
      | true =>
        have hl := hA.el
        rw [if_pos rfl]
        unfold mSlicesClone
        rw [room_ok (by omega) (by omega), Option.bind_some, Option.bind_some, room_ok (by omega) (by omega), Option.bind_some]
        exact .inr ⟨_, rfl, fill _ (by simp) (fun hne => (d2.1 rfl).elim (fun h => absurd h hne) (fun h => Int.le_of_lt h))⟩
      | false =>
        rw [if_neg (by decide)]
        have hd : ¬ (best = [] ∨ long * (b + x.Back) < (a + x.Len) * back) := fun h => by cases d2.2 h
        refine .inr ⟨_, rfl, next hinv Over.refl (fun _ l hw hne' hd' hn => ?_)⟩
        have := sums l hw hd'
        subst this
        have e1 : sL [x] = x.Len + 0 := rfl
        have e2 : sB [x] = x.Back + 0 := rfl
        rw [e1, e2, Int.add_zero, Int.add_zero]
        refine ⟨fun h => hd (.inl h), ?_⟩
        rcases Int.lt_or_le (long * (b + x.Back)) ((a + x.Len) * back) with h | h
        · exact absurd (.inr h) hd
        · exact h
    · have hgt : f < x.To := by omega
      have hlen := hA.sl
      rw [if_neg he, idx_bv hx.t0 (by rw [hlen]; exact hx.t1), Option.bind_some]
      by_cases hs : bv S' x.To = true
      · rw [if_pos hs]
        refine .inr ⟨_, rfl, next hinv Over.refl (fun _ l hw hne' hd' hn => ?_)⟩
        cases l with
        | nil => exact absurd hw.2.2 he
        | cons y l =>
          have := (hd' x (by simp)).2
          rw [hs] at this
          cases this
      · have hsf : bv S' x.To = false := by
          cases hq : bv S' x.To with
          | true => exact absurd hq hs
          | false => rfl
        have hcf := cF_put (S := S') hx.t0 (by rw [hlen]; exact hx.t1) hsf
        have hel := hA.el
        rw [if_neg hs, Option.bind_some, room_ok (by omega) (by omega), Option.bind_some, chk_ok (by omega) (by omega), Option.bind_some, chk_ok (by omega) (by omega), Option.bind_some]
        have hA2 : At r f x.To (a + x.Len) (b + x.Back) (p ++ [(i : Int)]) (put S' x.To true) (pre ++ [x]) := by
          have e1 : sL [x] = x.Len + 0 := rfl
          have e2 : sB [x] = x.Back + 0 := rfl
          refine ⟨Wk.app.2 ⟨u, hA.wk, x3, hu, rfl⟩, by rw [sL_app, e1, hA.ea]; omega, by rw [sB_app, e2, hA.eb]; omega, by simp only [List.length_append, List.length_cons, List.length_nil]; omega, ?_, by rw [put_length]; exact hlen, hA.f0, hA.f1⟩
          have := hA.n8
          simp only [List.length_append, List.length_cons, List.length_nil]
          omega
        rcases hrc x.To (a + x.Len) (b + x.Back) (p ++ [(i : Int)]) back long (put S' x.To true) best (pre ++ [x]) hA2 (by omega) hinv with ⟨h1, h2⟩ | ⟨back', long', best', h1, h2⟩
        · left
          rw [h1]
          exact ⟨rfl, h2⟩
        · right
          rw [h1, pass4, pass4, idx_bv hx.t0 (by rw [put_length, hlen]; exact hx.t1), Option.bind_some, put_back hx.t0 (by rw [hlen]; exact hx.t1) hsf]
          refine ⟨_, rfl, next h2.inv h2.over (fun _ l hw hne' hd' hn => ?_)⟩
          cases l with
          | nil => exact absurd hw.2.2 he
          | cons y l =>
            have hn2 : x.To ∉ (y :: l).map MendLink.To ∧ ((y :: l).map MendLink.To).Nodup := List.nodup_cons.1 hn
            have h3 := h2.cov (y :: l) (fun z q e => by injection e with e1 e2; subst e1; exact hw.2.2.2.1) ⟨hw.2.2.1, rfl, hw.2.2.2.2⟩ (by simp) (fun z hz => by
              have hz2 : z ∈ (x :: y :: l).dropLast := by
                rw [List.dropLast_cons_of_ne_nil (by simp)]
                exact List.mem_cons_of_mem _ hz
              have h4 := hd' z hz2
              have hzm : z ∈ y :: l := (List.dropLast_sublist _).subset hz
              have hzr := hR.ok z (walk_mem hw.2.2 z hzm)
              refine ⟨h4.1, ?_⟩
              rw [bv_put hx.t0 (by rw [hlen]; exact hx.t1) hzr.t0, if_neg (fun e => hn2.1 (List.mem_map.2 ⟨z, hzm, e⟩))]
              exact h4.2) hn2.2
            have e1 : sL (x :: y :: l) = x.Len + sL (y :: l) := rfl
            have e2 : sB (x :: y :: l) = x.Back + sB (y :: l) := rfl
            rw [e1, e2, ← Int.add_assoc, ← Int.add_assoc]
            exact h3
theorem got_of {back long : Int} {best : List Int} {s : Int × Int × List Bool × List Int} (h : GRnd r f u a b S back long best r.Links.length s) : ∃ back' long' best', s = (back', long', S, best') ∧ Got r f u a b S back long best back' long' best' := by
  obtain ⟨back', long', S', best'⟩ := s
  obtain ⟨h1, h2, h3, h4⟩ := h
  have h1 : S' = S := h1
  subst h1
  refine ⟨_, _, _, rfl, h2, h3, fun ws hws => ?_⟩
  cases ws with
  | nil => exact fun _ h => absurd rfl h
  | cons x l =>
    intro hw hne hd hn
    obtain ⟨j, hj, he⟩ := List.getElem_of_mem hw.1
    exact h4 j x hj (by rw [List.getElem?_eq_getElem hj, he]) (hws x l rfl) l hw hne hd hn
include hR in
theorem grow_all : ∀ (N : Nat), GrowOk r f (mMendRoundMean_1_2 N) True 9 ∧ ∀ c, c ≤ N → GrowOk r f (mMendRoundMean_1_2 N) False c
  | 0 => ⟨fun _ _ _ _ _ _ _ _ _ _ _ _ => .inl ⟨rfl, trivial⟩, fun c hc u a b p back long S best pre hA hlt _ => absurd hlt (by omega)⟩
  | N + 1 => by
    obtain ⟨i1, i2⟩ := grow_all N
    have go : ∀ (Q : Prop) u a b p back long S best pre, At r f u a b p S pre → GrowOk r f (mMendRoundMean_1_2 N) Q (sumN fB S) → MInv back long best → (mMendRoundMean_1_2 (N + 1) f u a b r.Period r.Plan r.Links back long S p best = none ∧ Q) ∨ ∃ back' long' best', mMendRoundMean_1_2 (N + 1) f u a b r.Period r.Plan r.Links back long S p best = some (back', long', S, best') ∧ Got r f u a b S back long best back' long' best' := fun Q u a b p back long S best pre hA hrc hinv => by
      have e : mMendRoundMean_1_2 (N + 1) f u a b r.Period r.Plan r.Links back long S p best = (forS (mMendRoundMean_1_2_L1919 r.Plan r.Links p f u a b r.Period (mMendRoundMean_1_2 N)) r.Links.length 0 (back, long, S, best)).bind (unc4 fun x2403 x2404 l2405 l2407 => some (x2403, x2404, l2405, l2407)) := rfl
      rw [e]
      rcases forS_or Q (fun i s => GRnd r f u a b S back long best i s) r.Links.length 0 (back, long, S, best) ⟨rfl, hinv, Over.refl, fun j x hj => absurd hj (by omega)⟩ (fun i s _ hi h => grow_step hR hA hrc (by omega) h) with ⟨h1, h2⟩ | ⟨s, h1, h2⟩
      · left
        rw [h1]
        exact ⟨rfl, h2⟩
      · right
        rw [Nat.zero_add] at h2
        obtain ⟨back', long', best', rfl, h3⟩ := got_of h2
        rw [h1, pass4]
        exact ⟨_, _, _, rfl, h3⟩
    refine ⟨fun u a b p back long S best pre hA hlt hinv => go True u a b p back long S best pre hA (fun u' a' b' p' back' long' S' best' pre' hA' hlt' hinv' => i1 u' a' b' p' back' long' S' best' pre' hA' (by omega) hinv') hinv, fun c hc u a b p back long S best pre hA hlt hinv => go False u a b p back long S best pre hA (i2 _ (by omega)) hinv⟩
/-- The function in the limit. -/
noncomputable def rcL : RC := fun x1 x2 x3 x4 x5 l1 l2 x6 x7 l3 l4 l5 => lim (fun N => mMendRoundMean_1_2 N x1 x2 x3 x4 x5 l1 l2 x6 x7 l3 l4 l5)
include hR in
theorem grow_lim : GrowOk r f rcL False 9 := fun u a b p back long S best pre hA hlt hinv => by
  right
  have h1 := (grow_all hR (f := f) 9).2 9 (Nat.le_refl _) u a b p back long S best pre hA hlt hinv
  rcases h1 with ⟨_, h⟩ | ⟨b1, l1, e1, h2, h3⟩
  · exact h.elim
  · obtain ⟨t, t1, b2, l2, e2, t2, t3⟩ := lim_ok (P := fun t => ∃ back' long' best', t = (back', long', S, best') ∧ Got r f u a b S back long best back' long' best') (f := fun N => mMendRoundMean_1_2 N f u a b r.Period r.Plan r.Links back long S p best) ⟨9, _, h2⟩ (fun N t ht => by
      rcases (grow_all hR (f := f) N).1 u a b p back long S best pre hA hlt hinv with ⟨h, _⟩ | ⟨b1, l1, e1, h4, h5⟩
      · rw [h] at ht
        cases ht
      · rw [h4] at ht
        injection ht with ht
        exact ⟨b1, l1, e1, ht.symm, h5⟩)
    subst t2
    exact ⟨b2, l2, e2, t1, t3⟩
include hR in
theorem grow_top (hA : At r f u a b p S pre) {back long : Int} {best : List Int} (hinv : MInv back long best) : ∃ back' long' best', mMendRoundMean_1 f u a b r.Period r.Plan r.Links back long S p best = some (back', long', S, best') ∧ Got r f u a b S back long best back' long' best' := by
  have e : mMendRoundMean_1 f u a b r.Period r.Plan r.Links back long S p best = (forS (mMendRoundMean_1_2_L1919 r.Plan r.Links p f u a b r.Period rcL) r.Links.length 0 (back, long, S, best)).bind (unc4 fun x2403 x2404 l2405 l2407 => some (x2403, x2404, l2405, l2407)) := rfl
  rw [e]
  have hrc : GrowOk r f rcL False (sumN fB S) := fun u' a' b' p' back' long' S' best' pre' hA' hlt' hinv' => grow_lim hR u' a' b' p' back' long' S' best' pre' hA' (by have := hA.n8; omega) hinv'
  rcases forS_or False (fun i s => GRnd r f u a b S back long best i s) r.Links.length 0 (back, long, S, best) ⟨rfl, hinv, Over.refl, fun j x hj => absurd hj (by omega)⟩ (fun i s _ hi h => grow_step hR hA hrc (by omega) h) with ⟨h1, h2⟩ | ⟨s, h1, h2⟩
  · exact h2.elim
  · rw [Nat.zero_add] at h2
    obtain ⟨back', long', best', rfl, h3⟩ := got_of h2
    rw [h1, pass4]
    exact ⟨_, _, _, rfl, h3⟩
end
end Go.Proofs.Ytakehdnblmonlaa
