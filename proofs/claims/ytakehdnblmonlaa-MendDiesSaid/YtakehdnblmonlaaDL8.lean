/- Plain: the mean of all rings, stable rounds; how long lateness lasts; Settles. -/
import Derived.Test.YtakehdnblmonlaaDL7
set_option linter.unusedVariables false
set_option linter.unusedSimpArgs false
namespace Go.Proofs.Ytakehdnblmonlaa
open Go.RowKit Go.Fp

theorem pass3 {β γ δ τ : Type} {A : β → γ → δ → Option τ} {x : β} {y : γ} {z : δ} : (some (x, y, z)).bind (unc3 A) = A x y z := rfl
theorem pass2 {β γ τ : Type} {A : β → γ → Option τ} {y : β} {z : γ} : (some (y, z)).bind (unc2 A) = A y z := rfl
section
variable {r : MendRound} (hR : RoundOk r)
include hR in
theorem mean_spec : ∃ long back best, mMendRoundMean r = some (long, back, best) ∧ MInv back long best ∧ ∀ (f : Nat) ws, f < r.Plan.length → (∀ x l, ws = x :: l → x.From = (f : Int)) → Cov r (f : Int) 0 0 (List.replicate r.Plan.length false) back long best ws := by
  have hn8 := hR.n8
  unfold mMendRoundMean
  obtain ⟨⟨long, back, best⟩, h1, h2, h3⟩ := forS_inv (body := mMendRoundMean_L127 r) (fun k s => MInv s.2.1 s.1 s.2.2 ∧ ∀ (f : Nat) ws, f < k → (∀ x l, ws = x :: l → x.From = (f : Int)) → Cov r (f : Int) 0 0 (List.replicate r.Plan.length false) s.2.1 s.1 s.2.2 ws) r.Plan.length 0 (0, 0, []) ⟨⟨Int.le_refl _, (by decide : (0 : Int) ≤ 27), Int.le_refl _, (by decide : (0 : Int) ≤ 259200), fun h => absurd rfl h⟩, fun f ws h => absurd h (by omega)⟩ (fun k s _ hk hi => by
    obtain ⟨long, back, best⟩ := s
    obtain ⟨i1, i2⟩ := hi
    replace i1 : MInv back long best := i1
    replace i2 : ∀ (f : Nat) ws, f < k → (∀ x l, ws = x :: l → x.From = (f : Int)) → Cov r (f : Int) 0 0 (List.replicate r.Plan.length false) back long best ws := i2
    unfold mMendRoundMean_L127
    simp only [unc3]
    rw [mkLen_ok (by omega) (by omega), Option.bind_some]
    have hA : At r (k : Int) (k : Int) 0 0 [] (List.replicate r.Plan.length false) [] := by
      refine ⟨rfl, rfl, rfl, rfl, ?_, List.length_replicate, by omega, by omega⟩
      have := sumN_le fB 1 (List.replicate r.Plan.length false) (fun x _ => by unfold fB; split <;> omega)
      rw [List.length_replicate] at this
      simp only [List.length_nil]
      omega
    obtain ⟨back', long', best', e1, e2⟩ := grow_top hR hA i1
    rw [e1, pass4]
    refine ⟨_, rfl, e2.inv, fun f ws hf hws => ?_⟩
    by_cases e : f = k
    · subst e
      exact e2.cov ws hws
    · exact (i2 f ws (by omega) hws).over (fun l hl => (hR.ok l hl).b0) (Int.le_refl _) e2.over)
  rw [h1, pass3, Option.bind_some]
  exact ⟨long, back, best, rfl, h2, fun f ws hf hws => h3 f ws (by omega) hws⟩
include hR in
theorem stable_spec : ∃ st, mMendRoundStable r = some st ∧ (st = true → RingsLose r) := by
  obtain ⟨long, back, best, h1, h2, h3⟩ := mean_spec hR
  have hp0 := hR.p0
  have hp1 := hR.p1
  have hmul : 0 ≤ back * r.Period := Int.mul_nonneg h2.b0 (by omega)
  have hmul2 : back * r.Period ≤ 27 * r.Period := Int.mul_le_mul_of_nonneg_right h2.b1 (by omega)
  unfold mMendRoundStable
  rw [h1, pass3]
  have key : ∃ st, (if best.isEmpty = true then some true else (chk (back * r.Period)).bind fun _ => some (decide (long < back * r.Period))) = some st ∧ (st = true → best = [] ∨ long < back * r.Period) := by
    by_cases hb : best.isEmpty = true
    · rw [if_pos hb]
      exact ⟨_, rfl, fun _ => .inl (List.isEmpty_iff.1 hb)⟩
    · rw [if_neg hb, chk_ok (by omega) (by omega), Option.bind_some]
      exact ⟨_, rfl, fun h => .inr (of_decide_eq_true h)⟩
  obtain ⟨st, k1, k2⟩ := key
  rw [k1, Option.bind_some]
  refine ⟨st, rfl, fun hst v ws hv0 hv1 hw hne hd hn => ?_⟩
  have hring := ring_back hR hw hne
  have hsum := walk_sums ws v v hw
  obtain ⟨v', rfl⟩ : ∃ v' : Nat, v = (v' : Int) := ⟨v.toNat, by omega⟩
  have hcov := h3 v' ws (by omega) (fun x l e => by subst e; exact hw.2.1) (by
    cases ws with
    | nil => exact absurd rfl hne
    | cons x l => exact ⟨hw.1, rfl, hw.2.2⟩) hne (fun x hx => by
    have hxr := hR.ok x (walk_mem hw x ((List.dropLast_sublist _).subset hx))
    exact ⟨hd x hx, bv_rep hxr.t0 hxr.t1⟩) hn
  obtain ⟨c1, c2⟩ := hcov
  rw [Int.zero_add, Int.zero_add] at c2
  have hlt : long < back * r.Period := (k2 hst).elim (fun h => absurd h c1) id
  have hbk := h2.pos c1
  rcases Int.lt_or_le (sL ws) (sB ws * r.Period) with h | h
  · omega
  · exfalso
    have a1 : sB ws * r.Period * back ≤ sL ws * back := Int.mul_le_mul_of_nonneg_right h (by omega)
    have a2 : (long + 1) * sB ws ≤ (back * r.Period) * sB ws := Int.mul_le_mul_of_nonneg_right (by omega) (by omega)
    rw [Int.add_mul, Int.one_mul] at a2
    have e1 : (back * r.Period) * sB ws = sB ws * r.Period * back := by
      rw [Int.mul_comm back r.Period, Int.mul_assoc, Int.mul_comm back (sB ws), ← Int.mul_assoc, Int.mul_comm r.Period (sB ws)]
    omega
include hR in
theorem stable_ok : ∃ st, mMendStable r = some (st, 0) ∧ mMendRoundStable r = some st ∧ (st = true → RingsLose r) := by
  obtain ⟨st, h1, h2⟩ := stable_spec hR
  refine ⟨st, ?_, h1, h2⟩
  unfold mMendStable
  rw [check_ok hR, Option.bind_some, if_neg (by decide), h1, Option.bind_some]
/- ---- rows behind each other ---- -/
def bef (G : Nat → List Int) : Nat → List (List Int)
  | 0 => []
  | k + 1 => G k :: (bef G k).take 2
theorem bef_get (G : Nat → List Int) : ∀ (k i : Nat) {w : List Int}, (bef G k)[i]? = some w → i < 3 ∧ i < k ∧ w = G (k - 1 - i)
  | 0, i, w, h => by cases h
  | k + 1, 0, w, h => by
    injection h with h
    exact ⟨by omega, by omega, h.symm⟩
  | k + 1, i + 1, w, h => by
    have h : ((bef G k).take 2)[i]? = some w := h
    rw [List.getElem?_take] at h
    split at h
    · obtain ⟨h1, h2, h3⟩ := bef_get G k i h
      refine ⟨by omega, by omega, ?_⟩
      rw [h3]
      congr 1
      omega
    · cases h
theorem bef_has (G : Nat → List Int) : ∀ (k i : Nat), i < 3 → i < k → (bef G k)[i]? = some (G (k - 1 - i))
  | 0, i, _, h => absurd h (by omega)
  | k + 1, 0, _, _ => rfl
  | k + 1, i + 1, h3, h => by
    show ((bef G k).take 2)[i]? = _
    rw [List.getElem?_take, if_pos (by omega), bef_has G k i (by omega) (by omega)]
    congr 2
    omega
theorem bef_congr {G G' : Nat → List Int} : ∀ (k : Nat), (∀ j, j < k → G j = G' j) → bef G k = bef G' k
  | 0, _ => rfl
  | k + 1, h => by
    show G k :: (bef G k).take 2 = G' k :: (bef G' k).take 2
    rw [h k (by omega), bef_congr k (fun j hj => h j (by omega))]
theorem bef_len (G : Nat → List Int) : ∀ k, (bef G k).length ≤ 3
  | 0 => by show 0 ≤ 3; omega
  | k + 1 => by
    show ((bef G k).take 2).length + 1 ≤ 3
    rw [List.length_take]
    omega
theorem take_two {α : Type} (l : List α) : cutS l 0 (min (l.length : Int) 2) = some (l.take 2) := by
  have e : min (l.length : Int) 2 = ((min l.length 2 : Nat) : Int) := by omega
  rw [e, show (0 : Int) = ((0 : Nat) : Int) from rfl, cutS_ok (by omega) (by omega), List.drop_zero]
  congr 1
  rw [List.take_eq_take_iff]
  omega
theorem zeros_ok {M : Int} (hM : 0 ≤ M) : RowOk r.Plan.length M (List.replicate r.Plan.length 0) := ⟨List.length_replicate, fun v a c => by rw [av_rep a c]; omega⟩
theorem greatest_spec (l : List Int) : ∃ m, mMendGreatest 0 l = some m ∧ 0 ≤ m ∧ (∀ x ∈ l, x ≤ m) ∧ (0 < m → ∃ x ∈ l, 0 < x) := by
  unfold mMendGreatest
  obtain ⟨m, h1, h2, h3, h4⟩ := forS_inv (body := mMendGreatest_L46 l) (fun k m => 0 ≤ m ∧ (∀ (j : Nat) x, j < k → l[j]? = some x → x ≤ m) ∧ (0 < m → ∃ x ∈ l, 0 < x)) l.length 0 0 ⟨Int.le_refl _, fun j x h => absurd h (by omega), fun h => absurd h (by omega)⟩ (fun k m _ hk hi => by
    obtain ⟨x, x1, x2, x3⟩ := link_at (l := l) (k := k) (by omega)
    unfold mMendGreatest_L46
    rw [x1, Option.bind_some]
    refine ⟨_, rfl, by have := hi.1; omega, fun j y hj hy => ?_, fun h => ?_⟩
    · by_cases e : j = k
      · subst e
        rw [x2] at hy
        injection hy with hy
        subst hy
        omega
      · have := hi.2.1 j y (by omega) hy
        omega
    · by_cases hm : 0 < m
      · exact hi.2.2 hm
      · exact ⟨x, x3, by omega⟩)
  rw [h1, Option.bind_some]
  refine ⟨m, rfl, h2, fun x hx => ?_, h4⟩
  obtain ⟨j, hj, rfl⟩ := List.getElem_of_mem hx
  exact h3 j _ (by omega) (List.getElem?_eq_getElem hj)
/- ---- lateness has come by a way ---- -/
def Late (r : MendRound) (most : Int) (k : Nat) (v d : Int) : Prop := d ≤ 0 ∨ ∃ u ws, Wk r u ws v ∧ sB ws = (k : Int) ∧ d + sS r ws ≤ most
include hR in
theorem late_bound (H : RingsLose r) {most : Int} (hm : most ≤ 28800) {k : Nat} {v d : Int} (h : Late r most k v d) (hd : 0 < d) : (k : Int) ≤ 700000 := by
  rcases h with h | ⟨u, ws, h1, h2, h3⟩
  · omega
  · have h4 := walk_len hR H ws.length ws u v (Nat.le_refl _) h1
    have h5 := sS_nonneg hR ws u v h1
    have hn8 := hR.n8
    have h6 : (r.Plan.length : Int) * sS r ws ≤ 8 * sS r ws := Int.mul_le_mul_of_nonneg_right (by omega) h5.1
    omega
structure Rows (r : MendRound) (most : Int) (k : Nat) (G : Nat → List Int) : Prop where
  start : G 0 = List.replicate r.Plan.length most
  next : ∀ j, 0 < j → j < k → Follows r most (List.replicate r.Plan.length 0) (bef G j) (G j)
theorem Rows.ok {most : Int} (hm : 0 ≤ most) {k : Nat} {G : Nat → List Int} (h : Rows r most k G) {j : Nat} (hj : j < k) : RowOk r.Plan.length most (G j) := by
  by_cases e : j = 0
  · subst e
    rw [h.start]
    exact ⟨List.length_replicate, fun v a c => by rw [av_rep a c]; omega⟩
  · exact (h.next j (by omega) hj).ok
include hR in
theorem Rows.late {most : Int} (hm : 0 ≤ most) {k : Nat} {G : Nat → List Int} (h : Rows r most k G) : ∀ (m j : Nat), j ≤ m → j < k → ∀ v : Int, 0 ≤ v → v < (r.Plan.length : Int) → Late r most j v (av (G j) v) := by
  intro m
  induction m with
  | zero =>
    intro j hj hk v a c
    have : j = 0 := by omega
    subst this
    rw [h.start, av_rep a c]
    exact .inr ⟨v, [], rfl, rfl, by show most + 0 ≤ most; omega⟩
  | succ m ih =>
    intro j hj hk
    by_cases e : j = 0
    · subst e
      exact ih 0 (by omega) hk
    · refine (h.next j (by omega) hk).by_ (fun v d => Late r most j v d) (fun v a c => by rw [av_rep a c]; exact .inl (Int.le_refl _)) (fun l hl hb d hd => ?_) (fun l hl hb w hw => ?_)
      · have hs0 := hR.s0 l hl
        have hb0 := (hR.ok l hl).b0
        rcases hd with hd | ⟨u, ws, h1, h2, h3⟩
        · exact .inl (by omega)
        · refine .inr ⟨u, ws ++ [l], Wk.app.2 ⟨l.From, h1, hl, rfl, rfl⟩, ?_, ?_⟩
          · rw [sB_app]
            have : sB [l] = l.Back + 0 := rfl
            omega
          · rw [sS_app]
            have : sS r [l] = sg r l + 0 := rfl
            omega
      · have hs0 := hR.s0 l hl
        have hlk := hR.ok l hl
        obtain ⟨g1, g2, g3⟩ := bef_get G j _ hw
        subst g3
        have ih2 := ih (j - 1 - (l.Back - 1).toNat) (by omega) (by omega) l.From hlk.f0 hlk.f1
        rcases ih2 with hd | ⟨u, ws, h1, h2, h3⟩
        · exact .inl (by omega)
        · refine .inr ⟨u, ws ++ [l], Wk.app.2 ⟨l.From, h1, hl, rfl, rfl⟩, ?_, ?_⟩
          · rw [sB_app]
            have : sB [l] = l.Back + 0 := rfl
            omega
          · rw [sS_app]
            have : sS r [l] = sg r l + 0 := rfl
            omega
structure SetI (r : MendRound) (most : Int) (s : Int × Int × List (List Int)) (last k : Nat) (G : Nat → List Int) : Prop where
  e1 : s.1 = (last : Int)
  e2 : s.2.1 = (k : Int)
  e3 : s.2.2 = bef G k
  rows : Rows r most k G
  k1 : 1 ≤ k
  lk : last < k
  zero : ∀ j, last < j → j < k → ∀ v : Int, 0 ≤ v → v < (r.Plan.length : Int) → av (G j) v = 0
  pos : last = 0 ∨ ∃ v : Int, 0 ≤ v ∧ v < (r.Plan.length : Int) ∧ 0 < av (G last) v
include hR in
theorem set_step (H : RingsLose r) {most : Int} (h0 : 0 < most) (hm : most ≤ 28800) {B : Nat} (hB : B = 800000) (s : Int × Int × List (List Int)) (hs : ∃ last k G, SetI r most s last k G) :
    (∃ s', mMendSettles_L1152 r s = some (.inl s') ∧ (∃ last k G, SetI r most s' last k G) ∧ B - s'.2.1.toNat < B - s.2.1.toNat) ∨ ∃ x, mMendSettles_L1152 r s = some (.inr x) ∧ ∃ (last : Nat) (G : Nat → List Int), x = (last : Int) ∧ (last : Int) ≤ 700000 ∧ Rows r most (last + 4) G ∧ ∀ j, last < j → j < last + 4 → ∀ v : Int, 0 ≤ v → v < (r.Plan.length : Int) → av (G j) v = 0 := by
  have hn8 := hR.n8
  have hn0 := hR.n0
  obtain ⟨x1, x2, x3⟩ := s
  unfold mMendSettles_L1152
  simp only [unc3]
  obtain ⟨last, k, G, ⟨e1, e2, e3, rows, k1, lk, zero, pos⟩⟩ := hs
  replace e1 : x1 = (last : Int) := e1
  replace e2 : x2 = (k : Int) := e2
  replace e3 : x3 = bef G k := e3
  subst e1; subst e2; subst e3
  have hlast : (last : Int) ≤ 700000 := by
    rcases pos with h | ⟨v, a, c, h⟩
    · omega
    · exact late_bound hR H hm (rows.late hR (by omega) last last (Nat.le_refl _) lk v a c) h
  rw [chk_ok (by omega) (by omega), Option.bind_some]
  by_cases hc : (k : Int) ≤ (last : Int) + 3
  · rw [if_pos hc, mkLen_ok (by omega) (by omega), Option.bind_some]
    obtain ⟨out, o1, o2⟩ := follow_spec hR (M := most) (by omega) (zeros_ok (r := r) (M := most) (by omega)) (bf := bef G k) (fun w hw => by
      obtain ⟨i, hi, rfl⟩ := List.getElem_of_mem hw
      obtain ⟨g1, g2, g3⟩ := bef_get G k i (List.getElem?_eq_getElem hi)
      rw [g3]
      exact rows.ok (by omega) (by omega))
    rw [o1, Option.bind_some, Option.bind_some]
    obtain ⟨m, m1, m2, m3, m4⟩ := greatest_spec out
    rw [m1, Option.bind_some]
    have hbl := bef_len G k
    have htk : ((bef G k).take 2).length ≤ 2 := by rw [List.length_take]; omega
    have fin : ∀ last' : Nat, (∀ j, last' < j → j < k + 1 → ∀ v : Int, 0 ≤ v → v < (r.Plan.length : Int) → av (if j = k then out else G j) v = 0) → last' < k + 1 → (last' = 0 ∨ ∃ v : Int, 0 ≤ v ∧ v < (r.Plan.length : Int) ∧ 0 < av (if last' = k then out else G last') v) → SetI r most ((last' : Int), (k : Int) + 1, [out] ++ (bef G k).take 2) last' (k + 1) (fun j => if j = k then out else G j) := fun last' z1 z2 z3 => by
      have hcon : bef (fun j => if j = k then out else G j) k = bef G k := bef_congr k (fun j hj => by show (if j = k then out else G j) = G j; rw [if_neg (by omega)])
      refine ⟨rfl, by show (k : Int) + 1 = ((k + 1 : Nat) : Int); omega, ?_, ⟨?_, fun j j1 j2 => ?_⟩, by omega, z2, z1, z3⟩
      · show [out] ++ (bef G k).take 2 = (if k = k then out else G k) :: (bef (fun j => if j = k then out else G j) k).take 2
        rw [if_pos rfl, hcon]
        rfl
      · show (if 0 = k then out else G 0) = _
        rw [if_neg (by omega)]
        exact rows.start
      · show Follows r most _ (bef (fun j => if j = k then out else G j) j) (if j = k then out else G j)
        by_cases e : j = k
        · subst e
          rw [if_pos rfl, hcon]
          exact o2
        · rw [if_neg e, bef_congr (G' := G) j (fun i hi => by show (if i = k then out else G i) = G i; rw [if_neg (by omega)])]
          exact rows.next j j1 (by omega)
    by_cases hm0 : 0 < m
    · rw [if_pos hm0, Option.bind_some, take_two, Option.bind_some, room_ok (by simp only [List.length_cons, List.length_nil]; omega) (by simp only [List.length_cons, List.length_nil]; omega), Option.bind_some, chk_ok (by omega) (by omega), Option.bind_some]
      refine .inl ⟨_, rfl, ⟨k, k + 1, _, fin k (fun j h1 h2 => absurd h1 (by omega)) (by omega) (.inr ?_)⟩, ?_⟩
      · obtain ⟨y, y1, y2⟩ := m4 hm0
        obtain ⟨v, a, c, e⟩ := av_of_mem y1
        rw [o2.ok.1] at c
        refine ⟨v, a, c, ?_⟩
        rw [if_pos rfl, e]
        exact y2
      · show B - ((k : Int) + 1).toNat < B - (k : Int).toNat
        omega
    · rw [if_neg hm0, Option.bind_some, take_two, Option.bind_some, room_ok (by simp only [List.length_cons, List.length_nil]; omega) (by simp only [List.length_cons, List.length_nil]; omega), Option.bind_some, chk_ok (by omega) (by omega), Option.bind_some]
      refine .inl ⟨_, rfl, ⟨last, k + 1, _, fin last (fun j j1 j2 v a c => ?_) (by omega) ?_⟩, ?_⟩
      · by_cases e : j = k
        · rw [if_pos e]
          have g1 := o2.ok.2 v a c
          have g2 := m3 _ (av_mem a (by rw [o2.ok.1]; exact c))
          omega
        · rw [if_neg e]
          exact zero j j1 (by omega) v a c
      · rw [if_neg (by omega)]
        exact pos
      · show B - ((k : Int) + 1).toNat < B - (k : Int).toNat
        omega
  · rw [if_neg hc]
    refine .inr ⟨_, rfl, last, G, rfl, hlast, ⟨rows.start, fun j j1 j2 => rows.next j j1 (by omega)⟩, fun j j1 j2 => zero j j1 (by omega)⟩
include hR in
theorem settles_spec (H : RingsLose r) {most : Int} (h0 : 0 < most) (hm : most ≤ 28800) (hst : mMendRoundStable r = some true) :
    ∃ (last : Nat) (G : Nat → List Int), mMendSettles r most = some ((last : Int) + 1, 0) ∧ Rows r most (last + 4) G ∧ ∀ j, last < j → j < last + 4 → ∀ v : Int, 0 ≤ v → v < (r.Plan.length : Int) → av (G j) v = 0 := by
  have hn8 := hR.n8
  have hn0 := hR.n0
  obtain ⟨B, hB⟩ : ∃ B : Nat, B = 800000 := ⟨_, rfl⟩
  unfold mMendSettles
  rw [check_ok hR, Option.bind_some, if_neg (by decide), within_eq, Option.bind_some, if_pos (decide_eq_true (by omega)), if_neg (by omega), hst, Option.bind_some, if_pos rfl, repeat_eq most hn8, Option.bind_some]
  obtain ⟨x, h1, last, G, h2, hlast, h3, h4⟩ := loopM_inv (step := mMendSettles_L1152 r) (fun s => ∃ last k G, SetI r most s last k G) (fun x => ∃ (last : Nat) (G : Nat → List Int), x = (last : Int) ∧ (last : Int) ≤ 700000 ∧ Rows r most (last + 4) G ∧ ∀ j, last < j → j < last + 4 → ∀ v : Int, 0 ≤ v → v < (r.Plan.length : Int) → av (G j) v = 0) (fun s => B - s.2.1.toNat) (set_step hR H h0 hm hB) (0, 1, [List.replicate r.Plan.length most]) ⟨0, 1, fun _ => List.replicate r.Plan.length most, rfl, rfl, rfl, ⟨rfl, fun j j1 j2 => absurd j1 (by omega)⟩, by omega, by omega, fun j j1 j2 => absurd j1 (by omega), .inl rfl⟩
  rw [h1, Option.bind_some, h2, chk_ok (by omega) (by omega), Option.bind_some]
  exact ⟨last, G, rfl, h3, h4⟩
end
end Go.Proofs.Ytakehdnblmonlaa
