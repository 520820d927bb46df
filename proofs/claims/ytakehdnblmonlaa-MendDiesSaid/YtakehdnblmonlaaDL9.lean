/- Plain: the delays of the periods; MendDies answers true at every input. -/
import Derived.Test.YtakehdnblmonlaaDL8
set_option linter.unusedVariables false
set_option linter.unusedSimpArgs false
namespace Go.Proofs.Ytakehdnblmonlaa
open Go.RowKit Go.Fp

structure LateOk (r : MendRound) (most : Int) (late : List MendFirst) : Prop where
  m0 : 0 ≤ most
  m1 : most ≤ 28800
  len : late.length ≤ 20
  all : ∀ x ∈ late, x.Period = 0 ∧ 0 ≤ x.Event ∧ x.Event < (r.Plan.length : Int) ∧ 0 ≤ x.Secs ∧ x.Secs ≤ most
def Init (r : MendRound) (most : Int) (late : List MendFirst) (k : Nat) (init : List Int) : Prop :=
  RowOk r.Plan.length most init ∧ ∀ v : Int, 0 ≤ v → v < (r.Plan.length : Int) → av init v ≤ 0 ∨ (k = 0 ∧ ∃ x ∈ late, x.Event = v ∧ av init v ≤ x.Secs)
def DRow (r : MendRound) (most : Int) (late : List MendFirst) (k : Nat) (D : Nat → List Int) : Prop := ∀ j, j < k → ∃ init, Init r most late j init ∧ Follows r most init (bef D j) (D j)
section
variable {r : MendRound} (hR : RoundOk r) {most : Int} {late : List MendFirst} (hL : LateOk r most late)
include hL in
theorem init_spec (k : Nat) : ∃ init, forS (mMendSpread_L1795 late k) late.length 0 (List.replicate r.Plan.length 0) = some init ∧ Init r most late k init := by
  have hm0 := hL.m0
  obtain ⟨init, h1, h2⟩ := forS_inv (body := mMendSpread_L1795 late k) (fun _ init => Init r most late k init) late.length 0 (List.replicate r.Plan.length 0) ⟨zeros_ok hm0, fun v a c => by rw [av_rep a c]; exact .inl (Int.le_refl _)⟩ (fun i init _ hi h => by
    obtain ⟨x, x1, x2, x3⟩ := link_at (l := late) (k := i) (by omega)
    obtain ⟨p0, q0, q1, s0, s1⟩ := hL.all x x3
    have hlen := h.1.1
    unfold mMendSpread_L1795
    rw [x1, Option.bind_some]
    by_cases hk : x.Period = (k : Int)
    · rw [if_pos hk, idx_av q0 (by rw [hlen]; exact q1), Option.bind_some, Option.bind_some]
      have hput : ∀ u : Int, 0 ≤ u → av (put init x.Event (max (av init x.Event) x.Secs)) u = if u = x.Event then max (av init x.Event) x.Secs else av init u := fun u hu => av_put q0 (by rw [hlen]; exact q1) hu
      have hb := h.1.2 x.Event q0 q1
      refine ⟨_, rfl, ⟨by rw [put_length]; exact hlen, fun v a c => ?_⟩, fun v a c => ?_⟩
      · rw [hput v a]
        have := h.1.2 v a c
        split <;> omega
      · rw [hput v a]
        by_cases e : v = x.Event
        · rw [if_pos e]
          by_cases hc : av init x.Event ≤ x.Secs
          · rw [Int.max_eq_right hc]
            exact .inr ⟨by omega, x, x3, e.symm, Int.le_refl _⟩
          · rw [Int.max_eq_left (by omega), ← e]
            exact h.2 v a c
        · rw [if_neg e]
          exact h.2 v a c
    · rw [if_neg hk]
      exact ⟨_, rfl, h⟩)
  exact ⟨init, h1, h2⟩
include hR hL in
theorem spread_spec {m : Int} (hm0 : 0 ≤ m) (hm1 : m ≤ 60) : ∃ out D, mMendSpread r late m = some (0, out) ∧ out.length = m.toNat ∧ (∀ j, j < m.toNat → out[j]? = some (D j)) ∧ DRow r most late m.toNat D := by
  have hn8 := hR.n8
  have h20 := hL.len
  unfold mMendSpread
  rw [check_ok hR, Option.bind_some, if_neg (by decide), within_eq, Option.bind_some, if_pos (decide_eq_true ⟨hm0, hm1⟩), if_neg (by omega)]
  rcases forM_inv (body := mMendSpread_L1068 r late) (fun _ _ => True) (fun _ => False) late.length 0 () trivial (fun k u _ hk _ => by
    obtain ⟨x, x1, x2, x3⟩ := link_at (l := late) (k := k) (by omega)
    obtain ⟨p0, q0, q1, s0, s1⟩ := hL.all x x3
    have := hL.m1
    unfold mMendSpread_L1068
    rw [x1, Option.bind_some, chk_ok (by omega) (by omega), Option.bind_some, within_eq, Option.bind_some, if_pos (decide_eq_true ⟨by omega, by omega⟩), within_eq, Option.bind_some, if_pos (decide_eq_true ⟨by omega, by omega⟩), within_eq, Option.bind_some, decide_eq_true (show 0 ≤ x.Secs ∧ x.Secs ≤ 28800 by omega), Option.bind_some, if_neg (by decide)]
    exact .inl ⟨(), rfl, trivial⟩) with ⟨_, h1, _⟩ | ⟨_, _, h⟩
  · rw [h1, Option.bind_some]
    show ∃ out D, ((chk m).bind _) = some (0, out) ∧ _
    rw [chk_ok (by omega) (by omega), Option.bind_some]
    obtain ⟨⟨out, bf⟩, g1, D, g2, g3, g4, g5⟩ := forS_inv (body := mMendSpread_L1139 r late) (fun k s => ∃ D, s.2 = bef D k ∧ s.1.length = k ∧ (∀ j, j < k → s.1[j]? = some (D j)) ∧ DRow r most late k D) m.toNat 0 ([], []) ⟨fun _ => [], rfl, rfl, fun j h => absurd h (by omega), fun j h => absurd h (by omega)⟩ (fun k s _ hk hi => by
      obtain ⟨out, bf⟩ := s
      unfold mMendSpread_L1139
      simp only [unc2]
      obtain ⟨D, d1, d2, d3, d4⟩ := hi
      replace d1 : bf = bef D k := d1
      subst d1
      replace d2 : out.length = k := d2
      replace d3 : ∀ j, j < k → out[j]? = some (D j) := d3
      obtain ⟨init, i1, i2⟩ := init_spec hL k
      rw [mkLen_ok (by omega) (by omega), Option.bind_some, i1, Option.bind_some]
      obtain ⟨row, o1, o2⟩ := follow_spec hR (M := most) ⟨hL.m0, hL.m1⟩ i2.1 (bf := bef D k) (fun w hw => by
        obtain ⟨i, hi, rfl⟩ := List.getElem_of_mem hw
        obtain ⟨g1, g2, g3⟩ := bef_get D k i (List.getElem?_eq_getElem hi)
        rw [g3]
        obtain ⟨_, _, h⟩ := d4 (k - 1 - i) (by omega)
        exact h.ok)
      have htk : ((bef D k).take 2).length ≤ 2 := by rw [List.length_take]; omega
      rw [o1, Option.bind_some, room_ok (by omega) (by omega), Option.bind_some, take_two, Option.bind_some, room_ok (by simp only [List.length_cons, List.length_nil]; omega) (by simp only [List.length_cons, List.length_nil]; omega), Option.bind_some]
      have hcon : bef (fun j => if j = k then row else D j) k = bef D k := bef_congr k (fun j hj => by show (if j = k then row else D j) = D j; rw [if_neg (by omega)])
      refine ⟨_, rfl, fun j => if j = k then row else D j, ?_, ?_, fun j hj => ?_, fun j hj => ?_⟩
      · show [row] ++ (bef D k).take 2 = (if k = k then row else D k) :: (bef (fun j => if j = k then row else D j) k).take 2
        rw [if_pos rfl, hcon]
        rfl
      · show (out ++ [row]).length = k + 1
        rw [List.length_append, d2]
        rfl
      · show (out ++ [row])[j]? = some (if j = k then row else D j)
        by_cases e : j = k
        · subst e
          rw [if_pos rfl, List.getElem?_append_right (by omega), d2, Nat.sub_self]
          rfl
        · rw [if_neg e, List.getElem?_append_left (by omega)]
          exact d3 j (by omega)
      · show ∃ init, Init r most late j init ∧ Follows r most init (bef (fun j => if j = k then row else D j) j) (if j = k then row else D j)
        by_cases e : j = k
        · subst e
          rw [if_pos rfl, hcon]
          exact ⟨init, i2, o2⟩
        · rw [if_neg e, bef_congr (G' := D) j (fun i hi => by show (if i = k then row else D i) = D i; rw [if_neg (by omega)])]
          exact d4 j (by omega))
    rw [Nat.zero_add] at g3 g4 g5
    rw [g1, pass2]
    exact ⟨out, D, rfl, g3, g4, g5⟩
  · exact h.elim
theorem DRow.ok {k : Nat} {D : Nat → List Int} (h : DRow r most late k D) {j : Nat} (hj : j < k) : RowOk r.Plan.length most (D j) := by
  obtain ⟨_, _, h⟩ := h j hj
  exact h.ok
include hR in
theorem drow_le {k K : Nat} {D G : Nat → List Int} (h : DRow r most late k D) (hG : Rows r most K G) : ∀ (m j : Nat), j ≤ m → j < k → j < K → ∀ v : Int, 0 ≤ v → v < (r.Plan.length : Int) → av (D j) v ≤ av (G j) v := by
  intro m
  induction m with
  | zero =>
    intro j hj hk hK v a c
    have : j = 0 := by omega
    subst this
    rw [hG.start, av_rep a c]
    exact ((h.ok hk).2 v a c).2
  | succ m ih =>
    intro j hj hk hK
    by_cases e : j = 0
    · subst e
      exact ih 0 (by omega) hk hK
    · obtain ⟨init, i1, i2⟩ := h j hk
      have hg := hG.next j (by omega) hK
      refine i2.by_ (fun v d => d ≤ av (G j) v) (fun v a c => ?_) (fun l hl hb d hd => ?_) (fun l hl hb w hw => ?_)
      · have h1 := (hg.ok.2 v a c).1
        rcases i1.2 v a c with h2 | ⟨h2, _⟩
        · omega
        · exact absurd h2 e
      · have h1 := hg.cl l hl (G j) (by unfold src; rw [if_neg hb])
        have h2 : d ≤ av (G j) l.From := hd
        show d - sg r l ≤ av (G j) l.To
        omega
      · have hlk := hR.ok l hl
        obtain ⟨g1, g2, g3⟩ := bef_get D j _ hw
        subst g3
        have h1 := hg.cl l hl (G (j - 1 - (l.Back - 1).toNat)) (by unfold src; rw [if_pos hb]; exact bef_has G j _ g1 g2)
        have h2 := ih (j - 1 - (l.Back - 1).toNat) (by omega) (by omega) (by omega) l.From hlk.f0 hlk.f1
        omega
include hR in
theorem drow_zero {k last : Nat} {D G : Nat → List Int} (h : DRow r most late k D) (hG : Rows r most (last + 4) G) (hz : ∀ j, last < j → j < last + 4 → ∀ v : Int, 0 ≤ v → v < (r.Plan.length : Int) → av (G j) v = 0) : ∀ (m j : Nat), j ≤ m → last < j → j < k → ∀ v : Int, 0 ≤ v → v < (r.Plan.length : Int) → av (D j) v ≤ 0 := by
  intro m
  induction m with
  | zero => intro j hj hl; omega
  | succ m ih =>
    intro j hj hl hk
    by_cases e : j < last + 4
    · intro v a c
      have h1 := drow_le hR h hG j j (Nat.le_refl _) hk e v a c
      rw [hz j hl e v a c] at h1
      exact h1
    · obtain ⟨init, i1, i2⟩ := h j hk
      refine i2.by_ (fun v d => d ≤ 0) (fun v a c => ?_) (fun l hl' hb d hd => ?_) (fun l hl' hb w hw => ?_)
      · rcases i1.2 v a c with h2 | ⟨h2, _⟩
        · exact h2
        · omega
      · have := hR.s0 l hl'
        have hd : d ≤ 0 := hd
        show d - sg r l ≤ 0
        omega
      · have hlk := hR.ok l hl'
        have := hR.s0 l hl'
        obtain ⟨g1, g2, g3⟩ := bef_get D j _ hw
        subst g3
        have h2 := ih (j - 1 - (l.Back - 1).toNat) (by omega) (by omega) (by omega) l.From hlk.f0 hlk.f1
        omega
def Rch (late : List MendFirst) (rooms : List (List Int)) (v d : Int) : Prop := d ≤ 0 ∨ ∃ x ∈ late, ∃ row, rooms[x.Event.toNat]? = some row ∧ 0 ≤ av row v ∧ d ≤ x.Secs - av row v
include hR hL in
theorem drow_reach {k : Nat} {D : Nat → List Int} (h : DRow r most late k D) {rooms : List (List Int)} (hrm : ∀ (i : Nat), i < r.Plan.length → ∃ row, rooms[i]? = some row ∧ RoomRow r (i : Int) row) : ∀ (m j : Nat), j ≤ m → j < k → ∀ v : Int, 0 ≤ v → v < (r.Plan.length : Int) → Rch late rooms v (av (D j) v) := by
  intro m
  have hrow : ∀ x ∈ late, ∃ row, rooms[x.Event.toNat]? = some row ∧ RoomRow r x.Event row := fun x hx => by
    obtain ⟨p0, q0, q1, s0, s1⟩ := hL.all x hx
    obtain ⟨row, h1, h2⟩ := hrm x.Event.toNat (by omega)
    rw [Int.toNat_of_nonneg q0] at h2
    exact ⟨row, h1, h2⟩
  have move : ∀ l ∈ r.Links, ∀ d, Rch late rooms l.From d → Rch late rooms l.To (d - sg r l) := fun l hl d hd => by
    have := hR.s0 l hl
    rcases hd with hd | ⟨x, hx, row, h1, h2, h3⟩
    · exact .inl (by omega)
    · obtain ⟨row', g1, g2⟩ := hrow x hx
      rw [h1] at g1
      injection g1 with g1
      subst g1
      have := g2.cl l hl h2
      exact .inr ⟨x, hx, row, h1, this.1, by omega⟩
  induction m with
  | zero =>
    intro j hj hk
    have : j = 0 := by omega
    subst this
    obtain ⟨init, i1, i2⟩ := h 0 hk
    refine i2.by_ (fun v d => Rch late rooms v d) (fun v a c => ?_) (fun l hl hb d hd => move l hl d hd) (fun l hl hb w hw => by
      obtain ⟨_, h2, _⟩ := bef_get D 0 _ hw
      omega)
    rcases i1.2 v a c with h2 | ⟨_, x, hx, rfl, h2⟩
    · exact .inl h2
    · obtain ⟨row, g1, g2⟩ := hrow x hx
      have := g2.on
      exact .inr ⟨x, hx, row, g1, by omega, by omega⟩
  | succ m ih =>
    intro j hj hk
    by_cases e : j = 0
    · subst e
      exact ih 0 (by omega) hk
    · obtain ⟨init, i1, i2⟩ := h j hk
      refine i2.by_ (fun v d => Rch late rooms v d) (fun v a c => ?_) (fun l hl hb d hd => move l hl d hd) (fun l hl hb w hw => ?_)
      · rcases i1.2 v a c with h2 | ⟨h2, _⟩
        · exact .inl h2
        · exact absurd h2 e
      · have hlk := hR.ok l hl
        obtain ⟨g1, g2, g3⟩ := bef_get D j _ hw
        subst g3
        exact move l hl _ (ih (j - 1 - (l.Back - 1).toNat) (by omega) (by omega) l.From hlk.f0 hlk.f1)
end
/- ---- the law ---- -/
theorem concat_spec (a b : List (List Int)) (ha : a.length ≤ 60) (hb : b.length ≤ 8) : mSlicesConcat [a, b] = some (a ++ b) := by
  unfold mSlicesConcat
  have h1 : ∃ x, forS (mSlicesConcat_L155 [a, b]) 2 0 0 = some x ∧ x = (a.length : Int) + (b.length : Int) := by
    obtain ⟨x, h1, h2⟩ := forS_inv (body := mSlicesConcat_L155 [a, b]) (fun k x => x = (if k = 0 then 0 else (a.length : Int)) + (if k ≤ 1 then 0 else (b.length : Int))) 2 0 0 rfl (fun k x _ hk hx => by
      rcases (show k = 0 ∨ k = 1 by omega) with rfl | rfl
      · unfold mSlicesConcat_L155
        rw [show idx [a, b] ((0 : Nat) : Int) = some a from rfl, Option.bind_some]
        have hx : x = 0 + 0 := hx
        subst hx
        rw [chk_ok (by omega) (by omega), Option.bind_some, if_neg (by omega)]
        exact ⟨_, rfl, by rw [if_neg (by omega), if_pos (by omega)]; omega⟩
      · unfold mSlicesConcat_L155
        rw [show idx [a, b] ((1 : Nat) : Int) = some b from rfl, Option.bind_some]
        have hx : x = (a.length : Int) + 0 := hx
        subst hx
        rw [chk_ok (by omega) (by omega), Option.bind_some, if_neg (by omega)]
        exact ⟨_, rfl, by rw [if_neg (by omega), if_neg (by omega)]; omega⟩)
    exact ⟨x, h1, by rw [h2, if_neg (by omega), if_neg (by omega)]⟩
  obtain ⟨x, h2, h3⟩ := h1
  rw [show [a, b].length = 2 from rfl, h2, Option.bind_some]
  have h4 : ∃ l, mSlicesGrow x = some l ∧ l = [] := by
    unfold mSlicesGrow
    rw [if_neg (by omega), chk_ok (by omega) (by omega), Option.bind_some, chk_ok (by omega) (by omega), Option.bind_some]
    by_cases hc : 0 < (x - (0 - 0))
    · rw [if_pos hc]
      have hp : posN (x - (0 - 0)) = some (x - (0 - 0)).toNat := by
        unfold posN
        rw [if_pos (by omega)]
      rw [hp, Option.bind_some, room_ok (by omega) (by omega), Option.bind_some]
      have hc2 : cutS (List.replicate (x - (0 - 0)).toNat ([] : List Int)) 0 0 = some [] := by
        have := cutS_ok (l := List.replicate (x - (0 - 0)).toNat ([] : List Int)) (a := 0) (b := 0) (by omega) (by omega)
        rw [List.drop_zero, List.take_zero] at this
        exact this
      rw [hc2]
      exact ⟨_, rfl, rfl⟩
    · rw [if_neg hc, Option.bind_some]
      exact ⟨_, rfl, rfl⟩
  obtain ⟨l, h5, h6⟩ := h4
  subst h6
  rw [h5, Option.bind_some]
  show ((mSlicesConcat_L217 [a, b] 0 []).bind fun s => (mSlicesConcat_L217 [a, b] 1 s).bind fun s => some s).bind _ = _
  have e0 : mSlicesConcat_L217 [a, b] 0 [] = some ([] ++ a) := by
    unfold mSlicesConcat_L217
    rw [show idx [a, b] ((0 : Nat) : Int) = some a from rfl, Option.bind_some, room_ok (by rw [List.length_nil]; omega) (by rw [List.length_nil]; omega), Option.bind_some]
  have e1 : mSlicesConcat_L217 [a, b] 1 ([] ++ a) = some ([] ++ a ++ b) := by
    unfold mSlicesConcat_L217
    rw [show idx [a, b] ((1 : Nat) : Int) = some b from rfl, Option.bind_some, room_ok (by rw [List.nil_append]; omega) (by rw [List.nil_append]; omega), Option.bind_some]
  rw [e0, Option.bind_some, e1, Option.bind_some, Option.bind_some, List.nil_append]
theorem lens_spec (p : Int) (plan : List Int) (links : List MendLink) (L : List (List Int)) (h : ∀ w ∈ L, w.length = plan.length) : mSlicesContainsFunc p plan links L = some false := by
  unfold mSlicesContainsFunc mSlicesIndexFunc
  rcases forM_inv (body := mSlicesIndexFunc_L76 p plan links L) (fun _ _ => True) (fun _ => False) L.length 0 () trivial (fun k u _ hk _ => by
    obtain ⟨x, x1, x2, x3⟩ := link_at (l := L) (k := k) (by omega)
    unfold mSlicesIndexFunc_L76 mFishkeep2MendDies_1
    rw [x1, Option.bind_some, Option.bind_some, if_neg (by rw [decide_eq_false (by have := h x x3; omega)]; decide)]
    exact .inl ⟨(), rfl, trivial⟩) with ⟨_, h1, _⟩ | ⟨_, _, h⟩
  · rw [h1]
    rfl
  · exact h.elim
theorem late_spec (r : MendRound) (l : List MendFirst) (h20 : l.length ≤ 20) : ∃ most late, forS (mFishkeep2MendDies_L914 r l) l.length 0 ((0, []) : Int × List MendFirst) = some (most, late) ∧ LateOk r most late := by
  obtain ⟨⟨most, late⟩, h1, h2, h3⟩ := forS_inv (body := mFishkeep2MendDies_L914 r l) (fun k s => LateOk r s.1 s.2 ∧ s.2.length ≤ k) l.length 0 (0, []) ⟨⟨Int.le_refl _, (by decide : (0 : Int) ≤ 28800), (by decide : (0 : Nat) ≤ 20), fun x hx => by cases hx⟩, Nat.le_refl _⟩ (fun k s _ hk hi => by
    obtain ⟨most, late⟩ := s
    unfold mFishkeep2MendDies_L914
    simp only [unc2]
    obtain ⟨i1, i2⟩ := hi
    replace i1 : LateOk r most late := i1
    replace i2 : late.length ≤ k := i2
    obtain ⟨x, x1, x2, x3⟩ := link_at (l := l) (k := k) (by omega)
    rw [x1, Option.bind_some]
    have key : ∃ c, (if 0 ≤ x.Event then if x.Event < (r.Plan.length : Int) then if 0 ≤ x.Secs then some (decide (x.Secs ≤ 28800)) else some false else some false else some false) = some c ∧ (c = true → 0 ≤ x.Event ∧ x.Event < (r.Plan.length : Int) ∧ 0 ≤ x.Secs ∧ x.Secs ≤ 28800) := by
      by_cases c1 : 0 ≤ x.Event
      · rw [if_pos c1]
        by_cases c2 : x.Event < (r.Plan.length : Int)
        · rw [if_pos c2]
          by_cases c3 : 0 ≤ x.Secs
          · rw [if_pos c3]
            exact ⟨_, rfl, fun h => ⟨c1, c2, c3, of_decide_eq_true h⟩⟩
          · rw [if_neg c3]
            exact ⟨_, rfl, fun h => by cases h⟩
        · rw [if_neg c2]
          exact ⟨_, rfl, fun h => by cases h⟩
      · rw [if_neg c1]
        exact ⟨_, rfl, fun h => by cases h⟩
    obtain ⟨c, c1, c2⟩ := key
    rw [c1, Option.bind_some]
    cases c with
    | false =>
      rw [if_neg (by decide)]
      exact ⟨_, rfl, i1, by show late.length ≤ k + 1; omega⟩
    | true =>
      obtain ⟨q0, q1, s0, s1⟩ := c2 rfl
      have := i1.m0
      have := i1.m1
      rw [if_pos rfl, room_ok (by omega) (by omega), Option.bind_some]
      refine ⟨_, rfl, ⟨by show 0 ≤ max most x.Secs; omega, by show max most x.Secs ≤ 28800; omega, by show (late ++ [_]).length ≤ 20; rw [List.length_append]; show late.length + 1 ≤ 20; omega, fun y hy => ?_⟩, by show (late ++ [_]).length ≤ k + 1; rw [List.length_append]; show late.length + 1 ≤ k + 1; omega⟩
      rcases List.mem_append.1 hy with hy | hy
      · obtain ⟨a1, a2, a3, a4, a5⟩ := i1.all y hy
        exact ⟨a1, a2, a3, a4, by show y.Secs ≤ max most x.Secs; omega⟩
      · have := List.mem_singleton.1 hy
        subst this
        exact ⟨rfl, q0, q1, s0, by show x.Secs ≤ max most x.Secs; omega⟩)
  exact ⟨most, late, h1, h2⟩
theorem reach_spec {r : MendRound} {most : Int} {late : List MendFirst} (hL : LateOk r most late) {rooms : List (List Int)} (hrl : rooms.length = r.Plan.length) (hrm : ∀ (i : Nat), i < r.Plan.length → ∃ row, rooms[i]? = some row ∧ RoomRow r (i : Int) row) {k : Nat} (hk : k < r.Plan.length) :
    ∃ m, forS (mFishkeep2MendDies_L1657 late k rooms) late.length 0 0 = some m ∧ ∀ d, Rch late rooms (k : Int) d → d ≤ m := by
  obtain ⟨m, h1, h2, h3⟩ := forS_inv (body := mFishkeep2MendDies_L1657 late k rooms) (fun i m => 0 ≤ m ∧ ∀ (j : Nat) x, j < i → late[j]? = some x → ∀ row, rooms[x.Event.toNat]? = some row → 0 ≤ av row (k : Int) → x.Secs - av row (k : Int) ≤ m) late.length 0 0 ⟨Int.le_refl _, fun j x h => absurd h (by omega)⟩ (fun i m _ hi h => by
    obtain ⟨x, x1, x2, x3⟩ := link_at (l := late) (k := i) (by omega)
    obtain ⟨p0, q0, q1, s0, s1⟩ := hL.all x x3
    have := hL.m1
    obtain ⟨row, r1, r2⟩ := hrm x.Event.toNat (by omega)
    have hidx : idx rooms x.Event = some row := by
      unfold idx
      rw [if_pos q0]
      exact r1
    have hb := r2.hi (k : Int) (by omega) (by omega)
    unfold mFishkeep2MendDies_L1657
    rw [x1, Option.bind_some, hidx, Option.bind_some, idx_av (by omega) (by rw [r2.len]; omega), Option.bind_some]
    have ext : ∀ m', m ≤ m' → (0 ≤ av row (k : Int) → x.Secs - av row (k : Int) ≤ m') → 0 ≤ m' ∧ ∀ (j : Nat) y, j < i + 1 → late[j]? = some y → ∀ row, rooms[y.Event.toNat]? = some row → 0 ≤ av row (k : Int) → y.Secs - av row (k : Int) ≤ m' := fun m' hle hx => by
      refine ⟨by have := h.1; omega, fun j y hj hy row' hr' h0 => ?_⟩
      by_cases e : j = i
      · subst e
        rw [x2] at hy
        injection hy with hy
        subst hy
        rw [r1] at hr'
        injection hr' with hr'
        subst hr'
        exact hx h0
      · have := h.2 j y (by omega) hy row' hr' h0
        omega
    by_cases hc : 0 ≤ av row (k : Int)
    · rw [if_pos hc, chk_ok (by omega) (by omega), Option.bind_some]
      exact ⟨_, rfl, ext _ (by omega) (fun _ => by omega)⟩
    · rw [if_neg hc]
      exact ⟨_, rfl, ext _ (Int.le_refl _) (fun h => absurd h hc)⟩)
  refine ⟨m, h1, fun d hd => ?_⟩
  rcases hd with hd | ⟨x, hx, row, g1, g2, g3⟩
  · omega
  · obtain ⟨j, hj, rfl⟩ := List.getElem_of_mem hx
    have := h3 j _ (by omega) (List.getElem?_eq_getElem hj) row g1 g2
    omega
end Go.Proofs.Ytakehdnblmonlaa
