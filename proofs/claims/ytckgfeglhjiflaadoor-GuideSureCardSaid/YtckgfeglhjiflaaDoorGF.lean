/- Plain: chances in lowest terms; the surest journey. -/
import Derived.Test.YtckgfeglhjiflaaDoorGE
set_option linter.unusedVariables false
set_option linter.unusedSimpArgs false
namespace Go.Proofs.YtckgfeglhjiflaaDoor
open Go.RowKit Go.Fp

theorem ne0_ok {x : Int} (h : x ≠ 0) : ne0 x = some () := by
  unfold ne0
  rw [if_neg h]
theorem lowest_tot {x y : Int} (hx : 0 ≤ x) (hy : 1 ≤ y) (hxy : x ≤ y) (hb : y ≤ 1000000000) : Tot (mGuideLowest x y) (fun p => ∃ g, 0 < g ∧ x = p.1 * g ∧ y = p.2 * g) := by
  unfold mGuideLowest
  obtain ⟨c, h1, h2, h3, h4⟩ := loopM_inv (step := mGuideLowest_L69) (fun s => 0 ≤ s.1 ∧ 0 ≤ s.2 ∧ (0 < s.1 ∨ 0 < s.2) ∧ ∀ k : Int, k ∣ s.1 → k ∣ s.2 → k ∣ x ∧ k ∣ y) (fun c => 0 < c ∧ c ∣ x ∧ c ∣ y) (fun s => s.2.toNat) (fun ⟨c, a⟩ ⟨h1, h2, h3, h4⟩ => by
    have h1 : 0 ≤ c := h1
    have h2 : 0 ≤ a := h2
    have h3 : 0 < c ∨ 0 < a := h3
    show (∃ s', mGuideLowest_L69 (c, a) = some (.inl s') ∧ _) ∨ _
    unfold mGuideLowest_L69
    by_cases ha : 0 < a
    · refine .inl ⟨(a, Int.tmod c a), ?_, ⟨h2, Int.tmod_nonneg _ h1, .inl ha, fun k k1 k2 => ?_⟩, ?_⟩
      · show (if 0 < a then _ else _) = _
        rw [if_pos ha, ne0_ok (by omega)]
        rfl
      · refine h4 k ?_ k1
        have e : c = a * Int.tdiv c a + Int.tmod c a := (Int.mul_tdiv_add_tmod c a).symm
        show k ∣ c
        rw [e]
        exact Int.dvd_add (Int.dvd_trans k1 (Int.dvd_mul_right _ _)) k2
      · have := Int.tmod_lt_of_pos c ha
        show (Int.tmod c a).toNat < a.toNat
        omega
    · refine .inr ⟨c, ?_, ?_⟩
      · show (if 0 < a then _ else _) = _
        rw [if_neg ha]
      · have : a = 0 := by omega
        subst this
        exact ⟨by omega, h4 c (Int.dvd_refl c) (Int.dvd_zero c)⟩) (x, y) ⟨hx, by show 0 ≤ y; omega, .inr (by show 0 < y; omega), fun k k1 k2 => ⟨k1, k2⟩⟩
  rw [h1, Option.bind_some, ne0_ok (by omega), Option.bind_some]
  obtain ⟨u, rfl⟩ := h3
  obtain ⟨v, rfl⟩ := h4
  rw [Int.mul_tdiv_cancel_left _ (by omega), Int.mul_tdiv_cancel_left _ (by omega)]
  have hu : 0 ≤ u := Int.nonneg_of_mul_nonneg_right hx h2
  have hv : 0 ≤ v := Int.nonneg_of_mul_nonneg_right (by omega : 0 ≤ c * v) h2
  have b1 : 1 * u ≤ c * u := Int.mul_le_mul_of_nonneg_right (by omega) hu
  have b2 : 1 * v ≤ c * v := Int.mul_le_mul_of_nonneg_right (by omega) hv
  exact tot_chk (by omega) (by omega) (tot_chk (by omega) (by omega) (tot_some ⟨c, h2, Int.mul_comm _ _, Int.mul_comm _ _⟩))
theorem compare_eq (a c : Int) : mCmpCompare a c = some (if a < c then -1 else if c < a then 1 else 0) := by
  unfold mCmpCompare mCmpIsNaN
  rw [Option.bind_some, Option.bind_some, if_neg (by simp), if_neg (by simp)]
  by_cases h : a < c
  · rw [if_pos h, if_pos h]
  · rw [if_neg h, if_neg h]
    by_cases h2 : c < a
    · rw [if_pos h2, if_pos h2]
    · rw [if_neg h2, if_neg h2]
theorem or_tot (r : Int) (l : List Int) (hl : l.length ≤ 100) : Tot (mCmpOr (r :: l)) (fun z => r ≠ 0 → z = r) := by
  unfold mCmpOr
  refine tot_sum (I := fun _ => r = 0) (R := fun z => r ≠ 0 → z = r) ?_ (fun _ h => tot_some fun h2 => absurd h h2) fun z hz => tot_some hz
  refine tot_imp (tot_forM (fun k _ => 1 ≤ k → r = 0) (fun z => r ≠ 0 → z = r) (fun h => absurd h (by omega)) fun j _ _ hj hi => ?_) fun o ho => ?_
  · unfold mCmpOr_L38
    refine tot_idn (show j < (r :: l).length by omega) fun x hx => ?_
    cases j with
    | zero =>
      simp at hx
      subst hx
      exact tot_ite (fun h => tot_some fun _ => rfl) fun h => tot_some fun _ => Decidable.of_not_not h
    | succ j =>
      have h0 := hi (by omega)
      exact tot_ite (fun h => tot_some fun h2 => absurd h0 h2) fun h => tot_some fun _ => h0
  · cases o with
    | inl _ => exact ho (by simp)
    | inr _ => exact ho
theorem clone_tot {l : List GuideRide} (h : l.length ≤ 1000) : mSlicesClone l = some l := by
  unfold mSlicesClone
  rw [room_ok (by omega) (by omega)]
  rfl
section
variable {d : ApiDay} {m : Int} {l : List GuideOdds}
theorem arr_rise (hd : GDay d) (hm : 0 ≤ m) {rs : List GuideRide} (hc : Chain d.Trains m rs) : ∀ (k i : Nat) (a b : GuideRide), rs[i]? = some a → rs[i + k]? = some b → (off d.Trains a).Arr ≤ (off d.Trains b).Arr
  | 0, i, a, b, ha, hb => by
    rw [Nat.add_zero, ha] at hb
    injection hb with hb
    subst hb
    omega
  | k + 1, i, a, b, ha, hb => by
    have hlt : i + k < rs.length := by obtain ⟨q, _⟩ := List.getElem?_eq_some_iff.1 hb; omega
    have hc2 := List.getElem?_eq_getElem hlt
    have h1 := arr_rise hd hm hc k i a _ ha hc2
    have h2 := hc.2 _ _ _ hc2 hb
    have h3 := (ride_in hd (hc.1 b (List.mem_of_getElem? hb))).run
    have h4 := h2.2.2
    omega
theorem chance_tot (hd : GDay d) (hm : 0 ≤ m ∧ m ≤ 28800) (hl : ∀ o ∈ l, OddOk o) (hll : l.length ≤ 12) (hcl : mGuideCheckLeast d m = some 0) (hco : mGuideCheckOdds d l = some 0) {rs : List GuideRide} (hc : Chain d.Trains m rs) (h1 : 1 ≤ rs.length) (h4 : rs.length ≤ 4) :
    Tot (mGuideChance d (⟨rs⟩ : GuideJourney) m l) (fun p => p.2.2 = 0 ∧ ∃ g, 0 < g ∧ H d.Trains m l rs = p.1 * g ∧ A l rs = p.2.1 * g) := by
  have hb := HA_bd (T := d.Trains) (m := m) hl rs
  have hA := A_le hl h4
  unfold mGuideChance mGuideCheckOften
  rw [hcl, Option.bind_some, if_neg (by decide), journey_ok hd hm hc h1 h4, Option.bind_some, if_neg (by decide), hco, Option.bind_some, Option.bind_some, if_neg (by decide)]
  refine tot_bind (count_tot hd hm hl hll hc.1 h1 h4) fun ⟨g, h, x⟩ hp => ?_
  obtain ⟨e1, e2⟩ := hp
  have e1 : g = H d.Trains m l rs := e1
  have e2 : h = A l rs := e2
  subst e1 e2
  show Tot ((mGuideLowest (H d.Trains m l rs) (A l rs)).bind _) _
  exact tot_bind (lowest_tot hb.2.1 hb.1 hb.2.2 (by omega)) fun ⟨i, j⟩ hp => tot_some ⟨rfl, hp⟩
/-- A journey that is asked for. -/
structure Good (d : ApiDay) (m from_ at_ to_ by_ : Int) (k : List GuideRide) : Prop where
  chain : Chain d.Trains m k
  len : 1 ≤ k.length ∧ k.length ≤ 4
  first : ∀ r, k[0]? = some r → (on d.Trains r).Station = from_ ∧ at_ ≤ (on d.Trains r).Dep
  last : ∀ r, k[k.length - 1]? = some r → (off d.Trains r).Station = to_ ∧ (off d.Trains r).Arr ≤ by_
variable {from_ at_ to_ by_ : Int}
def SInv (d : ApiDay) (m : Int) (l : List GuideOdds) (from_ at_ to_ by_ : Int) (s : List GuideRide × Int × Int × Int) : Prop := (s.1 = [] ∧ s.2.1 = 0 ∧ s.2.2.1 = 0) ∨ (Good d m from_ at_ to_ by_ s.1 ∧ s.2.1 = H d.Trains m l s.1 ∧ s.2.2.1 = A l s.1)
def Cov (d : ApiDay) (m : Int) (l : List GuideOdds) (s : List GuideRide × Int × Int × Int) (k : List GuideRide) : Prop := s.1 ≠ [] ∧ H d.Trains m l k * s.2.2.1 ≤ s.2.1 * A l k
theorem better_tot (hd : GDay d) (hl : ∀ o ∈ l, OddOk o) {way best : List GuideRide} {L L' : Int} (hw : Chain d.Trains m way) (h1 : 1 ≤ way.length) (h4 : way.length ≤ 4) {hb ab : Int} (hs : SInv d m l from_ at_ to_ by_ (best, hb, ab, L')) :
    Tot (mGuideSurest_1 way (⟨H d.Trains m l way, A l way, L⟩ : GuideCases) best hb ab L' d.Trains d.Turns m) (fun z => (0 < z → best = [] ∨ hb * A l way ≤ H d.Trains m l way * ab) ∧ (¬ 0 < z → best ≠ [] ∧ H d.Trains m l way * ab ≤ hb * A l way)) := by
  unfold mGuideSurest_1
  refine tot_ite (fun h => tot_some ⟨fun _ => .inl (List.isEmpty_iff.1 h), fun h => absurd h (by decide)⟩) fun h => ?_
  have hne : best ≠ [] := fun e => h (by rw [e]; rfl)
  rcases hs with ⟨e, _⟩ | ⟨hg, e1, e2⟩
  · exact absurd e hne
  replace hg : Good d m from_ at_ to_ by_ best := hg
  replace e1 : hb = H d.Trains m l best := e1
  replace e2 : ab = A l best := e2
  subst e1
  subst e2
  have b1 := HA_bd (T := d.Trains) (m := m) hl way
  have b2 := HA_bd (T := d.Trains) (m := m) hl best
  have a1 := A_le hl h4
  have a2 := A_le hl hg.len.2
  have g1 := hg.len
  obtain ⟨r, hr⟩ : ∃ r, way[way.length - 1]? = some r := ⟨_, List.getElem?_eq_getElem (by omega)⟩
  obtain ⟨q, hq⟩ : ∃ q, best[best.length - 1]? = some q := ⟨_, List.getElem?_eq_getElem (by omega)⟩
  obtain ⟨r0, hr0⟩ : ∃ r, way[0]? = some r := ⟨_, List.getElem?_eq_getElem (by omega)⟩
  obtain ⟨q0, hq0⟩ : ∃ q, best[0]? = some q := ⟨_, List.getElem?_eq_getElem (by omega)⟩
  have ok : ∀ {rs : List GuideRide} {i : Nat} {x : GuideRide}, Chain d.Trains m rs → rs[i]? = some x → RideOk d.Trains x := fun hc hx => hc.1 _ (List.mem_of_getElem? hx)
  refine tot_bind (R := fun p => p = (r.Train, r.On, r.Off, q.Train, q.On, q.Off)) ?_ fun p hp => ?_
  · refine tot_chk (by omega) (by omega) ?_
    refine tot_eq (x := r) (by rw [show (way.length : Int) - 1 = ((way.length - 1 : Nat) : Int) by omega]; exact idx_nat hr) ?_
    refine tot_chk (by omega) (by omega) ?_
    refine tot_eq (x := q) (by rw [show (best.length : Int) - 1 = ((best.length - 1 : Nat) : Int) by omega]; exact idx_nat hq) (tot_some rfl)
  · subst hp
    show Tot (Option.bind (Option.bind (chk (H d.Trains m l way * A l best)) _) _) _
    have p1 : 0 ≤ H d.Trains m l way * A l best := Int.mul_nonneg b1.2.1 (by omega)
    have p2 : H d.Trains m l way * A l best ≤ 12960000 * 12960000 := Int.mul_le_mul (by omega) a2 (by omega) (by omega)
    have p3 : 0 ≤ H d.Trains m l best * A l way := Int.mul_nonneg b2.2.1 (by omega)
    have p4 : H d.Trains m l best * A l way ≤ 12960000 * 12960000 := Int.mul_le_mul (by omega) a1 (by omega) (by omega)
    refine tot_bind (R := fun z => (0 < z → H d.Trains m l best * A l way ≤ H d.Trains m l way * A l best) ∧ (¬ 0 < z → H d.Trains m l way * A l best ≤ H d.Trains m l best * A l way)) ?_ fun z hz => tot_some ⟨fun h => .inr (hz.1 h), fun h => ⟨hne, hz.2 h⟩⟩
    refine tot_chk (by omega) (by omega) ?_
    show Tot ((chk (H d.Trains m l best * A l way)).bind _) _
    refine tot_chk (by omega) (by omega) ?_
    generalize H d.Trains m l way * A l best = X
    generalize H d.Trains m l best * A l way = Y
    refine tot_eq (compare_eq _ _) ?_
    refine tot_eq (off_eq (n := ⟨⟨d.Trains, d.Turns⟩, m⟩) (r := q) (ok hg.chain hq)) ?_
    refine tot_eq (off_eq (n := ⟨⟨d.Trains, d.Turns⟩, m⟩) (r := r) (ok hw hr)) ?_
    refine tot_eq (compare_eq _ _) (tot_eq (compare_eq _ _) ?_)
    refine tot_eq (x := r0) (idx_nat (j := 0) hr0) ?_
    refine tot_eq (on_eq (n := ⟨⟨d.Trains, d.Turns⟩, m⟩) (ok hw hr0)) ?_
    refine tot_eq (x := q0) (idx_nat (j := 0) hq0) ?_
    refine tot_eq (on_eq (n := ⟨⟨d.Trains, d.Turns⟩, m⟩) (ok hg.chain hq0)) ?_
    refine tot_eq (compare_eq _ _) ?_
    refine tot_bind (or_tot _ _ (by simp)) fun z hz => tot_some ?_
    by_cases c1 : X < Y
    · rw [if_pos c1] at hz
      have := hz (by decide)
      subst this
      exact ⟨fun h => absurd h (by decide), fun _ => by omega⟩
    · rw [if_neg c1] at hz
      by_cases c2 : Y < X
      · rw [if_pos c2] at hz
        have := hz (by decide)
        subst this
        exact ⟨fun _ => by omega, fun h => absurd (by decide) h⟩
      · exact ⟨fun _ => by omega, fun _ => by omega⟩
theorem cov_trans (hl : ∀ o ∈ l, OddOk o) {s s' : List GuideRide × Int × Int × Int} {k : List GuideRide} (hs : SInv d m l from_ at_ to_ by_ s) (hs' : SInv d m l from_ at_ to_ by_ s') (hne : s'.1 ≠ []) (h : s.1 = [] ∨ s.2.1 * s'.2.2.1 ≤ s'.2.1 * s.2.2.1) (hc : Cov d m l s k) : Cov d m l s' k := by
  refine ⟨hne, ?_⟩
  rcases h with h | h
  · exact absurd h hc.1
  · rcases hs with ⟨e, _⟩ | ⟨_, _, e2⟩
    · exact absurd e hc.1
    have b1 := HA_bd (T := d.Trains) (m := m) hl s.1
    have b2 := HA_bd (T := d.Trains) (m := m) hl k
    have b3 : 0 ≤ s'.2.2.1 := by
      rcases hs' with ⟨_, _, e⟩ | ⟨_, _, e⟩
      · omega
      · have := HA_bd (T := d.Trains) (m := m) hl s'.1
        omega
    exact ratio_trans (by omega : 0 < s.2.2.1) (by omega) b3 hc.2 h
theorem grow_tos (hd : GDay d) (hm : 0 ≤ m ∧ m ≤ 28800) (hl : ∀ o ∈ l, OddOk o) (hll : l.length ≤ 12) : ∀ (N : Nat) (way : List GuideRide) (s : List GuideRide × Int × Int × Int), Chain d.Trains m way → 1 ≤ way.length → way.length ≤ 4 →
    (∀ r, way[0]? = some r → (on d.Trains r).Station = from_ ∧ at_ ≤ (on d.Trains r).Dep) → SInv d m l from_ at_ to_ by_ s →
    Tos (N + way.length < 5) (mGuideSurest_2 N way d.Trains d.Turns m by_ l s.1 s.2.1 s.2.2.1 s.2.2.2 to_) (fun s' => (SInv d m l from_ at_ to_ by_ s' ∧ ∀ k, Cov d m l s k → Cov d m l s' k) ∧ ∀ q, Good d m from_ at_ to_ by_ (way ++ q) → Cov d m l s' (way ++ q))
  | 0, way, s, _, _, _, _, _ => .inr ⟨by omega, rfl⟩
  | N + 1, way, (best, hb, ab, L), hw, h1, h4, hf, hs => by
    obtain ⟨r, hr⟩ : ∃ r, way[way.length - 1]? = some r := ⟨_, List.getElem?_eq_getElem (by omega)⟩
    have hrok := hw.1 r (List.mem_of_getElem? hr)
    have b1 := HA_bd (T := d.Trains) (m := m) hl way
    have a1 := A_le hl h4
    show Tos _ (mGuideSurest_2 (N + 1) way d.Trains d.Turns m by_ l best hb ab L to_) _
    unfold mGuideSurest_2
    refine tos_chk (by omega) (by omega) ?_
    refine tos_eq (x := r) (by rw [show (way.length : Int) - 1 = ((way.length - 1 : Nat) : Int) by omega]; exact idx_nat hr) ?_
    refine tos_eq (off_eq (n := ⟨⟨d.Trains, d.Turns⟩, m⟩) hrok) ?_
    show Tos _ (if by_ < (off d.Trains r).Arr then _ else _) _
    refine tos_ite (fun hby => tos_some ⟨⟨hs, fun _ h => h⟩, fun q hq => ?_⟩) fun hby => ?_
    · have hlen := hq.len
      obtain ⟨z, hz⟩ : ∃ z, (way ++ q)[(way ++ q).length - 1]? = some z := ⟨_, List.getElem?_eq_getElem (by omega)⟩
      have h5 := arr_rise hd hm.1 hq.chain ((way ++ q).length - 1 - (way.length - 1)) (way.length - 1) r z (by rw [List.getElem?_append_left (by omega)]; exact hr) (by rw [List.length_append] at hz ⊢; rw [show way.length - 1 + (way.length + q.length - 1 - (way.length - 1)) = way.length + q.length - 1 by omega]; exact hz)
      have h6 := (hq.last z hz).2
      omega
    refine tos_bt (count_tot hd hm hl hll hw.1 h1 h4) fun ⟨j, k, p⟩ hp => ?_
    obtain ⟨e1, e2⟩ := hp
    have e1 : j = H d.Trains m l way := e1
    have e2 : k = A l way := e2
    subst e1 e2
    show Tos _ (Option.bind (if best.isEmpty = true then _ else _) _) _
    refine tos_bt (R := fun x => x = true → best ≠ [] ∧ H d.Trains m l way * ab < hb * A l way) ?_ fun x hx => ?_
    · refine tot_ite (fun _ => tot_some fun h => by cases h) fun h => ?_
      have hne : best ≠ [] := fun e => h (by rw [e]; rfl)
      rcases hs with ⟨e, _⟩ | ⟨hg, e1, e2⟩
      · exact absurd e hne
      have hg : Good d m from_ at_ to_ by_ best := hg
      have e1 : hb = H d.Trains m l best := e1
      have e2 : ab = A l best := e2
      have b2 := HA_bd (T := d.Trains) (m := m) hl best
      have a2 := A_le hl hg.len.2
      have p1 : 0 ≤ H d.Trains m l way * ab := Int.mul_nonneg b1.2.1 (by omega)
      have p2 : H d.Trains m l way * ab ≤ 12960000 * 12960000 := Int.mul_le_mul (by omega) (by omega) (by omega) (by omega)
      have p3 : 0 ≤ hb * A l way := Int.mul_nonneg (by omega) (by omega)
      have p4 : hb * A l way ≤ 12960000 * 12960000 := Int.mul_le_mul (by omega) a1 (by omega) (by omega)
      show Tot ((chk (H d.Trains m l way * ab)).bind fun _ => (chk (hb * A l way)).bind fun _ => _) _
      exact tot_chk (by omega) (by omega) (tot_chk (by omega) (by omega) (tot_some fun h => ⟨hne, of_decide_eq_true h⟩))
    refine tos_ite (fun h => tos_some ⟨⟨hs, fun _ h => h⟩, fun q hq => ?_⟩) fun hx' => ?_
    · obtain ⟨hne, hlt⟩ := hx h
      refine ⟨hne, ?_⟩
      have b2 := HA_bd (T := d.Trains) (m := m) hl (way ++ q)
      have b3 : 0 ≤ ab := by
        rcases hs with ⟨_, _, e⟩ | ⟨_, _, e⟩
        · have e : ab = 0 := e
          omega
        · have e : ab = A l best := e
          have := HA_bd (T := d.Trains) (m := m) hl best
          omega
      exact ratio_trans (by omega : 0 < A l way) (by omega) b3 (less_sure_all hl way q) (Int.le_of_lt hlt)
    -- what is kept
    refine tos_bt (R := fun s1 => (SInv d m l from_ at_ to_ by_ s1 ∧ ∀ k, Cov d m l (best, hb, ab, L) k → Cov d m l s1 k) ∧ (Good d m from_ at_ to_ by_ way → Cov d m l s1 way)) ?_ fun s1 hs1 => ?_
    · refine tot_bind (R := fun A_ : Bool => (A_ = true → (off d.Trains r).Station = to_ ∧ (best = [] ∨ hb * A l way ≤ H d.Trains m l way * ab)) ∧ (A_ = false → (off d.Trains r).Station = to_ → best ≠ [] ∧ H d.Trains m l way * ab ≤ hb * A l way)) ?_ fun A_ hA => ?_
      · refine tot_eq (off_eq (n := ⟨⟨d.Trains, d.Turns⟩, m⟩) hrok) ?_
        show Tot (if (off d.Trains r).Station = to_ then _ else _) _
        refine tot_ite (fun ht => ?_) fun ht => tot_some ⟨fun h => (by cases h), fun _ h => absurd h ht⟩
        refine tot_bind (better_tot (L := p) hd hl hw h1 h4 hs) fun z hz => tot_some ⟨fun h => ⟨ht, hz.1 (of_decide_eq_true h)⟩, fun h _ => hz.2 (of_decide_eq_false h)⟩
      · refine tot_ite (fun h => tot_some ?_) fun h => tot_some ?_
        · obtain ⟨ht, hbt⟩ := hA.1 h
          have hgood : Good d m from_ at_ to_ by_ way := ⟨hw, ⟨h1, h4⟩, hf, fun r' hr' => by rw [hr] at hr'; injection hr' with hr'; subst hr'; exact ⟨ht, by omega⟩⟩
          have hwne : way ≠ [] := fun e => by rw [e] at h1; simp at h1
          have hi : SInv d m l from_ at_ to_ by_ (way, H d.Trains m l way, A l way, p) := .inr ⟨hgood, rfl, rfl⟩
          exact ⟨⟨hi, fun k hk => cov_trans hl hs hi hwne hbt hk⟩, fun _ => ⟨hwne, Int.le_refl _⟩⟩
        · refine ⟨⟨hs, fun _ h => h⟩, fun hg => ?_⟩
          exact hA.2 (bt h) (hg.last r hr).1
    obtain ⟨best1, hb1, ab1, L1⟩ := s1
    obtain ⟨⟨hs1, hmono⟩, hway⟩ := hs1
    show Tos _ (if (way.length : Int) = 4 then _ else _) _
    refine tos_ite (fun hlen => tos_some ⟨⟨hs1, hmono⟩, fun q hq => ?_⟩) fun hlen => ?_
    · have h5 := hq.len.2
      rw [List.length_append] at h5
      have : q = [] := List.length_eq_zero_iff.1 (by omega)
      subst this
      rw [List.append_nil] at hq ⊢
      exact hway hq
    refine tos_eq (behind_eq (d := ⟨d.Trains, d.Turns⟩) hd hm hrok) ?_
    generalize hBB : ridesL (off d.Trains r).Station ((off d.Trains r).Arr + m) r.Train d.Trains 0 = B
    have hB : ∀ b, b ∈ B ↔ RideOk d.Trains b ∧ Link d.Trains m r b := fun b => by rw [← hBB]; exact mem_behind
    refine tos_sum (I := fun s2 => (SInv d m l from_ at_ to_ by_ s2 ∧ ∀ k, Cov d m l (best1, hb1, ab1, L1) k → Cov d m l s2 k) ∧ ∀ b ∈ B, ∀ q, Good d m from_ at_ to_ by_ (way ++ [b] ++ q) → Cov d m l s2 (way ++ [b] ++ q)) (R := fun _ => False) ?_ (fun ⟨c1, c2, c3, c4⟩ hI => tos_some ⟨⟨hI.1.1, fun k hk => hI.1.2 k (hmono k hk)⟩, fun q hq => ?_⟩) fun _ h => h.elim
    · refine tos_imp (tos_forL (fun rest s2 => (SInv d m l from_ at_ to_ by_ s2 ∧ ∀ k, Cov d m l (best1, hb1, ab1, L1) k → Cov d m l s2 k) ∧ ∀ b ∈ B, b ∈ rest ∨ ∀ q, Good d m from_ at_ to_ by_ (way ++ [b] ++ q) → Cov d m l s2 (way ++ [b] ++ q)) (fun _ => False) ⟨⟨hs1, fun _ h => h⟩, fun b hb => .inl hb⟩ fun x rest s2 hxB hI => ?_) fun o ho => ?_
      · obtain ⟨k1, k2, k3, k4⟩ := s2
        obtain ⟨⟨i1, i2⟩, i3⟩ := hI
        obtain ⟨hx1, hx2⟩ := (hB x).1 hxB
        show Tos _ (mGuideSurest_2_L829 way d.Trains d.Turns l m by_ to_ (mGuideSurest_2 N) x (k1, k2, k3, k4)) _
        unfold mGuideSurest_2_L829
        show Tos _ ((mSlicesClone way).bind _) _
        refine tos_eq (clone_tot (by omega)) (tos_room (by omega) (by omega) ?_)
        have hlen2 : (way ++ [x]).length = way.length + 1 := by simp
        have hrec := grow_tos hd hm hl hll N (way ++ [x]) (k1, k2, k3, k4) (chain_snoc hw hr hx1 hx2) (by omega) (by omega) (fun r' hr' => hf r' (by rw [List.getElem?_append_left (by omega)] at hr'; exact hr')) i1
        refine tos_bind (tos_weak hrec fun q => by omega) fun ⟨o1, o2, o3, o4⟩ ho => tos_some ⟨⟨ho.1.1, fun k hk => ho.1.2 k (i2 k hk)⟩, fun b hb => ?_⟩
        rcases i3 b hb with hb' | hb'
        · rcases List.mem_cons.1 hb' with rfl | hb'
          · exact .inr fun q hq => ho.2 q hq
          · exact .inl hb'
        · exact .inr fun q hq => ho.1.2 _ (hb' q hq)
      · cases o with
        | inl s2 => exact ⟨ho.1, fun b hb => (ho.2 b hb).resolve_left (by simp)⟩
        | inr _ => exact ho
    · cases q with
      | nil =>
        rw [List.append_nil] at hq ⊢
        exact hI.1.2 _ (hway hq)
      | cons b q =>
        have e : way ++ b :: q = way ++ [b] ++ q := by simp
        have hlink : Link d.Trains m r b := hq.chain.2 (way.length - 1) r b (by rw [List.getElem?_append_left (by omega)]; exact hr) (by rw [show way.length - 1 + 1 = way.length by omega, List.getElem?_append_right (by omega)]; simp)
        have hb := (hB b).2 ⟨hq.chain.1 b (by simp), hlink⟩
        rw [e] at hq ⊢
        exact hI.2 b hb q hq
end
end Go.Proofs.YtckgfeglhjiflaaDoor
