/- Plain: the surest journey is possible, certain without odds, and no other one is surer. -/
import Derived.Test.YtckgfeglhjiflaaDoorGG
import Derived.Test.YtckgfeglhjiflaaDoorGH
set_option linter.unusedVariables false
set_option linter.unusedSimpArgs false
namespace Go.Proofs.YtckgfeglhjiflaaDoor
open Go.RowKit Go.Fp

theorem part_bd {X x g : Int} (h : X = x * g) (hg : 0 < g) (hX : 0 ≤ X) : 0 ≤ x ∧ x ≤ X := by
  subst h
  have h1 : 0 ≤ x := Int.nonneg_of_mul_nonneg_left hX hg
  have h2 : x * 1 ≤ x * g := Int.mul_le_mul_of_nonneg_left (by omega) h1
  omega
theorem hol_nil {G : (Int → Int) → Prop} (h : G fun _ => 0) : ∀ ts, hol [] G ts (fun _ => 0) = 1
  | [] => by unfold hol; rw [if_pos h]
  | t :: ts => by
    unfold hol
    exact hol_nil h ts
theorem tot_nil : ∀ ts, tot [] ts = 1
  | [] => rfl
  | t :: ts => tot_nil ts
theorem one_of {x g : Int} (h : 1 = x * g) (hg : 0 < g) : x = 1 := by
  have h1 := part_bd h hg (by omega)
  rcases Int.lt_or_le x 1 with h2 | h2
  · have : x = 0 := by omega
    subst this
    omega
  · omega
theorem cross {X Y P Q x y p q u v : Int} (h : X * Q ≤ P * Y) (hx : X = x * u) (hy : Y = y * u) (hp : P = p * v) (hq : Q = q * v) (hu : 0 < u) (hv : 0 < v) : x * q ≤ p * y := by
  subst hx hy hp hq
  refine Int.le_of_mul_le_mul_right (a := u * v) ?_ (Int.mul_pos hu hv)
  have e1 : x * q * (u * v) = x * u * (q * v) := by rw [Int.mul_assoc, Int.mul_assoc, Int.mul_left_comm q]
  have e2 : p * y * (u * v) = p * v * (y * u) := by rw [Int.mul_assoc, Int.mul_assoc, Int.mul_comm u v, Int.mul_left_comm y]
  rw [e1, e2]
  exact h
theorem surePlain (d : ApiDay) (from_ at_ to_ by_ m : Int) (l : List GuideOdds) (hw : WDay d) (hwl : Lst WOdds l) : mFishkeep2GuideSure d from_ at_ to_ by_ m l = some true := by
  have key : Tot (mFishkeep2GuideSure d from_ at_ to_ by_ m l) (fun q => q = true) := by
    unfold mFishkeep2GuideSure
    rw [awake_yes, Option.bind_some, if_pos rfl, guides_yes, Option.bind_some, if_pos rfl]
    refine tot_bind (surest_tot (from_ := from_) (at_ := at_) (to_ := to_) (by_ := by_) (m := m) hw hwl) fun ⟨best, e⟩ hb => ?_
    show Tot (if e ≠ 0 then _ else _) _
    rcases hb with ⟨h1, h2⟩ | ⟨h1, hs⟩
    · replace h1 : e ≠ 0 := h1
      replace h2 : best = [] := h2
      subst h2
      rw [if_pos h1]
      exact tot_some rfl
    replace h1 : e = 0 := h1
    replace hs : SOk d m l from_ at_ to_ by_ best := hs
    subst h1
    rw [if_neg (by decide)]
    have hd := hs.day
    have hm := hs.least
    have hg := hs.good
    have b1 := HA_bd (T := d.Trains) (m := m) hs.ok best
    have a1 := A_le hs.ok hg.len.2
    refine tot_bind (chance_tot hd hm hs.ok hs.few hs.check hs.odds hg.chain hg.len.1 hg.len.2) fun ⟨p, q, z⟩ hp => ?_
    obtain ⟨z0, v, hv, hp, hq⟩ := hp
    replace z0 : z = 0 := z0
    replace hp : H d.Trains m l best = p * v := hp
    replace hq : A l best = q * v := hq
    subst z0
    have bp := part_bd hp hv b1.2.1
    have bq := part_bd hq hv (by omega)
    have q1 : 1 ≤ q := by
      rcases Int.lt_or_le q 1 with h | h
      · have : q = 0 := by omega
        subst this
        omega
      · exact h
    have pq : p ≤ q := by
      refine Int.le_of_mul_le_mul_right (a := v) ?_ hv
      rw [← hp, ← hq]
      exact b1.2.2
    show Tot (Option.bind (if (0 : Int) ≠ 0 then _ else _) _) _
    refine tot_bind (R := fun s => s = false) ?_ fun s hs' => ?_
    · rw [if_neg (by decide), if_neg (show ¬ q < 1 by omega), if_neg (show ¬ p < 0 by omega), if_neg (show ¬ q < p by omega)]
      unfold mGuideCheckJourney
      rw [hs.check, Option.bind_some, if_neg (by decide), journey_ok hd hm hg.chain hg.len.1 hg.len.2]
      exact tot_some rfl
    subst hs'
    rw [if_neg (by decide)]
    have hnil : ∀ o ∈ ([] : List GuideOdds), OddOk o := fun o ho => by cases ho
    refine tot_bind (chance_tot (l := []) hd hm hnil (by simp) hs.check rfl hg.chain hg.len.1 hg.len.2) fun ⟨x, y, z⟩ hx => ?_
    obtain ⟨z0, w, hw', hx, hy⟩ := hx
    replace z0 : z = 0 := z0
    replace hx : H d.Trains m [] best = x * w := hx
    replace hy : A [] best = y * w := hy
    subst z0
    have hH : Holds d.Trains m best fun _ => 0 := fun i a b ha hb => by
      have := (hg.chain.2 i a b ha hb).2.2
      show (off d.Trains a).Arr + 0 + m ≤ (on d.Trains b).Dep + 0
      omega
    rw [show H d.Trains m [] best = 1 from hol_nil hH _] at hx
    rw [show A [] best = 1 from tot_nil _] at hy
    have x1 := one_of hx hw'
    have y1 := one_of hy hw'
    show Tot (Option.bind (if (0 : Int) ≠ 0 then _ else _) _) _
    refine tot_bind (R := fun s => s = false) ?_ fun s hs' => ?_
    · rw [if_neg (by decide), if_neg (fun h => h x1)]
      exact tot_some (decide_eq_false fun h => h y1)
    subst hs'
    rw [if_neg (by decide)]
    refine tot_bind (all_tot hs) fun ⟨e, all⟩ ha => ?_
    obtain ⟨e0, ha⟩ := ha
    replace e0 : e = 0 := e0
    replace ha : Out d m from_ to_ all := ha
    show Tot (if e ≠ 0 then _ else _) _
    rw [if_neg (fun h => h e0)]
    refine tot_sum (tot_forM (fun _ _ => True) (fun _ => False) trivial fun j _ _ hj _ => ?_) (fun _ _ => tot_some rfl) fun _ h => h.elim
    have hj : j < all.length := by simpa using hj
    unfold mFishkeep2GuideSure_L261
    refine tot_idn hj fun k hk => ?_
    have ak := ha.2 k (List.mem_of_getElem? hk)
    obtain ⟨ks⟩ := k
    replace ak : AOk d m from_ to_ ks := ak
    have kl := ak.len
    obtain ⟨r, hr⟩ : ∃ r, ks[ks.length - 1]? = some r := ⟨_, List.getElem?_eq_getElem (by omega)⟩
    obtain ⟨r0, hr0⟩ : ∃ r, ks[0]? = some r := ⟨_, List.getElem?_eq_getElem (by omega)⟩
    refine tot_eq (fault_ok hd hm ak.chain kl.1 kl.2) ?_
    rw [if_neg (by decide)]
    refine tot_bind (R := fun s => s = false → at_ ≤ (on d.Trains r0).Dep ∧ (off d.Trains r).Arr ≤ by_) ?_ fun s hs' => ?_
    · refine tot_eq (leaves_eq ak.chain hr0) (tot_ite (fun _ => tot_some fun h => by cases h) fun h1 => tot_eq (arrives_eq ak.chain hr kl.2) (tot_some fun h => ⟨by omega, ?_⟩))
      have := of_decide_eq_false h
      omega
    refine tot_ite (fun _ => tot_some trivial) fun hsf => ?_
    have hwin := hs' (bt hsf)
    have kg : Good d m from_ at_ to_ by_ ks := ⟨ak.chain, kl, fun r' hr' => by rw [hr0] at hr'; injection hr' with hr'; subst hr'; exact ⟨ak.first _ hr0, hwin.1⟩, fun r' hr' => by rw [hr] at hr'; injection hr' with hr'; subst hr'; exact ⟨ak.last _ hr, hwin.2⟩⟩
    have b2 := HA_bd (T := d.Trains) (m := m) hs.ok ks
    have a2 := A_le hs.ok kl.2
    refine tot_bind (chance_tot hd hm hs.ok hs.few hs.check hs.odds ak.chain kl.1 kl.2) fun ⟨x, y, z⟩ hx => ?_
    obtain ⟨z0, u, hu, hx, hy⟩ := hx
    replace z0 : z = 0 := z0
    replace hx : H d.Trains m l ks = x * u := hx
    replace hy : A l ks = y * u := hy
    subst z0
    have bx := part_bd hx hu b2.2.1
    have by' := part_bd hy hu (by omega)
    have hc := cross (hs.best ks kg) hx hy hp hq hu hv
    show Tot (Option.bind (if (0 : Int) ≠ 0 then _ else _) _) _
    refine tot_bind (R := fun s => s = false) ?_ fun s hs' => ?_
    · rw [if_neg (by decide)]
      have p1 : 0 ≤ x * q := Int.mul_nonneg bx.1 (by omega)
      have p2 : x * q ≤ 12960000 * 12960000 := Int.mul_le_mul (by omega) (by omega) (by omega) (by omega)
      have p3 : 0 ≤ p * y := Int.mul_nonneg bp.1 (by omega)
      have p4 : p * y ≤ 12960000 * 12960000 := Int.mul_le_mul (by omega) (by omega) (by omega) (by omega)
      show Tot ((chk (x * q)).bind fun _ => (chk (p * y)).bind fun _ => some (decide (p * y < x * q))) _
      exact tot_chk (by omega) (by omega) (tot_chk (by omega) (by omega) (tot_some (decide_eq_false (by omega))))
    subst hs'
    rw [if_neg (by decide)]
    exact tot_some trivial
  obtain ⟨q, h, rfl⟩ := key
  exact h
theorem sureRow (d : ApiDay) (a b c e f : Int) (l : List GuideOdds) {K1 K2 K3 K4 K5 S : Prop} (k0 : WDay d) (_ : K1) (_ : K2) (_ : K3) (_ : K4) (_ : K5) (k6 : Lst WOdds l) (_ : S) : mFishkeep2GuideSure d a b c e f l = some true := surePlain d a b c e f l k0 k6
end Go.Proofs.YtckgfeglhjiflaaDoor
