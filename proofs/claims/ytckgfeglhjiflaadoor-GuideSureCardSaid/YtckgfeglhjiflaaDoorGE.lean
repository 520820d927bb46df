/- Plain: count counts. -/
import Derived.Test.YtckgfeglhjiflaaDoorGD
set_option linter.unusedVariables false
set_option linter.unusedSimpArgs false
namespace Go.Proofs.YtckgfeglhjiflaaDoor
open Go.RowKit Go.Fp

theorem tos_weak {S S' : Prop} {α : Type} {o : Option α} {P : α → Prop} (h : Tos S o P) (k : S → S') : Tos S' o P := h.imp id fun q => ⟨k q.1, q.2⟩
theorem find_at {α : Type} {p : α → Bool} : ∀ {l : List α} {j : Nat} {o : α}, (∀ i x, i < j → l[i]? = some x → p x = false) → l[j]? = some o → p o = true → l.find? p = some o
  | [], j, o, _, h, _ => by simp at h
  | x :: l, 0, o, _, h, hp => by
    simp at h
    subst h
    simp [hp]
  | x :: l, j + 1, o, h, ho, hp => by
    have h0 := h 0 x (by omega) rfl
    rw [List.find?_cons, h0]
    exact find_at (j := j) (fun i y hi hy => h (i + 1) y (by omega) (by simpa using hy)) (by simpa using ho) hp
theorem contains_eq {a : List Int} {c : Int} (h : a.length ≤ 9223372036854775807) : Tot (mSlicesContains a c) (fun q => q = decide (c ∈ a)) := by
  unfold mSlicesContains
  refine tot_bind (R := fun n => (n = -1 ∧ c ∉ a) ∨ (0 ≤ n ∧ c ∈ a)) ?_ fun n hn => tot_some ?_
  · unfold mSlicesIndex
    refine tot_sum (I := fun _ => ∀ x ∈ a, c ≠ x) (R := fun n => 0 ≤ n ∧ c ∈ a) ?_ (fun _ h1 => tot_some (.inl ⟨rfl, fun hc => h1 c hc rfl⟩)) fun n hn => tot_some (.inr hn)
    refine tot_imp (tot_forM (fun k _ => ∀ i x, i < k → a[i]? = some x → c ≠ x) (fun n => 0 ≤ n ∧ c ∈ a) (fun i t hi => absurd hi (by omega)) fun j _ _ hj hi => ?_) fun o ho => ?_
    · unfold mSlicesIndex_L39
      refine tot_idn (show j < a.length by omega) fun x hx => tot_ite (fun he => tot_some (show (0 : Int) ≤ (j : Int) ∧ c ∈ a from ⟨by omega, he ▸ List.mem_of_getElem? hx⟩)) fun he => tot_some (upto_succ hx hi he)
    · cases o with
      | inl _ => exact mem_upto ho
      | inr _ => exact ho
  · rcases hn with ⟨rfl, h2⟩ | ⟨h1, h2⟩
    · simp [h2]
    · simp [h1, h2]
theorem trains_eq {rs : List GuideRide} (h4 : rs.length ≤ 4) : forS (mGuideNetCount_L124 (⟨rs⟩ : GuideJourney)) rs.length 0 [] = some (trOf rs) := by
  have key : Tot (forS (mGuideNetCount_L124 (⟨rs⟩ : GuideJourney)) rs.length 0 []) (fun a => a = trOf (rs.take (0 + rs.length))) := by
    refine tot_forS (fun k a => a = trOf (rs.take k)) rfl fun j s _ hj hi => ?_
    subst hi
    unfold mGuideNetCount_L124
    have hj : j < rs.length := by omega
    refine tot_idn hj fun r hr => ?_
    have hs : rs.take (j + 1) = rs.take j ++ [r] := by rw [List.take_add_one, hr]; rfl
    have hlen := (trOf_mem (rs.take j)).2.2.2
    rw [List.length_take] at hlen
    refine tot_bind (contains_eq (by omega)) fun q hq => ?_
    rw [hs, trOf_snoc]
    refine tot_ite (fun h => tot_some ?_) fun h => tot_room (by omega) (by omega) (tot_some ?_)
    · rw [if_pos (of_decide_eq_true (hq ▸ h))]
    · rw [if_neg (of_decide_eq_false (hq ▸ bt h))]
  obtain ⟨a, h1, h2⟩ := key
  rw [h1, h2, Nat.zero_add, List.take_length]
theorem index3_tot {l : List GuideOdds} {ts : List Int} {k : Nat} {t : Int} (hk : ts[k]? = some t) (hl : l.length ≤ 9223372036854775807) :
    Tot (mSlicesIndexFunc_3 l (k : Int) ts) (fun n => (n = -1 ∧ od l t = none) ∨ ∃ (j : Nat) (o : GuideOdds), n = (j : Int) ∧ l[j]? = some o ∧ od l t = some o) := by
  unfold mSlicesIndexFunc_3
  refine tot_sum (I := fun _ => ∀ x ∈ l, x.Train ≠ t) (R := fun n => ∃ (j : Nat) (o : GuideOdds), n = (j : Int) ∧ l[j]? = some o ∧ od l t = some o) ?_ (fun _ h1 => tot_some (.inl ⟨rfl, ?_⟩)) fun n hn => tot_some (.inr hn)
  · refine tot_imp (tot_forM (fun k _ => ∀ i x, i < k → l[i]? = some x → x.Train ≠ t) (fun n => ∃ (j : Nat) (o : GuideOdds), n = (j : Int) ∧ l[j]? = some o ∧ od l t = some o) (fun i t hi => absurd hi (by omega)) fun j _ _ hj hi => ?_) fun o ho => ?_
    · unfold mSlicesIndexFunc_3_L67
      refine tot_idn (by omega) fun o ho => ?_
      unfold mGuideNetCount_1_1
      refine tot_bind (R := fun q => q = decide (o.Train = t)) (tot_eq (idx_nat hk) (tot_some rfl)) fun q hq => ?_
      refine tot_ite (fun h => tot_some ⟨j, o, rfl, ho, ?_⟩) fun h => tot_some (upto_succ ho hi (of_decide_eq_false (hq ▸ bt h)))
      exact find_at (fun i x h1 h2 => decide_eq_false (hi i x h1 h2)) ho (hq ▸ h)
    · cases o with
      | inl _ => exact mem_upto ho
      | inr _ => exact ho
  · exact List.find?_eq_none.2 fun x hx => by simpa using h1 x hx
section
variable {d : ApiDay} {m : Int} {l : List GuideOdds} {rs : List GuideRide} {ts : List Int}
def Agree (l : List GuideOdds) (ts : List Int) (k : Nat) (h : List (Int × Int)) (μ : Int → Int) : Prop := ∀ t, (t ∈ ts.take k ∨ od l t = none) → mgetD h t 0 = μ t
theorem leaf_tot (hd : GDay d) (hm : 0 ≤ m ∧ m ≤ 28800) (hr : ∀ r ∈ rs, RideOk d.Trains r) (h4 : rs.length ≤ 4) {a e f g : Int} {h : List (Int × Int)} {μ : Int → Int} (hμ : ∀ t, 0 ≤ μ t ∧ μ t ≤ 28800) (hag : ∀ r ∈ rs, mgetD h r.Train 0 = μ r.Train) :
    Tot (forM (mGuideNetCount_1_L2501 rs d.Trains d.Turns h a e f g m) rs.length 0 ()) (Sum.elim (fun _ => Holds d.Trains m rs μ) (fun p => p = (e, f + a, g, h) ∧ ¬ Holds d.Trains m rs μ)) := by
  refine tot_imp (tot_forM (fun k _ => ∀ (i : Nat) (x y : GuideRide), i + 1 < k → rs[i]? = some x → rs[i + 1]? = some y → (off d.Trains x).Arr + μ x.Train + m ≤ (on d.Trains y).Dep + μ y.Train) (fun p => p = (e, f + a, g, h) ∧ ¬ Holds d.Trains m rs μ) (fun i x y hi => absurd hi (by omega)) fun j _ _ hj hi => ?_) fun o ho => ?_
  · unfold mGuideNetCount_1_L2501
    refine tot_idn (by omega) fun y hy => tot_ite (fun h0 => tot_chk (by omega) (by omega) (tot_idx (by omega) (by omega) fun x hx => ?_)) fun h0 => tot_some fun i x y' hi' => absurd hi' (by omega)
    have hx : rs[j - 1]? = some x := by rw [show ((j : Int) - 1).toNat = j - 1 by omega] at hx; exact hx
    have hxm := List.mem_of_getElem? hx
    have hym := List.mem_of_getElem? hy
    have hix := (ride_in hd (hr x hxm)).off_.2.1
    have hiy := (ride_in hd (hr y hym)).on_.2.2.1
    have h1 := hμ x.Train
    have h2 := hμ y.Train
    refine tot_bind (R := fun q => q = decide ((on d.Trains y).Dep + μ y.Train < (off d.Trains x).Arr + μ x.Train + m)) ?_ fun q hq => ?_
    · refine tot_eq (off_eq (n := ⟨⟨d.Trains, d.Turns⟩, m⟩) (hr x hxm)) ?_
      show Tot ((chk ((off d.Trains x).Arr + mgetD h x.Train 0)).bind fun _ => (chk ((off d.Trains x).Arr + mgetD h x.Train 0 + m)).bind fun _ => _) _
      rw [hag x hxm]
      refine tot_chk (by omega) (by omega) (tot_chk (by omega) (by omega) ?_)
      refine tot_eq (on_eq (n := ⟨⟨d.Trains, d.Turns⟩, m⟩) (hr y hym)) ?_
      show Tot ((chk ((on d.Trains y).Dep + mgetD h y.Train 0)).bind _) _
      rw [hag y hym]
      exact tot_chk (by omega) (by omega) (tot_some rfl)
    · refine tot_ite (fun hh => tot_some ⟨rfl, fun hH => ?_⟩) fun hh => ?_
      · have := hH (j - 1) x y hx (by rw [show j - 1 + 1 = j by omega]; exact hy)
        have := of_decide_eq_true (hq ▸ hh)
        omega
      · have hh := of_decide_eq_false (hq ▸ bt hh)
        exact tot_some (show ∀ (i : Nat) (x y : GuideRide), i + 1 < j + 1 → rs[i]? = some x → rs[i + 1]? = some y → (off d.Trains x).Arr + μ x.Train + m ≤ (on d.Trains y).Dep + μ y.Train from fun i x' y' h5 hx' hy' => by
          rcases Nat.lt_or_ge (i + 1) j with h6 | h6
          · exact hi i x' y' h6 hx' hy'
          · have h7 : i = j - 1 := by omega
            subst h7
            rw [hx] at hx'
            rw [show j - 1 + 1 = j by omega, hy] at hy'
            injection hx' with hx'
            injection hy' with hy'
            subst hx'; subst hy'
            omega)
  · cases o with
    | inl _ => exact fun i x y hx hy => ho i x y (by obtain ⟨q, _⟩ := List.getElem?_eq_some_iff.1 hy; omega) hx hy
    | inr _ => exact ho
theorem count1_tos (hd : GDay d) (hm : 0 ≤ m ∧ m ≤ 28800) (hl : ∀ o ∈ l, OddOk o) (hll : l.length ≤ 12) (hr : ∀ r ∈ rs, RideOk d.Trains r) (h1 : 1 ≤ rs.length) (h4 : rs.length ≤ 4) (hts : ∀ r ∈ rs, r.Train ∈ ts) (hnd : ts.Nodup) (ht4 : ts.length ≤ 4) :
    ∀ (N k : Nat) (a e f g : Int) (h : List (Int × Int)) (μ : Int → Int), k ≤ ts.length → (∀ t, 0 ≤ μ t ∧ μ t ≤ 28800) → Agree l ts k h μ → 1 ≤ a → 0 ≤ e → e ≤ f → f + a * tot l (ts.drop k) ≤ 1000000000 → 0 ≤ g → g ≤ 28800 * f →
      Tos (N + k < ts.length + 1) (mGuideNetCount_1 N (k : Int) a l e f g rs d.Trains d.Turns m ts h) (fun p => p.1 = e + a * hol l (Holds d.Trains m rs) (ts.drop k) μ ∧ p.2.1 = f + a * tot l (ts.drop k) ∧ (0 ≤ p.2.2.1 ∧ p.2.2.1 ≤ 28800 * p.2.1) ∧ ∀ t, (t ∈ ts.take k ∨ od l t = none) → mgetD p.2.2.2 t 0 = mgetD h t 0)
  | 0, k, a, e, f, g, h, μ, hk, _, _, _, _, _, _, _, _ => .inr ⟨by omega, rfl⟩
  | N + 1, k, a, e, f, g, h, μ, hk, hμ, hag, ha, he, hef, hb, hg0, hg1 => by
    unfold mGuideNetCount_1
    refine tos_ite (fun hlt => ?_) fun hge => ?_
    · have hlt : k < ts.length := by omega
      obtain ⟨t, ht⟩ : ∃ t, ts[k]? = some t := ⟨_, List.getElem?_eq_getElem hlt⟩
      have hdrop : ts.drop k = t :: ts.drop (k + 1) := by rw [List.drop_eq_getElem_cons hlt]; rw [List.getElem?_eq_getElem hlt] at ht; injection ht with ht; rw [ht]
      have htake : ts.take (k + 1) = ts.take k ++ [t] := by rw [List.take_add_one, ht]; rfl
      have hnot : t ∉ ts.take k := fun hin => by
        have h5 : (ts.take (k + 1)).Nodup := List.Nodup.sublist (List.take_sublist _ _) hnd
        rw [htake, List.nodup_append] at h5
        exact h5.2.2 t hin t (by simp) rfl
      rw [hdrop] at hb ⊢
      refine tos_bt (index3_tot ht (by omega)) fun n hn => ?_
      rcases hn with ⟨rfl, hod⟩ | ⟨j, o, rfl, hj, hod⟩
      · rw [if_pos (by decide)]
        have e1 : tot l (t :: ts.drop (k + 1)) = tot l (ts.drop (k + 1)) := by rw [tot, hod]
        have e2 : hol l (Holds d.Trains m rs) (t :: ts.drop (k + 1)) μ = hol l (Holds d.Trains m rs) (ts.drop (k + 1)) μ := by rw [hol, hod]
        rw [e1] at hb ⊢
        rw [e2]
        refine tos_chk (by omega) (by omega) ?_
        have hrec := count1_tos hd hm hl hll hr h1 h4 hts hnd ht4 N (k + 1) a e f g h μ hlt hμ (fun x hx => hag x (by
          rcases hx with hx | hx
          · rw [htake] at hx
            rcases List.mem_append.1 hx with hx | hx
            · exact .inl hx
            · rw [List.mem_singleton.1 hx]; exact .inr hod
          · exact .inr hx)) ha he hef hb hg0 hg1
        refine tos_bind (tos_weak hrec fun q => by omega) fun ⟨p1, p2, p3, p4⟩ hp => tos_some ⟨hp.1, hp.2.1, hp.2.2.1, fun x hx => hp.2.2.2 x ?_⟩
        · rcases hx with hx | hx
          · exact .inl (by rw [htake]; exact List.mem_append_left _ hx)
          · exact .inr hx
      · rw [if_neg (by omega)]
        have hom := List.mem_of_getElem? hj
        have hok := hl o hom
        have hzp := zip_pos hok
        have hzl := zip_len hok
        have e1 : tot l (t :: ts.drop (k + 1)) = wsum (o.Late.zip o.Weight) (fun _ => 1) * tot l (ts.drop (k + 1)) := by rw [tot, hod]
        have e2 : hol l (Holds d.Trains m rs) (t :: ts.drop (k + 1)) μ = wsum (o.Late.zip o.Weight) (fun s => hol l (Holds d.Trains m rs) (ts.drop (k + 1)) (upd μ t s)) := by rw [hol, hod]
        rw [e1] at hb ⊢
        rw [e2]
        refine tos_eq (idx_nat hj) ?_
        have hR := tot_bd hl (ts.drop (k + 1))
        generalize hRR : tot l (ts.drop (k + 1)) = R at hb hR ⊢
        have hbd : ∀ s, 0 ≤ hol l (Holds d.Trains m rs) (ts.drop (k + 1)) (upd μ t s) ∧ hol l (Holds d.Trains m rs) (ts.drop (k + 1)) (upd μ t s) ≤ R := fun s => hRR ▸ hol_bd hl _ _
        generalize hFF : (fun s => hol l (Holds d.Trains m rs) (ts.drop (k + 1)) (upd μ t s)) = F at *
        have hF : ∀ s, hol l (Holds d.Trains m rs) (ts.drop (k + 1)) (upd μ t s) = F s := fun s => by rw [← hFF]
        have hbd : ∀ s, 0 ≤ F s ∧ F s ≤ R := fun s => by rw [← hF]; exact hbd s
        -- how a part of the sum is bounded
        have part : ∀ c, 0 ≤ wsum ((o.Late.zip o.Weight).take c) F ∧ wsum ((o.Late.zip o.Weight).take c) F ≤ wsum ((o.Late.zip o.Weight).take c) (fun _ => 1) * R ∧ 0 ≤ wsum ((o.Late.zip o.Weight).take c) (fun _ => 1) ∧ wsum ((o.Late.zip o.Weight).take c) (fun _ => 1) ≤ wsum (o.Late.zip o.Weight) (fun _ => 1) := fun c => by
          have hp : Pos ((o.Late.zip o.Weight).take c) := fun p hp => hzp p (List.mem_of_mem_take hp)
          refine ⟨wsum_nonneg hp fun s => (hbd s).1, ?_, wsum_nonneg hp fun _ => by omega, wsum_part hzp (fun _ => by omega) c⟩
          rw [← wsum_one]
          exact wsum_mono hp fun s => (hbd s).2
        refine tos_bind (tos_forS (fun c (p : Int × Int × Int × List (Int × Int)) => p.1 = e + a * wsum ((o.Late.zip o.Weight).take c) F ∧ p.2.1 = f + a * (wsum ((o.Late.zip o.Weight).take c) (fun _ => 1) * R) ∧ (0 ≤ p.2.2.1 ∧ p.2.2.1 ≤ 28800 * p.2.1) ∧ ∀ x, (x ∈ ts.take k ∨ od l x = none) → mgetD p.2.2.2 x 0 = mgetD h x 0) ⟨by simp [wsum], by simp [wsum], ⟨hg0, hg1⟩, fun _ _ => rfl⟩ fun c p _ hc hi => ?_) fun ⟨p1, p2, p3, p4⟩ hp => ?_
        · obtain ⟨p1, p2, p3, p4⟩ := p
          obtain ⟨i1, i2, i3, i4⟩ := hi
          have hcl : c < o.Late.length := by omega
          have hcw : c < o.Weight.length := by have := hok.1.2.2; omega
          obtain ⟨s, hs⟩ : ∃ s, o.Late[c]? = some s := ⟨_, List.getElem?_eq_getElem hcl⟩
          obtain ⟨w, hw⟩ : ∃ w, o.Weight[c]? = some w := ⟨_, List.getElem?_eq_getElem hcw⟩
          have hz : (o.Late.zip o.Weight)[c]? = some (s, w) := by rw [List.getElem?_zip_eq_some]; exact ⟨hs, hw⟩
          have hsb := hok.2.1 s (List.mem_of_getElem? hs)
          have hwb := hok.2.2 w (List.mem_of_getElem? hw)
          have hpc := part c
          have hpc1 := part (c + 1)
          rw [wsum_take hz, wsum_take hz] at hpc1
          show Tos _ (mGuideNetCount_1_L2113 l rs d.Trains d.Turns ts (k : Int) a m (j : Int) o (mGuideNetCount_1 N) c (p1, p2, p3, p4)) _
          unfold mGuideNetCount_1_L2113
          show Tos _ ((idx o.Late (c : Int)).bind _) _
          refine tos_eq (idx_nat hs) (tos_eq (idx_nat ht) (tos_chk (by omega) (by omega) (tos_eq (idx_nat hj) (tos_eq (idx_nat hw) ?_))))
          have i1 : p1 = e + a * wsum ((o.Late.zip o.Weight).take c) F := i1
          have i2 : p2 = f + a * (wsum ((o.Late.zip o.Weight).take c) (fun _ => 1) * R) := i2
          have i3 : 0 ≤ p3 ∧ p3 ≤ 28800 * p2 := i3
          generalize hX : wsum ((o.Late.zip o.Weight).take c) F = X at i1 hpc hpc1
          generalize hY : wsum ((o.Late.zip o.Weight).take c) (fun _ => 1) = Y at i2 hpc hpc1
          generalize hW : wsum (o.Late.zip o.Weight) (fun _ => 1) = W at hb hpc hpc1
          simp only [Int.mul_one] at hpc1
          have aw : 1 ≤ a * w := by
            have : 1 * 1 ≤ a * w := Int.mul_le_mul ha hwb.1 (by omega) (by omega)
            omega
          have m1 : (Y + w) * R ≤ W * R := Int.mul_le_mul_of_nonneg_right hpc1.2.2.2 (by omega)
          have m2 : a * ((Y + w) * R) ≤ a * (W * R) := Int.mul_le_mul_of_nonneg_left m1 (by omega)
          have m3 : a * ((Y + w) * R) = a * (Y * R) + a * w * R := by rw [Int.add_mul, Int.mul_add, Int.mul_assoc]
          have m4 : a * X ≤ a * (Y * R) := Int.mul_le_mul_of_nonneg_left hpc.2.1 (by omega)
          have m5 : 0 ≤ a * X := Int.mul_nonneg (by omega) hpc.1
          have m6 : a * w ≤ a * w * R := by
            have : a * w * 1 ≤ a * w * R := Int.mul_le_mul_of_nonneg_left hR.1 (by omega)
            omega
          have m7 : 0 ≤ a * (Y * R) := by omega
          refine tos_chk (by omega) (by omega) ?_
          have hrec := count1_tos hd hm hl hll hr h1 h4 hts hnd ht4 N (k + 1) (a * w) p1 p2 p3 (mput p4 t s) (upd μ t s) hlt (fun x => by unfold upd; split; exact hsb; exact hμ x) (fun x hx => ?_) aw (by omega) (by omega) (by rw [hRR]; omega) i3.1 i3.2
          · refine tos_bind (P := fun (p : Int × Int × Int × List (Int × Int)) => p.1 = e + a * wsum ((o.Late.zip o.Weight).take (c + 1)) F ∧ p.2.1 = f + a * (wsum ((o.Late.zip o.Weight).take (c + 1)) (fun _ => 1) * R) ∧ (0 ≤ p.2.2.1 ∧ p.2.2.1 ≤ 28800 * p.2.1) ∧ ∀ x, (x ∈ ts.take k ∨ od l x = none) → mgetD p.2.2.2 x 0 = mgetD h x 0) (tos_weak hrec fun q => by omega) fun ⟨q1, q2, q3, q4⟩ hq => tos_some ⟨?_, ?_, hq.2.2.1, fun x hx => ?_⟩
            · have hq1 : q1 = p1 + a * w * hol l (Holds d.Trains m rs) (ts.drop (k + 1)) (upd μ t s) := hq.1
              show q1 = _
              have e5 : a * w * F s = a * (w * F s) := Int.mul_assoc _ _ _
              have e6 : a * (X + w * F s) = a * X + a * (w * F s) := Int.mul_add _ _ _
              rw [hq1, hF, wsum_take hz, hX, i1]
              show e + a * X + a * w * F s = e + a * (X + w * F s)
              omega
            · have hq2 : q2 = p2 + a * w * tot l (ts.drop (k + 1)) := hq.2.1
              show q2 = _
              rw [hq2, hRR, wsum_take hz, hY, i2]
              simp only [Int.mul_one]
              omega
            · have hxt : t ≠ x := fun hh => by
                subst hh
                rcases hx with hx | hx
                · exact hnot hx
                · rw [hod] at hx; cases hx
              show mgetD q4 x 0 = _
              rw [hq.2.2.2 x (by rcases hx with hx | hx; exact .inl (by rw [htake]; exact List.mem_append_left _ hx); exact .inr hx), mgd_put, if_neg hxt]
              exact i4 x hx
          · rw [mgd_put]
            unfold upd
            by_cases hxt : t = x
            · subst hxt
              rw [if_pos rfl, if_pos rfl]
            · rw [if_neg hxt, if_neg (fun hh => hxt hh.symm)]
              have hx' : x ∈ ts.take k ∨ od l x = none := by
                rcases hx with hx | hx
                · rw [htake] at hx
                  rcases List.mem_append.1 hx with hx | hx
                  · exact .inl hx
                  · exact absurd (List.mem_singleton.1 hx).symm hxt
                · exact .inr hx
              have := i4 x hx'
              rw [this]
              exact hag x hx'
        · obtain ⟨j1, j2, j3, j4⟩ := hp
          have hfull : (o.Late.zip o.Weight).take (0 + o.Late.length) = o.Late.zip o.Weight := by rw [Nat.zero_add, ← hzl, List.take_length]
          rw [hfull] at j1 j2
          exact tos_some ⟨j1, j2, j3, j4⟩
    · have hk : k = ts.length := by omega
      have hdrop : ts.drop k = [] := by rw [hk, List.drop_length]
      rw [hdrop] at hb ⊢
      have e1 : tot l [] = 1 := rfl
      rw [e1] at hb ⊢
      have hag2 : ∀ r ∈ rs, mgetD h r.Train 0 = μ r.Train := fun r hr' => hag r.Train (.inl (by rw [hk, List.take_length]; exact hts r hr'))
      refine tos_of (tot_chk (by omega) (by omega) (tot_sum (leaf_tot hd hm hr h4 hμ hag2) (fun _ hH => ?_) fun p hp => tot_some ?_))
      · refine tot_chk (by omega) (by omega) (tot_chk (by omega) (by omega) (tot_idx (by omega) (by omega) fun r hr' => ?_))
        have hrm := List.mem_of_getElem? hr'
        show Tot ((chk (a * mgetD h r.Train 0)).bind _) _
        rw [hag2 r hrm]
        have hmu := hμ r.Train
        generalize μ r.Train = x at hmu
        have q1 : 0 ≤ a * x := Int.mul_nonneg (by omega) hmu.1
        have q2 : a * x ≤ a * 28800 := Int.mul_le_mul_of_nonneg_left hmu.2 (by omega)
        refine tot_chk (by omega) (by omega) (tot_chk (by omega) (by omega) (tot_some ⟨?_, by show f + a = _; omega, ⟨by show 0 ≤ g + a * x; omega, by show g + a * x ≤ 28800 * (f + a); omega⟩, fun _ _ => rfl⟩))
        show e + a = _
        rw [hol, if_pos hH]
        omega
      · obtain ⟨rfl, hH⟩ := hp
        refine ⟨?_, by show f + a = _; omega, ⟨hg0, by show g ≤ 28800 * (f + a); omega⟩, fun _ _ => rfl⟩
        show e = _
        rw [hol, if_neg hH]
        omega
/-- What count returns. -/
theorem count_tot (hd : GDay d) (hm : 0 ≤ m ∧ m ≤ 28800) (hl : ∀ o ∈ l, OddOk o) (hll : l.length ≤ 12) (hr : ∀ r ∈ rs, RideOk d.Trains r) (h1 : 1 ≤ rs.length) (h4 : rs.length ≤ 4) :
    Tot (mGuideNetCount (⟨d, m⟩ : GuideNet) (⟨rs⟩ : GuideJourney) l) (fun p => p.1 = H d.Trains m l rs ∧ p.2.1 = A l rs) := by
  unfold mGuideNetCount
  refine tot_eq (trains_eq h4) ?_
  obtain ⟨t1, t2, t3, t4⟩ := trOf_mem rs
  have hb := (tot_bd hl (trOf rs)).2
  have hA := A_le hl h4
  unfold A at hA
  refine tot_bind (lim_tot (P := fun p => p.1 = H d.Trains m l rs ∧ p.2.1 = A l rs) ((trOf rs).length + 1) fun N => ?_) fun ⟨p1, p2, p3, p4⟩ hp => tot_some hp
  have h := count1_tos (d := d) (m := m) (l := l) (rs := rs) (ts := trOf rs) hd hm hl hll hr h1 h4 t1 t3 (by omega) N 0 1 0 0 0 [] (fun _ => 0) (by omega) (fun _ => by omega) (fun _ _ => rfl) (by omega) (by omega) (by omega) (by rw [List.drop_zero]; omega) (by omega) (by omega)
  rw [List.drop_zero] at h
  rcases h with h | ⟨h, h'⟩
  · refine .inl (tot_imp h fun p hp => ⟨?_, ?_⟩)
    · have := hp.1
      unfold H
      omega
    · have := hp.2.1
      unfold A
      omega
  · exact .inr ⟨by omega, h'⟩
end
end Go.Proofs.YtckgfeglhjiflaaDoor
