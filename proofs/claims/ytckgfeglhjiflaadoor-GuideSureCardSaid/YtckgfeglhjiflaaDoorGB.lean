/- Plain: what Check lets by; rides and their times. -/
import Derived.Test.YtckgfeglhjiflaaDoorGA
set_option linter.unusedVariables false
set_option linter.unusedSimpArgs false
namespace Go.Proofs.YtckgfeglhjiflaaDoor
open Go.RowKit Go.Fp

theorem gwithin_eq (a c d : Int) : mGuideWithin a c d = some (decide (c ≤ a ∧ a ≤ d)) := by
  unfold mGuideWithin
  by_cases h1 : c ≤ a
  · rw [if_pos h1, Option.bind_some]
    simp [h1]
  · rw [if_neg h1, Option.bind_some]
    simp [h1]
theorem mgd_put {κ ν : Type} [DecidableEq κ] (l : List (κ × ν)) (k k' : κ) (v d : ν) : mgetD (mput l k v) k' d = if k = k' then v else mgetD l k' d := by
  unfold mgetD
  by_cases h : k = k'
  · subst h
    rw [if_pos rfl, mget_mput_same]
    rfl
  · rw [if_neg h, mget_mput_other l v (fun e => h e.symm)]
def StopIn (s : ApiStop) : Prop := (0 ≤ s.Station ∧ s.Station ≤ 11) ∧ (0 ≤ s.Arr ∧ s.Arr ≤ 28800) ∧ (0 ≤ s.Dep ∧ s.Dep ≤ 28800) ∧ s.Arr ≤ s.Dep
def GStops (l : List ApiStop) : Prop := 2 ≤ l.length ∧ l.length ≤ 8 ∧ ∀ i s, l[i]? = some s → StopIn s ∧ ∀ p, l[i - 1]? = some p → 0 < i → p.Dep < s.Arr
def GTrain (t : ApiTrain) : Prop := (1 ≤ t.No ∧ t.No ≤ 9999) ∧ GStops t.Stops
def GDay (d : ApiDay) : Prop := d.Trains.length ≤ 12 ∧ (∀ t ∈ d.Trains, GTrain t) ∧ ∀ (i j : Nat) (s t : ApiTrain), d.Trains[i]? = some s → d.Trains[j]? = some t → s.No = t.No → i = j
theorem check_tot {d : ApiDay} (hw : WDay d) : Tot (mGuideCheck d) (fun c => c = 0 → GDay d) := by
  unfold mGuideCheck
  refine tot_bind (text_tot hw) fun ⟨b, c⟩ hc => ?_
  have hc1 : c = 0 → FDay d := hc.1
  show Tot (if c ≠ 0 then _ else _) _
  refine tot_ite (fun h => tot_some fun h0 => absurd h0 h) fun h => ?_
  have hf := hc1 (Decidable.of_not_not h)
  refine tot_sum (I := fun _ => GDay d) (R := fun c => c ≠ 0) ?_ (fun _ h1 => tot_some fun _ => h1) fun c hc => tot_some fun h => absurd h hc
  refine tot_imp (tot_forM (fun k m => (∀ i t, i < k → d.Trains[i]? = some t → GTrain t ∧ mgetD m t.No false = true) ∧ ∀ i j s t, i < k → j < k → d.Trains[i]? = some s → d.Trains[j]? = some t → s.No = t.No → i = j) (fun c => c ≠ 0) ⟨fun i t hi => absurd hi (by omega), fun i j s t hi => absurd hi (by omega)⟩ fun j m _ hj ⟨hi, hd⟩ => ?_) fun o ho => ?_
  · unfold mGuideCheck_L703
    refine tot_idn (by omega) fun t ht => ?_
    have htm := List.mem_of_getElem? ht
    have ft := hf.2.2.1 t htm
    rw [gwithin_eq, Option.bind_some]
    refine tot_ite (fun hno => ?_) fun _ => tot_some (show (2 : Int) ≠ 0 by decide)
    have hno := of_decide_eq_true hno
    rw [Option.bind_some]
    refine tot_ite (fun _ => tot_some (show (6 : Int) ≠ 0 by decide)) fun hseen => tot_ite (fun _ => tot_some (show (1 : Int) ≠ 0 by decide)) fun h2 => ?_
    refine tot_sum (I := fun _ => GStops t.Stops) (R := fun o : List (Int × Bool) ⊕ Int => Sum.elim (fun _ => False) (fun c => c ≠ 0) o) ?_ (fun _ h1 => tot_some ⟨fun i s hi' hs => ?_, fun i i' s s' hi1 hi2 hs hs' he => ?_⟩) fun c hc => ⟨_, rfl, by cases c with | inl _ => exact hc.elim | inr c => exact hc⟩
    · refine tot_imp (tot_forM (fun k _ => ∀ i s, i < k → t.Stops[i]? = some s → StopIn s ∧ ∀ p, t.Stops[i - 1]? = some p → 0 < i → p.Dep < s.Arr) (fun o : List (Int × Bool) ⊕ Int => Sum.elim (fun _ => False) (fun c => c ≠ 0) o) (fun i g hi => absurd hi (by omega)) fun i _ _ hi' hi => ?_) fun o ho => ?_
      · unfold mGuideCheck_L1189
        refine tot_idn (by omega) fun s hs => ?_
        refine tot_bind (R := fun q => q = decide (¬ ((0 ≤ s.Station ∧ s.Station ≤ 11) ∧ (0 ≤ s.Arr ∧ s.Arr ≤ 28800) ∧ (0 ≤ s.Dep ∧ s.Dep ≤ 28800)))) ?_ fun q hq => ?_
        · rw [gwithin_eq, Option.bind_some]
          refine tot_ite (fun h1 => ?_) fun h1 => tot_some ?_
          · rw [gwithin_eq, Option.bind_some]
            refine tot_ite (fun h2 => ?_) fun h2 => tot_some ?_
            · rw [gwithin_eq, Option.bind_some]
              refine tot_some ?_
              have h1 := of_decide_eq_true h1
              have h2 := of_decide_eq_true h2
              by_cases h3 : 0 ≤ s.Dep ∧ s.Dep ≤ 28800 <;> simp [h1, h2, h3]
            · have h2 := of_decide_eq_false (bt h2)
              simp [h2]
          · have h1 := of_decide_eq_false (bt h1)
            simp [h1]
        · refine tot_ite (fun _ => tot_some (by show (2 : Int) ≠ 0; decide)) fun hqf => ?_
          have hin := Decidable.of_not_not (of_decide_eq_false (hq ▸ bt hqf))
          refine tot_bind (R := fun q => q = false → s.Arr ≤ s.Dep ∧ ∀ p, t.Stops[i - 1]? = some p → 0 < i → p.Dep < s.Arr) ?_ fun q hq2 => ?_
          · have f8 := ft.2.1
            refine tot_ite (fun h1 => tot_some fun h => by cases h) fun h1 => tot_ite (fun h2 => tot_chk (by omega) (by omega) (tot_idx (by omega) (by have := ft.2.1; omega) fun p hp => tot_some fun h => ?_)) fun h2 => tot_some fun _ => ⟨by omega, fun p _ h3 => absurd h3 (by omega)⟩
            have h := of_decide_eq_false h
            have he : ((i : Int) - 1).toNat = i - 1 := by omega
            rw [he] at hp
            exact ⟨by omega, fun p' hp' _ => by rw [hp] at hp'; injection hp' with hp'; subst hp'; omega⟩
          · refine tot_ite (fun _ => tot_some (by show (5 : Int) ≠ 0; decide)) fun hqf2 => ?_
            have := hq2 (bt hqf2)
            exact tot_some (show ∀ (i' : Nat) (s' : ApiStop), i' < i + 1 → t.Stops[i']? = some s' → StopIn s' ∧ ∀ p, t.Stops[i' - 1]? = some p → 0 < i' → p.Dep < s'.Arr from fun i' s' hi2 hs' => by
              rcases Nat.lt_or_ge i' i with h5 | h5
              · exact hi i' s' h5 hs'
              · have : i' = i := by omega
                subst this
                rw [hs] at hs'
                injection hs' with hs'
                subst hs'
                exact ⟨⟨hin.1, hin.2.1, hin.2.2, this.1⟩, this.2⟩)
      · cases o with
        | inl _ =>
          have ho : ∀ i s, i < 0 + t.Stops.length → t.Stops[i]? = some s → _ := ho
          refine ⟨by omega, ft.2.1, fun i s hs => ho i s (by have := List.getElem?_eq_some_iff.1 hs; obtain ⟨h, _⟩ := this; omega) hs⟩
        | inr _ => exact ho
    · rcases Nat.lt_or_ge i j with h5 | h5
      · obtain ⟨h6, h7⟩ := hi i s h5 hs
        refine ⟨h6, ?_⟩
        rw [mgd_put]
        split
        · rfl
        · exact h7
      · have : i = j := by omega
        subst this
        rw [ht] at hs
        injection hs with hs
        subst hs
        exact ⟨⟨hno, h1⟩, by rw [mgd_put, if_pos rfl]⟩
    · have new : ∀ i s, i < j → d.Trains[i]? = some s → s.No ≠ t.No := fun i s h5 hs he => by
        have := (hi i s h5 hs).2
        rw [he] at this
        exact hseen this
      rcases Nat.lt_or_ge i j with h5 | h5 <;> rcases Nat.lt_or_ge i' j with h6 | h6
      · exact hd i i' s s' h5 h6 hs hs' he
      · have : i' = j := by omega
        subst this
        rw [ht] at hs'
        injection hs' with hs'
        subst hs'
        exact absurd he (new i s h5 hs)
      · have : i = j := by omega
        subst this
        rw [ht] at hs
        injection hs with hs
        subst hs
        exact absurd he.symm (new i' s' h6 hs')
      · omega
  · cases o with
    | inl m =>
      obtain ⟨h1, h2⟩ := ho
      have hlt : ∀ {i : Nat} {t : ApiTrain}, d.Trains[i]? = some t → i < 0 + d.Trains.length := fun h => by obtain ⟨h, _⟩ := List.getElem?_eq_some_iff.1 h; omega
      exact ⟨hf.1, fun t ht => by obtain ⟨i, h3, h4⟩ := List.mem_iff_getElem.1 ht; exact (h1 i t (by omega) (by rw [List.getElem?_eq_getElem h3, h4])).1, fun i j s t hs ht he => h2 i j s t (hlt hs) (hlt ht) hs ht he⟩
    | inr _ => exact ho
theorem least_tot {d : ApiDay} (hw : WDay d) (m : Int) : Tot (mGuideCheckLeast d m) (fun c => c = 0 → GDay d ∧ 0 ≤ m ∧ m ≤ 28800) := by
  unfold mGuideCheckLeast
  refine tot_bind (check_tot hw) fun c hc => tot_ite (fun h => tot_some fun h0 => absurd h0 h) fun h => ?_
  rw [gwithin_eq, Option.bind_some]
  exact tot_ite (fun h2 => tot_some fun _ => ⟨hc (Decidable.of_not_not h), of_decide_eq_true h2⟩) fun _ => tot_some fun h => absurd h (by decide)

/- ---- rides ---- -/
def tr (T : List ApiTrain) (t : Int) : ApiTrain := T.getD t.toNat ⟨0, 0, [], []⟩
def stp (T : List ApiTrain) (t k : Int) : ApiStop := (tr T t).Stops.getD k.toNat ⟨0, 0, 0, 0⟩
def on (T : List ApiTrain) (r : GuideRide) : ApiStop := stp T r.Train r.On
def off (T : List ApiTrain) (r : GuideRide) : ApiStop := stp T r.Train r.Off
def RideOk (T : List ApiTrain) (r : GuideRide) : Prop := (0 ≤ r.Train ∧ r.Train < (T.length : Int)) ∧ 0 ≤ r.On ∧ r.On < r.Off ∧ r.Off < ((tr T r.Train).Stops.length : Int)
theorem tr_idx {T : List ApiTrain} {t : Int} (h0 : 0 ≤ t) (h1 : t < (T.length : Int)) : idx T t = some (tr T t) := by
  obtain ⟨x, h2, h3⟩ := idx_get h0 h1
  rw [h2, tr, List.getD_eq_getElem?_getD, h3]
  rfl
theorem stp_idx {T : List ApiTrain} {t k : Int} (h0 : 0 ≤ k) (h1 : k < ((tr T t).Stops.length : Int)) : idx (tr T t).Stops k = some (stp T t k) := by
  obtain ⟨x, h2, h3⟩ := idx_get h0 h1
  rw [h2, stp, List.getD_eq_getElem?_getD, h3]
  rfl
theorem on_eq {n : GuideNet} {r : GuideRide} (h : RideOk n.Day.Trains r) : mGuideNetOn n r = some ((on n.Day.Trains r).Station, (on n.Day.Trains r).Track, (on n.Day.Trains r).Arr, (on n.Day.Trains r).Dep) := by
  obtain ⟨⟨a, b⟩, c, d, e⟩ := h
  unfold mGuideNetOn
  rw [tr_idx a b, Option.bind_some, stp_idx c (by omega)]
  rfl
theorem off_eq {n : GuideNet} {r : GuideRide} (h : RideOk n.Day.Trains r) : mGuideNetOff n r = some ((off n.Day.Trains r).Station, (off n.Day.Trains r).Track, (off n.Day.Trains r).Arr, (off n.Day.Trains r).Dep) := by
  obtain ⟨⟨a, b⟩, c, d, e⟩ := h
  unfold mGuideNetOff
  rw [tr_idx a b, Option.bind_some, stp_idx (by omega) e]
  rfl
theorem tr_mem {T : List ApiTrain} {t : Int} (h0 : 0 ≤ t) (h1 : t < (T.length : Int)) : tr T t ∈ T := by
  obtain ⟨x, h2, h3⟩ := idx_get h0 h1
  rw [tr, List.getD_eq_getElem?_getD, h3]
  exact List.mem_of_getElem? h3
theorem stp_at {T : List ApiTrain} {t k : Int} (h0 : 0 ≤ k) (h1 : k < ((tr T t).Stops.length : Int)) : (tr T t).Stops[k.toNat]? = some (stp T t k) := by
  obtain ⟨x, h2, h3⟩ := idx_get h0 h1
  rw [stp, List.getD_eq_getElem?_getD, h3]
  rfl
theorem rising {l : List ApiStop} (h : GStops l) : ∀ (d i : Nat) (s q : ApiStop), l[i]? = some s → l[i + 1 + d]? = some q → s.Dep < q.Arr
  | 0, i, s, q, hs, hq => (h.2.2 _ q hq).2 s (by simpa using hs) (by omega)
  | d + 1, i, s, q, hs, hq => by
    have hlt : i + 1 + d < l.length := by obtain ⟨h, _⟩ := List.getElem?_eq_some_iff.1 hq; omega
    have hm := List.getElem?_eq_getElem hlt
    have h1 := rising h d i s _ hs hm
    have h2 := (h.2.2 _ q hq).2 _ (by rw [show i + 1 + (d + 1) - 1 = i + 1 + d by omega]; exact hm) (by omega)
    have h3 := (h.2.2 _ _ hm).1.2.2.2
    omega
structure RideIn (T : List ApiTrain) (r : GuideRide) : Prop where
  on_ : StopIn (on T r)
  off_ : StopIn (off T r)
  run : (on T r).Dep < (off T r).Arr
theorem ride_in {d : ApiDay} (hd : GDay d) {r : GuideRide} (h : RideOk d.Trains r) : RideIn d.Trains r := by
  obtain ⟨⟨a, b⟩, c, e, f⟩ := h
  have g := (hd.2.1 _ (tr_mem a b)).2
  have h1 := stp_at (T := d.Trains) (t := r.Train) c (by omega)
  have h2 := stp_at (T := d.Trains) (t := r.Train) (k := r.Off) (by omega) f
  refine ⟨(g.2.2 _ _ h1).1, (g.2.2 _ _ h2).1, ?_⟩
  have h3 : r.Off.toNat = r.On.toNat + 1 + (r.Off.toNat - r.On.toNat - 1) := by omega
  rw [h3] at h2
  exact rising g _ _ _ _ h1 h2
theorem mem_offs {t on n off : Nat} {r : GuideRide} : r ∈ offsG t on n off ↔ r.Train = (t : Int) ∧ r.On = (on : Int) ∧ (off : Int) ≤ r.Off ∧ r.Off < (n : Int) := by
  unfold offsG
  rw [List.mem_map]
  constructor
  · rintro ⟨k, h, rfl⟩
    rw [List.mem_range'_1] at h
    exact ⟨rfl, rfl, by show (off : Int) ≤ (k : Int); omega, by show (k : Int) < (n : Int); omega⟩
  · rintro ⟨h1, h2, h3, h4⟩
    refine ⟨r.Off.toNat, by rw [List.mem_range'_1]; omega, ?_⟩
    cases r
    simp only at h1 h2 h3 h4
    subst h1; subst h2
    simp only [GuideRide.mk.injEq, true_and]
    omega
theorem mem_ridesS {t n : Nat} {sta at_ : Int} {r : GuideRide} : ∀ {l : List ApiStop} {k : Nat}, r ∈ ridesS t n sta at_ l k ↔ r.Train = (t : Int) ∧ ∃ i s, l[i]? = some s ∧ r.On = ((k + i : Nat) : Int) ∧ s.Station = sta ∧ at_ ≤ s.Dep ∧ r.On < r.Off ∧ r.Off < (n : Int)
  | [], k => by simp [ridesS]
  | s :: l, k => by
    unfold ridesS
    rw [List.mem_append, mem_ridesS (l := l) (k := k + 1)]
    constructor
    · rintro (h | ⟨h1, i, q, h2, h3, h4⟩)
      · by_cases hc : s.Station ≠ sta ∨ s.Dep < at_
        · rw [if_pos hc] at h; cases h
        · rw [if_neg hc, mem_offs] at h
          exact ⟨h.1, 0, s, rfl, h.2.1, by omega, by omega, by omega, h.2.2.2⟩
      · exact ⟨h1, i + 1, q, by simpa using h2, by omega, h4⟩
    · rintro ⟨h1, i, q, h2, h3, h4, h5, h6, h7⟩
      cases i with
      | zero =>
        simp at h2
        subst h2
        refine .inl ?_
        rw [if_neg (by omega), mem_offs]
        exact ⟨h1, h3, by omega, h7⟩
      | succ i => exact .inr ⟨h1, i, q, by simpa using h2, by omega, h4, h5, h6, h7⟩
theorem mem_ridesL {sta at_ nt : Int} {r : GuideRide} : ∀ {l : List ApiTrain} {k : Nat}, r ∈ ridesL sta at_ nt l k ↔ ∃ i x, l[i]? = some x ∧ r.Train = ((k + i : Nat) : Int) ∧ r.Train ≠ nt ∧ ∃ j s, x.Stops[j]? = some s ∧ r.On = ((j : Nat) : Int) ∧ s.Station = sta ∧ at_ ≤ s.Dep ∧ r.On < r.Off ∧ r.Off < (x.Stops.length : Int)
  | [], k => by simp [ridesL]
  | x :: l, k => by
    unfold ridesL
    rw [List.mem_append, mem_ridesL (l := l) (k := k + 1)]
    constructor
    · rintro (h | ⟨i, q, h2, h3, h4⟩)
      · by_cases hc : (k : Int) = nt
        · rw [if_pos hc] at h; cases h
        · rw [if_neg hc, mem_ridesS] at h
          obtain ⟨h1, j, s, h2, h3, h4⟩ := h
          exact ⟨0, x, rfl, h1, by rw [h1]; exact hc, j, s, h2, by omega, h4⟩
      · exact ⟨i + 1, q, by simpa using h2, by omega, h4⟩
    · rintro ⟨i, q, h2, h3, h4, j, s, h5, h6, h7⟩
      cases i with
      | zero =>
        simp at h2
        subst h2
        refine .inl ?_
        rw [if_neg (by omega), mem_ridesS]
        exact ⟨h3, j, s, h5, by omega, h7⟩
      | succ i => exact .inr ⟨i, q, by simpa using h2, by omega, h4, j, s, h5, h6, h7⟩
/-- All rides from a station on. -/
theorem mem_rides {sta at_ nt : Int} {r : GuideRide} {T : List ApiTrain} : r ∈ ridesL sta at_ nt T 0 ↔ RideOk T r ∧ (on T r).Station = sta ∧ at_ ≤ (on T r).Dep ∧ r.Train ≠ nt := by
  rw [mem_ridesL]
  constructor
  · rintro ⟨i, x, h1, h2, h3, j, s, h4, h5, h6, h7, h8, h9⟩
    have hi : i < T.length := by obtain ⟨h, _⟩ := List.getElem?_eq_some_iff.1 h1; exact h
    have ht : tr T r.Train = x := by rw [tr, List.getD_eq_getElem?_getD, show r.Train.toNat = i by omega, h1]; rfl
    have hs : on T r = s := by rw [on, stp, ht, List.getD_eq_getElem?_getD, show r.On.toNat = j by omega, h4]; rfl
    exact ⟨⟨⟨by omega, by omega⟩, by omega, h8, by rw [ht]; exact h9⟩, by rw [hs]; exact h6, by rw [hs]; exact h7, h3⟩
  · rintro ⟨⟨⟨h1, h2⟩, h3, h4, h5⟩, h6, h7, h8⟩
    obtain ⟨x, _, hx⟩ := idx_get h1 h2
    have ht : tr T r.Train = x := by rw [tr, List.getD_eq_getElem?_getD, hx]; rfl
    have hs := stp_at (T := T) (t := r.Train) h3 (by omega)
    rw [ht] at hs h5
    exact ⟨r.Train.toNat, x, hx, by omega, h8, r.On.toNat, _, hs, by omega, h6, h7, h4, h5⟩
end Go.Proofs.YtckgfeglhjiflaaDoor
