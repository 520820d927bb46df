/- Plain: what the document's checks of a day let by; a day that may be is let by. Plain: the earliest journey, the profile; the program of this package is awake. Plain: a day that runs backwards. -/
import Derived.Test.YtckgfeglhjiflaaDoorGZ1
import Derived.Test.YtckgfeglhjiflaaDoorGZ2
set_option linter.unusedVariables false
set_option linter.unusedSimpArgs false
namespace Go.Proofs.YtckgfeglhjiflaaDoor
open Go.RowKit Go.Fp
/- ==== GO ==== -/
/-- What the numbers of a train are. -/
def NT (t : ApiTrain) (L : List (List Int)) : Prop := [t.No, t.Stock] ∈ L ∧ (∀ s ∈ t.Stops, [s.Station, s.Track, s.Arr, s.Dep] ∈ L) ∧ ∀ g ∈ t.Legs, g ∈ L
theorem NT.app {t : ApiTrain} {L K : List (List Int)} (h : NT t L) : NT t (L ++ K) := ⟨List.mem_append_left _ h.1, fun s hs => List.mem_append_left _ (h.2.1 s hs), fun g hg => List.mem_append_left _ (h.2.2 g hg)⟩
theorem numbers_tot {d : ApiDay} (hf : FDay d) : Tot (mFishref2NumbersIn d) (fun L => (∀ g ∈ L, g.length ≤ 1000) ∧ (∀ t ∈ d.Trains, NT t L) ∧ ∀ g ∈ d.Turns, g ∈ L) := by
  unfold mFishref2NumbersIn
  have hf1 := hf.1
  have hf2 := hf.2.1
  refine tot_bind (tot_forS (fun k L => (∀ i t, i < k → d.Trains[i]? = some t → NT t L) ∧ L.length ≤ 20 * k ∧ ∀ g ∈ L, g.length ≤ 1000) ⟨fun i t hi => absurd hi (by omega), by simp, fun g hg => by cases hg⟩ fun j L _ hj hi => ?_) fun L hL => ?_
  · obtain ⟨hi, hl, hg⟩ := hi
    unfold mFishref2NumbersIn_L443
    refine tot_idn (by omega) fun t ht => ?_
    have ft := hf.2.2.1 t (List.mem_of_getElem? ht)
    have ft2 := ft.2.1
    have ft3 := ft.2.2.1
    refine tot_room (by omega) (by omega) ?_
    refine tot_bind (tot_forS (fun k K => (∃ X, K = L ++ [[t.No, t.Stock]] ++ X) ∧ (∀ i s, i < k → t.Stops[i]? = some s → [s.Station, s.Track, s.Arr, s.Dep] ∈ K) ∧ K.length ≤ L.length + 1 + k ∧ ∀ g ∈ K, g.length ≤ 1000) ⟨⟨[], by simp⟩, fun i t hi => absurd hi (by omega), by simp, fun g h => ?_⟩ fun i K _ hi2 hK => ?_) fun K hK => ?_
    · rcases List.mem_append.1 h with h | h
      · exact hg g h
      · rw [List.mem_singleton.1 h]; simp
    · obtain ⟨⟨X, hX⟩, hK, hkl, hkg⟩ := hK
      unfold mFishref2NumbersIn_L760
      refine tot_idn (by omega) fun s hs => tot_room (by omega) (by omega) (tot_some ⟨⟨X ++ [[s.Station, s.Track, s.Arr, s.Dep]], by rw [hX]; simp⟩, upto_succ hs (fun i q hi hq => List.mem_append_left _ (hK i q hi hq)) (List.mem_append_right _ (List.mem_singleton.2 rfl)), by simp; omega, fun g h => ?_⟩)
      rcases List.mem_append.1 h with h | h
      · exact hkg g h
      · rw [List.mem_singleton.1 h]; simp
    · obtain ⟨⟨X, hX⟩, hK, hkl, hkg⟩ := hK
      have hK := mem_upto hK
      refine tot_room (by omega) (by omega) (tot_some ⟨fun i u hi' hu => ?_, by simp; omega, fun g h => ?_⟩)
      · rcases Nat.lt_or_ge i j with h1 | h1
        · rw [hX]
          exact (hi i u h1 hu).app.app.app
        · have : i = j := by omega
          subst this
          rw [ht] at hu
          injection hu with hu
          subst hu
          refine ⟨List.mem_append_left _ ?_, fun s hs => List.mem_append_left _ (hK s hs), fun g hg => List.mem_append_right _ hg⟩
          rw [hX]
          simp
      · rcases List.mem_append.1 h with h | h
        · exact hkg g h
        · have := ft.2.2.2 g h
          omega
  · obtain ⟨hL, hl, hg⟩ := hL
    have hL := mem_upto hL
    refine tot_room (by omega) (by omega) (tot_some ⟨fun g h => ?_, fun t ht => (hL t ht).app, fun g hg => List.mem_append_right _ hg⟩)
    rcases List.mem_append.1 h with h | h
    · exact hg g h
    · have := hf.2.2.2 g h
      omega
theorem tfault_tot {d : ApiDay} (hw : WDay d) : Tot (mFishref2TextFault d) (fun c => c = 0 → FDay d ∧ NDay d) := by
  unfold mFishref2TextFault
  refine tot_bind (P := fun c => c = 0 → FDay d ∧ NDay d) (R := fun q => q = decide (12 < d.Trains.length ∨ 8 < d.Turns.length)) (tot_ite (fun h => tot_some (by simp; omega)) fun h => tot_some (by by_cases h2 : 8 < d.Turns.length <;> simp [h2] <;> omega)) fun q hq => ?_
  refine tot_ite (fun h => tot_some ?_) fun h => ?_
  · rw [hq] at h
    have h := of_decide_eq_true h
    exact fun h => absurd h (by decide)
  · have h := of_decide_eq_false (hq ▸ bt h)
    refine tot_sum (I := fun _ => ∀ t ∈ d.Trains, FTrain t) (R := fun c => c ≠ 0 ∧ ¬ FDay d) ?_ (fun _ h1 => ?_) fun c hc => tot_some fun h => absurd h hc.1
    · refine tot_imp (tot_forM (fun k _ => ∀ i t, i < k → d.Trains[i]? = some t → FTrain t) (fun c => c ≠ 0 ∧ ¬ FDay d) (fun i t hi => absurd hi (by omega)) fun j _ _ hj hi => ?_) fun o ho => ?_
      · unfold mFishref2TextFault_L410
        refine tot_idn (by omega) fun t ht => ?_
        have htm := List.mem_of_getElem? ht
        have ok := (hw.1.2 t htm).2.2
        have oks := ok.1.1
        have okl := ok.2.1
        refine tot_bind (R := fun q => q = decide (¬ (1 ≤ t.Stops.length ∧ t.Legs.length + 1 = t.Stops.length))) (tot_ite (fun h => tot_some (by simp; omega)) fun h => tot_chk (by omega) (by omega) (tot_some (by simp only [decide_eq_decide]; omega))) fun q hq => ?_
        refine tot_ite (fun h => tot_some ⟨by decide, fun hf => ?_⟩) fun h => ?_
        · have h := of_decide_eq_true (hq ▸ h)
          have := hf.2.2.1 t htm
          exact h ⟨this.1, this.2.2.1⟩
        · have h := of_decide_eq_false (hq ▸ bt h)
          refine tot_sum (I := fun _ => ∀ g ∈ t.Legs, 1 ≤ g.length) (R := fun o : Unit ⊕ Int => Sum.elim (fun _ => False) (fun c => c ≠ 0 ∧ ¬ FDay d) o) ?_ (fun _ h1 => ?_) fun c hc => ⟨_, rfl, by cases c with | inl _ => exact hc.elim | inr c => exact hc⟩
          · refine tot_imp (tot_forM (fun k _ => ∀ i g, i < k → t.Legs[i]? = some g → 1 ≤ g.length) (fun o : Unit ⊕ Int => Sum.elim (fun _ => False) (fun c => c ≠ 0 ∧ ¬ FDay d) o) (fun i g hi => absurd hi (by omega)) fun j _ _ hj hi => ?_) fun o ho => ?_
            · unfold mFishref2TextFault_L546
              refine tot_idn (by omega) fun g hg => tot_ite (fun h => tot_some ⟨by decide, fun hf => ?_⟩) fun h => tot_some (upto_succ hg hi (by omega))
              have := (hf.2.2.1 t htm).2.2.2 g (List.mem_of_getElem? hg)
              omega
            · cases o with
              | inl _ => exact mem_upto ho
              | inr _ => exact ho
          · refine tot_ite (fun h8 => tot_some ⟨by decide, fun hf => ?_⟩) fun h8 => ?_
            · have := (hf.2.2.1 t htm).2.1
              omega
            · refine tot_sum (I := fun _ => ∀ g ∈ t.Legs, g.length ≤ 4) (R := fun o : Unit ⊕ Int => Sum.elim (fun _ => False) (fun c => c ≠ 0 ∧ ¬ FDay d) o) ?_ (fun _ h2 => ?_) fun c hc => ⟨_, rfl, by cases c with | inl _ => exact hc.elim | inr c => exact hc⟩
              · refine tot_imp (tot_forM (fun k _ => ∀ i g, i < k → t.Legs[i]? = some g → g.length ≤ 4) (fun o : Unit ⊕ Int => Sum.elim (fun _ => False) (fun c => c ≠ 0 ∧ ¬ FDay d) o) (fun i g hi => absurd hi (by omega)) fun j _ _ hj hi => ?_) fun o ho => ?_
                · unfold mFishref2TextFault_L587
                  refine tot_idn (by omega) fun g hg => tot_ite (fun h => tot_some ⟨by decide, fun hf => ?_⟩) fun h => tot_some (upto_succ hg hi (by omega))
                  have := (hf.2.2.1 t htm).2.2.2 g (List.mem_of_getElem? hg)
                  omega
                · cases o with
                  | inl _ => exact mem_upto ho
                  | inr _ => exact ho
              · refine tot_some (upto_succ ht hi ⟨by omega, by omega, by omega, fun g hg => ⟨h1 g hg, h2 g hg⟩⟩)
      · cases o with
        | inl _ => exact mem_upto ho
        | inr _ => exact ho
    · refine tot_sum (I := fun _ => ∀ g ∈ d.Turns, 1 ≤ g.length ∧ g.length ≤ 12) (R := fun c => c ≠ 0 ∧ ¬ FDay d) ?_ (fun _ h2 => ?_) fun c hc => tot_some fun h => absurd h hc.1
      · refine tot_imp (tot_forM (fun k _ => ∀ i g, i < k → d.Turns[i]? = some g → 1 ≤ g.length ∧ g.length ≤ 12) (fun c => c ≠ 0 ∧ ¬ FDay d) (fun i t hi => absurd hi (by omega)) fun j _ _ hj hi => ?_) fun o ho => ?_
        · unfold mFishref2TextFault_L627
          refine tot_idn (by omega) fun g hg => tot_ite (fun h => tot_some ⟨by decide, fun hf => ?_⟩) fun h => tot_ite (fun h => tot_some ⟨by decide, fun hf => ?_⟩) fun h2 => tot_some (upto_succ hg hi (by omega))
          · have := hf.2.2.2 g (List.mem_of_getElem? hg)
            omega
          · have := hf.2.2.2 g (List.mem_of_getElem? hg)
            omega
        · cases o with
          | inl _ => exact mem_upto ho
          | inr _ => exact ho
      · have hf : FDay d := ⟨by omega, by omega, h1, h2⟩
        refine tot_bind (numbers_tot hf) fun L hL => ?_
        refine tot_sum (I := fun _ => ∀ g ∈ L, ∀ n ∈ g, 0 ≤ n ∧ n ≤ 999999) (R := fun c => c ≠ 0) ?_ (fun _ h3 => tot_some fun _ => ⟨hf, fun t ht => ?_, fun g hg => h3 g (hL.2.2 g hg)⟩) fun c hc => tot_some fun h => absurd h hc
        · refine tot_imp (tot_forM (fun k _ => ∀ i g, i < k → L[i]? = some g → ∀ n ∈ g, 0 ≤ n ∧ n ≤ 999999) (fun c => c ≠ 0) (fun i g hi => absurd hi (by omega)) fun j _ _ hj hi => ?_) fun o ho => ?_
          · unfold mFishref2TextFault_L676
            refine tot_idn (by omega) fun g hg => ?_
            refine tot_sum (I := fun _ => ∀ n ∈ g, 0 ≤ n ∧ n ≤ 999999) (R := fun o : Unit ⊕ Int => Sum.elim (fun _ => False) (fun c => c ≠ 0) o) ?_ (fun _ h4 => tot_some (upto_succ hg hi h4)) fun c hc => ⟨_, rfl, by cases c with | inl _ => exact hc.elim | inr c => exact hc⟩
            have hgl := hL.1 g (List.mem_of_getElem? hg)
            refine tot_imp (tot_forM (fun k _ => ∀ i n, i < k → g[i]? = some n → 0 ≤ n ∧ n ≤ 999999) (fun o : Unit ⊕ Int => Sum.elim (fun _ => False) (fun c => c ≠ 0) o) (fun i g hi => absurd hi (by omega)) fun j _ _ hj hi => ?_) fun o ho => ?_
            · unfold mFishref2TextFault_L757
              refine tot_idn (by omega) fun n hn => ?_
              rw [fwithin_eq, Option.bind_some]
              exact tot_ite (fun h => tot_some (upto_succ hn hi (of_decide_eq_true h))) fun h => tot_some (by show (2 : Int) ≠ 0; decide)
            · cases o with
              | inl _ => exact mem_upto ho
              | inr _ => exact ho
          · cases o with
            | inl _ => exact mem_upto ho
            | inr _ => exact ho
        · have h4 := hL.2.1 t ht
          exact ⟨h3 _ h4.1, fun s hs => h3 _ (h4.2.1 s hs), fun g hg => h3 g (h4.2.2 g hg)⟩
theorem gfault_tot {d : ApiDay} (hw : WDay d) : Tot (mFishref2GuideFault d) (fun c => c = 0 → FDay d ∧ NDay d ∧ GDay d) := by
  unfold mFishref2GuideFault
  refine tot_bind (tfault_tot hw) fun c hc => tot_ite (fun h => tot_some fun h0 => absurd h0 h) fun h => ?_
  obtain ⟨hf, hn⟩ := hc (Decidable.of_not_not h)
  have hf1 := hf.1
  refine tot_sum (I := fun _ => (∀ t ∈ d.Trains, GTrain t) ∧ ∀ (i j : Nat) (s t : ApiTrain), i < j → d.Trains[i]? = some s → d.Trains[j]? = some t → s.No ≠ t.No) (R := fun c => c ≠ 0) ?_ (fun _ h1 => tot_some fun _ => ⟨hf, hn, hf.1, h1.1, fun i j s t hs ht e => ?_⟩) fun c hc => tot_some fun h => absurd h hc
  · refine tot_imp (tot_forM (fun k _ => (∀ i t, i < k → d.Trains[i]? = some t → GTrain t) ∧ ∀ i j s t, j < k → i < j → d.Trains[i]? = some s → d.Trains[j]? = some t → s.No ≠ t.No) (fun c => c ≠ 0) ⟨fun i t hi => absurd hi (by omega), fun i j s t hi => absurd hi (by omega)⟩ fun j m _ hj ⟨hi, hd⟩ => ?_) fun o ho => ?_
    · unfold mFishref2GuideFault_L570
      refine tot_idn (by omega) fun t ht => ?_
      have htm := List.mem_of_getElem? ht
      have ft := hf.2.2.1 t htm
      have ft8 := ft.2.1
      rw [fwithin_eq, Option.bind_some]
      refine tot_ite (fun hno => ?_) fun _ => tot_some (show (2 : Int) ≠ 0 by decide)
      have hno := of_decide_eq_true hno
      have h0 := cutS_ok (l := d.Trains) (a := 0) (b := j) (by omega) (by omega)
      rw [show ((0 : Nat) : Int) = 0 from rfl, List.drop_zero] at h0
      refine tot_eq h0 ?_
      have htl : (d.Trains.take j).length = j := by rw [List.length_take]; omega
      refine tot_sum (I := fun _ => ∀ s ∈ d.Trains.take j, s.No ≠ t.No) (R := fun o : Unit ⊕ Int => Sum.elim (fun _ => False) (fun c => c ≠ 0) o) ?_ (fun _ hnew => ?_) fun c hc => ⟨_, rfl, by cases c with | inl _ => exact hc.elim | inr c => exact hc⟩
      · refine tot_imp (tot_forM (fun k _ => ∀ i s, i < k → (d.Trains.take j)[i]? = some s → s.No ≠ t.No) (fun o : Unit ⊕ Int => Sum.elim (fun _ => False) (fun c => c ≠ 0) o) (fun i g hi => absurd hi (by omega)) fun i _ _ hi' hi => ?_) fun o ho => ?_
        · unfold mFishref2GuideFault_L882
          refine tot_idn (by omega) fun s hs => tot_ite (fun _ => tot_some (by show (6 : Int) ≠ 0; decide)) fun hne => tot_some (upto_succ hs hi hne)
        · cases o with
          | inl _ => exact mem_upto ho
          | inr _ => exact ho
      · refine tot_ite (fun _ => tot_some (show (1 : Int) ≠ 0 by decide)) fun h2 => ?_
        refine tot_sum (I := fun _ => GStops t.Stops) (R := fun o : Unit ⊕ Int => Sum.elim (fun _ => False) (fun c => c ≠ 0) o) ?_ (fun _ h1 => tot_some ⟨upto_succ ht hi ⟨hno, h1⟩, fun i i' s s' h5 h6 hs hs' => ?_⟩) fun c hc => ⟨_, rfl, by cases c with | inl _ => exact hc.elim | inr c => exact hc⟩
        · refine tot_imp (tot_forM (fun k _ => ∀ i s, i < k → t.Stops[i]? = some s → StopIn s ∧ ∀ p, t.Stops[i - 1]? = some p → 0 < i → p.Dep < s.Arr) (fun o : Unit ⊕ Int => Sum.elim (fun _ => False) (fun c => c ≠ 0) o) (fun i g hi => absurd hi (by omega)) fun i _ _ hi' hi => ?_) fun o ho => ?_
          · unfold mFishref2GuideFault_L931
            refine tot_idn (by omega) fun s hs => ?_
            refine tot_bind (R := fun q => q = decide (¬ ((0 ≤ s.Station ∧ s.Station ≤ 11) ∧ (0 ≤ s.Arr ∧ s.Arr ≤ 28800) ∧ (0 ≤ s.Dep ∧ s.Dep ≤ 28800)))) ?_ fun q hq => ?_
            · rw [fwithin_eq, Option.bind_some]
              refine tot_ite (fun h1 => ?_) fun h1 => tot_some ?_
              · rw [fwithin_eq, Option.bind_some]
                refine tot_ite (fun h2 => ?_) fun h2 => tot_some ?_
                · rw [fwithin_eq, Option.bind_some]
                  refine tot_some ?_
                  have h1 := of_decide_eq_true h1
                  have h2 := of_decide_eq_true h2
                  by_cases h3 : 0 ≤ s.Dep ∧ s.Dep ≤ 28800 <;> simp [h1, h2, h3]
                · have h2 := of_decide_eq_false (bt h2)
                  simp [h2]
              · have h1 := of_decide_eq_false (bt h1)
                simp [h1]
            · refine tot_ite (fun _ => tot_some (by show (2 : Int) ≠ 0; decide)) fun hqf => ?_
              have hin := Decidable.of_not_not (of_decide_eq_false (hq ▸ bt hqf))
              refine tot_bind (R := fun q => q = false → s.Arr ≤ s.Dep ∧ ∀ p, t.Stops[i - 1]? = some p → 0 < i → p.Dep < s.Arr) ?_ fun q hq2 => ?_
              · have f8 := ft.2.1
                refine tot_ite (fun h1 => tot_some fun h => by cases h) fun h1 => tot_ite (fun h2 => tot_chk (by omega) (by omega) (tot_idx (by omega) (by have := ft.2.1; omega) fun p hp => tot_some fun h => ?_)) fun h2 => tot_some fun _ => ⟨by omega, fun p _ h3 => absurd h3 (by omega)⟩
                have h := of_decide_eq_false h
                have he : ((i : Int) - 1).toNat = i - 1 := by omega
                rw [he] at hp
                exact ⟨by omega, fun p' hp' _ => by rw [hp] at hp'; injection hp' with hp'; subst hp'; omega⟩
              · refine tot_ite (fun _ => tot_some (by show (5 : Int) ≠ 0; decide)) fun hqf2 => ?_
                have := hq2 (bt hqf2)
                exact tot_some (show ∀ (i' : Nat) (s' : ApiStop), i' < i + 1 → t.Stops[i']? = some s' → StopIn s' ∧ ∀ p, t.Stops[i' - 1]? = some p → 0 < i' → p.Dep < s'.Arr from fun i' s' hi2 hs' => by
                  rcases Nat.lt_or_ge i' i with h5 | h5
                  · exact hi i' s' h5 hs'
                  · have : i' = i := by omega
                    subst this
                    rw [hs] at hs'
                    injection hs' with hs'
                    subst hs'
                    exact ⟨⟨hin.1, hin.2.1, hin.2.2, this.1⟩, this.2⟩)
          · cases o with
            | inl _ =>
              have ho : ∀ i s, i < 0 + t.Stops.length → t.Stops[i]? = some s → _ := ho
              refine ⟨by omega, ft.2.1, fun i s hs => ho i s (by have := List.getElem?_eq_some_iff.1 hs; obtain ⟨h, _⟩ := this; omega) hs⟩
            | inr _ => exact ho
        · rcases Nat.lt_or_ge i' j with h7 | h7
          · exact hd i i' s s' h7 h6 hs hs'
          · have : i' = j := by omega
            subst this
            rw [ht] at hs'
            injection hs' with hs'
            subst hs'
            exact hnew s (List.mem_of_getElem? (i := i) (by rw [List.getElem?_take_of_lt h6]; exact hs))
    · cases o with
      | inl m =>
        obtain ⟨h1, h2⟩ := ho
        have hlt : ∀ {i : Nat} {t : ApiTrain}, d.Trains[i]? = some t → i < 0 + d.Trains.length := fun h => by obtain ⟨h, _⟩ := List.getElem?_eq_some_iff.1 h; omega
        exact ⟨mem_upto h1, fun i j s t hij hs ht => h2 i j s t (hlt ht) hij hs ht⟩
      | inr _ => exact ho
  · rcases Nat.lt_trichotomy i j with h5 | h5 | h5
    · exact absurd e (h1.2 i j s t h5 hs ht)
    · exact h5
    · exact absurd e.symm (h1.2 j i t s h5 ht hs)
theorem sfault_tot (m a c t : Int) : Tot (mFishref2SearchFault m a c t true true) (fun r => r = 0 → (0 ≤ m ∧ m ≤ 28800) ∧ (0 ≤ a ∧ a ≤ 11) ∧ (0 ≤ c ∧ c ≤ 11) ∧ a ≠ c ∧ 0 ≤ t ∧ t ≤ 28800) := by
  unfold mFishref2SearchFault
  rw [fwithin_eq, Option.bind_some]
  refine tot_ite (fun hm => ?_) fun _ => tot_some fun h => absurd h (by decide)
  have hm := of_decide_eq_true hm
  refine tot_bind (R := fun q => q = false → (0 ≤ a ∧ a ≤ 11) ∧ 0 ≤ c ∧ c ≤ 11) ?_ fun q hq => tot_ite (fun _ => tot_some fun h => absurd h (by decide)) fun hqf => ?_
  · rw [fwithin_eq, Option.bind_some]
    refine tot_ite (fun h1 => ?_) fun h1 => tot_some fun h => by cases h
    rw [if_pos rfl, fwithin_eq, Option.bind_some]
    exact tot_some fun h => ⟨of_decide_eq_true h1, by simpa using h⟩
  have hq := hq (bt hqf)
  rw [if_pos rfl, Option.bind_some]
  refine tot_ite (fun _ => tot_some fun h => absurd h (by decide)) fun hne => ?_
  have hne := of_decide_eq_false (bt hne)
  refine tot_bind (R := fun q => q = false → 0 ≤ t ∧ t ≤ 28800) ?_ fun q hq2 => tot_ite (fun _ => tot_some fun h => absurd h (by decide)) fun hqf => tot_some fun _ => ⟨hm, hq.1, hq.2, hne, hq2 (bt hqf)⟩
  rw [if_pos rfl, fwithin_eq, Option.bind_some]
  exact tot_some fun h => by simpa using h
/- ---- a day that may be ---- -/
theorem small64 {x : Int} (h : 0 ≤ x ∧ x ≤ 999999) : I64 x := ⟨by omega, by omega⟩
theorem wday_of {d : ApiDay} (hf : FDay d) (hn : NDay d) : WDay d := by
  have h1 := hf.1
  have h2 := hf.2.1
  refine ⟨⟨by omega, fun t ht => ?_⟩, ⟨by omega, fun g hg => ⟨by have := hf.2.2.2 g hg; omega, fun n h => small64 (hn.2 g hg n h)⟩⟩⟩
  have ft := hf.2.2.1 t ht
  have nt := hn.1 t ht
  have h3 := ft.2.1
  have h4 := ft.2.2.1
  refine ⟨small64 (nt.1 _ (by simp)), small64 (nt.1 _ (by simp)), ⟨by omega, fun s hs => ?_⟩, ⟨by omega, fun g hg => ⟨by have := ft.2.2.2 g hg; omega, fun n h => small64 (nt.2.2 g hg n h)⟩⟩⟩
  have ns := nt.2.1 s hs
  exact ⟨small64 (ns _ (by simp)), small64 (ns _ (by simp)), small64 (ns _ (by simp)), small64 (ns _ (by simp))⟩
theorem check_ok {d : ApiDay} (hf : FDay d) (hn : NDay d) (hg : GDay d) : mGuideCheck d = some 0 := by
  have key : Tot (mGuideCheck d) (fun c => c = 0) := by
    unfold mGuideCheck
    refine tot_bind (text_tot (wday_of hf hn)) fun ⟨b, c⟩ hc => ?_
    have hc1 : c = 0 := hc.2 hf hn
    subst hc1
    dsimp only [unc2]
    rw [if_neg (by decide)]
    refine tot_sum (I := fun _ => True) (R := fun _ => False) ?_ (fun _ _ => tot_some rfl) fun _ h => h.elim
    refine tot_imp (tot_forM (fun k m => ∀ x, mgetD m x false = true → ∃ i t, i < k ∧ d.Trains[i]? = some t ∧ t.No = x) (fun _ => False) (fun x h => by simp [mgetD, mget] at h) fun j m _ hj hi => ?_) fun o ho => ?_
    · unfold mGuideCheck_L703
      refine tot_idn (by omega) fun t ht => ?_
      have htm := List.mem_of_getElem? ht
      obtain ⟨hno, hs⟩ := hg.2.1 t htm
      have hs1 := hs.1
      have hs2 := hs.2.1
      rw [gwithin_eq, Option.bind_some, if_pos (decide_eq_true hno), Option.bind_some]
      refine tot_ite (fun h => ?_) fun h => ?_
      · obtain ⟨i, s, h1, h2, h3⟩ := hi _ h
        have := hg.2.2 i j s t h2 ht h3
        omega
      rw [if_neg (by omega)]
      refine tot_sum (I := fun _ => True) (R := fun _ => False) ?_ (fun _ _ => tot_some (show ∀ x, mgetD (mput m t.No true) x false = true → ∃ i t', i < j + 1 ∧ d.Trains[i]? = some t' ∧ t'.No = x from fun x hx => ?_)) fun _ h => h.elim
      · refine tot_imp (tot_forM (fun _ _ => True) (fun _ => False) trivial fun k _ _ hk _ => ?_) fun o ho => ho
        unfold mGuideCheck_L1189
        refine tot_idn (by omega) fun s hsk => ?_
        obtain ⟨⟨h1, h2, h3, h4⟩, h5⟩ := hs.2.2 k s hsk
        refine tot_bind (R := fun q => q = false) ?_ fun q hq => ?_
        · rw [gwithin_eq, Option.bind_some, if_pos (decide_eq_true h1), gwithin_eq, Option.bind_some, if_pos (decide_eq_true h2), gwithin_eq, Option.bind_some]
          exact tot_some (by simp [h3])
        subst hq
        rw [if_neg (by decide)]
        refine tot_bind (R := fun q => q = false) ?_ fun q hq => ?_
        · rw [if_neg (by omega)]
          refine tot_ite (fun h6 => tot_chk (by omega) (by omega) (tot_idx (by omega) (by omega) fun p hp => tot_some ?_)) fun _ => tot_some rfl
          rw [show ((k : Int) - 1).toNat = k - 1 by omega] at hp
          have := h5 p hp (by omega)
          exact decide_eq_false (by omega)
        subst hq
        rw [if_neg (by decide)]
        exact tot_some trivial
      · rw [mgd_put] at hx
        split at hx
        · rename_i he
          exact ⟨j, t, by omega, ht, he⟩
        · obtain ⟨i, s, h1, h2, h3⟩ := hi x hx
          exact ⟨i, s, by omega, h2, h3⟩
    · cases o with
      | inl _ => trivial
      | inr _ => exact ho
  obtain ⟨c, h, rfl⟩ := key
  exact h
theorem least_ok {d : ApiDay} {m : Int} (hf : FDay d) (hn : NDay d) (hg : GDay d) (hm : 0 ≤ m ∧ m ≤ 28800) : mGuideCheckLeast d m = some 0 := by
  unfold mGuideCheckLeast
  rw [check_ok hf hn hg, Option.bind_some, if_neg (by decide), gwithin_eq, Option.bind_some, if_pos (decide_eq_true hm)]
theorem check2_no {d : ApiDay} {m a c : Int} (h1 : mGuideCheckLeast d m = some 0) (ha : 0 ≤ a ∧ a ≤ 11) (hc : 0 ≤ c ∧ c ≤ 11) (hne : a ≠ c) : mGuideCheck_2 d m a c [] = some 0 := by
  unfold mGuideCheck_2
  rw [h1, Option.bind_some, if_neg (by decide), gwithin_eq, Option.bind_some, if_pos (decide_eq_true ha), gwithin_eq, Option.bind_some, Option.bind_some, if_neg (by simp [hc]), if_neg hne]
  rfl
theorem check2_at {d : ApiDay} {m a c t : Int} (h1 : mGuideCheckLeast d m = some 0) (ha : 0 ≤ a ∧ a ≤ 11) (hc : 0 ≤ c ∧ c ≤ 11) (hne : a ≠ c) (ht : 0 ≤ t ∧ t ≤ 28800) : mGuideCheck_2 d m a c [t] = some 0 := by
  have key : Tot (mGuideCheck_2 d m a c [t]) (fun r => r = 0) := by
    unfold mGuideCheck_2
    rw [h1, Option.bind_some, if_neg (by decide), gwithin_eq, Option.bind_some, if_pos (decide_eq_true ha), gwithin_eq, Option.bind_some, Option.bind_some, if_neg (by simp [hc]), if_neg hne]
    refine tot_sum (tot_forM (fun _ _ => True) (fun _ => False) trivial fun j _ _ hj _ => ?_) (fun _ _ => tot_some rfl) fun _ h => h.elim
    unfold mGuideCheck_2_L92
    refine tot_idn (by simpa using hj) fun x hx => ?_
    have hx := List.mem_of_getElem? hx
    rw [List.mem_singleton] at hx
    subst hx
    rw [gwithin_eq, Option.bind_some, if_pos (decide_eq_true ht)]
    exact tot_some trivial
  obtain ⟨c, h, rfl⟩ := key
  exact h
/- ==== GP ==== -/
/-- The least by an order of those points that are asked for. -/
structure Least (T : GuidePoint → Prop) (ok : GuidePoint → Prop) (k : GuidePoint → List Int) (x : GuidePoint) : Prop where
  is : T x
  fit : ok x
  le : ∀ y, T y → ok y → lexLe (k x) (k y) = true
theorem least_uniq {T ok : GuidePoint → Prop} {k : GuidePoint → List Int} (hk : ∀ a b, k a = k b → a = b) {x y : GuidePoint} (h1 : Least T ok k x) (h2 : Least T ok k y) : x = y := hk _ _ (lex_anti _ _ (h1.le y h2.is h2.fit) (h2.le x h1.is h1.fit))
def ke (p : GuidePoint) : List Int := [p.Arr, p.Rides, -p.Dep]
theorem ke_inj (a b : GuidePoint) (h : ke a = ke b) : a = b := by
  cases a; cases b
  simp [ke] at h
  simp only [GuidePoint.mk.injEq]
  omega
theorem del1_eq (x : Int) : mSlicesDeleteFunc x = gDel (fun p => decide (p.Dep < x)) := rfl
theorem min1_eq : mSlicesMinFunc = gMin mGuideNetEarliest_2 := rfl
theorem cmp_neg (b a : Int) : mCmpCompare b a = mCmpCompare (-a) (-b) := by
  rw [compare_eq, compare_eq]
  have h1 : (-a < -b) = (b < a) := propext (by omega)
  have h2 : (-b < -a) = (a < b) := propext (by omega)
  simp only [h1, h2]
theorem cmp1_tot (a b : GuidePoint) : Tot (mGuideNetEarliest_2 a b) (fun z => z < 0 ↔ ¬ lexLe (ke b) (ke a) = true) := by
  unfold mGuideNetEarliest_2
  obtain ⟨v, h1, h2⟩ := cmp3 a.Arr a.Rides (-a.Dep) b.Arr b.Rides (-b.Dep)
  have e : mCmpCompare b.Dep a.Dep = mCmpCompare (-a.Dep) (-b.Dep) := cmp_neg _ _
  rw [e, h1, Option.bind_some]
  exact tot_some h2
section
variable {d : ApiDay} {m : Int}
theorem pts_len (hd : GDay d) {from_ to_ : Int} {o l : Pts} (ho : Gd (PT d.Trains m from_ to_) o) (hl : l.Perm o) : l.length ≤ 60000 := by
  rw [hl.length_eq]
  exact Nat.le_trans (ho.nd.length_le_of_subset fun x hx => pt_all ((ho.mem x).1 hx)) (allPt_len hd)
/-- What Earliest answers: the journey of the least point, or that there is none. -/
theorem earliest_tot (hd : GDay d) (hm : 0 ≤ m ∧ m ≤ 28800) (from_ at_ to_ : Int) : Tot (mGuideNetEarliest (⟨d, m⟩ : GuideNet) from_ at_ to_) (fun r => (r = (false, []) ∧ ∀ x, PT d.Trains m from_ to_ x → x.Dep < at_) ∨ ∃ x, Least (PT d.Trains m from_ to_) (fun x => at_ ≤ x.Dep) ke x ∧ r.1 = true ∧ Way d.Trains m from_ to_ x r.2 ∧ mGuideNetLeastOf (⟨d, m⟩ : GuideNet) from_ to_ x = some r.2) := by
  unfold mGuideNetEarliest
  refine tot_bind (points_tot hd hm from_ to_) fun o ho => ?_
  refine ordM_tot (fun s t h1 h2 => ?_) fun l hl => ?_
  · rcases h1 with ⟨h1, h3⟩ | ⟨x, hx, h1, _, h3⟩
    · rcases h2 with ⟨h2, _⟩ | ⟨y, hy, _⟩
      · rw [h1, h2]
      · have h5 := h3 y hy.is
        have h6 : at_ ≤ y.Dep := hy.fit
        omega
    · rcases h2 with ⟨_, h4⟩ | ⟨y, hy, h2, _, h4⟩
      · have h5 := h4 x hx.is
        have h6 : at_ ≤ x.Dep := hx.fit
        omega
      · have e := least_uniq ke_inj hx hy
        subst e
        rw [h3] at h4
        injection h4 with h4
        exact Prod.ext (h1.trans h2.symm) h4
  · have hlen := pts_len hd ho hl
    have hmem : ∀ x, x ∈ l.filter (fun p => !decide (p.Dep < at_)) ↔ PT d.Trains m from_ to_ x ∧ at_ ≤ x.Dep := fun x => by
      rw [List.mem_filter, hl.mem_iff, ho.mem]
      simp
    rw [del1_eq]
    refine tot_bind (gDel_tot _ hlen) fun q hq => ?_
    subst hq
    have hfl := List.length_filter_le (fun p => !decide (p.Dep < at_)) l
    refine tot_ite (fun h0 => tot_some (.inl ⟨rfl, fun x hx => ?_⟩)) fun h0 => ?_
    · have h0 : l.filter (fun p => !decide (p.Dep < at_)) = [] := List.length_eq_zero_iff.1 (by omega)
      refine Decidable.byContradiction fun hc => ?_
      have := (hmem x).2 ⟨hx, by omega⟩
      rw [h0] at this
      cases this
    · rw [min1_eq]
      refine tot_bind (gMin_tot _ (k := ke) cmp1_tot (by omega) (by omega)) fun ⟨a, b, c⟩ ⟨h1, h2⟩ => ?_
      dsimp only at h1 h2
      dsimp only [unc3]
      have hx := (hmem _).1 h1
      obtain ⟨way, h3, h4⟩ := leastOf_tot hd hm hx.1
      refine tot_eq h3 (tot_some (.inr ⟨⟨a, b, c⟩, ⟨hx.1, hx.2, fun y hy hy2 => h2 y ((hmem y).2 ⟨hy, hy2⟩)⟩, rfl, h4, h3⟩))
/- ---- the profile ---- -/
def Dom (x y : GuidePoint) : Prop := ¬ (y.Dep = x.Dep ∧ y.Arr = x.Arr ∧ y.Rides = x.Rides) ∧ x.Dep ≤ y.Dep ∧ y.Arr ≤ x.Arr ∧ y.Rides ≤ x.Rides
instance (x y : GuidePoint) : Decidable (Dom x y) := by unfold Dom; infer_instance
theorem prof_eq (y x : GuidePoint) : mGuideProfile_1 y x.Dep x.Arr x.Rides = some (decide (Dom x y)) := by
  unfold mGuideProfile_1 Dom
  by_cases h1 : y.Dep = x.Dep ∧ y.Arr = x.Arr ∧ y.Rides = x.Rides
  · rw [if_pos h1, Option.bind_some]
    simp [h1]
  · rw [if_neg h1]
    by_cases h2 : x.Dep ≤ y.Dep
    · rw [if_pos h2]
      by_cases h3 : y.Arr ≤ x.Arr
      · rw [if_pos h3, Option.bind_some]
        simp [h1, h2, h3]
      · rw [if_neg h3, Option.bind_some]
        simp [h3]
    · rw [if_neg h2, Option.bind_some]
      simp [h2]
theorem has_tot (l : Pts) (x : GuidePoint) : Tot (mSlicesContainsFunc x.Dep x.Arr x.Rides l) (fun b => b = true ↔ ∃ y ∈ l, Dom x y) := by
  unfold mSlicesContainsFunc mSlicesIndexFunc_3
  have e : (fun k => mSlicesIndexFunc_3_L64 x.Dep x.Arr x.Rides l k) = gIdxL (fun y => decide (Dom x y)) l := by
    funext k s
    unfold mSlicesIndexFunc_3_L64 gIdxL
    simp only [prof_eq]
  show Tot (Option.bind (Option.bind (forM (fun k => mSlicesIndexFunc_3_L64 x.Dep x.Arr x.Rides l k) l.length 0 ()) _) _) _
  rw [e]
  refine tot_bind (R := fun r => (r = -1 ∧ ∀ y ∈ l, decide (Dom x y) = false) ∨ ∃ k : Nat, r = (k : Int) ∧ (∃ y, l[k]? = some y ∧ decide (Dom x y) = true) ∧ ∀ y ∈ l.take k, decide (Dom x y) = false) (gIdx_tot (fun y => decide (Dom x y))) fun r hr => tot_some ?_
  rcases hr with ⟨rfl, h⟩ | ⟨k, rfl, ⟨y, h1, h2⟩, _⟩
  · refine ⟨fun h2 => by simp at h2, fun ⟨y, hy, h2⟩ => absurd h2 (of_decide_eq_false (h y hy))⟩
  · exact ⟨fun _ => ⟨y, List.mem_of_getElem? h1, of_decide_eq_true h2⟩, fun _ => by simp⟩
/-- The points that no other one is as good as. -/
def ND (T : GuidePoint → Prop) (x : GuidePoint) : Prop := T x ∧ ∀ y, T y → ¬ Dom x y
theorem profile_tot (hd : GDay d) (hm : 0 ≤ m ∧ m ≤ 28800) {from_ to_ : Int} (hc : mGuideCheck_2 d m from_ to_ [] = some 0) : Tot (mGuideProfile d from_ to_ m) (fun r => r.1 = 0 ∧ Gd (ND (PT d.Trains m from_ to_)) r.2) := by
  unfold mGuideProfile
  rw [hc, Option.bind_some, if_neg (by decide)]
  refine tot_bind (points_tot hd hm from_ to_) fun o ho => ordM_tot (fun s t h1 h2 => Prod.ext (h1.1.trans h2.1.symm) (gd_uniq h1.2 h2.2)) fun l hl => ?_
  have hlen := pts_len hd ho hl
  refine tot_bind (R := fun (s : Pts) => s = l.filter fun x => decide (∀ y ∈ l, ¬ Dom x y)) ?_ fun s hs => tot_some ⟨rfl, canB_srt _, ?_, fun x => ?_⟩
  · refine tot_imp (tot_forS (fun k (s : Pts) => s = (l.take k).filter fun x => decide (∀ y ∈ l, ¬ Dom x y)) (by simp) fun k s _ hk hs => ?_) fun s hs => ?_
    · unfold mGuideProfile_L154
      have hk : k < l.length := by omega
      have hsl : s.length ≤ k := by
        rw [hs]
        have h1 := List.length_filter_le (fun x => decide (∀ y ∈ l, ¬ Dom x y)) (l.take k)
        rw [List.length_take] at h1
        omega
      refine tot_idn hk fun x hx => tot_bind (has_tot l x) fun b hb => tot_ite (fun h => tot_some ?_) fun h => tot_room (by omega) (by omega) (tot_some ?_)
      · obtain ⟨y, h1, h2⟩ := hb.1 h
        rw [List.take_add_one, hx, List.filter_append, hs]
        have : decide (∀ y ∈ l, ¬ Dom x y) = false := decide_eq_false fun hh => hh y h1 h2
        simp [this]
      · have : decide (∀ y ∈ l, ¬ Dom x y) = true := decide_eq_true fun y h1 h2 => h (hb.2 ⟨y, h1, h2⟩)
        rw [List.take_add_one, hx, List.filter_append, hs, show (some x).toList = [x] from rfl, List.filter_cons, if_pos this]
        rfl
    · have hs : s = (l.take (0 + l.length)).filter fun x => decide (∀ y ∈ l, ¬ Dom x y) := hs
      rw [Nat.zero_add, List.take_length] at hs
      exact hs
  · rw [(canB_perm kGuidePoint s).nodup_iff, hs]
    exact (hl.nodup_iff.2 ho.nd).filter _
  · have hm' : ∀ y, y ∈ l ↔ PT d.Trains m from_ to_ y := fun y => by rw [hl.mem_iff, ho.mem]
    show x ∈ canB kGuidePoint s ↔ _
    rw [(canB_perm kGuidePoint s).mem_iff, hs, List.mem_filter, hm']
    refine and_congr_right fun _ => ?_
    rw [decide_eq_true_iff]
    exact ⟨fun h y hy => h y ((hm' y).2 hy), fun h y hy => h y ((hm' y).1 hy)⟩
end
/- ---- a day of one train ---- -/
def D1 : ApiDay := ⟨[(⟨1, 0, [(⟨0, 0, 5, 5⟩ : ApiStop), (⟨1, 0, 9, 9⟩ : ApiStop)], [[0]]⟩ : ApiTrain)], []⟩
def r1 : GuideRide := ⟨0, 0, 1⟩
theorem d1_f : FDay D1 := by simp [D1, FDay, FTrain]
theorem d1_n : NDay D1 := by simp [D1, NDay]
theorem d1_g : GDay D1 := by
  refine ⟨by simp [D1], fun t ht => ?_, fun i j s t hs ht _ => ?_⟩
  · simp only [D1, List.mem_singleton] at ht
    subst ht
    refine ⟨by simp, by simp, by simp, fun i s hs => ?_⟩
    rcases (by have := (List.getElem?_eq_some_iff.1 hs).1; simp at this; omega : i = 0 ∨ i = 1) with rfl | rfl
    · simp at hs
      subst hs
      exact ⟨by simp [StopIn], fun p _ h => absurd h (by omega)⟩
    · simp at hs
      subst hs
      refine ⟨by simp [StopIn], fun p hp _ => ?_⟩
      simp at hp
      subst hp
      decide
  · have h1 := (List.getElem?_eq_some_iff.1 hs).1
    have h2 := (List.getElem?_eq_some_iff.1 ht).1
    simp [D1] at h1 h2
    omega
theorem d1_ride {r : GuideRide} (h : RideOk D1.Trains r) : r = r1 := by
  obtain ⟨⟨a, b⟩, c, e, f⟩ := h
  have b : r.Train < 1 := b
  have h0 : r.Train = 0 := by omega
  rw [h0] at f
  have f : r.Off < 2 := f
  cases r
  simp only at h0 c e f
  simp only [r1, GuideRide.mk.injEq]
  omega
theorem d1_ok : RideOk D1.Trains r1 := ⟨⟨by decide, by decide⟩, by decide, by decide, by decide⟩
theorem d1_way : Way D1.Trains 0 0 1 ⟨5, 9, 1⟩ [r1] := ⟨chain_one d1_ok, by simp, fun r hr => by simp at hr; subst hr; exact ⟨rfl, rfl⟩, fun r hr => by simp at hr; subst hr; exact ⟨rfl, rfl⟩, rfl⟩
theorem d1_one {x : GuidePoint} {l : List GuideRide} (h : Way D1.Trains 0 0 1 x l) : l = [r1] := by
  have hl := h.len
  match l, h with
  | [], h => simp at hl
  | [r], h => rw [d1_ride (h.chain.1 r (by simp))]
  | a :: b :: l, h =>
    have h1 := d1_ride (h.chain.1 a (by simp))
    have h2 := d1_ride (h.chain.1 b (by simp))
    have h3 := (h.chain.2 0 a b rfl rfl).1
    rw [h1, h2] at h3
    exact absurd rfl h3
theorem guides_yes : mFishkeep2Guides = some true := by
  have hl := least_ok (m := 0) d1_f d1_n d1_g (by omega)
  have he : mGuideEarliest D1 0 0 1 0 = some (0, [r1]) := by
    unfold mGuideEarliest
    rw [check2_at hl (by omega) (by omega) (by omega) (by omega), Option.bind_some, if_neg (by decide)]
    obtain ⟨⟨a, l⟩, h1, h2⟩ := earliest_tot (d := D1) (m := 0) d1_g (by omega) 0 0 1
    rw [h1, Option.bind_some]
    rcases h2 with ⟨_, h2⟩ | ⟨x, hx, h2, h3, _⟩
    · have := h2 ⟨5, 9, 1⟩ ⟨_, d1_way⟩
      exact absurd this (by decide)
    · dsimp only at h2 h3
      subst h2
      rw [d1_one h3]
      rfl
  unfold mFishkeep2Guides
  show (mGuideEarliest D1 0 0 1 0).bind _ = _
  rw [he]
  rfl
theorem awake_yes : mFishkeep2AwakeGuide = some true := by
  unfold mFishkeep2AwakeGuide mGuideCheckJourney
  obtain ⟨c, h1, h2⟩ := least_tot (d := ⟨[], []⟩) (by simp [WDay, Lst]) (-1)
  have hc : c ≠ 0 := fun h => by have := (h2 h).2.1; omega
  rw [h1, Option.bind_some, if_pos hc, Option.bind_some, decide_eq_true hc]
/- ==== GQ ==== -/
def turnS (s : ApiStop) : ApiStop := ⟨s.Station, s.Track, 28800 - s.Dep, 28800 - s.Arr⟩
def turnT (t : ApiTrain) : ApiTrain := ⟨t.No, t.Stock, t.Stops.reverse.map turnS, t.Legs.reverse⟩
def turnP (p : GuidePoint) : GuidePoint := ⟨28800 - p.Arr, 28800 - p.Dep, p.Rides⟩
theorem turnS_twice (s : ApiStop) : turnS (turnS s) = s := by
  cases s
  simp only [turnS, ApiStop.mk.injEq, true_and]
  omega
theorem turnP_twice (p : GuidePoint) : turnP (turnP p) = p := by
  cases p
  simp only [turnP, GuidePoint.mk.injEq, and_true]
  omega
theorem turnT_twice (t : ApiTrain) : turnT (turnT t) = t := by
  cases t
  simp only [turnT, ApiTrain.mk.injEq, true_and, List.reverse_reverse, and_true]
  rw [← List.map_reverse, List.map_map, List.reverse_reverse]
  rw [show (turnS ∘ turnS) = id from funext turnS_twice, List.map_id]
theorem turnD_twice (T : List ApiTrain) : (T.map turnT).map turnT = T := by
  rw [List.map_map, show (turnT ∘ turnT) = id from funext turnT_twice, List.map_id]
theorem turned_eq {T : List ApiTrain} (hf : FDay ⟨T, []⟩) (hg : GDay ⟨T, []⟩) : mFishkeep2Turned ⟨T, []⟩ = some ([], T.map turnT) := by
  have hT : T.length ≤ 12 := hf.1
  have key : Tot (mFishkeep2Turned ⟨T, []⟩) (fun r => r = ([], T.map turnT)) := by
    unfold mFishkeep2Turned
    refine tot_bind (tot_imp (Q := fun l => l = T.map turnT) (tot_forS (fun k (l : List ApiTrain) => l = (T.take k).map turnT) (by simp) fun k l _ hk hl => ?_) fun l hl => ?_) fun l hl => tot_some (by rw [hl])
    · unfold mFishkeep2Turned_L825
      have hk : k < T.length := by simpa using hk
      refine tot_idn hk fun t ht => ?_
      have ht : T[k]? = some t := ht
      have htm := List.mem_of_getElem? ht
      have ft := hf.2.2.1 t htm
      have f1 := ft.1
      have f2 := ft.2.1
      have f3 := ft.2.2.1
      have gs := (hg.2.1 t htm).2
      refine tot_chk (by omega) (by omega) ?_
      refine tot_bind (tot_forS (fun k (l : List ApiStop) => l = (t.Stops.reverse.take k).map turnS) (by simp) fun i l _ hi hl => ?_) fun l1 h1 => ?_
      · unfold mFishkeep2Turned_L1384
        have hi : i < t.Stops.length := by simpa using hi
        refine tot_chk (by omega) (by omega) (tot_idx (by omega) (by omega) fun s hs => ?_)
        rw [show ((t.Stops.length : Int) - 1 - (i : Int)).toNat = t.Stops.length - 1 - i by omega] at hs
        have hs2 := (gs.2.2 _ s hs).1
        have hlen : l.length ≤ i := by rw [hl, List.length_map, List.length_take]; omega
        refine tot_chk (by have := hs2.2.2; omega) (by have := hs2.2.2; omega) (tot_chk (by have := hs2.2; omega) (by have := hs2.2; omega) (tot_room (by omega) (by omega) (tot_some ?_)))
        rw [List.take_add_one, List.getElem?_reverse hi, hs, List.map_append, hl]
        rfl
      · rw [show 0 + t.Stops.length = t.Stops.reverse.length by simp, List.take_length] at h1
        refine tot_bind (tot_forS (fun k (l : List (List Int)) => l = t.Legs.reverse.take k) (by simp) fun i l _ hi hl => ?_) fun l2 h2 => ?_
        · unfold mFishkeep2Turned_L1464
          have hi : i < t.Legs.length := by simpa using hi
          refine tot_chk (by omega) (by omega) (tot_chk (by omega) (by omega) (tot_idx (by omega) (by omega) fun s hs => ?_))
          rw [show ((t.Stops.length : Int) - 1 - 1 - (i : Int)).toNat = t.Legs.length - 1 - i by omega] at hs
          have hlen : l.length ≤ i := by rw [hl, List.length_take]; omega
          refine tot_room (by omega) (by omega) (tot_some ?_)
          rw [List.take_add_one, List.getElem?_reverse hi, hs, hl]
          rfl
        · rw [show 0 + t.Legs.length = t.Legs.reverse.length by simp, List.take_length] at h2
          have hlen : l.length ≤ k := by rw [hl, List.length_map, List.length_take]; omega
          refine tot_room (by omega) (by omega) (tot_some ?_)
          rw [List.take_add_one, ht, List.map_append, hl, h1, h2]
          rfl
    · have hl : l = (T.take (0 + T.length)).map turnT := hl
      rw [Nat.zero_add, List.take_length] at hl
      exact hl
  obtain ⟨r, h, rfl⟩ := key
  exact h
/- ---- what stays right ---- -/
section
variable {T : List ApiTrain}
theorem turn_f (hf : FDay ⟨T, []⟩) : FDay ⟨T.map turnT, []⟩ := by
  refine ⟨by have := hf.1; simpa using this, by simp, fun t ht => ?_, fun g hg => by cases hg⟩
  obtain ⟨u, hu, rfl⟩ := List.mem_map.1 ht
  have f := hf.2.2.1 u hu
  refine ⟨by have := f.1; simpa [turnT] using this, by have := f.2.1; simpa [turnT] using this, by have := f.2.2.1; simpa [turnT] using this, fun g hg => f.2.2.2 g ?_⟩
  simpa [turnT] using hg
theorem turn_n (hn : NDay ⟨T, []⟩) (hg : GDay ⟨T, []⟩) : NDay ⟨T.map turnT, []⟩ := by
  refine ⟨fun t ht => ?_, fun g hg => by cases hg⟩
  obtain ⟨u, hu, rfl⟩ := List.mem_map.1 ht
  have n := hn.1 u hu
  refine ⟨n.1, fun s hs => ?_, fun g hg => n.2.2 g (by simpa [turnT] using hg)⟩
  obtain ⟨q, hq, rfl⟩ := List.mem_map.1 hs
  have hq := List.mem_reverse.1 hq
  have nq := n.2.1 q hq
  obtain ⟨i, h1, h2⟩ := List.mem_iff_getElem.1 hq
  have gq := ((hg.2.1 u hu).2.2.2 i q (by rw [List.getElem?_eq_getElem h1, h2])).1
  intro x hx
  simp only [turnS, List.mem_cons, List.not_mem_nil, or_false] at hx
  rcases hx with rfl | rfl | rfl | rfl
  · exact nq _ (by simp)
  · exact nq _ (by simp)
  · have := gq.2.2; omega
  · have := gq.2; omega
theorem turn_g (hg : GDay ⟨T, []⟩) : GDay ⟨T.map turnT, []⟩ := by
  refine ⟨by have := hg.1; simpa using this, fun t ht => ?_, fun i j s t hs ht e => ?_⟩
  · obtain ⟨u, hu, rfl⟩ := List.mem_map.1 ht
    obtain ⟨g1, g2, g3, g4⟩ := hg.2.1 u hu
    refine ⟨g1, by simpa [turnT] using g2, by simpa [turnT] using g3, fun i s hs => ?_⟩
    have hs : (u.Stops.reverse.map turnS)[i]? = some s := hs
    rw [List.getElem?_map] at hs
    have hi : i < u.Stops.length := by
      rcases Nat.lt_or_ge i u.Stops.length with h | h
      · exact h
      · rw [List.getElem?_eq_none (by simpa using h)] at hs; cases hs
    rw [List.getElem?_reverse hi] at hs
    obtain ⟨q, hq, rfl⟩ := Option.map_eq_some_iff.1 hs
    obtain ⟨⟨q1, q2, q3, q4⟩, q5⟩ := g4 _ q hq
    refine ⟨⟨q1, ?_, ?_, ?_⟩, fun p hp h0 => ?_⟩
    · show 0 ≤ 28800 - q.Dep ∧ 28800 - q.Dep ≤ 28800; omega
    · show 0 ≤ 28800 - q.Arr ∧ 28800 - q.Arr ≤ 28800; omega
    · show 28800 - q.Dep ≤ 28800 - q.Arr; omega
    · have hp : (u.Stops.reverse.map turnS)[i - 1]? = some p := hp
      rw [List.getElem?_map, List.getElem?_reverse (by omega)] at hp
      obtain ⟨w, hw, rfl⟩ := Option.map_eq_some_iff.1 hp
      have h5 := (g4 _ w hw).2 q (by rw [show u.Stops.length - 1 - (i - 1) - 1 = u.Stops.length - 1 - i by omega]; exact hq) (by omega)
      show 28800 - w.Arr < 28800 - q.Dep
      omega
  · have hs : (T.map turnT)[i]? = some s := hs
    have ht : (T.map turnT)[j]? = some t := ht
    rw [List.getElem?_map] at hs ht
    obtain ⟨u, hu, rfl⟩ := Option.map_eq_some_iff.1 hs
    obtain ⟨w, hw, rfl⟩ := Option.map_eq_some_iff.1 ht
    exact hg.2.2 i j u w hu hw e
/- ---- rides turned about ---- -/
variable {m : Int}
def rev (T : List ApiTrain) (r : GuideRide) : GuideRide := ⟨r.Train, ((tr T r.Train).Stops.length : Int) - 1 - r.Off, ((tr T r.Train).Stops.length : Int) - 1 - r.On⟩
theorem tr_turn {t : Int} (h0 : 0 ≤ t) (h1 : t < (T.length : Int)) : tr (T.map turnT) t = turnT (tr T t) := by
  obtain ⟨x, _, h3⟩ := idx_get h0 h1
  rw [tr, tr, List.getD_eq_getElem?_getD, List.getD_eq_getElem?_getD, List.getElem?_map, h3]
  rfl
theorem stp_turn {t k : Int} (h0 : 0 ≤ t) (h1 : t < (T.length : Int)) (k0 : 0 ≤ k) (k1 : k < ((tr T t).Stops.length : Int)) : stp (T.map turnT) t k = turnS (stp T t (((tr T t).Stops.length : Int) - 1 - k)) := by
  have h2 := stp_at (T := T) (t := t) (k := ((tr T t).Stops.length : Int) - 1 - k) (by omega) (by omega)
  unfold stp at h2 ⊢
  rw [tr_turn h0 h1, List.getD_eq_getElem?_getD]
  show ((tr T t).Stops.reverse.map turnS)[k.toNat]?.getD _ = _
  rw [List.getElem?_map, List.getElem?_reverse (by omega), show (tr T t).Stops.length - 1 - k.toNat = (((tr T t).Stops.length : Int) - 1 - k).toNat by omega, h2]
  rfl
theorem rev_ok {r : GuideRide} (h : RideOk T r) : RideOk (T.map turnT) (rev T r) := by
  obtain ⟨⟨a, b⟩, c, e, f⟩ := h
  refine ⟨⟨a, by show r.Train < ((T.map turnT).length : Int); rw [List.length_map]; exact b⟩, ?_, ?_, ?_⟩
  · show 0 ≤ ((tr T r.Train).Stops.length : Int) - 1 - r.Off; omega
  · show ((tr T r.Train).Stops.length : Int) - 1 - r.Off < ((tr T r.Train).Stops.length : Int) - 1 - r.On; omega
  · show ((tr T r.Train).Stops.length : Int) - 1 - r.On < ((tr (T.map turnT) r.Train).Stops.length : Int)
    rw [tr_turn a b]
    simp only [turnT, List.length_map, List.length_reverse]
    omega
theorem on_rev {r : GuideRide} (h : RideOk T r) : on (T.map turnT) (rev T r) = turnS (off T r) := by
  obtain ⟨⟨a, b⟩, c, e, f⟩ := h
  unfold on off rev
  rw [stp_turn a b (by show 0 ≤ ((tr T r.Train).Stops.length : Int) - 1 - r.Off; omega) (by show ((tr T r.Train).Stops.length : Int) - 1 - r.Off < _; omega)]
  rw [show ((tr T r.Train).Stops.length : Int) - 1 - (((tr T r.Train).Stops.length : Int) - 1 - r.Off) = r.Off by omega]
theorem off_rev {r : GuideRide} (h : RideOk T r) : off (T.map turnT) (rev T r) = turnS (on T r) := by
  obtain ⟨⟨a, b⟩, c, e, f⟩ := h
  unfold on off rev
  rw [stp_turn a b (by show 0 ≤ ((tr T r.Train).Stops.length : Int) - 1 - r.On; omega) (by show ((tr T r.Train).Stops.length : Int) - 1 - r.On < _; omega)]
  rw [show ((tr T r.Train).Stops.length : Int) - 1 - (((tr T r.Train).Stops.length : Int) - 1 - r.On) = r.On by omega]
theorem way_rev {from_ to_ : Int} {x : GuidePoint} {l : List GuideRide} (h : Way T m from_ to_ x l) : Way (T.map turnT) m to_ from_ (turnP x) (l.reverse.map (rev T)) := by
  have hl := h.len
  have get : ∀ i, i < l.length → (l.reverse.map (rev T))[i]? = (l[l.length - 1 - i]?).map (rev T) := fun i hi => by
    rw [List.getElem?_map, List.getElem?_reverse hi]
  have lt : ∀ {i : Nat} {q : GuideRide}, (l.reverse.map (rev T))[i]? = some q → i < l.length := fun {i q} hq => by
    have := (List.getElem?_eq_some_iff.1 hq).1
    simpa using this
  refine ⟨⟨fun r hr => ?_, fun i a b ha hb => ?_⟩, by simpa using hl, fun r hr => ?_, fun r hr => ?_, by rw [List.length_map, List.length_reverse]; exact h.rides⟩
  · obtain ⟨q, hq, rfl⟩ := List.mem_map.1 hr
    exact rev_ok (h.chain.1 q (List.mem_reverse.1 hq))
  · have hi := lt hb
    rw [get i (by omega)] at ha
    rw [get (i + 1) hi] at hb
    obtain ⟨p, hp, rfl⟩ := Option.map_eq_some_iff.1 ha
    obtain ⟨q, hq, rfl⟩ := Option.map_eq_some_iff.1 hb
    have hk := h.chain.2 (l.length - 1 - (i + 1)) q p hq (by rw [show l.length - 1 - (i + 1) + 1 = l.length - 1 - i by omega]; exact hp)
    have po := h.chain.1 p (List.mem_of_getElem? hp)
    have qo := h.chain.1 q (List.mem_of_getElem? hq)
    unfold Link
    rw [on_rev qo, off_rev po]
    refine ⟨fun e => hk.1 e.symm, hk.2.1.symm, ?_⟩
    have := hk.2.2
    show 28800 - (on T p).Dep + m ≤ 28800 - (off T q).Arr
    omega
  · rw [get 0 (by omega)] at hr
    obtain ⟨q, hq, rfl⟩ := Option.map_eq_some_iff.1 hr
    have h1 := h.last q (by rw [← Nat.sub_zero (l.length - 1)]; exact hq)
    rw [on_rev (h.chain.1 q (List.mem_of_getElem? hq))]
    exact ⟨h1.1, by show 28800 - (off T q).Arr = 28800 - x.Arr; rw [h1.2]⟩
  · rw [List.length_map, List.length_reverse, get _ (by omega)] at hr
    obtain ⟨q, hq, rfl⟩ := Option.map_eq_some_iff.1 hr
    rw [show l.length - 1 - (l.length - 1) = 0 by omega] at hq
    have h1 := h.first q hq
    rw [off_rev (h.chain.1 q (List.mem_of_getElem? hq))]
    exact ⟨h1.1, by show 28800 - (on T q).Dep = 28800 - x.Dep; rw [h1.2]⟩
theorem pt_turn {from_ to_ : Int} {x : GuidePoint} (h : PT T m from_ to_ x) : PT (T.map turnT) m to_ from_ (turnP x) := let ⟨_, hl⟩ := h; ⟨_, way_rev hl⟩
theorem pt_back {from_ to_ : Int} {y : GuidePoint} (h : PT (T.map turnT) m to_ from_ y) : PT T m from_ to_ (turnP y) := by
  have := pt_turn h
  rw [turnD_twice] at this
  exact this
theorem dom_turn (x y : GuidePoint) : Dom (turnP x) (turnP y) ↔ Dom x y := by
  unfold Dom turnP
  dsimp only
  constructor
  · rintro ⟨h1, h2, h3, h4⟩
    exact ⟨fun h => h1 (by omega), by omega, by omega, h4⟩
  · rintro ⟨h1, h2, h3, h4⟩
    exact ⟨fun h => h1 (by omega), by omega, by omega, h4⟩
theorem nd_turn {from_ to_ : Int} {x : GuidePoint} (h : ND (PT T m from_ to_) x) : ND (PT (T.map turnT) m to_ from_) (turnP x) := ⟨pt_turn h.1, fun y hy hd => h.2 (turnP y) (pt_back hy) (by rw [← dom_turn, turnP_twice]; exact hd)⟩
theorem nd_back {from_ to_ : Int} {y : GuidePoint} (h : ND (PT (T.map turnT) m to_ from_) y) : ND (PT T m from_ to_) (turnP y) := by
  have := nd_turn h
  rw [turnD_twice] at this
  exact this
theorem turn_len {A B : GuidePoint → Prop} (h1 : ∀ x, A x → B (turnP x)) (h2 : ∀ y, B y → A (turnP y)) {o o' : Pts} (ho : Gd A o) (ho' : Gd B o') : o.length = o'.length := by
  have hp : (o.map turnP).Perm o' := by
    refine (List.perm_ext_iff_of_nodup ?_ ho'.nd).2 fun x => ?_
    · refine List.pairwise_map.2 (ho.nd.imp fun {a b} hab e => hab ?_)
      rw [← turnP_twice a, e, turnP_twice]
    · rw [List.mem_map, ho'.mem]
      constructor
      · rintro ⟨y, hy, rfl⟩
        exact h1 y ((ho.mem y).1 hy)
      · intro hx
        exact ⟨turnP x, (ho.mem _).2 (h2 x hx), turnP_twice x⟩
  rw [← hp.length_eq, List.length_map]
end
/- ---- the latest ---- -/
def kl (p : GuidePoint) : List Int := [-p.Dep, p.Rides, p.Arr]
theorem kl_inj (a b : GuidePoint) (h : kl a = kl b) : a = b := by
  cases a; cases b
  simp [kl] at h
  simp only [GuidePoint.mk.injEq]
  omega
theorem del2_eq (x : Int) : mSlicesDeleteFunc_2 x = gDel (fun p => decide (x < p.Arr)) := rfl
theorem min2_eq : mSlicesMinFunc_2 = gMin mGuideLatest_2 := rfl
theorem cmp2_tot (a b : GuidePoint) : Tot (mGuideLatest_2 a b) (fun z => z < 0 ↔ ¬ lexLe (kl b) (kl a) = true) := by
  unfold mGuideLatest_2
  obtain ⟨v, h1, h2⟩ := cmp3 (-a.Dep) a.Rides a.Arr (-b.Dep) b.Rides b.Arr
  rw [cmp_neg b.Dep a.Dep, h1, Option.bind_some]
  exact tot_some h2
theorem latest_tot {d : ApiDay} {m : Int} (hd : GDay d) (hm : 0 ≤ m ∧ m ≤ 28800) {from_ to_ by_ : Int} (hc : mGuideCheck_2 d m from_ to_ [by_] = some 0) : Tot (mGuideLatest d from_ to_ by_ m) (fun r => (r = (9, []) ∧ ∀ x, PT d.Trains m from_ to_ x → by_ < x.Arr) ∨ ∃ x, Least (PT d.Trains m from_ to_) (fun x => x.Arr ≤ by_) kl x ∧ r.1 = 0 ∧ Way d.Trains m from_ to_ x r.2 ∧ mGuideNetLeastOf (⟨d, m⟩ : GuideNet) from_ to_ x = some r.2) := by
  unfold mGuideLatest
  rw [hc, Option.bind_some, if_neg (by decide)]
  refine tot_bind (points_tot hd hm from_ to_) fun o ho => ?_
  refine ordM_tot (fun s t h1 h2 => ?_) fun l hl => ?_
  · rcases h1 with ⟨h1, h3⟩ | ⟨x, hx, h1, _, h3⟩
    · rcases h2 with ⟨h2, _⟩ | ⟨y, hy, _⟩
      · rw [h1, h2]
      · have h5 := h3 y hy.is
        have h6 : y.Arr ≤ by_ := hy.fit
        omega
    · rcases h2 with ⟨_, h4⟩ | ⟨y, hy, h2, _, h4⟩
      · have h5 := h4 x hx.is
        have h6 : x.Arr ≤ by_ := hx.fit
        omega
      · have e := least_uniq kl_inj hx hy
        subst e
        rw [h3] at h4
        injection h4 with h4
        exact Prod.ext (h1.trans h2.symm) h4
  · have hlen := pts_len hd ho hl
    have hmem : ∀ x, x ∈ l.filter (fun p => !decide (by_ < p.Arr)) ↔ PT d.Trains m from_ to_ x ∧ x.Arr ≤ by_ := fun x => by
      rw [List.mem_filter, hl.mem_iff, ho.mem]
      simp
    rw [del2_eq]
    refine tot_bind (gDel_tot _ hlen) fun q hq => ?_
    subst hq
    have hfl := List.length_filter_le (fun p => !decide (by_ < p.Arr)) l
    refine tot_ite (fun h0 => tot_some (.inl ⟨rfl, fun x hx => ?_⟩)) fun h0 => ?_
    · have h0 : l.filter (fun p => !decide (by_ < p.Arr)) = [] := List.length_eq_zero_iff.1 (by omega)
      refine Decidable.byContradiction fun hc => ?_
      have := (hmem x).2 ⟨hx, by omega⟩
      rw [h0] at this
      cases this
    · rw [min2_eq]
      refine tot_bind (gMin_tot _ (k := kl) cmp2_tot (by omega) (by omega)) fun ⟨a, b, c⟩ ⟨h1, h2⟩ => ?_
      dsimp only at h1 h2
      dsimp only [unc3]
      have hx := (hmem _).1 h1
      obtain ⟨way, h3, h4⟩ := leastOf_tot hd hm hx.1
      refine tot_eq h3 (tot_some (.inr ⟨⟨a, b, c⟩, ⟨hx.1, hx.2, fun y hy hy2 => h2 y ((hmem y).2 ⟨hy, hy2⟩)⟩, rfl, h4, h3⟩))
theorem kl_turn (x y : GuidePoint) : lexLe (kl (turnP x)) (kl (turnP y)) = true ↔ lexLe (ke x) (ke y) = true := by
  unfold kl ke turnP
  dsimp only
  rw [lex_cons, lex_cons, lex_cons, lex_cons, lex_cons, lex_cons]
  have e : (lexLe [] [] = true) = True := eq_true rfl
  rw [e, and_true, and_true]
  constructor
  · intro h
    omega
  · intro h
    omega
/- ---- the law ---- -/
theorem contains_tot {l : Pts} {q : GuidePoint} (h : q ∈ l) : Tot (mSlicesContains l q) (fun b => b = true) := by
  unfold mSlicesContains mSlicesIndex
  refine tot_bind (R := fun r => 0 ≤ r) ?_ fun r hr => tot_some (decide_eq_true hr)
  refine tot_sum (I := fun _ => False) (R := fun r => 0 ≤ r) ?_ (fun _ h => h.elim) fun r hr => tot_some hr
  refine tot_imp (tot_forM (fun k _ => ∀ i x, i < k → l[i]? = some x → x ≠ q) (fun r => 0 ≤ r) (fun i x hi => absurd hi (by omega)) fun k _ _ hk hi => ?_) fun o ho => ?_
  · unfold mSlicesIndex_L61
    refine tot_idn (by omega) fun x hx => tot_ite (fun _ => tot_some (show (0 : Int) ≤ (k : Int) by omega)) fun hne => tot_some (upto_succ hx hi ?_)
    rintro rfl
    exact hne ⟨rfl, rfl, rfl⟩
  · cases o with
    | inl _ => exact absurd rfl (mem_upto (P := fun x => x ≠ q) ho q h)
    | inr r => exact ho
theorem turnedPlain (d : ApiDay) (from_ to_ at_ m : Int) (hw : WDay d) : mFishkeep2GuideTurned d from_ to_ at_ m = some true := by
  have key : Tot (mFishkeep2GuideTurned d from_ to_ at_ m) (fun q => q = true) := by
    unfold mFishkeep2GuideTurned
    rw [awake_yes, Option.bind_some, if_pos rfl, guides_yes, Option.bind_some, if_pos rfl]
    refine tot_bind (R := fun q => q = false → (FDay d ∧ NDay d ∧ GDay d) ∧ (0 ≤ m ∧ m ≤ 28800) ∧ (0 ≤ from_ ∧ from_ ≤ 11) ∧ (0 ≤ to_ ∧ to_ ≤ 11) ∧ from_ ≠ to_ ∧ 0 ≤ at_ ∧ at_ ≤ 28800) ?_ fun q hq => ?_
    · refine tot_bind (gfault_tot hw) fun c hc => tot_ite (fun _ => tot_some fun h => by cases h) fun h => tot_bind (sfault_tot m from_ to_ at_) fun e he => tot_some fun h2 => ⟨hc (Decidable.of_not_not h), he ?_⟩
      have h2 := of_decide_eq_false h2
      exact Decidable.of_not_not h2
    refine tot_ite (fun _ => tot_some rfl) fun hqf => ?_
    obtain ⟨⟨hf, hn, hg⟩, hm, hfr, hto, hne, hat⟩ := hq (bt hqf)
    obtain ⟨T, U⟩ := d
    have hf : FDay ⟨T, []⟩ := ⟨hf.1, by simp, hf.2.2.1, fun g hg => by cases hg⟩
    have hn : NDay ⟨T, []⟩ := ⟨hn.1, fun g hg => by cases hg⟩
    have hg : GDay ⟨T, []⟩ := hg
    have hf' := turn_f hf
    have hn' := turn_n hn hg
    have hg' := turn_g hg
    have l1 := least_ok hf hn hg hm
    have l2 := least_ok hf' hn' hg' hm
    refine tot_eq (turned_eq hf hg) ?_
    dsimp only [unc2]
    -- the earliest
    refine tot_bind (R := fun r : Int × List GuideRide => (r = (9, []) ∧ ∀ x, PT T m from_ to_ x → x.Dep < at_) ∨ ∃ x, Least (PT T m from_ to_) (fun x => at_ ≤ x.Dep) ke x ∧ r.1 = 0 ∧ Way T m from_ to_ x r.2) ?_ fun ⟨c1, i⟩ hE => ?_
    · unfold mGuideEarliest
      rw [check2_at l1 hfr hto hne hat, Option.bind_some, if_neg (by decide)]
      refine tot_bind (earliest_tot hg hm from_ at_ to_) fun ⟨b, l⟩ h => ?_
      rcases h with ⟨h1, h2⟩ | ⟨x, h1, h2, h3, _⟩
      · obtain ⟨rfl, rfl⟩ := Prod.mk.inj h1
        exact tot_some (.inl ⟨rfl, h2⟩)
      · dsimp only at h2 h3
        subst h2
        exact tot_some (.inr ⟨x, h1, rfl, h3⟩)
    refine tot_chk (by omega) (by omega) ?_
    refine tot_bind (latest_tot hg' hm (check2_at l2 hto hfr (fun e => hne e.symm) (by omega))) fun ⟨c2, j⟩ hL => ?_
    dsimp only
    refine tot_bind (R := fun q => q = false) ?_ fun q hq => ?_
    · rcases hE with ⟨hE, h1⟩ | ⟨x, hx, hE, hwx⟩
      · obtain ⟨rfl, rfl⟩ := Prod.mk.inj hE
        rcases hL with ⟨hL, h2⟩ | ⟨y, hy, hL, hwy, _⟩
        · obtain ⟨rfl, rfl⟩ := Prod.mk.inj hL
          rw [if_neg (fun h => h rfl), if_neg (by decide)]
          exact tot_some rfl
        · have h3 := h1 _ (pt_back hy.is)
          have h4 : y.Arr ≤ 28800 - at_ := hy.fit
          have h5 : 28800 - y.Arr < at_ := h3
          omega
      · dsimp only at hE hwx
        subst hE
        rcases hL with ⟨hL, h2⟩ | ⟨y, hy, hL, hwy, _⟩
        · have h3 : 28800 - at_ < 28800 - x.Dep := h2 _ (pt_turn hx.is)
          have h4 : at_ ≤ x.Dep := hx.fit
          omega
        · dsimp only at hL hwy
          subst hL
          have e : y = turnP x := by
            refine kl_inj _ _ (lex_anti _ _ (hy.le _ (pt_turn hx.is) ?_) ?_)
            · have h4 : at_ ≤ x.Dep := hx.fit
              show 28800 - x.Dep ≤ 28800 - at_
              omega
            · have h5 := hx.le _ (pt_back hy.is) (by have h4 : y.Arr ≤ 28800 - at_ := hy.fit; show at_ ≤ 28800 - y.Arr; omega)
              rw [← kl_turn, turnP_twice] at h5
              exact h5
          subst e
          have w1 := hwx.len
          have w2 := hwy.len
          rw [if_neg (fun h => h rfl), if_pos rfl]
          refine tot_eq (fault_ok hg hm hwx.chain w1.1 w1.2) ?_
          rw [if_neg (by decide)]
          refine tot_eq (fault_ok hg' hm hwy.chain w2.1 w2.2) ?_
          rw [if_neg (by decide)]
          obtain ⟨b, hb⟩ : ∃ b, i[i.length - 1]? = some b := ⟨_, List.getElem?_eq_getElem (by omega)⟩
          obtain ⟨r, hr⟩ : ∃ r, j[0]? = some r := ⟨_, List.getElem?_eq_getElem (by omega)⟩
          have e1 := (hwx.last b hb).2
          have e2 := (hwy.first r hr).2
          have e3 := hwx.rides
          have e4 := hwy.rides
          have e2 : (on (T.map turnT) r).Dep = 28800 - x.Arr := e2
          have e4 : x.Rides = (j.length : Int) := e4
          have xb := (ride_in hg (hwx.chain.1 b (List.mem_of_getElem? hb))).off_.2.1
          have xb : 0 ≤ (off T b).Arr ∧ (off T b).Arr ≤ 28800 := xb
          refine tot_eq (arrives_eq (d := ⟨T, []⟩) hwx.chain hb w1.2) (tot_eq (leaves_eq (d := ⟨T.map turnT, []⟩) hwy.chain hr) ?_)
          show Tot ((chk (28800 - (on (T.map turnT) r).Dep)).bind fun _ => if (off T b).Arr ≠ 28800 - (on (T.map turnT) r).Dep then some true else some (decide ((i.length : Int) ≠ (j.length : Int)))) _
          rw [e2]
          refine tot_chk (by omega) (by omega) ?_
          rw [if_neg (fun h => h (by omega))]
          exact tot_some (decide_eq_false fun h => h (by omega))
    subst hq
    rw [if_neg (by decide)]
    refine tot_bind (profile_tot hg hm (check2_no l1 hfr hto hne)) fun ⟨c3, o⟩ h3 => ?_
    try dsimp only
    refine tot_bind (profile_tot hg' hm (check2_no l2 hto hfr (fun e => hne e.symm))) fun ⟨c4, o'⟩ h4 => ?_
    obtain ⟨h3, ho⟩ := h3
    obtain ⟨h4, ho'⟩ := h4
    replace h3 : c3 = 0 := h3
    replace h4 : c4 = 0 := h4
    replace ho : Gd (ND (PT T m from_ to_)) o := ho
    replace ho' : Gd (ND (PT (T.map turnT) m to_ from_)) o' := ho'
    subst h3 h4
    have hlen := turn_len (fun x hx => nd_turn hx) (fun y hy => nd_back hy) ho ho'
    dsimp only
    refine tot_bind (R := fun r => r = (false, o, o')) ?_ fun r hr => ?_
    · rw [if_neg (fun h => h rfl), if_neg (fun h => h rfl)]
      refine ordM_tot (fun s t h1 h2 => h1.trans h2.symm) fun p hp => ordM_tot (fun s t h1 h2 => h1.trans h2.symm) fun p' hp' => tot_some ?_
      rw [gd_can ho hp, gd_can ho' hp', hp.length_eq, hp'.length_eq, hlen]
      simp
    subst hr
    dsimp only [unc3]
    rw [if_neg (by decide)]
    refine ordM_tot (fun s t h1 h2 => h1.trans h2.symm) fun p hp => ?_
    refine tot_sum (tot_forM (fun _ (l : Pts) => l = o') (fun _ => False) rfl fun k l _ hk hl => ?_) (fun _ _ => tot_some rfl) fun _ h => h.elim
    subst hl
    unfold mFishkeep2GuideTurned_L484
    refine tot_idn (by omega) fun x hx => ?_
    have hx := (ho.mem x).1 (hp.mem_iff.1 (List.mem_of_getElem? hx))
    have hb : (0 ≤ x.Dep ∧ x.Dep ≤ 28800) ∧ 0 ≤ x.Arr ∧ x.Arr ≤ 28800 := by
      obtain ⟨w, hw⟩ := hx.1
      have wl := hw.len
      obtain ⟨b, hb⟩ : ∃ b, w[w.length - 1]? = some b := ⟨_, List.getElem?_eq_getElem (by omega)⟩
      obtain ⟨r, hr⟩ : ∃ r, w[0]? = some r := ⟨_, List.getElem?_eq_getElem (by omega)⟩
      have e1 := (hw.last b hb).2
      have e2 := (hw.first r hr).2
      have xb := (ride_in hg (hw.chain.1 b (List.mem_of_getElem? hb))).off_.2.1
      have xr := (ride_in hg (hw.chain.1 r (List.mem_of_getElem? hr))).on_.2.2.1
      have xb : 0 ≤ (off T b).Arr ∧ (off T b).Arr ≤ 28800 := xb
      have xr : 0 ≤ (on T r).Dep ∧ (on T r).Dep ≤ 28800 := xr
      omega
    refine tot_chk (by omega) (by omega) (tot_chk (by omega) (by omega) ?_)
    refine tot_imp (P := fun (r : Pts ⊕ Bool) => r = Sum.inl l) (ordM_tot (fun s t h1 h2 => Eq.trans h1 (Eq.symm h2)) fun p' hp' => ?_) fun r hr => by rw [hr]; exact rfl
    refine tot_bind (contains_tot (l := p') (q := turnP x) (hp'.mem_iff.2 ((ho'.mem _).2 (nd_turn hx)))) fun b hb => ?_
    subst hb
    rw [if_pos rfl, gd_can ho' hp']
    exact tot_some rfl
  obtain ⟨q, h, rfl⟩ := key
  exact h
theorem turnedRow (d : ApiDay) (a b c e : Int) {K1 K2 K3 K4 : Prop} (k0 : WDay d) (_ : K1) (_ : K2) (_ : K3) (_ : K4) : mFishkeep2GuideTurned d a b c e = some true := turnedPlain d a b c e k0
end Go.Proofs.YtckgfeglhjiflaaDoor
