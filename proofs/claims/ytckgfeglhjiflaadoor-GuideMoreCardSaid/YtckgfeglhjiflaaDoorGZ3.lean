/- Plain: what the document's checks of a day let by; a day that may be is let by. Plain: the earliest journey, the profile; the program of this package is awake. Plain: how early each station is reached; a day with one train more. Plain: GuideMore answers true. -/
import Derived.Test.YtckgfeglhjiflaaDoorGZ1
import Derived.Test.YtckgfeglhjiflaaDoorGZ2
import Derived.KernelRfl
set_option linter.unusedVariables false
set_option linter.unusedSimpArgs false
namespace Go.Proofs.YtckgfeglhjiflaaDoor
open Go.RowKit Go.Fp
/- ==== GO ==== -/
/-- What the numbers of a train are. -/
def NT (t : ApiTrain) (L : List (List Int)) : Prop := [t.No, t.Stock] ∈ L ∧ (∀ s ∈ t.Stops, [s.Station, s.Track, s.Arr, s.Dep] ∈ L) ∧ ∀ g ∈ t.Legs, g ∈ L
theorem NT.app {t : ApiTrain} {L K : List (List Int)} (h : NT t L) : NT t (L ++ K) := ⟨List.mem_append_left _ h.1, fun s hs => List.mem_append_left _ (h.2.1 s hs), fun g hg => List.mem_append_left _ (h.2.2 g hg)⟩
theorem numbers_tot {d : ApiDay} (hf : FDay d) : Tot (mFishref2NumbersIn d) (fun L => (∀ g ∈ L, g.length ≤ 1000) ∧ (∀ t ∈ d.Trains, NT t L) ∧ ∀ g ∈ d.Turns, g ∈ L) := by
  unfold mFishref2NumbersIn
  have hf1 := hf.1
  have hf2 := hf.2.1
  refine tot_bind (tot_forS (fun k L => (∀ i t, i < k → d.Trains[i]? = some t → NT t L) ∧ L.length ≤ 20 * k ∧ ∀ g ∈ L, g.length ≤ 1000) ⟨fun i t hi => absurd hi (by omega), by simp, fun g hg => by cases hg⟩ fun j L _ hj hi => ?_) fun L hL => ?_
  · obtain ⟨hi, hl, hg⟩ := hi
    unfold mFishref2NumbersIn_L443
    refine tot_idn (by omega) fun t ht => ?_
    have ft := hf.2.2.1 t (List.mem_of_getElem? ht)
    have ft2 := ft.2.1
    have ft3 := ft.2.2.1
    refine tot_room (by omega) (by omega) ?_
    refine tot_bind (tot_forS (fun k K => (∃ X, K = L ++ [[t.No, t.Stock]] ++ X) ∧ (∀ i s, i < k → t.Stops[i]? = some s → [s.Station, s.Track, s.Arr, s.Dep] ∈ K) ∧ K.length ≤ L.length + 1 + k ∧ ∀ g ∈ K, g.length ≤ 1000) ⟨⟨[], by simp⟩, fun i t hi => absurd hi (by omega), by simp, fun g h => ?_⟩ fun i K _ hi2 hK => ?_) fun K hK => ?_
    · rcases List.mem_append.1 h with h | h
      · exact hg g h
      · rw [List.mem_singleton.1 h]; simp
    · obtain ⟨⟨X, hX⟩, hK, hkl, hkg⟩ := hK
      unfold mFishref2NumbersIn_L760
      refine tot_idn (by omega) fun s hs => tot_room (by omega) (by omega) (tot_some ⟨⟨X ++ [[s.Station, s.Track, s.Arr, s.Dep]], by rw [hX]; simp⟩, upto_succ hs (fun i q hi hq => List.mem_append_left _ (hK i q hi hq)) (List.mem_append_right _ (List.mem_singleton.2 rfl)), by simp; omega, fun g h => ?_⟩)
      rcases List.mem_append.1 h with h | h
      · exact hkg g h
      · rw [List.mem_singleton.1 h]; simp
    · obtain ⟨⟨X, hX⟩, hK, hkl, hkg⟩ := hK
      have hK := mem_upto hK
      refine tot_room (by omega) (by omega) (tot_some ⟨fun i u hi' hu => ?_, by simp; omega, fun g h => ?_⟩)
      · rcases Nat.lt_or_ge i j with h1 | h1
        · rw [hX]
          exact (hi i u h1 hu).app.app.app
        · have : i = j := by omega
          subst this
          rw [ht] at hu
          injection hu with hu
          subst hu
          refine ⟨List.mem_append_left _ ?_, fun s hs => List.mem_append_left _ (hK s hs), fun g hg => List.mem_append_right _ hg⟩
          rw [hX]
          simp
      · rcases List.mem_append.1 h with h | h
        · exact hkg g h
        · have := ft.2.2.2 g h
          omega
  · obtain ⟨hL, hl, hg⟩ := hL
    have hL := mem_upto hL
    refine tot_room (by omega) (by omega) (tot_some ⟨fun g h => ?_, fun t ht => (hL t ht).app, fun g hg => List.mem_append_right _ hg⟩)
    rcases List.mem_append.1 h with h | h
    · exact hg g h
    · have := hf.2.2.2 g h
      omega
theorem tfault_tot {d : ApiDay} (hw : WDay d) : Tot (mFishref2TextFault d) (fun c => c = 0 → FDay d ∧ NDay d) := by
  unfold mFishref2TextFault
  refine tot_bind (P := fun c => c = 0 → FDay d ∧ NDay d) (R := fun q => q = decide (12 < d.Trains.length ∨ 8 < d.Turns.length)) (tot_ite (fun h => tot_some (by simp; omega)) fun h => tot_some (by by_cases h2 : 8 < d.Turns.length <;> simp [h2] <;> omega)) fun q hq => ?_
  refine tot_ite (fun h => tot_some ?_) fun h => ?_
  · rw [hq] at h
    have h := of_decide_eq_true h
    exact fun h => absurd h (by decide)
  · have h := of_decide_eq_false (hq ▸ bt h)
    refine tot_sum (I := fun _ => ∀ t ∈ d.Trains, FTrain t) (R := fun c => c ≠ 0 ∧ ¬ FDay d) ?_ (fun _ h1 => ?_) fun c hc => tot_some fun h => absurd h hc.1
    · refine tot_imp (tot_forM (fun k _ => ∀ i t, i < k → d.Trains[i]? = some t → FTrain t) (fun c => c ≠ 0 ∧ ¬ FDay d) (fun i t hi => absurd hi (by omega)) fun j _ _ hj hi => ?_) fun o ho => ?_
      · unfold mFishref2TextFault_L410
        refine tot_idn (by omega) fun t ht => ?_
        have htm := List.mem_of_getElem? ht
        have ok := (hw.1.2 t htm).2.2
        have oks := ok.1.1
        have okl := ok.2.1
        refine tot_bind (R := fun q => q = decide (¬ (1 ≤ t.Stops.length ∧ t.Legs.length + 1 = t.Stops.length))) (tot_ite (fun h => tot_some (by simp; omega)) fun h => tot_chk (by omega) (by omega) (tot_some (by simp only [decide_eq_decide]; omega))) fun q hq => ?_
        refine tot_ite (fun h => tot_some ⟨by decide, fun hf => ?_⟩) fun h => ?_
        · have h := of_decide_eq_true (hq ▸ h)
          have := hf.2.2.1 t htm
          exact h ⟨this.1, this.2.2.1⟩
        · have h := of_decide_eq_false (hq ▸ bt h)
          refine tot_sum (I := fun _ => ∀ g ∈ t.Legs, 1 ≤ g.length) (R := fun o : Unit ⊕ Int => Sum.elim (fun _ => False) (fun c => c ≠ 0 ∧ ¬ FDay d) o) ?_ (fun _ h1 => ?_) fun c hc => ⟨_, rfl, by cases c with | inl _ => exact hc.elim | inr c => exact hc⟩
          · refine tot_imp (tot_forM (fun k _ => ∀ i g, i < k → t.Legs[i]? = some g → 1 ≤ g.length) (fun o : Unit ⊕ Int => Sum.elim (fun _ => False) (fun c => c ≠ 0 ∧ ¬ FDay d) o) (fun i g hi => absurd hi (by omega)) fun j _ _ hj hi => ?_) fun o ho => ?_
            · unfold mFishref2TextFault_L546
              refine tot_idn (by omega) fun g hg => tot_ite (fun h => tot_some ⟨by decide, fun hf => ?_⟩) fun h => tot_some (upto_succ hg hi (by omega))
              have := (hf.2.2.1 t htm).2.2.2 g (List.mem_of_getElem? hg)
              omega
            · cases o with
              | inl _ => exact mem_upto ho
              | inr _ => exact ho
          · refine tot_ite (fun h8 => tot_some ⟨by decide, fun hf => ?_⟩) fun h8 => ?_
            · have := (hf.2.2.1 t htm).2.1
              omega
            · refine tot_sum (I := fun _ => ∀ g ∈ t.Legs, g.length ≤ 4) (R := fun o : Unit ⊕ Int => Sum.elim (fun _ => False) (fun c => c ≠ 0 ∧ ¬ FDay d) o) ?_ (fun _ h2 => ?_) fun c hc => ⟨_, rfl, by cases c with | inl _ => exact hc.elim | inr c => exact hc⟩
              · refine tot_imp (tot_forM (fun k _ => ∀ i g, i < k → t.Legs[i]? = some g → g.length ≤ 4) (fun o : Unit ⊕ Int => Sum.elim (fun _ => False) (fun c => c ≠ 0 ∧ ¬ FDay d) o) (fun i g hi => absurd hi (by omega)) fun j _ _ hj hi => ?_) fun o ho => ?_
                · unfold mFishref2TextFault_L587
                  refine tot_idn (by omega) fun g hg => tot_ite (fun h => tot_some ⟨by decide, fun hf => ?_⟩) fun h => tot_some (upto_succ hg hi (by omega))
                  have := (hf.2.2.1 t htm).2.2.2 g (List.mem_of_getElem? hg)
                  omega
                · cases o with
                  | inl _ => exact mem_upto ho
                  | inr _ => exact ho
              · refine tot_some (upto_succ ht hi ⟨by omega, by omega, by omega, fun g hg => ⟨h1 g hg, h2 g hg⟩⟩)
      · cases o with
        | inl _ => exact mem_upto ho
        | inr _ => exact ho
    · refine tot_sum (I := fun _ => ∀ g ∈ d.Turns, 1 ≤ g.length ∧ g.length ≤ 12) (R := fun c => c ≠ 0 ∧ ¬ FDay d) ?_ (fun _ h2 => ?_) fun c hc => tot_some fun h => absurd h hc.1
      · refine tot_imp (tot_forM (fun k _ => ∀ i g, i < k → d.Turns[i]? = some g → 1 ≤ g.length ∧ g.length ≤ 12) (fun c => c ≠ 0 ∧ ¬ FDay d) (fun i t hi => absurd hi (by omega)) fun j _ _ hj hi => ?_) fun o ho => ?_
        · unfold mFishref2TextFault_L627
          refine tot_idn (by omega) fun g hg => tot_ite (fun h => tot_some ⟨by decide, fun hf => ?_⟩) fun h => tot_ite (fun h => tot_some ⟨by decide, fun hf => ?_⟩) fun h2 => tot_some (upto_succ hg hi (by omega))
          · have := hf.2.2.2 g (List.mem_of_getElem? hg)
            omega
          · have := hf.2.2.2 g (List.mem_of_getElem? hg)
            omega
        · cases o with
          | inl _ => exact mem_upto ho
          | inr _ => exact ho
      · have hf : FDay d := ⟨by omega, by omega, h1, h2⟩
        refine tot_bind (numbers_tot hf) fun L hL => ?_
        refine tot_sum (I := fun _ => ∀ g ∈ L, ∀ n ∈ g, 0 ≤ n ∧ n ≤ 999999) (R := fun c => c ≠ 0) ?_ (fun _ h3 => tot_some fun _ => ⟨hf, fun t ht => ?_, fun g hg => h3 g (hL.2.2 g hg)⟩) fun c hc => tot_some fun h => absurd h hc
        · refine tot_imp (tot_forM (fun k _ => ∀ i g, i < k → L[i]? = some g → ∀ n ∈ g, 0 ≤ n ∧ n ≤ 999999) (fun c => c ≠ 0) (fun i g hi => absurd hi (by omega)) fun j _ _ hj hi => ?_) fun o ho => ?_
          · unfold mFishref2TextFault_L676
            refine tot_idn (by omega) fun g hg => ?_
            refine tot_sum (I := fun _ => ∀ n ∈ g, 0 ≤ n ∧ n ≤ 999999) (R := fun o : Unit ⊕ Int => Sum.elim (fun _ => False) (fun c => c ≠ 0) o) ?_ (fun _ h4 => tot_some (upto_succ hg hi h4)) fun c hc => ⟨_, rfl, by cases c with | inl _ => exact hc.elim | inr c => exact hc⟩
            have hgl := hL.1 g (List.mem_of_getElem? hg)
            refine tot_imp (tot_forM (fun k _ => ∀ i n, i < k → g[i]? = some n → 0 ≤ n ∧ n ≤ 999999) (fun o : Unit ⊕ Int => Sum.elim (fun _ => False) (fun c => c ≠ 0) o) (fun i g hi => absurd hi (by omega)) fun j _ _ hj hi => ?_) fun o ho => ?_
            · unfold mFishref2TextFault_L757
              refine tot_idn (by omega) fun n hn => ?_
              rw [fwithin_eq, Option.bind_some]
              exact tot_ite (fun h => tot_some (upto_succ hn hi (of_decide_eq_true h))) fun h => tot_some (by show (2 : Int) ≠ 0; decide)
            · cases o with
              | inl _ => exact mem_upto ho
              | inr _ => exact ho
          · cases o with
            | inl _ => exact mem_upto ho
            | inr _ => exact ho
        · have h4 := hL.2.1 t ht
          exact ⟨h3 _ h4.1, fun s hs => h3 _ (h4.2.1 s hs), fun g hg => h3 g (h4.2.2 g hg)⟩
theorem gfault_tot {d : ApiDay} (hw : WDay d) : Tot (mFishref2GuideFault d) (fun c => c = 0 → FDay d ∧ NDay d ∧ GDay d) := by
  unfold mFishref2GuideFault
  refine tot_bind (tfault_tot hw) fun c hc => tot_ite (fun h => tot_some fun h0 => absurd h0 h) fun h => ?_
  obtain ⟨hf, hn⟩ := hc (Decidable.of_not_not h)
  have hf1 := hf.1
  refine tot_sum (I := fun _ => (∀ t ∈ d.Trains, GTrain t) ∧ ∀ (i j : Nat) (s t : ApiTrain), i < j → d.Trains[i]? = some s → d.Trains[j]? = some t → s.No ≠ t.No) (R := fun c => c ≠ 0) ?_ (fun _ h1 => tot_some fun _ => ⟨hf, hn, hf.1, h1.1, fun i j s t hs ht e => ?_⟩) fun c hc => tot_some fun h => absurd h hc
  · refine tot_imp (tot_forM (fun k _ => (∀ i t, i < k → d.Trains[i]? = some t → GTrain t) ∧ ∀ i j s t, j < k → i < j → d.Trains[i]? = some s → d.Trains[j]? = some t → s.No ≠ t.No) (fun c => c ≠ 0) ⟨fun i t hi => absurd hi (by omega), fun i j s t hi => absurd hi (by omega)⟩ fun j m _ hj ⟨hi, hd⟩ => ?_) fun o ho => ?_
    · unfold mFishref2GuideFault_L570
      refine tot_idn (by omega) fun t ht => ?_
      have htm := List.mem_of_getElem? ht
      have ft := hf.2.2.1 t htm
      have ft8 := ft.2.1
      rw [fwithin_eq, Option.bind_some]
      refine tot_ite (fun hno => ?_) fun _ => tot_some (show (2 : Int) ≠ 0 by decide)
      have hno := of_decide_eq_true hno
      have h0 := cutS_ok (l := d.Trains) (a := 0) (b := j) (by omega) (by omega)
      rw [show ((0 : Nat) : Int) = 0 from rfl, List.drop_zero] at h0
      refine tot_eq h0 ?_
      have htl : (d.Trains.take j).length = j := by rw [List.length_take]; omega
      refine tot_sum (I := fun _ => ∀ s ∈ d.Trains.take j, s.No ≠ t.No) (R := fun o : Unit ⊕ Int => Sum.elim (fun _ => False) (fun c => c ≠ 0) o) ?_ (fun _ hnew => ?_) fun c hc => ⟨_, rfl, by cases c with | inl _ => exact hc.elim | inr c => exact hc⟩
      · refine tot_imp (tot_forM (fun k _ => ∀ i s, i < k → (d.Trains.take j)[i]? = some s → s.No ≠ t.No) (fun o : Unit ⊕ Int => Sum.elim (fun _ => False) (fun c => c ≠ 0) o) (fun i g hi => absurd hi (by omega)) fun i _ _ hi' hi => ?_) fun o ho => ?_
        · unfold mFishref2GuideFault_L882
          refine tot_idn (by omega) fun s hs => tot_ite (fun _ => tot_some (by show (6 : Int) ≠ 0; decide)) fun hne => tot_some (upto_succ hs hi hne)
        · cases o with
          | inl _ => exact mem_upto ho
          | inr _ => exact ho
      · refine tot_ite (fun _ => tot_some (show (1 : Int) ≠ 0 by decide)) fun h2 => ?_
        refine tot_sum (I := fun _ => GStops t.Stops) (R := fun o : Unit ⊕ Int => Sum.elim (fun _ => False) (fun c => c ≠ 0) o) ?_ (fun _ h1 => tot_some ⟨upto_succ ht hi ⟨hno, h1⟩, fun i i' s s' h5 h6 hs hs' => ?_⟩) fun c hc => ⟨_, rfl, by cases c with | inl _ => exact hc.elim | inr c => exact hc⟩
        · refine tot_imp (tot_forM (fun k _ => ∀ i s, i < k → t.Stops[i]? = some s → StopIn s ∧ ∀ p, t.Stops[i - 1]? = some p → 0 < i → p.Dep < s.Arr) (fun o : Unit ⊕ Int => Sum.elim (fun _ => False) (fun c => c ≠ 0) o) (fun i g hi => absurd hi (by omega)) fun i _ _ hi' hi => ?_) fun o ho => ?_
          · unfold mFishref2GuideFault_L931
            refine tot_idn (by omega) fun s hs => ?_
            refine tot_bind (R := fun q => q = decide (¬ ((0 ≤ s.Station ∧ s.Station ≤ 11) ∧ (0 ≤ s.Arr ∧ s.Arr ≤ 28800) ∧ (0 ≤ s.Dep ∧ s.Dep ≤ 28800)))) ?_ fun q hq => ?_
            · rw [fwithin_eq, Option.bind_some]
              refine tot_ite (fun h1 => ?_) fun h1 => tot_some ?_
              · rw [fwithin_eq, Option.bind_some]
                refine tot_ite (fun h2 => ?_) fun h2 => tot_some ?_
                · rw [fwithin_eq, Option.bind_some]
                  refine tot_some ?_
                  have h1 := of_decide_eq_true h1
                  have h2 := of_decide_eq_true h2
                  by_cases h3 : 0 ≤ s.Dep ∧ s.Dep ≤ 28800 <;> simp [h1, h2, h3]
                · have h2 := of_decide_eq_false (bt h2)
                  simp [h2]
              · have h1 := of_decide_eq_false (bt h1)
                simp [h1]
            · refine tot_ite (fun _ => tot_some (by show (2 : Int) ≠ 0; decide)) fun hqf => ?_
              have hin := Decidable.of_not_not (of_decide_eq_false (hq ▸ bt hqf))
              refine tot_bind (R := fun q => q = false → s.Arr ≤ s.Dep ∧ ∀ p, t.Stops[i - 1]? = some p → 0 < i → p.Dep < s.Arr) ?_ fun q hq2 => ?_
              · have f8 := ft.2.1
                refine tot_ite (fun h1 => tot_some fun h => by cases h) fun h1 => tot_ite (fun h2 => tot_chk (by omega) (by omega) (tot_idx (by omega) (by have := ft.2.1; omega) fun p hp => tot_some fun h => ?_)) fun h2 => tot_some fun _ => ⟨by omega, fun p _ h3 => absurd h3 (by omega)⟩
                have h := of_decide_eq_false h
                have he : ((i : Int) - 1).toNat = i - 1 := by omega
                rw [he] at hp
                exact ⟨by omega, fun p' hp' _ => by rw [hp] at hp'; injection hp' with hp'; subst hp'; omega⟩
              · refine tot_ite (fun _ => tot_some (by show (5 : Int) ≠ 0; decide)) fun hqf2 => ?_
                have := hq2 (bt hqf2)
                exact tot_some (show ∀ (i' : Nat) (s' : ApiStop), i' < i + 1 → t.Stops[i']? = some s' → StopIn s' ∧ ∀ p, t.Stops[i' - 1]? = some p → 0 < i' → p.Dep < s'.Arr from fun i' s' hi2 hs' => by
                  rcases Nat.lt_or_ge i' i with h5 | h5
                  · exact hi i' s' h5 hs'
                  · have : i' = i := by omega
                    subst this
                    rw [hs] at hs'
                    injection hs' with hs'
                    subst hs'
                    exact ⟨⟨hin.1, hin.2.1, hin.2.2, this.1⟩, this.2⟩)
          · cases o with
            | inl _ =>
              have ho : ∀ i s, i < 0 + t.Stops.length → t.Stops[i]? = some s → _ := ho
              refine ⟨by omega, ft.2.1, fun i s hs => ho i s (by have := List.getElem?_eq_some_iff.1 hs; obtain ⟨h, _⟩ := this; omega) hs⟩
            | inr _ => exact ho
        · rcases Nat.lt_or_ge i' j with h7 | h7
          · exact hd i i' s s' h7 h6 hs hs'
          · have : i' = j := by omega
            subst this
            rw [ht] at hs'
            injection hs' with hs'
            subst hs'
            exact hnew s (List.mem_of_getElem? (i := i) (by rw [List.getElem?_take_of_lt h6]; exact hs))
    · cases o with
      | inl m =>
        obtain ⟨h1, h2⟩ := ho
        have hlt : ∀ {i : Nat} {t : ApiTrain}, d.Trains[i]? = some t → i < 0 + d.Trains.length := fun h => by obtain ⟨h, _⟩ := List.getElem?_eq_some_iff.1 h; omega
        exact ⟨mem_upto h1, fun i j s t hij hs ht => h2 i j s t (hlt ht) hij hs ht⟩
      | inr _ => exact ho
  · rcases Nat.lt_trichotomy i j with h5 | h5 | h5
    · exact absurd e (h1.2 i j s t h5 hs ht)
    · exact h5
    · exact absurd e.symm (h1.2 j i t s h5 ht hs)
theorem sfault_tot (m a c t : Int) : Tot (mFishref2SearchFault m a c t true true) (fun r => r = 0 → (0 ≤ m ∧ m ≤ 28800) ∧ (0 ≤ a ∧ a ≤ 11) ∧ (0 ≤ c ∧ c ≤ 11) ∧ a ≠ c ∧ 0 ≤ t ∧ t ≤ 28800) := by
  unfold mFishref2SearchFault
  rw [fwithin_eq, Option.bind_some]
  refine tot_ite (fun hm => ?_) fun _ => tot_some fun h => absurd h (by decide)
  have hm := of_decide_eq_true hm
  refine tot_bind (R := fun q => q = false → (0 ≤ a ∧ a ≤ 11) ∧ 0 ≤ c ∧ c ≤ 11) ?_ fun q hq => tot_ite (fun _ => tot_some fun h => absurd h (by decide)) fun hqf => ?_
  · rw [fwithin_eq, Option.bind_some]
    refine tot_ite (fun h1 => ?_) fun h1 => tot_some fun h => by cases h
    rw [if_pos rfl, fwithin_eq, Option.bind_some]
    exact tot_some fun h => ⟨of_decide_eq_true h1, by simpa using h⟩
  have hq := hq (bt hqf)
  rw [if_pos rfl, Option.bind_some]
  refine tot_ite (fun _ => tot_some fun h => absurd h (by decide)) fun hne => ?_
  have hne := of_decide_eq_false (bt hne)
  refine tot_bind (R := fun q => q = false → 0 ≤ t ∧ t ≤ 28800) ?_ fun q hq2 => tot_ite (fun _ => tot_some fun h => absurd h (by decide)) fun hqf => tot_some fun _ => ⟨hm, hq.1, hq.2, hne, hq2 (bt hqf)⟩
  rw [if_pos rfl, fwithin_eq, Option.bind_some]
  exact tot_some fun h => by simpa using h
/- ---- a day that may be ---- -/
theorem small64 {x : Int} (h : 0 ≤ x ∧ x ≤ 999999) : I64 x := ⟨by omega, by omega⟩
theorem wday_of {d : ApiDay} (hf : FDay d) (hn : NDay d) : WDay d := by
  have h1 := hf.1
  have h2 := hf.2.1
  refine ⟨⟨by omega, fun t ht => ?_⟩, ⟨by omega, fun g hg => ⟨by have := hf.2.2.2 g hg; omega, fun n h => small64 (hn.2 g hg n h)⟩⟩⟩
  have ft := hf.2.2.1 t ht
  have nt := hn.1 t ht
  have h3 := ft.2.1
  have h4 := ft.2.2.1
  refine ⟨small64 (nt.1 _ (by simp)), small64 (nt.1 _ (by simp)), ⟨by omega, fun s hs => ?_⟩, ⟨by omega, fun g hg => ⟨by have := ft.2.2.2 g hg; omega, fun n h => small64 (nt.2.2 g hg n h)⟩⟩⟩
  have ns := nt.2.1 s hs
  exact ⟨small64 (ns _ (by simp)), small64 (ns _ (by simp)), small64 (ns _ (by simp)), small64 (ns _ (by simp))⟩
theorem check_ok {d : ApiDay} (hf : FDay d) (hn : NDay d) (hg : GDay d) : mGuideCheck d = some 0 := by
  have key : Tot (mGuideCheck d) (fun c => c = 0) := by
    unfold mGuideCheck
    refine tot_bind (text_tot (wday_of hf hn)) fun ⟨b, c⟩ hc => ?_
    have hc1 : c = 0 := hc.2 hf hn
    subst hc1
    dsimp only [unc2]
    rw [if_neg (by decide)]
    refine tot_sum (I := fun _ => True) (R := fun _ => False) ?_ (fun _ _ => tot_some rfl) fun _ h => h.elim
    refine tot_imp (tot_forM (fun k m => ∀ x, mgetD m x false = true → ∃ i t, i < k ∧ d.Trains[i]? = some t ∧ t.No = x) (fun _ => False) (fun x h => by simp [mgetD, mget] at h) fun j m _ hj hi => ?_) fun o ho => ?_
    · unfold mGuideCheck_L703
      refine tot_idn (by omega) fun t ht => ?_
      have htm := List.mem_of_getElem? ht
      obtain ⟨hno, hs⟩ := hg.2.1 t htm
      have hs1 := hs.1
      have hs2 := hs.2.1
      rw [gwithin_eq, Option.bind_some, if_pos (decide_eq_true hno), Option.bind_some]
      refine tot_ite (fun h => ?_) fun h => ?_
      · obtain ⟨i, s, h1, h2, h3⟩ := hi _ h
        have := hg.2.2 i j s t h2 ht h3
        omega
      rw [if_neg (by omega)]
      refine tot_sum (I := fun _ => True) (R := fun _ => False) ?_ (fun _ _ => tot_some (show ∀ x, mgetD (mput m t.No true) x false = true → ∃ i t', i < j + 1 ∧ d.Trains[i]? = some t' ∧ t'.No = x from fun x hx => ?_)) fun _ h => h.elim
      · refine tot_imp (tot_forM (fun _ _ => True) (fun _ => False) trivial fun k _ _ hk _ => ?_) fun o ho => ho
        unfold mGuideCheck_L1189
        refine tot_idn (by omega) fun s hsk => ?_
        obtain ⟨⟨h1, h2, h3, h4⟩, h5⟩ := hs.2.2 k s hsk
        refine tot_bind (R := fun q => q = false) ?_ fun q hq => ?_
        · rw [gwithin_eq, Option.bind_some, if_pos (decide_eq_true h1), gwithin_eq, Option.bind_some, if_pos (decide_eq_true h2), gwithin_eq, Option.bind_some]
          exact tot_some (by simp [h3])
        subst hq
        rw [if_neg (by decide)]
        refine tot_bind (R := fun q => q = false) ?_ fun q hq => ?_
        · rw [if_neg (by omega)]
          refine tot_ite (fun h6 => tot_chk (by omega) (by omega) (tot_idx (by omega) (by omega) fun p hp => tot_some ?_)) fun _ => tot_some rfl
          rw [show ((k : Int) - 1).toNat = k - 1 by omega] at hp
          have := h5 p hp (by omega)
          exact decide_eq_false (by omega)
        subst hq
        rw [if_neg (by decide)]
        exact tot_some trivial
      · rw [mgd_put] at hx
        split at hx
        · rename_i he
          exact ⟨j, t, by omega, ht, he⟩
        · obtain ⟨i, s, h1, h2, h3⟩ := hi x hx
          exact ⟨i, s, by omega, h2, h3⟩
    · cases o with
      | inl _ => trivial
      | inr _ => exact ho
  obtain ⟨c, h, rfl⟩ := key
  exact h
theorem least_ok {d : ApiDay} {m : Int} (hf : FDay d) (hn : NDay d) (hg : GDay d) (hm : 0 ≤ m ∧ m ≤ 28800) : mGuideCheckLeast d m = some 0 := by
  unfold mGuideCheckLeast
  rw [check_ok hf hn hg, Option.bind_some, if_neg (by decide), gwithin_eq, Option.bind_some, if_pos (decide_eq_true hm)]
theorem check2_no {d : ApiDay} {m a c : Int} (h1 : mGuideCheckLeast d m = some 0) (ha : 0 ≤ a ∧ a ≤ 11) (hc : 0 ≤ c ∧ c ≤ 11) (hne : a ≠ c) : mGuideCheck_2 d m a c [] = some 0 := by
  unfold mGuideCheck_2
  rw [h1, Option.bind_some, if_neg (by decide), gwithin_eq, Option.bind_some, if_pos (decide_eq_true ha), gwithin_eq, Option.bind_some, Option.bind_some, if_neg (by simp [hc]), if_neg hne]
  rfl
theorem check2_at {d : ApiDay} {m a c t : Int} (h1 : mGuideCheckLeast d m = some 0) (ha : 0 ≤ a ∧ a ≤ 11) (hc : 0 ≤ c ∧ c ≤ 11) (hne : a ≠ c) (ht : 0 ≤ t ∧ t ≤ 28800) : mGuideCheck_2 d m a c [t] = some 0 := by
  have key : Tot (mGuideCheck_2 d m a c [t]) (fun r => r = 0) := by
    unfold mGuideCheck_2
    rw [h1, Option.bind_some, if_neg (by decide), gwithin_eq, Option.bind_some, if_pos (decide_eq_true ha), gwithin_eq, Option.bind_some, Option.bind_some, if_neg (by simp [hc]), if_neg hne]
    refine tot_sum (tot_forM (fun _ _ => True) (fun _ => False) trivial fun j _ _ hj _ => ?_) (fun _ _ => tot_some rfl) fun _ h => h.elim
    unfold mGuideCheck_2_L92
    refine tot_idn (by simpa using hj) fun x hx => ?_
    have hx := List.mem_of_getElem? hx
    rw [List.mem_singleton] at hx
    subst hx
    rw [gwithin_eq, Option.bind_some, if_pos (decide_eq_true ht)]
    exact tot_some trivial
  obtain ⟨c, h, rfl⟩ := key
  exact h
/- ==== GP ==== -/
/-- The least by an order of those points that are asked for. -/
structure Least (T : GuidePoint → Prop) (ok : GuidePoint → Prop) (k : GuidePoint → List Int) (x : GuidePoint) : Prop where
  is : T x
  fit : ok x
  le : ∀ y, T y → ok y → lexLe (k x) (k y) = true
theorem least_uniq {T ok : GuidePoint → Prop} {k : GuidePoint → List Int} (hk : ∀ a b, k a = k b → a = b) {x y : GuidePoint} (h1 : Least T ok k x) (h2 : Least T ok k y) : x = y := hk _ _ (lex_anti _ _ (h1.le y h2.is h2.fit) (h2.le x h1.is h1.fit))
def ke (p : GuidePoint) : List Int := [p.Arr, p.Rides, -p.Dep]
theorem ke_inj (a b : GuidePoint) (h : ke a = ke b) : a = b := by
  cases a; cases b
  simp [ke] at h
  simp only [GuidePoint.mk.injEq]
  omega
theorem del1_eq (x : Int) : mSlicesDeleteFunc x = gDel (fun p => decide (p.Dep < x)) := rfl
theorem min1_eq : mSlicesMinFunc = gMin mGuideNetEarliest_2 := rfl
theorem cmp_neg (b a : Int) : mCmpCompare b a = mCmpCompare (-a) (-b) := by
  rw [compare_eq, compare_eq]
  have h1 : (-a < -b) = (b < a) := propext (by omega)
  have h2 : (-b < -a) = (a < b) := propext (by omega)
  simp only [h1, h2]
theorem cmp1_tot (a b : GuidePoint) : Tot (mGuideNetEarliest_2 a b) (fun z => z < 0 ↔ ¬ lexLe (ke b) (ke a) = true) := by
  unfold mGuideNetEarliest_2
  obtain ⟨v, h1, h2⟩ := cmp3 a.Arr a.Rides (-a.Dep) b.Arr b.Rides (-b.Dep)
  have e : mCmpCompare b.Dep a.Dep = mCmpCompare (-a.Dep) (-b.Dep) := cmp_neg _ _
  rw [e, h1, Option.bind_some]
  exact tot_some h2
section
variable {d : ApiDay} {m : Int}
theorem pts_len (hd : GDay d) {from_ to_ : Int} {o l : Pts} (ho : Gd (PT d.Trains m from_ to_) o) (hl : l.Perm o) : l.length ≤ 60000 := by
  rw [hl.length_eq]
  exact Nat.le_trans (ho.nd.length_le_of_subset fun x hx => pt_all ((ho.mem x).1 hx)) (allPt_len hd)
/-- What Earliest answers: the journey of the least point, or that there is none. -/
theorem earliest_tot (hd : GDay d) (hm : 0 ≤ m ∧ m ≤ 28800) (from_ at_ to_ : Int) : Tot (mGuideNetEarliest (⟨d, m⟩ : GuideNet) from_ at_ to_) (fun r => (r = (false, []) ∧ ∀ x, PT d.Trains m from_ to_ x → x.Dep < at_) ∨ ∃ x, Least (PT d.Trains m from_ to_) (fun x => at_ ≤ x.Dep) ke x ∧ r.1 = true ∧ Way d.Trains m from_ to_ x r.2 ∧ mGuideNetLeastOf (⟨d, m⟩ : GuideNet) from_ to_ x = some r.2) := by
  unfold mGuideNetEarliest
  refine tot_bind (points_tot hd hm from_ to_) fun o ho => ?_
  refine ordM_tot (fun s t h1 h2 => ?_) fun l hl => ?_
  · rcases h1 with ⟨h1, h3⟩ | ⟨x, hx, h1, _, h3⟩
    · rcases h2 with ⟨h2, _⟩ | ⟨y, hy, _⟩
      · rw [h1, h2]
      · have h5 := h3 y hy.is
        have h6 : at_ ≤ y.Dep := hy.fit
        omega
    · rcases h2 with ⟨_, h4⟩ | ⟨y, hy, h2, _, h4⟩
      · have h5 := h4 x hx.is
        have h6 : at_ ≤ x.Dep := hx.fit
        omega
      · have e := least_uniq ke_inj hx hy
        subst e
        rw [h3] at h4
        injection h4 with h4
        exact Prod.ext (h1.trans h2.symm) h4
  · have hlen := pts_len hd ho hl
    have hmem : ∀ x, x ∈ l.filter (fun p => !decide (p.Dep < at_)) ↔ PT d.Trains m from_ to_ x ∧ at_ ≤ x.Dep := fun x => by
      rw [List.mem_filter, hl.mem_iff, ho.mem]
      simp
    rw [del1_eq]
    refine tot_bind (gDel_tot _ hlen) fun q hq => ?_
    subst hq
    have hfl := List.length_filter_le (fun p => !decide (p.Dep < at_)) l
    refine tot_ite (fun h0 => tot_some (.inl ⟨rfl, fun x hx => ?_⟩)) fun h0 => ?_
    · have h0 : l.filter (fun p => !decide (p.Dep < at_)) = [] := List.length_eq_zero_iff.1 (by omega)
      refine Decidable.byContradiction fun hc => ?_
      have := (hmem x).2 ⟨hx, by omega⟩
      rw [h0] at this
      cases this
    · rw [min1_eq]
      refine tot_bind (gMin_tot _ (k := ke) cmp1_tot (by omega) (by omega)) fun ⟨a, b, c⟩ ⟨h1, h2⟩ => ?_
      dsimp only at h1 h2
      dsimp only [unc3]
      have hx := (hmem _).1 h1
      obtain ⟨way, h3, h4⟩ := leastOf_tot hd hm hx.1
      refine tot_eq h3 (tot_some (.inr ⟨⟨a, b, c⟩, ⟨hx.1, hx.2, fun y hy hy2 => h2 y ((hmem y).2 ⟨hy, hy2⟩)⟩, rfl, h4, h3⟩))
/- ---- the profile ---- -/
def Dom (x y : GuidePoint) : Prop := ¬ (y.Dep = x.Dep ∧ y.Arr = x.Arr ∧ y.Rides = x.Rides) ∧ x.Dep ≤ y.Dep ∧ y.Arr ≤ x.Arr ∧ y.Rides ≤ x.Rides
instance (x y : GuidePoint) : Decidable (Dom x y) := by unfold Dom; infer_instance
theorem prof_eq (y x : GuidePoint) : mGuideProfile_1 y x.Dep x.Arr x.Rides = some (decide (Dom x y)) := by
  unfold mGuideProfile_1 Dom
  by_cases h1 : y.Dep = x.Dep ∧ y.Arr = x.Arr ∧ y.Rides = x.Rides
  · rw [if_pos h1, Option.bind_some]
    simp [h1]
  · rw [if_neg h1]
    by_cases h2 : x.Dep ≤ y.Dep
    · rw [if_pos h2]
      by_cases h3 : y.Arr ≤ x.Arr
      · rw [if_pos h3, Option.bind_some]
        simp [h1, h2, h3]
      · rw [if_neg h3, Option.bind_some]
        simp [h3]
    · rw [if_neg h2, Option.bind_some]
      simp [h2]
theorem has_tot (l : Pts) (x : GuidePoint) : Tot (mSlicesContainsFunc x.Dep x.Arr x.Rides l) (fun b => b = true ↔ ∃ y ∈ l, Dom x y) := by
  unfold mSlicesContainsFunc mSlicesIndexFunc_2
  have e : (fun k => mSlicesIndexFunc_2_L64 x.Dep x.Arr x.Rides l k) = gIdxL (fun y => decide (Dom x y)) l := by
    funext k s
    unfold mSlicesIndexFunc_2_L64 gIdxL
    simp only [prof_eq]
  show Tot (Option.bind (Option.bind (forM (fun k => mSlicesIndexFunc_2_L64 x.Dep x.Arr x.Rides l k) l.length 0 ()) _) _) _
  rw [e]
  refine tot_bind (R := fun r => (r = -1 ∧ ∀ y ∈ l, decide (Dom x y) = false) ∨ ∃ k : Nat, r = (k : Int) ∧ (∃ y, l[k]? = some y ∧ decide (Dom x y) = true) ∧ ∀ y ∈ l.take k, decide (Dom x y) = false) (gIdx_tot (fun y => decide (Dom x y))) fun r hr => tot_some ?_
  rcases hr with ⟨rfl, h⟩ | ⟨k, rfl, ⟨y, h1, h2⟩, _⟩
  · refine ⟨fun h2 => by simp at h2, fun ⟨y, hy, h2⟩ => absurd h2 (of_decide_eq_false (h y hy))⟩
  · exact ⟨fun _ => ⟨y, List.mem_of_getElem? h1, of_decide_eq_true h2⟩, fun _ => by simp⟩
/-- The points that no other one is as good as. -/
def ND (T : GuidePoint → Prop) (x : GuidePoint) : Prop := T x ∧ ∀ y, T y → ¬ Dom x y
theorem profile_tot (hd : GDay d) (hm : 0 ≤ m ∧ m ≤ 28800) {from_ to_ : Int} (hc : mGuideCheck_2 d m from_ to_ [] = some 0) : Tot (mGuideProfile d from_ to_ m) (fun r => r.1 = 0 ∧ Gd (ND (PT d.Trains m from_ to_)) r.2) := by
  unfold mGuideProfile
  rw [hc, Option.bind_some, if_neg (by decide)]
  refine tot_bind (points_tot hd hm from_ to_) fun o ho => ordM_tot (fun s t h1 h2 => Prod.ext (h1.1.trans h2.1.symm) (gd_uniq h1.2 h2.2)) fun l hl => ?_
  have hlen := pts_len hd ho hl
  refine tot_bind (R := fun (s : Pts) => s = l.filter fun x => decide (∀ y ∈ l, ¬ Dom x y)) ?_ fun s hs => tot_some ⟨rfl, canB_srt _, ?_, fun x => ?_⟩
  · refine tot_imp (tot_forS (fun k (s : Pts) => s = (l.take k).filter fun x => decide (∀ y ∈ l, ¬ Dom x y)) (by simp) fun k s _ hk hs => ?_) fun s hs => ?_
    · unfold mGuideProfile_L154
      have hk : k < l.length := by omega
      have hsl : s.length ≤ k := by
        rw [hs]
        have h1 := List.length_filter_le (fun x => decide (∀ y ∈ l, ¬ Dom x y)) (l.take k)
        rw [List.length_take] at h1
        omega
      refine tot_idn hk fun x hx => tot_bind (has_tot l x) fun b hb => tot_ite (fun h => tot_some ?_) fun h => tot_room (by omega) (by omega) (tot_some ?_)
      · obtain ⟨y, h1, h2⟩ := hb.1 h
        rw [List.take_add_one, hx, List.filter_append, hs]
        have : decide (∀ y ∈ l, ¬ Dom x y) = false := decide_eq_false fun hh => hh y h1 h2
        simp [this]
      · have : decide (∀ y ∈ l, ¬ Dom x y) = true := decide_eq_true fun y h1 h2 => h (hb.2 ⟨y, h1, h2⟩)
        rw [List.take_add_one, hx, List.filter_append, hs, show (some x).toList = [x] from rfl, List.filter_cons, if_pos this]
        rfl
    · have hs : s = (l.take (0 + l.length)).filter fun x => decide (∀ y ∈ l, ¬ Dom x y) := hs
      rw [Nat.zero_add, List.take_length] at hs
      exact hs
  · rw [(canB_perm kGuidePoint s).nodup_iff, hs]
    exact (hl.nodup_iff.2 ho.nd).filter _
  · have hm' : ∀ y, y ∈ l ↔ PT d.Trains m from_ to_ y := fun y => by rw [hl.mem_iff, ho.mem]
    show x ∈ canB kGuidePoint s ↔ _
    rw [(canB_perm kGuidePoint s).mem_iff, hs, List.mem_filter, hm']
    refine and_congr_right fun _ => ?_
    rw [decide_eq_true_iff]
    exact ⟨fun h y hy => h y ((hm' y).2 hy), fun h y hy => h y ((hm' y).1 hy)⟩
end
/- ---- a day of one train ---- -/
def D1 : ApiDay := ⟨[(⟨1, 0, [(⟨0, 0, 5, 5⟩ : ApiStop), (⟨1, 0, 9, 9⟩ : ApiStop)], [[0]]⟩ : ApiTrain)], []⟩
def r1 : GuideRide := ⟨0, 0, 1⟩
theorem d1_f : FDay D1 := by simp [D1, FDay, FTrain]
theorem d1_n : NDay D1 := by simp [D1, NDay]
theorem d1_g : GDay D1 := by
  refine ⟨by simp [D1], fun t ht => ?_, fun i j s t hs ht _ => ?_⟩
  · simp only [D1, List.mem_singleton] at ht
    subst ht
    refine ⟨by simp, by simp, by simp, fun i s hs => ?_⟩
    rcases (by have := (List.getElem?_eq_some_iff.1 hs).1; simp at this; omega : i = 0 ∨ i = 1) with rfl | rfl
    · simp at hs
      subst hs
      exact ⟨by simp [StopIn], fun p _ h => absurd h (by omega)⟩
    · simp at hs
      subst hs
      refine ⟨by simp [StopIn], fun p hp _ => ?_⟩
      simp at hp
      subst hp
      decide
  · have h1 := (List.getElem?_eq_some_iff.1 hs).1
    have h2 := (List.getElem?_eq_some_iff.1 ht).1
    simp [D1] at h1 h2
    omega
theorem d1_ride {r : GuideRide} (h : RideOk D1.Trains r) : r = r1 := by
  obtain ⟨⟨a, b⟩, c, e, f⟩ := h
  have b : r.Train < 1 := b
  have h0 : r.Train = 0 := by omega
  rw [h0] at f
  have f : r.Off < 2 := f
  cases r
  simp only at h0 c e f
  simp only [r1, GuideRide.mk.injEq]
  omega
theorem d1_ok : RideOk D1.Trains r1 := ⟨⟨by decide, by decide⟩, by decide, by decide, by decide⟩
theorem d1_way : Way D1.Trains 0 0 1 ⟨5, 9, 1⟩ [r1] := ⟨chain_one d1_ok, by simp, fun r hr => by simp at hr; subst hr; exact ⟨rfl, rfl⟩, fun r hr => by simp at hr; subst hr; exact ⟨rfl, rfl⟩, rfl⟩
theorem d1_one {x : GuidePoint} {l : List GuideRide} (h : Way D1.Trains 0 0 1 x l) : l = [r1] := by
  have hl := h.len
  match l, h with
  | [], h => simp at hl
  | [r], h => rw [d1_ride (h.chain.1 r (by simp))]
  | a :: b :: l, h =>
    have h1 := d1_ride (h.chain.1 a (by simp))
    have h2 := d1_ride (h.chain.1 b (by simp))
    have h3 := (h.chain.2 0 a b rfl rfl).1
    rw [h1, h2] at h3
    exact absurd rfl h3
theorem guides_yes : mFishkeep2Guides = some true := by
  have hl := least_ok (m := 0) d1_f d1_n d1_g (by omega)
  have he : mGuideEarliest D1 0 0 1 0 = some (0, [r1]) := by
    unfold mGuideEarliest
    rw [check2_at hl (by omega) (by omega) (by omega) (by omega), Option.bind_some, if_neg (by decide)]
    obtain ⟨⟨a, l⟩, h1, h2⟩ := earliest_tot (d := D1) (m := 0) d1_g (by omega) 0 0 1
    rw [h1, Option.bind_some]
    rcases h2 with ⟨_, h2⟩ | ⟨x, hx, h2, h3, _⟩
    · have := h2 ⟨5, 9, 1⟩ ⟨_, d1_way⟩
      exact absurd this (by decide)
    · dsimp only at h2 h3
      subst h2
      rw [d1_one h3]
      rfl
  unfold mFishkeep2Guides
  show (mGuideEarliest D1 0 0 1 0).bind _ = _
  rw [he]
  rfl
theorem awake_yes : mFishkeep2AwakeGuide = some true := by
  unfold mFishkeep2AwakeGuide mGuideCheckJourney
  obtain ⟨c, h1, h2⟩ := least_tot (d := ⟨[], []⟩) (by simp [WDay, Lst]) (-1)
  have hc : c ≠ 0 := fun h => by have := (h2 h).2.1; omega
  rw [h1, Option.bind_some, if_pos hc, Option.bind_some, decide_eq_true hc]
/- ==== GR ==== -/
/- ---- repeats ---- -/
theorem mul_all : ∀ n : Fin 21, mBitsMul (IntKind.wrap .u64 1) (IntKind.wrap .u64 (n.val : Int)) = some (0, (n.val : Int)) := by decide +kernel
theorem mul_small {n : Nat} (h : n ≤ 20) : mBitsMul (IntKind.wrap .u64 1) (IntKind.wrap .u64 (n : Int)) = some (0, (n : Int)) := mul_all ⟨n, by omega⟩
theorem wrap_all : ∀ n : Fin 21, IntKind.wrap .i64 (n.val : Int) = (n.val : Int) := by decide +kernel
theorem wrap_small {n : Nat} (h : n ≤ 20) : IntKind.wrap .i64 (n : Int) = (n : Int) := wrap_all ⟨n, by omega⟩
theorem take_rep (x y : Int) (a c k : Nat) (h : k ≤ a) : (List.replicate a x ++ List.replicate c y).take k = List.replicate k x := by
  rw [List.take_append_of_le_length (by rw [List.length_replicate]; exact h), List.take_replicate, Nat.min_eq_left h]
theorem drop_rep (x y : Int) (a c k : Nat) (h : a ≤ k) : (List.replicate a x ++ List.replicate c y).drop k = List.replicate (c - (k - a)) y := by
  obtain ⟨d, rfl⟩ : ∃ d, k = a + d := ⟨k - a, by omega⟩
  have := List.drop_length_add_append (l₁ := List.replicate a x) (l₂ := List.replicate c y) (i := d)
  rw [List.length_replicate] at this
  rw [this, List.drop_replicate]
  congr 1
  omega
theorem cpy_rep (x y : Int) {n a m : Nat} (ha : a ≤ n) : cpyI (List.replicate a x ++ List.replicate (n - a) y) (a : Int) (n : Int) (List.replicate m x) = List.replicate (a + min m (n - a)) x ++ List.replicate (n - (a + min m (n - a))) y := by
  unfold cpyI cpy
  rw [Int.toNat_natCast, Int.toNat_natCast, take_rep x y a (n - a) a (Nat.le_refl _), List.take_replicate, List.length_replicate, drop_rep x y a (n - a) _ (by omega)]
  rw [List.replicate_append_replicate, Nat.min_comm (n - a) m]
  congr 2
  omega
theorem repeat_eq (x : Int) {n : Nat} (h : n ≤ 20) : mSlicesRepeat [x] (n : Int) = some (List.replicate n x) := by
  unfold mSlicesRepeat
  rw [if_neg (by omega)]
  show (mBitsMul (IntKind.wrap .u64 1) (IntKind.wrap .u64 (n : Int))).bind _ = _
  rw [mul_small h, Option.bind_some]
  simp only [unc2]
  rw [if_neg (by decide), Option.bind_some, decide_eq_false (by omega), if_neg (by decide), wrap_small h, mkLen_ok (by omega) (by omega), Option.bind_some]
  have e1 : cpyN 0 ((List.replicate n (0 : Int)).length : Int) [x] = ((min 1 n : Nat) : Int) := by
    unfold cpyN
    rw [List.length_replicate, Int.toNat_natCast]
    rfl
  have e2 : cpyI (List.replicate n (0 : Int)) 0 ((List.replicate n (0 : Int)).length : Int) [x] = List.replicate (min 1 n) x ++ List.replicate (n - min 1 n) 0 := by
    have := cpy_rep x 0 (n := n) (a := 0) (m := 1) (Nat.zero_le _)
    simp only [List.replicate_zero, List.nil_append, Nat.sub_zero, Nat.zero_add] at this
    rw [List.length_replicate]
    exact this
  rw [e1, e2]
  obtain ⟨t, h1, h2⟩ := loopM_inv (step := mSlicesRepeat_L612) (fun s => ∃ a : Nat, s = ((a : Int), List.replicate a x ++ List.replicate (n - a) 0) ∧ a ≤ n ∧ (a = 0 → n = 0)) (fun t => t = List.replicate n x) (fun s => n - s.1.toNat) (fun s hs => by
    obtain ⟨a, rfl, ha, h0⟩ := hs
    unfold mSlicesRepeat_L612
    simp only [unc2]
    have hl : (List.replicate a x ++ List.replicate (n - a) (0 : Int)).length = n := by
      rw [List.length_append, List.length_replicate, List.length_replicate]
      omega
    rw [hl]
    by_cases hc : a < n
    · have hcut1 := cutS_ok (l := List.replicate a x ++ List.replicate (n - a) (0 : Int)) (a := a) (b := n) ha (by omega)
      have hcut2 := cutS_ok (l := List.replicate a x ++ List.replicate (n - a) (0 : Int)) (a := 0) (b := a) (Nat.zero_le _) (by omega)
      rw [take_rep x 0 a (n - a) a (Nat.le_refl _), List.drop_zero] at hcut2
      have hN : cpyN (a : Int) (n : Int) (List.replicate a x) = ((min a (n - a) : Nat) : Int) := by
        unfold cpyN
        rw [List.length_replicate, Int.toNat_natCast, Int.toNat_natCast]
      rw [if_pos (by omega), hcut1, Option.bind_some, show cutS (List.replicate a x ++ List.replicate (n - a) (0 : Int)) 0 (a : Int) = some (List.replicate a x) from hcut2, Option.bind_some, hN, chk_ok (by omega) (by omega), Option.bind_some, cpy_rep x 0 ha]
      refine .inl ⟨_, rfl, ⟨a + min a (n - a), ?_, by omega, by omega⟩, ?_⟩
      · rw [Int.natCast_add]
      · simp only [Int.toNat_natCast]
        omega
    · rw [if_neg (by omega)]
      have : a = n := by omega
      subst this
      exact .inr ⟨_, rfl, by simp⟩) _ ⟨min 1 n, rfl, by omega, by omega⟩
  rw [h1, h2]
  rfl
/- ---- the least arrival at each station ---- -/
def Rch (A : Int → Int → Prop) (out : List Int) : Prop := out.length = 12 ∧ ∀ s : Nat, s < 12 → ∃ v, out[s]? = some v ∧ ((v = -1 ∧ ∀ a, ¬ A s a) ∨ (0 ≤ v ∧ A s v ∧ ∀ a, A s a → v ≤ a))
theorem rch_uniq {A : Int → Int → Prop} {o o' : List Int} (h : Rch A o) (h' : Rch A o') : o = o' := by
  refine List.ext_getElem? fun i => ?_
  rcases Nat.lt_or_ge i 12 with hi | hi
  · obtain ⟨v, e, hv⟩ := h.2 i hi
    obtain ⟨v', e', hv'⟩ := h'.2 i hi
    rw [e, e']
    have : v = v' := by
      rcases hv with ⟨h1, h2⟩ | ⟨h1, h2, h3⟩
      · rcases hv' with ⟨k1, k2⟩ | ⟨k1, k2, k3⟩
        · rw [h1, k1]
        · exact absurd k2 (h2 _)
      · rcases hv' with ⟨k1, k2⟩ | ⟨k1, k2, k3⟩
        · exact absurd h2 (k2 _)
        · have := h3 _ k2
          have := k3 _ h2
          omega
    rw [this]
  · rw [List.getElem?_eq_none (by rw [h.1]; exact hi), List.getElem?_eq_none (by rw [h'.1]; exact hi)]
theorem rch_iff {A B : Int → Int → Prop} {o : List Int} (h : Rch A o) (e : ∀ s a, A s a ↔ B s a) : Rch B o := ⟨h.1, fun s hs => by
  obtain ⟨v, h1, h2⟩ := h.2 s hs
  refine ⟨v, h1, ?_⟩
  rcases h2 with ⟨h2, h3⟩ | ⟨h2, h3, h4⟩
  · exact .inl ⟨h2, fun a ha => h3 a ((e _ _).2 ha)⟩
  · exact .inr ⟨h2, (e _ _).1 h3, fun a ha => h4 a ((e _ _).2 ha)⟩⟩
theorem rch_none : Rch (fun _ _ => False) (List.replicate 12 (-1)) := ⟨by simp, fun s hs => ⟨-1, by rw [List.getElem?_replicate, if_pos hs], .inl ⟨rfl, fun _ h => h⟩⟩⟩
theorem rch_put {A : Int → Int → Prop} {o : List Int} (h : Rch A o) {q : Int} {a v : Int} (hs : 0 ≤ q ∧ q ≤ 11) (ha : 0 ≤ a) (hv : o[q.toNat]? = some v) (hc : v < 0 ∨ a < v) : Rch (fun s b => A s b ∨ (q = s ∧ a = b)) (put o q a) := by
  refine ⟨by rw [put_length]; exact h.1, fun s hs' => ?_⟩
  obtain ⟨u, h1, h2⟩ := h.2 s hs'
  by_cases e : q.toNat = s
  · refine ⟨a, ?_, .inr ⟨ha, .inr ⟨by omega, rfl⟩, fun b hb => ?_⟩⟩
    · rw [put, e, List.getElem?_set_self (by rw [h.1]; exact hs')]
    · rcases hb with hb | ⟨_, hb⟩
      · rw [e, h1] at hv
        injection hv with hv
        rcases h2 with ⟨h2, h3⟩ | ⟨h2, h3, h4⟩
        · exact absurd hb (h3 b)
        · have := h4 b hb
          omega
      · omega
  · refine ⟨u, by rw [put, List.getElem?_set_ne e]; exact h1, ?_⟩
    rcases h2 with ⟨h2, h3⟩ | ⟨h2, h3, h4⟩
    · exact .inl ⟨h2, fun b hb => hb.elim (h3 b) fun ⟨h5, _⟩ => e (by omega)⟩
    · exact .inr ⟨h2, .inl h3, fun b hb => hb.elim (h4 b) fun ⟨h5, _⟩ => absurd (by omega) e⟩
theorem rch_keep {A : Int → Int → Prop} {o : List Int} (h : Rch A o) {q : Int} {a v : Int} (hs : 0 ≤ q ∧ q ≤ 11) (hv : o[q.toNat]? = some v) (hc : ¬ (v < 0 ∨ a < v)) : Rch (fun s b => A s b ∨ (q = s ∧ a = b)) o := by
  refine ⟨h.1, fun s hs' => ?_⟩
  obtain ⟨u, h1, h2⟩ := h.2 s hs'
  refine ⟨u, h1, ?_⟩
  by_cases e : q.toNat = s
  · rw [e, h1] at hv
    injection hv with hv
    rcases h2 with ⟨h2, h3⟩ | ⟨h2, h3, h4⟩
    · omega
    · exact .inr ⟨h2, .inl h3, fun b hb => hb.elim (h4 b) fun ⟨_, h5⟩ => by omega⟩
  · rcases h2 with ⟨h2, h3⟩ | ⟨h2, h3, h4⟩
    · exact .inl ⟨h2, fun b hb => hb.elim (h3 b) fun ⟨h5, _⟩ => e (by omega)⟩
    · exact .inr ⟨h2, .inl h3, fun b hb => hb.elim (h4 b) fun ⟨h5, _⟩ => absurd (by omega) e⟩
theorem rb2 : mGuideReach_L10285 = mGuideReach_L8493 := rfl
theorem rb3 : mGuideReach_L12077 = mGuideReach_L8493 := rfl
theorem rb4 : mGuideReach_L13869 = mGuideReach_L8493 := rfl
section
variable {d : ApiDay} {m : Int}
theorem rbody_tot (hd : GDay d) {A : Int → Int → Prop} {p : GuidePlace} (hp : PlOk d.Trains p) {o : List Int} (h : Rch A o) : Tot (mGuideReach_L8493 d (p, true) o) (fun r => ∃ o', r = .inl o' ∧ Rch (fun s a => A s a ∨ ((sp d.Trains p).Station = s ∧ (sp d.Trains p).Arr = a)) o') := by
  unfold mGuideReach_L8493
  have hst : (0 ≤ (sp d.Trains p).Station ∧ (sp d.Trains p).Station ≤ 11) ∧ 0 ≤ (sp d.Trains p).Arr := by
    have h1 := tr_mem hp.1.1 hp.1.2
    have h2 := ((hd.2.1 _ h1).2.2.2 _ _ (stp_at hp.2.1 hp.2.2)).1
    exact ⟨h2.1, h2.2.1.1⟩
  obtain ⟨hs, ha⟩ := hst
  refine tot_eq (x := ((sp d.Trains p).Station, (sp d.Trains p).Track, (sp d.Trains p).Arr, (sp d.Trains p).Dep)) ?_ ?_
  · show (idx d.Trains p.train).bind _ = _
    rw [tr_idx hp.1.1 hp.1.2, Option.bind_some]
    show (idx (tr d.Trains p.train).Stops p.off).bind _ = _
    rw [stp_idx hp.2.1 hp.2.2, Option.bind_some]
    rfl
  generalize hq : sp d.Trains p = q at *
  dsimp only [unc4]
  have hlen : o.length = 12 := h.1
  refine tot_bind (R := fun b => ∃ v, o[q.Station.toNat]? = some v ∧ (b = true ↔ v < 0 ∨ q.Arr < v)) ?_ fun b ⟨v, hv, hb⟩ => ?_
  · refine tot_idx hs.1 (by omega) fun v hv => tot_ite (fun hc => tot_some ⟨v, hv, by simp [hc]⟩) fun hc => ?_
    refine tot_idx hs.1 (by omega) fun v' hv' => tot_some ⟨v, hv, ?_⟩
    rw [hv] at hv'
    injection hv' with hv'
    subst hv'
    rw [decide_eq_true_iff]
    omega
  · refine tot_ite (fun hc => ?_) fun hc => tot_some ⟨o, rfl, rch_keep h hs hv fun h1 => hc (hb.2 h1)⟩
    exact tot_idx hs.1 (by omega) fun v' hv' => tot_some ⟨_, rfl, rch_put h hs ha hv (hb.1 hc)⟩
theorem reach_lvl (hd : GDay d) {M : List GuidePlace} (hM : ∀ p ∈ M, PlOk d.Trains p) {A : Int → Int → Prop} {o : List Int} (ho : Rch A o) :
    Tot (ordM (fun p => forL (mGuideReach_L8493 d) p o) (tts M)) (fun r => ∃ o', r = .inl o' ∧ Rch (fun s a => A s a ∨ ∃ p ∈ M, (sp d.Trains p).Station = s ∧ (sp d.Trains p).Arr = a) o') := by
  refine ordM_tot (fun s t h1 h2 => ?_) fun l hl => ?_
  · obtain ⟨o1, rfl, h3⟩ := h1
    obtain ⟨o2, rfl, h4⟩ := h2
    rw [rch_uniq h3 h4]
  refine tot_imp (tot_forL (fun r s => ∃ B : Int → Int → Prop, Rch B s ∧ ∀ x a, (B x a ∨ ∃ e ∈ r, (sp d.Trains e.1).Station = x ∧ (sp d.Trains e.1).Arr = a) ↔ (A x a ∨ ∃ p ∈ M, (sp d.Trains p).Station = x ∧ (sp d.Trains p).Arr = a)) (fun _ => False) ⟨A, ho, fun x a => ?_⟩ fun e r s he ⟨B, h1, h2⟩ => ?_) fun r hr => ?_
  · refine or_congr_right ⟨fun ⟨e, h1, h2⟩ => ?_, fun ⟨p, h1, h2⟩ => ⟨(p, true), hl.mem_iff.2 (List.mem_map.2 ⟨p, h1, rfl⟩), h2⟩⟩
    obtain ⟨p, h3, rfl⟩ := List.mem_map.1 (hl.mem_iff.1 h1)
    exact ⟨p, h3, h2⟩
  · obtain ⟨p, h5, rfl⟩ := List.mem_map.1 (hl.mem_iff.1 he)
    refine tot_imp (rbody_tot hd (hM p h5) h1) fun r' hr' => ?_
    obtain ⟨o2, rfl, h6⟩ := hr'
    refine ⟨_, h6, fun x a => ?_⟩
    rw [← h2 x a]
    constructor
    · rintro ((h | h) | ⟨e, h, h'⟩)
      · exact .inl h
      · exact .inr ⟨_, List.mem_cons_self .., h⟩
      · exact .inr ⟨e, List.mem_cons_of_mem _ h, h'⟩
    · rintro (h | ⟨e, h, h'⟩)
      · exact .inl (.inl h)
      · rcases List.mem_cons.1 h with rfl | h
        · exact .inl (.inr h')
        · exact .inr ⟨e, h, h'⟩
  · cases r with
    | inr _ => exact hr.elim
    | inl s =>
      obtain ⟨B, h1, h2⟩ := hr
      exact ⟨s, rfl, rch_iff h1 fun x a => ⟨fun h => (h2 x a).1 (.inl h), fun h => ((h2 x a).2 h).elim id fun ⟨e, h, _⟩ => by cases h⟩⟩
/-- A chain of so many rides that ends at a station, and when. -/
def RA (T : List ApiTrain) (m : Int) (R0 : List GuideRide) (k : Nat) (s a : Int) : Prop := ∃ l b, CF T m R0 k l b ∧ (off T b).Station = s ∧ (off T b).Arr = a
theorem reach_step (hd : GDay d) {R0 : List GuideRide} {k : Nat} {g : List (GuidePlace × Bool)} (hg : Lvl d.Trains m R0 k g) {A : Int → Int → Prop} {o : List Int} (ho : Rch A o) :
    Tot (ordM (fun p => forL (mGuideReach_L8493 d) p o) g) (fun r => ∃ o', r = .inl o' ∧ Rch (fun s a => A s a ∨ RA d.Trains m R0 k s a) o') := by
  obtain ⟨M, rfl, hM⟩ := hg
  refine tot_imp (reach_lvl hd (lvl_ok hM) ho) fun r ⟨o', h1, h2⟩ => ⟨o', h1, rch_iff h2 fun s a => or_congr_right ⟨?_, ?_⟩⟩
  · rintro ⟨p, h3, h4⟩
    obtain ⟨l, b, h5, rfl⟩ := (hM p).1 h3
    exact ⟨l, b, h5, h4⟩
  · rintro ⟨l, b, h5, h4⟩
    exact ⟨plc b, (hM _).2 ⟨l, b, h5, rfl⟩, h4⟩
theorem ra_pt {from_ at_ s a : Int} {k : Nat} (hk : 1 ≤ k ∧ k ≤ 4) (h : RA d.Trains m (ridesL from_ at_ (-1) d.Trains 0) k s a) : ∃ x, PT d.Trains m from_ s x ∧ at_ ≤ x.Dep ∧ x.Arr = a := by
  obtain ⟨l, b, ⟨h1, h2, ⟨r, h3, h4⟩, h5⟩, h6, h7⟩ := h
  obtain ⟨_, e1, e2, _⟩ := mem_rides.1 h4
  refine ⟨⟨(on d.Trains r).Dep, a, (k : Int)⟩, ⟨l, h1, by omega, fun q hq => ?_, fun q hq => ?_, by show (k : Int) = _; omega⟩, e2, rfl⟩
  · rw [h3] at hq
    injection hq with hq
    subst hq
    exact ⟨e1, rfl⟩
  · rw [h2, h5] at hq
    injection hq with hq
    subst hq
    exact ⟨h6, h7⟩
theorem pt_ra {from_ at_ s : Int} {x : GuidePoint} (h : PT d.Trains m from_ s x) (ha : at_ ≤ x.Dep) : ∃ k : Nat, (1 ≤ k ∧ k ≤ 4) ∧ RA d.Trains m (ridesL from_ at_ (-1) d.Trains 0) k s x.Arr := by
  obtain ⟨l, h⟩ := h
  have hl := h.len
  obtain ⟨b, hb⟩ : ∃ b, l[l.length - 1]? = some b := ⟨_, List.getElem?_eq_getElem (by omega)⟩
  obtain ⟨r, hr⟩ : ∃ r, l[0]? = some r := ⟨_, List.getElem?_eq_getElem (by omega)⟩
  have hro := h.chain.1 r (List.mem_of_getElem? hr)
  have e1 := h.first r hr
  have e2 := h.last b hb
  exact ⟨l.length, hl, l, b, ⟨h.chain, rfl, ⟨r, hr, mem_rides.2 ⟨hro, e1.1, by omega, fun e => by have := hro.1.1; omega⟩⟩, hb⟩, e2⟩
theorem reach_tot (hd : GDay d) (hm : 0 ≤ m ∧ m ≤ 28800) {from_ at_ : Int} (hc : mGuideCheckLeast d m = some 0) (hf : 0 ≤ from_ ∧ from_ ≤ 11) (hat : 0 ≤ at_ ∧ at_ ≤ 28800) :
    Tot (mGuideReach d from_ at_ m) (fun r => r.1 = 0 ∧ r.2.length = 12 ∧ ∀ s : Int, 0 ≤ s → s ≤ 11 → s ≠ from_ → ∃ v, r.2[s.toNat]? = some v ∧ ((v = -1 ∧ ∀ x, PT d.Trains m from_ s x → x.Dep < at_) ∨ ((∃ x, PT d.Trains m from_ s x ∧ at_ ≤ x.Dep ∧ x.Arr = v) ∧ ∀ x, PT d.Trains m from_ s x → at_ ≤ x.Dep → v ≤ x.Arr))) := by
  unfold mGuideReach
  rw [hc, Option.bind_some, if_neg (by decide), gwithin_eq, Option.bind_some, if_pos (decide_eq_true hf), gwithin_eq, Option.bind_some, if_pos (decide_eq_true hat)]
  rw [show mSlicesRepeat [(-1)] 12 = some (List.replicate 12 (-1)) from repeat_eq (-1) (n := 12) (by omega), Option.bind_some]
  have hR : ∀ r ∈ ridesL from_ at_ (-1) d.Trains 0, RideOk d.Trains r := fun r hr => (mem_rides.1 hr).1
  refine tot_bind (R := fun s => Lvl d.Trains m (ridesL from_ at_ (-1) d.Trains 0) 1 s.1 ∧ Lvl d.Trains m (ridesL from_ at_ (-1) d.Trains 0) 2 s.2.1 ∧ Lvl d.Trains m (ridesL from_ at_ (-1) d.Trains 0) 3 s.2.2.1 ∧ Lvl d.Trains m (ridesL from_ at_ (-1) d.Trains 0) 4 s.2.2.2) ?_ fun ⟨g1, g2, g3, g4⟩ ⟨k1, k2, k3, k4⟩ => ?_
  · show Tot ((some (ridesL from_ at_ (-1) d.Trains 0)).bind _) _
    rw [Option.bind_some]
    refine tot_eq (x := ridesL from_ at_ (-1) d.Trains 0) ?_ ?_
    · unfold mSlicesCollect
      rw [appSeq_eq (by have := rides_len (d := d) hd (sta := from_) (at_ := at_) (nt := -1); simp only [List.length_nil]; omega)]
      rfl
    refine tot_bind (ends_tot hd hm hR) fun ⟨a1, a2, a3, a4⟩ ha => tot_some ha
  dsimp only at k1 k2 k3 k4
  dsimp only [unc4]
  rw [rb2, rb3, rb4]
  refine tot_bind (tot_bind (reach_step hd k1 rch_none) fun r ⟨o, e, h⟩ => by rw [e]; exact tot_some (P := Rch _) h) fun o1 h1 => tot_chk (by omega) (by omega) ?_
  refine tot_bind (tot_bind (reach_step hd k2 h1) fun r ⟨o, e, h⟩ => by rw [e]; exact tot_some (P := Rch _) h) fun o2 h2 => tot_chk (by omega) (by omega) ?_
  refine tot_bind (tot_bind (reach_step hd k3 h2) fun r ⟨o, e, h⟩ => by rw [e]; exact tot_some (P := Rch _) h) fun o3 h3 => tot_chk (by omega) (by omega) ?_
  refine tot_bind (tot_bind (reach_step hd k4 h3) fun r ⟨o, e, h⟩ => by rw [e]; exact tot_some (P := Rch _) h) fun o4 h4 => tot_chk (by omega) (by omega) ?_
  have hl4 : o4.length = 12 := h4.1
  refine tot_idx hf.1 (by omega) fun v hv => tot_some ⟨rfl, by rw [put_length]; exact hl4, fun s hs0 hs1 hne => ?_⟩
  obtain ⟨u, hu, h5⟩ := h4.2 s.toNat (by omega)
  rw [show ((s.toNat : Nat) : Int) = s by omega] at h5
  refine ⟨u, by show (put o4 from_ at_)[s.toNat]? = _; rw [put, List.getElem?_set_ne (by omega)]; exact hu, ?_⟩
  have all : ∀ {k : Nat} {a : Int}, (1 ≤ k ∧ k ≤ 4) → RA d.Trains m (ridesL from_ at_ (-1) d.Trains 0) k s a → ((((False ∨ RA d.Trains m (ridesL from_ at_ (-1) d.Trains 0) 1 s a) ∨ RA d.Trains m (ridesL from_ at_ (-1) d.Trains 0) 2 s a) ∨ RA d.Trains m (ridesL from_ at_ (-1) d.Trains 0) 3 s a) ∨ RA d.Trains m (ridesL from_ at_ (-1) d.Trains 0) 4 s a) := fun {k a} hk h => by
    obtain rfl | rfl | rfl | rfl : k = 1 ∨ k = 2 ∨ k = 3 ∨ k = 4 := by omega
    · exact .inl (.inl (.inl (.inr h)))
    · exact .inl (.inl (.inr h))
    · exact .inl (.inr h)
    · exact .inr h
  rcases h5 with ⟨h5, h6⟩ | ⟨_, h6, h7⟩
  · refine .inl ⟨h5, fun x hx => Decidable.byContradiction fun hc => ?_⟩
    obtain ⟨k, hk, h8⟩ := pt_ra hx (at_ := at_) (by omega)
    exact h6 _ (all hk h8)
  · refine .inr ⟨?_, fun x hx hx2 => ?_⟩
    · rcases h6 with (((h6 | h6) | h6) | h6) | h6
      · exact h6.elim
      · exact ra_pt (by omega) h6
      · exact ra_pt (by omega) h6
      · exact ra_pt (by omega) h6
      · exact ra_pt (by omega) h6
    · obtain ⟨k, hk, h8⟩ := pt_ra hx hx2
      exact h7 _ (all hk h8)
/-- Above each point stands one that no other one beats. -/
theorem nd_above (hd : GDay d) {from_ to_ : Int} : ∀ (n : Nat) (x : GuidePoint), PT d.Trains m from_ to_ x → (28800 - x.Dep + x.Arr + x.Rides).toNat ≤ n → ∃ y, ND (PT d.Trains m from_ to_) y ∧ x.Dep ≤ y.Dep ∧ y.Arr ≤ x.Arr := by
  have bd : ∀ x, PT d.Trains m from_ to_ x → (0 ≤ x.Dep ∧ x.Dep ≤ 28800) ∧ 0 ≤ x.Arr ∧ 1 ≤ x.Rides := fun x ⟨w, hw⟩ => by
    have wl := hw.len
    obtain ⟨b, hb⟩ : ∃ b, w[w.length - 1]? = some b := ⟨_, List.getElem?_eq_getElem (by omega)⟩
    obtain ⟨r, hr⟩ : ∃ r, w[0]? = some r := ⟨_, List.getElem?_eq_getElem (by omega)⟩
    have e1 := (hw.last b hb).2
    have e2 := (hw.first r hr).2
    have e3 := hw.rides
    have xb := (ride_in hd (hw.chain.1 b (List.mem_of_getElem? hb))).off_.2.1
    have xr := (ride_in hd (hw.chain.1 r (List.mem_of_getElem? hr))).on_.2.2.1
    have xb : 0 ≤ (off d.Trains b).Arr ∧ (off d.Trains b).Arr ≤ 28800 := xb
    have xr : 0 ≤ (on d.Trains r).Dep ∧ (on d.Trains r).Dep ≤ 28800 := xr
    omega
  intro n
  induction n with
  | zero => intro x hx h; have := bd x hx; omega
  | succ n ih =>
    intro x hx h
    by_cases hc : ∃ y, PT d.Trains m from_ to_ y ∧ Dom x y
    · obtain ⟨y, hy, h1, h2, h3, h4⟩ := hc
      have b1 := bd x hx
      have b2 := bd y hy
      obtain ⟨z, hz, h5, h6⟩ := ih y hy (by omega)
      exact ⟨z, hz, by omega, by omega⟩
    · exact ⟨x, ⟨hx, fun y hy hd => hc ⟨y, hy, hd⟩⟩, Int.le_refl _, Int.le_refl _⟩
end
/- ==== GS ==== -/
section
variable {T : List ApiTrain} {t : ApiTrain} {m : Int}
theorem tr_more {i : Int} (h0 : 0 ≤ i) (h1 : i < (T.length : Int)) : tr (T ++ [t]) i = tr T i := by
  rw [tr, tr, List.getD_eq_getElem?_getD, List.getD_eq_getElem?_getD, List.getElem?_append_left (by omega)]
theorem stp_more {i k : Int} (h0 : 0 ≤ i) (h1 : i < (T.length : Int)) : stp (T ++ [t]) i k = stp T i k := by rw [stp, stp, tr_more h0 h1]
theorem ride_more {r : GuideRide} (h : RideOk T r) : RideOk (T ++ [t]) r := by
  obtain ⟨⟨a, b⟩, c, e, f⟩ := h
  refine ⟨⟨a, ?_⟩, c, e, ?_⟩
  · rw [List.length_append]; omega
  · rw [tr_more a b]; exact f
theorem on_more {r : GuideRide} (h : RideOk T r) : on (T ++ [t]) r = on T r := stp_more h.1.1 h.1.2
theorem off_more {r : GuideRide} (h : RideOk T r) : off (T ++ [t]) r = off T r := stp_more h.1.1 h.1.2
theorem way_more {from_ to_ : Int} {x : GuidePoint} {l : List GuideRide} (h : Way T m from_ to_ x l) : Way (T ++ [t]) m from_ to_ x l := by
  refine ⟨⟨fun r hr => ride_more (h.chain.1 r hr), fun i a b ha hb => ?_⟩, h.len, fun r hr => ?_, fun r hr => ?_, h.rides⟩
  · have h1 := h.chain.2 i a b ha hb
    have oa := h.chain.1 a (List.mem_of_getElem? ha)
    have ob := h.chain.1 b (List.mem_of_getElem? hb)
    unfold Link at h1 ⊢
    rw [on_more ob, off_more oa]
    exact h1
  · rw [on_more (h.chain.1 r (List.mem_of_getElem? hr))]
    exact h.first r hr
  · rw [off_more (h.chain.1 r (List.mem_of_getElem? hr))]
    exact h.last r hr
theorem pt_more {from_ to_ : Int} {x : GuidePoint} (h : PT T m from_ to_ x) : PT (T ++ [t]) m from_ to_ x := let ⟨_, hl⟩ := h; ⟨_, way_more hl⟩
end
theorem best_tot {at_ : Int} (l : Pts) (hb : ∀ x ∈ l, 0 ≤ x.Arr) : Tot (forS (mFishkeep2GuideMore_L989 at_ l) l.length 0 (-1)) (fun v => (v = -1 ∧ ∀ x ∈ l, x.Dep < at_) ∨ ((∃ x ∈ l, at_ ≤ x.Dep ∧ x.Arr = v) ∧ ∀ x ∈ l, at_ ≤ x.Dep → v ≤ x.Arr)) := by
  refine tot_imp (tot_forS (fun k v => (v = -1 ∧ ∀ i x, i < k → l[i]? = some x → x.Dep < at_) ∨ ((∃ x ∈ l, at_ ≤ x.Dep ∧ x.Arr = v) ∧ ∀ i x, i < k → l[i]? = some x → at_ ≤ x.Dep → v ≤ x.Arr)) (.inl ⟨rfl, fun i x hi => absurd hi (by omega)⟩) fun k v _ hk hv => ?_) fun v hv => ?_
  · unfold mFishkeep2GuideMore_L989
    refine tot_idn (by omega) fun x hx => ?_
    have hm := List.mem_of_getElem? hx
    have hx0 := hb x hm
    refine tot_bind (R := fun b => b = true ↔ at_ ≤ x.Dep ∧ (v < 0 ∨ x.Arr < v)) ?_ fun b hb' => ?_
    · refine tot_ite (fun h1 => tot_ite (fun h2 => tot_some ⟨fun _ => ⟨h1, .inl h2⟩, fun _ => rfl⟩) fun h2 => tot_some ?_) fun h1 => tot_some ⟨fun h => Bool.noConfusion h, fun h => absurd h.1 h1⟩
      rw [decide_eq_true_iff]
      exact ⟨fun h => ⟨h1, .inr h⟩, fun h => h.2.elim (fun h => absurd h h2) id⟩
    · refine tot_ite (fun hc => tot_some ?_) fun hc => tot_some ?_
      · have h1 := hb'.1 hc
        refine .inr ⟨⟨x, hm, h1.1, rfl⟩, fun i y hi hy hy2 => ?_⟩
        rcases Nat.lt_or_ge i k with h2 | h2
        · rcases hv with ⟨_, h3⟩ | ⟨⟨z, hz, _, h5⟩, h3⟩
          · have := h3 i y h2 hy
            omega
          · have := h3 i y h2 hy hy2
            have := hb z hz
            omega
        · rw [show i = k by omega, hx] at hy
          injection hy with hy
          rw [hy]
          exact Int.le_refl _
      · have h1 : ¬ (at_ ≤ x.Dep ∧ (v < 0 ∨ x.Arr < v)) := fun h => hc (hb'.2 h)
        rcases hv with ⟨h2, h3⟩ | ⟨h2, h3⟩
        · refine .inl ⟨h2, fun i y hi hy => ?_⟩
          rcases Nat.lt_or_ge i k with h4 | h4
          · exact h3 i y h4 hy
          · rw [show i = k by omega, hx] at hy
            injection hy with hy
            subst hy
            omega
        · refine .inr ⟨h2, fun i y hi hy hy2 => ?_⟩
          rcases Nat.lt_or_ge i k with h4 | h4
          · exact h3 i y h4 hy hy2
          · rw [show i = k by omega, hx] at hy
            injection hy with hy
            subst hy
            omega
  · have all : ∀ {Q : GuidePoint → Prop}, (∀ i x, i < 0 + l.length → l[i]? = some x → Q x) → ∀ x ∈ l, Q x := fun h x hx => by
      obtain ⟨i, h1, h2⟩ := List.mem_iff_getElem.1 hx
      exact h i x (by omega) (by rw [List.getElem?_eq_getElem h1, h2])
    rcases hv with ⟨h2, h3⟩ | ⟨h2, h3⟩
    · exact .inl ⟨h2, all h3⟩
    · exact .inr ⟨h2, all h3⟩
theorem early_tot {D : List ApiTrain} {m from_ to_ at_ : Int} (hg : GDay ⟨D, []⟩) (hm : 0 ≤ m ∧ m ≤ 28800) (l1 : mGuideCheckLeast ⟨D, []⟩ m = some 0) (hfr : 0 ≤ from_ ∧ from_ ≤ 11) (hto : 0 ≤ to_ ∧ to_ ≤ 11) (hne : from_ ≠ to_) (hat : 0 ≤ at_ ∧ at_ ≤ 28800) :
    Tot (mGuideEarliest (⟨D, []⟩ : ApiDay) from_ at_ to_ m) (fun r : Int × List GuideRide => (r = (9, []) ∧ ∀ x, PT D m from_ to_ x → x.Dep < at_) ∨ ∃ x, Least (PT D m from_ to_) (fun x => at_ ≤ x.Dep) ke x ∧ r.1 = 0 ∧ Way D m from_ to_ x r.2) := by
  unfold mGuideEarliest
  rw [check2_at l1 hfr hto hne hat, Option.bind_some, if_neg (by decide)]
  refine tot_bind (earliest_tot hg hm from_ at_ to_) fun ⟨b, l⟩ h => ?_
  rcases h with ⟨h1, h2⟩ | ⟨x, h1, h2, h3, _⟩
  · obtain ⟨rfl, rfl⟩ := Prod.mk.inj h1
    exact tot_some (.inl ⟨rfl, h2⟩)
  · dsimp only at h2 h3
    subst h2
    exact tot_some (.inr ⟨x, h1, rfl, h3⟩)
theorem last_of {l : List GuideRide} (h : 1 ≤ l.length) : ∃ b, l[l.length - 1]? = some b := ⟨_, List.getElem?_eq_getElem (by omega)⟩
theorem morePlain (d : ApiDay) (t : ApiTrain) (from_ to_ at_ m : Int) (hw : WDay d) (ht : WTrain t) (hsz : d.Trains.length * 64 ≤ 140737488351232) : mFishkeep2GuideMore d t from_ to_ at_ m = some true := by
  have key : Tot (mFishkeep2GuideMore d t from_ to_ at_ m) (fun q => q = true) := by
    unfold mFishkeep2GuideMore
    rw [awake_yes, Option.bind_some, if_pos rfl, guides_yes, Option.bind_some, if_pos rfl]
    refine tot_eq (x := d.Trains ++ [t]) ?_ ?_
    · unfold mSlicesClone_2
      rw [room_ok (by omega) (by omega), Option.bind_some, Option.bind_some, room_ok (by omega) (by omega), Option.bind_some]
    have hw1 : WDay ⟨d.Trains, []⟩ := ⟨hw.1, by simp [Lst]⟩
    have hw2 : WDay ⟨d.Trains ++ [t], []⟩ := by
      refine ⟨⟨?_, fun a ha => ?_⟩, by simp [Lst]⟩
      · show (d.Trains ++ [t]).length ≤ _
        rw [List.length_append]
        simp only [List.length_cons, List.length_nil]
        omega
      · rcases List.mem_append.1 ha with h | h
        · exact hw.1.2 a h
        · rw [List.mem_singleton.1 h]
          exact ht
    refine tot_bind (R := fun q => q = false → (FDay ⟨d.Trains, []⟩ ∧ NDay ⟨d.Trains, []⟩ ∧ GDay ⟨d.Trains, []⟩) ∧ (FDay ⟨d.Trains ++ [t], []⟩ ∧ NDay ⟨d.Trains ++ [t], []⟩ ∧ GDay ⟨d.Trains ++ [t], []⟩) ∧ (0 ≤ m ∧ m ≤ 28800) ∧ (0 ≤ from_ ∧ from_ ≤ 11) ∧ (0 ≤ to_ ∧ to_ ≤ 11) ∧ from_ ≠ to_ ∧ 0 ≤ at_ ∧ at_ ≤ 28800) ?_ fun q hq => ?_
    · refine tot_bind (gfault_tot hw1) fun c hc => tot_ite (fun _ => tot_some fun h => by cases h) fun h => tot_bind (gfault_tot hw2) fun c2 hc2 => tot_ite (fun _ => tot_some fun h => by cases h) fun h' => tot_bind (sfault_tot m from_ to_ at_) fun e he => tot_some fun h2 => ⟨hc (Decidable.of_not_not h), hc2 (Decidable.of_not_not h'), he ?_⟩
      have h2 := of_decide_eq_false h2
      exact Decidable.of_not_not h2
    refine tot_ite (fun _ => tot_some rfl) fun hqf => ?_
    obtain ⟨⟨hf, hn, hg⟩, ⟨hf', hn', hg'⟩, hm, hfr, hto, hne, hat⟩ := hq (bt hqf)
    clear hw1 hw2 hq hw hsz
    generalize d.Trains = T at *
    have l1 := least_ok hf hn hg hm
    have l2 := least_ok hf' hn' hg' hm
    refine tot_bind (early_tot hg hm l1 hfr hto hne hat) fun ⟨c1, i⟩ hE => ?_
    dsimp only [unc2]
    refine tot_bind (early_tot hg' hm l2 hfr hto hne hat) fun ⟨c2, j⟩ hL => ?_
    dsimp only [unc2]
    refine tot_bind (R := fun q => q = false) ?_ fun q hq => ?_
    · rcases hE with ⟨hE, h1⟩ | ⟨x, hx, hE, hwx⟩
      · obtain ⟨rfl, rfl⟩ := Prod.mk.inj hE
        rw [if_neg (by decide)]
        exact tot_some rfl
      · dsimp only at hE hwx
        subst hE
        rcases hL with ⟨hL, h2⟩ | ⟨y, hy, hL, hwy⟩
        · have h3 := h2 x (pt_more hx.is)
          have h4 : at_ ≤ x.Dep := hx.fit
          omega
        · dsimp only at hL hwy
          subst hL
          have w1 := hwx.len
          have w2 := hwy.len
          rw [if_pos rfl, if_neg (fun h => h rfl)]
          refine tot_eq (fault_ok hg hm hwx.chain w1.1 w1.2) ?_
          rw [if_neg (by decide)]
          refine tot_eq (fault_ok hg' hm hwy.chain w2.1 w2.2) ?_
          rw [if_neg (by decide)]
          obtain ⟨b, hb⟩ := last_of w1.1
          obtain ⟨b', hb'⟩ := last_of w2.1
          refine tot_eq (arrives_eq (d := ⟨T ++ [t], []⟩) hwy.chain hb' w2.2) (tot_eq (arrives_eq (d := ⟨T, []⟩) hwx.chain hb w1.2) (tot_some (decide_eq_false ?_)))
          have e1 := (hwx.last b hb).2
          have e2 := (hwy.last b' hb').2
          have h5 := hy.le x (pt_more hx.is) hx.fit
          have h6 : y.Arr ≤ x.Arr := by
            unfold ke at h5
            rw [lex_cons] at h5
            omega
          show ¬ (off T b).Arr < (off (T ++ [t]) b').Arr
          omega
    subst hq
    rw [if_neg (by decide)]
    refine tot_bind (reach_tot hg hm l1 hfr hat) fun ⟨c3, out⟩ ⟨h1, h2, h3⟩ => ?_
    dsimp only at h1 h2 h3
    subst h1
    dsimp only [unc2]
    obtain ⟨v, hv, hvv⟩ := h3 to_ hto.1 hto.2 (fun e => hne e.symm)
    have hidx : idx out to_ = some v := by
      obtain ⟨q, h5, h6⟩ := idx_get (l := out) hto.1 (by omega)
      rw [h6] at hv
      injection hv with hv
      rw [h5, hv]
    refine tot_bind (R := fun q => q = false) ?_ fun q hq => ?_
    · rw [if_neg (fun h => h rfl), if_neg (by rw [h2]; decide)]
      rcases hE with ⟨hE, h1⟩ | ⟨x, hx, hE, hwx⟩
      · obtain ⟨rfl, rfl⟩ := Prod.mk.inj hE
        rw [if_neg (by decide), if_pos (by decide)]
        refine tot_eq hidx (tot_some ?_)
        rcases hvv with ⟨e, _⟩ | ⟨⟨x, h5, h6, _⟩, _⟩
        · rw [e]; rfl
        · have := h1 x h5
          omega
      · dsimp only at hE hwx
        subst hE
        have w1 := hwx.len
        obtain ⟨b, hb⟩ := last_of w1.1
        have e1 := (hwx.last b hb).2
        have hx2 : at_ ≤ x.Dep := hx.fit
        have e3 : v = x.Arr := by
          rcases hvv with ⟨_, h5⟩ | ⟨⟨y, hy, hy2, e⟩, h7⟩
          · have := h5 x hx.is
            omega
          · have h8 := h7 x hx.is hx2
            have h5 := hx.le y hy hy2
            have h6 : x.Arr ≤ y.Arr := by
              unfold ke at h5
              rw [lex_cons] at h5
              omega
            omega
        rw [if_pos rfl]
        refine tot_eq hidx (tot_eq (arrives_eq (d := ⟨T, []⟩) hwx.chain hb w1.2) ?_)
        rw [if_neg (fun h => h (by show v = (off T b).Arr; omega)), if_neg (fun h => h rfl)]
        exact tot_some rfl
    subst hq
    rw [if_neg (by decide)]
    refine tot_bind (profile_tot hg hm (check2_no l1 hfr hto hne)) fun ⟨c4, o⟩ h4 => ?_
    obtain ⟨h4, ho⟩ := h4
    replace h4 : c4 = 0 := h4
    replace ho : Gd (ND (PT T m from_ to_)) o := ho
    subst h4
    dsimp only [unc2]
    rw [if_neg (fun h => h rfl)]
    refine ordM_tot (fun s t h1 h2 => h1.trans h2.symm) fun p hp => ?_
    have mem : ∀ x, x ∈ p ↔ ND (PT T m from_ to_) x := fun x => by rw [hp.mem_iff, ho.mem]
    have arr : ∀ x ∈ p, 0 ≤ x.Arr := fun x hx => by
      obtain ⟨w, hw⟩ := ((mem x).1 hx).1
      have wl := hw.len
      obtain ⟨b, hb⟩ := last_of wl.1
      have e1 := (hw.last b hb).2
      have xb := (ride_in hg (hw.chain.1 b (List.mem_of_getElem? hb))).off_.2.1
      have xb : 0 ≤ (off T b).Arr ∧ (off T b).Arr ≤ 28800 := xb
      omega
    refine tot_bind (best_tot p arr) fun b hb => tot_eq hidx (tot_some (decide_eq_true ?_))
    rcases hvv with ⟨e, h5⟩ | ⟨⟨x, h5, h6, h7⟩, h8⟩
    · rcases hb with ⟨hb, _⟩ | ⟨⟨y, hy, hy2, _⟩, _⟩
      · omega
      · have := h5 y ((mem y).1 hy).1
        omega
    · obtain ⟨z, hz, hz1, hz2⟩ := nd_above hg _ x h5 (Nat.le_refl _)
      rcases hb with ⟨_, hb⟩ | ⟨⟨y, hy, hy2, hy3⟩, hb⟩
      · have := hb z ((mem z).2 hz)
        omega
      · have := hb z ((mem z).2 hz) (by omega)
        have := h8 y ((mem y).1 hy).1 hy2
        omega
  obtain ⟨q, h, rfl⟩ := key
  exact h
theorem moreRow (d : ApiDay) (t : ApiTrain) (a b c e : Int) {K2 K3 K4 K5 : Prop} (k0 : WDay d) (k1 : WTrain t) (_ : K2) (_ : K3) (_ : K4) (_ : K5) (s0 : d.Trains.length * 64 ≤ 140737488351232) : mFishkeep2GuideMore d t a b c e = some true := morePlain d t a b c e k0 k1 s0
end Go.Proofs.YtckgfeglhjiflaaDoor
