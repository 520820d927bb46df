/- Plain: what the checks of the fleet laws say. -/
import Derived.Test.YtajmocgpjkhjlaaX6
import Derived.Test.YtajmocgpjkhjlaaD
set_option linter.unusedVariables false
set_option linter.unusedSimpArgs false
namespace Go.Proofs.Ytajmocgpjkhjlaa
open Go.RowKit Go.Fp

theorem within_eq (x a b : Int) : mFleetWithin x a b = some (decide (a ≤ x ∧ x ≤ b)) := by
  unfold mFleetWithin
  by_cases h : a ≤ x <;> simp [h]
theorem rwithin_eq (x a b : Int) : mFishref2Within x a b = some (decide (a ≤ x ∧ x ≤ b)) := within_eq x a b
def OkTask (t : FleetTask) : Prop := (0 ≤ t.From ∧ t.From ≤ 11) ∧ (0 ≤ t.To ∧ t.To ≤ 11) ∧ (0 ≤ t.Dep ∧ t.Dep ≤ 28800) ∧ (0 ≤ t.Arr ∧ t.Arr ≤ 28800) ∧ t.Dep < t.Arr ∧ (0 ≤ t.Km ∧ t.Km ≤ 10000) ∧ (1 ≤ t.Units ∧ t.Units ≤ 4)
theorem taskBody (l : List FleetTask) (k : Nat) (h : k < l.length) : (mFishref2TasksFault_L128 l k () = some (.inl ()) ∧ OkTask l[k]) ∨ ∃ c, mFishref2TasksFault_L128 l k () = some (.inr c) ∧ (c ≠ 0 ∧ ¬ OkTask l[k]) := by
  unfold mFishref2TasksFault_L128 OkTask
  rw [idx_lt h]
  simp only [Option.bind_some, rwithin_eq]
  generalize l[k] = t
  by_cases h1 : 0 ≤ t.From ∧ t.From ≤ 11
  · by_cases h2 : 0 ≤ t.To ∧ t.To ≤ 11
    · by_cases h3 : 0 ≤ t.Dep ∧ t.Dep ≤ 28800
      · by_cases h4 : 0 ≤ t.Arr ∧ t.Arr ≤ 28800
        · by_cases h5 : t.Arr ≤ t.Dep
          · exact .inr ⟨13, by simp [h1, h2, h3, h4, h5], by omega⟩
          · by_cases h6 : 0 ≤ t.Km ∧ t.Km ≤ 10000
            · by_cases h7 : 1 ≤ t.Units ∧ t.Units ≤ 4
              · exact .inl ⟨by simp [h1, h2, h3, h4, h5, h6, h7], by omega⟩
              · exact .inr ⟨2, by simp [h1, h2, h3, h4, h5, h6, h7], by omega⟩
            · exact .inr ⟨2, by simp [h1, h2, h3, h4, h5, h6], by omega⟩
        · exact .inr ⟨2, by simp [h1, h2, h3, h4], by omega⟩
      · exact .inr ⟨2, by simp [h1, h2, h3], by omega⟩
    · exact .inr ⟨2, by simp [h1, h2], by omega⟩
  · exact .inr ⟨2, by simp [h1], by omega⟩
theorem tasks_spec (l : List FleetTask) : ∃ c, mFishref2TasksFault l = some c ∧ (c = 0 ↔ l.length ≤ 40 ∧ ∀ t ∈ l, OkTask t) := by
  unfold mFishref2TasksFault
  by_cases h40 : 40 < (l.length : Int)
  · exact ⟨4, by rw [if_pos h40], by omega⟩
  rw [if_neg h40]
  rcases forM_inv (body := mFishref2TasksFault_L128 l) (fun k _ => ∀ j (h : j < l.length), j < k → OkTask l[j]) (fun c => c ≠ 0 ∧ ¬ ∀ t ∈ l, OkTask t) l.length 0 () (fun j _ hj => absurd hj (by omega)) (fun k s _ hk hi => by
    rcases taskBody l k (by omega) with ⟨h1, h2⟩ | ⟨c, h1, h2, h3⟩
    · refine .inl ⟨(), h1, fun j hj hjk => ?_⟩
      by_cases he : j = k
      · subst he; exact h2
      · exact hi j hj (by omega)
    · exact .inr ⟨c, h1, h2, fun hall => h3 (hall _ (List.getElem_mem _))⟩) with ⟨s, h1, h2⟩ | ⟨c, h1, h2, h3⟩
  · rw [h1]
    refine ⟨0, rfl, ⟨fun _ => ⟨by omega, fun t ht => ?_⟩, fun _ => rfl⟩⟩
    obtain ⟨j, hj, rfl⟩ := List.getElem_of_mem ht
    exact h2 j hj (by omega)
  · rw [h1]
    exact ⟨c, rfl, ⟨fun h => absurd h h2, fun h => absurd h.2 h3⟩⟩
theorem checkTasks_eq (l : List FleetTask) : mFleetCheckTasks l = mFishref2TasksFault l := rfl
def OkSet (L : Int) (s : FleetSet) : Prop := (0 ≤ s.Home ∧ s.Home ≤ 11) ∧ (0 ≤ s.Km ∧ s.Km ≤ L)
def OkShop (s : FleetShop) : Prop := (0 ≤ s.Place ∧ s.Place ≤ 11) ∧ (0 ≤ s.Long ∧ s.Long ≤ 28800) ∧ (0 ≤ s.Limit ∧ s.Limit ≤ 10000)
theorem setBody (l : List FleetSet) (p : FleetShop) (k : Nat) (h : k < l.length) : (mFishref2SetsFault_L95 l p k () = some (.inl ()) ∧ OkSet p.Limit l[k]) ∨ ∃ c, mFishref2SetsFault_L95 l p k () = some (.inr c) ∧ (c ≠ 0 ∧ ¬ OkSet p.Limit l[k]) := by
  unfold mFishref2SetsFault_L95 OkSet
  rw [idx_lt h]
  simp only [Option.bind_some, rwithin_eq]
  generalize l[k] = t
  by_cases h1 : 0 ≤ t.Home ∧ t.Home ≤ 11
  · by_cases h2 : 0 ≤ t.Km ∧ t.Km ≤ p.Limit
    · exact .inl ⟨by simp [h1, h2], by omega⟩
    · exact .inr ⟨2, by simp [h1, h2], by omega⟩
  · exact .inr ⟨2, by simp [h1], by omega⟩
theorem sets_spec (l : List FleetSet) (p : FleetShop) : ∃ c, mFishref2SetsFault l p 40 = some c ∧ (c = 0 ↔ l.length ≤ 40 ∧ (∀ t ∈ l, OkSet p.Limit t) ∧ OkShop p) := by
  unfold mFishref2SetsFault
  by_cases h40 : 40 < (l.length : Int)
  · exact ⟨4, by rw [if_pos h40], by omega⟩
  rw [if_neg h40]
  rcases forM_inv (body := mFishref2SetsFault_L95 l p) (fun k _ => ∀ j (h : j < l.length), j < k → OkSet p.Limit l[j]) (fun c => c ≠ 0 ∧ ¬ ∀ t ∈ l, OkSet p.Limit t) l.length 0 () (fun j _ hj => absurd hj (by omega)) (fun k s _ hk hi => by
    rcases setBody l p k (by omega) with ⟨h1, h2⟩ | ⟨c, h1, h2, h3⟩
    · refine .inl ⟨(), h1, fun j hj hjk => ?_⟩
      by_cases he : j = k
      · subst he; exact h2
      · exact hi j hj (by omega)
    · exact .inr ⟨c, h1, h2, fun hall => h3 (hall _ (List.getElem_mem _))⟩) with ⟨s, h1, h2⟩ | ⟨c, h1, h2, h3⟩
  · rw [h1]
    have hall : ∀ t ∈ l, OkSet p.Limit t := fun t ht => by
      obtain ⟨j, hj, rfl⟩ := List.getElem_of_mem ht
      exact h2 j hj (by omega)
    simp only [Option.bind_some, Sum.elim_inl, rwithin_eq]
    by_cases g1 : 0 ≤ p.Place ∧ p.Place ≤ 11
    · by_cases g2 : 0 ≤ p.Long ∧ p.Long ≤ 28800
      · by_cases g3 : 0 ≤ p.Limit ∧ p.Limit ≤ 10000
        · exact ⟨0, by simp [g1, g2, g3], ⟨fun _ => ⟨by omega, hall, g1, g2, g3⟩, fun _ => rfl⟩⟩
        · exact ⟨2, by simp [g1, g2, g3], ⟨fun h => absurd h (by decide), fun h => absurd h.2.2.2.2 g3⟩⟩
      · exact ⟨2, by simp [g1, g2], ⟨fun h => absurd h (by decide), fun h => absurd h.2.2.2.1 g2⟩⟩
    · exact ⟨2, by simp [g1], ⟨fun h => absurd h (by decide), fun h => absurd h.2.2.1 g1⟩⟩
  · rw [h1]
    exact ⟨c, rfl, ⟨fun h => absurd h h2, fun h => absurd h.2.1 h3⟩⟩
theorem checkSets_eq (l : List FleetSet) (p : FleetShop) (m : Int) : mFleetCheckSets l p m = mFishref2SetsFault l p m := rfl
theorem may_eq (l4 : List FleetTask) (x : List Int) (s : FleetSet) (p : FleetShop) (k : Int) : mFishref2CanInspect l4 x s p k = mFleetMay l4 x s p k := rfl

end Go.Proofs.Ytajmocgpjkhjlaa
