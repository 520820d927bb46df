/- Plain: checks, positions and the order of tasks, for FleetAssigned. -/
import Derived.Test.YtajmocgpjkhjlaaAS4
set_option linter.unusedVariables false
set_option linter.unusedSimpArgs false
namespace Go.Proofs.Ytajmocgpjkhjlaa
open Go.RowKit Go.Fp

theorem pass2 {β γ τ : Type} {A : β → γ → Option τ} {y : β} {z : γ} : (some (y, z)).bind (unc2 A) = A y z := rfl
theorem pass3 {β γ δ τ : Type} {A : β → γ → δ → Option τ} {y : β} {z : γ} {x : δ} : (some (y, z, x)).bind (unc3 A) = A y z x := rfl
theorem pass4 {β γ δ ε τ : Type} {A : β → γ → δ → ε → Option τ} {y : β} {z : γ} {x : δ} {w : ε} : (some (y, z, x, w)).bind (unc4 A) = A y z x w := rfl
theorem forU {τ : Type} {body : Nat → Unit → Option (Unit ⊕ τ)} (R : Nat → Prop) (Q : τ → Prop) (m : Nat) (h : ∀ k, k < m → (body k () = some (.inl ()) ∧ R k) ∨ ∃ t, body k () = some (.inr t) ∧ Q t) :
    (forM body m 0 () = some (.inl ()) ∧ ∀ k, k < m → R k) ∨ ∃ t, forM body m 0 () = some (.inr t) ∧ Q t := by
  rcases forM_inv (body := body) (fun k _ => ∀ j, j < k → R j) Q m 0 () (fun j hj => absurd hj (by omega)) (fun k s _ hk hi => by
    rcases h k (by omega) with ⟨h1, h2⟩ | h1
    · refine .inl ⟨(), h1, fun j hj => ?_⟩
      by_cases e : j = k
      · subst e; exact h2
      · exact hi j (by omega)
    · exact .inr h1) with ⟨s, h1, h2⟩ | h1
  · exact .inl ⟨h1, fun k hk => h2 k (by omega)⟩
  · exact .inr h1
theorem forU_ok {τ : Type} {body : Nat → Unit → Option (Unit ⊕ τ)} (m : Nat) (h : ∀ k, k < m → body k () = some (.inl ())) : forM body m 0 () = some (.inl ()) := by
  rcases forU (body := body) (fun _ => True) (fun _ => False) m (fun k hk => .inl ⟨h k hk, trivial⟩) with ⟨h1, _⟩ | ⟨_, _, h⟩
  · exact h1
  · exact h.elim
theorem within_eq (x a b : Int) : mFleetWithin x a b = some (decide (a ≤ x ∧ x ≤ b)) := by
  unfold mFleetWithin
  by_cases h : a ≤ x <;> simp [h]
def OkTask (t : FleetTask) : Prop := (0 ≤ t.From ∧ t.From ≤ 11) ∧ (0 ≤ t.To ∧ t.To ≤ 11) ∧ (0 ≤ t.Dep ∧ t.Dep ≤ 28800) ∧ (0 ≤ t.Arr ∧ t.Arr ≤ 28800) ∧ t.Dep < t.Arr ∧ (0 ≤ t.Km ∧ t.Km ≤ 10000) ∧ (1 ≤ t.Units ∧ t.Units ≤ 4)
theorem taskBody (l : List FleetTask) (k : Nat) (h : k < l.length) : (mFleetCheckTasks_L128 l k () = some (.inl ()) ∧ OkTask l[k]) ∨ ∃ c, mFleetCheckTasks_L128 l k () = some (.inr c) ∧ (c ≠ 0 ∧ ¬ OkTask l[k]) := by
  unfold mFleetCheckTasks_L128 OkTask
  rw [idx_lt h]
  simp only [Option.bind_some, within_eq]
  generalize l[k] = t
  by_cases h1 : 0 ≤ t.From ∧ t.From ≤ 11
  · by_cases h2 : 0 ≤ t.To ∧ t.To ≤ 11
    · by_cases h3 : 0 ≤ t.Dep ∧ t.Dep ≤ 28800
      · by_cases h4 : 0 ≤ t.Arr ∧ t.Arr ≤ 28800
        · by_cases h5 : t.Arr ≤ t.Dep
          · exact .inr ⟨13, by simp [h1, h2, h3, h4, h5], by omega⟩
          · by_cases h6 : 0 ≤ t.Km ∧ t.Km ≤ 10000
            · by_cases h7 : 1 ≤ t.Units ∧ t.Units ≤ 4
              · exact .inl ⟨by simp [h1, h2, h3, h4, h5, h6, h7], by omega⟩
              · exact .inr ⟨2, by simp [h1, h2, h3, h4, h5, h6, h7], by omega⟩
            · exact .inr ⟨2, by simp [h1, h2, h3, h4, h5, h6], by omega⟩
        · exact .inr ⟨2, by simp [h1, h2, h3, h4], by omega⟩
      · exact .inr ⟨2, by simp [h1, h2, h3], by omega⟩
    · exact .inr ⟨2, by simp [h1, h2], by omega⟩
  · exact .inr ⟨2, by simp [h1], by omega⟩
theorem tasks_spec (l : List FleetTask) : ∃ c, mFleetCheckTasks l = some c ∧ (c = 0 ↔ l.length ≤ 40 ∧ ∀ t ∈ l, OkTask t) := by
  unfold mFleetCheckTasks
  by_cases h40 : 40 < (l.length : Int)
  · exact ⟨4, by rw [if_pos h40], by omega⟩
  rw [if_neg h40]
  rcases forU (body := mFleetCheckTasks_L128 l) (fun k => ∀ h : k < l.length, OkTask l[k]) (fun c => c ≠ 0 ∧ ¬ ∀ t ∈ l, OkTask t) l.length (fun k hk => by
    rcases taskBody l k hk with ⟨h1, h2⟩ | ⟨c, h1, h2, h3⟩
    · exact .inl ⟨h1, fun _ => h2⟩
    · exact .inr ⟨c, h1, h2, fun hall => h3 (hall _ (List.getElem_mem _))⟩) with ⟨h1, h2⟩ | ⟨c, h1, h2, h3⟩
  · rw [h1]
    refine ⟨0, rfl, ⟨fun _ => ⟨by omega, fun t ht => ?_⟩, fun _ => rfl⟩⟩
    obtain ⟨j, hj, rfl⟩ := List.getElem_of_mem ht
    exact h2 j hj hj
  · rw [h1]
    exact ⟨c, rfl, ⟨fun h => absurd h h2, fun h => absurd h.2 h3⟩⟩
structure TurnOk (l : List FleetTask) (x : Int) : Prop where
  n40 : l.length ≤ 40
  tasks : ∀ t ∈ l, OkTask t
  turn : 0 ≤ x ∧ x ≤ 28800
theorem turn_spec (l : List FleetTask) (x : Int) : ∃ c, mFleetCheckTurn l x = some c ∧ (c = 0 ↔ TurnOk l x) := by
  unfold mFleetCheckTurn
  obtain ⟨c, h1, h2⟩ := tasks_spec l
  rw [h1, Option.bind_some]
  by_cases hc : c = 0
  · rw [if_neg (by simpa using hc), within_eq, Option.bind_some]
    by_cases hx : 0 ≤ x ∧ x ≤ 28800
    · rw [decide_eq_true hx, if_pos rfl]
      exact ⟨0, rfl, ⟨fun _ => ⟨(h2.1 hc).1, (h2.1 hc).2, hx⟩, fun _ => rfl⟩⟩
    · rw [decide_eq_false hx, if_neg (by decide)]
      exact ⟨2, rfl, ⟨fun h => absurd h (by decide), fun h => absurd h.turn hx⟩⟩
  · rw [if_pos hc]
    exact ⟨c, rfl, ⟨fun h => absurd h hc, fun h => absurd (h2.2 ⟨h.n40, h.tasks⟩) hc⟩⟩
def OkSet (L : Int) (s : FleetSet) : Prop := (0 ≤ s.Home ∧ s.Home ≤ 11) ∧ (0 ≤ s.Km ∧ s.Km ≤ L)
def OkShop (s : FleetShop) : Prop := (0 ≤ s.Place ∧ s.Place ≤ 11) ∧ (0 ≤ s.Long ∧ s.Long ≤ 28800) ∧ (0 ≤ s.Limit ∧ s.Limit ≤ 10000)
theorem setBody (l : List FleetSet) (p : FleetShop) (k : Nat) (h : k < l.length) : (mFleetCheckSets_L95 l p k () = some (.inl ()) ∧ OkSet p.Limit l[k]) ∨ ∃ c, mFleetCheckSets_L95 l p k () = some (.inr c) ∧ (c ≠ 0 ∧ ¬ OkSet p.Limit l[k]) := by
  unfold mFleetCheckSets_L95 OkSet
  rw [idx_lt h]
  simp only [Option.bind_some, within_eq]
  generalize l[k] = t
  by_cases h1 : 0 ≤ t.Home ∧ t.Home ≤ 11
  · by_cases h2 : 0 ≤ t.Km ∧ t.Km ≤ p.Limit
    · exact .inl ⟨by simp [h1, h2], by omega⟩
    · exact .inr ⟨2, by simp [h1, h2], by omega⟩
  · exact .inr ⟨2, by simp [h1], by omega⟩
theorem sets_spec (l : List FleetSet) (p : FleetShop) (m : Nat) : ∃ c, mFleetCheckSets l p (m : Int) = some c ∧ (c = 0 ↔ l.length ≤ m ∧ (∀ t ∈ l, OkSet p.Limit t) ∧ OkShop p) := by
  unfold mFleetCheckSets
  by_cases h40 : (m : Int) < (l.length : Int)
  · exact ⟨4, by rw [if_pos h40], by omega⟩
  rw [if_neg h40]
  rcases forM_inv (body := mFleetCheckSets_L95 l p) (fun k _ => ∀ j (h : j < l.length), j < k → OkSet p.Limit l[j]) (fun c => c ≠ 0 ∧ ¬ ∀ t ∈ l, OkSet p.Limit t) l.length 0 () (fun j _ hj => absurd hj (by omega)) (fun k s _ hk hi => by
    rcases setBody l p k (by omega) with ⟨h1, h2⟩ | ⟨c, h1, h2, h3⟩
    · refine .inl ⟨(), h1, fun j hj hjk => ?_⟩
      by_cases he : j = k
      · subst he; exact h2
      · exact hi j hj (by omega)
    · exact .inr ⟨c, h1, h2, fun hall => h3 (hall _ (List.getElem_mem _))⟩) with ⟨s, h1, h2⟩ | ⟨c, h1, h2, h3⟩
  · rw [h1]
    have hall : ∀ t ∈ l, OkSet p.Limit t := fun t ht => by
      obtain ⟨j, hj, rfl⟩ := List.getElem_of_mem ht
      exact h2 j hj (by omega)
    simp only [Option.bind_some, Sum.elim_inl, within_eq]
    by_cases g1 : 0 ≤ p.Place ∧ p.Place ≤ 11
    · by_cases g2 : 0 ≤ p.Long ∧ p.Long ≤ 28800
      · by_cases g3 : 0 ≤ p.Limit ∧ p.Limit ≤ 10000
        · exact ⟨0, by simp [g1, g2, g3], ⟨fun _ => ⟨by omega, hall, g1, g2, g3⟩, fun _ => rfl⟩⟩
        · exact ⟨2, by simp [g1, g2, g3], ⟨fun h => absurd h (by decide), fun h => absurd h.2.2.2.2 g3⟩⟩
      · exact ⟨2, by simp [g1, g2], ⟨fun h => absurd h (by decide), fun h => absurd h.2.2.2.1 g2⟩⟩
    · exact ⟨2, by simp [g1], ⟨fun h => absurd h (by decide), fun h => absurd h.2.2.1 g1⟩⟩
  · rw [h1]
    exact ⟨c, rfl, ⟨fun h => absurd h h2, fun h => absurd h.2.1 h3⟩⟩
theorem follows_eq {s t : FleetTask} {x : Int} (hs : OkTask s) (hx : 0 ≤ x ∧ x ≤ 28800) : ∃ b, mFleetFollows s t x = some b ∧ (b = true ↔ t.From = s.To ∧ s.Arr + x ≤ t.Dep) := by
  unfold mFleetFollows
  unfold OkTask at hs
  by_cases h : t.From = s.To
  · rw [if_pos h, chk_ok (by omega) (by omega), Option.bind_some, Option.bind_some]
    exact ⟨_, rfl, by simp [h]⟩
  · rw [if_neg h]
    exact ⟨false, rfl, ⟨fun h => absurd h (by decide), fun h' => absurd h'.1 h⟩⟩
structure RowOk (l4 : List FleetTask) (x : List Int) : Prop where
  len : x.length ≤ 28801
  get : ∀ (j : Nat) (v : Int), x[j]? = some v → ∃ t, idx l4 v = some t ∧ OkTask t
def kmOf (l4 : List FleetTask) (x : List Int) (j : Nat) : Int := match x[j]? with
  | some v => (match idx l4 v with | some t => t.Km | none => 0)
  | none => 0
noncomputable def mayOf (l4 : List FleetTask) (x : List Int) (s : FleetSet) (p : FleetShop) (j : Nat) : Bool := (mFleetMay l4 x s p (j : Int)).getD false
section
variable {l4 : List FleetTask} {x : List Int} {s : FleetSet} {p : FleetShop}
theorem row_at (h : RowOk l4 x) {j : Nat} (hj : j < x.length) : ∃ v t, idx x (j : Int) = some v ∧ idx l4 v = some t ∧ OkTask t ∧ kmOf l4 x j = t.Km := by
  have e : x[j]? = some x[j] := List.getElem?_eq_getElem hj
  obtain ⟨t, h1, h2⟩ := h.get j _ e
  refine ⟨x[j], t, idx_nat e, h1, h2, ?_⟩
  unfold kmOf
  rw [e]
  simp only [h1]
theorem may_total (h : RowOk l4 x) (hp : OkShop p) {k : Nat} (hk : k ≤ x.length) : mFleetMay l4 x s p (k : Int) = some (mayOf l4 x s p k) := by
  suffices ∃ b, mFleetMay l4 x s p (k : Int) = some b by
    obtain ⟨b, hb⟩ := this
    unfold mayOf
    rw [hb]
    rfl
  have tail : ∀ A B : Int, 0 ≤ B → B ≤ 28800 → ∃ b, ((if A = p.Place then (if (k : Int) = (x.length : Int) then some true else (idx x (k : Int)).bind fun v => (idx l4 v).bind fun t => (chk (B + p.Long)).bind fun _ => some (decide ((B + p.Long) ≤ t.Dep))) else some false).bind fun b => some b) = some b := fun A B hB hB2 => by
    have := hp.2.1
    by_cases h1 : A = p.Place
    · rw [if_pos h1]
      by_cases h2 : (k : Int) = (x.length : Int)
      · rw [if_pos h2]; exact ⟨_, rfl⟩
      · rw [if_neg h2]
        obtain ⟨v, t, e1, e2, e3, _⟩ := row_at h (j := k) (by omega)
        rw [e1, Option.bind_some, e2, Option.bind_some, chk_ok (by omega) (by omega)]
        exact ⟨_, rfl⟩
    · rw [if_neg h1]; exact ⟨_, rfl⟩
  unfold mFleetMay
  by_cases h0 : 0 < (k : Int)
  · obtain ⟨q, rfl⟩ : ∃ q, k = q + 1 := ⟨k - 1, by omega⟩
    rw [if_pos h0]
    have e0 : ((q + 1 : Nat) : Int) - 1 = (q : Int) := by omega
    obtain ⟨v, t, e1, e2, e3, _⟩ := row_at h (j := q) (by omega)
    have hx := h.len
    simp only [e0, chk_ok (x := (q : Int)) (by omega) (by omega), e1, e2, Option.bind_some]
    exact tail t.To t.Arr e3.2.2.2.1.1 e3.2.2.2.1.2
  · rw [if_neg h0]
    exact tail s.Home 0 (by omega) (by omega)
theorem km_nonneg (h : RowOk l4 x) : ∀ j, j < x.length → 0 ≤ kmOf l4 x j ∧ kmOf l4 x j ≤ 10000 := fun j hj => by
  obtain ⟨v, t, _, _, e3, e4⟩ := row_at h hj
  have := e3.2.2.2.2.2.1
  omega
theorem pos_total (h : RowOk l4 x) (hp : OkShop p) (hs : OkSet p.Limit s) : ∃ b l, mFleetPositions l4 x s p = some (b, l) ∧ l.length ≤ x.length ∧ (x = [] → b = true ∧ l = []) := by
  have hx := h.len
  have hL := hp.2.2
  have ha := hs.2
  unfold mFleetPositions
  rw [chk_ok (by omega) (by omega), Option.bind_some, Option.bind_some]
  rcases forM_inv (body := mFleetPositions_L752 l4 x s p)
    (fun k q => k ≤ x.length ∧ (0 ≤ q.1 ∧ q.1 ≤ 10000 * (k + 1)) ∧ (0 ≤ q.2.2.2.1 ∧ q.2.2.2.1 ≤ 10000 * (k + 1)) ∧ q.2.2.2.2.length ≤ k)
    (fun t => Sum.elim (fun l : List Int => l.length ≤ x.length ∧ (x = [] → l = [])) (fun r : Bool × List Int => r.1 = false ∧ r.2 = [] ∧ x ≠ []) t)
    (((x.length : Int) + 1).toNat) 0 (s.Km, -1, -1, 0, []) ⟨by omega, ⟨by simp only; omega, by simp only; omega⟩, ⟨by simp only; omega, by simp only; omega⟩, by simp⟩ (fun k q _ _ hi => by
      obtain ⟨tot, lm, ld, sn, done⟩ := q
      obtain ⟨hk, h1, h2, h3⟩ := hi
      simp only at h1 h2 h3
      show (∃ s', ((mFleetMay l4 x s p (k : Int)).bind _).bind _ = _ ∧ _) ∨ ∃ t, ((mFleetMay l4 x s p (k : Int)).bind _).bind _ = _ ∧ _
      rw [may_total h hp hk, Option.bind_some]
      have em : (if mayOf l4 x s p k = true then some ((k : Int), (0 : Int)) else some (lm, sn)) = some (if mayOf l4 x s p k = true then (k : Int) else lm, if mayOf l4 x s p k = true then 0 else sn) := by split <;> rfl
      rw [em, Option.bind_some]
      have b4 : 0 ≤ (if mayOf l4 x s p k = true then 0 else sn) ∧ (if mayOf l4 x s p k = true then 0 else sn) ≤ 10000 * ((k : Int) + 1) := by split <;> omega
      generalize (if mayOf l4 x s p k = true then (k : Int) else lm) = lm'
      generalize (if mayOf l4 x s p k = true then 0 else sn) = sn' at b4
      simp only [unc2]
      by_cases hn : (k : Int) = (x.length : Int)
      · rw [if_pos hn]
        refine .inr ⟨_, rfl, by omega, fun e => ?_⟩
        subst e
        simp only [List.length_nil] at hk
        exact List.length_eq_zero_iff.1 (by omega)
      · rw [if_neg hn]
        have hk' : k < x.length := by omega
        obtain ⟨v, t, e1, e2, e3, e4⟩ := row_at h hk'
        have kb := km_nonneg h k hk'
        rw [e4] at kb
        simp only [e1, e2, Option.bind_some]
        rw [chk_ok (by omega) (by omega), Option.bind_some, chk_ok (by omega) (by omega), Option.bind_some]
        by_cases hle : tot + t.Km ≤ p.Limit
        · rw [if_pos hle]
          exact .inl ⟨_, rfl, hk', ⟨by simp only; omega, by simp only; omega⟩, ⟨by simp only; omega, by simp only; omega⟩, by simp only; omega⟩
        · rw [if_neg hle]
          by_cases hf : lm' ≤ ld ∨ p.Limit < sn' + t.Km
          · have e5 : (if lm' ≤ ld then some true else some (decide (p.Limit < sn' + t.Km))) = some true := by
              split
              · rfl
              · rename_i h1
                rw [decide_eq_true (hf.resolve_left h1)]
            rw [e5, Option.bind_some, if_pos rfl]
            exact .inr ⟨_, rfl, rfl, rfl, fun e => by subst e; simp at hk'⟩
          · have f1 : ¬ lm' ≤ ld := fun q => hf (.inl q)
            have f2 : ¬ p.Limit < sn' + t.Km := fun q => hf (.inr q)
            rw [if_neg f1, Option.bind_some, decide_eq_false f2, if_neg (by decide), room_ok (by omega) (by omega)]
            exact .inl ⟨_, rfl, hk', ⟨by simp only; omega, by simp only; omega⟩, ⟨by simp only; omega, by simp only; omega⟩, by simp; omega⟩) with ⟨q, _, h2, _⟩ | ⟨t, h1, h2⟩
  · exfalso
    have : 0 + ((x.length : Int) + 1).toNat ≤ x.length := h2
    omega
  · rw [h1]
    rcases t with l | ⟨b, l⟩
    · exact ⟨true, l, rfl, h2.1, fun e => ⟨rfl, h2.2 e⟩⟩
    · obtain ⟨q1, q2, q3⟩ := h2
      simp only at q1 q2
      subst q1 q2
      exact ⟨false, [], rfl, by simp, fun e => absurd e q3⟩
end
def iota (n : Nat) : List Int := (List.range n).map (fun i : Nat => (i : Int))
theorem iota_get {n j : Nat} (h : j < n) : (iota n)[j]? = some (j : Int) := by
  unfold iota
  rw [List.getElem?_map, List.getElem?_range h]
  rfl
theorem iota_mem {n : Nat} {y : Int} (h : y ∈ iota n) : 0 ≤ y ∧ y < (n : Int) := by
  obtain ⟨i, hi, rfl⟩ := List.mem_map.1 h
  have := List.mem_range.1 hi
  omega
theorem iota_len (n : Nat) : (iota n).length = n := by
  unfold iota
  rw [List.length_map, List.length_range]
theorem iota_lt (n : Nat) : (iota n).Pairwise (· < ·) := by
  rw [List.pairwise_iff_getElem]
  intro i j hi hj hij
  rw [iota_len] at hi hj
  have e1 := iota_get hi
  have e2 := iota_get hj
  rw [List.getElem?_eq_getElem (by rw [iota_len]; exact hi)] at e1
  rw [List.getElem?_eq_getElem (by rw [iota_len]; exact hj)] at e2
  injection e1 with e1
  injection e2 with e2
  rw [e1, e2]
  omega
theorem sort_small {l : List FleetTask} {S : List Int} (hn : S.length ≤ 20) (hv : ∀ y ∈ S, Valid l y) (hs : S.Pairwise (· < ·)) : ∃ o, mSlicesSortStableFunc l S = some o ∧ o.Perm S := by
  obtain ⟨S', h1, h2, h3⟩ := insertion_pieces (T := l) [] S [] hv hs (by simp; omega)
  simp only [List.nil_append, List.append_nil, List.length_nil, Nat.zero_add] at h1
  have hl := h2.length_eq
  unfold mSlicesSortStableFunc mSlicesStableCmpFunc
  have tail : ∀ U : List Int, loopM (mSlicesStableCmpFunc_L655 (S.length : Int) l) (20, U) = some U := fun U => loopM_last (by
    unfold mSlicesStableCmpFunc_L655
    show (if (20 : Int) < (S.length : Int) then _ else some (Sum.inr U)) = _
    rw [if_neg (by omega)])
  by_cases h20 : S.length = 20
  · have e1 : mSlicesStableCmpFunc_L604 (S.length : Int) l (0, 20, S) = some (.inl (20, 40, S')) := by
      unfold mSlicesStableCmpFunc_L604
      show (if (20 : Int) ≤ (S.length : Int) then ((mSlicesInsertionSortCmpFunc 0 20 l S).bind fun l640 => (chk (20 + 20)).bind fun _ => some (Sum.inl (20, 20 + 20, l640))) else some (Sum.inr (0, S))) = _
      rw [if_pos (by omega)]
      have : mSlicesInsertionSortCmpFunc 0 20 l S = some S' := by
        have := h1
        rw [h20] at this
        exact this
      rw [this]
      rfl
    have e2 : mSlicesStableCmpFunc_L604 (S.length : Int) l (20, 40, S') = some (.inr (20, S')) := by
      unfold mSlicesStableCmpFunc_L604
      show (if (40 : Int) ≤ (S.length : Int) then _ else some (Sum.inr (20, S'))) = _
      rw [if_neg (by omega)]
    rw [loopM_next e1, loopM_last e2, pass2]
    obtain ⟨S2, g1, g2, _⟩ := insertion_pieces (T := l) S' [] [] (fun y hy => by cases hy) List.Pairwise.nil (by simp; omega)
    have hS2 : S2 = [] := List.length_eq_zero_iff.1 (by simpa using g2.length_eq)
    subst hS2
    simp only [List.append_nil, List.length_nil, Nat.add_zero] at g1
    have : mSlicesInsertionSortCmpFunc 20 (S.length : Int) l S' = some S' := by
      rw [hl, h20] at g1
      rw [h20]
      exact g1
    rw [this, Option.bind_some, tail]
    exact ⟨S', rfl, h2⟩
  · have e1 : mSlicesStableCmpFunc_L604 (S.length : Int) l (0, 20, S) = some (.inr (0, S)) := by
      unfold mSlicesStableCmpFunc_L604
      show (if (20 : Int) ≤ (S.length : Int) then _ else some (Sum.inr (0, S))) = _
      rw [if_neg (by omega)]
    rw [loopM_last e1, pass2]
    have : mSlicesInsertionSortCmpFunc 0 (S.length : Int) l S = some S' := h1
    rw [this, Option.bind_some, tail]
    exact ⟨S', rfl, h2⟩
theorem order_small {l : List FleetTask} (hn : l.length ≤ 20) : ∃ o, mFleetOrder l = some o ∧ o.Perm (iota l.length) := by
  unfold mFleetOrder
  rw [mkLen_ok (by omega) (by omega), Option.bind_some, List.length_replicate]
  obtain ⟨u, h1, h2, h3⟩ := forS_inv (body := mFleetOrder_L103) (fun k (u : List Int) => u.length = l.length ∧ ∀ j, j < k → u[j]? = some (j : Int)) l.length 0 (List.replicate l.length (0 : Int)) ⟨List.length_replicate, fun j hj => absurd hj (by omega)⟩ (fun k u _ hk hi => by
    unfold mFleetOrder_L103
    rw [idx_lt (show k < u.length by omega), Option.bind_some]
    refine ⟨_, rfl, by rw [put_length]; exact hi.1, fun j hj => ?_⟩
    rw [put_nat]
    by_cases e : k = j
    · subst e
      rw [List.getElem?_set_self (by omega)]
    · rw [List.getElem?_set_ne e]
      exact hi.2 j (by omega))
  have hu : u = iota l.length := by
    apply List.ext_getElem?
    intro j
    by_cases hj : j < l.length
    · rw [h3 j (by omega), iota_get hj]
    · rw [List.getElem?_eq_none (by omega), List.getElem?_eq_none (by rw [iota_len]; omega)]
  rw [h1, Option.bind_some, hu]
  obtain ⟨o, o1, o2⟩ := sort_small (l := l) (S := iota l.length) (by rw [iota_len]; exact hn) (fun y hy => iota_mem hy) (iota_lt _)
  rw [o1]
  exact ⟨o, rfl, o2⟩
end Go.Proofs.Ytajmocgpjkhjlaa
