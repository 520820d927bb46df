/- Plain: the checks of the tasks, and the search for a turn that can go on. -/
import Derived.Test.YtajmocgpjkhjlaaNSB
set_option linter.unusedVariables false
set_option linter.unusedSimpArgs false
namespace Go.Proofs.Ytajmocgpjkhjlaa
open Go.RowKit Go.Fp
theorem forU {τ : Type} {body : Nat → Unit → Option (Unit ⊕ τ)} (R : Nat → Prop) (Q : τ → Prop) (m : Nat) (h : ∀ k, k < m → (body k () = some (.inl ()) ∧ R k) ∨ ∃ t, body k () = some (.inr t) ∧ Q t) :
    (forM body m 0 () = some (.inl ()) ∧ ∀ k, k < m → R k) ∨ ∃ t, forM body m 0 () = some (.inr t) ∧ Q t := by
  rcases forM_inv (body := body) (fun k _ => ∀ j, j < k → R j) Q m 0 () (fun j hj => absurd hj (by omega)) (fun k s _ hk hi => by
    rcases h k (by omega) with ⟨h1, h2⟩ | h1
    · refine .inl ⟨(), h1, fun j hj => ?_⟩
      by_cases e : j = k
      · subst e; exact h2
      · exact hi j (by omega)
    · exact .inr h1) with ⟨s, h1, h2⟩ | h1
  · exact .inl ⟨h1, fun k hk => h2 k (by omega)⟩
  · exact .inr h1
theorem forU_ok {τ : Type} {body : Nat → Unit → Option (Unit ⊕ τ)} (m : Nat) (h : ∀ k, k < m → body k () = some (.inl ())) : forM body m 0 () = some (.inl ()) := by
  rcases forU (body := body) (fun _ => True) (fun _ => False) m (fun k hk => .inl ⟨h k hk, trivial⟩) with ⟨h1, _⟩ | ⟨_, _, h⟩
  · exact h1
  · exact h.elim
theorem within_eq (x a b : Int) : mFleetWithin x a b = some (decide (a ≤ x ∧ x ≤ b)) := by
  unfold mFleetWithin
  by_cases h : a ≤ x <;> simp [h]
def OkTask (t : FleetTask) : Prop := (0 ≤ t.From ∧ t.From ≤ 11) ∧ (0 ≤ t.To ∧ t.To ≤ 11) ∧ (0 ≤ t.Dep ∧ t.Dep ≤ 28800) ∧ (0 ≤ t.Arr ∧ t.Arr ≤ 28800) ∧ t.Dep < t.Arr ∧ (0 ≤ t.Km ∧ t.Km ≤ 10000) ∧ (1 ≤ t.Units ∧ t.Units ≤ 4)
theorem taskBody (l : List FleetTask) (k : Nat) (h : k < l.length) : (mFleetCheckTasks_L128 l k () = some (.inl ()) ∧ OkTask l[k]) ∨ ∃ c, mFleetCheckTasks_L128 l k () = some (.inr c) ∧ (c ≠ 0 ∧ ¬ OkTask l[k]) := by
  unfold mFleetCheckTasks_L128 OkTask
  rw [idx_lt h]
  simp only [Option.bind_some, within_eq]
  generalize l[k] = t
  by_cases h1 : 0 ≤ t.From ∧ t.From ≤ 11
  · by_cases h2 : 0 ≤ t.To ∧ t.To ≤ 11
    · by_cases h3 : 0 ≤ t.Dep ∧ t.Dep ≤ 28800
      · by_cases h4 : 0 ≤ t.Arr ∧ t.Arr ≤ 28800
        · by_cases h5 : t.Arr ≤ t.Dep
          · exact .inr ⟨13, by simp [h1, h2, h3, h4, h5], by omega⟩
          · by_cases h6 : 0 ≤ t.Km ∧ t.Km ≤ 10000
            · by_cases h7 : 1 ≤ t.Units ∧ t.Units ≤ 4
              · exact .inl ⟨by simp [h1, h2, h3, h4, h5, h6, h7], by omega⟩
              · exact .inr ⟨2, by simp [h1, h2, h3, h4, h5, h6, h7], by omega⟩
            · exact .inr ⟨2, by simp [h1, h2, h3, h4, h5, h6], by omega⟩
        · exact .inr ⟨2, by simp [h1, h2, h3, h4], by omega⟩
      · exact .inr ⟨2, by simp [h1, h2, h3], by omega⟩
    · exact .inr ⟨2, by simp [h1, h2], by omega⟩
  · exact .inr ⟨2, by simp [h1], by omega⟩
theorem tasks_spec (l : List FleetTask) : ∃ c, mFleetCheckTasks l = some c ∧ (c = 0 ↔ l.length ≤ 40 ∧ ∀ t ∈ l, OkTask t) := by
  unfold mFleetCheckTasks
  by_cases h40 : 40 < (l.length : Int)
  · exact ⟨4, by rw [if_pos h40], by omega⟩
  rw [if_neg h40]
  rcases forU (body := mFleetCheckTasks_L128 l) (fun k => ∀ h : k < l.length, OkTask l[k]) (fun c => c ≠ 0 ∧ ¬ ∀ t ∈ l, OkTask t) l.length (fun k hk => by
    rcases taskBody l k hk with ⟨h1, h2⟩ | ⟨c, h1, h2, h3⟩
    · exact .inl ⟨h1, fun _ => h2⟩
    · exact .inr ⟨c, h1, h2, fun hall => h3 (hall _ (List.getElem_mem _))⟩) with ⟨h1, h2⟩ | ⟨c, h1, h2, h3⟩
  · rw [h1]
    refine ⟨0, rfl, ⟨fun _ => ⟨by omega, fun t ht => ?_⟩, fun _ => rfl⟩⟩
    obtain ⟨j, hj, rfl⟩ := List.getElem_of_mem ht
    exact h2 j hj hj
  · rw [h1]
    exact ⟨c, rfl, ⟨fun h => absurd h h2, fun h => absurd h.2 h3⟩⟩
structure TurnOk (l : List FleetTask) (x : Int) : Prop where
  n40 : l.length ≤ 40
  tasks : ∀ t ∈ l, OkTask t
  turn : 0 ≤ x ∧ x ≤ 28800
theorem turn_spec (l : List FleetTask) (x : Int) : ∃ c, mFleetCheckTurn l x = some c ∧ (c = 0 ↔ TurnOk l x) := by
  unfold mFleetCheckTurn
  obtain ⟨c, h1, h2⟩ := tasks_spec l
  rw [h1, Option.bind_some]
  by_cases hc : c = 0
  · rw [if_neg (by simpa using hc), within_eq, Option.bind_some]
    by_cases hx : 0 ≤ x ∧ x ≤ 28800
    · rw [decide_eq_true hx, if_pos rfl]
      exact ⟨0, rfl, ⟨fun _ => ⟨(h2.1 hc).1, (h2.1 hc).2, hx⟩, fun _ => rfl⟩⟩
    · rw [decide_eq_false hx, if_neg (by decide)]
      exact ⟨2, rfl, ⟨fun h => absurd h (by decide), fun h => absurd h.turn hx⟩⟩
  · rw [if_pos hc]
    exact ⟨c, rfl, ⟨fun h => absurd h hc, fun h => absurd (h2.2 ⟨h.n40, h.tasks⟩) hc⟩⟩
theorem follows_eq {s t : FleetTask} {x : Int} (hs : OkTask s) (hx : 0 ≤ x ∧ x ≤ 28800) : ∃ b, mFleetFollows s t x = some b ∧ (b = true ↔ t.From = s.To ∧ s.Arr + x ≤ t.Dep) := by
  unfold mFleetFollows
  unfold OkTask at hs
  by_cases h : t.From = s.To
  · rw [if_pos h, chk_ok (by omega) (by omega), Option.bind_some, Option.bind_some]
    exact ⟨_, rfl, by simp [h]⟩
  · rw [if_neg h]
    exact ⟨false, rfl, ⟨fun h => absurd h (by decide), fun h' => absurd h'.1 h⟩⟩
def tk (l : List FleetTask) (i : Int) : FleetTask := (l[i.toNat]?).getD ⟨0, 0, 0, 0, 0, 0⟩
def Val (l : List FleetTask) (i : Int) : Prop := 0 ≤ i ∧ i < (l.length : Int)
theorem idx_tk {l : List FleetTask} {i : Int} (h : Val l i) : idx l i = some (tk l i) := by
  obtain ⟨x, h1, h2⟩ := idx_get h.1 h.2
  rw [h1]
  unfold tk
  rw [h2]
  rfl
theorem tk_mem {l : List FleetTask} {i : Int} (h : Val l i) : tk l i ∈ l := by
  obtain ⟨x, h1, h2⟩ := idx_get h.1 h.2
  unfold tk
  rw [h2]
  exact List.mem_of_getElem? h2
def Foll (l : List FleetTask) (x : Int) (a b : Int) : Prop := (tk l b).From = (tk l a).To ∧ (tk l a).Arr + x ≤ (tk l b).Dep
theorem dep_tk {l : List FleetTask} {i : Int} (h : Val l i) : depOf l i = (tk l i).Dep := by
  unfold depOf
  rw [idx_tk h]
section
variable {l : List FleetTask} {x : Int}
/-- The last task of a turn. -/
def lastI (r : List Int) : Int := (r.getLast?).getD 0
theorem last_app (r : List Int) (k : Int) : lastI (r ++ [k]) = k := by
  unfold lastI
  rw [List.getLast?_concat]
  rfl
theorem idx_last {r : List Int} (h : r ≠ []) : idx r ((r.length : Int) - 1) = some (lastI r) := by
  have hp := List.length_pos_iff.2 h
  rw [show (r.length : Int) - 1 = ((r.length - 1 : Nat) : Int) by omega, idx_lt (show r.length - 1 < r.length by omega)]
  unfold lastI
  rw [List.getLast?_eq_getElem?, List.getElem?_eq_getElem (by omega)]
  rfl
theorem last_mem {r : List Int} (h : r ≠ []) : lastI r ∈ r := by
  have hp := List.length_pos_iff.2 h
  unfold lastI
  rw [List.getLast?_eq_getElem?, List.getElem?_eq_getElem (by omega)]
  exact List.getElem_mem _
theorem ok_tk (h : TurnOk l x) {i : Int} (hi : Val l i) : OkTask (tk l i) := h.tasks _ (tk_mem hi)
/-- The turns so far: none is empty, and they hold tasks. -/
def Wf (l : List FleetTask) (m : Nat) (rows : List (List Int)) : Prop := rows.length ≤ m ∧ ∀ r ∈ rows, r ≠ [] ∧ r.length ≤ m ∧ ∀ y ∈ r, Val l y
theorem find_turn (hT : TurnOk l x) {m : Nat} (hm : m ≤ 1000) {rows : List (List Int)} (hw : Wf l m rows) {k : Int} (hk : Val l k) :
    ∃ v, forS (mFleetTurns_L23978 l x rows k) rows.length 0 (-1) = some v ∧ ((v = -1 ∧ ∀ r ∈ rows, ¬ Foll l x (lastI r) k) ∨ ∃ (j : Nat) (h : j < rows.length), v = (j : Int) ∧ Foll l x (lastI rows[j]) k) := by
  have hx := hT.turn
  obtain ⟨v, h1, h2⟩ := forS_inv (body := mFleetTurns_L23978 l x rows k) (fun q v => (v = -1 ∧ ∀ i (hi : i < rows.length), i < q → ¬ Foll l x (lastI rows[i]) k) ∨ ∃ (j : Nat) (h : j < rows.length), v = (j : Int) ∧ Foll l x (lastI rows[j]) k) rows.length 0 (-1) (.inl ⟨rfl, fun i _ hi => absurd hi (by omega)⟩) (fun q v _ hq hi => by
    have hq' : q < rows.length := by omega
    obtain ⟨w1, w2, w3⟩ := hw.2 _ (List.getElem_mem hq')
    have hlast := w3 _ (last_mem w1)
    have okl := ok_tk hT hlast
    have okk := ok_tk hT hk
    unfold OkTask at okl okk
    have no : ¬ Foll l x (lastI rows[q]) k → ((v = -1 ∧ ∀ i (hi : i < rows.length), i < q + 1 → ¬ Foll l x (lastI rows[i]) k) ∨ ∃ (j : Nat) (h : j < rows.length), v = (j : Int) ∧ Foll l x (lastI rows[j]) k) := fun hno => by
      rcases hi with ⟨e, h⟩ | h
      · refine .inl ⟨e, fun i hil hiq => ?_⟩
        by_cases e2 : i = q
        · subst e2; exact hno
        · exact h i hil (by omega)
      · exact .inr h
    unfold mFleetTurns_L23978
    rw [idx_lt hq', Option.bind_some, chk_ok (by omega) (by omega), Option.bind_some, idx_last w1, Option.bind_some]
    by_cases hne : lastI rows[q] ≠ k
    · obtain ⟨b, b1, b2⟩ := follows_eq (s := tk l (lastI rows[q])) (t := tk l k) (ok_tk hT hlast) hx
      rw [if_pos hne, idx_tk hlast, Option.bind_some, idx_tk hk, Option.bind_some, b1, Option.bind_some]
      by_cases hb : b = true
      · have hF : Foll l x (lastI rows[q]) k := b2.1 hb
        rw [if_pos hb]
        by_cases hv : v < 0
        · rw [if_pos hv, Option.bind_some, if_pos rfl]
          exact ⟨_, rfl, .inr ⟨q, hq', rfl, hF⟩⟩
        · rcases hi with ⟨e, _⟩ | ⟨j, hj, e, hJ⟩
          · omega
          · obtain ⟨u1, u2, u3⟩ := hw.2 _ (List.getElem_mem hj)
            rw [if_neg hv, Option.bind_some, e, idx_lt hj, Option.bind_some, Option.bind_some, chk_ok (by omega) (by omega), Option.bind_some, idx_last u1, Option.bind_some, idx_tk (u3 _ (last_mem u1)), Option.bind_some, Option.bind_some]
            by_cases hd : (tk l (lastI rows[q])).Arr < (tk l (lastI rows[j])).Arr
            · rw [decide_eq_true hd, if_pos rfl]
              exact ⟨_, rfl, .inr ⟨q, hq', rfl, hF⟩⟩
            · rw [decide_eq_false hd, if_neg (by decide)]
              exact ⟨_, rfl, .inr ⟨j, hj, rfl, hJ⟩⟩
      · rw [if_neg hb, Option.bind_some, if_neg (by decide)]
        exact ⟨_, rfl, no (fun h => hb (b2.2 h))⟩
    · rw [if_neg hne, Option.bind_some, if_neg (by decide)]
      refine ⟨_, rfl, no (fun h => ?_)⟩
      have e : lastI rows[q] = k := Decidable.not_not.1 hne
      unfold Foll at h
      rw [e] at h
      omega)
  refine ⟨v, h1, ?_⟩
  rcases h2 with ⟨e, h⟩ | h
  · refine .inl ⟨e, fun r hr => ?_⟩
    obtain ⟨i, hi, rfl⟩ := List.getElem_of_mem hr
    exact h i hi (by omega)
  · exact .inr h
/-- One unit of a task is given to a turn, or begins one. -/
theorem give_one (hT : TurnOk l x) {m : Nat} (hm : m ≤ 900) {rows : List (List Int)} (hw : Wf l m rows) {k : Int} (hk : Val l k) (q : Nat) :
    ∃ rows', mFleetTurns_L21113 l x k q rows = some rows' ∧ ((rows' = rows ++ [[k]] ∧ ∀ r ∈ rows, ¬ Foll l x (lastI r) k) ∨ ∃ (j : Nat) (h : j < rows.length), rows' = rows.set j (rows[j] ++ [k]) ∧ Foll l x (lastI rows[j]) k) := by
  obtain ⟨v, v1, v2⟩ := find_turn hT (show m ≤ 1000 by omega) hw hk
  have hl := hw.1
  unfold mFleetTurns_L21113
  rw [v1, Option.bind_some]
  rcases v2 with ⟨rfl, h⟩ | ⟨j, hj, rfl, h⟩
  · have hlen : (((rows ++ [[]]).length : Nat) : Int) - 1 = (rows.length : Int) := by simp
    have hget : (rows ++ [[]])[rows.length]? = some ([] : List Int) := by simp
    rw [if_pos (by decide), room_ok (by omega) (by omega), Option.bind_some, hlen, chk_ok (by omega) (by omega), Option.bind_some, pass2, idx_nat hget, Option.bind_some, room_ok (by simp) (by simp), Option.bind_some, Option.bind_some, put_nat]
    exact ⟨_, rfl, .inl ⟨by simp, h⟩⟩
  · obtain ⟨w1, w2, w3⟩ := hw.2 _ (List.getElem_mem hj)
    rw [if_neg (by omega), pass2, idx_lt hj, Option.bind_some, room_ok (by omega) (by omega), Option.bind_some, Option.bind_some, put_nat]
    exact ⟨_, rfl, .inr ⟨j, hj, rfl, h⟩⟩
end
end Go.Proofs.Ytajmocgpjkhjlaa
