/- Plain: checks, loads, what driverBreaks says of any shifts. -/
import Derived.Test.YtnmhabgnfifkdaaX6
import Derived.Test.YtnmhabgnfifkdaaZD
set_option linter.unusedVariables false
set_option linter.unusedSimpArgs false
namespace Go.Proofs.Ytnmhabgnfifkdaa
open Go.RowKit Go.Fp

theorem pass2 {α β γ : Type} (a : α) (b : β) (f : α → β → Option γ) : ((some (a, b)).bind (unc2 f)) = f a b := rfl
theorem pass3 {α β γ δ : Type} (a : α) (b : β) (c : γ) (f : α → β → γ → Option δ) : ((some (a, b, c)).bind (unc3 f)) = f a b c := rfl
theorem pass4 {α β γ δ ε : Type} (a : α) (b : β) (c : γ) (d : δ) (f : α → β → γ → δ → Option ε) : ((some (a, b, c, d)).bind (unc4 f)) = f a b c d := rfl
theorem pass6 {α β γ δ ε ζ η : Type} (a : α) (b : β) (c : γ) (d : δ) (e : ε) (g : ζ) (f : α → β → γ → δ → ε → ζ → Option η) : ((some (a, b, c, d, e, g)).bind (unc6 f)) = f a b c d e g := rfl
theorem within_eq (x a b : Int) : mFleetWithin x a b = some (decide (a ≤ x ∧ x ≤ b)) := by
  unfold mFleetWithin
  by_cases h : a ≤ x <;> simp [h]
structure OkS (s : FleetShift) : Prop where
  day : 0 ≤ s.Day ∧ s.Day ≤ 6
  start : 0 ≤ s.Start ∧ s.Start ≤ 28800
  stop : 0 ≤ s.End ∧ s.End ≤ 28800
  way : s.Start < s.End
theorem shiftBody (l : List FleetShift) (k : Nat) (h : k < l.length) : (mFleetCheckShifts_L85 l k () = some (.inl ()) ∧ OkS l[k]) ∨ ∃ c, mFleetCheckShifts_L85 l k () = some (.inr c) ∧ c ≠ 0 := by
  unfold mFleetCheckShifts_L85
  rw [idx_lt h]
  simp only [Option.bind_some, within_eq]
  generalize l[k] = t
  by_cases h1 : 0 ≤ t.Day ∧ t.Day ≤ 6
  · by_cases h2 : 0 ≤ t.Start ∧ t.Start ≤ 28800
    · by_cases h3 : 0 ≤ t.End ∧ t.End ≤ 28800
      · by_cases h4 : t.End ≤ t.Start
        · exact .inr ⟨13, by simp [h1, h2, h3, h4], by omega⟩
        · exact .inl ⟨by simp [h1, h2, h3, h4], h1, h2, h3, by omega⟩
      · exact .inr ⟨2, by simp [h1, h2, h3], by omega⟩
    · exact .inr ⟨2, by simp [h1, h2], by omega⟩
  · exact .inr ⟨2, by simp [h1], by omega⟩
theorem shifts_says (l : List FleetShift) : ∃ c, mFleetCheckShifts l = some c ∧ (c = 0 → l.length ≤ 8 ∧ ∀ s ∈ l, OkS s) := by
  unfold mFleetCheckShifts
  by_cases h8 : 8 < (l.length : Int)
  · rw [if_pos h8]
    exact ⟨4, rfl, fun h => absurd h (by decide)⟩
  · rw [if_neg h8]
    rcases forM_inv (body := mFleetCheckShifts_L85 l) (fun k _ => ∀ j : Nat, j < k → ∀ h : j < l.length, OkS l[j]) (fun r => r ≠ 0) l.length 0 () (fun j h => absurd h (Nat.not_lt_zero j)) (fun k s _ hk hI => by
        have hk' : k < l.length := by omega
        rcases shiftBody l k hk' with ⟨e, ok⟩ | ⟨c, e, hc⟩
        · refine .inl ⟨(), e, fun j hj h => ?_⟩
          by_cases ej : j = k
          · subst ej; exact ok
          · exact hI j (by omega) h
        · exact .inr ⟨c, e, hc⟩) with ⟨s, e, hI⟩ | ⟨c, e, hc⟩
    · rw [e]
      refine ⟨0, rfl, fun _ => ⟨by omega, fun s hs => ?_⟩⟩
      obtain ⟨j, hj, rfl⟩ := List.getElem_of_mem hs
      exact hI j (by omega) hj
    · rw [e]
      exact ⟨c, rfl, fun h => absurd h hc⟩
theorem limits_says (x : FleetLimits) : ∃ c, mFleetCheckLimits x = some c := by
  unfold mFleetCheckLimits
  rcases forM_inv (body := mFleetCheckLimits_L41 x) (fun _ _ => True) (fun r => True) 6 0 () trivial (fun k s _ hk _ => by
      unfold mFleetCheckLimits_L41
      have hk' : k < [x.Change, x.Long, x.Work, x.After, x.Break, x.Rest].length := by simpa using hk
      rw [idx_lt hk', Option.bind_some, within_eq, Option.bind_some]
      split
      · exact .inl ⟨_, rfl, trivial⟩
      · exact .inr ⟨_, rfl, trivial⟩) with ⟨s, e, _⟩ | ⟨c, e, _⟩
  · rw [e]
    show ∃ c, (mFleetWithin x.Row 1 7).bind _ = some c
    rw [within_eq, Option.bind_some]
    split
    · exact ⟨_, rfl⟩
    · exact ⟨_, rfl⟩
  · rw [e]
    exact ⟨c, rfl⟩
/-- Numbers of shifts. -/
def Nums (l : List FleetShift) (r : List Int) : Prop := ∀ s ∈ r, 0 ≤ s ∧ s < (l.length : Int)
def at0 (l : List FleetShift) (s : Int) : FleetShift := l.getD s.toNat ⟨0, 0, 0⟩
theorem idx_at {l : List FleetShift} {s : Int} (h : 0 ≤ s ∧ s < (l.length : Int)) : idx l s = some (at0 l s) ∧ at0 l s ∈ l := by
  obtain ⟨n, rfl⟩ : ∃ n : Nat, s = n := ⟨s.toNat, by omega⟩
  have hn : n < l.length := by omega
  have e : at0 l (n : Int) = l[n] := by
    unfold at0
    rw [Int.toNat_natCast, List.getD_eq_getElem?_getD, List.getElem?_eq_getElem hn]
    rfl
  rw [e]
  exact ⟨idx_lt hn, List.getElem_mem hn⟩
theorem nums_get {l : List FleetShift} {r : List Int} (h : Nums l r) {k : Nat} (hk : k < r.length) : 0 ≤ r[k] ∧ r[k] < (l.length : Int) := h _ (List.getElem_mem hk)
theorem take_succ_get {α : Type} {r : List α} {k : Nat} (hk : k < r.length) : r.take (k + 1) = r.take k ++ [r[k]] := by
  rw [List.take_succ_eq_append_getElem hk]
section
variable {l : List FleetShift} (hl : ∀ s ∈ l, OkS s)
def ld (l : List FleetShift) (r : List Int) : Int := (r.map fun s => (at0 l s).End - (at0 l s).Start).sum
theorem ld_append (l : List FleetShift) (r : List Int) (s : Int) : ld l (r ++ [s]) = ld l r + ((at0 l s).End - (at0 l s).Start) := by simp [ld]
theorem ld_nil (l : List FleetShift) : ld l [] = 0 := rfl
include hl in
theorem ld_bound : ∀ {r : List Int}, Nums l r → 0 ≤ ld l r ∧ ld l r ≤ 28800 * r.length
  | [], _ => by simp [ld]
  | s :: r, h => by
    have h1 := ld_bound (r := r) (fun x hx => h x (List.mem_cons_of_mem _ hx))
    have ok := hl _ (idx_at (h s (List.mem_cons_self ..))).2
    have := ok.start; have := ok.stop; have := ok.way
    have e : ld l (s :: r) = ((at0 l s).End - (at0 l s).Start) + ld l r := by simp [ld]
    rw [e, List.length_cons]
    omega
include hl in
theorem load_eq {r : List Int} (hr : Nums l r) (hn : r.length ≤ 8) : mFleetLoad l r = some (ld l r) := by
  unfold mFleetLoad
  obtain ⟨s, e, hI⟩ := forS_inv (body := mFleetLoad_L181 l r) (fun k a => a = ld l (r.take k)) r.length 0 0 rfl (fun k a _ hk hI => by
    have hk' : k < r.length := by omega
    obtain ⟨e1, e2⟩ := idx_at (nums_get hr hk')
    have ok := hl _ e2
    have := ok.start; have := ok.stop; have := ok.way
    have hb := ld_bound hl (r := r.take k) (fun x hx => hr x (List.mem_of_mem_take hx))
    have hlk : (r.take k).length ≤ 8 := by rw [List.length_take]; omega
    unfold mFleetLoad_L181
    rw [idx_lt hk', Option.bind_some, e1, Option.bind_some, Option.bind_some, chk_ok (by omega) (by omega), Option.bind_some, chk_ok (by omega) (by omega), Option.bind_some]
    refine ⟨_, rfl, ?_⟩
    rw [take_succ_get hk', ld_append, hI])
  rw [e, Option.bind_some, hI, Nat.zero_add, List.take_length]
include hl in
theorem pairBody {x : FleetLimits} {r : List Int} (hr : Nums l r) {s : Int} (hs : 0 ≤ s ∧ s < (l.length : Int)) (k : Nat) (hk : k < r.length) (b : Bool) : ∃ b', mFleetDriverBreaks_L2422 l x r s k b = some b' := by
  obtain ⟨e1, e2⟩ := idx_at (nums_get hr hk)
  obtain ⟨e3, e4⟩ := idx_at hs
  have ok := hl _ e2
  have ok' := hl _ e4
  have := ok.start; have := ok.stop; have := ok.day; have := ok'.start; have := ok'.stop; have := ok'.day
  unfold mFleetDriverBreaks_L2422
  rw [idx_lt hk, Option.bind_some, e1, e3, Option.bind_some, Option.bind_some, pass6]
  generalize at0 l s = p at *
  generalize at0 l r[k] = q at *
  by_cases h : q.Day < p.Day
  · rw [if_pos h, pass6]
    by_cases hb : b = true
    · rw [if_pos hb]; exact ⟨_, rfl⟩
    · rw [if_neg hb]
      by_cases hd : q.Day ≠ p.Day
      · rw [if_pos hd, chk_ok (by omega) (by omega), Option.bind_some, chk_ok (by omega) (by omega), Option.bind_some, chk_ok (by omega) (by omega), Option.bind_some, chk_ok (by omega) (by omega), Option.bind_some, chk_ok (by omega) (by omega), Option.bind_some]
        split
        · exact ⟨_, rfl⟩
        · exact ⟨_, rfl⟩
      · rw [if_neg hd]; exact ⟨_, rfl⟩
  · rw [if_neg h, pass6]
    by_cases hb : b = true
    · rw [if_pos hb]; exact ⟨_, rfl⟩
    · rw [if_neg hb]
      by_cases hd : p.Day ≠ q.Day
      · rw [if_pos hd, chk_ok (by omega) (by omega), Option.bind_some, chk_ok (by omega) (by omega), Option.bind_some, chk_ok (by omega) (by omega), Option.bind_some, chk_ok (by omega) (by omega), Option.bind_some, chk_ok (by omega) (by omega), Option.bind_some]
        split
        · exact ⟨_, rfl⟩
        · exact ⟨_, rfl⟩
      · rw [if_neg hd]; exact ⟨_, rfl⟩
theorem get_lt {α : Type} {l : List α} {i : Int} (h0 : 0 ≤ i) (h : i < (l.length : Int)) : ∃ x, idx l i = some x ∧ x ∈ l := by
  obtain ⟨x, h1, h2⟩ := idx_get h0 h
  exact ⟨x, h1, List.mem_of_getElem? h2⟩
theorem put_mem {α : Type} {l : List α} {i : Int} {x y : α} (h : y ∈ put l i x) : y ∈ l ∨ y = x := by
  unfold put at h
  exact List.mem_or_eq_of_mem_set h
include hl in
theorem breaks_total {x : FleetLimits} {r : List Int} (hr : Nums l r) (hn : r.length ≤ 8) : ∃ a b c, mFleetDriverBreaks l r x = some (a, b, c) := by
  unfold mFleetDriverBreaks
  obtain ⟨s, e, hI⟩ := forS_inv (body := mFleetDriverBreaks_L1454 l r x) (fun k a => a.2.length = 7 ∧ ∀ d ∈ a.2, 0 ≤ d ∧ d ≤ (k : Int)) r.length 0 (false, [0, 0, 0, 0, 0, 0, 0]) ⟨rfl, by simp⟩ (fun k a _ hk hI => by
    have hk' : k < r.length := by omega
    obtain ⟨a1, a2⟩ := a
    obtain ⟨h7, hd⟩ := hI
    simp only at h7 hd
    obtain ⟨e1, e2⟩ := idx_at (nums_get hr hk')
    have ok := hl _ e2
    have := ok.day
    obtain ⟨c, c1, c2⟩ := get_lt (l := a2) (i := (at0 l r[k]).Day) (by omega) (by omega)
    have hc := hd c c2
    unfold mFleetDriverBreaks_L1454
    simp only [unc2]
    rw [idx_lt hk', Option.bind_some, e1, Option.bind_some, c1, Option.bind_some, chk_ok (by omega) (by omega), Option.bind_some, Option.bind_some, show (0 : Int) = ((0 : Nat) : Int) from rfl, cutS_ok (Nat.zero_le k) (by omega), Option.bind_some, List.drop_zero]
    obtain ⟨q, q1, _⟩ := forS_inv (body := mFleetDriverBreaks_L2422 l x (r.take k) r[k]) (fun _ _ => True) (r.take k).length 0 a1 trivial (fun j b _ hj _ => by
      obtain ⟨b', hb⟩ := pairBody hl (x := x) (r := r.take k) (fun y hy => hr y (List.mem_of_mem_take hy)) (nums_get hr hk') j (by omega) b
      exact ⟨b', hb, trivial⟩)
    rw [q1, Option.bind_some]
    refine ⟨_, rfl, by simp only [put_length]; exact h7, fun d hdm => ?_⟩
    rcases put_mem hdm with h | h
    · have := hd d h; omega
    · omega)
  obtain ⟨s1, s2⟩ := s
  rw [e, pass2]
  obtain ⟨h7, hd⟩ := hI
  simp only at h7 hd
  obtain ⟨q, q1, _⟩ := forS_inv (body := mFleetDriverBreaks_L2815 x s2) (fun k a => 0 ≤ a.2.2 ∧ a.2.2 ≤ (k : Int)) 7 0 (false, false, 0) (by simp) (fun k a _ hk hI => by
    obtain ⟨a1, a2, a3⟩ := a
    simp only at hI
    have hk' : k < s2.length := by omega
    unfold mFleetDriverBreaks_L2815
    simp only [unc3]
    rw [idx_lt hk', Option.bind_some]
    obtain ⟨u, hu⟩ : ∃ u, (if a1 = true then some true else if 1 < s2[k] then some true else some false) = some u := by
      split
      · exact ⟨_, rfl⟩
      · split
        · exact ⟨_, rfl⟩
        · exact ⟨_, rfl⟩
    rw [hu, Option.bind_some]
    by_cases h0 : s2[k] = 0
    · rw [if_pos h0]
      exact ⟨_, rfl, by simp only; omega⟩
    · rw [if_neg h0, chk_ok (by omega) (by omega), Option.bind_some]
      split
      · exact ⟨_, rfl, by simp only; omega⟩
      · split
        · exact ⟨_, rfl, by simp only; omega⟩
        · exact ⟨_, rfl, by simp only; omega⟩)
  obtain ⟨q1', q2, q3⟩ := q
  rw [q1, pass3]
  exact ⟨_, _, _, rfl⟩
theorem breaks_nil (l : List FleetShift) (x : FleetLimits) : mFleetDriverBreaks l [] x = some (false, false, false) := by
  unfold mFleetDriverBreaks
  show (some (false, [0, 0, 0, 0, 0, 0, 0])).bind _ = _
  rw [pass2]
  obtain ⟨q, q1, hq⟩ := forS_inv (body := mFleetDriverBreaks_L2815 x [0, 0, 0, 0, 0, 0, 0]) (fun k a => a = (false, false, 0)) 7 0 (false, false, 0) rfl (fun k a _ hk hI => by
    subst hI
    have hk' : k < ([0, 0, 0, 0, 0, 0, 0] : List Int).length := by simpa using hk
    have h0 : ([0, 0, 0, 0, 0, 0, 0] : List Int)[k] = 0 := by
      have : ∀ y ∈ ([0, 0, 0, 0, 0, 0, 0] : List Int), y = 0 := by simp
      exact this _ (List.getElem_mem hk')
    unfold mFleetDriverBreaks_L2815
    simp only [unc3]
    rw [idx_lt hk', Option.bind_some, h0]
    exact ⟨_, rfl, rfl⟩)
  rw [q1, hq]
  rfl
/-- What fits says. -/
noncomputable def fitB (l : List FleetShift) (x : FleetLimits) (r : List Int) : Bool := decide (mFleetDriverBreaks l r x = some (false, false, false))
include hl in
theorem fits_eq {x : FleetLimits} {r : List Int} (hr : Nums l r) (hn : r.length ≤ 8) : mFleetFits l r x = some (fitB l x r) := by
  obtain ⟨a, b, c, h⟩ := breaks_total hl (x := x) hr hn
  unfold mFleetFits fitB
  rw [h, pass3]
  cases a <;> cases b <;> cases c <;> simp
end
end Go.Proofs.Ytnmhabgnfifkdaa
