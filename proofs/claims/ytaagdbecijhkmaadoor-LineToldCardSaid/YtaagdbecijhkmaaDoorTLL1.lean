/- Plain: ends, sections, links of a net. -/
import Derived.Test.YtaagdbecijhkmaaDoorX6
import Derived.Test.YtaagdbecijhkmaaDoorTD
set_option linter.unusedVariables false
set_option linter.unusedSimpArgs false
namespace Go.Proofs.YtaagdbecijhkmaaDoor
open Go.RowKit Go.Fp

theorem pass2 {β γ τ : Type} {A : β → γ → Option τ} {y : β} {z : γ} : (some (y, z)).bind (unc2 A) = A y z := rfl
theorem pass3 {β γ δ τ : Type} {A : β → γ → δ → Option τ} {y : β} {z : γ} {x : δ} : (some (y, z, x)).bind (unc3 A) = A y z x := rfl
theorem forU {τ : Type} {body : Nat → Unit → Option (Unit ⊕ τ)} (R : Nat → Prop) (Q : τ → Prop) (m : Nat) (h : ∀ k, k < m → (body k () = some (.inl ()) ∧ R k) ∨ ∃ t, body k () = some (.inr t) ∧ Q t) :
    (forM body m 0 () = some (.inl ()) ∧ ∀ k, k < m → R k) ∨ ∃ t, forM body m 0 () = some (.inr t) ∧ Q t := by
  rcases forM_inv (body := body) (fun k _ => ∀ j, j < k → R j) Q m 0 () (fun j hj => absurd hj (by omega)) (fun k s _ hk hi => by
    rcases h k (by omega) with ⟨h1, h2⟩ | h1
    · exact .inl ⟨(), h1, fun j hj => by
        by_cases e : j = k
        · subst e; exact h2
        · exact hi j (by omega)⟩
    · exact .inr h1) with ⟨s, h1, h2⟩ | h1
  · exact .inl ⟨h1, fun k hk => h2 k (by omega)⟩
  · exact .inr h1
theorem within_eq (x a b : Int) : mLineWithin x a b = some (decide (a ≤ x ∧ x ≤ b)) := by
  unfold mLineWithin
  by_cases h : a ≤ x <;> simp [h]
def endsI (k : Int) : Int := if k = 1 then 2 else if k = 2 then 3 else if k = 3 then 4 else 0
theorem ends_eq (k : Int) : mLineEnds k = some (endsI k) := by
  unfold mLineEnds endsI
  split
  · rfl
  · split
    · rfl
    · split <;> rfl
theorem endsI_bd (k : Int) : 0 ≤ endsI k ∧ endsI k ≤ 4 := by
  unfold endsI
  split
  · omega
  · split
    · omega
    · split <;> omega
def sec (n : ApiNet) (i : Int) : ApiSection := (n.Sections[i.toNat]?).getD ⟨0, 0, 0, 0, 0, 0, false⟩
theorem idx_sec {n : ApiNet} {i : Int} (h : 0 ≤ i ∧ i < (n.Sections.length : Int)) : idx n.Sections i = some (sec n i) := by
  obtain ⟨x, h1, h2⟩ := idx_get h.1 h.2
  rw [h1]
  unfold sec
  rw [h2]
  rfl
def Has (n : ApiNet) (e : LineEnd) : Prop := (0 ≤ e.section_ ∧ e.section_ < (n.Sections.length : Int)) ∧ 0 ≤ e.end_ ∧ e.end_ < endsI (sec n e.section_).Kind
instance (n : ApiNet) (e : LineEnd) : Decidable (Has n e) := by unfold Has; exact inferInstance
theorem has_eq {n : ApiNet} (hl : n.Sections.length ≤ 60) (e : LineEnd) : mLineHas n e = some (decide (Has n e)) := by
  unfold mLineHas
  rw [chk_ok (by omega) (by omega), Option.bind_some, within_eq, Option.bind_some]
  by_cases h : 0 ≤ e.section_ ∧ e.section_ ≤ (n.Sections.length : Int) - 1
  · have hb := endsI_bd (sec n e.section_).Kind
    rw [decide_eq_true h, if_pos rfl, idx_sec ⟨h.1, by omega⟩, Option.bind_some, ends_eq, Option.bind_some, chk_ok (by omega) (by omega), Option.bind_some, within_eq, Option.bind_some, Option.bind_some]
    refine congrArg some (decide_eq_decide.2 ?_)
    unfold Has
    omega
  · rw [decide_eq_false h, if_neg (by decide), Option.bind_some]
    congr 1
    symm
    rw [decide_eq_false_iff_not]
    intro hh
    unfold Has at hh
    omega
theorem xor_all : ∀ i : Fin 4, xorI .i64 (i.val : Int) 1 = (if i.val = 0 then 1 else if i.val = 1 then 0 else if i.val = 2 then 3 else 2) := by decide +kernel
/-- The two ends of a link. -/
def endA (k : ApiLink) : LineEnd := ⟨k.A, k.EndA⟩
def endB (k : ApiLink) : LineEnd := ⟨k.B, k.EndB⟩
/-- The end that is joined to an end. -/
def joinL : List ApiLink → LineEnd → Option LineEnd
  | [], _ => none
  | k :: r, e => if endA k = e then some (endB k) else if endB k = e then some (endA k) else joinL r e
theorem joinL_cons (k : ApiLink) (r : List ApiLink) (e : LineEnd) : joinL (k :: r) e = if endA k = e then some (endB k) else if endB k = e then some (endA k) else joinL r e := rfl
def joinR (o : Option LineEnd) : Int × Int × Bool := match o with
  | none => (0, 0, false)
  | some e => (e.section_, e.end_, true)
theorem joined_body (n : ApiNet) (e : LineEnd) (k : Nat) (hk : k < n.Links.length) : mLineJoined_L88 n e k () = some (if endA n.Links[k] = e then .inr (joinR (some (endB n.Links[k]))) else if endB n.Links[k] = e then .inr (joinR (some (endA n.Links[k]))) else .inl ()) := by
  have eq : ∀ a b : Int, ((⟨a, b⟩ : LineEnd) = e ↔ a = e.section_ ∧ b = e.end_) := fun a b => by
    cases e
    simp
  unfold mLineJoined_L88
  rw [idx_lt hk, Option.bind_some]
  unfold endA endB
  simp only [eq]
  by_cases h1 : n.Links[k].A = e.section_ ∧ n.Links[k].EndA = e.end_
  · rw [if_pos h1.1, decide_eq_true h1.2, Option.bind_some, if_pos rfl, if_pos h1]
    rfl
  · have e1 : (if n.Links[k].A = e.section_ then some (decide (n.Links[k].EndA = e.end_)) else some false) = some false := by
      by_cases c : n.Links[k].A = e.section_
      · rw [if_pos c, decide_eq_false (fun h => h1 ⟨c, h⟩)]
      · rw [if_neg c]
    rw [e1, Option.bind_some, if_neg (by decide), if_neg h1]
    by_cases h2 : n.Links[k].B = e.section_ ∧ n.Links[k].EndB = e.end_
    · rw [if_pos h2.1, decide_eq_true h2.2, Option.bind_some, if_pos rfl, if_pos h2]
      rfl
    · have e2 : (if n.Links[k].B = e.section_ then some (decide (n.Links[k].EndB = e.end_)) else some false) = some false := by
        by_cases c : n.Links[k].B = e.section_
        · rw [if_pos c, decide_eq_false (fun h => h2 ⟨c, h⟩)]
        · rw [if_neg c]
      rw [e2, Option.bind_some, if_neg (by decide), if_neg h2]
theorem joinL_drop {e : LineEnd} : ∀ (l : List ApiLink) (k : Nat), (∀ j (h : j < l.length), j < k → endA l[j] ≠ e ∧ endB l[j] ≠ e) → joinL l e = joinL (l.drop k) e
  | [], k, _ => by simp
  | x :: l, 0, _ => rfl
  | x :: l, k + 1, h => by
    have h0 := h 0 (by simp) (by omega)
    simp only [List.getElem_cons_zero] at h0
    rw [List.drop_succ_cons, ← joinL_drop l k (fun j hj hjk => by
      have := h (j + 1) (by simp; omega) (by omega)
      simpa using this)]
    rw [joinL_cons, if_neg h0.1, if_neg h0.2]
theorem joined_eq (n : ApiNet) (e : LineEnd) : mLineJoined n e = some (joinR (joinL n.Links e)) := by
  unfold mLineJoined
  rcases forM_inv (body := mLineJoined_L88 n e) (fun k _ => ∀ j (h : j < n.Links.length), j < k → endA n.Links[j] ≠ e ∧ endB n.Links[j] ≠ e) (fun t => t = joinR (joinL n.Links e)) n.Links.length 0 () (fun j _ hj => absurd hj (by omega)) (fun k s _ hk hi => by
    have hk' : k < n.Links.length := by omega
    have hd := joinL_drop n.Links k hi
    rw [List.drop_eq_getElem_cons hk'] at hd
    rw [joined_body n e k hk']
    by_cases h1 : endA n.Links[k] = e
    · rw [if_pos h1]
      refine .inr ⟨_, rfl, ?_⟩
      rw [hd]
      show _ = joinR (if endA n.Links[k] = e then some (endB n.Links[k]) else _)
      rw [if_pos h1]
    · rw [if_neg h1]
      by_cases h2 : endB n.Links[k] = e
      · rw [if_pos h2]
        refine .inr ⟨_, rfl, ?_⟩
        rw [hd]
        show _ = joinR (if endA n.Links[k] = e then some (endB n.Links[k]) else if endB n.Links[k] = e then some (endA n.Links[k]) else _)
        rw [if_neg h1, if_pos h2]
      · rw [if_neg h2]
        refine .inl ⟨(), rfl, fun j hj hjk => ?_⟩
        by_cases ej : j = k
        · subst ej; exact ⟨h1, h2⟩
        · exact hi j hj (by omega)) with ⟨s, h1, h2⟩ | ⟨t, h1, h2⟩
  · rw [h1]
    have := joinL_drop n.Links n.Links.length (fun j hj hjk => h2 j hj (by omega))
    rw [List.drop_length] at this
    rw [this]
    rfl
  · rw [h1, h2]
    rfl
/-- Joined the other way about, where no end stands twice. -/
def Apart (l : List ApiLink) : Prop := l.Pairwise (fun x y => (endA x ≠ endA y ∧ endA x ≠ endB y) ∧ endB x ≠ endA y ∧ endB x ≠ endB y) ∧ ∀ x ∈ l, endA x ≠ endB x
theorem joinL_mem {e f : LineEnd} : ∀ {l : List ApiLink}, joinL l e = some f → ∃ x ∈ l, (endA x = e ∧ endB x = f) ∨ (endB x = e ∧ endA x = f)
  | [], h => by cases h
  | x :: l, h => by
    rw [joinL_cons] at h
    by_cases h1 : endA x = e
    · rw [if_pos h1] at h
      injection h with h
      exact ⟨x, List.mem_cons_self, .inl ⟨h1, h⟩⟩
    · rw [if_neg h1] at h
      by_cases h2 : endB x = e
      · rw [if_pos h2] at h
        injection h with h
        exact ⟨x, List.mem_cons_self, .inr ⟨h2, h⟩⟩
      · rw [if_neg h2] at h
        obtain ⟨y, hy, h3⟩ := joinL_mem h
        exact ⟨y, List.mem_cons_of_mem _ hy, h3⟩
theorem joinL_of : ∀ {l : List ApiLink} {x : ApiLink}, Apart l → x ∈ l → joinL l (endA x) = some (endB x) ∧ joinL l (endB x) = some (endA x)
  | [], x, _, hx => by cases hx
  | y :: l, x, h, hx => by
    have hp := List.pairwise_cons.1 h.1
    have hy := h.2 y List.mem_cons_self
    rcases List.mem_cons.1 hx with rfl | hx
    · constructor
      · show (if endA x = endA x then _ else _) = _
        rw [if_pos rfl]
      · show (if endA x = endB x then _ else if endB x = endB x then _ else _) = _
        rw [if_neg hy, if_pos rfl]
    · obtain ⟨i1, i2⟩ := joinL_of (l := l) ⟨hp.2, fun z hz => h.2 z (List.mem_cons_of_mem _ hz)⟩ hx
      obtain ⟨⟨a1, a2⟩, a3, a4⟩ := hp.1 x hx
      constructor
      · show (if endA y = endA x then _ else if endB y = endA x then _ else joinL l (endA x)) = _
        rw [if_neg a1, if_neg a3, i1]
      · show (if endA y = endB x then _ else if endB y = endB x then _ else joinL l (endB x)) = _
        rw [if_neg a2, if_neg a4, i2]
theorem join_back {l : List ApiLink} (h : Apart l) {e f : LineEnd} (hj : joinL l e = some f) : joinL l f = some e := by
  obtain ⟨x, hx, h1 | h1⟩ := joinL_mem hj
  · have := (joinL_of h hx).2
    rw [h1.1, h1.2] at this
    exact this
  · have := (joinL_of h hx).1
    rw [h1.1, h1.2] at this
    exact this
end Go.Proofs.YtaagdbecijhkmaaDoor
