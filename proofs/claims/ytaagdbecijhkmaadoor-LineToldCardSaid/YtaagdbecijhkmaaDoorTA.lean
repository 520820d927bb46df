/- Plain: what the check of a net says of words and numbers. -/
import Derived.Test.YtaagdbecijhkmaaDoorTS
set_option linter.unusedVariables false
set_option linter.unusedSimpArgs false
namespace Go.Proofs.YtaagdbecijhkmaaDoor
open Go.RowKit Go.Fp

/- ---- rounds that leave nothing behind, backwards ---- -/
theorem forU_done {τ : Type} {body : Nat → Unit → Option (Unit ⊕ τ)} : ∀ (m k : Nat), forM body m k () = some (.inl ()) → ∀ j, k ≤ j → j < k + m → body j () = some (.inl ())
  | 0, k, _, j, h1, h2 => by omega
  | m + 1, k, h, j, h1, h2 => by
    unfold Go.Fp.forM at h
    cases hb : body k () with
    | none => rw [hb] at h; cases h
    | some v =>
      rw [hb] at h
      cases v with
      | inr t => cases h
      | inl u =>
        by_cases hj : j = k
        · subst hj
          exact hb
        · exact forU_done m (k + 1) h j (by omega) (by omega)
theorem forU_out {τ : Type} {body : Nat → Unit → Option (Unit ⊕ τ)} {t : τ} : ∀ (m k : Nat), forM body m k () = some (.inr t) → ∃ j, k ≤ j ∧ j < k + m ∧ body j () = some (.inr t)
  | 0, k, h => by simp [Go.Fp.forM] at h
  | m + 1, k, h => by
    unfold Go.Fp.forM at h
    cases hb : body k () with
    | none => rw [hb] at h; cases h
    | some v =>
      rw [hb] at h
      cases v with
      | inr t' =>
        have h : some (Sum.inr t') = some (Sum.inr t) := h
        injection h with h
        injection h with h
        subst h
        exact ⟨k, by omega, by omega, hb⟩
      | inl u =>
        obtain ⟨j, h1, h2, h3⟩ := forU_out m (k + 1) h
        exact ⟨j, by omega, by omega, h3⟩
/-- A loop with its two ends. -/
theorem forU_ends {τ ρ : Type} {body : Nat → Unit → Option (Unit ⊕ τ)} {m : Nat} {A : Option ρ} {B : τ → Option ρ} {r : ρ} (h : ((forM body m 0 ()).bind fun t => Sum.elim (fun _ => A) B t) = some r) :
    ((∀ j, j < m → body j () = some (.inl ())) ∧ A = some r) ∨ ∃ j t, j < m ∧ body j () = some (.inr t) ∧ B t = some r := by
  cases hf : forM body m 0 () with
  | none => rw [hf] at h; cases h
  | some v =>
    rw [hf] at h
    cases v with
    | inl u =>
      exact .inl ⟨fun j hj => forU_done m 0 hf j (by omega) (by omega), h⟩
    | inr t =>
      obtain ⟨j, h1, h2, h3⟩ := forU_out m 0 hf
      exact .inr ⟨j, t, by omega, h3, h⟩
/-- A name: letters a to z, one to twelve of them. -/
def NameOk (s : ByteArray) : Prop := (1 ≤ s.size ∧ s.size ≤ 12) ∧ ∀ b ∈ s.data.toList, 97 ≤ b.toNat ∧ b.toNat ≤ 122
theorem name_inv {s : ByteArray} (h : mLineName s = some true) : NameOk s := by
  unfold mLineName at h
  cases hc : chk (s.size : Int) with
  | none => rw [hc] at h; cases h
  | some x =>
    rw [hc, Option.bind_some] at h
    rcases forU_ends h with ⟨h1, h2⟩ | ⟨j, t, _, h1, h2⟩
    · have hs : 1 ≤ s.size ∧ s.size ≤ 12 := by
        by_cases a : 1 ≤ (s.size : Int)
        · rw [if_pos a] at h2
          have h2 : some (decide ((s.size : Int) ≤ 12)) = some true := h2
          injection h2 with h2
          have := of_decide_eq_true h2
          omega
        · rw [if_neg a] at h2
          have h2 : some false = some true := h2
          cases h2
      refine ⟨hs, fun b hb => ?_⟩
      obtain ⟨j, hj, rfl⟩ := List.getElem_of_mem hb
      have hl : (sBytes s).length = s.data.toList.length := by simp [sBytes]
      have := h1 j (by omega)
      unfold mLineName_L75 at this
      rw [idx_lt (by omega), Option.bind_some] at this
      have he : (sBytes s)[j]'(by omega) = (s.data.toList[j].toNat : Int) := by simp [sBytes]
      rw [he] at this
      by_cases a : (s.data.toList[j].toNat : Int) < 97
      · rw [if_pos a, Option.bind_some, if_pos rfl] at this
        cases this
      · rw [if_neg a, Option.bind_some] at this
        by_cases c : 122 < (s.data.toList[j].toNat : Int)
        · rw [decide_eq_true c, if_pos rfl] at this
          cases this
        · omega
    · unfold mLineName_L75 at h1
      cases hx : idx (sBytes s) (j : Int) with
      | none => rw [hx] at h1; cases h1
      | some x =>
        rw [hx, Option.bind_some] at h1
        have : t = false := by
          by_cases a : x < 97
          · rw [if_pos a, Option.bind_some, if_pos rfl] at h1
            injection h1 with h1
            injection h1 with h1
            exact h1.symm
          · rw [if_neg a, Option.bind_some] at h1
            by_cases c : 122 < x
            · rw [decide_eq_true c, if_pos rfl] at h1
              injection h1 with h1
              injection h1 with h1
              exact h1.symm
            · rw [decide_eq_false c, if_neg (by decide)] at h1
              cases h1
        subst this
        have h2 : some false = some true := h2
        cases h2
/-- A section, as far as its line tells. -/
structure SecOk (s : ApiSection) : Prop where
  kind : s.Kind = 1 ∧ s.Slow = 0 ∨ s.Kind = 2 ∧ s.Station = 0 ∨ s.Kind = 3 ∧ s.Slow = 0 ∧ s.Station = 0 ∧ s.Grade = 0
  len : 10 ≤ s.Length ∧ s.Length ≤ 3000
  grade : -40 ≤ s.Grade ∧ s.Grade ≤ 40
  speed : 300 ≤ s.Speed ∧ s.Speed ≤ 6000
  slow : 0 ≤ s.Slow ∧ s.Slow ≤ 6000
  stat : 0 ≤ s.Station ∧ s.Station ≤ 12
theorem section_inv {s : ApiSection} {m : Int} (hm : m ≤ 12) (h : mLineCheckSection s m = some 0) : SecOk s := by
  unfold mLineCheckSection at h
  rw [ends_eq, Option.bind_some] at h
  by_cases h0 : endsI s.Kind = 0
  · rw [if_pos h0] at h
    cases h
  · have hk : s.Kind = 1 ∨ s.Kind = 2 ∨ s.Kind = 3 := by
      unfold endsI at h0
      by_cases a : s.Kind = 1
      · exact .inl a
      · by_cases b : s.Kind = 2
        · exact .inr (.inl b)
        · by_cases c : s.Kind = 3
          · exact .inr (.inr c)
          · simp [a, b, c] at h0
    rw [if_neg h0, within_eq, Option.bind_some] at h
    by_cases h1 : 10 ≤ s.Length ∧ s.Length ≤ 3000
    case neg =>
      rw [decide_eq_false h1, if_neg (by decide), Option.bind_some, if_pos rfl] at h
      cases h
    rw [decide_eq_true h1, if_pos rfl, within_eq, Option.bind_some] at h
    by_cases h2 : -40 ≤ s.Grade ∧ s.Grade ≤ 40
    case neg =>
      rw [decide_eq_false h2, if_neg (by decide), Option.bind_some, if_pos rfl] at h
      cases h
    rw [decide_eq_true h2, if_pos rfl, within_eq, Option.bind_some] at h
    by_cases h3 : 300 ≤ s.Speed ∧ s.Speed ≤ 6000
    case neg =>
      rw [decide_eq_false h3] at h
      cases h
    rw [decide_eq_true h3] at h
    simp only [Bool.not_true, Option.bind_some, Bool.false_eq_true, if_false, within_eq] at h
    rcases hk with k | k | k
    · -- plain
      have n2 : ¬ s.Kind = 2 := by omega
      have n3 : ¬ s.Kind = 3 := by omega
      simp only [k, n2, n3, if_true, if_false, (by decide : ¬ (1 : Int) = 2), (by decide : ¬ (1 : Int) = 3), decide_false, ite_self] at h
      by_cases a : 0 ≤ s.Station ∧ s.Station ≤ m
      · rw [decide_eq_true a] at h
        simp only [Bool.not_true, Option.bind_some, Bool.false_eq_true, if_false] at h
        by_cases c : s.Slow ≠ 0
        · simp [c] at h
        · exact ⟨.inl ⟨k, by omega⟩, h1, h2, h3, by omega, by omega⟩
      · rw [decide_eq_false a] at h
        simp at h
    · simp only [k, if_true, if_false, (by decide : ¬ (2 : Int) = 1), (by decide : ¬ (2 : Int) = 3), decide_false, ite_self] at h
      by_cases a : 300 ≤ s.Slow ∧ s.Slow ≤ s.Speed
      · rw [decide_eq_true a] at h
        simp only [if_true, Option.bind_some, Bool.false_eq_true, if_false] at h
        by_cases c : s.Station ≠ 0
        · have hsl : s.Slow ≠ 0 := by omega
          simp [c, hsl] at h
        · exact ⟨.inr (.inl ⟨k, by omega⟩), h1, h2, h3, by omega, by omega⟩
      · rw [decide_eq_false a] at h
        simp at h
    · simp only [k, if_true, if_false, (by decide : ¬ (3 : Int) = 1), (by decide : ¬ (3 : Int) = 2), decide_true, ite_self, Option.bind_some, Bool.false_eq_true] at h
      by_cases c : s.Slow ≠ 0
      · simp [c] at h
      · by_cases d : s.Station ≠ 0
        · simp [c, d] at h
        · by_cases e : s.Grade ≠ 0
          · simp [c, d, e] at h
          · exact ⟨.inr (.inr ⟨k, by omega, by omega, by omega⟩), h1, h2, h3, by omega, by omega⟩
def GateOk (g : ApiGate) : Prop := (0 ≤ g.Section ∧ g.Section < 60) ∧ 1 ≤ g.Close ∧ g.Close ≤ 12
theorem gate_inv {n : ApiNet} (hl : n.Sections.length ≤ 60) {k : Nat} (hk : k < n.Gates.length) {v : Unit ⊕ Int} (h : mLineCheckGates_L197 n k () = some v) : Sum.elim (fun _ => GateOk n.Gates[k]) (fun c : Int => c ≠ 0) v := by
  unfold mLineCheckGates_L197 at h
  rw [idx_lt hk, Option.bind_some, chk_ok (by omega) (by omega), Option.bind_some, within_eq, Option.bind_some] at h
  by_cases h1 : 0 ≤ n.Gates[k].Section ∧ n.Gates[k].Section ≤ (n.Sections.length : Int) - 1
  · rw [decide_eq_true h1, if_pos rfl, idx_sec ⟨h1.1, by omega⟩, Option.bind_some] at h
    by_cases h2 : (sec n n.Gates[k].Section).Kind ≠ 1
    · rw [if_pos h2] at h
      injection h with h
      subst h
      exact (by decide : (1 : Int) ≠ 0)
    · rw [if_neg h2, within_eq, Option.bind_some] at h
      by_cases h3 : 1 ≤ n.Gates[k].Close ∧ n.Gates[k].Close ≤ 12
      · cases v with
        | inl u => exact ⟨⟨h1.1, by omega⟩, h3⟩
        | inr c =>
          rw [decide_eq_true h3, if_pos rfl] at h
          obtain ⟨b, _, hb⟩ := Option.bind_eq_some_iff.1 h
          by_cases hbt : b = true
          · rw [if_pos hbt] at hb
            injection hb with hb
            injection hb with hb
            subst hb
            exact (by decide : (5 : Int) ≠ 0)
          · rw [if_neg hbt] at hb
            cases hb
      · rw [decide_eq_false h3, if_neg (by decide)] at h
        injection h with h
        subst h
        exact (by decide : (2 : Int) ≠ 0)
  · rw [decide_eq_false h1, if_neg (by decide)] at h
    injection h with h
    subst h
    exact (by decide : (3 : Int) ≠ 0)
theorem gates_inv {n : ApiNet} (hl : n.Sections.length ≤ 60) (h : mLineCheckGates n = some 0) : ∀ g ∈ n.Gates, GateOk g := by
  unfold mLineCheckGates at h
  rcases forU_ends h with ⟨h1, _⟩ | ⟨j, t, hj, h1, h2⟩
  · intro g hg
    obtain ⟨j, hj, rfl⟩ := List.getElem_of_mem hg
    exact gate_inv hl hj (h1 j hj)
  · have := gate_inv hl hj h1
    injection h2 with h2
    exact absurd h2 this
/-- What the check says of a net's words and numbers. -/
structure Told (n : ApiNet) : Prop where
  names : ∀ s ∈ n.Stations, NameOk s
  secs : ∀ s ∈ n.Sections, SecOk s
  gates : ∀ g ∈ n.Gates, GateOk g
  some_ : 1 ≤ n.Sections.length
  n12 : n.Stations.length ≤ 12
  n60 : n.Sections.length ≤ 60
  n90 : n.Links.length ≤ 90
  n40 : n.Signals.length ≤ 40
  n8 : n.Gates.length ≤ 8
theorem check_inv {n : ApiNet} (h : mLineCheck n = some 0) : Told n := by
  unfold mLineCheck at h
  by_cases h0 : (n.Sections.length : Int) = 0
  · rw [if_pos h0] at h
    cases h
  rw [if_neg h0] at h
  by_cases c1 : 12 < (n.Stations.length : Int)
  · rw [if_pos c1, Option.bind_some, if_pos rfl] at h
    cases h
  rw [if_neg c1] at h
  by_cases c2 : 60 < (n.Sections.length : Int)
  · rw [if_pos c2, Option.bind_some, if_pos rfl] at h
    cases h
  rw [if_neg c2] at h
  by_cases c3 : 90 < (n.Links.length : Int)
  · rw [if_pos c3, Option.bind_some, if_pos rfl] at h
    cases h
  rw [if_neg c3] at h
  by_cases c4 : 40 < (n.Signals.length : Int)
  · rw [if_pos c4, Option.bind_some, if_pos rfl] at h
    cases h
  rw [if_neg c4, Option.bind_some] at h
  by_cases c5 : 8 < (n.Gates.length : Int)
  · rw [decide_eq_true c5, if_pos rfl] at h
    cases h
  rw [decide_eq_false c5, if_neg (by decide)] at h
  rcases forU_ends h with ⟨h1, h⟩ | ⟨j, t, hj, h1, h2⟩
  case inr =>
    exfalso
    injection h2 with h2
    subst h2
    unfold mLineCheck_L194 at h1
    rw [idx_lt hj, Option.bind_some] at h1
    obtain ⟨b, _, h1⟩ := Option.bind_eq_some_iff.1 h1
    by_cases hb : b = true
    · rw [if_pos hb] at h1
      obtain ⟨l, _, h1⟩ := Option.bind_eq_some_iff.1 h1
      obtain ⟨q, _, h1⟩ := Option.bind_eq_some_iff.1 h1
      by_cases hq : q = true
      · rw [if_pos hq] at h1
        injection h1 with h1
        injection h1 with h1
        revert h1
        decide
      · rw [if_neg hq] at h1
        cases h1
    · rw [if_neg hb] at h1
      injection h1 with h1
      injection h1 with h1
      revert h1
      decide
  rcases forU_ends h with ⟨h2, h⟩ | ⟨j, t, hj, h2, h3⟩
  case inr =>
    exfalso
    injection h3 with h3
    subst h3
    unfold mLineCheck_L267 at h2
    rw [idx_lt hj, Option.bind_some] at h2
    obtain ⟨c, _, h2⟩ := Option.bind_eq_some_iff.1 h2
    by_cases hc : c ≠ 0
    · rw [if_pos hc] at h2
      injection h2 with h2
      injection h2 with h2
      exact hc h2
    · rw [if_neg hc] at h2
      cases h2
  rcases forU_ends h with ⟨h3, _⟩ | ⟨j, t, hj, h3, h4⟩
  case inr =>
    exfalso
    injection h4 with h4
    subst h4
    have fin : ∀ c : Int, (if c ≠ 0 then some (.inr c) else some (.inl ()) : Option (Unit ⊕ Int)) ≠ some (.inr 0) := fun c hc => by
      by_cases h : c ≠ 0
      · rw [if_pos h] at hc
        injection hc with hc
        injection hc with hc
        exact h hc
      · rw [if_neg h] at hc
        cases hc
    unfold mLineCheck_L305 at h3
    by_cases k0 : (j : Int) = 0
    · rw [if_pos k0] at h3
      obtain ⟨c, _, h3⟩ := Option.bind_eq_some_iff.1 h3
      exact fin c h3
    · rw [if_neg k0] at h3
      by_cases k1 : (j : Int) = 1
      · rw [if_pos k1] at h3
        obtain ⟨c, _, h3⟩ := Option.bind_eq_some_iff.1 h3
        exact fin c h3
      · rw [if_neg k1] at h3
        by_cases k2 : (j : Int) = 2
        · rw [if_pos k2] at h3
          obtain ⟨c, _, h3⟩ := Option.bind_eq_some_iff.1 h3
          exact fin c h3
        · omega
  refine ⟨fun s hs => ?_, fun s hs => ?_, ?_, by omega, by omega, by omega, by omega, by omega, by omega⟩
  · obtain ⟨j, hj, rfl⟩ := List.getElem_of_mem hs
    have := h1 j hj
    unfold mLineCheck_L194 at this
    rw [idx_lt hj, Option.bind_some] at this
    obtain ⟨b, hb, this⟩ := Option.bind_eq_some_iff.1 this
    by_cases hbt : b = true
    · rw [hbt] at hb
      exact name_inv hb
    · rw [if_neg hbt] at this
      cases this
  · obtain ⟨j, hj, rfl⟩ := List.getElem_of_mem hs
    have := h2 j hj
    unfold mLineCheck_L267 at this
    rw [idx_lt hj, Option.bind_some] at this
    obtain ⟨c, hc, this⟩ := Option.bind_eq_some_iff.1 this
    by_cases h0 : c ≠ 0
    · rw [if_pos h0] at this
      cases this
    · have : c = 0 := by omega
      subst this
      exact section_inv (by omega) hc
  · have := h3 2 (by decide)
    unfold mLineCheck_L305 at this
    rw [if_neg (by decide), if_neg (by decide), if_pos (by decide)] at this
    obtain ⟨c, hc, this⟩ := Option.bind_eq_some_iff.1 this
    by_cases h0 : c ≠ 0
    · rw [if_pos h0] at this
      cases this
    · have : c = 0 := by omega
      subst this
      exact gates_inv (by omega) hc
end Go.Proofs.YtaagdbecijhkmaaDoor
