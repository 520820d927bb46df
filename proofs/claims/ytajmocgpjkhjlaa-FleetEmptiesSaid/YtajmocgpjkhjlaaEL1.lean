/- Plain: matchings; what a matching that cannot grow says; the search that makes one grow. -/
import Derived.Test.YtajmocgpjkhjlaaX6
import Derived.Test.YtajmocgpjkhjlaaED
set_option linter.unusedVariables false
set_option linter.unusedSimpArgs false
namespace Go.Proofs.Ytajmocgpjkhjlaa
open Go.RowKit Go.Fp

/- ---- loops that may run out ---- -/
theorem forM_invX {σ τ : Type} {body : Nat → σ → Option (σ ⊕ τ)} (X : Prop) (I : Nat → σ → Prop) (Q : τ → Prop) : ∀ (m k : Nat) (s : σ), I k s → (∀ j s, k ≤ j → j < k + m → I j s → (body j s = none ∧ X) ∨ (∃ s', body j s = some (.inl s') ∧ I (j + 1) s') ∨ ∃ t, body j s = some (.inr t) ∧ Q t) →
    (forM body m k s = none ∧ X) ∨ (∃ s', forM body m k s = some (.inl s') ∧ I (k + m) s') ∨ ∃ t, forM body m k s = some (.inr t) ∧ Q t
  | 0, k, s, h0, _ => .inr (.inl ⟨s, rfl, h0⟩)
  | m + 1, k, s, h0, h => by
    rcases h k s (Nat.le_refl _) (by omega) h0 with ⟨h1, h2⟩ | ⟨s', h1, h2⟩ | ⟨t, h1, h2⟩
    · refine .inl ⟨?_, h2⟩
      show (match body k s with | none => none | some (.inl s') => forM body m (k + 1) s' | some (.inr t) => some (.inr t)) = _
      rw [h1]
    · rw [forM_succ_inl h1, show k + (m + 1) = k + 1 + m by omega]
      exact forM_invX X I Q m (k + 1) s' h2 (fun j t hj hj' hi => h j t (by omega) (by omega) hi)
    · rw [forM_succ_inr h1]
      exact .inr (.inr ⟨t, rfl, h2⟩)
theorem pass2 {β γ τ : Type} {A : β → γ → Option τ} {y : β} {z : γ} : (some (y, z)).bind (unc2 A) = A y z := rfl
theorem pass3 {β γ δ τ : Type} {A : β → γ → δ → Option τ} {y : β} {z : γ} {x : δ} : (some (y, z, x)).bind (unc3 A) = A y z x := rfl
theorem pass4 {β γ δ ε τ : Type} {A : β → γ → δ → ε → Option τ} {y : β} {z : γ} {x : δ} {w : ε} : (some (y, z, x, w)).bind (unc4 A) = A y z x w := rfl
/- ---- cells of lists ---- -/
def at_ (l : List Int) (i : Nat) : Int := (l[i]?).getD 0
def Sn (s : List Bool) (i : Nat) : Prop := s[i]? = some true
theorem idx_at {l : List Int} {i : Nat} (h : i < l.length) : idx l (i : Int) = some (at_ l i) := by
  unfold at_
  rw [idx_lt h, List.getElem?_eq_getElem h]
  rfl
theorem at_put {l : List Int} {i : Nat} (h : i < l.length) (x : Int) (j : Nat) : at_ (put l (i : Int) x) j = if j = i then x else at_ l j := by
  unfold at_
  rw [put_nat]
  by_cases e : i = j
  · subst e
    rw [if_pos rfl, List.getElem?_set_self h]
    rfl
  · rw [if_neg (fun h => e h.symm), List.getElem?_set_ne e]
theorem sn_put {s : List Bool} {i : Nat} (h : i < s.length) (j : Nat) : Sn (put s (i : Int) true) j ↔ j = i ∨ Sn s j := by
  unfold Sn
  rw [put_nat]
  by_cases e : i = j
  · subst e
    rw [List.getElem?_set_self h]
    simp
  · rw [List.getElem?_set_ne e]
    constructor
    · exact .inr
    · rintro (h | h)
      · exact absurd h.symm e
      · exact h
theorem idx_sn {s : List Bool} {i : Nat} (h : i < s.length) : ∃ b, idx s (i : Int) = some b ∧ (b = true ↔ Sn s i) := by
  refine ⟨s[i], idx_lt h, ?_⟩
  unfold Sn
  rw [List.getElem?_eq_getElem h]
  simp
def unseen (s : List Bool) : Nat := s.count false
theorem unseen_put {s : List Bool} {i : Nat} (h : i < s.length) (hn : ¬ Sn s i) : unseen (put s (i : Int) true) + 1 = unseen s := by
  rw [put_nat]
  have hi : s[i]? = some false := by
    rw [List.getElem?_eq_getElem h]
    unfold Sn at hn
    rw [List.getElem?_eq_getElem h] at hn
    cases hb : s[i] with
    | false => rfl
    | true => rw [hb] at hn; exact absurd rfl hn
  clear h hn
  unfold unseen
  induction s generalizing i with
  | nil => simp at hi
  | cons b t ih =>
    cases i with
    | zero =>
      simp at hi
      subst hi
      simp
    | succ j =>
      have := ih (i := j) (by simpa using hi)
      simp only [List.set_cons_succ, List.count_cons]
      omega
theorem unseen_mono : ∀ {s s' : List Bool}, s.length = s'.length → (∀ b, Sn s b → Sn s' b) → unseen s' ≤ unseen s
  | [], [], _, _ => Nat.le_refl _
  | a :: s, b :: s', hl, h => by
    have ih := unseen_mono (s := s) (s' := s') (by simpa using hl) (fun k hk => h (k + 1) hk)
    have h0 := h 0
    unfold unseen at ih ⊢
    cases a with
    | true =>
      have : b = true := by simpa [Sn] using h0
      subst this
      simpa using ih
    | false =>
      cases b with
      | true => simp; omega
      | false => simp; omega
/- ---- counting by an injection ---- -/
theorem inj_len {R : Nat → Nat → Prop} (hR : ∀ b b' c, R b c → R b' c → b = b') : ∀ (L1 L2 : List Nat), L1.Nodup → (∀ b ∈ L1, ∃ c ∈ L2, R b c) → L1.length ≤ L2.length
  | [], _, _, _ => Nat.zero_le _
  | b :: L1, L2, hn, h => by
    obtain ⟨hb, hn⟩ := List.nodup_cons.1 hn
    obtain ⟨c, hc, hr⟩ := h b (by simp)
    have := inj_len hR L1 (L2.erase c) hn (fun b' hb' => by
      obtain ⟨c', hc', hr'⟩ := h b' (by simp [hb'])
      have hne : c' ≠ c := fun e => by
        subst e
        exact hb (hR b b' c' hr hr' ▸ hb')
      exact ⟨c', (List.mem_erase_of_ne hne).2 hc', hr'⟩)
    rw [List.length_erase_of_mem hc] at this
    have : 0 < L2.length := List.length_pos_of_mem hc
    simp only [List.length_cons]
    omega
/-- A matching: of each second one its first one, or -1. -/
structure Mat (n : Nat) (E : Nat → Nat → Prop) (P : Nat → Int) : Prop where
  edge : ∀ b, b < n → P b = -1 ∨ (0 ≤ P b ∧ P b < (n : Int) ∧ E (P b).toNat b)
  inj : ∀ b b', b < n → b' < n → 0 ≤ P b → P b = P b' → b = b'
def single (n : Nat) (P : Nat → Int) : List Nat := (List.range n).filter (fun b => decide (P b < 0))
def paired (n : Nat) (P : Nat → Int) : List Nat := (List.range n).filter (fun b => decide (0 ≤ P b))
theorem single_paired (n : Nat) (P : Nat → Int) : (single n P).length + (paired n P).length = n := by
  unfold single paired
  have : ∀ (L : List Nat), (L.filter (fun b => decide (P b < 0))).length + (L.filter (fun b => decide (0 ≤ P b))).length = L.length := by
    intro L
    induction L with
    | nil => rfl
    | cons a L ih =>
      by_cases h : P a < 0
      · rw [List.filter_cons_of_pos (by simpa using h), List.filter_cons_of_neg (by simpa using h)]
        simp only [List.length_cons]
        omega
      · rw [List.filter_cons_of_neg (by simpa using h), List.filter_cons_of_pos (by simpa using h)]
        simp only [List.length_cons]
        omega
  rw [this, List.length_range]
def Closed (n : Nat) (E : Nat → Nat → Prop) (P : Nat → Int) (D : Nat → Prop) : Prop := ∀ b, b < n → D b → 0 ≤ P b ∧ ∀ b', b' < n → E (P b).toNat b' → D b'
/-- A matching that cannot grow leaves no more single ones than any other. -/
theorem best {n : Nat} {E : Nat → Nat → Prop} {P Q : Nat → Int} {D : Nat → Prop} (hQ : Mat n E Q) (hD : Closed n E P D) (hall : ∀ a, a < n → (∃ b, b < n ∧ P b = (a : Int)) ∨ ∀ b, b < n → E a b → D b) : (single n P).length ≤ (single n Q).length := by
  have h1 := single_paired n P
  have h2 := single_paired n Q
  have : (paired n Q).length ≤ (paired n P).length := by
    refine inj_len (R := fun b c => b < n ∧ c < n ∧ 0 ≤ Q b ∧ ((D b ∧ c = b) ∨ (¬ D b ∧ P c = Q b))) ?_ (paired n Q) (paired n P) ((List.nodup_range).filter _) ?_
    · rintro b b' c ⟨hb, hc, hq, h⟩ ⟨hb', _, hq', h'⟩
      have out : ∀ b b' c, b < n → b' < n → c < n → 0 ≤ Q b' → D b → c = b → ¬ D b' → P c = Q b' → False := by
        intro b b' c hb hb' hc hq' d1 e d2 p2
        subst e
        have := (hD c hc d1).2 b' hb'
        rw [p2] at this
        rcases hQ.edge b' hb' with h | h
        · omega
        · exact d2 (this h.2.2)
      rcases h with ⟨d1, e1⟩ | ⟨d1, p1⟩ <;> rcases h' with ⟨d2, e2⟩ | ⟨d2, p2⟩
      · omega
      · exact (out b b' c hb hb' hc hq' d1 e1 d2 p2).elim
      · exact (out b' b c hb' hb hc hq d2 e2 d1 p1).elim
      · exact hQ.inj b b' hb hb' hq (p1.symm.trans p2)
    · intro b hb
      obtain ⟨hb1, hb2⟩ := List.mem_filter.1 hb
      have hb1 := List.mem_range.1 hb1
      have hq : 0 ≤ Q b := by simpa using hb2
      by_cases d : D b
      · refine ⟨b, List.mem_filter.2 ⟨List.mem_range.2 hb1, ?_⟩, hb1, hb1, hq, .inl ⟨d, rfl⟩⟩
        have := (hD b hb1 d).1
        simpa using this
      · rcases hQ.edge b hb1 with h | ⟨h3, h4, h5⟩
        · omega
        · rcases hall (Q b).toNat (by omega) with ⟨c, hc, hp⟩ | hd
          · have hp' : P c = Q b := by omega
            exact ⟨c, List.mem_filter.2 ⟨List.mem_range.2 hc, by simpa using (by omega : 0 ≤ P c)⟩, hb1, hc, hq, .inr ⟨d, hp'⟩⟩
          · exact absurd (hd b hb1 h5) d
  omega
/- ---- the search ---- -/
structure MOk (n : Nat) (E : Nat → Nat → Prop) (next prev : List Int) : Prop where
  nl : next.length = n
  pl : prev.length = n
  pe : ∀ b, b < n → at_ prev b = -1 ∨ (0 ≤ at_ prev b ∧ at_ prev b < (n : Int) ∧ E (at_ prev b).toNat b)
  ne : ∀ a, a < n → at_ next a = -1 ∨ (0 ≤ at_ next a ∧ at_ next a < (n : Int) ∧ E a (at_ next a).toNat)
structure Fail (n : Nat) (E : Nat → Nat → Prop) (seen : List Bool) (prev : List Int) (a : Nat) (seen' : List Bool) : Prop where
  len : seen'.length = n
  sub : ∀ b, Sn seen b → Sn seen' b
  nb : ∀ b, b < n → E a b → Sn seen' b
  new : ∀ b, b < n → Sn seen' b → ¬ Sn seen b → 0 ≤ at_ prev b ∧ ∀ b', b' < n → E (at_ prev b).toNat b' → Sn seen' b'
structure Succ (n : Nat) (E : Nat → Nat → Prop) (seen : List Bool) (prev : List Int) (a : Nat) (prev' : List Int) : Prop where
  old : ∀ b, b < n → Sn seen b → at_ prev' b = at_ prev b
  inj : ∀ b b', b < n → b' < n → ¬ Sn seen b → ¬ Sn seen b' → 0 ≤ at_ prev' b → at_ prev' b = at_ prev' b' → b = b'
  sub : ∀ b, b < n → ¬ Sn seen b → 0 ≤ at_ prev' b → at_ prev' b = (a : Int) ∨ ∃ b2, b2 < n ∧ ¬ Sn seen b2 ∧ at_ prev b2 = at_ prev' b
  got : ∃ b0, b0 < n ∧ ¬ Sn seen b0 ∧ at_ prev' b0 = (a : Int)
  sup : ∀ b, b < n → ¬ Sn seen b → 0 ≤ at_ prev b → ∃ b2, b2 < n ∧ ¬ Sn seen b2 ∧ at_ prev' b2 = at_ prev b
  dead : ∀ D, Closed n E (at_ prev) D → (∀ b, b < n → D b → at_ prev' b = at_ prev b) ∧ ¬ ∀ b, b < n → E a b → D b
structure Pre (n : Nat) (seen : List Bool) (prev : List Int) (a : Nat) : Prop where
  lt : a < n
  sl : seen.length = n
  inj : ∀ b b', b < n → b' < n → ¬ Sn seen b → ¬ Sn seen b' → 0 ≤ at_ prev b → at_ prev b = at_ prev b' → b = b'
  no : ∀ b, b < n → ¬ Sn seen b → at_ prev b ≠ (a : Int)
/-- One more first task 'b' of 'a' is taken, which has none. -/
theorem succ_free {n : Nat} {E : Nat → Nat → Prop} {seen sk : List Bool} {next prev : List Int} {a b : Nat} (M : MOk n E next prev) (h : Pre n seen prev a) (hb : b < n) (he : E a b) (hs : ¬ Sn seen b) (hf : at_ prev b < 0) : Succ n E seen prev a (put prev (b : Int) (a : Int)) := by
  have hp : ∀ j, at_ (put prev (b : Int) (a : Int)) j = if j = b then (a : Int) else at_ prev j := at_put (by rw [M.pl]; exact hb) _
  refine ⟨fun c hc hsc => ?_, fun c c' hc hc' h1 h2 h3 h4 => ?_, fun c hc h1 h2 => ?_, ⟨b, hb, hs, by rw [hp, if_pos rfl]⟩, fun c hc h1 h2 => ?_, fun D hD => ⟨fun c hc hd => ?_, fun hall => ?_⟩⟩
  · have e : c ≠ b := fun e => by subst e; exact hs hsc
    rw [hp, if_neg e]
  · rw [hp] at h3 h4
    rw [hp] at h4
    by_cases e : c = b
    · by_cases e' : c' = b
      · omega
      · rw [if_pos e, if_neg e'] at h4
        exact absurd h4.symm (h.no c' hc' h2)
    · by_cases e' : c' = b
      · rw [if_neg e, if_pos e'] at h4
        exact absurd h4 (h.no c hc h1)
      · rw [if_neg e, if_neg e'] at h4
        rw [if_neg e] at h3
        exact h.inj c c' hc hc' h1 h2 h3 h4
  · rw [hp]
    by_cases e : c = b
    · rw [if_pos e]; exact .inl rfl
    · rw [if_neg e]; exact .inr ⟨c, hc, h1, rfl⟩
  · have e : c ≠ b := fun e => by subst e; omega
    exact ⟨c, hc, h1, by rw [hp, if_neg e]⟩
  · have e : c ≠ b := fun e => by subst e; have := (hD c hc hd).1; omega
    rw [hp, if_neg e]
  · have := (hD b hb (hall b hb he)).1
    omega
/-- 'b' is taken from the one that had it, which has found another. -/
theorem succ_chain {n : Nat} {E : Nat → Nat → Prop} {seen sk : List Bool} {next prev prev1 : List Int} {a b : Nat} (M : MOk n E next prev) (h : Pre n seen prev a) (hb : b < n) (he : E a b) (hs : ¬ Sn sk b) (hsl : sk.length = n) (hsub : ∀ c, Sn seen c → Sn sk c) (h0 : 0 ≤ at_ prev b) (hl1 : prev1.length = n)
    (S : Succ n E (put sk (b : Int) true) prev (at_ prev b).toNat prev1) : Succ n E seen prev a (put prev1 (b : Int) (a : Int)) := by
  have hp : ∀ j, at_ (put prev1 (b : Int) (a : Int)) j = if j = b then (a : Int) else at_ prev1 j := at_put (by rw [hl1]; exact hb) _
  have sp := fun j => sn_put (s := sk) (i := b) (by rw [hsl]; exact hb) j
  have hbs : ¬ Sn seen b := fun h => hs (hsub b h)
  have ha1 : ((at_ prev b).toNat : Int) = at_ prev b := by omega
  -- what lies outside of the rest is as it was
  have hout : ∀ c, c < n → c ≠ b → Sn sk c → at_ prev1 c = at_ prev c := fun c hc hne hsc => S.old c hc ((sp c).2 (.inr hsc))
  have hin : ∀ c, c ≠ b → ¬ Sn sk c → ¬ Sn (put sk (b : Int) true) c := fun c hne hsc h => ((sp c).1 h).elim hne hsc
  have hnin : ∀ c, ¬ Sn (put sk (b : Int) true) c → c ≠ b ∧ ¬ Sn sk c := fun c h => ⟨fun e => h ((sp c).2 (.inl e)), fun h' => h ((sp c).2 (.inr h'))⟩
  -- where a value of prev1 comes from
  have hsrc : ∀ c, c < n → c ≠ b → ¬ Sn seen c → 0 ≤ at_ prev1 c → ∃ c2, c2 < n ∧ ¬ Sn seen c2 ∧ at_ prev c2 = at_ prev1 c ∧ (Sn sk c → c2 = c) ∧ (¬ Sn sk c → ¬ Sn sk c2) := fun c hc hne hsc h1 => by
    by_cases hk : Sn sk c
    · exact ⟨c, hc, hsc, (hout c hc hne hk).symm, fun _ => rfl, fun h => absurd hk h⟩
    · rcases S.sub c hc (hin c hne hk) h1 with e | ⟨c2, q1, q2, q3⟩
      · exact ⟨b, hb, hbs, by omega, fun h => absurd h hk, fun _ => hs⟩
      · exact ⟨c2, q1, fun h => (hnin c2 q2).2 (hsub c2 h), q3, fun h => absurd h hk, fun _ => (hnin c2 q2).2⟩
  refine ⟨fun c hc hsc => ?_, fun c c' hc hc' h1 h2 h3 h4 => ?_, fun c hc h1 h2 => ?_, ⟨b, hb, hbs, by rw [hp, if_pos rfl]⟩, fun c hc h1 h2 => ?_, fun D hD => ⟨fun c hc hd => ?_, fun hall => ?_⟩⟩
  · have hne : c ≠ b := fun e => hbs (e ▸ hsc)
    rw [hp, if_neg hne]
    exact hout c hc hne (hsub c hsc)
  · rw [hp] at h3 h4
    rw [hp] at h4
    by_cases e : c = b
    · by_cases e' : c' = b
      · omega
      · rw [if_pos e, if_neg e'] at h4
        obtain ⟨c2, q1, q2, q3, _⟩ := hsrc c' hc' e' h2 (by omega)
        exact absurd (q3.trans h4.symm) (h.no c2 q1 q2)
    · by_cases e' : c' = b
      · rw [if_neg e, if_pos e'] at h4
        rw [if_neg e] at h3
        obtain ⟨c2, q1, q2, q3, _⟩ := hsrc c hc e h1 h3
        exact absurd (q3.trans h4) (h.no c2 q1 q2)
      · rw [if_neg e, if_neg e'] at h4
        rw [if_neg e] at h3
        by_cases k1 : Sn sk c
        · by_cases k2 : Sn sk c'
          · rw [hout c hc e k1] at h3 h4
            rw [hout c' hc' e' k2] at h4
            exact h.inj c c' hc hc' h1 h2 h3 h4
          · obtain ⟨c2, q1, q2, q3, q4, _⟩ := hsrc c hc e h1 h3
            obtain ⟨c3, r1, r2, r3, _, r5⟩ := hsrc c' hc' e' h2 (by omega)
            have := h.inj c2 c3 q1 r1 q2 r2 (by omega) (by omega)
            have := q4 k1
            exact absurd (by subst this; subst_vars; exact k1) (r5 k2)
        · by_cases k2 : Sn sk c'
          · obtain ⟨c2, q1, q2, q3, _, q5⟩ := hsrc c hc e h1 h3
            obtain ⟨c3, r1, r2, r3, r4, _⟩ := hsrc c' hc' e' h2 (by omega)
            have := h.inj c2 c3 q1 r1 q2 r2 (by omega) (by omega)
            have := r4 k2
            exact absurd (by subst this; subst_vars; exact k2) (q5 k1)
          · exact S.inj c c' hc hc' (hin c e k1) (hin c' e' k2) h3 h4
  · rw [hp] at h2 ⊢
    by_cases e : c = b
    · rw [if_pos e]; exact .inl rfl
    · rw [if_neg e] at h2 ⊢
      obtain ⟨c2, q1, q2, q3, _⟩ := hsrc c hc e h1 h2
      exact .inr ⟨c2, q1, q2, q3⟩
  · -- what was had is had
    by_cases e : c = b
    · subst e
      obtain ⟨b0, g1, g2, g3⟩ := S.got
      have := hnin b0 g2
      exact ⟨b0, g1, fun h => this.2 (hsub b0 h), by rw [hp, if_neg this.1]; omega⟩
    · by_cases k1 : Sn sk c
      · exact ⟨c, hc, h1, by rw [hp, if_neg e]; exact hout c hc e k1⟩
      · obtain ⟨c2, q1, q2, q3⟩ := S.sup c hc (hin c e k1) h2
        have := hnin c2 q2
        exact ⟨c2, q1, fun h => this.2 (hsub c2 h), by rw [hp, if_neg this.1]; exact q3⟩
  · have hd1 := S.dead D hD
    have hne : c ≠ b := fun e => by
      subst e
      exact hd1.2 (fun b' hb' he' => (hD c hc hd).2 b' hb' he')
    rw [hp, if_neg hne]
    exact hd1.1 c hc hd
  · have hd1 := S.dead D hD
    exact hd1.2 (fun b' hb' he' => (hD b hb (hall b hb he)).2 b' hb' he')
end Go.Proofs.Ytajmocgpjkhjlaa
