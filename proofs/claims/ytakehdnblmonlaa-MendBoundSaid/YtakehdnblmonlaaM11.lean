/- The plain law of least seconds: what the queue computes is the least solution. -/
import Derived.Test.YtakehdnblmonlaaM10
namespace Go.Proofs.Ytakehdnblmonlaa
open Go.RowKit Go.Fp

def gt (T : List Int) (i : Int) : Int := T.getD i.toNat 0
def Sat (T : List Int) (a : Arc) : Prop := gt T a.fr + a.len ≤ gt T a.to
theorem gt_set_self {T : List Int} {i : Int} {x : Int} (h : i.toNat < T.length) : gt (T.set i.toNat x) i = x := by
  unfold gt
  rw [List.getD_eq_getElem?_getD, List.getElem?_set_self h]; rfl
theorem gt_set_ne {T : List Int} {i j : Int} {x : Int} (h : i.toNat ≠ j.toNat) : gt (T.set i.toNat x) j = gt T j := by
  unfold gt
  rw [List.getD_eq_getElem?_getD, List.getD_eq_getElem?_getD, List.getElem?_set_ne h]
theorem gt_get {T : List Int} {k : Nat} {x : Int} (h : T[k]? = some x) : gt T (k : Int) = x := by
  unfold gt
  rw [Int.toNat_natCast, List.getD_eq_getElem?_getD, h]; rfl
/-- The queue's state, what holds of it; 'X' is what is still to be tried. -/
structure JI (N : Nat) (D : List Arc) (ready last : List Int) (q : Qs) (X : List Arc) : Prop where
  dv : ∀ a ∈ D, ArcV N a
  nT : q.T.length = N
  nW : q.W.length = N
  ge : ∀ i : Int, 0 ≤ i → i < N → gt ready i ≤ gt q.T i
  sup : ∀ i : Int, 0 ≤ i → i < N → gt q.T i = gt ready i ∨ ∃ a ∈ D, a.to = i ∧ gt q.T i ≤ gt q.T a.fr + a.len
  okL : q.ok = true → ∀ i : Int, 0 ≤ i → i < N → 0 ≤ gt last i → gt q.T i ≤ gt last i
  least : ∀ U : List Int, (∀ a ∈ D, Sat U a) → (∀ i : Int, 0 ≤ i → i < N → gt ready i ≤ gt U i) → ∀ i : Int, 0 ≤ i → i < N → gt q.T i ≤ gt U i
  wq : ∀ i : Nat, q.W[i]? = some true → (i : Int) ∈ q.Q
  pend : ∀ a ∈ D, Sat q.T a ∨ a.fr ∈ q.Q ∨ a ∈ X

theorem tryQ_eq (last : List Int) (a : Arc) (s : Qs) : tryQ last a s = if gt s.T a.fr + a.len ≤ gt s.T a.to then s else
  { T := s.T.set a.to.toNat (gt s.T a.fr + a.len)
    R := s.R.set a.to.toNat (s.R.getD a.to.toNat 0 + 1)
    ok := s.ok && (decide (gt last a.to < 0) || decide (gt s.T a.fr + a.len ≤ gt last a.to)) && decide (gt s.T a.fr + a.len ≤ 1099511627776) && decide (s.R.getD a.to.toNat 0 + 1 ≤ 65536)
    W := if s.W.getD a.to.toNat false then s.W else s.W.set a.to.toNat true
    Q := if s.W.getD a.to.toNat false then s.Q else s.Q ++ [a.to] } := rfl

theorem JI.attempt {N : Nat} {D : List Arc} {ready last : List Int} {q : Qs} {a : Arc} {X : List Arc} (h : JI N D ready last q (a :: X)) (hD : a ∈ D) : JI N D ready last (tryQ last a q) X := by
  have ha := h.dv a hD
  have fr0 := ha.fr0
  have fr1 := ha.fr1
  have to0 := ha.to0
  have to1 := ha.to1
  have hne := ha.ne
  rw [tryQ_eq]
  split
  · rename_i hlow
    refine ⟨h.dv, h.nT, h.nW, h.ge, h.sup, h.okL, h.least, h.wq, fun a' ha' => ?_⟩
    rcases h.pend a' ha' with h1 | h1 | h1
    · exact .inl h1
    · exact .inr (.inl h1)
    · rcases List.mem_cons.1 h1 with rfl | h1
      · exact .inl hlow
      · exact .inr (.inr h1)
  · rename_i hlow
    have htl : a.to.toNat < q.T.length := by rw [h.nT]; omega
    have hself : gt (q.T.set a.to.toNat (gt q.T a.fr + a.len)) a.to = gt q.T a.fr + a.len := gt_set_self htl
    have hoth : ∀ i : Int, 0 ≤ i → i ≠ a.to → gt (q.T.set a.to.toNat (gt q.T a.fr + a.len)) i = gt q.T i := fun i hi hie => gt_set_ne (by omega)
    have hfr := hoth a.fr fr0 hne
    have hmono : ∀ i : Int, 0 ≤ i → gt q.T i ≤ gt (q.T.set a.to.toNat (gt q.T a.fr + a.len)) i := fun i hi => by
      by_cases hie : i = a.to
      · subst hie; rw [hself]; omega
      · rw [hoth i hi hie]; exact Int.le_refl _
    have hQ : a.to ∈ (if q.W.getD a.to.toNat false then q.Q else q.Q ++ [a.to]) := by
      split
      · rename_i hw
        have : q.W[a.to.toNat]? = some true := by
          rw [List.getD_eq_getElem?_getD] at hw
          cases hg : q.W[a.to.toNat]? with
          | none => rw [hg] at hw; simp at hw
          | some b => rw [hg] at hw; simp at hw; rw [hw]
        have := h.wq _ this
        rwa [Int.toNat_of_nonneg to0] at this
      · simp
    have hsubQ : ∀ x ∈ q.Q, x ∈ (if q.W.getD a.to.toNat false then q.Q else q.Q ++ [a.to]) := fun x hx => by
      split
      · exact hx
      · exact List.mem_append_left _ hx
    refine ⟨h.dv, by simp [h.nT], by simp only; split <;> simp [h.nW], fun i hi hiN => Int.le_trans (h.ge i hi hiN) (hmono i hi), fun i hi hiN => ?_, fun hok i hi hiN hl0 => ?_, fun U hU hUr i hi hiN => ?_, fun i hi => ?_, fun a' ha' => ?_⟩
    · by_cases hie : i = a.to
      · subst hie
        exact .inr ⟨a, hD, rfl, by rw [hself, hfr]; exact Int.le_refl _⟩
      · simp only
        rw [hoth i hi hie]
        rcases h.sup i hi hiN with h1 | ⟨a', h1, h2, h3⟩
        · exact .inl h1
        · refine .inr ⟨a', h1, h2, ?_⟩
          by_cases hf : a'.fr = a.to
          · rw [hf, hself]; rw [hf] at h3; omega
          · rw [hoth _ (h.dv a' h1).fr0 hf]; exact h3
    · simp only [Bool.and_eq_true, Bool.or_eq_true, decide_eq_true_eq] at hok
      by_cases hie : i = a.to
      · subst hie; simp only; rw [hself]; omega
      · simp only; rw [hoth i hi hie]; exact h.okL hok.1.1.1 i hi hiN hl0
    · by_cases hie : i = a.to
      · subst hie
        simp only
        rw [hself]
        have h1 := h.least U hU hUr a.fr fr0 fr1
        have h2 := hU a hD
        unfold Sat at h2
        omega
      · simp only; rw [hoth i hi hie]; exact h.least U hU hUr i hi hiN
    · simp only at hi ⊢
      split at hi
      · rename_i hw
        rw [if_pos hw]; exact h.wq i hi
      · rename_i hw
        rw [if_neg hw]
        by_cases hie : a.to.toNat = i
        · subst hie
          rw [Int.toNat_of_nonneg to0]
          simp
        · rw [List.getElem?_set_ne hie] at hi
          exact List.mem_append_left _ (h.wq i hi)
    · simp only
      have hv' := h.dv a' ha'
      rcases h.pend a' ha' with h1 | h1 | h1
      · by_cases hv : a'.fr = a.to
        · rw [hv]; exact .inr (.inl hQ)
        · refine .inl ?_
          unfold Sat at h1 ⊢
          rw [hoth _ hv'.fr0 hv]
          have := hmono a'.to hv'.to0
          omega
      · exact .inr (.inl (hsubQ _ h1))
      · rcases List.mem_cons.1 h1 with rfl | h1
        · refine .inl ?_
          unfold Sat
          rw [hself, hfr]
          exact Int.le_refl _
        · exact .inr (.inr h1)

theorem JI.attempts {N : Nat} {D : List Arc} {ready last : List Int} {X Y : List Arc} : ∀ {q : Qs}, JI N D ready last q (X ++ Y) → (∀ a ∈ X, a ∈ D) → JI N D ready last (tries last X q) Y := by
  induction X with
  | nil => intro q h _; exact h
  | cons a r ih =>
    intro q h hD
    exact ih (q := tryQ last a q) (h.attempt (hD a (by simp))) (fun x hx => hD x (by simp [hx]))
/-- The arcs at each node are just those of D that begin there. -/
def OutsOf (N : Nat) (D : List Arc) (outs : List (List Arc)) : Prop := outs.length = N ∧ ∀ (v : Nat) (l : List Arc), outs[v]? = some l → ∀ a, a ∈ l ↔ (a ∈ D ∧ a.fr = (v : Int))
theorem JI.pop {N : Nat} {D : List Arc} {ready last : List Int} {q : Qs} {outs : List (List Arc)} {x : Int} {r : List Int} (h : JI N D ready last q []) (ho : OutsOf N D outs) (hQ : q.Q = x :: r) (hx : 0 ≤ x ∧ x < N) :
    JI N D ready last { q with W := q.W.set x.toNat false, Q := r } (outs.getD x.toNat [] ++ []) := by
  refine ⟨h.dv, h.nT, by simp [h.nW], h.ge, h.sup, h.okL, h.least, fun i hi => ?_, fun a ha => ?_⟩
  · simp only at hi ⊢
    by_cases hie : x.toNat = i
    · subst hie
      rw [List.getElem?_set_self (by rw [h.nW]; omega)] at hi
      cases hi
    · rw [List.getElem?_set_ne hie] at hi
      have := h.wq i hi
      rw [hQ] at this
      rcases List.mem_cons.1 this with h1 | h1
      · omega
      · exact h1
  · simp only
    rcases h.pend a ha with h1 | h1 | h1
    · exact .inl h1
    · rw [hQ] at h1
      rcases List.mem_cons.1 h1 with h2 | h2
      · refine .inr (.inr ?_)
        obtain ⟨l, hl⟩ := ex_get (l := outs) (k := x.toNat) (by rw [ho.1]; omega)
        rw [List.getD_eq_getElem?_getD, hl, List.append_nil]
        exact (ho.2 _ l hl a).2 ⟨ha, by omega⟩
      · exact .inr (.inl h2)
    · simp at h1
theorem JI.step {N : Nat} {D : List Arc} {ready last : List Int} {q : Qs} {outs : List (List Arc)} {x : Int} {r : List Int} (h : JI N D ready last q []) (ho : OutsOf N D outs) (hQ : q.Q = x :: r) (hx : 0 ≤ x ∧ x < N) : JI N D ready last (stepQ last outs q) [] := by
  unfold stepQ
  rw [hQ]
  refine JI.attempts (h.pop ho hQ hx) (fun a ha => ?_)
  rw [List.getD_eq_getElem?_getD] at ha
  cases hl : outs[x.toNat]? with
  | none => rw [hl] at ha; simp at ha
  | some l => rw [hl] at ha; exact ((ho.2 _ l hl a).1 ha).1
theorem loopQ_JI {N : Nat} {D : List Arc} {ready last : List Int} {outs : List (List Arc)} {bd : Int} (ho : OutsOf N D outs) (hov : OutsV N outs) (hl : last.length = N) :
    ∀ (f c : Nat) (q q' : Qs), QI N c q → JI N D ready last q [] → mu q < f → N ≤ 24 → loopQ last outs bd f q = some q' → JI N D ready last q' [] ∧ (q'.ok = true → q'.Q = []) := by
  intro f
  induction f with
  | zero => intro c q q' _ _ h; omega
  | succ f ih =>
    intro c q q' hq hj hm hN he
    simp only [loopQ] at he
    cases hQ : q.Q with
    | nil => rw [hQ] at he; simp only [Option.some.injEq] at he; subst he; exact ⟨hj, fun _ => hQ⟩
    | cons x r =>
      rw [hQ] at he
      simp only at he
      split at he
      · rename_i hok
        simp only [Option.some.injEq] at he
        subst he
        exact ⟨hj, fun h => by rw [hok] at h; cases h⟩
      · rename_i hok
        have hok' : q.ok = true := by simpa using hok
        split at he
        · cases he
        · obtain ⟨c', hc'⟩ := step_inv hq hov hl
          have hmu := step_mu hq hov hl hN hQ hok'
          exact ih c' _ q' hc' (hj.step ho hQ (hq.Q0 x (by rw [hQ]; simp))) (by omega) hN he
/-- A solver in order: its arcs are those of D; the seconds are the least that keep them. -/
structure SolI (N : Nat) (D : List Arc) (ready last : List Int) (s : Sv) : Prop where
  dv : ∀ a ∈ D, ArcV N a
  nT : s.T.length = N
  outs : OutsOf N D s.outs
  sat : ∀ a ∈ D, Sat s.T a
  ge : ∀ i : Int, 0 ≤ i → i < N → gt ready i ≤ gt s.T i
  sup : ∀ i : Int, 0 ≤ i → i < N → gt s.T i = gt ready i ∨ ∃ a ∈ D, a.to = i ∧ gt s.T i ≤ gt s.T a.fr + a.len
  okL : ∀ i : Int, 0 ≤ i → i < N → 0 ≤ gt last i → gt s.T i ≤ gt last i
  least : ∀ U : List Int, (∀ a ∈ D, Sat U a) → (∀ i : Int, 0 ≤ i → i < N → gt ready i ≤ gt U i) → ∀ i : Int, 0 ≤ i → i < N → gt s.T i ≤ gt U i
theorem addOuts_of {N : Nat} {D : List Arc} {outs : List (List Arc)} {l : List Arc} (h : OutsOf N D outs) (ha : ∀ a ∈ l, ArcV N a) : OutsOf N (D ++ l) (addOuts outs l) := by
  unfold addOuts
  induction l generalizing outs D with
  | nil => simpa using h
  | cons a r ih =>
    have hav := ha a (by simp)
    have h1 := hav.fr0
    have h2 := hav.fr1
    have hstep : OutsOf N (D ++ [a]) (outs.set a.fr.toNat (outs.getD a.fr.toNat [] ++ [a])) := by
      refine ⟨by simp [h.1], fun v l hv b => ?_⟩
      by_cases hvf : a.fr.toNat = v
      · subst hvf
        rw [List.getElem?_set_self (by rw [h.1]; omega)] at hv
        simp only [Option.some.injEq] at hv
        subst hv
        obtain ⟨l0, hl0⟩ := ex_get (l := outs) (k := a.fr.toNat) (by rw [h.1]; omega)
        have hm := h.2 _ l0 hl0 b
        rw [List.getD_eq_getElem?_getD, hl0]
        simp only [Option.getD_some, List.mem_append, List.mem_singleton]
        rw [hm]
        constructor
        · rintro (⟨h3, h4⟩ | rfl)
          · exact ⟨.inl h3, h4⟩
          · exact ⟨.inr rfl, by omega⟩
        · rintro ⟨h3 | h3, h4⟩
          · exact .inl ⟨h3, h4⟩
          · exact .inr h3
      · rw [List.getElem?_set_ne hvf] at hv
        rw [h.2 v l hv b]
        simp only [List.mem_append, List.mem_singleton]
        constructor
        · rintro ⟨h3, h4⟩; exact ⟨.inl h3, h4⟩
        · rintro ⟨h3 | h3, h4⟩
          · exact ⟨h3, h4⟩
          · subst h3; omega
    have := ih hstep (fun x hx => ha x (by simp [hx]))
    simpa using this
theorem withF_sol {N : Nat} {D : List Arc} {ready last : List Int} {s s' : Sv} {l : List Arc} (hN : N ≤ 24) (hs : SolI N D ready last s) (hv : SvV N s) (hl : last.length = N) (ha : ∀ a ∈ l, ArcV N a) (h : withF last s l = some s') : SolI N (D ++ l) ready last s' := by
  have hov := addOuts_v hv.2.1 ha
  have ho := addOuts_of hs.outs ha
  have hq0 := tries_inv (q0_inv hv.1 hv.2.2) ha hl
  have hj0 : JI N (D ++ l) ready last (q0 s.T) (l ++ []) := by
    refine ⟨fun a h1 => ?_, hs.nT, by simp [q0, hs.nT], hs.ge, fun i hi hiN => ?_, fun _ => hs.okL, fun U hU hUr i hi hiN => hs.least U (fun a h1 => hU a (List.mem_append_left _ h1)) hUr i hi hiN, fun i hi => ?_, fun a h1 => ?_⟩
    · rcases List.mem_append.1 h1 with h1 | h1
      · exact hs.dv a h1
      · exact ha a h1
    · rcases hs.sup i hi hiN with h1 | ⟨a, h1, h2⟩
      · exact .inl h1
      · exact .inr ⟨a, List.mem_append_left _ h1, h2⟩
    · have := List.mem_of_getElem? hi
      have := List.eq_of_mem_replicate this
      cases this
    · rcases List.mem_append.1 h1 with h1 | h1
      · exact .inl (hs.sat a h1)
      · exact .inr (.inr (by simpa using h1))
  have hj1 := hj0.attempts (fun a h1 => List.mem_append_right _ h1)
  unfold withF at h
  split at h
  · cases h
  · rename_i q hq
    split at h
    · rename_i hok
      simp only [Option.some.injEq] at h
      subst h
      obtain ⟨hj, hQ⟩ := loopQ_JI ho hov hl _ _ _ _ hq0 hj1 (Nat.lt_succ_self _) hN hq
      refine ⟨hj.dv, hj.nT, ho, fun a h1 => ?_, hj.ge, hj.sup, hj.okL hok, hj.least⟩
      rcases hj.pend a h1 with h2 | h2 | h2
      · exact h2
      · rw [hQ hok] at h2; cases h2
      · cases h2
    · cases h
/-- The arcs that count: the graph's, and those of what is picked. -/
def pickA (pc : Int × List (List Arc)) : List Arc := if 0 < pc.1 then pc.2.getD (pc.1 - 1).toNat [] else []
def allA (g : Gr) (pick : List Int) : List Arc := g.arcs.l ++ (pick.zip (chA g)).flatMap pickA
theorem start_sol {g : Gr} {s : Sv} (hV : GraphV g) (h : startF g.ready.l g.last.l g.arcs.l = some s) : SolI g.ready.l.length g.arcs.l g.ready.l g.last.l s := by
  unfold startF at h
  split at h
  · rename_i hall
    have h0 : SolI g.ready.l.length [] g.ready.l g.last.l { T := g.ready.l, outs := List.replicate g.ready.l.length [] } := by
      refine ⟨fun a h1 => (by cases h1), rfl, ⟨by simp, fun v l hv a => ?_⟩, fun a h1 => (by cases h1), fun i _ _ => Int.le_refl _, fun i _ _ => .inl rfl, fun i hi hiN h0 => ?_, fun U _ hU i hi hiN => hU i hi hiN⟩
      · have := List.eq_of_mem_replicate (List.mem_of_getElem? hv)
        subst this
        simp
      · have hiN' : i.toNat < g.ready.l.length := by omega
        obtain ⟨r, hr⟩ := ex_get (l := g.ready.l) (k := i.toNat) hiN'
        obtain ⟨la, hla⟩ := ex_get (l := g.last.l) (k := i.toNat) (by rw [hV.nl]; exact hiN')
        have hok := List.all_eq_true.1 hall _ (List.mem_of_getElem? (zip_get hr hla))
        have e1 := gt_get hr
        have e2 := gt_get hla
        rw [Int.toNat_of_nonneg hi] at e1 e2
        simp [okP] at hok
        show gt g.ready.l i ≤ gt g.last.l i
        rw [e1, e2]
        rw [e2] at h0
        rcases hok with hok | hok
        · exact absurd h0 (Int.not_le.2 hok)
        · exact hok
    have := withF_sol hV.nr h0 (start_v hV) hV.nl hV.arcsv h
    simpa using this
  · cases h
theorem wayv {g : Gr} (hV : GraphV g) {pick : List Int} {pc : Int × List (List Arc)} (hpc : pc ∈ pick.zip (chA g)) : ∀ a ∈ pickA pc, ArcV g.ready.l.length a := by
  intro a ha
  unfold pickA at ha
  split at ha
  · have h1 := (List.of_mem_zip hpc).2
    unfold chA at h1
    obtain ⟨c, hc, he⟩ := List.mem_map.1 h1
    rw [List.getD_eq_getElem?_getD] at ha
    cases hl : pc.2[(pc.1 - 1).toNat]? with
    | none => rw [hl] at ha; simp at ha
    | some l =>
      rw [hl] at ha
      have h2 := List.mem_of_getElem? hl
      rw [← he] at h2
      obtain ⟨y, hy, hye⟩ := List.mem_map.1 h2
      have h3 := ((hV.choicesv c hc).2 y hy).2
      subst hye
      exact h3 a ha
  · cases ha
theorem pick_sol {g : Gr} (hV : GraphV g) : ∀ (l : List (Int × List (List Arc))) (D : List Arc) (o : Option Sv) (s : Sv), (∀ pc ∈ l, ∀ a ∈ pickA pc, ArcV g.ready.l.length a) → (∀ s0, o = some s0 → SolI g.ready.l.length D g.ready.l g.last.l s0 ∧ SvV g.ready.l.length s0) → l.foldl (pstep g.last.l) o = some s →
    SolI g.ready.l.length (D ++ l.flatMap pickA) g.ready.l g.last.l s ∧ SvV g.ready.l.length s := by
  intro l
  induction l with
  | nil => intro D o s _ ho h; have := ho s h; simpa using this
  | cons pc r ih =>
    intro D o s hv ho h
    rw [List.foldl_cons] at h
    have := ih (D ++ pickA pc) (pstep g.last.l o pc) s (fun x hx => hv x (by simp [hx])) (fun _ h0 => ?_) h
    · simpa [List.flatMap_cons] using this
    · cases o with
      | none => cases h0
      | some s1 =>
        obtain ⟨h1, h2⟩ := ho s1 rfl
        simp only [pstep] at h0
        have hpv := hv pc (by simp)
        by_cases hp : 0 < pc.1
        · rw [if_pos hp] at h0
          have hpa : pickA pc = pc.2.getD (pc.1 - 1).toNat [] := by unfold pickA; rw [if_pos hp]
          rw [hpa] at hpv ⊢
          exact ⟨withF_sol hV.nr h1 h2 hV.nl hpv h0, withF_v h2 hpv hV.nl h0⟩
        · rw [if_neg hp] at h0
          have hpa : pickA pc = [] := by unfold pickA; rw [if_neg hp]
          rw [hpa, List.append_nil]
          injection h0 with h0
          subst h0
          exact ⟨h1, h2⟩
theorem pickF_sol {g : Gr} {pick : List Int} {s : Sv} (hV : GraphV g) (h : pickF g pick = some s) : SolI g.ready.l.length (allA g pick) g.ready.l g.last.l s ∧ SvV g.ready.l.length s :=
  pick_sol hV _ g.arcs.l _ s (fun _ hpc => wayv hV hpc) (fun _ h0 => ⟨start_sol hV h0, start_sv hV h0⟩) h
/-- The second pick of the law: what is picked, or else what the other one picks. -/
def bothP : List Int → List Int → List Int
  | [], _ => []
  | p :: r, [] => p :: r
  | p :: r, m :: s => (if p = 0 then m else p) :: bothP r s
theorem both_length : ∀ (p m : List Int), (bothP p m).length = p.length
  | [], _ => by simp [bothP]
  | p :: r, [] => by simp [bothP]
  | p :: r, m :: s => by simp [bothP, both_length r s]
theorem both_get : ∀ (p m : List Int) (k : Nat) (x y : Int), p[k]? = some x → m[k]? = some y → (bothP p m)[k]? = some (if x = 0 then y else x)
  | [], m, k, x, y, h, _ => by simp at h
  | p :: r, [], k, x, y, _, h => by simp at h
  | p :: r, m :: s, 0, x, y, h, h' => by
    simp at h h'
    subst h; subst h'
    simp [bothP]
  | p :: r, m :: s, k + 1, x, y, h, h' => by
    simp at h h'
    simp only [bothP, List.getElem?_cons_succ]
    exact both_get r s k x y h h'
theorem both_v {g : Gr} {p m : List Int} (hp : PickV g p) (hm : PickV g m) : PickV g (bothP p m) := by
  refine ⟨by rw [both_length]; exact hp.1, fun k x c hx hc => ?_⟩
  have hk := lt_of_get hx
  rw [both_length] at hk
  obtain ⟨a, ha⟩ := ex_get hk
  obtain ⟨b, hb⟩ := ex_get (l := m) (k := k) (by rw [hm.1, ← hp.1]; exact hk)
  have h1 := hp.2 k a c ha hc
  have h2 := hm.2 k b c hb hc
  rw [both_get p m k a b ha hb] at hx
  injection hx with hx
  subst hx
  split <;> assumption
theorem both_sub {g : Gr} {p m : List Int} (hp : PickV g p) (hm : PickV g m) : ∀ a ∈ allA g p, a ∈ allA g (bothP p m) := by
  intro a ha
  unfold allA at ha ⊢
  rcases List.mem_append.1 ha with h1 | h1
  · exact List.mem_append_left _ h1
  · refine List.mem_append_right _ ?_
    obtain ⟨pc, hpc, h2⟩ := List.mem_flatMap.1 h1
    obtain ⟨k, hk⟩ := List.mem_iff_getElem?.1 hpc
    rw [List.getElem?_zip_eq_some] at hk
    obtain ⟨h3, h4⟩ := hk
    have hkl := lt_of_get h3
    obtain ⟨b, hb⟩ := ex_get (l := m) (k := k) (by rw [hm.1, ← hp.1]; exact hkl)
    have hpos : 0 < pc.1 := by
      unfold pickA at h2
      split at h2
      · assumption
      · cases h2
    have h5 := both_get p m k pc.1 b h3 hb
    rw [if_neg (by omega)] at h5
    exact List.mem_flatMap.2 ⟨pc, List.mem_of_getElem? (List.getElem?_zip_eq_some.2 ⟨h5, h4⟩), h2⟩
/-- THE LAW: the seconds keep the arcs, each is ready or held by an arc, none is behind the last; with more that is picked none is earlier. -/
theorem least_law {g : Gr} {p m : List Int} {s u : Sv} (hV : GraphV g) (hp : PickV g p) (hm : PickV g m) (hs : pickF g p = some s) (hu : pickF g (bothP p m) = some u) : ∀ i : Int, 0 ≤ i → i < g.ready.l.length → gt s.T i ≤ gt u.T i := by
  obtain ⟨h1, _⟩ := pickF_sol hV hs
  obtain ⟨h2, _⟩ := pickF_sol hV hu
  exact h1.least u.T (fun a ha => h2.sat a (both_sub hp hm a ha)) h2.ge
theorem held_law {g : Gr} {p : List Int} {s : Sv} (hV : GraphV g) (hs : pickF g p = some s) (i : Int) (hi : 0 ≤ i) (hiN : i < g.ready.l.length) : gt s.T i = gt g.ready.l i ∨ ∃ a ∈ allA g p, a.to = i ∧ gt s.T i = gt s.T a.fr + a.len := by
  obtain ⟨h1, _⟩ := pickF_sol hV hs
  rcases h1.sup i hi hiN with h | ⟨a, ha, h2, h3⟩
  · exact .inl h
  · refine .inr ⟨a, ha, h2, ?_⟩
    have := h1.sat a ha
    unfold Sat at this
    rw [h2] at this
    omega


end Go.Proofs.Ytakehdnblmonlaa
