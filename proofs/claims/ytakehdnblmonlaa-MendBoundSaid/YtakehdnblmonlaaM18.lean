/- The same, of a graph. -/
import Derived.Test.YtakehdnblmonlaaM17
namespace Go.Proofs.Ytakehdnblmonlaa
open Go.RowKit Go.Fp

theorem loopQ_good {N : Nat} {D : List Arc} {ready last U : List Int} {outs : List (List Arc)} {bd : Int} {K : Nat} (hF : Fe N D ready last U) (hl : last.length = N) (ho : OutsOf N D outs) (hov : OutsV N outs) (hK : K ≤ 250) (ht : tot outs ≤ 1450)
    (hbd : ∀ T, VW N D ready T → ∀ v : Int, 0 ≤ v → v < N → gt T v ≤ bd) : ∀ (f c : Nat) (q : Qs) (p : Nat) (C X : List Int), QI N c q → JI N D ready last q [] → GI N D ready q → PI N D ready outs K q p C X → q.ok = true → mu q < f →
    ∃ q', loopQ last outs bd f q = some q' ∧ q'.ok = true ∧ VW N D ready q'.T := by
  intro f
  induction f with
  | zero => intro c q p C X _ _ _ _ _ h; omega
  | succ f ih =>
    intro c q p C X hq hj hg hP hok hm
    cases hQ : q.Q with
    | nil => exact ⟨q, by simp [loopQ, hQ], hok, hg.vw⟩
    | cons x r =>
      have hx := hq.Q0 x (by rw [hQ]; simp)
      obtain ⟨p', C', X', hP'⟩ : ∃ p' C' X', PI N D ready outs K q p' (x :: C') X' := by
        cases C with
        | nil =>
          have h1 := hP.next hq hj hg ho.1
          have h2 : X = x :: r := by
            have := hP.qe
            rw [hQ] at this
            simpa using this.symm
          exact ⟨p + 1, r, [], by rw [← h2]; exact h1⟩
        | cons y C' =>
          have h2 : x = y := by
            have := hP.qe
            rw [hQ] at this
            injection this
          subst h2
          exact ⟨p, C', X, hP⟩
      have hb : ¬ bd < q.T.getD x.toNat 0 := by
        have := hbd q.T hg.vw x hx.1 hx.2
        unfold gt at this
        omega
      obtain ⟨Y, s1, s2, s3⟩ := hP'.step hF hl hq hj hg ho hok hK ht
      obtain ⟨c', hc'⟩ := step_inv hq hov hl
      have hmu := step_mu hq hov hl hF.hN hQ hok
      obtain ⟨q', e1, e2, e3⟩ := ih c' _ p' C' (X' ++ Y) hc' (hj.step ho hQ hx) s2 s1 s3 (by omega)
      refine ⟨q', ?_, e2, e3⟩
      simp only [loopQ, hQ]
      rw [if_neg (by simp [hok]), if_neg hb]
      exact e1
/-- What a solver keeps, beside SolI. -/
def SolX (N : Nat) (D : List Arc) (ready : List Int) (s : Sv) : Prop := VW N D ready s.T ∧ tot s.outs = (D.length : Int)
theorem sumL_set {α : Type} (g : α → Int) : ∀ (l : List α) (k : Nat) (x y : α), l[k]? = some x → sumL g (l.set k y) = sumL g l - g x + g y
  | [], k, x, y, h => by simp at h
  | a :: r, 0, x, y, h => by
    simp at h
    subst h
    simp only [List.set_cons_zero, sumL]
    omega
  | a :: r, k + 1, x, y, h => by
    simp at h
    have := sumL_set g r k x y h
    simp only [List.set_cons_succ, sumL]
    omega
theorem tot_add {N : Nat} : ∀ (l : List Arc) (outs : List (List Arc)), outs.length = N → (∀ a ∈ l, ArcV N a) → tot (addOuts outs l) = tot outs + (l.length : Int)
  | [], outs, _, _ => by simp [addOuts]
  | a :: r, outs, ho, hv => by
    have ha := hv a (by simp)
    have h1 := ha.fr0
    have h2 := ha.fr1
    obtain ⟨y, hy⟩ := ex_get (l := outs) (k := a.fr.toNat) (by omega)
    have h3 := tot_add r (outs.set a.fr.toNat (outs.getD a.fr.toNat [] ++ [a])) (by simp [ho]) (fun b hb => hv b (by simp [hb]))
    have h4 : tot (outs.set a.fr.toNat (outs.getD a.fr.toNat [] ++ [a])) = tot outs + 1 := by
      unfold tot
      rw [sumL_set _ outs a.fr.toNat y _ hy, List.getD_eq_getElem?_getD, hy]
      simp only [Option.getD_some, List.length_append, List.length_cons, List.length_nil]
      omega
    have h5 : addOuts outs (a :: r) = addOuts (outs.set a.fr.toNat (outs.getD a.fr.toNat [] ++ [a])) r := rfl
    rw [h5, h3, h4, List.length_cons]
    omega
theorem q0_JI {N : Nat} {D : List Arc} {ready last : List Int} {s : Sv} {l : List Arc} (hs : SolI N D ready last s) (ha : ∀ a ∈ l, ArcV N a) : JI N (D ++ l) ready last (q0 s.T) (l ++ []) := by
  refine ⟨fun a h1 => ?_, hs.nT, by simp [q0, hs.nT], hs.ge, fun i hi hiN => ?_, fun _ => hs.okL, fun U hU hUr i hi hiN => hs.least U (fun a h1 => hU a (List.mem_append_left _ h1)) hUr i hi hiN, fun i hi => ?_, fun a h1 => ?_⟩
  · rcases List.mem_append.1 h1 with h1 | h1
    · exact hs.dv a h1
    · exact ha a h1
  · rcases hs.sup i hi hiN with h1 | ⟨a, h1, h2⟩
    · exact .inl h1
    · exact .inr ⟨a, List.mem_append_left _ h1, h2⟩
  · have := List.mem_of_getElem? hi
    have := List.eq_of_mem_replicate this
    cases this
  · rcases List.mem_append.1 h1 with h1 | h1
    · exact .inl (hs.sat a h1)
    · exact .inr (.inr (by simpa using h1))
theorem VW.more {N : Nat} {D D' : List Arc} {ready T : List Int} (h : VW N D ready T) (hs : ∀ a ∈ D, a ∈ D') : VW N D' ready T := fun v h0 h1 => by
  obtain ⟨u, l, q1, q2, q3, q4, q5⟩ := h v h0 h1
  exact ⟨u, l, q1, q2, q3, fun a ha => hs a (q4 a ha), q5⟩
/-- A solver with further arcs is found wherever these can be kept. -/
theorem withF_good {N : Nat} {D : List Arc} {ready last U : List Int} {s : Sv} {l : List Arc} (hF : Fe N (D ++ l) ready last U) (hs : SolI N D ready last s) (hx : SolX N D ready s) (hv : SvV N s) (hl : last.length = N) (ha : ∀ a ∈ l, ArcV N a) (hn : D.length + l.length ≤ 1450) (hll : l.length ≤ 250) :
    ∃ s', withF last s l = some s' ∧ SolX N (D ++ l) ready s' := by
  have hov := addOuts_v hv.2.1 ha
  have ho := addOuts_of hs.outs ha
  have hq0 := q0_inv hv.1 hv.2.2
  have hq1 := tries_inv hq0 ha hl
  have hj0 := q0_JI hs ha
  have hj1 := hj0.attempts (fun a h1 => List.mem_append_right _ h1)
  have hg0 : GI N (D ++ l) ready (q0 s.T) := ⟨hx.1.more (fun a h => List.mem_append_left _ h), List.nodup_nil, fun x h => by simp [q0] at h⟩
  obtain ⟨hg1, hok1, hR1⟩ := tries_good hF hl l [] (q0 s.T) 0 0 hq0 hj0 hg0 (fun a h1 => List.mem_append_right _ h1) rfl (fun x h => by
    have := List.eq_of_mem_replicate h
    omega) (by omega)
  have htot : tot (addOuts s.outs l) = ((D.length + l.length : Nat) : Int) := by
    rw [tot_add l s.outs hv.2.1.1 ha, hx.2]
    omega
  have hP : PI N (D ++ l) ready (addOuts s.outs l) l.length (tries last l (q0 s.T)) 0 (tries last l (q0 s.T)).Q [] := by
    refine ⟨by simp, fun m u v h0 h1 hw _ hm => ?_, fun a haD => ?_, fun x hxR => ?_⟩
    · have : m = [] := List.eq_nil_of_length_eq_zero (by omega)
      subst this
      have huv : u = v := hw
      subst huv
      have := hj1.ge u h0 h1
      simp only [wt]
      omega
    · by_cases hf : a.fr ∈ (tries last l (q0 s.T)).Q
      · exact .inl hf
      · right
        intro m u h0 h1 hw _ hm
        have : m = [] := List.eq_nil_of_length_eq_zero (by omega)
        subst this
        have huv : u = a.fr := hw
        subst huv
        have h2 := hj1.ge a.fr h0 h1
        rcases hj1.pend a haD with h3 | h3 | h3
        · unfold Sat at h3
          simp only [wt]
          omega
        · exact absurd h3 hf
        · simp at h3
    · have h1 := hR1 x hxR
      have h2 := cnt_tot ho.1 hg1.nd (fun y hy => hq1.Q0 y hy)
      have h3 := tot_nonneg (addOuts s.outs l)
      by_cases hN0 : 0 < N
      · rw [if_pos hN0, show min (0 + 1) N = 1 by omega]
        omega
      · rw [if_neg hN0, show min (0 + 1) N = 0 by omega]
        omega
  have hbd : ∀ T, VW N (D ++ l) ready T → ∀ v : Int, 0 ≤ v → v < N → gt T v ≤ boundV (tries last l (q0 s.T)).T (addOuts s.outs l) := by
    intro T hT v h0 h1
    obtain ⟨u, m, q1, q2, q3, q4, q5, q6, q7⟩ := hT.val hF.sat hj1.dv h0 h1
    have h2 := simple_most ho hj1.dv q4 q5
    have h3 := hj1.ge u q1 q2
    rw [boundV_eq]
    obtain ⟨t, ht⟩ := ex_get (l := (tries last l (q0 s.T)).T) (k := u.toNat) (by rw [hj1.nT]; omega)
    have h4 := foldmax_ge (tries last l (q0 s.T)).T t (mem_of_get ht)
    have h5 : gt (tries last l (q0 s.T)).T u = t := by
      unfold gt
      rw [List.getD_eq_getElem?_getD, ht]; rfl
    omega
  obtain ⟨q', e1, e2, e3⟩ := loopQ_good hF hl ho hov hll (by rw [htot]; omega) hbd _ _ _ 0 _ [] hq1 hj1 hg1 hP hok1 (Nat.lt_succ_self _)
  refine ⟨{ T := q'.T, outs := addOuts s.outs l }, ?_, e3, ?_⟩
  · unfold withF runQ
    rw [e1]
    simp only
    rw [if_pos e2]
  · show tot (addOuts s.outs l) = _
    rw [htot, List.length_append]
theorem Fe.sub {N : Nat} {D D' : List Arc} {ready last U : List Int} (h : Fe N D ready last U) (hs : ∀ a ∈ D', a ∈ D) : Fe N D' ready last U := ⟨fun a ha => h.sat a (hs a ha), h.ge, h.le, h.rd, h.hN⟩
/-- Seconds that have been found keep what is asked of the whole. -/
theorem SolI.fe {N : Nat} {D : List Arc} {ready last : List Int} {s : Sv} (h : SolI N D ready last s) (hr : ∀ i : Int, 0 ≤ i → i < N → gt ready i ≤ 28800) (hN : N ≤ 24) : Fe N D ready last s.T := ⟨h.sat, h.ge, h.okL, hr, hN⟩
theorem ready_le {g : Gr} (hV : GraphV g) : ∀ i : Int, 0 ≤ i → i < g.ready.l.length → gt g.ready.l i ≤ 28800 := fun i h0 h1 => by
  obtain ⟨t, ht⟩ := ex_get (l := g.ready.l) (k := i.toNat) (by omega)
  have := hV.readyv t (mem_of_get ht)
  unfold gt
  rw [List.getD_eq_getElem?_getD, ht]
  exact this.2
theorem withF_x {g : Gr} {D : List Arc} {s s' : Sv} {l : List Arc} (hV : GraphV g) (hs : SolI g.ready.l.length D g.ready.l g.last.l s) (hx : SolX g.ready.l.length D g.ready.l s) (hv : SvV g.ready.l.length s) (ha : ∀ a ∈ l, ArcV g.ready.l.length a) (hn : D.length + l.length ≤ 1450) (hll : l.length ≤ 250) (h : withF g.last.l s l = some s') :
    SolX g.ready.l.length (D ++ l) g.ready.l s' := by
  have h1 := withF_sol hV.nr hs hv hV.nl ha h
  obtain ⟨s2, e1, e2⟩ := withF_good (h1.fe (ready_le hV) hV.nr) hs hx hv hV.nl ha hn hll
  rw [h] at e1
  injection e1 with e1
  subst e1
  exact e2
theorem start_good {g : Gr} {U : List Int} (hV : GraphV g) (hF : Fe g.ready.l.length g.arcs.l g.ready.l g.last.l U) : ∃ s, startF g.ready.l g.last.l g.arcs.l = some s ∧ SolX g.ready.l.length g.arcs.l g.ready.l s := by
  have hall : (g.ready.l.zip g.last.l).all okP = true := by
    rw [List.all_eq_true]
    intro x hx
    obtain ⟨k, hk⟩ := List.mem_iff_getElem?.1 hx
    rw [List.getElem?_zip_eq_some] at hk
    have hkl := lt_of_get hk.1
    have h1 := hF.ge (k : Int) (by omega) (by omega)
    have h2 := hF.le (k : Int) (by omega) (by omega)
    rw [gt_get hk.1] at h1
    rw [gt_get hk.2] at h2
    simp [okP]
    omega
  have h0 : SolI g.ready.l.length [] g.ready.l g.last.l { T := g.ready.l, outs := List.replicate g.ready.l.length [] } := by
    refine ⟨fun a h1 => (by cases h1), rfl, ⟨by simp, fun v l hv a => ?_⟩, fun a h1 => (by cases h1), fun i _ _ => Int.le_refl _, fun i _ _ => .inl rfl, fun i hi hiN h0 => ?_, fun U _ hU i hi hiN => hU i hi hiN⟩
    · have := List.eq_of_mem_replicate (List.mem_of_getElem? hv)
      subst this
      simp
    · have h1 := hF.ge i hi hiN
      have h2 := hF.le i hi hiN h0
      exact Int.le_trans h1 h2
  have hx0 : SolX g.ready.l.length [] g.ready.l { T := g.ready.l, outs := List.replicate g.ready.l.length [] } := by
    refine ⟨fun v h1 h2 => ⟨v, [], h1, h2, rfl, fun a h => (by cases h), by simp [wt]⟩, ?_⟩
    show tot (List.replicate g.ready.l.length []) = _
    generalize g.ready.l.length = n
    induction n with
    | zero => rfl
    | succ n ih =>
      simp only [List.replicate_succ, tot, sumL] at ih ⊢
      rw [ih]
      rfl
  have hna := hV.na
  obtain ⟨s, e1, e2⟩ := withF_good (l := g.arcs.l) (by simpa using hF) h0 hx0 (start_v hV) hV.nl hV.arcsv (by simp; omega) hna
  refine ⟨s, ?_, by simpa using e2⟩
  unfold startF
  rw [if_pos hall]
  exact e1


end Go.Proofs.Ytakehdnblmonlaa
