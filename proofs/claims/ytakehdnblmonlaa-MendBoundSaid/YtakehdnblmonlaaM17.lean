/- A solver finds seconds wherever there are some. -/
import Derived.Test.YtakehdnblmonlaaM16
namespace Go.Proofs.Ytakehdnblmonlaa
open Go.RowKit Go.Fp

/-- What the queue keeps, beside QI and JI. -/
structure GI (N : Nat) (D : List Arc) (ready : List Int) (q : Qs) : Prop where
  vw : VW N D ready q.T
  nd : q.Q.Nodup
  qw : ∀ x ∈ q.Q, q.W[x.toNat]? = some true
theorem tryQ_sat {last : List Int} {a : Arc} {q : Qs} (h : Sat q.T a) : tryQ last a q = q := by
  unfold Sat at h
  rw [tryQ_eq, if_pos h]
theorem tries_sat {last : List Int} : ∀ (l : List Arc) {q : Qs}, (∀ a ∈ l, Sat q.T a) → tries last l q = q
  | [], _, _ => rfl
  | a :: r, q, h => by
    show tries last r (tryQ last a q) = q
    rw [tryQ_sat (h a (by simp))]
    exact tries_sat r (fun b hb => h b (by simp [hb]))
theorem tryQ_mono {N : Nat} {last : List Int} {a : Arc} {q : Qs} (hn : q.T.length = N) (ha : ArcV N a) (i : Int) (hi : 0 ≤ i) : gt q.T i ≤ gt (tryQ last a q).T i := by
  have h1 := ha.to0
  have h2 := ha.to1
  rw [tryQ_eq]
  split
  · exact Int.le_refl _
  · rename_i hlow
    simp only
    by_cases hie : i = a.to
    · subst hie
      rw [gt_set_self (by omega)]
      omega
    · rw [gt_set_ne (by omega)]
      exact Int.le_refl _
theorem tryQ_ge {N : Nat} {last : List Int} {a : Arc} {q : Qs} (hn : q.T.length = N) (ha : ArcV N a) : gt q.T a.fr + a.len ≤ gt (tryQ last a q).T a.to := by
  have h1 := ha.to0
  have h2 := ha.to1
  rw [tryQ_eq]
  split
  · assumption
  · simp only
    rw [gt_set_self (by omega)]
    exact Int.le_refl _
theorem tryQ_len {last : List Int} {a : Arc} {q : Qs} : (tryQ last a q).T.length = q.T.length := by
  rw [tryQ_eq]
  split <;> simp
theorem tries_mono {N : Nat} {last : List Int} : ∀ (l : List Arc) {q : Qs}, q.T.length = N → (∀ a ∈ l, ArcV N a) → ∀ i : Int, 0 ≤ i → gt q.T i ≤ gt (tries last l q).T i
  | [], _, _, _, _, _ => Int.le_refl _
  | a :: r, q, hn, hv, i, hi => by
    have h1 := tryQ_mono (last := last) hn (hv a (by simp)) i hi
    have h2 := tries_mono (last := last) r (q := tryQ last a q) (by rw [tryQ_len]; exact hn) (fun b hb => hv b (by simp [hb])) i hi
    exact Int.le_trans h1 h2
theorem tries_ge {N : Nat} {last : List Int} : ∀ (l : List Arc) {q : Qs}, q.T.length = N → (∀ a ∈ l, ArcV N a) → ∀ a ∈ l, gt q.T a.fr + a.len ≤ gt (tries last l q).T a.to
  | [], _, _, _, a, ha => by simp at ha
  | b :: r, q, hn, hv, a, ha => by
    have hl : (tryQ last b q).T.length = N := by rw [tryQ_len]; exact hn
    have hr : ∀ c ∈ r, ArcV N c := fun c hc => hv c (by simp [hc])
    rcases List.mem_cons.1 ha with rfl | ha
    · exact Int.le_trans (tryQ_ge hn (hv a (by simp))) (tries_mono (last := last) r hl hr a.to (hv a (by simp)).to0)
    · have h1 := tries_ge (last := last) r hl hr a ha
      have h2 := tryQ_mono (last := last) hn (hv b (by simp)) a.fr (hr a ha).fr0
      show gt q.T a.fr + a.len ≤ gt (tries last r (tryQ last b q)).T a.to
      omega
/-- What is asked of the whole: all arcs can be kept, by seconds that are not above the last ones; nodes are ready early. -/
structure Fe (N : Nat) (D : List Arc) (ready last U : List Int) : Prop where
  sat : ∀ a ∈ D, Sat U a
  ge : ∀ i : Int, 0 ≤ i → i < N → gt ready i ≤ gt U i
  le : ∀ i : Int, 0 ≤ i → i < N → 0 ≤ gt last i → gt U i ≤ gt last i
  rd : ∀ i : Int, 0 ≤ i → i < N → gt ready i ≤ 28800
  hN : N ≤ 24
theorem VW.bd {N : Nat} {D : List Arc} {ready last T U : List Int} (h : VW N D ready T) (hF : Fe N D ready last U) (hv : ∀ a ∈ D, ArcV N a) {v : Int} (h0 : 0 ≤ v) (h1 : v < N) : gt T v ≤ 720000 := by
  obtain ⟨u, l, q1, q2, _, q4, _, q6, q7⟩ := h.val hF.sat hv h0 h1
  have h2 := hF.rd u q1 q2
  have h3 := wt_len hv l q4
  have h4 := hF.hN
  have h5 : (l.length : Int) ≤ 24 := by omega
  omega
/-- One arc tried: all stays well while nodes are raised less often than may be. -/
theorem try_good {N c : Nat} {k : Int} {D : List Arc} {ready last U : List Int} {q : Qs} {a : Arc} {X : List Arc} (hF : Fe N D ready last U) (hq : QI N c q) (hj : JI N D ready last q (a :: X)) (hg : GI N D ready q) (hD : a ∈ D) (hok : q.ok = true) (hR : ∀ x ∈ q.R, x ≤ k) (hk : k < 65536) :
    GI N D ready (tryQ last a q) ∧ (tryQ last a q).ok = true ∧ (∀ x ∈ (tryQ last a q).R, x ≤ k + 1) := by
  have ha := hj.dv a hD
  have fr0 := ha.fr0
  have fr1 := ha.fr1
  have to0 := ha.to0
  have to1 := ha.to1
  by_cases hs : Sat q.T a
  · rw [tryQ_sat hs]
    exact ⟨hg, hok, fun x hx => by have := hR x hx; omega⟩
  · have hvw : VW N D ready (q.T.set a.to.toNat (gt q.T a.fr + a.len)) := by
      intro v h0 h1
      by_cases hv : v = a.to
      · subst hv
        obtain ⟨u, l, q1, q2, q3, q4, q5⟩ := hg.vw a.fr fr0 fr1
        refine ⟨u, l ++ [a], q1, q2, isW_append.2 ⟨a.fr, q3, rfl, rfl⟩, fun b hb => ?_, ?_⟩
        · rcases List.mem_append.1 hb with hb | hb
          · exact q4 b hb
          · rw [List.mem_singleton] at hb; subst hb; exact hD
        · rw [gt_set_self (by rw [hq.nT]; omega), wt_append]
          simp only [wt]
          omega
      · rw [gt_set_ne (by omega)]
        exact hg.vw v h0 h1
    have hbd := hvw.bd hF hj.dv to0 to1
    rw [gt_set_self (by rw [hq.nT]; omega)] at hbd
    obtain ⟨_, rt, wtv, _, hr, hw⟩ := hq.get (j := a.to.toNat) (by omega)
    have hrk := hR rt (mem_of_get hr)
    have hle := hj.least U hF.sat hF.ge a.fr fr0 fr1
    have hsU := hF.sat a hD
    unfold Sat at hsU hs
    have hlast := hF.le a.to to0 to1
    rw [tryQ_eq, if_neg hs]
    refine ⟨⟨hvw, ?_, fun x hx => ?_⟩, ?_, fun x hx => ?_⟩
    · simp only [List.getD_eq_getElem?_getD, hw, Option.getD_some]
      split
      · exact hg.nd
      · rename_i hwf
        rw [List.nodup_append]
        refine ⟨hg.nd, by simp, fun x hx y hy => ?_⟩
        rw [List.mem_singleton] at hy
        subst hy
        intro he
        subst he
        have := hg.qw _ hx
        rw [hw] at this
        simp at this
        exact hwf this
    · simp only [List.getD_eq_getElem?_getD, hw, Option.getD_some] at hx ⊢
      split at hx
      · rename_i hwt
        rw [if_pos hwt]
        exact hg.qw x hx
      · rename_i hwf
        rw [if_neg hwf]
        by_cases hxt : a.to.toNat = x.toNat
        · rw [hxt, List.getElem?_set_self (by rw [hq.nW]; omega)]
        · rw [List.getElem?_set_ne hxt]
          rcases List.mem_append.1 hx with hx | hx
          · exact hg.qw x hx
          · rw [List.mem_singleton] at hx; subst hx; exact absurd rfl hxt
    · simp only [List.getD_eq_getElem?_getD, hr, Option.getD_some, Bool.and_eq_true, Bool.or_eq_true, decide_eq_true_eq]
      refine ⟨⟨⟨hok, ?_⟩, by omega⟩, by omega⟩
      by_cases hl0 : gt last a.to < 0
      · exact .inl hl0
      · right
        have := hlast (by omega)
        omega
    · simp only [List.getD_eq_getElem?_getD, hr, Option.getD_some] at hx
      rcases mem_set_or hx with hx | hx
      · subst hx; omega
      · have := hR x hx; omega
theorem tries_good {N : Nat} {D : List Arc} {ready last U : List Int} (hF : Fe N D ready last U) (hl : last.length = N) : ∀ (l X : List Arc) (q : Qs) (c : Nat) (k : Int), QI N c q → JI N D ready last q (l ++ X) → GI N D ready q → (∀ a ∈ l, a ∈ D) → q.ok = true → (∀ x ∈ q.R, x ≤ k) → k + (l.length : Int) ≤ 65536 →
    GI N D ready (tries last l q) ∧ (tries last l q).ok = true ∧ ∀ x ∈ (tries last l q).R, x ≤ k + (l.length : Int)
  | [], _, q, _, k, _, _, hg, _, hok, hR, _ => ⟨hg, hok, fun x hx => by have := hR x hx; simp only [List.length_nil]; omega⟩
  | a :: r, X, q, c, k, hq, hj, hg, hD, hok, hR, hk => by
    simp only [List.length_cons] at hk
    have haD := hD a (by simp)
    obtain ⟨h1, h2, h3⟩ := try_good (X := r ++ X) hF hq hj hg haD hok hR (by omega)
    have hj2 : JI N D ready last (tryQ last a q) (r ++ X) := JI.attempt (X := r ++ X) hj haD
    obtain ⟨h4, h5, h6⟩ := tries_good hF hl r X (tryQ last a q) (c + 1) (k + 1) (tryQ_inv hq (hj.dv a haD) hl) hj2 h1 (fun b hb => hD b (by simp [hb])) h2 h3 (by omega)
    exact ⟨h4, h5, fun x hx => by have := h6 x hx; simp only [List.length_cons]; omega⟩
def cnt (outs : List (List Arc)) (C : List Int) : Int := sumF (fun x => ((outs.getD x.toNat []).length : Int)) C
def tot (outs : List (List Arc)) : Int := sumL (fun l => (l.length : Int)) outs
theorem cnt_nonneg (outs : List (List Arc)) (C : List Int) : 0 ≤ cnt outs C := by
  unfold cnt
  induction C with
  | nil => exact Int.le_refl _
  | cons a r ih => simp only [sumF]; omega
theorem cnt_tot {N : Nat} {outs : List (List Arc)} (ho : outs.length = N) {C : List Int} (hn : C.Nodup) (hC : ∀ x ∈ C, 0 ≤ x ∧ x < (N : Int)) : cnt outs C ≤ tot outs := by
  have h := sumF_sub (f := fun x => ((outs.getD x.toNat []).length : Int)) C (nodesL N) hn (fun x hx => mem_nodesL (hC x hx).1 (hC x hx).2) (fun x _ => by omega)
  have h2 := sum_outs (fun l => (l.length : Int)) outs
  rw [ho] at h2
  unfold cnt tot
  omega
/-- All walks of at most p arcs are heeded. -/
def PB (N : Nat) (D : List Arc) (ready T : List Int) (p : Nat) : Prop := ∀ (l : List Arc) (u v : Int), 0 ≤ u → u < N → IsW u l v → (∀ a ∈ l, a ∈ D) → l.length ≤ p → gt ready u + wt l ≤ gt T v
/-- A pass: C is still to be looked at, X comes behind it. -/
structure PI (N : Nat) (D : List Arc) (ready : List Int) (outs : List (List Arc)) (K : Nat) (q : Qs) (p : Nat) (C X : List Int) : Prop where
  qe : q.Q = C ++ X
  pb : PB N D ready q.T p
  pa : ∀ a ∈ D, a.fr ∈ C ∨ ∀ (l : List Arc) (u : Int), 0 ≤ u → u < N → IsW u l a.fr → (∀ b ∈ l, b ∈ D) → l.length ≤ p → gt ready u + wt l + a.len ≤ gt q.T a.to
  rb : ∀ x ∈ q.R, x + (if p < N then cnt outs C else 0) ≤ (K : Int) + ((min (p + 1) N : Nat) : Int) * tot outs
theorem walk_snoc {u v : Int} : ∀ (l : List Arc), IsW u l v → l = [] ∨ ∃ (m : List Arc) (a : Arc), l = m ++ [a] ∧ IsW u m a.fr ∧ a.to = v := by
  intro l h
  rcases List.eq_nil_or_concat l with rfl | ⟨m, a, rfl⟩
  · exact .inl rfl
  · rw [List.concat_eq_append, isW_append] at h
    obtain ⟨x, h1, h2, h3⟩ := h
    refine .inr ⟨m, a, List.concat_eq_append, ?_, h3⟩
    rw [h2]
    exact h1
theorem PI.next {N : Nat} {D : List Arc} {ready last : List Int} {outs : List (List Arc)} {K : Nat} {q : Qs} {p : Nat} {X : List Int} {c : Nat} (h : PI N D ready outs K q p [] X) (hq : QI N c q) (hj : JI N D ready last q []) (hg : GI N D ready q) (ho : outs.length = N) :
    PI N D ready outs K q (p + 1) X [] := by
  have hpb : PB N D ready q.T (p + 1) := by
    intro l u v h0 h1 hw hD hl
    rcases walk_snoc l hw with rfl | ⟨m, a, rfl, h2, h3⟩
    · exact h.pb [] u v h0 h1 hw hD (by simp)
    · have haD := hD a (by simp)
      rcases h.pa a haD with h4 | h4
      · simp at h4
      · have := h4 m u h0 h1 h2 (fun b hb => hD b (by simp [hb])) (by simp at hl; omega)
        rw [wt_append, ← h3]
        simp only [wt]
        omega
  have hQ : q.Q = X := by simpa using h.qe
  refine ⟨by simpa using h.qe, hpb, fun a ha => ?_, fun x hx => ?_⟩
  · by_cases hax : a.fr ∈ X
    · exact .inl hax
    · right
      intro l u h0 h1 hw hD hl
      have h2 := hpb l u a.fr h0 h1 hw hD hl
      rcases hj.pend a ha with h3 | h3 | h3
      · unfold Sat at h3; omega
      · rw [hQ] at h3; exact absurd h3 hax
      · simp at h3
  · have h1 := h.rb x hx
    have h2 : cnt outs X ≤ tot outs := cnt_tot ho (by rw [← hQ]; exact hg.nd) (fun y hy => hq.Q0 y (by rw [hQ]; exact hy))
    have h3 := cnt_nonneg outs X
    have e0 : cnt outs [] = 0 := rfl
    rw [e0] at h1
    have h4 : x ≤ (K : Int) + ((min (p + 1) N : Nat) : Int) * tot outs := by
      split at h1 <;> omega
    by_cases hp : p + 1 < N
    · rw [if_pos hp]
      have e1 : min (p + 1) N = p + 1 := by omega
      have e2 : min (p + 1 + 1) N = p + 1 + 1 := by omega
      rw [e1] at h4
      rw [e2]
      have e3 : ((p + 1 + 1 : Nat) : Int) * tot outs = ((p + 1 : Nat) : Int) * tot outs + tot outs := by
        rw [show ((p + 1 + 1 : Nat) : Int) = ((p + 1 : Nat) : Int) + 1 by omega, Int.add_mul, Int.one_mul]
      omega
    · rw [if_neg hp]
      have e1 : min (p + 1) N = N := by omega
      have e2 : min (p + 1 + 1) N = N := by omega
      rw [e1] at h4
      rw [e2]
      omega

theorem tryQ_Q {last : List Int} {a : Arc} {q : Qs} : ∃ Y, (tryQ last a q).Q = q.Q ++ Y := by
  rw [tryQ_eq]
  split
  · exact ⟨[], by simp⟩
  · simp only
    split
    · exact ⟨[], by simp⟩
    · exact ⟨_, rfl⟩
theorem tries_Q {last : List Int} : ∀ (l : List Arc) (q : Qs), ∃ Y, (tries last l q).Q = q.Q ++ Y
  | [], q => ⟨[], by simp [tries]⟩
  | a :: r, q => by
    obtain ⟨Y, hY⟩ := tryQ_Q (last := last) (a := a) (q := q)
    obtain ⟨Z, hZ⟩ := tries_Q (last := last) r (tryQ last a q)
    exact ⟨Y ++ Z, by show (tries last r (tryQ last a q)).Q = _; rw [hZ, hY, List.append_assoc]⟩
theorem tot_mul {m : Nat} {t : Int} (hm : m ≤ 24) (h0 : 0 ≤ t) (h1 : t ≤ 1450) : (m : Int) * t ≤ 34800 := by
  have := Int.mul_le_mul (show (m : Int) ≤ 24 by omega) h1 h0 (by omega)
  omega
theorem tot_nonneg (outs : List (List Arc)) : 0 ≤ tot outs := by
  unfold tot
  induction outs with
  | nil => exact Int.le_refl _
  | cons a r ih => simp only [sumL]; omega
theorem PI.step {N : Nat} {D : List Arc} {ready last U : List Int} {outs : List (List Arc)} {K : Nat} {q : Qs} {p : Nat} {x : Int} {C X : List Int} {c : Nat} (hF : Fe N D ready last U) (hl : last.length = N) (h : PI N D ready outs K q p (x :: C) X) (hq : QI N c q) (hj : JI N D ready last q []) (hg : GI N D ready q) (ho : OutsOf N D outs) (hok : q.ok = true)
    (hK : K ≤ 250) (ht : tot outs ≤ 1450) : ∃ Y, PI N D ready outs K (stepQ last outs q) p C (X ++ Y) ∧ GI N D ready (stepQ last outs q) ∧ (stepQ last outs q).ok = true := by
  have hQ : q.Q = x :: (C ++ X) := h.qe
  have hx := hq.Q0 x (by rw [hQ]; simp)
  have hN := hF.hN
  obtain ⟨y, hy⟩ := ex_get (l := outs) (k := x.toNat) (by rw [ho.1]; omega)
  have hyD : ∀ a ∈ y, a ∈ D := fun a ha => ((ho.2 _ y hy a).1 ha).1
  have hyf : ∀ a ∈ y, a.fr = x := fun a ha => by have := ((ho.2 _ y hy a).1 ha).2; omega
  have hyv : ∀ a ∈ y, ArcV N a := fun a ha => hj.dv a (hyD a ha)
  have hget : outs.getD x.toNat [] = y := by rw [List.getD_eq_getElem?_getD, hy]; rfl
  have hst : stepQ last outs q = tries last y { q with W := q.W.set x.toNat false, Q := C ++ X } := by
    unfold stepQ
    rw [hQ]
    simp only
    rw [hget]
  have hnd : (x :: (C ++ X)).Nodup := by rw [← hQ]; exact hg.nd
  rw [List.nodup_cons] at hnd
  have hq1 : QI N c { q with W := q.W.set x.toNat false, Q := C ++ X } := pop_inv hq hQ
  have hj1 : JI N D ready last { q with W := q.W.set x.toNat false, Q := C ++ X } (y ++ []) := by
    have := hj.pop ho hQ hx
    rwa [hget] at this
  have hg1 : GI N D ready { q with W := q.W.set x.toNat false, Q := C ++ X } := by
    refine ⟨hg.vw, hnd.2, fun z hz => ?_⟩
    have hzq : z ∈ q.Q := by rw [hQ]; exact List.mem_cons_of_mem _ hz
    have hz0 := (hq.Q0 z hzq).1
    have hne : x ≠ z := fun he => hnd.1 (he ▸ hz)
    simp only
    rw [List.getElem?_set_ne (by omega)]
    exact hg.qw z hzq
  have hce : cnt outs (x :: C) = (y.length : Int) + cnt outs C := by
    unfold cnt
    simp only [sumF]
    rw [hget]
  have hm := tot_mul (m := min (p + 1) N) (by omega) (tot_nonneg outs) ht
  have hc0 := cnt_nonneg outs C
  have htN := cnt_tot ho.1 (C := [x]) (by simp) (fun z hz => by rw [List.mem_singleton] at hz; subst hz; exact hx)
  have hc1 : cnt outs [x] = (y.length : Int) := by
    unfold cnt
    simp only [sumF]
    rw [hget]
    omega
  rw [hst]
  obtain ⟨Y, hY⟩ := tries_Q (last := last) y { q with W := q.W.set x.toNat false, Q := C ++ X }
  have hmono := tries_mono (last := last) y (q := { q with W := q.W.set x.toNat false, Q := C ++ X }) hq.nT hyv
  have hge := tries_ge (last := last) y (q := { q with W := q.W.set x.toNat false, Q := C ++ X }) hq.nT hyv
  have hpb : PB N D ready (tries last y { q with W := q.W.set x.toNat false, Q := C ++ X }).T p := by
    intro l u v h0 h1 hw hD hlp
    have h2 := h.pb l u v h0 h1 hw hD hlp
    have hv0 : 0 ≤ v := by
      rcases walk_snoc l hw with rfl | ⟨m, a, rfl, _, h4⟩
      · have : u = v := hw
        omega
      · rw [← h4]; exact (hj.dv a (hD a (by simp))).to0
    have h3 := hmono v hv0
    exact Int.le_trans h2 h3
  have hpa : ∀ a ∈ D, a.fr ∈ C ∨ ∀ (l : List Arc) (u : Int), 0 ≤ u → u < N → IsW u l a.fr → (∀ b ∈ l, b ∈ D) → l.length ≤ p → gt ready u + wt l + a.len ≤ gt (tries last y { q with W := q.W.set x.toNat false, Q := C ++ X }).T a.to := by
    intro a ha
    rcases h.pa a ha with h1 | h1
    · rcases List.mem_cons.1 h1 with h2 | h2
      · right
        intro l u h0 h3 hw hD hlp
        have hay : a ∈ y := (ho.2 _ y hy a).2 ⟨ha, by omega⟩
        have h4 := hge a hay
        have h5 := h.pb l u a.fr h0 h3 hw hD hlp
        simp only at h4
        omega
      · exact .inl h2
    · right
      intro l u h0 h3 hw hD hlp
      have h4 := h1 l u h0 h3 hw hD hlp
      have h5 := hmono a.to (hj.dv a ha).to0
      exact Int.le_trans h4 h5
  by_cases hp : p < N
  · have hR : ∀ z ∈ q.R, z ≤ (K : Int) + ((min (p + 1) N : Nat) : Int) * tot outs - cnt outs (x :: C) := fun z hz => by
      have := h.rb z hz
      rw [if_pos hp] at this
      omega
    obtain ⟨g1, g2, g3⟩ := tries_good hF hl y [] _ c _ hq1 hj1 hg1 hyD hok hR (by rw [hce]; omega)
    refine ⟨Y, ⟨by rw [hY, List.append_assoc], hpb, hpa, fun z hz => ?_⟩, g1, g2⟩
    rw [if_pos hp]
    have := g3 z hz
    rw [hce] at this
    omega
  · have hsat : ∀ a ∈ y, Sat q.T a := fun a ha => by
      have haD := hyD a ha
      have hv := hj.dv a haD
      obtain ⟨u, l, q1, q2, q3, q4, q5⟩ := hg.vw a.fr hv.fr0 hv.fr1
      have hw : IsW u (l ++ [a]) a.to := isW_append.2 ⟨a.fr, q3, rfl, rfl⟩
      have hwD : ∀ b ∈ l ++ [a], b ∈ D := fun b hb => by
        rcases List.mem_append.1 hb with hb | hb
        · exact q4 b hb
        · rw [List.mem_singleton] at hb; subst hb; exact haD
      obtain ⟨l', r1, r2, r3, r4⟩ := simple_walk hF.sat _ _ u a.to (Nat.le_refl _) hw hwD
      have h1 := h.pb l' u a.to q1 q2 r1 r2 (by have := simple_len hj.dv r2 r3; omega)
      rw [wt_append] at r4
      simp only [wt] at r4
      unfold Sat
      omega
    have hsame := tries_sat (last := last) y (q := { q with W := q.W.set x.toNat false, Q := C ++ X }) hsat
    rw [hsame] at hY hpb hpa ⊢
    refine ⟨Y, ⟨by rw [hY, List.append_assoc], hpb, hpa, fun z hz => ?_⟩, hg1, hok⟩
    have := h.rb z hz
    rw [if_neg hp] at this ⊢
    exact this


end Go.Proofs.Ytakehdnblmonlaa
