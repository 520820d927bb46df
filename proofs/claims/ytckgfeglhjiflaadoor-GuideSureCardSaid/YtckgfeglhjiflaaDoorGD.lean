/- Plain: odds; sums of weights over the cases of a journey. -/
import Derived.Test.YtckgfeglhjiflaaDoorGC
set_option linter.unusedVariables false
set_option linter.unusedSimpArgs false
namespace Go.Proofs.YtckgfeglhjiflaaDoor
open Go.RowKit Go.Fp

def WOdds (o : GuideOdds) : Prop := I64 o.Train ∧ Lst I64 o.Late ∧ Lst I64 o.Weight
def OddOk (o : GuideOdds) : Prop := (1 ≤ o.Late.length ∧ o.Late.length ≤ 6 ∧ o.Late.length = o.Weight.length) ∧ (∀ s ∈ o.Late, 0 ≤ s ∧ s ≤ 28800) ∧ ∀ w ∈ o.Weight, 1 ≤ w ∧ w ≤ 10
theorem indexf2_tot (l : List GuideOdds) (c : Int) (x y : List Int) (hl : l.length ≤ 9223372036854775807) : Tot (mSlicesIndexFunc_2 l c x y) (fun _ => True) := by
  unfold mSlicesIndexFunc_2
  refine tot_sum (tot_forM (fun _ _ => True) (fun _ => True) trivial fun j _ _ hj _ => ?_) (fun _ _ => tot_some trivial) fun _ _ => tot_some trivial
  unfold mSlicesIndexFunc_2_L68
  refine tot_idn (by omega) fun o ho => ?_
  unfold mGuideCheckOdds_1
  exact tot_ite (fun _ => tot_some trivial) fun _ => tot_some trivial
theorem odds_tot {d : ApiDay} {l : List GuideOdds} (hT : d.Trains.length ≤ 12) (hw : Lst WOdds l) : Tot (mGuideCheckOdds d l) (fun c => c = 0 → ∀ o ∈ l, OddOk o) := by
  unfold mGuideCheckOdds
  refine tot_ite (fun _ => tot_some fun h => absurd h (by decide)) fun h12 => ?_
  refine tot_sum (I := fun _ => ∀ o ∈ l, OddOk o) (R := fun c => c ≠ 0) ?_ (fun _ h1 => tot_some fun _ => h1) fun c hc => tot_some fun h => absurd h hc
  refine tot_imp (tot_forM (fun k _ => ∀ i o, i < k → l[i]? = some o → OddOk o) (fun c => c ≠ 0) (fun i t hi => absurd hi (by omega)) fun j _ _ hj hi => ?_) fun o ho => ?_
  · unfold mGuideCheckOdds_L438
    refine tot_idn (by omega) fun o ho => tot_chk (by omega) (by omega) ?_
    have wo := hw.2 o (List.mem_of_getElem? ho)
    have w1 := wo.2.1.1
    have w2 := wo.2.2.1
    rw [gwithin_eq, Option.bind_some]
    refine tot_ite (fun _ => ?_) fun _ => tot_some (show (3 : Int) ≠ 0 by decide)
    refine tot_eq (cutS_ok (a := 0) (b := j) (by omega) (by omega)) ?_
    unfold mSlicesContainsFunc
    refine tot_bind (tot_bind (indexf2_tot _ _ _ _ (by simp; omega)) fun q _ => tot_some (P := fun _ => True) trivial) fun q _ => ?_
    refine tot_ite (fun _ => tot_some (show (6 : Int) ≠ 0 by decide)) fun _ => tot_ite (fun _ => tot_some (show (1 : Int) ≠ 0 by decide)) fun hlen => ?_
    rw [gwithin_eq, Option.bind_some]
    refine tot_ite (fun h6 => ?_) fun _ => tot_some (show (4 : Int) ≠ 0 by decide)
    have h6 := of_decide_eq_true h6
    refine tot_sum (I := fun _ => ∀ i s, i < o.Late.length → o.Late[i]? = some s → (0 ≤ s ∧ s ≤ 28800) ∧ ∀ w, o.Weight[i]? = some w → 1 ≤ w ∧ w ≤ 10) (R := fun o : Unit ⊕ Int => Sum.elim (fun _ => False) (fun c => c ≠ 0) o) ?_ (fun _ h1 => ?_) fun c hc => ⟨_, rfl, by cases c with | inl _ => exact hc.elim | inr c => exact hc⟩
    · refine tot_imp (tot_forM (fun k _ => ∀ i s, i < k → o.Late[i]? = some s → (0 ≤ s ∧ s ≤ 28800) ∧ ∀ w, o.Weight[i]? = some w → 1 ≤ w ∧ w ≤ 10) (fun o : Unit ⊕ Int => Sum.elim (fun _ => False) (fun c => c ≠ 0) o) (fun i t hi => absurd hi (by omega)) fun i _ _ hi' hi => ?_) fun o ho => ?_
      · unfold mGuideCheckOdds_L697
        refine tot_idn (by omega) fun s hs => ?_
        refine tot_bind (R := fun q => q = false → (0 ≤ s ∧ s ≤ 28800) ∧ ∀ w, o.Weight[i]? = some w → 1 ≤ w ∧ w ≤ 10) ?_ fun q hq => ?_
        · rw [gwithin_eq, Option.bind_some]
          refine tot_ite (fun h1 => ?_) fun _ => tot_some fun h => by cases h
          refine tot_idn (by omega) fun w hw => ?_
          rw [gwithin_eq, Option.bind_some]
          refine tot_some fun h => ⟨of_decide_eq_true h1, fun w' hw' => ?_⟩
          rw [hw] at hw'
          injection hw' with hw'
          subst hw'
          simpa using h
        · refine tot_ite (fun _ => tot_some (show (2 : Int) ≠ 0 by decide)) fun hqf => ?_
          have hq := hq (bt hqf)
          refine tot_bind (R := fun _ => True) (tot_ite (fun _ => tot_chk (by omega) (by omega) (tot_idx (by omega) (by omega) fun _ _ => tot_some trivial)) fun _ => tot_some trivial) fun q2 _ => ?_
          refine tot_ite (fun _ => tot_some (show (5 : Int) ≠ 0 by decide)) fun _ => ?_
          exact tot_some (show ∀ (i' : Nat) (s' : Int), i' < i + 1 → o.Late[i']? = some s' → (0 ≤ s' ∧ s' ≤ 28800) ∧ ∀ w, o.Weight[i']? = some w → 1 ≤ w ∧ w ≤ 10 from fun i' s' h2 hs' => by
            rcases Nat.lt_or_ge i' i with h5 | h5
            · exact hi i' s' h5 hs'
            · have : i' = i := by omega
              subst this
              rw [hs] at hs'
              injection hs' with hs'
              subst hs'
              exact hq)
      · cases o with
        | inl _ => exact fun i s h => ho i s (by omega)
        | inr _ => exact ho
    · refine tot_some (upto_succ ho hi ⟨⟨by omega, by omega, by omega⟩, fun s hs => ?_, fun w hw' => ?_⟩)
      · obtain ⟨i, h3, h4⟩ := List.mem_iff_getElem.1 hs
        exact (h1 i s h3 (by rw [List.getElem?_eq_getElem h3, h4])).1
      · obtain ⟨i, h3, h4⟩ := List.mem_iff_getElem.1 hw'
        exact (h1 i _ (by omega) (List.getElem?_eq_getElem (by omega))).2 w (by rw [List.getElem?_eq_getElem h3, h4])
  · cases o with
    | inl _ => exact mem_upto ho
    | inr _ => exact ho

/- ---- sums ---- -/
def wsum : List (Int × Int) → (Int → Int) → Int
  | [], _ => 0
  | p :: r, f => p.2 * f p.1 + wsum r f
def upd (μ : Int → Int) (t s : Int) : Int → Int := fun x => if x = t then s else μ x
def od (l : List GuideOdds) (t : Int) : Option GuideOdds := l.find? fun o => decide (o.Train = t)
noncomputable def hol (l : List GuideOdds) (G : (Int → Int) → Prop) : List Int → (Int → Int) → Int
  | [], μ => open Classical in if G μ then 1 else 0
  | t :: ts, μ => match od l t with
    | none => hol l G ts μ
    | some o => wsum (o.Late.zip o.Weight) fun s => hol l G ts (upd μ t s)
def tot (l : List GuideOdds) : List Int → Int
  | [] => 1
  | t :: ts => match od l t with
    | none => tot l ts
    | some o => wsum (o.Late.zip o.Weight) (fun _ => 1) * tot l ts
def Pos (l : List (Int × Int)) : Prop := ∀ p ∈ l, 1 ≤ p.2 ∧ p.2 ≤ 10
theorem wsum_mono : ∀ {l : List (Int × Int)} {f g : Int → Int}, Pos l → (∀ s, f s ≤ g s) → wsum l f ≤ wsum l g
  | [], _, _, _, _ => Int.le_refl _
  | p :: r, f, g, h, hf => by
    have h1 := h p (List.mem_cons_self ..)
    have h2 := wsum_mono (l := r) (fun q hq => h q (List.mem_cons_of_mem _ hq)) hf
    have h3 : p.2 * f p.1 ≤ p.2 * g p.1 := Int.mul_le_mul_of_nonneg_left (hf _) (by omega)
    unfold wsum
    omega
theorem wsum_mul (c : Int) : ∀ (l : List (Int × Int)) (f : Int → Int), wsum l (fun s => c * f s) = c * wsum l f
  | [], _ => by simp [wsum]
  | p :: r, f => by
    unfold wsum
    rw [wsum_mul c r f, Int.mul_add, Int.mul_left_comm]
theorem wsum_one (c : Int) (l : List (Int × Int)) : wsum l (fun _ => c) = wsum l (fun _ => 1) * c := by
  have := wsum_mul c l (fun _ => 1)
  simp only [Int.mul_one] at this
  rw [this, Int.mul_comm]
theorem wsum_bd : ∀ {l : List (Int × Int)}, Pos l → (l.length : Int) ≤ wsum l (fun _ => 1) ∧ wsum l (fun _ => 1) ≤ 10 * (l.length : Int)
  | [], _ => by simp [wsum]
  | p :: r, h => by
    have h1 := h p (List.mem_cons_self ..)
    have h2 := wsum_bd (l := r) (fun q hq => h q (List.mem_cons_of_mem _ hq))
    unfold wsum
    simp only [List.length_cons, Int.mul_one]
    omega
theorem wsum_take {f : Int → Int} : ∀ {l : List (Int × Int)} {c : Nat} {p : Int × Int}, l[c]? = some p → wsum (l.take (c + 1)) f = wsum (l.take c) f + p.2 * f p.1
  | [], c, p, h => by simp at h
  | q :: r, 0, p, h => by
    simp at h
    subst h
    simp [wsum]
  | q :: r, c + 1, p, h => by
    have := wsum_take (f := f) (l := r) (c := c) (p := p) (by simpa using h)
    simp only [List.take_succ_cons, wsum, this]
    omega
theorem wsum_nonneg {l : List (Int × Int)} {f : Int → Int} (h : Pos l) (hf : ∀ s, 0 ≤ f s) : 0 ≤ wsum l f := by
  have := wsum_mono (f := fun _ => 0) (g := f) h hf
  have h2 := wsum_one 0 l
  omega
theorem wsum_part {l : List (Int × Int)} {f : Int → Int} (h : Pos l) (hf : ∀ s, 0 ≤ f s) (c : Nat) : wsum (l.take c) f ≤ wsum l f := by
  induction l generalizing c with
  | nil => simp
  | cons p r ih =>
    have h1 := h p (List.mem_cons_self ..)
    have hr : Pos r := fun q hq => h q (List.mem_cons_of_mem _ hq)
    cases c with
    | zero => exact wsum_nonneg h hf
    | succ c =>
      have := ih hr c
      simp only [List.take_succ_cons, wsum]
      omega
section
variable {l : List GuideOdds}
theorem od_mem {t : Int} {o : GuideOdds} (h : od l t = some o) : o ∈ l := List.mem_of_find?_eq_some h
theorem zip_pos {o : GuideOdds} (h : OddOk o) : Pos (o.Late.zip o.Weight) := fun p hp => h.2.2 _ (List.of_mem_zip hp).2
theorem zip_len {o : GuideOdds} (h : OddOk o) : (o.Late.zip o.Weight).length = o.Late.length := by
  rw [List.length_zip]
  have := h.1.2.2
  omega
theorem tot_bd (hl : ∀ o ∈ l, OddOk o) : ∀ (ts : List Int), 1 ≤ tot l ts ∧ tot l ts ≤ 60 ^ ts.length
  | [] => by simp [tot]
  | t :: ts => by
    obtain ⟨h1, h2⟩ := tot_bd hl ts
    unfold tot
    cases h : od l t with
    | none =>
      simp only
      have h3 : (60 : Int) ^ (t :: ts).length = 60 ^ ts.length * 60 := by rw [List.length_cons, Int.pow_succ]
      omega
    | some o =>
      simp only
      have ho := hl o (od_mem h)
      have hb := wsum_bd (zip_pos ho)
      rw [zip_len ho] at hb
      have hb1 := ho.1
      generalize wsum (o.Late.zip o.Weight) (fun _ => 1) = W at hb
      have h3 : (60 : Int) ^ (t :: ts).length = 60 ^ ts.length * 60 := by rw [List.length_cons, Int.pow_succ]
      refine ⟨?_, ?_⟩
      · have : 1 * 1 ≤ W * tot l ts := Int.mul_le_mul (by omega) h1 (by omega) (by omega)
        omega
      · have : W * tot l ts ≤ 60 * 60 ^ ts.length := Int.mul_le_mul (by omega) h2 (by omega) (by omega)
        omega
theorem hol_bd (hl : ∀ o ∈ l, OddOk o) {G : (Int → Int) → Prop} : ∀ (ts : List Int) (μ : Int → Int), 0 ≤ hol l G ts μ ∧ hol l G ts μ ≤ tot l ts
  | [], μ => by
    unfold hol tot
    split <;> omega
  | t :: ts, μ => by
    unfold hol tot
    cases h : od l t with
    | none => exact hol_bd hl ts μ
    | some o =>
      simp only
      have hp := zip_pos (hl o (od_mem h))
      refine ⟨wsum_nonneg hp fun s => (hol_bd hl ts _).1, ?_⟩
      rw [← wsum_one]
      exact wsum_mono hp fun s => (hol_bd hl ts _).2
theorem hol_mono (hl : ∀ o ∈ l, OddOk o) {G G' : (Int → Int) → Prop} (h : ∀ μ, G' μ → G μ) : ∀ (ts : List Int) (μ : Int → Int), hol l G' ts μ ≤ hol l G ts μ
  | [], μ => by
    unfold hol
    by_cases h1 : G' μ
    · rw [if_pos h1, if_pos (h μ h1)]; omega
    · rw [if_neg h1]; split <;> omega
  | t :: ts, μ => by
    unfold hol
    cases h2 : od l t with
    | none => exact hol_mono hl h ts μ
    | some o => exact wsum_mono (zip_pos (hl o (od_mem h2))) fun s => hol_mono hl h ts _
theorem tot_snoc (t : Int) : ∀ (ts : List Int), tot l (ts ++ [t]) = tot l [t] * tot l ts
  | [] => by simp [tot]
  | u :: ts => by
    have ih := tot_snoc t ts
    rw [List.cons_append, tot]
    conv => rhs; rw [tot.eq_2 (ts := ts) (t := u)]
    cases h : od l u with
    | none => exact ih
    | some o => simp only; rw [ih, Int.mul_left_comm]
theorem hol_snoc {G : (Int → Int) → Prop} (t : Int) (h : ∀ μ s, G (upd μ t s) ↔ G μ) : ∀ (ts : List Int) (μ : Int → Int), hol l G (ts ++ [t]) μ = tot l [t] * hol l G ts μ
  | [], μ => by
    have key : ∀ s, hol l G [] (upd μ t s) = hol l G [] μ := fun s => by
      unfold hol
      by_cases hg : G μ
      · rw [if_pos ((h μ s).2 hg), if_pos hg]
      · rw [if_neg (fun e => hg ((h μ s).1 e)), if_neg hg]
    rw [List.nil_append, show hol l G [t] μ = (match od l t with | none => hol l G [] μ | some o => wsum (o.Late.zip o.Weight) fun s => hol l G [] (upd μ t s)) from rfl,
      show tot l [t] = (match od l t with | none => tot l [] | some o => wsum (o.Late.zip o.Weight) (fun _ => 1) * tot l []) from rfl]
    cases h2 : od l t with
    | none => simp [tot]
    | some o =>
      simp only [key, tot, Int.mul_one]
      exact wsum_one _ _
  | u :: ts, μ => by
    have ih := hol_snoc t h ts
    rw [List.cons_append, hol]
    conv => rhs; rw [hol.eq_2 (ts := ts) (t := u)]
    cases h2 : od l u with
    | none => exact ih μ
    | some o => simp only [ih]; exact wsum_mul _ _ _
end

theorem snoc_ind {α : Type} {P : List α → Prop} (h0 : P []) (h1 : ∀ l a, P l → P (l ++ [a])) (l : List α) : P l := by
  rw [← List.reverse_reverse l]
  induction l.reverse with
  | nil => exact h0
  | cons a r ih => rw [List.reverse_cons]; exact h1 _ _ ih
/- ---- the trains of a journey ---- -/
def trOf (rs : List GuideRide) : List Int := rs.foldl (fun a r => if r.Train ∈ a then a else a ++ [r.Train]) []
theorem trOf_snoc (rs : List GuideRide) (r : GuideRide) : trOf (rs ++ [r]) = if r.Train ∈ trOf rs then trOf rs else trOf rs ++ [r.Train] := by
  unfold trOf
  rw [List.foldl_append]
  rfl
theorem trOf_mem (rs : List GuideRide) : (∀ r ∈ rs, r.Train ∈ trOf rs) ∧ (∀ t ∈ trOf rs, ∃ r ∈ rs, r.Train = t) ∧ (trOf rs).Nodup ∧ (trOf rs).length ≤ rs.length := by
  refine snoc_ind (P := fun rs => (∀ r ∈ rs, r.Train ∈ trOf rs) ∧ (∀ t ∈ trOf rs, ∃ r ∈ rs, r.Train = t) ∧ (trOf rs).Nodup ∧ (trOf rs).length ≤ rs.length) ⟨fun r h => (by cases h), fun t h => (by cases h), List.nodup_nil, Nat.le_refl _⟩ (fun rs r ih => ?_) rs
  · show _
    obtain ⟨h1, h2, h3, h4⟩ := ih
    rw [trOf_snoc]
    by_cases hc : r.Train ∈ trOf rs
    · rw [if_pos hc]
      refine ⟨fun x hx => ?_, fun t ht => ?_, h3, by simp; omega⟩
      · rcases List.mem_append.1 hx with hx | hx
        · exact h1 x hx
        · rw [List.mem_singleton.1 hx]; exact hc
      · obtain ⟨x, hx, he⟩ := h2 t ht
        exact ⟨x, List.mem_append_left _ hx, he⟩
    · rw [if_neg hc]
      refine ⟨fun x hx => ?_, fun t ht => ?_, ?_, by simp; omega⟩
      · rcases List.mem_append.1 hx with hx | hx
        · exact List.mem_append_left _ (h1 x hx)
        · rw [List.mem_singleton.1 hx]; exact List.mem_append_right _ (List.mem_singleton.2 rfl)
      · rcases List.mem_append.1 ht with ht | ht
        · obtain ⟨x, hx, he⟩ := h2 t ht
          exact ⟨x, List.mem_append_left _ hx, he⟩
        · exact ⟨r, List.mem_append_right _ (List.mem_singleton.2 rfl), (List.mem_singleton.1 ht).symm⟩
      · rw [List.nodup_append]
        refine ⟨h3, by simp, fun a ha b hb => ?_⟩
        rw [List.mem_singleton.1 hb]
        intro he
        exact hc (he ▸ ha)

/- ---- the cases of a journey ---- -/
/-- All changes can be made if trains are so late. -/
def Holds (T : List ApiTrain) (m : Int) (rs : List GuideRide) (μ : Int → Int) : Prop := ∀ (i : Nat) (a b : GuideRide), rs[i]? = some a → rs[i + 1]? = some b → (off T a).Arr + μ a.Train + m ≤ (on T b).Dep + μ b.Train
noncomputable def H (T : List ApiTrain) (m : Int) (l : List GuideOdds) (rs : List GuideRide) : Int := hol l (Holds T m rs) (trOf rs) fun _ => 0
def A (l : List GuideOdds) (rs : List GuideRide) : Int := tot l (trOf rs)
theorem holds_front {T : List ApiTrain} {m : Int} {rs : List GuideRide} {r : GuideRide} {μ : Int → Int} (h : Holds T m (rs ++ [r]) μ) : Holds T m rs μ := fun i a b ha hb => by
  have hlt : i + 1 < rs.length := by obtain ⟨q, _⟩ := List.getElem?_eq_some_iff.1 hb; exact q
  exact h i a b (by rw [List.getElem?_append_left (by omega)]; exact ha) (by rw [List.getElem?_append_left hlt]; exact hb)
theorem holds_upd {T : List ApiTrain} {m : Int} {rs : List GuideRide} {t : Int} (ht : ∀ r ∈ rs, r.Train ≠ t) (μ : Int → Int) (s : Int) : Holds T m rs (upd μ t s) ↔ Holds T m rs μ := by
  have key : ∀ r ∈ rs, upd μ t s r.Train = μ r.Train := fun r hr => by unfold upd; rw [if_neg (ht r hr)]
  constructor
  · intro h i a b ha hb
    have := h i a b ha hb
    rw [key a (List.mem_of_getElem? ha), key b (List.mem_of_getElem? hb)] at this
    exact this
  · intro h i a b ha hb
    have := h i a b ha hb
    rw [key a (List.mem_of_getElem? ha), key b (List.mem_of_getElem? hb)]
    exact this
section
variable {T : List ApiTrain} {m : Int} {l : List GuideOdds}
theorem HA_bd (hl : ∀ o ∈ l, OddOk o) (rs : List GuideRide) : 1 ≤ A l rs ∧ 0 ≤ H T m l rs ∧ H T m l rs ≤ A l rs := ⟨(tot_bd hl _).1, hol_bd hl _ _⟩
theorem A_le (hl : ∀ o ∈ l, OddOk o) {rs : List GuideRide} (h : rs.length ≤ 4) : A l rs ≤ 12960000 := by
  have h1 := (tot_bd hl (trOf rs)).2
  have h2 := (trOf_mem rs).2.2.2
  have h3 : (60 : Int) ^ (trOf rs).length ≤ 60 ^ 4 := by
    have : (60 : Nat) ^ (trOf rs).length ≤ 60 ^ 4 := Nat.pow_le_pow_right (by omega) (by omega)
    exact_mod_cast this
  have h4 : (60 : Int) ^ 4 = 12960000 := by decide
  unfold A
  omega
/-- A further change does not make a journey surer. -/
theorem less_sure (hl : ∀ o ∈ l, OddOk o) (rs : List GuideRide) (r : GuideRide) : H T m l (rs ++ [r]) * A l rs ≤ H T m l rs * A l (rs ++ [r]) := by
  have hA := HA_bd (T := T) (m := m) hl rs
  unfold H A
  rw [trOf_snoc]
  by_cases hc : r.Train ∈ trOf rs
  · rw [if_pos hc]
    exact Int.mul_le_mul_of_nonneg_right (hol_mono hl (fun μ h => holds_front h) _ _) (by have := (tot_bd hl (trOf rs)).1; omega)
  · rw [if_neg hc, tot_snoc]
    have h1 := hol_mono hl (G' := Holds T m (rs ++ [r])) (G := Holds T m rs) (fun μ h => holds_front h) (trOf rs ++ [r.Train]) fun _ => 0
    rw [hol_snoc (G := Holds T m rs) r.Train (fun μ s => holds_upd (fun x hx he => hc (by rw [← he]; exact (trOf_mem rs).1 x hx)) μ s)] at h1
    have h2 := Int.mul_le_mul_of_nonneg_right h1 (by have := (tot_bd hl (trOf rs)).1; omega : 0 ≤ tot l (trOf rs))
    refine Int.le_trans h2 (Int.le_of_eq ?_)
    rw [Int.mul_comm (tot l [r.Train]), Int.mul_assoc]
theorem ratio_trans {a b c x y z : Int} (hy : 0 < y) (hx : 0 ≤ x) (hz : 0 ≤ z) (h1 : a * y ≤ b * x) (h2 : b * z ≤ c * y) : a * z ≤ c * x := by
  refine Int.le_of_mul_le_mul_right (a := y) ?_ hy
  have h3 := Int.mul_le_mul_of_nonneg_right h1 hz
  have h4 := Int.mul_le_mul_of_nonneg_right h2 hx
  calc a * z * y = a * y * z := by rw [Int.mul_right_comm]
    _ ≤ b * x * z := h3
    _ = b * z * x := by rw [Int.mul_right_comm]
    _ ≤ c * y * x := h4
    _ = c * x * y := by rw [Int.mul_right_comm]
theorem less_sure_all (hl : ∀ o ∈ l, OddOk o) (rs : List GuideRide) : ∀ (q : List GuideRide), H T m l (rs ++ q) * A l rs ≤ H T m l rs * A l (rs ++ q) := by
  intro q
  refine snoc_ind (P := fun q => H T m l (rs ++ q) * A l rs ≤ H T m l rs * A l (rs ++ q)) (by simp) (fun q r ih => ?_) q
  · rw [← List.append_assoc]
    have h1 := less_sure (T := T) (m := m) hl (rs ++ q) r
    exact ratio_trans (by have := (HA_bd (T := T) (m := m) hl (rs ++ q)).1; omega) (by have := (HA_bd (T := T) (m := m) hl (rs ++ q ++ [r])).1; omega) (by have := (HA_bd (T := T) (m := m) hl rs).1; omega) h1 ih
end
end Go.Proofs.YtckgfeglhjiflaaDoor
