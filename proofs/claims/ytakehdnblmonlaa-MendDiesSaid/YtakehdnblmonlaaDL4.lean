/- Plain: what follow does: the least delays that keep the links. -/
import Derived.Test.YtakehdnblmonlaaDL3
set_option linter.unusedVariables false
set_option linter.unusedSimpArgs false
namespace Go.Proofs.Ytakehdnblmonlaa
open Go.RowKit Go.Fp

/-- The row from which a link brings lateness. -/
def src (now : List Int) (bf : List (List Int)) (l : MendLink) : Option (List Int) := if 0 < l.Back then bf[(l.Back - 1).toNat]? else some now
def RowOk (n : Nat) (M : Int) (l : List Int) : Prop := l.length = n ∧ ∀ v : Int, 0 ≤ v → v < (n : Int) → 0 ≤ av l v ∧ av l v ≤ M
structure Follows (r : MendRound) (M : Int) (now : List Int) (bf : List (List Int)) (out : List Int) : Prop where
  ok : RowOk r.Plan.length M out
  ge : ∀ v : Int, 0 ≤ v → v < (r.Plan.length : Int) → av now v ≤ av out v
  cl : ∀ l ∈ r.Links, ∀ w, src out bf l = some w → av w l.From - sg r l ≤ av out l.To
  by_ : ∀ P : Int → Int → Prop, (∀ v : Int, 0 ≤ v → v < (r.Plan.length : Int) → P v (av now v)) → (∀ l ∈ r.Links, ¬ 0 < l.Back → ∀ d, P l.From d → P l.To (d - sg r l)) → (∀ l ∈ r.Links, 0 < l.Back → ∀ w, bf[(l.Back - 1).toNat]? = some w → P l.To (av w l.From - sg r l)) → ∀ v : Int, 0 ≤ v → v < (r.Plan.length : Int) → P v (av out v)
section
variable {r : MendRound} (hR : RoundOk r) {M : Int} (hM : 0 ≤ M ∧ M ≤ 28800) {now : List Int} (hnow : RowOk r.Plan.length M now) {bf : List (List Int)} (hbf : ∀ w ∈ bf, RowOk r.Plan.length M w)
def fP (M : Int) (x : Int) : Nat := (M - x).toNat
/-- What holds of every row that comes up. -/
structure Mid (r : MendRound) (M : Int) (now : List Int) (bf : List (List Int)) (l : List Int) : Prop where
  ok : RowOk r.Plan.length M l
  ge : ∀ v : Int, 0 ≤ v → v < (r.Plan.length : Int) → av now v ≤ av l v
  by_ : ∀ P : Int → Int → Prop, (∀ v : Int, 0 ≤ v → v < (r.Plan.length : Int) → P v (av now v)) → (∀ l ∈ r.Links, ¬ 0 < l.Back → ∀ d, P l.From d → P l.To (d - sg r l)) → (∀ l ∈ r.Links, 0 < l.Back → ∀ w, bf[(l.Back - 1).toNat]? = some w → P l.To (av w l.From - sg r l)) → ∀ v : Int, 0 ≤ v → v < (r.Plan.length : Int) → P v (av l v)
def Clo1 (r : MendRound) (bf : List (List Int)) (l : List Int) (x : MendLink) : Prop := ∀ w, src l bf x = some w → av w x.From - sg r x ≤ av l x.To
structure FRnd (r : MendRound) (M : Int) (now : List Int) (bf : List (List Int)) (l0 : List Int) (i : Nat) (s : Bool × List Int) : Prop where
  mid : Mid r M now bf s.2
  no : s.1 = false → s.2 = l0 ∧ ∀ (j : Nat) x, j < i → r.Links[j]? = some x → Clo1 r bf l0 x
  less : sumN (fP M) s.2 + (if s.1 = true then 1 else 0) ≤ sumN (fP M) l0
include hR hM hbf in
theorem follow_step {l0 : List Int} {i : Nat} (hi : i < r.Links.length) {s : Bool × List Int} (h : FRnd r M now bf l0 i s) : ∃ s', mMendRoundFollow_L5678 r bf i s = some s' ∧ FRnd r M now bf l0 (i + 1) s' := by
  obtain ⟨b, l⟩ := s
  obtain ⟨hmid, hno, hless⟩ := h
  replace hmid : Mid r M now bf l := hmid
  replace hno : b = false → l = l0 ∧ ∀ (j : Nat) x, j < i → r.Links[j]? = some x → Clo1 r bf l0 x := hno
  replace hless : sumN (fP M) l + (if b = true then 1 else 0) ≤ sumN (fP M) l0 := hless
  obtain ⟨x, x1, x2, x3⟩ := link_at hi
  have hx := hR.ok x x3
  have hs := sg_bd hR.toPlanOk hx
  have hs0 := hR.s0 x x3
  have hlen : l.length = r.Plan.length := hmid.ok.1
  have stay : Clo1 r bf l x → FRnd r M now bf l0 (i + 1) (b, l) := fun hc => by
    refine ⟨hmid, fun h => ⟨(hno h).1, fun j y hj hy => ?_⟩, hless⟩
    by_cases e : j = i
    · subst e
      rw [x2] at hy
      injection hy with hy
      subst hy
      rw [← (hno h).1]
      exact hc
    · exact (hno h).2 j y (by omega) hy
  have hto := hmid.ok.2 x.To hx.t0 hx.t1
  have go : ∀ w, src l bf x = some w → RowOk r.Plan.length M w → av l x.To < av w x.From - sg r x → FRnd r M now bf l0 (i + 1) (true, put l x.To (av w x.From - sg r x)) := fun w hw hwok hlt => by
    have hwf := hwok.2 x.From hx.f0 hx.f1
    have hput : ∀ u : Int, 0 ≤ u → av (put l x.To (av w x.From - sg r x)) u = if u = x.To then av w x.From - sg r x else av l u := fun u hu => av_put hx.t0 (by rw [hlen]; exact hx.t1) hu
    refine ⟨⟨⟨by show (put l x.To _).length = _; rw [put_length]; exact hlen, fun v a c => ?_⟩, fun v a c => ?_, fun P p1 p2 p3 v a c => ?_⟩, (fun h => by cases h), ?_⟩
    · show 0 ≤ av (put l x.To (av w x.From - sg r x)) v ∧ av (put l x.To (av w x.From - sg r x)) v ≤ M
      rw [hput v a]
      have := hmid.ok.2 v a c
      split <;> omega
    · show _ ≤ av (put l x.To (av w x.From - sg r x)) v
      rw [hput v a]
      have := hmid.ge v a c
      by_cases e : v = x.To
      · subst e
        rw [if_pos rfl]
        omega
      · rw [if_neg e]
        exact this
    · show P v (av (put l x.To (av w x.From - sg r x)) v)
      rw [hput v a]
      have hp := hmid.by_ P p1 p2 p3
      by_cases e : v = x.To
      · rw [if_pos e, e]
        by_cases hb : 0 < x.Back
        · unfold src at hw
          rw [if_pos hb] at hw
          exact p3 x x3 hb w hw
        · unfold src at hw
          rw [if_neg hb] at hw
          injection hw with hw
          subst hw
          exact p2 x x3 hb _ (hp x.From hx.f0 hx.f1)
      · rw [if_neg e]
        exact hp v a c
    · show sumN (fP M) (put l x.To (av w x.From - sg r x)) + 1 ≤ _
      have h1 := sumN_put (fP M) (l := l) (v := x.To) hx.t0 (by rw [hlen]; exact hx.t1) (av w x.From - sg r x)
      have h2 : fP M (av w x.From - sg r x) < fP M (av l x.To) := by
        unfold fP
        omega
      have h3 : sumN (fP M) l ≤ sumN (fP M) l0 := by
        have : (0 : Nat) ≤ (if b = true then 1 else 0) := Nat.zero_le _
        omega
      omega
  unfold mMendRoundFollow_L5678
  simp only [unc2]
  rw [x1, Option.bind_some]
  by_cases hb : 0 < x.Back
  · rw [if_pos hb]
    have hb0 := hx.b0
    by_cases hl : (bf.length : Int) < x.Back
    · rw [if_pos hl]
      refine ⟨_, rfl, stay (fun w hw => ?_)⟩
      unfold src at hw
      rw [if_pos hb, List.getElem?_eq_none (by omega)] at hw
      cases hw
    · rw [if_neg hl]
      have hlt : (x.Back - 1).toNat < bf.length := by omega
      have hw : bf[(x.Back - 1).toNat]? = some bf[(x.Back - 1).toNat] := List.getElem?_eq_getElem hlt
      generalize bf[(x.Back - 1).toNat] = w at hw
      have hwok := hbf w (List.mem_of_getElem? hw)
      have hwf := hwok.2 x.From hx.f0 hx.f1
      have hidx : idx bf (x.Back - 1) = some w := by
        unfold idx
        rw [if_pos (by omega)]
        exact hw
      have hsrc : src l bf x = some w := by
        unfold src
        rw [if_pos hb]
        exact hw
      have hb1 := hx.b1
      rw [chk_ok (by omega) (by omega), Option.bind_some, hidx, Option.bind_some, idx_av hx.f0 (by rw [hwok.1]; exact hx.f1), Option.bind_some, slack_ok hR.toPlanOk hx, Option.bind_some, chk_ok (by omega) (by omega), Option.bind_some, idx_av hx.t0 (by rw [hlen]; exact hx.t1), Option.bind_some]
      by_cases hlt2 : av l x.To < av w x.From - sg r x
      · rw [if_pos hlt2, Option.bind_some]
        exact ⟨_, rfl, go w hsrc hwok hlt2⟩
      · rw [if_neg hlt2]
        refine ⟨_, rfl, stay (fun w' hw' => ?_)⟩
        rw [hsrc] at hw'
        injection hw' with hw'
        subst hw'
        omega
  · rw [if_neg hb]
    have hsrc : src l bf x = some l := by
      unfold src
      rw [if_neg hb]
    have hwf := hmid.ok.2 x.From hx.f0 hx.f1
    rw [idx_av hx.f0 (by rw [hlen]; exact hx.f1), Option.bind_some, slack_ok hR.toPlanOk hx, Option.bind_some, chk_ok (by omega) (by omega), Option.bind_some, idx_av hx.t0 (by rw [hlen]; exact hx.t1), Option.bind_some]
    by_cases hlt2 : av l x.To < av l x.From - sg r x
    · rw [if_pos hlt2, Option.bind_some]
      exact ⟨_, rfl, go l hsrc hmid.ok hlt2⟩
    · rw [if_neg hlt2]
      refine ⟨_, rfl, stay (fun w' hw' => ?_)⟩
      rw [hsrc] at hw'
      injection hw' with hw'
      subst hw'
      omega
include hR hM hnow hbf in
theorem follow_spec : ∃ out, mMendRoundFollow r now bf = some out ∧ Follows r M now bf out := by
  have hn8 := hR.n8
  have hmid0 : Mid r M now bf now := ⟨hnow, fun _ _ _ => Int.le_refl _, fun P p1 _ _ => p1⟩
  unfold mMendRoundFollow mSlicesClone
  have hl := hnow.1
  rw [room_ok (by omega) (by omega), Option.bind_some, Option.bind_some]
  obtain ⟨out, h1, h2⟩ := loopM_inv (step := mMendRoundFollow_L4651 r bf) (fun s => Mid r M now bf s.2 ∧ (s.1 = false → ∀ x ∈ r.Links, Clo1 r bf s.2 x)) (fun out => Follows r M now bf out) (fun s => 2 * sumN (fP M) s.2 + (if s.1 = true then 1 else 0)) (fun s hs => by
    obtain ⟨b, l⟩ := s
    obtain ⟨s1, s2⟩ := hs
    replace s1 : Mid r M now bf l := s1
    replace s2 : b = false → ∀ x ∈ r.Links, Clo1 r bf l x := s2
    unfold mMendRoundFollow_L4651
    simp only [unc2]
    cases b with
    | false =>
      rw [if_neg (by decide)]
      exact .inr ⟨l, rfl, s1.ok, s1.ge, s2 rfl, s1.by_⟩
    | true =>
      rw [if_pos rfl]
      obtain ⟨⟨b', l'⟩, e1, e2⟩ := forS_inv (body := mMendRoundFollow_L5678 r bf) (fun i s => FRnd r M now bf l i s) r.Links.length 0 (false, l) ⟨s1, fun _ => ⟨rfl, fun j x hj => absurd hj (by omega)⟩, Nat.le_refl _⟩ (fun i s _ hi h => follow_step hR hM hbf (by omega) h)
      rw [Nat.zero_add] at e2
      rw [e1, Option.bind_some]
      simp only [unc2]
      refine .inl ⟨_, rfl, ⟨e2.mid, fun h x hx => ?_⟩, ?_⟩
      · have h3 := e2.no h
        replace h3 : l' = l ∧ _ := h3
        obtain ⟨j, hj, rfl⟩ := List.getElem_of_mem hx
        show Clo1 r bf l' _
        rw [h3.1]
        exact h3.2 j _ hj (List.getElem?_eq_getElem hj)
      · have h3 := e2.less
        replace h3 : sumN (fP M) l' + (if b' = true then 1 else 0) ≤ sumN (fP M) l := h3
        show 2 * sumN (fP M) l' + (if b' = true then 1 else 0) < 2 * sumN (fP M) l + 1
        cases b' with
        | true =>
          rw [if_pos rfl] at h3 ⊢
          omega
        | false =>
          rw [if_neg (by decide)] at h3 ⊢
          omega) (true, now) ⟨hmid0, fun h => by cases h⟩
  rw [h1, Option.bind_some]
  exact ⟨out, rfl, h2⟩
end
end Go.Proofs.Ytakehdnblmonlaa
