/- Plain: supervised seconds, and GuardSeconds. -/
import Derived.Test.YtljcafilceachaaDoorHA
set_option linter.unusedVariables false
set_option linter.unusedSimpArgs false
namespace Go.Proofs.YtljcafilceachaaDoor
open Go.RowKit Go.Fp

/- ---- package guard is there ---- -/
theorem split_none : mStringsSplit (ByteArray.mk #[]) (ByteArray.mk #[32]) = some [ByteArray.mk #[]] := by
  have hcount : mStringsCount (ByteArray.mk #[]) (ByteArray.mk #[32]) = some 0 := by
    have h1 : (ByteArray.mk #[32]).size = 1 := rfl
    have h2 : sIdx (ByteArray.mk #[32]) 0 = some 32 := rfl
    have h3 : sCount (ByteArray.mk #[]) 32 = 0 := by simp [sCount, Lib.countByte]
    simp [mStringsCount, h1, h2, h3]
  have he : sEq (ByteArray.mk #[32]) (ByteArray.mk #[]) = false := by simp [sEq, ByteArray.toList_eq]
  have hsz : (ByteArray.mk #[]).size = 0 := rfl
  simp only [mStringsSplit, mStringsGenSplit, hcount, he]
  rw [if_neg (by decide), if_neg (by decide), if_pos (by decide)]
  simp only [Option.bind_some, Int.zero_add]
  rw [chk_ok (by decide) (by decide)]
  simp only [Option.bind_some, hsz]
  rw [chk_ok (by decide) (by decide)]
  simp only [Option.bind_some]
  rw [show mkLen 16 (min 1 (((0 : Nat) : Int) + 1)) = some 1 from by decide, Option.bind_some]
  rw [chk_ok (by decide) (by decide), Option.bind_some]
  rw [loopM_last (t := (ByteArray.mk #[], 0, List.replicate 1 ByteArray.empty)) (by
    simp only [mStringsGenSplit_L419, unc3, hsz]
    rw [if_neg (by decide)]), Option.bind_some]
  simp only [unc3]
  rw [show idx (List.replicate 1 ByteArray.empty) 0 = some ByteArray.empty from rfl, Option.bind_some, chk_ok (by decide) (by decide), Option.bind_some]
  rfl
theorem awakeG : mFishkeep1AwakeGuard = some true := by
  have hat : mStrconvAtoi (ByteArray.mk #[]) = some (0, false) := by
    unfold mStrconvAtoi atoiM
    rw [if_pos (by decide)]
    rfl
  have hn : mLineNumber (ByteArray.mk #[]) = some 0 := by simp [mLineNumber, hat, unc2]
  have hx : idx [ByteArray.mk #[]] 0 = some (ByteArray.mk #[]) := rfl
  have hl : mLineNumbers [ByteArray.mk #[]] = some ([], false) := by
    unfold mLineNumbers
    rw [show [ByteArray.mk #[]].length = 1 from rfl, forM_succ_inr (m := 0) (t := ([], false)) (by simp [mLineNumbers_L45, hx, hn])]
    rfl
  simp [mFishkeep1AwakeGuard, mGuardUnpack, split_none, hl, unc2, unc9]

/- ---- checks ---- -/
theorem gwithin_eq (x a c : Int) : mGuardWithin x a c = some (decide (a ≤ x ∧ x ≤ c)) := by
  unfold mGuardWithin
  by_cases h : a ≤ x <;> simp [h]
theorem check2_zero {s : ApiStock} (hc : mRunCheck s = some 0) {L : List ApiPiece} (hL : WayOk L) (a : ApiState) (E : Int) (hE : 0 ≤ E ∧ E ≤ beg L L.length) (hp : 0 ≤ a.At ∧ a.At ≤ E) (hv : 0 ≤ a.Speed ∧ a.Speed ≤ s.Top) (hw : 0 ≤ a.Work ∧ a.Work ≤ 1152921504606846976) : mRunCheck_2 s L a E = some 0 := by
  have hs := hL.some_
  have hf := hL.few
  unfold mRunCheck_2
  rw [hc, Option.bind_some, if_neg (by simp), if_neg (by omega), if_neg (by omega)]
  rcases forM_inv (body := mRunCheck_2_L161 L) (fun k x => x = beg L k) (fun t => False) L.length 0 0 rfl (fun k x _ hk hi => by
    have hk' : k < L.length := by omega
    have hb := beg_bd hL k (by omega)
    have hp := hL.at hk'
    have g1 := hp.length
    have g2 := hp.grade
    have g3 := hp.speed
    unfold mRunCheck_2_L161
    rw [idx_lt hk', Option.bind_some]
    simp only [within_eq, Option.bind_some, g1, g2, g3, and_self, decide_true, if_true, Bool.not_true]
    rw [if_neg (by decide), chk_ok (by omega) (by omega), Option.bind_some]
    exact .inl ⟨_, rfl, by rw [beg_succ hk', hi]⟩) with ⟨x, e1, i1⟩ | ⟨t, _, e2⟩
  case inr => exact e2.elim
  rw [e1]
  have hx : x = beg L L.length := by simpa using i1
  subst hx
  simp [within_eq, hE, hp, hv, hw]

/- ---- a second of a run, from any state ---- -/
def workF (s : ApiStock) (a : ApiState) (g w : Int) : Int := if 0 < w - a.Speed + s.Roll + dragF s a.Speed + g then a.Work + s.Mass * (w - a.Speed + s.Roll + dragF s a.Speed + g) * gone a.Speed w else a.Work
theorem work_bd {s : ApiStock} (hs : Good s) {a : ApiState} {g w : Int} (hv : 0 ≤ a.Speed ∧ a.Speed ≤ 6000) (hg : -40 ≤ g ∧ g ≤ 40) (hw : 0 ≤ w ∧ w ≤ 6000) : a.Work ≤ workF s a g w ∧ workF s a g w ≤ a.Work + 100000000000 := by
  have hmass := hs.mass
  have hroll := hs.roll
  have hdb := drag_bd hs (v := a.Speed) hv.1 hv.2
  have hgw := gone_bd (v := a.Speed) (w := w) hv.1 hw.1
  unfold workF
  by_cases hu : 0 < w - a.Speed + s.Roll + dragF s a.Speed + g
  · rw [if_pos hu]
    have hub : w - a.Speed + s.Roll + dragF s a.Speed + g ≤ 6086 := by omega
    generalize w - a.Speed + s.Roll + dragF s a.Speed + g = u at hu hub
    have e1 : 0 ≤ s.Mass * u := Int.mul_nonneg (by omega) (by omega)
    have e2 : s.Mass * u ≤ 2000 * 6086 := Int.mul_le_mul (by omega) hub (by omega) (by decide)
    generalize s.Mass * u = mu at e1 e2
    have e3 : 0 ≤ mu * gone a.Speed w := Int.mul_nonneg e1 hgw.2.2
    have e4 : mu * gone a.Speed w ≤ (2000 * 6086) * 6001 := Int.mul_le_mul e2 (by omega) hgw.2.2 (by decide)
    omega
  · rw [if_neg hu]; omega
/-- The end of a second: what is gone, and the work. -/
theorem work_model {s : ApiStock} (hs : Good s) {a : ApiState} {g w : Int} (hv : 0 ≤ a.Speed ∧ a.Speed ≤ 6000) (hg : -40 ≤ g ∧ g ≤ 40) (hw : 0 ≤ w ∧ w ≤ 6000) (hk : 0 ≤ a.Work ∧ a.Work ≤ 1152921504606846976) {x : Int} (hx : x - a.At = gone a.Speed w) :
    ((chk (w - a.Speed)).bind fun _ => (chk (w - a.Speed + s.Roll)).bind fun _ => (chk (a.Speed * a.Speed)).bind fun _ => (ne0 s.Drag).bind fun _ => (chk (Int.tdiv (a.Speed * a.Speed) s.Drag)).bind fun _ => (chk (w - a.Speed + s.Roll + Int.tdiv (a.Speed * a.Speed) s.Drag)).bind fun _ => (chk (w - a.Speed + s.Roll + Int.tdiv (a.Speed * a.Speed) s.Drag + g)).bind fun _ =>
      if 0 < w - a.Speed + s.Roll + Int.tdiv (a.Speed * a.Speed) s.Drag + g then ((chk (s.Mass * (w - a.Speed + s.Roll + Int.tdiv (a.Speed * a.Speed) s.Drag + g))).bind fun _ => (chk (x - a.At)).bind fun _ => (chk (s.Mass * (w - a.Speed + s.Roll + Int.tdiv (a.Speed * a.Speed) s.Drag + g) * (x - a.At))).bind fun _ => (chk (a.Work + s.Mass * (w - a.Speed + s.Roll + Int.tdiv (a.Speed * a.Speed) s.Drag + g) * (x - a.At))).bind fun _ => some (a.Work + s.Mass * (w - a.Speed + s.Roll + Int.tdiv (a.Speed * a.Speed) s.Drag + g) * (x - a.At)))
      else some a.Work) = some (workF s a g w) := by
  have hmass := hs.mass
  have hroll := hs.roll
  have hdb := drag_bd hs (v := a.Speed) hv.1 hv.2
  have hsq := sq_bd (v := a.Speed) hv.1 hv.2
  have hdr := hs.drag
  have hgw := gone_bd (v := a.Speed) (w := w) hv.1 hw.1
  have hd0 : ¬ s.Drag = 0 := by omega
  simp only [ne0, if_neg hd0, Option.bind_some]
  rw [show Int.tdiv (a.Speed * a.Speed) s.Drag = dragF s a.Speed from rfl]
  rw [chk_ok (x := w - a.Speed) (by omega) (by omega), Option.bind_some, chk_ok (x := w - a.Speed + s.Roll) (by omega) (by omega), Option.bind_some, chk_ok (x := a.Speed * a.Speed) (by omega) (by omega), Option.bind_some, chk_ok (x := dragF s a.Speed) (by omega) (by omega), Option.bind_some, chk_ok (x := w - a.Speed + s.Roll + dragF s a.Speed) (by omega) (by omega), Option.bind_some, chk_ok (x := w - a.Speed + s.Roll + dragF s a.Speed + g) (by omega) (by omega), Option.bind_some]
  unfold workF
  by_cases hu : 0 < w - a.Speed + s.Roll + dragF s a.Speed + g
  · rw [if_pos hu, if_pos hu, hx]
    have hub : w - a.Speed + s.Roll + dragF s a.Speed + g ≤ 6086 := by omega
    generalize w - a.Speed + s.Roll + dragF s a.Speed + g = u at hu hub
    have e1 : 0 ≤ s.Mass * u := Int.mul_nonneg (by omega) (by omega)
    have e2 : s.Mass * u ≤ 2000 * 6086 := Int.mul_le_mul (by omega) hub (by omega) (by decide)
    rw [chk_ok (x := s.Mass * u) (by omega) (by omega), Option.bind_some, chk_ok (x := gone a.Speed w) (by omega) (by omega), Option.bind_some]
    generalize s.Mass * u = mu at e1 e2
    have e3 : 0 ≤ mu * gone a.Speed w := Int.mul_nonneg e1 hgw.2.2
    have e4 : mu * gone a.Speed w ≤ (2000 * 6086) * 6001 := Int.mul_le_mul e2 (by omega) hgw.2.2 (by decide)
    generalize mu * gone a.Speed w = wk at e3 e4
    rw [chk_ok (x := wk) (by omega) (by omega), Option.bind_some, chk_ok (x := a.Work + wk) (by omega) (by omega), Option.bind_some]
  · rw [if_neg hu, if_neg hu]
theorem second_val {s : ApiStock} (hs : Good s) {L : List ApiPiece} (hL : WayOk L) {E top : Int} (hE : 0 ≤ E ∧ E ≤ 18000000) (ht : 0 ≤ top ∧ top ≤ 6000) {B : List Int} (hB : BegOk L B) {a : ApiState} (hp : 0 ≤ a.At ∧ a.At ≤ 18000000) (hv : 0 ≤ a.Speed ∧ a.Speed ≤ top) (hk : 0 ≤ a.Work ∧ a.Work ≤ 1152921504606846976)
    {m : List (Int × List Int)} (hm : MemoOk (s.Brake - 40) m) :
    ∃ i, ∃ h : Here L a.At i, ∃ r w m', secondM s L E top B a m = some (a.At + gone a.Speed w, w, workF s a (L[i]'h.lt).Grade w, m') ∧ w = max r (max 0 (a.Speed - (s.Brake + (L[i]'h.lt).Grade))) ∧ r ≤ min (a.Speed + gainF s a.Speed (L[i]'h.lt).Grade) top ∧
      (max 0 (a.Speed - (s.Brake + (L[i]'h.lt).Grade)) ≤ r → May (s.Brake - 40) L E (a.At - 100 * s.Length) (a.At + gone a.Speed r) r) ∧
      ∀ u, r < u → u ≤ min (a.Speed + gainF s a.Speed (L[i]'h.lt).Grade) top → max 0 (a.Speed - (s.Brake + (L[i]'h.lt).Grade)) ≤ u → ¬ May (s.Brake - 40) L E (a.At - 100 * s.Length) (a.At + gone a.Speed u) u := by
  have hb := hs.brake
  have hlen := hs.length
  obtain ⟨i, hi, hgr⟩ := grade_ok hL hB hp.1 s E top m
  refine ⟨i, hi, ?_⟩
  have hgd := (hL.at hi.lt).grade
  generalize (L[i]'hi.lt).Grade = g at hgr hgd
  obtain ⟨g1, g2, g3, g4, g5⟩ := gain_ok hs (v := a.Speed) (g := g) hv.1 (by omega) hgd
  unfold secondM mRunRunnerSecond
  unfold gradeM at hgr
  rw [hgr, Option.bind_some, Option.bind_some, chk_ok (by omega) (by omega), Option.bind_some, chk_ok (by omega) (by omega), Option.bind_some]
  rw [show (⟨s.Name, s.Length, s.Mass, s.Start, s.Power, s.Roll, s.Drag, s.Brake, s.Top, s.Seats⟩ : ApiStock) = s from rfl, g1, Option.bind_some, chk_ok (by omega) (by omega), Option.bind_some]
  obtain ⟨r, hr, q1, q2, q3, q4⟩ := loopM_inv (step := mRunRunnerSecond_L835 L B a s.Name s.Length s.Mass s.Start s.Power s.Roll s.Drag s.Brake s.Top s.Seats E top g)
    (fun p => MemoOk (s.Brake - 40) p.2 ∧ p.1 ≤ min (a.Speed + gainF s a.Speed g) top ∧ ∀ u, p.1 < u → u ≤ min (a.Speed + gainF s a.Speed g) top → max 0 (a.Speed - (s.Brake + g)) ≤ u → ¬ May (s.Brake - 40) L E (a.At - 100 * s.Length) (a.At + gone a.Speed u) u)
    (fun p => MemoOk (s.Brake - 40) p.2 ∧ p.1 ≤ min (a.Speed + gainF s a.Speed g) top ∧ (max 0 (a.Speed - (s.Brake + g)) ≤ p.1 → May (s.Brake - 40) L E (a.At - 100 * s.Length) (a.At + gone a.Speed p.1) p.1) ∧ ∀ u, p.1 < u → u ≤ min (a.Speed + gainF s a.Speed g) top → max 0 (a.Speed - (s.Brake + g)) ≤ u → ¬ May (s.Brake - 40) L E (a.At - 100 * s.Length) (a.At + gone a.Speed u) u)
    (fun p => (p.1 + 1).toNat) (fun p hpi => by
    obtain ⟨w, m1⟩ := p
    obtain ⟨i1, i2, i3⟩ := hpi
    simp only at i1 i2 i3
    simp only [mRunRunnerSecond_L835, unc2]
    by_cases hlo : max 0 (a.Speed - (s.Brake + g)) ≤ w
    · have hgw := gone_bd (v := a.Speed) (w := w) hv.1 (by omega)
      rw [if_pos hlo, chk_ok (by omega) (by omega), Option.bind_some, chk_ok (by omega) (by omega), Option.bind_some, gone_model hv.1 (by omega) (by omega) (by omega), Option.bind_some, chk_ok (by omega) (by omega), Option.bind_some]
      obtain ⟨q, m2, e2, hm2, hiff⟩ := may_ok hs hL hE top hB (tail := a.At - 100 * s.Length) (at_ := a.At + gone a.Speed w) (w := w) (by omega) (by omega) (by omega) i1
      unfold mayM at e2
      rw [e2, Option.bind_some]
      simp only [unc2, Option.bind_some]
      cases q with
      | true => exact .inr ⟨(w, m2), by simp, hm2, i2, fun _ => hiff.1 rfl, i3⟩
      | false =>
        refine .inl ⟨(w - 1, m2), ?_, ⟨hm2, by simp only; omega, fun u h1 h2 h3 => ?_⟩, by simp only; omega⟩
        · simp only [Bool.not_false, if_true]
          rw [chk_ok (by omega) (by omega)]
          rfl
        · simp only at h1
          by_cases he : u = w
          · subst he
            exact fun hmay => absurd (hiff.2 hmay) (by decide)
          · exact i3 u (by omega) h2 h3
    · rw [if_neg hlo]
      exact .inr ⟨(w, m1), by simp [unc2], i1, i2, fun h => absurd h hlo, i3⟩) (min (a.Speed + gainF s a.Speed g) top, m) ⟨hm, Int.le_refl _, fun u h1 h2 => by simp only at h1; omega⟩
  obtain ⟨r, m1⟩ := r
  simp only at q1 q2 q3 q4
  rw [hr, Option.bind_some]
  simp only [unc2]
  generalize hw : max r (max 0 (a.Speed - (s.Brake + g))) = w
  have hw0 : 0 ≤ w ∧ w ≤ 6000 := by omega
  have hgw := gone_bd (v := a.Speed) (w := w) hv.1 hw0.1
  rw [gone_model hv.1 (by omega) (by omega) (by omega), Option.bind_some, chk_ok (by omega) (by omega), Option.bind_some, Option.bind_some]
  rw [work_model hs (g := g) ⟨hv.1, by omega⟩ hgd hw0 hk (x := a.At + gone a.Speed w) (by omega), Option.bind_some]
  exact ⟨r, w, m1, rfl, hw.symm, q2, q3, q4⟩
theorem Second_val {s : ApiStock} (hc : mRunCheck s = some 0) (hs : Good s) {L : List ApiPiece} (hL : WayOk L) (a : ApiState) (E : Int) (hE : 0 ≤ E ∧ E ≤ beg L L.length) (hp : 0 ≤ a.At ∧ a.At ≤ E) (hv : 0 ≤ a.Speed ∧ a.Speed ≤ s.Top) (hk : 0 ≤ a.Work ∧ a.Work ≤ 1152921504606846976) :
    ∃ i, ∃ h : Here L a.At i, ∃ r w, mRunSecond s L a E = some (a.At + gone a.Speed w, w, workF s a (L[i]'h.lt).Grade w, 0) ∧ w = max r (max 0 (a.Speed - (s.Brake + (L[i]'h.lt).Grade))) ∧ r ≤ min (a.Speed + gainF s a.Speed (L[i]'h.lt).Grade) s.Top ∧
      (max 0 (a.Speed - (s.Brake + (L[i]'h.lt).Grade)) ≤ r → May (s.Brake - 40) L E (a.At - 100 * s.Length) (a.At + gone a.Speed r) r) ∧
      ∀ u, r < u → u ≤ min (a.Speed + gainF s a.Speed (L[i]'h.lt).Grade) s.Top → max 0 (a.Speed - (s.Brake + (L[i]'h.lt).Grade)) ≤ u → ¬ May (s.Brake - 40) L E (a.At - 100 * s.Length) (a.At + gone a.Speed u) u := by
  have htot := total_bd hL
  have htop := hs.top
  obtain ⟨B, hB1, hB⟩ := begins_model hL
  obtain ⟨i, h, r, w, m', e1, h1, h2, h3, h4⟩ := second_val hs hL (E := E) (top := s.Top) (by omega) (by omega) hB (a := a) (by omega) hv hk (memo_nil _)
  refine ⟨i, h, r, w, ?_, h1, h2, h3, h4⟩
  unfold mRunSecond mRunNewRunner
  rw [check2_zero hc hL a E hE hp hv hk, Option.bind_some, if_neg (by simp), hB1, Option.bind_some, Option.bind_some]
  simp only [unc15]
  unfold secondM at e1
  rw [e1]
  rfl
end Go.Proofs.YtljcafilceachaaDoor
