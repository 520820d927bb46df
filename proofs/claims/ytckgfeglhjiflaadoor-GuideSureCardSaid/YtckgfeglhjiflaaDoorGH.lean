/- Plain: on a day of one train the earliest journey is its one ride. -/
import Derived.Test.YtckgfeglhjiflaaDoorGC
set_option linter.unusedVariables false
set_option linter.unusedSimpArgs false
namespace Go.Proofs.YtckgfeglhjiflaaDoor
open Go.RowKit Go.Fp
set_option maxRecDepth 4000

theorem ordM_one {α τ : Type} {f : List α → Option τ} {x : α} {t : τ} (h : f [x] = some t) : ordM f [x] = some t := ordM_of fun p hp => by rw [List.perm_singleton.1 hp]; exact h
theorem ordM_nil {α τ : Type} {f : List α → Option τ} {t : τ} (h : f [] = some t) : ordM f [] = some t := ordM_of fun p hp => by rw [List.perm_nil.1 hp]; exact h
def D1 : ApiDay := ⟨[(⟨1, 0, [(⟨0, 0, 5, 5⟩ : ApiStop), (⟨1, 0, 9, 9⟩ : ApiStop)], [[0]]⟩ : ApiTrain)], []⟩
def r1 : GuideRide := ⟨0, 0, 1⟩
def p1 : GuidePoint := ⟨5, 9, 1⟩
theorem d1_w : WDay D1 := by simp [D1, WDay, Lst, WTrain, WStop, I64]
theorem d1_f : FDay D1 := by simp [D1, FDay, FTrain]
theorem d1_n : NDay D1 := by simp [D1, NDay]
theorem d1_check : mGuideCheck D1 = some 0 := by
  obtain ⟨⟨b, c⟩, e1, _, e2⟩ := text_tot d1_w
  have e2 : c = 0 := e2 d1_f d1_n
  subst e2
  unfold mGuideCheck
  rw [e1]
  rfl
theorem d1_check2 : mGuideCheck_2 D1 0 0 1 [0] = some 0 := by
  unfold mGuideCheck_2 mGuideCheckLeast
  rw [d1_check]
  rfl
theorem ends1 : mGuideNetEnds (⟨D1, 0⟩ : GuideNet) [r1] = some ([(⟨0, 1⟩, true)], [], [], []) := rfl
def s1 : List (GuidePoint × Bool) × List GuidePoint := ([(p1, true)], [p1])
theorem points_step {n : GuideNet} {d : Int} {c : Int × List GuideRide} {s0 s1 s2 s3 s4 : List (GuidePoint × Bool) × List GuidePoint} {g h i j : List (GuidePlace × Bool)} (he : mGuideNetEnds n c.2 = some (g, h, i, j))
    (h1 : ordM (fun p => forL (mGuideNetPoints_L48340 n d c) p s0) g = some (.inl s1)) (h2 : ordM (fun p => forL (mGuideNetPoints_L49402 n d c) p s1) h = some (.inl s2))
    (h3 : ordM (fun p => forL (mGuideNetPoints_L50464 n d c) p s2) i = some (.inl s3)) (h4 : ordM (fun p => forL (mGuideNetPoints_L51526 n d c) p s3) j = some (.inl s4)) : mGuideNetPoints_L39155 n d c s0 = some (.inl s4) := by
  unfold mGuideNetPoints_L39155
  show (mGuideNetEnds n c.2).bind _ = _
  rw [he, Option.bind_some]
  show Option.bind (Option.bind (ordM (fun p => forL (mGuideNetPoints_L48340 n d c) p s0) g) _) _ = _
  rw [h1, Option.bind_some]
  show Option.bind (Option.bind (ordM (fun p => forL (mGuideNetPoints_L49402 n d c) p s1) h) _) _ = _
  rw [h2, Option.bind_some]
  show Option.bind (Option.bind (ordM (fun p => forL (mGuideNetPoints_L50464 n d c) p s2) i) _) _ = _
  rw [h3, Option.bind_some]
  show Option.bind (Option.bind (ordM (fun p => forL (mGuideNetPoints_L51526 n d c) p s3) j) _) _ = _
  rw [h4, Option.bind_some]
  rfl
theorem points_in : mGuideNetPoints_L39155 (⟨D1, 0⟩ : GuideNet) 1 (5, [r1]) ([], []) = some (.inl s1) :=
  points_step (c := (5, [r1])) (s0 := ([], [])) (s1 := s1) (s2 := s1) (s3 := s1) ends1 (ordM_one rfl) (ordM_nil rfl) (ordM_nil rfl) (ordM_nil rfl)
set_option maxRecDepth 100000 in
theorem bits1 : ∃ c, mBitsLen (IntKind.wrap .u64 (([p1] : List GuidePoint).length : Int)) = some c := ⟨1, by kernel_rfl⟩
theorem sort1 : mSlicesSortFunc [p1] = some [p1] := by
  obtain ⟨c, h1⟩ := bits1
  have h2 : mSlicesInsertionSortCmpFunc 0 1 [p1] = some [p1] := by
    unfold mSlicesInsertionSortCmpFunc
    show loopM _ _ = _
    exact loopM_last rfl
  have h3 : mSlicesPdqsortCmpFunc 0 1 c [p1] = some [p1] := by
    unfold mSlicesPdqsortCmpFunc
    refine loopM_last ?_
    unfold mSlicesPdqsortCmpFunc_L36
    show (mSlicesInsertionSortCmpFunc 0 1 [p1]).bind _ = _
    rw [h2]
    rfl
  unfold mSlicesSortFunc
  rw [h1, Option.bind_some]
  show (mSlicesPdqsortCmpFunc 0 1 c [p1]).bind _ = _
  rw [h3]
  rfl
theorem points1 : mGuideNetPoints (⟨D1, 0⟩ : GuideNet) 0 1 = some [p1] := by
  have key : Tot (mGuideNetPoints (⟨D1, 0⟩ : GuideNet) 0 1) (fun l => l = [p1]) := by
    have h : forL (mGuideNetPoints_L39155 (⟨D1, 0⟩ : GuideNet) 1) [((5 : Int), [r1])] ([], []) = some (.inl s1) := by
      unfold forL
      rw [points_in]
      rfl
    unfold mGuideNetPoints
    refine tot_eq (x := [r1]) rfl (tot_eq (x := .inl [((5 : Int), [r1])]) rfl ?_)
    refine tot_bind (R := fun l => l = [p1]) (tot_eq (ordM_one h) (tot_some rfl)) fun l hl => ?_
    subst hl
    exact tot_eq sort1 (tot_some rfl)
  obtain ⟨o, h, rfl⟩ := key
  exact h
theorem least1 : mGuideNetLeastOf (⟨D1, 0⟩ : GuideNet) 0 1 p1 = some [r1] := by
  have h : lim (fun N => mGuideNetLeastOf_1 N D1.Trains D1.Turns 0 5 9 1 1 [r1] []) = some ([r1], []) := by
    obtain ⟨t, h1, h2⟩ := lim_tot (f := fun N => mGuideNetLeastOf_1 N D1.Trains D1.Turns 0 5 9 1 1 [r1] []) (P := fun t => t = ([r1], [])) 1 fun N => by
      cases N with
      | zero => exact .inr ⟨by omega, rfl⟩
      | succ N => exact .inl ⟨_, rfl, rfl⟩
    rw [h1, h2]
  have key : Tot (mGuideNetLeastOf (⟨D1, 0⟩ : GuideNet) 0 1 p1) (fun l => l = [r1]) := by
    have h3 : Tot (mGuideNetLeastOf_L166 (⟨D1, 0⟩ : GuideNet) 1 p1 r1 []) (fun o => o = .inr [r1]) := by
      unfold mGuideNetLeastOf_L166
      refine tot_eq (x := (0, 0, 5, 5)) rfl ?_
      show Tot (if (5 : Int) ≠ 5 then (some (.inl []) : Option (List (List Int × Bool) ⊕ List GuideRide)) else (lim (fun N => mGuideNetLeastOf_1 N D1.Trains D1.Turns 0 5 9 1 1 [r1] [])).bind (unc2 fun (f : List GuideRide) i => if f.isEmpty = true then (some (.inl i) : Option (List (List Int × Bool) ⊕ List GuideRide)) else some (.inr f))) _
      rw [if_neg (by decide)]
      refine tot_eq h ?_
      show Tot (if ([r1] : List GuideRide).isEmpty = true then (some (.inl []) : Option (List (List Int × Bool) ⊕ List GuideRide)) else some (.inr [r1])) _
      rw [if_neg (by decide)]
      exact tot_some rfl
    obtain ⟨o, h3, rfl⟩ := h3
    have h4 : forL (mGuideNetLeastOf_L166 (⟨D1, 0⟩ : GuideNet) 1 p1) [r1] [] = some (.inr [r1]) := by
      unfold forL
      rw [h3]
    unfold mGuideNetLeastOf
    exact tot_eq (x := [r1]) rfl (tot_eq h4 (tot_some rfl))
  obtain ⟨o, h, rfl⟩ := key
  exact h
theorem earliest1 : mGuideEarliest D1 0 0 1 0 = some (0, [r1]) := by
  have hm : mSlicesMinFunc [p1] = some (5, 9, 1) := by
    unfold mSlicesMinFunc
    show (loopM (mSlicesMinFunc_L781 [p1]) (1, 5, 9, 1)).bind _ = _
    rw [loopM_last (t := (5, 9, 1)) rfl]
    rfl
  have he : mGuideNetEarliest (⟨D1, 0⟩ : GuideNet) 0 0 1 = some (true, [r1]) := by
    unfold mGuideNetEarliest
    rw [points1, Option.bind_some, show mSlicesDeleteFunc 0 [p1] = some [p1] from rfl, Option.bind_some, if_neg (by decide), hm, Option.bind_some]
    show (mGuideNetLeastOf (⟨D1, 0⟩ : GuideNet) 0 1 p1).bind _ = _
    rw [least1]
    rfl
  unfold mGuideEarliest
  rw [d1_check2, Option.bind_some, if_neg (by decide), he]
  rfl
theorem guides_yes : mFishkeep2Guides = some true := by
  unfold mFishkeep2Guides
  show (mGuideEarliest D1 0 0 1 0).bind _ = _
  rw [earliest1]
  rfl
theorem awake_yes : mFishkeep2AwakeGuide = some true := by
  unfold mFishkeep2AwakeGuide mGuideCheckJourney
  obtain ⟨c, h1, h2⟩ := least_tot (d := ⟨[], []⟩) (by simp [WDay, Lst]) (-1)
  have hc : c ≠ 0 := fun h => by have := (h2 h).2.1; omega
  rw [h1, Option.bind_some, if_pos hc, Option.bind_some, decide_eq_true hc]
end Go.Proofs.YtckgfeglhjiflaaDoor
