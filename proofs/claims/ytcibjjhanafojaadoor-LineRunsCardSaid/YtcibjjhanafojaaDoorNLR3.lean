/- Plain: the law of routes. -/
import Derived.Test.YtcibjjhanafojaaDoorNLR2
import Derived.Test.YtcibjjhanafojaaDoorNLL7
set_option linter.unusedVariables false
set_option linter.unusedSimpArgs false
namespace Go.Proofs.YtcibjjhanafojaaDoor
open Go.RowKit Go.Fp

theorem checkEnd_eq {n : ApiNet} (hN : NetOk n) (hc : mLineCheck n = some 0) {e : LineEnd} (h : Has n e) : mLineCheckEnd n e = some 0 := by
  unfold mLineCheckEnd
  rw [hc, Option.bind_some, if_neg (by decide), has_eq hN.n60, Option.bind_some, decide_eq_true h, if_pos rfl]
theorem next_eq {n : ApiNet} (hN : NetOk n) (hc : mLineCheck n = some 0) {x y : Int} (h : Has n ⟨x, y⟩) : mLineNext n x y = some ((joinL n.Links ⟨x, y⟩).elim (0, 0, 9) fun f => (f.section_, f.end_, 0)) := by
  unfold mLineNext
  rw [checkEnd_eq hN hc h, Option.bind_some, if_neg (by decide), joined_eq, Option.bind_some]
  cases joinL n.Links ⟨x, y⟩ <;> rfl
theorem signalAt_eq {n : ApiNet} (hN : NetOk n) (hc : mLineCheck n = some 0) {x y : Int} (h : Has n ⟨x, y⟩) : mLineSignalAt n x y = some (if sg n ⟨x, y⟩ < 0 then (0, 9) else (sg n ⟨x, y⟩, 0)) := by
  unfold mLineSignalAt
  rw [checkEnd_eq hN hc h, Option.bind_some, if_neg (by decide), (signal_spec n _).1, Option.bind_some]
  split <;> rfl
theorem route_runs {n : ApiNet} (hN : NetOk n) (hS : Small n) (hc : mLineCheck n = some 0) {r : ApiRoute} (h : RouteOk n r) : mFishkeep1RouteRuns n r = some true := by
  have hm := h.way.many
  obtain ⟨w, s, hw, hmid, hto, hend⟩ := h.last
  have hl : r.Steps.length = w.length + 1 := by rw [hw]; simp
  have hp : mLineCheckPath n r.Steps = some 0 := by
    obtain ⟨c, h1, h2⟩ := checkPath_spec hS r.Steps
    rw [h1, h2.2 ⟨hc, by omega, h.way.path⟩]
  have h0 : 0 < r.Steps.length := by omega
  have hlast : r.Steps[w.length]'(by omega) = s := by simp [hw]
  unfold mFishkeep1RouteRuns
  rw [if_neg (by have := h.from_; omega), if_neg (by have := h.from_; omega), if_neg (by omega), hp, Option.bind_some, Option.bind_some, decide_eq_false (by decide), if_neg (by decide), idx_sig h.from_, Option.bind_some]
  have hhead : joinL n.Links (sigE n r.From) = some ⟨r.Steps[0].Section, r.Steps[0].In⟩ := h.way.head _ (by rw [List.head?_eq_getElem?]; exact List.getElem?_eq_getElem h0)
  have hnx : mLineNext n (sigE n r.From).section_ (sigE n r.From).end_ = some (r.Steps[0].Section, r.Steps[0].In, 0) := by
    have hH : Has n ⟨(sigE n r.From).section_, (sigE n r.From).end_⟩ := sig_has hN h.from_
    rw [next_eq hN hc hH]
    have : joinL n.Links ⟨(sigE n r.From).section_, (sigE n r.From).end_⟩ = some ⟨r.Steps[0].Section, r.Steps[0].In⟩ := hhead
    rw [this]
    rfl
  have i0 : idx r.Steps 0 = some r.Steps[0] := idx_lt (j := 0) h0
  have hx : (mLineNext n (sigE n r.From).section_ (sigE n r.From).end_).bind (unc3 fun x235 x236 x237 => (if x237 ≠ 0 then some true else (idx r.Steps 0).bind fun x266 => if x266.Section ≠ x235 then some true else (idx r.Steps 0).bind fun x277 => some (decide (x277.In ≠ x236))).bind (fun x263 => if x263 = true then some false else (forM (mFishkeep1RouteRuns_L288 n r ⟨(sigE n r.From).section_, (sigE n r.From).end_⟩) r.Steps.length 0 ()).bind fun t => Sum.elim (fun _ => (chk ((r.Steps.length : Int) - 1)).bind fun _ => (idx r.Steps ((r.Steps.length : Int) - 1)).bind fun x371 => (mLineNext n x371.Section x371.Out).bind (unc3 fun _ _ x384 => (if 0 ≤ r.To then some true else some (decide (x384 = 9))).bind (fun x389 => some x389))) (fun q => some q) t)) = some true := by
    rw [hnx, pass3, if_neg (by decide), i0, Option.bind_some, if_neg (by simp), Option.bind_some, Option.bind_some, decide_eq_false (by simp), if_neg (by decide)]
    rcases forU (body := mFishkeep1RouteRuns_L288 n r ⟨(sigE n r.From).section_, (sigE n r.From).end_⟩) (fun _ => True) (fun _ => False) r.Steps.length (fun k hk => by
      refine .inl ⟨?_, trivial⟩
      have hk2 := List.getElem_mem hk
      unfold mFishkeep1RouteRuns_L288
      rw [idx_lt hk, Option.bind_some, signalAt_eq hN hc (h.way.path.step _ hk2).2.1, Option.bind_some]
      have hhome := h.way.home _ hk2
      by_cases hkl : k = w.length
      · subst hkl
        rw [hlast]
        rw [hlast] at hhome
        have e : ((w.length : Nat) : Int) = (r.Steps.length : Int) - 1 := by omega
        by_cases c : sg n (outE s) < 0
        · have c' : sg n ⟨s.Section, s.Out⟩ < 0 := c
          have ht : r.To = -1 := by
            rw [hto]
            have := sg_le n (outE s)
            omega
          rw [if_pos c']
          simp only [unc2]
          rw [chk_ok (by omega) (by omega), Option.bind_some, if_neg hhome, if_neg (by decide), if_pos (by decide), if_pos e, Option.bind_some, decide_eq_false (by simp [ht]), if_neg (by decide)]
        · have c' : ¬ sg n ⟨s.Section, s.Out⟩ < 0 := c
          rw [if_neg c']
          simp only [unc2]
          rw [chk_ok (by omega) (by omega), Option.bind_some, if_neg hhome, if_pos trivial, if_pos e, if_neg (by simp [hto, outE]), if_neg (by simp), Option.bind_some, if_neg (by decide)]
      · have hkw : k < w.length := by omega
        have hwk : r.Steps[k] = w[k] := by simp [hw, List.getElem_append_left hkw]
        have hneg := hmid _ (List.getElem_mem hkw)
        have e : ¬ ((k : Nat) : Int) = (r.Steps.length : Int) - 1 := by omega
        rw [← hwk] at hneg
        have c' : sg n ⟨r.Steps[k].Section, r.Steps[k].Out⟩ < 0 := hneg
        rw [if_pos c']
        simp only [unc2]
        rw [chk_ok (by omega) (by omega), Option.bind_some, if_neg hhome, if_neg (by decide), if_pos (by decide), if_neg e, Option.bind_some, if_neg (by decide)]) with ⟨h1, _⟩ | ⟨t, _, h2⟩
    · rw [h1, Option.bind_some, Sum.elim_inl, chk_ok (by omega) (by omega), Option.bind_some, show (r.Steps.length : Int) - 1 = ((w.length : Nat) : Int) by omega, idx_lt (show w.length < r.Steps.length by omega), Option.bind_some, hlast]
      have hs := h.way.path.step s (by rw [hw]; simp)
      rw [next_eq hN hc hs.2.1]
      by_cases c : 0 ≤ r.To
      · cases joinL n.Links ⟨s.Section, s.Out⟩ with
        | none =>
          show (if 0 ≤ r.To then some true else _).bind _ = _
          rw [if_pos c]
          rfl
        | some f =>
          show (if 0 ≤ r.To then some true else _).bind _ = _
          rw [if_pos c]
          rfl
      · have : joinL n.Links ⟨s.Section, s.Out⟩ = none := hend (by omega)
        rw [this]
        show (if 0 ≤ r.To then some true else _).bind _ = _
        rw [if_neg c]
        rfl
    · exact h2.elim
  exact hx
theorem runs_plain {n : ApiNet} (hS : Small n) : mFishkeep1LineRuns n = some true := by
  obtain ⟨c, hc, hok⟩ := check_spec hS
  unfold mFishkeep1LineRuns
  rw [awake_true, Option.bind_some, if_pos rfl]
  unfold mLineRoutes
  rw [hc, Option.bind_some]
  by_cases h0 : c = 0
  · subst h0
    have hN := hok rfl
    obtain ⟨d, rs, h1, h2, h3, h4, h5⟩ := routes_spec hN
    rw [if_neg (by decide), h1]
    show (if d ≠ 0 then some (decide ((rs.length : Int) = 0)) else _) = _
    by_cases hd : d = 0
    · rw [if_neg (by simpa using hd)]
      rcases forU (body := mFishkeep1LineRuns_L300 n rs) (fun _ => True) (fun _ => False) rs.length (fun k hk => by
        refine .inl ⟨?_, trivial⟩
        unfold mFishkeep1LineRuns_L300
        rw [idx_lt hk, Option.bind_some, route_runs hN hS hc (h3 _ (List.getElem_mem hk)), Option.bind_some, if_pos rfl]
        by_cases hk0 : 0 < (k : Int)
        · obtain ⟨j, rfl⟩ : ∃ j, k = j + 1 := ⟨k - 1, by omega⟩
          have := List.pairwise_iff_getElem.1 h4 j (j + 1) (by omega) hk (by omega)
          rw [if_pos hk0, chk_ok (by omega) (by omega), Option.bind_some, show ((j + 1 : Nat) : Int) - 1 = (j : Int) by omega, idx_lt (show j < rs.length by omega), Option.bind_some, Option.bind_some, decide_eq_false (by omega), if_neg (by decide)]
        · rw [if_neg hk0, Option.bind_some, if_neg (by decide)]) with ⟨g1, _⟩ | ⟨t, _, g2⟩
      · rw [g1]
        rfl
      · exact g2.elim
    · rw [if_pos hd]
      rcases h2 with h2 | ⟨_, rfl⟩
      · exact absurd h2 hd
      · rfl
  · rw [if_pos h0]
    show (if c ≠ 0 then some (decide ((([] : List ApiRoute).length : Int) = 0)) else _) = _
    rw [if_pos h0]
    rfl
end Go.Proofs.YtcibjjhanafojaaDoor
