/- Plain: MendDies answers true at every input. -/
import Derived.Test.YtakehdnblmonlaaDL9
set_option linter.unusedVariables false
set_option linter.unusedSimpArgs false
namespace Go.Proofs.Ytakehdnblmonlaa
open Go.RowKit Go.Fp

/-- What Settles says. -/
theorem settles_any {r : MendRound} (hR : RoundOk r) {most : Int} (h0 : 0 ≤ most) (hm : most ≤ 28800) {st : Bool} (hst : mMendRoundStable r = some st) (H : st = true → RingsLose r) :
    ∃ k f, mMendSettles r most = some (k, f) ∧ (f = 0 ↔ st = true ∨ most = 0) ∧ (f = 0 → 0 < most → ∃ (last : Nat) (G : Nat → List Int), k = (last : Int) + 1 ∧ Rows r most (last + 4) G ∧ ∀ j, last < j → j < last + 4 → ∀ v : Int, 0 ≤ v → v < (r.Plan.length : Int) → av (G j) v = 0) := by
  by_cases hz : most = 0
  · refine ⟨0, 0, ?_, ⟨fun _ => .inr hz, fun _ => rfl⟩, fun _ h => by omega⟩
    unfold mMendSettles
    rw [check_ok hR, Option.bind_some, if_neg (by decide), within_eq, Option.bind_some, if_pos (decide_eq_true (by omega)), if_pos hz]
  · cases st with
    | true =>
      obtain ⟨last, G, h1, h2, h3⟩ := settles_spec hR (H rfl) (by omega) hm hst
      exact ⟨_, _, h1, ⟨fun _ => .inl rfl, fun _ => rfl⟩, fun _ _ => ⟨last, G, rfl, h2, h3⟩⟩
    | false =>
      refine ⟨0, 9, ?_, ⟨(fun h => by cases h), fun h => h.elim (fun h => by cases h) (fun h => absurd h hz)⟩, fun h => by cases h⟩
      unfold mMendSettles
      rw [check_ok hR, Option.bind_some, if_neg (by decide), within_eq, Option.bind_some, if_pos (decide_eq_true (by omega)), if_neg hz, hst, Option.bind_some, if_neg (by decide)]
theorem first_if {e : Int} {st : Bool} {f most : Int} (h : f = 0 ↔ st = true ∨ most = 0) (he : e = 0) : (if e ≠ 0 then some true else if st = true then some (decide ((decide (f = 0)) ≠ true)) else some (decide ((decide (f = 0)) ≠ (decide (most = 0))))) = some false := by
  rw [if_neg (by omega)]
  cases st with
  | true =>
    rw [if_pos rfl, decide_eq_true (h.2 (.inl rfl))]
    rfl
  | false =>
    rw [if_neg (by decide)]
    by_cases hz : most = 0
    · rw [decide_eq_true (h.2 (.inr hz)), decide_eq_true hz]
      rfl
    · rw [decide_eq_false (fun hf => (h.1 hf).elim (fun h => by cases h) hz), decide_eq_false hz]
      rfl
/-- What stands behind each delay: it is within its bounds. -/
theorem rows_ok {late : List MendFirst} {most k f : Int} {rooms out : List (List Int)} {n : Nat} (hout : ∀ (p : Nat) row, out[p]? = some row → row.length = n ∧ ∀ v, v < n → 0 ≤ av row (v : Int) ∧ av row (v : Int) ≤ most ∧ (f = 0 → k ≤ (p : Int) → av row (v : Int) ≤ 0) ∧ ∃ m, forS (mFishkeep2MendDies_L1657 late v rooms) late.length 0 0 = some m ∧ av row (v : Int) ≤ m) :
    (forM (mFishkeep2MendDies_L1158 late most rooms out k f) out.length 0 ()).bind (fun t => Sum.elim (fun _ => some true) (fun q => some q) t) = some true := by
  rcases forM_inv (body := mFishkeep2MendDies_L1158 late most rooms out k f) (fun _ _ => True) (fun _ => False) out.length 0 () trivial (fun p u _ hp _ => by
    obtain ⟨row, x1, x2, x3⟩ := link_at (l := out) (k := p) (by omega)
    obtain ⟨g1, g2⟩ := hout p row x2
    unfold mFishkeep2MendDies_L1158
    rw [x1, Option.bind_some]
    rcases forM_inv (body := mFishkeep2MendDies_L1483 late most p rooms k f row) (fun _ _ => True) (fun _ => False) row.length 0 () trivial (fun v u _ hv _ => by
      obtain ⟨a1, a2, a3, m, a4, a5⟩ := g2 v (by omega)
      unfold mFishkeep2MendDies_L1483
      rw [idx_av (by omega) (by omega), Option.bind_some, if_neg (by omega), if_neg (by omega)]
      have key : (if f = 0 then if k ≤ (p : Int) then some (decide (0 < av row (v : Int))) else some false else some false) = some false := by
        by_cases c1 : f = 0
        · rw [if_pos c1]
          by_cases c2 : k ≤ (p : Int)
          · rw [if_pos c2, decide_eq_false (by have := a3 c1 c2; omega)]
          · rw [if_neg c2]
        · rw [if_neg c1]
      rw [key, Option.bind_some, if_neg (by decide), a4, Option.bind_some, if_neg (by omega)]
      exact .inl ⟨(), rfl, trivial⟩) with ⟨_, h1, _⟩ | ⟨_, _, h⟩
    · rw [h1, Option.bind_some]
      exact .inl ⟨(), rfl, trivial⟩
    · exact h.elim) with ⟨_, h1, _⟩ | ⟨_, _, h⟩
  · rw [h1, Option.bind_some]
    rfl
  · exact h.elim
theorem diesPlain (r : MendRound) (l : List MendFirst) : mFishkeep2MendDies r l = some true := by
  unfold mFishkeep2MendDies
  rw [awake_true, Option.bind_some, if_pos rfl, rounds_true, Option.bind_some, if_pos rfl]
  obtain ⟨e, e1, e2⟩ := fault_spec r
  rw [e1, Option.bind_some]
  by_cases he : e ≠ 0
  · rw [if_pos he, Option.bind_some, if_pos rfl]
  · have hR := e2 (Classical.not_not.1 he)
    rw [if_neg he, Option.bind_some]
    by_cases h20 : 20 < (l.length : Int)
    · rw [if_pos (decide_eq_true h20)]
    · rw [if_neg (by rw [decide_eq_false h20]; decide)]
      obtain ⟨most, late, f1, hL⟩ := late_spec r l (by omega)
      obtain ⟨st, s1, s2, s3⟩ := stable_ok hR
      obtain ⟨k, f, k1, k2, k3⟩ := settles_any hR hL.m0 hL.m1 s2 s3
      obtain ⟨z, hz⟩ : ∃ z : Int, z = 0 := ⟨_, rfl⟩
      rw [← hz] at s1
      rw [f1, pass2, s1, pass2, k1, pass2, first_if k2 hz, Option.bind_some, if_neg (by decide)]
      obtain ⟨m, hm⟩ : ∃ m : Int, m = 60 := ⟨_, rfl⟩
      obtain ⟨out, D, o1, o2, o3, o4⟩ := spread_spec hR hL (m := m) (by omega) (by omega)
      obtain ⟨rooms, r1, r2, r3⟩ := room_spec hR
      rw [← hz] at o1 r1
      have hn8 := hR.n8
      have hol : (out.length : Int) = 60 := by omega
      rw [← hm, o1, pass2, r1, pass2, if_neg (by omega), if_neg (by omega), if_neg (by omega), if_neg (by omega)]
      have hrow : ∀ (p : Nat) row, out[p]? = some row → p < m.toNat ∧ row = D p := fun p row h => by
        have hp : p < out.length := (List.getElem?_eq_some_iff.1 h).1
        have h2 := o3 p (by omega)
        rw [h] at h2
        injection h2 with h2
        exact ⟨by omega, h2⟩
      have hlens : ∀ w ∈ out ++ rooms, w.length = r.Plan.length := fun w hw => by
        rcases List.mem_append.1 hw with hw | hw
        · obtain ⟨p, hp, rfl⟩ := List.getElem_of_mem hw
          obtain ⟨g1, g2⟩ := hrow p _ (List.getElem?_eq_getElem hp)
          rw [g2]
          exact (o4.ok g1).1
        · obtain ⟨p, hp, rfl⟩ := List.getElem_of_mem hw
          obtain ⟨row, g1, g2⟩ := r3 p (by omega)
          rw [List.getElem?_eq_getElem hp] at g1
          injection g1 with g1
          rw [g1]
          exact g2.len
      rw [concat_spec out rooms (by omega) (by omega), Option.bind_some, lens_spec _ _ _ _ hlens, Option.bind_some, pass2, if_neg (by decide)]
      refine rows_ok (n := r.Plan.length) (fun p row h => ?_)
      obtain ⟨g1, g2⟩ := hrow p row h
      subst g2
      have hok := o4.ok g1
      refine ⟨hok.1, fun v hv => ?_⟩
      have hb := hok.2 (v : Int) (by omega) (by omega)
      refine ⟨hb.1, hb.2, fun hf hkp => ?_, ?_⟩
      · by_cases hz : most = 0
        · omega
        · obtain ⟨last, G, t1, t2, t3⟩ := k3 hf (by have := hL.m0; omega)
          exact drow_zero hR o4 t2 t3 p p (Nat.le_refl _) (by omega) g1 (v : Int) (by omega) (by omega)
      · obtain ⟨q, q1, q2⟩ := reach_spec hL r2 r3 hv
        exact ⟨q, q1, q2 _ (drow_reach hR hL o4 r3 p p (Nat.le_refl _) g1 (v : Int) (by omega) (by omega))⟩
end Go.Proofs.Ytakehdnblmonlaa
