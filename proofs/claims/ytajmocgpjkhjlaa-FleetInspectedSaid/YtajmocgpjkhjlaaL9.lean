/- Plain: the second pass of fleet.Inspect and of its reference; the law's own look. -/
import Derived.Test.YtajmocgpjkhjlaaL8
set_option linter.unusedVariables false
set_option linter.unusedSimpArgs false
namespace Go.Proofs.Ytajmocgpjkhjlaa
open Go.RowKit Go.Fp

def KeptAt (l4 : List FleetTask) (x : List Int) (s : FleetSet) (p : FleetShop) : Prop := Kept s.Km (kmOf l4 x) p.Limit x.length (mayOf l4 x s p)
def Walked (l4 : List FleetTask) (x : List Int) (s : FleetSet) (p : FleetShop) (l : List Int) : Prop := ∃ tot lm ld sn, GInv s.Km (kmOf l4 x) (mayOf l4 x s p) p.Limit x.length x.length tot lm ld sn l
section
variable {l4 : List FleetTask} {l8 : List (List Int)} {l12 : List FleetSet} {p : FleetShop}
theorem Walked.kept {x : List Int} {s : FleetSet} {l : List Int} (h : Walked l4 x s p l) : Kept s.Km (kmOf l4 x) p.Limit x.length (memB l) := by
  obtain ⟨_, _, _, _, g⟩ := h
  exact fun j hj => g.hkept j hj
theorem Walked.sub {x : List Int} {s : FleetSet} {l : List Int} (h : Walked l4 x s p l) : ∀ j, memB l j = true → mayOf l4 x s p j = true := fun j hj => by
  obtain ⟨_, _, _, _, g⟩ := h
  unfold memB at hj
  rw [decide_eq_true_iff] at hj
  obtain ⟨_, q, e, hq⟩ := g.hdone _ hj
  have : j = q := by omega
  subst this
  exact hq
structure Setting (l4 : List FleetTask) (l8 : List (List Int)) (l12 : List FleetSet) (p : FleetShop) : Prop where
  l40 : l4.length ≤ 40
  tasks : ∀ t ∈ l4, OkTask t
  s40 : l12.length ≤ 40
  sets : ∀ t ∈ l12, OkSet p.Limit t
  shop : OkShop p
theorem Setting.t0 (h : Setting l4 l8 l12 p) : mFishref2TasksFault l4 = some 0 := by
  obtain ⟨c, c1, c2⟩ := tasks_spec l4
  rw [c1, c2.2 ⟨h.l40, h.tasks⟩]
theorem Setting.s0 (h : Setting l4 l8 l12 p) : mFishref2SetsFault l12 p 40 = some 0 := by
  obtain ⟨c, c1, c2⟩ := sets_spec l12 p
  rw [c1, c2.2 ⟨h.s40, h.sets, h.shop⟩]
/-- The second pass of fleet.Inspect. -/
theorem second_spec (h : Setting l4 l8 l12 p) (hl : l8.length = l12.length) (hr : ∀ k (h : k < l8.length), RowOk l4 l8[k]) :
    (∃ l, forM (mFleetInspect_L3392 l4 l8 l12 p) l8.length 0 [] = some (.inl l) ∧ l.length = l8.length ∧ ∀ k (h1 : k < l8.length) (h2 : k < l12.length) (h3 : k < l.length), Walked l4 l8[k] l12[k] p l[k]) ∨
    (forM (mFleetInspect_L3392 l4 l8 l12 p) l8.length 0 [] = some (.inr (9, [])) ∧ ∃ k, ∃ (h1 : k < l8.length) (h2 : k < l12.length), ¬ KeptAt l4 l8[k] l12[k] p) := by
  rcases forM_inv (body := mFleetInspect_L3392 l4 l8 l12 p)
    (fun j l => l.length = j ∧ ∀ k (h1 : k < l8.length) (h2 : k < l12.length) (h3 : k < l.length), Walked l4 l8[k] l12[k] p l[k])
    (fun r => r = (9, []) ∧ ∃ k, ∃ (h1 : k < l8.length) (h2 : k < l12.length), ¬ KeptAt l4 l8[k] l12[k] p) l8.length 0 [] ⟨rfl, fun k _ _ h3 => by simp at h3⟩ (fun j l _ hj hi => by
      obtain ⟨i1, i2⟩ := hi
      have hj1 : j < l8.length := by omega
      have hj2 : j < l12.length := by omega
      have h40 := h.s40
      unfold mFleetInspect_L3392
      rw [idx_lt hj1, Option.bind_some, idx_lt hj2, Option.bind_some]
      obtain ⟨b, d, d1, d2, d3⟩ := positions_spec (hr j hj1) h.shop (h.sets _ (List.getElem_mem hj2))
      rw [d1, Option.bind_some]
      simp only [unc2]
      cases b
      · rw [if_neg (by decide)]
        exact .inr ⟨_, rfl, rfl, j, hj1, hj2, (d3 rfl).2⟩
      · rw [if_pos rfl, room_ok (by omega) (by omega)]
        refine .inl ⟨_, rfl, by simp [i1], fun k h1 h2 h3 => ?_⟩
        by_cases e : k = j
        · subst e
          have : (l ++ [d])[k] = d := by
            rw [List.getElem_append_right (by omega)]
            simp [i1]
          rw [this]
          exact d2 rfl
        · have hk3 : k < l.length := by simp at h3; omega
          rw [List.getElem_append_left hk3]
          exact i2 k h1 h2 hk3) with ⟨l, e1, e2, e3⟩ | ⟨r, e1, rfl, e2⟩
  · exact .inl ⟨l, e1, by omega, e3⟩
  · exact .inr ⟨e1, e2⟩
theorem refsecond_spec (h : Setting l4 l8 l12 p) (hl : l8.length = l12.length) (hr : ∀ k (h : k < l8.length), RowOk l4 l8[k]) :
    (∃ l, forM (mFishref2InspectOf_L2103 l4 l8 l12 p) l8.length 0 [] = some (.inl l) ∧ ∀ k (h1 : k < l8.length) (h2 : k < l12.length), KeptAt l4 l8[k] l12[k] p) ∨
    (forM (mFishref2InspectOf_L2103 l4 l8 l12 p) l8.length 0 [] = some (.inr (9, [])) ∧ ∃ k, ∃ (h1 : k < l8.length) (h2 : k < l12.length), ¬ KeptAt l4 l8[k] l12[k] p) := by
  rcases forM_inv (body := mFishref2InspectOf_L2103 l4 l8 l12 p)
    (fun j l => l.length = j ∧ ∀ k (h1 : k < l8.length) (h2 : k < l12.length), k < j → KeptAt l4 l8[k] l12[k] p)
    (fun r => r = (9, []) ∧ ∃ k, ∃ (h1 : k < l8.length) (h2 : k < l12.length), ¬ KeptAt l4 l8[k] l12[k] p) l8.length 0 [] ⟨rfl, fun k _ _ h3 => by omega⟩ (fun j l _ hj hi => by
      obtain ⟨i1, i2⟩ := hi
      have hj1 : j < l8.length := by omega
      have hj2 : j < l12.length := by omega
      have h40 := h.s40
      unfold mFishref2InspectOf_L2103
      rw [idx_lt hj1, Option.bind_some, idx_lt hj2, Option.bind_some]
      obtain ⟨b, d, d1, d2⟩ := refpos_spec (hr j hj1) h.shop (h.sets _ (List.getElem_mem hj2))
      rw [d1, Option.bind_some]
      simp only [unc2]
      cases b
      · rw [if_neg (by decide)]
        exact .inr ⟨_, rfl, rfl, j, hj1, hj2, fun hK => absurd (d2.2 hK) (by decide)⟩
      · rw [if_pos rfl, room_ok (by omega) (by omega)]
        refine .inl ⟨_, rfl, by simp [i1], fun k h1 h2 h3 => ?_⟩
        by_cases e : k = j
        · subst e; exact d2.1 rfl
        · exact i2 k h1 h2 (by omega)) with ⟨l, e1, _, e3⟩ | ⟨r, e1, rfl, e2⟩
  · exact .inl ⟨l, e1, fun k h1 h2 => e3 k h1 h2 (by omega)⟩
  · exact .inr ⟨e1, e2⟩
theorem Walked.may_kept {x : List Int} {s : FleetSet} {l : List Int} (hr : RowOk l4 x) (hs : OkSet p.Limit s) (h : Walked l4 x s p l) : KeptAt l4 x s p :=
  h.kept.up hs.2.1 (fun j hj => (km_nonneg hr j hj).1) (fun j _ hj => h.sub j hj)
/-- fleet.Inspect where the first pass is passed. -/
theorem inspect_good (h : Setting l4 l8 l12 p) (hl : l8.length = l12.length) (hpass : forM (mFishref2InspectOf_L1172 l4 l8 l12) l8.length 0 () = some (.inl ())) (hr : ∀ k (h : k < l8.length), RowOk l4 l8[k]) (hK : ∀ k (h1 : k < l8.length) (h2 : k < l12.length), KeptAt l4 l8[k] l12[k] p) :
    ∃ l, mFleetInspect l4 l8 l12 p = some (0, l) ∧ l.length = l8.length ∧ ∀ k (h1 : k < l8.length) (h2 : k < l12.length) (h3 : k < l.length), Walked l4 l8[k] l12[k] p l[k] := by
  unfold mFleetInspect
  rw [checkTasks_eq, h.t0, Option.bind_some, if_neg (by decide), checkSets_eq, h.s0, Option.bind_some, if_neg (by decide), if_neg (by omega), pass_eq h.l40 h.tasks, hpass]
  rcases second_spec h hl hr with ⟨l, e1, e2, e3⟩ | ⟨e1, k, h1, h2, e2⟩
  · refine ⟨l, ?_, e2, e3⟩
    simp only [Option.bind_some, Sum.elim_inl, e1]
  · exact absurd (hK k h1 h2) e2
theorem inspect_bad (h : Setting l4 l8 l12 p) (hl : l8.length = l12.length) (hpass : forM (mFishref2InspectOf_L1172 l4 l8 l12) l8.length 0 () = some (.inl ())) (hr : ∀ k (h : k < l8.length), RowOk l4 l8[k]) {k : Nat} (h1 : k < l8.length) (h2 : k < l12.length) (hK : ¬ KeptAt l4 l8[k] l12[k] p) :
    mFleetInspect l4 l8 l12 p = some (9, []) := by
  unfold mFleetInspect
  rw [checkTasks_eq, h.t0, Option.bind_some, if_neg (by decide), checkSets_eq, h.s0, Option.bind_some, if_neg (by decide), if_neg (by omega), pass_eq h.l40 h.tasks, hpass]
  rcases second_spec h hl hr with ⟨l, e1, e2, e3⟩ | ⟨e1, _⟩
  · exact absurd ((e3 k h1 h2 (by omega)).may_kept (hr k h1) (h.sets _ (List.getElem_mem h2))) hK
  · simp only [Option.bind_some, Sum.elim_inl, Sum.elim_inr, e1]
theorem ref_good (h : Setting l4 l8 l12 p) (hl : l8.length = l12.length) (hpass : forM (mFishref2InspectOf_L1172 l4 l8 l12) l8.length 0 () = some (.inl ())) (hr : ∀ k (h : k < l8.length), RowOk l4 l8[k]) :
    (∃ l, mFishref2InspectOf l4 l8 l12 p 40 = some (0, l) ∧ ∀ k (h1 : k < l8.length) (h2 : k < l12.length), KeptAt l4 l8[k] l12[k] p) ∨ (mFishref2InspectOf l4 l8 l12 p 40 = some (9, []) ∧ ∃ k, ∃ (h1 : k < l8.length) (h2 : k < l12.length), ¬ KeptAt l4 l8[k] l12[k] p) := by
  unfold mFishref2InspectOf
  rw [h.s0, Option.bind_some, if_neg (by decide), if_neg (by omega), hpass]
  rcases refsecond_spec h hl hr with ⟨l, e1, e2⟩ | ⟨e1, e2⟩
  · exact .inl ⟨l, by simp only [Option.bind_some, Sum.elim_inl, e1], e2⟩
  · exact .inr ⟨by simp only [Option.bind_some, Sum.elim_inl, Sum.elim_inr, e1], e2⟩
/-- The law's look at the answer. -/
theorem look_spec (h : Setting l4 l8 l12 p) (hl : l8.length = l12.length) (hr : ∀ k (h : k < l8.length), RowOk l4 l8[k]) {l : List (List Int)} (hll : l.length = l8.length) (hw : ∀ k (h1 : k < l8.length) (h2 : k < l12.length) (h3 : k < l.length), Walked l4 l8[k] l12[k] p l[k]) :
    forM (mFishkeep2FleetInspected_L660 l4 l8 l12 p l) l8.length 0 () = some (.inl ()) := by
  rcases forM_inv (body := mFishkeep2FleetInspected_L660 l4 l8 l12 p l) (fun _ _ => True) (fun _ => False) l8.length 0 () trivial (fun j _ _ hj _ => by
    have hj1 : j < l8.length := by omega
    have hj2 : j < l12.length := by omega
    have hj3 : j < l.length := by omega
    have hrow := hr j hj1
    have hs := h.sets _ (List.getElem_mem hj2)
    have hx := hrow.len
    have hK := (hw j hj1 hj2 hj3).kept
    have hL := h.shop.2.2
    have hkm : ∀ i, i < (l8[j]).length → 0 ≤ kmOf l4 l8[j] i := fun i hi => (km_nonneg hrow i hi).1
    unfold mFishkeep2FleetInspected_L660
    rw [idx_lt hj1, Option.bind_some, idx_lt hj2, Option.bind_some, chk_ok (by omega) (by omega), Option.bind_some, Option.bind_some]
    rcases forM_inv (body := mFishkeep2FleetInspected_L940 l4 p j l l8[j]) (fun k v => k ≤ (l8[j]).length → v = run (l12[j]).Km (kmOf l4 l8[j]) (memB l[j]) k) (fun _ => False) ((((l8[j]).length : Int) + 1).toNat) 0 (l12[j]).Km (fun _ => rfl) (fun k v _ hk hi => by
      have hk' : k ≤ (l8[j]).length := by omega
      have hv := hi hk'
      subst hv
      left
      unfold mFishkeep2FleetInspected_L940
      rw [idx_lt hj3, Option.bind_some, contains_eq, Option.bind_some]
      have em : (if decide ((k : Int) ∈ l[j]) = true then some (0 : Int) else some (run (l12[j]).Km (kmOf l4 l8[j]) (memB l[j]) k)) = some (if memB l[j] k then 0 else run (l12[j]).Km (kmOf l4 l8[j]) (memB l[j]) k) := by
        unfold memB
        split <;> rfl
      rw [em, Option.bind_some]
      by_cases hn : (k : Int) < ((l8[j]).length : Int)
      · rw [if_pos hn]
        obtain ⟨v, t, e1, e2, e3, e4⟩ := row_at hrow (j := k) (by omega)
        have kb := km_nonneg hrow k (by omega)
        have es := run_succ (a := (l12[j]).Km) (km := kmOf l4 l8[j]) (P := memB l[j]) k
        have hle := hK k (by omega)
        have hge := run_nonneg (a := (l12[j]).Km) (P := memB l[j]) hs.2.1 hkm (k + 1) (by omega)
        rw [e1, Option.bind_some, e2, Option.bind_some, ← e4, ← es, chk_ok (by omega) (by omega), Option.bind_some, if_neg (by omega)]
        exact ⟨_, rfl, fun _ => rfl⟩
      · rw [if_neg hn]
        exact ⟨_, rfl, fun hh => by omega⟩) with ⟨q, e1, _⟩ | ⟨_, _, hf⟩
    · rw [e1]
      exact .inl ⟨(), rfl, trivial⟩
    · exact hf.elim) with ⟨q, e1, _⟩ | ⟨_, _, hf⟩
  · exact e1
  · exact hf.elim
theorem equal_spec {l m : List (List Int)} (hl : l.length = m.length) (h : ∀ k (h1 : k < l.length) (h2 : k < m.length), (l[k]).length ≤ (m[k]).length) : mSlicesEqualFunc l m = some true := by
  unfold mSlicesEqualFunc
  rw [if_neg (by omega)]
  rcases forM_inv (body := mSlicesEqualFunc_L80 l m) (fun _ _ => True) (fun _ => False) l.length 0 () trivial (fun j _ _ hj _ => by
    unfold mSlicesEqualFunc_L80 mFishkeep2FleetInspected_1
    rw [idx_lt (show j < l.length by omega), Option.bind_some, idx_lt (show j < m.length by omega), Option.bind_some, Option.bind_some, decide_eq_true (by have := h j (by omega) (by omega); omega), if_pos rfl]
    exact .inl ⟨(), rfl, trivial⟩) with ⟨q, e1, _⟩ | ⟨_, _, hf⟩
  · rw [e1]
    rfl
  · exact hf.elim
/-- A greater limit. -/
theorem more_spec {d : Int} (hd : 0 ≤ d) {x : List Int} {s : FleetSet} {l m : List Int} (h : Walked l4 x s p l) (g : Walked l4 x s ⟨p.Place, p.Long, p.Limit + d⟩ m) : m.length ≤ l.length := by
  obtain ⟨_, _, _, _, g⟩ := g
  have h1 := (g.hmin (memB l) (fun j hj => h.sub j hj) (fun j hj => by
    have := h.kept j hj
    show _ ≤ p.Limit + d
    omega)).1
  exact Nat.le_trans h1 (cnt_mem l _)
end

end Go.Proofs.Ytajmocgpjkhjlaa
