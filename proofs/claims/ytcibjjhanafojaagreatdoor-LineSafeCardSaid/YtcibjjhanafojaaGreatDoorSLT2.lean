/- Plain: the control table. -/
import Derived.Test.YtcibjjhanafojaaGreatDoorSLT1
set_option linter.unusedVariables false
set_option linter.unusedSimpArgs false
namespace Go.Proofs.YtcibjjhanafojaaGreatDoor
open Go.RowKit Go.Fp

/-- A list by what stands at each place. -/
def tab {α : Type} (n : Nat) (f : Nat → α) : List α := (List.range n).map f
theorem tab_len {α : Type} (n : Nat) (f : Nat → α) : (tab n f).length = n := by simp [tab]
theorem tab_idx {α : Type} {n : Nat} {f : Nat → α} {i : Nat} (h : i < n) : idx (tab n f) (i : Int) = some (f i) := by
  rw [idx_lt (by rw [tab_len]; exact h)]
  simp [tab]
theorem tab_put {α : Type} (n : Nat) (f : Nat → α) (i : Nat) (x : α) : put (tab n f) (i : Int) x = tab n (fun a => if a = i then x else f a) := by
  rw [put_nat]
  apply List.ext_getElem
  · simp [tab]
  · intro k h1 h2
    rw [List.getElem_set]
    simp only [tab, List.getElem_map, List.getElem_range]
    by_cases h : i = k
    · rw [if_pos h, if_pos h.symm]
    · rw [if_neg h, if_neg (fun e => h e.symm)]
theorem tab_congr {α : Type} {n : Nat} {f g : Nat → α} (h : ∀ a, a < n → f a = g a) : tab n f = tab n g := by
  unfold tab
  exact List.map_congr_left fun a ha => h a (List.mem_range.1 ha)
theorem tab_rep {α : Type} (n : Nat) (x : α) : List.replicate n x = tab n (fun _ => x) := by
  apply List.ext_getElem
  · simp [tab]
  · intro k h1 h2
    simp [tab]
noncomputable def nds (n : ApiNet) (r : ApiRoute) : List ApiNeed := (mLineNeeds n r).getD []
noncomputable def nI (n : ApiNet) (rs : List ApiRoute) (i : Nat) : List ApiNeed := nds n ((rs[i]?).getD ⟨0, 0, []⟩)
/-- What is known of the routes of a net. -/
structure Rts (n : ApiNet) (rs : List ApiRoute) : Prop where
  net : NetOk n
  ok : ∀ r ∈ rs, RouteOk n r
  many : rs.length ≤ 81
theorem needs_at {n : ApiNet} {rs : List ApiRoute} (C : Rts n rs) {i : Nat} (h : i < rs.length) : mLineNeeds n rs[i] = some (nI n rs i) := by
  obtain ⟨l, hl⟩ := needs_total C.net (C.ok _ (List.getElem_mem h))
  unfold nI nds
  rw [List.getElem?_eq_getElem h]
  show _ = some ((mLineNeeds n rs[i]).getD [])
  rw [hl]
  rfl
theorem kinds_at {n : ApiNet} {rs : List ApiRoute} (C : Rts n rs) {i : Nat} (h : i < rs.length) : ∀ x ∈ nI n rs i, 1 ≤ x.Kind ∧ x.Kind ≤ 5 := needs_kinds (needs_at C h)
def clash (n : ApiNet) (rs : List ApiRoute) (i j : Nat) : Prop := ∃ x ∈ nI n rs i, ∃ y ∈ nI n rs j, Meet x y
noncomputable instance (n : ApiNet) (rs : List ApiRoute) (i j : Nat) : Decidable (clash n rs i j) := Classical.propDecidable _
theorem clash_sym {n : ApiNet} {rs : List ApiRoute} {i j : Nat} (h : clash n rs i j) : clash n rs j i := by
  obtain ⟨x, hx, y, hy, h⟩ := h
  exact ⟨y, hy, x, hx, meet_sym h⟩
theorem meet_at (n : ApiNet) (rs : List ApiRoute) (i j : Nat) : mLineMeet (nI n rs i) (nI n rs j) = some (decide (clash n rs i j)) := by
  rw [meet_eq]
  congr 1
  exact decide_eq_decide.2 Iff.rfl
noncomputable def cls (n : ApiNet) (rs : List ApiRoute) (i k : Nat) : List Int := ((List.range k).filter fun j => decide (i ≠ j ∧ clash n rs i j)).map fun j : Nat => (j : Int)
theorem cls_len (n : ApiNet) (rs : List ApiRoute) (i k : Nat) : (cls n rs i k).length ≤ k := by
  unfold cls
  rw [List.length_map]
  exact Nat.le_trans (List.length_filter_le _ _) (by simp)
theorem cls_succ (n : ApiNet) (rs : List ApiRoute) (i k : Nat) : cls n rs i (k + 1) = if i ≠ k ∧ clash n rs i k then cls n rs i k ++ [(k : Int)] else cls n rs i k := by
  unfold cls
  rw [List.range_succ, List.filter_append]
  by_cases h : i ≠ k ∧ clash n rs i k
  · rw [if_pos h, List.map_append]
    simp [h]
  · rw [if_neg h, List.map_append]
    have : ([k].filter fun j => decide (i ≠ j ∧ clash n rs i j)) = [] := by
      simp only [List.filter_cons, List.filter_nil]
      rw [if_neg (by simpa using h)]
    rw [this]
    simp
theorem cls_mem {n : ApiNet} {rs : List ApiRoute} {i k : Nat} {x : Int} : x ∈ cls n rs i k ↔ ∃ j, j < k ∧ x = (j : Int) ∧ i ≠ j ∧ clash n rs i j := by
  unfold cls
  rw [List.mem_map]
  constructor
  · rintro ⟨j, hj, rfl⟩
    have h := List.mem_filter.1 hj
    exact ⟨j, List.mem_range.1 h.1, rfl, of_decide_eq_true h.2⟩
  · rintro ⟨j, h1, rfl, h2⟩
    exact ⟨j, List.mem_filter.2 ⟨List.mem_range.2 h1, decide_eq_true h2⟩, rfl⟩
theorem row_inner {n : ApiNet} {rs : List ApiRoute} {m : Nat} (hm : m ≤ 81) {f : Nat → ApiRow} (hf : ∀ a, (f a).Needs = nI n rs a) {i : Nat} (hi : i < m) (h0 : (f i).Clashes = []) :
    forS (mLineTable_L4080 i) m 0 (tab m f) = some (tab m (fun a => if a = i then ⟨nI n rs i, cls n rs i m⟩ else f a)) := by
  obtain ⟨s, h1, h2⟩ := forS_inv (body := mLineTable_L4080 i) (fun k s => s = tab m (fun a => if a = i then ⟨nI n rs i, cls n rs i k⟩ else f a)) m 0 (tab m f) (by
    refine tab_congr fun a ha => ?_
    by_cases c : a = i
    · rw [if_pos c, c]
      have e : cls n rs i 0 = [] := rfl
      rw [e, ← h0, ← hf]
    · rw [if_neg c]) (fun k s _ hk hs => by
    subst hs
    have hk : k < m := by omega
    have hl := cls_len n rs i k
    unfold mLineTable_L4080
    refine ⟨_, ?_, rfl⟩
    by_cases c : i = k
    · rw [if_neg (by omega), Option.bind_some, if_neg (by decide), cls_succ, if_neg (fun h => h.1 c)]
    · have hN : (if k = i then (⟨nI n rs i, cls n rs i k⟩ : ApiRow) else f k).Needs = nI n rs k := by rw [if_neg (fun e => c e.symm)]; exact hf k
      rw [if_pos (by omega), tab_idx hi, Option.bind_some, tab_idx hk, Option.bind_some, if_pos rfl, hN, meet_at, Option.bind_some, Option.bind_some]
      by_cases cc : clash n rs i k
      · rw [decide_eq_true cc, if_pos rfl, Option.bind_some, room_ok (by simp only; omega) (by simp only; omega), Option.bind_some, Option.bind_some, tab_put]
        congr 1
        refine tab_congr fun a ha => ?_
        by_cases ca : a = i
        · simp only [if_pos ca]
          rw [cls_succ, if_pos ⟨c, cc⟩]
        · simp only [if_neg ca]
      · rw [decide_eq_false cc, if_neg (by decide), cls_succ, if_neg (fun h => cc h.2)])
  rw [h1, h2, Nat.zero_add]
noncomputable def rowF (n : ApiNet) (rs : List ApiRoute) (a : Nat) : ApiRow := ⟨nI n rs a, cls n rs a rs.length⟩
theorem table_spec {n : ApiNet} {rs : List ApiRoute} (C : Rts n rs) (hr : mLineRoutes n = some (0, rs)) : mLineTable n = some (0, tab rs.length (rowF n rs)) := by
  have hm := C.many
  unfold mLineTable
  rw [hr, pass2, if_neg (by decide), mkLen_ok (by omega) (by omega), Option.bind_some, tab_rep]
  obtain ⟨s, h1, h2⟩ := forS_inv (body := mLineTable_L2428 n rs) (fun k s => s = tab rs.length (fun a => if a < k then ⟨nI n rs a, []⟩ else ⟨[], []⟩)) rs.length 0 (tab rs.length fun _ => ⟨[], []⟩) (by
    refine tab_congr fun a ha => ?_
    rw [if_neg (by omega)]) (fun k s _ hk hs => by
    subst hs
    have hk : k < rs.length := by omega
    unfold mLineTable_L2428
    refine ⟨_, ?_, rfl⟩
    rw [idx_lt hk, Option.bind_some, needs_at C hk, Option.bind_some, tab_idx hk, Option.bind_some, tab_put]
    congr 1
    refine tab_congr fun a ha => ?_
    by_cases ca : a = k
    · subst ca
      simp
    · rw [if_neg ca]
      by_cases cb : a < k
      · rw [if_pos cb, if_pos (by omega)]
      · rw [if_neg cb, if_neg (by omega)])
  rw [h1, Option.bind_some, h2]
  obtain ⟨s2, h3, h4⟩ := forS_inv (body := mLineTable_L2631) (fun k s => s = tab rs.length (fun a => if a < k then rowF n rs a else ⟨nI n rs a, []⟩)) (tab rs.length (fun a => if a < 0 + rs.length then (⟨nI n rs a, []⟩ : ApiRow) else ⟨[], []⟩)).length 0 (tab rs.length (fun a => if a < 0 + rs.length then (⟨nI n rs a, []⟩ : ApiRow) else ⟨[], []⟩)) (by
    refine tab_congr fun a ha => ?_
    rw [if_pos (by omega), if_neg (by omega)]) (fun k s _ hk hs => by
    subst hs
    rw [tab_len] at hk
    have hk : k < rs.length := by omega
    unfold mLineTable_L2631
    rw [tab_len, row_inner (n := n) (rs := rs) hm (f := fun a => if a < k then rowF n rs a else ⟨nI n rs a, []⟩) (fun a => by split <;> rfl) hk (by rw [if_neg (by omega)]), Option.bind_some]
    refine ⟨_, rfl, ?_⟩
    refine tab_congr fun a ha => ?_
    by_cases ca : a = k
    · rw [if_pos ca, if_pos (by omega), ca]
      rfl
    · rw [if_neg ca]
      by_cases cb : a < k
      · rw [if_pos cb, if_pos (by omega)]
      · rw [if_neg cb, if_neg (by omega)])
  rw [h3, Option.bind_some, h4]
  congr 2
  refine tab_congr fun a ha => ?_
  rw [if_pos (by rw [tab_len]; omega)]
end Go.Proofs.YtcibjjhanafojaaGreatDoor
