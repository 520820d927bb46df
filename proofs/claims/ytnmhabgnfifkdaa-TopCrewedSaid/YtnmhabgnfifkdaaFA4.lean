/- Plain: the search of StandIns. -/
import Derived.Test.YtnmhabgnfifkdaaFA3
set_option linter.unusedVariables false
set_option linter.unusedSimpArgs false
namespace Go.Proofs.Ytnmhabgnfifkdaa
open Go.RowKit Go.Fp

theorem perm_mid2 {α : Type} (F q R : List α) : (q ++ (F ++ R)).Perm (F ++ (q ++ R)) := by
  rw [← List.append_assoc, ← List.append_assoc]
  exact List.Perm.append_right R List.perm_append_comm
abbrev SRes := List Int × Ro × Ro × List Int
abbrev SC := Int → Ro → List Int → List Int → Ro → Option SRes
/-- What the search stands on: shifts, limits, the open shifts, who had them, who is away. -/
structure Cx where
  l : List FleetShift
  x : FleetLimits
  opn : List Int
  own : List (Int × Int)
  gone : List (FleetAbsence × Bool)
noncomputable def gLoop (c : Cx) (i s : Int) (rc : SC) (k : Nat) : (Ro × List Int × Ro × List Int) → Option (Ro × List Int × Ro × List Int) := unc4 fun now lost best left =>
  (idx now (k : Int)).bind fun r =>
  ((some (mgetD c.own s 0)).bind fun o =>
  if (k : Int) = o then (
  some true)
  else (
  (idx c.l s).bind fun t =>
  (some (mgetD c.gone (⟨(k : Int), t.Day⟩ : FleetAbsence) false)).bind fun g =>
  some g)).bind (fun d =>
  if d = true then (
  some (now, lost, best, left))
  else (
  ((mSlicesClone r).bind fun r2 =>
  (room 8 (r2.length + 1)).bind fun _ =>
  (idx now (k : Int)).bind fun _ =>
  some (put now (k : Int) (r2 ++ [s]))).bind (fun now2 =>
  ((idx now2 (k : Int)).bind fun r3 =>
  (mFleetFits c.l r3 c.x).bind fun f =>
  if f = true then (
  (chk (i + 1)).bind fun _ =>
  (rc (i + 1) best lost left now2).bind (unc4 fun a b p q =>
  some (b, a, p, q)))
  else (
  some (now2, lost, best, left))).bind (unc4 fun now4 lost4 best4 left4 =>
  (idx now4 (k : Int)).bind fun _ =>
  some (put now4 (k : Int) r, lost4, best4, left4)))))
noncomputable def gStep (c : Cx) (rcA rcB : SC) : SC := fun i best lost left now =>
  (if best.isEmpty = true then (
  some false)
  else (
  some (decide ((left.length : Int) ≤ (lost.length : Int))))).bind (fun d =>
  if d = true then (
  some (lost, now, best, left))
  else (
  if i = (c.opn.length : Int) then (
  ((room 24 now.length).bind fun _ =>
  (mSlicesClone lost).bind fun q =>
  (some? now).bind fun _ =>
  some (now, q)).bind (unc2 fun p q =>
  some (lost, now, p, q)))
  else (
  (idx c.opn i).bind fun s =>
  (forS (gLoop c i s rcA) now.length 0 (now, lost, best, left)).bind (unc4 fun now lost best left =>
  (room 8 (lost.length + 1)).bind fun _ =>
  (chk (i + 1)).bind fun _ =>
  (rcB (i + 1) best (lost ++ [s]) left now).bind (unc4 fun a b p q =>
  (chk ((a.length : Int) - 1)).bind fun _ =>
  (cutS a 0 ((a.length : Int) - 1)).bind fun z =>
  some (z, b, p, q))))))
noncomputable def S2 (c : Cx) (N : Nat) : SC := fun i best lost left now => mFleetStandIns_1_2 N i c.l c.x.Change c.x.Long c.x.Work c.x.After c.x.Break c.x.Rest c.x.Row best lost left c.opn now c.own c.gone
noncomputable def S3 (c : Cx) (M N : Nat) : SC := fun i best lost left now => mFleetStandIns_1_3 (mFleetStandIns_1_2 M) N i c.l c.x.Change c.x.Long c.x.Work c.x.After c.x.Break c.x.Rest c.x.Row best lost left c.opn now c.own c.gone
noncomputable def S4 (c : Cx) (N : Nat) : SC := fun i best lost left now => mFleetStandIns_1_4 N i c.l c.x.Change c.x.Long c.x.Work c.x.After c.x.Break c.x.Rest c.x.Row best lost left c.opn now c.own c.gone
noncomputable def S1 (c : Cx) (N : Nat) : SC := fun i best lost left now => mFleetStandIns_1 N i c.l c.x.Change c.x.Long c.x.Work c.x.After c.x.Break c.x.Rest c.x.Row best lost left c.opn now c.own c.gone
theorem S2_step (c : Cx) (N : Nat) (i : Int) (best : Ro) (lost left : List Int) (now : Ro) : S2 c (N + 1) i best lost left now = gStep c (fun i best lost left now => lim (fun M => S3 c N M i best lost left now)) (S2 c N) i best lost left now := rfl
theorem S3_step (c : Cx) (M N : Nat) (i : Int) (best : Ro) (lost left : List Int) (now : Ro) : S3 c M (N + 1) i best lost left now = gStep c (S3 c M N) (S2 c M) i best lost left now := rfl
theorem S4_step (c : Cx) (N : Nat) (i : Int) (best : Ro) (lost left : List Int) (now : Ro) : S4 c (N + 1) i best lost left now = gStep c (S4 c N) (fun i best lost left now => lim (fun M => S2 c M i best lost left now)) i best lost left now := rfl
theorem S1_step (c : Cx) (N : Nat) (i : Int) (best : Ro) (lost left : List Int) (now : Ro) : S1 c (N + 1) i best lost left now = gStep c (fun i best lost left now => lim (fun M => S4 c M i best lost left now)) (fun i best lost left now => lim (fun M => S2 c M i best lost left now)) i best lost left now := rfl
def isGone (c : Cx) (d : Nat) (s : Int) : Bool := mgetD c.gone (⟨(d : Int), (at0 c.l s).Day⟩ : FleetAbsence) false
def Here (c : Cx) (now : Ro) : Prop := ∀ (d : Nat) (h : d < now.length), ∀ s ∈ now[d], isGone c d s = false
structure SInv (c : Cx) (D : Nat) (full : List Int) (i : Nat) (lost : List Int) (now : Ro) : Prop where
  len : now.length = D
  once : (now.flatten ++ (lost ++ c.opn.drop i)).Perm full
  here : Here c now
structure SGood (c : Cx) (D : Nat) (full : List Int) (best : Ro) (left : List Int) : Prop where
  len : best.length = D
  once : (best.flatten ++ left).Perm full
  here : Here c best
def SPost (c : Cx) (D : Nat) (full : List Int) (lost : List Int) (now : Ro) (r : SRes) : Prop := r.1 = lost ∧ r.2.1 = now ∧ SGood c D full r.2.2.1 r.2.2.2
structure CxOk (c : Cx) (D : Nat) (full : List Int) : Prop where
  ok : ∀ s ∈ c.l, OkS s
  few : c.l.length ≤ 8
  nums : Nums c.l full
  len : full.length ≤ 8
  drv : 1 ≤ D ∧ D ≤ 4
  ofew : c.opn.length ≤ 8
section
variable {c : Cx} {D : Nat} {full : List Int} (hc : CxOk c D full)
theorem Here.set {now : Ro} (h : Here c now) {k : Nat} (hk : k < now.length) {s : Int} (hs : isGone c k s = false) : Here c (now.set k (now[k] ++ [s])) := fun d hd y hy => by
  rw [List.length_set] at hd
  rw [List.getElem_set] at hy
  split at hy
  · rename_i e
    subst e
    rcases List.mem_append.1 hy with h1 | h1
    · exact h k hk y h1
    · simp only [List.mem_cons, List.not_mem_nil, or_false] at h1
      rw [h1]; exact hs
  · exact h d hd y hy
include hc in
theorem gStep_says {rcA rcB : SC} {XA XB : Prop} {m i : Nat} (hm : i + m = c.opn.length) (best : Ro) (lost left : List Int) (now : Ro) (hI : SInv c D full i lost now) (hB : best = [] ∨ SGood c D full best left)
    (hA : ∀ m', m = m' + 1 → ∀ best lost left now, SInv c D full (i + 1) lost now → (best = [] ∨ SGood c D full best left) → (rcA ((i : Int) + 1) best lost left now = none ∧ XA) ∨ ∃ r, rcA ((i : Int) + 1) best lost left now = some r ∧ SPost c D full lost now r)
    (hBB : ∀ m', m = m' + 1 → ∀ best lost left now, SInv c D full (i + 1) lost now → (best = [] ∨ SGood c D full best left) → (rcB ((i : Int) + 1) best lost left now = none ∧ XB) ∨ ∃ r, rcB ((i : Int) + 1) best lost left now = some r ∧ SPost c D full lost now r) :
    (gStep c rcA rcB (i : Int) best lost left now = none ∧ 1 ≤ m ∧ (XA ∨ XB)) ∨ ∃ r, gStep c rcA rcB (i : Int) best lost left now = some r ∧ SPost c D full lost now r := by
  have hlens : now.flatten.length + (lost.length + (c.opn.length - i)) = full.length := by
    have := hI.once.length_eq
    rw [List.length_append, List.length_append, List.length_drop] at this
    exact this
  have hf8 := hc.len
  have hD := hc.drv
  have hof := hc.ofew
  have hlen := hI.len
  -- is the search cut?
  have cut : (∃ u, (if best.isEmpty = true then some false else some (decide ((left.length : Int) ≤ (lost.length : Int)))) = some u ∧ (u = true → SGood c D full best left)) := by
    cases best with
    | nil => exact ⟨false, rfl, fun h => by cases h⟩
    | cons a t =>
      refine ⟨_, rfl, fun _ => ?_⟩
      rcases hB with h | h
      · cases h
      · exact h
  obtain ⟨u, hu, hg⟩ := cut
  unfold gStep
  rw [hu, Option.bind_some]
  by_cases hut : u = true
  · rw [if_pos hut]
    exact .inr ⟨_, rfl, rfl, rfl, hg hut⟩
  · rw [if_neg hut]
    cases m with
    | zero =>
      have hq : some? now = some () := by
        cases now with
        | nil => simp only [List.length_nil] at hlen; omega
        | cons => rfl
      rw [if_pos (by omega), room_ok (by omega) (by omega), Option.bind_some, clone_eq (by omega), Option.bind_some, hq, Option.bind_some, pass2]
      refine .inr ⟨_, rfl, rfl, rfl, hlen, ?_, hI.here⟩
      have := hI.once
      rw [List.drop_eq_nil_of_le (by omega), List.append_nil] at this
      exact this
    | succ m =>
      have hi : i < c.opn.length := by omega
      have hdrop : c.opn.drop i = c.opn[i] :: c.opn.drop (i + 1) := List.drop_eq_getElem_cons hi
      have hs : 0 ≤ c.opn[i] ∧ c.opn[i] < (c.l.length : Int) := hc.nums _ (hI.once.subset (List.mem_append_right _ (List.mem_append_right _ (by rw [hdrop]; exact List.mem_cons_self ..))))
      rw [if_neg (by omega), idx_lt hi, Option.bind_some]
      generalize hse : c.opn[i] = s at *
      have hp1 : ((now.flatten ++ [s]) ++ (lost ++ c.opn.drop (i + 1))).Perm full := by
        refine List.Perm.trans ?_ hI.once
        rw [hdrop, List.append_assoc]
        exact List.Perm.append_left _ (perm_mid2 lost [s] (c.opn.drop (i + 1)))
      have hnow : ∀ (k : Nat) (hk : k < now.length), now[k].length ≤ now.flatten.length := fun k hk => flat_len_le (List.getElem_mem hk)
      have hnum : ∀ (k : Nat) (hk : k < now.length), Nums c.l now[k] := fun k hk y hy => hc.nums y (hI.once.subset (List.mem_append_left _ (List.mem_flatten_of_mem (List.getElem_mem hk) hy)))
      rcases forS_invX (body := gLoop c (i : Int) s rcA) XA (fun k q => q.1 = now ∧ q.2.1 = lost ∧ (q.2.2.1 = [] ∨ SGood c D full q.2.2.1 q.2.2.2)) now.length 0 (now, lost, best, left) ⟨rfl, rfl, hB⟩ (fun k q _ hk hq => by
          have hk' : k < now.length := by omega
          obtain ⟨q1, q2, q3, q4⟩ := q
          obtain ⟨h1, h2, h3⟩ := hq
          simp only at h1 h2 h3
          subst h1; subst h2
          have hnk := hnow k hk'
          unfold gLoop
          simp only [unc4]
          rw [idx_lt hk', Option.bind_some, Option.bind_some]
          have skip : ∃ d, (if (k : Int) = mgetD c.own s 0 then some true else (idx c.l s).bind fun t => (some (mgetD c.gone (⟨(k : Int), t.Day⟩ : FleetAbsence) false)).bind fun g => some g) = some d ∧ (d = false → isGone c k s = false) := by
            split
            · exact ⟨true, rfl, fun h => by cases h⟩
            · rw [(idx_at hs).1, Option.bind_some, Option.bind_some]
              exact ⟨_, rfl, id⟩
          obtain ⟨d, hd, hgone⟩ := skip
          rw [hd, Option.bind_some]
          by_cases hdt : d = true
          · rw [if_pos hdt]
            exact .inr ⟨_, rfl, rfl, rfl, h3⟩
          · rw [if_neg hdt]
            have hg := hgone (by simpa using hdt)
            have hf := fits_eq hc.ok (x := c.x) (nums_snoc (hnum k hk') hs) (by rw [List.length_append, List.length_singleton]; omega)
            rw [clone_eq (by omega), Option.bind_some, room_ok (by omega) (by omega), Option.bind_some, Option.bind_some, Option.bind_some, put_nat, set_idx hk', Option.bind_some, hf, Option.bind_some]
            by_cases hfit : fitB c.l c.x (q1[k] ++ [s]) = true
            · rw [if_pos hfit, chk_ok (by omega) (by omega), Option.bind_some]
              have hI2 : SInv c D full (i + 1) q2 (q1.set k (q1[k] ++ [s])) :=
                ⟨by rw [List.length_set]; exact hlen, ((flat_snoc hk' s).append_right _).trans hp1, hI.here.set hk' hg⟩
              rcases hA m rfl q3 q2 q4 (q1.set k (q1[k] ++ [s])) hI2 h3 with ⟨g1, g2⟩ | ⟨⟨r1, r2, r3, r4⟩, g1, g2, g3, g4⟩
              · exact .inl ⟨by rw [g1]; rfl, g2⟩
              · simp only at g2 g3 g4
                subst g2; subst g3
                rw [g1, pass4, pass4, set_idx hk', Option.bind_some, put_self hk']
                exact .inr ⟨_, rfl, rfl, rfl, .inr g4⟩
            · rw [if_neg hfit, pass4, set_idx hk', Option.bind_some, put_self hk']
              exact .inr ⟨_, rfl, rfl, rfl, h3⟩) with ⟨g1, g2⟩ | ⟨⟨q1, q2, q3, q4⟩, g1, h1, h2, h3⟩
      · exact .inl ⟨by rw [g1]; rfl, by omega, .inl g2⟩
      · simp only at h1 h2 h3
        subst h1; subst h2
        rw [g1, pass4, room_ok (by omega) (by omega), Option.bind_some, chk_ok (by omega) (by omega), Option.bind_some]
        have hI2 : SInv c D full (i + 1) (q2 ++ [s]) q1 := ⟨hlen, by have h0 := hI.once; rw [hdrop] at h0; rw [List.append_assoc]; exact h0, hI.here⟩
        rcases hBB m rfl q3 (q2 ++ [s]) q4 q1 hI2 h3 with ⟨k1, k2⟩ | ⟨⟨r1, r2, r3, r4⟩, k1, k2, k3, k4⟩
        · exact .inl ⟨by rw [k1]; rfl, by omega, .inr k2⟩
        · simp only at k2 k3 k4
          subst k2; subst k3
          have e : ((q2 ++ [s]).length : Int) - 1 = ((q2.length : Nat) : Int) := by simp
          rw [k1, pass4, e, chk_ok (by omega) (by omega), Option.bind_some, show (0 : Int) = ((0 : Nat) : Int) from rfl, cutS_ok (Nat.zero_le _) (by simp), Option.bind_some]
          refine .inr ⟨_, rfl, ?_, rfl, k4⟩
          simp
include hc in
theorem S2_says : ∀ (N m i : Nat), i + m = c.opn.length → ∀ (best : Ro) (lost left : List Int) (now : Ro), SInv c D full i lost now → (best = [] ∨ SGood c D full best left) →
    (S2 c N (i : Int) best lost left now = none ∧ N ≤ m) ∨ ∃ r, S2 c N (i : Int) best lost left now = some r ∧ SPost c D full lost now r
  | 0, m, i, _, best, lost, left, now, _, _ => .inl ⟨rfl, Nat.zero_le _⟩
  | N + 1, m, i, hm, best, lost, left, now, hI, hB => by
    have ihB : ∀ m' i', i' + m' = c.opn.length → ∀ best lost left now, SInv c D full i' lost now → (best = [] ∨ SGood c D full best left) → (S2 c N (i' : Int) best lost left now = none ∧ N ≤ m') ∨ ∃ r, S2 c N (i' : Int) best lost left now = some r ∧ SPost c D full lost now r := fun m' i' h => S2_says N m' i' h
    have ihA : ∀ (M m' i' : Nat), i' + m' = c.opn.length → ∀ best lost left now, SInv c D full i' lost now → (best = [] ∨ SGood c D full best left) → (S3 c N M (i' : Int) best lost left now = none ∧ (M ≤ m' ∨ (1 ≤ m' ∧ N ≤ m' - 1))) ∨ ∃ r, S3 c N M (i' : Int) best lost left now = some r ∧ SPost c D full lost now r := by
      intro M
      induction M with
      | zero => intro m' i' _ best lost left now _ _; exact .inl ⟨rfl, .inl (Nat.zero_le _)⟩
      | succ M ih =>
        intro m' i' h best lost left now hI hB
        rw [S3_step]
        rcases gStep_says hc (rcA := S3 c N M) (rcB := S2 c N) (XA := M ≤ m' - 1 ∨ (1 ≤ m' - 1 ∧ N ≤ m' - 1 - 1)) (XB := N ≤ m' - 1) h best lost left now hI hB (fun m2 e best lost left now hI hB => by
            subst e
            have := ih m2 (i' + 1) (by omega) best lost left now hI hB
            rw [show ((i' + 1 : Nat) : Int) = (i' : Int) + 1 by omega] at this
            exact this) (fun m2 e best lost left now hI hB => by
            subst e
            have := ihB m2 (i' + 1) (by omega) best lost left now hI hB
            rw [show ((i' + 1 : Nat) : Int) = (i' : Int) + 1 by omega] at this
            exact this) with ⟨g1, g2, g3⟩ | g
        · exact .inl ⟨g1, by omega⟩
        · exact .inr g
    rw [S2_step]
    rcases gStep_says hc (rcA := fun i best lost left now => lim (fun M => S3 c N M i best lost left now)) (rcB := S2 c N) (XA := 1 ≤ m - 1 ∧ N ≤ m - 1 - 1) (XB := N ≤ m - 1) hm best lost left now hI hB (fun m2 e best lost left now hI hB => by
        subst e
        refine lim_X m2 (fun M => ?_)
        have := ihA M m2 (i + 1) (by omega) best lost left now hI hB
        rw [show ((i + 1 : Nat) : Int) = (i : Int) + 1 by omega] at this
        exact this) (fun m2 e best lost left now hI hB => by
        subst e
        have := ihB m2 (i + 1) (by omega) best lost left now hI hB
        rw [show ((i + 1 : Nat) : Int) = (i : Int) + 1 by omega] at this
        exact this) with ⟨g1, g2, g3⟩ | g
    · exact .inl ⟨g1, by omega⟩
    · exact .inr g
include hc in
theorem S2_lim (m i : Nat) (hm : i + m = c.opn.length) (best : Ro) (lost left : List Int) (now : Ro) (hI : SInv c D full i lost now) (hB : best = [] ∨ SGood c D full best left) :
    ∃ r, lim (fun N => S2 c N (i : Int) best lost left now) = some r ∧ SPost c D full lost now r := by
  rcases lim_X (f := fun N => S2 c N (i : Int) best lost left now) (P := SPost c D full lost now) (Y := False) m (fun N => by
    rcases S2_says hc N m i hm best lost left now hI hB with ⟨g1, g2⟩ | g
    · exact .inl ⟨g1, .inl g2⟩
    · exact .inr g) with ⟨_, h⟩ | g
  · exact h.elim
  · exact g
include hc in
theorem S4_says : ∀ (N m i : Nat), i + m = c.opn.length → ∀ (best : Ro) (lost left : List Int) (now : Ro), SInv c D full i lost now → (best = [] ∨ SGood c D full best left) →
    (S4 c N (i : Int) best lost left now = none ∧ N ≤ m) ∨ ∃ r, S4 c N (i : Int) best lost left now = some r ∧ SPost c D full lost now r
  | 0, m, i, _, best, lost, left, now, _, _ => .inl ⟨rfl, Nat.zero_le _⟩
  | N + 1, m, i, hm, best, lost, left, now, hI, hB => by
    rw [S4_step]
    rcases gStep_says hc (rcA := S4 c N) (rcB := fun i best lost left now => lim (fun M => S2 c M i best lost left now)) (XA := N ≤ m - 1) (XB := False) hm best lost left now hI hB (fun m2 e best lost left now hI hB => by
        subst e
        have := S4_says N m2 (i + 1) (by omega) best lost left now hI hB
        rw [show ((i + 1 : Nat) : Int) = (i : Int) + 1 by omega] at this
        exact this) (fun m2 e best lost left now hI hB => by
        subst e
        have := S2_lim hc m2 (i + 1) (by omega) best lost left now hI hB
        rw [show ((i + 1 : Nat) : Int) = (i : Int) + 1 by omega] at this
        exact .inr this) with ⟨g1, g2, g3⟩ | g
    · exact .inl ⟨g1, by have := g3.resolve_right id; omega⟩
    · exact .inr g
include hc in
theorem S4_lim (m i : Nat) (hm : i + m = c.opn.length) (best : Ro) (lost left : List Int) (now : Ro) (hI : SInv c D full i lost now) (hB : best = [] ∨ SGood c D full best left) :
    ∃ r, lim (fun N => S4 c N (i : Int) best lost left now) = some r ∧ SPost c D full lost now r := by
  rcases lim_X (f := fun N => S4 c N (i : Int) best lost left now) (P := SPost c D full lost now) (Y := False) m (fun N => by
    rcases S4_says hc N m i hm best lost left now hI hB with ⟨g1, g2⟩ | g
    · exact .inl ⟨g1, .inl g2⟩
    · exact .inr g) with ⟨_, h⟩ | g
  · exact h.elim
  · exact g
include hc in
theorem S1_lim (now : Ro) (hI : SInv c D full 0 [] now) : ∃ r, lim (fun N => S1 c N 0 [] [] [] now) = some r ∧ SPost c D full [] now r := by
  rcases lim_X (f := fun N => S1 c N 0 [] [] [] now) (P := SPost c D full [] now) (Y := False) 0 (fun N => by
    cases N with
    | zero => exact .inl ⟨rfl, .inl (Nat.le_refl _)⟩
    | succ N =>
      rw [S1_step]
      rcases gStep_says hc (rcA := fun i best lost left now => lim (fun M => S4 c M i best lost left now)) (rcB := fun i best lost left now => lim (fun M => S2 c M i best lost left now)) (XA := False) (XB := False) (m := c.opn.length) (i := 0) (by omega) [] [] [] now hI (.inl rfl) (fun m2 e best lost left now hI hB => .inr (S4_lim hc m2 1 (by omega) best lost left now hI hB)) (fun m2 e best lost left now hI hB => .inr (S2_lim hc m2 1 (by omega) best lost left now hI hB)) with ⟨_, _, g⟩ | g
      · rcases g with g | g <;> exact g.elim
      · exact .inr g) with ⟨_, h⟩ | g
  · exact h.elim
  · exact g
end
end Go.Proofs.Ytnmhabgnfifkdaa
