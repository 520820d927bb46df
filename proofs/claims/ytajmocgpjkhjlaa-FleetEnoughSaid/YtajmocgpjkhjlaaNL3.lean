/- Plain: the turns of all tasks. -/
import Derived.Test.YtajmocgpjkhjlaaNL2
set_option linter.unusedVariables false
set_option linter.unusedSimpArgs false
namespace Go.Proofs.Ytajmocgpjkhjlaa
open Go.RowKit Go.Fp

def rep (l : List FleetTask) (y : Int) : List Int := List.replicate (tk l y).Units.toNat y
def exl (l : List FleetTask) (o : List Int) : List Int := o.flatMap (rep l)
theorem exl_app (l : List FleetTask) (a b : List Int) : exl l (a ++ b) = exl l a ++ exl l b := List.flatMap_append
theorem exl_cons (l : List FleetTask) (y : Int) (b : List Int) : exl l (y :: b) = rep l y ++ exl l b := List.flatMap_cons
theorem exl_one (l : List FleetTask) (y : Int) : exl l [y] = rep l y := by rw [exl_cons]; show rep l y ++ [] = _; rw [List.append_nil]
theorem rep_mem {l : List FleetTask} {y z : Int} (h : z ∈ rep l y) : z = y := (List.mem_replicate.1 h).2
theorem exl_mem {l : List FleetTask} {o : List Int} {z : Int} (h : z ∈ exl l o) : z ∈ o := by
  obtain ⟨y, hy, hz⟩ := List.mem_flatMap.1 h
  rw [rep_mem hz]
  exact hy
theorem ls_rep (f : Int → Int) (m : Nat) (y : Int) : ls f (List.replicate m y) = (m : Int) * f y := by
  induction m with
  | zero => rw [List.replicate_zero, ls_nil]; simp
  | succ m ih => rw [List.replicate_succ, ls_cons, ih, Int.natCast_add, Int.add_mul]; simp; omega
section
variable {l : List FleetTask} {x : Int}
theorem exl_len (hT : TurnOk l x) : ∀ o : List Int, (∀ y ∈ o, Val l y) → (exl l o).length ≤ 4 * o.length
  | [], _ => Nat.le_refl _
  | y :: o, h => by
    have ih := exl_len hT o (fun z hz => h z (List.mem_cons_of_mem _ hz))
    have ok := ok_tk hT (h y List.mem_cons_self)
    unfold OkTask at ok
    rw [exl_cons, List.length_append, List.length_cons]
    unfold rep
    rw [List.length_replicate]
    omega
theorem ls_exl (hT : TurnOk l x) (f : Int → Int) : ∀ o : List Int, (∀ y ∈ o, Val l y) → ls f (exl l o) = ls (fun y => (tk l y).Units * f y) o
  | [], _ => rfl
  | y :: o, h => by
    have ih := ls_exl hT f o (fun z hz => h z (List.mem_cons_of_mem _ hz))
    have ok := ok_tk hT (h y List.mem_cons_self)
    unfold OkTask at ok
    rw [exl_cons, ls_app, ls_cons, ih]
    unfold rep
    rw [ls_rep, show (((tk l y).Units.toNat : Nat) : Int) = (tk l y).Units by omega]
theorem ls_iota (f : Int → Int) : ∀ n, ls f (iota n) = sumN n (fun i => f (i : Int))
  | 0 => rfl
  | n + 1 => by
    have : iota (n + 1) = iota n ++ [(n : Int)] := by
      unfold iota
      rw [List.range_succ, List.map_append]
      rfl
    rw [this, ls_app, ls_one, ls_iota f n, sumN_succ]
theorem ls_all (hT : TurnOk l x) (f : Int → Int) {o : List Int} (hp : o.Perm (iota l.length)) : ls f (exl l o) = sumN l.length (fun i => (tk l (i : Int)).Units * f (i : Int)) := by
  have hv : ∀ y ∈ o, Val l y := fun y hy => iota_mem (hp.subset hy)
  rw [ls_exl hT f o hv, ls_perm hp, ls_iota]
theorem le_dep {a b : Int} (ha : Val l a) (hb : Val l b) (h : Le l a b) : (tk l a).Dep ≤ (tk l b).Dep := by
  unfold Le at h
  rw [dep_tk ha, dep_tk hb] at h
  exact h
theorem task_step (hT : TurnOk l x) {o : List Int} (hv : ∀ y ∈ o, Val l y) (hs : o.Pairwise (Le l)) (h40 : o.length ≤ 40) {k : Nat} (hk : k < o.length) {rows : List (List Int)} (h : ∃ S, Inv l x (exl l o) (exl l (o.take k)) rows S) :
    ∃ rows', mFleetTurns_L12718 l x o k rows = some rows' ∧ ∃ S, Inv l x (exl l o) (exl l (o.take (k + 1))) rows' S := by
  have hy := hv _ (List.getElem_mem hk)
  have ok := ok_tk hT hy
  unfold OkTask at ok
  obtain ⟨u, hu⟩ : ∃ u : Nat, (tk l o[k]).Units = (u : Int) := ⟨(tk l o[k]).Units.toNat, by omega⟩
  have eo : o = o.take k ++ o[k] :: o.drop (k + 1) := by
    rw [← List.drop_eq_getElem_cons hk, List.take_append_drop]
  have hs' := hs
  rw [eo, List.pairwise_append, List.pairwise_cons] at hs'
  have eF : exl l o = exl l (o.take k) ++ (List.replicate u o[k] ++ exl l (o.drop (k + 1))) := by
    have h1 : exl l o = exl l (o.take k ++ o[k] :: o.drop (k + 1)) := by rw [← eo]
    rw [h1, exl_app, exl_cons]
    unfold rep
    rw [hu, Int.toNat_natCast]
  have hlen := exl_len hT o hv
  unfold mFleetTurns_L12718
  rw [idx_lt hk, Option.bind_some, idx_tk hy, Option.bind_some, hu, chk_ok (by omega) (by omega), Option.bind_some, Int.toNat_natCast]
  obtain ⟨rows', h1, S, h2⟩ := forS_inv (body := mFleetTurns_L21113 l x o[k]) (fun j rows => ∃ S, Inv l x (exl l o) (exl l (o.take k) ++ List.replicate j o[k]) rows S) u 0 rows (by
      obtain ⟨S, hS⟩ := h
      exact ⟨S, by rw [List.replicate_zero, List.append_nil]; exact hS⟩) (fun j rows _ hj hI => by
    obtain ⟨S, hS⟩ := hI
    have eF2 : exl l o = (exl l (o.take k) ++ List.replicate j o[k]) ++ o[k] :: (List.replicate (u - j - 1) o[k] ++ exl l (o.drop (k + 1))) := by
      have hrep : List.replicate u o[k] = List.replicate j o[k] ++ o[k] :: List.replicate (u - j - 1) o[k] := by
        rw [← List.replicate_succ, List.replicate_append_replicate]
        congr 1
        omega
      rw [eF, hrep]
      simp
    have hF := congrArg List.length eF2
    rw [List.length_append] at hF
    rw [eF2] at hS
    obtain ⟨rows', S', g1, g2⟩ := inv_next hT hS (by omega) hy (fun z hz => by
      rcases List.mem_append.1 hz with hz | hz
      · have hz' := exl_mem hz
        exact le_dep (hv z (List.mem_of_mem_take hz')) hy (hs'.2.2 z hz' _ List.mem_cons_self)
      · rw [(List.mem_replicate.1 hz).2]
        exact Int.le_refl _) (fun z hz => by
      rcases List.mem_append.1 hz with hz | hz
      · rw [(List.mem_replicate.1 hz).2]
        exact ⟨hy, Int.le_refl _⟩
      · have hz' := exl_mem hz
        have hzv := hv z (List.mem_of_mem_drop hz')
        exact ⟨hzv, le_dep hy hzv (hs'.2.1.1 z hz')⟩) j
    rw [← eF2] at g2
    refine ⟨rows', g1, S', ?_⟩
    rw [List.replicate_succ', ← List.append_assoc]
    exact g2)
  rw [h1]
  refine ⟨rows', rfl, S, ?_⟩
  rw [Nat.zero_add] at h2
  rw [List.take_succ_eq_append_getElem hk, exl_app, exl_one]
  unfold rep
  rw [hu, Int.toNat_natCast]
  exact h2
theorem turns_spec (hT : TurnOk l x) : ∃ o rows S, mFleetOrder l = some o ∧ o.Perm (iota l.length) ∧ mFleetTurns l x = some (0, rows) ∧ Inv l x (exl l o) (exl l o) rows S := by
  obtain ⟨c, c1, c2⟩ := turn_spec l x
  obtain ⟨o, o1, o2, o3⟩ := order_spec (l := l) hT.n40
  have hv : ∀ y ∈ o, Val l y := fun y hy => iota_mem (o2.subset hy)
  have hl : o.length = l.length := by rw [o2.length_eq, iota_len]
  have h40 := hT.n40
  obtain ⟨rows, h1, S, h2⟩ := forS_inv (body := mFleetTurns_L12718 l x o) (fun k rows => ∃ S, Inv l x (exl l o) (exl l (o.take k)) rows S) o.length 0 [] ⟨_, inv_start _⟩ (fun k rows _ hk hI => task_step hT hv o3 (by omega) (by omega) hI)
  rw [Nat.zero_add, List.take_length] at h2
  refine ⟨o, rows, S, o1, o2, ?_, h2⟩
  unfold mFleetTurns
  rw [c1, Option.bind_some, if_neg (by simpa using c2.2 hT), o1, Option.bind_some, h1]
  rfl
end
end Go.Proofs.Ytajmocgpjkhjlaa
