/- Plain: the law that as many turns are made as are short, both ways round. -/
import Derived.Test.YtajmocgpjkhjlaaNL5
import Derived.KernelRfl
set_option linter.unusedVariables false
set_option linter.unusedSimpArgs false
namespace Go.Proofs.Ytajmocgpjkhjlaa
open Go.RowKit Go.Fp

/-- The task run the other way. -/
def rev (t : FleetTask) : FleetTask := ⟨t.To, t.From, 28800 - t.Arr, 28800 - t.Dep, t.Km, t.Units⟩
def revs (l : List FleetTask) : List FleetTask := l.map rev
def ind (a : Int) (p : Nat) : Int := if a = (p : Int) then 1 else 0
theorem sumN_swap (f : Nat → Nat → Int) (n : Nat) : ∀ a, sumN a (fun p => sumN n (fun i => f p i)) = sumN n (fun i => sumN a (fun p => f p i))
  | 0 => (sumN_zero n).symm
  | a + 1 => by
    rw [sumN_succ, sumN_swap f n a, ← sumN_add]
    exact sumN_congr (fun i _ => rfl)
theorem ind_sum {a u : Int} (h : 0 ≤ a ∧ a ≤ 11) : sumN 12 (fun p => u * ind a p) = u := by
  rw [sumN_congr (g := fun p => if p = a.toNat then u else 0) (fun p _ => by
    unfold ind
    by_cases e : p = a.toNat
    · rw [if_pos e, if_pos (by omega), Int.mul_one]
    · rw [if_neg e, if_neg (by omega), Int.mul_zero]), sumN_single, if_pos (by omega)]
section
variable {l : List FleetTask} {x : Int}
theorem rev_ok {t : FleetTask} (h : OkTask t) : OkTask (rev t) := by
  unfold OkTask at h ⊢
  unfold rev
  simp only
  omega
theorem revs_ok (hT : TurnOk l x) : TurnOk (revs l) x := by
  refine ⟨by unfold revs; rw [List.length_map]; exact hT.n40, fun t ht => ?_, hT.turn⟩
  obtain ⟨s, hs, rfl⟩ := List.mem_map.1 ht
  exact rev_ok (hT.tasks s hs)
theorem tk_at {i : Nat} (h : i < l.length) : tk l (i : Int) = l[i] := by
  have := idx_tk (l := l) (i := (i : Int)) ⟨by omega, by omega⟩
  rw [idx_lt h] at this
  injection this with this
  exact this.symm
theorem tk_rev {i : Nat} (h : i < l.length) : tk (revs l) (i : Int) = rev (tk l (i : Int)) := by
  rw [tk_at (l := revs l) (by unfold revs; rw [List.length_map]; exact h), tk_at h]
  unfold revs
  rw [List.getElem_map]
/-- What comes to the place above what goes. -/
def net (l : List FleetTask) (p : Nat) : Int := sumN l.length (fun i => (tk l (i : Int)).Units * ind (tk l (i : Int)).To p - (tk l (i : Int)).Units * ind (tk l (i : Int)).From p)
theorem net_sum (hT : TurnOk l x) : sumN 12 (fun p => net l p) = 0 := by
  unfold net
  rw [sumN_swap, sumN_congr (g := fun _ => 0) (fun i hi => ?_), sumN_zero]
  have ok := hT.tasks _ (List.getElem_mem hi)
  rw [← tk_at hi] at ok
  unfold OkTask at ok
  rw [sumN_sub, ind_sum (by omega), ind_sum (by omega)]
  omega
theorem sh_rev (hT : TurnOk l x) (p : Nat) (t : Int) : shN (revs l) x p t = net l p + shN l x p (28799 + x - t) := by
  unfold shN net
  rw [← sumN_add, show (revs l).length = l.length by unfold revs; rw [List.length_map]]
  refine sumN_congr (fun i hi => ?_)
  have h1 : dT (revs l) p t (i : Int) = ind (tk l (i : Int)).To p - aT l x p (28799 + x - t) (i : Int) := by
    unfold dT aT ind
    rw [tk_rev hi]
    unfold rev
    simp only
    by_cases e : (tk l (i : Int)).To = (p : Int)
    · rw [if_pos e]
      by_cases c : 28800 - (tk l (i : Int)).Arr ≤ t
      · rw [if_pos ⟨e, c⟩, if_neg (fun h => by omega)]
        rfl
      · rw [if_neg (fun h => c h.2), if_pos ⟨e, by omega⟩]
        rfl
    · rw [if_neg e, if_neg (fun h => e h.1), if_neg (fun h => e h.1)]
      rfl
  have h2 : aT (revs l) x p t (i : Int) = ind (tk l (i : Int)).From p - dT l p (28799 + x - t) (i : Int) := by
    unfold dT aT ind
    rw [tk_rev hi]
    unfold rev
    simp only
    by_cases e : (tk l (i : Int)).From = (p : Int)
    · rw [if_pos e]
      by_cases c : 28800 - (tk l (i : Int)).Dep + x ≤ t
      · rw [if_pos ⟨e, c⟩, if_neg (fun h => by omega)]
        rfl
      · rw [if_neg (fun h => c h.2), if_pos ⟨e, by omega⟩]
        rfl
    · rw [if_neg e, if_neg (fun h => e h.1), if_neg (fun h => e h.1)]
      rfl
  have h3 : (tk (revs l) (i : Int)).Units = (tk l (i : Int)).Units := by rw [tk_rev hi]; rfl
  rw [h1, h2, h3, Int.mul_sub, Int.mul_sub, Int.mul_sub, Int.mul_sub]
  omega
theorem sh_none (hT : TurnOk l x) (p : Nat) : shN l x p (-1) = 0 := by
  have hx := hT.turn
  unfold shN
  rw [sumN_congr (g := fun _ => 0) (fun i hi => ?_), sumN_zero]
  have ok := hT.tasks _ (List.getElem_mem hi)
  rw [← tk_at hi] at ok
  unfold OkTask at ok
  unfold dT aT
  rw [if_neg (fun h => by omega), if_neg (fun h => by omega)]
  simp
theorem sh_all (hT : TurnOk l x) (p : Nat) : shN l x p 100000 = - net l p := by
  have hx := hT.turn
  have e : shN l x p 100000 + net l p = 0 := by
    unfold shN net
    rw [← sumN_add, sumN_congr (g := fun _ => 0) (fun i hi => ?_), sumN_zero]
    have ok := hT.tasks _ (List.getElem_mem hi)
    rw [← tk_at hi] at ok
    unfold OkTask at ok
    have h1 : dT l p 100000 (i : Int) = ind (tk l (i : Int)).From p := by
      unfold dT ind
      by_cases e : (tk l (i : Int)).From = (p : Int)
      · rw [if_pos e, if_pos ⟨e, by omega⟩]
      · rw [if_neg e, if_neg (fun h => e h.1)]
    have h2 : aT l x p 100000 (i : Int) = ind (tk l (i : Int)).To p := by
      unfold aT ind
      by_cases e : (tk l (i : Int)).To = (p : Int)
      · rw [if_pos e, if_pos ⟨e, by omega⟩]
      · rw [if_neg e, if_neg (fun h => e h.1)]
    rw [h1, h2, Int.mul_sub]
    omega
  omega
theorem both_ways (hT : TurnOk l x) {o o' : List Int} (hp : o.Perm (iota l.length)) (hp' : o'.Perm (iota (revs l).length)) {rows rows' : List (List Int)} {S S' : Nat → Int} (hI : Inv l x (exl l o) (exl l o) rows S) (hI' : Inv (revs l) x (exl (revs l) o') (exl (revs l) o') rows' S') (p : Nat) : S' p = S p + net l p := by
  have hT' := revs_ok hT
  have low : ∀ t, shN l x p t ≤ S p := fun t => by
    have := hI.low p t
    rw [sh_eq hT hp] at this
    exact this
  have low' : ∀ t, shN (revs l) x p t ≤ S' p := fun t => by
    have := hI'.low p t
    rw [sh_eq hT' hp'] at this
    exact this
  have h1 : S' p ≤ S p + net l p := by
    rcases hI'.up p with h | ⟨y, _, h⟩
    · have := low 100000
      rw [sh_all hT] at this
      omega
    · rw [sh_eq hT' hp', sh_rev hT] at h
      have := low (28799 + x - (tk (revs l) y).Dep)
      omega
  have h2 : S p + net l p ≤ S' p := by
    rcases hI.up p with h | ⟨y, _, h⟩
    · have := low' (28800 + x)
      rw [sh_rev hT, show 28799 + x - (28800 + x) = -1 by omega, sh_none hT] at this
      omega
    · rw [sh_eq hT hp] at h
      have := low' (28799 + x - (tk l y).Dep)
      rw [sh_rev hT, show 28799 + x - (28799 + x - (tk l y).Dep) = (tk l y).Dep by omega] at this
      omega
  omega
theorem rev_loop (hT : TurnOk l x) : forS (mFishkeep2FleetEnough_L313 l) l.length 0 [] = some (revs l) := by
  have hn := hT.n40
  obtain ⟨L, h1, h2⟩ := forS_inv (body := mFishkeep2FleetEnough_L313 l) (fun k L => L = revs (l.take k)) l.length 0 [] rfl (fun k L _ hk hi => by
    have hk' : k < l.length := by omega
    have ok := hT.tasks _ (List.getElem_mem hk')
    unfold OkTask at ok
    have hl : L.length = k := by
      rw [hi]
      unfold revs
      rw [List.length_map, List.length_take]
      omega
    unfold mFishkeep2FleetEnough_L313
    rw [idx_lt hk', Option.bind_some, chk_ok (by omega) (by omega), Option.bind_some, chk_ok (by omega) (by omega), Option.bind_some, room_ok (by omega) (by omega), Option.bind_some]
    refine ⟨_, rfl, ?_⟩
    rw [List.take_succ_eq_append_getElem hk', hi]
    unfold revs
    rw [List.map_append]
    rfl)
  rw [h1, h2, Nat.zero_add, List.take_length]
theorem fault_eq (l : List FleetTask) (x : Int) : mFishref2TurnFault l x = mFleetCheckTurn l x := rfl
end
theorem awake_true : mFishkeep2AwakeFleet = some true := by kernel_rfl
def twoT : List FleetTask := [⟨0, 1, 10, 20, 0, 1⟩, ⟨1, 0, 25, 29, 0, 1⟩]
theorem ins_two : mSlicesInsertionSortCmpFunc 0 2 twoT [0, 1] = some [0, 1] := by
  have i1 : loopM (mSlicesInsertionSortCmpFunc_L10142 0 twoT) (1, [0, 1]) = some [0, 1] := loopM_last (by kernel_rfl)
  have s1 : mSlicesInsertionSortCmpFunc_L5538 0 2 twoT (1, [0, 1]) = some (.inl (2, [0, 1])) := by
    unfold mSlicesInsertionSortCmpFunc_L5538
    simp only [unc2]
    rw [if_pos (by decide), i1]
    kernel_rfl
  have s2 : mSlicesInsertionSortCmpFunc_L5538 0 2 twoT (2, [0, 1]) = some (.inr [0, 1]) := by kernel_rfl
  unfold mSlicesInsertionSortCmpFunc
  show loopM (mSlicesInsertionSortCmpFunc_L5538 0 2 twoT) (1, [0, 1]) = _
  rw [loopM_next s1, loopM_last s2]
theorem sort_two : mSlicesSortStableFunc twoT [0, 1] = some [0, 1] := by
  unfold mSlicesSortStableFunc mSlicesStableCmpFunc
  show ((loopM (mSlicesStableCmpFunc_L604 2 twoT) (0, 20, [0, 1])).bind _).bind _ = _
  rw [loopM_last (t := (0, [0, 1])) (by kernel_rfl), Option.bind_some]
  show ((mSlicesInsertionSortCmpFunc 0 2 twoT [0, 1]).bind _).bind _ = _
  rw [ins_two, Option.bind_some]
  show (loopM (mSlicesStableCmpFunc_L655 2 twoT) (20, [0, 1])).bind _ = _
  rw [loopM_last (t := [0, 1]) (by kernel_rfl)]
  rfl
theorem order_two : mFleetOrder twoT = some [0, 1] := by
  unfold mFleetOrder
  show (mSlicesSortStableFunc twoT [0, 1]).bind _ = _
  rw [sort_two]
  rfl
theorem turns_two : mFleetTurns twoT 0 = some (0, [[0, 1]]) := by
  unfold mFleetTurns
  rw [show mFleetCheckTurn twoT 0 = some 0 by kernel_rfl, Option.bind_some, if_neg (by decide), order_two, Option.bind_some]
  kernel_rfl
theorem sets_true : mFishkeep2Sets = some true := by
  unfold mFishkeep2Sets
  show (mFleetTurns twoT 0).bind _ = _
  rw [turns_two]
  kernel_rfl
theorem enoughPlain (l : List FleetTask) (x : Int) : mFishkeep2FleetEnough l x = some true := by
  unfold mFishkeep2FleetEnough
  rw [awake_true, Option.bind_some, if_pos rfl, sets_true, Option.bind_some, if_pos rfl, fault_eq]
  obtain ⟨c, c1, c2⟩ := turn_spec l x
  rw [c1, Option.bind_some]
  by_cases hc : c = 0
  · have hT := c2.1 hc
    have hT' := revs_ok hT
    obtain ⟨o, rows, S, o1, o2, o3, hI⟩ := turns_spec hT
    obtain ⟨o', rows', S', p1, p2, p3, hI'⟩ := turns_spec hT'
    obtain ⟨L, m1, m2⟩ := moments_spec hT o1 o2 hI
    have hlen : (rows'.length : Int) = (rows.length : Int) := by
      have h := hI'.sum
      rw [sumN_congr (g := fun p => S p + net l p) (fun p _ => both_ways hT o2 p2 hI hI' p), sumN_add, net_sum hT, hI.sum] at h
      omega
    rw [if_neg (by simpa using hc), o3, pass2, m1, pass2, m2, Option.bind_some, hI.sum, if_neg (by decide), if_neg (by decide), if_neg (by simp), legal_ok hT o2 hI, Option.bind_some, decide_eq_false (by decide), Option.bind_some, if_neg (by decide), rev_loop hT, Option.bind_some, p3, pass2, if_pos rfl, Option.bind_some, decide_eq_true hlen]
  · rw [if_pos hc]
end Go.Proofs.Ytajmocgpjkhjlaa
