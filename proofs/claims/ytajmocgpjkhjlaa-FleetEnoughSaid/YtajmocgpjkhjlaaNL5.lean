/- Plain: the moments, place by place. -/
import Derived.Test.YtajmocgpjkhjlaaNL4
set_option linter.unusedVariables false
set_option linter.unusedSimpArgs false
namespace Go.Proofs.Ytajmocgpjkhjlaa
open Go.RowKit Go.Fp

theorem sumN_sub {f g : Nat → Int} : ∀ n, sumN n (fun p => f p - g p) = sumN n f - sumN n g
  | 0 => rfl
  | n + 1 => by rw [sumN_succ, sumN_succ, sumN_succ, sumN_sub n]; omega
/-- What is short at the place by the time. -/
def shN (l : List FleetTask) (x : Int) (p : Nat) (t : Int) : Int := sumN l.length (fun i => (tk l (i : Int)).Units * (dT l p t (i : Int) - aT l x p t (i : Int)))
section
variable {l : List FleetTask} {x : Int}
theorem sh_eq (hT : TurnOk l x) {o : List Int} (hp : o.Perm (iota l.length)) (p : Nat) (t : Int) : sh l x (exl l o) p t = shN l x p t := by
  unfold sh shN
  rw [ls_all hT _ hp, ls_all hT _ hp, ← sumN_sub]
  exact sumN_congr (fun i _ => (Int.mul_sub _ _ _).symm)
theorem short_spec (hT : TurnOk l x) (p : Nat) {s : FleetTask} (hs : OkTask s) : forS (mFleetMoments_L2941 l x p s) l.length 0 0 = some (shN l x p s.Dep) ∧ -160 ≤ shN l x p s.Dep ∧ shN l x p s.Dep ≤ 160 := by
  have hn := hT.n40
  have hx := hT.turn
  unfold OkTask at hs
  obtain ⟨v, h1, h2, h3⟩ := forS_inv (body := mFleetMoments_L2941 l x p s) (fun k v => v = sumN k (fun i => (tk l (i : Int)).Units * (dT l p s.Dep (i : Int) - aT l x p s.Dep (i : Int))) ∧ -4 * (k : Int) ≤ v ∧ v ≤ 4 * (k : Int)) l.length 0 0 ⟨rfl, by omega, by omega⟩ (fun k v _ hk hi => by
    obtain ⟨g1, g2⟩ := hi
    have hk' : k < l.length := by omega
    have ek : tk l (k : Int) = l[k] := by
      have := idx_tk (l := l) (i := (k : Int)) ⟨by omega, by omega⟩
      rw [idx_lt hk'] at this
      injection this with this
      exact this.symm
    have ok := hT.tasks _ (List.getElem_mem hk')
    unfold OkTask at ok
    unfold mFleetMoments_L2941
    rw [idx_lt hk', Option.bind_some]
    have hD : (if l[k].From = (p : Int) then some (decide (l[k].Dep ≤ s.Dep)) else some false) = some (decide (l[k].From = (p : Int) ∧ l[k].Dep ≤ s.Dep)) := by
      by_cases c : l[k].From = (p : Int)
      · rw [if_pos c]; simp [c]
      · rw [if_neg c]; simp [c]
    have hA : (if l[k].To = (p : Int) then (chk (l[k].Arr + x)).bind fun _ => some (decide (l[k].Arr + x ≤ s.Dep)) else some false) = some (decide (l[k].To = (p : Int) ∧ l[k].Arr + x ≤ s.Dep)) := by
      by_cases c : l[k].To = (p : Int)
      · rw [if_pos c, chk_ok (by omega) (by omega), Option.bind_some]; simp [c]
      · rw [if_neg c]; simp [c]
    rw [hD, hA, Option.bind_some]
    by_cases c1 : l[k].From = (p : Int) ∧ l[k].Dep ≤ s.Dep
    · have e1 : dT l p s.Dep (k : Int) = 1 := by
        unfold dT
        rw [ek, if_pos c1]
      rw [decide_eq_true c1, if_pos rfl, chk_ok (by omega) (by omega), Option.bind_some, Option.bind_some, Option.bind_some]
      by_cases c2 : l[k].To = (p : Int) ∧ l[k].Arr + x ≤ s.Dep
      · have e2 : aT l x p s.Dep (k : Int) = 1 := by
          unfold aT
          rw [ek, if_pos c2]
        rw [decide_eq_true c2, if_pos rfl, chk_ok (by omega) (by omega), Option.bind_some]
        exact ⟨_, rfl, by rw [sumN_succ, e1, e2, ek, ← g1]; omega, by omega, by omega⟩
      · have e2 : aT l x p s.Dep (k : Int) = 0 := by
          unfold aT
          rw [ek, if_neg c2]
        rw [decide_eq_false c2, if_neg (by decide)]
        exact ⟨_, rfl, by rw [sumN_succ, e1, e2, ek, ← g1]; omega, by omega, by omega⟩
    · have e1 : dT l p s.Dep (k : Int) = 0 := by
        unfold dT
        rw [ek, if_neg c1]
      rw [decide_eq_false c1, if_neg (by decide), Option.bind_some, Option.bind_some]
      by_cases c2 : l[k].To = (p : Int) ∧ l[k].Arr + x ≤ s.Dep
      · have e2 : aT l x p s.Dep (k : Int) = 1 := by
          unfold aT
          rw [ek, if_pos c2]
        rw [decide_eq_true c2, if_pos rfl, chk_ok (by omega) (by omega), Option.bind_some]
        exact ⟨_, rfl, by rw [sumN_succ, e1, e2, ek, ← g1]; omega, by omega, by omega⟩
      · have e2 : aT l x p s.Dep (k : Int) = 0 := by
          unfold aT
          rw [ek, if_neg c2]
        rw [decide_eq_false c2, if_neg (by decide)]
        exact ⟨_, rfl, by rw [sumN_succ, e1, e2, ek, ← g1]; omega, by omega, by omega⟩)
  rw [Nat.zero_add] at h2 h3
  have e : shN l x p s.Dep = v := by rw [h2]; rfl
  rw [e]
  exact ⟨h1, by omega, by omega⟩
theorem most_spec (hT : TurnOk l x) {o : List Int} (hp : o.Perm (iota l.length)) (p : Nat) : ∃ a m, forS (mFleetMoments_L2586 l x p o) o.length 0 (0, 0) = some (a, m) ∧ (0 ≤ m ∧ m ≤ 160) ∧ (∀ y ∈ o, shN l x p (tk l y).Dep ≤ m) ∧ (m = 0 ∨ ∃ y ∈ o, m = shN l x p (tk l y).Dep) := by
  have hv : ∀ y ∈ o, Val l y := fun y hy => iota_mem (hp.subset hy)
  obtain ⟨⟨a, m⟩, h1, h2, h3, h4⟩ := forS_inv (body := mFleetMoments_L2586 l x p o) (fun k st => (0 ≤ st.2 ∧ st.2 ≤ 160) ∧ (∀ y ∈ o.take k, shN l x p (tk l y).Dep ≤ st.2) ∧ (st.2 = 0 ∨ ∃ y ∈ o, st.2 = shN l x p (tk l y).Dep)) o.length 0 (0, 0) ⟨by simp only; omega, fun y hy => by simp at hy, .inl rfl⟩ (fun k st _ hk hi => by
    obtain ⟨a, m⟩ := st
    obtain ⟨g1, g2, g3⟩ := hi
    simp only at g1 g2 g3
    have hk' : k < o.length := by omega
    have hy := hv _ (List.getElem_mem hk')
    obtain ⟨s1, s2, s3⟩ := short_spec hT p (ok_tk hT hy)
    unfold mFleetMoments_L2586
    simp only [unc2]
    rw [idx_lt hk', Option.bind_some, idx_tk hy, Option.bind_some, s1, Option.bind_some]
    have hmem : ∀ y, y ∈ o.take (k + 1) → y ∈ o.take k ∨ y = o[k] := fun y hy => by
      rw [List.take_succ_eq_append_getElem hk'] at hy
      rcases List.mem_append.1 hy with h | h
      · exact .inl h
      · exact .inr (List.mem_singleton.1 h)
    by_cases c : m < shN l x p (tk l o[k]).Dep
    · rw [if_pos c]
      refine ⟨_, rfl, by simp only; omega, fun y hy => ?_, .inr ⟨_, List.getElem_mem hk', rfl⟩⟩
      rcases hmem y hy with h | rfl
      · have := g2 y h
        simp only
        omega
      · exact Int.le_refl _
    · rw [if_neg c]
      refine ⟨_, rfl, g1, fun y hy => ?_, g3⟩
      rcases hmem y hy with h | rfl
      · exact g2 y h
      · simp only
        omega)
  rw [Nat.zero_add, List.take_length] at h3
  exact ⟨a, m, h1, h2, h3, h4⟩
theorem most_eq (hT : TurnOk l x) {o : List Int} (hp : o.Perm (iota l.length)) {rows : List (List Int)} {S : Nat → Int} (hI : Inv l x (exl l o) (exl l o) rows S) {p : Nat} {m : Int} (h0 : 0 ≤ m) (h1 : ∀ y ∈ o, shN l x p (tk l y).Dep ≤ m) (h2 : m = 0 ∨ ∃ y ∈ o, m = shN l x p (tk l y).Dep) : m = S p := by
  have a := hI.nn p
  have up : S p ≤ m := by
    rcases hI.up p with h | ⟨y, hy, h⟩
    · omega
    · rw [sh_eq hT hp] at h
      have := h1 y (exl_mem hy)
      omega
  have dn : m ≤ S p := by
    rcases h2 with h | ⟨y, hy, h⟩
    · omega
    · have := hI.low p (tk l y).Dep
      rw [sh_eq hT hp] at this
      omega
  omega
theorem moments_spec (hT : TurnOk l x) {o : List Int} (ho : mFleetOrder l = some o) (hp : o.Perm (iota l.length)) {rows : List (List Int)} {S : Nat → Int} (hI : Inv l x (exl l o) (exl l o) rows S) :
    ∃ L, mFleetMoments l x = some (0, L) ∧ forS (mFishkeep2FleetEnough_L235 L) L.length 0 0 = some (sumN 12 S) := by
  obtain ⟨c, c1, c2⟩ := turn_spec l x
  obtain ⟨L, h1, h2, h3, h4⟩ := forS_inv (body := mFleetMoments_L1550 l x) (fun k (L : List FleetMoment) => L.length ≤ k ∧ (∀ m ∈ L, 0 ≤ m.Short ∧ m.Short ≤ 160) ∧ (L.map (fun m => m.Short)).sum = sumN k S) 12 0 [] ⟨Nat.le_refl _, fun m hm => absurd hm (by simp), rfl⟩ (fun p L _ hp' hi => by
    obtain ⟨g1, g2, g3⟩ := hi
    obtain ⟨a, m, m1, m2, m3, m4⟩ := most_spec hT hp p
    have e := most_eq hT hp hI m2.1 m3 m4
    unfold mFleetMoments_L1550
    rw [ho, Option.bind_some, m1, pass2]
    by_cases c : 0 < m
    · rw [if_pos c, room_ok (by omega) (by omega), Option.bind_some]
      refine ⟨_, rfl, by rw [List.length_append, List.length_singleton]; omega, fun q hq => ?_, ?_⟩
      · rcases List.mem_append.1 hq with hq | hq
        · exact g2 q hq
        · have : q = ⟨(p : Int), a, m⟩ := by simpa using hq
          rw [this]
          exact m2
      · rw [List.map_append, List.sum_append, g3, sumN_succ, ← e]
        simp
    · rw [if_neg c]
      refine ⟨_, rfl, by omega, g2, ?_⟩
      rw [g3, sumN_succ, ← e]
      omega)
  refine ⟨L, ?_, ?_⟩
  · unfold mFleetMoments
    rw [c1, Option.bind_some, if_neg (by simpa using c2.2 hT), h1]
    rfl
  · obtain ⟨v, v1, v2, v3⟩ := forS_inv (body := mFishkeep2FleetEnough_L235 L) (fun k v => v = ((L.take k).map (fun m => m.Short)).sum ∧ 0 ≤ v ∧ v ≤ 160 * (k : Int)) L.length 0 0 ⟨rfl, by omega, by omega⟩ (fun k v _ hk hi => by
      obtain ⟨g1, g2⟩ := hi
      have hk' : k < L.length := by omega
      have hs := h3 _ (List.getElem_mem hk')
      unfold mFishkeep2FleetEnough_L235
      rw [idx_lt hk', Option.bind_some, chk_ok (by omega) (by omega), Option.bind_some]
      refine ⟨_, rfl, ?_, by omega, by omega⟩
      rw [List.take_succ_eq_append_getElem hk', List.map_append, List.sum_append, ← g1]
      simp)
    rw [v1, v2, Nat.zero_add, List.take_length, h4]
end
end Go.Proofs.Ytajmocgpjkhjlaa
