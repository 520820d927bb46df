/- Plain facts that the walk of MendLeast asks for. -/
import Derived.Test.YtakehdnblmonlaaM13
namespace Go.Proofs.Ytakehdnblmonlaa
open Go.RowKit Go.Fp

/-- An arc that counts, at the seconds that Times hands back. -/
theorem arc_at {g : Gr} {p : List Int} {s : Sv} {T : List Int} (hV : GraphV g) (hs : pickF g p = some s) (hT : s.T = T) {a : Arc} (ha : a ∈ allA g p) :
    ∃ (f u : Nat) (tf tu : Int), a.fr = (f : Int) ∧ a.to = (u : Int) ∧ T[f]? = some tf ∧ T[u]? = some tu ∧ gt T a.fr = tf ∧ tf + a.len ≤ tu ∧ 0 ≤ tf ∧ tf ≤ 1099511627776 ∧ -28800 ≤ a.len ∧ a.len ≤ 28800 := by
  obtain ⟨h1, h2⟩ := pickF_sol hV hs
  subst hT
  have hv := h1.dv a ha
  obtain ⟨f, hf⟩ := nat_of hv.fr0
  obtain ⟨u, hu⟩ := nat_of hv.to0
  have hfN := hv.fr1
  have huN := hv.to1
  have hn := h1.nT
  obtain ⟨tf, hf1⟩ := ex_get (l := s.T) (k := f) (by omega)
  obtain ⟨tu, hu1⟩ := ex_get (l := s.T) (k := u) (by omega)
  have hsat := h1.sat a ha
  unfold Sat at hsat
  have e1 := gt_get hf1
  have e2 := gt_get hu1
  rw [hf, hu, e1, e2] at hsat
  have hb := h2.2.2 tf (mem_of_get hf1)
  exact ⟨f, u, tf, tu, hf, hu, hf1, hu1, by rw [hf]; exact e1, hsat, hb.1, hb.2, hv.lo, hv.hi⟩
theorem node_at {g : Gr} {p : List Int} {s : Sv} {T : List Int} (hV : GraphV g) (hs : pickF g p = some s) (hT : s.T = T) {k : Nat} {x r la : Int} (hx : T[k]? = some x) (hr : g.ready.l[k]? = some r) (hla : g.last.l[k]? = some la) :
    r ≤ x ∧ (0 ≤ la → x ≤ la) ∧ (x = r ∨ ∃ a ∈ allA g p, a.to = (k : Int) ∧ x = gt T a.fr + a.len) := by
  obtain ⟨h1, _⟩ := pickF_sol hV hs
  subst hT
  have hk := lt_of_get hr
  have h3 := h1.ge (k : Int) (by omega) (by omega)
  have h4 := h1.okL (k : Int) (by omega) (by omega)
  have h5 := held_law hV hs (k : Int) (by omega) (by omega)
  rw [gt_get hx, gt_get hr] at h3
  rw [gt_get hx, gt_get hla] at h4
  rw [gt_get hx, gt_get hr] at h5
  exact ⟨h3, h4, h5⟩
theorem tm_len {g : Gr} {p : List Int} {s : Sv} {T : List Int} (hV : GraphV g) (hs : pickF g p = some s) (hT : s.T = T) : T.length = g.ready.l.length := by
  obtain ⟨h1, _⟩ := pickF_sol hV hs
  subst hT
  exact h1.nT
theorem least_at {g : Gr} {p m : List Int} {s u : Sv} {T U : List Int} (hV : GraphV g) (hp : PickV g p) (hm : PickV g m) (hs : pickF g p = some s) (hu : pickF g (bothP p m) = some u) (hT : s.T = T) (hU : u.T = U) {k : Nat} {x z : Int} (hx : T[k]? = some x) (hz : U[k]? = some z) : x ≤ z := by
  have hn := tm_len hV hs hT
  have hk := lt_of_get hx
  have h := least_law hV hp hm hs hu (k : Int) (by omega) (by omega)
  subst hT
  subst hU
  rw [gt_get hx, gt_get hz] at h
  exact h
theorem pickA_pos {x : Int} {c : Sl (Sl Arc)} {j : Nat} {y : Sl Arc} (hj : x - 1 = (j : Int)) (hy : c.l[j]? = some y) : pickA (x, c.l.map (·.l)) = y.l := by
  unfold pickA
  simp only
  rw [if_pos (by omega), hj, Int.toNat_natCast, ways_get hy]
theorem pickA_neg {x : Int} {c : List (List Arc)} (h : ¬ 0 < x) : pickA (x, c) = [] := by
  unfold pickA
  rw [if_neg h]
theorem all_snoc {g : Gr} {pick : List Int} {k : Nat} {x : Int} {c : Sl (Sl Arc)} (hx : pick[k]? = some x) (hc : g.choices.l[k]? = some c) :
    g.arcs.l ++ ((pick.zip (chA g)).take (k + 1)).flatMap pickA = (g.arcs.l ++ ((pick.zip (chA g)).take k).flatMap pickA) ++ pickA (x, c.l.map (·.l)) := by
  have h : (pick.zip (chA g))[k]? = some (x, c.l.map (·.l)) := zip_get hx (by unfold chA; rw [List.getElem?_map, hc]; rfl)
  rw [take_snoc h, List.flatMap_append, List.append_assoc]
  simp
/-- What the flag of the inner loop stands for. -/
def Held (T : List Int) (D : List Arc) (k x r : Int) (j : Nat) (h : Bool) : Prop := (x = r → h = true) ∧ ∀ a ∈ D.take j, a.to = k → x = gt T a.fr + a.len → h = true
theorem Held.zero {T : List Int} {D : List Arc} {k x r : Int} : Held T D k x r 0 (decide (x = r)) := ⟨fun h => decide_eq_true h, fun a ha => absurd ha (by simp)⟩
theorem Held.snoc {T : List Int} {D : List Arc} {k x r : Int} {j : Nat} {h h' : Bool} {a : Arc} (ha : D[j]? = some a) (hH : Held T D k x r j h) (h1 : h = true → h' = true) (h2 : a.to = k → x = gt T a.fr + a.len → h' = true) : Held T D k x r (j + 1) h' := by
  refine ⟨fun h3 => h1 (hH.1 h3), fun b hb h3 h4 => ?_⟩
  rw [take_snoc ha, List.mem_append] at hb
  rcases hb with hb | hb
  · exact h1 (hH.2 b hb h3 h4)
  · rw [List.mem_singleton] at hb
    subst hb
    exact h2 h3 h4
theorem Held.done {T : List Int} {D : List Arc} {k x r : Int} {j : Nat} {h : Bool} (hH : Held T D k x r j h) (hj : D.length ≤ j) (hs : x = r ∨ ∃ a ∈ D, a.to = k ∧ x = gt T a.fr + a.len) : h = true := by
  rcases hs with h1 | ⟨a, ha, h1, h2⟩
  · exact hH.1 h1
  · exact hH.2 a (by rw [List.take_of_length_le hj]; exact ha) h1 h2
/-- The second pick while it is made. -/
def CurB (p m cur : List Int) (k : Nat) : Prop := cur.length = p.length ∧ ∀ (i : Nat) (x y : Int), p[i]? = some x → m[i]? = some y → cur[i]? = some (if i < k ∧ x = 0 then y else x)
theorem CurB.zero {p m : List Int} : CurB p m p 0 := ⟨rfl, fun i x y hx _ => by rw [hx]; simp⟩
theorem CurB.at {p m cur : List Int} {k : Nat} {x y : Int} (h : CurB p m cur k) (hx : p[k]? = some x) (hy : m[k]? = some y) : cur[k]? = some x := by
  have := h.2 k x y hx hy
  simpa using this
theorem CurB.set {p m cur : List Int} {k : Nat} {x y : Int} (h : CurB p m cur k) (hx : p[k]? = some x) (hy : m[k]? = some y) (h0 : x = 0) : CurB p m (cur.set k y) (k + 1) := by
  refine ⟨by rw [List.length_set]; exact h.1, fun i a b ha hb => ?_⟩
  by_cases hi : i = k
  · subst hi
    rw [hx] at ha
    rw [hy] at hb
    injection ha with ha
    injection hb with hb
    subst ha
    subst hb
    rw [List.getElem?_set_self (by rw [h.1]; exact lt_of_get hx), if_pos ⟨by omega, h0⟩]
  · rw [List.getElem?_set_ne (by omega), h.2 i a b ha hb]
    by_cases hk : i < k
    · simp [hk, show i < k + 1 by omega]
    · rw [if_neg (by omega), if_neg (by omega)]
theorem CurB.keep {p m cur : List Int} {k : Nat} {x : Int} (h : CurB p m cur k) (hx : p[k]? = some x) (h0 : x ≠ 0) : CurB p m cur (k + 1) := by
  refine ⟨h.1, fun i a b ha hb => ?_⟩
  rw [h.2 i a b ha hb]
  by_cases hi : i = k
  · subst hi
    rw [hx] at ha
    injection ha with ha
    subst ha
    rw [if_neg (by omega), if_neg (by omega)]
  · by_cases hk : i < k
    · simp [hk, show i < k + 1 by omega]
    · rw [if_neg (by omega), if_neg (by omega)]
theorem CurB.done {p m cur : List Int} {k : Nat} (h : CurB p m cur k) (hk : p.length ≤ k) (hm : m.length = p.length) : cur = bothP p m := by
  apply List.ext_getElem?
  intro i
  by_cases hi : i < p.length
  · obtain ⟨x, hx⟩ := ex_get hi
    obtain ⟨y, hy⟩ := ex_get (l := m) (k := i) (by omega)
    rw [h.2 i x y hx hy, both_get p m i x y hx hy]
    by_cases h0 : x = 0
    · rw [if_pos ⟨by omega, h0⟩, if_pos h0]
    · rw [if_neg (by omega), if_neg h0]
  · rw [List.getElem?_eq_none (by rw [h.1]; omega), List.getElem?_eq_none (by rw [both_length]; omega)]
def BK (A : Option Addr) (cur : List Int) (hs : Hp) : Prop := cur = [] ∨ ∃ (g : Nat) (tl : List Value), A = some ⟨g, 0, none⟩ ∧ hs = [(g, Cl 3 (rows encI cur ++ tl))]
theorem BK.of {A : Option Addr} {c : Nat} {l : List Int} {hs : Hp} (h : Seg0 3 1 (.slice A l.length c) l.length (rows encI l) hs) : BK A l hs := by
  cases l with
  | nil => exact .inl rfl
  | cons x r =>
    obtain ⟨g, cap, tl, hv, hs', _⟩ := h.pos (by simp)
    injection hv with h1
    exact .inr ⟨g, tl, h1, hs'⟩
theorem BK.rd {A : Option Addr} {cur : List Int} {hs : Hp} {w : World} (h : BK A cur hs) (hb : ∀ x ∈ hs, w.heap[x.1]? = some x.2) : Rd w A (rows encI cur) := by
  rcases h with rfl | ⟨g, tl, rfl, rfl⟩
  · exact Rd.nil
  · exact (Rd.fz (hb _ (List.mem_singleton.2 rfl))).left


end Go.Proofs.Ytakehdnblmonlaa
