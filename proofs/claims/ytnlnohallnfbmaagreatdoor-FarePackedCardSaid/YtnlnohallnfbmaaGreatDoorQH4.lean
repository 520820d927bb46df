/- Plain: the greedy packing keeps its account. -/
import Derived.Test.YtnlnohallnfbmaaGreatDoorQH3
set_option linter.unusedVariables false
set_option linter.unusedSimpArgs false
namespace Go.Proofs.YtnlnohallnfbmaaGreatDoor
open Go.RowKit Go.Fp

def toOf (l : List FareSpan) (i : Nat) : Int := match l[i]? with
  | some s => s.To
  | none => 0
def frOf (l : List FareSpan) (i : Nat) : Int := match l[i]? with
  | some s => s.From
  | none => 0
theorem dep_fr (l : List FareSpan) (i : Nat) : depOf l (i : Int) = frOf l i := by
  unfold depOf frOf idx
  rw [if_pos (by omega), Int.toNat_natCast]
  cases l[i]? <;> rfl
theorem cov_iff {l : List FareSpan} {k i : Nat} (h : i < l.length) : cov l k i = true ↔ frOf l i ≤ (k : Int) ∧ (k : Int) < toOf l i := by
  unfold cov frOf toOf
  rw [List.getElem?_eq_getElem h]
  simp
theorem span_of {l : List FareSpan} {seats stops : Int} (hF : Fit l seats stops) {i : Nat} (h : i < l.length) : 0 ≤ frOf l i ∧ frOf l i < toOf l i ∧ toOf l i < stops := by
  unfold frOf toOf
  rw [List.getElem?_eq_getElem h]
  exact hF.hl _ (List.getElem_mem h)
/-- So many spans meet somewhere. -/
def Wit (l : List FareSpan) (stops : Int) (M : Nat) : Prop := M = 0 ∨ ∃ k : Nat, (k : Int) < stops ∧ M ≤ count l k
/-- What the packing has after j spans: U where each seat is free again, out the seats, M of them in use. -/
structure Gs (l : List FareSpan) (N : Nat) (O : List Int) (j : Nat) (U out : List Int) (M : Nat) (stops : Int) : Prop where
  lU : U.length = N
  lo : out.length = l.length
  hM : M ≤ N
  i1 : ∀ s : Nat, M ≤ s → s < N → U[s]? = some 0
  i2 : ∀ s : Nat, s < M → ∃ u x : Nat, u < j ∧ O[u]? = some (x : Int) ∧ out[x]? = some (s : Int) ∧ U[s]? = some (toOf l x)
  i3 : ∀ u x : Nat, u < j → O[u]? = some (x : Int) → ∃ s : Nat, s < M ∧ out[x]? = some (s : Int) ∧ ∀ v, U[s]? = some v → toOf l x ≤ v
  i4 : ∀ u v x y : Nat, u < v → v < j → O[u]? = some (x : Int) → O[v]? = some (y : Int) → out[x]? = out[y]? → toOf l x ≤ frOf l y
  i5 : Wit l stops M
section
variable {l : List FareSpan} {N : Nat} {O : List Int} {j : Nat} {U out : List Int} {M : Nat} {seats stops : Int}
theorem Gs.cover (h : Gs l N O j U out M stops) (hO : ∀ (u x : Nat), O[u]? = some (x : Int) → x < l.length) (hnd : ∀ (u v x : Nat), O[u]? = some (x : Int) → O[v]? = some (x : Int) → u = v) (hsort : ∀ (u v x y : Nat), u ≤ v → O[u]? = some (x : Int) → O[v]? = some (y : Int) → frOf l x ≤ frOf l y)
    {i a : Nat} (hi : O[j]? = some (i : Int)) (ha : frOf l i = (a : Int)) (ht : frOf l i < toOf l i) {m : Nat} (hm : m ≤ M) (hall : ∀ (s : Nat) (v : Int), s < m → U[s]? = some v → (a : Int) < v) : m + 1 ≤ count l a := by
  have := inj_len (R := fun s x => (s = m ∧ x = i) ∨ (s < m ∧ x ≠ i ∧ out[x]? = some (s : Int))) (fun b b' c h1 h2 => by
    rcases h1 with ⟨rfl, rfl⟩ | ⟨_, h1, h1'⟩
    · rcases h2 with ⟨rfl, _⟩ | ⟨_, h2, _⟩
      · rfl
      · exact absurd rfl h2
    · rcases h2 with ⟨_, h2⟩ | ⟨_, _, h2'⟩
      · exact absurd h2 h1
      · rw [h1'] at h2'
        have := Option.some.inj h2'
        omega) (List.range (m + 1)) (covs l a l.length) List.nodup_range (fun s hs => by
    rw [List.mem_range] at hs
    by_cases q : s = m
    · refine ⟨i, ?_, .inl ⟨q, rfl⟩⟩
      have hil := hO _ _ hi
      unfold covs
      rw [List.mem_filter, List.mem_range]
      exact ⟨hil, (cov_iff hil).2 (by omega)⟩
    · obtain ⟨u, x, h1, h2, h3, h4⟩ := h.i2 s (by omega)
      have h5 := hall s _ (by omega) h4
      have hxl := hO _ _ h2
      have h6 := hsort u j x i (by omega) h2 hi
      refine ⟨x, ?_, .inr ⟨by omega, fun e => ?_, h3⟩⟩
      · unfold covs
        rw [List.mem_filter, List.mem_range]
        exact ⟨hxl, (cov_iff hxl).2 (by omega)⟩
      · subst e
        have := hnd u j x h2 hi
        omega)
  rw [List.length_range] at this
  exact this
theorem Gs.step (h : Gs l N O j U out M stops) (hO : ∀ (u x : Nat), O[u]? = some (x : Int) → x < l.length) (hnd : ∀ (u v x : Nat), O[u]? = some (x : Int) → O[v]? = some (x : Int) → u = v)
    {i : Nat} (hi : O[j]? = some (i : Int)) (ht : frOf l i < toOf l i) {s0 M' : Nat} {w : Int} (hs : s0 < N) (hw : U[s0]? = some w) (hwa : w ≤ frOf l i) (hM : (s0 < M ∧ M' = M) ∨ (s0 = M ∧ M' = M + 1)) (h5 : Wit l stops M') :
    Gs l N O (j + 1) (U.set s0 (toOf l i)) (out.set i (s0 : Int)) M' stops := by
  have hil := hO _ _ hi
  have hlo := h.lo
  have hlU := h.lU
  have hne : ∀ (u x : Nat), u < j → O[u]? = some (x : Int) → x ≠ i := fun u x hu hx e => by
    subst e
    have := hnd u j x hx hi
    omega
  have o1 : ∀ x : Nat, x ≠ i → (out.set i (s0 : Int))[x]? = out[x]? := fun x hx => by rw [List.getElem?_set, if_neg (fun e => hx e.symm)]
  have o2 : (out.set i (s0 : Int))[i]? = some (s0 : Int) := by rw [List.getElem?_set, if_pos rfl, if_pos (by omega)]
  have u1 : ∀ s : Nat, s ≠ s0 → (U.set s0 (toOf l i))[s]? = U[s]? := fun s hx => by rw [List.getElem?_set, if_neg (fun e => hx e.symm)]
  have u2 : (U.set s0 (toOf l i))[s0]? = some (toOf l i) := by rw [List.getElem?_set, if_pos rfl, if_pos (by omega)]
  -- an earlier span on the seat is over
  have hold : ∀ (u x : Nat), u < j → O[u]? = some (x : Int) → out[x]? = some (s0 : Int) → toOf l x ≤ frOf l i := fun u x hu hx he => by
    obtain ⟨s, h1, h2, h3⟩ := h.i3 u x hu hx
    rw [he] at h2
    have e := Option.some.inj h2
    have e : s0 = s := by omega
    subst e
    have := h3 w hw
    omega
  refine ⟨by rw [List.length_set]; exact hlU, by rw [List.length_set]; exact hlo, by have := h.hM; omega, fun s h1 h2 => ?_, fun s h1 => ?_, fun u x hu hx => ?_, fun u v x y huv hv hx hy he => ?_, h5⟩
  · rw [u1 s (by omega)]
    exact h.i1 s (by omega) h2
  · by_cases q : s = s0
    · subst q
      exact ⟨j, i, by omega, hi, o2, u2⟩
    · obtain ⟨u, x, g1, g2, g3, g4⟩ := h.i2 s (by omega)
      exact ⟨u, x, by omega, g2, by rw [o1 x (hne u x g1 g2)]; exact g3, by rw [u1 s q]; exact g4⟩
  · by_cases q : u = j
    · subst q
      rw [hi] at hx
      have e := Option.some.inj hx
      have e : i = x := by omega
      subst e
      refine ⟨s0, by omega, o2, fun v hv => ?_⟩
      rw [u2] at hv
      have := Option.some.inj hv
      omega
    · have hu : u < j := by omega
      obtain ⟨s, g1, g2, g3⟩ := h.i3 u x hu hx
      refine ⟨s, by omega, by rw [o1 x (hne u x hu hx)]; exact g2, fun v hv => ?_⟩
      by_cases q2 : s = s0
      · subst q2
        rw [u2] at hv
        have := Option.some.inj hv
        have := hold u x hu hx g2
        omega
      · rw [u1 s q2] at hv
        exact g3 v hv
  · by_cases q : v = j
    · subst q
      rw [hi] at hy
      have e := Option.some.inj hy
      have e : i = y := by omega
      subst e
      rw [o2, o1 x (hne u x huv hx)] at he
      exact hold u x huv hx he
    · have hv : v < j := by omega
      rw [o1 x (hne u x (by omega) hx), o1 y (hne v y hv hy)] at he
      exact h.i4 u v x y huv hv hx hy he
end
end Go.Proofs.YtnlnohallnfbmaaGreatDoor
