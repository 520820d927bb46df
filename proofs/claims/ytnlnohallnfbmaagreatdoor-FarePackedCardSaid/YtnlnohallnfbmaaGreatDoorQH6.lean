/- Plain: the law FarePacked. -/
import Derived.Test.YtnlnohallnfbmaaGreatDoorQH5
set_option linter.unusedVariables false
set_option linter.unusedSimpArgs false
namespace Go.Proofs.YtnlnohallnfbmaaGreatDoor
open Go.RowKit Go.Fp

section
variable {l : List FareSpan} {O U out : List Int} {N M : Nat} {stops : Int}
/-- Two that have one seat do not meet. -/
theorem apart (hO : Ords l O) (hG : Gs l N O l.length U out M stops) {x y : Nat} (hx : x < l.length) (hy : y < l.length) (hne : x ≠ y) (he : out[x]? = out[y]?) : toOf l x ≤ frOf l y ∨ toOf l y ≤ frOf l x := by
  obtain ⟨u, hu, eu⟩ := hO.all x hx
  obtain ⟨v, hv, ev⟩ := hO.all y hy
  have huv : u ≠ v := fun e => by
    subst e
    rw [eu] at ev
    have := Option.some.inj ev
    omega
  by_cases q : u < v
  · exact .inl (hG.i4 u v x y q hv eu ev he)
  · exact .inr (hG.i4 v u y x (by omega) hu ev eu he.symm)
theorem seat_of (hO : Ords l O) (hG : Gs l N O l.length U out M stops) {x : Nat} (hx : x < l.length) : ∃ s : Nat, s < M ∧ out[x]? = some (s : Int) := by
  obtain ⟨u, hu, eu⟩ := hO.all x hx
  obtain ⟨s, h1, h2, _⟩ := hG.i3 u x hu eu
  exact ⟨s, h1, h2⟩
theorem count_le (hO : Ords l O) (hG : Gs l N O l.length U out M stops) (k : Nat) : count l k ≤ M := by
  have := inj_len (R := fun x s => x < l.length ∧ cov l k x = true ∧ out[x]? = some (s : Int)) (fun b b' c h1 h2 => by
    obtain ⟨h1, h1', h1''⟩ := h1
    obtain ⟨h2, h2', h2''⟩ := h2
    by_cases q : b = b'
    · exact q
    · exfalso
      have e1 := (cov_iff h1).1 h1'
      have e2 := (cov_iff h2).1 h2'
      rcases apart hO hG h1 h2 q (by rw [h1'', h2'']) with h | h <;> omega) (covs l k l.length) (List.range M) (by
    unfold covs
    exact List.Pairwise.filter _ List.nodup_range) (fun x hx => by
    unfold covs at hx
    rw [List.mem_filter, List.mem_range] at hx
    obtain ⟨s, h1, h2⟩ := seat_of hO hG hx.1
    exact ⟨s, List.mem_range.2 h1, hx.1, hx.2, h2⟩)
  rw [List.length_range] at this
  exact this
end
theorem packedPlain (l : List FareSpan) (seats stops : Int) {A B C D : Prop} (_ : A) (_ : B) (_ : C) (_ : D) : mFishkeep2FarePacked l seats stops = some true := by
  unfold mFishkeep2FarePacked
  rw [show mFishkeep2AwakeFare = some () from rfl, Option.bind_some, fares_true, Option.bind_some, if_pos rfl]
  obtain ⟨e, r, e1, e2⟩ := packof_spec l seats stops
  rw [e1, pass2]
  rcases e2 with rfl | rfl | ⟨h4, h2, hF⟩
  · rw [if_pos rfl, Option.bind_some, if_pos rfl]
  · rw [if_neg (by decide), Option.bind_some, if_pos (by decide)]
  rw [if_neg h4, Option.bind_some, decide_eq_false h2, if_neg (by decide)]
  have hs := hF.hs
  have ht := hF.ht
  have hn := hF.hn
  obtain ⟨m, m1, m2, m3⟩ := load_spec l hn stops.toNat
  rw [chk_ok (by omega) (by omega), Option.bind_some, m1, Option.bind_some]
  rcases pack_spec hF with ⟨p1, k, p2, p3⟩ | ⟨O, U, out, M, p1, hO, hG⟩
  · have := m2 k (by omega)
    rw [p1, pass2, if_pos (by omega), if_pos rfl, Option.bind_some]
    rfl
  · have hM := hG.hM
    have hmM : m ≤ M := by
      rcases m3 with h | ⟨j, _, h⟩
      · omega
      · have := count_le hO hG j
        omega
    have hMm : M ≤ m := by
      rcases hG.i5 with h | ⟨k, h3, h5⟩
      · omega
      · have := m2 k (by omega)
        omega
    have hlo := hG.lo
    rw [p1, pass2, if_neg (by omega), if_neg (by omega), if_neg (by omega)]
    have hmid : ((if 0 < (l.length : Int) then ((mSlicesMax out).bind fun x1213 => (chk ((m : Int) - 1)).bind fun _ => some (decide (x1213 ≠ ((m : Int) - 1)))) else some false) : Option Bool) = some false := by
      by_cases c : 0 < (l.length : Int)
      · rw [if_pos c]
        obtain ⟨x, x1, x2, x3⟩ := max_spec (l := out) (fun e => by rw [e] at hlo; simp at hlo; omega) (by omega)
        obtain ⟨s, hs1, _⟩ := seat_of hO hG (x := 0) (by omega)
        have hx : x = (m : Int) - 1 := by
          obtain ⟨j, hj, e⟩ := List.getElem_of_mem x2
          obtain ⟨s, g1, g2⟩ := seat_of hO hG (x := j) (by omega)
          rw [List.getElem?_eq_getElem hj, e] at g2
          have g2 := Option.some.inj g2
          obtain ⟨u, y, f1, f2, f3, _⟩ := hG.i2 (M - 1) (by omega)
          have := x3 _ (List.mem_of_getElem? f3)
          omega
        rw [x1, Option.bind_some, chk_ok (by omega) (by omega), Option.bind_some, hx]
        simp
      · rw [if_neg c]
    rw [hmid, Option.bind_some, if_neg (by decide)]
    rcases forM_inv (body := mFishkeep2FarePacked_L1217 l out) (fun _ _ => True) (fun _ => False) l.length 0 () trivial (fun i _ _ hi _ => by
      have hi : i < l.length := by omega
      have hx : l[i]? = some l[i] := List.getElem?_eq_getElem hi
      have hcut := cutS_ok (l := l) (a := 0) (b := i) (Nat.zero_le _) (by omega)
      rw [List.drop_zero] at hcut
      unfold mFishkeep2FarePacked_L1217
      rw [idx_nat hx, Option.bind_some, show cutS l 0 (i : Int) = some (l.take i) from hcut, Option.bind_some]
      have hti : (l.take i).length = i := by rw [List.length_take]; omega
      rcases forM_inv (body := mFishkeep2FarePacked_L1590 i out (l.take i) l[i]) (fun _ _ => True) (fun _ => False) (l.take i).length 0 () trivial (fun k _ _ hk _ => by
        have hk : k < i := by omega
        have hkl : k < l.length := by omega
        have hy : l[k]? = some l[k] := List.getElem?_eq_getElem hkl
        have hyt : (l.take i)[k]? = some l[k] := by rw [List.getElem?_take_of_lt hk, hy]
        have hoi : out[i]? = some out[i] := List.getElem?_eq_getElem (by omega)
        have hok : out[k]? = some out[k] := List.getElem?_eq_getElem (by omega)
        have ti : toOf l i = l[i].To ∧ frOf l i = l[i].From := by
          unfold toOf frOf
          rw [hx]
          exact ⟨rfl, rfl⟩
        have tk : toOf l k = l[k].To ∧ frOf l k = l[k].From := by
          unfold toOf frOf
          rw [hy]
          exact ⟨rfl, rfl⟩
        unfold mFishkeep2FarePacked_L1590
        rw [idx_nat hyt, Option.bind_some, idx_nat hoi, Option.bind_some, idx_nat hok, Option.bind_some]
        by_cases c1 : out[i] = out[k]
        · rw [if_pos c1]
          have := apart hO hG hi hkl (by omega) (by rw [hoi, hok, c1])
          by_cases c2 : l[i].From < l[k].To
          · rw [if_pos c2, Option.bind_some, if_neg (by simp; omega)]
            exact .inl ⟨_, rfl, trivial⟩
          · rw [if_neg c2, Option.bind_some, if_neg (by decide)]
            exact .inl ⟨_, rfl, trivial⟩
        · rw [if_neg c1, Option.bind_some, if_neg (by decide)]
          exact .inl ⟨_, rfl, trivial⟩) with ⟨s, f1, _⟩ | ⟨t, _, f2⟩
      · rw [f1]
        exact .inl ⟨_, rfl, trivial⟩
      · exact f2.elim) with ⟨s, f1, _⟩ | ⟨t, _, f2⟩
    · rw [f1]
      rfl
    · exact f2.elim
end Go.Proofs.YtnlnohallnfbmaaGreatDoor
