/- Plain texts in one: OL1, OL2, OL3, OL4, OL5, OL6. -/
import Derived.Test.YthcgoaejnpelbaaGreatDoorPL
import Derived.Test.YthcgoaejnpelbaaGreatDoorCL
import Derived.Test.YthcgoaejnpelbaaGreatDoorVD
set_option linter.unusedVariables false
set_option linter.unusedSimpArgs false
namespace Go.Proofs.YthcgoaejnpelbaaGreatDoor
open Go.RowKit Go.Fp

theorem any_spec {α : Type} {p : α → Prop} [DecidablePred p] (l : List α) (body : Nat → Unit → Option (Unit ⊕ Int)) (hb : ∀ (k : Nat) (h : k < l.length), body k () = some (if p l[k] then .inr (k : Int) else .inl ())) :
    ∃ r, ((Go.Fp.forM body l.length 0 ()).bind fun t => Sum.elim (fun _ => some (-1)) (fun q => some q) t) = some r ∧ (0 ≤ r ↔ ∃ x ∈ l, p x) := by
  rcases forM_inv (body := body) (fun k _ => ∀ j : Nat, j < k → ∀ h : j < l.length, ¬ p l[j]) (fun r => 0 ≤ r ∧ ∃ x ∈ l, p x) l.length 0 () (fun j h => absurd h (Nat.not_lt_zero j)) (fun k _ _ hk hI => by
      have hk : k < l.length := by omega
      rw [hb k hk]
      by_cases c : p l[k]
      · rw [if_pos c]
        exact .inr ⟨_, rfl, by omega, l[k], List.getElem_mem hk, c⟩
      · rw [if_neg c]
        refine .inl ⟨_, rfl, fun j hj h => ?_⟩
        by_cases e : j = k
        · subst e; exact c
        · exact hI j (by omega) h) with ⟨s, f1, f2⟩ | ⟨t, f1, f2⟩
  · rw [f1]
    refine ⟨-1, rfl, fun h => absurd h (by decide), fun ⟨x, hx, hp⟩ => ?_⟩
    obtain ⟨j, hj, rfl⟩ := List.getElem_of_mem hx
    exact absurd hp (f2 j (by omega) hj)
  · rw [f1]
    exact ⟨t, rfl, fun _ => f2.2, fun _ => f2.1⟩
theorem contains_eq (l : List Int) (x : Int) : mSlicesContains l x = some (decide (x ∈ l)) := by
  unfold mSlicesContains mSlicesIndex
  obtain ⟨r, h1, h2⟩ := any_spec (p := fun y => x = y) l (mSlicesIndex_L39 l x) (fun k h => by
    unfold mSlicesIndex_L39
    rw [idx_lt h, Option.bind_some]
    by_cases c : x = l[k]
    · rw [if_pos c, if_pos c]
    · rw [if_neg c, if_neg c])
  rw [h1, Option.bind_some]
  have : (∃ y ∈ l, x = y) ↔ x ∈ l := ⟨fun ⟨y, hy, e⟩ => e ▸ hy, fun h => ⟨x, h, rfl⟩⟩
  rw [this] at h2
  simp [h2]
theorem less_spec (a b : Int) : mCmpLess a b = some (decide (a < b)) := by
  unfold mCmpLess mCmpIsNaN
  simp
theorem insO {x : Int} (P Q : List Int) (hs : P.Pairwise (· ≤ ·)) (hl : (P ++ x :: Q).length ≤ 1000000) :
    ∃ P', loopM (mSlicesInsertionSortOrdered_L9840 0) ((P.length : Int), P ++ x :: Q) = some (P' ++ Q) ∧ P'.Perm (P ++ [x]) ∧ P'.Pairwise (· ≤ ·) := by
  have hl' : P.length + (Q.length + 1) ≤ 1000000 := by simpa using hl
  obtain ⟨r, e1, P', e2, e3, e4⟩ := loopM_inv (step := mSlicesInsertionSortOrdered_L9840 0)
    (fun q => ∃ P1 P2, P1 ++ P2 = P ∧ q.1 = (P1.length : Int) ∧ q.2 = P1 ++ x :: (P2 ++ Q) ∧ ∀ y ∈ P2, x < y)
    (fun r => ∃ P', r = P' ++ Q ∧ P'.Perm (P ++ [x]) ∧ P'.Pairwise (· ≤ ·)) (fun q => q.1.toNat) (fun q hq => by
      obtain ⟨j, l⟩ := q
      obtain ⟨P1, P2, h1, h2, h3, h4⟩ := hq
      simp only at h2 h3
      subst h2; subst h3
      have hlen : P1.length + P2.length = P.length := by rw [← h1]; simp
      have stop : (∀ y ∈ P1, y ≤ x) → ∃ P', P1 ++ x :: (P2 ++ Q) = P' ++ Q ∧ P'.Perm (P ++ [x]) ∧ P'.Pairwise (· ≤ ·) := fun hle => by
        refine ⟨P1 ++ x :: P2, by simp, ?_, ?_⟩
        · rw [← h1]
          have : (P1 ++ x :: P2).Perm (x :: (P1 ++ P2)) := List.perm_middle
          exact this.trans (List.perm_append_singleton x (P1 ++ P2)).symm
        · rw [← h1, List.pairwise_append] at hs
          rw [List.pairwise_append, List.pairwise_cons]
          refine ⟨hs.1, ⟨fun y hy => Int.le_of_lt (h4 y hy), hs.2.1⟩, fun y hy z hz => ?_⟩
          simp only [List.mem_cons] at hz
          rcases hz with rfl | hz
          · exact hle y hy
          · exact hs.2.2 y hy z hz
      unfold mSlicesInsertionSortOrdered_L9840
      simp only [unc2]
      by_cases ha : 0 < (P1.length : Int)
      · rw [if_pos ha]
        obtain ⟨P0, y, rfl⟩ : ∃ P0 y, P1 = P0 ++ [y] := ⟨P1.dropLast, P1.getLast (List.length_pos_iff.1 (by omega)), (List.dropLast_concat_getLast _).symm⟩
        simp only [List.length_append, List.length_singleton] at ha hlen ⊢
        have f1 : idx ((P0 ++ [y]) ++ x :: (P2 ++ Q)) ((P0.length + 1 : Nat) : Int) = some x := idx_mid (P0 ++ [y]) x (P2 ++ Q) (by simp)
        have e2 : (P0 ++ [y]) ++ x :: (P2 ++ Q) = P0 ++ y :: (x :: (P2 ++ Q)) := by simp
        have f2 : idx ((P0 ++ [y]) ++ x :: (P2 ++ Q)) (((P0.length + 1 : Nat) : Int) - 1) = some y := by rw [e2]; exact idx_mid _ _ _ (by simp)
        rw [f1, Option.bind_some, chk_ok (by omega) (by omega), Option.bind_some, f2, Option.bind_some, less_spec, Option.bind_some, Option.bind_some]
        by_cases hv : x < y
        · rw [decide_eq_true hv, if_pos rfl]
          simp only [Option.bind_some]
          have p1 : put ((P0 ++ [y]) ++ x :: (P2 ++ Q)) ((P0.length + 1 : Nat) : Int) y = P0 ++ y :: (y :: (P2 ++ Q)) := by
            rw [put_mid (P0 ++ [y]) x y (P2 ++ Q) (by simp)]
            simp
          rw [p1, idx_mid P0 y _ (by simp), Option.bind_some]
          rw [put_mid P0 y x _ (by simp)]
          refine .inl ⟨_, rfl, ⟨P0, y :: P2, by rw [← h1]; simp, by simp only; omega, by simp, fun z hz => ?_⟩, by simp only; omega⟩
          simp only [List.mem_cons] at hz
          rcases hz with rfl | hz
          · exact hv
          · exact h4 z hz
        · rw [decide_eq_false hv, if_neg (by decide)]
          refine .inr ⟨_, rfl, stop (fun z hz => ?_)⟩
          simp only [List.mem_append, List.mem_singleton] at hz
          rcases hz with hz | rfl
          · rw [← h1, List.pairwise_append, List.pairwise_append] at hs
            have := hs.1.2.2 z hz y (by simp)
            omega
          · omega
      · rw [if_neg ha, Option.bind_some, if_neg (by decide)]
        have : P1 = [] := List.length_eq_zero_iff.1 (by omega)
        subst this
        exact .inr ⟨_, rfl, stop (fun y hy => by simp at hy)⟩) ((P.length : Int), P ++ x :: Q) ⟨P, [], by simp, rfl, by simp, fun y hy => by simp at hy⟩
  exact ⟨P', by rw [e1, e2], e3, e4⟩
theorem sortO (S : List Int) (hl : S.length ≤ 1000) : ∃ S', mSlicesInsertionSortOrdered 0 (S.length : Int) S = some S' ∧ S'.Perm S ∧ S'.Pairwise (· ≤ ·) := by
  unfold mSlicesInsertionSortOrdered
  rw [chk_ok (by omega) (by omega), Option.bind_some]
  cases S with
  | nil =>
    refine ⟨[], loopM_last ?_, .refl _, .nil⟩
    unfold mSlicesInsertionSortOrdered_L5371
    simp only [unc2]
    rw [if_neg (by simp)]
  | cons x S0 =>
    obtain ⟨r, e1, e2, e3⟩ := loopM_inv (step := mSlicesInsertionSortOrdered_L5371 0 ((x :: S0).length : Int))
      (fun q => ∃ P S1 Q, S1 ++ Q = x :: S0 ∧ P.Perm S1 ∧ P.Pairwise (· ≤ ·) ∧ q.1 = (P.length : Int) ∧ q.2 = P ++ Q)
      (fun r => r.Perm (x :: S0) ∧ r.Pairwise (· ≤ ·)) (fun q => (x :: S0).length - q.1.toNat) (fun q hq => by
        obtain ⟨i, l⟩ := q
        obtain ⟨P, S1, Q, h1, h2, h3, h4, h5⟩ := hq
        simp only at h4 h5
        subst h4; subst h5
        have hlen : P.length + Q.length = (x :: S0).length := by rw [← h1, List.length_append, h2.length_eq]
        unfold mSlicesInsertionSortOrdered_L5371
        simp only [unc2]
        cases Q with
        | nil =>
          simp only [List.length_nil, Nat.add_zero] at hlen
          rw [if_neg (by omega)]
          refine .inr ⟨_, rfl, ?_, by simpa using h3⟩
          rw [← h1, List.append_nil, List.append_nil]
          exact h2
        | cons y Q =>
          simp only [List.length_cons] at hlen hl
          rw [if_pos (by simp only [List.length_cons]; omega)]
          obtain ⟨P', g1, g2, g3⟩ := insO P Q h3 (x := y) (by simp only [List.length_append, List.length_cons]; omega)
          rw [g1, Option.bind_some, chk_ok (by omega) (by omega), Option.bind_some]
          have gl : P'.length = P.length + 1 := by rw [g2.length_eq]; simp
          refine .inl ⟨_, rfl, ⟨P', S1 ++ [y], Q, by rw [← h1]; simp, g2.trans (h2.append_right [y]), g3, by simp only; omega, rfl⟩, by simp only [List.length_cons]; omega⟩) (0 + 1, x :: S0) ⟨[x], [x], S0, by simp, .refl _, List.pairwise_singleton _ _, by simp, by simp⟩
    exact ⟨r, e1, e2, e3⟩
theorem len_small : ∀ n : Fin 13, (mBitsLen (IntKind.wrap .u64 (n.val : Int))).isSome = true := by decide +kernel
theorem sort_few (S : List Int) (hl : S.length ≤ 12) : ∃ S', mSlicesSort S = some S' ∧ S'.Perm S ∧ S'.Pairwise (· ≤ ·) := by
  obtain ⟨S', h1, h2, h3⟩ := sortO S (by omega)
  obtain ⟨b, hb⟩ := Option.isSome_iff_exists.1 (len_small ⟨S.length, by omega⟩)
  refine ⟨S', ?_, h2, h3⟩
  unfold mSlicesSort mSlicesPdqsortOrdered
  rw [hb, Option.bind_some, loopM_last (t := S'), Option.bind_some]
  unfold mSlicesPdqsortOrdered_L36
  rw [chk_ok (by omega) (by omega), Option.bind_some, if_pos (by omega), h1, Option.bind_some]
end Go.Proofs.YthcgoaejnpelbaaGreatDoor
/- Plain: the bookings of a seat, free seats, gaps. -/
namespace Go.Proofs.YthcgoaejnpelbaaGreatDoor
open Go.RowKit Go.Fp

theorem of_spec {bk : List FareBooking} {cn : List Bool} (hl : cn.length = bk.length) (hb : bk.length ≤ 2900000000000) (x r a s : Int) :
    ∃ l, mFareCarOf x r a s bk cn = some l ∧ ∀ b, b ∈ l ↔ ∃ i : Nat, bk[i]? = some b ∧ cn[i]? = some false ∧ x ∈ b.Seats := by
  unfold mFareCarOf
  obtain ⟨l, f1, f2, f3⟩ := forS_inv (body := mFareCarOf_L253 bk cn x) (fun k l => l.length ≤ k ∧ ∀ b, b ∈ l ↔ ∃ i : Nat, i < k ∧ bk[i]? = some b ∧ cn[i]? = some false ∧ x ∈ b.Seats) bk.length 0 [] ⟨Nat.le_refl _, fun b => ⟨fun h => by simp at h, fun ⟨i, h, _⟩ => absurd h (Nat.not_lt_zero i)⟩⟩ (fun k l _ hk hI => by
    obtain ⟨h1, h2⟩ := hI
    have hk : k < bk.length := by omega
    have hx : bk[k]? = some bk[k] := List.getElem?_eq_getElem hk
    have hc : cn[k]? = some cn[k] := List.getElem?_eq_getElem (by omega)
    unfold mFareCarOf_L253
    rw [idx_nat hx, Option.bind_some, idx_nat hc, Option.bind_some]
    by_cases c : cn[k] = true
    · rw [if_pos c, Option.bind_some, if_neg (by decide)]
      refine ⟨_, rfl, by omega, fun b => ?_⟩
      rw [h2]
      constructor
      · rintro ⟨i, q1, q2⟩
        exact ⟨i, by omega, q2⟩
      · rintro ⟨i, q1, q2, q3, q4⟩
        refine ⟨i, ?_, q2, q3, q4⟩
        by_cases e : i = k
        · subst e
          rw [hc, c] at q3
          cases q3
        · omega
    · rw [if_neg c, contains_eq, Option.bind_some, Option.bind_some]
      by_cases d : x ∈ bk[k].Seats
      · rw [decide_eq_true d, if_pos rfl, room_ok (by omega) (by omega), Option.bind_some]
        refine ⟨_, rfl, by simp; omega, fun b => ?_⟩
        rw [List.mem_append, List.mem_singleton, h2]
        constructor
        · rintro (⟨i, q1, q2⟩ | rfl)
          · exact ⟨i, by omega, q2⟩
          · exact ⟨k, by omega, hx, by rw [hc]; simpa using c, d⟩
        · rintro ⟨i, q1, q2, q3, q4⟩
          by_cases e : i = k
          · subst e
            rw [hx] at q2
            exact .inr (Option.some.inj q2).symm
          · exact .inl ⟨i, by omega, q2, q3, q4⟩
      · rw [decide_eq_false d, if_neg (by decide)]
        refine ⟨_, rfl, by omega, fun b => ?_⟩
        rw [h2]
        constructor
        · rintro ⟨i, q1, q2⟩
          exact ⟨i, by omega, q2⟩
        · rintro ⟨i, q1, q2, q3, q4⟩
          refine ⟨i, ?_, q2, q3, q4⟩
          by_cases e : i = k
          · subst e
            rw [hx] at q2
            rw [Option.some.inj q2] at d
            exact absurd q4 d
          · omega)
  rw [f1, Option.bind_some]
  refine ⟨l, rfl, fun b => ?_⟩
  rw [f3]
  constructor
  · rintro ⟨i, _, q⟩
    exact ⟨i, q⟩
  · rintro ⟨i, q⟩
    exact ⟨i, by have := (List.getElem?_eq_some_iff.1 q.1).1; omega, q⟩
/-- What the car is. -/
structure Car (r a s : Int) (n : Nat) : Prop where
  r0 : 1 ≤ r ∧ r ≤ 20
  a0 : 1 ≤ a ∧ a ≤ 4
  s0 : 2 ≤ s ∧ s ≤ 12
  n0 : r * a = (n : Int)
  n1 : n ≤ 80
theorem car_of {r a s : Int} (h1 : 1 ≤ r ∧ r ≤ 20) (h2 : 1 ≤ a ∧ a ≤ 4) (h3 : 2 ≤ s ∧ s ≤ 12) : ∃ n, Car r a s n := by
  have ha : a = 1 ∨ a = 2 ∨ a = 3 ∨ a = 4 := by omega
  refine ⟨(r * a).toNat, h1, h2, h3, ?_, ?_⟩ <;> rcases ha with rfl | rfl | rfl | rfl <;> omega
/-- The seat is taken on the way. -/
def Taken (bk : List FareBooking) (cn : List Bool) (f t x : Int) : Prop := ∃ (i : Nat) (b : FareBooking), bk[i]? = some b ∧ cn[i]? = some false ∧ x ∈ b.Seats ∧ b.From < t ∧ f < b.To
def Free (bk : List FareBooking) (cn : List Bool) (n : Nat) (f t : Int) (l : List Int) : Prop := l.Pairwise (· < ·) ∧ ∀ x ∈ l, 0 ≤ x ∧ x < (n : Int) ∧ ¬ Taken bk cn f t x
theorem free_spec {bk : List FareBooking} {cn : List Bool} (hl : cn.length = bk.length) (hb : bk.length ≤ 2900000000000) {r a s : Int} {n : Nat} (hc : Car r a s n) (f t : Int) :
    ∃ l, mFareCarFree_2 f t r a s bk cn = some l ∧ Free bk cn n f t l ∧ l.length ≤ n := by
  unfold mFareCarFree_2
  have h0 := hc.n0
  have h1 := hc.n1
  rw [h0, chk_ok (by omega) (by omega), Option.bind_some, Option.bind_some, Int.toNat_natCast]
  obtain ⟨l, f1, f2, f3, f4⟩ := forS_inv (body := mFareCarFree_2_L112 bk cn f t r a s) (fun k l => l.length ≤ k ∧ l.Pairwise (· < ·) ∧ ∀ x ∈ l, 0 ≤ x ∧ x < (k : Int) ∧ ¬ Taken bk cn f t x) n 0 [] ⟨Nat.le_refl _, .nil, fun x hx => by simp at hx⟩ (fun k l _ hk hI => by
    obtain ⟨g1, g2, g3⟩ := hI
    obtain ⟨o, o1, o2⟩ := of_spec hl hb (k : Int) r a s
    unfold mFareCarFree_2_L112 mSlicesContainsFunc_3 mSlicesIndexFunc_4
    obtain ⟨q, q1, q2⟩ := any_spec (p := fun b : FareBooking => b.From < t ∧ f < b.To) o (mSlicesIndexFunc_4_L70 t f o) (fun j h => by
      unfold mSlicesIndexFunc_4_L70 mFareCarFree_1
      rw [idx_lt h, Option.bind_some]
      by_cases c1 : o[j].From < t
      · rw [if_pos c1, Option.bind_some, Option.bind_some]
        by_cases c2 : f < o[j].To
        · rw [decide_eq_true c2, if_pos rfl, if_pos ⟨c1, c2⟩]
        · rw [decide_eq_false c2, if_neg (by decide), if_neg (fun h => c2 h.2)]
      · rw [if_neg c1, Option.bind_some, Option.bind_some, if_neg (by decide), if_neg (fun h => c1 h.1)])
    rw [o1, Option.bind_some, q1, Option.bind_some, Option.bind_some]
    by_cases c : 0 ≤ q
    · rw [decide_eq_true c, if_pos rfl]
      exact ⟨_, rfl, by omega, g2, fun x hx => ⟨(g3 x hx).1, by have := (g3 x hx).2.1; omega, (g3 x hx).2.2⟩⟩
    · rw [decide_eq_false c, if_neg (by decide), room_ok (by omega) (by omega), Option.bind_some]
      refine ⟨_, rfl, by simp; omega, ?_, fun x hx => ?_⟩
      · rw [List.pairwise_append]
        exact ⟨g2, List.pairwise_singleton _ _, fun x hx y hy => by rw [List.mem_singleton] at hy; subst hy; exact (g3 x hx).2.1⟩
      · rw [List.mem_append, List.mem_singleton] at hx
        rcases hx with hx | rfl
        · exact ⟨(g3 x hx).1, by have := (g3 x hx).2.1; omega, (g3 x hx).2.2⟩
        · refine ⟨by omega, by omega, fun ⟨i, b, e1, e2, e3, e4, e5⟩ => c (q2.2 ⟨b, (o2 b).2 ⟨i, e1, e2, e3⟩, e4, e5⟩)⟩)
  rw [f1, Option.bind_some]
  rw [Nat.zero_add] at f2 f4
  exact ⟨l, rfl, ⟨f3, f4⟩, f2⟩
/-- The bookings are in order. -/
def Book (s : Int) (n : Nat) (b : FareBooking) : Prop := 0 ≤ b.From ∧ b.From < b.To ∧ b.To < s ∧ b.Seats.Pairwise (· < ·) ∧ (∀ x ∈ b.Seats, 0 ≤ x ∧ x < (n : Int)) ∧ 1 ≤ b.Seats.length
theorem gap_spec {bk : List FareBooking} {cn : List Bool} (hl : cn.length = bk.length) (hb : bk.length ≤ 2900000000000) {r a s : Int} {n : Nat} (hc : Car r a s n) (hk : ∀ b ∈ bk, Book s n b) (x f t : Int) :
    ∃ g, mFareCarGap x f t r a s bk cn = some g := by
  unfold mFareCarGap
  have h0 := hc.s0
  obtain ⟨o, o1, o2⟩ := of_spec hl hb x r a s
  rw [chk_ok (by omega) (by omega), Option.bind_some, o1, Option.bind_some]
  obtain ⟨⟨u, v⟩, f1, f2⟩ := forS_inv (body := mFareCarGap_L136 f t o) (fun _ (q : Int × Int) => 0 ≤ q.1 ∧ q.1 ≤ 12 ∧ 0 ≤ q.2 ∧ q.2 ≤ 12) o.length 0 (0, s - 1) ⟨by simp, by simp, by simp; omega, by simp; omega⟩ (fun k q _ hk' hI => by
    obtain ⟨u, v⟩ := q
    simp only at hI
    have hk' : k < o.length := by omega
    have hx : o[k]? = some o[k] := List.getElem?_eq_getElem hk'
    obtain ⟨i, e1, _⟩ := (o2 o[k]).1 (List.getElem_mem hk')
    have hB := hk _ (List.mem_of_getElem? e1)
    unfold Book at hB
    unfold mFareCarGap_L136
    simp only [unc2]
    rw [idx_nat hx, Option.bind_some]
    have step : ∀ u' : Int, 0 ≤ u' → u' ≤ 12 → ∃ q : Int × Int, (some u').bind (fun x224 => if t ≤ o[k].From then some (x224, min v o[k].From) else some (x224, v)) = some q ∧ (0 ≤ q.1 ∧ q.1 ≤ 12 ∧ 0 ≤ q.2 ∧ q.2 ≤ 12) := fun u' g1 g2 => by
      rw [Option.bind_some]
      by_cases c : t ≤ o[k].From
      · rw [if_pos c]
        exact ⟨_, rfl, g1, g2, by simp only; omega, by simp only; omega⟩
      · rw [if_neg c]
        exact ⟨_, rfl, g1, g2, hI.2.2⟩
    by_cases c : o[k].To ≤ f
    · rw [if_pos c]
      exact step _ (by omega) (by omega)
    · rw [if_neg c]
      exact step _ hI.1 hI.2.1)
  rw [f1, Option.bind_some]
  simp only [unc2] at f2 ⊢
  rw [chk_ok (by omega) (by omega)]
  exact ⟨_, rfl⟩
end Go.Proofs.YthcgoaejnpelbaaGreatDoor
/- Plain: how seats are chosen. -/
namespace Go.Proofs.YthcgoaejnpelbaaGreatDoor
open Go.RowKit Go.Fp

theorem row_of {r a x : Int} (ha : 1 ≤ a) (h0 : 0 ≤ x) (h : x < r * a) : ∃ q : Nat, Int.tdiv x a = (q : Int) ∧ (q : Int) < r := by
  have h1 : Int.tdiv x a = x / a := Int.tdiv_eq_ediv_of_nonneg h0
  have h2 : 0 ≤ x / a := Int.ediv_nonneg h0 (by omega)
  have h3 : x / a < r := Int.ediv_lt_of_lt_mul (by omega) h
  exact ⟨(x / a).toNat, by rw [h1]; omega, by omega⟩
theorem rows_spec {r a s : Int} {n : Nat} (hc : Car r a s n) {fr : List Int} (hp : fr.Pairwise (· < ·)) (hv : ∀ x ∈ fr, 0 ≤ x ∧ x < (n : Int)) (hl : fr.length ≤ n) :
    ∃ R : List (List Int), Go.Fp.forS (mFareCarChoose_L661 fr a) fr.length 0 (List.replicate r.toNat ([] : List Int)) = some R ∧ R.length = r.toNat ∧ ∀ l ∈ R, l.Pairwise (· < ·) ∧ ∀ x ∈ l, x ∈ fr := by
  have hr := hc.r0
  have ha := hc.a0
  have hn := hc.n0
  have hn1 := hc.n1
  obtain ⟨R, f1, f2, f3⟩ := forS_inv (body := mFareCarChoose_L661 fr a) (fun k R => R.length = r.toNat ∧ ∀ (i : Nat) (l : List Int), R[i]? = some l → l.length ≤ k ∧ l.Pairwise (· < ·) ∧ ∀ x ∈ l, x ∈ fr.take k) fr.length 0 (List.replicate r.toNat []) ⟨by simp, fun i l h => by
    rw [List.getElem?_replicate] at h
    split at h
    · cases h
      exact ⟨Nat.le_refl _, .nil, fun x hx => by simp at hx⟩
    · cases h⟩ (fun k R _ hk hI => by
      obtain ⟨g1, g2⟩ := hI
      have hk : k < fr.length := by omega
      have hx := hv _ (List.getElem_mem hk)
      obtain ⟨q, q1, q2⟩ := row_of (r := r) ha.1 hx.1 (by rw [hn]; exact hx.2)
      have hq : q < R.length := by omega
      have hR : R[q]? = some R[q] := List.getElem?_eq_getElem hq
      obtain ⟨w1, w2, w3⟩ := g2 q _ hR
      have hne : ne0 a = some () := by
        unfold ne0
        rw [if_neg (by omega)]
      unfold mFareCarChoose_L661
      rw [idx_lt hk, Option.bind_some, hne, Option.bind_some, q1, chk_ok (by omega) (by omega), Option.bind_some, Option.bind_some, Option.bind_some, idx_nat hR, Option.bind_some, room_ok (by omega) (by omega), Option.bind_some, Option.bind_some, put_nat]
      refine ⟨_, rfl, by rw [List.length_set]; exact g1, fun i l h => ?_⟩
      have hmore : ∀ x, x ∈ fr.take k → x ∈ fr.take (k + 1) := fun x hx => by
        rw [List.take_add_one, List.mem_append]
        exact .inl hx
      rw [List.getElem?_set] at h
      by_cases e : q = i
      · rw [if_pos e, if_pos hq] at h
        have h := (Option.some.inj h).symm
        subst h
        refine ⟨by simp; omega, ?_, fun x hx => ?_⟩
        · rw [List.pairwise_append]
          refine ⟨w2, List.pairwise_singleton _ _, fun x hx y hy => ?_⟩
          rw [List.mem_singleton] at hy
          subst hy
          obtain ⟨j, hj, e⟩ := List.getElem_of_mem (w3 x hx)
          rw [List.length_take] at hj
          rw [List.getElem_take] at e
          rw [← e]
          exact List.pairwise_iff_getElem.1 hp j k (by omega) hk (by omega)
        · rw [List.mem_append, List.mem_singleton] at hx
          rcases hx with hx | rfl
          · exact hmore x (w3 x hx)
          · rw [List.take_add_one, List.mem_append, List.getElem?_eq_getElem hk]
            exact .inr (List.mem_singleton.2 rfl)
      · rw [if_neg e] at h
        obtain ⟨v1, v2, v3⟩ := g2 i l h
        exact ⟨by omega, v2, fun x hx => hmore x (v3 x hx)⟩)
  refine ⟨R, f1, f2, fun l hl' => ?_⟩
  obtain ⟨i, hi, rfl⟩ := List.getElem_of_mem hl'
  obtain ⟨v1, v2, v3⟩ := f3 i _ (List.getElem?_eq_getElem hi)
  exact ⟨v2, fun x hx => List.mem_of_mem_take (v3 x hx)⟩
theorem best_spec (R : List (List Int)) (many : Int) : ∃ b, Go.Fp.forS (mFareCarChoose_L978 many R) R.length 0 (-1) = some b ∧ (b = -1 ∨ ∃ (i : Nat) (l : List Int), b = (i : Int) ∧ R[i]? = some l ∧ many ≤ (l.length : Int)) := by
  obtain ⟨b, f1, f2⟩ := forS_inv (body := mFareCarChoose_L978 many R) (fun _ b => b = -1 ∨ ∃ (i : Nat) (l : List Int), b = (i : Int) ∧ R[i]? = some l ∧ many ≤ (l.length : Int)) R.length 0 (-1) (.inl rfl) (fun k b _ hk hI => by
    have hk : k < R.length := by omega
    have hR : R[k]? = some R[k] := List.getElem?_eq_getElem hk
    unfold mFareCarChoose_L978
    rw [idx_nat hR, Option.bind_some]
    by_cases c : many ≤ (R[k].length : Int)
    · rw [if_pos c]
      rcases hI with rfl | ⟨i, l, rfl, e1, e2⟩
      · rw [if_pos (by decide), Option.bind_some, if_pos rfl]
        exact ⟨_, rfl, .inr ⟨k, _, rfl, hR, c⟩⟩
      · rw [if_neg (by omega), idx_nat e1, Option.bind_some, Option.bind_some]
        by_cases d : (R[k].length : Int) < (l.length : Int)
        · rw [decide_eq_true d, if_pos rfl]
          exact ⟨_, rfl, .inr ⟨k, _, rfl, hR, c⟩⟩
        · rw [decide_eq_false d, if_neg (by decide)]
          exact ⟨_, rfl, .inr ⟨i, l, rfl, e1, e2⟩⟩
    · rw [if_neg c, Option.bind_some, if_neg (by decide)]
      exact ⟨_, rfl, hI⟩)
  exact ⟨b, f1, f2⟩
theorem take_lt {l : List Int} (h : l.Pairwise (· < ·)) (k : Nat) : (l.take k).Pairwise (· < ·) := h.sublist (List.take_sublist _ _)
theorem choose_spec {bk : List FareBooking} {cn : List Bool} (hl : cn.length = bk.length) (hb : bk.length ≤ 2900000000000) {r a s : Int} {n : Nat} (hc : Car r a s n) (hk : ∀ b ∈ bk, Book s n b) {f t : Int} {many : Nat} {fr : List Int} (hm : 1 ≤ many ∧ many ≤ 8) (hp : fr.Pairwise (· < ·)) (hv : ∀ x ∈ fr, 0 ≤ x ∧ x < (n : Int)) (hln : fr.length ≤ n) (hml : many ≤ fr.length) :
    ∃ l, mFareCarChoose f t (many : Int) r a s fr bk cn = some l ∧ l.length = many ∧ l.Pairwise (· < ·) ∧ ∀ x ∈ l, x ∈ fr := by
  have hr := hc.r0
  have hn1 := hc.n1
  unfold mFareCarChoose
  rw [show r = ((r.toNat : Nat) : Int) by omega, mkLen_ok (by omega) (by omega), Option.bind_some, ← show r = ((r.toNat : Nat) : Int) by omega]
  obtain ⟨R, r1, r2, r3⟩ := rows_spec hc hp hv hln
  rw [r1, Option.bind_some]
  obtain ⟨b, b1, b2⟩ := best_spec R (many : Int)
  rw [b1, Option.bind_some]
  rcases b2 with rfl | ⟨i, l, rfl, e1, e2⟩
  · rw [if_neg (by decide)]
    unfold mSlicesClone
    rw [room_ok (by omega) (by omega), Option.bind_some, Option.bind_some]
    obtain ⟨o, o1, o2, o3⟩ := C.sort_spec (T := ⟨f, t, r, a, s, bk, cn⟩) (S := fr) (fun y hy => gap_spec hl hb hc hk y f t) hp (by omega)
    have o1 : mSlicesSortStableFunc f t r a s fr bk cn = some o := o1
    have ol : o.length = fr.length := o2.length_eq
    rw [o1, Option.bind_some, show (0 : Int) = ((0 : Nat) : Int) from rfl, cutS_ok (Nat.zero_le _) (by omega), Option.bind_some, List.drop_zero]
    obtain ⟨w, w1, w2, w3⟩ := sort_few (o.take many) (by rw [List.length_take]; omega)
    rw [w1, Option.bind_some]
    have hnd : fr.Nodup := hp.imp (fun h => by omega)
    have hwn : w.Nodup := (w2.nodup_iff).2 (((o2.nodup_iff).2 hnd).sublist (List.take_sublist _ _))
    refine ⟨w, rfl, by rw [w2.length_eq, List.length_take]; omega, ?_, fun x hx => o2.subset (List.mem_of_mem_take (w2.subset hx))⟩
    have := w3.and hwn
    exact this.imp (fun h => by omega)
  · rw [if_pos (by omega), idx_nat e1, Option.bind_some, show (0 : Int) = ((0 : Nat) : Int) from rfl, cutS_ok (Nat.zero_le _) (by omega), Option.bind_some, List.drop_zero]
    unfold mSlicesClone
    obtain ⟨v2, v3⟩ := r3 l (List.mem_of_getElem? e1)
    rw [room_ok (by rw [List.length_take]; omega) (by rw [List.length_take]; omega), Option.bind_some, Option.bind_some]
    exact ⟨_, rfl, by rw [List.length_take]; omega, take_lt v2 _, fun x hx => v3 x (List.mem_of_mem_take hx)⟩
end Go.Proofs.YthcgoaejnpelbaaGreatDoor
/- Plain: what stands behind each call: bookings that do not meet; how many there may be; Book and Cancel. -/
namespace Go.Proofs.YthcgoaejnpelbaaGreatDoor
open Go.RowKit Go.Fp

theorem pass7 {A B C D E F G τ : Type} {f : A → B → C → D → E → F → G → Option τ} {a : A} {b : B} {c : C} {d : D} {e : E} {g : F} {h : G} : (some (a, b, c, d, e, g, h)).bind (unc7 f) = f a b c d e g h := rfl
/-- Two bookings that do not meet. -/
def Rel (b c : FareBooking) : Prop := b.To ≤ c.From ∨ c.To ≤ b.From ∨ ∀ x ∈ b.Seats, x ∉ c.Seats
theorem Rel.symm {b c : FareBooking} (h : Rel b c) : Rel c b := by
  rcases h with h | h | h
  · exact .inr (.inl h)
  · exact .inl h
  · exact .inr (.inr fun x hx hy => h x hy hx)
structure St (s : Int) (n : Nat) (bk : List FareBooking) (cn : List Bool) : Prop where
  len : cn.length = bk.length
  ok : ∀ b ∈ bk, Book s n b
  rel : ∀ (i j : Nat) (b c : FareBooking), i ≠ j → bk[i]? = some b → bk[j]? = some c → cn[i]? = some false → cn[j]? = some false → Rel b c
theorem count_range : ∀ (cn : List Bool), ((List.range cn.length).filter (fun i => cn[i]? == some false)).length = cn.count false := fun cn => by
  have key : ∀ k, k ≤ cn.length → ((List.range k).filter (fun i => cn[i]? == some false)).length = (cn.take k).count false := fun k => by
    induction k with
    | zero => intro _; simp
    | succ k ih =>
      intro hk
      have hx : cn[k]? = some cn[k] := List.getElem?_eq_getElem (by omega)
      rw [List.range_succ, List.filter_append, List.length_append, ih (by omega), List.take_add_one, List.count_append, hx]
      cases hc : cn[k] <;> simp [hx, hc]
  have := key cn.length (Nat.le_refl _)
  rwa [List.take_of_length_le (Nat.le_refl _)] at this
theorem act_le {r a s : Int} {n : Nat} (hc : Car r a s n) {bk : List FareBooking} {cn : List Bool} (hS : St s n bk cn) : cn.count false ≤ 960 := by
  have h1 := inj_len (R := fun i c => ∃ (b : FareBooking) (x : Int), bk[i]? = some b ∧ cn[i]? = some false ∧ x ∈ b.Seats ∧ 0 ≤ x ∧ x < 80 ∧ 0 ≤ b.From ∧ b.From < b.To ∧ c = b.From.toNat * 80 + x.toNat) (fun i i' c h1 h2 => by
    obtain ⟨b, x, p1, p2, p3, p4, p5, p6, p7, p8⟩ := h1
    obtain ⟨b', x', q1, q2, q3, q4, q5, q6, q7, q8⟩ := h2
    by_cases e : i = i'
    · exact e
    · exfalso
      have hx : x = x' := by omega
      have hf : b.From = b'.From := by omega
      subst hx
      rcases hS.rel i i' b b' e p1 q1 p2 q2 with h | h | h
      · omega
      · omega
      · exact h x p3 q3) ((List.range cn.length).filter (fun i => cn[i]? == some false)) (List.range 960) (List.Pairwise.filter _ List.nodup_range) (fun i hi => by
    rw [List.mem_filter, List.mem_range] at hi
    have hl := hS.len
    have hb : bk[i]? = some bk[i] := List.getElem?_eq_getElem (by omega)
    have hB := hS.ok _ (List.getElem_mem (by omega : i < bk.length))
    obtain ⟨h1, h2, h3, h4, h5, h6⟩ := hB
    have hs := hc.s0
    have hn := hc.n1
    have h7 : bk[i].Seats[0] ∈ bk[i].Seats := List.getElem_mem (by omega)
    have h8 := h5 _ h7
    refine ⟨bk[i].From.toNat * 80 + bk[i].Seats[0].toNat, List.mem_range.2 (by omega), bk[i], bk[i].Seats[0], hb, by simpa using hi.2, h7, h8.1, by omega, h1, h2, rfl⟩)
  rw [count_range, List.length_range] at h1
  exact h1
theorem count_two (cn : List Bool) : cn.count true + cn.count false = cn.length := by
  induction cn with
  | nil => rfl
  | cons b l ih => cases b <;> simp <;> omega
theorem few {r a s : Int} {n : Nat} (hc : Car r a s n) {bk : List FareBooking} {cn : List Bool} (hS : St s n bk cn) {L m : Nat} (hL : L ≤ 17592186043904) (h : 4 * (bk.length + cn.count true) + m ≤ L) : bk.length ≤ 2300000000000 := by
  have h1 := act_le hc hS
  have h2 := count_two cn
  have h3 := hS.len
  omega
theorem free_call {bk : List FareBooking} {cn : List Bool} (hl : cn.length = bk.length) (hb : bk.length ≤ 2900000000000) {r a s : Int} {n : Nat} (hc : Car r a s n) (f t : Int) :
    ∃ fr, mFareCarFree_2 f t r a s bk cn = some fr ∧ Free bk cn n f t fr ∧ fr.length ≤ n ∧ mFareCarFree f t r a s bk cn = (if 0 ≤ f ∧ f < t ∧ t < s then some (0, fr) else some (2, [])) := by
  obtain ⟨fr, h1, h2, h3⟩ := free_spec hl hb hc f t
  refine ⟨fr, h1, h2, h3, ?_⟩
  unfold mFareCarFree
  rw [span_spec, Option.bind_some]
  by_cases c : 0 ≤ f ∧ f < t ∧ t < s
  · rw [decide_eq_true c, if_pos rfl, if_pos c, h1, Option.bind_some]
  · rw [decide_eq_false c, if_neg (by decide), if_neg c]
theorem book_spec {bk : List FareBooking} {cn : List Bool} {r a s : Int} {n : Nat} (hc : Car r a s n) (hS : St s n bk cn) (hb : bk.length ≤ 2300000000000) (f t many : Int) {fr : List Int} (hfr : mFareCarFree_2 f t r a s bk cn = some fr) (hF : Free bk cn n f t fr) (hl : fr.length ≤ n) :
    ∃ (x y z e : Int) (l : List Int) (bk' : List FareBooking) (cn' : List Bool), mFareCarBook f t many r a s bk cn = some (x, y, z, e, l, bk', cn') ∧
    ((¬ ((0 ≤ f ∧ f < t ∧ t < s) ∧ 1 ≤ many ∧ many ≤ 8) ∧ e = 2 ∧ bk' = bk ∧ cn' = cn) ∨
     (((0 ≤ f ∧ f < t ∧ t < s) ∧ 1 ≤ many ∧ many ≤ 8) ∧ (fr.length : Int) < many ∧ e = 14 ∧ bk' = bk ∧ cn' = cn) ∨
     (((0 ≤ f ∧ f < t ∧ t < s) ∧ 1 ≤ many ∧ many ≤ 8) ∧ many ≤ (fr.length : Int) ∧ e = 0 ∧ (l.length : Int) = many ∧ l.Pairwise (· < ·) ∧ (∀ x ∈ l, x ∈ fr) ∧ bk' = bk ++ [⟨(bk.length : Int), f, t, l⟩] ∧ cn' = cn ++ [false])) := by
  unfold mFareCarBook
  rw [span_spec, Option.bind_some]
  by_cases c1 : 0 ≤ f ∧ f < t ∧ t < s
  · rw [decide_eq_true c1, if_pos rfl, within_spec, Option.bind_some, Option.bind_some]
    by_cases c2 : 1 ≤ many ∧ many ≤ 8
    · rw [decide_eq_true c2, if_neg (by decide), hfr, Option.bind_some]
      by_cases c3 : (fr.length : Int) < many
      · rw [if_pos c3]
        exact ⟨_, _, _, _, _, _, _, rfl, .inr (.inl ⟨⟨c1, c2⟩, c3, rfl, rfl, rfl⟩)⟩
      · rw [if_neg c3]
        obtain ⟨m, rfl⟩ : ∃ m : Nat, many = (m : Int) := ⟨many.toNat, by omega⟩
        have hl' := hS.len
        have hn := hc.n1
        obtain ⟨l, l1, l2, l3, l4⟩ := choose_spec (f := f) (t := t) hS.len (by omega) hc hS.ok (many := m) (by omega) hF.1 (fun x hx => ⟨(hF.2 x hx).1, (hF.2 x hx).2.1⟩) hl (by omega)
        rw [l1, Option.bind_some, Option.bind_some, room_ok (by omega) (by omega), Option.bind_some, room_ok (by omega) (by omega), Option.bind_some, pass3]
        unfold mSlicesClone
        rw [room_ok (by omega) (by omega), Option.bind_some, Option.bind_some]
        exact ⟨_, _, _, _, _, _, _, rfl, .inr (.inr ⟨⟨c1, c2⟩, by omega, rfl, by omega, l3, l4, rfl, rfl⟩)⟩
    · rw [decide_eq_false c2, if_pos (by decide)]
      exact ⟨_, _, _, _, _, _, _, rfl, .inl ⟨fun h => c2 h.2, rfl, rfl, rfl⟩⟩
  · rw [decide_eq_false c1, if_neg (by decide), Option.bind_some, if_pos rfl]
    exact ⟨_, _, _, _, _, _, _, rfl, .inl ⟨fun h => c1 h.1, rfl, rfl, rfl⟩⟩
theorem St.book {bk : List FareBooking} {cn : List Bool} {s : Int} {n : Nat} (hS : St s n bk cn) {f t : Int} {fr l : List Int} (hF : Free bk cn n f t fr) (h1 : 0 ≤ f ∧ f < t ∧ t < s) (h2 : 1 ≤ l.length) (h3 : l.Pairwise (· < ·)) (h4 : ∀ x ∈ l, x ∈ fr) : St s n (bk ++ [⟨(bk.length : Int), f, t, l⟩]) (cn ++ [false]) := by
  have hl := hS.len
  have new : ∀ (i : Nat) (b : FareBooking), i < bk.length → bk[i]? = some b → cn[i]? = some false → Rel b ⟨(bk.length : Int), f, t, l⟩ := fun i b hi hb hc => by
    unfold Rel
    simp only
    by_cases c1 : b.To ≤ f
    · exact .inl c1
    · by_cases c2 : t ≤ b.From
      · exact .inr (.inl c2)
      · refine .inr (.inr fun x hx hy => (hF.2 x (h4 x hy)).2.2 ⟨i, b, hb, hc, hx, by omega, by omega⟩)
  refine ⟨by simp [hl], fun b hb => ?_, fun i j b c hij hb hc hbi hcj => ?_⟩
  · rw [List.mem_append, List.mem_singleton] at hb
    rcases hb with hb | rfl
    · exact hS.ok b hb
    · exact ⟨h1.1, h1.2.1, h1.2.2, h3, fun x hx => ⟨(hF.2 x (h4 x hx)).1, (hF.2 x (h4 x hx)).2.1⟩, h2⟩
  · have back : ∀ (i : Nat) (b : FareBooking), (bk ++ [(⟨(bk.length : Int), f, t, l⟩ : FareBooking)])[i]? = some b → (i < bk.length ∧ bk[i]? = some b) ∨ (i = bk.length ∧ b = ⟨(bk.length : Int), f, t, l⟩) := fun i b h => by
      by_cases c : i < bk.length
      · rw [List.getElem?_append_left c] at h
        exact .inl ⟨c, h⟩
      · rw [List.getElem?_append_right (by omega)] at h
        have hi := (List.getElem?_eq_some_iff.1 h).1
        simp only [List.length_singleton] at hi
        have e : i - bk.length = 0 := by omega
        rw [e] at h
        exact .inr ⟨by omega, (Option.some.inj h).symm⟩
    have backc : ∀ i : Nat, i < bk.length → (cn ++ [false])[i]? = some false → cn[i]? = some false := fun i hi h => by
      rwa [List.getElem?_append_left (by omega)] at h
    rcases back i b hb with ⟨p1, p2⟩ | ⟨p1, p2⟩
    · rcases back j c hc with ⟨q1, q2⟩ | ⟨q1, q2⟩
      · exact hS.rel i j b c hij p2 q2 (backc i p1 hbi) (backc j q1 hcj)
      · subst q2
        exact new i b p1 p2 (backc i p1 hbi)
    · rcases back j c hc with ⟨q1, q2⟩ | ⟨q1, q2⟩
      · subst p2
        exact (new j c q1 q2 (backc j q1 hcj)).symm
      · omega
theorem cancel_spec {bk : List FareBooking} {cn : List Bool} {r a s : Int} {n : Nat} (hS : St s n bk cn) (hb : bk.length ≤ 2300000000000) (no : Int) :
    ∃ (e : Int) (cn' : List Bool), mFareCarCancel no r a s bk cn = some (e, cn') ∧ St s n bk cn' ∧ cn'.count true ≤ cn.count true + 1 := by
  have hl := hS.len
  unfold mFareCarCancel
  rw [chk_ok (by omega) (by omega), Option.bind_some, within_spec, Option.bind_some]
  by_cases c : 0 ≤ no ∧ no ≤ (bk.length : Int) - 1
  · rw [decide_eq_true c, if_pos rfl]
    obtain ⟨i, rfl⟩ : ∃ i : Nat, no = (i : Int) := ⟨no.toNat, by omega⟩
    have hi : i < cn.length := by omega
    have hx : cn[i]? = some cn[i] := List.getElem?_eq_getElem hi
    rw [idx_nat hx, Option.bind_some, Option.bind_some]
    by_cases d : cn[i] = true
    · rw [if_pos d]
      exact ⟨_, _, rfl, hS, by omega⟩
    · rw [if_neg d, Option.bind_some, put_nat]
      refine ⟨_, _, rfl, ⟨by rw [List.length_set]; exact hl, hS.ok, fun j k b c' hjk h1 h2 h3 h4 => ?_⟩, ?_⟩
      · have old : ∀ j : Nat, (cn.set i true)[j]? = some false → cn[j]? = some false := fun j h => by
          rw [List.getElem?_set] at h
          by_cases e : i = j
          · rw [if_pos e, if_pos hi] at h
            cases h
          · rwa [if_neg e] at h
        exact hS.rel j k b c' hjk h1 h2 (old j h3) (old k h4)
      · rw [List.count_set hi]
        simp
  · rw [decide_eq_false c, if_neg (by decide), Option.bind_some, if_pos rfl]
    exact ⟨_, _, rfl, hS, by omega⟩
end Go.Proofs.YthcgoaejnpelbaaGreatDoor
/- Plain: the calls one after the other. -/
namespace Go.Proofs.YthcgoaejnpelbaaGreatDoor
open Go.RowKit Go.Fp

theorem app3 {A B C τ : Type} {f : A → B → C → τ} {a : A} {b : B} {c : C} : unc3 f (a, b, c) = f a b c := rfl
theorem rises {fr l : List Int} (h1 : l.Pairwise (· < ·)) (h2 : ∀ x ∈ l, x ∈ fr) (hl : l.length ≤ 80) : Go.Fp.forM (mFishkeep2FareOnce_L4136 fr l) l.length 0 () = some (.inl ()) := by
  rcases forM_inv (body := mFishkeep2FareOnce_L4136 fr l) (fun _ _ => True) (fun _ => False) l.length 0 () trivial (fun k _ _ hk _ => by
    have hk : k < l.length := by omega
    unfold mFishkeep2FareOnce_L4136
    rw [idx_lt hk, Option.bind_some, contains_eq, Option.bind_some, decide_eq_true (h2 _ (List.getElem_mem hk)), if_pos rfl]
    by_cases c : 0 < (k : Int)
    · rw [if_pos c, chk_ok (by omega) (by omega), Option.bind_some, show (k : Int) - 1 = ((k - 1 : Nat) : Int) by omega, idx_lt (by omega), Option.bind_some, Option.bind_some]
      have := List.pairwise_iff_getElem.1 h1 (k - 1) k (by omega) hk (by omega)
      rw [decide_eq_false (by omega), if_neg (by decide)]
      exact .inl ⟨_, rfl, trivial⟩
    · rw [if_neg c, Option.bind_some, if_neg (by decide)]
      exact .inl ⟨_, rfl, trivial⟩) with ⟨s, f1, _⟩ | ⟨t, _, f2⟩
  · exact f1
  · exact f2.elim
def Inv (s : Int) (n L : Nat) (q : List Int × List FareBooking × List Bool) : Prop := St s n q.2.1 q.2.2 ∧ 4 * (q.2.1.length + q.2.2.count true) + q.1.length ≤ L
def Ends (s : Int) (n : Nat) (t : (List FareBooking × List Bool) ⊕ Bool) : Prop := ∃ bk cn, t = .inl (bk, cn) ∧ St s n bk cn ∧ bk.length ≤ 2300000000000
theorem calls_spec {r a s : Int} {n : Nat} (hc : Car r a s n) (sc : List Int) (hL : sc.length ≤ 17592186043904) :
    ∃ t, loopM (mFishkeep2FareOnce_L3347 r a s) (sc, [], []) = some t ∧ Ends s n t := by
  refine loopM_inv (step := mFishkeep2FareOnce_L3347 r a s) (Inv s n sc.length) (Ends s n) (fun q => q.1.length) (fun q hq => ?_) (sc, [], []) ⟨⟨rfl, fun b hb => by simp at hb, fun i j b c _ hb => by simp at hb⟩, by simp⟩
  obtain ⟨l, bk, cn⟩ := q
  obtain ⟨hS, hl⟩ := hq
  simp only at hS hl
  have hb := few hc hS hL hl
  unfold mFishkeep2FareOnce_L3347
  rw [app3]
  by_cases c4 : 4 ≤ (l.length : Int)
  · rw [if_pos c4]
    have i0 : idx l 0 = some l[0] := idx_lt (l := l) (j := 0) (by omega)
    have i1 : idx l 1 = some l[1] := idx_lt (l := l) (j := 1) (by omega)
    have i2 : idx l 2 = some l[2] := idx_lt (l := l) (j := 2) (by omega)
    have i3 : idx l 3 = some l[3] := idx_lt (l := l) (j := 3) (by omega)
    have hcut : cutS l 4 (l.length : Int) = some (l.drop 4) := by
      have := cutS_ok (l := l) (a := 4) (b := l.length) (by omega) (Nat.le_refl _)
      rwa [List.take_of_length_le (Nat.le_refl _)] at this
    have hd : (l.drop 4).length = l.length - 4 := List.length_drop
    rw [i0, Option.bind_some, i1, Option.bind_some, i2, Option.bind_some, i3, Option.bind_some, hcut, Option.bind_some]
    generalize l[0] = kind
    generalize l[1] = f
    generalize l[2] = t
    generalize l[3] = many
    by_cases ck : kind = 0
    · rw [if_pos ck]
      obtain ⟨e, cn', e1, e2, e3⟩ := cancel_spec (r := r) (a := a) hS hb f
      rw [e1, pass2]
      exact .inl ⟨_, rfl, ⟨e2, by simp only; omega⟩, by simp only; omega⟩
    · rw [if_neg ck]
      obtain ⟨fr, f1, f2, f3, f4⟩ := free_call hS.len (by omega) hc f t
      obtain ⟨x, y, z, e, w, bk', cn', b1, b2⟩ := book_spec hc hS hb f t many f1 f2 f3
      have same : 4 * (bk.length + cn.count true) + (l.drop 4).length ≤ sc.length := by omega
      rw [f4]
      by_cases c1 : 0 ≤ f ∧ f < t ∧ t < s
      · rw [if_pos c1, pass2, b1, pass7, if_neg (by decide)]
        rcases b2 with ⟨d1, rfl, rfl, rfl⟩ | ⟨⟨_, d1⟩, d2, rfl, rfl, rfl⟩ | ⟨⟨_, d1⟩, d2, rfl, d3, d4, d5, rfl, rfl⟩
        · have hbad : (if many < 1 then some true else some (decide (8 < many)) : Option Bool) = some true := by
            by_cases q : many < 1
            · rw [if_pos q]
            · rw [if_neg q, decide_eq_true (by omega)]
          rw [hbad, Option.bind_some, if_pos rfl, if_neg (by decide)]
          exact .inl ⟨_, rfl, ⟨hS, same⟩, by simp only; omega⟩
        · rw [if_neg (by omega), decide_eq_false (by omega), Option.bind_some, if_neg (by decide), if_pos d2, if_neg (by decide)]
          exact .inl ⟨_, rfl, ⟨hS, same⟩, by simp only; omega⟩
        · have hn := hc.n1
          rw [if_neg (by omega), decide_eq_false (by omega), Option.bind_some, if_neg (by decide), if_neg (by omega), if_neg (by decide), decide_eq_false (by omega), Option.bind_some, if_neg (by decide), rises d4 d5 (by omega), Option.bind_some, Sum.elim_inl]
          refine .inl ⟨_, rfl, ⟨hS.book f2 c1 (by omega) d4 d5, ?_⟩, by simp only; omega⟩
          simp only [List.length_append, List.length_singleton, List.count_append]
          simp
          omega
      · rw [if_neg c1, pass2, b1, pass7, if_pos (by decide), Option.bind_some, if_pos rfl]
        rcases b2 with ⟨d1, rfl, rfl, rfl⟩ | ⟨⟨d0, _⟩, _⟩ | ⟨⟨d0, _⟩, _⟩
        · rw [if_neg (by decide)]
          exact .inl ⟨_, rfl, ⟨hS, same⟩, by simp only; omega⟩
        · exact absurd d0 c1
        · exact absurd d0 c1
  · rw [if_neg c4]
    exact .inr ⟨_, rfl, bk, cn, rfl, hS, hb⟩
end Go.Proofs.YthcgoaejnpelbaaGreatDoor
/- Plain: the law FareOnce. -/
namespace Go.Proofs.YthcgoaejnpelbaaGreatDoor
open Go.RowKit Go.Fp

theorem bookings_spec {r a s : Int} {n : Nat} {bk : List FareBooking} {cn : List Bool} (hS : St s n bk cn) (hb : bk.length ≤ 2300000000000) (hn : n ≤ 1000) :
    ∃ A, mFareCarBookings r a s bk cn = some A ∧ A.Pairwise Rel ∧ (∀ b ∈ A, Book s n b) ∧ A.length ≤ cn.count false := by
  have hl := hS.len
  unfold mFareCarBookings
  obtain ⟨A, f1, f2, f3, f4⟩ := forS_inv (body := mFareCarBookings_L210 bk cn) (fun k A => A.Pairwise Rel ∧ (∀ b ∈ A, ∃ i : Nat, i < k ∧ bk[i]? = some b ∧ cn[i]? = some false) ∧ A.length = (cn.take k).count false) bk.length 0 [] ⟨.nil, fun b hb => by simp at hb, by simp⟩ (fun k A _ hk hI => by
    obtain ⟨g1, g2, g3⟩ := hI
    have hk : k < bk.length := by omega
    have hx : bk[k]? = some bk[k] := List.getElem?_eq_getElem hk
    have hc : cn[k]? = some cn[k] := List.getElem?_eq_getElem (by omega)
    have hcnt := List.count_le_length (a := false) (l := cn.take k)
    rw [List.length_take] at hcnt
    unfold mFareCarBookings_L210
    rw [idx_nat hx, Option.bind_some, idx_nat hc, Option.bind_some]
    have ht : (cn.take (k + 1)).count false = (cn.take k).count false + (if cn[k] = false then 1 else 0) := by
      rw [List.take_add_one, List.count_append, hc]
      cases cn[k] <;> simp
    by_cases c : cn[k] = true
    · rw [if_pos c]
      refine ⟨_, rfl, g1, fun b hb => ?_, by rw [ht, if_neg (by rw [c]; decide)]; exact g3⟩
      obtain ⟨i, h1, h2⟩ := g2 b hb
      exact ⟨i, by omega, h2⟩
    · have c' : cn[k] = false := by simpa using c
      have hB := hS.ok _ (List.getElem_mem hk)
      have hw : bk[k].Seats.length ≤ 1000 := by
        have h80 : ∀ l : List Int, l.Pairwise (· < ·) → ∀ m : Nat, (∀ x ∈ l, 0 ≤ x ∧ x < (m : Int)) → l.length ≤ m := fun l hp m hm => by
          have := inj_len (R := fun i c => ∃ x, l[i]? = some x ∧ c = x.toNat ∧ 0 ≤ x) (fun i j c h1 h2 => by
            obtain ⟨x, p1, p2, p3⟩ := h1
            obtain ⟨y, q1, q2, q3⟩ := h2
            have hn : l.Nodup := hp.imp (fun h => by omega)
            have : x = y := by omega
            subst this
            exact (List.getElem?_inj (List.getElem?_eq_some_iff.1 p1).1 hn).1 (by rw [p1, q1])) (List.range l.length) (List.range m) List.nodup_range (fun i hi => by
            have hi := List.mem_range.1 hi
            have := hm _ (List.getElem_mem hi)
            exact ⟨l[i].toNat, List.mem_range.2 (by omega), l[i], List.getElem?_eq_getElem hi, rfl, this.1⟩)
          simpa using this
        exact Nat.le_trans (h80 _ hB.2.2.2.1 n hB.2.2.2.2.1) hn
      rw [if_neg c]
      unfold mSlicesClone
      rw [room_ok (by omega) (by omega), Option.bind_some, Option.bind_some, room_ok (by omega) (by omega), Option.bind_some]
      refine ⟨_, rfl, ?_, fun b hb => ?_, by rw [ht, if_pos c']; simp [g3]⟩
      · rw [List.pairwise_append]
        refine ⟨g1, List.pairwise_singleton _ _, fun b hb y hy => ?_⟩
        rw [List.mem_singleton] at hy
        subst hy
        obtain ⟨i, h1, h2, h3⟩ := g2 b hb
        exact hS.rel i k b bk[k] (by omega) h2 hx h3 (by rw [hc, c'])
      · rw [List.mem_append, List.mem_singleton] at hb
        rcases hb with hb | rfl
        · obtain ⟨i, h1, h2⟩ := g2 b hb
          exact ⟨i, by omega, h2⟩
        · exact ⟨k, by omega, hx, by rw [hc, c']⟩)
  rw [f1, Option.bind_some]
  refine ⟨A, rfl, f2, fun b hb => ?_, ?_⟩
  · obtain ⟨i, _, h2, _⟩ := f3 b hb
    exact hS.ok b (List.mem_of_getElem? h2)
  · rw [f4, Nat.zero_add, ← hl, List.take_of_length_le (Nat.le_refl _)]
    exact Nat.le_refl _
/-- Two places that are not taken twice. -/
def Apart (p q : FareSpan × Int) : Prop := p.2 = q.2 → p.1.To ≤ q.1.From ∨ q.1.To ≤ p.1.From
def Good (s : Int) (n : Nat) (p : FareSpan × Int) : Prop := 0 ≤ p.1.From ∧ p.1.From < p.1.To ∧ p.1.To < s ∧ 0 ≤ p.2 ∧ p.2 < (n : Int)
theorem apart_ne {s : Int} {n : Nat} {Q : List (FareSpan × Int)} (hA : Q.Pairwise Apart) {i j : Nat} {p q : FareSpan × Int} (hp : Q[i]? = some p) (hq : Q[j]? = some q) (hs : p.2 = q.2) (hij : i ≠ j) : p.1.To ≤ q.1.From ∨ q.1.To ≤ p.1.From := by
  obtain ⟨hi, ei⟩ := List.getElem?_eq_some_iff.1 hp
  obtain ⟨hj, ej⟩ := List.getElem?_eq_some_iff.1 hq
  by_cases c : i < j
  · have := List.pairwise_iff_getElem.1 hA i j hi hj c
    rw [ei, ej] at this
    exact this hs
  · have := List.pairwise_iff_getElem.1 hA j i hj hi (by omega)
    rw [ei, ej] at this
    exact (this hs.symm).symm
theorem places_few {r a s : Int} {n : Nat} (hc : Car r a s n) {Q : List (FareSpan × Int)} (hA : Q.Pairwise Apart) (hG : ∀ p ∈ Q, Good s n p) : Q.length ≤ 960 := by
  have h := inj_len (R := fun i c => ∃ p, Q[i]? = some p ∧ Good s n p ∧ c = p.1.From.toNat * 80 + p.2.toNat) (fun i j c h1 h2 => by
    obtain ⟨p, p1, p2, p3⟩ := h1
    obtain ⟨q, q1, q2, q3⟩ := h2
    have hn := hc.n1
    by_cases e : i = j
    · exact e
    · exfalso
      obtain ⟨a1, a2, a3, a4, a5⟩ := p2
      obtain ⟨b1, b2, b3, b4, b5⟩ := q2
      have : p.2 = q.2 := by omega
      rcases apart_ne (s := s) (n := n) hA p1 q1 this e with h | h <;> omega) (List.range Q.length) (List.range 960) List.nodup_range (fun i hi => by
    have hi := List.mem_range.1 hi
    have hg := hG _ (List.getElem_mem hi)
    have hs := hc.s0
    have hn := hc.n1
    refine ⟨Q[i].1.From.toNat * 80 + Q[i].2.toNat, List.mem_range.2 ?_, Q[i], List.getElem?_eq_getElem hi, hg, rfl⟩
    obtain ⟨a1, a2, a3, a4, a5⟩ := hg
    omega)
  simpa using h
theorem count_few {s : Int} {n : Nat} {Q : List (FareSpan × Int)} (hA : Q.Pairwise Apart) (hG : ∀ p ∈ Q, Good s n p) (k : Nat) : count (Q.map (·.1)) k ≤ n := by
  have h := inj_len (R := fun i c => ∃ p, Q[i]? = some p ∧ Good s n p ∧ p.1.From ≤ (k : Int) ∧ (k : Int) < p.1.To ∧ c = p.2.toNat) (fun i j c h1 h2 => by
    obtain ⟨p, p1, p2, p3, p4, p5⟩ := h1
    obtain ⟨q, q1, q2, q3, q4, q5⟩ := h2
    by_cases e : i = j
    · exact e
    · exfalso
      obtain ⟨a1, a2, a3, a4, a5⟩ := p2
      obtain ⟨b1, b2, b3, b4, b5⟩ := q2
      have : p.2 = q.2 := by omega
      rcases apart_ne (s := s) (n := n) hA p1 q1 this e with h | h <;> omega) (covs (Q.map (·.1)) k (Q.map (·.1)).length) (List.range n) (by
    unfold covs
    exact List.Pairwise.filter _ List.nodup_range) (fun i hi => by
    unfold covs at hi
    rw [List.mem_filter, List.mem_range] at hi
    obtain ⟨h1, h2⟩ := hi
    have h1' : i < Q.length := by simpa using h1
    have h3 := (cov_iff h1).1 h2
    have e1 : frOf (Q.map (·.1)) i = Q[i].1.From := by
      unfold frOf
      rw [List.getElem?_map, List.getElem?_eq_getElem h1']
      rfl
    have e2 : toOf (Q.map (·.1)) i = Q[i].1.To := by
      unfold toOf
      rw [List.getElem?_map, List.getElem?_eq_getElem h1']
      rfl
    have hg := hG _ (List.getElem_mem h1')
    refine ⟨Q[i].2.toNat, List.mem_range.2 (by have := hg.2.2.2; omega), Q[i], List.getElem?_eq_getElem h1', hg, by omega, by omega, rfl⟩)
  rw [List.length_range] at h
  exact h
theorem meet_spec {A : List FareBooking} (hA : A.Pairwise Rel) {i : Nat} (hi : i < A.length) : Go.Fp.forM (mFishkeep2FareOnce_L4636 (A.take i) A[i]) (A.take i).length 0 () = some (.inl ()) := by
  rcases forM_inv (body := mFishkeep2FareOnce_L4636 (A.take i) A[i]) (fun _ _ => True) (fun _ => False) (A.take i).length 0 () trivial (fun k _ _ hk _ => by
    have hti : (A.take i).length = i := by rw [List.length_take]; omega
    have hk : k < i := by omega
    have hx : (A.take i)[k]? = some A[k] := by rw [List.getElem?_take_of_lt hk, List.getElem?_eq_getElem (by omega)]
    have hR : Rel A[k] A[i] := List.pairwise_iff_getElem.1 hA k i (by omega) hi hk
    unfold mFishkeep2FareOnce_L4636
    rw [idx_nat hx, Option.bind_some]
    by_cases c1 : A[i].From < A[k].To
    · rw [if_pos c1]
      by_cases c2 : A[k].From < A[i].To
      · rw [if_pos c2]
        unfold mSlicesContainsFunc_4 mSlicesIndexFunc_5
        obtain ⟨q, q1, q2⟩ := any_spec (p := fun x : Int => x ∈ A[k].Seats) A[i].Seats (mSlicesIndexFunc_5_L54 A[i].Seats A[k].No A[k].From A[k].To A[k].Seats) (fun j h => by
          unfold mSlicesIndexFunc_5_L54 mFishkeep2FareOnce_1
          rw [idx_lt h, Option.bind_some, contains_eq, Option.bind_some, Option.bind_some]
          by_cases d : A[i].Seats[j] ∈ A[k].Seats
          · rw [decide_eq_true d, if_pos rfl, if_pos d]
          · rw [decide_eq_false d, if_neg (by decide), if_neg d])
        have hq : ¬ 0 ≤ q := fun h => by
          obtain ⟨x, hx1, hx2⟩ := q2.1 h
          rcases hR with h | h | h
          · omega
          · omega
          · exact h x hx2 hx1
        rw [q1, Option.bind_some, decide_eq_false hq, Option.bind_some, Option.bind_some, if_neg (by decide)]
        exact .inl ⟨_, rfl, trivial⟩
      · rw [if_neg c2, Option.bind_some, if_neg (by decide)]
        exact .inl ⟨_, rfl, trivial⟩
    · rw [if_neg c1, Option.bind_some, if_neg (by decide)]
      exact .inl ⟨_, rfl, trivial⟩) with ⟨s, f1, _⟩ | ⟨t, _, f2⟩
  · exact f1
  · exact f2.elim
def Sp (s : Int) (n : Nat) (A : List FareBooking) (i : Nat) (Q : List (FareSpan × Int)) : Prop := Q.Pairwise Apart ∧ (∀ p ∈ Q, Good s n p) ∧ ∀ p ∈ Q, ∃ b ∈ A.take i, p.2 ∈ b.Seats ∧ p.1 = ⟨b.From, b.To⟩
theorem spans_one {r a s : Int} {n : Nat} (hc : Car r a s n) {A : List FareBooking} (hA : A.Pairwise Rel) (hB : ∀ b ∈ A, Book s n b) {i : Nat} (hi : i < A.length) {Q : List (FareSpan × Int)} (hQ : Sp s n A i Q) :
    ∃ Q', Go.Fp.forS (mFishkeep2FareOnce_L4709 A[i]) A[i].Seats.length 0 (Q.map (·.1)) = some (Q'.map (·.1)) ∧ Sp s n A (i + 1) Q' := by
  have hb := hB _ (List.getElem_mem hi)
  obtain ⟨q1, q2, q3⟩ := hQ
  have more : ∀ b, b ∈ A.take i → b ∈ A.take (i + 1) := fun b h => by
    rw [List.take_add_one, List.mem_append]
    exact .inl h
  have self : A[i] ∈ A.take (i + 1) := by
    rw [List.take_add_one, List.mem_append, List.getElem?_eq_getElem hi]
    exact .inr (List.mem_singleton.2 rfl)
  obtain ⟨w, f1, Q', f2, f3, f4, f5⟩ := forS_inv (body := mFishkeep2FareOnce_L4709 A[i]) (fun k w => ∃ Q' : List (FareSpan × Int), w = Q'.map (·.1) ∧ Q'.Pairwise Apart ∧ (∀ p ∈ Q', Good s n p) ∧ ∀ p ∈ Q', (∃ b ∈ A.take i, p.2 ∈ b.Seats ∧ p.1 = ⟨b.From, b.To⟩) ∨ (p.2 ∈ A[i].Seats.take k ∧ p.1 = ⟨A[i].From, A[i].To⟩)) A[i].Seats.length 0 (Q.map (·.1)) ⟨Q, rfl, q1, q2, fun p hp => .inl (q3 p hp)⟩ (fun k w _ hk hI => by
    obtain ⟨Q', rfl, g1, g2, g3⟩ := hI
    have hk : k < A[i].Seats.length := by omega
    have hlen := places_few hc g1 g2
    obtain ⟨b1, b2, b3, b4, b5, b6⟩ := hb
    have hx := b5 _ (List.getElem_mem hk)
    unfold mFishkeep2FareOnce_L4709
    rw [room_ok (by rw [List.length_map]; omega) (by rw [List.length_map]; omega), Option.bind_some]
    refine ⟨_, rfl, Q' ++ [(⟨A[i].From, A[i].To⟩, A[i].Seats[k])], by simp, ?_, fun p hp => ?_, fun p hp => ?_⟩
    · rw [List.pairwise_append]
      refine ⟨g1, List.pairwise_singleton _ _, fun p hp q hq => ?_⟩
      rw [List.mem_singleton] at hq
      subst hq
      intro hs
      simp only at hs
      rcases g3 p hp with ⟨b, e1, e2, e3⟩ | ⟨e1, e2⟩
      · obtain ⟨j, hj, e4⟩ := List.getElem_of_mem e1
        rw [List.length_take] at hj
        rw [List.getElem_take] at e4
        have hR : Rel A[j] A[i] := List.pairwise_iff_getElem.1 hA j i (by omega) hi (by omega)
        rw [e4] at hR
        rw [e3]
        rcases hR with h | h | h
        · exact .inl h
        · exact .inr h
        · exact absurd (by rw [hs]; exact List.getElem_mem hk) (h _ e2)
      · exfalso
        obtain ⟨j, hj, e4⟩ := List.getElem_of_mem e1
        rw [List.length_take] at hj
        rw [List.getElem_take] at e4
        have := List.pairwise_iff_getElem.1 b4 j k (by omega) hk (by omega)
        omega
    · rw [List.mem_append, List.mem_singleton] at hp
      rcases hp with hp | rfl
      · exact g2 p hp
      · exact ⟨b1, b2, b3, hx.1, hx.2⟩
    · rw [List.mem_append, List.mem_singleton] at hp
      rcases hp with hp | rfl
      · rcases g3 p hp with h | ⟨h1, h2⟩
        · exact .inl h
        · refine .inr ⟨?_, h2⟩
          rw [List.take_add_one, List.mem_append]
          exact .inl h1
      · refine .inr ⟨?_, rfl⟩
        rw [List.take_add_one, List.mem_append, List.getElem?_eq_getElem hk]
        exact .inr (List.mem_singleton.2 rfl))
  refine ⟨Q', by rw [f1, f2], f3, f4, fun p hp => ?_⟩
  rcases f5 p hp with ⟨b, h1, h2⟩ | ⟨h1, h2⟩
  · exact ⟨b, more b h1, h2⟩
  · exact ⟨A[i], self, List.mem_of_mem_take h1, h2⟩
theorem spans_spec {r a s : Int} {n : Nat} (hc : Car r a s n) {A : List FareBooking} (hA : A.Pairwise Rel) (hB : ∀ b ∈ A, Book s n b) :
    ∃ Q : List (FareSpan × Int), Go.Fp.forM mFishkeep2FareOnce_L4282 A.length 0 (A, A, []) = some (.inl (A, A, Q.map (·.1))) ∧ Q.Pairwise Apart ∧ ∀ p ∈ Q, Good s n p := by
  rcases forM_inv (body := mFishkeep2FareOnce_L4282) (fun i q => ∃ Q : List (FareSpan × Int), q = (A, A, Q.map (·.1)) ∧ Sp s n A i Q) (fun _ => False) A.length 0 (A, A, []) ⟨[], rfl, .nil, fun p hp => by simp at hp, fun p hp => by simp at hp⟩ (fun i q _ hi hI => by
    obtain ⟨Q, rfl, hQ⟩ := hI
    have hi : i < A.length := by omega
    have hcut := cutS_ok (l := A) (a := 0) (b := i) (Nat.zero_le _) (by omega)
    rw [List.drop_zero] at hcut
    obtain ⟨Q', h1, h2⟩ := spans_one hc hA hB hi hQ
    unfold mFishkeep2FareOnce_L4282
    rw [app3, idx_lt hi, Option.bind_some, show cutS A 0 (i : Int) = some (A.take i) from hcut, Option.bind_some, meet_spec hA hi, Option.bind_some, Sum.elim_inl, h1, Option.bind_some]
    exact .inl ⟨_, rfl, Q', rfl, h2⟩) with ⟨q, f1, Q, rfl, f2, f3, f4⟩ | ⟨t, _, f2⟩
  · exact ⟨Q, f1, f2, f3⟩
  · exact f2.elim
theorem app2 {A B τ : Type} {f : A → B → τ} {a : A} {b : B} : unc2 f (a, b) = f a b := rfl
theorem pass5 {A B C D E τ : Type} {f : A → B → C → D → E → Option τ} {a : A} {b : B} {c : C} {d : D} {e : E} : (some (a, b, c, d, e)).bind (unc5 f) = f a b c d e := rfl
theorem once_valid {r a s : Int} {n : Nat} (hc : Car r a s n) (sc : List Int) (hL : sc.length ≤ 17592186043904) : mFishkeep2FareOnce r a s sc = some true := by
  have hr := hc.r0
  have ha := hc.a0
  have hs := hc.s0
  have hn := hc.n1
  have hna := hc.n0
  have hnew : mFareNewCar r a s = some (r, a, s, [], []) := by
    unfold mFareNewCar
    rw [within_spec, Option.bind_some, decide_eq_true hr, if_pos rfl, within_spec, Option.bind_some, decide_eq_true ha, if_pos rfl, within_spec, Option.bind_some, decide_eq_true hs, Option.bind_some, if_neg (by decide)]
  unfold mFishkeep2FareOnce
  rw [show mFishkeep2AwakeFare = some () from rfl, Option.bind_some, hnew, pass5, fares_true, Option.bind_some, if_pos rfl, if_neg (by decide)]
  obtain ⟨t, t1, bk, cn, rfl, t3, t4⟩ := calls_spec hc sc hL
  rw [t1, Option.bind_some, Sum.elim_inl]
  rw [app2]
  obtain ⟨A, A1, A2, A3, A4⟩ := bookings_spec (r := r) (a := a) t3 t4 (by omega)
  rw [A1, Option.bind_some]
  obtain ⟨Q, Q1, Q2, Q3⟩ := spans_spec hc A2 A3
  rw [Q1, Option.bind_some, Sum.elim_inl, app3]
  by_cases c : 200 < ((Q.map (·.1)).length : Int)
  · rw [if_pos c]
  · rw [if_neg c, hna, chk_ok (by omega) (by omega), Option.bind_some]
    have hn1 : 1 ≤ (n : Int) := by
      have := Int.mul_le_mul hr.1 ha.1 (by decide) (by omega)
      omega
    have hF : Fit (Q.map (·.1)) (n : Int) s := by
      refine ⟨by omega, ?_, hs, fun x hx => ?_⟩
      · omega
      · obtain ⟨p, hp, rfl⟩ := List.mem_map.1 hx
        have := Q3 p hp
        exact ⟨this.1, this.2.1, this.2.2.1⟩
    rcases pack_spec hF with ⟨_, k, _, p3⟩ | ⟨O, U, out, M, p1, _, _⟩
    · have := count_few Q2 Q3 k
      omega
    · rw [p1, pass2]
      rfl
theorem once_other {r a s : Int} (h : ¬ ((1 ≤ r ∧ r ≤ 20) ∧ (1 ≤ a ∧ a ≤ 4) ∧ (2 ≤ s ∧ s ≤ 12))) (sc : List Int) : Inv.mFishkeep2FareOnce r a s sc = some true := by
  have hnew : Inv.mFareNewCar r a s = some () := by
    unfold Inv.mFareNewCar
    rw [within_spec, Option.bind_some]
    by_cases c1 : 1 ≤ r ∧ r ≤ 20
    · rw [decide_eq_true c1, if_pos rfl, within_spec, Option.bind_some]
      by_cases c2 : 1 ≤ a ∧ a ≤ 4
      · rw [decide_eq_true c2, if_pos rfl, within_spec, Option.bind_some, decide_eq_false (fun c3 => h ⟨c1, c2, c3⟩), Option.bind_some, if_pos (by decide)]
      · rw [decide_eq_false c2, if_neg (by decide), Option.bind_some, if_pos rfl]
    · rw [decide_eq_false c1, if_neg (by decide), Option.bind_some, if_pos rfl]
  unfold Inv.mFishkeep2FareOnce
  rw [show mFishkeep2AwakeFare = some () from rfl, Option.bind_some, hnew, Option.bind_some, fares_true, Option.bind_some, if_pos rfl, if_pos (by decide)]
theorem oncePlain (r a s : Int) (sc : List Int) {A B C D : Prop} (_ : A) (_ : B) (_ : C) (_ : D) (hz : sc.length * 8 ≤ 140737488351232) : mFishkeep2FareOnce r a s sc = some true ∨ Inv.mFishkeep2FareOnce r a s sc = some true := by
  by_cases h : (1 ≤ r ∧ r ≤ 20) ∧ (1 ≤ a ∧ a ≤ 4) ∧ (2 ≤ s ∧ s ≤ 12)
  · obtain ⟨n, hc⟩ := car_of h.1 h.2.1 h.2.2
    exact .inl (once_valid hc sc (by omega))
  · exact .inr (once_other h sc)
end Go.Proofs.YthcgoaejnpelbaaGreatDoor
