/- Plain: tables as lists; the closure's model. -/
import Derived.Test.YtakehdnblmonlaaCL1
import Derived.Test.YtakehdnblmonlaaCD
set_option linter.unusedVariables false
set_option linter.unusedSimpArgs false
namespace Go.Proofs.Ytakehdnblmonlaa
open Go.RowKit Go.Fp

def tb (T : List (List Int)) (i j : Nat) : Int := ((T[i]?).getD []).getD j 0
theorem tb_some {T : List (List Int)} {i : Nat} {r : List Int} (h : T[i]? = some r) (j : Nat) : tb T i j = r.getD j 0 := by
  unfold tb
  rw [h]
  rfl
theorem tb_congr {T U : List (List Int)} {i : Nat} (h : T[i]? = U[i]?) (j : Nat) : tb T i j = tb U i j := by
  unfold tb
  rw [h]
structure Sq (n : Nat) (T : List (List Int)) : Prop where
  len : T.length = n
  row : ∀ i (h : i < T.length), (T[i]).length = n
theorem Sq.at {n : Nat} {T : List (List Int)} (h : Sq n T) {i : Nat} (hi : i < n) : ∃ r : List Int, idx T (i : Int) = some r ∧ r.length = n ∧ ∀ j, tb T i j = r.getD j 0 := by
  have hi' : i < T.length := by rw [h.len]; exact hi
  refine ⟨T[i], idx_lt hi', h.row i hi', fun j => ?_⟩
  exact tb_some (List.getElem?_eq_getElem hi') j
theorem idx_getD {r : List Int} {j : Nat} (hj : j < r.length) : idx r (j : Int) = some (r.getD j 0) := by
  rw [idx_lt hj, List.getD_eq_getElem?_getD, List.getElem?_eq_getElem hj]
  rfl
theorem Sq.put {n : Nat} {T : List (List Int)} (h : Sq n T) {i : Nat} (hi : i < n) {r : List Int} (hr : r.length = n) : Sq n (put T (i : Int) r) := by
  rw [put_nat]
  refine ⟨by rw [List.length_set]; exact h.len, fun k hk => ?_⟩
  rw [List.length_set] at hk
  by_cases e : i = k
  · subst e
    rw [List.getElem_set_self]
    exact hr
  · rw [List.getElem_set_ne e]
    exact h.row k hk
theorem tb_put {n : Nat} {T : List (List Int)} (h : Sq n T) {i j : Nat} (hi : i < n) (hj : j < n) {r : List Int} (hr : idx T (i : Int) = some r) (x : Int) (a b : Nat) : tb (put T (i : Int) (put r (j : Int) x)) a b = set2 (tb T) i j x a b := by
  have hi' : i < T.length := by rw [h.len]; exact hi
  have er : T[i] = r := by
    have := (idx_lt hi').symm.trans hr
    injection this
  have hrl : r.length = n := by rw [← er]; exact h.row i hi'
  rw [put_nat, put_nat]
  unfold set2
  by_cases e : i = a
  · subst e
    rw [tb_some (List.getElem?_set_self hi')]
    by_cases e2 : j = b
    · subst e2
      rw [if_pos ⟨rfl, rfl⟩, List.getD_eq_getElem?_getD, List.getElem?_set_self (by omega)]
      rfl
    · rw [if_neg (fun h => e2 h.2.symm), List.getD_eq_getElem?_getD, List.getElem?_set_ne e2, tb_some (List.getElem?_eq_getElem hi'), er, List.getD_eq_getElem?_getD]
  · rw [if_neg (fun h => e h.1.symm)]
    exact tb_congr (List.getElem?_set_ne e) b
theorem tb_row {n : Nat} {T : List (List Int)} (h : Sq n T) {i : Nat} (hi : i < n) (r : List Int) (a b : Nat) : tb (put T (i : Int) r) a b = if a = i then r.getD b 0 else tb T a b := by
  have hi' : i < T.length := by rw [h.len]; exact hi
  rw [put_nat]
  by_cases e : i = a
  · subst e
    rw [if_pos rfl, tb_some (List.getElem?_set_self hi')]
  · rw [if_neg (fun h => e h.symm)]
    exact tb_congr (List.getElem?_set_ne e) b
theorem Sq.ext {n : Nat} {T U : List (List Int)} (h : Sq n T) (h' : Sq n U) (he : ∀ i j, i < n → j < n → tb T i j = tb U i j) : T = U := by
  apply List.ext_getElem (by rw [h.len, h'.len])
  intro i h1 h2
  have l1 := h.row i h1
  have l2 := h'.row i h2
  apply List.ext_getElem (by rw [l1, l2])
  intro j h3 h4
  have := he i j (by rw [← h.len]; exact h1) (by omega)
  rw [tb_some (List.getElem?_eq_getElem h1), tb_some (List.getElem?_eq_getElem h2), List.getD_eq_getElem?_getD, List.getElem?_eq_getElem h3, List.getD_eq_getElem?_getD, List.getElem?_eq_getElem h4] at this
  exact this
/- ---- checks ---- -/
def OkE (x : Int) : Prop := x = NN ∨ (-1099511627776 ≤ x ∧ x ≤ 1099511627776)
theorem within_eq (x a b : Int) : mMendWithin x a b = some (decide (a ≤ x ∧ x ≤ b)) := by
  unfold mMendWithin
  by_cases h : a ≤ x <;> simp [h]
theorem bad_eq (x : Int) : ∃ b, mMendCheckTable_1 x = some b ∧ (b = true ↔ ¬ OkE x) := by
  unfold mMendCheckTable_1 OkE
  by_cases h : x = -4611686018427387904
  · rw [if_neg (by simpa using h)]
    exact ⟨false, rfl, ⟨fun h => absurd h (by decide), fun h' => absurd (.inl h) h'⟩⟩
  · rw [if_pos h, within_eq, Option.bind_some]
    by_cases h2 : -1099511627776 ≤ x ∧ x ≤ 1099511627776
    · rw [decide_eq_true h2]
      exact ⟨false, rfl, ⟨fun h => absurd h (by decide), fun h' => absurd (.inr h2) h'⟩⟩
    · rw [decide_eq_false h2]
      exact ⟨true, rfl, ⟨fun _ h' => h'.elim h h2, fun _ => rfl⟩⟩
theorem rowBad (r : List Int) : ∃ b, mSlicesContainsFunc_2 r = some b ∧ (b = true ↔ ¬ ∀ x ∈ r, OkE x) := by
  unfold mSlicesContainsFunc_2 mSlicesIndexFunc_2
  rcases forM_inv (body := mSlicesIndexFunc_2_L42 r) (fun k _ => ∀ j (h : j < r.length), j < k → OkE r[j]) (fun c => 0 ≤ c ∧ ¬ ∀ x ∈ r, OkE x) r.length 0 () (fun j _ hj => absurd hj (by omega)) (fun k s _ hk hi => by
    have hk' : k < r.length := by omega
    unfold mSlicesIndexFunc_2_L42
    obtain ⟨b, hb1, hb2⟩ := bad_eq r[k]
    rw [idx_lt hk', Option.bind_some, hb1, Option.bind_some]
    by_cases hb : b = true
    · rw [if_pos hb]
      exact .inr ⟨_, rfl, by omega, fun hall => hb2.1 hb (hall _ (List.getElem_mem _))⟩
    · rw [if_neg hb]
      refine .inl ⟨(), rfl, fun j hj hjk => ?_⟩
      by_cases he : j = k
      · subst he
        exact Classical.byContradiction fun h => hb (hb2.2 h)
      · exact hi j hj (by omega)) with ⟨_, h1, h2⟩ | ⟨c, h1, h2, h3⟩
  · rw [h1]
    refine ⟨false, rfl, ⟨fun h => absurd h (by decide), fun h => absurd (fun x hx => ?_) h⟩⟩
    obtain ⟨j, hj, rfl⟩ := List.getElem_of_mem hx
    exact h2 j hj (by omega)
  · rw [h1]
    refine ⟨true, ?_, ⟨fun _ => h3, fun _ => rfl⟩⟩
    simp only [Option.bind_some, Sum.elim_inr]
    rw [decide_eq_true h2]
def OkT (T : List (List Int)) : Prop := ∀ r ∈ T, ∀ x ∈ r, OkE x
theorem table_spec (T : List (List Int)) : ∃ c, mMendCheckTable T = some c ∧ (c = 0 ↔ OkT T) := by
  unfold mMendCheckTable
  rcases forM_inv (body := mMendCheckTable_L48 T) (fun k _ => ∀ j (h : j < T.length), j < k → ∀ x ∈ T[j], OkE x) (fun c => c = 2 ∧ ¬ OkT T) T.length 0 () (fun j _ hj => absurd hj (by omega)) (fun k s _ hk hi => by
    have hk' : k < T.length := by omega
    unfold mMendCheckTable_L48
    obtain ⟨b, hb1, hb2⟩ := rowBad T[k]
    rw [idx_lt hk', Option.bind_some, hb1, Option.bind_some]
    by_cases hb : b = true
    · rw [if_pos hb]
      exact .inr ⟨_, rfl, rfl, fun hall => hb2.1 hb (hall _ (List.getElem_mem _))⟩
    · rw [if_neg hb]
      refine .inl ⟨(), rfl, fun j hj hjk => ?_⟩
      by_cases he : j = k
      · subst he
        exact Classical.byContradiction fun h => hb (hb2.2 h)
      · exact hi j hj (by omega)) with ⟨_, h1, h2⟩ | ⟨c, h1, h2, h3⟩
  · rw [h1]
    refine ⟨0, rfl, ⟨fun _ r hr => ?_, fun _ => rfl⟩⟩
    obtain ⟨j, hj, rfl⟩ := List.getElem_of_mem hr
    exact h2 j hj (by omega)
  · rw [h1]
    exact ⟨c, rfl, ⟨fun h => absurd (h2.symm.trans h) (by decide), fun h => absurd h h3⟩⟩
theorem square_spec (T : List (List Int)) : ∃ b, mSlicesContainsFunc T T = some b ∧ (b = true ↔ ¬ ∀ r ∈ T, r.length = T.length) := by
  unfold mSlicesContainsFunc mSlicesIndexFunc
  rcases forM_inv (body := mSlicesIndexFunc_L57 T T) (fun k _ => ∀ j (h : j < T.length), j < k → (T[j]).length = T.length) (fun c => 0 ≤ c ∧ ¬ ∀ r ∈ T, r.length = T.length) T.length 0 () (fun j _ hj => absurd hj (by omega)) (fun k s _ hk hi => by
    have hk' : k < T.length := by omega
    unfold mSlicesIndexFunc_L57 mMendClosure_1
    rw [idx_lt hk', Option.bind_some, Option.bind_some]
    by_cases hb : ((T[k]).length : Int) ≠ (T.length : Int)
    · rw [decide_eq_true hb, if_pos rfl]
      exact .inr ⟨_, rfl, by omega, fun hall => hb (by rw [hall _ (List.getElem_mem hk')])⟩
    · rw [decide_eq_false hb, if_neg (by decide)]
      refine .inl ⟨(), rfl, fun j hj hjk => ?_⟩
      by_cases he : j = k
      · subst he
        omega
      · exact hi j hj (by omega)) with ⟨_, h1, h2⟩ | ⟨c, h1, h2, h3⟩
  · rw [h1]
    refine ⟨false, rfl, ⟨fun h => absurd h (by decide), fun h => absurd (fun r hr => ?_) h⟩⟩
    obtain ⟨j, hj, rfl⟩ := List.getElem_of_mem hr
    exact h2 j hj (by omega)
  · rw [h1]
    refine ⟨true, ?_, ⟨fun _ => h3, fun _ => rfl⟩⟩
    simp only [Option.bind_some, Sum.elim_inr]
    rw [decide_eq_true h2]
theorem clone_eq {x : List Int} (h : x.length ≤ 1000) : mSlicesClone x = some x := by
  unfold mSlicesClone
  rw [room_ok (by omega) (by omega)]
  rfl
/- ---- the rounds ---- -/
section
variable {f : Nat → Nat → Int} {n k : Nat} {B : Int} {g0 : Nat → Nat → Int}
theorem cell_step (hB : 0 ≤ B) (h6 : 6 * B < 4611686018427387904) (hbd : Bd n B g0) (hk : k < n) {i j : Nat} (hi : i < n) (hj : j < n) {T : List (List Int)} (hS : Sq n T) (hR : Rd1 f n k B g0 i j (tb T)) :
    ∃ T', mMendClosure_L23701 k i j T = some T' ∧ Sq n T' ∧ Rd1 f n k B g0 i (j + 1) (tb T') := by
  obtain ⟨ri, i1, i2, i3⟩ := hS.at hi
  obtain ⟨rk, k1, k2, k3⟩ := hS.at hk
  unfold mMendClosure_L23701
  rw [i1]
  simp only [Option.bind_some]
  rw [idx_getD (show k < ri.length by omega)]
  simp only [Option.bind_some]
  rw [← i3 k]
  by_cases h1 : tb T i k ≠ NN
  · rw [if_pos h1, k1]
    simp only [Option.bind_some]
    rw [idx_getD (show j < rk.length by omega)]
    simp only [Option.bind_some]
    rw [← k3 j]
    by_cases h2 : tb T k j ≠ NN
    · rw [decide_eq_true h2, if_pos rfl, idx_getD (show j < ri.length by omega)]
      simp only [Option.bind_some]
      have hs := hR.sum hB hbd hk hi hj h1 h2
      rw [chk_ok (by omega) (by omega), Option.bind_some, ← i3 j]
      refine ⟨_, rfl, hS.put hi (by rw [put_length]; exact i2), ?_⟩
      have e : tb (put T (i : Int) (put ri (j : Int) (max (tb T i j) (tb T i k + tb T k j)))) = set2 (tb T) i j (max (tb T i j) (tb T i k + tb T k j)) := funext fun a => funext fun b => tb_put hS hi hj i1 _ a b
      rw [e]
      exact hR.next hB h6 hbd hk hi hj h1 h2
    · rw [decide_eq_false h2, if_neg (by decide)]
      exact ⟨T, rfl, hS, hR.next_no hk hi hj (fun h => h2 h.2)⟩
  · rw [if_neg h1, Option.bind_some, if_neg (by decide)]
    exact ⟨T, rfl, hS, hR.next_no hk hi hj (fun h => h1 h.1)⟩
theorem row_step (hB : 0 ≤ B) (h6 : 6 * B < 4611686018427387904) (hbd : Bd n B g0) (hk : k < n) {i : Nat} (hi : i < n) {T : List (List Int)} (hS : Sq n T) (hR : Rd1 f n k B g0 i 0 (tb T)) :
    ∃ T', mMendClosure_L20980 k i T = some T' ∧ Sq n T' ∧ Rd1 f n k B g0 (i + 1) 0 (tb T') := by
  unfold mMendClosure_L20980
  obtain ⟨T', h1, h2, h3⟩ := forS_inv (body := mMendClosure_L23701 k i) (fun j T => Sq n T ∧ Rd1 f n k B g0 i j (tb T)) T.length 0 T ⟨hS, hR⟩ (fun j T' _ hj hi' => by
    rw [hS.len] at hj
    obtain ⟨T'', t1, t2, t3⟩ := cell_step hB h6 hbd hk hi (show j < n by omega) hi'.1 hi'.2
    exact ⟨T'', t1, t2, t3⟩)
  rw [h1]
  rw [hS.len, Nat.zero_add] at h3
  exact ⟨T', rfl, h2, h3.row⟩
theorem round_step (hB : 0 ≤ B) (h6 : 6 * B < 4611686018427387904) (hk : k < n) {T : List (List Int)} (hS : Sq n T) (hl : Low f n k (tb T)) (hu : Up f n (tb T)) (hbd : Bd n B (tb T)) :
    ∃ T', mMendClosure_L12817 k T = some T' ∧ Sq n T' ∧ Low f n (k + 1) (tb T') ∧ Up f n (tb T') ∧ Bd n (6 * B) (tb T') := by
  unfold mMendClosure_L12817
  obtain ⟨T', h1, h2, h3⟩ := forS_inv (body := mMendClosure_L20980 k) (fun i U => Sq n U ∧ Rd1 f n k B (tb T) i 0 (tb U)) T.length 0 T ⟨hS, Rd1.start hB hu hbd⟩ (fun i U _ hi hi' => by
    rw [hS.len] at hi
    obtain ⟨U', t1, t2, t3⟩ := row_step hB h6 hbd hk (show i < n by omega) hi'.1 hi'.2
    exact ⟨U', t1, t2, t3⟩)
  rw [h1]
  rw [hS.len, Nat.zero_add] at h3
  exact ⟨T', rfl, h2, h3.fin hk hl⟩
end
theorem pow6 {k : Nat} (h : k ≤ 8) : (6 : Int) ^ k ≤ 1679616 ∧ 0 < (6 : Int) ^ k := by
  match k, h with
  | 0, _ => decide
  | 1, _ => decide
  | 2, _ => decide
  | 3, _ => decide
  | 4, _ => decide
  | 5, _ => decide
  | 6, _ => decide
  | 7, _ => decide
  | 8, _ => decide
theorem rounds {n : Nat} (h8 : n ≤ 8) {T : List (List Int)} (hS : Sq n T) (hO : OkT T) : ∃ T', forS mMendClosure_L12817 T.length 0 T = some T' ∧ Sq n T' ∧ Low (tb T) n n (tb T') ∧ Up (tb T) n (tb T') := by
  have hb0 : Bd n 1099511627776 (tb T) := fun i j hi hj hne => by
    have hi' : i < T.length := by rw [hS.len]; exact hi
    have hj' : j < (T[i]).length := by rw [hS.row i hi']; exact hj
    have e : tb T i j = T[i][j] := by
      rw [tb_some (List.getElem?_eq_getElem hi'), List.getD_eq_getElem?_getD, List.getElem?_eq_getElem hj']
      rfl
    rcases hO _ (List.getElem_mem hi') _ (List.getElem_mem hj') with h | h
    · exact absurd (e.trans h) hne
    · rw [e]; exact h
  obtain ⟨T', h1, h2, h3, h4, _⟩ := forS_inv (body := mMendClosure_L12817) (fun k U => Sq n U ∧ Low (tb T) n k (tb U) ∧ Up (tb T) n (tb U) ∧ Bd n (1099511627776 * (6 : Int) ^ k) (tb U)) T.length 0 T ⟨hS, low_start, up_start, by simpa using hb0⟩ (fun k U _ hk hi => by
    rw [hS.len] at hk
    have hk' : k < n := by omega
    have p1 := pow6 (show k ≤ 8 by omega)
    have p2 := pow6 (show k + 1 ≤ 8 by omega)
    have e6 : (6 : Int) ^ (k + 1) = 6 ^ k * 6 := Int.pow_succ 6 k
    rw [e6] at p2
    obtain ⟨U', t1, t2, t3, t4, t5⟩ := round_step (B := 1099511627776 * (6 : Int) ^ k) (by omega) (by omega) hk' hi.1 hi.2.1 hi.2.2.1 hi.2.2.2
    refine ⟨U', t1, t2, t3, t4, ?_⟩
    rw [e6]
    have : 6 * (1099511627776 * (6 : Int) ^ k) = 1099511627776 * ((6 : Int) ^ k * 6) := by omega
    rw [← this]
    exact t5)
  rw [hS.len, Nat.zero_add] at h3
  exact ⟨T', h1, h2, h3, h4⟩
/-- What the closure says of a table that may be. -/
theorem closure_spec {n : Nat} (h8 : n ≤ 8) {T : List (List Int)} (hS : Sq n T) (hO : OkT T) :
    (∃ c, mMendClosure T = some (0, c) ∧ Sq n c ∧ Clo (tb T) n (tb c)) ∨ (mMendClosure T = some (5, []) ∧ ∃ i p, i < n ∧ In n p ∧ pf (tb T) i p i ∧ 0 < pw (tb T) i p i) := by
  unfold mMendClosure
  have hlen := hS.len
  obtain ⟨b, b1, b2⟩ := square_spec T
  have hb : b = false := by
    cases b with
    | false => rfl
    | true =>
      refine absurd (fun r hr => ?_) (b2.1 rfl)
      obtain ⟨j, hj, rfl⟩ := List.getElem_of_mem hr
      rw [hS.row j hj, hlen]
  subst hb
  obtain ⟨c, c1, c2⟩ := table_spec T
  have hc := c2.2 hO
  subst hc
  rw [if_neg (by omega), b1, Option.bind_some, if_neg (by decide), c1, Option.bind_some, if_neg (by decide), mkLen_ok (by omega) (by omega), Option.bind_some]
  obtain ⟨U, u1, u2, u3⟩ := forS_inv (body := mMendClosure_L12671 T) (fun k U => U.length = n ∧ ∀ j, j < k → U[j]? = T[j]?) T.length 0 (List.replicate T.length ([] : List Int)) ⟨by rw [List.length_replicate]; exact hlen, fun j hj => absurd hj (by omega)⟩ (fun k U _ hk hi => by
    have hk' : k < T.length := by omega
    unfold mMendClosure_L12671
    rw [idx_lt hk', Option.bind_some, clone_eq (by rw [hS.row k hk']; omega), Option.bind_some, idx_lt (show k < U.length by omega), Option.bind_some]
    refine ⟨_, rfl, by rw [put_length]; exact hi.1, fun j hj => ?_⟩
    rw [put_nat]
    by_cases e : k = j
    · subst e
      rw [List.getElem?_set_self (by omega), List.getElem?_eq_getElem hk']
    · rw [List.getElem?_set_ne e]
      exact hi.2 j (by omega))
  have hU : U = T := by
    apply List.ext_getElem?
    intro j
    by_cases hj : j < T.length
    · exact u3 j (by omega)
    · rw [List.getElem?_eq_none (by omega), List.getElem?_eq_none (by omega)]
  subst hU
  rw [u1, Option.bind_some]
  obtain ⟨G, g1, g2, g3, g4⟩ := rounds h8 hS hO
  rw [g1, Option.bind_some]
  rcases forM_inv (body := mMendClosure_L25053) (fun k V => Sq n V ∧ (∀ i, i < k → i < n → tb V i i = 0 ∧ tb G i i ≤ 0) ∧ ∀ i j, i < n → j < n → (k ≤ i ∨ i ≠ j) → tb V i j = tb G i j)
    (fun t => t = (5, []) ∧ ∃ i p, i < n ∧ In n p ∧ pf (tb U) i p i ∧ 0 < pw (tb U) i p i) G.length 0 G ⟨g2, fun i h => absurd h (by omega), fun i j _ _ _ => rfl⟩ (fun k V _ hk hi => by
    rw [g2.len] at hk
    have hk' : k < n := by omega
    obtain ⟨v1, v2, v3⟩ := hi
    obtain ⟨r, r1, r2, r3⟩ := v1.at hk'
    unfold mMendClosure_L25053
    rw [r1]
    simp only [Option.bind_some]
    rw [idx_getD (show k < r.length by omega)]
    simp only [Option.bind_some]
    rw [← r3 k, v3 k k hk' hk' (.inl (Nat.le_refl _))]
    by_cases hp : 0 < tb G k k
    · rw [if_pos hp]
      refine .inr ⟨_, rfl, rfl, ?_⟩
      obtain ⟨p, p1, p2, p3⟩ := g4 k k hk' hk' (by intro e; rw [e] at hp; exact absurd hp (by decide))
      exact ⟨k, p, hk', p1, p2, by omega⟩
    · rw [if_neg hp]
      refine .inl ⟨_, rfl, v1.put hk' (by rw [put_length]; exact r2), fun i hik hin => ?_, fun i j hi hj hc => ?_⟩
      · rw [tb_put v1 hk' hk' r1]
        by_cases e : i = k
        · subst e
          rw [set2_self]
          exact ⟨rfl, by omega⟩
        · rw [set2_ne (fun h => e h.1)]
          exact v2 i (by omega) hin
      · rw [tb_put v1 hk' hk' r1, set2_ne (by omega)]
        exact v3 i j hi hj (by omega)) with ⟨V, w1, w2, w3, w4⟩ | ⟨t, w1, rfl, w2⟩
  · rw [w1]
    rw [g2.len] at w3 w4
    exact .inl ⟨V, rfl, w2, clo_of g3 g4 (fun i hi => (w3 i (by omega) hi).2) (fun i hi => (w3 i (by omega) hi).1) (fun i j hi hj hne => w4 i j hi hj (.inr hne))⟩
  · rw [w1]
    exact .inr ⟨rfl, w2⟩
end Go.Proofs.Ytakehdnblmonlaa
