/- Plain: repeats, products, wide tables, equality. -/
import Derived.Test.YtakehdnblmonlaaCL2
import Derived.KernelRfl
set_option linter.unusedVariables false
set_option linter.unusedSimpArgs false
namespace Go.Proofs.Ytakehdnblmonlaa
open Go.RowKit Go.Fp

/- ---- repeats ---- -/
theorem mul_all : ∀ n : Fin 9, mBitsMul (IntKind.wrap .u64 1) (IntKind.wrap .u64 (n.val : Int)) = some (0, (n.val : Int)) := by decide +kernel
theorem mul_small {n : Nat} (h : n ≤ 8) : mBitsMul (IntKind.wrap .u64 1) (IntKind.wrap .u64 (n : Int)) = some (0, (n : Int)) := mul_all ⟨n, by omega⟩
theorem wrap_all : ∀ n : Fin 9, IntKind.wrap .i64 (n.val : Int) = (n.val : Int) := by decide +kernel
theorem wrap_small {n : Nat} (h : n ≤ 8) : IntKind.wrap .i64 (n : Int) = (n : Int) := wrap_all ⟨n, by omega⟩
theorem take_rep (x y : Int) (a c k : Nat) (h : k ≤ a) : (List.replicate a x ++ List.replicate c y).take k = List.replicate k x := by
  rw [List.take_append_of_le_length (by rw [List.length_replicate]; exact h), List.take_replicate, Nat.min_eq_left h]
theorem drop_rep (x y : Int) (a c k : Nat) (h : a ≤ k) : (List.replicate a x ++ List.replicate c y).drop k = List.replicate (c - (k - a)) y := by
  obtain ⟨d, rfl⟩ : ∃ d, k = a + d := ⟨k - a, by omega⟩
  have := List.drop_length_add_append (l₁ := List.replicate a x) (l₂ := List.replicate c y) (i := d)
  rw [List.length_replicate] at this
  rw [this, List.drop_replicate]
  congr 1
  omega
theorem cpy_rep (x y : Int) {n a m : Nat} (ha : a ≤ n) : cpyI (List.replicate a x ++ List.replicate (n - a) y) (a : Int) (n : Int) (List.replicate m x) = List.replicate (a + min m (n - a)) x ++ List.replicate (n - (a + min m (n - a))) y := by
  unfold cpyI cpy
  rw [Int.toNat_natCast, Int.toNat_natCast, take_rep x y a (n - a) a (Nat.le_refl _), List.take_replicate, List.length_replicate, drop_rep x y a (n - a) _ (by omega)]
  rw [List.replicate_append_replicate, Nat.min_comm (n - a) m]
  congr 2
  omega
theorem repeat_eq (x : Int) {n : Nat} (h : n ≤ 8) : mSlicesRepeat [x] (n : Int) = some (List.replicate n x) := by
  unfold mSlicesRepeat
  rw [if_neg (by omega)]
  show (mBitsMul (IntKind.wrap .u64 1) (IntKind.wrap .u64 (n : Int))).bind _ = _
  rw [mul_small h, Option.bind_some]
  simp only [unc2]
  rw [if_neg (by decide), Option.bind_some, decide_eq_false (by omega), if_neg (by decide), wrap_small h, mkLen_ok (by omega) (by omega), Option.bind_some]
  have e1 : cpyN 0 ((List.replicate n (0 : Int)).length : Int) [x] = ((min 1 n : Nat) : Int) := by
    unfold cpyN
    rw [List.length_replicate, Int.toNat_natCast]
    rfl
  have e2 : cpyI (List.replicate n (0 : Int)) 0 ((List.replicate n (0 : Int)).length : Int) [x] = List.replicate (min 1 n) x ++ List.replicate (n - min 1 n) 0 := by
    have := cpy_rep x 0 (n := n) (a := 0) (m := 1) (Nat.zero_le _)
    simp only [List.replicate_zero, List.nil_append, Nat.sub_zero, Nat.zero_add] at this
    rw [List.length_replicate]
    exact this
  rw [e1, e2]
  obtain ⟨t, h1, h2⟩ := loopM_inv (step := mSlicesRepeat_L612) (fun s => ∃ a : Nat, s = ((a : Int), List.replicate a x ++ List.replicate (n - a) 0) ∧ a ≤ n ∧ (a = 0 → n = 0)) (fun t => t = List.replicate n x) (fun s => n - s.1.toNat) (fun s hs => by
    obtain ⟨a, rfl, ha, h0⟩ := hs
    unfold mSlicesRepeat_L612
    simp only [unc2]
    have hl : (List.replicate a x ++ List.replicate (n - a) (0 : Int)).length = n := by
      rw [List.length_append, List.length_replicate, List.length_replicate]
      omega
    rw [hl]
    by_cases hc : a < n
    · have hcut1 := cutS_ok (l := List.replicate a x ++ List.replicate (n - a) (0 : Int)) (a := a) (b := n) ha (by omega)
      have hcut2 := cutS_ok (l := List.replicate a x ++ List.replicate (n - a) (0 : Int)) (a := 0) (b := a) (Nat.zero_le _) (by omega)
      rw [take_rep x 0 a (n - a) a (Nat.le_refl _), List.drop_zero] at hcut2
      have hN : cpyN (a : Int) (n : Int) (List.replicate a x) = ((min a (n - a) : Nat) : Int) := by
        unfold cpyN
        rw [List.length_replicate, Int.toNat_natCast, Int.toNat_natCast]
      rw [if_pos (by omega), hcut1, Option.bind_some, show cutS (List.replicate a x ++ List.replicate (n - a) (0 : Int)) 0 (a : Int) = some (List.replicate a x) from hcut2, Option.bind_some, hN, chk_ok (by omega) (by omega), Option.bind_some, cpy_rep x 0 ha]
      refine .inl ⟨_, rfl, ⟨a + min a (n - a), ?_, by omega, by omega⟩, ?_⟩
      · rw [Int.natCast_add]
      · simp only [Int.toNat_natCast]
        omega
    · rw [if_neg (by omega)]
      have : a = n := by omega
      subst this
      exact .inr ⟨_, rfl, by simp⟩) _ ⟨min 1 n, rfl, by omega, by omega⟩
  rw [h1, h2]
  rfl
/- ---- products ---- -/
def PrC (A S : Nat → Nat → Int) (i j m : Nat) (v : Int) : Prop := (v ≠ NN → ∃ k, k < m ∧ A i k ≠ NN ∧ S k j ≠ NN ∧ v = A i k + S k j) ∧ ∀ k, k < m → A i k ≠ NN → S k j ≠ NN → v ≠ NN ∧ A i k + S k j ≤ v
theorem ok_bd {n : Nat} {T : List (List Int)} (hS : Sq n T) (hO : OkT T) : Bd n 1099511627776 (tb T) := fun i j hi hj hne => by
  have hi' : i < T.length := by rw [hS.len]; exact hi
  have hj' : j < (T[i]).length := by rw [hS.row i hi']; exact hj
  have e : tb T i j = T[i][j] := by
    rw [tb_some (List.getElem?_eq_getElem hi'), List.getD_eq_getElem?_getD, List.getElem?_eq_getElem hj']
    rfl
  rcases hO _ (List.getElem_mem hi') _ (List.getElem_mem hj') with h | h
  · exact absurd (e.trans h) hne
  · rw [e]; exact h
theorem put_put {α : Type} (U : List α) (i : Nat) (r r' : α) : put (put U (i : Int) r) (i : Int) r' = put U (i : Int) r' := by
  rw [put_nat, put_nat, put_nat, List.set_set]
theorem idx_put {α : Type} {U : List α} {i : Nat} (hi : i < U.length) (r : α) : idx (put U (i : Int) r) (i : Int) = some r := by
  rw [put_nat]
  exact idx_nat (List.getElem?_set_self hi)
theorem getD_put {r : List Int} {j : Nat} (hj : j < r.length) (x : Int) (b : Nat) : (put r (j : Int) x).getD b 0 = if b = j then x else r.getD b 0 := by
  rw [put_nat, List.getD_eq_getElem?_getD]
  by_cases e : j = b
  · subst e
    rw [if_pos rfl, List.getElem?_set_self hj]
    rfl
  · rw [if_neg (fun h => e h.symm), List.getElem?_set_ne e, List.getD_eq_getElem?_getD]
section
variable {n : Nat} {A S : List (List Int)} (hA : Sq n A) (hAO : OkT A) (hS : Sq n S) (hSO : OkT S)
include hA hAO hS hSO
theorem prod_cell {i j : Nat} (hi : i < n) (hj : j < n) {row : List Int} (hrow : idx A (i : Int) = some row) {U0 : List (List Int)} (hU : U0.length = n) {r : List Int} (hr : r.length = n) (hv : r.getD j 0 = NN) :
    ∃ r', mMendProduct_L12539 S i row j (put U0 (i : Int) r) = some (put U0 (i : Int) r') ∧ r'.length = n ∧ (∀ b, b ≠ j → r'.getD b 0 = r.getD b 0) ∧ PrC (tb A) (tb S) i j n (r'.getD j 0) := by
  obtain ⟨row', w1, w2, w3⟩ := hA.at hi
  have : row' = row := by have := w1.symm.trans hrow; injection this
  subst this
  unfold mMendProduct_L12539
  obtain ⟨U, h1, r', rfl, h3, h4, h5⟩ := forS_inv (body := mMendProduct_L14144 S i j row') (fun k U => ∃ r', U = put U0 (i : Int) r' ∧ r'.length = n ∧ (∀ b, b ≠ j → r'.getD b 0 = r.getD b 0) ∧ PrC (tb A) (tb S) i j k (r'.getD j 0)) row'.length 0 (put U0 (i : Int) r) ⟨r, rfl, hr, fun _ _ => rfl, fun h => absurd hv h, fun k hk => absurd hk (by omega)⟩ (fun k U _ hk hin => by
    obtain ⟨q, rfl, q1, q2, q3, q4⟩ := hin
    have hk' : k < n := by omega
    obtain ⟨rk, k1, k2, k3⟩ := hS.at hk'
    unfold mMendProduct_L14144
    rw [idx_getD (show k < row'.length by omega), Option.bind_some, ← w3 k]
    by_cases h1 : tb A i k ≠ NN
    · rw [if_pos h1, k1]
      simp only [Option.bind_some]
      rw [idx_getD (show j < rk.length by omega)]
      simp only [Option.bind_some]
      rw [← k3 j]
      by_cases h2 : tb S k j ≠ NN
      · have b1 := ok_bd hA hAO i k hi hk' h1
        have b2 := ok_bd hS hSO k j hk' hj h2
        rw [decide_eq_true h2, if_pos rfl, idx_put (by omega)]
        simp only [Option.bind_some]
        rw [idx_getD (show j < q.length by omega)]
        simp only [Option.bind_some]
        rw [chk_ok (by omega) (by omega), Option.bind_some, put_put]
        refine ⟨_, rfl, _, rfl, by rw [put_length]; exact q1, fun b hb => ?_, ?_⟩
        · rw [getD_put (by omega), if_neg hb]
          exact q2 b hb
        · rw [getD_put (by omega), if_pos rfl]
          have hmx : max (q.getD j 0) (tb A i k + tb S k j) ≠ NN := by
            show _ ≠ (-4611686018427387904 : Int)
            omega
          refine ⟨fun _ => ?_, fun k' hk2 c1 c2 => ⟨hmx, ?_⟩⟩
          · by_cases hc : q.getD j 0 ≤ tb A i k + tb S k j
            · exact ⟨k, by omega, h1, h2, Int.max_eq_right hc⟩
            · have hqn : q.getD j 0 ≠ NN := by
                show _ ≠ (-4611686018427387904 : Int)
                omega
              obtain ⟨k', d1, d2, d3, d4⟩ := q3 hqn
              exact ⟨k', by omega, d2, d3, by rw [Int.max_eq_left (by omega)]; exact d4⟩
          · by_cases e : k' = k
            · subst e; omega
            · have := (q4 k' (by omega) c1 c2).2
              omega
      · rw [decide_eq_false h2, if_neg (by decide)]
        refine ⟨_, rfl, q, rfl, q1, q2, fun h => ?_, fun k' hk2 c1 c2 => ?_⟩
        · obtain ⟨k', d1, d2⟩ := q3 h
          exact ⟨k', by omega, d2⟩
        · by_cases e : k' = k
          · subst e; exact absurd c2 h2
          · exact q4 k' (by omega) c1 c2
    · rw [if_neg h1, Option.bind_some, if_neg (by decide)]
      refine ⟨_, rfl, q, rfl, q1, q2, fun h => ?_, fun k' hk2 c1 c2 => ?_⟩
      · obtain ⟨k', d1, d2⟩ := q3 h
        exact ⟨k', by omega, d2⟩
      · by_cases e : k' = k
        · subst e; exact absurd c1 h1
        · exact q4 k' (by omega) c1 c2)
  rw [h1]
  rw [w2, Nat.zero_add] at h5
  exact ⟨r', rfl, h3, h4, h5⟩
theorem prod_row (h8 : n ≤ 8) {i : Nat} (hi : i < n) {U : List (List Int)} (hU : U.length = n) :
    ∃ r, mMendProduct_L7586 A S (n : Int) i U = some (put U (i : Int) r) ∧ r.length = n ∧ ∀ j, j < n → PrC (tb A) (tb S) i j n (r.getD j 0) := by
  obtain ⟨row, w1, w2, w3⟩ := hA.at hi
  unfold mMendProduct_L7586
  rw [w1, Option.bind_some, repeat_eq _ h8, Option.bind_some, idx_lt (show i < U.length by omega), Option.bind_some, chk_ok (by omega) (by omega), Option.bind_some, Int.toNat_natCast]
  obtain ⟨V, h1, r, rfl, h3, h4, h5⟩ := forS_inv (body := mMendProduct_L12539 S i row) (fun j V => ∃ r, V = put U (i : Int) r ∧ r.length = n ∧ (∀ b, b < n → b < j → PrC (tb A) (tb S) i b n (r.getD b 0)) ∧ ∀ b, b < n → j ≤ b → r.getD b 0 = NN) n 0 (put U (i : Int) (List.replicate n (-4611686018427387904))) ⟨_, rfl, List.length_replicate, fun b _ hb => absurd hb (by omega), fun b hb _ => by
      rw [List.getD_eq_getElem?_getD, List.getElem?_replicate, if_pos hb]
      rfl⟩ (fun j V _ hj hin => by
    obtain ⟨r, rfl, r1, r2, r3⟩ := hin
    obtain ⟨r', t1, t2, t3, t4⟩ := prod_cell hA hAO hS hSO hi (show j < n by omega) w1 hU r1 (r3 j (by omega) (Nat.le_refl _))
    refine ⟨_, t1, r', rfl, t2, fun b hb hbj => ?_, fun b hb hbj => ?_⟩
    · by_cases e : b = j
      · subst e; exact t4
      · rw [t3 b e]
        exact r2 b hb (by omega)
    · rw [t3 b (by omega)]
      exact r3 b hb (by omega))
  rw [h1]
  exact ⟨r, rfl, h3, fun j hj => h4 j hj (by omega)⟩
theorem product_spec (h8 : n ≤ 8) : ∃ P, mMendProduct A S = some (0, P) ∧ Sq n P ∧ Pr n (tb A) (tb S) (tb P) := by
  unfold mMendProduct
  have la := hA.len
  have ls := hS.len
  rw [if_neg (by omega), Option.bind_some, decide_eq_false (by omega), if_neg (by decide)]
  have c3 : mSlicesContainsFunc_3 A S = some false := by
    unfold mSlicesContainsFunc_3 mSlicesIndexFunc_3
    rcases forM_inv (body := mSlicesIndexFunc_3_L57 A S) (fun _ _ => True) (fun _ => False) A.length 0 () trivial (fun k x _ hk _ => by
      have hk' : k < A.length := by omega
      unfold mSlicesIndexFunc_3_L57 mMendProduct_1
      have := hA.row k hk'
      rw [idx_lt hk', Option.bind_some, Option.bind_some, decide_eq_false (by omega), if_neg (by decide)]
      exact .inl ⟨(), rfl, trivial⟩) with ⟨_, h1, _⟩ | ⟨_, _, h⟩
    · rw [h1]; rfl
    · exact h.elim
  have c4 : mSlicesContainsFunc_4 S S = some false := by
    unfold mSlicesContainsFunc_4 mSlicesIndexFunc_4
    rcases forM_inv (body := mSlicesIndexFunc_4_L57 S S) (fun _ _ => True) (fun _ => False) S.length 0 () trivial (fun k x _ hk _ => by
      have hk' : k < S.length := by omega
      unfold mSlicesIndexFunc_4_L57 mMendProduct_2
      have e1 := hS.row k hk'
      have e2 := hS.row 0 (by omega)
      rw [idx_lt hk', Option.bind_some, show idx S 0 = some S[0] from idx_lt (j := 0) (by omega), Option.bind_some, Option.bind_some, decide_eq_false (by omega), if_neg (by decide)]
      exact .inl ⟨(), rfl, trivial⟩) with ⟨_, h1, _⟩ | ⟨_, _, h⟩
    · rw [h1]; rfl
    · exact h.elim
  rw [c3, Option.bind_some, if_neg (by decide), c4, Option.bind_some, Option.bind_some, if_neg (by decide)]
  have hw : (if 0 < (S.length : Int) then (idx S 0).bind fun x7527 => some (x7527.length : Int) else some 0) = some (n : Int) := by
    by_cases h0 : 0 < n
    · have e2 := hS.row 0 (by omega)
      rw [if_pos (by omega), show idx S 0 = some S[0] from idx_lt (j := 0) (by omega), Option.bind_some, e2]
    · rw [if_neg (by omega)]
      congr 1
      omega
  rw [hw, Option.bind_some, if_neg (by omega)]
  obtain ⟨ca, a1, a2⟩ := table_spec A
  obtain ⟨cs, s1, s2⟩ := table_spec S
  have ha0 := a2.2 hAO
  have hs0 := s2.2 hSO
  subst ha0 hs0
  have hloop : forM (mMendProduct_L7541 A S) 2 0 () = some (.inl ()) := by
    have e0 : mMendProduct_L7541 A S 0 () = some (.inl ()) := by
      unfold mMendProduct_L7541
      show ((mMendCheckTable A).bind _) = _
      rw [a1, Option.bind_some, if_neg (by decide)]
    have e1 : mMendProduct_L7541 A S 1 () = some (.inl ()) := by
      unfold mMendProduct_L7541
      show ((mMendCheckTable S).bind _) = _
      rw [s1, Option.bind_some, if_neg (by decide)]
    rw [forM_succ_inl e0, forM_succ_inl e1]
    rfl
  rw [hloop, Option.bind_some]
  simp only [Sum.elim_inl]
  rw [mkLen_ok (by omega) (by omega), Option.bind_some]
  obtain ⟨P, h1, h2, h3⟩ := forS_inv (body := mMendProduct_L7586 A S (n : Int)) (fun i U => U.length = n ∧ ∀ a, a < n → a < i → ∃ r, U[a]? = some r ∧ r.length = n ∧ ∀ j, j < n → PrC (tb A) (tb S) a j n (r.getD j 0)) A.length 0 (List.replicate A.length ([] : List Int)) ⟨by rw [List.length_replicate]; exact la, fun a _ h => absurd h (by omega)⟩ (fun i U _ hi hin => by
    obtain ⟨r, r1, r2, r3⟩ := prod_row hA hAO hS hSO h8 (show i < n by omega) hin.1
    refine ⟨_, r1, by rw [put_length]; exact hin.1, fun a ha hai => ?_⟩
    rw [put_nat]
    by_cases e : i = a
    · subst e
      exact ⟨r, List.getElem?_set_self (by omega), r2, r3⟩
    · rw [List.getElem?_set_ne e]
      exact hin.2 a ha (by omega))
  rw [h1]
  refine ⟨P, rfl, ⟨h2, fun i hi => ?_⟩, fun i j hi hj => ?_⟩
  · obtain ⟨r, r1, r2, _⟩ := h3 i (by omega) (by omega)
    rw [List.getElem?_eq_getElem hi] at r1
    injection r1 with r1
    rw [r1]; exact r2
  · obtain ⟨r, r1, r2, r3⟩ := h3 i hi (by omega)
    rw [tb_some r1]
    exact r3 j hj
end
/- ---- wide tables, equality ---- -/
theorem wide_spec (T : List (List Int)) : ∃ b, mFishkeep2Wide T = some b ∧ (b = false → OkT T) := by
  unfold mFishkeep2Wide
  rcases forM_inv (body := mFishkeep2Wide_L137 T) (fun k _ => ∀ j (h : j < T.length), j < k → ∀ x ∈ T[j], OkE x) (fun c => c = true) T.length 0 () (fun j _ hj => absurd hj (by omega)) (fun k s _ hk hi => by
    have hk' : k < T.length := by omega
    unfold mFishkeep2Wide_L137
    rw [idx_lt hk', Option.bind_some]
    rcases forM_inv (body := mFishkeep2Wide_L218 T[k]) (fun q _ => ∀ j (h : j < (T[k]).length), j < q → OkE T[k][j]) (fun c => c = .inr true) (T[k]).length 0 () (fun j _ hj => absurd hj (by omega)) (fun q s _ hq hi => by
      have hq' : q < (T[k]).length := by omega
      unfold mFishkeep2Wide_L218
      rw [idx_lt hq', Option.bind_some]
      generalize hx : T[k][q] = x at *
      have step : OkE x → ∀ j (h : j < (T[k]).length), j < q + 1 → OkE T[k][j] := fun ho j hj hjq => by
        by_cases e : j = q
        · subst e; rw [hx]; exact ho
        · exact hi j hj (by omega)
      by_cases h : x = -4611686018427387904
      · rw [if_neg (by simpa using h), Option.bind_some, if_neg (by decide)]
        exact .inl ⟨(), rfl, step (.inl h)⟩
      · rw [if_pos h]
        by_cases h1 : x < -1099511627776
        · rw [if_pos h1, Option.bind_some, if_pos rfl]
          exact .inr ⟨_, rfl, rfl⟩
        · rw [if_neg h1, Option.bind_some]
          by_cases h2 : 1099511627776 < x
          · rw [decide_eq_true h2, if_pos rfl]
            exact .inr ⟨_, rfl, rfl⟩
          · rw [decide_eq_false h2, if_neg (by decide)]
            exact .inl ⟨(), rfl, step (.inr ⟨by omega, by omega⟩)⟩) with ⟨_, h1, h2⟩ | ⟨c, h1, rfl⟩
    · rw [h1]
      refine .inl ⟨(), rfl, fun j hj hjk x hx => ?_⟩
      by_cases e : j = k
      · subst e
        obtain ⟨q, hq, rfl⟩ := List.getElem_of_mem hx
        exact h2 q hq (by omega)
      · exact hi j hj (by omega) x hx
    · rw [h1]
      exact .inr ⟨true, rfl, rfl⟩) with ⟨_, h1, h2⟩ | ⟨c, h1, rfl⟩
  · rw [h1]
    refine ⟨false, rfl, fun _ r hr => ?_⟩
    obtain ⟨j, hj, rfl⟩ := List.getElem_of_mem hr
    exact h2 j hj (by omega)
  · rw [h1]
    exact ⟨true, rfl, fun h => absurd h (by decide)⟩
theorem equal_refl (r : List Int) : mSlicesEqual r r = some true := by
  unfold mSlicesEqual
  rw [if_neg (by simp)]
  rcases forM_inv (body := mSlicesEqual_L104 r r) (fun _ _ => True) (fun _ => False) r.length 0 () trivial (fun k x _ hk _ => by
    have hk' : k < r.length := by omega
    unfold mSlicesEqual_L104
    rw [idx_lt hk', Option.bind_some, Option.bind_some, if_neg (by simp)]
    exact .inl ⟨(), rfl, trivial⟩) with ⟨_, h1, _⟩ | ⟨_, _, h⟩
  · rw [h1]; rfl
  · exact h.elim
theorem equalF_refl (T : List (List Int)) : mSlicesEqualFunc T T = some true := by
  unfold mSlicesEqualFunc
  rw [if_neg (by simp)]
  rcases forM_inv (body := mSlicesEqualFunc_L80 T T) (fun _ _ => True) (fun _ => False) T.length 0 () trivial (fun k x _ hk _ => by
    have hk' : k < T.length := by omega
    unfold mSlicesEqualFunc_L80
    rw [idx_lt hk', Option.bind_some, Option.bind_some, equal_refl, Option.bind_some, if_pos rfl]
    exact .inl ⟨(), rfl, trivial⟩) with ⟨_, h1, _⟩ | ⟨_, _, h⟩
  · rw [h1]; rfl
  · exact h.elim
end Go.Proofs.Ytakehdnblmonlaa
