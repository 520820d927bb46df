/- Plain: words, numerals, strings.Split. -/
import Derived.Test.YtglmhaihgpnogaaGreatDoorZD
import Derived.Test.YtglmhaihgpnogaaGreatDoorX6
import Derived.Test.YtglmhaihgpnogaaGreatDoorX4
import Derived.Lib.AtoiTie
import Derived.Lib.ItoaMem
set_option linter.unusedVariables false
set_option linter.unusedSimpArgs false
namespace Go.Proofs.YtglmhaihgpnogaaGreatDoor
open Go.RowKit Go.Fp

/-- A string out of bytes. -/
def bs (l : List UInt8) : ByteArray := ⟨l.toArray⟩
theorem bs_size (l : List UInt8) : (bs l).size = l.length := by simp [bs, ByteArray.size]
theorem bs_data (l : List UInt8) : (bs l).data.toList = l := by simp [bs]
theorem bs_toList (l : List UInt8) : (bs l).toList = l := by rw [ByteArray.toList_eq]; exact bs_data l
theorem sEq_bs (l m : List UInt8) : sEq (bs l) (bs m) = decide (l = m) := by
  unfold sEq
  rw [bs_toList, bs_toList]
  by_cases h : l = m <;> simp [h]
theorem sCut_bs {l : List UInt8} {a b : Nat} (hab : a ≤ b) (hb : b ≤ l.length) : sCut (bs l) (a : Int) (b : Int) = some (bs ((l.take b).drop a)) := by
  unfold sCut
  rw [if_pos ⟨by omega, by omega, by rw [bs_size]; omega⟩]
  congr 1
  apply ByteArray.ext
  apply Array.ext'
  simp [bs, List.extract_eq_take_drop, List.drop_take]
/-- Words with one byte between them. -/
def jn (c : UInt8) : List (List UInt8) → List UInt8
  | [] => []
  | [x] => x
  | x :: y :: r => x ++ c :: jn c (y :: r)
theorem join_jn (c : UInt8) : ∀ ws : List (List UInt8), Lib.join ws [c] = jn c ws
  | [] => rfl
  | [x] => Lib.join_one x [c]
  | x :: y :: r => by
    have ih := join_jn c (y :: r)
    unfold Lib.join at ih ⊢
    simp only [jn]
    rw [← ih]
    simp [List.intercalate]
theorem jn_count (c : UInt8) : ∀ ws : List (List UInt8), ws ≠ [] → (∀ x ∈ ws, c ∉ x) → (jn c ws).count c = ws.length - 1
  | [], h, _ => absurd rfl h
  | [x], _, h => by simp [jn, List.count_eq_zero.2 (h x (by simp))]
  | x :: y :: r, _, h => by
    have ih := jn_count c (y :: r) (by simp) (fun z hz => h z (by simp at hz ⊢; right; exact hz))
    simp only [jn]
    rw [List.count_append, List.count_eq_zero.2 (h x (by simp)), List.count_cons_self, ih]
    simp
theorem jn_length (c : UInt8) : ∀ ws : List (List UInt8), ws.length - 1 ≤ (jn c ws).length
  | [] => by simp
  | [x] => by simp
  | x :: y :: r => by
    have ih := jn_length c (y :: r)
    simp only [jn]
    simp at ih ⊢
    omega
theorem index_first (c : UInt8) : ∀ (x r : List UInt8), c ∉ x → Lib.indexByte (x ++ c :: r) c = (x.length : Int)
  | [], r, _ => by simp [Lib.indexByte]
  | b :: x, r, h => by
    have hb : ¬ b = c := fun he => h (by simp [he])
    have ih := index_first c x r (fun hx => h (by simp [hx]))
    simp only [List.cons_append, Lib.indexByte]
    rw [ih]
    have h1 : (b == c) = false := by simp [hb]
    rw [h1]
    have h2 : ((x.length : Int) == -1) = false := by simp
    simp [h2]
theorem toUInt8_id (c : UInt8) : ((c.toNat : Int)).toNat.toUInt8 = c := by simp
theorem index_word (c : UInt8) (x r : List UInt8) (h : c ∉ x) : mStringsIndex (bs (x ++ c :: r)) (bs [c]) = some (x.length : Int) := by
  have hi : sIdx (bs [c]) 0 = some (c.toNat : Int) := rfl
  unfold mStringsIndex mStringsliteIndex mStringsliteIndexByte
  rw [bs_size, sEq_bs, if_neg (by simp), Option.bind_some]
  by_cases he : [c] = x ++ c :: r
  · have hx : x = [] := by
      cases x with
      | nil => rfl
      | cons a x => simp at he
    subst hx
    simp [he]
  · simp only [he, decide_false]
    rw [if_neg (by decide), if_pos (by simp), hi]
    simp only [Option.bind_some, sFirst, bs_data, toUInt8_id]
    rw [index_first c x r h]
theorem split_words (c : UInt8) (ws : List (List UInt8)) (hne : ws ≠ []) (hc : ∀ x ∈ ws, c ∉ x) (hlen : (jn c ws).length ≤ 1000000000) : mStringsSplit (bs (jn c ws)) (bs [c]) = some (ws.map bs) := by
  have hn : 1 ≤ ws.length := by
    cases ws with
    | nil => exact absurd rfl hne
    | cons _ _ => simp
  have hjl := jn_length c ws
  have hi : sIdx (bs [c]) 0 = some (c.toNat : Int) := rfl
  have hcount : mStringsCount (bs (jn c ws)) (bs [c]) = some ((ws.length - 1 : Nat) : Int) := by
    unfold mStringsCount
    rw [bs_size, if_neg (by simp), if_pos (by simp), hi, Option.bind_some]
    simp only [sCount, bs_data, toUInt8_id, Lib.countByte]
    rw [jn_count c ws hne hc]
  unfold mStringsSplit mStringsGenSplit
  rw [if_neg (by decide), show (ByteArray.mk #[]) = bs [] from rfl, sEq_bs, if_neg (by simp), if_pos (by decide), hcount, Option.bind_some, chk_ok (by omega) (by omega), Option.bind_some, Option.bind_some]
  rw [bs_size, chk_ok (by omega) (by omega), Option.bind_some]
  have hmin : min (((ws.length - 1 : Nat) : Int) + 1) ((jn c ws).length + 1) = (ws.length : Int) := by omega
  rw [hmin]
  have hmk : mkLen 16 (ws.length : Int) = some ws.length := by
    unfold mkLen
    rw [if_pos (by omega)]
    simp
  rw [hmk, Option.bind_some, chk_ok (by omega) (by omega), Option.bind_some]
  obtain ⟨r, hr, h1, h2, h3, h4⟩ := loopM_inv (step := mStringsGenSplit_L419 (bs (jn c ws)) (bs [c]) 0 (((ws.length - 1 : Nat) : Int) + 1))
    (fun p => ∃ k : Nat, p.2.1 = (k : Int) ∧ k < ws.length ∧ p.1 = bs (jn c (ws.drop k)) ∧ p.2.2.length = ws.length ∧ ∀ j, j < k → p.2.2[j]? = (ws[j]?).map bs)
    (fun p => p.2.1 = ((ws.length - 1 : Nat) : Int) ∧ p.1 = bs (ws.getD (ws.length - 1) []) ∧ p.2.2.length = ws.length ∧ ∀ j, j < ws.length - 1 → p.2.2[j]? = (ws[j]?).map bs)
    (fun p => (ws.length - p.2.1).toNat) (fun p hp => by
    obtain ⟨t, i, a⟩ := p
    obtain ⟨k, e1, e2, e3, e4, e5⟩ := hp
    simp only at e1 e3 e4 e5
    subst e1; subst e3
    simp only [mStringsGenSplit_L419, unc3]
    rw [bs_size, hmin]
    by_cases hk : (k : Int) < (ws.length : Int) - 1
    · rw [if_pos hk]
      have hk1 : k + 1 < ws.length := by omega
      have hd : ws.drop k = ws[k] :: ws[k + 1] :: ws.drop (k + 2) := by
        rw [List.drop_eq_getElem_cons (by omega), List.drop_eq_getElem_cons hk1]
      have hd1 : ws.drop (k + 1) = ws[k + 1] :: ws.drop (k + 2) := by rw [List.drop_eq_getElem_cons hk1]
      have hjd : jn c (ws.drop k) = ws[k] ++ c :: jn c (ws.drop (k + 1)) := by rw [hd, hd1]; rfl
      have hsub : (jn c (ws.drop k)).length ≤ 1000000000 := by
        have : ∀ (m : Nat) (l : List (List UInt8)), (jn c (l.drop m)).length ≤ (jn c l).length := by
          intro m
          induction m with
          | zero => intro l; simp
          | succ m ih =>
            intro l
            match l with
            | [] => simp
            | [x] => simp [jn]
            | x :: y :: r =>
              have := ih (y :: r)
              simp only [List.drop_succ_cons, jn, List.length_append, List.length_cons] at this ⊢
              omega
        have := this k ws
        omega
      rw [hjd] at hsub ⊢
      rw [index_word c _ _ (hc _ (List.getElem_mem _)), Option.bind_some, if_neg (by omega)]
      simp only [List.length_append, List.length_cons] at hsub
      rw [chk_ok (by omega) (by omega), Option.bind_some, Int.add_zero]
      rw [show (0 : Int) = ((0 : Nat) : Int) from rfl, sCut_bs (by omega) (by simp), Option.bind_some, idx_lt (by omega), Option.bind_some]
      rw [bs_size, List.length_singleton, chk_ok (by omega) (by omega), Option.bind_some, bs_size]
      rw [show ((ws[k].length : Int) + ((1 : Nat) : Int)) = ((ws[k].length + 1 : Nat) : Int) by omega, sCut_bs (by simp) (Nat.le_refl _), Option.bind_some, chk_ok (by omega) (by omega), Option.bind_some]
      refine .inl ⟨_, rfl, ⟨k + 1, by simp, by omega, ?_, by simp [put_length, e4], fun j hj => ?_⟩, by simp only; omega⟩
      · simp only
        rw [List.take_of_length_le (Nat.le_refl _), List.drop_append, List.drop_of_length_le (by omega), show ws[k].length + 1 - ws[k].length = 1 by omega]
        rfl
      · simp only
        rw [put_nat]
        by_cases hjk : j = k
        · subst hjk
          rw [List.getElem?_set_self (by omega), List.getElem?_eq_getElem (by omega)]
          simp
        · rw [List.getElem?_set_ne (by omega)]
          exact e5 j (by omega)
    · rw [if_neg hk]
      have hkk : k = ws.length - 1 := by omega
      refine .inr ⟨_, rfl, by rw [hkk], ?_, e4, fun j hj => e5 j (by omega)⟩
      have hd : ws.drop k = [ws[k]] := by
        rw [List.drop_eq_getElem_cons (by omega), List.drop_eq_nil_of_le (by omega)]
      simp only
      rw [hd, ← hkk]
      simp [jn, List.getD, List.getElem?_eq_getElem e2]) (bs (jn c ws), 0, List.replicate ws.length ByteArray.empty) ⟨0, rfl, by omega, by simp, by simp, fun j hj => by omega⟩
  obtain ⟨t, i, a⟩ := r
  simp only at h1 h2 h3 h4
  subst h1; subst h2
  rw [hr, Option.bind_some]
  simp only [unc3]
  rw [idx_lt (by omega), Option.bind_some, chk_ok (by omega) (by omega), Option.bind_some, put_nat]
  have hall : a.set (ws.length - 1) (bs (ws.getD (ws.length - 1) [])) = ws.map bs := by
    apply List.ext_getElem?
    intro j
    rw [List.getElem?_map]
    by_cases hj : j = ws.length - 1
    · subst hj
      rw [List.getElem?_set_self (by omega), List.getElem?_eq_getElem (by omega)]
      simp [List.getD, List.getElem?_eq_getElem (show ws.length - 1 < ws.length by omega)]
    · rw [List.getElem?_set_ne (by omega)]
      by_cases hl : j < ws.length - 1
      · exact h4 j hl
      · rw [List.getElem?_eq_none (by omega), List.getElem?_eq_none (by omega)]
        rfl
  rw [hall]
  have hcut : cutS (ws.map bs) 0 (((ws.length - 1 : Nat) : Int) + 1) = some (ws.map bs) := by
    have h1 : ((ws.length - 1 : Nat) : Int) + 1 = ((ws.length : Nat) : Int) := by omega
    rw [h1, show (0 : Int) = ((0 : Nat) : Int) from rfl, cutS_ok (by omega) (by simp)]
    rw [List.take_of_length_le (by simp), List.drop_zero]
  rw [hcut]
  rfl

/- ---- numerals ---- -/
theorem digit_byte {d : Nat} (h : d < 10) : (UInt8.ofNat (48 + d)).toNat = 48 + d := by
  simp [UInt8.toNat_ofNat]
  omega
theorem decFrom_snoc (b : UInt8) (d : Nat) (hd : Lib.digitVal b = some d) : ∀ (l : List UInt8) (acc n : Nat), Lib.decFrom acc l = some n → Lib.decFrom acc (l ++ [b]) = some (n * 10 + d)
  | [], acc, n, h => by
    simp only [Lib.decFrom] at h
    injection h with h
    subst h
    simp [Lib.decFrom, hd]
  | a :: l, acc, n, h => by
    simp only [Lib.decFrom, List.cons_append] at h ⊢
    cases ha : Lib.digitVal a with
    | none => rw [ha] at h; cases h
    | some e =>
      rw [ha] at h
      exact decFrom_snoc b d hd l _ n h
theorem digits_ok (u : Nat) : Lib.decFrom 0 (Lib.decDigits u) = some u ∧ ∀ b ∈ Lib.decDigits u, 48 ≤ b.toNat ∧ b.toNat ≤ 57 := by
  induction u using Nat.strongRecOn with
  | _ u ih =>
    rw [Lib.decDigits]
    by_cases h : u < 10
    · rw [dif_pos h]
      have hb := digit_byte h
      refine ⟨?_, fun b hb' => ?_⟩
      · have hd : Lib.digitVal (UInt8.ofNat (48 + u)) = some u := by
          unfold Lib.digitVal
          rw [hb, if_pos (by omega)]
          congr 1
          omega
        simp only [Lib.decFrom, hd]
        congr 1
        omega
      · rw [List.mem_singleton] at hb'
        subst hb'
        rw [hb]
        omega
    · rw [dif_neg h]
      obtain ⟨h1, h2⟩ := ih (u / 10) (by omega)
      have hb := digit_byte (d := u % 10) (by omega)
      refine ⟨?_, fun b hb' => ?_⟩
      · rw [decFrom_snoc (UInt8.ofNat (48 + u % 10)) (u % 10) (by unfold Lib.digitVal; rw [hb, if_pos (by omega)]; congr 1; omega) _ _ _ h1]
        congr 1
        omega
      · rcases List.mem_append.1 hb' with h | h
        · exact h2 b h
        · rw [List.mem_singleton] at h
          subst h
          rw [hb]
          omega
theorem digits_len : ∀ (k u : Nat), u < 10 ^ (k + 1) → Lib.nDigits u ≤ k + 1
  | 0, u, h => by rw [Lib.nDigits_small (by simpa using h)]; omega
  | k + 1, u, h => by
    by_cases hu : u < 10
    · rw [Lib.nDigits_small hu]; omega
    · rw [Lib.nDigits_big hu]
      have := digits_len k (u / 10) (by rw [Nat.pow_succ] at h; omega)
      omega
/-- What is known of the numeral of a number of at most nine digits. -/
theorem numeral {n : Int} (h0 : 0 ≤ n) (h1 : n < 1000000000) : Lib.atoiAll (Lib.itoa n) = .ok n ∧ 1 ≤ (Lib.itoa n).length ∧ (Lib.itoa n).length ≤ 9 ∧ ∀ b ∈ Lib.itoa n, 48 ≤ b.toNat ∧ b.toNat ≤ 57 := by
  obtain ⟨u, rfl⟩ : ∃ u : Nat, n = (u : Int) := ⟨n.toNat, by omega⟩
  rw [Lib.itoa_nonneg]
  obtain ⟨d1, d2⟩ := digits_ok u
  have hl := Lib.decDigits_length u
  have hp := Lib.nDigits_pos u
  have hm := digits_len 8 u (by omega)
  refine ⟨?_, by omega, by omega, d2⟩
  rw [Lib.atoiAll_short _ (by omega)]
  cases hd : Lib.decDigits u with
  | nil => rw [hd] at hl; simp at hl; omega
  | cons b r =>
    have hb := d2 b (by rw [hd]; simp)
    have h45 : (b == 45) = false := by
      simp only [beq_eq_false_iff_ne]
      intro he
      subst he
      revert hb
      decide
    have h43 : (b == 43) = false := by
      simp only [beq_eq_false_iff_ne]
      intro he
      subst he
      revert hb
      decide
    simp only [Lib.atoi, h45, h43]
    rw [← hd]
    have hne : (Lib.decDigits u).isEmpty = false := by rw [hd]; rfl
    simp [Lib.decNat, hne, d1, Lib.NumEnd.ofOption]

theorem itoa_len {n : Int} (h0 : -1000000000 < n) (h1 : n < 1000000000) : 1 ≤ (Lib.itoa n).length ∧ (Lib.itoa n).length ≤ 10 ∧ ∀ b ∈ Lib.itoa n, b = 45 ∨ 48 ≤ b.toNat ∧ b.toNat ≤ 57 := by
  by_cases hn : 0 ≤ n
  · obtain ⟨_, a, b, c⟩ := numeral hn h1
    exact ⟨a, by omega, fun x hx => .inr (c x hx)⟩
  · obtain ⟨u, rfl⟩ : ∃ u : Nat, n = -(u : Int) := ⟨n.natAbs, by omega⟩
    obtain ⟨_, a, b, c⟩ := numeral (n := (u : Int)) (by omega) (by omega)
    rw [Lib.itoa_nonneg] at a b c
    rw [Lib.itoa_neg u (by omega)]
    refine ⟨by simp, by simp; omega, fun x hx => ?_⟩
    rcases List.mem_cons.1 hx with rfl | hx
    · exact .inl rfl
    · exact .inr (c x hx)
theorem numeral_neg {u : Nat} (h0 : 1 ≤ u) (h1 : u < 1000000000) : Lib.atoiAll (Lib.itoa (-(u : Int))) = .ok (-(u : Int)) := by
  obtain ⟨_, a, b, c⟩ := numeral (n := (u : Int)) (by omega) (by omega)
  rw [Lib.itoa_nonneg] at a b c
  rw [Lib.itoa_neg u h0]
  obtain ⟨d1, d2⟩ := digits_ok u
  rw [Lib.atoiAll_short _ (by simp; omega)]
  have hne : (Lib.decDigits u).isEmpty = false := by
    cases hd : Lib.decDigits u with
    | nil => rw [hd] at a; simp at a
    | cons _ _ => rfl
  simp [Lib.atoi, Lib.decNat, hne, d1, Lib.NumEnd.ofOption]
end Go.Proofs.YtglmhaihgpnogaaGreatDoor
