/- Plain: sums; what the parts give and leave over; the left-over goes to those that have one. -/
import Derived.Test.YtnlnohallnfbmaaGreatDoorWH1
import Derived.Test.YtnlnohallnfbmaaGreatDoorWH3
set_option linter.unusedVariables false
set_option linter.unusedSimpArgs false
namespace Go.Proofs.YtnlnohallnfbmaaGreatDoor
open Go.RowKit Go.Fp

theorem sum_perm {l m : List Int} (h : l.Perm m) : l.sum = m.sum := by
  induction h with
  | nil => rfl
  | cons x _ ih => simp [ih]
  | swap x y l => simp; omega
  | trans _ _ h1 h2 => exact h1.trans h2
theorem sum_set : ∀ (l : List Int) (i : Nat) (x y : Int), l[i]? = some x → (l.set i y).sum = l.sum - x + y
  | [], i, x, y, h => by simp at h
  | a :: l, 0, x, y, h => by
    simp at h
    subst h
    simp
    omega
  | a :: l, i + 1, x, y, h => by
    simp at h
    have := sum_set l i x y h
    simp only [List.set_cons_succ, List.sum_cons, this]
    omega
theorem sum_nonneg : ∀ (l : List Int), (∀ x ∈ l, 0 ≤ x) → 0 ≤ l.sum
  | [], _ => by simp
  | a :: l, h => by
    have h1 := h a (by simp)
    have h2 := sum_nonneg l (fun x hx => h x (by simp [hx]))
    simp only [List.sum_cons]
    omega
theorem sum_take_le (l : List Int) (h : ∀ x ∈ l, 0 ≤ x) (k : Nat) : 0 ≤ (l.take k).sum ∧ (l.take k).sum ≤ l.sum := by
  have e : (l.take k).sum + (l.drop k).sum = l.sum := by rw [← List.sum_append, List.take_append_drop]
  have h1 := sum_nonneg (l.take k) (fun x hx => h x (List.mem_of_mem_take hx))
  have h2 := sum_nonneg (l.drop k) (fun x hx => h x (List.mem_of_mem_drop hx))
  omega
theorem mem_le_sum (l : List Int) (h : ∀ x ∈ l, 0 ≤ x) {x : Int} (hx : x ∈ l) : x ≤ l.sum := by
  obtain ⟨A, B, rfl⟩ := List.append_of_mem hx
  have h1 := sum_nonneg A (fun x hx => h x (by simp [hx]))
  have h2 := sum_nonneg B (fun x hx => h x (by simp [hx]))
  simp only [List.sum_append, List.sum_cons]
  omega
theorem sum_bound (l : List Int) (c : Int) (h : ∀ x ∈ l, x ≤ c) : l.sum ≤ l.length * c := by
  induction l with
  | nil => simp
  | cons a l ih =>
    have h1 := h a (by simp)
    have h2 := ih (fun x hx => h x (by simp [hx]))
    simp only [List.sum_cons, List.length_cons]
    have e : ((l.length + 1 : Nat) : Int) * c = (l.length : Int) * c + c := by
      rw [show ((l.length + 1 : Nat) : Int) = (l.length : Int) + 1 by omega, Int.add_mul, Int.one_mul]
    omega
def qOf (P S x : Int) : Int := Int.tdiv (P * x) S
def rOf (P S x : Int) : Int := Int.tmod (P * x) S
theorem qr (P S x : Int) : S * qOf P S x + rOf P S x = P * x := Int.mul_tdiv_add_tmod (P * x) S
theorem qr_sum (P S : Int) : ∀ l : List Int, S * (l.map (qOf P S)).sum + (l.map (rOf P S)).sum = P * l.sum
  | [] => by simp
  | a :: l => by
    have h1 := qr P S a
    have h2 := qr_sum P S l
    simp only [List.map_cons, List.sum_cons, Int.mul_add]
    omega
theorem r_lt {P S x : Int} (hS : 0 < S) (hP : 0 ≤ P) (hx : 0 ≤ x) : 0 ≤ rOf P S x ∧ rOf P S x ≤ S - 1 := by
  unfold rOf
  have h0 : 0 ≤ P * x := Int.mul_nonneg hP hx
  have h1 := Int.tmod_nonneg S h0
  have h2 := Int.tmod_lt_of_pos (P * x) hS
  omega
theorem q_pos {P S x : Int} (hS : 0 < S) (hP : 0 ≤ P) (hx : 0 ≤ x) : 0 ≤ qOf P S x := Int.tdiv_nonneg (Int.mul_nonneg hP hx) (by omega)
def nums (n : Nat) : List Int := (List.range n).map fun (j : Nat) => (j : Int)
theorem nums_length (n : Nat) : (nums n).length = n := by simp [nums]
theorem nums_succ (n : Nat) : nums (n + 1) = nums n ++ [(n : Int)] := by simp [nums, List.range_succ]
theorem nums_mem {n : Nat} {a : Int} : a ∈ nums n ↔ 0 ≤ a ∧ a < (n : Int) := by
  unfold nums
  simp only [List.mem_map, List.mem_range]
  constructor
  · rintro ⟨j, h, rfl⟩
    omega
  · intro h
    exact ⟨a.toNat, by omega, by omega⟩
theorem nums_inc (n : Nat) : (nums n).Pairwise (· < ·) := by
  unfold nums
  rw [List.pairwise_map]
  exact List.pairwise_lt_range.imp (fun h => by omega)
theorem rem_nat {T : Gr} {j : Nat} {x : Int} (h : T.L[j]? = some x) : remOf T (j : Int) = rOf T.P T.S x := by
  unfold remOf rOf
  rw [idx_nat h]
theorem rems_eq (T : Gr) : (nums T.L.length).map (remOf T) = T.L.map (rOf T.P T.S) := by
  apply List.ext_getElem?
  intro i
  unfold nums
  simp only [List.getElem?_map, List.map_map]
  by_cases h : i < T.L.length
  · obtain ⟨x, hx⟩ : ∃ x, T.L[i]? = some x := ⟨_, List.getElem?_eq_getElem h⟩
    rw [List.getElem?_range h, hx]
    simp [rem_nat hx]
  · rw [List.getElem?_eq_none (by simp; omega), List.getElem?_eq_none (l := T.L) (by omega)]
    rfl
theorem rem_range {T : Gr} (hT : T.ok) {a : Int} (ha : Valid T a) : 0 ≤ remOf T a ∧ remOf T a ≤ T.S - 1 := by
  obtain ⟨x, h1, h2⟩ := idx_get ha.1 ha.2
  have h3 := hT.hL x (List.mem_of_getElem? h2)
  have e : remOf T a = rOf T.P T.S x := by
    unfold remOf rOf
    rw [h1]
  rw [e]
  exact r_lt hT.hS hT.hP.1 h3.1
/-- The first of the sorted ones all leave something over. -/
theorem first_pos {T : Gr} (hT : T.ok) {O : List Int} (hp : O.Perm (nums T.L.length)) (hs : O.Pairwise (Ord T)) {left : Int} (hl : T.S * left = (O.map (remOf T)).sum) {a : Int} {j : Nat} (hj : O[j]? = some a) (hjl : (j : Int) < left) : 0 < remOf T a := by
  have hval : ∀ y ∈ O, Valid T y := fun y hy => nums_mem.1 (hp.subset hy)
  have ha := rem_range hT (hval a (List.mem_of_getElem? hj))
  by_cases h : 0 < remOf T a
  · exact h
  exfalso
  have hj' : j < O.length := (List.getElem?_eq_some_iff.1 hj).1
  have e : O = O.take j ++ a :: O.drop (j + 1) := by
    have h1 : O[j] = a := by rw [List.getElem?_eq_getElem hj'] at hj; exact Option.some.inj hj
    rw [← h1, List.getElem_cons_drop, List.take_append_drop]
  obtain ⟨A, hA⟩ : ∃ A, O.take j = A := ⟨_, rfl⟩
  obtain ⟨B, hB⟩ : ∃ B, O.drop (j + 1) = B := ⟨_, rfl⟩
  have lA : A.length = j := by rw [← hA, List.length_take]; omega
  rw [hA, hB] at e
  subst e
  have hB0 : (B.map (remOf T)).sum ≤ 0 := by
    have := sum_bound (B.map (remOf T)) 0 (fun x hx => by
      obtain ⟨y, hy, rfl⟩ := List.mem_map.1 hx
      rw [List.pairwise_append, List.pairwise_cons] at hs
      have := hs.2.1.1 y hy
      unfold Ord depOf at this
      omega)
    simpa using this
  have hA0 := sum_bound (A.map (remOf T)) (T.S - 1) (fun x hx => by
    obtain ⟨y, hy, rfl⟩ := List.mem_map.1 hx
    exact (rem_range hT (hval y (by simp [hy]))).2)
  rw [List.map_append, List.map_cons, List.sum_append, List.sum_cons] at hl
  rw [List.length_map, lA, Int.mul_sub, Int.mul_one] at hA0
  have hS := hT.hS
  obtain ⟨d, hd⟩ : ∃ d, left = (j : Int) + d := ⟨left - j, by omega⟩
  subst hd
  rw [Int.mul_add, Int.mul_comm T.S (j : Int)] at hl
  have h1 : T.S * 1 ≤ T.S * d := Int.mul_le_mul_of_nonneg_left (by omega) (by omega)
  omega
end Go.Proofs.YtnlnohallnfbmaaGreatDoor
