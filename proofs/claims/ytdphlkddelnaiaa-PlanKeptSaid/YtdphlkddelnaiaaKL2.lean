/- Plain: the first table, and the state of a new search. -/
import Derived.Test.YtdphlkddelnaiaaKL1
import Derived.KernelRfl
set_option linter.unusedVariables false
set_option linter.unusedSimpArgs false
namespace Go.Proofs.Ytdphlkddelnaiaa
open Go.RowKit Go.Fp

def startB (P : Int) (i k : Nat) : Int := if i = k ∨ k = 0 then 0 else P - 1
theorem startB_tri {n : Nat} {P : Int} (hP : 2 ≤ P) : Tri n (startB P) := by
  refine ⟨fun i _ => by unfold startB; rw [if_pos (.inl rfl)], fun i j k _ _ _ => ?_⟩
  unfold startB
  by_cases h1 : i = k ∨ k = 0 <;> by_cases h2 : i = j ∨ j = 0 <;> by_cases h3 : j = k ∨ k = 0 <;> simp only [h1, h2, h3, if_true, if_false] <;> omega
theorem mg_zero (a c : Nat) : mg (List.replicate 8 (List.replicate 8 (0 : Int))) a c = 0 := by
  unfold mg
  rw [List.getElem?_replicate]
  by_cases ha : a < 8
  · rw [if_pos ha]
    simp only [Option.getD_some]
    rw [List.getElem?_replicate]
    by_cases hc : c < 8
    · rw [if_pos hc]; rfl
    · rw [if_neg hc]; rfl
  · rw [if_neg ha]; rfl
theorem sq8_zero : Sq8 (List.replicate 8 (List.replicate 8 (0 : Int))) := ⟨by simp, fun r hr => by rw [(List.mem_replicate.1 hr).2]; simp⟩
theorem start_spec {n : Nat} {P : Int} (h8 : n ≤ 8) (hP : 2 ≤ P ∧ P ≤ 3600) (l17 : List PlanRule) (l18 : List Int) (l19 : List Bool) :
    ∃ b, mPlanSearchStart P (n : Int) l17 l18 l19 = some b ∧ Mx n P b ∧ ∀ i k, i < n → k < n → mg b i k = startB P i k := by
  unfold mPlanSearchStart
  rw [chk_ok (by omega) (by omega), Option.bind_some, Int.toNat_natCast]
  obtain ⟨b, e1, e2, e3⟩ := forS_inv (body := mPlanSearchStart_L548 P (n : Int)) (fun i l => Sq8 l ∧ ∀ a c, mg l a c = if a < i ∧ c < n then startB P a c else 0) n 0 (List.replicate 8 (List.replicate 8 (0 : Int))) ⟨sq8_zero, fun a c => by rw [if_neg (by omega), mg_zero]⟩ (fun i l _ hi hI => by
    obtain ⟨g1, g2⟩ := hI
    have hi' : i < n := by omega
    unfold mPlanSearchStart_L548
    rw [chk_ok (by omega) (by omega), Option.bind_some, Int.toNat_natCast]
    obtain ⟨l', a1, a2, a3⟩ := forS_inv (body := mPlanSearchStart_L899 P i) (fun k l' => Sq8 l' ∧ ∀ a c, mg l' a c = if a = i ∧ c < k ∧ c ≠ i then P - 1 else mg l a c) n 0 l ⟨g1, fun a c => by rw [if_neg (by omega)]⟩ (fun k l' _ hk hK => by
      obtain ⟨q1, q2⟩ := hK
      unfold mPlanSearchStart_L899
      by_cases hik : i = k
      · rw [if_neg (by omega)]
        refine ⟨l', rfl, q1, fun a c => ?_⟩
        rw [q2]
        by_cases hc : a = i ∧ c < k ∧ c ≠ i
        · rw [if_pos hc, if_pos ⟨hc.1, by omega, hc.2.2⟩]
        · rw [if_neg hc, if_neg (fun q => hc ⟨q.1, by omega, q.2.2⟩)]
      · rw [if_pos (by omega), chk_ok (by omega) (by omega), Option.bind_some]
        obtain ⟨r, r1, r2, r3, r4⟩ := q1.at (i := i) (by omega)
        rw [r1, Option.bind_some, r4 k (by omega), Option.bind_some]
        obtain ⟨p1, p2⟩ := q1.put2 (i := i) (j := k) (by omega) (by omega) r2 (P - 1)
        refine ⟨_, rfl, p1, fun a c => ?_⟩
        rw [p2]
        by_cases hc : a = i ∧ c = k
        · rw [if_pos hc, if_pos ⟨hc.1, by omega, by omega⟩]
        · rw [if_neg hc, q2]
          by_cases hd : a = i ∧ c < k ∧ c ≠ i
          · rw [if_pos hd, if_pos ⟨hd.1, by omega, hd.2.2⟩]
          · rw [if_neg hd, if_neg (fun q => by omega)])
    rw [a1, Option.bind_some]
    obtain ⟨r, r1, r2, r3, r4⟩ := a2.at (i := i) (by omega)
    have h0 := r4 0 (by omega)
    rw [r1, Option.bind_some, show idx r 0 = some (mg l' i 0) from h0, Option.bind_some]
    obtain ⟨p1, p2⟩ := a2.put2 (i := i) (j := 0) (by omega) (by omega) r2 0
    refine ⟨_, rfl, p1, fun a c => ?_⟩
    rw [show mg (put l' (i : Int) (put r 0 0)) a c = _ from p2 a c, a3, g2, Nat.zero_add]
    unfold startB
    repeat' split
    all_goals omega)
  rw [e1]
  have hc : ∀ i k, i < n → k < n → startB P i k = mg b i k := fun i k hi hk => by rw [e3, if_pos ⟨by omega, hk⟩]
  refine ⟨b, rfl, ⟨e2, tri_congr hc (startB_tri hP.1), fun i j hi hj => ?_⟩, fun i k hi hk => (hc i k hi hk).symm⟩
  rw [← hc i j hi hj]
  unfold startB
  split <;> omega
/-- What the first table allows: all times of one period, event 0 at 0. -/
theorem sol_start {n : Nat} {P : Int} (h0 : 0 < n) {B : Nat → Nat → Int} (hB : ∀ i k, i < n → k < n → B i k = startB P i k) (s : Nat → Int) (hs : s 0 = 0) (hP : 2 ≤ P) : Sol n B s ↔ ∀ j, j < n → 0 ≤ s j ∧ s j ≤ P - 1 := by
  constructor
  · intro h j hj
    have h1 := h j 0 hj h0
    have h2 := h 0 j h0 hj
    rw [hB _ _ hj h0] at h1
    rw [hB _ _ h0 hj] at h2
    unfold startB at h1 h2
    rw [if_pos (.inr rfl)] at h1
    by_cases hj0 : 0 = j ∨ j = 0
    · rw [if_pos hj0] at h2
      have : j = 0 := by omega
      subst this
      omega
    · rw [if_neg hj0] at h2
      omega
  · intro h i j hi hj
    rw [hB _ _ hi hj]
    have a := h i hi
    have c := h j hj
    unfold startB
    by_cases hij : i = j ∨ j = 0
    · rw [if_pos hij]
      rcases hij with rfl | rfl
      · omega
      · omega
    · rw [if_neg hij]
      omega
/- ---- repeats ---- -/
theorem mul_all : ∀ n : Fin 41, mBitsMul (IntKind.wrap .u64 1) (IntKind.wrap .u64 (n.val : Int)) = some (0, (n.val : Int)) := by decide +kernel
theorem mul_small {n : Nat} (h : n ≤ 40) : mBitsMul (IntKind.wrap .u64 1) (IntKind.wrap .u64 (n : Int)) = some (0, (n : Int)) := mul_all ⟨n, by omega⟩
theorem wrap_all : ∀ n : Fin 41, IntKind.wrap .i64 (n.val : Int) = (n.val : Int) := by decide +kernel
theorem wrap_small {n : Nat} (h : n ≤ 40) : IntKind.wrap .i64 (n : Int) = (n : Int) := wrap_all ⟨n, by omega⟩
theorem take_rep (x y : Bool) (a c k : Nat) (h : k ≤ a) : (List.replicate a x ++ List.replicate c y).take k = List.replicate k x := by
  rw [List.take_append_of_le_length (by rw [List.length_replicate]; exact h), List.take_replicate, Nat.min_eq_left h]
theorem drop_rep (x y : Bool) (a c k : Nat) (h : a ≤ k) : (List.replicate a x ++ List.replicate c y).drop k = List.replicate (c - (k - a)) y := by
  obtain ⟨d, rfl⟩ : ∃ d, k = a + d := ⟨k - a, by omega⟩
  have := List.drop_length_add_append (l₁ := List.replicate a x) (l₂ := List.replicate c y) (i := d)
  rw [List.length_replicate] at this
  rw [this, List.drop_replicate]
  congr 1
  omega
theorem cpy_rep (x y : Bool) {n a m : Nat} (ha : a ≤ n) : cpyI (List.replicate a x ++ List.replicate (n - a) y) (a : Int) (n : Int) (List.replicate m x) = List.replicate (a + min m (n - a)) x ++ List.replicate (n - (a + min m (n - a))) y := by
  unfold cpyI cpy
  rw [Int.toNat_natCast, Int.toNat_natCast, take_rep x y a (n - a) a (Nat.le_refl _), List.take_replicate, List.length_replicate, drop_rep x y a (n - a) _ (by omega)]
  rw [List.replicate_append_replicate, Nat.min_comm (n - a) m]
  congr 2
  omega
theorem repeat_eq (x : Bool) {n : Nat} (h : n ≤ 40) : mSlicesRepeat [x] (n : Int) = some (List.replicate n x) := by
  unfold mSlicesRepeat
  rw [if_neg (by omega)]
  show (mBitsMul (IntKind.wrap .u64 1) (IntKind.wrap .u64 (n : Int))).bind _ = _
  rw [mul_small h, Option.bind_some]
  simp only [unc2]
  rw [if_neg (by decide), Option.bind_some, decide_eq_false (by omega), if_neg (by decide), wrap_small h, mkLen_ok (by omega) (by omega), Option.bind_some]
  have e1 : cpyN 0 ((List.replicate n false).length : Int) [x] = ((min 1 n : Nat) : Int) := by
    unfold cpyN
    rw [List.length_replicate, Int.toNat_natCast]
    rfl
  have e2 : cpyI (List.replicate n false) 0 ((List.replicate n false).length : Int) [x] = List.replicate (min 1 n) x ++ List.replicate (n - min 1 n) false := by
    have := cpy_rep x false (n := n) (a := 0) (m := 1) (Nat.zero_le _)
    simp only [List.replicate_zero, List.nil_append, Nat.sub_zero, Nat.zero_add] at this
    rw [List.length_replicate]
    exact this
  rw [e1, e2]
  obtain ⟨t, h1, h2⟩ := loopM_inv (step := mSlicesRepeat_L612) (fun s => ∃ a : Nat, s = ((a : Int), List.replicate a x ++ List.replicate (n - a) false) ∧ a ≤ n ∧ (a = 0 → n = 0)) (fun t => t = List.replicate n x) (fun s => n - s.1.toNat) (fun s hs => by
    obtain ⟨a, rfl, ha, h0⟩ := hs
    unfold mSlicesRepeat_L612
    simp only [unc2]
    have hl : (List.replicate a x ++ List.replicate (n - a) false).length = n := by
      rw [List.length_append, List.length_replicate, List.length_replicate]
      omega
    rw [hl]
    by_cases hc : a < n
    · have hcut1 := cutS_ok (l := List.replicate a x ++ List.replicate (n - a) false) (a := a) (b := n) ha (by omega)
      have hcut2 := cutS_ok (l := List.replicate a x ++ List.replicate (n - a) false) (a := 0) (b := a) (Nat.zero_le _) (by omega)
      rw [take_rep x false a (n - a) a (Nat.le_refl _), List.drop_zero] at hcut2
      have hN : cpyN (a : Int) (n : Int) (List.replicate a x) = ((min a (n - a) : Nat) : Int) := by
        unfold cpyN
        rw [List.length_replicate, Int.toNat_natCast, Int.toNat_natCast]
      rw [if_pos (by omega), hcut1, Option.bind_some, show cutS (List.replicate a x ++ List.replicate (n - a) false) 0 (a : Int) = some (List.replicate a x) from hcut2, Option.bind_some, hN, chk_ok (by omega) (by omega), Option.bind_some, cpy_rep x false ha]
      refine .inl ⟨_, rfl, ⟨a + min a (n - a), ?_, by omega, by omega⟩, ?_⟩
      · rw [Int.natCast_add]
      · simp only [Int.toNat_natCast]
        omega
    · rw [if_neg (by omega)]
      have : a = n := by omega
      subst this
      exact .inr ⟨_, rfl, by simp⟩) _ ⟨min 1 n, rfl, by omega, by omega⟩
  rw [h1, h2]
  rfl
theorem newSearch_eq {p : PlanPeriodic} (h : p.Rules.length ≤ 40) : mPlanNewSearch p = some (p.Period, p.Events, p.Rules, List.replicate p.Rules.length 0, List.replicate p.Rules.length true) := by
  unfold mPlanNewSearch
  rw [mkLen_ok (by omega) (by omega), Option.bind_some, repeat_eq true h]
  rfl
end Go.Proofs.Ytdphlkddelnaiaa
