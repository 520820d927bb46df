/- Plain: one row of tasks as numbers: kilometres since the last inspection. -/
import Derived.Test.YtajmocgpjkhjlaaX6
set_option linter.unusedVariables false
set_option linter.unusedSimpArgs false
namespace Go.Proofs.Ytajmocgpjkhjlaa
open Go.RowKit Go.Fp

/-- Kilometres on entering step k: begun with a, set to 0 where P. -/
def run (a : Int) (km : Nat → Int) (P : Nat → Bool) : Nat → Int
  | 0 => a
  | k + 1 => (if P k then 0 else run a km P k) + km k
def pre (km : Nat → Int) : Nat → Int
  | 0 => 0
  | k + 1 => pre km k + km k
def cnt (P : Nat → Bool) : Nat → Nat
  | 0 => 0
  | k + 1 => cnt P k + (if P k then 1 else 0)
def Kept (a : Int) (km : Nat → Int) (L : Int) (n : Nat) (P : Nat → Bool) : Prop := ∀ j, j < n → run a km P (j + 1) ≤ L
section
variable {a : Int} {km : Nat → Int} {n : Nat} {P Q : Nat → Bool}
theorem run_succ (k : Nat) : run a km P (k + 1) = (if P k then 0 else run a km P k) + km k := rfl
theorem pre_succ (k : Nat) : pre km (k + 1) = pre km k + km k := rfl
theorem cnt_succ (k : Nat) : cnt P (k + 1) = cnt P k + (if P k then 1 else 0) := rfl
theorem run_nonneg (ha : 0 ≤ a) (hk : ∀ j, j < n → 0 ≤ km j) : ∀ k, k ≤ n → 0 ≤ run a km P k
  | 0, _ => ha
  | k + 1, h => by
    have := run_nonneg ha hk k (by omega)
    have := hk k (by omega)
    unfold run
    split <;> omega
theorem run_anti (ha : 0 ≤ a) (hk : ∀ j, j < n → 0 ≤ km j) (hPQ : ∀ j, j < n → P j = true → Q j = true) : ∀ k, k ≤ n → run a km Q k ≤ run a km P k
  | 0, _ => Int.le_refl _
  | k + 1, h => by
    have h1 := run_anti ha hk hPQ k (by omega)
    have h2 := run_nonneg (P := P) ha hk k (by omega)
    have h3 := hPQ k (by omega)
    rw [run_succ, run_succ]
    cases hq : Q k <;> cases hp : P k <;> simp_all <;> omega
theorem Kept.up {L : Int} (ha : 0 ≤ a) (hk : ∀ j, j < n → 0 ≤ km j) (hPQ : ∀ j, j < n → P j = true → Q j = true) (h : Kept a km L n P) : Kept a km L n Q := fun j hj =>
  Int.le_trans (run_anti ha hk hPQ (j + 1) (by omega)) (h j hj)
theorem run_congr : ∀ k, (∀ j, j < k → P j = Q j) → run a km P k = run a km Q k
  | 0, _ => rfl
  | k + 1, h => by
    unfold run
    rw [h k (by omega), run_congr k (fun j hj => h j (by omega))]
theorem run_since {m : Nat} : ∀ k, m < k → P m = true → (∀ j, m < j → j < k → P j = false) → run a km P k = pre km k - pre km m
  | k + 1, h, hm, hn => by
    rw [run_succ, pre_succ]
    by_cases he : m = k
    · subst he
      rw [hm, if_pos rfl]
      omega
    · rw [hn k (by omega) (by omega), if_neg (by decide), run_since k (by omega) hm (fun j h1 h2 => hn j h1 (by omega))]
      omega
theorem run_none : ∀ k, (∀ j, j < k → P j = false) → run a km P k = a + pre km k
  | 0, _ => by simp [run, pre]
  | k + 1, h => by
    rw [run_succ, pre_succ]
    rw [h k (by omega), if_neg (by decide), run_none k (fun j hj => h j (by omega))]
    omega
theorem pre_mono (hk : ∀ j, j < n → 0 ≤ km j) : ∀ {i k : Nat}, i ≤ k → k ≤ n → pre km i ≤ pre km k
  | i, 0, h, _ => by
    have : i = 0 := by omega
    subst this
    exact Int.le_refl _
  | i, k + 1, h, hn => by
    by_cases he : i = k + 1
    · subst he; exact Int.le_refl _
    · have := pre_mono hk (i := i) (k := k) (by omega) (by omega)
      have := hk k (by omega)
      rw [pre_succ]
      omega
theorem cnt_mem_cons (x : Int) (l : List Int) : ∀ k, cnt (fun j => decide ((j : Int) ∈ x :: l)) k ≤ cnt (fun j => decide ((j : Int) ∈ l)) k + (if 0 ≤ x ∧ x < (k : Int) then 1 else 0)
  | 0 => by simp [cnt]
  | k + 1 => by
    have ih := cnt_mem_cons x l k
    unfold cnt
    by_cases he : (k : Int) = x
    · subst he
      have : ¬ (0 ≤ (k : Int) ∧ (k : Int) < (k : Int)) := by omega
      rw [if_neg this] at ih
      rw [if_pos (⟨by omega, by omega⟩ : 0 ≤ (k : Int) ∧ (k : Int) < ((k + 1 : Nat) : Int))]
      have : (if decide ((k : Int) ∈ (k : Int) :: l) = true then 1 else 0) ≤ 1 := by split <;> omega
      omega
    · have h1 : ((k : Int) ∈ x :: l) ↔ (k : Int) ∈ l := by simp [he]
      simp only [h1]
      have h2 : (0 ≤ x ∧ x < ((k + 1 : Nat) : Int)) ↔ (0 ≤ x ∧ x < (k : Int)) := by omega
      simp only [h2]
      omega
theorem cnt_mem (l : List Int) (k : Nat) : cnt (fun j => decide ((j : Int) ∈ l)) k ≤ l.length := by
  induction l with
  | nil =>
    have : ∀ k, cnt (fun j => decide ((j : Int) ∈ ([] : List Int))) k = 0 := fun k => by
      induction k with
      | zero => rfl
      | succ k ih => unfold cnt; rw [ih]; simp
    rw [this]
    exact Nat.zero_le _
  | cons x l ih =>
    have := cnt_mem_cons x l k
    have : (if 0 ≤ x ∧ x < (k : Int) then 1 else 0) ≤ 1 := by split <;> omega
    simp only [List.length_cons]
    omega
end

end Go.Proofs.Ytajmocgpjkhjlaa
