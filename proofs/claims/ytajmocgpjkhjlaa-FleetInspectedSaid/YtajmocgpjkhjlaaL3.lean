/- Plain: inspecting as late as one may: what such a walk along a row keeps. -/
import Derived.Test.YtajmocgpjkhjlaaL2
set_option linter.unusedVariables false
set_option linter.unusedSimpArgs false
namespace Go.Proofs.Ytajmocgpjkhjlaa
open Go.RowKit Go.Fp

def memB (l : List Int) (j : Nat) : Bool := decide ((j : Int) ∈ l)
structure GInv (a : Int) (km : Nat → Int) (may : Nat → Bool) (L : Int) (n k : Nat) (tot lm ld sn : Int) (done : List Int) : Prop where
  hlm : -1 ≤ ld ∧ ld ≤ lm ∧ lm < (k : Int)
  hmay : ∀ m : Nat, lm = (m : Int) → may m = true ∧ ∀ j, m < j → j < k → may j = false
  hno : lm = -1 → ∀ j, j < k → may j = false
  hsn : (∀ m : Nat, lm = (m : Int) → sn = pre km k - pre km m) ∧ (lm = -1 → sn = pre km k)
  htot : (∀ m : Nat, ld = (m : Int) → tot = pre km k - pre km m) ∧ (ld = -1 → tot = a + pre km k)
  hrun : tot = run a km (memB done) k
  hkept : ∀ j, j < k → run a km (memB done) (j + 1) ≤ L
  hdone : ∀ z ∈ done, z ≤ ld ∧ ∃ j : Nat, z = (j : Int) ∧ may j = true
  hlen : done.length ≤ k
  hmin : ∀ P : Nat → Bool, (∀ j, P j = true → may j = true) → Kept a km L n P → done.length ≤ cnt P k ∧ (done.length = cnt P k → tot ≤ run a km P k)
section
variable {a : Int} {km : Nat → Int} {may : Nat → Bool} {L : Int} {n k : Nat} {tot lm ld sn : Int} {done : List Int}
theorem ginv_start : GInv a km may L n 0 a (-1) (-1) 0 [] where
  hlm := by omega
  hmay := fun m h => by omega
  hno := fun _ j h => by omega
  hsn := ⟨fun m h => by omega, fun _ => rfl⟩
  htot := ⟨fun m h => by omega, fun _ => by simp [pre]⟩
  hrun := rfl
  hkept := fun j h => by omega
  hdone := fun z h => by simp at h
  hlen := by simp
  hmin := fun P _ _ => ⟨by simp, fun _ => Int.le_refl _⟩
/-- What holds when it has been looked whether one may inspect ahead of step k. -/
structure GMid (a : Int) (km : Nat → Int) (may : Nat → Bool) (k : Nat) (ld lm sn : Int) : Prop where
  hlm : ld ≤ lm ∧ lm < ((k + 1 : Nat) : Int)
  hmay : ∀ m : Nat, lm = (m : Int) → may m = true ∧ ∀ j, m < j → j < k + 1 → may j = false
  hno : lm = -1 → ∀ j, j < k + 1 → may j = false
  hsn : (∀ m : Nat, lm = (m : Int) → sn = pre km (k + 1) - pre km m) ∧ (lm = -1 → sn = pre km (k + 1))
theorem ginv_mid (h : GInv a km may L n k tot lm ld sn done) : GMid a km may k ld (if may k = true then (k : Int) else lm) ((if may k = true then 0 else sn) + km k) := by
  have := h.hlm
  cases hm : may k
  · simp only [Bool.false_eq_true, if_false]
    refine ⟨by omega, fun m e => ⟨(h.hmay m e).1, fun j h1 h2 => ?_⟩, fun e j hj => ?_, fun m e => ?_, fun e => ?_⟩
    · by_cases he : j = k
      · subst he; exact hm
      · exact (h.hmay m e).2 j h1 (by omega)
    · by_cases he : j = k
      · subst he; exact hm
      · exact h.hno e j (by omega)
    · rw [h.hsn.1 m e, pre_succ]; omega
    · rw [h.hsn.2 e, pre_succ]
  · simp only [if_true]
    refine ⟨by omega, fun m e => ⟨?_, fun j h1 h2 => ?_⟩, fun e => by omega, fun m e => ?_, fun e => by omega⟩
    · have : m = k := by omega
      subst this; exact hm
    · omega
    · have : m = k := by omega
      subst this
      rw [pre_succ]
      omega
theorem GMid.run_le (h : GMid a km may k ld lm sn) (ha : 0 ≤ a) (hld : -1 ≤ ld) : sn ≤ run a km may (k + 1) ∧ (0 ≤ lm → sn = run a km may (k + 1)) := by
  have h1 := h.hlm
  by_cases h0 : 0 ≤ lm
  · obtain ⟨m, rfl⟩ : ∃ m : Nat, lm = (m : Int) := ⟨lm.toNat, by omega⟩
    obtain ⟨h2, h3⟩ := h.hmay m rfl
    have := run_since (a := a) (km := km) (P := may) (m := m) (k + 1) (by omega) h2 h3
    rw [this, h.hsn.1 m rfl]
    exact ⟨Int.le_refl _, fun _ => rfl⟩
  · have e : lm = -1 := by omega
    rw [run_none (a := a) (km := km) (P := may) (k + 1) (h.hno e), h.hsn.2 e]
    exact ⟨by omega, fun h => absurd h h0⟩
theorem ginv_notin (h : GInv a km may L n k tot lm ld sn done) {j : Nat} (hj : ld < (j : Int)) : memB done j = false := by
  unfold memB
  rw [decide_eq_false_iff_not]
  intro hm
  have := (h.hdone _ hm).1
  omega
theorem run_le_of {P : Nat → Bool} (ha : 0 ≤ a) (hkm : ∀ j, j < n → 0 ≤ km j) (hP : ∀ j, P j = true → may j = true) (hk : k < n) : run a km may (k + 1) ≤ run a km P (k + 1) :=
  run_anti (n := n) ha hkm (fun j _ => hP j) (k + 1) (by omega)
theorem ginv_keep (ha : 0 ≤ a) (hkm : ∀ j, j < n → 0 ≤ km j) (hk : k < n) (h : GInv a km may L n k tot lm ld sn done) {lm' sn' : Int} (g : GMid a km may k ld lm' sn') (hle : tot + km k ≤ L) : GInv a km may L n (k + 1) (tot + km k) lm' ld sn' done := by
  have h0 := h.hlm
  have hnk : memB done k = false := ginv_notin h (by omega)
  have hrun : tot + km k = run a km (memB done) (k + 1) := by rw [run_succ, hnk, if_neg (by decide), ← h.hrun]
  refine ⟨⟨h0.1, g.hlm⟩, g.hmay, g.hno, g.hsn, ⟨fun m e => ?_, fun e => ?_⟩, hrun, fun j hj => ?_, h.hdone, by have := h.hlen; omega, fun P hP hK => ?_⟩
  · rw [h.htot.1 m e, pre_succ]; omega
  · rw [h.htot.2 e, pre_succ]; omega
  · by_cases he : j = k
    · subst he; rw [← hrun]; exact hle
    · exact h.hkept j (by omega)
  · obtain ⟨h1, h2⟩ := h.hmin P hP hK
    rw [cnt_succ, run_succ]
    cases hp : P k
    · simp only [Bool.false_eq_true, if_false]
      exact ⟨h1, fun e => by have := h2 e; omega⟩
    · simp only [if_true]
      exact ⟨by omega, fun e => by omega⟩
theorem ginv_fail (ha : 0 ≤ a) (hk : k < n) (h : GInv a km may L n k tot lm ld sn done) {lm' sn' : Int} (g : GMid a km may k ld lm' sn') (hgt : ¬ tot + km k ≤ L) (hf : lm' ≤ ld ∨ L < sn') : ¬ Kept a km L n may := fun hK => by
  have h0 := h.hlm
  have hl := hK k hk
  obtain ⟨r1, r2⟩ := g.run_le ha h0.1
  rcases hf with hf | hf
  · have e : lm' = ld := by have := g.hlm; omega
    subst e
    by_cases hn : 0 ≤ lm'
    · obtain ⟨m, rfl⟩ : ∃ m : Nat, lm' = (m : Int) := ⟨lm'.toNat, by omega⟩
      have e1 := r2 hn
      have e2 := g.hsn.1 m rfl
      have e3 := h.htot.1 m rfl
      rw [pre_succ] at e2
      omega
    · have e : lm' = -1 := by omega
      have e1 := run_none (a := a) (km := km) (P := may) (k + 1) (g.hno e)
      have e3 := h.htot.2 e
      rw [pre_succ] at e1
      omega
  · omega
theorem ginv_add (ha : 0 ≤ a) (hkm : ∀ j, j < n → 0 ≤ km j) (hk : k < n) (h : GInv a km may L n k tot lm ld sn done) {lm' sn' : Int} (g : GMid a km may k ld lm' sn') (hgt : ¬ tot + km k ≤ L) (h1 : ¬ lm' ≤ ld) (h2 : ¬ L < sn') : GInv a km may L n (k + 1) sn' lm' lm' sn' (done ++ [lm']) := by
  have h0 := h.hlm
  have hg := g.hlm
  obtain ⟨r1, r2⟩ := g.run_le ha h0.1
  obtain ⟨m, rfl⟩ : ∃ m : Nat, lm' = (m : Int) := ⟨lm'.toNat, by omega⟩
  have hm : memB (done ++ [(m : Int)]) m = true := by simp [memB]
  have hgt' : ∀ j, m < j → memB (done ++ [(m : Int)]) j = false := fun j hj => by
    have := ginv_notin h (j := j) (by omega)
    simp only [memB, decide_eq_false_iff_not] at this ⊢
    simp only [List.mem_append, List.mem_singleton, not_or]
    exact ⟨this, by omega⟩
  have hlt : ∀ j, j < m → memB (done ++ [(m : Int)]) j = memB done j := fun j hj => by
    have : (j : Int) ≠ (m : Int) := by omega
    simp [memB, this]
  have hrn : ∀ j, m ≤ j → j ≤ k → run a km (memB (done ++ [(m : Int)])) (j + 1) = pre km (j + 1) - pre km m := fun j hj _ => run_since (j + 1) (by omega) hm (fun i h1 _ => hgt' i h1)
  have hsn := g.hsn.1 m rfl
  refine ⟨⟨by omega, Int.le_refl _, by omega⟩, g.hmay, g.hno, g.hsn, ⟨fun q e => g.hsn.1 q e, fun e => by omega⟩, ?_, fun j hj => ?_, fun z hz => ?_, by have := h.hlen; simp; omega, fun P hP hK => ?_⟩
  · rw [hrn k (by omega) (by omega)]; exact hsn
  · by_cases hjm : j < m
    · rw [run_congr (Q := memB done) (j + 1) (fun i hi => by by_cases hi' : i < m; exact hlt i hi'; omega)]
      exact h.hkept j (by omega)
    · rw [hrn j (by omega) (by omega)]
      have := pre_mono (n := n) hkm (i := j + 1) (k := k + 1) (by omega) (by omega)
      omega
  · simp only [List.mem_append, List.mem_singleton] at hz
    rcases hz with hz | rfl
    · obtain ⟨q1, q2⟩ := h.hdone z hz
      exact ⟨by omega, q2⟩
    · exact ⟨Int.le_refl _, m, rfl, (g.hmay m rfl).1⟩
  · obtain ⟨q1, q2⟩ := h.hmin P hP hK
    have q3 := run_le_of (P := P) (a := a) (km := km) ha hkm hP hk
    have q4 := hK k hk
    have q5 : done.length + 1 ≤ cnt P (k + 1) := by
      rw [cnt_succ]
      cases hp : P k
      · simp only [Bool.false_eq_true, if_false]
        rw [run_succ, hp, if_neg (by decide)] at q4
        by_cases e : done.length = cnt P k
        · have := q2 e; omega
        · omega
      · simp only [if_true]; omega
    simp only [List.length_append, List.length_singleton]
    exact ⟨q5, fun _ => by omega⟩
end

end Go.Proofs.Ytajmocgpjkhjlaa
