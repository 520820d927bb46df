/- Plain: greatest sums along ways (max-plus), the closure by intermediate places. -/
import Derived.Test.YtakehdnblmonlaaX6
set_option linter.unusedVariables false
set_option linter.unusedSimpArgs false
namespace Go.Proofs.Ytakehdnblmonlaa
open Go.RowKit Go.Fp

abbrev NN : Int := -4611686018427387904
def pw (f : Nat → Nat → Int) : Nat → List Nat → Nat → Int
  | i, [], j => f i j
  | i, k :: p, j => f i k + pw f k p j
def pf (f : Nat → Nat → Int) : Nat → List Nat → Nat → Prop
  | i, [], j => f i j ≠ NN
  | i, k :: p, j => f i k ≠ NN ∧ pf f k p j
def In (n : Nat) (p : List Nat) : Prop := ∀ v ∈ p, v < n
theorem pw_app (f : Nat → Nat → Int) : ∀ (x : List Nat) (i k : Nat) (y : List Nat) (j : Nat), pw f i (x ++ k :: y) j = pw f i x k + pw f k y j
  | [], i, k, y, j => rfl
  | a :: x, i, k, y, j => by
    show f i a + pw f a (x ++ k :: y) j = f i a + pw f a x k + pw f k y j
    rw [pw_app f x a k y j, Int.add_assoc]
theorem pf_app (f : Nat → Nat → Int) : ∀ (x : List Nat) (i k : Nat) (y : List Nat) (j : Nat), pf f i (x ++ k :: y) j ↔ pf f i x k ∧ pf f k y j
  | [], i, k, y, j => Iff.rfl
  | a :: x, i, k, y, j => by
    show f i a ≠ NN ∧ pf f a (x ++ k :: y) j ↔ (f i a ≠ NN ∧ pf f a x k) ∧ pf f k y j
    rw [pf_app f x a k y j, and_assoc]
theorem In.app {n : Nat} {x y : List Nat} : In n (x ++ y) ↔ In n x ∧ In n y := by
  unfold In
  simp only [List.mem_append]
  exact ⟨fun h => ⟨fun v hv => h v (.inl hv), fun v hv => h v (.inr hv)⟩, fun h v hv => hv.elim (h.1 v) (h.2 v)⟩
theorem In.cons {n k : Nat} {y : List Nat} : In n (k :: y) ↔ k < n ∧ In n y := by
  unfold In
  simp only [List.mem_cons]
  exact ⟨fun h => ⟨h k (.inl rfl), fun v hv => h v (.inr hv)⟩, fun h v hv => hv.elim (fun e => e ▸ h.1) (h.2 v)⟩
theorem split_dup : ∀ {p : List Nat}, ¬ p.Nodup → ∃ x v y z, p = x ++ v :: (y ++ v :: z)
  | [], h => absurd List.nodup_nil h
  | a :: p, h => by
    by_cases ha : a ∈ p
    · obtain ⟨y, z, rfl⟩ := List.append_of_mem ha
      exact ⟨[], a, y, z, rfl⟩
    · have hp : ¬ p.Nodup := fun hp => h (List.nodup_cons.2 ⟨ha, hp⟩)
      obtain ⟨x, v, y, z, rfl⟩ := split_dup hp
      exact ⟨a :: x, v, y, z, rfl⟩
theorem nodup_le : ∀ (n : Nat) (q : List Nat), q.Nodup → In n q → q.length ≤ n
  | 0, q, _, h => by
    cases q with
    | nil => exact Nat.le_refl _
    | cons a q => exact absurd (h a (by simp)) (by omega)
  | n + 1, q, hq, h => by
    by_cases hm : n ∈ q
    · have h1 := nodup_le n (q.erase n) (hq.erase n) (fun v hv => by
        have h2 := (List.Nodup.mem_erase_iff hq).1 hv
        have h3 := h v h2.2
        have h4 := h2.1
        omega)
      rw [List.length_erase_of_mem hm] at h1
      omega
    · have := nodup_le n q hq (fun v hv => by
        have h3 := h v hv
        have : v ≠ n := fun e => hm (e ▸ hv)
        omega)
      omega
/-- Where no ring without repeats is above 0, a way has one without repeats that is no less. -/
theorem cut {f : Nat → Nat → Int} {n : Nat} (hd : ∀ i q, i < n → q.Nodup → In n q → pf f i q i → pw f i q i ≤ 0) :
    ∀ (m : Nat) (p : List Nat) (i j : Nat), p.length ≤ m → In n p → i < n → j < n → pf f i p j → ∃ q, q.Nodup ∧ In n q ∧ pf f i q j ∧ pw f i p j ≤ pw f i q j
  | 0, p, i, j, hl, hp, _, _, hf => by
    have : p = [] := List.length_eq_zero_iff.1 (by omega)
    subst this
    exact ⟨[], List.nodup_nil, hp, hf, Int.le_refl _⟩
  | m + 1, p, i, j, hl, hp, hi, hj, hf => by
    by_cases hn : p.Nodup
    · exact ⟨p, hn, hp, hf, Int.le_refl _⟩
    · obtain ⟨x, v, y, z, rfl⟩ := split_dup hn
      obtain ⟨hx, hp2⟩ := In.app.1 hp
      obtain ⟨hv, hp3⟩ := In.cons.1 hp2
      obtain ⟨hy, hp4⟩ := In.app.1 hp3
      obtain ⟨_, hz⟩ := In.cons.1 hp4
      rw [pf_app, pf_app] at hf
      obtain ⟨f1, f2, f3⟩ := hf
      simp only [List.length_append, List.length_cons] at hl
      obtain ⟨q, q1, q2, q3, q4⟩ := cut hd m y v v (by omega) hy hv hv f2
      have h0 := hd v q hv q1 q2 q3
      obtain ⟨r, r1, r2, r3, r4⟩ := cut hd m (x ++ v :: z) i j (by simp only [List.length_append, List.length_cons]; omega) (In.app.2 ⟨hx, In.cons.2 ⟨hv, hz⟩⟩) hi hj ((pf_app f x i v z j).2 ⟨f1, f3⟩)
      refine ⟨r, r1, r2, r3, ?_⟩
      rw [pw_app, pw_app]
      rw [pw_app] at r4
      omega
/- ---- one round by an intermediate place ---- -/
def Low (f : Nat → Nat → Int) (n k : Nat) (g : Nat → Nat → Int) : Prop := ∀ i j p, i < n → j < n → p.Nodup → In k p → pf f i p j → g i j ≠ NN ∧ pw f i p j ≤ g i j
def Up (f : Nat → Nat → Int) (n : Nat) (g : Nat → Nat → Int) : Prop := ∀ i j, i < n → j < n → g i j ≠ NN → ∃ p, In n p ∧ pf f i p j ∧ pw f i p j = g i j
def Bd (n : Nat) (B : Int) (g : Nat → Nat → Int) : Prop := ∀ i j, i < n → j < n → g i j ≠ NN → -B ≤ g i j ∧ g i j ≤ B
def Done (i j a b : Nat) : Prop := a < i ∨ a = i ∧ b < j
structure Rd1 (f : Nat → Nat → Int) (n k : Nat) (B : Int) (g0 : Nat → Nat → Int) (i j : Nat) (g : Nat → Nat → Int) : Prop where
  mono : ∀ a b, a < n → b < n → g0 a b ≠ NN → g a b ≠ NN ∧ g0 a b ≤ g a b
  up : Up f n g
  done : ∀ a b, a < n → b < n → Done i j a b → g0 a k ≠ NN → g0 k b ≠ NN → g a b ≠ NN ∧ g0 a k + g0 k b ≤ g a b
  yet : ∀ a b, a < n → b < n → ¬ Done i j a b → g a b = g0 a b
  bd : ∀ a b, a < n → b < n → g a b ≠ NN → -(6 * B) ≤ g a b ∧ g a b ≤ 6 * B ∧ (b = k → -(3 * B) ≤ g a b ∧ g a b ≤ 3 * B) ∧ (a = k → -(3 * B) ≤ g a b ∧ g a b ≤ 3 * B) ∧ (a = k → b = k → -(2 * B) ≤ g a b ∧ g a b ≤ 2 * B)
def set2 (g : Nat → Nat → Int) (i j : Nat) (x : Int) : Nat → Nat → Int := fun a b => if a = i ∧ b = j then x else g a b
theorem set2_self (g : Nat → Nat → Int) (i j : Nat) (x : Int) : set2 g i j x i j = x := if_pos ⟨rfl, rfl⟩
theorem set2_ne {g : Nat → Nat → Int} {i j a b : Nat} {x : Int} (h : ¬ (a = i ∧ b = j)) : set2 g i j x a b = g a b := if_neg h
theorem Rd1.start {f : Nat → Nat → Int} {n k : Nat} {B : Int} {g0 : Nat → Nat → Int} (hB : 0 ≤ B) (hu : Up f n g0) (hb : Bd n B g0) : Rd1 f n k B g0 0 0 g0 :=
  ⟨fun _ _ _ _ h => ⟨h, Int.le_refl _⟩, hu, fun a b _ _ h => by unfold Done at h; omega, fun _ _ _ _ _ => rfl, fun a b ha hb' h => by have := hb a b ha hb' h; omega⟩
section
variable {f : Nat → Nat → Int} {n k : Nat} {B : Int} {g0 : Nat → Nat → Int} {i j : Nat} {g : Nat → Nat → Int}
theorem Rd1.next_no (h : Rd1 f n k B g0 i j g) (hk : k < n) (hi : i < n) (hj : j < n) (hno : ¬ (g i k ≠ NN ∧ g k j ≠ NN)) : Rd1 f n k B g0 i (j + 1) g := by
  refine ⟨h.mono, h.up, fun a b ha hb hd h1 h2 => ?_, fun a b ha hb hd => h.yet a b ha hb (fun hd' => hd (by unfold Done at hd' ⊢; omega)), h.bd⟩
  by_cases he : a = i ∧ b = j
  · obtain ⟨rfl, rfl⟩ := he
    exact absurd ⟨(h.mono a k ha hk h1).1, (h.mono k b hk hb h2).1⟩ hno
  · exact h.done a b ha hb (by unfold Done at hd ⊢; omega) h1 h2
theorem Rd1.sum (h : Rd1 f n k B g0 i j g) (hB : 0 ≤ B) (hbd : Bd n B g0) (hk : k < n) (hi : i < n) (hj : j < n) (h1 : g i k ≠ NN) (h2 : g k j ≠ NN) :
    -(6 * B) ≤ g i k + g k j ∧ g i k + g k j ≤ 6 * B ∧ ((j = k ∨ i = k) → -(3 * B) ≤ g i k + g k j ∧ g i k + g k j ≤ 3 * B) ∧ (i = k → j = k → -(2 * B) ≤ g i k + g k j ∧ g i k + g k j ≤ 2 * B) := by
  have b1 := h.bd i k hi hk h1
  have b2 := h.bd k j hk hj h2
  have b3 := b1.2.2.1 rfl
  have b4 := b2.2.2.2.1 rfl
  by_cases hjk : j = k
  · have e1 := h.yet i k hi hk (by unfold Done; omega)
    have c1 := hbd i k hi hk (e1 ▸ h1)
    have c2 := b2.2.2.2.2 rfl hjk
    by_cases hik : i = k
    · have e2 := h.yet k j hk hj (by unfold Done; omega)
      have c3 := hbd k j hk hj (e2 ▸ h2)
      rw [e1, e2]
      omega
    · rw [e1]
      rw [e1] at b1 b3
      omega
  · by_cases hik : i = k
    · have e2 := h.yet k j hk hj (by unfold Done; omega)
      have c3 := hbd k j hk hj (e2 ▸ h2)
      have c4 := b1.2.2.2.2 hik rfl
      rw [e2]
      rw [e2] at b2 b4
      omega
    · omega
theorem Rd1.next (h : Rd1 f n k B g0 i j g) (hB : 0 ≤ B) (h6 : 6 * B < 4611686018427387904) (hbd : Bd n B g0) (hk : k < n) (hi : i < n) (hj : j < n) (h1 : g i k ≠ NN) (h2 : g k j ≠ NN) :
    Rd1 f n k B g0 i (j + 1) (set2 g i j (max (g i j) (g i k + g k j))) := by
  have hs := h.sum hB hbd hk hi hj h1 h2
  have hsn : NN < g i k + g k j := by
    have := hs.1
    show -4611686018427387904 < _
    omega
  have hmax : max (g i j) (g i k + g k j) ≠ NN := by
    intro e
    have := Int.le_max_right (g i j) (g i k + g k j)
    omega
  refine ⟨fun a b ha hb h0 => ?_, fun a b ha hb hn => ?_, fun a b ha hb hd h3 h4 => ?_, fun a b ha hb hd => ?_, fun a b ha hb hn => ?_⟩
  · by_cases he : a = i ∧ b = j
    · obtain ⟨rfl, rfl⟩ := he
      rw [set2_self]
      have := (h.mono a b ha hb h0).2
      exact ⟨hmax, by omega⟩
    · rw [set2_ne he]
      exact h.mono a b ha hb h0
  · by_cases he : a = i ∧ b = j
    · obtain ⟨rfl, rfl⟩ := he
      rw [set2_self]
      by_cases hc : g a b ≤ g a k + g k b
      · rw [Int.max_eq_right hc]
        obtain ⟨p, p1, p2, p3⟩ := h.up a k ha hk h1
        obtain ⟨q, q1, q2, q3⟩ := h.up k b hk hb h2
        exact ⟨p ++ k :: q, In.app.2 ⟨p1, In.cons.2 ⟨hk, q1⟩⟩, (pf_app f p a k q b).2 ⟨p2, q2⟩, by rw [pw_app, p3, q3]⟩
      · rw [Int.max_eq_left (by omega)]
        have hgn : g a b ≠ NN := by omega
        exact h.up a b ha hb hgn
    · rw [set2_ne he] at hn ⊢
      exact h.up a b ha hb hn
  · by_cases he : a = i ∧ b = j
    · obtain ⟨rfl, rfl⟩ := he
      rw [set2_self]
      have m1 := (h.mono a k ha hk h3).2
      have m2 := (h.mono k b hk hb h4).2
      exact ⟨hmax, by omega⟩
    · rw [set2_ne he]
      exact h.done a b ha hb (by unfold Done at hd ⊢; omega) h3 h4
  · have he : ¬ (a = i ∧ b = j) := fun he => hd (by unfold Done; omega)
    rw [set2_ne he]
    exact h.yet a b ha hb (fun hd' => hd (by unfold Done at hd' ⊢; omega))
  · by_cases he : a = i ∧ b = j
    · obtain ⟨rfl, rfl⟩ := he
      rw [set2_self]
      by_cases hg : g a b = NN
      · rw [Int.max_eq_right (by rw [hg]; omega)]
        exact ⟨hs.1, hs.2.1, fun e => hs.2.2.1 (.inl e), fun e => hs.2.2.1 (.inr e), fun e1 e2 => hs.2.2.2 e1 e2⟩
      · have hb' := h.bd a b ha hb hg
        refine ⟨by omega, by omega, fun e => ?_, fun e => ?_, fun e1 e2 => ?_⟩
        · have := hs.2.2.1 (.inl e)
          have := hb'.2.2.1 e
          omega
        · have := hs.2.2.1 (.inr e)
          have := hb'.2.2.2.1 e
          omega
        · have := hs.2.2.2 e1 e2
          have := hb'.2.2.2.2 e1 e2
          omega
    · rw [set2_ne he] at hn ⊢
      exact h.bd a b ha hb hn
theorem Rd1.row (h : Rd1 f n k B g0 i n g) : Rd1 f n k B g0 (i + 1) 0 g :=
  ⟨h.mono, h.up, fun a b ha hb hd => h.done a b ha hb (by unfold Done at hd ⊢; omega), fun a b ha hb hd => h.yet a b ha hb (fun hd' => hd (by unfold Done at hd' ⊢; omega)), h.bd⟩
theorem Rd1.fin (h : Rd1 f n k B g0 n 0 g) (hk : k < n) (hl : Low f n k g0) : Low f n (k + 1) g ∧ Up f n g ∧ Bd n (6 * B) g := by
  refine ⟨fun a b p ha hb hn hp hf => ?_, h.up, fun a b ha hb hn => ⟨(h.bd a b ha hb hn).1, (h.bd a b ha hb hn).2.1⟩⟩
  by_cases hm : k ∈ p
  · obtain ⟨x, y, rfl⟩ := List.append_of_mem hm
    obtain ⟨hx, hp2⟩ := In.app.1 hp
    obtain ⟨_, hy⟩ := In.cons.1 hp2
    have hnd := List.nodup_append.1 hn
    have hnk := List.nodup_cons.1 hnd.2.1
    have hx' : In k x := fun v hv => by
      have := hx v hv
      have : v ≠ k := hnd.2.2 v hv k (by simp)
      omega
    have hy' : In k y := fun v hv => by
      have := hy v hv
      have : v ≠ k := fun e => hnk.1 (e ▸ hv)
      omega
    rw [pf_app] at hf
    have l1 := hl a k x ha hk hnd.1 hx' hf.1
    have l2 := hl k b y hk hb hnk.2 hy' hf.2
    have := h.done a b ha hb (.inl ha) l1.1 l2.1
    rw [pw_app]
    exact ⟨this.1, by omega⟩
  · have hp' : In k p := fun v hv => by
      have := hp v hv
      have : v ≠ k := fun e => hm (e ▸ hv)
      omega
    have l1 := hl a b p ha hb hn hp' hf
    have m1 := h.mono a b ha hb l1.1
    exact ⟨m1.1, by omega⟩
theorem low_start : Low f n 0 f := fun a b p _ _ _ hp hf => by
  cases p with
  | nil => exact ⟨hf, Int.le_refl _⟩
  | cons v p => exact absurd (hp v (by simp)) (by omega)
theorem up_start : Up f n f := fun a b _ _ h => ⟨[], (fun v hv => absurd hv (by simp)), h, rfl⟩
end
/- ---- what the closure is ---- -/
structure Clo (f : Nat → Nat → Int) (n : Nat) (c : Nat → Nat → Int) : Prop where
  diag : ∀ i, i < n → c i i = 0
  le : ∀ i j p, i < n → j < n → In n p → pf f i p j → c i j ≠ NN ∧ pw f i p j ≤ c i j
  got : ∀ i j, i < n → j < n → i ≠ j → c i j ≠ NN → ∃ q, q.Nodup ∧ In n q ∧ pf f i q j ∧ pw f i q j = c i j
theorem clo_of {f g c : Nat → Nat → Int} {n : Nat} (hl : Low f n n g) (hu : Up f n g) (hd : ∀ i, i < n → g i i ≤ 0) (hc : ∀ i, i < n → c i i = 0) (hcg : ∀ i j, i < n → j < n → i ≠ j → c i j = g i j) : Clo f n c := by
  have hd' : ∀ i q, i < n → q.Nodup → In n q → pf f i q i → pw f i q i ≤ 0 := fun i q hi hq hin hf => by
    have := (hl i i q hi hi hq hin hf).2
    have := hd i hi
    omega
  have hall : ∀ i j p, i < n → j < n → In n p → pf f i p j → g i j ≠ NN ∧ pw f i p j ≤ g i j := fun i j p hi hj hp hf => by
    obtain ⟨q, q1, q2, q3, q4⟩ := cut hd' p.length p i j (Nat.le_refl _) hp hi hj hf
    have := hl i j q hi hj q1 q2 q3
    exact ⟨this.1, by omega⟩
  refine ⟨hc, fun i j p hi hj hp hf => ?_, fun i j hi hj hne hn => ?_⟩
  · have h1 := hall i j p hi hj hp hf
    by_cases e : i = j
    · subst e
      rw [hc i hi]
      have := hd i hi
      exact ⟨by decide, by omega⟩
    · rw [hcg i j hi hj e]
      exact h1
  · rw [hcg i j hi hj hne] at hn ⊢
    obtain ⟨p, p1, p2, p3⟩ := hu i j hi hj hn
    obtain ⟨q, q1, q2, q3, q4⟩ := cut hd' p.length p i j (Nat.le_refl _) p1 hi hj p2
    have := hl i j q hi hj q1 q2 q3
    exact ⟨q, q1, q2, q3, by omega⟩
section
variable {f c : Nat → Nat → Int} {n : Nat}
theorem Clo.tri (h : Clo f n c) {i k j : Nat} (hi : i < n) (hk : k < n) (hj : j < n) (h1 : c i k ≠ NN) (h2 : c k j ≠ NN) : c i j ≠ NN ∧ c i k + c k j ≤ c i j := by
  by_cases e1 : i = k
  · subst e1
    rw [h.diag i hi]
    exact ⟨h2, by omega⟩
  · by_cases e2 : k = j
    · subst e2
      rw [h.diag k hk]
      exact ⟨h1, by omega⟩
    · obtain ⟨p, _, p2, p3, p4⟩ := h.got i k hi hk e1 h1
      obtain ⟨q, _, q2, q3, q4⟩ := h.got k j hk hj e2 h2
      have := h.le i j (p ++ k :: q) hi hj (In.app.2 ⟨p2, In.cons.2 ⟨hk, q2⟩⟩) ((pf_app f p i k q j).2 ⟨p3, q3⟩)
      rw [pw_app, p4, q4] at this
      exact this
theorem Clo.own (h : Clo f n c) : ∀ (p : List Nat) (i j : Nat), i < n → j < n → In n p → pf c i p j → c i j ≠ NN ∧ pw c i p j ≤ c i j
  | [], i, j, _, _, _, hf => ⟨hf, Int.le_refl _⟩
  | k :: p, i, j, hi, hj, hp, hf => by
    obtain ⟨hk, hp⟩ := In.cons.1 hp
    obtain ⟨f1, f2⟩ := hf
    have h1 := Clo.own h p k j hk hj hp f2
    have h2 := h.tri hi hk hj f1 h1.1
    show _ ∧ c i k + pw c k p j ≤ c i j
    exact ⟨h2.1, by omega⟩
theorem Clo.again {c' : Nat → Nat → Int} (h : Clo f n c) (h' : Clo c n c') {i j : Nat} (hi : i < n) (hj : j < n) : c' i j = c i j := by
  by_cases e : i = j
  · subst e
    rw [h.diag i hi, h'.diag i hi]
  · by_cases hc : c i j = NN
    · by_cases hc' : c' i j = NN
      · rw [hc, hc']
      · obtain ⟨q, _, q2, q3, _⟩ := h'.got i j hi hj e hc'
        exact absurd hc (h.own q i j hi hj q2 q3).1
    · have h1 := h'.le i j [] hi hj (fun v hv => by cases hv) hc
      obtain ⟨q, _, q2, q3, q4⟩ := h'.got i j hi hj e h1.1
      have h2 := (h.own q i j hi hj q2 q3).2
      have h3 := h1.2
      simp only [pw] at h3
      omega
/- ---- products ---- -/
def Pr (n : Nat) (a s p : Nat → Nat → Int) : Prop := ∀ i j, i < n → j < n → (p i j ≠ NN → ∃ k, k < n ∧ a i k ≠ NN ∧ s k j ≠ NN ∧ p i j = a i k + s k j) ∧ ∀ k, k < n → a i k ≠ NN → s k j ≠ NN → p i j ≠ NN ∧ a i k + s k j ≤ p i j
structure Step (f : Nat → Nat → Int) (n : Nat) (s : Nat → Nat → Int) : Prop where
  off : ∀ i j, i < n → j < n → i ≠ j → s i j = f i j
  on : ∀ i, i < n → s i i = max (f i i) 0
structure All (f c : Nat → Nat → Int) (n m : Nat) (a : Nat → Nat → Int) : Prop where
  lo : ∀ i j p, i < n → j < n → p.length ≤ m → In n p → pf f i p j → a i j ≠ NN ∧ pw f i p j ≤ a i j
  zero : ∀ i, i < n → a i i ≠ NN ∧ 0 ≤ a i i
  hi : ∀ i j, i < n → j < n → a i j ≠ NN → c i j ≠ NN ∧ a i j ≤ c i j
variable {s a p : Nat → Nat → Int} {m : Nat}
theorem Step.ge (h : Step f n s) {i j : Nat} (hi : i < n) (hj : j < n) (hf : f i j ≠ NN) : s i j ≠ NN ∧ f i j ≤ s i j := by
  by_cases e : i = j
  · subst e
    rw [h.on i hi]
    exact ⟨by show max (f i i) 0 ≠ -4611686018427387904; omega, by omega⟩
  · rw [h.off i j hi hj e]
    exact ⟨hf, Int.le_refl _⟩
theorem Step.zero (h : Step f n s) {i : Nat} (hi : i < n) : s i i ≠ NN ∧ 0 ≤ s i i := by
  rw [h.on i hi]
  exact ⟨by show max (f i i) 0 ≠ -4611686018427387904; omega, by omega⟩
theorem Step.le (h : Step f n s) (hc : Clo f n c) {i j : Nat} (hi : i < n) (hj : j < n) (hs : s i j ≠ NN) : c i j ≠ NN ∧ s i j ≤ c i j := by
  by_cases e : i = j
  · subst e
    rw [h.on i hi, hc.diag i hi]
    refine ⟨by decide, ?_⟩
    by_cases hf : f i i = NN
    · rw [hf]; decide
    · have := (hc.le i i [] hi hi (fun v hv => by cases hv) hf).2
      rw [hc.diag i hi] at this
      simp only [pw] at this
      omega
  · rw [h.off i j hi hj e] at hs ⊢
    exact hc.le i j [] hi hj (fun v hv => by cases hv) hs
theorem All.start (h : Step f n s) (hc : Clo f n c) : All f c n 0 s := by
  refine ⟨fun i j p hi hj hl hp hf => ?_, fun i hi => h.zero hi, fun i j hi hj hs => h.le hc hi hj hs⟩
  have : p = [] := List.length_eq_zero_iff.1 (by omega)
  subst this
  exact h.ge hi hj hf
theorem All.next (h : All f c n m a) (hs : Step f n s) (hc : Clo f n c) (hp : Pr n a s p) : All f c n (m + 1) p := by
  refine ⟨fun i j q hi hj hl hq hf => ?_, fun i hi => ?_, fun i j hi hj hn => ?_⟩
  · rcases List.eq_nil_or_concat q with rfl | ⟨q', k, rfl⟩
    · have h1 := h.lo i j [] hi hj (Nat.zero_le _) hq hf
      have h2 := hs.zero hj
      have h3 := (hp i j hi hj).2 j hj h1.1 h2.1
      exact ⟨h3.1, by omega⟩
    · rw [List.concat_eq_append] at *
      obtain ⟨hq1, hq2⟩ := In.app.1 hq
      have hk := (In.cons.1 hq2).1
      have hf' := (pf_app f q' i k [] j).1 hf
      rw [List.length_append] at hl
      simp only [List.length_cons, List.length_nil] at hl
      have h1 := h.lo i k q' hi hk (by omega) hq1 hf'.1
      have h2 := hs.ge hk hj hf'.2
      have h3 := (hp i j hi hj).2 k hk h1.1 h2.1
      have e := pw_app f q' i k [] j
      simp only [pw] at e
      exact ⟨h3.1, by omega⟩
  · have h1 := h.zero i hi
    have h2 := hs.zero hi
    have h3 := (hp i i hi hi).2 i hi h1.1 h2.1
    exact ⟨h3.1, by omega⟩
  · obtain ⟨k, hk, h1, h2, h3⟩ := (hp i j hi hj).1 hn
    have h4 := h.hi i k hi hk h1
    have h5 := hs.le hc hk hj h2
    have h6 := hc.tri hi hk hj h4.1 h5.1
    exact ⟨h6.1, by omega⟩
theorem All.last (h : All f c n n a) (hc : Clo f n c) {i j : Nat} (hi : i < n) (hj : j < n) : a i j = c i j := by
  by_cases e : i = j
  · subst e
    have h1 := h.zero i hi
    have h2 := (h.hi i i hi hi h1.1).2
    have h3 := hc.diag i hi
    omega
  · by_cases hn : c i j = NN
    · by_cases ha : a i j = NN
      · rw [hn, ha]
      · exact absurd hn (h.hi i j hi hj ha).1
    · obtain ⟨q, q1, q2, q3, q4⟩ := hc.got i j hi hj e hn
      have h1 := h.lo i j q hi hj (nodup_le n q q1 q2) q2 q3
      have h2 := (h.hi i j hi hj h1.1).2
      omega
end
end Go.Proofs.Ytakehdnblmonlaa
