/- Plain: tables of bounds on times. -/
import Derived.Test.YtdphlkddelnaiaaX6
import Derived.Test.YtdphlkddelnaiaaKD
set_option linter.unusedVariables false
set_option linter.unusedSimpArgs false
namespace Go.Proofs.Ytdphlkddelnaiaa
open Go.RowKit Go.Fp

theorem pass2 {β γ τ : Type} {A : β → γ → Option τ} {y : β} {z : γ} : (some (y, z)).bind (unc2 A) = A y z := rfl
theorem pass3 {β γ δ τ : Type} {A : β → γ → δ → Option τ} {y : β} {z : γ} {x : δ} : (some (y, z, x)).bind (unc3 A) = A y z x := rfl
theorem pass4 {β γ δ ε τ : Type} {A : β → γ → δ → ε → Option τ} {y : β} {z : γ} {x : δ} {w : ε} : (some (y, z, x, w)).bind (unc4 A) = A y z x w := rfl
theorem pass5 {β γ δ ε ζ τ : Type} {A : β → γ → δ → ε → ζ → Option τ} {y : β} {z : γ} {x : δ} {w : ε} {v : ζ} : (some (y, z, x, w, v)).bind (unc5 A) = A y z x w v := rfl
theorem forU {τ : Type} {body : Nat → Unit → Option (Unit ⊕ τ)} (R : Nat → Prop) (Q : τ → Prop) (m : Nat) (h : ∀ k, k < m → (body k () = some (.inl ()) ∧ R k) ∨ ∃ t, body k () = some (.inr t) ∧ Q t) :
    (forM body m 0 () = some (.inl ()) ∧ ∀ k, k < m → R k) ∨ ∃ t, forM body m 0 () = some (.inr t) ∧ Q t := by
  rcases forM_inv (body := body) (fun k _ => ∀ j, j < k → R j) Q m 0 () (fun j hj => absurd hj (by omega)) (fun k s _ hk hi => by
    rcases h k (by omega) with ⟨h1, h2⟩ | h1
    · refine .inl ⟨(), h1, fun j hj => ?_⟩
      by_cases e : j = k
      · subst e; exact h2
      · exact hi j (by omega)
    · exact .inr h1) with ⟨s, h1, h2⟩ | h1
  · exact .inl ⟨h1, fun k hk => h2 k (by omega)⟩
  · exact .inr h1
theorem forU_ok {τ : Type} {body : Nat → Unit → Option (Unit ⊕ τ)} (m : Nat) (h : ∀ k, k < m → body k () = some (.inl ())) : forM body m 0 () = some (.inl ()) := by
  rcases forU (body := body) (fun _ => True) (fun _ => False) m (fun k hk => .inl ⟨h k hk, trivial⟩) with ⟨h1, _⟩ | ⟨_, _, h⟩
  · exact h1
  · exact h.elim
def mg (b : List (List Int)) (i j : Nat) : Int := (((b[i]?).getD [])[j]?).getD 0
structure Sq8 (b : List (List Int)) : Prop where
  len : b.length = 8
  row : ∀ r ∈ b, r.length = 8
theorem Sq8.at {b : List (List Int)} (h : Sq8 b) {i : Nat} (hi : i < 8) : ∃ r, idx b (i : Int) = some r ∧ b[i]? = some r ∧ r.length = 8 ∧ ∀ j : Nat, j < 8 → idx r (j : Int) = some (mg b i j) := by
  have hi' : i < b.length := by rw [h.len]; exact hi
  refine ⟨b[i], idx_lt hi', List.getElem?_eq_getElem hi', h.row _ (List.getElem_mem hi'), fun j hj => ?_⟩
  have hj' : j < (b[i]).length := by rw [h.row _ (List.getElem_mem hi')]; exact hj
  rw [idx_lt hj']
  unfold mg
  rw [List.getElem?_eq_getElem hi']
  simp only [Option.getD_some]
  rw [List.getElem?_eq_getElem hj']
  rfl
theorem Sq8.put2 {b : List (List Int)} (h : Sq8 b) {i j : Nat} (hi : i < 8) (hj : j < 8) {r : List Int} (hr : b[i]? = some r) (v : Int) :
    Sq8 (put b (i : Int) (put r (j : Int) v)) ∧ ∀ a c, mg (put b (i : Int) (put r (j : Int) v)) a c = if a = i ∧ c = j then v else mg b a c := by
  have hi' : i < b.length := by rw [h.len]; exact hi
  have hrl := h.row _ (List.mem_of_getElem? hr)
  refine ⟨⟨by rw [put_length]; exact h.len, fun q hq => ?_⟩, fun a c => ?_⟩
  · rw [put_nat] at hq
    rcases List.mem_or_eq_of_mem_set hq with hq | rfl
    · exact h.row q hq
    · rw [put_length]; exact hrl
  · unfold mg
    rw [put_nat, put_nat]
    by_cases ha : i = a
    · subst ha
      rw [List.getElem?_set_self hi', hr]
      simp only [Option.getD_some, true_and]
      by_cases hc : j = c
      · subst hc
        rw [List.getElem?_set_self (by omega), if_pos rfl]
        rfl
      · rw [List.getElem?_set_ne hc, if_neg (fun e => hc e.symm)]
    · rw [List.getElem?_set_ne ha, if_neg (fun e => ha e.1.symm)]
def Sol (n : Nat) (B : Nat → Nat → Int) (t : Nat → Int) : Prop := ∀ i j, i < n → j < n → t j - t i ≤ B i j
structure Tri (n : Nat) (B : Nat → Nat → Int) : Prop where
  diag : ∀ i, i < n → B i i = 0
  tri : ∀ i j k, i < n → j < n → k < n → B i k ≤ B i j + B j k
/-- The bounds with one more: event 't' is at most 'm' later than event 'f'. -/
def newB (B : Nat → Nat → Int) (f t : Nat) (m : Int) (i k : Nat) : Int := min (B i k) (B i f + m + B t k)
theorem tri_new {n : Nat} {B : Nat → Nat → Int} (h : Tri n B) {f t : Nat} (hf : f < n) (ht : t < n) {m : Int} (hm : 0 ≤ B t f + m) : Tri n (newB B f t m) := by
  refine ⟨fun i hi => ?_, fun i j k hi hj hk => ?_⟩
  · unfold newB
    have h1 := h.diag i hi
    have h2 := h.tri t i f ht hi hf
    omega
  · unfold newB
    have a1 := h.tri i j k hi hj hk
    have a2 := h.tri i j f hi hj hf
    have a3 := h.tri t j k ht hj hk
    have a4 := h.tri t j f ht hj hf
    omega
theorem sol_new {n : Nat} {B : Nat → Nat → Int} (h : Tri n B) {f t : Nat} (hf : f < n) (ht : t < n) {m : Int} (x : Nat → Int) : Sol n (newB B f t m) x ↔ Sol n B x ∧ x t - x f ≤ m := by
  constructor
  · intro hs
    refine ⟨fun i j hi hj => ?_, ?_⟩
    · have := hs i j hi hj
      unfold newB at this
      omega
    · have := hs f t hf ht
      unfold newB at this
      rw [h.diag f hf, h.diag t ht] at this
      omega
  · rintro ⟨h1, h2⟩ i j hi hj
    have a1 := h1 i j hi hj
    have a2 := h1 i f hi hf
    have a3 := h1 t j ht hj
    unfold newB
    omega
theorem sol_none {n : Nat} {B : Nat → Nat → Int} {f t : Nat} (hf : f < n) (ht : t < n) {m : Int} (hm : B t f + m < 0) (x : Nat → Int) (h : Sol n B x) : ¬ x t - x f ≤ m := by
  have := h t f ht hf
  omega
/-- The least times. -/
theorem sol_least {n : Nat} {B : Nat → Nat → Int} (h : Tri n B) (h0 : 0 < n) : Sol n B (fun j => - B j 0) ∧ ∀ x, Sol n B x → ∀ j, j < n → x 0 - B j 0 ≤ x j := by
  refine ⟨fun i j hi hj => ?_, fun x hx j hj => ?_⟩
  · have := h.tri i j 0 hi hj h0
    show - B j 0 - - B i 0 ≤ B i j
    omega
  · have := hx j 0 hj h0
    omega
theorem sol_congr {n : Nat} {B C : Nat → Nat → Int} (h : ∀ i j, i < n → j < n → B i j = C i j) (x : Nat → Int) : Sol n B x ↔ Sol n C x :=
  ⟨fun hs i j hi hj => by rw [← h i j hi hj]; exact hs i j hi hj, fun hs i j hi hj => by rw [h i j hi hj]; exact hs i j hi hj⟩
theorem tri_congr {n : Nat} {B C : Nat → Nat → Int} (h : ∀ i j, i < n → j < n → B i j = C i j) (hB : Tri n B) : Tri n C :=
  ⟨fun i hi => by rw [← h i i hi hi]; exact hB.diag i hi, fun i j k hi hj hk => by rw [← h i k hi hk, ← h i j hi hj, ← h j k hj hk]; exact hB.tri i j k hi hj hk⟩
/-- A table as the search holds it. -/
structure Mx (n : Nat) (P : Int) (b : List (List Int)) : Prop where
  sq : Sq8 b
  tri : Tri n (mg b)
  le : ∀ i j, i < n → j < n → mg b i j ≤ P - 1
theorem Mx.ge {n : Nat} {P : Int} {b : List (List Int)} (h : Mx n P b) {i j : Nat} (hi : i < n) (hj : j < n) : 1 - P ≤ mg b i j := by
  have h1 := h.tri.tri i j i hi hj hi
  have h2 := h.tri.diag i hi
  have h3 := h.le j i hj hi
  omega
section
variable {n : Nat} {P : Int} {b : List (List Int)} (h8 : n ≤ 8) (hP : 2 ≤ P ∧ P ≤ 3600) (h : Mx n P b) {f t : Nat} (hf : f < n) (ht : t < n) {m : Int} (hm : -100000 ≤ m ∧ m ≤ 100000)
include h8 hP h hf ht hm
theorem closed_cell {i : Nat} (hi : i < n) {l0 : List (List Int)} (hs : Sq8 l0) (hrow : ∀ c, mg l0 i c = mg b i c) :
    ∃ l, forS (mPlanBoundsClosed_L2671 (f : Int) (t : Int) m i b) n 0 l0 = some l ∧ Sq8 l ∧ ∀ a c, mg l a c = if a = i ∧ c < n then newB (mg b) f t m i c else mg l0 a c := by
  obtain ⟨l, h1, h2, h3⟩ := forS_inv (body := mPlanBoundsClosed_L2671 (f : Int) (t : Int) m i b) (fun k l => Sq8 l ∧ ∀ a c, mg l a c = if a = i ∧ c < k then newB (mg b) f t m i c else mg l0 a c) n 0 l0 ⟨hs, fun a c => by rw [if_neg (by omega)]⟩ (fun k l _ hk hi' => by
    obtain ⟨g1, g2⟩ := hi'
    have hk' : k < n := by omega
    obtain ⟨r, r1, r2, r3, r4⟩ := g1.at (i := i) (by omega)
    obtain ⟨rb, b1, b2, b3, b4⟩ := h.sq.at (i := i) (by omega)
    obtain ⟨rt, t1, t2, t3, t4⟩ := h.sq.at (i := t) (by omega)
    have e1 : mg l i k = mg b i k := by rw [g2, if_neg (by omega), hrow]
    have v1 := h.le i f hi hf
    have v2 := h.ge hi hf
    have v3 := h.le t k ht hk'
    have v4 := h.ge ht hk'
    unfold mPlanBoundsClosed_L2671
    rw [r1, Option.bind_some, r4 k (by omega), Option.bind_some, b1, Option.bind_some, b4 f (by omega), Option.bind_some, chk_ok (by omega) (by omega), Option.bind_some, t1, Option.bind_some, t4 k (by omega), Option.bind_some, chk_ok (by omega) (by omega), Option.bind_some, Option.bind_some, r4 k (by omega), Option.bind_some]
    obtain ⟨p1, p2⟩ := g1.put2 (i := i) (j := k) (by omega) (by omega) r2 (min (mg l i k) (mg b i f + m + mg b t k))
    refine ⟨_, rfl, p1, fun a c => ?_⟩
    rw [p2]
    by_cases ha : a = i ∧ c = k
    · obtain ⟨rfl, rfl⟩ := ha
      rw [if_pos ⟨rfl, rfl⟩, if_pos ⟨rfl, by omega⟩, e1]
      rfl
    · rw [if_neg ha, g2]
      by_cases hc : a = i ∧ c < k
      · rw [if_pos hc, if_pos ⟨hc.1, by omega⟩]
      · rw [if_neg hc, if_neg (fun q => hc ⟨q.1, by omega⟩)])
  exact ⟨l, h1, h2, fun a c => by rw [h3, Nat.zero_add]⟩
theorem closed_spec : ∃ q x, mPlanBoundsClosed (some b) (n : Int) (f : Int) (t : Int) m = some (q, x) ∧
    ((x = true ∧ ∃ c, q = some c ∧ Mx n P c ∧ ∀ s, Sol n (mg c) s ↔ Sol n (mg b) s ∧ s t - s f ≤ m) ∨ (x = false ∧ q = none ∧ ∀ s, Sol n (mg b) s → ¬ s t - s f ≤ m)) := by
  obtain ⟨rf, f1, f2, f3, f4⟩ := h.sq.at (i := f) (by omega)
  obtain ⟨rt, t1, t2, t3, t4⟩ := h.sq.at (i := t) (by omega)
  have v1 := h.le t f ht hf
  have v2 := h.ge ht hf
  unfold mPlanBoundsClosed
  rw [Option.bind_some, f1, Option.bind_some, f4 t (by omega), Option.bind_some]
  by_cases hle : mg b f t ≤ m
  · rw [if_pos hle]
    refine ⟨_, _, rfl, .inl ⟨rfl, b, rfl, h, fun s => ⟨fun hs => ⟨hs, ?_⟩, fun hs => hs.1⟩⟩⟩
    have := hs f t hf ht
    omega
  · rw [if_neg hle, t1, Option.bind_some, t4 f (by omega), Option.bind_some, chk_ok (by omega) (by omega), Option.bind_some]
    by_cases hneg : mg b t f + m < 0
    · rw [if_pos hneg]
      exact ⟨_, _, rfl, .inr ⟨rfl, rfl, fun s hs => sol_none hf ht hneg s hs⟩⟩
    · rw [if_neg hneg, chk_ok (by omega) (by omega), Option.bind_some, Int.toNat_natCast]
      obtain ⟨c, c1, c2, c3⟩ := forS_inv (body := mPlanBoundsClosed_L1648 (n : Int) (f : Int) (t : Int) m b) (fun k l => Sq8 l ∧ ∀ a c, mg l a c = if a < k ∧ c < n then newB (mg b) f t m a c else mg b a c) n 0 b ⟨h.sq, fun a c => by rw [if_neg (by omega)]⟩ (fun k l _ hk hi => by
        obtain ⟨g1, g2⟩ := hi
        obtain ⟨l', e1, e2, e3⟩ := closed_cell h8 hP h hf ht hm (i := k) (by omega) g1 (fun c => by rw [g2, if_neg (by omega)])
        unfold mPlanBoundsClosed_L1648
        rw [chk_ok (by omega) (by omega), Option.bind_some, Int.toNat_natCast, e1]
        refine ⟨l', rfl, e2, fun a c => ?_⟩
        rw [e3]
        by_cases ha : a = k ∧ c < n
        · rw [if_pos ha, if_pos ⟨by omega, ha.2⟩, ha.1]
        · rw [if_neg ha, g2]
          by_cases hc : a < k ∧ c < n
          · rw [if_pos hc, if_pos ⟨by omega, hc.2⟩]
          · rw [if_neg hc, if_neg (fun q => by omega)])
      rw [c1]
      have hc : ∀ i j, i < n → j < n → newB (mg b) f t m i j = mg c i j := fun i j hi hj => by rw [c3, if_pos ⟨by omega, hj⟩]
      refine ⟨_, _, rfl, .inl ⟨rfl, c, rfl, ⟨c2, tri_congr hc (tri_new h.tri hf ht (by omega)), fun i j hi hj => ?_⟩, fun s => ?_⟩⟩
      · rw [← hc i j hi hj]
        have := h.le i j hi hj
        unfold newB
        omega
      · rw [← sol_congr hc s]
        exact sol_new h.tri hf ht s
end
theorem between_spec {n : Nat} {P : Int} {b : List (List Int)} (h8 : n ≤ 8) (hP : 2 ≤ P ∧ P ≤ 3600) (h : Mx n P b) {f t : Nat} (hf : f < n) (ht : t < n) {lo hi : Int} (hl : -100000 ≤ lo ∧ lo ≤ 100000) (hh : -100000 ≤ hi ∧ hi ≤ 100000) :
    ∃ q x, mPlanBoundsBetween (some b) (n : Int) (f : Int) (t : Int) lo hi = some (q, x) ∧
    ((x = true ∧ ∃ c, q = some c ∧ Mx n P c ∧ ∀ s, Sol n (mg c) s ↔ Sol n (mg b) s ∧ lo ≤ s t - s f ∧ s t - s f ≤ hi) ∨ (x = false ∧ ∀ s, Sol n (mg b) s → ¬ (lo ≤ s t - s f ∧ s t - s f ≤ hi))) := by
  unfold mPlanBoundsBetween
  obtain ⟨q, x, e1, e2⟩ := closed_spec h8 hP h hf ht hh
  rw [e1, pass2]
  rcases e2 with ⟨rfl, c, rfl, c1, c2⟩ | ⟨rfl, rfl, c1⟩
  · rw [if_pos rfl, chk_ok (by omega) (by omega), Option.bind_some]
    obtain ⟨q2, x2, g1, g2⟩ := closed_spec h8 hP c1 ht hf (m := -lo) (by omega)
    rw [g1, pass2]
    refine ⟨q2, x2, rfl, ?_⟩
    rcases g2 with ⟨rfl, d, rfl, d1, d2⟩ | ⟨rfl, rfl, d1⟩
    · refine .inl ⟨rfl, d, rfl, d1, fun s => ?_⟩
      rw [d2, c2]
      constructor
      · rintro ⟨⟨a1, a2⟩, a3⟩
        exact ⟨a1, by omega, a2⟩
      · rintro ⟨a1, a2, a3⟩
        exact ⟨⟨a1, a3⟩, by omega⟩
    · exact .inr ⟨rfl, fun s hs hb => d1 s ((c2 s).2 ⟨hs, hb.2⟩) (by omega)⟩
  · rw [if_neg (by decide)]
    exact ⟨_, _, rfl, .inr ⟨rfl, fun s hs hb => c1 s hs hb.2⟩⟩
end Go.Proofs.Ytdphlkddelnaiaa
