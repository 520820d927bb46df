/- Plain: ways over links, rings; where each ring loses time a long way loses much. -/
import Derived.Test.YtakehdnblmonlaaDL5
set_option linter.unusedVariables false
set_option linter.unusedSimpArgs false
namespace Go.Proofs.Ytakehdnblmonlaa
open Go.RowKit Go.Fp

def Wk (r : MendRound) : Int → List MendLink → Int → Prop
  | u, [], v => u = v
  | u, l :: ws, v => l ∈ r.Links ∧ l.From = u ∧ Wk r l.To ws v
def sS (r : MendRound) : List MendLink → Int
  | [] => 0
  | l :: ws => sg r l + sS r ws
def sL : List MendLink → Int
  | [] => 0
  | l :: ws => l.Len + sL ws
def sB : List MendLink → Int
  | [] => 0
  | l :: ws => l.Back + sB ws
theorem sS_app (r : MendRound) : ∀ a b, sS r (a ++ b) = sS r a + sS r b
  | [], b => (Int.zero_add _).symm
  | x :: a, b => by
    show sg r x + sS r (a ++ b) = sg r x + sS r a + sS r b
    rw [sS_app r a b, Int.add_assoc]
theorem sL_app : ∀ a b, sL (a ++ b) = sL a + sL b
  | [], b => (Int.zero_add _).symm
  | x :: a, b => by
    show x.Len + sL (a ++ b) = x.Len + sL a + sL b
    rw [sL_app a b, Int.add_assoc]
theorem sB_app : ∀ a b, sB (a ++ b) = sB a + sB b
  | [], b => (Int.zero_add _).symm
  | x :: a, b => by
    show x.Back + sB (a ++ b) = x.Back + sB a + sB b
    rw [sB_app a b, Int.add_assoc]
theorem Wk.app {r : MendRound} : ∀ {a : List MendLink} {b : List MendLink} {u v : Int}, Wk r u (a ++ b) v ↔ ∃ m, Wk r u a m ∧ Wk r m b v
  | [], b, u, v => ⟨fun h => ⟨u, rfl, h⟩, fun ⟨m, h1, h2⟩ => by have h1 : u = m := h1; subst h1; exact h2⟩
  | x :: a, b, u, v => by
    show (x ∈ r.Links ∧ x.From = u ∧ Wk r x.To (a ++ b) v) ↔ _
    rw [Wk.app]
    exact ⟨fun ⟨h1, h2, m, h3, h4⟩ => ⟨m, ⟨h1, h2, h3⟩, h4⟩, fun ⟨m, ⟨h1, h2, h3⟩, h4⟩ => ⟨h1, h2, m, h3, h4⟩⟩
section
variable {r : MendRound} (hR : RoundOk r)
theorem walk_sums : ∀ (ws : List MendLink) (u v : Int), Wk r u ws v → sS r ws = av r.Plan v - av r.Plan u + sB ws * r.Period - sL ws
  | [], u, v, h => by
    have h : u = v := h
    subst h
    show (0 : Int) = av r.Plan u - av r.Plan u + 0 * r.Period - 0
    omega
  | l :: ws, u, v, ⟨h1, h2, h3⟩ => by
    have ih := walk_sums ws l.To v h3
    show sg r l + sS r ws = _ - _ + (l.Back + sB ws) * r.Period - (l.Len + sL ws)
    rw [ih, Int.add_mul, ← h2]
    unfold sg
    omega
include hR in
theorem sS_nonneg : ∀ (ws : List MendLink) (u v : Int), Wk r u ws v → 0 ≤ sS r ws ∧ 0 ≤ sB ws ∧ sB ws ≤ 3 * (ws.length : Int) ∧ 0 ≤ sL ws ∧ sL ws ≤ 28800 * (ws.length : Int)
  | [], _, _, _ => ⟨Int.le_refl _, Int.le_refl _, Int.le_refl _, Int.le_refl _, Int.le_refl _⟩
  | l :: ws, u, v, ⟨h1, h2, h3⟩ => by
    have ih := sS_nonneg ws l.To v h3
    have h4 := hR.s0 l h1
    have h5 := hR.ok l h1
    have := h5.b0
    have := h5.b1
    have := h5.n0
    have := h5.n1
    have e : ((l :: ws).length : Int) = (ws.length : Int) + 1 := by rw [List.length_cons]; omega
    show 0 ≤ sg r l + sS r ws ∧ 0 ≤ l.Back + sB ws ∧ l.Back + sB ws ≤ _ ∧ 0 ≤ l.Len + sL ws ∧ l.Len + sL ws ≤ _
    rw [e]
    omega
theorem walk_mem : ∀ {ws : List MendLink} {u v : Int}, Wk r u ws v → ∀ x ∈ ws, x ∈ r.Links
  | [], _, _, _, x, hx => by cases hx
  | l :: ws, u, v, ⟨h1, _, h3⟩, x, hx => by
    rcases List.mem_cons.1 hx with rfl | hx
    · exact h1
    · exact walk_mem h3 x hx
theorem walk_up {τ : Int → Nat} (hτ : ∀ l ∈ r.Links, l.Back = 0 → τ l.From < τ l.To) (hb : ∀ l ∈ r.Links, 0 ≤ l.Back) : ∀ (ws : List MendLink) (u v : Int), Wk r u ws v → sB ws = 0 → (ws ≠ [] → τ u < τ v) ∧ τ u ≤ τ v ∧ 0 ≤ sB ws
  | [], u, v, h, _ => by
    have h : u = v := h
    subst h
    exact ⟨fun h => absurd rfl h, Nat.le_refl _, Int.le_refl _⟩
  | l :: ws, u, v, ⟨h1, h2, h3⟩, h0 => by
    have h4 := hb l h1
    have h5 : 0 ≤ sB ws := by
      clear h0
      have : ∀ (ws : List MendLink) (u v : Int), Wk r u ws v → 0 ≤ sB ws := by
        intro ws
        induction ws with
        | nil => intro _ _ _; exact Int.le_refl _
        | cons x xs ih =>
          intro u v h
          have := hb x h.1
          have := ih _ _ h.2.2
          show 0 ≤ x.Back + sB xs
          omega
      exact this ws _ _ h3
    have h0 : l.Back + sB ws = 0 := h0
    have h6 := hτ l h1 (by omega)
    have ih := walk_up hτ hb ws l.To v h3 (by omega)
    rw [h2] at h6
    have := ih.2.1
    refine ⟨fun _ => by omega, by omega, ?_⟩
    show 0 ≤ l.Back + sB ws
    omega
include hR in
theorem ring_back {ws : List MendLink} {u : Int} (h : Wk r u ws u) (hne : ws ≠ []) : 0 < sB ws := by
  obtain ⟨τ, hτ⟩ := hR.ac
  have h1 := sS_nonneg hR ws u u h
  rcases Int.lt_or_le 0 (sB ws) with h2 | h2
  · exact h2
  · have := (walk_up hτ (fun l hl => (hR.ok l hl).b0) ws u u h (by omega)).1 hne
    omega
/- ---- splits ---- -/
theorem dup_split {α : Type} (f : α → Int) : ∀ {l : List α}, ¬ (l.map f).Nodup → ∃ A x M y B, l = A ++ x :: (M ++ y :: B) ∧ f x = f y
  | [], h => absurd List.nodup_nil h
  | a :: l, h => by
    by_cases ha : f a ∈ l.map f
    · obtain ⟨y, hy, hfy⟩ := List.mem_map.1 ha
      obtain ⟨M, B, rfl⟩ := List.append_of_mem hy
      exact ⟨[], a, M, y, B, rfl, hfy.symm⟩
    · have hp : ¬ (l.map f).Nodup := fun hp => h (List.nodup_cons.2 ⟨ha, hp⟩)
      obtain ⟨A, x, M, y, B, rfl, e⟩ := dup_split f hp
      exact ⟨a :: A, x, M, y, B, rfl, e⟩
theorem min_mem {α : Type} (f : α → Int) : ∀ {l : List α}, l ≠ [] → ∃ x ∈ l, ∀ y ∈ l, f x ≤ f y
  | [], h => absurd rfl h
  | [a], _ => ⟨a, List.mem_cons_self, fun y hy => by rw [List.mem_singleton.1 hy]; exact Int.le_refl _⟩
  | a :: b :: l, _ => by
    obtain ⟨x, hx, h⟩ := min_mem f (l := b :: l) (fun h => by cases h)
    by_cases hc : f a ≤ f x
    · refine ⟨a, List.mem_cons_self, fun y hy => ?_⟩
      rcases List.mem_cons.1 hy with rfl | hy
      · exact Int.le_refl _
      · have := h y hy
        omega
    · refine ⟨x, List.mem_cons_of_mem _ hx, fun y hy => ?_⟩
      rcases List.mem_cons.1 hy with rfl | hy
      · omega
      · exact h y hy
theorem nodup_range : ∀ (n : Nat) (q : List Int), q.Nodup → (∀ v ∈ q, 0 ≤ v ∧ v < (n : Int)) → q.length ≤ n
  | 0, q, _, h => by
    cases q with
    | nil => exact Nat.le_refl _
    | cons a q => exact absurd (h a (by simp)) (by omega)
  | n + 1, q, hq, h => by
    by_cases hm : (n : Int) ∈ q
    · have h1 := nodup_range n (q.erase (n : Int)) (hq.erase (n : Int)) (fun v hv => by
        have h2 := (List.Nodup.mem_erase_iff hq).1 hv
        have h3 := h v h2.2
        have h4 := h2.1
        omega)
      rw [List.length_erase_of_mem hm] at h1
      omega
    · have := nodup_range n q hq (fun v hv => by
        have h3 := h v hv
        have : v ≠ (n : Int) := fun e => hm (e ▸ hv)
        omega)
      omega
/-- What the greatest mean says of rings without repeats, from their least event. -/
def RingsLose (r : MendRound) : Prop := ∀ v ws, 0 ≤ v → v < (r.Plan.length : Int) → Wk r v ws v → ws ≠ [] → (∀ x ∈ ws.dropLast, v < x.To) → (ws.map MendLink.To).Nodup → 1 ≤ sS r ws
include hR in
theorem ring_pos (H : RingsLose r) : ∀ (m : Nat) (ws : List MendLink) (v : Int), ws.length ≤ m → Wk r v ws v → ws ≠ [] → 1 ≤ sS r ws
  | 0, ws, v, hl, _, hne => absurd (List.length_eq_zero_iff.1 (by omega)) hne
  | m + 1, ws, v, hl, hw, hne => by
    by_cases hn : (ws.map MendLink.To).Nodup
    · obtain ⟨x, hx, hmin⟩ := min_mem MendLink.To hne
      obtain ⟨A, B, rfl⟩ := List.append_of_mem hx
      have hw2 : Wk r v (A ++ [x] ++ B) v := by rw [List.append_assoc]; exact hw
      obtain ⟨q, w1, w2⟩ := Wk.app.1 hw2
      obtain ⟨q2, w3, w4⟩ := Wk.app.1 w1
      have hq : x.To = q := w4.2.2
      subst hq
      have hxl := hR.ok x w4.1
      have hrot : Wk r x.To (B ++ (A ++ [x])) x.To := Wk.app.2 ⟨v, w2, w1⟩
      have hperm : ((B ++ (A ++ [x])).map MendLink.To).Nodup := by
        have hp : (B ++ (A ++ [x])).Perm (A ++ x :: B) := by
          have := List.perm_append_comm (l₁ := B) (l₂ := A ++ [x])
          rw [List.append_assoc] at this
          exact this
        exact (hp.map MendLink.To).nodup_iff.2 hn
      have h1 := H x.To _ hxl.t0 hxl.t1 hrot (by simp) (fun y hy => by
        rw [← List.append_assoc, List.dropLast_concat] at hy
        have hy2 : y ∈ A ++ x :: B := by
          rcases List.mem_append.1 hy with h | h
          · exact List.mem_append_right _ (List.mem_cons_of_mem _ h)
          · exact List.mem_append_left _ h
        have h2 := hmin y hy2
        have h3 : y.To ≠ x.To := fun e => by
          rw [← List.append_assoc, List.map_append] at hperm
          have := (List.nodup_append.1 hperm).2.2 y.To (List.mem_map.2 ⟨y, hy, rfl⟩) x.To (by simp)
          exact this e
        omega) hperm
      rw [sS_app, sS_app] at h1
      rw [sS_app]
      have e1 : sS r [x] = sg r x + 0 := rfl
      have e2 : sS r (x :: B) = sg r x + sS r B := rfl
      omega
    · obtain ⟨A, x, M, y, B, rfl, e⟩ := dup_split MendLink.To hn
      have e0 : A ++ x :: (M ++ y :: B) = A ++ ([x] ++ (M ++ [y] ++ B)) := by simp
      rw [e0] at hw ⊢
      obtain ⟨q1, w1, w2⟩ := Wk.app.1 hw
      obtain ⟨q2, w3, w4⟩ := Wk.app.1 w2
      obtain ⟨q3, w5, w6⟩ := Wk.app.1 w4
      obtain ⟨q4, w7, w8⟩ := Wk.app.1 w5
      have h1 : x.To = q2 := w3.2.2
      have h2 : y.To = q3 := w8.2.2
      subst h1
      have w5' : Wk r x.To (M ++ [y]) x.To := by
        have h3 : q3 = x.To := by rw [← h2, e]
        rw [h3] at w5
        exact w5
      have hC := ring_pos H m (M ++ [y]) x.To (by
        simp only [List.length_append, List.length_cons, List.length_nil] at hl ⊢
        omega) w5' (by simp)
      have hA := (sS_nonneg hR _ _ _ w1).1
      have hx := (sS_nonneg hR _ _ _ w3).1
      have hB := (sS_nonneg hR _ _ _ w6).1
      rw [sS_app, sS_app, sS_app]
      omega
include hR in
theorem walk_len (H : RingsLose r) : ∀ (m : Nat) (ws : List MendLink) (u v : Int), ws.length ≤ m → Wk r u ws v → (ws.length : Int) ≤ (r.Plan.length : Int) * sS r ws + (r.Plan.length : Int)
  | 0, ws, u, v, hl, hw => by
    have h1 := (sS_nonneg hR ws u v hw).1
    have h2 : 0 ≤ (r.Plan.length : Int) * sS r ws := Int.mul_nonneg (by omega) h1
    omega
  | m + 1, ws, u, v, hl, hw => by
    have h1 := (sS_nonneg hR ws u v hw).1
    have h2 : 0 ≤ (r.Plan.length : Int) * sS r ws := Int.mul_nonneg (by omega) h1
    by_cases hs : ws.length ≤ r.Plan.length
    · omega
    · have hn : ¬ ((ws.take (r.Plan.length + 1)).map MendLink.To).Nodup := fun hn => by
        have := nodup_range r.Plan.length _ hn (fun q hq => by
          obtain ⟨x, hx, rfl⟩ := List.mem_map.1 hq
          have := hR.ok x (walk_mem hw x (List.mem_of_mem_take hx))
          exact ⟨this.t0, this.t1⟩)
        rw [List.length_map, List.length_take] at this
        omega
      obtain ⟨A, x, M, y, B, e0, e⟩ := dup_split MendLink.To hn
      have hlen : A.length + (1 + (M.length + (1 + B.length))) ≤ r.Plan.length + 1 := by
        have h3 := congrArg List.length e0
        simp only [List.length_take, List.length_append, List.length_cons] at h3
        omega
      have h4 : ws = (A ++ x :: (M ++ y :: B)) ++ ws.drop (r.Plan.length + 1) := by
        rw [← e0]
        exact (List.take_append_drop (r.Plan.length + 1) ws).symm
      have hws : ws = A ++ ([x] ++ (M ++ [y] ++ (B ++ ws.drop (r.Plan.length + 1)))) := h4.trans (by simp)
      clear h4
      generalize ws.drop (r.Plan.length + 1) = D at hws
      subst hws
      obtain ⟨q1, w1, w2⟩ := Wk.app.1 hw
      obtain ⟨q2, w3, w4⟩ := Wk.app.1 w2
      obtain ⟨q3, w5, w6⟩ := Wk.app.1 w4
      obtain ⟨q4, w7, w8⟩ := Wk.app.1 w5
      have g1 : x.To = q2 := w3.2.2
      have g2 : y.To = q3 := w8.2.2
      subst g1
      have g3 : q3 = x.To := by rw [← g2, e]
      subst g3
      have hC := ring_pos hR H (M ++ [y]).length (M ++ [y]) x.To (Nat.le_refl _) w5 (by simp)
      have hrest : Wk r u (A ++ ([x] ++ (B ++ D))) v := Wk.app.2 ⟨q1, w1, Wk.app.2 ⟨x.To, w3, w6⟩⟩
      have ih := walk_len H m (A ++ ([x] ++ (B ++ D))) u v (by
        simp only [List.length_append, List.length_cons, List.length_nil] at hl ⊢
        omega) hrest
      have hsum : sS r (A ++ ([x] ++ (M ++ [y] ++ (B ++ D)))) = sS r (A ++ ([x] ++ (B ++ D))) + sS r (M ++ [y]) := by
        rw [sS_app r A, sS_app r [x], sS_app r (M ++ [y]), sS_app r A, sS_app r [x]]
        omega
      have hmul : (r.Plan.length : Int) * 1 ≤ (r.Plan.length : Int) * sS r (M ++ [y]) := Int.mul_le_mul_of_nonneg_left hC (by omega)
      rw [hsum, Int.mul_add]
      simp only [List.length_append, List.length_cons, List.length_nil] at ih ⊢
      generalize (r.Plan.length : Int) * sS r (M ++ [y]) = X at *
      generalize (r.Plan.length : Int) * sS r (A ++ ([x] ++ (B ++ D))) = Y at *
      omega
end
end Go.Proofs.Ytakehdnblmonlaa
