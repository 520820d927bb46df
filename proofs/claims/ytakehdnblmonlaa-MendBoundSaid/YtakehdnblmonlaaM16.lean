/- Walks of arcs, and what they weigh. -/
import Derived.Test.YtakehdnblmonlaaM14
namespace Go.Proofs.Ytakehdnblmonlaa
open Go.RowKit Go.Fp

/- Walks: lists of arcs, each beginning where the one before ends. -/
def IsW : Int → List Arc → Int → Prop
  | u, [], v => u = v
  | u, a :: l, v => a.fr = u ∧ IsW a.to l v
def wt : List Arc → Int
  | [] => 0
  | a :: l => a.len + wt l
theorem wt_append (l m : List Arc) : wt (l ++ m) = wt l + wt m := by
  induction l with
  | nil => simp [wt]
  | cons a r ih => simp only [List.cons_append, wt, ih]; omega
theorem isW_append {u v : Int} {l m : List Arc} : IsW u (l ++ m) v ↔ ∃ x, IsW u l x ∧ IsW x m v := by
  induction l generalizing u with
  | nil =>
    constructor
    · intro h; exact ⟨u, rfl, h⟩
    · rintro ⟨x, h1, h2⟩
      have : u = x := h1
      subst this
      exact h2
  | cons a r ih =>
    simp only [List.cons_append, IsW]
    rw [ih]
    constructor
    · rintro ⟨h1, x, h2, h3⟩; exact ⟨x, ⟨h1, h2⟩, h3⟩
    · rintro ⟨x, ⟨h1, h2⟩, h3⟩; exact ⟨h1, x, h2, h3⟩
theorem walk_le {D : List Arc} {U : List Int} (hU : ∀ a ∈ D, Sat U a) : ∀ (l : List Arc) (u v : Int), IsW u l v → (∀ a ∈ l, a ∈ D) → gt U u + wt l ≤ gt U v
  | [], u, v, h, _ => by
    have : u = v := h
    subst this
    simp [wt]
  | a :: l, u, v, h, hD => by
    have h1 := walk_le hU l a.to v h.2 (fun b hb => hD b (by simp [hb]))
    have h2 := hU a (hD a (by simp))
    unfold Sat at h2
    have h3 : a.fr = u := h.1
    rw [h3] at h2
    simp only [wt]
    omega
theorem dup_split {α β : Type} [DecidableEq β] (f : α → β) : ∀ l : List α, ¬ (l.map f).Nodup → ∃ l1 a l2 b l3, l = l1 ++ a :: (l2 ++ b :: l3) ∧ f a = f b
  | [], h => absurd List.nodup_nil h
  | x :: r, h => by
    by_cases hx : f x ∈ r.map f
    · obtain ⟨b, hb, he⟩ := List.mem_map.1 hx
      obtain ⟨s, t, hst⟩ := List.append_of_mem hb
      exact ⟨[], x, s, b, t, by rw [hst]; rfl, he.symm⟩
    · have : ¬ (r.map f).Nodup := fun hn => h (by rw [List.map_cons, List.nodup_cons]; exact ⟨hx, hn⟩)
      obtain ⟨l1, a, l2, b, l3, he, hf⟩ := dup_split f r this
      exact ⟨x :: l1, a, l2, b, l3, by rw [he]; rfl, hf⟩
/-- Where all arcs can be kept a walk that comes twice to a node can be cut short, and weighs no less then. -/
theorem simple_walk {D : List Arc} {U : List Int} (hU : ∀ a ∈ D, Sat U a) : ∀ (n : Nat) (l : List Arc) (u v : Int), l.length ≤ n → IsW u l v → (∀ a ∈ l, a ∈ D) → ∃ l', IsW u l' v ∧ (∀ a ∈ l', a ∈ D) ∧ (l'.map (·.fr)).Nodup ∧ wt l ≤ wt l' := by
  intro n
  induction n with
  | zero =>
    intro l u v hn h hD
    have : l = [] := List.eq_nil_of_length_eq_zero (by omega)
    subst this
    exact ⟨[], h, hD, List.nodup_nil, Int.le_refl _⟩
  | succ n ih =>
    intro l u v hn h hD
    by_cases hnd : (l.map (·.fr)).Nodup
    · exact ⟨l, h, hD, hnd, Int.le_refl _⟩
    · obtain ⟨l1, a, l2, b, l3, he, hf⟩ := dup_split (·.fr) l hnd
      subst he
      obtain ⟨x, h1, h2⟩ := isW_append.1 h
      have ha : a.fr = x := h2.1
      obtain ⟨y, h3, h4⟩ := isW_append.1 h2.2
      have hb : b.fr = y := h4.1
      have hf' : a.fr = b.fr := hf
      have hcl : IsW x (a :: l2) x := by
        refine ⟨ha, ?_⟩
        have : y = x := by omega
        rw [← this]
        exact this ▸ h3
      have hw := walk_le hU (a :: l2) x x hcl (fun c hc => hD c (by
        simp only [List.mem_append, List.mem_cons] at hc ⊢
        rcases hc with hc | hc
        · exact .inr (.inl hc)
        · exact .inr (.inr (.inl hc))))
      have hnew : IsW u (l1 ++ b :: l3) v := isW_append.2 ⟨x, h1, by rw [← ha, hf'], h4.2⟩
      obtain ⟨l', q1, q2, q3, q4⟩ := ih (l1 ++ b :: l3) u v (by simp at hn ⊢; omega) hnew (fun c hc => hD c (by
        simp only [List.mem_append, List.mem_cons] at hc ⊢
        rcases hc with hc | hc | hc
        · exact .inl hc
        · exact .inr (.inr (.inr (.inl hc)))
        · exact .inr (.inr (.inr (.inr hc)))))
      refine ⟨l', q1, q2, q3, Int.le_trans ?_ q4⟩
      have e1 : wt (l1 ++ a :: (l2 ++ b :: l3)) = wt l1 + (wt (a :: l2) + wt (b :: l3)) := by
        rw [wt_append, ← List.cons_append, wt_append]
      have e2 : wt (l1 ++ b :: l3) = wt l1 + wt (b :: l3) := wt_append _ _
      rw [e1, e2]
      omega
/- sums over nodes -/
def sumF (f : Int → Int) : List Int → Int
  | [] => 0
  | x :: r => f x + sumF f r
theorem sumF_append (f : Int → Int) (l m : List Int) : sumF f (l ++ m) = sumF f l + sumF f m := by
  induction l with
  | nil => simp [sumF]
  | cons a r ih => simp only [List.cons_append, sumF, ih]; omega
theorem sumF_sub {f : Int → Int} : ∀ (l l' : List Int), l.Nodup → (∀ x ∈ l, x ∈ l') → (∀ x ∈ l', 0 ≤ f x) → sumF f l ≤ sumF f l'
  | [], l', _, _, h0 => by
    induction l' with
    | nil => exact Int.le_refl _
    | cons a r ih =>
      have := ih (fun x hx => by simp at hx) (fun x hx => h0 x (by simp [hx]))
      have := h0 a (by simp)
      simp only [sumF] at *
      omega
  | a :: r, l', hn, hs, h0 => by
    obtain ⟨s, t, hst⟩ := List.append_of_mem (hs a (by simp))
    subst hst
    rw [List.nodup_cons] at hn
    have := sumF_sub (f := f) r (s ++ t) hn.2 (fun x hx => by
      have h1 := hs x (by simp [hx])
      simp only [List.mem_append, List.mem_cons] at h1 ⊢
      rcases h1 with h1 | h1 | h1
      · exact .inl h1
      · subst h1; exact absurd hx hn.1
      · exact .inr h1) (fun x hx => h0 x (by
      simp only [List.mem_append, List.mem_cons] at hx ⊢
      rcases hx with hx | hx
      · exact .inl hx
      · exact .inr (.inr hx)))
    rw [sumF_append] at this ⊢
    simp only [sumF]
    omega
def nodesL (N : Nat) : List Int := (List.range N).map Int.ofNat
theorem mem_nodesL {N : Nat} {x : Int} (h0 : 0 ≤ x) (h1 : x < N) : x ∈ nodesL N := List.mem_map.2 ⟨x.toNat, List.mem_range.2 (by omega), by show ((x.toNat : Nat) : Int) = x; omega⟩
theorem nodesL_succ (N : Nat) : nodesL (N + 1) = nodesL N ++ [(N : Int)] := by
  unfold nodesL
  rw [List.range_succ, List.map_append]
  rfl
def sumL {α : Type} (g : α → Int) : List α → Int
  | [] => 0
  | x :: r => g x + sumL g r
theorem sumL_append {α : Type} (g : α → Int) (l m : List α) : sumL g (l ++ m) = sumL g l + sumL g m := by
  induction l with
  | nil => simp [sumL]
  | cons a r ih => simp only [List.cons_append, sumL, ih]; omega
theorem sum_nodes (g : List Arc → Int) (outs : List (List Arc)) : ∀ k : Nat, k ≤ outs.length → sumF (fun x => g (outs.getD x.toNat [])) (nodesL k) = sumL g (outs.take k) := by
  intro k
  induction k with
  | zero => intro _; rfl
  | succ k ih =>
    intro hk
    obtain ⟨y, hy⟩ := ex_get (l := outs) (k := k) (by omega)
    rw [nodesL_succ, sumF_append, ih (by omega), take_snoc hy, sumL_append]
    simp only [sumF, sumL, Int.toNat_natCast, List.getD_eq_getElem?_getD, hy, Option.getD_some]
theorem sum_outs (g : List Arc → Int) (outs : List (List Arc)) : sumF (fun x => g (outs.getD x.toNat [])) (nodesL outs.length) = sumL g outs := by
  rw [sum_nodes g outs outs.length (Nat.le_refl _), List.take_length]
theorem boundV_eq (T : List Int) (outs : List (List Arc)) : boundV T outs = T.foldl max 0 + sumL mostL outs := by
  unfold boundV
  generalize T.foldl max 0 = n
  induction outs generalizing n with
  | nil => simp [sumL]
  | cons a r ih =>
    simp only [List.foldl_cons, sumL]
    rw [ih]
    omega
theorem mostL_nonneg (l : List Arc) : 0 ≤ mostL l ∧ ∀ a ∈ l, a.len ≤ mostL l := by
  have gen : ∀ (l : List Arc) (m : Int), m ≤ l.foldl (fun m a => max m a.len) m ∧ ∀ a ∈ l, a.len ≤ l.foldl (fun m a => max m a.len) m := by
    intro l
    induction l with
    | nil => intro m; exact ⟨Int.le_refl _, fun a h => by simp at h⟩
    | cons b r ih =>
      intro m
      have h := ih (max m b.len)
      refine ⟨?_, fun a ha => ?_⟩
      · simp only [List.foldl_cons]; omega
      · simp only [List.foldl_cons]
        rcases List.mem_cons.1 ha with rfl | ha
        · omega
        · exact h.2 a ha
  exact gen l 0
theorem foldmax_ge (T : List Int) : ∀ x ∈ T, x ≤ T.foldl max 0 := by
  have gen : ∀ (l : List Int) (m : Int), m ≤ l.foldl max m ∧ ∀ a ∈ l, a ≤ l.foldl max m := by
    intro l
    induction l with
    | nil => intro m; exact ⟨Int.le_refl _, fun a h => by simp at h⟩
    | cons b r ih =>
      intro m
      have h := ih (max m b)
      refine ⟨?_, fun a ha => ?_⟩
      · simp only [List.foldl_cons]; omega
      · simp only [List.foldl_cons]
        rcases List.mem_cons.1 ha with rfl | ha
        · omega
        · exact h.2 a ha
  exact (gen T 0).2
theorem wt_most {N : Nat} {D : List Arc} {outs : List (List Arc)} (ho : OutsOf N D outs) (hv : ∀ a ∈ D, ArcV N a) : ∀ l : List Arc, (∀ a ∈ l, a ∈ D) → wt l ≤ sumF (fun x => mostL (outs.getD x.toNat [])) (l.map (·.fr))
  | [], _ => Int.le_refl _
  | a :: l, hD => by
    have h1 := wt_most ho hv l (fun b hb => hD b (by simp [hb]))
    have ha := hv a (hD a (by simp))
    have h2 := ha.fr0
    have h3 := ha.fr1
    obtain ⟨y, hy⟩ := ex_get (l := outs) (k := a.fr.toNat) (by rw [ho.1]; omega)
    have h4 := (ho.2 _ y hy a).2 ⟨hD a (by simp), by omega⟩
    have h5 := (mostL_nonneg y).2 a h4
    simp only [wt, List.map_cons, sumF, List.getD_eq_getElem?_getD, hy, Option.getD_some] at h1 ⊢
    omega
theorem wt_len {N : Nat} {D : List Arc} (hv : ∀ a ∈ D, ArcV N a) : ∀ l : List Arc, (∀ a ∈ l, a ∈ D) → wt l ≤ 28800 * (l.length : Int)
  | [], _ => by simp [wt]
  | a :: l, hD => by
    have h1 := wt_len hv l (fun b hb => hD b (by simp [hb]))
    have := (hv a (hD a (by simp))).hi
    simp only [wt, List.length_cons]
    omega
theorem sumF_one (l : List Int) : sumF (fun _ => 1) l = (l.length : Int) := by
  induction l with
  | nil => rfl
  | cons a r ih => simp only [sumF, ih, List.length_cons]; omega
theorem fr_nodes {N : Nat} {D : List Arc} (hv : ∀ a ∈ D, ArcV N a) {l : List Arc} (hD : ∀ a ∈ l, a ∈ D) : ∀ x ∈ l.map (·.fr), x ∈ nodesL N := fun x hx => by
  obtain ⟨a, ha, rfl⟩ := List.mem_map.1 hx
  exact mem_nodesL (hv a (hD a ha)).fr0 (hv a (hD a ha)).fr1
theorem simple_len {N : Nat} {D : List Arc} (hv : ∀ a ∈ D, ArcV N a) {l : List Arc} (hD : ∀ a ∈ l, a ∈ D) (hn : (l.map (·.fr)).Nodup) : l.length ≤ N := by
  have := sumF_sub (f := fun _ => 1) _ (nodesL N) hn (fr_nodes hv hD) (fun _ _ => by omega)
  rw [sumF_one, sumF_one] at this
  simp [nodesL] at this
  omega
theorem simple_most {N : Nat} {D : List Arc} {outs : List (List Arc)} (ho : OutsOf N D outs) (hv : ∀ a ∈ D, ArcV N a) {l : List Arc} (hD : ∀ a ∈ l, a ∈ D) (hn : (l.map (·.fr)).Nodup) : wt l ≤ sumL mostL outs := by
  have h1 := wt_most ho hv l hD
  have h2 := sumF_sub (f := fun x => mostL (outs.getD x.toNat [])) _ (nodesL N) hn (fr_nodes hv hD) (fun x _ => (mostL_nonneg _).1)
  have h3 := sum_outs mostL outs
  rw [ho.1] at h3
  omega
/-- Each second is one at which a node is ready, and a walk behind it. -/
def VW (N : Nat) (D : List Arc) (ready T : List Int) : Prop := ∀ v : Int, 0 ≤ v → v < N → ∃ (u : Int) (l : List Arc), 0 ≤ u ∧ u < N ∧ IsW u l v ∧ (∀ a ∈ l, a ∈ D) ∧ gt T v = gt ready u + wt l
theorem VW.val {N : Nat} {D : List Arc} {ready T U : List Int} (h : VW N D ready T) (hU : ∀ a ∈ D, Sat U a) (hv : ∀ a ∈ D, ArcV N a) {v : Int} (h0 : 0 ≤ v) (h1 : v < N) :
    ∃ (u : Int) (l : List Arc), 0 ≤ u ∧ u < N ∧ IsW u l v ∧ (∀ a ∈ l, a ∈ D) ∧ (l.map (·.fr)).Nodup ∧ l.length ≤ N ∧ gt T v ≤ gt ready u + wt l := by
  obtain ⟨u, l, q1, q2, q3, q4, q5⟩ := h v h0 h1
  obtain ⟨l', r1, r2, r3, r4⟩ := simple_walk hU l.length l u v (Nat.le_refl _) q3 q4
  exact ⟨u, l', q1, q2, r1, r2, r3, simple_len hv r2 r3, by omega⟩


end Go.Proofs.Ytakehdnblmonlaa
