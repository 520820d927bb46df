/- Extraction, part 5b: opening of arguments that hold slices of themselves. -/
import Derived.Test.YtiajmiigkjmakaaGreatDoorX5
import Derived.Test.YtiajmiigkjmakaaGreatDoorXR
namespace Go.Fp
open Go.RowKit Go.ChangeShapes Go.WideShapes Go.Deep

def OpensB {α : Type} (N : Nat) (P : Program) (t : TypeId) (r : RT α) : Prop :=
  ∀ (H : Type) (enc : TypeId × Value → H) (w : World) (base : Nat) (spare : Nat → Bool) (held : Bool) (n : Nat) (cs : List Value) (y : DataW H × List MemPlace), n ≤ N → DataW.trod enc P w base spare held n t cs = some y → ∃ x, r.rep w cs x
theorem OpensB.rle {α : Type} {N : Nat} {P : Program} {t : TypeId} {r s : RT α} (hl : RLe r s) (h : OpensB N P t r) : OpensB N P t s := fun H enc w base spare held n cs y hn hy => by
  obtain ⟨x, hx⟩ := h H enc w base spare held n cs y hn hy
  exact ⟨x, hl.2 _ _ _ hx⟩
theorem OpensB.all {α : Type} {P : Program} {t : TypeId} {r : RT α} (h : ∀ N, OpensB N P t r) : Opens P t r (fun _ => True) := fun H enc w base spare held n cs y hy => by
  obtain ⟨x, hx⟩ := h n H enc w base spare held n cs y (Nat.le_refl n) hy
  exact ⟨x, hx, trivial⟩
theorem list_at {α : Type} {r : RT α} {w : World} {base : Nat} {a : Addr} {cap len : Nat} (hlc : len ≤ cap) (hcm : cap ≤ maxLen) (h : ∀ i, i < len → ∃ cs' x, w.cells? base (a.add (i * r.sz)) r.sz = some cs' ∧ r.rep w cs' x) : ∃ l, l.length = len ∧ FZ r w (some a) cap l := by
  have hmx : maxLen = 9223372036854775807 := by decide
  obtain ⟨l, hll, hlq⟩ := build_list (α := List Value × α) (Q := fun i q => r.rep w q.1 q.2 ∧ ∀ (k : Nat) (u : Value), q.1[k]? = some u → w.cell? (a.add (i * r.sz + k)) = some u) len (fun i hil => by
    obtain ⟨cs', x, h1, hr⟩ := h i hil
    refine ⟨(cs', x), hr, fun k u hu => ?_⟩
    obtain ⟨_, h3, h4⟩ := World.cells?_some h1
    have hk : k < r.sz := by rw [← r.len hr]; exact (List.getElem?_eq_some_iff.1 hu).1
    have := h4 k hk
    rw [addr_add_add] at this
    rw [this]
    exact hu)
  have hall : All2 (r.rep w) (l.map (·.1)) (l.map (·.2)) := by
    have : ∀ q : List (List Value × α), (∀ p ∈ q, r.rep w p.1 p.2) → All2 (r.rep w) (q.map (·.1)) (q.map (·.2)) := fun q => by
      induction q with
      | nil => intro _; trivial
      | cons p s ih => intro h; exact ⟨h p (by simp), ih (fun z hz => h z (by simp [hz]))⟩
    refine this l fun p hp => ?_
    obtain ⟨i, hi⟩ := List.mem_iff_getElem?.1 hp
    exact (hlq i p hi).1
  refine ⟨l.map (·.2), by simp [hll], ⟨by simp [hll]; omega, l.map (·.1), ?_, hall⟩⟩
  have key : ∀ (q : List (List Value × α)) (c : Nat → Option Value), (∀ (i : Nat) (p : List Value × α), q[i]? = some p → p.1.length = r.sz ∧ ∀ (k : Nat) (u : Value), p.1[k]? = some u → c (i * r.sz + k) = some u) → ∀ (j : Nat) (u : Value), (q.map (·.1)).flatten[j]? = some u → c j = some u := fun q => by
    induction q with
    | nil => intro c _ j u h; simp at h
    | cons p s ih =>
      intro c h j u hu
      have h0 := h 0 p rfl
      simp only [List.map_cons, List.flatten_cons] at hu
      by_cases hj : j < p.1.length
      · rw [List.getElem?_append_left hj] at hu
        have := h0.2 j u hu
        simpa using this
      · rw [List.getElem?_append_right (by omega)] at hu
        have := ih (fun k => c (r.sz + k)) (fun i p' hp' => ⟨(h (i + 1) p' (by simpa using hp')).1, fun k u hk => by
          have := (h (i + 1) p' (by simpa using hp')).2 k u hk
          show c (r.sz + (i * r.sz + k)) = some u
          rw [← this, Nat.add_mul]
          congr 1
          omega⟩) (j - p.1.length) u hu
        rw [← this]
        show c j = c (r.sz + (j - p.1.length))
        congr 1
        omega
  exact fun j u hu => key l (fun k => w.cell? (a.add k)) (fun i p hp => ⟨r.len (hlq i p hp).1, (hlq i p hp).2⟩) j u hu
theorem OpensB.list {α : Type} {r : RT α} {P : Program} {t e : TypeId} {N : Nat} (ht : P.underlying t = some (.slice e)) (hc : P.cellsOf e = r.sz) (he : OpensB N P e r) : OpensB N P t (RT.list r) := fun H enc w base spare held n cs y hn hy => by
  rcases DataW.trod_slice ht hy with ⟨rfl, _⟩ | ⟨a, len, cap, elems, rest, n', hn', rfl, _, _, hl, hm, hel, hi, _, _⟩
  · exact ⟨[], none, 0, rfl, FZ.nil⟩
  · obtain ⟨l, h1, h2⟩ := list_at (r := r) (w := w) (base := base) (a := a) hl hm fun i hil => by
      have hi := hi i hil
      rw [List.getElem?_eq_getElem (by omega), hc] at hi
      cases hcs : w.cells? base (a.add (i * r.sz)) r.sz with
      | none => rw [hcs] at hi; cases hi
      | some cs' =>
        rw [hcs] at hi
        obtain ⟨x, hx⟩ := he H enc w base spare held n' cs' _ (by omega) hi
        exact ⟨cs', x, rfl, hx⟩
    exact ⟨l, some a, cap, by rw [h1], h2⟩
end Go.Fp
