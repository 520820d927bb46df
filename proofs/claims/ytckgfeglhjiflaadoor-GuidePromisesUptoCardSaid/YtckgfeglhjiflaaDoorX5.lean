/- Extraction, part 5: what a row gives, read by what cells stand for. -/
import Derived.Test.YtckgfeglhjiflaaDoorX4
import Derived.Test.YtckgfeglhjiflaaDoorK9
import Derived.ChangeSame
import Derived.SizedLaws
namespace Go.Fp
open Go.RowKit Go.ChangeShapes Go.WideShapes Go.Deep

def Opens {α : Type} (P : Program) (t : TypeId) (r : RT α) (R : α → Prop) : Prop :=
  ∀ (H : Type) (enc : TypeId × Value → H) (w : World) (base : Nat) (spare : Nat → Bool) (held : Bool) (n : Nat) (cs : List Value) (y : DataW H × List MemPlace), DataW.trod enc P w base spare held n t cs = some y → ∃ x, r.rep w cs x ∧ R x
section
variable {P : Program} {t e : TypeId}
theorem opens_int {k : IntKind} (h : P.underlying t = some (.int k)) : Opens P t (RT.int k) (fun x => (Lit.int k x).wf = true) := fun H enc w base spare held n cs y hy => by
  obtain ⟨x, h1, _, h2⟩ := DataW.trod_int h hy
  exact ⟨x, h1, h2⟩
theorem i64_wf {x : Int} (h : (Lit.int .i64 x).wf = true) : -9223372036854775808 ≤ x ∧ x ≤ 9223372036854775807 := by
  have h1 : IntKind.i64.min = -9223372036854775808 := by decide
  have h2 : IntKind.i64.max = 9223372036854775807 := by decide
  simp only [Lit.wf, Bool.and_eq_true, decide_eq_true_eq, h1, h2] at h
  exact h
theorem cut_at {β : Type} (cs : List β) (o s : Nat) : cs.drop o = (cs.drop o).take s ++ cs.drop (o + s) := by
  rw [← List.drop_drop, List.take_append_drop]
/-- How many bytes a slice among the arguments takes. -/
theorem sized_open {H : Type} {enc : TypeId × Value → H} {w : World} {base : Nat} {spare : Nat → Bool} {held : Bool} {n : Nat} {a : Option Addr} {m c : Nat} {d : DataW H} {pl : List MemPlace} {ts : List TypeId} {ds : List (DataW H)} {j : Nat} (hu : P.underlying t = some (.slice e)) (h : DataW.trod enc P w base spare held n t [.slice a m c] = some (d, pl))
    (hz : (DataW.weightsEach P ts ds).all (· ≤ reachBytes) = true) (ht : ts[j]? = some t) (hd : ds[j]? = some d) : m * P.bytesOf e ≤ 140737488351232 := by
  rcases open_slice hu h with ⟨h1, _⟩ | ⟨a', len, cap, q, n', D, Pl, h1, _, hl, hm, hmm, hx, _⟩
  · injection h1 with h1 _
    injection h1 with _ h1 _
    subst h1
    omega
  · injection h1 with h1 _
    injection h1 with _ h1 _
    subst h1
    injection hx with hx _
    subst hx
    have h2 := sized_slice hz ht hd hu
    simp only [List.length_map, List.length_range] at h2
    have h3 : reachBytes = 140737488351232 := by decide
    have h4 : m * P.bytesOf e ≤ (m + (q - m)) * P.bytesOf e := Nat.mul_le_mul_right _ (by omega)
    omega
theorem opens_list {α : Type} {r : RT α} {R : α → Prop} (ht : P.underlying t = some (.slice e)) (hc : P.cellsOf e = r.sz) (he : Opens P e r R) : Opens P t (RT.list r) (fun l => l.length ≤ 9223372036854775807 ∧ ∀ a ∈ l, R a) := fun H enc w base spare held n cs y hy => by
  have hmx : maxLen = 9223372036854775807 := by decide
  rcases open_slice ht hy with ⟨rfl, _⟩ | ⟨a, len, cap, m, n, D, Pl, rfl, _, hl, hm, hmm, _, hi⟩
  · exact ⟨[], ⟨none, 0, rfl, FZ.nil⟩, by simp, fun _ h => by simp at h⟩
  · have hle : len ≤ m := by rw [hmm]; split <;> omega
    obtain ⟨l, hll, hlq⟩ := build_list (α := List Value × α) (Q := fun i q => r.rep w q.1 q.2 ∧ R q.2 ∧ ∀ (k : Nat) (u : Value), q.1[k]? = some u → w.cell? (a.add (i * r.sz + k)) = some u) len (fun i hil => by
      obtain ⟨cs', h1, h2⟩ := hi i (by omega)
      obtain ⟨x, hr, hR⟩ := he H enc w base spare held _ _ _ h2
      refine ⟨(cs', x), hr, hR, fun k u hu => ?_⟩
      obtain ⟨_, h3, h4⟩ := World.cells?_some h1
      rw [hc] at h3 h4
      have hk : k < r.sz := by rw [← r.len hr]; exact (List.getElem?_eq_some_iff.1 hu).1
      have := h4 k hk
      rw [addr_add_add] at this
      rw [this]
      exact hu)
    have hall : All2 (r.rep w) (l.map (·.1)) (l.map (·.2)) := by
      have : ∀ q : List (List Value × α), (∀ p ∈ q, r.rep w p.1 p.2) → All2 (r.rep w) (q.map (·.1)) (q.map (·.2)) := fun q => by
        induction q with
        | nil => intro _; trivial
        | cons p s ih => intro h; exact ⟨h p (by simp), ih (fun z hz => h z (by simp [hz]))⟩
      refine this l fun p hp => ?_
      obtain ⟨i, hi⟩ := List.mem_iff_getElem?.1 hp
      exact (hlq i p hi).1
    refine ⟨l.map (·.2), ⟨some a, cap, by simp [hll], ⟨by simp [hll]; omega, l.map (·.1), ?_, hall⟩⟩, by simp [hll]; omega, fun b hb => ?_⟩
    · have key : ∀ (q : List (List Value × α)) (c : Nat → Option Value), (∀ (i : Nat) (p : List Value × α), q[i]? = some p → p.1.length = r.sz ∧ ∀ (k : Nat) (u : Value), p.1[k]? = some u → c (i * r.sz + k) = some u) → ∀ (j : Nat) (u : Value), (q.map (·.1)).flatten[j]? = some u → c j = some u := fun q => by
        induction q with
        | nil => intro c _ j u h; simp at h
        | cons p s ih =>
          intro c h j u hu
          have h0 := h 0 p rfl
          simp only [List.map_cons, List.flatten_cons] at hu
          by_cases hj : j < p.1.length
          · rw [List.getElem?_append_left hj] at hu
            have := h0.2 j u hu
            simpa using this
          · rw [List.getElem?_append_right (by omega)] at hu
            have := ih (fun k => c (r.sz + k)) (fun i p' hp' => ⟨(h (i + 1) p' (by simpa using hp')).1, fun k u hk => by
              have := (h (i + 1) p' (by simpa using hp')).2 k u hk
              show c (r.sz + (i * r.sz + k)) = some u
              rw [← this, Nat.add_mul]
              congr 1
              omega⟩) (j - p.1.length) u hu
            rw [← this]
            show c j = c (r.sz + (j - p.1.length))
            congr 1
            omega
      exact fun j u hu => key l (fun k => w.cell? (a.add k)) (fun i p hp => ⟨r.len (hlq i p hp).1, (hlq i p hp).2.2⟩) j u hu
    · obtain ⟨p, hp, rfl⟩ := List.mem_map.1 hb
      obtain ⟨i, hi⟩ := List.mem_iff_getElem?.1 hp
      exact (hlq i p hi).2.1
theorem opens_mono {α : Type} {r : RT α} {R S : α → Prop} (h : Opens P t r R) (hi : ∀ x, R x → S x) : Opens P t r S := fun H enc w base spare held n cs y hy => by
  obtain ⟨x, h1, h2⟩ := h H enc w base spare held n cs y hy
  exact ⟨x, h1, hi x h2⟩
end
end Go.Fp
