/- Plain: ways of moves; how many depots there can be. -/
import Derived.Test.YtajmocgpjkhjlaaHL3
set_option linter.unusedVariables false
set_option linter.unusedSimpArgs false
namespace Go.Proofs.Ytajmocgpjkhjlaa
open Go.RowKit Go.Fp

/-- Moves from the beginning on: the tracks behind them, and what has left. -/
inductive Pth (d : FleetDepot) (kinds want : List Int) : List FleetMove → List (List Int) → List Int → Prop where
  | nil : Pth d kinds want [] d.Tracks []
  | stay {ms : List FleetMove} {T T' : List (List Int)} {g : List Int} {f t s : Int} : Pth d kinds want ms T g → g.length < want.length → mv d.Room T f t = some (s, T') → 0 ≤ t → Pth d kinds want (ms ++ [⟨f, t⟩]) T' g
  | leave {ms : List FleetMove} {T T' : List (List Int)} {g : List Int} {f t s : Int} : Pth d kinds want ms T g → g.length < want.length → mv d.Room T f t = some (s, T') → t < 0 → av kinds s = av want (g.length : Int) → Pth d kinds want (ms ++ [⟨f, t⟩]) T' (g ++ [s])
section
variable {d : FleetDepot} {kinds want : List Int} (hd : DOk d kinds)
include hd in
theorem Pth.facts {ms : List FleetMove} {T : List (List Int)} {g : List Int} (h : Pth d kinds want ms T g) : VT d T ∧ T.flatten.length + g.length = d.Tracks.flatten.length ∧ (∀ s ∈ g, s ∈ d.Tracks.flatten) ∧ g.length ≤ want.length ∧ ∀ (i : Nat) x, g[i]? = some x → av kinds x = av want (i : Int) := by
  induction h with
  | nil => exact ⟨VT.start hd, rfl, (fun s hs => by cases hs), Nat.zero_le _, fun i x h => by cases h⟩
  | stay h1 h2 h3 h4 ih =>
    obtain ⟨i1, i2, i3, i4, i5⟩ := ih
    obtain ⟨m1, m2, m3, m4, m5, m6⟩ := mv_facts i1 h3
    have := m5 h4
    exact ⟨m1, by omega, i3, i4, i5⟩
  | @leave ms T T' g' f t s' h1 h2 h3 h4 h5 ih =>
    obtain ⟨i1, i2, i3, i4, i5⟩ := ih
    obtain ⟨m1, m2, m3, m4, m5, m6⟩ := mv_facts i1 h3
    have := m6 h4
    refine ⟨m1, by rw [List.length_append]; show _ + (_ + 1) = _; omega, fun s hs => ?_, by rw [List.length_append]; show _ + 1 ≤ _; omega, fun i x hx => ?_⟩
    · rcases List.mem_append.1 hs with hs | hs
      · exact i3 s hs
      · rw [List.mem_singleton.1 hs]
        exact i1.sub _ m2
    · rcases Nat.lt_trichotomy i g'.length with c | c | c
      · rw [List.getElem?_append_left c] at hx
        exact i5 i x hx
      · subst c
        rw [List.getElem?_append_right (Nat.le_refl _), Nat.sub_self] at hx
        injection hx with hx
        subst hx
        exact h5
      · rw [List.getElem?_eq_none (by rw [List.length_append]; show _ + 1 ≤ _; omega)] at hx
        cases hx
end
/- ---- how many there are ---- -/
theorem nodup_subG {α : Type} [DecidableEq α] : ∀ {l L : List α}, l.Nodup → (∀ x ∈ l, x ∈ L) → l.length ≤ L.length
  | [], L, _, _ => Nat.zero_le _
  | a :: l, L, h, hs => by
    have ha := hs a List.mem_cons_self
    obtain ⟨h1, h2⟩ := List.nodup_cons.1 h
    have h3 := nodup_subG (l := l) (L := L.erase a) h2 (fun x hx => by
      have : x ≠ a := fun e => h1 (e ▸ hx)
      exact (List.mem_erase_of_ne this).2 (hs x (List.mem_cons_of_mem _ hx)))
    rw [List.length_erase_of_mem ha] at h3
    have : 0 < L.length := List.length_pos_of_mem ha
    rw [List.length_cons]
    omega
def allL (A : List Int) : Nat → List (List Int)
  | 0 => [[]]
  | m + 1 => [] :: A.flatMap (fun a => (allL A m).map (fun l => a :: l))
theorem allL_mem (A : List Int) : ∀ (m : Nat) (l : List Int), l.length ≤ m → (∀ x ∈ l, x ∈ A) → l ∈ allL A m
  | 0, l, h, _ => by
    rw [List.length_eq_zero_iff.1 (by omega : l.length = 0)]
    exact List.mem_cons_self
  | m + 1, [], _, _ => List.mem_cons_self
  | m + 1, a :: l, h, hs => by
    refine List.mem_cons_of_mem _ (List.mem_flatMap.2 ⟨a, hs a List.mem_cons_self, List.mem_map.2 ⟨l, allL_mem A m l ?_ (fun x hx => hs x (List.mem_cons_of_mem _ hx)), rfl⟩⟩)
    rw [List.length_cons] at h
    omega
theorem flat_len_ : ∀ (A : List Int) (L : List (List Int)), (A.flatMap (fun a => L.map (fun l => a :: l))).length = A.length * L.length
  | [], L => by simp
  | a :: A, L => by
    rw [List.flatMap_cons, List.length_append, List.length_map, flat_len_ A L, List.length_cons, Nat.add_mul]
    omega
theorem allL_step {A : List Int} (hA : A.length ≤ 7) {m c : Nat} (h : (allL A m).length ≤ c) : (allL A (m + 1)).length ≤ 1 + 7 * c := by
  show (A.flatMap (fun a => (allL A m).map (fun l => a :: l))).length + 1 ≤ _
  rw [flat_len_]
  have := Nat.mul_le_mul hA h
  omega
theorem allL_ten {A : List Int} (hA : A.length ≤ 7) : (allL A 10).length ≤ 400000000 := by
  have h0 : (allL A 0).length ≤ 1 := Nat.le_refl _
  have h1 := allL_step hA h0
  have h2 := allL_step hA h1
  have h3 := allL_step hA h2
  have h4 := allL_step hA h3
  have h5 := allL_step hA h4
  have h6 := allL_step hA h5
  have h7 := allL_step hA h6
  have h8 := allL_step hA h7
  have h9 := allL_step hA h8
  have h10 := allL_step hA h9
  exact Nat.le_trans (show (allL A 10).length ≤ _ from h10) (by omega)
def enc : List (List Int) → List Int
  | [] => []
  | r :: T => r ++ (-1) :: enc T
theorem split_eq : ∀ {r r' x y : List Int}, -1 ∉ r → -1 ∉ r' → r ++ (-1) :: x = r' ++ (-1) :: y → r = r' ∧ x = y
  | [], [], x, y, _, _, h => by
    injection h with _ h
    exact ⟨rfl, h⟩
  | [], b :: r', x, y, _, h2, h => by
    injection h with h _
    exact absurd (h ▸ List.mem_cons_self) h2
  | a :: r, [], x, y, h1, _, h => by
    injection h with h _
    exact absurd (h ▸ List.mem_cons_self) h1
  | a :: r, b :: r', x, y, h1, h2, h => by
    injection h with e h
    obtain ⟨g1, g2⟩ := split_eq (fun hm => h1 (List.mem_cons_of_mem _ hm)) (fun hm => h2 (List.mem_cons_of_mem _ hm)) h
    exact ⟨by rw [e, g1], g2⟩
theorem enc_inj : ∀ {T T' : List (List Int)}, (∀ r ∈ T, -1 ∉ r) → (∀ r ∈ T', -1 ∉ r) → enc T = enc T' → T = T'
  | [], [], _, _, _ => rfl
  | [], r :: T', _, _, h => by
    have : (r ++ (-1) :: enc T').length = 0 := by rw [← show enc (r :: T') = r ++ (-1) :: enc T' from rfl, ← h]; rfl
    rw [List.length_append, List.length_cons] at this
    omega
  | r :: T, [], _, _, h => by
    have : (r ++ (-1) :: enc T).length = 0 := by rw [← show enc (r :: T) = r ++ (-1) :: enc T from rfl, h]; rfl
    rw [List.length_append, List.length_cons] at this
    omega
  | r :: T, r' :: T', h1, h2, h => by
    obtain ⟨g1, g2⟩ := split_eq (h1 r List.mem_cons_self) (h2 r' List.mem_cons_self) h
    rw [g1, enc_inj (fun r hr => h1 r (List.mem_cons_of_mem _ hr)) (fun r hr => h2 r (List.mem_cons_of_mem _ hr)) g2]
theorem enc_len : ∀ (T : List (List Int)), (enc T).length = T.flatten.length + T.length
  | [] => rfl
  | r :: T => by
    show (r ++ (-1) :: enc T).length = (r ++ T.flatten).length + (T.length + 1)
    rw [List.length_append, List.length_append, List.length_cons, enc_len T]
    omega
theorem enc_mem : ∀ (T : List (List Int)), ∀ x ∈ enc T, x = -1 ∨ x ∈ T.flatten
  | [], x, hx => by cases hx
  | r :: T, x, hx => by
    have hx : x ∈ r ++ (-1) :: enc T := hx
    rcases List.mem_append.1 hx with h | h
    · exact .inr (List.mem_append_left _ h)
    · rcases List.mem_cons.1 h with h | h
      · exact .inl h
      · exact (enc_mem T x h).elim .inl (fun h => .inr (List.mem_append_right _ h))
theorem map_nodup {α β : Type} {f : α → β} : ∀ {L : List α}, (∀ a ∈ L, ∀ b ∈ L, f a = f b → a = b) → L.Nodup → (L.map f).Nodup
  | [], _, _ => List.nodup_nil
  | a :: L, h, hn => by
    obtain ⟨h1, h2⟩ := List.nodup_cons.1 hn
    refine List.nodup_cons.2 ⟨fun hm => ?_, map_nodup (fun a ha b hb => h a (List.mem_cons_of_mem _ ha) b (List.mem_cons_of_mem _ hb)) h2⟩
    obtain ⟨b, hb, e⟩ := List.mem_map.1 hm
    exact h1 (h b (List.mem_cons_of_mem _ hb) a List.mem_cons_self e ▸ hb)
theorem nodes_le {d : FleetDepot} {kinds : List Int} (hd : DOk d kinds) {L : List (List (List Int))} (hn : L.Nodup) (hv : ∀ T ∈ L, VT d T) : L.length ≤ 400000000 := by
  have hneg : ∀ T ∈ L, ∀ r ∈ T, (-1 : Int) ∉ r := fun T hT r hr hm => by
    have := (hd.el _ ((hv T hT).sub _ (List.mem_flatten.2 ⟨r, hr, hm⟩))).1
    omega
  have h1 : (L.map enc).Nodup := map_nodup (fun a ha b hb h => enc_inj (hneg a ha) (hneg b hb) h) hn
  have hA : ((-1) :: d.Tracks.flatten).length ≤ 7 := by
    have := hd.n6
    rw [List.length_cons]
    omega
  have h2 := nodup_subG (L := allL ((-1) :: d.Tracks.flatten) 10) h1 (fun l hl => by
    obtain ⟨T, hT, rfl⟩ := List.mem_map.1 hl
    have hvT := hv T hT
    refine allL_mem _ _ _ ?_ (fun x hx => ?_)
    · rw [enc_len]
      have := hvT.n6 hd
      have := hvT.len
      have := hd.n4
      omega
    · rcases enc_mem T x hx with h | h
      · rw [h]; exact List.mem_cons_self
      · exact List.mem_cons_of_mem _ (hvT.sub x h))
  rw [List.length_map] at h2
  have := allL_ten hA
  omega
end Go.Proofs.Ytajmocgpjkhjlaa
