/- Plain: the search by breadth. -/
import Derived.Test.YtajmocgpjkhjlaaHL4
set_option linter.unusedVariables false
set_option linter.unusedSimpArgs false
namespace Go.Proofs.Ytajmocgpjkhjlaa
open Go.RowKit Go.Fp

def TOk (d : FleetDepot) (kinds want : List Int) (y : FleetTry) : Prop := ∃ g, Pth d kinds want y.moves y.depot.Tracks g ∧ y.left = (g.length : Int) ∧ y.depot.Room = d.Room
/-- What is known, of the ones done with (E) and of those that wait (Q). -/
structure Known (d : FleetDepot) (kinds want : List Int) (E Q : List FleetTry) (seen : List (List (List Int) × Bool)) : Prop where
  ok : ∀ y ∈ E ++ Q, TOk d kinds want y
  nd : ((E ++ Q).map (fun y => y.depot.Tracks)).Nodup
  sn : ∀ T K, VT d T → KeyOf T K → (mgetD seen K false = true ↔ ∃ y ∈ E ++ Q, y.depot.Tracks = T)
  sl : seen.length = E.length + Q.length
  so : Q.Pairwise (fun a b => a.moves.length ≤ b.moves.length)
  le : ∀ y ∈ E ++ Q, y.moves.length ≤ E.length
  lt : ∀ y ∈ E, y.left < (want.length : Int)
  st : ∃ y ∈ E ++ Q, y.depot.Tracks = d.Tracks ∧ y.moves.length = 0
  tt : ∀ K, mget seen K ≠ some false
def Nexts (d : FleetDepot) (kinds want : List Int) (all : List FleetTry) (e : FleetTry) (P : Int → Int → Prop) : Prop :=
  ∀ f t s T', P f t → mv d.Room e.depot.Tracks f t = some (s, T') → (0 ≤ t ∨ av kinds s = av want e.left) → ∃ y ∈ all, y.depot.Tracks = T' ∧ y.moves.length ≤ e.moves.length + 1
structure BI (d : FleetDepot) (kinds want : List Int) (E Q : List FleetTry) (seen : List (List (List Int) × Bool)) : Prop extends Known d kinds want E Q seen where
  tw : ∀ a ∈ Q, ∀ b ∈ Q, b.moves.length ≤ a.moves.length + 1
  lo : ∀ e ∈ E, ∀ q ∈ Q, e.moves.length ≤ q.moves.length
  cl : ∀ e ∈ E, Nexts d kinds want (E ++ Q) e (fun _ _ => True)
structure BX (d : FleetDepot) (kinds want : List Int) (x : FleetTry) (E Q : List FleetTry) (seen : List (List (List Int) × Bool)) (k : Nat) (t : Int) : Prop extends Known d kinds want (x :: E) Q seen where
  tw : ∀ q ∈ Q, x.moves.length ≤ q.moves.length ∧ q.moves.length ≤ x.moves.length + 1
  lo : ∀ e ∈ E, e.moves.length ≤ x.moves.length
  cl : ∀ e ∈ E, Nexts d kinds want (x :: E ++ Q) e (fun _ _ => True)
  lx : x.moves.length ≤ E.length
  cx : Nexts d kinds want (x :: E ++ Q) x (fun f t' => f < (k : Int) ∨ (f = (k : Int) ∧ t' < t))
theorem mput_len {κ ν : Type} [DecidableEq κ] {m : List (κ × ν)} {k : κ} {v : ν} (h : mget m k = none) : (mput m k v).length = m.length + 1 := by
  induction m with
  | nil => rfl
  | cons p r ih =>
    obtain ⟨a, b⟩ := p
    unfold mget at h
    split at h
    · cases h
    · rename_i hne
      unfold mput
      rw [if_neg hne, List.length_cons, List.length_cons, ih h]
theorem mgetD_putK {κ : Type} [DecidableEq κ] (m : List (κ × Bool)) (x y : κ) : mgetD (mput m x true) y false = true ↔ y = x ∨ mgetD m y false = true := by
  unfold mgetD
  by_cases e : y = x
  · subst e
    rw [mget_mput_same]
    exact ⟨fun _ => .inl rfl, fun _ => rfl⟩
  · rw [mget_mput_other _ _ e]
    exact ⟨fun h => .inr h, fun h => h.elim (fun h => absurd h e) id⟩
section
variable {d : FleetDepot} {kinds want : List Int} (hd : DOk d kinds)
include hd in
theorem TOk.vt {y : FleetTry} (h : TOk d kinds want y) : VT d y.depot.Tracks := by
  obtain ⟨g, h1, _⟩ := h
  exact (h1.facts hd).1
theorem Nexts.mono {all all' : List FleetTry} {e : FleetTry} {P P' : Int → Int → Prop} (h : Nexts d kinds want all e P) (hs : ∀ y ∈ all, y ∈ all') (hp : ∀ f t, P' f t → P f t) : Nexts d kinds want all' e P' := fun f t s T' h1 h2 h3 => by
  obtain ⟨y, hy, e⟩ := h f t s T' (hp f t h1) h2 h3
  exact ⟨y, hs y hy, e⟩
include hd in
theorem Known.size {E Q : List FleetTry} {seen : List (List (List Int) × Bool)} (h : Known d kinds want E Q seen) : E.length + Q.length ≤ 400000000 := by
  have := nodes_le hd h.nd (fun T hT => by
    obtain ⟨y, hy, rfl⟩ := List.mem_map.1 hT
    exact (h.ok y hy).vt hd)
  rw [List.length_map, List.length_append] at this
  exact this
/-- A step of the search has found a new one. -/
theorem BX.push (hd : DOk d kinds) {x : FleetTry} {E Q : List FleetTry} {seen : List (List (List Int) × Bool)} {k : Nat} {t : Int} (h : BX d kinds want x E Q seen k t) {y : FleetTry} {K : List (List Int)} (hy : TOk d kinds want y) (hK : KeyOf y.depot.Tracks K) (hlen : y.moves.length = x.moves.length + 1) (hno : mgetD seen K false = false) :
    BX d kinds want x E (Q ++ [y]) (mput seen K true) k t ∧ y ∈ x :: E ++ (Q ++ [y]) := by
  have hvy := hy.vt hd
  have hnew : ¬ ∃ z ∈ x :: E ++ Q, z.depot.Tracks = y.depot.Tracks := fun hz => by
    rw [(h.sn _ K hvy hK).2 hz] at hno
    cases hno
  have hmem : ∀ z, z ∈ x :: E ++ (Q ++ [y]) ↔ z ∈ x :: E ++ Q ∨ z = y := fun z => by
    rw [← List.append_assoc, List.mem_append, List.mem_singleton]
  refine ⟨⟨⟨fun z hz => ?_, ?_, fun T K' hT hK' => ?_, ?_, ?_, fun z hz => ?_, h.lt, ?_, fun K' hK' => ?_⟩, fun q hq => ?_, h.lo, fun e he => (h.cl e he).mono (fun z hz => (hmem z).2 (.inl hz)) (fun _ _ h => h), h.lx, h.cx.mono (fun z hz => (hmem z).2 (.inl hz)) (fun _ _ h => h)⟩, (hmem y).2 (.inr rfl)⟩
  · rcases (hmem z).1 hz with hz | hz
    · exact h.ok z hz
    · rw [hz]; exact hy
  · rw [← List.append_assoc, List.map_append]
    refine List.nodup_append.2 ⟨h.nd, by simp, fun a ha b hb => ?_⟩
    have hb : b = y.depot.Tracks := by simpa using hb
    subst hb
    intro e
    obtain ⟨z, hz, hz2⟩ := List.mem_map.1 ha
    exact hnew ⟨z, hz, hz2.trans e⟩
  · rw [mgetD_putK]
    refine ⟨fun hh => ?_, fun ⟨z, hz, hz2⟩ => ?_⟩
    · rcases hh with hh | hh
      · subst hh
        exact ⟨y, (hmem y).2 (.inr rfl), key_inj hd hvy hT hK hK'⟩
      · obtain ⟨z, hz, hz2⟩ := (h.sn T K' hT hK').1 hh
        exact ⟨z, (hmem z).2 (.inl hz), hz2⟩
    · rcases (hmem z).1 hz with hz | hz
      · exact .inr ((h.sn T K' hT hK').2 ⟨z, hz, hz2⟩)
      · subst hz
        subst hz2
        refine .inl ?_
        have h1 := state_spec hd hvy
        obtain ⟨K0, k1, k2⟩ := h1
        have e1 : ∀ K1 K2, KeyOf z.depot.Tracks K1 → KeyOf z.depot.Tracks K2 → K1 = K2 := fun K1 K2 a b => by
          refine List.ext_getElem? (fun i => ?_)
          by_cases hi : i < 4
          · rw [rn_get (l := K1) (by rw [a.len]; exact hi), rn_get (l := K2) (by rw [b.len]; exact hi)]
            congr 1
            refine List.ext_getElem? (fun j => ?_)
            by_cases hj : j < 4
            · rw [cell_get (l := K1) (by rw [a.row i hi]; exact hj), cell_get (l := K2) (by rw [b.row i hi]; exact hj), a.cl i j hi hj, b.cl i j hi hj]
            · rw [List.getElem?_eq_none (by rw [a.row i hi]; omega), List.getElem?_eq_none (by rw [b.row i hi]; omega)]
          · rw [List.getElem?_eq_none (by rw [a.len]; omega), List.getElem?_eq_none (by rw [b.len]; omega)]
        exact e1 _ _ hK' hK
  · have hnone : mget seen K = none := by
      cases hq : mget seen K with
      | none => rfl
      | some b =>
        exfalso
        have hb : b = false := by
          unfold mgetD at hno
          rw [hq] at hno
          exact hno
        rw [hb] at hq
        exact h.tt K hq
    rw [mput_len hnone, h.sl, List.length_append]
    rfl
  · refine List.pairwise_append.2 ⟨h.so, by simp, fun a ha b hb => ?_⟩
    rw [List.mem_singleton.1 hb]
    have := (h.tw a ha).2
    omega
  · rcases (hmem z).1 hz with hz | hz
    · exact h.le z hz
    · have := h.lx
      rw [hz, hlen, List.length_cons]
      omega
  · obtain ⟨z, hz, hz2⟩ := h.st
    exact ⟨z, (hmem z).2 (.inl hz), hz2⟩
  · by_cases e : K' = K
    · subst e
      rw [mget_mput_same] at hK'
      cases hK'
    · rw [mget_mput_other _ _ e] at hK'
      exact h.tt K' hK'
  · rcases List.mem_append.1 hq with hq | hq
    · exact h.tw q hq
    · rw [List.mem_singleton.1 hq]
      omega
theorem BX.adv {x : FleetTry} {E Q : List FleetTry} {seen : List (List (List Int) × Bool)} {k : Nat} {t : Int} (h : BX d kinds want x E Q seen k t) (hp : ∀ s T', mv d.Room x.depot.Tracks (k : Int) t = some (s, T') → (0 ≤ t ∨ av kinds s = av want x.left) → ∃ y ∈ x :: E ++ Q, y.depot.Tracks = T' ∧ y.moves.length ≤ x.moves.length + 1) : BX d kinds want x E Q seen k (t + 1) :=
  ⟨h.toKnown, h.tw, h.lo, h.cl, h.lx, fun f t' s T' h1 h2 h3 => by
    by_cases e : f = (k : Int) ∧ t' = t
    · obtain ⟨rfl, rfl⟩ := e
      exact hp s T' h2 h3
    · exact h.cx f t' s T' (h1.elim .inl (fun h4 => .inr ⟨h4.1, by
        have : t' ≠ t := fun e2 => e ⟨h4.1, e2⟩
        omega⟩)) h2 h3⟩
theorem BX.row {x : FleetTry} {E Q : List FleetTry} {seen : List (List (List Int) × Bool)} {k : Nat} {t : Int} (hx : TOk d kinds want x) (hd : DOk d kinds) (h : BX d kinds want x E Q seen k t) (ht : (d.Tracks.length : Int) ≤ t) (h1 : 1 ≤ d.Tracks.length) : BX d kinds want x E Q seen (k + 1) (-1) :=
  ⟨h.toKnown, h.tw, h.lo, h.cl, h.lx, fun f t' s T' hf h2 h3 => by
    have hm := mv_facts (hx.vt hd) h2
    refine h.cx f t' s T' ?_ h2 h3
    have ht' : t' < t := by
      rcases hm.2.2.2.1 with h4 | h4 <;> omega
    rcases hf with hf | hf
    · by_cases e : f = (k : Int)
      · exact .inr ⟨e, ht'⟩
      · exact .inl (by omega)
    · have := hm.2.2.2.1
      omega⟩
theorem pass4 {β γ δ ε τ : Type} {A : β → γ → δ → ε → Option τ} {x : β} {y : γ} {z : δ} {w : ε} : (some (x, y, z, w)).bind (unc4 A) = A x y z w := rfl
theorem pass2 {β γ τ : Type} {A : β → γ → Option τ} {y : β} {z : γ} : (some (y, z)).bind (unc2 A) = A y z := rfl
include hd in
theorem one_step {x : FleetTry} {E Q : List FleetTry} {seen : List (List (List Int) × Bool)} {k : Nat} {t : Int} (hx : TOk d kinds want x) (hlt : x.left < (want.length : Int)) (ht0 : -1 ≤ t) (ht1 : t < (d.Tracks.length : Int)) (h : BX d kinds want x E Q seen k t) :
    ∃ seen' Q', mFleetShunt_L50565 d kinds want k d.Room x.depot.Tracks x.moves x.left (t, seen, Q) = some (.inl (t + 1, seen', Q')) ∧ BX d kinds want x E Q' seen' k (t + 1) := by
  have hvx := hx.vt hd
  have n4 := hd.n4
  have hsz := h.size hd
  have hlx := h.lx
  rw [List.length_cons] at hsz
  obtain ⟨g, p1, p2, p3⟩ := hx
  have hg : g.length < want.length := by omega
  have hg6 : g.length ≤ 6 := by
    have := (p1.facts hd).2.1
    have := hd.n6
    omega
  unfold mFleetShunt_L50565
  simp only [unc3]
  rw [if_pos ht1]
  rcases do_spec hd hvx (k : Int) t with ⟨s, T', m1, m2⟩ | ⟨m1, e, m2, m3⟩
  · obtain ⟨f1, f2, f3, f4, f5, f6⟩ := mv_facts hvx m1
    have hs := hd.el s (hvx.sub s f2)
    obtain ⟨K, k1, k2⟩ := state_spec hd f1
    have same : ¬ (0 ≤ t ∨ av kinds s = av want x.left) → BX d kinds want x E Q seen k (t + 1) := fun hno => h.adv (fun s' T'' q1 q2 => by
      rw [m1] at q1
      injection q1 with q1
      injection q1 with q1 _
      subst q1
      exact absurd q2 hno)
    have cond : ∃ c, (if t < 0 then (idx kinds s).bind fun x51849 => (idx want x.left).bind fun x51859 => some (decide (x51849 ≠ x51859)) else some false) = some c ∧ (c = true ↔ ¬ (0 ≤ t ∨ av kinds s = av want x.left)) := by
      by_cases t0 : t < 0
      · rw [if_pos t0, idx_av hs.1 hs.2.2, Option.bind_some, idx_av (by omega) hlt, Option.bind_some]
        refine ⟨_, rfl, ⟨fun h1 h2 => h2.elim (fun h3 => by omega) (fun h3 => (of_decide_eq_true h1 : av kinds s ≠ av want x.left) h3), fun h1 => decide_eq_true (show av kinds s ≠ av want x.left from fun h2 => h1 (.inr h2))⟩⟩
      · rw [if_neg t0]
        exact ⟨_, rfl, ⟨(fun h => by cases h), fun h => absurd (.inl (by omega)) h⟩⟩
    obtain ⟨c, c1, c2⟩ := cond
    obtain ⟨z0, hz0⟩ : ∃ z : Int, z = 0 := ⟨_, rfl⟩
    rw [← hz0] at m2
    rw [m2, pass4, if_neg (Classical.not_not.2 hz0), c1, Option.bind_some]
    cases c with
    | true =>
      rw [if_pos rfl, pass2, chk_ok (by omega) (by omega), Option.bind_some]
      exact ⟨_, _, rfl, same (c2.1 rfl)⟩
    | false =>
      have hgo : 0 ≤ t ∨ av kinds s = av want x.left := Classical.byContradiction (fun h => by cases c2.2 h)
      rw [if_neg (by decide)]
      unfold mSlicesClone_2
      rw [room_ok (by omega) (by omega), Option.bind_some, Option.bind_some, room_ok (by omega) (by omega), Option.bind_some, Option.bind_some]
      have left : ∃ z : Int, (if t < 0 then (chk (x.left + 1)).bind fun _ => some (x.left + 1) else some x.left) = some z ∧ TOk d kinds want ⟨⟨d.Room, T'⟩, z, x.moves ++ [⟨(k : Int), t⟩]⟩ := by
        by_cases t0 : t < 0
        · rw [if_pos t0, chk_ok (by omega) (by omega), Option.bind_some]
          refine ⟨_, rfl, g ++ [s], .leave p1 hg m1 t0 ?_, ?_, rfl⟩
          · rw [← p2]
            exact hgo.elim (fun h => by omega) id
          · show x.left + 1 = _
            rw [List.length_append, p2]
            rfl
        · rw [if_neg t0]
          exact ⟨_, rfl, g, .stay p1 hg m1 (by omega), p2, rfl⟩
      obtain ⟨z, z1, z2⟩ := left
      rw [z1, Option.bind_some, k1, Option.bind_some, Option.bind_some]
      cases hq : mgetD seen K false with
      | true =>
        rw [if_pos rfl, pass2, chk_ok (by omega) (by omega), Option.bind_some]
        refine ⟨_, _, rfl, h.adv (fun s' T'' q1 _ => ?_)⟩
        rw [m1] at q1
        injection q1 with q1
        injection q1 with _ q1
        subst q1
        obtain ⟨y, y1, y2⟩ := (h.sn _ K f1 k2).1 hq
        refine ⟨y, y1, y2, ?_⟩
        rcases List.mem_append.1 y1 with y1 | y1
        · rcases List.mem_cons.1 y1 with y1 | y1
          · rw [y1]; omega
          · have := h.lo y y1
            omega
        · exact (h.tw y y1).2
      | false =>
        have hpush := h.push hd z2 k2 (by simp) hq
        rw [if_neg (by decide)]
        unfold mFleetQueuePut_2
        rw [room_ok (by omega) (by omega), Option.bind_some, Option.bind_some, pass2, chk_ok (by omega) (by omega), Option.bind_some]
        refine ⟨_, _, rfl, hpush.1.adv (fun s' T'' q1 _ => ?_)⟩
        rw [m1] at q1
        injection q1 with q1
        injection q1 with _ q1
        subst q1
        exact ⟨_, hpush.2, rfl, by simp⟩
  · rw [m3, pass4, if_pos m2, Option.bind_some, if_pos rfl, pass2, chk_ok (by omega) (by omega), Option.bind_some]
    refine ⟨_, _, rfl, h.adv (fun s' T'' q1 _ => ?_)⟩
    rw [m1] at q1
    cases q1
end
end Go.Proofs.Ytajmocgpjkhjlaa
