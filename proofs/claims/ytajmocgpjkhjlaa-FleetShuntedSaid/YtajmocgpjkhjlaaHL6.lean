/- Plain: the search as a whole. -/
import Derived.Test.YtajmocgpjkhjlaaHL5
set_option linter.unusedVariables false
set_option linter.unusedSimpArgs false
namespace Go.Proofs.Ytajmocgpjkhjlaa
open Go.RowKit Go.Fp

theorem pass6 {a b c e f g τ : Type} {A : a → b → c → e → f → g → Option τ} {x1 : a} {x2 : b} {x3 : c} {x4 : e} {x5 : f} {x6 : g} : (some (x1, x2, x3, x4, x5, x6)).bind (unc6 A) = A x1 x2 x3 x4 x5 x6 := rfl
theorem key_uniq {T K1 K2 : List (List Int)} (a : KeyOf T K1) (b : KeyOf T K2) : K1 = K2 := by
  refine List.ext_getElem? (fun i => ?_)
  by_cases hi : i < 4
  · rw [rn_get (l := K1) (by rw [a.len]; exact hi), rn_get (l := K2) (by rw [b.len]; exact hi)]
    congr 1
    refine List.ext_getElem? (fun j => ?_)
    by_cases hj : j < 4
    · rw [cell_get (l := K1) (by rw [a.row i hi]; exact hj), cell_get (l := K2) (by rw [b.row i hi]; exact hj), a.cl i j hi hj, b.cl i j hi hj]
    · rw [List.getElem?_eq_none (by rw [a.row i hi]; omega), List.getElem?_eq_none (by rw [b.row i hi]; omega)]
  · rw [List.getElem?_eq_none (by rw [a.len]; omega), List.getElem?_eq_none (by rw [b.len]; omega)]
section
variable {d : FleetDepot} {kinds want : List Int} (hd : DOk d kinds)
include hd in
theorem inner_all {x : FleetTry} {E Q : List FleetTry} {seen : List (List (List Int) × Bool)} {k : Nat} (hk : k < d.Tracks.length) (hx : TOk d kinds want x) (hlt : x.left < (want.length : Int)) (h : BX d kinds want x E Q seen k (-1)) :
    ∃ seen' Q', loopM (mFleetShunt_L50565 d kinds want k d.Room x.depot.Tracks x.moves x.left) (-1, seen, Q) = some (seen', Q') ∧ BX d kinds want x E Q' seen' (k + 1) (-1) := by
  obtain ⟨⟨seen', Q'⟩, h1, h2⟩ := loopM_inv (step := mFleetShunt_L50565 d kinds want k d.Room x.depot.Tracks x.moves x.left) (fun s => -1 ≤ s.1 ∧ BX d kinds want x E s.2.2 s.2.1 k s.1) (fun s => BX d kinds want x E s.2 s.1 (k + 1) (-1)) (fun s => ((d.Tracks.length : Int) - s.1).toNat) (fun s hs => by
    obtain ⟨t, sn, q⟩ := s
    obtain ⟨s1, s2⟩ := hs
    replace s1 : -1 ≤ t := s1
    replace s2 : BX d kinds want x E q sn k t := s2
    by_cases ht : t < (d.Tracks.length : Int)
    · obtain ⟨sn', q', e1, e2⟩ := one_step hd hx hlt s1 ht s2
      exact .inl ⟨_, e1, ⟨by show -1 ≤ t + 1; omega, e2⟩, by show ((d.Tracks.length : Int) - (t + 1)).toNat < ((d.Tracks.length : Int) - t).toNat; omega⟩
    · right
      unfold mFleetShunt_L50565
      simp only [unc3]
      rw [if_neg ht]
      exact ⟨_, rfl, s2.row hx hd (by omega) hd.n1⟩) (-1, seen, Q) ⟨Int.le_refl _, h⟩
  exact ⟨seen', Q', h1, h2⟩
include hd in
theorem all_moves {x : FleetTry} {E Q : List FleetTry} {seen : List (List (List Int) × Bool)} (hx : TOk d kinds want x) (hlt : x.left < (want.length : Int)) (h : BX d kinds want x E Q seen 0 (-1)) :
    ∃ seen' Q', forS (mFleetShunt_L43399 d kinds want d.Room x.depot.Tracks x.moves x.left) d.Tracks.length 0 (seen, Q) = some (seen', Q') ∧ BX d kinds want x E Q' seen' d.Tracks.length (-1) := by
  obtain ⟨⟨seen', Q'⟩, h1, h2⟩ := forS_inv (body := mFleetShunt_L43399 d kinds want d.Room x.depot.Tracks x.moves x.left) (fun k s => BX d kinds want x E s.2 s.1 k (-1)) d.Tracks.length 0 (seen, Q) h (fun k s _ hk hs => by
    obtain ⟨sn, q⟩ := s
    obtain ⟨sn', q', e1, e2⟩ := inner_all hd (show k < d.Tracks.length by omega) hx hlt hs
    unfold mFleetShunt_L43399
    simp only [unc2]
    rw [e1]
    exact ⟨_, rfl, e2⟩)
  rw [Nat.zero_add] at h2
  exact ⟨seen', Q', h1, h2⟩
include hd in
theorem BI.open_ {x : FleetTry} {E Q : List FleetTry} {seen : List (List (List Int) × Bool)} (h : BI d kinds want E (x :: Q) seen) (hlt : x.left < (want.length : Int)) : BX d kinds want x E Q seen 0 (-1) := by
  have hmem : ∀ z, z ∈ x :: E ++ Q ↔ z ∈ E ++ x :: Q := fun z => (List.perm_middle (a := x) (l₁ := E) (l₂ := Q)).symm.mem_iff
  have hxm : x ∈ E ++ x :: Q := List.mem_append_right _ List.mem_cons_self
  refine ⟨⟨fun y hy => h.ok y ((hmem y).1 hy), ?_, fun T K hT hK => ?_, ?_, (List.pairwise_cons.1 h.so).2, fun y hy => ?_, fun y hy => ?_, ?_, h.tt⟩, fun q hq => ⟨(List.pairwise_cons.1 h.so).1 q hq, h.tw x List.mem_cons_self q (List.mem_cons_of_mem _ hq)⟩, fun e he => h.lo e he x List.mem_cons_self, fun e he => (h.cl e he).mono (fun y hy => (hmem y).2 hy) (fun _ _ h => h), h.le x hxm, fun f t s T' h1 h2 _ => ?_⟩
  · exact ((List.perm_middle (a := x) (l₁ := E) (l₂ := Q)).map (fun y => y.depot.Tracks)).nodup_iff.1 h.nd
  · rw [h.sn T K hT hK]
    exact ⟨fun ⟨y, hy, e⟩ => ⟨y, (hmem y).2 hy, e⟩, fun ⟨y, hy, e⟩ => ⟨y, (hmem y).1 hy, e⟩⟩
  · have := h.sl
    rw [List.length_cons] at this ⊢
    omega
  · have := h.le y ((hmem y).1 hy)
    rw [List.length_cons]
    omega
  · rcases List.mem_cons.1 hy with hy | hy
    · rw [hy]; exact hlt
    · exact h.lt y hy
  · obtain ⟨y, hy, e⟩ := h.st
    exact ⟨y, (hmem y).2 hy, e⟩
  · have hm := mv_facts ((h.ok x hxm).vt hd) h2
    have := hm.2.2.1
    have := hm.2.2.2.1
    omega
include hd in
theorem BX.close {x : FleetTry} {E Q : List FleetTry} {seen : List (List (List Int) × Bool)} (hx : TOk d kinds want x) (h : BX d kinds want x E Q seen d.Tracks.length (-1)) : BI d kinds want (x :: E) Q seen := by
  refine ⟨h.toKnown, fun a ha b hb => ?_, fun e he q hq => ?_, fun e he => ?_⟩
  · have := (h.tw a ha).1
    have := (h.tw b hb).2
    omega
  · have := (h.tw q hq).1
    rcases List.mem_cons.1 he with he | he
    · rw [he]; exact this
    · have := h.lo e he
      omega
  · rcases List.mem_cons.1 he with he | he
    · subst he
      intro f t s T' _ h2 h3
      have hm := mv_facts (hx.vt hd) h2
      exact h.cx f t s T' (.inl (by have := hm.2.2.1; omega)) h2 h3
    · exact h.cl e he
/-- What the search answers. -/
def Found (d : FleetDepot) (kinds want : List Int) (l : List FleetMove) (e : Int) : Prop :=
  (e = 9 ∧ l = [] ∧ ∀ ms T g, Pth d kinds want ms T g → g.length = want.length → False) ∨ (e = 0 ∧ ∃ T g, Pth d kinds want l T g ∧ g.length = want.length ∧ ∀ ms T' g', Pth d kinds want ms T' g' → g'.length = want.length → l.length ≤ ms.length)
include hd in
theorem reached {E Q : List FleetTry} {seen : List (List (List Int) × Bool)} (h : BI d kinds want E Q seen) {ms : List FleetMove} {T : List (List Int)} {g : List Int} (hp : Pth d kinds want ms T g) : (∃ y ∈ E, y.depot.Tracks = T ∧ y.moves.length ≤ ms.length) ∨ ∃ q ∈ Q, q.moves.length ≤ ms.length := by
  have split : ∀ {T : List (List Int)} {n : Nat}, (∃ y ∈ E ++ Q, y.depot.Tracks = T ∧ y.moves.length ≤ n) → (∃ y ∈ E, y.depot.Tracks = T ∧ y.moves.length ≤ n) ∨ ∃ q ∈ Q, q.moves.length ≤ n := fun ⟨y, hy, h1, h2⟩ => (List.mem_append.1 hy).elim (fun hy => .inl ⟨y, hy, h1, h2⟩) (fun hy => .inr ⟨y, hy, h2⟩)
  have lefts : ∀ {T : List (List Int)} {g : List Int} {ms : List FleetMove} (y : FleetTry), y ∈ E → y.depot.Tracks = T → Pth d kinds want ms T g → y.left = (g.length : Int) := fun y hy he hp => by
    obtain ⟨g', p1, p2, p3⟩ := h.ok y (List.mem_append_left _ hy)
    have f1 := (p1.facts hd).2.1
    have f2 := (hp.facts hd).2.1
    rw [he] at f1
    omega
  induction hp with
  | nil =>
    obtain ⟨y, y1, y2, y3⟩ := h.st
    exact split ⟨y, y1, y2, by omega⟩
  | @stay ms T T' g f t s h1 h2 h3 h4 ih =>
    rw [List.length_append]
    rcases ih with ⟨y, y1, y2, y3⟩ | ⟨q, q1, q2⟩
    · obtain ⟨z, z1, z2, z3⟩ := h.cl y y1 f t s T' trivial (by rw [y2]; exact h3) (.inl h4)
      exact split ⟨z, z1, z2, by show _ ≤ ms.length + 1; omega⟩
    · exact .inr ⟨q, q1, by omega⟩
  | @leave ms T T' g f t s h1 h2 h3 h4 h5 ih =>
    rw [List.length_append]
    rcases ih with ⟨y, y1, y2, y3⟩ | ⟨q, q1, q2⟩
    · obtain ⟨z, z1, z2, z3⟩ := h.cl y y1 f t s T' trivial (by rw [y2]; exact h3) (.inr (by rw [lefts y y1 y2 h1]; exact h5))
      exact split ⟨z, z1, z2, by show _ ≤ ms.length + 1; omega⟩
    · exact .inr ⟨q, q1, by omega⟩
include hd in
theorem goal_waits {E Q : List FleetTry} {seen : List (List (List Int) × Bool)} (h : BI d kinds want E Q seen) {ms : List FleetMove} {T : List (List Int)} {g : List Int} (hp : Pth d kinds want ms T g) (hg : g.length = want.length) : ∃ q ∈ Q, q.moves.length ≤ ms.length := by
  rcases reached hd h hp with ⟨y, y1, y2, y3⟩ | h1
  · exfalso
    obtain ⟨g', p1, p2, p3⟩ := h.ok y (List.mem_append_left _ y1)
    have f1 := (p1.facts hd).2.1
    have f2 := (hp.facts hd).2.1
    have := h.lt y y1
    rw [y2] at f1
    omega
  · exact h1
include hd in
theorem search_spec {Q : List FleetTry} {seen : List (List (List Int) × Bool)} (h : BI d kinds want [] Q seen) : ∃ l e, loopM (mFleetShunt_L26129 d kinds want) (seen, Q) = some (l, e) ∧ Found d kinds want l e := by
  obtain ⟨B, hB⟩ : ∃ B : Nat, B = 400000000 := ⟨_, rfl⟩
  obtain ⟨⟨l, e⟩, h1, h2⟩ := loopM_inv (step := mFleetShunt_L26129 d kinds want) (fun s => ∃ E, BI d kinds want E s.2 s.1) (fun t => Found d kinds want t.1 t.2) (fun s => B - (s.1.length - s.2.length)) (fun s hs => by
    obtain ⟨seen, Q⟩ := s
    obtain ⟨E, hE⟩ := hs
    replace hE : BI d kinds want E Q seen := hE
    unfold mFleetShunt_L26129
    simp only [unc2]
    unfold mFleetQueueTake_2
    cases Q with
    | nil =>
      right
      refine ⟨([], 9), by rw [if_pos (show (([] : List FleetTry).length : Int) = 0 from rfl), pass6, if_neg (by decide)], .inl ⟨rfl, rfl, fun ms T g hp hg => ?_⟩⟩
      obtain ⟨q, q1, _⟩ := goal_waits hd hE hp hg
      cases q1
    | cons x Q =>
      have hx : TOk d kinds want x := hE.ok x (List.mem_append_right _ List.mem_cons_self)
      obtain ⟨g, p1, p2, p3⟩ := hx
      have hcut : cutS (x :: Q) 1 (((x :: Q).length : Nat) : Int) = some Q := by
        have := cutS_ok (l := x :: Q) (a := 1) (b := (x :: Q).length) (by rw [List.length_cons]; omega) (Nat.le_refl _)
        rw [List.take_length] at this
        exact this
      rw [if_neg (by rw [List.length_cons]; omega), show idx (x :: Q) 0 = some x from rfl, Option.bind_some, hcut, Option.bind_some, pass6, if_pos rfl, p3]
      by_cases hl : x.left = (want.length : Int)
      · right
        rw [if_pos hl]
        refine ⟨(x.moves, 0), rfl, .inr ⟨rfl, x.depot.Tracks, g, p1, by omega, fun ms T' g' hp hg => ?_⟩⟩
        obtain ⟨q, q1, q2⟩ := goal_waits hd hE hp hg
        rcases List.mem_cons.1 q1 with q1 | q1
        · rw [q1] at q2
          exact q2
        · have := (List.pairwise_cons.1 hE.so).1 q q1
          show x.moves.length ≤ ms.length
          omega
      · left
        have hle := (p1.facts hd).2.2.2.1
        have hlt : x.left < (want.length : Int) := by omega
        obtain ⟨seen', Q', e1, e2⟩ := all_moves hd ⟨g, p1, p2, p3⟩ hlt (hE.open_ hd hlt)
        rw [if_neg hl, e1, pass2]
        refine ⟨_, rfl, ⟨x :: E, e2.close hd ⟨g, p1, p2, p3⟩⟩, ?_⟩
        have s1 := hE.sl
        have s2 := e2.sl
        have s3 := e2.size hd
        have s4 := hE.size hd
        rw [List.length_cons] at s1 s2 s3 s4
        show B - (seen'.length - Q'.length) < B - (seen.length - (x :: Q).length)
        rw [List.length_cons]
        omega) (seen, Q) ⟨[], h⟩
  exact ⟨l, e, h1, h2⟩
end
end Go.Proofs.Ytajmocgpjkhjlaa
