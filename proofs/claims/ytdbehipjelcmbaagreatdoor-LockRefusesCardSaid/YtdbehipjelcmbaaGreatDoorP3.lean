import Derived.Test.YtdbehipjelcmbaaGreatDoorP2
import Derived.Lib.SlKeysI
import Derived.Test.YtdbehipjelcmbaaGreatDoorP1
import Derived.KernelRfl
import Derived.Test.YtdbehipjelcmbaaGreatDoorF6
import Derived.Test.YtdbehipjelcmbaaGreatDoorF7
set_option linter.unusedVariables false
set_option linter.unusedSimpArgs false
set_option linter.unusedSectionVars false
namespace Go.Proofs.YtdbehipjelcmbaaGreatDoor
open Go.RowKit Go.Fp
theorem q8c : ∀ {l L : List Int}, l.Nodup → (∀ x ∈ l, x ∈ L) → l.length ≤ L.length
 | [], _, _, _ => Nat.zero_le _
 | x :: r, L, h, hs => by
  have hx := hs x List.mem_cons_self
  rw [List.nodup_cons] at h
  have h1 := q8c (l := r) (L := L.erase x) h.2 (fun y hy => by
   have hne : y ≠ x := fun e => h.1 (e ▸ hy)
   exact (List.mem_erase_of_ne hne).2 (hs y (List.mem_cons_of_mem _ hy)))
  rw [List.length_erase_of_mem hx] at h1
  have := List.length_pos_of_mem hx
  simp only [List.length_cons]
  omega
section
variable {n : v6} {ro : List j1} {ne : List (List q9)} {bo bo' : List q8} {gt gt' : List z6} {mp : List (Int × Option Int)} {ar : List (Int × j0)}
variable {a1 : List ByteArray} {a2 : List z7} {a3 : List w5} {a4 : List j7} {a5 : List Q1} {a6 : List j1} {a7 : List (List q9)} {a8 : List q8} {a9 : List z6} {b1 : List (Int × Option Int)} {b2 : List (Int × j0)}
theorem Inv.few (F : Fix n ro ne) (h : Inv n ro ne bo gt mp ar) : mp.length ≤ 81 := by
 have h1 := q8c (L := (List.range ro.length).map fun i : Nat => (i : Int)) h.nd (fun k hk => by
  obtain ⟨p, hp, rfl⟩ := List.mem_map.1 hk
  obtain ⟨_, x, _, kx⟩ := h.en p hp
  have := kx.kr
  exact List.mem_map.2 ⟨p.1.toNat, List.mem_range.2 (by omega), by omega⟩)
 have := F.many
 simp at h1
 omega
theorem z4d (F : Fix n ro ne) (h : Inv n ro ne bo gt mp ar) : z2U mp = some ((mp.map (·.1)).mergeSort fun x y => decide (x ≤ y)) := by
 have h1 := h.few F
 have h2 := F.many
 unfold z2U
 rw [q0W (by omega) (by omega), Ka, if_pos]
 rw [List.all_eq_true]
 intro p hp
 obtain ⟨_, x, _, kx⟩ := h.en p hp
 have := kx.kr
 exact decide_eq_true (by omega)
theorem q5v {k : Int} : k ∈ ((mp.map (·.1)).mergeSort fun x y => decide (x ≤ y)) ↔ k ∈ mp.map (·.1) := (List.mergeSort_perm _ _).mem_iff
theorem q7a (F : Fix n ro ne) (h : Inv n ro ne bo gt mp ar) : q0d a1 a2 a3 a4 a5 a6 a7 a8 a9 mp ar = some (((mp.map (·.1)).mergeSort fun x y => decide (x ≤ y)).map some) := by
 have hlen : ((mp.map (·.1)).mergeSort fun x y => decide (x ≤ y)).length ≤ 81 := by
  rw [List.length_mergeSort, List.length_map]
  exact h.few F
 unfold q0d q5x q1O
 rw [Ka, z4d F h, Ka]
 generalize hl : ((mp.map (·.1)).mergeSort fun x y => decide (x ≤ y)) = l
 rw [hl] at hlen
 obtain ⟨s, h1, h2⟩ := F9 (body := q1i mp l) (fun j s => s = (l.take j).map some) l.length 0 [] (by simp) (fun j s _ hj hs => by
  have hj : j < l.length := by omega
  subst hs
  unfold q1i
  have hk : l[j] ∈ mp.map (·.1) := q5v.1 (by rw [hl]; exact List.getElem_mem hj)
  have hd : q2a mp l[j] none = some l[j] := by
   rcases h.look l[j] with ⟨_, h3⟩ | ⟨h3, _⟩
   ·exact absurd hk h3
   ·exact h3
  rw [Z3 hj, Ka, Ka, hd, q0W (by simp; omega) (by simp; omega), Ka]
  exact ⟨_, rfl, by rw [List.take_succ_eq_append_getElem hj, List.map_append]; rfl⟩)
 rw [h1, Ka, h2, Nat.zero_add, List.take_length]
theorem z9P (hb : z0a n.Sections.length bo) : ∃ bo', q5z Y5 bo.length 0 bo = some bo' ∧ z0a n.Sections.length bo' := by
 obtain ⟨s, h1, h2⟩ := F9 (body := Y5) (fun _ b => z0a n.Sections.length b) bo.length 0 bo hb (fun j b _ hj hb' => by
  have hj : (0 : Int) ≤ (j : Int) ∧ (j : Int) < (n.Sections.length : Int) := by rw [← hb.1]; omega
  obtain ⟨s, h3, h4⟩ := hb'.get hj
  unfold Y5
  rw [h3, Ka]
  by_cases c : s.moving = 0 ∨ s.failed = true
  ·have e1 : (if s.moving = 0 then some true else some s.failed) = some true := by
    by_cases c0 : s.moving = 0
    ·rw [if_pos c0]
    ·rw [if_neg c0, c.resolve_left c0]
   rw [e1, Ka, if_pos rfl]
   exact ⟨_, rfl, hb'⟩
  ·have c0 : ¬ s.moving = 0 := fun h => c (.inl h)
   have cf : ¬ s.failed = true := fun h => c (.inr h)
   have hm := h4.2.1
   have hp := h4.2.2
   have hjl : j < b.length := by have := hb'.1; omega
   rw [if_neg c0, Ka, if_neg cf, P0 (by omega) (by omega), Ka, q0E, Z3 (by rw [List.length_set]; exact hjl), Ka, List.getElem_set_self]
   simp only
   by_cases c1 : s.moving - 1 = 0
   ·rw [if_pos c1, P0 (by omega) (by omega), Ka, q0E, List.set_set, ← q0E]
    exact ⟨_, rfl, hb'.put _ ⟨h4.1, ⟨by simp only; omega, by simp only; omega⟩, by simp only; omega, by simp only; omega⟩⟩
   ·rw [if_neg c1, ← q0E]
    exact ⟨_, rfl, hb'.put _ ⟨h4.1, ⟨by simp only; omega, by simp only; omega⟩, h4.2.2⟩⟩)
 exact ⟨s, h1, h2⟩
theorem j1a (hb : z6W n.Gates.length gt) : ∃ gt', q5z Y4 gt.length 0 gt = some gt' ∧ z6W n.Gates.length gt' := by
 obtain ⟨s, h1, h2⟩ := F9 (body := Y4) (fun _ b => z6W n.Gates.length b) gt.length 0 gt hb (fun j b _ hj hb' => by
  have hj : (0 : Int) ≤ (j : Int) ∧ (j : Int) < (n.Gates.length : Int) := by rw [← hb.1]; omega
  obtain ⟨s, h3, h4⟩ := hb'.get hj
  unfold Y4
  rw [h3, Ka]
  by_cases cw : s.wanted = true
  ·by_cases cl : 0 < s.left
   ·rw [if_pos cw, if_pos cl, Ka]
    by_cases cf : (!s.failed) = true
    ·rw [if_pos cf, P0 (by omega) (by omega), Ka]
     exact ⟨_, rfl, hb'.put _ (by simp only; omega)⟩
    ·rw [if_neg cf]
     exact ⟨_, rfl, hb'⟩
   ·rw [if_pos cw, if_neg cl, Ka, if_neg Kh]
    exact ⟨_, rfl, hb'⟩
  ·rw [if_neg cw, Ka, if_neg Kh]
   exact ⟨_, rfl, hb'⟩)
 exact ⟨s, h1, h2⟩
def j0e (n : v6) (ro : List j1) (ne : List (List q9)) (ks : List Int) (ar : List (Int × j0)) : Prop := ∀ k ∈ ks, ∃ x, V4 ar k = some x ∧ LOk n ro ne k x
theorem j0e.put {ks : List Int} (h : j0e n ro ne ks ar) {k : Int} {x : j0} (hx : LOk n ro ne k x) : j0e n ro ne ks (G1 ar k x) := fun j hj => by
 by_cases c : j = k
 ·rw [c]; exact ⟨x, W5 _ _ _, hx⟩
 ·obtain ⟨y, h1, h2⟩ := h j hj
  exact ⟨y, by rw [J7 _ _ c]; exact h1, h2⟩
theorem Inv.kept (h : Inv n ro ne bo gt mp ar) : j0e n ro ne ((mp.map (·.1)).mergeSort fun x y => decide (x ≤ y)) ar := fun k hk => by
 obtain ⟨p, hp, rfl⟩ := List.mem_map.1 (q5v.1 hk)
 exact (h.en p hp).2
theorem j0W (F : Fix n ro ne) (h : Inv n ro ne bo gt mp ar) {ks : List Int} (hk : j0e n ro ne ks ar) : ∃ mp' ar', q5z (Y3 (ks.map some)) (ks.map some).length 0 (mp, ar) = some (mp', ar') ∧ Inv n ro ne bo gt mp' ar' := by
 obtain ⟨⟨m', r'⟩, h1, h2⟩ := F9 (body := Y3 (ks.map some)) (fun _ S => Inv n ro ne bo gt S.1 S.2 ∧ j0e n ro ne ks S.2) (ks.map some).length 0 (mp, ar) ⟨h, hk⟩ (fun j S _ hj hS => by
  obtain ⟨m', r'⟩ := S
  obtain ⟨hI, hK⟩ := hS
  have hj : j < ks.length := by simpa using hj
  obtain ⟨x, hx, kx⟩ := hK _ (List.getElem_mem hj)
  have hl := kx.leave
  unfold Y3
  show ∃ s', Option.bind _ _ = _ ∧ _
  rw [Z3 (by simpa using hj), List.getElem_map, Ka, Ka, hx, Ka]
  by_cases c : x.leave = 0
  ·rw [if_pos c]
   exact ⟨_, rfl, hI, hK⟩
  ·rw [if_neg c, P0 (by omega) (by omega), Ka]
   have kx' : LOk n ro ne ks[j] ⟨x.Route, x.needs, x.seen, x.gone, x.laps, x.sight, x.leave - 1, x.clock, x.number⟩ := ⟨kx.kr, kx.route, kx.num, kx.seen, kx.gone, kx.sub, kx.trk, kx.len, kx.g0, ⟨by simp only; omega, by simp only; omega⟩, kx.clk⟩
   have hI' := hI.put hx (fun _ => kx') (fun a ha => ha)
   by_cases c1 : x.leave - 1 = 0
   ·rw [if_pos c1]
    exact ⟨_, rfl, hI'.del _, hK.put kx'⟩
   ·rw [if_neg c1]
    exact ⟨_, rfl, hI', hK.put kx'⟩)
 exact ⟨m', r', h1, h2.1⟩
theorem j1t (F : Fix n ro ne) (h : Inv n ro ne bo gt mp ar) {ks : List Int} (hk : j0e n ro ne ks ar) : ∃ ar', q5z (Y2 (ks.map some)) (ks.map some).length 0 ar = some ar' ∧ Inv n ro ne bo gt mp ar' := by
 obtain ⟨r', h1, h2⟩ := F9 (body := Y2 (ks.map some)) (fun _ S => Inv n ro ne bo gt mp S ∧ j0e n ro ne ks S) (ks.map some).length 0 ar ⟨h, hk⟩ (fun j r' _ hj hS => by
  obtain ⟨hI, hK⟩ := hS
  have hj : j < ks.length := by simpa using hj
  obtain ⟨x, hx, kx⟩ := hK _ (List.getElem_mem hj)
  have hp := kx.pos F
  have hs := kx.seen
  have hm : x.Route.Steps.length ≤ 16 := by rw [kx.route]; exact (F.rok kx.kr).way.many
  have hc := kx.clk
  unfold Y2
  rw [Z3 (by simpa using hj), List.getElem_map, Ka, Ka, hx, Ka, P0 (by omega) (by omega), Ka]
  obtain ⟨b, hb, _⟩ := q2T (l := x.seen) (i := (x.seen.length : Int) - 1) (by omega) (by omega)
  rw [hb, Ka]
  have e1 : (if b = true then some (some ks[j], x.laps) else some (some ks[j], false)) = some (some ks[j], b && x.laps) := by cases b <;> rfl
  rw [e1, K3]
  by_cases c : (b && x.laps) = true
  ·have hlaps : x.laps = true := by cases b <;> simp_all
   have hc2 := hc.2 hlaps
   rw [if_pos c, Ka, hx, Ka, P0 (by omega) (by omega), Ka]
   by_cases c6 : x.clock + 1 = 60
   ·rw [if_pos c6]
    have kx' : LOk n ro ne ks[j] ⟨x.Route, x.needs, x.seen, x.gone, false, x.sight, x.leave, x.clock + 1, x.number⟩ := ⟨kx.kr, kx.route, kx.num, kx.seen, kx.gone, kx.sub, kx.trk, kx.len, kx.g0, kx.leave, ⟨by simp only; omega, fun h => by cases h⟩⟩
    refine ⟨_, rfl, hI.put hx (fun _ => kx') (fun a ha => ?_), hK.put kx'⟩
    obtain ⟨ha, hb⟩ := q2k.1 ha
    refine q2k.2 ⟨ha, ?_⟩
    unfold q5y at hb ⊢
    by_cases c2 : a.Kind = 2
    ·rw [if_pos c2] at hb
     cases hb
    ·rw [if_neg c2] at hb ⊢
     exact hb
   ·rw [if_neg c6]
    have kx' : LOk n ro ne ks[j] ⟨x.Route, x.needs, x.seen, x.gone, x.laps, x.sight, x.leave, x.clock + 1, x.number⟩ := ⟨kx.kr, kx.route, kx.num, kx.seen, kx.gone, kx.sub, kx.trk, kx.len, kx.g0, kx.leave, ⟨by simp only; omega, fun _ => by simp only; omega⟩⟩
    exact ⟨_, rfl, hI.put hx (fun _ => kx') (fun a ha => ha), hK.put kx'⟩
  ·rw [if_neg c]
   exact ⟨_, rfl, hI, hK⟩)
 exact ⟨r', h1, h2.1⟩
theorem j3q {k : Int} {y : j0} (h : LOk n ro ne k y) (j : Nat) (h0 : y.seen[0]? = some true) : LOk n ro ne k ⟨y.Route, y.needs, y.seen, put y.gone (j : Int) true, y.laps, y.sight, y.leave, y.clock, y.number⟩ ∧ ∀ a ∈ J6 ⟨y.Route, y.needs, y.seen, put y.gone (j : Int) true, y.laps, y.sight, y.leave, y.clock, y.number⟩, a ∈ J6 y := by
 refine ⟨⟨h.kr, h.route, h.num, h.seen, by simp only [v7]; exact h.gone, h.sub, h.trk, h.len, fun _ _ => h0, h.leave, h.clk⟩, fun a ha => ?_⟩
 obtain ⟨ha, hb⟩ := q2k.1 ha
 refine q2k.2 ⟨ha, ?_⟩
 unfold q5y at hb ⊢
 by_cases c2 : a.Kind = 2
 ·rw [if_pos c2] at hb ⊢
  exact hb
 ·rw [if_neg c2] at hb ⊢
  by_cases c5 : a.Kind = 5
  ·rw [if_pos c5] at hb ⊢
   exact hb
  ·rw [if_neg c5] at hb ⊢
   simp only [q0E] at hb
   rw [List.getElem?_set] at hb
   split at hb
   ·split at hb <;> simp at hb
   ·exact hb
theorem z7h (F : Fix n ro ne) (h : Inv n ro ne bo gt mp ar) {k : Int} {x : j0} (hx : V4 ar k = some x) (kx : LOk n ro ne k x) :
  ∃ ar' mp', q1x (some k) a1 a2 a3 a4 a5 a6 a7 ar bo a9 mp = some (ar', mp') ∧ Inv n ro ne bo gt mp' ar' ∧ ∃ y, ar' = G1 ar k y ∧ LOk n ro ne k y := by
 have hm : x.Route.Steps.length ≤ 16 := by rw [kx.route]; exact (F.rok kx.kr).way.many
 have hst : ∀ s ∈ x.Route.Steps, q5F n s := by rw [kx.route]; exact (F.rok kx.kr).way.path.step
 unfold q1x
 rw [Ka, hx, Ka]
 rcases q1n (body := q0c bo mp k x) (fun j s => ∃ y, s = G1 ar k y ∧ y.Route = x.Route ∧ LOk n ro ne k y ∧ (∀ a ∈ J6 y, a ∈ J6 x) ∧ (0 < j → y.seen[0]? = some true))
  (fun t => t.2 = mp ∧ ∃ y, t.1 = G1 ar k y ∧ LOk n ro ne k y ∧ ∀ a ∈ J6 y, a ∈ J6 x) x.Route.Steps.length 0 ar ⟨x, (z0M ar hx).symm, rfl, kx, fun a ha => ha, fun h => by omega⟩ (fun j s _ hj hI => by
   obtain ⟨y, rfl, hr, ky, hsub, h0⟩ := hI
   have hj : j < x.Route.Steps.length := by omega
   have hg : j < y.gone.length := by rw [ky.gone, hr]; exact hj
   have hs : j < y.seen.length := by rw [ky.seen, hr]; exact hj
   unfold q0c
   rw [Z3 hj, Ka, W5, Ka, Z3 hg, Ka]
   cases hgj : y.gone[j] with
   | true =>
    rw [if_pos rfl]
    exact .inl ⟨_, rfl, y, rfl, hr, ky, hsub, fun _ => ky.g0 j (by rw [Kf hg, hgj])⟩
   | false =>
    have hsec := (hst _ (List.getElem_mem hj)).1.1
    obtain ⟨sb, s1, s2⟩ := h.B.get hsec
    rw [if_neg Kh, Ka, Z3 hs, Ka, s1, Ka, q4V, Ka, P0 (by omega) (by omega), Ka, Ka]
    have e1 : ∃ q, (if y.seen[j] = true then (if (decide (0 < sb.axles) || sb.disturbed) = true then some true else if (j : Int) + 1 < (y.Route.Steps.length : Int) then ((idx y.seen ((j : Int) + 1)).bind fun p => some (!p)) else some false) else some true) = some q ∧ (q = false → y.seen[j] = true) := by
     by_cases c : y.seen[j] = true
     ·rw [if_pos c]
      split
      ·exact ⟨_, rfl, fun h => by cases h⟩
      ·split
       ·rename_i c2
        obtain ⟨b, hb, _⟩ := q2T (l := y.seen) (i := (j : Int) + 1) (by omega) (by rw [ky.seen]; exact c2)
        rw [hb]
        exact ⟨_, rfl, fun _ => c⟩
       ·exact ⟨_, rfl, fun _ => c⟩
     ·rw [if_neg c]
      exact ⟨_, rfl, fun h => by cases h⟩
    obtain ⟨q, e1, e2⟩ := e1
    rw [e1, Ka]
    cases q with
    | true =>
     rw [if_pos rfl]
     exact .inr ⟨_, rfl, rfl, y, rfl, ky, hsub⟩
    | false =>
     have hsj := e2 rfl
     have h00 : y.seen[0]? = some true := by
      by_cases c : j = 0
      ·subst c
       rw [Kf hs, hsj]
      ·exact h0 (by omega)
     obtain ⟨k1, k2⟩ := j3q ky j h00
     rw [if_neg Kh, Ka, Z3 hg, Ka, q8Y]
     exact .inl ⟨_, rfl, _, rfl, hr, k1, fun a ha => hsub a (k2 a ha), fun _ => h00⟩) with ⟨s, h1, y, rfl, _, ky, hsub, _⟩ | ⟨⟨s, m'⟩, h1, h2, y, h3, ky, hsub⟩
 ·rw [h1, Ka, Sum.elim_inl, W5, Ka]
  exact ⟨_, _, rfl, (h.put hx (fun _ => ky) hsub).del _, y, rfl, ky⟩
 ·simp only at h2 h3
  rw [h1, Ka, Sum.elim_inr, h2, h3]
  exact ⟨_, _, rfl, h.put hx (fun _ => ky) hsub, y, rfl, ky⟩
theorem z5l (F : Fix n ro ne) (h : Inv n ro ne bo gt mp ar) {ks : List Int} (hk : j0e n ro ne ks ar) : ∃ mp' ar', q5z (Y1 a1 a2 a3 a4 a5 a6 a7 bo a9 (ks.map some)) (ks.map some).length 0 (mp, ar) = some (mp', ar') ∧ Inv n ro ne bo gt mp' ar' := by
 obtain ⟨⟨m', r'⟩, h1, h2⟩ := F9 (body := Y1 a1 a2 a3 a4 a5 a6 a7 bo a9 (ks.map some)) (fun _ S => Inv n ro ne bo gt S.1 S.2 ∧ j0e n ro ne ks S.2) (ks.map some).length 0 (mp, ar) ⟨h, hk⟩ (fun j S _ hj hS => by
  obtain ⟨m', r'⟩ := S
  obtain ⟨hI, hK⟩ := hS
  have hj : j < ks.length := by simpa using hj
  obtain ⟨x, hx, kx⟩ := hK _ (List.getElem_mem hj)
  obtain ⟨ar', mp', h3, h4, y, h5, ky⟩ := z7h (a1 := a1) (a2 := a2) (a3 := a3) (a4 := a4) (a5 := a5) (a6 := a6) (a7 := a7) (a9 := a9) F hI hx kx
  unfold Y1
  show ∃ s', Option.bind _ _ = _ ∧ _
  rw [Z3 (by simpa using hj), List.getElem_map, Ka, h3, K3]
  exact ⟨_, rfl, h4, by rw [h5]; exact hK.put ky⟩)
 exact ⟨m', r', h1, h2.1⟩
theorem z8q (F : Fix n ro ne) (h : Inv n ro ne bo gt mp ar) : ∃ bo' gt' mp' ar', q2d a1 a2 a3 a4 n.Gates a6 a7 bo gt mp ar = some (bo', gt', mp', ar') ∧ Inv n ro ne bo' gt' mp' ar' := by
 unfold q2d
 obtain ⟨bo', b1, b2⟩ := z9P h.B
 obtain ⟨g1, c1, c2⟩ := j1a h.G
 have h1 := (h.toB b2).toG c2
 obtain ⟨m1, r1, d1, d2⟩ := j0W F h1 h1.kept
 obtain ⟨r2, e1, e2⟩ := j1t F d2 d2.kept
 obtain ⟨m3, r3, f1, f2⟩ := z5l (a1 := a1) (a2 := a2) (a3 := a3) (a4 := a4) (a5 := n.Gates) (a6 := a6) (a7 := a7) (a9 := g1) F e2 e2.kept
 obtain ⟨g2, w1, w2, w3⟩ := z2J F f2 a1 a2 a3 a4 a6 a7 bo'
 rw [b1, Ka, c1, Ka, q7a F h1, Ka, d1, K3, q7a F d2, Ka, e1, Ka, q7a F e2, Ka, f1, K3, w1, K3]
 exact ⟨_, _, _, _, rfl, f2.gates w2 w3⟩
theorem j7f (F : Fix n ro ne) (h : Inv n ro ne bo gt mp ar) (c : J1) : ∃ r bo' gt' mp' ar', q3K c a1 n.Sections a3 n.Signals n.Gates ro ne bo gt mp ar = some (r, bo', gt', mp', ar') ∧ Inv n ro ne bo' gt' mp' ar' ∧ (r = 0 ∨ bo' = bo ∧ gt' = gt ∧ mp' = mp ∧ ar' = ar) := by
 unfold q3K
 by_cases c0 : c.Kind = 0
 ·obtain ⟨r, b', h1, h2, h3⟩ := j4G (n := n) (a1 := a1) (a2 := n.Sections) (a3 := a3) (a4 := n.Signals) (a5 := n.Gates) (a6 := ro) (a7 := ne) (a9 := gt) (b1 := mp) (b2 := ar) h.B c.A c.B
  rw [if_pos c0, h1]
  exact ⟨_, _, _, _, _, rfl, h.toB h2, by rcases h3 with h3 | h3 <;> simp [h3]⟩
 rw [if_neg c0]
 by_cases c1 : c.Kind = 1
 ·obtain ⟨r, b', r', h1, h2, h3⟩ := j2Z (a1 := a1) (a3 := a3) (a4 := n.Signals) (a5 := n.Gates) (a6 := ro) (a7 := ne) (a9 := gt) F h c.A c.B c.C
  rw [if_pos c1, h1]
  exact ⟨_, _, _, _, _, rfl, h2, by rcases h3 with h3 | h3 <;> simp [h3]⟩
 rw [if_neg c1]
 by_cases c2 : c.Kind = 2
 ·obtain ⟨r, b', h1, h2, h3⟩ := z7G (n := n) (a1 := a1) (a2 := n.Sections) (a3 := a3) (a4 := n.Signals) (a5 := n.Gates) (a6 := ro) (a7 := ne) (a9 := gt) (b1 := mp) (b2 := ar) h.B c.A
  rw [if_pos c2, h1]
  exact ⟨_, _, _, _, _, rfl, h.toB h2, by rcases h3 with h3 | h3 <;> simp [h3]⟩
 rw [if_neg c2]
 by_cases c3 : c.Kind = 3
 ·obtain ⟨r, b', h1, h2, h3⟩ := j0J (n := n) (a1 := a1) (a3 := a3) (a4 := n.Signals) (a5 := n.Gates) (a6 := ro) (a7 := ne) (a9 := gt) (b1 := mp) (b2 := ar) h.B c.A
  rw [if_pos c3, h1]
  exact ⟨_, _, _, _, _, rfl, h.toB h2, by rcases h3 with h3 | h3 <;> simp [h3]⟩
 rw [if_neg c3]
 by_cases c4 : c.Kind = 4
 ·obtain ⟨r, b', h1, h2, h3⟩ := j2L (a1 := a1) (a3 := a3) (a4 := n.Signals) (a5 := n.Gates) (a6 := ro) (a7 := ne) (a9 := gt) F h c.A c.B
  rw [if_pos c4, h1]
  exact ⟨_, _, _, _, _, rfl, h.toB h2, by rcases h3 with h3 | h3 <;> simp [h3]⟩
 rw [if_neg c4]
 by_cases c5 : c.Kind = 5
 ·obtain ⟨r, b', h1, h2, h3⟩ := j3v (n := n) (a1 := a1) (a3 := a3) (a4 := n.Signals) (a5 := n.Gates) (a6 := ro) (a7 := ne) (a9 := gt) (b1 := mp) (b2 := ar) h.B c.A
  rw [if_pos c5, h1]
  exact ⟨_, _, _, _, _, rfl, h.toB h2, by rcases h3 with h3 | h3 <;> simp [h3]⟩
 rw [if_neg c5]
 by_cases c6 : c.Kind = 6
 ·obtain ⟨r, b', h1, h2, h3⟩ := j3k (n := n) (a1 := a1) (a3 := a3) (a4 := n.Signals) (a5 := n.Gates) (a6 := ro) (a7 := ne) (a9 := gt) (b1 := mp) (b2 := ar) h.B c.A
  rw [if_pos c6, h1]
  exact ⟨_, _, _, _, _, rfl, h.toB h2, by rcases h3 with h3 | h3 <;> simp [h3]⟩
 rw [if_neg c6]
 by_cases c7 : c.Kind = 7
 ·obtain ⟨r, g', h1, h2, h3⟩ := z5J (n := n) (a1 := a1) (a2 := n.Sections) (a3 := a3) (a4 := n.Signals) (a5 := n.Gates) (a6 := ro) (a7 := ne) (a8 := bo) (b1 := mp) (b2 := ar) h.G c.A
  rw [if_pos c7, h1]
  exact ⟨_, _, _, _, _, rfl, h.toG h2, by rcases h3 with h3 | h3 <;> simp [h3]⟩
 rw [if_neg c7]
 by_cases c8 : c.Kind = 8
 ·obtain ⟨r, g', h1, h2, h3⟩ := z5u (a1 := a1) (a2 := n.Sections) (a3 := a3) (a4 := n.Signals) (a6 := ro) (a7 := ne) (a8 := bo) (b1 := mp) (b2 := ar) F h.G c.A
  rw [if_pos c8, h1]
  exact ⟨_, _, _, _, _, rfl, h.toG h2, by rcases h3 with h3 | h3 <;> simp [h3]⟩
 rw [if_neg c8]
 have e1 : ∃ q, (if c.Kind = 9 then some (decide (c.Kind = 9)) else some (decide (c.Kind = 10))) = some q := by split <;> exact ⟨_, rfl⟩
 obtain ⟨q, e1⟩ := e1
 rw [e1, Ka]
 by_cases c9 : q = true
 ·obtain ⟨r, b', g', m', r', h1, h2, h3⟩ := j3l (a1 := a1) (a3 := a3) (a4 := n.Signals) F h c.A (decide (c.Kind = 10))
  rw [if_pos c9, h1]
  exact ⟨_, _, _, _, _, rfl, h2, by rcases h3 with h3 | h3 <;> simp [h3]⟩
 rw [if_neg c9]
 by_cases c11 : c.Kind = 11
 ·obtain ⟨r, g', m', r', h1, h2, h3⟩ := z9r (a1 := a1) (a3 := a3) F h c.A
  rw [if_pos c11, h1]
  exact ⟨_, _, _, _, _, rfl, h2, by rcases h3 with h3 | h3 <;> simp [h3]⟩
 rw [if_neg c11]
 by_cases c12 : c.Kind = 12
 ·obtain ⟨b', g', m', r', h1, h2⟩ := z8q (a1 := a1) (a2 := n.Sections) (a3 := a3) (a4 := n.Signals) (a6 := ro) (a7 := ne) F h
  rw [if_pos c12, h1]
  exact ⟨_, _, _, _, _, rfl, h2, by simp⟩
 rw [if_neg c12]
 exact ⟨_, _, _, _, _, rfl, h, by simp⟩
end
structure j4b (mp : List (Int × Option Int)) (ar : List (Int × j0)) (mp' : List (Int × Option Int)) (ar' : List (Int × j0)) : Prop where
 pm : mp.Perm mp'
 cell : ∀ p ∈ mp, V4 ar' p.1 = V4 ar p.1
theorem q7D {σ τ : Type} {body body' : Nat → σ → Option (σ ⊕ τ)} (I : σ → Prop) : ∀ (m k : Nat) (s : σ), (∀ j s, k ≤ j → j < k + m → I s → body j s = body' j s ∧ ∀ s', body j s = some (.inl s') → I s') → I s → Fp.forM body m k s = Fp.forM body' m k s ∧ ∀ s', Fp.forM body m k s = some (.inl s') → I s'
 | 0, k, s, _, h => ⟨rfl, fun s' hs => by
  have hs : some (Sum.inl s) = some (Sum.inl s') := hs
  injection hs with hs
  injection hs with hs
  rw [← hs]; exact h⟩
 | m + 1, k, s, hb, h => by
  obtain ⟨h1, h2⟩ := hb k s (by omega) (by omega) h
  simp only [Fp.forM, ← h1]
  cases hq : body k s with
  | none => exact ⟨rfl, fun s' hs => by cases hs⟩
  | some o =>
   cases o with
   | inl s1 => exact q7D I m (k + 1) s1 (fun j s a b => hb j s (by omega) (by omega)) (h2 s1 hq)
   | inr t => exact ⟨rfl, fun s' hs => by cases hs⟩
section
variable {n : v6} {ro : List j1} {ne : List (List q9)} {bo : List q8} {gt : List z6} {mp mp' : List (Int × Option Int)} {ar ar' : List (Int × j0)}
variable {a1 : List ByteArray} {a2 : List z7} {a3 : List w5} {a4 : List j7} {a5 : List Q1} {a6 : List j1} {a7 : List (List q9)} {a8 : List q8} {a9 : List z6} {b1 : List (Int × Option Int)} {b2 : List (Int × j0)}
theorem Inv.same (h : Inv n ro ne bo gt mp ar) (s : j4b mp ar mp' ar') : Inv n ro ne bo gt mp' ar' :=
 ⟨h.bl, h.bb, h.gl, h.gb, (s.pm.map _).nodup_iff.1 h.nd, fun p hp => by
  have hq := s.pm.symm.subset hp
  rw [s.cell p hq]
  exact h.en p hq, fun p hp q hq hne x y hx hy => by
  have hp' := s.pm.symm.subset hp
  have hq' := s.pm.symm.subset hq
  rw [s.cell p hp'] at hx
  rw [s.cell q hq'] at hy
  exact h.ap p hp' q hq' hne x y hx hy⟩
theorem z8S (s : j4b mp ar mp' ar') : ((mp.map (·.1)).mergeSort fun x y => decide (x ≤ y)) = ((mp'.map (·.1)).mergeSort fun x y => decide (x ≤ y)) := mergeSort_of_perm_i (s.pm.map _)
theorem z7l (F : Fix n ro ne) (h : Inv n ro ne bo gt mp ar) (s : j4b mp ar mp' ar') (d : Int) (hd : 0 ≤ d ∧ d < (bo.length : Int)) : ∃ r, H2 d a1 a2 a3 a4 a5 a6 a7 bo gt mp ar = some (r, 0, mp) ∧ H2 d a1 a2 a3 a4 a5 a6 a7 bo gt mp' ar' = some (r, 0, mp') := by
 obtain ⟨r, h1, h2⟩ := z3e F h a1 a2 a3 a4 a5 a6 a7 bo gt d
 obtain ⟨r', h3, h4⟩ := z3e F (h.same s) a1 a2 a3 a4 a5 a6 a7 bo gt d
 have e : r' = r := by
  rcases h2 with ⟨rfl, h2⟩ | ⟨x, m1, x1, o1⟩
  ·rcases h4 with ⟨rfl, _⟩ | ⟨y, m2, y1, o2⟩
   ·rfl
   ·have m2' := s.pm.symm.subset m2
    have := s.cell _ m2'
    simp only at this
    rw [this] at y1
    exact absurd o2 (h2 _ m2' y y1)
  ·have c1 := s.cell _ m1
   simp only at c1
   rcases h4 with ⟨rfl, h4⟩ | ⟨y, m2, y1, o2⟩
   ·exact absurd o1 (h4 _ (s.pm.subset m1) x (by rw [c1]; exact x1))
   ·have m2' := s.pm.symm.subset m2
    have c2 := s.cell _ m2'
    simp only at c2
    rw [c2] at y1
    exact z2q F h m2' m1 y1 x1 o2 o1
 subst e
 refine ⟨r', ?_, ?_⟩
 ·unfold H2
  rw [q2Y, Ka, if_pos (decide_eq_true hd), h1]
  rfl
 ·unfold H2
  rw [q2Y, Ka, if_pos (decide_eq_true hd), h3]
  rfl
theorem z7e (h : Inv n ro ne bo gt mp ar) (d : Int) (hd : 0 ≤ d ∧ d < (bo.length : Int)) : ∃ r, ∀ b1 b2, q1R d a1 a2 a3 a4 a5 a6 a7 bo a9 b1 b2 = some (r, 0) := by
 obtain ⟨x, h1, _⟩ := q2T hd.1 hd.2
 refine ⟨decide (0 < x.axles) || x.disturbed, fun b1 b2 => ?_⟩
 unfold q1R
 rw [q2Y, Ka, if_pos (decide_eq_true hd), h1, Ka, q4V, Ka]
theorem z8j (s : q8) : q1U s = some (decide (s.moving = 0) && !s.failed) := by
 unfold q1U
 by_cases c : s.moving = 0
 ·rw [if_pos c, decide_eq_true c]; rfl
 ·rw [if_neg c, decide_eq_false c]; rfl
theorem z4H (g : z6) : q0x g = some (g.wanted && decide (g.left = 0) && !g.failed) := by
 unfold q0x
 by_cases c : g.wanted = true
 ·by_cases c2 : g.left = 0
  ·rw [if_pos c, if_pos c2, c, decide_eq_true c2]; rfl
  ·rw [if_pos c, if_neg c2, decide_eq_false c2, c]; rfl
 ·rw [if_neg c, show g.wanted = false by simpa using c]; rfl
theorem z3c (h : Inv n ro ne bo gt mp ar) (d : Int) : ∃ r q e, ∀ b1 b2, X1 d a1 n.Sections a3 a4 a5 a6 a7 bo a9 b1 b2 = some (r, q, e) := by
 by_cases hd : (0 ≤ d ∧ d < (n.Sections.length : Int)) ∧ (sec n d).Kind = 2
 ·obtain ⟨x, h1, _⟩ := q2T hd.1.1 (by rw [h.bl]; exact hd.1.2)
  refine ⟨x.position, decide (x.moving = 0) && !x.failed, 0, fun b1 b2 => ?_⟩
  unfold X1
  rw [q6t h.bl, Ka, if_pos (decide_eq_true hd), h1, Ka, z8j, Ka]
 ·refine ⟨0, false, 3, fun b1 b2 => ?_⟩
  unfold X1
  rw [q6t h.bl, Ka, if_neg (fun e => hd (of_decide_eq_true e))]
theorem z5M (d : Int) (hd : 0 ≤ d ∧ d < (gt.length : Int)) : ∃ r, ∀ b1 b2, q0V d a1 a2 a3 a4 a5 a6 a7 a8 gt b1 b2 = some (r, 0) := by
 obtain ⟨x, h1, _⟩ := q2T hd.1 hd.2
 refine ⟨x.wanted && decide (x.left = 0) && !x.failed, fun b1 b2 => ?_⟩
 unfold q0V
 rw [z3l, Ka, if_neg (fun e => absurd hd (of_decide_eq_true e)), h1, Ka, z4H, Ka]
theorem z0J (F : Fix n ro ne) (h : Inv n ro ne bo gt mp ar) : q0l a1 a2 a3 a4 a5 a6 a7 a8 a9 mp ar = some ((mp.map (·.1)).mergeSort fun x y => decide (x ≤ y)) := by
 unfold q0l q5x q1O
 rw [Ka, z4d F h, Ka]
theorem j1U (F : Fix n ro ne) (h : Inv n ro ne bo gt mp ar) {k : Int} {x : j0} (hk : k ∈ mp.map (·.1)) (hx : V4 ar k = some x) (kx : LOk n ro ne k x) : q2y k a1 a2 a3 a4 a5 ro a7 a8 a9 mp ar = some (0, J6 x) := by
 unfold q2y
 rw [q5T, Ka, if_pos (decide_eq_true kx.kr), Ka]
 rcases h.look k with ⟨_, h3⟩ | ⟨h3, _⟩
 ·exact absurd hk h3
 ·rw [h3, if_neg (by simp), q9j F kx hx, Ka]
theorem j1G (F : Fix n ro ne) (h : Inv n ro ne bo gt mp ar) {k : Int} {x : j0} (hk : k ∈ mp.map (·.1)) (hx : V4 ar k = some x) (kx : LOk n ro ne k x) : q2x k a1 a2 a3 a4 a5 ro a7 a8 a9 mp ar = some ((x.seen[0]?).getD false, 0) := by
 obtain ⟨b, h4, h5⟩ := kx.seen0 F
 unfold q2x
 rw [q5T, Ka, if_pos (decide_eq_true kx.kr), Ka]
 rcases h.look k with ⟨_, h3⟩ | ⟨h3, _⟩
 ·exact absurd hk h3
 ·rw [h3, if_neg (by simp), Ka, hx, Ka, h4, Ka, Ka, h5]
  rfl
theorem z7i (F : Fix n ro ne) {k : Int} {x : j0} (hx : V4 ar k = some x) (hx' : V4 ar' k = some x) (kx : LOk n ro ne k x) :
  Y8 (some k) a1 a2 a3 a4 a5 a6 a7 ar bo gt mp = Y8 (some k) a1 a2 a3 a4 a5 a6 a7 ar' bo gt mp' := by
 unfold Y8
 rw [q9j F kx hx, q9j F kx hx', Ka, Ka]
 obtain ⟨h1, h2⟩ := q7D (body := V2 a5 ar gt) (body' := V2 a5 ar' gt) (fun s => s = some k) a5.length 0 (some k) (fun j s _ hj hs => by
  subst hs
  unfold V2
  rw [Z3 (by omega)]
  refine ⟨by simp only [Ka, hx, hx'], fun s' hs => ?_⟩
  rw [Ka, Ka, hx, Ka] at hs
  obtain ⟨q, _, hs⟩ := q7L hs
  obtain ⟨m, _, hs⟩ := q7L hs
  split at hs
  ·injection hs with hs
   cases hs
  ·injection hs with hs
   injection hs with hs
   exact hs.symm) rfl
 congr 1
 funext t
 cases t with
 | inr q => rfl
 | inl u =>
  rw [Sum.elim_inl, Sum.elim_inl, ← h1]
  cases hq : Fp.forM (V2 a5 ar gt) a5.length 0 (some k) with
  | none => rfl
  | some t =>
   cases t with
   | inr q => rfl
   | inl p =>
    have hp := h2 p hq
    subst hp
    rw [Ka, Ka, Sum.elim_inl, Sum.elim_inl, Ka, Ka, hx, hx']
    rfl
theorem z1y (F : Fix n ro ne) (h : Inv n ro ne bo gt mp ar) (s : j4b mp ar mp' ar') : ∀ (N : Nat) (g : Int) (d : List Int),
  Q6 N g a1 a2 a3 a4 n.Gates a6 a7 d bo gt mp ar = Q6 N g a1 a2 a3 a4 n.Gates a6 a7 d bo gt mp' ar'
 | 0, _, _ => rfl
 | N + 1, g, d => by
  unfold Q6
  rw [q7a F h, q7a F (h.same s), ← z8S s]
  congr 1
  funext c
  split
  ·rfl
  ·rw [Ka, Ka]
   generalize hks : ((mp.map (·.1)).mergeSort fun x y => decide (x ≤ y)) = ks
   refine congrArg (fun o : Option (Unit ⊕ (Int × List Int)) => o.bind fun t => Sum.elim (fun _ => some (0, d)) (fun q => some q) t) ?_
   refine (q7D (fun _ => True) (ks.map some).length 0 () (fun j u _ hj _ => ⟨?_, fun _ _ => trivial⟩) trivial).1
   have hj : j < ks.length := by simpa using hj
   have hk : ks[j] ∈ mp.map (·.1) := q5v.1 (by rw [hks]; exact List.getElem_mem hj)
   obtain ⟨p, hp, hpk⟩ := List.mem_map.1 hk
   obtain ⟨_, x, hx, kx⟩ := h.en p hp
   have hx' := s.cell p hp
   rw [hx] at hx'
   rw [hpk] at hx kx hx'
   obtain ⟨b, hb, _⟩ := kx.seen0 F
   have hr := z7i (a1 := a1) (a2 := a2) (a3 := a3) (a4 := a4) (a5 := n.Gates) (a6 := a6) (a7 := a7) (bo := bo) (gt := gt) (mp := mp) (mp' := mp') F hx hx' kx
   unfold Z0
   rw [Z3 (by simpa using hj), List.getElem_map, Ka, Ka, Ka, Ka, hx, hx', Ka, Ka, hb, Ka, Ka, hr]
   by_cases c1 : x.Route.From ≠ g
   ·rw [if_pos c1, K3, K3]
    rfl
   ·rw [if_neg c1]
    cases b with
    | true => rfl
    | false =>
     rw [if_neg Kh]
     by_cases c2 : 0 < x.leave
     ·rw [if_pos c2, K3, K3]
      rfl
     ·rw [if_neg c2]
      cases Y8 (some ks[j]) a1 a2 a3 a4 n.Gates a6 a7 ar' bo gt mp' with
      | none => rfl
      | some b =>
       rw [Ka, K3, K3]
       split
       ·rfl
       ·simp only [Ka, hx, hx', z1y F h s N]
theorem z5V (F : Fix n ro ne) (h : Inv n ro ne bo gt mp ar) (s : j4b mp ar mp' ar') (g : Int) : K9 g a1 a2 a3 a4 n.Gates a6 a7 bo gt mp ar = K9 g a1 a2 a3 a4 n.Gates a6 a7 bo gt mp' ar' := by
 unfold K9
 simp only [z1y F h s]
end
theorem z5L (l : List Int) (x : Int) [Decidable (∃ y ∈ l, x = y)] : q1P l x = some (decide (∃ y ∈ l, x = y)) :=
 z5a (fun y => x = y) (fun k hk => by
  unfold q2F
  rw [Z3 hk, Ka]
  by_cases c : x = l[k]
  ·rw [if_pos c, if_pos c]
  ·rw [if_neg c, if_neg c])
structure j0a (n : v6) (bo : List q8) (gt : List z6) (x : j0) : Prop where
 pts : ∀ y ∈ J6 x, 0 < y.Position → ∃ s, idx bo y.Place = some s ∧ (decide (s.moving = 0) && !s.failed) = true ∧ s.position = y.Position
 gts : ∀ j : Nat, j < n.Gates.length → (∃ s ∈ x.Route.Steps, s.Section = ((n.Gates[j]?).getD ⟨0, 0⟩).Section) → ∃ g, idx gt (j : Int) = some g ∧ (g.wanted && decide (g.left = 0) && !g.failed) = true
 clr : x.sight = true ∨ ∀ s ∈ x.Route.Steps, ∃ b, idx bo s.Section = some b ∧ (decide (0 < b.axles) || b.disturbed) = false
section
variable {n : v6} {ro : List j1} {ne : List (List q9)} {bo bo' : List q8} {gt gt' : List z6} {mp : List (Int × Option Int)} {ar : List (Int × j0)}
variable {a1 : List ByteArray} {a2 : List z7} {a3 : List w5} {a4 : List j7} {a5 : List Q1} {a6 : List j1} {a7 : List (List q9)} {a8 : List q8} {a9 : List z6} {b1 : List (Int × Option Int)} {b2 : List (Int × j0)}
theorem z4F (l : List Q2) (c d : Int) [Decidable (∃ s ∈ l, s.Section = c)] : P8 l c d = some (decide (∃ s ∈ l, s.Section = c)) :=
 z5a (fun s : Q2 => s.Section = c) (fun k hk => by
  unfold q0Y q2M
  rw [Z3 hk, Ka, Ka]
  by_cases h : l[k].Section = c
  ·rw [if_pos (decide_eq_true h), if_pos h]
  ·rw [if_neg (fun e => h (of_decide_eq_true e)), if_neg h])
theorem z4E (h : Inv n ro ne bo gt mp ar) (l : List Q2) (hl : ∀ s ∈ l, q5F n s) : ∃ b, H0 l a1 a2 a3 a4 a5 a6 a7 bo a9 b1 b2 = some b ∧ (b = false → ∀ s ∈ l, ∃ z, idx bo s.Section = some z ∧ (decide (0 < z.axles) || z.disturbed) = false) := by
 classical
 have key : H0 l a1 a2 a3 a4 a5 a6 a7 bo a9 b1 b2 = some (decide (∃ s ∈ l, ∃ z, idx bo s.Section = some z ∧ (decide (0 < z.axles) || z.disturbed) = true)) :=
  z5a (fun s : Q2 => ∃ z, idx bo s.Section = some z ∧ (decide (0 < z.axles) || z.disturbed) = true) (fun k hk => by
   obtain ⟨z, z1, _⟩ := h.B.get (hl _ (List.getElem_mem hk)).1.1
   have z1 : idx bo l[k].Section = some z := z1
   unfold q0X q2L
   rw [Z3 hk, Ka, z1, Ka, q4V, Ka, Ka]
   by_cases c : (decide (0 < z.axles) || z.disturbed) = true
   ·rw [if_pos c, if_pos ⟨z, rfl, c⟩]
   ·rw [if_neg c, if_neg (fun ⟨w, w1, w2⟩ => c (by rw [Kd w1]; exact w2))])
 refine ⟨_, key, fun hb s hs => ?_⟩
 have hb := of_decide_eq_false hb
 obtain ⟨z, z1, _⟩ := h.B.get (hl s hs).1.1
 refine ⟨z, z1, ?_⟩
 cases hz : (decide (0 < z.axles) || z.disturbed) with
 | false => rfl
 | true => exact absurd ⟨s, hs, z, z1, hz⟩ hb
theorem j0K (F : Fix n ro ne) (h : Inv n ro ne bo gt mp ar) {k : Int} {x : j0} (hx : V4 ar k = some x) (kx : LOk n ro ne k x) :
  ∃ b, Y8 (some k) a1 a2 a3 a4 n.Gates a6 a7 ar bo gt mp = some b ∧ (b = true → j0a n bo gt x) := by
 classical
 have hst : ∀ s ∈ x.Route.Steps, q5F n s := by rw [kx.route]; exact (F.rok kx.kr).way.path.step
 unfold Y8
 rw [q9j F kx hx, Ka]
 rcases q1n (body := q1g bo (J6 x)) (fun j _ => ∀ i (hi : i < (J6 x).length), i < j → 0 < (J6 x)[i].Position → ∃ s, idx bo (J6 x)[i].Place = some s ∧ (decide (s.moving = 0) && !s.failed) = true ∧ s.position = (J6 x)[i].Position) (fun t => t = false) (J6 x).length 0 () (fun i hi h0 => by omega) (fun j s _ hj hI => by
  have hj : j < (J6 x).length := by omega
  unfold q1g
  rw [Z3 hj, Ka]
  by_cases cp : 0 < (J6 x)[j].Position
  ·obtain ⟨s, s1, _⟩ := h.B.get ((kx.need F (q2k.1 (List.getElem_mem hj)).1).place (.inr (.inr (by omega))))
   rw [if_pos cp, s1, Ka, z8j, Ka]
   by_cases cs : (decide (s.moving = 0) && !s.failed) = true
   ·rw [if_pos cs, Ka, Ka]
    by_cases cq : s.position = (J6 x)[j].Position
    ·rw [if_neg (fun e => absurd cq (of_decide_eq_true e))]
     refine .inl ⟨_, rfl, fun i hi hij hp => ?_⟩
     by_cases e : i = j
     ·subst e
      exact ⟨s, s1, cs, cq⟩
     ·exact hI i hi (by omega) hp
    ·rw [if_pos (decide_eq_true cq)]
     exact .inr ⟨_, rfl, rfl⟩
   ·rw [if_neg cs, Ka, if_pos rfl]
    exact .inr ⟨_, rfl, rfl⟩
  ·rw [if_neg cp, Ka, if_neg Kh]
   refine .inl ⟨_, rfl, fun i hi hij hp => ?_⟩
   by_cases e : i = j
   ·subst e
    exact absurd hp cp
   ·exact hI i hi (by omega) hp) with ⟨u, h1, h2⟩ | ⟨t, h1, h2⟩
 ·rw [h1, Ka, Sum.elim_inl]
  rcases q1n (body := V2 n.Gates ar gt) (fun j q => q = some k ∧ ∀ i : Nat, i < j → (∃ s ∈ x.Route.Steps, s.Section = ((n.Gates[i]?).getD ⟨0, 0⟩).Section) → ∃ g, idx gt (i : Int) = some g ∧ (g.wanted && decide (g.left = 0) && !g.failed) = true) (fun t => t = false) n.Gates.length 0 (some k) ⟨rfl, fun i hi => by omega⟩ (fun j q _ hj hI => by
   obtain ⟨hq, hI⟩ := hI
   subst hq
   have hj : j < n.Gates.length := by omega
   unfold V2
   rw [Z3 hj, Ka, Ka, hx, Ka, z4F, Ka]
   obtain ⟨g, g1, _⟩ := h.G.get (i := (j : Int)) ⟨by omega, by omega⟩
   have hgj : ((n.Gates[j]?).getD ⟨0, 0⟩) = n.Gates[j] := by rw [Kf hj]; rfl
   by_cases co : ∃ s ∈ x.Route.Steps, s.Section = n.Gates[j].Section
   ·rw [if_pos (decide_eq_true co), g1, Ka, z4H, Ka, Ka]
    by_cases cc : (g.wanted && decide (g.left = 0) && !g.failed) = true
    ·rw [cc, if_neg (by decide)]
     refine .inl ⟨_, rfl, rfl, fun i hi hs => ?_⟩
     by_cases e : i = j
     ·subst e
      exact ⟨g, g1, cc⟩
     ·exact hI i (by omega) hs
    ·rw [Bool.eq_false_iff.2 cc, if_pos (show (!false) = true from rfl)]
     exact .inr ⟨_, rfl, rfl⟩
   ·rw [if_neg (fun e => co (of_decide_eq_true e)), Ka, if_neg Kh]
    refine .inl ⟨_, rfl, rfl, fun i hi hs => ?_⟩
    by_cases e : i = j
    ·subst e
     rw [hgj] at hs
     exact absurd hs co
    ·exact hI i (by omega) hs) with ⟨q, h3, hq, h4⟩ | ⟨t, h3, h4⟩
  ·subst hq
   rw [h3, Ka, Sum.elim_inl, Ka, hx, Ka]
   have hpts : ∀ y ∈ J6 x, 0 < y.Position → ∃ s, idx bo y.Place = some s ∧ (decide (s.moving = 0) && !s.failed) = true ∧ s.position = y.Position := fun y hy hp => by
    obtain ⟨i, hi, rfl⟩ := List.getElem_of_mem hy
    exact h2 i hi (by omega) hp
   have hgts : ∀ j : Nat, j < n.Gates.length → (∃ s ∈ x.Route.Steps, s.Section = ((n.Gates[j]?).getD ⟨0, 0⟩).Section) → ∃ g, idx gt (j : Int) = some g ∧ (g.wanted && decide (g.left = 0) && !g.failed) = true := fun j hj => h4 j (by omega)
   by_cases cs : x.sight = true
   ·rw [if_pos cs]
    exact ⟨_, rfl, fun _ => ⟨hpts, hgts, .inl cs⟩⟩
   ·obtain ⟨b, c1, c2⟩ := z4E (a1 := a1) (a2 := a2) (a3 := a3) (a4 := a4) (a5 := n.Gates) (a6 := a6) (a7 := a7) (a9 := gt) (b1 := mp) (b2 := ar) h x.Route.Steps hst
    rw [if_neg cs, c1]
    refine ⟨_, rfl, fun hb => ⟨hpts, hgts, .inr (c2 (by simpa using hb))⟩⟩
  ·rw [h3, h4]
   exact ⟨false, rfl, fun h => by cases h⟩
 ·rw [h1, h2]
  exact ⟨false, rfl, fun h => by cases h⟩
def z5W (n : v6) (bo : List q8) (gt : List z6) (mp : List (Int × Option Int)) (ar : List (Int × j0)) (g v : Int) : Prop :=
 v ≠ 0 → ∃ k x, (k, some k) ∈ mp ∧ V4 ar k = some x ∧ x.Route.From = g ∧ x.seen[0]? = some false ∧ j0a n bo gt x ∧ (v = 1 ↔ x.sight = true)
theorem q7M (F : Fix n ro ne) (h : Inv n ro ne bo gt mp ar) : ∀ (N : Nat) (g : Int) (d : List Int), 0 ≤ g ∧ g < (n.Signals.length : Int) → d.Nodup → (∀ s ∈ d, 0 ≤ s ∧ s < (n.Signals.length : Int)) →
  (Q6 N g a1 a2 a3 n.Signals n.Gates a6 a7 d bo gt mp ar = none ∧ N + d.length ≤ n.Signals.length) ∨ ∃ v d', Q6 N g a1 a2 a3 n.Signals n.Gates a6 a7 d bo gt mp ar = some (v, d') ∧ z5W n bo gt mp ar g v
 | 0, g, d, hg, hn, hd => by
  refine .inl ⟨rfl, ?_⟩
  have := q8c (L := (List.range n.Signals.length).map fun i : Nat => (i : Int)) hn (fun s hs => by
   have := hd s hs
   exact List.mem_map.2 ⟨s.toNat, List.mem_range.2 (by omega), by omega⟩)
  simpa using this
 | N + 1, g, d, hg, hn, hd => by
  classical
  have hsig := F.net.g40
  have hdl := q8c (L := (List.range n.Signals.length).map fun i : Nat => (i : Int)) hn (fun s hs => by
   have := hd s hs
   exact List.mem_map.2 ⟨s.toNat, List.mem_range.2 (by omega), by omega⟩)
  simp only [List.length_map, List.length_range] at hdl
  unfold Q6
  rw [z5L, Ka]
  by_cases cd : ∃ y ∈ d, g = y
  ·rw [if_pos (decide_eq_true cd)]
   exact .inr ⟨0, d, rfl, fun h => absurd rfl h⟩
  ·have hgd : g ∉ d := fun hm => cd ⟨g, hm, rfl⟩
   rw [if_neg (fun e => cd (of_decide_eq_true e)), q7a F h, Ka]
   have hlenm : (((mp.map (·.1)).mergeSort fun x y => decide (x ≤ y)).map some).length = ((mp.map (·.1)).mergeSort fun x y => decide (x ≤ y)).length := List.length_map _
   have hkept := h.kept
   have hmem : ∀ k ∈ ((mp.map (·.1)).mergeSort fun x y => decide (x ≤ y)), (k, some k) ∈ mp := fun k hk => by
    obtain ⟨p, hp, rfl⟩ := List.mem_map.1 (q5v.1 hk)
    have := (h.en p hp).1
    rw [← this]
    exact hp
   generalize ((mp.map (·.1)).mergeSort fun x y => decide (x ≤ y)) = ks at hlenm hkept hmem ⊢
   have hd' : (d ++ [g]).Nodup := by
    rw [List.nodup_append]
    exact ⟨hn, by simp, fun a ha b hb => by
     rw [List.mem_singleton.1 hb]
     exact fun e => hgd (e ▸ ha)⟩
   have hdr : ∀ s ∈ d ++ [g], 0 ≤ s ∧ s < (n.Signals.length : Int) := fun s hs => by
    rcases List.mem_append.1 hs with hs | hs
    ·exact hd s hs
    ·rw [List.mem_singleton.1 hs]; exact hg
   have key : (forM (Z0 a1 a2 a3 n.Signals n.Gates a6 a7 d bo gt mp ar g (ks.map some) (Q6 N)) (ks.map some).length 0 () = none ∧ N + (d ++ [g]).length ≤ n.Signals.length) ∨
     (∃ t, forM (Z0 a1 a2 a3 n.Signals n.Gates a6 a7 d bo gt mp ar g (ks.map some) (Q6 N)) (ks.map some).length 0 () = some t ∧ ∀ v, t = .inr v → z5W n bo gt mp ar g v.1) := by
    have hbody : ∀ j, j < (ks.map some).length → (Z0 a1 a2 a3 n.Signals n.Gates a6 a7 d bo gt mp ar g (ks.map some) (Q6 N) j () = none ∧ N + (d ++ [g]).length ≤ n.Signals.length) ∨ Z0 a1 a2 a3 n.Signals n.Gates a6 a7 d bo gt mp ar g (ks.map some) (Q6 N) j () = some (.inl ()) ∨ ∃ v, Z0 a1 a2 a3 n.Signals n.Gates a6 a7 d bo gt mp ar g (ks.map some) (Q6 N) j () = some (.inr v) ∧ z5W n bo gt mp ar g v.1 := fun j hj => by
     have hjk : j < ks.length := by rw [← hlenm]; exact hj
     obtain ⟨x, hx, kx⟩ := hkept _ (List.getElem_mem hjk)
     have hkm := hmem _ (List.getElem_mem hjk)
     unfold Z0
     rw [Z3 hj, List.getElem_map, Ka, Ka, hx, Ka]
     by_cases cf : x.Route.From ≠ g
     ·rw [if_pos cf, K3, if_pos rfl]
      exact .inr (.inl rfl)
     ·have cf : x.Route.From = g := Classical.not_not.1 cf
      obtain ⟨b, s1, s2⟩ := kx.seen0 F
      rw [if_neg (fun h => h cf), s1, Ka]
      cases b with
      | true =>
       rw [if_pos rfl, K3, if_pos rfl]
       exact .inr (.inl rfl)
      | false =>
       rw [if_neg Kh]
       by_cases cl : 0 < x.leave
       ·rw [if_pos cl, K3, if_pos rfl]
        exact .inr (.inl rfl)
       ·obtain ⟨rb, r1, r2⟩ := j0K (a1 := a1) (a2 := a2) (a3 := a3) (a4 := n.Signals) (a6 := a6) (a7 := a7) F h hx kx
        rw [if_neg cl, r1, Ka, K3]
        cases rb with
        | false =>
         rw [if_pos (show (!false) = true from rfl)]
         exact .inr (.inl rfl)
        | true =>
         have hR := r2 rfl
         rw [if_neg (by decide), Ka, hx, Ka]
         by_cases cs : x.sight = true
         ·rw [if_pos cs]
          exact .inr (.inr ⟨_, rfl, fun _ => ⟨_, x, hkm, hx, cf, s2, hR, fun _ => cs, fun _ => rfl⟩⟩)
         ·rw [if_neg cs, Ka]
          have hshow : ∀ v : Int, v = 3 ∨ v = 2 → z5W n bo gt mp ar g v := fun v hv _ => ⟨_, x, hkm, hx, cf, s2, hR, fun e => by omega, fun e => absurd e cs⟩
          by_cases ct : 0 ≤ x.Route.To
          ·have hto : 0 ≤ x.Route.To ∧ x.Route.To < (n.Signals.length : Int) := by
            have := j1M (F.rok kx.kr) (by rw [← kx.route]; omega)
            rw [← kx.route] at this
            exact this
           rw [if_pos ct, q0W (by omega) (by omega), Ka]
           rcases q7M F h N x.Route.To (d ++ [g]) hto hd' hdr with ⟨q1, q2⟩ | ⟨v, d', q1, _⟩
           ·rw [q1]
            exact .inl ⟨rfl, q2⟩
           ·rw [q1, K3, K3]
            split
            ·exact .inr (.inr ⟨_, rfl, hshow 3 (.inl rfl)⟩)
            ·exact .inr (.inr ⟨_, rfl, hshow 2 (.inr rfl)⟩)
          ·rw [if_neg ct, K3, if_neg Kh]
           exact .inr (.inr ⟨_, rfl, hshow 2 (.inr rfl)⟩)
    have gen : ∀ (m k : Nat), k + m ≤ (ks.map some).length → (forM (Z0 a1 a2 a3 n.Signals n.Gates a6 a7 d bo gt mp ar g (ks.map some) (Q6 N)) m k () = none ∧ N + (d ++ [g]).length ≤ n.Signals.length) ∨
      (∃ t, forM (Z0 a1 a2 a3 n.Signals n.Gates a6 a7 d bo gt mp ar g (ks.map some) (Q6 N)) m k () = some t ∧ ∀ v, t = .inr v → z5W n bo gt mp ar g v.1) := by
     intro m
     induction m with
     | zero => exact fun k _ => .inr ⟨_, rfl, fun v hv => by cases hv⟩
     | succ m ih =>
      intro k hk
      rcases hbody k (by omega) with ⟨h1, h2⟩ | h1 | ⟨v, h1, h2⟩
      ·exact .inl ⟨by simp only [Fp.forM, h1], h2⟩
      ·rw [z3n h1]
       exact ih (k + 1) (by omega)
      ·exact .inr ⟨_, z3m h1, fun w hw => by injection hw with hw; rw [← hw]; exact h2⟩
    exact gen _ 0 (by omega)
   rcases key with ⟨h1, h2⟩ | ⟨t, h1, h2⟩
   ·rw [h1]
    exact .inl ⟨rfl, by simp at h2; omega⟩
   ·rw [h1, Ka]
    cases t with
    | inl u =>
     rw [Sum.elim_inl]
     exact .inr ⟨0, d, rfl, fun h => absurd rfl h⟩
    | inr v =>
     obtain ⟨v, d'⟩ := v
     rw [Sum.elim_inr]
     exact .inr ⟨v, d', rfl, h2 _ rfl⟩
theorem z9S (F : Fix n ro ne) (h : Inv n ro ne bo gt mp ar) {g : Int} (hg : 0 ≤ g ∧ g < (n.Signals.length : Int)) : ∃ v, K9 g a1 a2 a3 n.Signals n.Gates a6 a7 bo gt mp ar = some (v, 0) ∧ z5W n bo gt mp ar g v := by
 have hl : ∃ t, lim (fun N => Q6 N g a1 a2 a3 n.Signals n.Gates a6 a7 ([] : List Int) bo gt mp ar) = some t ∧ z5W n bo gt mp ar g t.1 := by
  refine z2s ?_ (fun N t ht => ?_)
  ·rcases q7M (a1 := a1) (a2 := a2) (a3 := a3) (a6 := a6) (a7 := a7) F h (n.Signals.length + 1) g [] hg .nil (fun s hs => by cases hs) with ⟨_, h2⟩ | ⟨v, d', h1, _⟩
   ·simp at h2
    omega
   ·exact ⟨_, _, h1⟩
  ·rcases q7M (a1 := a1) (a2 := a2) (a3 := a3) (a6 := a6) (a7 := a7) F h N g [] hg .nil (fun s hs => by cases hs) with ⟨h1, _⟩ | ⟨v, d', h1, h2⟩
   ·rw [h1] at ht; cases ht
   ·rw [h1] at ht
    rw [← Kd ht]
    exact h2
 obtain ⟨⟨v, d'⟩, h1, h2⟩ := hl
 unfold K9
 rw [z3l, Ka, if_neg (fun e => absurd hg (of_decide_eq_true e)), h1, K3]
 exact ⟨v, rfl, h2⟩
end
theorem z4s {ν : Type} {x y : Int × ν} (h : x.1 ≠ y.1) : ∀ r : List (Int × ν), z5A x (z5A y r) = z5A y (z5A x r)
 | [] => by
  by_cases c : x.1 ≤ y.1
  ·have c2 : ¬ y.1 ≤ x.1 := by omega
   simp only [z5A, if_pos c, if_neg c2]
  ·have c2 : y.1 ≤ x.1 := by omega
   simp only [z5A, if_neg c, if_pos c2]
 | q :: r => by
  by_cases c1 : x.1 ≤ q.1
  ·by_cases c2 : y.1 ≤ q.1
   ·by_cases c : x.1 ≤ y.1
    ·have c3 : ¬ y.1 ≤ x.1 := by omega
     simp only [z5A, if_pos c, if_neg c3, if_pos c1, if_pos c2]
    ·have c3 : y.1 ≤ x.1 := by omega
     simp only [z5A, if_neg c, if_pos c3, if_pos c1, if_pos c2]
   ·have c3 : ¬ y.1 ≤ x.1 := by omega
    simp only [z5A, if_neg c3, if_pos c1, if_neg c2]
  ·by_cases c2 : y.1 ≤ q.1
   ·have c3 : ¬ x.1 ≤ y.1 := by omega
    simp only [z5A, if_neg c3, if_neg c1, if_pos c2]
   ·simp only [z5A, if_neg c1, if_neg c2, z4s h r]
theorem z5s {ν : Type} {l l' : List (Int × ν)} (h : l.Perm l') : (l.map (·.1)).Nodup → q6g l = q6g l' := by
 induction h with
 | nil => intro _; rfl
 | cons x h ih =>
  intro hn
  simp only [List.map_cons, List.nodup_cons] at hn
  simp only [q6g, ih hn.2]
 | swap x y r =>
  intro hn
  simp only [List.map_cons, List.nodup_cons, List.mem_cons, not_or] at hn
  simp only [q6g, z4s hn.1.1]
 | trans h1 h2 ih1 ih2 => intro hn; rw [ih1 hn, ih2 ((h1.map _).nodup_iff.1 hn)]
def noL : j0 := ⟨⟨0, 0, []⟩, [], [], [], false, false, 0, 0, 0⟩
def pk (ar : List (Int × j0)) (d : List (Int × Option Int)) : List (Int × j0) := d.map fun e => (e.1, (V4 ar e.1).getD noL)
theorem z0L (ar : List (Int × j0)) (d : List (Int × Option Int)) : (pk ar d).map (·.1) = d.map (·.1) := by
 unfold pk
 rw [List.map_map]
 rfl
theorem z6m {ν : Type} {d : List (Int × ν)} (hn : (d.map (·.1)).Nodup) {k : Int} (hk : k ∉ d.map (·.1)) (v : ν) : q6g (G1 (q6g d) k v) = q6g (d ++ [(k, v)]) := by
 have h1 := q3A d
 have h2 : k ∉ (q6g d).map (·.1) := fun h => hk ((h1.map _).subset h)
 have h3 : G1 (q6g d) k v = q6g d ++ [(k, v)] := z6n h2 v
 rw [h3]
 refine z5s (h1.append_right _) ?_
 rw [List.map_append, List.nodup_append]
 refine ⟨(h1.map _).nodup_iff.2 hn, by simp, fun a ha b hb e => h2 ?_⟩
 have hb : b = k := by simpa using hb
 rw [← hb, ← e]
 exact ha
theorem q5A {τ : Type} {body : Nat → Unit → Option (Unit ⊕ τ)} {m : Nat} (hb : ∀ j, j < m → body j () = some (.inl ())) : Fp.forM body m 0 () = some (.inl ()) := by
 rcases q1n (body := body) (fun _ _ => True) (fun _ => False) m 0 () trivial (fun j s _ hj _ => .inl ⟨(), hb j (by omega), trivial⟩) with ⟨s, h1, _⟩ | ⟨_, _, h⟩
 ·exact h1
 ·exact h.elim
theorem z8t {β γ τ : Type} {A : β → γ → τ} {y : β} {z : γ} : K5 A (y, z) = A y z := rfl
section
variable {n : v6} {ro : List j1} {ne : List (List q9)} {bo : List q8} {gt : List z6} {mp mp' : List (Int × Option Int)} {ar ar' : List (Int × j0)}
variable {a1 : List ByteArray} {a2 : List z7} {a3 : List w5} {a4 : List j7} {a5 : List Q1} {a6 : List j1} {a7 : List (List q9)} {a8 : List q8} {a9 : List z6}
theorem z4D (F : Fix n ro ne) : ∀ (r d : List (Int × Option Int)), ((d ++ r).map (·.1)).Nodup → (∀ e ∈ d ++ r, e.2 = some e.1 ∧ ∃ x, V4 ar e.1 = some x ∧ LOk n ro ne e.1 x) →
  q4k (H8 ar) r (q6g d, q6g (pk ar d)) = some (.inl (q6g (d ++ r), q6g (pk ar (d ++ r))))
 | [], d, _, _ => by rw [List.append_nil]; rfl
 | e :: r, d, hn, hE => by
  obtain ⟨k, v⟩ := e
  obtain ⟨hv, x, hx, kx⟩ := hE (k, v) (by simp)
  have hv : v = some k := hv
  have hx : V4 ar k = some x := hx
  subst hv
  have hm : x.Route.Steps.length ≤ 16 := by rw [kx.route]; exact (F.rok kx.kr).way.many
  have h1 := kx.seen
  have h2 := kx.gone
  have hdn : (d.map (·.1)).Nodup := by
   rw [List.map_append, List.nodup_append] at hn
   exact hn.1
  have hk : k ∉ d.map (·.1) := fun h => by
   rw [List.map_append, List.nodup_append] at hn
   exact hn.2.2 k h k (by simp) rfl
  have hno : q9B (q6g d) k = some () := by
   unfold q9B
   rw [if_pos]
   rw [List.all_eq_true]
   intro p hp
   have hp' := (q3A d).subset hp
   have h3 := (hE p (List.mem_append_left _ hp')).1
   refine decide_eq_true fun h4 => hk ?_
   rw [h3] at h4
   rw [← Kd h4]
   exact List.mem_map_of_mem hp'
  have hb : H8 ar (k, some k) (q6g d, q6g (pk ar d)) = some (.inl (q6g (d ++ [(k, some k)]), q6g (pk ar (d ++ [(k, some k)])))) := by
   have e1 : q6g (G1 (q6g (pk ar d)) k x) = q6g (pk ar (d ++ [(k, some k)])) := by
    rw [z6m (by rw [z0L]; exact hdn) (by rw [z0L]; exact hk)]
    unfold pk
    rw [List.map_append]
    show _ = q6g (_ ++ [(k, (V4 ar k).getD noL)])
    rw [hx]
    rfl
   unfold H8 q2c
   rw [z8t]
   show (some k).bind _ = _
   rw [Ka, hx, Ka, Ka, q0W (by omega) (by omega), Ka, Ka, q0W (by omega) (by omega), Ka, Ka, K3, kx.num, hno, Ka, z6m hdn hk, ← e1]
   have e2 : (⟨x.Route, x.needs, x.seen, x.gone, x.laps, x.sight, x.leave, x.clock, k⟩ : j0) = x := by
    have hnum : x.number = k := kx.num
    rw [← hnum]
   rw [e2]
  have ih := z4D F r (d ++ [(k, some k)]) (by simpa using hn) (fun e he => hE e (by simpa using he))
  rw [q4k, hb]
  simp only
  rw [ih]
  simp
theorem j3B (F : Fix n ro ne) (hg : n.Gates.length ≤ 8) (h : Inv n ro ne bo gt mp ar) : ∃ mp' ar', q3I a1 a2 a3 a4 a5 a6 a7 bo gt mp ar = some (a1, a2, a3, a4, a5, a6, a7, mp, bo, gt, mp', ar') ∧ j4b mp ar mp' ar' := by
 have h1 := F.net.n60
 have h2 := h.bl
 have h3 := h.gl
 have e : ∀ {α : Type} (z : α) (l : List α), z1R (List.replicate l.length z) l = l := fun z l => by
  unfold z1R
  rw [List.length_replicate, List.take_length, List.drop_of_length_le (by simp), List.append_nil]
 refine ⟨q6g mp, q6g (pk ar mp), ?_, (q3A mp).symm, fun p hp => ?_⟩
 ·unfold q3I
  rw [q8e (by omega) (by omega), Ka, q8e (by omega) (by omega), Ka, j4H]
  have e1 : z3U (fun p => q4k (H8 ar) p (([] : List (Int × Option Int)), ([] : List (Int × j0)))) mp = some (.inl (q6g mp, q6g (pk ar mp))) := z3f fun p hp => by
   have hn := (hp.map (·.1)).nodup_iff.2 h.nd
   have h4 := z4D (ar := ar) F p [] (by simpa using hn) (fun e he => h.en e (hp.subset (by simpa using he)))
   rw [List.nil_append] at h4
   have h5 : q6g p = q6g mp := z5s hp hn
   have h6 : q6g (pk ar p) = q6g (pk ar mp) := z5s (hp.map _) (by rw [z0L]; exact hn)
   rw [h5, h6] at h4
   exact h4
  rw [e1, Ka, Sum.elim_inl, z8t, z1M, e, e]
 ·obtain ⟨_, x, hx, _⟩ := h.en p hp
  rw [z4k (q3A (pk ar mp)) (((q3A _).map _).nodup_iff.2 (by rw [z0L]; exact h.nd)) p.1, hx]
  refine z5t (by rw [z0L]; exact h.nd) ?_
  refine List.mem_map.2 ⟨p, hp, ?_⟩
  rw [hx]
  rfl
theorem eqN (l : List q9) : q3B l l = some true := by
 unfold q3B
 rw [if_neg (by simp), q5A (fun j hj => by
  unfold q3i
  rw [Z3 hj, Ka, Ka, if_pos ⟨rfl, rfl, rfl, rfl⟩])]
 rfl
theorem eqI (l : List Int) : q2b l l = some true := by
 unfold q2b
 rw [if_neg (by simp), q5A (fun j hj => by
  unfold q2q
  rw [Z3 hj, Ka, Ka, if_neg (by simp)])]
 rfl
theorem j1z (F : Fix n ro ne) (h : Inv n ro ne bo gt mp ar) (s : j4b mp ar mp' ar') :
  q1E n a1 n.Sections a3 n.Signals n.Gates ro ne a1 n.Sections a3 n.Signals n.Gates ro ne bo gt mp' ar' bo gt mp ar = some (true, mp', mp) := by
 have h' := h.same s
 unfold q1E
 have e1 : Fp.forM (Y7 a1 n.Sections a3 n.Signals n.Gates ro ne a1 n.Sections a3 n.Signals n.Gates ro ne bo gt ar' bo gt ar) n.Sections.length 0 (mp', mp) = some (.inl (mp', mp)) := by
  rcases q1n (body := Y7 a1 n.Sections a3 n.Signals n.Gates ro ne a1 n.Sections a3 n.Signals n.Gates ro ne bo gt ar' bo gt ar) (fun _ s => s = (mp', mp)) (fun _ => False) n.Sections.length 0 (mp', mp) rfl (fun j q _ hj hq => by
   subst hq
   have hd : (0 : Int) ≤ (j : Int) ∧ (j : Int) < (bo.length : Int) := by have := h.bl; omega
   obtain ⟨r1, q1⟩ := z7e (a1 := a1) (a2 := n.Sections) (a3 := a3) (a4 := n.Signals) (a5 := n.Gates) (a6 := ro) (a7 := ne) (a9 := gt) h j hd
   obtain ⟨r2, q2, q3⟩ := z7l (a1 := a1) (a2 := n.Sections) (a3 := a3) (a4 := n.Signals) (a5 := n.Gates) (a6 := ro) (a7 := ne) F h s j hd
   obtain ⟨r3, r4, r5, q4⟩ := z3c (a1 := a1) (a3 := a3) (a4 := n.Signals) (a5 := n.Gates) (a6 := ro) (a7 := ne) (a9 := gt) h j
   refine .inl ⟨_, ?_, rfl⟩
   unfold Y7
   show Option.bind _ _ = _
   rw [q1, K3, q1, K3, q3, z1M, q2, z1M, q4, z1M, q4, z1M, if_neg (by simp), if_neg (by simp), if_neg (by simp), Ka, if_neg (by simp)]) with ⟨q, g1, g2⟩ | ⟨_, _, hF⟩
  ·rw [g1, g2]
  ·exact hF.elim
 have e2 : Fp.forM (q0v a1 n.Sections a3 n.Signals n.Gates ro ne a1 n.Sections a3 n.Signals n.Gates ro ne bo gt ar' bo gt ar mp' mp) n.Signals.length 0 () = some (.inl ()) := q5A fun j hj => by
  obtain ⟨v, q1, _⟩ := z9S (a1 := a1) (a2 := n.Sections) (a3 := a3) (a6 := ro) (a7 := ne) F h (g := j) ⟨by omega, by omega⟩
  unfold q0v
  rw [← z5V F h s, q1, K3, K3, if_neg (by simp)]
 have e3 : Fp.forM (q0u a1 n.Sections a3 n.Signals n.Gates ro ne a1 n.Sections a3 n.Signals n.Gates ro ne bo gt ar' bo gt ar mp' mp) n.Gates.length 0 () = some (.inl ()) := q5A fun j hj => by
  obtain ⟨v, q1⟩ := z5M (a1 := a1) (a2 := n.Sections) (a3 := a3) (a4 := n.Signals) (a5 := n.Gates) (a6 := ro) (a7 := ne) (a8 := bo) (gt := gt) j ⟨by omega, by have := h.gl; omega⟩
  unfold q0u
  rw [q1, K3, q1, K3, if_neg (by simp)]
 have e4 : Fp.forM (q0t a1 n.Sections a3 n.Signals n.Gates ro ne a1 n.Sections a3 n.Signals n.Gates ro ne bo gt ar' bo gt ar mp' mp ((mp'.map (·.1)).mergeSort fun x y => decide (x ≤ y))) ((mp'.map (·.1)).mergeSort fun x y => decide (x ≤ y)).length 0 () = some (.inl ()) := q5A fun j hj => by
  generalize hks : ((mp'.map (·.1)).mergeSort fun x y => decide (x ≤ y)) = ks at *
  have hk' : ks[j] ∈ mp'.map (·.1) := q5v.1 (by rw [hks]; exact List.getElem_mem hj)
  have hk := (s.pm.map (·.1)).symm.subset hk'
  obtain ⟨p, hp, hpk⟩ := List.mem_map.1 hk
  obtain ⟨_, x, hx, kx⟩ := h.en p hp
  have hx' := s.cell p hp
  rw [hx] at hx'
  rw [hpk] at hx kx hx'
  unfold q0t
  rw [Z3 hj, Ka, j1U F h' hk' hx' kx, K3, j1U F h hk hx kx, K3, j1G F h' hk' hx' kx, K3, j1G F h hk hx kx, K3, eqN, Ka, if_pos rfl, Ka, if_neg (by simp)]
 rw [e1, Ka, Sum.elim_inl, z8t, e2, Ka, Sum.elim_inl, e3, Ka, Sum.elim_inl, z0J F h', Ka, e4, Ka, Sum.elim_inl, Ka, z0J F h, Ka, z8S s, eqI, Ka]
end
def bx : ByteArray := ByteArray.mk #[120]
theorem j0E : K8 bx (ByteArray.mk #[10]) = some [bx] := by
 have e : W3 bx (ByteArray.mk #[10]) 0 1 (bx, 0, [ByteArray.empty]) = some (.inr (bx, 0, [ByteArray.empty])) := by kernel_rfl
 have h : q0M bx (ByteArray.mk #[10]) 0 (-1) = (q8i (W3 bx (ByteArray.mk #[10]) 0 1) (bx, 0, [ByteArray.empty])).bind (q4L fun x414 x415 l416 => (idx l416 x415).bind fun _ => (chk (x415 + 1)).bind fun _ => (z7X (put l416 x415 x414) 0 (x415 + 1)).bind fun l542 => some l542) := by kernel_rfl
 unfold K8
 rw [h, q9b e]
 rfl
theorem j0D : K8 bx (ByteArray.mk #[32]) = some [bx] := by
 have e : W3 bx (ByteArray.mk #[32]) 0 1 (bx, 0, [ByteArray.empty]) = some (.inr (bx, 0, [ByteArray.empty])) := by kernel_rfl
 have h : q0M bx (ByteArray.mk #[32]) 0 (-1) = (q8i (W3 bx (ByteArray.mk #[32]) 0 1) (bx, 0, [ByteArray.empty])).bind (q4L fun x414 x415 l416 => (idx l416 x415).bind fun _ => (chk (x415 + 1)).bind fun _ => (z7X (put l416 x415 x414) 0 (x415 + 1)).bind fun l542 => some l542) := by kernel_rfl
 unfold K8
 rw [h, q9b e]
 rfl
theorem j3m : q4r bx = some (false, [[bx]]) := by
 have h : q4r bx = (K8 bx (ByteArray.mk #[10])).bind fun l147 => (q5z (q0y l147) l147.length 0 ([] : (List (List ByteArray)))).bind (fun l239 => some (false, l239)) := by kernel_rfl
 rw [h, j0E, Ka]
 have e : q0y [bx] 0 [] = some [[bx]] := by
  have h2 : q0y [bx] 0 [] = (K8 bx (ByteArray.mk #[32])).bind fun l259 => some [l259] := by kernel_rfl
  rw [h2, j0D]
  rfl
 show ((q0y [bx] 0 []).bind fun s => some s).bind _ = _
 rw [e]
 rfl
theorem z2C : K4 = some true := by
 unfold K4 q8g
 rw [if_neg (by decide), show q4r (ByteArray.mk #[120]) = some (false, [[bx]]) from j3m, K3, if_neg (by decide)]
 rfl
theorem z1g {n : v6} (h : P6 n = some 0) : n.Links.length ≤ 90 ∧ n.Gates.length ≤ 8 := by
 unfold P6 at h
 by_cases h0 : (n.Sections.length : Int) = 0
 ·rw [if_pos h0] at h; cases h
 ·rw [if_neg h0] at h
  by_cases c1 : 12 < (n.Stations.length : Int)
  ·rw [if_pos c1, Ka, if_pos rfl] at h; cases h
  ·rw [if_neg c1] at h
   by_cases c2 : 60 < (n.Sections.length : Int)
   ·rw [if_pos c2, Ka, if_pos rfl] at h; cases h
   ·rw [if_neg c2] at h
    by_cases c3 : 90 < (n.Links.length : Int)
    ·rw [if_pos c3, Ka, if_pos rfl] at h; cases h
    ·rw [if_neg c3] at h
     by_cases c4 : 40 < (n.Signals.length : Int)
     ·rw [if_pos c4, Ka, if_pos rfl] at h; cases h
     ·rw [if_neg c4, Ka] at h
      by_cases c5 : 8 < (n.Gates.length : Int)
      ·rw [if_pos (decide_eq_true c5)] at h; cases h
      ·exact ⟨by omega, by omega⟩
section
variable {n : v6}
theorem j0G {ro : List j1} (hr : q0H n = some (0, ro)) (hm : ro.length ≤ 81) {k : Int} (hk : 0 ≤ k ∧ k < (ro.length : Int)) : q6v n [k] = some (0, ro) := by
 unfold q6v
 rw [hr, K3, if_neg (by decide), q5A (fun j hj => by
  have hj : j = 0 := by simpa using hj
  subst hj
  unfold q5Q
  rw [Z3 (l := [k]) (j := 0) (by simp), Ka, P0 (by omega) (by omega), Ka, q2C, Ka, if_pos (decide_eq_true (by simp; omega))])]
 rfl
theorem j4I (hN : q5G n) (hc : P6 n = some 0) : q8f n = some (n.Stations, n.Sections, n.Links, n.Signals, n.Gates) := by
 have h1 := z1g hc
 have h2 := hN.n60
 have h3 := hN.g40
 have h4 := hN.s12
 unfold q8f q3v q3u q3t q3s q3r
 rw [q0W (by omega) (by omega), Ka, Ka, q0W (by omega) (by omega), Ka, Ka, q0W (by omega) (by omega), Ka, Ka, q0W (by omega) (by omega), Ka, Ka, q0W (by omega) (by omega), Ka, Ka, z7k]
theorem j4N (hN : q5G n) (hcl : ∀ g ∈ n.Gates, g.Close ≤ 9223372036854775807) (hc : P6 n = some 0) {ro : List j1} (hr : q0H n = some (0, ro)) (hR : ∀ r ∈ ro, q4I n r) (hm : ro.length ≤ 81) :
  ∃ ne bo gt, mLockNew n = some (n.Stations, n.Sections, n.Links, n.Signals, n.Gates, ro, ne, bo, gt, [], []) ∧ Fix n ro ne ∧ Inv n ro ne bo gt [] [] := by
 have h1 := z1g hc
 have h2 := hN.n60
 unfold mLockNew
 rw [hc, Ka, if_neg (by decide), hr, K3, if_neg (by decide), j4I hN hc, z7k, q8e (by omega) (by omega), Ka, q8e (by omega) (by omega), Ka, Ka]
 simp only [j6x]
 obtain ⟨bo, b1, b2, b3, _⟩ := F9 (body := q4h) (fun k s => s.length = n.Sections.length ∧ (∀ i : Nat, i < k → ∀ x, s[i]? = some x → x = ⟨0, false, 1, 0, false⟩) ∧ ∀ i : Nat, k ≤ i → ∀ x, s[i]? = some x → x = ⟨0, false, 0, 0, false⟩) (List.replicate n.Sections.length (⟨0, false, 0, 0, false⟩ : q8)).length 0 (List.replicate n.Sections.length ⟨0, false, 0, 0, false⟩) ⟨by simp, fun i hi => by omega, fun i _ x hx => List.eq_of_mem_replicate (List.mem_of_getElem? hx)⟩ (fun j s _ hj hI => by
  obtain ⟨i1, i2, i3⟩ := hI
  have hj : j < s.length := by simpa [i1] using hj
  have e := i3 j (by omega) _ (Kf hj)
  unfold q4h
  rw [Z3 hj, Ka, e]
  refine ⟨_, rfl, by rw [v7]; exact i1, fun i hi x hx => ?_, fun i hi x hx => ?_⟩
  ·rw [q0E, List.getElem?_set] at hx
   by_cases c : j = i
   ·rw [if_pos c, if_pos hj] at hx
    exact (Kd hx).symm
   ·rw [if_neg c] at hx
    exact i2 i (by omega) x hx
  ·rw [q0E, List.getElem?_set, if_neg (by omega)] at hx
   exact i3 i (by omega) x hx)
 rw [b1, Ka]
 obtain ⟨ne, c1, c2, c3⟩ := F9 (body := q4g n) (fun k s => s.length = k ∧ ∀ i : Nat, i < k → G3 n (roK ro i) = some (neK s i)) ro.length 0 [] ⟨rfl, fun i hi => by omega⟩ (fun j s _ hj hI => by
  obtain ⟨i1, i2⟩ := hI
  have hj : j < ro.length := by omega
  have hjk : (0 : Int) ≤ (j : Int) ∧ (j : Int) < (ro.length : Int) := ⟨by omega, by omega⟩
  have eR : roK ro (j : Int) = ro[j] := by
   unfold roK
   rw [show ((j : Int)).toNat = j by omega, Kf hj]
   rfl
  obtain ⟨q, hq⟩ := z5q hN (hR _ (List.getElem_mem hj))
  unfold q4g q7b
  rw [j0G hr hm hjk, K3, if_neg (by decide), Z3 hj, Ka, hq, Ka, K3, q0W (by omega) (by omega), Ka]
  refine ⟨_, rfl, by simp [i1], fun i hi => ?_⟩
  unfold neK
  rw [show ((i : Int)).toNat = i by omega]
  by_cases c : i = j
  ·subst c
   rw [eR, hq, ← i1, List.getElem?_concat_length]
   rfl
  ·rw [List.getElem?_append_left (by omega)]
   have := i2 i (by omega)
   unfold neK at this
   rw [show ((i : Int)).toNat = i by omega] at this
   exact this)
 rw [c1, Ka]
 have hb : ∀ s ∈ bo, s = (⟨0, false, 1, 0, false⟩ : q8) := fun s hs => by
  obtain ⟨i, hi, rfl⟩ := List.getElem_of_mem hs
  exact b3 i (by simp; omega) _ (Kf hi)
 refine ⟨ne, bo, _, rfl, ⟨hN, hR, hm, by omega, fun k hk => c3 k (by omega), hcl⟩, ⟨b2, fun s hs => ?_, by simp, fun g hg => ?_, .nil, fun p hp => (List.not_mem_nil hp).elim, fun p hp => (List.not_mem_nil hp).elim⟩⟩
 ·rw [hb s hs]
  decide
 ·rw [List.eq_of_mem_replicate hg]
  decide
theorem j3D {ro : List j1} {ne : List (List q9)} {bo : List q8} {gt : List z6} {mp : List (Int × Option Int)} {ar : List (Int × j0)} (F : Fix n ro ne) (hg : n.Gates.length ≤ 8) (h : Inv n ro ne bo gt mp ar) (l : List J1) {j : Nat} (hj : j < l.length) :
  ∃ s', V3 n n.Stations n.Sections n.Links n.Signals n.Gates ro ne l j (bo, gt, mp, ar) = some (.inl s') ∧ Inv n ro ne s'.1 s'.2.1 s'.2.2.1 s'.2.2.2 := by
 obtain ⟨mp1, ar1, c1, c2⟩ := j3B (a1 := n.Stations) (a2 := n.Sections) (a3 := n.Links) (a4 := n.Signals) (a5 := n.Gates) (a6 := ro) (a7 := ne) F hg h
 obtain ⟨r, bo', gt', mp', ar', h1, h2, h3⟩ := j7f (a1 := n.Stations) (a3 := n.Links) F h l[j]
 refine ⟨(bo', gt', mp', ar'), ?_, h2⟩
 unfold V3
 show Option.bind _ _ = _
 rw [Z3 hj, Ka, c1, Ka]
 simp only [j2E]
 rw [h1, z7k]
 by_cases hr : r ≠ 0
 ·rcases h3 with h3 | ⟨rfl, rfl, rfl, rfl⟩
  ·exact absurd h3 hr
  ·rw [if_pos hr, j1z F h c2, z1M, z7k]
   rfl
 ·rw [if_neg hr, z7k]
  rfl
theorem z3a (hS : j6f n) (hcl : ∀ g ∈ n.Gates, g.Close ≤ 9223372036854775807) (l : List J1) : mFishkeep1LockRefuses n l = some true ∨ Inv.mFishkeep1LockRefuses n l = some true := by
 obtain ⟨c, hc, hok⟩ := z7J hS
 have bad : ∀ e : Int, e ≠ 0 → Inv.mLockNew n = some e → Inv.mFishkeep1LockRefuses n l = some true := fun e he h1 => by
  unfold Inv.mFishkeep1LockRefuses
  rw [z2C, Ka, if_pos rfl, h1, Ka, if_pos he]
 by_cases h0 : c = 0
 ·subst h0
  have hN := hok rfl
  obtain ⟨d, rs, h1, h2, h3, h4, h5⟩ := z5k hN
  have hr : q0H n = some (d, rs) := by
   unfold q0H
   rw [hc, Ka, if_neg (by decide), h1, K3]
  by_cases hd : d = 0
  ·subst hd
   obtain ⟨ne, bo, gt, n1, F, I⟩ := j4N hN hcl hc hr h3 h5
   have hg := (z1g hc).2
   left
   unfold mFishkeep1LockRefuses
   rw [z2C, Ka, if_pos rfl, n1, Ka]
   simp only [j2F]
   rw [if_neg (by decide), show (0 : Int) = ((0 : Nat) : Int) from rfl, show min (l.length : Int) 200 = ((min l.length 200 : Nat) : Int) by omega, z3B (by omega) (by omega), Ka]
   generalize List.drop 0 (List.take (min l.length 200) l) = q
   rcases q1n (body := V3 n n.Stations n.Sections n.Links n.Signals n.Gates rs ne q) (fun _ s => Inv n rs ne s.1 s.2.1 s.2.2.1 s.2.2.2) (fun _ => False) q.length 0 (bo, gt, [], []) I (fun j s _ hj hI => by
    obtain ⟨bo1, gt1, mp1, ar1⟩ := s
    obtain ⟨s', s1, s2⟩ := j3D F hg hI q (j := j) (by omega)
    exact .inl ⟨s', s1, s2⟩) with ⟨s, g1, _⟩ | ⟨_, _, hF⟩
   ·rw [g1]
    rfl
   ·exact hF.elim
  ·refine .inr (bad d hd ?_)
   unfold Inv.mLockNew
   rw [hc, Ka, if_neg (by decide), hr, K3, if_pos hd]
 ·refine .inr (bad c h0 ?_)
  unfold Inv.mLockNew
  rw [hc, Ka, if_pos h0]
end
theorem z4h (n : v6) (l : List J1) (k0 : j7v n) (k1 : j7u l) {P : Prop} (_ : P) : mFishkeep1LockRefuses n l = some true ∨ Inv.mFishkeep1LockRefuses n l = some true :=
 z3a (fun s hs => k0.1.2 s hs) (fun g hg => (k0.2.2.2.2.2 g hg).2.2) l
end Go.Proofs.YtdbehipjelcmbaaGreatDoor
