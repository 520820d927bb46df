import Derived.Test.YtdbehipjelcmbaaGreatDoorP2
import Derived.Test.YtdbehipjelcmbaaGreatDoorP1
import Derived.KernelRfl
import Derived.Test.YtdbehipjelcmbaaGreatDoorF6
import Derived.Test.YtdbehipjelcmbaaGreatDoorF7
set_option linter.unusedVariables false
set_option linter.unusedSimpArgs false
set_option linter.unusedSectionVars false
namespace Go.Proofs.YtdbehipjelcmbaaGreatDoor
open Go.RowKit Go.Fp
theorem q7d : ∀ {l L : List Int}, l.Nodup → (∀ x ∈ l, x ∈ L) → l.length ≤ L.length
 | [], _, _, _ => Nat.zero_le _
 | x :: r, L, h, hs => by
  have hx := hs x List.mem_cons_self
  rw [List.nodup_cons] at h
  have h1 := q7d (l := r) (L := L.erase x) h.2 (fun y hy => by
   have hne : y ≠ x := fun e => h.1 (e ▸ hy)
   exact (List.mem_erase_of_ne hne).2 (hs y (List.mem_cons_of_mem _ hy)))
  rw [List.length_erase_of_mem hx] at h1
  have := List.length_pos_of_mem hx
  simp only [List.length_cons]
  omega
section
variable {n : ApiNet} {ro : List ApiRoute} {ne : List (List ApiNeed)} {bo bo' : List LockBody} {gt gt' : List LockGate} {mp : List (Int × Option Int)} {ar : List (Int × LockLocked)}
variable {a1 : List ByteArray} {a2 : List ApiSection} {a3 : List ApiLink} {a4 : List ApiSignal} {a5 : List ApiGate} {a6 : List ApiRoute} {a7 : List (List ApiNeed)} {a8 : List LockBody} {a9 : List LockGate} {b1 : List (Int × Option Int)} {b2 : List (Int × LockLocked)}
theorem Inv.few (F : Fix n ro ne) (h : Inv n ro ne bo gt mp ar) : mp.length ≤ 81 := by
 have h1 := q7d (L := (List.range ro.length).map fun i : Nat => (i : Int)) h.nd (fun k hk => by
  obtain ⟨p, hp, rfl⟩ := List.mem_map.1 hk
  obtain ⟨_, x, _, kx⟩ := h.en p hp
  have := kx.kr
  exact List.mem_map.2 ⟨p.1.toNat, List.mem_range.2 (by omega), by omega⟩)
 have := F.many
 simp at h1
 omega
theorem q9D (F : Fix n ro ne) (h : Inv n ro ne bo gt mp ar) : z1W mp = some ((mp.map (·.1)).mergeSort fun x y => decide (x ≤ y)) := by
 have h1 := h.few F
 have h2 := F.many
 unfold z1W
 rw [q1u (by omega) (by omega), Option.bind_some, if_pos]
 rw [List.all_eq_true]
 intro p hp
 obtain ⟨_, x, _, kx⟩ := h.en p hp
 have := kx.kr
 exact decide_eq_true (by omega)
theorem q3C {k : Int} : k ∈ ((mp.map (·.1)).mergeSort fun x y => decide (x ≤ y)) ↔ k ∈ mp.map (·.1) := (List.mergeSort_perm _ _).mem_iff
theorem q9e (F : Fix n ro ne) (h : Inv n ro ne bo gt mp ar) : G0 a1 a2 a3 a4 a5 a6 a7 a8 a9 mp ar = some (((mp.map (·.1)).mergeSort fun x y => decide (x ≤ y)).map some) := by
 have hlen : ((mp.map (·.1)).mergeSort fun x y => decide (x ≤ y)).length ≤ 81 := by
  rw [List.length_mergeSort, List.length_map]
  exact h.few F
 unfold G0 q3M q0b
 rw [Option.bind_some, q9D F h, Option.bind_some]
 generalize hl : ((mp.map (·.1)).mergeSort fun x y => decide (x ≤ y)) = l
 rw [hl] at hlen
 obtain ⟨s, h1, h2⟩ := Y0 (body := q0H mp l) (fun j s => s = (l.take j).map some) l.length 0 [] (by simp) (fun j s _ hj hs => by
  have hj : j < l.length := by omega
  subst hs
  unfold q0H
  have hk : l[j] ∈ mp.map (·.1) := q3C.1 (by rw [hl]; exact List.getElem_mem hj)
  have hd : P8 mp l[j] none = some l[j] := by
   rcases h.look l[j] with ⟨_, h3⟩ | ⟨h3, _⟩
   ·exact absurd hk h3
   ·exact h3
  rw [j7 hj, Option.bind_some, Option.bind_some, hd, q1u (by simp; omega) (by simp; omega), Option.bind_some]
  exact ⟨_, rfl, by rw [List.take_succ_eq_append_getElem hj, List.map_append]; rfl⟩)
 rw [h1, Option.bind_some, h2, Nat.zero_add, List.take_length]
theorem z8D (hb : AllB n.Sections.length bo) : ∃ bo', q4M W8 bo.length 0 bo = some bo' ∧ AllB n.Sections.length bo' := by
 obtain ⟨s, h1, h2⟩ := Y0 (body := W8) (fun _ b => AllB n.Sections.length b) bo.length 0 bo hb (fun j b _ hj hb' => by
  have hj : (0 : Int) ≤ (j : Int) ∧ (j : Int) < (n.Sections.length : Int) := by rw [← hb.1]; omega
  obtain ⟨s, h3, h4⟩ := hb'.get hj
  unfold W8
  rw [h3, Option.bind_some]
  by_cases c : s.moving = 0 ∨ s.failed = true
  ·have e1 : (if s.moving = 0 then some true else some s.failed) = some true := by
    by_cases c0 : s.moving = 0
    ·rw [if_pos c0]
    ·rw [if_neg c0, c.resolve_left c0]
   rw [e1, Option.bind_some, if_pos rfl]
   exact ⟨_, rfl, hb'⟩
  ·have c0 : ¬ s.moving = 0 := fun h => c (.inl h)
   have cf : ¬ s.failed = true := fun h => c (.inr h)
   have hm := h4.2.1
   have hp := h4.2.2
   have hjl : j < b.length := by have := hb'.1; omega
   rw [if_neg c0, Option.bind_some, if_neg cf, X0 (by omega) (by omega), Option.bind_some, F8, j7 (by rw [List.length_set]; exact hjl), Option.bind_some, List.getElem_set_self]
   simp only
   by_cases c1 : s.moving - 1 = 0
   ·rw [if_pos c1, X0 (by omega) (by omega), Option.bind_some, F8, List.set_set, ← F8]
    exact ⟨_, rfl, hb'.put _ ⟨h4.1, ⟨by simp only; omega, by simp only; omega⟩, by simp only; omega, by simp only; omega⟩⟩
   ·rw [if_neg c1, ← F8]
    exact ⟨_, rfl, hb'.put _ ⟨h4.1, ⟨by simp only; omega, by simp only; omega⟩, h4.2.2⟩⟩)
 exact ⟨s, h1, h2⟩
theorem z9L (hb : AllG n.Gates.length gt) : ∃ gt', q4M W7 gt.length 0 gt = some gt' ∧ AllG n.Gates.length gt' := by
 obtain ⟨s, h1, h2⟩ := Y0 (body := W7) (fun _ b => AllG n.Gates.length b) gt.length 0 gt hb (fun j b _ hj hb' => by
  have hj : (0 : Int) ≤ (j : Int) ∧ (j : Int) < (n.Gates.length : Int) := by rw [← hb.1]; omega
  obtain ⟨s, h3, h4⟩ := hb'.get hj
  unfold W7
  rw [h3, Option.bind_some]
  by_cases cw : s.wanted = true
  ·by_cases cl : 0 < s.left
   ·rw [if_pos cw, if_pos cl, Option.bind_some]
    by_cases cf : (!s.failed) = true
    ·rw [if_pos cf, X0 (by omega) (by omega), Option.bind_some]
     exact ⟨_, rfl, hb'.put _ (by simp only; omega)⟩
    ·rw [if_neg cf]
     exact ⟨_, rfl, hb'⟩
   ·rw [if_pos cw, if_neg cl, Option.bind_some, if_neg Bool.false_ne_true]
    exact ⟨_, rfl, hb'⟩
  ·rw [if_neg cw, Option.bind_some, if_neg Bool.false_ne_true]
   exact ⟨_, rfl, hb'⟩)
 exact ⟨s, h1, h2⟩
def Kept (n : ApiNet) (ro : List ApiRoute) (ne : List (List ApiNeed)) (ks : List Int) (ar : List (Int × LockLocked)) : Prop := ∀ k ∈ ks, ∃ x, Q7 ar k = some x ∧ LOk n ro ne k x
theorem Kept.put {ks : List Int} (h : Kept n ro ne ks ar) {k : Int} {x : LockLocked} (hx : LOk n ro ne k x) : Kept n ro ne ks (F2 ar k x) := fun j hj => by
 by_cases c : j = k
 ·rw [c]; exact ⟨x, Z5 _ _ _, hx⟩
 ·obtain ⟨y, h1, h2⟩ := h j hj
  exact ⟨y, by rw [Q0 _ _ c]; exact h1, h2⟩
theorem Inv.kept (h : Inv n ro ne bo gt mp ar) : Kept n ro ne ((mp.map (·.1)).mergeSort fun x y => decide (x ≤ y)) ar := fun k hk => by
 obtain ⟨p, hp, rfl⟩ := List.mem_map.1 (q3C.1 hk)
 exact (h.en p hp).2
theorem z9G (F : Fix n ro ne) (h : Inv n ro ne bo gt mp ar) {ks : List Int} (hk : Kept n ro ne ks ar) : ∃ mp' ar', q4M (W6 (ks.map some)) (ks.map some).length 0 (mp, ar) = some (mp', ar') ∧ Inv n ro ne bo gt mp' ar' := by
 obtain ⟨⟨m', r'⟩, h1, h2⟩ := Y0 (body := W6 (ks.map some)) (fun _ S => Inv n ro ne bo gt S.1 S.2 ∧ Kept n ro ne ks S.2) (ks.map some).length 0 (mp, ar) ⟨h, hk⟩ (fun j S _ hj hS => by
  obtain ⟨m', r'⟩ := S
  obtain ⟨hI, hK⟩ := hS
  have hj : j < ks.length := by simpa using hj
  obtain ⟨x, hx, kx⟩ := hK _ (List.getElem_mem hj)
  have hl := kx.leave
  unfold W6
  show ∃ s', Option.bind _ _ = _ ∧ _
  rw [j7 (by simpa using hj), List.getElem_map, Option.bind_some, Option.bind_some, hx, Option.bind_some]
  by_cases c : x.leave = 0
  ·rw [if_pos c]
   exact ⟨_, rfl, hI, hK⟩
  ·rw [if_neg c, X0 (by omega) (by omega), Option.bind_some]
   have kx' : LOk n ro ne ks[j] ⟨x.Route, x.needs, x.seen, x.gone, x.laps, x.sight, x.leave - 1, x.clock, x.number⟩ := ⟨kx.kr, kx.route, kx.num, kx.seen, kx.gone, kx.sub, kx.trk, kx.len, kx.g0, ⟨by simp only; omega, by simp only; omega⟩, kx.clk⟩
   have hI' := hI.put hx (fun _ => kx') (fun a ha => ha)
   by_cases c1 : x.leave - 1 = 0
   ·rw [if_pos c1]
    exact ⟨_, rfl, hI'.del _, hK.put kx'⟩
   ·rw [if_neg c1]
    exact ⟨_, rfl, hI', hK.put kx'⟩)
 exact ⟨m', r', h1, h2.1⟩
theorem j0f (F : Fix n ro ne) (h : Inv n ro ne bo gt mp ar) {ks : List Int} (hk : Kept n ro ne ks ar) : ∃ ar', q4M (W5 (ks.map some)) (ks.map some).length 0 ar = some ar' ∧ Inv n ro ne bo gt mp ar' := by
 obtain ⟨r', h1, h2⟩ := Y0 (body := W5 (ks.map some)) (fun _ S => Inv n ro ne bo gt mp S ∧ Kept n ro ne ks S) (ks.map some).length 0 ar ⟨h, hk⟩ (fun j r' _ hj hS => by
  obtain ⟨hI, hK⟩ := hS
  have hj : j < ks.length := by simpa using hj
  obtain ⟨x, hx, kx⟩ := hK _ (List.getElem_mem hj)
  have hp := kx.pos F
  have hs := kx.seen
  have hm : x.Route.Steps.length ≤ 16 := by rw [kx.route]; exact (F.rok kx.kr).way.many
  have hc := kx.clk
  unfold W5
  rw [j7 (by simpa using hj), List.getElem_map, Option.bind_some, Option.bind_some, hx, Option.bind_some, X0 (by omega) (by omega), Option.bind_some]
  obtain ⟨b, hb, _⟩ := q3j (l := x.seen) (i := (x.seen.length : Int) - 1) (by omega) (by omega)
  rw [hb, Option.bind_some]
  have e1 : (if b = true then some (some ks[j], x.laps) else some (some ks[j], false)) = some (some ks[j], b && x.laps) := by cases b <;> rfl
  rw [e1, H0]
  by_cases c : (b && x.laps) = true
  ·have hlaps : x.laps = true := by cases b <;> simp_all
   have hc2 := hc.2 hlaps
   rw [if_pos c, Option.bind_some, hx, Option.bind_some, X0 (by omega) (by omega), Option.bind_some]
   by_cases c6 : x.clock + 1 = 60
   ·rw [if_pos c6]
    have kx' : LOk n ro ne ks[j] ⟨x.Route, x.needs, x.seen, x.gone, false, x.sight, x.leave, x.clock + 1, x.number⟩ := ⟨kx.kr, kx.route, kx.num, kx.seen, kx.gone, kx.sub, kx.trk, kx.len, kx.g0, kx.leave, ⟨by simp only; omega, fun h => by cases h⟩⟩
    refine ⟨_, rfl, hI.put hx (fun _ => kx') (fun a ha => ?_), hK.put kx'⟩
    obtain ⟨ha, hb⟩ := q0M.1 ha
    refine q0M.2 ⟨ha, ?_⟩
    unfold q4q at hb ⊢
    by_cases c2 : a.Kind = 2
    ·rw [if_pos c2] at hb
     cases hb
    ·rw [if_neg c2] at hb ⊢
     exact hb
   ·rw [if_neg c6]
    have kx' : LOk n ro ne ks[j] ⟨x.Route, x.needs, x.seen, x.gone, x.laps, x.sight, x.leave, x.clock + 1, x.number⟩ := ⟨kx.kr, kx.route, kx.num, kx.seen, kx.gone, kx.sub, kx.trk, kx.len, kx.g0, kx.leave, ⟨by simp only; omega, fun _ => by simp only; omega⟩⟩
    exact ⟨_, rfl, hI.put hx (fun _ => kx') (fun a ha => ha), hK.put kx'⟩
  ·rw [if_neg c]
   exact ⟨_, rfl, hI, hK⟩)
 exact ⟨r', h1, h2.1⟩
theorem j1K {k : Int} {y : LockLocked} (h : LOk n ro ne k y) (j : Nat) (h0 : y.seen[0]? = some true) : LOk n ro ne k ⟨y.Route, y.needs, y.seen, put y.gone (j : Int) true, y.laps, y.sight, y.leave, y.clock, y.number⟩ ∧ ∀ a ∈ w8 ⟨y.Route, y.needs, y.seen, put y.gone (j : Int) true, y.laps, y.sight, y.leave, y.clock, y.number⟩, a ∈ w8 y := by
 refine ⟨⟨h.kr, h.route, h.num, h.seen, by simp only [z6]; exact h.gone, h.sub, h.trk, h.len, fun _ _ => h0, h.leave, h.clk⟩, fun a ha => ?_⟩
 obtain ⟨ha, hb⟩ := q0M.1 ha
 refine q0M.2 ⟨ha, ?_⟩
 unfold q4q at hb ⊢
 by_cases c2 : a.Kind = 2
 ·rw [if_pos c2] at hb ⊢
  exact hb
 ·rw [if_neg c2] at hb ⊢
  by_cases c5 : a.Kind = 5
  ·rw [if_pos c5] at hb ⊢
   exact hb
  ·rw [if_neg c5] at hb ⊢
   simp only [F8] at hb
   rw [List.getElem?_set] at hb
   split at hb
   ·split at hb <;> simp at hb
   ·exact hb
theorem z6a (F : Fix n ro ne) (h : Inv n ro ne bo gt mp ar) {k : Int} {x : LockLocked} (hx : Q7 ar k = some x) (kx : LOk n ro ne k x) :
  ∃ ar' mp', q0U (some k) a1 a2 a3 a4 a5 a6 a7 ar bo a9 mp = some (ar', mp') ∧ Inv n ro ne bo gt mp' ar' ∧ ∃ y, ar' = F2 ar k y ∧ LOk n ro ne k y := by
 have hm : x.Route.Steps.length ≤ 16 := by rw [kx.route]; exact (F.rok kx.kr).way.many
 have hst : ∀ s ∈ x.Route.Steps, q4z n s := by rw [kx.route]; exact (F.rok kx.kr).way.path.step
 unfold q0U
 rw [Option.bind_some, hx, Option.bind_some]
 rcases F7 (body := Y9 bo mp k x) (fun j s => ∃ y, s = F2 ar k y ∧ y.Route = x.Route ∧ LOk n ro ne k y ∧ (∀ a ∈ w8 y, a ∈ w8 x) ∧ (0 < j → y.seen[0]? = some true))
  (fun t => t.2 = mp ∧ ∃ y, t.1 = F2 ar k y ∧ LOk n ro ne k y ∧ ∀ a ∈ w8 y, a ∈ w8 x) x.Route.Steps.length 0 ar ⟨x, (q9H ar hx).symm, rfl, kx, fun a ha => ha, fun h => by omega⟩ (fun j s _ hj hI => by
   obtain ⟨y, rfl, hr, ky, hsub, h0⟩ := hI
   have hj : j < x.Route.Steps.length := by omega
   have hg : j < y.gone.length := by rw [ky.gone, hr]; exact hj
   have hs : j < y.seen.length := by rw [ky.seen, hr]; exact hj
   unfold Y9
   rw [j7 hj, Option.bind_some, Z5, Option.bind_some, j7 hg, Option.bind_some]
   cases hgj : y.gone[j] with
   | true =>
    rw [if_pos rfl]
    exact .inl ⟨_, rfl, y, rfl, hr, ky, hsub, fun _ => ky.g0 j (by rw [List.getElem?_eq_getElem hg, hgj])⟩
   | false =>
    have hsec := (hst _ (List.getElem_mem hj)).1.1
    obtain ⟨sb, s1, s2⟩ := h.B.get hsec
    rw [if_neg Bool.false_ne_true, Option.bind_some, j7 hs, Option.bind_some, s1, Option.bind_some, q4l, Option.bind_some, X0 (by omega) (by omega), Option.bind_some, Option.bind_some]
    have e1 : ∃ q, (if y.seen[j] = true then (if (decide (0 < sb.axles) || sb.disturbed) = true then some true else if (j : Int) + 1 < (y.Route.Steps.length : Int) then ((idx y.seen ((j : Int) + 1)).bind fun p => some (!p)) else some false) else some true) = some q ∧ (q = false → y.seen[j] = true) := by
     by_cases c : y.seen[j] = true
     ·rw [if_pos c]
      split
      ·exact ⟨_, rfl, fun h => by cases h⟩
      ·split
       ·rename_i c2
        obtain ⟨b, hb, _⟩ := q3j (l := y.seen) (i := (j : Int) + 1) (by omega) (by rw [ky.seen]; exact c2)
        rw [hb]
        exact ⟨_, rfl, fun _ => c⟩
       ·exact ⟨_, rfl, fun _ => c⟩
     ·rw [if_neg c]
      exact ⟨_, rfl, fun h => by cases h⟩
    obtain ⟨q, e1, e2⟩ := e1
    rw [e1, Option.bind_some]
    cases q with
    | true =>
     rw [if_pos rfl]
     exact .inr ⟨_, rfl, rfl, y, rfl, ky, hsub⟩
    | false =>
     have hsj := e2 rfl
     have h00 : y.seen[0]? = some true := by
      by_cases c : j = 0
      ·subst c
       rw [List.getElem?_eq_getElem hs, hsj]
      ·exact h0 (by omega)
     obtain ⟨k1, k2⟩ := j1K ky j h00
     rw [if_neg Bool.false_ne_true, Option.bind_some, j7 hg, Option.bind_some, q7Y]
     exact .inl ⟨_, rfl, _, rfl, hr, k1, fun a ha => hsub a (k2 a ha), fun _ => h00⟩) with ⟨s, h1, y, rfl, _, ky, hsub, _⟩ | ⟨⟨s, m'⟩, h1, h2, y, h3, ky, hsub⟩
 ·rw [h1, Option.bind_some, Sum.elim_inl, Z5, Option.bind_some]
  exact ⟨_, _, rfl, (h.put hx (fun _ => ky) hsub).del _, y, rfl, ky⟩
 ·simp only at h2 h3
  rw [h1, Option.bind_some, Sum.elim_inr, h2, h3]
  exact ⟨_, _, rfl, h.put hx (fun _ => ky) hsub, y, rfl, ky⟩
theorem z4e (F : Fix n ro ne) (h : Inv n ro ne bo gt mp ar) {ks : List Int} (hk : Kept n ro ne ks ar) : ∃ mp' ar', q4M (W4 a1 a2 a3 a4 a5 a6 a7 bo a9 (ks.map some)) (ks.map some).length 0 (mp, ar) = some (mp', ar') ∧ Inv n ro ne bo gt mp' ar' := by
 obtain ⟨⟨m', r'⟩, h1, h2⟩ := Y0 (body := W4 a1 a2 a3 a4 a5 a6 a7 bo a9 (ks.map some)) (fun _ S => Inv n ro ne bo gt S.1 S.2 ∧ Kept n ro ne ks S.2) (ks.map some).length 0 (mp, ar) ⟨h, hk⟩ (fun j S _ hj hS => by
  obtain ⟨m', r'⟩ := S
  obtain ⟨hI, hK⟩ := hS
  have hj : j < ks.length := by simpa using hj
  obtain ⟨x, hx, kx⟩ := hK _ (List.getElem_mem hj)
  obtain ⟨ar', mp', h3, h4, y, h5, ky⟩ := z6a (a1 := a1) (a2 := a2) (a3 := a3) (a4 := a4) (a5 := a5) (a6 := a6) (a7 := a7) (a9 := a9) F hI hx kx
  unfold W4
  show ∃ s', Option.bind _ _ = _ ∧ _
  rw [j7 (by simpa using hj), List.getElem_map, Option.bind_some, h3, H0]
  exact ⟨_, rfl, h4, by rw [h5]; exact hK.put ky⟩)
 exact ⟨m', r', h1, h2.1⟩
theorem z7d (F : Fix n ro ne) (h : Inv n ro ne bo gt mp ar) : ∃ bo' gt' mp' ar', q1A a1 a2 a3 a4 n.Gates a6 a7 bo gt mp ar = some (bo', gt', mp', ar') ∧ Inv n ro ne bo' gt' mp' ar' := by
 unfold q1A
 obtain ⟨bo', b1, b2⟩ := z8D h.B
 obtain ⟨g1, c1, c2⟩ := z9L h.G
 have h1 := (h.toB b2).toG c2
 obtain ⟨m1, r1, d1, d2⟩ := z9G F h1 h1.kept
 obtain ⟨r2, e1, e2⟩ := j0f F d2 d2.kept
 obtain ⟨m3, r3, f1, f2⟩ := z4e (a1 := a1) (a2 := a2) (a3 := a3) (a4 := a4) (a5 := n.Gates) (a6 := a6) (a7 := a7) (a9 := g1) F e2 e2.kept
 obtain ⟨g2, w1, w2, w3⟩ := z1K F f2 a1 a2 a3 a4 a6 a7 bo'
 rw [b1, Option.bind_some, c1, Option.bind_some, q9e F h1, Option.bind_some, d1, H0, q9e F d2, Option.bind_some, e1, Option.bind_some, q9e F e2, Option.bind_some, f1, H0, w1, H0]
 exact ⟨_, _, _, _, rfl, f2.gates w2 w3⟩
theorem j5q (F : Fix n ro ne) (h : Inv n ro ne bo gt mp ar) (c : Fishkeep1Call) : ∃ r bo' gt' mp' ar', q3d c a1 n.Sections a3 n.Signals n.Gates ro ne bo gt mp ar = some (r, bo', gt', mp', ar') ∧ Inv n ro ne bo' gt' mp' ar' := by
 unfold q3d
 by_cases c0 : c.Kind = 0
 ·obtain ⟨r, b', h1, h2⟩ := j2S (n := n) (a1 := a1) (a2 := n.Sections) (a3 := a3) (a4 := n.Signals) (a5 := n.Gates) (a6 := ro) (a7 := ne) (a9 := gt) (b1 := mp) (b2 := ar) h.B c.A c.B
  rw [if_pos c0, h1]
  exact ⟨_, _, _, _, _, rfl, h.toB h2⟩
 rw [if_neg c0]
 by_cases c1 : c.Kind = 1
 ·obtain ⟨r, b', r', h1, h2⟩ := j1w (a1 := a1) (a3 := a3) (a4 := n.Signals) (a5 := n.Gates) (a6 := ro) (a7 := ne) (a9 := gt) F h c.A c.B c.C
  rw [if_pos c1, h1]
  exact ⟨_, _, _, _, _, rfl, h2⟩
 rw [if_neg c1]
 by_cases c2 : c.Kind = 2
 ·obtain ⟨r, b', h1, h2⟩ := z6u (n := n) (a1 := a1) (a2 := n.Sections) (a3 := a3) (a4 := n.Signals) (a5 := n.Gates) (a6 := ro) (a7 := ne) (a9 := gt) (b1 := mp) (b2 := ar) h.B c.A
  rw [if_pos c2, h1]
  exact ⟨_, _, _, _, _, rfl, h.toB h2⟩
 rw [if_neg c2]
 by_cases c3 : c.Kind = 3
 ·obtain ⟨r, b', h1, h2⟩ := z9t (n := n) (a1 := a1) (a3 := a3) (a4 := n.Signals) (a5 := n.Gates) (a6 := ro) (a7 := ne) (a9 := gt) (b1 := mp) (b2 := ar) h.B c.A
  rw [if_pos c3, h1]
  exact ⟨_, _, _, _, _, rfl, h.toB h2⟩
 rw [if_neg c3]
 by_cases c4 : c.Kind = 4
 ·obtain ⟨r, b', h1, h2⟩ := j1i (a1 := a1) (a3 := a3) (a4 := n.Signals) (a5 := n.Gates) (a6 := ro) (a7 := ne) (a9 := gt) F h c.A c.B
  rw [if_pos c4, h1]
  exact ⟨_, _, _, _, _, rfl, h.toB h2⟩
 rw [if_neg c4]
 by_cases c5 : c.Kind = 5
 ·obtain ⟨r, b', h1, h2⟩ := j1N (n := n) (a1 := a1) (a3 := a3) (a4 := n.Signals) (a5 := n.Gates) (a6 := ro) (a7 := ne) (a9 := gt) (b1 := mp) (b2 := ar) h.B c.A
  rw [if_pos c5, h1]
  exact ⟨_, _, _, _, _, rfl, h.toB h2⟩
 rw [if_neg c5]
 by_cases c6 : c.Kind = 6
 ·obtain ⟨r, b', h1, h2⟩ := j1E (n := n) (a1 := a1) (a3 := a3) (a4 := n.Signals) (a5 := n.Gates) (a6 := ro) (a7 := ne) (a9 := gt) (b1 := mp) (b2 := ar) h.B c.A
  rw [if_pos c6, h1]
  exact ⟨_, _, _, _, _, rfl, h.toB h2⟩
 rw [if_neg c6]
 by_cases c7 : c.Kind = 7
 ·obtain ⟨r, g', h1, h2⟩ := z4E (n := n) (a1 := a1) (a2 := n.Sections) (a3 := a3) (a4 := n.Signals) (a5 := n.Gates) (a6 := ro) (a7 := ne) (a8 := bo) (b1 := mp) (b2 := ar) h.G c.A
  rw [if_pos c7, h1]
  exact ⟨_, _, _, _, _, rfl, h.toG h2⟩
 rw [if_neg c7]
 by_cases c8 : c.Kind = 8
 ·obtain ⟨r, g', h1, h2⟩ := z4n (a1 := a1) (a2 := n.Sections) (a3 := a3) (a4 := n.Signals) (a6 := ro) (a7 := ne) (a8 := bo) (b1 := mp) (b2 := ar) F h.G c.A
  rw [if_pos c8, h1]
  exact ⟨_, _, _, _, _, rfl, h.toG h2⟩
 rw [if_neg c8]
 have e1 : ∃ q, (if c.Kind = 9 then some (decide (c.Kind = 9)) else some (decide (c.Kind = 10))) = some q := by split <;> exact ⟨_, rfl⟩
 obtain ⟨q, e1⟩ := e1
 rw [e1, Option.bind_some]
 by_cases c9 : q = true
 ·obtain ⟨r, b', g', m', r', h1, h2⟩ := j1F (a1 := a1) (a3 := a3) (a4 := n.Signals) F h c.A (decide (c.Kind = 10))
  rw [if_pos c9, h1]
  exact ⟨_, _, _, _, _, rfl, h2⟩
 rw [if_neg c9]
 by_cases c11 : c.Kind = 11
 ·obtain ⟨r, g', m', r', h1, h2⟩ := z8g (a1 := a1) (a3 := a3) F h c.A
  rw [if_pos c11, h1]
  exact ⟨_, _, _, _, _, rfl, h2⟩
 rw [if_neg c11]
 by_cases c12 : c.Kind = 12
 ·obtain ⟨b', g', m', r', h1, h2⟩ := z7d (a1 := a1) (a2 := n.Sections) (a3 := a3) (a4 := n.Signals) (a6 := ro) (a7 := ne) F h
  rw [if_pos c12, h1]
  exact ⟨_, _, _, _, _, rfl, h2⟩
 rw [if_neg c12]
 exact ⟨_, _, _, _, _, rfl, h⟩
end
theorem q9V (l : List Int) (x : Int) [Decidable (∃ y ∈ l, x = y)] : H2 l x = some (decide (∃ y ∈ l, x = y)) :=
 z3O (fun y => x = y) (fun k hk => by
  unfold q2b
  rw [j7 hk, Option.bind_some]
  by_cases c : x = l[k]
  ·rw [if_pos c, if_pos c]
  ·rw [if_neg c, if_neg c])
theorem q3P {τ : Type} {body : Nat → Unit → Option (Unit ⊕ τ)} {m : Nat} (hb : ∀ j, j < m → body j () = some (.inl ())) : forM body m 0 () = some (.inl ()) := by
 rcases F7 (body := body) (fun _ _ => True) (fun _ => False) m 0 () trivial (fun j s _ hj _ => .inl ⟨(), hb j (by omega), trivial⟩) with ⟨s, h1, _⟩ | ⟨_, _, h⟩
 ·exact h1
 ·exact h.elim
def q4s (mp : List (Int × Option Int)) (ar : List (Int × LockLocked)) (k : Int) : List ApiNeed := match Q7 mp k with
 | none => []
 | some _ => match Q7 ar k with
  | none => []
  | some x => w8 x
section
variable {n : ApiNet} {ro : List ApiRoute} {ne : List (List ApiNeed)} {bo bo' : List LockBody} {gt gt' : List LockGate} {mp : List (Int × Option Int)} {ar : List (Int × LockLocked)}
variable {a1 : List ByteArray} {a2 : List ApiSection} {a3 : List ApiLink} {a4 : List ApiSignal} {a5 : List ApiGate} {a6 : List ApiRoute} {a7 : List (List ApiNeed)} {a8 : List LockBody} {a9 : List LockGate} {b1 : List (Int × Option Int)} {b2 : List (Int × LockLocked)}
theorem q9N (h : Inv n ro ne bo gt mp ar) {k : Int} {x : LockLocked} (hk : (k, some k) ∈ mp) (hx : Q7 ar k = some x) : q4s mp ar k = w8 x := by
 unfold q4s
 rw [z4m h.nd hk, hx]
theorem q4r (h : Inv n ro ne bo gt mp ar) (k : Int) : (q4s mp ar k = [] ∧ P8 mp k none = none) ∨ ((k, some k) ∈ mp ∧ P8 mp k none = some k ∧ ∃ x, Q7 ar k = some x ∧ LOk n ro ne k x ∧ q4s mp ar k = w8 x) := by
 rcases h.look k with ⟨h1, h2⟩ | ⟨h1, h2, x, hx, kx⟩
 ·refine .inl ⟨?_, h1⟩
  unfold q4s
  cases hm : Q7 mp k with
  | none => rfl
  | some v => exact absurd (List.mem_map_of_mem (f := (·.1)) (z5m hm)) h2
 ·exact .inr ⟨h2, h1, x, hx, kx, q9N h h2 hx⟩
theorem z6F (F : Fix n ro ne) (h : Inv n ro ne bo gt mp ar) {k : Int} (hk : 0 ≤ k ∧ k < (ro.length : Int)) : q3a k a1 a2 a3 a4 a5 ro a7 a8 a9 mp ar = some (0, q4s mp ar k) := by
 unfold q3a
 rw [q5d, Option.bind_some, decide_eq_true hk, if_pos rfl, Option.bind_some]
 rcases q4r h k with ⟨h1, h2⟩ | ⟨h1, h2, x, hx, kx, h3⟩
 ·rw [h2, if_pos (show (none : Option Int).isNone = true from rfl), h1]
 ·rw [h2, if_neg (by simp), z2h F kx hx, Option.bind_some, h3]
theorem z9J (F : Fix n ro ne) (h : Inv n ro ne bo gt mp ar) : ∃ hs, q1I (ro.length : Int) a1 a2 a3 a4 a5 ro a7 a8 a9 mp ar = some (true, hs) ∧ hs.length = ro.length ∧ ∀ j : Nat, j < ro.length → hs[j]? = some (q4s mp ar j) := by
 classical
 have hm := F.many
 unfold q1I q0y q3M q0b
 rw [q9f (by omega) (by omega), Option.bind_some, Option.bind_some, q9D F h, Option.bind_some, Option.bind_some, X0 (by omega) (by omega), Option.bind_some, show ((ro.length : Int)).toNat = ro.length by omega]
 rcases F7 (body := q0i a1 a2 a3 a4 a5 ro a7 a8 a9 mp ar ((mp.map (·.1)).mergeSort fun x y => decide (x ≤ y))) (fun j s => s.length = ro.length ∧ ∀ i : Nat, i < j → s[i]? = some (q4s mp ar i)) (fun _ => False) ro.length 0 (List.replicate ro.length []) ⟨by simp, fun i hi => by omega⟩ (fun j s _ hj hI => by
  have hj : j < ro.length := by omega
  have hs : j < s.length := by rw [hI.1]; exact hj
  unfold q0i
  rw [z6F F h ⟨by omega, by omega⟩, H0, if_neg (by decide)]
  have e1 : (if 0 < ((q4s mp ar j).length : Int) then ((H2 ((mp.map (·.1)).mergeSort fun x y => decide (x ≤ y)) (j : Int)).bind fun r => some (!r)) else some false) = some false := by
   rcases q4r h (j : Int) with ⟨h1, _⟩ | ⟨h1, _⟩
   ·rw [h1, if_neg (by simp)]
   ·have hmem : ∃ y ∈ ((mp.map (·.1)).mergeSort fun x y => decide (x ≤ y)), (j : Int) = y := ⟨_, q3C.2 (List.mem_map_of_mem (f := (·.1)) h1), rfl⟩
    rw [q9V, decide_eq_true hmem]
    split <;> rfl
  rw [e1, Option.bind_some, if_neg Bool.false_ne_true, j7 hs, Option.bind_some]
  refine .inl ⟨_, rfl, by rw [z6]; exact hI.1, fun i hi => ?_⟩
  rw [F8, List.getElem?_set]
  by_cases c : j = i
  ·rw [if_pos c, if_pos hs, c]
  ·rw [if_neg c]
   exact hI.2 i (by omega)) with ⟨s, h1, h2, h3⟩ | ⟨_, _, hF⟩
 ·rw [h1]
  exact ⟨s, rfl, h2, fun j hj => h3 j (by omega)⟩
 ·exact hF.elim
theorem j0j (F : Fix n ro ne) (h : Inv n ro ne bo gt mp ar) {hs : List (List ApiNeed)} (hl : hs.length = ro.length) (hh : ∀ j : Nat, j < ro.length → hs[j]? = some (q4s mp ar j)) : q1e hs = some true := by
 have hm := F.many
 have hat : ∀ j (hj : j < hs.length), hs[j] = q4s mp ar j := fun j hj => by
  have := hh j (by omega)
  rw [List.getElem?_eq_getElem hj] at this
  exact Option.some.inj this
 unfold q1e
 rw [q3P (fun i hi => by
  unfold q1x
  have hc := q9U (l := hs) (a := 0) (b := i) (by omega) (by omega)
  rw [show ((0 : Nat) : Int) = 0 from rfl, List.drop_zero] at hc
  rw [j7 hi, Option.bind_some, hc, Option.bind_some, q3P (fun j hj => by
   have hji : j < i := by rw [List.length_take] at hj; omega
   unfold q1w
   rw [j7 hj, Option.bind_some, List.getElem_take, q3P (fun u hu => by
    unfold q1d
    rw [j7 hu, Option.bind_some, q3P (fun v hv => by
     unfold q1c
     rw [j7 hv, Option.bind_some, z5n, Option.bind_some, if_neg]
     intro hd
     have hd := of_decide_eq_true hd
     have m1 : hs[i][u] ∈ q4s mp ar i := by rw [← hat i hi]; exact List.getElem_mem hu
     have m2 : hs[j][v] ∈ q4s mp ar j := by rw [← hat j (by omega)]; exact List.getElem_mem hv
     rcases q4r h (i : Int) with ⟨e1, _⟩ | ⟨p1, _, x, hx, _, e1⟩
     ·rw [e1] at m1; cases m1
     ·rcases q4r h (j : Int) with ⟨e2, _⟩ | ⟨p2, _, y, hy, _, e2⟩
      ·rw [e2] at m2; cases m2
      ·rw [e1] at m1
       rw [e2] at m2
       exact h.ap _ p1 _ p2 (by simp only; omega) x y hx hy _ m1 _ m2 hd)]
    rfl)]
   rfl)]
  rfl)]
 rfl
end
theorem z6U (s : LockBody) : q1q s = some (decide (s.moving = 0) && !s.failed) := by
 unfold q1q
 by_cases c : s.moving = 0
 ·rw [if_pos c, decide_eq_true c]; rfl
 ·rw [if_neg c, decide_eq_false c]; rfl
theorem z3s (g : LockGate) : F9 g = some (g.wanted && decide (g.left = 0) && !g.failed) := by
 unfold F9
 by_cases c : g.wanted = true
 ·by_cases c2 : g.left = 0
  ·rw [if_pos c, if_pos c2, c, decide_eq_true c2]; rfl
  ·rw [if_pos c, if_neg c2, decide_eq_false c2, c]; rfl
 ·rw [if_neg c, show g.wanted = false by simpa using c]; rfl
structure z4R (n : ApiNet) (bo : List LockBody) (gt : List LockGate) (x : LockLocked) : Prop where
 pts : ∀ y ∈ w8 x, 0 < y.Position → ∃ s, idx bo y.Place = some s ∧ (decide (s.moving = 0) && !s.failed) = true ∧ s.position = y.Position
 gts : ∀ j : Nat, j < n.Gates.length → (∃ s ∈ x.Route.Steps, s.Section = ((n.Gates[j]?).getD ⟨0, 0⟩).Section) → ∃ g, idx gt (j : Int) = some g ∧ (g.wanted && decide (g.left = 0) && !g.failed) = true
 clr : x.sight = true ∨ ∀ s ∈ x.Route.Steps, ∃ b, idx bo s.Section = some b ∧ (decide (0 < b.axles) || b.disturbed) = false
section
variable {n : ApiNet} {ro : List ApiRoute} {ne : List (List ApiNeed)} {bo bo' : List LockBody} {gt gt' : List LockGate} {mp : List (Int × Option Int)} {ar : List (Int × LockLocked)}
variable {a1 : List ByteArray} {a2 : List ApiSection} {a3 : List ApiLink} {a4 : List ApiSignal} {a5 : List ApiGate} {a6 : List ApiRoute} {a7 : List (List ApiNeed)} {a8 : List LockBody} {a9 : List LockGate} {b1 : List (Int × Option Int)} {b2 : List (Int × LockLocked)}
theorem z3q (l : List ApiStep) (c d : Int) [Decidable (∃ s ∈ l, s.Section = c)] : Y5 l c d = some (decide (∃ s ∈ l, s.Section = c)) :=
 z3O (fun s : ApiStep => s.Section = c) (fun k hk => by
  unfold q0A q2j
  rw [j7 hk, Option.bind_some, Option.bind_some]
  by_cases h : l[k].Section = c
  ·rw [if_pos (decide_eq_true h), if_pos h]
  ·rw [if_neg (fun e => h (of_decide_eq_true e)), if_neg h])
theorem z3p (h : Inv n ro ne bo gt mp ar) (l : List ApiStep) (hl : ∀ s ∈ l, q4z n s) : ∃ b, J9 l a1 a2 a3 a4 a5 a6 a7 bo a9 b1 b2 = some b ∧ (b = false → ∀ s ∈ l, ∃ z, idx bo s.Section = some z ∧ (decide (0 < z.axles) || z.disturbed) = false) := by
 classical
 have key : J9 l a1 a2 a3 a4 a5 a6 a7 bo a9 b1 b2 = some (decide (∃ s ∈ l, ∃ z, idx bo s.Section = some z ∧ (decide (0 < z.axles) || z.disturbed) = true)) :=
  z3O (fun s : ApiStep => ∃ z, idx bo s.Section = some z ∧ (decide (0 < z.axles) || z.disturbed) = true) (fun k hk => by
   obtain ⟨z, z1, _⟩ := h.B.get (hl _ (List.getElem_mem hk)).1.1
   have z1 : idx bo l[k].Section = some z := z1
   unfold q0z q2i
   rw [j7 hk, Option.bind_some, z1, Option.bind_some, q4l, Option.bind_some, Option.bind_some]
   by_cases c : (decide (0 < z.axles) || z.disturbed) = true
   ·rw [if_pos c, if_pos ⟨z, rfl, c⟩]
   ·rw [if_neg c, if_neg (fun ⟨w, w1, w2⟩ => c (by rw [Option.some.inj w1]; exact w2))])
 refine ⟨_, key, fun hb s hs => ?_⟩
 have hb := of_decide_eq_false hb
 obtain ⟨z, z1, _⟩ := h.B.get (hl s hs).1.1
 refine ⟨z, z1, ?_⟩
 cases hz : (decide (0 < z.axles) || z.disturbed) with
 | false => rfl
 | true => exact absurd ⟨s, hs, z, z1, hz⟩ hb
theorem z9u (F : Fix n ro ne) (h : Inv n ro ne bo gt mp ar) {k : Int} {x : LockLocked} (hx : Q7 ar k = some x) (kx : LOk n ro ne k x) :
  ∃ b, q2k (some k) a1 a2 a3 a4 n.Gates a6 a7 ar bo gt mp = some b ∧ (b = true → z4R n bo gt x) := by
 classical
 have hst : ∀ s ∈ x.Route.Steps, q4z n s := by rw [kx.route]; exact (F.rok kx.kr).way.path.step
 unfold q2k
 rw [z2h F kx hx, Option.bind_some]
 rcases F7 (body := q0F bo (w8 x)) (fun j _ => ∀ i (hi : i < (w8 x).length), i < j → 0 < (w8 x)[i].Position → ∃ s, idx bo (w8 x)[i].Place = some s ∧ (decide (s.moving = 0) && !s.failed) = true ∧ s.position = (w8 x)[i].Position) (fun t => t = false) (w8 x).length 0 () (fun i hi h0 => by omega) (fun j s _ hj hI => by
  have hj : j < (w8 x).length := by omega
  unfold q0F
  rw [j7 hj, Option.bind_some]
  by_cases cp : 0 < (w8 x)[j].Position
  ·obtain ⟨s, s1, _⟩ := h.B.get ((kx.need F (q0M.1 (List.getElem_mem hj)).1).place (.inr (.inr (by omega))))
   rw [if_pos cp, s1, Option.bind_some, z6U, Option.bind_some]
   by_cases cs : (decide (s.moving = 0) && !s.failed) = true
   ·rw [if_pos cs, Option.bind_some, Option.bind_some]
    by_cases cq : s.position = (w8 x)[j].Position
    ·rw [if_neg (fun e => absurd cq (of_decide_eq_true e))]
     refine .inl ⟨_, rfl, fun i hi hij hp => ?_⟩
     by_cases e : i = j
     ·subst e
      exact ⟨s, s1, cs, cq⟩
     ·exact hI i hi (by omega) hp
    ·rw [if_pos (decide_eq_true cq)]
     exact .inr ⟨_, rfl, rfl⟩
   ·rw [if_neg cs, Option.bind_some, if_pos rfl]
    exact .inr ⟨_, rfl, rfl⟩
  ·rw [if_neg cp, Option.bind_some, if_neg Bool.false_ne_true]
   refine .inl ⟨_, rfl, fun i hi hij hp => ?_⟩
   by_cases e : i = j
   ·subst e
    exact absurd hp cp
   ·exact hI i hi (by omega) hp) with ⟨u, h1, h2⟩ | ⟨t, h1, h2⟩
 ·rw [h1, Option.bind_some, Sum.elim_inl]
  rcases F7 (body := q0d n.Gates ar gt) (fun j q => q = some k ∧ ∀ i : Nat, i < j → (∃ s ∈ x.Route.Steps, s.Section = ((n.Gates[i]?).getD ⟨0, 0⟩).Section) → ∃ g, idx gt (i : Int) = some g ∧ (g.wanted && decide (g.left = 0) && !g.failed) = true) (fun t => t = false) n.Gates.length 0 (some k) ⟨rfl, fun i hi => by omega⟩ (fun j q _ hj hI => by
   obtain ⟨hq, hI⟩ := hI
   subst hq
   have hj : j < n.Gates.length := by omega
   unfold q0d
   rw [j7 hj, Option.bind_some, Option.bind_some, hx, Option.bind_some, z3q, Option.bind_some]
   obtain ⟨g, g1, _⟩ := h.G.get (i := (j : Int)) ⟨by omega, by omega⟩
   have hgj : ((n.Gates[j]?).getD ⟨0, 0⟩) = n.Gates[j] := by rw [List.getElem?_eq_getElem hj]; rfl
   by_cases co : ∃ s ∈ x.Route.Steps, s.Section = n.Gates[j].Section
   ·rw [if_pos (decide_eq_true co), g1, Option.bind_some, z3s, Option.bind_some, Option.bind_some]
    by_cases cc : (g.wanted && decide (g.left = 0) && !g.failed) = true
    ·rw [cc, if_neg (by decide)]
     refine .inl ⟨_, rfl, rfl, fun i hi hs => ?_⟩
     by_cases e : i = j
     ·subst e
      exact ⟨g, g1, cc⟩
     ·exact hI i (by omega) hs
    ·rw [Bool.eq_false_iff.2 cc, if_pos (show (!false) = true from rfl)]
     exact .inr ⟨_, rfl, rfl⟩
   ·rw [if_neg (fun e => co (of_decide_eq_true e)), Option.bind_some, if_neg Bool.false_ne_true]
    refine .inl ⟨_, rfl, rfl, fun i hi hs => ?_⟩
    by_cases e : i = j
    ·subst e
     rw [hgj] at hs
     exact absurd hs co
    ·exact hI i (by omega) hs) with ⟨q, h3, hq, h4⟩ | ⟨t, h3, h4⟩
  ·subst hq
   rw [h3, Option.bind_some, Sum.elim_inl, Option.bind_some, hx, Option.bind_some]
   have hpts : ∀ y ∈ w8 x, 0 < y.Position → ∃ s, idx bo y.Place = some s ∧ (decide (s.moving = 0) && !s.failed) = true ∧ s.position = y.Position := fun y hy hp => by
    obtain ⟨i, hi, rfl⟩ := List.getElem_of_mem hy
    exact h2 i hi (by omega) hp
   have hgts : ∀ j : Nat, j < n.Gates.length → (∃ s ∈ x.Route.Steps, s.Section = ((n.Gates[j]?).getD ⟨0, 0⟩).Section) → ∃ g, idx gt (j : Int) = some g ∧ (g.wanted && decide (g.left = 0) && !g.failed) = true := fun j hj => h4 j (by omega)
   by_cases cs : x.sight = true
   ·rw [if_pos cs]
    exact ⟨_, rfl, fun _ => ⟨hpts, hgts, .inl cs⟩⟩
   ·obtain ⟨b, c1, c2⟩ := z3p (a1 := a1) (a2 := a2) (a3 := a3) (a4 := a4) (a5 := n.Gates) (a6 := a6) (a7 := a7) (a9 := gt) (b1 := mp) (b2 := ar) h x.Route.Steps hst
    rw [if_neg cs, c1]
    refine ⟨_, rfl, fun hb => ⟨hpts, hgts, .inr (c2 (by simpa using hb))⟩⟩
  ·rw [h3, h4]
   exact ⟨false, rfl, fun h => by cases h⟩
 ·rw [h1, h2]
  exact ⟨false, rfl, fun h => by cases h⟩
def z4Q (n : ApiNet) (bo : List LockBody) (gt : List LockGate) (mp : List (Int × Option Int)) (ar : List (Int × LockLocked)) (g v : Int) : Prop :=
 v ≠ 0 → ∃ k x, (k, some k) ∈ mp ∧ Q7 ar k = some x ∧ x.Route.From = g ∧ x.seen[0]? = some false ∧ z4R n bo gt x ∧ (v = 1 ↔ x.sight = true)
theorem q6R (F : Fix n ro ne) (h : Inv n ro ne bo gt mp ar) : ∀ (N : Nat) (g : Int) (d : List Int), 0 ≤ g ∧ g < (n.Signals.length : Int) → d.Nodup → (∀ s ∈ d, 0 ≤ s ∧ s < (n.Signals.length : Int)) →
  (v4 N g a1 a2 a3 n.Signals n.Gates a6 a7 d bo gt mp ar = none ∧ N + d.length ≤ n.Signals.length) ∨ ∃ v d', v4 N g a1 a2 a3 n.Signals n.Gates a6 a7 d bo gt mp ar = some (v, d') ∧ z4Q n bo gt mp ar g v
 | 0, g, d, hg, hn, hd => by
  refine .inl ⟨rfl, ?_⟩
  have := q7d (L := (List.range n.Signals.length).map fun i : Nat => (i : Int)) hn (fun s hs => by
   have := hd s hs
   exact List.mem_map.2 ⟨s.toNat, List.mem_range.2 (by omega), by omega⟩)
  simpa using this
 | N + 1, g, d, hg, hn, hd => by
  classical
  have hsig := F.net.g40
  have hdl := q7d (L := (List.range n.Signals.length).map fun i : Nat => (i : Int)) hn (fun s hs => by
   have := hd s hs
   exact List.mem_map.2 ⟨s.toNat, List.mem_range.2 (by omega), by omega⟩)
  simp only [List.length_map, List.length_range] at hdl
  unfold v4
  rw [q9V, Option.bind_some]
  by_cases cd : ∃ y ∈ d, g = y
  ·rw [if_pos (decide_eq_true cd)]
   exact .inr ⟨0, d, rfl, fun h => absurd rfl h⟩
  ·have hgd : g ∉ d := fun hm => cd ⟨g, hm, rfl⟩
   rw [if_neg (fun e => cd (of_decide_eq_true e)), q9e F h, Option.bind_some]
   have hlenm : (((mp.map (·.1)).mergeSort fun x y => decide (x ≤ y)).map some).length = ((mp.map (·.1)).mergeSort fun x y => decide (x ≤ y)).length := List.length_map _
   have hkept := h.kept
   have hmem : ∀ k ∈ ((mp.map (·.1)).mergeSort fun x y => decide (x ≤ y)), (k, some k) ∈ mp := fun k hk => by
    obtain ⟨p, hp, rfl⟩ := List.mem_map.1 (q3C.1 hk)
    have := (h.en p hp).1
    rw [← this]
    exact hp
   generalize ((mp.map (·.1)).mergeSort fun x y => decide (x ≤ y)) = ks at hlenm hkept hmem ⊢
   have hd' : (d ++ [g]).Nodup := by
    rw [List.nodup_append]
    exact ⟨hn, by simp, fun a ha b hb => by
     rw [List.mem_singleton.1 hb]
     exact fun e => hgd (e ▸ ha)⟩
   have hdr : ∀ s ∈ d ++ [g], 0 ≤ s ∧ s < (n.Signals.length : Int) := fun s hs => by
    rcases List.mem_append.1 hs with hs | hs
    ·exact hd s hs
    ·rw [List.mem_singleton.1 hs]; exact hg
   have key : (forM (v7 a1 a2 a3 n.Signals n.Gates a6 a7 d bo gt mp ar g (ks.map some) (v4 N)) (ks.map some).length 0 () = none ∧ N + (d ++ [g]).length ≤ n.Signals.length) ∨
     (∃ t, forM (v7 a1 a2 a3 n.Signals n.Gates a6 a7 d bo gt mp ar g (ks.map some) (v4 N)) (ks.map some).length 0 () = some t ∧ ∀ v, t = .inr v → z4Q n bo gt mp ar g v.1) := by
    have hbody : ∀ j, j < (ks.map some).length → (v7 a1 a2 a3 n.Signals n.Gates a6 a7 d bo gt mp ar g (ks.map some) (v4 N) j () = none ∧ N + (d ++ [g]).length ≤ n.Signals.length) ∨ v7 a1 a2 a3 n.Signals n.Gates a6 a7 d bo gt mp ar g (ks.map some) (v4 N) j () = some (.inl ()) ∨ ∃ v, v7 a1 a2 a3 n.Signals n.Gates a6 a7 d bo gt mp ar g (ks.map some) (v4 N) j () = some (.inr v) ∧ z4Q n bo gt mp ar g v.1 := fun j hj => by
     have hjk : j < ks.length := by rw [← hlenm]; exact hj
     obtain ⟨x, hx, kx⟩ := hkept _ (List.getElem_mem hjk)
     have hkm := hmem _ (List.getElem_mem hjk)
     unfold v7
     rw [j7 hj, List.getElem_map, Option.bind_some, Option.bind_some, hx, Option.bind_some]
     by_cases cf : x.Route.From ≠ g
     ·rw [if_pos cf, H0, if_pos rfl]
      exact .inr (.inl rfl)
     ·have cf : x.Route.From = g := Classical.not_not.1 cf
      obtain ⟨b, s1, s2⟩ := kx.seen0 F
      rw [if_neg (fun h => h cf), s1, Option.bind_some]
      cases b with
      | true =>
       rw [if_pos rfl, H0, if_pos rfl]
       exact .inr (.inl rfl)
      | false =>
       rw [if_neg Bool.false_ne_true]
       by_cases cl : 0 < x.leave
       ·rw [if_pos cl, H0, if_pos rfl]
        exact .inr (.inl rfl)
       ·obtain ⟨rb, r1, r2⟩ := z9u (a1 := a1) (a2 := a2) (a3 := a3) (a4 := n.Signals) (a6 := a6) (a7 := a7) F h hx kx
        rw [if_neg cl, r1, Option.bind_some, H0]
        cases rb with
        | false =>
         rw [if_pos (show (!false) = true from rfl)]
         exact .inr (.inl rfl)
        | true =>
         have hR := r2 rfl
         rw [if_neg (by decide), Option.bind_some, hx, Option.bind_some]
         by_cases cs : x.sight = true
         ·rw [if_pos cs]
          exact .inr (.inr ⟨_, rfl, fun _ => ⟨_, x, hkm, hx, cf, s2, hR, fun _ => cs, fun _ => rfl⟩⟩)
         ·rw [if_neg cs, Option.bind_some]
          have hshow : ∀ v : Int, v = 3 ∨ v = 2 → z4Q n bo gt mp ar g v := fun v hv _ => ⟨_, x, hkm, hx, cf, s2, hR, fun e => by omega, fun e => absurd e cs⟩
          by_cases ct : 0 ≤ x.Route.To
          ·have hto : 0 ≤ x.Route.To ∧ x.Route.To < (n.Signals.length : Int) := by
            have := j0u (F.rok kx.kr) (by rw [← kx.route]; omega)
            rw [← kx.route] at this
            exact this
           rw [if_pos ct, q1u (by omega) (by omega), Option.bind_some]
           rcases q6R F h N x.Route.To (d ++ [g]) hto hd' hdr with ⟨q1, q2⟩ | ⟨v, d', q1, _⟩
           ·rw [q1]
            exact .inl ⟨rfl, q2⟩
           ·rw [q1, H0, H0]
            split
            ·exact .inr (.inr ⟨_, rfl, hshow 3 (.inl rfl)⟩)
            ·exact .inr (.inr ⟨_, rfl, hshow 2 (.inr rfl)⟩)
          ·rw [if_neg ct, H0, if_neg Bool.false_ne_true]
           exact .inr (.inr ⟨_, rfl, hshow 2 (.inr rfl)⟩)
    have gen : ∀ (m k : Nat), k + m ≤ (ks.map some).length → (forM (v7 a1 a2 a3 n.Signals n.Gates a6 a7 d bo gt mp ar g (ks.map some) (v4 N)) m k () = none ∧ N + (d ++ [g]).length ≤ n.Signals.length) ∨
      (∃ t, forM (v7 a1 a2 a3 n.Signals n.Gates a6 a7 d bo gt mp ar g (ks.map some) (v4 N)) m k () = some t ∧ ∀ v, t = .inr v → z4Q n bo gt mp ar g v.1) := by
     intro m
     induction m with
     | zero => exact fun k _ => .inr ⟨_, rfl, fun v hv => by cases hv⟩
     | succ m ih =>
      intro k hk
      rcases hbody k (by omega) with ⟨h1, h2⟩ | h1 | ⟨v, h1, h2⟩
      ·exact .inl ⟨by simp only [Fp.forM, h1], h2⟩
      ·rw [z2l h1]
       exact ih (k + 1) (by omega)
      ·exact .inr ⟨_, z2k h1, fun w hw => by injection hw with hw; rw [← hw]; exact h2⟩
    exact gen _ 0 (by omega)
   rcases key with ⟨h1, h2⟩ | ⟨t, h1, h2⟩
   ·rw [h1]
    exact .inl ⟨rfl, by simp at h2; omega⟩
   ·rw [h1, Option.bind_some]
    cases t with
    | inl u =>
     rw [Sum.elim_inl]
     exact .inr ⟨0, d, rfl, fun h => absurd rfl h⟩
    | inr v =>
     obtain ⟨v, d'⟩ := v
     rw [Sum.elim_inr]
     exact .inr ⟨v, d', rfl, h2 _ rfl⟩
theorem z8G (F : Fix n ro ne) (h : Inv n ro ne bo gt mp ar) {g : Int} (hg : 0 ≤ g ∧ g < (n.Signals.length : Int)) : ∃ v, q1F g a1 a2 a3 n.Signals n.Gates a6 a7 bo gt mp ar = some (v, 0) ∧ z4Q n bo gt mp ar g v := by
 have hl : ∃ t, lim (fun N => v4 N g a1 a2 a3 n.Signals n.Gates a6 a7 ([] : List Int) bo gt mp ar) = some t ∧ z4Q n bo gt mp ar g t.1 := by
  refine z1r ?_ (fun N t ht => ?_)
  ·rcases q6R (a1 := a1) (a2 := a2) (a3 := a3) (a6 := a6) (a7 := a7) F h (n.Signals.length + 1) g [] hg .nil (fun s hs => by cases hs) with ⟨_, h2⟩ | ⟨v, d', h1, _⟩
   ·simp at h2
    omega
   ·exact ⟨_, _, h1⟩
  ·rcases q6R (a1 := a1) (a2 := a2) (a3 := a3) (a6 := a6) (a7 := a7) F h N g [] hg .nil (fun s hs => by cases hs) with ⟨h1, _⟩ | ⟨v, d', h1, h2⟩
   ·rw [h1] at ht; cases ht
   ·rw [h1] at ht
    rw [← Option.some.inj ht]
    exact h2
 obtain ⟨⟨v, d'⟩, h1, h2⟩ := hl
 unfold q1F
 rw [z2j, Option.bind_some, if_neg (fun e => absurd hg (of_decide_eq_true e)), h1, H0]
 exact ⟨v, rfl, h2⟩
end
section
variable {n : ApiNet} {ro : List ApiRoute} {ne : List (List ApiNeed)} {bo bo' : List LockBody} {gt gt' : List LockGate} {mp : List (Int × Option Int)} {ar : List (Int × LockLocked)}
variable {a1 : List ByteArray} {a2 : List ApiSection} {a3 : List ApiLink} {a4 : List ApiSignal} {a5 : List ApiGate} {a6 : List ApiRoute} {a7 : List (List ApiNeed)} {a8 : List LockBody} {a9 : List LockGate} {b1 : List (Int × Option Int)} {b2 : List (Int × LockLocked)}
theorem j0A {k : Int} {x : LockLocked} (kx : LOk n ro ne k x) (h0 : x.seen[0]? = some false) {i : Nat} (hi : i < x.Route.Steps.length) : x.gone[i]? = some false := by
 have hg : i < x.gone.length := by rw [kx.gone]; exact hi
 have h1 := List.getElem?_eq_getElem hg
 cases hb : x.gone[i] with
 | false => rw [h1, hb]
 | true =>
  have := kx.g0 i (by rw [h1, hb])
  rw [h0] at this
  cases this
theorem z2c {k : Int} {x : LockLocked} (kx : LOk n ro ne k x) (h0 : x.seen[0]? = some false) {i : Nat} (hi : i < x.Route.Steps.length) : z9A x x.Route.Steps[i].Section :=
 ⟨i, hi, by rw [List.getElem?_eq_getElem hi]; rfl, j0A kx h0 hi⟩
theorem z5U (F : Fix n ro ne) (h : Inv n ro ne bo gt mp ar) {k j : Int} (hk : (k, some k) ∈ mp) (hj : (j, some j) ∈ mp) {x y : LockLocked} (hx : Q7 ar k = some x) (hy : Q7 ar j = some y) (kx : LOk n ro ne k x) (ky : LOk n ro ne j y)
  (h0 : x.seen[0]? = some false) (h1 : y.seen[0]? = some false) (he : x.Route.From = y.Route.From) : k = j := by
 have px := kx.pos F
 have py := ky.pos F
 have e1 := (F.rok kx.kr).way.head x.Route.Steps[0] (by rw [← kx.route, List.head?_eq_getElem?]; exact List.getElem?_eq_getElem px)
 have e2 := (F.rok ky.kr).way.head y.Route.Steps[0] (by rw [← ky.route, List.head?_eq_getElem?]; exact List.getElem?_eq_getElem py)
 rw [← kx.route, he] at e1
 rw [← ky.route, e1] at e2
 have e3 := Option.some.inj e2
 injection e3 with e3 _
 have o1 := z2c kx h0 px
 rw [e3] at o1
 exact q7U F h hk hj hx hy o1 (z2c ky h1 py)
theorem z7h (F : Fix n ro ne) (h : Inv n ro ne bo gt mp ar) {k s : Int} {x : LockLocked} (hk : (k, some k) ∈ mp) (hx : Q7 ar k = some x) (ho : z9A x s) (hs : 0 ≤ s ∧ s < (n.Sections.length : Int)) : q0V s a1 a2 a3 a4 a5 a6 a7 bo a9 mp ar = some (k, 0, mp) := by
 unfold q0V
 rw [q3e, Option.bind_some, h.bl, decide_eq_true hs, if_pos rfl]
 obtain ⟨r, h1, h2⟩ := z5h F h a1 a2 a3 a4 a5 a6 a7 bo a9 s
 rw [h1, H0]
 rcases h2 with ⟨_, h2⟩ | ⟨y, hm, hy, oy⟩
 ·exact absurd ho (h2 _ hk x hx)
 ·rw [show r = k from q7U F h hm hk hy hx oy ho]
theorem z7b (hb : bo.length = n.Sections.length) {s : Int} (hs : 0 ≤ s ∧ s < (n.Sections.length : Int)) {z : LockBody} (hz : idx bo s = some z) : q2g s a1 a2 a3 a4 a5 a6 a7 bo a9 b1 b2 = some (decide (0 < z.axles) || z.disturbed, 0) := by
 unfold q2g
 rw [q3e, Option.bind_some, hb, decide_eq_true hs, if_pos rfl, hz, Option.bind_some, q4l]
 rfl
theorem z3f {l : List ApiNeed} {s : Int} {i : Int} (h : ∃ a ∈ l, a.Kind = 1 ∧ a.Place = s ∧ a.At = i) : J6 l s i = some true := by
 classical
 unfold J6
 rw [q7m (Q := fun j => ∃ hj : j < l.length, l[j].Kind = 1 ∧ l[j].Place = s ∧ l[j].At = i) (t := true) (fun j hj => by
  unfold q0h
  rw [j7 hj, Option.bind_some]
  by_cases c1 : l[j].Kind = 1
  ·by_cases c2 : l[j].Place = s
   ·by_cases c3 : l[j].At = i
    ·rw [if_pos c1, if_pos c2, decide_eq_true c3, Option.bind_some, if_pos rfl, if_pos ⟨hj, c1, c2, c3⟩]
    ·rw [if_pos c1, if_pos c2, decide_eq_false c3, Option.bind_some, if_neg Bool.false_ne_true, if_neg (fun h => c3 h.2.2.2)]
   ·rw [if_pos c1, if_neg c2, Option.bind_some, if_neg Bool.false_ne_true, if_neg (fun h => c2 h.2.2.1)]
  ·rw [if_neg c1, Option.bind_some, if_neg Bool.false_ne_true, if_neg (fun h => c1 h.2.1)])]
 obtain ⟨a, ha, h1⟩ := h
 obtain ⟨j, hj, rfl⟩ := List.getElem_of_mem ha
 rw [if_pos ⟨j, hj, hj, h1⟩]
 rfl
theorem z7J (F : Fix n ro ne) {k : Int} {x : LockLocked} (kx : LOk n ro ne k x) (h0 : x.seen[0]? = some false) {i : Nat} (hi : i < x.Route.Steps.length) : ∃ a ∈ w8 x, a.Kind = 1 ∧ a.Place = x.Route.Steps[i].Section ∧ a.At = (i : Int) := by
 obtain ⟨a, ha, hk, hp, hat⟩ := (F.nq kx.kr).2.1 i (by rw [← kx.route]; exact hi)
 refine ⟨a, q0M.2 ⟨kx.trk a ha (by omega), ?_⟩, hk, ?_, hat⟩
 ·unfold q4q
  rw [if_neg (by omega), if_neg (by omega), hat, show ((i : Int)).toNat = i by omega, j0A kx h0 hi]
  rfl
 ·rw [hp, ← kx.route, List.getElem?_eq_getElem hi]
  rfl
theorem z6x (h : Inv n ro ne bo gt mp ar) {j : Int} (hj : 0 ≤ j ∧ j < (n.Gates.length : Int)) {g : LockGate} (hg : idx gt j = some g) : q1D j a1 a2 a3 a4 a5 a6 a7 a8 gt b1 b2 = some (g.wanted && decide (g.left = 0) && !g.failed, 0) := by
 unfold q1D
 rw [z2j, Option.bind_some, h.gl, if_neg (fun e => absurd hj (of_decide_eq_true e)), hg, Option.bind_some, z3s]
 rfl
theorem z4f (hb : bo.length = n.Sections.length) {s : Int} (hs : 0 ≤ s ∧ s < (n.Sections.length : Int)) (hk : (sec n s).Kind = 2) {z : LockBody} (hz : idx bo s = some z) : q0p s a1 n.Sections a3 a4 a5 a6 a7 bo a9 b1 b2 = some (z.position, decide (z.moving = 0) && !z.failed, 0) := by
 unfold q0p
 rw [q7b hb, Option.bind_some, decide_eq_true ⟨hs, hk⟩, if_pos rfl, hz, Option.bind_some, z6U]
 rfl
theorem j1v (F : Fix n ro ne) (h : Inv n ro ne bo gt mp ar) {k : Int} {x : LockLocked} (hk : (k, some k) ∈ mp) (hx : Q7 ar k = some x) (kx : LOk n ro ne k x) (h0 : x.seen[0]? = some false) (hR : z4R n bo gt x) {c : Bool} (hc : x.sight = true → c = true) :
  G7 n (roK ro k) (w8 x) k c a1 n.Sections a3 a4 a5 a6 a7 bo gt mp ar = some (true, mp) := by
 have hst : ∀ s ∈ x.Route.Steps, q4z n s := by rw [kx.route]; exact (F.rok kx.kr).way.path.step
 rw [← kx.route]
 unfold G7
 rcases F7 (body := K3 (w8 x) a1 n.Sections a3 a4 a5 a6 a7 bo gt ar n x.Route k c) (fun _ s => s = mp) (fun _ => False) x.Route.Steps.length 0 mp rfl (fun i s _ hi hs => by
  subst hs
  have hi : i < x.Route.Steps.length := by omega
  have hin := (hst _ (List.getElem_mem hi)).1.1
  have hin : 0 ≤ x.Route.Steps[i].Section ∧ x.Route.Steps[i].Section < (n.Sections.length : Int) := hin
  obtain ⟨z, z1, _⟩ := h.B.get hin
  refine .inl ⟨s, ?_, rfl⟩
  unfold K3
  rw [j7 hi, Option.bind_some, z7h F h hk hx (z2c kx h0 hi) hin, z6c, z7b h.bl hin z1, H0, if_neg (by decide), if_neg (by decide), if_neg (fun e => e rfl), z3f (z7J F kx h0 hi)]
  have e1 : (if (decide (0 < z.axles) || z.disturbed) = true then (if c = true then (some true).bind fun r => some (!r) else some true) else (some true).bind fun r => some (!r)) = some false := by
   by_cases cz : (decide (0 < z.axles) || z.disturbed) = true
   ·rw [if_pos cz]
    rcases hR.clr with hs | hs
    ·rw [if_pos (hc hs)]; rfl
    ·obtain ⟨w, w1, w2⟩ := hs _ (List.getElem_mem hi)
     rw [z1] at w1
     rw [← Option.some.inj w1] at w2
     rw [w2] at cz
     cases cz
   ·rw [if_neg cz]; rfl
  rw [e1, Option.bind_some, if_neg Bool.false_ne_true, q3P (fun j hj => by
   have hg : (0 : Int) ≤ (j : Int) ∧ (j : Int) < (n.Gates.length : Int) := ⟨by omega, by omega⟩
   obtain ⟨g, g1, _⟩ := h.G.get hg
   unfold q0g
   rw [j7 hj, Option.bind_some, z6x h hg g1, H0]
   by_cases cs : n.Gates[j].Section = x.Route.Steps[i].Section
   ·obtain ⟨g', g2, g3⟩ := hR.gts j hj ⟨_, List.getElem_mem hi, by rw [List.getElem?_eq_getElem hj]; exact cs.symm⟩
    rw [g1] at g2
    rw [← Option.some.inj g2] at g3
    rw [if_pos cs, g3, if_pos rfl, decide_eq_false (fun e => e rfl), Option.bind_some, if_neg Bool.false_ne_true]
   ·rw [if_neg cs, Option.bind_some, if_neg Bool.false_ne_true])]
  rfl) with ⟨s, h1, h2⟩ | ⟨_, _, hF⟩
 ·subst h2
  rw [h1, Option.bind_some, Sum.elim_inl, q3P (fun j hj => by
   have hy := List.getElem_mem hj
   have hN := kx.need F (q0M.1 hy).1
   unfold q0f
   rw [j7 hj, Option.bind_some]
   by_cases cp : (w8 x)[j].Position = 0
   ·rw [if_pos cp]
   ·obtain ⟨z, z1, z2, z3⟩ := hR.pts _ hy (by have := hN.pos; omega)
    rw [if_neg cp, z4f h.bl (hN.place (.inr (.inr cp))) (hN.pts cp) z1, z6c, if_neg (by decide), if_neg (fun e => e z3), z2, Option.bind_some]
    rfl)]
  rfl
 ·exact hF.elim
theorem j1s (F : Fix n ro ne) (h : Inv n ro ne bo gt mp ar) {hs : List (List ApiNeed)} (hl : hs.length = ro.length) (hh : ∀ j : Nat, j < ro.length → hs[j]? = some (q4s mp ar j)) {g : Int} (hg : 0 ≤ g ∧ g < (n.Signals.length : Int)) :
  q1H n g a1 n.Sections a3 n.Signals n.Gates ro a7 ro hs bo gt mp ar = some (true, mp) := by
 classical
 obtain ⟨v, h1, h2⟩ := z8G (a1 := a1) (a2 := n.Sections) (a3 := a3) (a6 := ro) (a7 := a7) F h hg
 unfold q1H
 rw [h1, H0, if_neg (by decide)]
 by_cases cv : v = 0
 ·rw [if_pos cv]
 ·obtain ⟨k, x, hk, hx, hf, h0, hR, hv⟩ := h2 cv
  have kx : LOk n ro ne k x := by
   obtain ⟨_, x', hx', kx⟩ := h.en _ hk
   have hx' : Q7 ar k = some x' := hx'
   rw [hx] at hx'
   rw [Option.some.inj hx']
   exact kx
  unfold q0y q3M q0b
  rw [if_neg cv, Option.bind_some, q9D F h, Option.bind_some, Option.bind_some]
  have hmem : ∀ j ∈ ((mp.map (·.1)).mergeSort fun x y => decide (x ≤ y)), (j, some j) ∈ mp := fun j hj => by
   obtain ⟨p, hp, rfl⟩ := List.mem_map.1 (q3C.1 hj)
   have := (h.en p hp).1
   rw [← this]
   exact hp
  have hks : k ∈ ((mp.map (·.1)).mergeSort fun x y => decide (x ≤ y)) := q3C.2 (List.mem_map_of_mem (f := (·.1)) hk)
  generalize ((mp.map (·.1)).mergeSort fun x y => decide (x ≤ y)) = ks at hmem hks ⊢
  rw [q7m (Q := fun j => ∃ hj : j < ks.length, ks[j] = k) (t := (true, mp)) (fun j hj => by
   unfold q1R q4o
   have hjm := hmem _ (List.getElem_mem hj)
   obtain ⟨_, y, hy, ky⟩ := h.en _ hjm
   have hy : Q7 ar ks[j] = some y := hy
   have ky : LOk n ro ne ks[j] y := ky
   have hD : P8 mp ks[j] none = some ks[j] := by
    rcases h.look ks[j] with ⟨_, h2⟩ | ⟨h1, _⟩
    ·exact absurd (List.mem_map_of_mem (f := (·.1)) hjm) h2
    ·exact h1
   obtain ⟨b, s1, s2⟩ := ky.seen0 F
   rw [j7 hj, Option.bind_some, q5d, Option.bind_some, decide_eq_true ky.kr, if_pos rfl, Option.bind_some, hD, if_neg (by simp), Option.bind_some, hy, Option.bind_some, s1, Option.bind_some, Option.bind_some, H0, if_pos rfl]
   cases b with
   | true =>
    rw [if_pos rfl, Option.bind_some, if_neg Bool.false_ne_true, if_neg]
    rintro ⟨_, e⟩
    rw [e, hx] at hy
    rw [← Option.some.inj hy, h0] at s2
    cases s2
   | false =>
    rw [if_neg Bool.false_ne_true, if_pos ky.kr.1, if_pos ky.kr.2, F.idxR ky.kr, Option.bind_some, Option.bind_some]
    by_cases cf : (roK ro ks[j]).From = g
    ·have e : k = ks[j] := z5U F h hk hjm hx hy kx ky h0 s2 (by rw [hf, ky.route, cf])
     have hi : idx hs ks[j] = some (w8 x) := by
      obtain ⟨w, w1, w2⟩ := q3j (l := hs) ky.kr.1 (by rw [hl]; exact ky.kr.2)
      have := hh ks[j].toNat (by have := ky.kr; omega)
      rw [w1, ← w2, this, show ((ks[j].toNat : Nat) : Int) = ks[j] by have := ky.kr; omega, ← e, q9N h hk hx]
     rw [decide_eq_true cf, if_pos rfl, Option.bind_some, hi, Option.bind_some, ← e, j1v F h hk hx kx h0 hR (fun hs => decide_eq_true (hv.2 hs)), H0, if_pos ⟨hj, e.symm⟩]
    ·rw [decide_eq_false cf, if_neg Bool.false_ne_true, if_neg]
     rintro ⟨_, e⟩
     rw [e, ← kx.route] at cf
     exact cf hf)]
  obtain ⟨j, hj, e⟩ := List.getElem_of_mem hks
  rw [if_pos ⟨j, hj, hj, e⟩]
  rfl
end
def bx : ByteArray := ByteArray.mk #[120]
theorem z9o : J8 bx (ByteArray.mk #[10]) = some [bx] := by
 have e : Z0 bx (ByteArray.mk #[10]) 0 1 (bx, 0, [ByteArray.empty]) = some (.inr (bx, 0, [ByteArray.empty])) := by kernel_rfl
 have h : q0n bx (ByteArray.mk #[10]) 0 (-1) = (q7i (Z0 bx (ByteArray.mk #[10]) 0 1) (bx, 0, [ByteArray.empty])).bind (q4G fun x414 x415 l416 => (idx l416 x415).bind fun _ => (chk (x415 + 1)).bind fun _ => (z6w (put l416 x415 x414) 0 (x415 + 1)).bind fun l542 => some l542) := by kernel_rfl
 unfold J8
 rw [h, q8b e]
 rfl
theorem z9n : J8 bx (ByteArray.mk #[32]) = some [bx] := by
 have e : Z0 bx (ByteArray.mk #[32]) 0 1 (bx, 0, [ByteArray.empty]) = some (.inr (bx, 0, [ByteArray.empty])) := by kernel_rfl
 have h : q0n bx (ByteArray.mk #[32]) 0 (-1) = (q7i (Z0 bx (ByteArray.mk #[32]) 0 1) (bx, 0, [ByteArray.empty])).bind (q4G fun x414 x415 l416 => (idx l416 x415).bind fun _ => (chk (x415 + 1)).bind fun _ => (z6w (put l416 x415 x414) 0 (x415 + 1)).bind fun l542 => some l542) := by kernel_rfl
 unfold J8
 rw [h, q8b e]
 rfl
theorem j1G : q3F bx = some (false, [[bx]]) := by
 have h : q3F bx = (J8 bx (ByteArray.mk #[10])).bind fun l147 => (q4M (P0 l147) l147.length 0 ([] : (List (List ByteArray)))).bind (fun l239 => some (false, l239)) := by kernel_rfl
 rw [h, z9o, Option.bind_some]
 have e : P0 [bx] 0 [] = some [[bx]] := by
  have h2 : P0 [bx] 0 [] = (J8 bx (ByteArray.mk #[32])).bind fun l259 => some [l259] := by kernel_rfl
  rw [h2, z9n]
  rfl
 show ((P0 [bx] 0 []).bind fun s => some s).bind _ = _
 rw [e]
 rfl
theorem z1E : J7 = some true := by
 unfold J7 q7g
 rw [if_neg (by decide), show q3F (ByteArray.mk #[120]) = some (false, [[bx]]) from j1G, H0, if_neg (by decide)]
 rfl
theorem z3t {n : ApiNet} (h : Y4 n = some 0) : n.Links.length ≤ 90 ∧ n.Gates.length ≤ 8 := by
 unfold Y4 at h
 by_cases h0 : (n.Sections.length : Int) = 0
 ·rw [if_pos h0] at h; cases h
 ·rw [if_neg h0] at h
  by_cases c1 : 12 < (n.Stations.length : Int)
  ·rw [if_pos c1, Option.bind_some, if_pos rfl] at h; cases h
  ·rw [if_neg c1] at h
   by_cases c2 : 60 < (n.Sections.length : Int)
   ·rw [if_pos c2, Option.bind_some, if_pos rfl] at h; cases h
   ·rw [if_neg c2] at h
    by_cases c3 : 90 < (n.Links.length : Int)
    ·rw [if_pos c3, Option.bind_some, if_pos rfl] at h; cases h
    ·rw [if_neg c3] at h
     by_cases c4 : 40 < (n.Signals.length : Int)
     ·rw [if_pos c4, Option.bind_some, if_pos rfl] at h; cases h
     ·rw [if_neg c4, Option.bind_some] at h
      by_cases c5 : 8 < (n.Gates.length : Int)
      ·rw [if_pos (decide_eq_true c5)] at h; cases h
      ·exact ⟨by omega, by omega⟩
section
variable {n : ApiNet}
theorem z9q {ro : List ApiRoute} (hr : G8 n = some (0, ro)) (hm : ro.length ≤ 81) {k : Int} (hk : 0 ≤ k ∧ k < (ro.length : Int)) : q5H n [k] = some (0, ro) := by
 unfold q5H
 rw [hr, H0, if_neg (by decide), q3P (fun j hj => by
  have hj : j = 0 := by simpa using hj
  subst hj
  unfold q4Z
  rw [j7 (l := [k]) (j := 0) (by simp), Option.bind_some, X0 (by omega) (by omega), Option.bind_some, q1Y, Option.bind_some, if_pos (decide_eq_true (by simp; omega))])]
 rfl
theorem j2U (hN : q4T n) (hc : Y4 n = some 0) : q7f n = some (n.Stations, n.Sections, n.Links, n.Signals, n.Gates) := by
 have h1 := z3t hc
 have h2 := hN.n60
 have h3 := hN.g40
 have h4 := hN.s12
 unfold q7f q2R q2Q q2P q2O q2N
 rw [q1u (by omega) (by omega), Option.bind_some, Option.bind_some, q1u (by omega) (by omega), Option.bind_some, Option.bind_some, q1u (by omega) (by omega), Option.bind_some, Option.bind_some, q1u (by omega) (by omega), Option.bind_some, Option.bind_some, q1u (by omega) (by omega), Option.bind_some, Option.bind_some, z9z]
theorem j3a (hN : q4T n) (hcl : ∀ g ∈ n.Gates, g.Close ≤ 9223372036854775807) (hc : Y4 n = some 0) {ro : List ApiRoute} (hr : G8 n = some (0, ro)) (hR : ∀ r ∈ ro, q4a n r) (hm : ro.length ≤ 81) :
  ∃ ne bo gt, mLockNew n = some (n.Stations, n.Sections, n.Links, n.Signals, n.Gates, ro, ne, bo, gt, [], []) ∧ Fix n ro ne ∧ Inv n ro ne bo gt [] [] := by
 have h1 := z3t hc
 have h2 := hN.n60
 unfold mLockNew
 rw [hc, Option.bind_some, if_neg (by decide), hr, H0, if_neg (by decide), j2U hN hc, z9z, q9f (by omega) (by omega), Option.bind_some, q9f (by omega) (by omega), Option.bind_some, Option.bind_some]
 simp only [j4Q]
 obtain ⟨bo, b1, b2, b3, _⟩ := Y0 (body := q3w) (fun k s => s.length = n.Sections.length ∧ (∀ i : Nat, i < k → ∀ x, s[i]? = some x → x = ⟨0, false, 1, 0, false⟩) ∧ ∀ i : Nat, k ≤ i → ∀ x, s[i]? = some x → x = ⟨0, false, 0, 0, false⟩) (List.replicate n.Sections.length (⟨0, false, 0, 0, false⟩ : LockBody)).length 0 (List.replicate n.Sections.length ⟨0, false, 0, 0, false⟩) ⟨by simp, fun i hi => by omega, fun i _ x hx => List.eq_of_mem_replicate (List.mem_of_getElem? hx)⟩ (fun j s _ hj hI => by
  obtain ⟨i1, i2, i3⟩ := hI
  have hj : j < s.length := by simpa [i1] using hj
  have e := i3 j (by omega) _ (List.getElem?_eq_getElem hj)
  unfold q3w
  rw [j7 hj, Option.bind_some, e]
  refine ⟨_, rfl, by rw [z6]; exact i1, fun i hi x hx => ?_, fun i hi x hx => ?_⟩
  ·rw [F8, List.getElem?_set] at hx
   by_cases c : j = i
   ·rw [if_pos c, if_pos hj] at hx
    exact (Option.some.inj hx).symm
   ·rw [if_neg c] at hx
    exact i2 i (by omega) x hx
  ·rw [F8, List.getElem?_set, if_neg (by omega)] at hx
   exact i3 i (by omega) x hx)
 rw [b1, Option.bind_some]
 obtain ⟨ne, c1, c2, c3⟩ := Y0 (body := q3v n) (fun k s => s.length = k ∧ ∀ i : Nat, i < k → K6 n (roK ro i) = some (neK s i)) ro.length 0 [] ⟨rfl, fun i hi => by omega⟩ (fun j s _ hj hI => by
  obtain ⟨i1, i2⟩ := hI
  have hj : j < ro.length := by omega
  have hjk : (0 : Int) ≤ (j : Int) ∧ (j : Int) < (ro.length : Int) := ⟨by omega, by omega⟩
  have eR : roK ro (j : Int) = ro[j] := by
   unfold roK
   rw [show ((j : Int)).toNat = j by omega, List.getElem?_eq_getElem hj]
   rfl
  obtain ⟨q, hq⟩ := z4k hN (hR _ (List.getElem_mem hj))
  unfold q3v q6m
  rw [z9q hr hm hjk, H0, if_neg (by decide), j7 hj, Option.bind_some, hq, Option.bind_some, H0, q1u (by omega) (by omega), Option.bind_some]
  refine ⟨_, rfl, by simp [i1], fun i hi => ?_⟩
  unfold neK
  rw [show ((i : Int)).toNat = i by omega]
  by_cases c : i = j
  ·subst c
   rw [eR, hq, ← i1, List.getElem?_concat_length]
   rfl
  ·rw [List.getElem?_append_left (by omega)]
   have := i2 i (by omega)
   unfold neK at this
   rw [show ((i : Int)).toNat = i by omega] at this
   exact this)
 rw [c1, Option.bind_some]
 have hb : ∀ s ∈ bo, s = (⟨0, false, 1, 0, false⟩ : LockBody) := fun s hs => by
  obtain ⟨i, hi, rfl⟩ := List.getElem_of_mem hs
  exact b3 i (by simp; omega) _ (List.getElem?_eq_getElem hi)
 refine ⟨ne, bo, _, rfl, ⟨hN, hR, hm, by omega, fun k hk => c3 k (by omega), hcl⟩, ⟨b2, fun s hs => ?_, by simp, fun g hg => ?_, .nil, fun p hp => (List.not_mem_nil hp).elim, fun p hp => (List.not_mem_nil hp).elim⟩⟩
 ·rw [hb s hs]
  decide
 ·rw [List.eq_of_mem_replicate hg]
  decide
theorem j1V {ro : List ApiRoute} {ne : List (List ApiNeed)} {bo : List LockBody} {gt : List LockGate} {mp : List (Int × Option Int)} {ar : List (Int × LockLocked)} (F : Fix n ro ne) (h : Inv n ro ne bo gt mp ar) (l : List Fishkeep1Call) {j : Nat} (hj : j < l.length) :
  ∃ s', Z2 n n.Stations n.Sections n.Links n.Signals n.Gates ro ne ro l j (bo, gt, mp, ar) = some (.inl s') ∧ Inv n ro ne s'.1 s'.2.1 s'.2.2.1 s'.2.2.2 := by
 obtain ⟨r, bo', gt', mp', ar', h1, h2⟩ := j5q (a1 := n.Stations) (a3 := n.Links) F h l[j]
 obtain ⟨hs, h3, h4, h5⟩ := z9J (a1 := n.Stations) (a2 := n.Sections) (a3 := n.Links) (a4 := n.Signals) (a5 := n.Gates) (a7 := ne) (a8 := bo') (a9 := gt') F h2
 refine ⟨(bo', gt', mp', ar'), ?_, h2⟩
 unfold Z2
 simp only [z4Y]
 rw [j7 hj, Option.bind_some, h1, z9z, h3, H0, if_pos rfl, j0j F h2 h4 h5, Option.bind_some, Option.bind_some, if_neg (by decide)]
 rcases F7 (body := V6 n n.Stations n.Sections n.Links n.Signals n.Gates ro ne ro bo' gt' ar' hs) (fun _ s => s = mp') (fun _ => False) n.Signals.length 0 mp' rfl (fun i s _ hi hS => by
  subst hS
  refine .inl ⟨s, ?_, rfl⟩
  unfold V6
  rw [j1s F h2 h4 h5 ⟨by omega, by omega⟩, H0, if_pos rfl]) with ⟨s, g1, g2⟩ | ⟨_, _, hF⟩
 ·subst g2
  rw [g1]
  rfl
 ·exact hF.elim
theorem z4s (hS : j4y n) (hcl : ∀ g ∈ n.Gates, g.Close ≤ 9223372036854775807) (l : List Fishkeep1Call) : mFishkeep1LockKeeps n l = some true ∨ Inv.mFishkeep1LockKeeps n l = some true := by
 obtain ⟨c, hc, hok⟩ := z6z hS
 have bad : ∀ e : Int, e ≠ 0 → Inv.mLockNew n = some e → Inv.mFishkeep1LockKeeps n l = some true := fun e he h1 => by
  unfold Inv.mFishkeep1LockKeeps
  rw [z1E, Option.bind_some, if_pos rfl, h1, Option.bind_some, if_pos he]
 by_cases h0 : c = 0
 ·subst h0
  have hN := hok rfl
  obtain ⟨d, rs, h1, h2, h3, h4, h5⟩ := z4d hN
  have hr : G8 n = some (d, rs) := by
   unfold G8
   rw [hc, Option.bind_some, if_neg (by decide), h1, H0]
  by_cases hd : d = 0
  ·subst hd
   obtain ⟨ne, bo, gt, n1, F, I⟩ := j3a hN hcl hc hr h3 h5
   left
   unfold mFishkeep1LockKeeps
   rw [z1E, Option.bind_some, if_pos rfl, n1, Option.bind_some]
   simp only [j1e]
   rw [if_neg (by decide), hr, H0, if_neg (by decide), show (0 : Int) = ((0 : Nat) : Int) from rfl, show min (l.length : Int) 200 = ((min l.length 200 : Nat) : Int) by omega, q9U (by omega) (by omega), Option.bind_some]
   generalize List.drop 0 (List.take (min l.length 200) l) = q
   rcases F7 (body := Z2 n n.Stations n.Sections n.Links n.Signals n.Gates rs ne rs q) (fun _ s => Inv n rs ne s.1 s.2.1 s.2.2.1 s.2.2.2) (fun _ => False) q.length 0 (bo, gt, [], []) I (fun j s _ hj hI => by
    obtain ⟨bo1, gt1, mp1, ar1⟩ := s
    obtain ⟨s', s1, s2⟩ := j1V F hI q (j := j) (by omega)
    exact .inl ⟨s', s1, s2⟩) with ⟨s, g1, _⟩ | ⟨_, _, hF⟩
   ·rw [g1]
    rfl
   ·exact hF.elim
  ·refine .inr (bad d hd ?_)
   unfold Inv.mLockNew
   rw [hc, Option.bind_some, if_neg (by decide), hr, H0, if_pos hd]
 ·refine .inr (bad c h0 ?_)
  unfold Inv.mLockNew
  rw [hc, Option.bind_some, if_pos h0]
end
theorem z6r (n : ApiNet) (l : List Fishkeep1Call) (k0 : j5G n) (k1 : j5F l) {P : Prop} (_ : P) : mFishkeep1LockKeeps n l = some true ∨ Inv.mFishkeep1LockKeeps n l = some true :=
 z4s (fun s hs => k0.1.2 s hs) (fun g hg => (k0.2.2.2.2.2 g hg).2.2) l
end Go.Proofs.YtdbehipjelcmbaaGreatDoor
