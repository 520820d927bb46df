import Derived.Test.YtjlollifgeggdaaGreatDoorP2
import Derived.Test.YtjlollifgeggdaaGreatDoorP1
import Derived.KernelRfl
import Derived.Test.YtjlollifgeggdaaGreatDoorF6
set_option linter.unusedVariables false
set_option linter.unusedSimpArgs false
set_option linter.unusedSectionVars false
namespace Go.Proofs.YtjlollifgeggdaaGreatDoor
open Go.RowKit Go.Fp
theorem z1p : ∀ {l L : List Int}, l.Nodup → (∀ x ∈ l, x ∈ L) → l.length ≤ L.length
 | [], _, _, _ => Nat.zero_le _
 | x :: r, L, h, hs => by
  have hx := hs x List.mem_cons_self
  rw [List.nodup_cons] at h
  have h1 := z1p (l := r) (L := L.erase x) h.2 (fun y hy => by
   have hne : y ≠ x := fun e => h.1 (e ▸ hy)
   exact (List.mem_erase_of_ne hne).2 (hs y (List.mem_cons_of_mem _ hy)))
  rw [List.length_erase_of_mem hx] at h1
  have := List.length_pos_of_mem hx
  simp only [List.length_cons]
  omega
section
variable {n : j1} {ro : List z8} {ne : List (List q8)} {bo bo' : List q9} {gt gt' : List z6} {mp : List (Int × Option Int)} {ar : List (Int × z7)}
variable {a1 : List ByteArray} {a2 : List j3} {a3 : List k8} {a4 : List j7} {a5 : List Q1} {a6 : List z8} {a7 : List (List q8)} {a8 : List q9} {a9 : List z6} {b1 : List (Int × Option Int)} {b2 : List (Int × z7)}
theorem Inv.few (F : Fix n ro ne) (h : Inv n ro ne bo gt mp ar) : mp.length ≤ 81 := by
 have h1 := z1p (L := (List.range ro.length).map fun i : Nat => (i : Int)) h.nd (fun k hk => by
  obtain ⟨p, hp, rfl⟩ := List.mem_map.1 hk
  obtain ⟨_, x, _, kx⟩ := h.en p hp
  have := kx.kr
  exact List.mem_map.2 ⟨p.1.toNat, List.mem_range.2 (by omega), by omega⟩)
 have := F.many
 simp at h1
 omega
theorem z1l (F : Fix n ro ne) (h : Inv n ro ne bo gt mp ar) : z0n mp = some ((mp.map (·.1)).mergeSort fun x y => decide (x ≤ y)) := by
 have h1 := h.few F
 have h2 := F.many
 unfold z0n
 rw [q0t (by omega) (by omega), Ka, if_pos]
 rw [List.all_eq_true]
 intro p hp
 obtain ⟨_, x, _, kx⟩ := h.en p hp
 have := kx.kr
 exact decide_eq_true (by omega)
theorem q5e {k : Int} : k ∈ ((mp.map (·.1)).mergeSort fun x y => decide (x ≤ y)) ↔ k ∈ mp.map (·.1) := (List.mergeSort_perm _ _).mem_iff
theorem z0u (F : Fix n ro ne) (h : Inv n ro ne bo gt mp ar) : F3 a1 a2 a3 a4 a5 a6 a7 a8 a9 mp ar = some (((mp.map (·.1)).mergeSort fun x y => decide (x ≤ y)).map some) := by
 have hlen : ((mp.map (·.1)).mergeSort fun x y => decide (x ≤ y)).length ≤ 81 := by
  rw [List.length_mergeSort, List.length_map]
  exact h.few F
 unfold F3 q3G q0R
 rw [Ka, z1l F h, Ka]
 generalize hl : ((mp.map (·.1)).mergeSort fun x y => decide (x ≤ y)) = l
 rw [hl] at hlen
 obtain ⟨s, h1, h2⟩ := V4 (body := q0j mp l) (fun j s => s = (l.take j).map some) l.length 0 [] (by simp) (fun j s _ hj hs => by
  have hj : j < l.length := by omega
  subst hs
  unfold q0j
  have hk : l[j] ∈ mp.map (·.1) := q5e.1 (by rw [hl]; exact List.getElem_mem hj)
  have hd : q1e mp l[j] none = some l[j] := by
   rcases h.look l[j] with ⟨_, h3⟩ | ⟨h3, _⟩
   ·exact absurd hk h3
   ·exact h3
  rw [Q7 hj, Ka, Ka, hd, q0t (by simp; omega) (by simp; omega), Ka]
  exact ⟨_, rfl, by rw [List.take_succ_eq_append_getElem hj, List.map_append]; rfl⟩)
 rw [h1, Ka, h2, Nat.zero_add, List.take_length]
theorem z6T (hb : z2c n.Sections.length bo) : ∃ bo', q2K J1 bo.length 0 bo = some bo' ∧ z2c n.Sections.length bo' := by
 obtain ⟨s, h1, h2⟩ := V4 (body := J1) (fun _ b => z2c n.Sections.length b) bo.length 0 bo hb (fun j b _ hj hb' => by
  have hj : (0 : Int) ≤ (j : Int) ∧ (j : Int) < (n.Sections.length : Int) := by rw [← hb.1]; omega
  obtain ⟨s, h3, h4⟩ := hb'.get hj
  unfold J1
  rw [h3, Ka]
  by_cases c : s.moving = 0 ∨ s.failed = true
  ·have e1 : (if s.moving = 0 then some true else some s.failed) = some true := by
    by_cases c0 : s.moving = 0
    ·rw [if_pos c0]
    ·rw [if_neg c0, c.resolve_left c0]
   rw [e1, Ka, if_pos rfl]
   exact ⟨_, rfl, hb'⟩
  ·have c0 : ¬ s.moving = 0 := fun h => c (.inl h)
   have cf : ¬ s.failed = true := fun h => c (.inr h)
   have hm := h4.2.1
   have hp := h4.2.2
   have hjl : j < b.length := by have := hb'.1; omega
   rw [if_neg c0, Ka, if_neg cf, G9 (by omega) (by omega), Ka, F1, Q7 (by rw [List.length_set]; exact hjl), Ka, List.getElem_set_self]
   simp only
   by_cases c1 : s.moving - 1 = 0
   ·rw [if_pos c1, G9 (by omega) (by omega), Ka, F1, List.set_set, ← F1]
    exact ⟨_, rfl, hb'.put _ ⟨h4.1, ⟨by simp only; omega, by simp only; omega⟩, by simp only; omega, by simp only; omega⟩⟩
   ·rw [if_neg c1, ← F1]
    exact ⟨_, rfl, hb'.put _ ⟨h4.1, ⟨by simp only; omega, by simp only; omega⟩, h4.2.2⟩⟩)
 exact ⟨s, h1, h2⟩
theorem z7X (hb : z7j n.Gates.length gt) : ∃ gt', q2K J0 gt.length 0 gt = some gt' ∧ z7j n.Gates.length gt' := by
 obtain ⟨s, h1, h2⟩ := V4 (body := J0) (fun _ b => z7j n.Gates.length b) gt.length 0 gt hb (fun j b _ hj hb' => by
  have hj : (0 : Int) ≤ (j : Int) ∧ (j : Int) < (n.Gates.length : Int) := by rw [← hb.1]; omega
  obtain ⟨s, h3, h4⟩ := hb'.get hj
  unfold J0
  rw [h3, Ka]
  by_cases cw : s.wanted = true
  ·by_cases cl : 0 < s.left
   ·rw [if_pos cw, if_pos cl, Ka]
    by_cases cf : (!s.failed) = true
    ·rw [if_pos cf, G9 (by omega) (by omega), Ka]
     exact ⟨_, rfl, hb'.put _ (by simp only; omega)⟩
    ·rw [if_neg cf]
     exact ⟨_, rfl, hb'⟩
   ·rw [if_pos cw, if_neg cl, Ka, if_neg Kh]
    exact ⟨_, rfl, hb'⟩
  ·rw [if_neg cw, Ka, if_neg Kh]
   exact ⟨_, rfl, hb'⟩)
 exact ⟨s, h1, h2⟩
def z7d (n : j1) (ro : List z8) (ne : List (List q8)) (ks : List Int) (ar : List (Int × z7)) : Prop := ∀ k ∈ ks, ∃ x, Z7 ar k = some x ∧ LOk n ro ne k x
theorem z7d.put {ks : List Int} (h : z7d n ro ne ks ar) {k : Int} {x : z7} (hx : LOk n ro ne k x) : z7d n ro ne ks (V7 ar k x) := fun j hj => by
 by_cases c : j = k
 ·rw [c]; exact ⟨x, Z1 _ _ _, hx⟩
 ·obtain ⟨y, h1, h2⟩ := h j hj
  exact ⟨y, by rw [Q6 _ _ c]; exact h1, h2⟩
theorem Inv.kept (h : Inv n ro ne bo gt mp ar) : z7d n ro ne ((mp.map (·.1)).mergeSort fun x y => decide (x ≤ y)) ar := fun k hk => by
 obtain ⟨p, hp, rfl⟩ := List.mem_map.1 (q5e.1 hk)
 exact (h.en p hp).2
theorem z8p (F : Fix n ro ne) (h : Inv n ro ne bo gt mp ar) {ks : List Int} (hk : z7d n ro ne ks ar) : ∃ ar', q2K (Z5 (ks.map some)) (ks.map some).length 0 ar = some ar' ∧ Inv n ro ne bo gt mp ar' := by
 obtain ⟨r', h1, h2⟩ := V4 (body := Z5 (ks.map some)) (fun _ S => Inv n ro ne bo gt mp S ∧ z7d n ro ne ks S) (ks.map some).length 0 ar ⟨h, hk⟩ (fun j r' _ hj hS => by
  obtain ⟨hI, hK⟩ := hS
  have hj : j < ks.length := by simpa using hj
  obtain ⟨x, hx, kx⟩ := hK _ (List.getElem_mem hj)
  have hp := kx.pos F
  have hs := kx.seen
  have hm : x.Route.Steps.length ≤ 16 := by rw [kx.route]; exact (F.rok kx.kr).way.many
  have hc := kx.clk
  unfold Z5
  rw [Q7 (by simpa using hj), List.getElem_map, Ka, Ka, hx, Ka, G9 (by omega) (by omega), Ka]
  obtain ⟨b, hb, _⟩ := q2T (l := x.seen) (i := (x.seen.length : Int) - 1) (by omega) (by omega)
  rw [hb, Ka]
  have e1 : (if b = true then some (some ks[j], x.laps) else some (some ks[j], false)) = some (some ks[j], b && x.laps) := by cases b <;> rfl
  rw [e1, q1U]
  by_cases c : (b && x.laps) = true
  ·have hlaps : x.laps = true := by cases b <;> simp_all
   have hc2 := hc.2 hlaps
   rw [if_pos c, Ka, hx, Ka, G9 (by omega) (by omega), Ka]
   by_cases c6 : x.clock + 1 = 60
   ·rw [if_pos c6]
    have kx' : LOk n ro ne ks[j] ⟨x.Route, x.needs, x.seen, x.gone, false, x.sight, x.leave, x.clock + 1, x.number⟩ := ⟨kx.kr, kx.route, kx.num, kx.seen, kx.gone, kx.sub, kx.trk, kx.len, kx.g0, kx.leave, ⟨by simp only; omega, fun h => by cases h⟩⟩
    refine ⟨_, rfl, hI.put hx (fun _ => kx') (fun a ha => ?_), hK.put kx'⟩
    obtain ⟨ha, hb⟩ := q2G.1 ha
    refine q2G.2 ⟨ha, ?_⟩
    unfold q3J at hb ⊢
    by_cases c2 : a.Kind = 2
    ·rw [if_pos c2] at hb
     cases hb
    ·rw [if_neg c2] at hb ⊢
     exact hb
   ·rw [if_neg c6]
    have kx' : LOk n ro ne ks[j] ⟨x.Route, x.needs, x.seen, x.gone, x.laps, x.sight, x.leave, x.clock + 1, x.number⟩ := ⟨kx.kr, kx.route, kx.num, kx.seen, kx.gone, kx.sub, kx.trk, kx.len, kx.g0, kx.leave, ⟨by simp only; omega, fun _ => by simp only; omega⟩⟩
    exact ⟨_, rfl, hI.put hx (fun _ => kx') (fun a ha => ha), hK.put kx'⟩
  ·rw [if_neg c]
   exact ⟨_, rfl, hI, hK⟩)
 exact ⟨r', h1, h2.1⟩
theorem j0j {k : Int} {y : z7} (h : LOk n ro ne k y) (j : Nat) (h0 : y.seen[0]? = some true) : LOk n ro ne k ⟨y.Route, y.needs, y.seen, put y.gone (j : Int) true, y.laps, y.sight, y.leave, y.clock, y.number⟩ ∧ ∀ a ∈ W9 ⟨y.Route, y.needs, y.seen, put y.gone (j : Int) true, y.laps, y.sight, y.leave, y.clock, y.number⟩, a ∈ W9 y := by
 refine ⟨⟨h.kr, h.route, h.num, h.seen, by simp only [w8]; exact h.gone, h.sub, h.trk, h.len, fun _ _ => h0, h.leave, h.clk⟩, fun a ha => ?_⟩
 obtain ⟨ha, hb⟩ := q2G.1 ha
 refine q2G.2 ⟨ha, ?_⟩
 unfold q3J at hb ⊢
 by_cases c2 : a.Kind = 2
 ·rw [if_pos c2] at hb ⊢
  exact hb
 ·rw [if_neg c2] at hb ⊢
  by_cases c5 : a.Kind = 5
  ·rw [if_pos c5] at hb ⊢
   exact hb
  ·rw [if_neg c5] at hb ⊢
   simp only [F1] at hb
   rw [List.getElem?_set] at hb
   split at hb
   ·split at hb <;> simp at hb
   ·exact hb
theorem z4C (F : Fix n ro ne) (h : Inv n ro ne bo gt mp ar) {k : Int} {x : z7} (hx : Z7 ar k = some x) (kx : LOk n ro ne k x) :
  ∃ ar' mp', H1 (some k) a1 a2 a3 a4 a5 a6 a7 ar bo a9 mp = some (ar', mp') ∧ Inv n ro ne bo gt mp' ar' ∧ ∃ y, ar' = V7 ar k y ∧ LOk n ro ne k y := by
 have hm : x.Route.Steps.length ≤ 16 := by rw [kx.route]; exact (F.rok kx.kr).way.many
 have hst : ∀ s ∈ x.Route.Steps, q4s n s := by rw [kx.route]; exact (F.rok kx.kr).way.path.step
 unfold H1
 rw [Ka, hx, Ka]
 rcases q2k (body := Z8 bo mp k x) (fun j s => ∃ y, s = V7 ar k y ∧ y.Route = x.Route ∧ LOk n ro ne k y ∧ (∀ a ∈ W9 y, a ∈ W9 x) ∧ (0 < j → y.seen[0]? = some true))
  (fun t => t.2 = mp ∧ ∃ y, t.1 = V7 ar k y ∧ LOk n ro ne k y ∧ ∀ a ∈ W9 y, a ∈ W9 x) x.Route.Steps.length 0 ar ⟨x, (q5Y ar hx).symm, rfl, kx, fun a ha => ha, fun h => by omega⟩ (fun j s _ hj hI => by
   obtain ⟨y, rfl, hr, ky, hsub, h0⟩ := hI
   have hj : j < x.Route.Steps.length := by omega
   have hg : j < y.gone.length := by rw [ky.gone, hr]; exact hj
   have hs : j < y.seen.length := by rw [ky.seen, hr]; exact hj
   unfold Z8
   rw [Q7 hj, Ka, Z1, Ka, Q7 hg, Ka]
   cases hgj : y.gone[j] with
   | true =>
    rw [if_pos rfl]
    exact .inl ⟨_, rfl, y, rfl, hr, ky, hsub, fun _ => ky.g0 j (by rw [Kf hg, hgj])⟩
   | false =>
    have hsec := (hst _ (List.getElem_mem hj)).1.1
    obtain ⟨sb, s1, s2⟩ := h.B.get hsec
    rw [if_neg Kh, Ka, Q7 hs, Ka, s1, Ka, q5T, Ka, G9 (by omega) (by omega), Ka, Ka]
    have e1 : ∃ q, (if y.seen[j] = true then (if (decide (0 < sb.axles) || sb.disturbed) = true then some true else if (j : Int) + 1 < (y.Route.Steps.length : Int) then ((idx y.seen ((j : Int) + 1)).bind fun p => some (!p)) else some false) else some true) = some q ∧ (q = false → y.seen[j] = true) := by
     by_cases c : y.seen[j] = true
     ·rw [if_pos c]
      split
      ·exact ⟨_, rfl, fun h => by cases h⟩
      ·split
       ·rename_i c2
        obtain ⟨b, hb, _⟩ := q2T (l := y.seen) (i := (j : Int) + 1) (by omega) (by rw [ky.seen]; exact c2)
        rw [hb]
        exact ⟨_, rfl, fun _ => c⟩
       ·exact ⟨_, rfl, fun _ => c⟩
     ·rw [if_neg c]
      exact ⟨_, rfl, fun h => by cases h⟩
    obtain ⟨q, e1, e2⟩ := e1
    rw [e1, Ka]
    cases q with
    | true =>
     rw [if_pos rfl]
     exact .inr ⟨_, rfl, rfl, y, rfl, ky, hsub⟩
    | false =>
     have hsj := e2 rfl
     have h00 : y.seen[0]? = some true := by
      by_cases c : j = 0
      ·subst c
       rw [Kf hs, hsj]
      ·exact h0 (by omega)
     obtain ⟨k1, k2⟩ := j0j ky j h00
     rw [if_neg Kh, Ka, Q7 hg, Ka, q9H]
     exact .inl ⟨_, rfl, _, rfl, hr, k1, fun a ha => hsub a (k2 a ha), fun _ => h00⟩) with ⟨s, h1, y, rfl, _, ky, hsub, _⟩ | ⟨⟨s, m'⟩, h1, h2, y, h3, ky, hsub⟩
 ·rw [h1, Ka, Sum.elim_inl, Z1, Ka]
  exact ⟨_, _, rfl, (h.put hx (fun _ => ky) hsub).del _, y, rfl, ky⟩
 ·simp only at h2 h3
  rw [h1, Ka, Sum.elim_inr, h2, h3]
  exact ⟨_, _, rfl, h.put hx (fun _ => ky) hsub, y, rfl, ky⟩
end
theorem z3J {α : Type} {body : Nat → List α → Option (List α)} {f : α → α} (l : List α) (hb : ∀ (j : Nat) (b : List α) (hj : j < b.length) (hl : j < l.length), b[j] = l[j] → body j b = some (b.set j (f l[j]))) : q2K body l.length 0 l = some (l.map f) := by
 obtain ⟨s, h1, h2⟩ := V4 (body := body) (fun j b => b = (l.take j).map f ++ l.drop j) l.length 0 l (by simp) (fun j b _ hj hI => by
  have hj : j < l.length := by omega
  subst hI
  have hlt : ((l.take j).map f).length = j := by simp; omega
  have hjb : j < ((l.take j).map f ++ l.drop j).length := by rw [List.length_append, hlt, List.length_drop]; omega
  refine ⟨_, hb j _ hjb hj ?_, ?_⟩
  ·rw [List.getElem_append_right (by omega)]
   simp only [hlt, Nat.sub_self, List.getElem_drop, Nat.add_zero]
  ·rw [List.set_append_right _ _ (by omega), hlt, Nat.sub_self, List.take_succ_eq_append_getElem hj, List.map_append, List.append_assoc, List.drop_eq_getElem_cons hj]
   rfl)
 rw [h1, h2]
 simp
def z8M (s : q9) : q9 := if s.moving = 0 ∨ s.failed = true then s else if s.moving - 1 = 0 then ⟨s.axles, s.disturbed, 3 - s.position, s.moving - 1, s.failed⟩ else ⟨s.axles, s.disturbed, s.position, s.moving - 1, s.failed⟩
def j1q (g : z6) : z6 := if g.wanted = true ∧ 0 < g.left ∧ g.failed = false then ⟨g.left - 1, g.wanted, g.failed⟩ else g
theorem q7I {α : Type} {l : List α} {j : Nat} {x : α} (h : j < l.length) (e : l[j] = x) : l.set j x = l := by
 rw [← e]
 exact List.set_getElem_self h
theorem z1U {m : Nat} {bo : List q9} (hb : z2c m bo) : q2K J1 bo.length 0 bo = some (bo.map z8M) := z3J bo fun j b hj hl he => by
 have h4 := hb.2 _ (List.getElem_mem hl)
 have hm := h4.2.1
 have hp := h4.2.2
 unfold J1
 rw [Q7 hj, Ka, he]
 unfold z8M
 by_cases c : bo[j].moving = 0 ∨ bo[j].failed = true
 ·have e1 : (if bo[j].moving = 0 then some true else some bo[j].failed) = some true := by
   by_cases c0 : bo[j].moving = 0
   ·rw [if_pos c0]
   ·rw [if_neg c0, c.resolve_left c0]
  rw [e1, Ka, if_pos rfl, if_pos c, q7I hj he]
 ·have c0 : ¬ bo[j].moving = 0 := fun h => c (.inl h)
  have cf : ¬ bo[j].failed = true := fun h => c (.inr h)
  rw [if_neg c0, Ka, if_neg cf, G9 (by omega) (by omega), Ka, F1, Q7 (by rw [List.length_set]; exact hj), Ka, List.getElem_set_self, if_neg c]
  simp only
  by_cases c1 : bo[j].moving - 1 = 0
  ·rw [if_pos c1, if_pos c1, G9 (by omega) (by omega), Ka, F1, List.set_set]
  ·rw [if_neg c1, if_neg c1]
theorem z3H {m : Nat} {gt : List z6} (hb : z7j m gt) : q2K J0 gt.length 0 gt = some (gt.map j1q) := z3J gt fun j b hj hl he => by
 have h4 := hb.2 _ (List.getElem_mem hl)
 unfold J0
 rw [Q7 hj, Ka, he]
 unfold j1q
 by_cases cw : gt[j].wanted = true
 ·by_cases cl : 0 < gt[j].left
  ·rw [if_pos cw, if_pos cl, Ka]
   by_cases cf : (!gt[j].failed) = true
   ·have cf' : gt[j].failed = false := by simpa using cf
    rw [if_pos cf, G9 (by omega) (by omega), Ka, if_pos ⟨cw, cl, cf'⟩, F1]
   ·rw [if_neg cf, if_neg (fun h => cf (by rw [h.2.2]; rfl)), q7I hj he]
  ·rw [if_pos cw, if_neg cl, Ka, if_neg Kh, if_neg (fun h => cl h.2.1), q7I hj he]
 ·rw [if_neg cw, Ka, if_neg Kh, if_neg (fun h => cw h.1), q7I hj he]
theorem z3E {ν : Type} : ∀ {l : List (Int × ν)} {k : Int}, (l.map (·.1)).Nodup → ∀ {p : Int × ν}, p ∈ q7L l k ↔ p ∈ l ∧ p.1 ≠ k
 | [], k, _, p => by simp [q7L]
 | (a, b) :: r, k, hn, p => by
  simp only [List.map_cons, List.nodup_cons] at hn
  simp only [q7L]
  by_cases c : a = k
  ·subst c
   rw [if_pos rfl]
   constructor
   ·intro h
    exact ⟨List.mem_cons_of_mem _ h, fun e => hn.1 (e ▸ List.mem_map_of_mem h)⟩
   ·rintro ⟨h1, h2⟩
    rcases List.mem_cons.1 h1 with h1 | h1
    ·exact absurd (by rw [h1]) h2
    ·exact h1
  ·rw [if_neg c, List.mem_cons, List.mem_cons, z3E hn.2]
   constructor
   ·rintro (h | ⟨h1, h2⟩)
    ·exact ⟨.inl h, by rw [h]; exact c⟩
    ·exact ⟨.inr h1, h2⟩
   ·rintro ⟨h1 | h1, h2⟩
    ·exact .inl h1
    ·exact .inr ⟨h1, h2⟩
def z2o (bo : List q9) (s : Int) : Bool := ((idx bo s).map fun b => decide (0 < b.axles) || b.disturbed).getD false
def q7i (bo : List q9) (x : z7) (i : Nat) : Bool := !((x.seen[i]?).getD false) || z2o bo ((x.Route.Steps[i]?).getD ⟨0, 0, 0⟩).Section || (decide (i + 1 < x.Route.Steps.length) && !((x.seen[i + 1]?).getD false))
def q8k (bo : List q9) (x : z7) : Nat → Nat → List Bool → List Bool × Bool
 | 0, _, g => (g, true)
 | m + 1, i, g => if (g[i]?).getD true = true then q8k bo x m (i + 1) g else if q7i bo x i = true then (g, false) else q8k bo x m (i + 1) (g.set i true)
def q0N (x : z7) (g : List Bool) : z7 := ⟨x.Route, x.needs, x.seen, g, x.laps, x.sight, x.leave, x.clock, x.number⟩
def z7H (bo : List q9) (x : z7) : List Bool × Bool := q8k bo x x.Route.Steps.length 0 x.gone
def j0R (bo : List q9) (x : z7) : z7 := q0N x (z7H bo x).1
def z5C (x : z7) : z7 := if ((x.seen[x.seen.length - 1]?).getD false && x.laps) = true then ⟨x.Route, x.needs, x.seen, x.gone, if x.clock + 1 = 60 then false else x.laps, x.sight, x.leave, x.clock + 1, x.number⟩ else x
section
variable {n : j1} {ro : List z8} {ne : List (List q8)} {bo bo' : List q9} {gt gt' : List z6} {mp : List (Int × Option Int)} {ar : List (Int × z7)}
variable {a1 : List ByteArray} {a2 : List j3} {a3 : List k8} {a4 : List j7} {a5 : List Q1} {a6 : List z8} {a7 : List (List q8)} {a8 : List q9} {a9 : List z6} {b1 : List (Int × Option Int)} {b2 : List (Int × z7)}
theorem q4A (F : Fix n ro ne) (h : Inv n ro ne bo gt mp ar) {k : Int} {x : z7} (kx : LOk n ro ne k x) : ∀ (m i : Nat) (g : List Bool), g.length = x.Route.Steps.length → i + m = x.Route.Steps.length →
  Fp.forM (Z8 bo mp k x) m i (V7 ar k (q0N x g)) = some (if (q8k bo x m i g).2 = true then .inl (V7 ar k (q0N x (q8k bo x m i g).1)) else .inr (V7 ar k (q0N x (q8k bo x m i g).1), mp))
 | 0, i, g, _, _ => rfl
 | m + 1, i, g, hg, hi => by
  have hst : ∀ s ∈ x.Route.Steps, q4s n s := by rw [kx.route]; exact (F.rok kx.kr).way.path.step
  have hm : x.Route.Steps.length ≤ 16 := by rw [kx.route]; exact (F.rok kx.kr).way.many
  have hil : i < x.Route.Steps.length := by omega
  have hig : i < g.length := by omega
  have his : i < x.seen.length := by rw [kx.seen]; exact hil
  obtain ⟨sb, s1, s2⟩ := h.B.get (hst _ (List.getElem_mem hil)).1.1
  have s1 : idx bo x.Route.Steps[i].Section = some sb := s1
  have hsh : z2o bo ((x.Route.Steps[i]?).getD ⟨0, 0, 0⟩).Section = (decide (0 < sb.axles) || sb.disturbed) := by
   unfold z2o
   rw [Kf hil, Option.getD_some, s1]
   rfl
  have body : Z8 bo mp k x i (V7 ar k (q0N x g)) = some (if g[i] = true then .inl (V7 ar k (q0N x g)) else if q7i bo x i = true then .inr (V7 ar k (q0N x g), mp) else .inl (V7 ar k (q0N x (g.set i true)))) := by
   unfold Z8
   rw [Q7 hil, Ka, Z1, Ka]
   show (idx g (i : Int)).bind _ = _
   rw [Q7 hig, Ka]
   cases hgi : g[i] with
   | true => rw [if_pos rfl, if_pos rfl]
   | false =>
    rw [if_neg Kh, if_neg Kh, Ka]
    have e1 : ((idx (q0N x g).seen (i : Int)).bind fun m => if m = true then ((idx bo x.Route.Steps[i].Section).bind fun n => (W0 n).bind fun o => if o = true then some true else ((chk ((i : Int) + 1)).bind fun _ => if ((i : Int) + 1) < ((q0N x g).Route.Steps.length : Int) then ((chk ((i : Int) + 1)).bind fun _ => (idx (q0N x g).seen ((i : Int) + 1)).bind fun p => some (!p)) else some false)) else some true) = some (q7i bo x i) := by
     show ((idx x.seen (i : Int)).bind _) = _
     unfold q7i
     rw [Q7 his, Ka, Kf his, Option.getD_some, hsh]
     cases x.seen[i] with
     | false => rfl
     | true =>
      rw [if_pos rfl, s1, Ka, q5T, Ka]
      cases (decide (0 < sb.axles) || sb.disturbed) with
      | true => rfl
      | false =>
       rw [if_neg Kh, G9 (by omega) (by omega), Ka]
       show (if (i : Int) + 1 < (x.Route.Steps.length : Int) then _ else _) = _
       by_cases c : i + 1 < x.Route.Steps.length
       ·have hs1 : i + 1 < x.seen.length := by rw [kx.seen]; exact c
        rw [if_pos (by omega), Ka]
        show ((idx x.seen ((i : Int) + 1)).bind _) = _
        rw [show (i : Int) + 1 = ((i + 1 : Nat) : Int) by omega, Q7 hs1, Ka, Kf hs1, decide_eq_true c]
        rfl
       ·rw [if_neg (by omega), decide_eq_false c]
        rfl
    rw [e1, Ka]
    cases q7i bo x i with
    | true => rw [if_pos rfl, if_pos rfl]
    | false =>
     rw [if_neg Kh, if_neg Kh]
     show (idx g (i : Int)).bind _ = _
     rw [Q7 hig, Ka, q9H, F1]
     rfl
  have hgd : (g[i]?).getD true = g[i] := by rw [Kf hig]; rfl
  unfold q8k
  rw [hgd]
  by_cases c : g[i] = true
  ·rw [if_pos c] at body
   rw [q6h body, q4A F h kx m (i + 1) g hg (by omega), if_pos c]
  ·rw [if_neg c] at body
   rw [if_neg c]
   by_cases c2 : q7i bo x i = true
   ·rw [if_pos c2] at body
    rw [z0B body, if_pos c2]
    rfl
   ·rw [if_neg c2] at body
    rw [q6h body, q4A F h kx m (i + 1) (g.set i true) (by rw [List.length_set]; exact hg) (by omega), if_neg c2]
theorem z4D (F : Fix n ro ne) (h : Inv n ro ne bo gt mp ar) {k : Int} {x : z7} (hx : Z7 ar k = some x) (kx : LOk n ro ne k x) :
  H1 (some k) a1 a2 a3 a4 a5 a6 a7 ar bo a9 mp = some (V7 ar k (j0R bo x), if (z7H bo x).2 = true then q7L mp k else mp) := by
 unfold H1
 rw [Ka, hx, Ka]
 have h1 := q4A F h kx x.Route.Steps.length 0 x.gone kx.gone (by omega)
 have h2 : q0N x x.gone = x := rfl
 rw [h2, q5Y ar hx] at h1
 rw [h1, Ka]
 unfold j0R z7H
 by_cases c : (q8k bo x x.Route.Steps.length 0 x.gone).2 = true
 ·rw [if_pos c, if_pos c, Sum.elim_inl, Z1, Ka]
  have : (q0N x (q8k bo x x.Route.Steps.length 0 x.gone).1).number = k := kx.num
  rw [this]
 ·rw [if_neg c, if_neg c, Sum.elim_inr]
end
section
variable {n : j1} {ro : List z8} {ne : List (List q8)} {bo bo' : List q9} {gt gt' : List z6} {mp : List (Int × Option Int)} {ar : List (Int × z7)}
variable {a1 : List ByteArray} {a2 : List j3} {a3 : List k8} {a4 : List j7} {a5 : List Q1} {a6 : List z8} {a7 : List (List q8)} {a8 : List q9} {a9 : List z6} {b1 : List (Int × Option Int)} {b2 : List (Int × z7)}
def j0N (mp : List (Int × Option Int)) (ar : List (Int × z7)) (s : Int) : Prop := ∃ e ∈ mp, ∃ x, Z7 ar e.1 = some x ∧ z8P x s
def z2Z (n : j1) (mp : List (Int × Option Int)) (ar : List (Int × z7)) (j : Nat) (g g' : z6) : Prop :=
 g'.failed = g.failed ∧ (j0N mp ar ((n.Gates[j]?).getD ⟨0, 0⟩).Section → g'.wanted = true ∧ (g.wanted = true → g'.left = g.left) ∧ (g.wanted = false → g'.left = ((n.Gates[j]?).getD ⟨0, 0⟩).Close)) ∧ (¬ j0N mp ar ((n.Gates[j]?).getD ⟨0, 0⟩).Section → g'.wanted = false ∧ g'.left = g.left)
theorem z5p (F : Fix n ro ne) (h : Inv n ro ne bo gt mp ar) (a1 : List ByteArray) (a2 : List j3) (a3 : List k8) (a4 : List j7) (a6 : List z8) (a7 : List (List q8)) (a8 : List q9) :
  ∃ gt', q0y a1 a2 a3 a4 n.Gates a6 a7 a8 gt mp ar = some (gt', mp) ∧ gt'.length = gt.length ∧ (∀ g ∈ gt', g.left ≤ 9223372036854775807) ∧ ∀ (j : Nat) (g : z6), gt[j]? = some g → ∃ g', gt'[j]? = some g' ∧ z2Z n mp ar j g g' := by
 unfold q0y
 obtain ⟨⟨g1, m1⟩, h1, h2, h3, h4, h5⟩ := V4 (body := q0S a1 a2 a3 a4 n.Gates a6 a7 a8 ar) (fun k S => S.2 = mp ∧ S.1.length = gt.length ∧ (∀ g ∈ S.1, g.left ≤ 9223372036854775807) ∧ ∀ (j : Nat) (g : z6), gt[j]? = some g → ∃ g', S.1[j]? = some g' ∧ (j < k → z2Z n mp ar j g g') ∧ (k ≤ j → g' = g)) n.Gates.length 0 (gt, mp) ⟨rfl, rfl, h.gb, fun j g hg => ⟨g, hg, fun h => by omega, fun _ => rfl⟩⟩ (fun k S _ hk hS => by
  obtain ⟨g1, m1⟩ := S
  obtain ⟨h2, h3, h4, h5⟩ := hS
  have h2 : m1 = mp := h2
  subst h2
  have h3 : g1.length = gt.length := h3
  have h4 : ∀ g ∈ g1, g.left ≤ 9223372036854775807 := h4
  have h5 : ∀ (j : Nat) (g : z6), gt[j]? = some g → ∃ g', g1[j]? = some g' ∧ (j < k → z2Z n m1 ar j g g') ∧ (k ≤ j → g' = g) := h5
  have hk : k < n.Gates.length := by omega
  have hkg : k < gt.length := by rw [h.gl]; exact hk
  have hg : k < g1.length := by rw [h3]; exact hkg
  have eG : ((n.Gates[k]?).getD ⟨0, 0⟩) = n.Gates[k] := by rw [Kf hk]; rfl
  obtain ⟨g0, e0, _, e2⟩ := h5 k gt[k] (Kf hkg)
  have e2 := e2 (Nat.le_refl _)
  rw [Kf hg] at e0
  have e0 : g1[k] = gt[k] := by rw [Kd e0, e2]
  unfold q0S
  show ∃ s', Option.bind _ _ = _ ∧ _
  obtain ⟨r, h6, h7⟩ := z7K F h a1 a2 a3 a4 n.Gates a6 a7 a8 g1 n.Gates[k].Section
  have hr : 0 ≤ r ↔ j0N m1 ar n.Gates[k].Section := by
   rcases h7 with ⟨rfl, h7⟩ | ⟨x, m1, x1, o1⟩
   ·exact ⟨fun h => by omega, fun ⟨e, he, x, hx, ho⟩ => absurd ho (h7 e he x hx)⟩
   ·obtain ⟨_, y, _, ky⟩ := h.en _ m1
    have hk := ky.kr
    exact ⟨fun _ => ⟨_, m1, x, x1, o1⟩, fun _ => hk.1⟩
  have key : ∀ y : z6, y.left ≤ 9223372036854775807 → z2Z n m1 ar k gt[k] y → (∀ g ∈ put g1 (k : Int) y, g.left ≤ 9223372036854775807) ∧ ∀ (j : Nat) (g : z6), gt[j]? = some g → ∃ g', (put g1 (k : Int) y)[j]? = some g' ∧ (j < k + 1 → z2Z n m1 ar j g g') ∧ (k + 1 ≤ j → g' = g) := fun y hy hw => by
   rw [F1]
   refine ⟨fun g hgm => ?_, fun j g hj => ?_⟩
   ·rcases List.mem_or_eq_of_mem_set hgm with h | h
    ·exact h4 g h
    ·rw [h]; exact hy
   ·by_cases c : k = j
    ·subst c
     rw [Kf hkg] at hj
     rw [← Kd hj]
     refine ⟨y, ?_, fun _ => hw, fun h => by omega⟩
     rw [List.getElem?_set, if_pos rfl, if_pos hg]
    ·obtain ⟨g', q1, q2, q3⟩ := h5 j g hj
     refine ⟨g', ?_, fun h => q2 (by omega), fun h => q3 (by omega)⟩
     rw [List.getElem?_set, if_neg c]
     exact q1
  have hb := h4 _ (List.getElem_mem hg)
  rw [e0] at hb
  have hc := F.close _ (List.getElem_mem hk)
  rw [Q7 hk, Ka, Q7 hg, Ka, h6, Ka]
  simp only [F7]
  rw [e0]
  by_cases c : 0 ≤ r
  ·rw [if_pos c, decide_eq_true c]
   have ho := hr.1 c
   by_cases cw : gt[k].wanted = true
   ·rw [if_pos cw]
    obtain ⟨k1, k2⟩ := key ⟨gt[k].left, true, gt[k].failed⟩ hb ⟨rfl, fun _ => ⟨rfl, fun _ => rfl, fun h => by rw [cw] at h; cases h⟩, fun h => absurd (by rw [eG]; exact ho) h⟩
    exact ⟨_, rfl, rfl, by rw [w8]; exact h3, k1, k2⟩
   ·rw [if_neg cw, Q7 (by rw [w8]; exact hg), Ka]
    obtain ⟨k1, k2⟩ := key ⟨n.Gates[k].Close, true, gt[k].failed⟩ hc ⟨rfl, fun _ => ⟨rfl, fun h => absurd h cw, fun _ => by rw [eG]⟩, fun h => absurd (by rw [eG]; exact ho) h⟩
    simp only [F1, List.getElem_set_self, List.set_set] at k1 k2 ⊢
    exact ⟨_, rfl, rfl, by rw [List.length_set]; exact h3, k1, k2⟩
  ·rw [if_neg c, decide_eq_false c]
   obtain ⟨k1, k2⟩ := key ⟨gt[k].left, false, gt[k].failed⟩ hb ⟨rfl, fun h => absurd (hr.2 (by rw [← eG]; exact h)) c, fun _ => ⟨rfl, rfl⟩⟩
   exact ⟨_, rfl, rfl, by rw [w8]; exact h3, k1, k2⟩)
 rw [h1]
 have h2 : m1 = mp := h2
 subst h2
 refine ⟨g1, rfl, h3, h4, fun j g hg => ?_⟩
 obtain ⟨g', q1, q2, q3⟩ := h5 j g hg
 have hj : j < gt.length := (List.getElem?_eq_some_iff.1 hg).1
 exact ⟨g', q1, q2 (by rw [Nat.zero_add, ← h.gl]; exact hj)⟩
theorem z8q (F : Fix n ro ne) {ks : List Int} (hn : ks.Nodup) (hk : z7d n ro ne ks ar) : ∃ ar', q2K (Z5 (ks.map some)) (ks.map some).length 0 ar = some ar' ∧ (∀ k ∈ ks, ∀ x, Z7 ar k = some x → Z7 ar' k = some (z5C x)) ∧ ∀ k, k ∉ ks → Z7 ar' k = Z7 ar k := by
 obtain ⟨r', h1, h2, h3⟩ := V4 (body := Z5 (ks.map some)) (fun j S => (∀ k ∈ ks.take j, ∀ x, Z7 ar k = some x → Z7 S k = some (z5C x)) ∧ ∀ k, k ∉ ks.take j → Z7 S k = Z7 ar k) (ks.map some).length 0 ar ⟨fun k hk => by simp at hk, fun _ _ => rfl⟩ (fun j r' _ hj hS => by
  obtain ⟨i1, i2⟩ := hS
  have hj : j < ks.length := by simpa using hj
  obtain ⟨x, hx, kx⟩ := hk _ (List.getElem_mem hj)
  have hnot : ks[j] ∉ ks.take j := fun hm => by
   obtain ⟨i, hi, he⟩ := List.getElem_of_mem hm
   have hi' : i < j := by simp at hi; omega
   rw [List.getElem_take] at he
   have := (List.getElem_inj (h₀ := by omega) (h₁ := hj) hn).1 he
   omega
  have hx' : Z7 r' ks[j] = some x := by rw [i2 _ hnot, hx]
  have hp := kx.pos F
  have hs := kx.seen
  have hm : x.Route.Steps.length ≤ 16 := by rw [kx.route]; exact (F.rok kx.kr).way.many
  have hc := kx.clk
  have fin : ∀ y, y = z5C x → (∀ k ∈ ks.take (j + 1), ∀ z, Z7 ar k = some z → Z7 (V7 r' ks[j] y) k = some (z5C z)) ∧ ∀ k, k ∉ ks.take (j + 1) → Z7 (V7 r' ks[j] y) k = Z7 ar k := fun y hy => by
   rw [List.take_succ_eq_append_getElem hj]
   refine ⟨fun k hk z hz => ?_, fun k hk => ?_⟩
   ·by_cases c : k = ks[j]
    ·rw [c] at hz ⊢
     rw [hx] at hz
     rw [Z1, hy, Kd hz]
    ·rw [Q6 _ _ c]
     rcases List.mem_append.1 hk with hk | hk
     ·exact i1 k hk z hz
     ·exact absurd (List.mem_singleton.1 hk) c
   ·have c : k ≠ ks[j] := fun e => hk (by rw [e]; exact List.mem_append_right _ (List.mem_singleton.2 rfl))
    rw [Q6 _ _ c]
    exact i2 k fun hh => hk (List.mem_append_left _ hh)
  have hlt : x.seen.length - 1 < x.seen.length := by omega
  have hget : (x.seen[x.seen.length - 1]?).getD false = x.seen[x.seen.length - 1] := by rw [Kf hlt]; rfl
  unfold Z5
  rw [Q7 (by simpa using hj), List.getElem_map, Ka, Ka, hx', Ka, G9 (by omega) (by omega), Ka, show (x.seen.length : Int) - 1 = ((x.seen.length - 1 : Nat) : Int) by omega, Q7 hlt, Ka]
  have e1 : (if x.seen[x.seen.length - 1] = true then some (some ks[j], x.laps) else some (some ks[j], false)) = some (some ks[j], x.seen[x.seen.length - 1] && x.laps) := by cases x.seen[x.seen.length - 1] <;> rfl
  rw [e1, q1U]
  by_cases c : (x.seen[x.seen.length - 1] && x.laps) = true
  ·have hlaps : x.laps = true := by
    cases hq : x.laps with
    | true => rfl
    | false => rw [hq, Bool.and_false] at c; cases c
   have hc2 := hc.2 hlaps
   have hsec : z5C x = ⟨x.Route, x.needs, x.seen, x.gone, if x.clock + 1 = 60 then false else x.laps, x.sight, x.leave, x.clock + 1, x.number⟩ := if_pos (by rw [hget]; exact c)
   rw [if_pos c, Ka, hx', Ka, G9 (by omega) (by omega), Ka]
   by_cases c6 : x.clock + 1 = 60
   ·rw [if_pos c6]
    exact ⟨_, rfl, fin _ (by rw [hsec, if_pos c6])⟩
   ·rw [if_neg c6]
    exact ⟨_, rfl, fin _ (by rw [hsec, if_neg c6])⟩
  ·rw [if_neg c]
   have hsec : z5C x = x := if_neg (by rw [hget]; exact c)
   have := fin x hsec.symm
   rw [q5Y r' hx'] at this
   exact ⟨_, rfl, this⟩)
 refine ⟨r', h1, ?_, ?_⟩
 ·rw [List.length_map, Nat.zero_add, List.take_length] at h2
  exact h2
 ·rw [List.length_map, Nat.zero_add, List.take_length] at h3
  exact h3
theorem z2s (F : Fix n ro ne) (h : Inv n ro ne bo gt mp ar) {ks : List Int} (hn : ks.Nodup) (hk : z7d n ro ne ks ar) : ∃ mp' ar', q2K (K1 a1 a2 a3 a4 a5 a6 a7 bo a9 (ks.map some)) (ks.map some).length 0 (mp, ar) = some (mp', ar') ∧ Inv n ro ne bo gt mp' ar' ∧
  (∀ p, p ∈ mp' ↔ p ∈ mp ∧ ¬ (p.1 ∈ ks ∧ ∃ x, Z7 ar p.1 = some x ∧ (z7H bo x).2 = true)) ∧ (∀ k ∈ ks, ∀ x, Z7 ar k = some x → Z7 ar' k = some (j0R bo x)) ∧ ∀ k, k ∉ ks → Z7 ar' k = Z7 ar k := by
 obtain ⟨⟨m', r'⟩, h1, h2, h3, h4, h5, h6⟩ := V4 (body := K1 a1 a2 a3 a4 a5 a6 a7 bo a9 (ks.map some)) (fun j S => Inv n ro ne bo gt S.1 S.2 ∧ z7d n ro ne ks S.2 ∧ (∀ p, p ∈ S.1 ↔ p ∈ mp ∧ ¬ (p.1 ∈ ks.take j ∧ ∃ x, Z7 ar p.1 = some x ∧ (z7H bo x).2 = true)) ∧ (∀ k ∈ ks.take j, ∀ x, Z7 ar k = some x → Z7 S.2 k = some (j0R bo x)) ∧ ∀ k, k ∉ ks.take j → Z7 S.2 k = Z7 ar k) (ks.map some).length 0 (mp, ar) ⟨h, hk, fun p => ⟨fun hp => ⟨hp, fun hh => by simp at hh⟩, fun hp => hp.1⟩, fun k hk => by simp at hk, fun _ _ => rfl⟩ (fun j S _ hj hS => by
  obtain ⟨m', r'⟩ := S
  obtain ⟨hI, hK, i1, i2, i3⟩ := hS
  have i1 : ∀ p, p ∈ m' ↔ p ∈ mp ∧ ¬ (p.1 ∈ ks.take j ∧ ∃ x, Z7 ar p.1 = some x ∧ (z7H bo x).2 = true) := i1
  have hj : j < ks.length := by simpa using hj
  have hnot : ks[j] ∉ ks.take j := fun hm => by
   obtain ⟨i, hi, he⟩ := List.getElem_of_mem hm
   have hi' : i < j := by simp at hi; omega
   rw [List.getElem_take] at he
   have := (List.getElem_inj (h₀ := by omega) (h₁ := hj) hn).1 he
   omega
  obtain ⟨x, hx, kx⟩ := hK _ (List.getElem_mem hj)
  have hx : Z7 r' ks[j] = some x := hx
  have hx0 : Z7 ar ks[j] = some x := by rw [← hx]; exact (i3 _ hnot).symm
  obtain ⟨ar', mp', g3, g4, y, g5, ky⟩ := z4C (a1 := a1) (a2 := a2) (a3 := a3) (a4 := a4) (a5 := a5) (a6 := a6) (a7 := a7) (a9 := a9) F hI hx kx
  have e := z4D (a1 := a1) (a2 := a2) (a3 := a3) (a4 := a4) (a5 := a5) (a6 := a6) (a7 := a7) (a9 := a9) F hI hx kx
  rw [g3] at e
  have e := Kd e
  injection e with e1 e2
  unfold K1
  show ∃ s', Option.bind _ _ = _ ∧ _
  rw [Q7 (by simpa using hj), List.getElem_map, Ka, g3, q1U]
  refine ⟨_, rfl, g4, by rw [g5]; exact hK.put ky, fun p => ?_, fun k hk z hz => ?_, fun k hk => ?_⟩
  ·show p ∈ mp' ↔ _
   rw [e2, List.take_succ_eq_append_getElem hj]
   by_cases cd : (z7H bo x).2 = true
   ·rw [if_pos cd, z3E hI.nd, i1]
    constructor
    ·rintro ⟨⟨q1, q2⟩, q3⟩
     refine ⟨q1, fun ⟨q4, q5⟩ => ?_⟩
     rcases List.mem_append.1 q4 with q4 | q4
     ·exact q2 ⟨q4, q5⟩
     ·exact q3 (List.mem_singleton.1 q4)
    ·rintro ⟨q1, q2⟩
     refine ⟨⟨q1, fun ⟨q3, q4⟩ => q2 ⟨List.mem_append_left _ q3, q4⟩⟩, fun q3 => q2 ⟨List.mem_append_right _ (List.mem_singleton.2 q3), x, by rw [q3]; exact hx0, cd⟩⟩
   ·rw [if_neg cd, i1]
    constructor
    ·rintro ⟨q1, q2⟩
     refine ⟨q1, fun ⟨q3, q4⟩ => ?_⟩
     rcases List.mem_append.1 q3 with q3 | q3
     ·exact q2 ⟨q3, q4⟩
     ·obtain ⟨z, z1, z2⟩ := q4
      rw [List.mem_singleton.1 q3, hx0] at z1
      rw [← Kd z1] at z2
      exact cd z2
    ·rintro ⟨q1, q2⟩
     exact ⟨q1, fun ⟨q3, q4⟩ => q2 ⟨List.mem_append_left _ q3, q4⟩⟩
  ·show Z7 ar' k = _
   rw [List.take_succ_eq_append_getElem hj] at hk
   rw [e1]
   by_cases c : k = ks[j]
   ·rw [c] at hz ⊢
    rw [hx0] at hz
    rw [Z1, Kd hz]
   ·rw [Q6 _ _ c]
    rcases List.mem_append.1 hk with hk | hk
    ·exact i2 k hk z hz
    ·exact absurd (List.mem_singleton.1 hk) c
  ·show Z7 ar' k = _
   rw [List.take_succ_eq_append_getElem hj] at hk
   have c : k ≠ ks[j] := fun e => hk (by rw [e]; exact List.mem_append_right _ (List.mem_singleton.2 rfl))
   rw [e1, Q6 _ _ c]
   exact i3 k fun hh => hk (List.mem_append_left _ hh))
 rw [List.length_map, Nat.zero_add, List.take_length] at h4 h5 h6
 exact ⟨m', r', h1, h2, h4, h5, h6⟩
end
section
variable {n : j1} {ro : List z8} {ne : List (List q8)} {bo bo' : List q9} {gt gt' : List z6} {mp : List (Int × Option Int)} {ar : List (Int × z7)}
variable {a1 : List ByteArray} {a2 : List j3} {a3 : List k8} {a4 : List j7} {a5 : List Q1} {a6 : List z8} {a7 : List (List q8)} {a8 : List q9} {a9 : List z6} {b1 : List (Int × Option Int)} {b2 : List (Int × z7)}
theorem z5B (F : Fix n ro ne) (h : Inv n ro ne bo gt mp ar) (hl : ∀ p ∈ mp, ∀ x, Z7 ar p.1 = some x → x.leave = 0) :
  ∃ gt' mp' ar', P6 a1 a2 a3 a4 n.Gates a6 a7 bo gt mp ar = some (bo.map z8M, gt', mp', ar') ∧ Inv n ro ne (bo.map z8M) gt' mp' ar' ∧
  (∀ p, p ∈ mp' ↔ p ∈ mp ∧ ¬ ∃ x, Z7 ar p.1 = some x ∧ (z7H (bo.map z8M) (z5C x)).2 = true) ∧
  (∀ p ∈ mp, ∀ x, Z7 ar p.1 = some x → Z7 ar' p.1 = some (j0R (bo.map z8M) (z5C x))) ∧
  gt'.length = gt.length ∧ ∀ (j : Nat) (g : z6), gt[j]? = some g → ∃ g', gt'[j]? = some g' ∧ z2Z n mp' ar' j (j1q g) g' := by
 obtain ⟨b1, q1, q2⟩ := z6T h.B
 rw [z1U h.B] at q1
 obtain rfl := Kd q1
 obtain ⟨g1, q3, q4⟩ := z7X h.G
 rw [z3H h.G] at q3
 obtain rfl := Kd q3
 have h1 := (h.toB q2).toG q4
 have hnk : ((mp.map (·.1)).mergeSort fun x y => decide (x ≤ y)).Nodup := (List.mergeSort_perm _ _).nodup_iff.2 h.nd
 have hmem : ∀ k, k ∈ ((mp.map (·.1)).mergeSort fun x y => decide (x ≤ y)) ↔ k ∈ mp.map (·.1) := fun k => q5e
 generalize hks : ((mp.map (·.1)).mergeSort fun x y => decide (x ≤ y)) = ks at hnk hmem
 have hkept : z7d n ro ne ks ar := by rw [← hks]; exact h1.kept
 have e1 : q2K (K2 (ks.map some)) (ks.map some).length 0 (mp, ar) = some (mp, ar) := by
  obtain ⟨S, s1, s2⟩ := V4 (body := K2 (ks.map some)) (fun _ S => S = (mp, ar)) (ks.map some).length 0 (mp, ar) rfl (fun j S _ hj hS => by
   subst hS
   have hj : j < ks.length := by simpa using hj
   obtain ⟨x, hx, kx⟩ := hkept _ (List.getElem_mem hj)
   obtain ⟨p, hp, hpk⟩ := List.mem_map.1 ((hmem _).1 (List.getElem_mem hj))
   have h0 := hl p hp x (by rw [hpk]; exact hx)
   refine ⟨_, ?_, rfl⟩
   unfold K2
   show Option.bind _ _ = _
   rw [Q7 (by simpa using hj), List.getElem_map, Ka, Ka, hx, Ka, if_pos h0])
  rw [s1, s2]
 obtain ⟨r1, e2, e3, e4⟩ := z8q F hnk hkept
 obtain ⟨r2, e5, h2⟩ := z8p F h1 hkept
 rw [e2] at e5
 obtain rfl := Kd e5
 have hkept2 : z7d n ro ne ks r1 := by rw [← hks]; exact h2.kept
 obtain ⟨m3, r3, f1, f2, f3, f4, f5⟩ := z2s (a1 := a1) (a2 := a2) (a3 := a3) (a4 := a4) (a5 := n.Gates) (a6 := a6) (a7 := a7) (a9 := gt.map j1q) F h2 hnk hkept2
 obtain ⟨g2, w1, w2, w3, w4⟩ := z5p F f2 a1 a2 a3 a4 a6 a7 (bo.map z8M)
 refine ⟨g2, m3, r3, ?_, f2.gates w2 w3, fun p => ?_, fun p hp x hx => ?_, by rw [w2, List.length_map], fun j g hg => ?_⟩
 ·unfold P6
  rw [z1U h.B, Ka, z3H h.G, Ka, z0u F h1, hks, Ka, e1, q1U, z0u F h1, hks, Ka, e2, Ka, z0u F h2, hks, Ka, f1, q1U, w1, q1U]
 ·rw [f3]
  refine and_congr_right fun hp => not_congr ⟨?_, ?_⟩
  ·rintro ⟨_, x, hx, hd⟩
   obtain ⟨_, y, hy, _⟩ := h.en p hp
   have := e3 p.1 ((hmem _).2 (List.mem_map_of_mem hp)) y hy
   rw [hx] at this
   exact ⟨y, hy, by rw [← Kd this]; exact hd⟩
  ·rintro ⟨y, hy, hd⟩
   have hk := (hmem _).2 (List.mem_map_of_mem (f := (·.1)) hp)
   exact ⟨hk, z5C y, e3 p.1 hk y hy, hd⟩
 ·have hk := (hmem _).2 (List.mem_map_of_mem (f := (·.1)) hp)
  exact f4 p.1 hk _ (e3 p.1 hk x hx)
 ·exact w4 j (j1q g) (by rw [List.getElem?_map, hg]; rfl)
theorem z7N {m : Nat} {l : List q8} (hl : ∀ y ∈ l, y.Position ≠ 0 → 0 ≤ y.Place ∧ y.Place < (m : Int)) (hb : z2c m bo) : ∃ bo', q2K (Y3 l) l.length 0 bo = some bo' ∧ z2c m bo' ∧
  ∀ (j : Nat) (s : q9), bo[j]? = some s → ∃ v, bo'[j]? = some ⟨s.axles, s.disturbed, s.position, v, s.failed⟩ ∧ (v = s.moving ∨ s.moving = 0 ∧ v = 5 ∧ ∃ y ∈ l, y.Position ≠ 0 ∧ y.Place = (j : Int) ∧ s.position ≠ y.Position) ∧ (s.moving = 0 → (∃ y ∈ l, y.Position ≠ 0 ∧ y.Place = (j : Int) ∧ s.position ≠ y.Position) → v = 5) := by
 obtain ⟨b, h1, h2, h3⟩ := V4 (body := Y3 l) (fun k b => z2c m b ∧ ∀ (j : Nat) (s : q9), bo[j]? = some s → ∃ v, b[j]? = some ⟨s.axles, s.disturbed, s.position, v, s.failed⟩ ∧ (v = s.moving ∨ s.moving = 0 ∧ v = 5 ∧ ∃ y ∈ l.take k, y.Position ≠ 0 ∧ y.Place = (j : Int) ∧ s.position ≠ y.Position) ∧ (s.moving = 0 → (∃ y ∈ l.take k, y.Position ≠ 0 ∧ y.Place = (j : Int) ∧ s.position ≠ y.Position) → v = 5)) l.length 0 bo ⟨hb, fun j s hs => ⟨s.moving, hs, .inl rfl, fun _ ⟨y, hy, _⟩ => by simp at hy⟩⟩ (fun k b _ hk hI => by
  obtain ⟨hB, hI⟩ := hI
  have hk : k < l.length := by omega
  have htk := List.take_succ_eq_append_getElem hk
  unfold Y3
  rw [Q7 hk, Ka]
  have keep : ∀ (hno : ∀ (j : Nat) (s : q9), bo[j]? = some s → ∀ v, b[j]? = some ⟨s.axles, s.disturbed, s.position, v, s.failed⟩ → s.moving = 0 → l[k].Position ≠ 0 → l[k].Place = (j : Int) → s.position ≠ l[k].Position → v = 5), z2c m b ∧ ∀ (j : Nat) (s : q9), bo[j]? = some s → ∃ v, b[j]? = some ⟨s.axles, s.disturbed, s.position, v, s.failed⟩ ∧ (v = s.moving ∨ s.moving = 0 ∧ v = 5 ∧ ∃ y ∈ l.take (k + 1), y.Position ≠ 0 ∧ y.Place = (j : Int) ∧ s.position ≠ y.Position) ∧ (s.moving = 0 → (∃ y ∈ l.take (k + 1), y.Position ≠ 0 ∧ y.Place = (j : Int) ∧ s.position ≠ y.Position) → v = 5) := fun hno => ⟨hB, fun j s hs => by
   obtain ⟨v, v1, v2, v3⟩ := hI j s hs
   rw [htk]
   refine ⟨v, v1, ?_, fun h0 ⟨y, hy, y1, y2, y3⟩ => ?_⟩
   ·rcases v2 with v2 | ⟨q1, q2, y, hy, q3⟩
    ·exact .inl v2
    ·exact .inr ⟨q1, q2, y, List.mem_append_left _ hy, q3⟩
   ·rcases List.mem_append.1 hy with hy | hy
    ·exact v3 h0 ⟨y, hy, y1, y2, y3⟩
    ·rw [List.mem_singleton.1 hy] at y1 y2 y3
     exact hno j s hs v v1 h0 y1 y2 y3⟩
  by_cases c : l[k].Position = 0
  ·rw [if_pos c]
   exact ⟨_, rfl, keep fun j s hs v hv h0 h1 => absurd c h1⟩
  ·obtain ⟨hp0, hp1⟩ := hl _ (List.getElem_mem hk) c
   obtain ⟨P, eP⟩ : ∃ P : Nat, l[k].Place = (P : Int) := ⟨l[k].Place.toNat, by omega⟩
   have hlt : P < b.length := by rw [hB.1]; omega
   have hbl : P < bo.length := by rw [hb.1]; omega
   obtain ⟨v, v1, v2, v3⟩ := hI _ _ (Kf hbl)
   have hget : b[P] = ⟨(bo[P]).axles, (bo[P]).disturbed, (bo[P]).position, v, (bo[P]).failed⟩ := by
    rw [Kf hlt] at v1
    exact Kd v1
   have hidx : idx b l[k].Place = some b[P] := by rw [eP, Q7 hlt]
   rw [if_neg c, hidx, Ka, hget]
   by_cases cp : (bo[P]).position ≠ l[k].Position
   ·rw [if_pos cp, Ka]
    by_cases cm : v = 0
    ·rw [if_pos (decide_eq_true cm)]
     have hm0 : (bo[P]).moving = 0 := by
      rcases v2 with v2 | ⟨q1, _⟩
      ·rw [← v2]; exact cm
      ·exact q1
     refine ⟨_, rfl, ?_, fun j s hs => ?_⟩
     ·have h4 := hB.2 _ (List.getElem_mem hlt)
      rw [hget] at h4
      exact hB.put _ ⟨h4.1, ⟨by simp, by simp⟩, h4.2.2⟩
     ·rw [htk, eP, F1, List.getElem?_set]
      by_cases e : P = j
      ·subst e
       rw [Kf hbl] at hs
       have hs := Kd hs
       rw [if_pos rfl, if_pos hlt, ← hs]
       exact ⟨5, rfl, .inr ⟨hm0, rfl, _, List.mem_append_right _ (List.mem_singleton.2 rfl), c, eP, cp⟩, fun _ _ => rfl⟩
      ·obtain ⟨u, u1, u2, u3⟩ := hI j s hs
       rw [if_neg e]
       refine ⟨u, u1, ?_, fun h0 ⟨y, hy, y1, y2, y3⟩ => ?_⟩
       ·rcases u2 with u2 | ⟨q1, q2, y, hy, q3⟩
        ·exact .inl u2
        ·exact .inr ⟨q1, q2, y, List.mem_append_left _ hy, q3⟩
       ·rcases List.mem_append.1 hy with hy | hy
        ·exact u3 h0 ⟨y, hy, y1, y2, y3⟩
        ·rw [List.mem_singleton.1 hy] at y2
         exact absurd (by omega) e
    ·rw [if_neg (fun h => cm (of_decide_eq_true h))]
     refine ⟨_, rfl, keep fun j s hs u hu h0 h1 h2 h3 => ?_⟩
     have ej : P = j := by omega
     subst ej
     rw [Kf hbl] at hs
     rw [← Kd hs] at hu h0
     rw [v1] at hu
     have hu := Kd hu
     injection hu with _ _ _ hu _
     rcases v2 with v2 | ⟨_, q2, _⟩
     ·exact absurd (v2.trans h0) cm
     ·rw [← hu]; exact q2
   ·rw [if_neg cp, Ka, if_neg Kh]
    refine ⟨_, rfl, keep fun j s hs u hu h0 h1 h2 h3 => ?_⟩
    have ej : P = j := by omega
    subst ej
    rw [Kf hbl] at hs
    rw [← Kd hs] at h3
    exact absurd h3 cp)
 rw [Nat.zero_add, List.take_length] at h3
 exact ⟨b, h1, h2, h3⟩
end
section
variable {n : j1} {ro : List z8} {ne : List (List q8)} {bo bo' : List q9} {gt gt' : List z6} {mp : List (Int × Option Int)} {ar : List (Int × z7)}
variable {a1 : List ByteArray} {a2 : List j3} {a3 : List k8} {a4 : List j7} {a5 : List Q1} {a6 : List z8} {a7 : List (List q8)} {a8 : List q9} {a9 : List z6} {b1 : List (Int × Option Int)} {b2 : List (Int × z7)}
structure j3I (bo : List q9) (l : List q8) : Prop where
 pts : ∀ y ∈ l, y.Position ≠ 0 → ∀ s, idx bo y.Place = some s → s.failed = false ∧ s.moving = 0 ∧ ((decide (0 < s.axles) || s.disturbed) = true → s.position = y.Position)
 clr : ∀ y ∈ l, y.Kind = 1 ∨ y.Kind = 2 → ∀ s, idx bo y.Place = some s → (decide (0 < s.axles) || s.disturbed) = false
theorem q3l {τ : Type} {body : Nat → Unit → Option (Unit ⊕ τ)} {m : Nat} (hb : ∀ j, j < m → body j () = some (.inl ())) : Fp.forM body m 0 () = some (.inl ()) := by
 rcases q2k (body := body) (fun _ _ => True) (fun _ => False) m 0 () trivial (fun j s _ hj _ => .inl ⟨(), hb j (by omega), trivial⟩) with ⟨s, h1, _⟩ | ⟨_, _, h⟩
 ·exact h1
 ·exact h.elim
theorem z4s {l : List q8} (hl : ∀ y ∈ l, (y.Kind = 1 ∨ y.Kind = 2 ∨ y.Position ≠ 0) → 0 ≤ y.Place ∧ y.Place < (n.Sections.length : Int)) (hb : z2c n.Sections.length bo) (hf : j3I bo l) (d : List z6) (e : List (Int × z7)) (g : List (Int × Option Int)) :
  Fp.forM (q0n bo d e l g) l.length 0 () = some (.inl ()) ∧ Fp.forM (q0m bo d e l g) l.length 0 () = some (.inl ()) ∧ Fp.forM (q0l bo d e false l g) l.length 0 () = some (.inl ()) := by
 refine ⟨q3l fun j hj => ?_, q3l fun j hj => ?_, q3l fun j hj => ?_⟩
 ·unfold q0n
  rw [Q7 hj, Ka]
  by_cases c : 0 < l[j].Position
  ·obtain ⟨s, h3, _⟩ := hb.get (hl _ (List.getElem_mem hj) (.inr (.inr (by omega))))
   rw [if_pos c, h3, Ka, Ka, (hf.pts _ (List.getElem_mem hj) (by omega) s h3).1, if_neg Kh]
  ·rw [if_neg c, Ka, if_neg Kh]
 ·unfold q0m
  rw [Q7 hj, Ka]
  by_cases c : l[j].Position = 0
  ·rw [if_pos c]
  ·obtain ⟨s, h3, _⟩ := hb.get (hl _ (List.getElem_mem hj) (.inr (.inr c)))
   obtain ⟨f1, f2, f3⟩ := hf.pts _ (List.getElem_mem hj) c s h3
   rw [if_neg c, h3, Ka, z2u, q5T, Ka]
   have hm : ¬ 0 < s.moving := by omega
   have e1 : (if (decide (0 < s.axles) || s.disturbed) = true then (if s.position ≠ l[j].Position then some true else if 0 < s.moving then some true else if 0 < s.moving then some (decide (s.position = l[j].Position)) else some false) else if 0 < s.moving then some (decide (s.position = l[j].Position)) else some false) = some false := by
    by_cases co : (decide (0 < s.axles) || s.disturbed) = true
    ·rw [if_pos co, if_neg (fun h => h (f3 co)), if_neg hm, if_neg hm]
    ·rw [if_neg co, if_neg hm]
   have e1 : _ = some false := e1
   rw [e1, Ka, if_neg Kh]
 ·unfold q0l
  rw [Q7 hj, Ka, if_neg Kh]
  by_cases c1 : l[j].Kind = 1
  ·obtain ⟨s, h3, _⟩ := hb.get (hl _ (List.getElem_mem hj) (.inl c1))
   rw [if_pos c1, h3, Ka, q5T, hf.clr _ (List.getElem_mem hj) (.inl c1) s h3, Ka, Ka, if_neg Kh]
  ·by_cases c2 : l[j].Kind = 2
   ·obtain ⟨s, h3, _⟩ := hb.get (hl _ (List.getElem_mem hj) (.inr (.inl c2)))
    rw [if_neg c1, if_pos c2, h3, Ka, q5T, hf.clr _ (List.getElem_mem hj) (.inr c2) s h3, Ka, Ka, if_neg Kh]
   ·rw [if_neg c1, if_neg c2, Ka, if_neg Kh]
def Apt (ro : List z8) (ne : List (List q8)) (mp : List (Int × Option Int)) (ar : List (Int × z7)) (k : Int) : Prop := ∀ e ∈ mp, ∀ x, Z7 ar e.1 = some x → ∀ y ∈ W9 x, ¬ (y.Kind = 2 ∧ x.Route.To = (roK ro k).From) → ∀ a ∈ neK ne k, ¬ q3u a y
def j3H (l : List q8) (bo bo' : List q9) : Prop := bo'.length = bo.length ∧ ∀ (j : Nat) (s : q9), bo[j]? = some s → ∃ v, bo'[j]? = some ⟨s.axles, s.disturbed, s.position, v, s.failed⟩ ∧ (v = s.moving ∨ s.moving = 0 ∧ v = 5 ∧ ∃ y ∈ l, y.Position ≠ 0 ∧ y.Place = (j : Int) ∧ s.position ≠ y.Position) ∧ (s.moving = 0 → (∃ y ∈ l, y.Position ≠ 0 ∧ y.Place = (j : Int) ∧ s.position ≠ y.Position) → v = 5)
theorem z3F (F : Fix n ro ne) (h : Inv n ro ne bo gt mp ar) {k : Int} (hk : 0 ≤ k ∧ k < (ro.length : Int)) (hnew : k ∉ mp.map (·.1)) (hc : Apt ro ne mp ar k) (hf : j3I bo (neK ne k)) :
  ∃ bo' gt', G8 k false a1 n.Sections a3 a4 n.Gates ro ne bo gt mp ar = some (0, bo', gt', V7 mp k (some k), V7 (cells (fun _ => q8U (roK ro k).From) mp ar) k (q4D ro k (neK ne k) false)) ∧ Inv n ro ne bo' gt' (V7 mp k (some k)) (V7 (cells (fun _ => q8U (roK ro k).From) mp ar) k (q4D ro k (neK ne k) false)) ∧ j3H (neK ne k) bo bo' ∧
   gt'.length = gt.length ∧ ∀ (j : Nat) (g : z6), gt[j]? = some g → ∃ g', gt'[j]? = some g' ∧ z2Z n (V7 mp k (some k)) (V7 (cells (fun _ => q8U (roK ro k).From) mp ar) k (q4D ro k (neK ne k) false)) j g g' := by
 have hb := h.B
 have hlen := (F.nq hk).2.2
 have hpl := z2A F hk (l := neK ne k) (fun y hy => hy)
 have hsl := (F.rok hk).way.many
 obtain ⟨bo', m1, m2, m3⟩ := z7N (fun y hy hp => hpl y hy (.inr (.inr hp))) hb
 have hI := (h.add F hk hnew (fun y hy => hy) (fun y hy _ => hy) hlen false hc).toB m2
 obtain ⟨gt', w1, w2, w3, w4⟩ := z5p F hI a1 n.Sections a3 a4 ro ne bo'
 refine ⟨bo', gt', ?_, hI.gates w2 w3, ⟨m2.1.trans hb.1.symm, m3⟩, w2, w4⟩
 unfold G8
 rw [q5y, Ka, decide_eq_true hk, if_pos rfl, Ka]
 rcases h.look k with ⟨h1, _⟩ | ⟨h1, hm, _⟩
 ·obtain ⟨b, h2, h3, h4⟩ := q9P F h a1 n.Sections a3 a4 n.Gates ne bo gt hk (neK ne k)
  have hb0 : b = false := by
   cases b with
   | false => rfl
   | true =>
    obtain ⟨e, he, x, hx, y, hy, hyc, a, ha, hm⟩ := h4 rfl
    exact absurd hm (hc e he x hx y hy hyc a ha)
  subst hb0
  obtain ⟨t1, t2, t3⟩ := z4s (n := n) hpl hb hf gt ar mp
  rw [h1, if_pos (show (none : Option Int).isNone = true from rfl), F.idxN hk, Ka]
  unfold q1f
  rw [q0t (by omega) (by omega), Ka, Ka, if_neg Kh, Ka, h2, q1U, if_neg Kh, t1, Ka, Sum.elim_inl, t2, Ka, Sum.elim_inl, t3, Ka, Sum.elim_inl, F.idxR hk, Ka, j0f h (roK ro k), Ka, Sum.elim_inl, q1U, q5Z (by omega) (by omega), Ka, Ka, z5O h hnew, Ka, z7J, m1, Ka]
  have w1 : q0y a1 n.Sections a3 a4 n.Gates ro ne bo' gt (V7 mp k (some k)) (V7 (cells (fun _ => q8U (roK ro k).From) mp ar) k ⟨roK ro k, neK ne k, List.replicate (roK ro k).Steps.length false, List.replicate (roK ro k).Steps.length false, !false, false, 0, 0, k⟩) = some (gt', V7 mp k (some k)) := w1
  rw [w1, q1U]
  rfl
 ·exact absurd (List.mem_map_of_mem (f := (·.1)) hm) hnew
theorem z4O (F : Fix n ro ne) (h : Inv n ro ne bo gt mp ar) {k : Int} (hk : 0 ≤ k ∧ k < (ro.length : Int)) (hnew : k ∉ mp.map (·.1)) (hc : ¬ Apt ro ne mp ar k) :
  G8 k false a1 n.Sections a3 a4 n.Gates ro ne bo gt mp ar = some (8, bo, gt, mp, ar) := by
 have hlen := (F.nq hk).2.2
 unfold G8
 rw [q5y, Ka, decide_eq_true hk, if_pos rfl, Ka]
 rcases h.look k with ⟨h1, _⟩ | ⟨h1, hm, _⟩
 ·obtain ⟨b, h2, h3, h4⟩ := q9P F h a1 n.Sections a3 a4 n.Gates ne bo gt hk (neK ne k)
  have hb0 : b = true := by
   cases b with
   | true => rfl
   | false => exact absurd (fun e he x hx y hy hyc a ha => h3 rfl e he x hx y hy hyc a ha) hc
  subst hb0
  rw [h1, if_pos (show (none : Option Int).isNone = true from rfl), F.idxN hk, Ka]
  unfold q1f
  rw [q0t (by omega) (by omega), Ka, Ka, if_neg Kh, Ka, h2, q1U, if_pos rfl]
 ·exact absurd (List.mem_map_of_mem (f := (·.1)) hm) hnew
end
theorem q5C (l : List Int) (x : Int) [Decidable (∃ y ∈ l, x = y)] : K7 l x = some (decide (∃ y ∈ l, x = y)) :=
 z4i (fun y => x = y) (fun k hk => by
  unfold q1y
  rw [Q7 hk, Ka]
  by_cases c : x = l[k]
  ·rw [if_pos c, if_pos c]
  ·rw [if_neg c, if_neg c])
theorem q4I {τ : Type} {body : Nat → Unit → Option (Unit ⊕ τ)} {m : Nat} (hb : ∀ j, j < m → body j () = some (.inl ())) : forM body m 0 () = some (.inl ()) := by
 rcases q2k (body := body) (fun _ _ => True) (fun _ => False) m 0 () trivial (fun j s _ hj _ => .inl ⟨(), hb j (by omega), trivial⟩) with ⟨s, h1, _⟩ | ⟨_, _, h⟩
 ·exact h1
 ·exact h.elim
def q2w (mp : List (Int × Option Int)) (ar : List (Int × z7)) (k : Int) : List q8 := match Z7 mp k with
 | none => []
 | some _ => match Z7 ar k with
  | none => []
  | some x => W9 x
section
variable {n : j1} {ro : List z8} {ne : List (List q8)} {bo bo' : List q9} {gt gt' : List z6} {mp : List (Int × Option Int)} {ar : List (Int × z7)}
variable {a1 : List ByteArray} {a2 : List j3} {a3 : List k8} {a4 : List j7} {a5 : List Q1} {a6 : List z8} {a7 : List (List q8)} {a8 : List q9} {a9 : List z6} {b1 : List (Int × Option Int)} {b2 : List (Int × z7)}
theorem q5x (h : Inv n ro ne bo gt mp ar) {k : Int} {x : z7} (hk : (k, some k) ∈ mp) (hx : Z7 ar k = some x) : q2w mp ar k = W9 x := by
 unfold q2w
 rw [z2B h.nd hk, hx]
theorem q3k (h : Inv n ro ne bo gt mp ar) (k : Int) : (q2w mp ar k = [] ∧ q1e mp k none = none) ∨ ((k, some k) ∈ mp ∧ q1e mp k none = some k ∧ ∃ x, Z7 ar k = some x ∧ LOk n ro ne k x ∧ q2w mp ar k = W9 x) := by
 rcases h.look k with ⟨h1, h2⟩ | ⟨h1, h2, x, hx, kx⟩
 ·refine .inl ⟨?_, h1⟩
  unfold q2w
  cases hm : Z7 mp k with
  | none => rfl
  | some v => exact absurd (List.mem_map_of_mem (f := (·.1)) (z3D hm)) h2
 ·exact .inr ⟨h2, h1, x, hx, kx, q5x h h2 hx⟩
theorem z5b (F : Fix n ro ne) (h : Inv n ro ne bo gt mp ar) {k : Int} (hk : 0 ≤ k ∧ k < (ro.length : Int)) : q2p k a1 a2 a3 a4 a5 ro a7 a8 a9 mp ar = some (0, q2w mp ar k) := by
 unfold q2p
 rw [q5y, Ka, decide_eq_true hk, if_pos rfl, Ka]
 rcases q3k h k with ⟨h1, h2⟩ | ⟨h1, h2, x, hx, kx, h3⟩
 ·rw [h2, if_pos (show (none : Option Int).isNone = true from rfl), h1]
 ·rw [h2, if_neg (by simp), z6e F kx hx, Ka, h3]
theorem z7V (F : Fix n ro ne) (h : Inv n ro ne bo gt mp ar) : ∃ hs, q1h (ro.length : Int) a1 a2 a3 a4 a5 ro a7 a8 a9 mp ar = some (true, hs) ∧ hs.length = ro.length ∧ ∀ j : Nat, j < ro.length → hs[j]? = some (q2w mp ar j) := by
 classical
 have hm := F.many
 unfold q1h q2i q3G q0R
 rw [q5Z (by omega) (by omega), Ka, Ka, z1l F h, Ka, Ka, G9 (by omega) (by omega), Ka, show ((ro.length : Int)).toNat = ro.length by omega]
 rcases q2k (body := F4 a1 a2 a3 a4 a5 ro a7 a8 a9 mp ar ((mp.map (·.1)).mergeSort fun x y => decide (x ≤ y))) (fun j s => s.length = ro.length ∧ ∀ i : Nat, i < j → s[i]? = some (q2w mp ar i)) (fun _ => False) ro.length 0 (List.replicate ro.length []) ⟨by simp, fun i hi => by omega⟩ (fun j s _ hj hI => by
  have hj : j < ro.length := by omega
  have hs : j < s.length := by rw [hI.1]; exact hj
  unfold F4
  rw [z5b F h ⟨by omega, by omega⟩, q1U, if_neg (by decide)]
  have e1 : (if 0 < ((q2w mp ar j).length : Int) then ((K7 ((mp.map (·.1)).mergeSort fun x y => decide (x ≤ y)) (j : Int)).bind fun r => some (!r)) else some false) = some false := by
   rcases q3k h (j : Int) with ⟨h1, _⟩ | ⟨h1, _⟩
   ·rw [h1, if_neg (by simp)]
   ·have hmem : ∃ y ∈ ((mp.map (·.1)).mergeSort fun x y => decide (x ≤ y)), (j : Int) = y := ⟨_, q5e.2 (List.mem_map_of_mem (f := (·.1)) h1), rfl⟩
    rw [q5C, decide_eq_true hmem]
    split <;> rfl
  rw [e1, Ka, if_neg Kh, Q7 hs, Ka]
  refine .inl ⟨_, rfl, by rw [w8]; exact hI.1, fun i hi => ?_⟩
  rw [F1, List.getElem?_set]
  by_cases c : j = i
  ·rw [if_pos c, if_pos hs, c]
  ·rw [if_neg c]
   exact hI.2 i (by omega)) with ⟨s, h1, h2, h3⟩ | ⟨_, _, hF⟩
 ·rw [h1]
  exact ⟨s, rfl, h2, fun j hj => h3 j (by omega)⟩
 ·exact hF.elim
theorem z8y (F : Fix n ro ne) (h : Inv n ro ne bo gt mp ar) {hs : List (List q8)} (hl : hs.length = ro.length) (hh : ∀ j : Nat, j < ro.length → hs[j]? = some (q2w mp ar j)) : q0G hs = some true := by
 have hm := F.many
 have hat : ∀ j (hj : j < hs.length), hs[j] = q2w mp ar j := fun j hj => by
  have := hh j (by omega)
  rw [Kf hj] at this
  exact Kd this
 unfold q0G
 rw [q4I (fun i hi => by
  unfold q1a
  have hc := z6q (l := hs) (a := 0) (b := i) (by omega) (by omega)
  rw [show ((0 : Nat) : Int) = 0 from rfl, List.drop_zero] at hc
  rw [Q7 hi, Ka, hc, Ka, q4I (fun j hj => by
   have hji : j < i := by rw [List.length_take] at hj; omega
   unfold q0Z
   rw [Q7 hj, Ka, List.getElem_take, q4I (fun u hu => by
    unfold q0F
    rw [Q7 hu, Ka, q4I (fun v hv => by
     unfold q0E
     rw [Q7 hv, Ka, z0w, Ka, if_neg]
     intro hd
     have hd := of_decide_eq_true hd
     have m1 : hs[i][u] ∈ q2w mp ar i := by rw [← hat i hi]; exact List.getElem_mem hu
     have m2 : hs[j][v] ∈ q2w mp ar j := by rw [← hat j (by omega)]; exact List.getElem_mem hv
     rcases q3k h (i : Int) with ⟨e1, _⟩ | ⟨p1, _, x, hx, _, e1⟩
     ·rw [e1] at m1; cases m1
     ·rcases q3k h (j : Int) with ⟨e2, _⟩ | ⟨p2, _, y, hy, _, e2⟩
      ·rw [e2] at m2; cases m2
      ·rw [e1] at m1
       rw [e2] at m2
       exact h.ap _ p1 _ p2 (by simp only; omega) x y hx hy _ m1 _ m2 hd)]
    rfl)]
   rfl)]
  rfl)]
 rfl
end
open Classical in
theorem z7Q (a : q8) (m : List q8) : q2R a m = some (decide (∃ y ∈ m, q3u a y)) := by
 have e : ∀ y : q8, q3u (⟨y.Kind, y.Place, y.Position, y.At⟩ : q8) a ↔ q3u y a := fun y => Iff.rfl
 unfold q2R Y0 q0g
 rw [z4i (fun y => q3u a y) (fun k hk => by
  unfold q0b q2F
  rw [Q7 hk, Ka]
  have : q0U (⟨a.Kind, a.Place, a.Position, a.At⟩ : q8) m[k] = some (decide (q3u a m[k])) := z0w _ _
  rw [this, Ka, Ka]
  by_cases c : q3u a m[k]
  ·rw [if_pos (decide_eq_true c), if_pos c]
  ·rw [if_neg (by simpa using c), if_neg c]), Ka]
open Classical in
theorem j0d (l m : List q8) : q3I l m = some (decide (∃ x ∈ l, ∃ y ∈ m, q3u x y)) := by
 unfold q3I Y1 q0h
 rw [z4i (fun x => ∃ y ∈ m, q3u x y) (fun k hk => by
  unfold q0c
  rw [Q7 hk, Ka, z7Q, Ka]
  by_cases c : ∃ y ∈ m, q3u l[k] y
  ·rw [if_pos (decide_eq_true c), if_pos c]
  ·rw [if_neg (by simpa using c), if_neg c]), Ka]
open Classical in
noncomputable def clL (ne : List (List q8)) (i : Nat) (m : Nat) : List Int := ((List.range m).filter fun d => decide (i ≠ d ∧ ∃ x ∈ neK ne i, ∃ y ∈ neK ne d, q3u x y)).map fun d : Nat => (d : Int)
theorem j0t (ne : List (List q8)) (i m : Nat) : (clL ne i m).length ≤ m := by
 unfold clL
 rw [List.length_map]
 exact Nat.le_trans (List.length_filter_le _ _) (by simp)
theorem z6t (ne : List (List q8)) (i m : Nat) (k : Int) : k ∈ clL ne i m ↔ ∃ d : Nat, k = (d : Int) ∧ d < m ∧ i ≠ d ∧ ∃ x ∈ neK ne i, ∃ y ∈ neK ne d, q3u x y := by
 unfold clL
 rw [List.mem_map]
 constructor
 ·rintro ⟨d, hd, rfl⟩
  obtain ⟨h1, h2⟩ := List.mem_filter.1 hd
  obtain ⟨h3, h4⟩ := of_decide_eq_true h2
  exact ⟨d, rfl, List.mem_range.1 h1, h3, h4⟩
 ·rintro ⟨d, rfl, h1, h2, h3⟩
  exact ⟨d, List.mem_filter.2 ⟨List.mem_range.2 h1, decide_eq_true ⟨h2, h3⟩⟩, rfl⟩
open Classical in
theorem z8r (ne : List (List q8)) (i m : Nat) : clL ne i (m + 1) = if i ≠ m ∧ ∃ x ∈ neK ne i, ∃ y ∈ neK ne m, q3u x y then clL ne i m ++ [(m : Int)] else clL ne i m := by
 unfold clL
 rw [List.range_succ, List.filter_append, List.map_append]
 by_cases c : i ≠ m ∧ ∃ x ∈ neK ne i, ∃ y ∈ neK ne m, q3u x y
 ·rw [if_pos c]
  congr 1
  simp only [List.filter_cons, decide_eq_true c]
  rfl
 ·rw [if_neg c]
  simp only [List.filter_cons, decide_eq_false c]
  simp
section
variable {n : j1} {ro : List z8} {ne : List (List q8)}
theorem z2i (hm : ro.length ≤ 81) {c : Nat} (hc : c < ro.length) {a : List W7} (hl : a.length = ro.length) (hA : ∀ (i : Nat) (r : W7), a[i]? = some r → r.Needs = neK ne i ∧ (i < c → r.Clashes = clL ne i ro.length) ∧ (c ≤ i → r.Clashes = [])) :
  ∃ a', q2K (P4 c) a.length 0 a = some a' ∧ a'.length = ro.length ∧ ∀ (i : Nat) (r : W7), a'[i]? = some r → r.Needs = neK ne i ∧ (i < c + 1 → r.Clashes = clL ne i ro.length) ∧ (c + 1 ≤ i → r.Clashes = []) := by
 classical
 obtain ⟨b, h1, h2, h3⟩ := V4 (body := P4 c) (fun d b => b.length = ro.length ∧ ∀ (i : Nat) (r : W7), b[i]? = some r → r.Needs = neK ne i ∧ (i < c → r.Clashes = clL ne i ro.length) ∧ (i = c → r.Clashes = clL ne i d) ∧ (c < i → r.Clashes = [])) a.length 0 a ⟨hl, fun i r hr => ⟨(hA i r hr).1, (hA i r hr).2.1, fun e => by rw [(hA i r hr).2.2 (by omega)]; rfl, fun e => (hA i r hr).2.2 (by omega)⟩⟩ (fun d b _ hd hI => by
  obtain ⟨hbl, hI⟩ := hI
  have hd : d < ro.length := by omega
  have hcb : c < b.length := by omega
  have hdb : d < b.length := by omega
  have hgc := hI c _ (Kf hcb)
  have hgd := hI d _ (Kf hdb)
  have hsucc := z8r ne c d
  unfold P4
  have e1 : (if (c : Int) ≠ (d : Int) then ((idx b (c : Int)).bind fun f => (idx b (d : Int)).bind fun g => (q3I f.Needs g.Needs).bind fun h => some h) else some false) = some (decide (c ≠ d ∧ ∃ x ∈ neK ne c, ∃ y ∈ neK ne d, q3u x y)) := by
   by_cases e : c = d
   ·rw [if_neg (by omega), decide_eq_false (fun h => h.1 e)]
   ·rw [if_pos (by omega), Q7 hcb, Ka, Q7 hdb, Ka, j0d, Ka, hgc.1, hgd.1]
    congr 1
    exact decide_eq_decide.2 ⟨fun h => ⟨e, h⟩, fun h => h.2⟩
  rw [e1, Ka]
  by_cases cm : c ≠ d ∧ ∃ x ∈ neK ne c, ∃ y ∈ neK ne d, q3u x y
  ·have hlen : b[c].Clashes.length ≤ d := by rw [hgc.2.2.1 rfl]; exact j0t ne c d
   rw [if_pos (decide_eq_true cm), Q7 hcb, Ka, q0t (by omega) (by omega), Ka, Ka, F1]
   refine ⟨_, rfl, by rw [List.length_set]; exact hbl, fun i r hr => ?_⟩
   rw [List.getElem?_set] at hr
   by_cases e : c = i
   ·subst e
    rw [if_pos rfl, if_pos hcb] at hr
    rw [← Kd hr]
    refine ⟨hgc.1, fun h => by omega, fun _ => ?_, fun h => by omega⟩
    show b[c].Clashes ++ [(d : Int)] = _
    rw [hgc.2.2.1 rfl, hsucc, if_pos cm]
   ·rw [if_neg e] at hr
    have := hI i r hr
    exact ⟨this.1, this.2.1, fun h => absurd h.symm e, this.2.2.2⟩
  ·rw [if_neg (fun h => cm (of_decide_eq_true h))]
   refine ⟨_, rfl, hbl, fun i r hr => ?_⟩
   have := hI i r hr
   refine ⟨this.1, this.2.1, fun h => ?_, this.2.2.2⟩
   rw [this.2.2.1 h]
   subst h
   rw [hsucc, if_neg cm])
 refine ⟨b, h1, h2, fun i r hr => ?_⟩
 obtain ⟨q1, q2, q3, q4⟩ := h3 i r hr
 refine ⟨q1, fun h => ?_, fun h => q4 (by omega)⟩
 by_cases e : i = c
 ·rw [q3 e, Nat.zero_add, hl]
 ·exact q2 (by omega)
theorem z4t (hr : V1 n = some (0, ro)) (F : Fix n ro ne) : ∃ tb, q3H n = some (0, tb) ∧ tb.length = ro.length ∧ ∀ (i : Nat) (r : W7), tb[i]? = some r → r.Needs = neK ne i ∧ r.Clashes = clL ne i ro.length := by
 have hm := F.many
 unfold q3H
 rw [hr, q1U, if_neg (by decide), q5Z (by omega) (by omega), Ka]
 obtain ⟨a, h1, h2, h3⟩ := V4 (body := q1l n ro) (fun k a => a.length = ro.length ∧ ∀ (i : Nat) (r : W7), a[i]? = some r → r.Clashes = [] ∧ (i < k → r.Needs = neK ne i)) ro.length 0 (List.replicate ro.length ⟨[], []⟩) ⟨by simp, fun i r hr => by
  have := List.eq_of_mem_replicate (List.mem_of_getElem? hr)
  rw [this]
  exact ⟨rfl, fun h => by omega⟩⟩ (fun k a _ hk hI => by
  obtain ⟨i1, i2⟩ := hI
  have hk : k < ro.length := by omega
  have hka : k < a.length := by omega
  have hg := i2 k _ (Kf hka)
  have hn := F.nds k hk
  have eR : roK ro (k : Int) = ro[k] := by
   unfold roK
   rw [show ((k : Int)).toNat = k by omega, Kf hk]
   rfl
  rw [eR] at hn
  unfold q1l
  rw [Q7 hk, Ka, hn, Ka, Q7 hka, Ka, F1]
  refine ⟨_, rfl, by rw [List.length_set]; exact i1, fun i r hr => ?_⟩
  rw [List.getElem?_set] at hr
  by_cases e : k = i
  ·subst e
   rw [if_pos rfl, if_pos hka] at hr
   rw [← Kd hr]
   exact ⟨hg.1, fun _ => rfl⟩
  ·rw [if_neg e] at hr
   exact ⟨(i2 i r hr).1, fun h => (i2 i r hr).2 (by omega)⟩)
 rw [h1, Ka]
 obtain ⟨b, h4, h5, h6⟩ := V4 (body := q1k) (fun c a => a.length = ro.length ∧ ∀ (i : Nat) (r : W7), a[i]? = some r → r.Needs = neK ne i ∧ (i < c → r.Clashes = clL ne i ro.length) ∧ (c ≤ i → r.Clashes = [])) a.length 0 a ⟨h2, fun i r hr => ⟨(h3 i r hr).2 (by have := (List.getElem?_eq_some_iff.1 hr).1; omega), fun h => by omega, fun _ => (h3 i r hr).1⟩⟩ (fun c a _ hc hI => by
  obtain ⟨a', g1, g2, g3⟩ := z2i (ne := ne) hm (c := c) (by omega) hI.1 hI.2
  unfold q1k
  rw [g1]
  exact ⟨_, rfl, g2, g3⟩)
 rw [h4]
 refine ⟨b, rfl, h5, fun i r hr => ?_⟩
 have hi := (List.getElem?_eq_some_iff.1 hr).1
 obtain ⟨q1, q2, _⟩ := h6 i r hr
 exact ⟨q1, q2 (by omega)⟩
end
def bx : ByteArray := ByteArray.mk #[120]
theorem z7C : V9 bx (ByteArray.mk #[10]) = some [bx] := by
 have e : J5 bx (ByteArray.mk #[10]) 0 1 (bx, 0, [ByteArray.empty]) = some (.inr (bx, 0, [ByteArray.empty])) := by kernel_rfl
 have h : F9 bx (ByteArray.mk #[10]) 0 (-1) = (q6e (J5 bx (ByteArray.mk #[10]) 0 1) (bx, 0, [ByteArray.empty])).bind (q4t fun x414 x415 l416 => (idx l416 x415).bind fun _ => (chk (x415 + 1)).bind fun _ => (z5g (put l416 x415 x414) 0 (x415 + 1)).bind fun l542 => some l542) := by kernel_rfl
 unfold V9
 rw [h, q6L e]
 rfl
theorem z7B : V9 bx (ByteArray.mk #[32]) = some [bx] := by
 have e : J5 bx (ByteArray.mk #[32]) 0 1 (bx, 0, [ByteArray.empty]) = some (.inr (bx, 0, [ByteArray.empty])) := by kernel_rfl
 have h : F9 bx (ByteArray.mk #[32]) 0 (-1) = (q6e (J5 bx (ByteArray.mk #[32]) 0 1) (bx, 0, [ByteArray.empty])).bind (q4t fun x414 x415 l416 => (idx l416 x415).bind fun _ => (chk (x415 + 1)).bind fun _ => (z5g (put l416 x415 x414) 0 (x415 + 1)).bind fun l542 => some l542) := by kernel_rfl
 unfold V9
 rw [h, q6L e]
 rfl
theorem j0e : q2J bx = some (false, [[bx]]) := by
 have h : q2J bx = (V9 bx (ByteArray.mk #[10])).bind fun l147 => (q2K (G2 l147) l147.length 0 ([] : (List (List ByteArray)))).bind (fun l239 => some (false, l239)) := by kernel_rfl
 rw [h, z7C, Ka]
 have e : G2 [bx] 0 [] = some [[bx]] := by
  have h2 : G2 [bx] 0 [] = (V9 bx (ByteArray.mk #[32])).bind fun l259 => some [l259] := by kernel_rfl
  rw [h2, z7B]
  rfl
 show ((G2 [bx] 0 []).bind fun s => some s).bind _ = _
 rw [e]
 rfl
theorem q9W : G5 = some true := by
 unfold G5 q6c
 rw [if_neg (by decide), show q2J (ByteArray.mk #[120]) = some (false, [[bx]]) from j0e, q1U, if_neg (by decide)]
 rfl
theorem z1G {n : j1} (h : X8 n = some 0) : n.Links.length ≤ 90 ∧ n.Gates.length ≤ 8 := by
 unfold X8 at h
 by_cases h0 : (n.Sections.length : Int) = 0
 ·rw [if_pos h0] at h; cases h
 ·rw [if_neg h0] at h
  by_cases c1 : 12 < (n.Stations.length : Int)
  ·rw [if_pos c1, Ka, if_pos rfl] at h; cases h
  ·rw [if_neg c1] at h
   by_cases c2 : 60 < (n.Sections.length : Int)
   ·rw [if_pos c2, Ka, if_pos rfl] at h; cases h
   ·rw [if_neg c2] at h
    by_cases c3 : 90 < (n.Links.length : Int)
    ·rw [if_pos c3, Ka, if_pos rfl] at h; cases h
    ·rw [if_neg c3] at h
     by_cases c4 : 40 < (n.Signals.length : Int)
     ·rw [if_pos c4, Ka, if_pos rfl] at h; cases h
     ·rw [if_neg c4, Ka] at h
      by_cases c5 : 8 < (n.Gates.length : Int)
      ·rw [if_pos (decide_eq_true c5)] at h; cases h
      ·exact ⟨by omega, by omega⟩
section
variable {n : j1}
theorem z7E {ro : List z8} (hr : V1 n = some (0, ro)) (hm : ro.length ≤ 81) {k : Int} (hk : 0 ≤ k ∧ k < (ro.length : Int)) : q4E n [k] = some (0, ro) := by
 unfold q4E
 rw [hr, q1U, if_neg (by decide), q3l (fun j hj => by
  have hj : j = 0 := by simpa using hj
  subst hj
  unfold q3Z
  rw [Q7 (l := [k]) (j := 0) (by simp), Ka, G9 (by omega) (by omega), Ka, q1v, Ka, if_pos (decide_eq_true (by simp; omega))])]
 rfl
theorem j1s (hN : q3R n) (hc : X8 n = some 0) : q6a n = some (n.Stations, n.Sections, n.Links, n.Signals, n.Gates) := by
 have h1 := z1G hc
 have h2 := hN.n60
 have h3 := hN.g40
 have h4 := hN.s12
 unfold q6a q2h q2g q2f q2e q2d
 rw [q0t (by omega) (by omega), Ka, Ka, q0t (by omega) (by omega), Ka, Ka, q0t (by omega) (by omega), Ka, Ka, q0t (by omega) (by omega), Ka, Ka, q0t (by omega) (by omega), Ka, Ka, z2u]
theorem j1A (hN : q3R n) (hcl : ∀ g ∈ n.Gates, g.Close ≤ 9223372036854775807) (hc : X8 n = some 0) {ro : List z8} (hr : V1 n = some (0, ro)) (hR : ∀ r ∈ ro, q2u n r) (hm : ro.length ≤ 81) :
  ∃ ne bo gt, q6b n = some (n.Stations, n.Sections, n.Links, n.Signals, n.Gates, ro, ne, bo, gt, [], []) ∧ Fix n ro ne ∧ Inv n ro ne bo gt [] [] ∧ (∀ s ∈ bo, s = ⟨0, false, 1, 0, false⟩) ∧ ∀ g ∈ gt, g = ⟨0, false, false⟩ := by
 have h1 := z1G hc
 have h2 := hN.n60
 unfold q6b
 rw [hc, Ka, if_neg (by decide), hr, q1U, if_neg (by decide), j1s hN hc, z2u, q5Z (by omega) (by omega), Ka, q5Z (by omega) (by omega), Ka, Ka]
 simp only [j2Z]
 obtain ⟨bo, b1, b2, b3, _⟩ := V4 (body := q2C) (fun k s => s.length = n.Sections.length ∧ (∀ i : Nat, i < k → ∀ x, s[i]? = some x → x = ⟨0, false, 1, 0, false⟩) ∧ ∀ i : Nat, k ≤ i → ∀ x, s[i]? = some x → x = ⟨0, false, 0, 0, false⟩) (List.replicate n.Sections.length (⟨0, false, 0, 0, false⟩ : q9)).length 0 (List.replicate n.Sections.length ⟨0, false, 0, 0, false⟩) ⟨by simp, fun i hi => by omega, fun i _ x hx => List.eq_of_mem_replicate (List.mem_of_getElem? hx)⟩ (fun j s _ hj hI => by
  obtain ⟨i1, i2, i3⟩ := hI
  have hj : j < s.length := by simpa [i1] using hj
  have e := i3 j (by omega) _ (Kf hj)
  unfold q2C
  rw [Q7 hj, Ka, e]
  refine ⟨_, rfl, by rw [w8]; exact i1, fun i hi x hx => ?_, fun i hi x hx => ?_⟩
  ·rw [F1, List.getElem?_set] at hx
   by_cases c : j = i
   ·rw [if_pos c, if_pos hj] at hx
    exact (Kd hx).symm
   ·rw [if_neg c] at hx
    exact i2 i (by omega) x hx
  ·rw [F1, List.getElem?_set, if_neg (by omega)] at hx
   exact i3 i (by omega) x hx)
 rw [b1, Ka]
 obtain ⟨ne, c1, c2, c3⟩ := V4 (body := q2B n) (fun k s => s.length = k ∧ ∀ i : Nat, i < k → G1 n (roK ro i) = some (neK s i)) ro.length 0 [] ⟨rfl, fun i hi => by omega⟩ (fun j s _ hj hI => by
  obtain ⟨i1, i2⟩ := hI
  have hj : j < ro.length := by omega
  have hjk : (0 : Int) ≤ (j : Int) ∧ (j : Int) < (ro.length : Int) := ⟨by omega, by omega⟩
  have eR : roK ro (j : Int) = ro[j] := by
   unfold roK
   rw [show ((j : Int)).toNat = j by omega, Kf hj]
   rfl
  obtain ⟨q, hq⟩ := z2z hN (hR _ (List.getElem_mem hj))
  unfold q2B q3j
  rw [z7E hr hm hjk, q1U, if_neg (by decide), Q7 hj, Ka, hq, Ka, q1U, q0t (by omega) (by omega), Ka]
  refine ⟨_, rfl, by simp [i1], fun i hi => ?_⟩
  unfold neK
  rw [show ((i : Int)).toNat = i by omega]
  by_cases c : i = j
  ·subst c
   rw [eR, hq, ← i1, List.getElem?_concat_length]
   rfl
  ·rw [List.getElem?_append_left (by omega)]
   have := i2 i (by omega)
   unfold neK at this
   rw [show ((i : Int)).toNat = i by omega] at this
   exact this)
 rw [c1, Ka]
 have hb : ∀ s ∈ bo, s = (⟨0, false, 1, 0, false⟩ : q9) := fun s hs => by
  obtain ⟨i, hi, rfl⟩ := List.getElem_of_mem hs
  exact b3 i (by simp; omega) _ (Kf hi)
 refine ⟨ne, bo, _, rfl, ⟨hN, hR, hm, by omega, fun k hk => c3 k (by omega), hcl⟩, ⟨b2, fun s hs => ?_, by simp, fun g hg => ?_, .nil, fun p hp => (List.not_mem_nil hp).elim, fun p hp => (List.not_mem_nil hp).elim⟩, hb, fun g hg => List.eq_of_mem_replicate hg⟩
 ·rw [hb s hs]
  decide
 ·rw [List.eq_of_mem_replicate hg]
  decide
end
theorem j3k {α β γ δ ε ζ τ : Type} {A : α → β → γ → δ → ε → ζ → Option τ} {x : α} {y : β} {z : γ} {w : δ} {v : ε} {u : ζ} : (some (x, y, z, w, v, u)).bind (j2K A) = A x y z w v u := rfl
section
variable {n : j1} {ro : List z8} {ne : List (List q8)} {bo bo' : List q9} {gt gt' : List z6} {mp : List (Int × Option Int)} {ar : List (Int × z7)}
variable {a1 : List ByteArray} {a2 : List j3} {a3 : List k8} {a4 : List j7} {a5 : List Q1} {a6 : List z8} {a7 : List (List q8)} {a8 : List q9} {a9 : List z6}
theorem z3A (bo : List q9) {k : Int} {l : List q8} (hp : 0 < (roK ro k).Steps.length) : z7H bo (q4D ro k l false) = ((q4D ro k l false).gone, false) := by
 obtain ⟨m, hm⟩ : ∃ m, (roK ro k).Steps.length = m + 1 := ⟨(roK ro k).Steps.length - 1, by omega⟩
 show q8k bo (q4D ro k l false) (roK ro k).Steps.length 0 (List.replicate (roK ro k).Steps.length false) = _
 have h1 : ((List.replicate (roK ro k).Steps.length false)[0]?).getD true = false := by rw [List.getElem?_replicate, if_pos hp]; rfl
 have h2 : q7i bo (q4D ro k l false) 0 = true := by
  unfold q7i
  have : (q4D ro k l false).seen[0]? = some false := by
   show (List.replicate (roK ro k).Steps.length false)[0]? = some false
   rw [List.getElem?_replicate, if_pos hp]
  rw [this]
  rfl
 rw [hm] at h1 ⊢
 unfold q8k
 rw [h1, if_neg Kh, if_pos h2, ← hm]
 rfl
theorem z3z {k : Int} {l : List q8} (hp : 0 < (roK ro k).Steps.length) : z5C (q4D ro k l false) = q4D ro k l false := by
 unfold z5C
 rw [if_neg]
 have : (q4D ro k l false).seen[(q4D ro k l false).seen.length - 1]? = some false := by
  show (List.replicate (roK ro k).Steps.length false)[(List.replicate (roK ro k).Steps.length false).length - 1]? = some false
  rw [List.getElem?_replicate, List.length_replicate, if_pos (by omega)]
 rw [this]
 exact Kh
theorem q7K (F : Fix n ro ne) {k : Int} (hk : 0 ≤ k ∧ k < (ro.length : Int)) : W9 (q4D ro k (neK ne k) false) = neK ne k := by
 unfold W9
 refine List.filter_eq_self.2 fun y hy => ?_
 have hq := (F.nq hk).1 y hy
 have hp := q8d (F.rok hk)
 have hrep : ∀ i : Nat, i < (roK ro k).Steps.length → (List.replicate (roK ro k).Steps.length false)[i]? = some false := fun i hi => by rw [List.getElem?_replicate, if_pos hi]
 unfold q3J
 by_cases c2 : y.Kind = 2
 ·rw [if_pos c2]; rfl
 ·rw [if_neg c2]
  by_cases c5 : y.Kind = 5
  ·rw [if_pos c5]
   show (!((List.replicate (roK ro k).Steps.length false)[0]?).getD true) = true
   rw [hrep 0 hp]
   rfl
  ·rw [if_neg c5]
   have ha := hq.at_ c2 c5
   show (!((List.replicate (roK ro k).Steps.length false)[y.At.toNat]?).getD true) = true
   rw [hrep _ (by omega)]
   rfl
structure z7b (ro : List z8) (ne : List (List q8)) (a : Int) (t : Nat) (bo : List q9) (mp : List (Int × Option Int)) (ar : List (Int × z7)) : Prop where
 mem : ∀ p, p ∈ mp ↔ p = (a, some a)
 cell : Z7 ar a = some (q4D ro a (neK ne a) false)
 body : ∀ s ∈ bo, s.axles = 0 ∧ s.disturbed = false ∧ s.failed = false ∧ 0 ≤ s.moving ∧ (s.moving = 0 ∨ s.moving + (t : Int) ≤ 5)
theorem z1g (F : Fix n ro ne) (h : Inv n ro ne bo gt mp ar) {a : Int} (ha : 0 ≤ a ∧ a < (ro.length : Int)) {t : Nat} (S : z7b ro ne a t bo mp ar) :
  ∃ bo' gt' mp' ar', P6 a1 a2 a3 a4 n.Gates a6 a7 bo gt mp ar = some (bo', gt', mp', ar') ∧ Inv n ro ne bo' gt' mp' ar' ∧ z7b ro ne a (t + 1) bo' mp' ar' := by
 have hp := q8d (F.rok ha)
 obtain ⟨gt', mp', ar', h1, h2, h3, h4, _⟩ := z5B (a1 := a1) (a2 := a2) (a3 := a3) (a4 := a4) (a6 := a6) (a7 := a7) F h (fun p hp x hx => by
  have := (S.mem p).1 hp
  subst this
  have hx : Z7 ar a = some x := hx
  rw [S.cell] at hx
  rw [← Kd hx]
  rfl)
 have hmem := (S.mem (a, some a)).2 rfl
 refine ⟨_, gt', mp', ar', h1, h2, ⟨fun p => ?_, ?_, fun s hs => ?_⟩⟩
 ·rw [h3, S.mem]
  refine ⟨fun h => h.1, fun h => ⟨h, fun ⟨x, hx, hd⟩ => ?_⟩⟩
  subst h
  have hx : Z7 ar a = some x := hx
  rw [S.cell] at hx
  rw [← Kd hx, z3z hp, z3A _ hp] at hd
  cases hd
 ·have := h4 _ hmem _ S.cell
  rw [z3z hp] at this
  rw [this]
  unfold j0R
  rw [z3A _ hp]
  rfl
 ·obtain ⟨s0, hs0, rfl⟩ := List.mem_map.1 hs
  obtain ⟨b1, b2, b3, b4, b5⟩ := S.body s0 hs0
  unfold z8M
  split
  ·rename_i c
   have : s0.moving = 0 := c.resolve_right (by rw [b3]; exact Kh)
   exact ⟨b1, b2, b3, b4, .inl this⟩
  ·rename_i c
   have c0 : ¬ s0.moving = 0 := fun e => c (.inl e)
   split
   ·rename_i c1
    exact ⟨b1, b2, b3, by simp only; omega, .inl c1⟩
   ·exact ⟨b1, b2, b3, by simp only; omega, .inr (by simp only; omega)⟩
theorem q9K (hb : ∀ s ∈ bo, s.axles = 0 ∧ s.disturbed = false ∧ s.failed = false ∧ s.moving = 0) (l : List q8) : j3I bo l := by
 have hm : ∀ (y : Int) s, idx bo y = some s → s ∈ bo := fun y s hs => by
  unfold idx at hs
  split at hs
  ·exact List.mem_of_getElem? hs
  ·cases hs
 refine ⟨fun y _ _ s hs => ?_, fun y _ _ s hs => ?_⟩
 ·obtain ⟨b1, b2, b3, b4⟩ := hb s (hm _ _ hs)
  exact ⟨b3, b4, fun h => by rw [b1, b2] at h; exact absurd h (by decide)⟩
 ·obtain ⟨b1, b2, b3, b4⟩ := hb s (hm _ _ hs)
  rw [b1, b2]
  decide
theorem eqN (l : List q8) : q1t l l = some true := by
 unfold q1t
 rw [if_neg (by simp), q4I (fun j hj => by
  unfold q1X
  rw [Q7 hj, Ka, Ka, if_pos ⟨rfl, rfl, rfl, rfl⟩])]
 rfl
end
theorem z5s {n : j1} (hN : q3R n) (hcl : ∀ g ∈ n.Gates, g.Close ≤ 9223372036854775807) (hc : X8 n = some 0) {ro : List z8} (hr : V1 n = some (0, ro)) (hR : ∀ r ∈ ro, q2u n r) (hm : ro.length ≤ 81) (a c : Int) : V5 n a c = some true := by
 classical
 unfold V5
 rw [q9W, Ka, if_pos rfl, hr, q1U]
 by_cases hin : (0 ≤ a ∧ a < (ro.length : Int)) ∧ (0 ≤ c ∧ c < (ro.length : Int)) ∧ a ≠ c
 ·obtain ⟨ha, hcc, hac⟩ := hin
  rw [if_neg (by decide), if_neg (by omega), if_neg (by omega), if_neg (by omega), if_neg (by omega), decide_eq_false hac, Ka, if_neg Kh]
  obtain ⟨ne, bo, gt, n1, F, I, hbo, hgt⟩ := j1A hN hcl hc hr hR hm
  obtain ⟨tb, t1, t2, t3⟩ := z4t hr F
  rw [F.idxR ha, Ka, F.idxR hcc, Ka, j3k]
  have hfrom := fun {k : Int} (h : 0 ≤ k ∧ k < (ro.length : Int)) => (F.rok h).from_
  have e1 : (if 0 ≤ (roK ro a).To then (if (roK ro a).To = (roK ro c).From then some true else if 0 ≤ (roK ro c).To then some (decide ((roK ro c).To = (roK ro a).From)) else some false) else if 0 ≤ (roK ro c).To then some (decide ((roK ro c).To = (roK ro a).From)) else some false) = some (decide ((roK ro a).To = (roK ro c).From ∨ (roK ro c).To = (roK ro a).From)) := by
   have f1 := hfrom ha
   have f2 := hfrom hcc
   by_cases q1 : (roK ro a).To = (roK ro c).From
   ·rw [if_pos (by omega), if_pos q1, decide_eq_true (.inl q1)]
   ·have e2 : decide ((roK ro a).To = (roK ro c).From ∨ (roK ro c).To = (roK ro a).From) = decide ((roK ro c).To = (roK ro a).From) := decide_eq_decide.2 ⟨fun h => h.resolve_left q1, .inr⟩
    rw [if_neg q1, e2]
    by_cases q2 : 0 ≤ (roK ro c).To
    ·rw [if_pos q2]
     split <;> rfl
    ·rw [if_neg q2, decide_eq_false (by omega)]
     split <;> rfl
  rw [e1, Ka]
  by_cases hfol : (roK ro a).To = (roK ro c).From ∨ (roK ro c).To = (roK ro a).From
  ·rw [decide_eq_true hfol, if_pos rfl]
  ·have hna : ¬ (roK ro a).To = (roK ro c).From := fun h => hfol (.inl h)
   obtain ⟨bo1, gt1, l1, I1, M1, _⟩ := z3F (a1 := n.Stations) (a3 := n.Links) (a4 := n.Signals) F I ha (by simp) (fun e he => by cases he) (q9K (bo := bo) (fun s hs => by rw [hbo s hs]; decide) (neK ne a))
   rw [decide_eq_false hfol, if_neg Kh, t1, q1U, n1, Ka]
   simp only [z9x]
   rw [if_neg (by decide), if_neg (by decide), if_neg (by rw [t2]; simp), l1, z2u, decide_eq_false (by decide), z2u, if_neg Kh]
   have S0 : z7b ro ne a 0 bo1 (V7 [] a (some a)) (V7 (cells (fun _ => q8U (roK ro a).From) [] []) a (q4D ro a (neK ne a) false)) := by
    refine ⟨fun p => by simp [V7], Z1 _ _ _, fun s hs => ?_⟩
    obtain ⟨j, hj, rfl⟩ := List.getElem_of_mem hs
    have hjb : j < bo.length := by rw [← M1.1]; exact hj
    obtain ⟨v, v1, v2, _⟩ := M1.2 j _ (Kf hjb)
    rw [Kf hj] at v1
    rw [Kd v1, hbo _ (List.getElem_mem hjb)]
    rw [hbo _ (List.getElem_mem hjb)] at v2
    refine ⟨rfl, rfl, rfl, ?_, ?_⟩
    ·rcases v2 with v2 | ⟨_, v2, _⟩ <;> rw [v2] <;> decide
    ·rcases v2 with v2 | ⟨_, v2, _⟩
     ·exact .inl v2
     ·exact .inr (by simp only; omega)
   obtain ⟨⟨bo2, gt2, mp2, ar2⟩, s1, I2, S2⟩ := V4 (body := H9 n.Stations n.Sections n.Links n.Signals n.Gates ro ne) (fun t S => Inv n ro ne S.1 S.2.1 S.2.2.1 S.2.2.2 ∧ z7b ro ne a t S.1 S.2.2.1 S.2.2.2) 15 0 (bo1, gt1, V7 [] a (some a), V7 (cells (fun _ => q8U (roK ro a).From) [] []) a (q4D ro a (neK ne a) false)) ⟨I1, S0⟩ (fun t S _ _ hS => by
    obtain ⟨b0, g0, m0, r0⟩ := S
    obtain ⟨bo', gt', mp', ar', q1, q2, q3⟩ := z1g (a1 := n.Stations) (a2 := n.Sections) (a3 := n.Links) (a4 := n.Signals) (a6 := ro) (a7 := ne) F hS.1 ha hS.2
    unfold H9
    refine ⟨(bo', gt', mp', ar'), ?_, q2, q3⟩
    show Option.bind _ _ = _
    rw [q1, z9S])
   rw [s1, z9S]
   have I2 : Inv n ro ne bo2 gt2 mp2 ar2 := I2
   have S2 : z7b ro ne a 15 bo2 mp2 ar2 := S2
   have hnew : c ∉ mp2.map (·.1) := fun h => by
    obtain ⟨p, hp, hpk⟩ := List.mem_map.1 h
    rw [(S2.mem p).1 hp] at hpk
    exact hac hpk
   have hmem := (S2.mem (a, some a)).2 rfl
   have hapt : Apt ro ne mp2 ar2 c ↔ ¬ ∃ x ∈ neK ne a, ∃ y ∈ neK ne c, q3u x y := by
    constructor
    ·rintro h ⟨x, hx, y, hy, hxy⟩
     refine h _ hmem _ S2.cell x (by rw [q7K F ha]; exact hx) (fun h => hna h.2) y hy (z0x hxy)
    ·intro h e he x hx y hy _ b hb hm
     rw [(S2.mem e).1 he] at hx
     have hx : Z7 ar2 a = some x := hx
     rw [S2.cell] at hx
     rw [← Kd hx, q7K F ha] at hy
     exact h ⟨y, hy, b, hb, z0x hm⟩
   obtain ⟨ta, ta1, ta2⟩ := q2T (l := tb) (i := a) ha.1 (by rw [t2]; exact ha.2)
   obtain ⟨tc, tc1, tc2⟩ := q2T (l := tb) (i := c) hcc.1 (by rw [t2]; exact hcc.2)
   obtain ⟨na1, na2⟩ := t3 _ _ ta2
   obtain ⟨nc1, nc2⟩ := t3 _ _ tc2
   rw [show ((a.toNat : Nat) : Int) = a by omega] at na1
   rw [show ((c.toNat : Nat) : Int) = c by omega] at nc1
   have hcont : (∃ y ∈ ta.Clashes, c = y) ↔ ∃ x ∈ neK ne a, ∃ y ∈ neK ne c, q3u x y := by
    rw [na2]
    constructor
    ·rintro ⟨y, hy, rfl⟩
     obtain ⟨d, rfl, _, _, x, hx, y, hy, hxy⟩ := (z6t _ _ _ _).1 hy
     rw [show ((a.toNat : Nat) : Int) = a by omega] at hx
     exact ⟨x, hx, y, hy, hxy⟩
    ·rintro ⟨x, hx, y, hy, hxy⟩
     refine ⟨c, (z6t _ _ _ _).2 ⟨c.toNat, by omega, by omega, by omega, x, ?_, y, ?_, hxy⟩, rfl⟩
     ·rw [show ((a.toNat : Nat) : Int) = a by omega]; exact hx
     ·rw [show ((c.toNat : Nat) : Int) = c by omega]; exact hy
   by_cases hcl : ∃ x ∈ neK ne a, ∃ y ∈ neK ne c, q3u x y
   ·rw [z4O F I2 hcc hnew (fun h => hapt.1 h hcl), z2u, ta1, Ka, q5C, Ka, if_pos (decide_eq_true (hcont.2 hcl))]
    rfl
   ·have hb2 : ∀ s ∈ bo2, s.axles = 0 ∧ s.disturbed = false ∧ s.failed = false ∧ s.moving = 0 := fun s hs => by
     obtain ⟨b1, b2, b3, b4, b5⟩ := S2.body s hs
     exact ⟨b1, b2, b3, by omega⟩
    obtain ⟨bo3, gt3, l3, I3, _⟩ := z3F (a1 := n.Stations) (a3 := n.Links) (a4 := n.Signals) F I2 hcc hnew (hapt.2 hcl) (q9K hb2 (neK ne c))
    obtain ⟨hs, g1, g2, g3⟩ := z7V (a1 := n.Stations) (a2 := n.Sections) (a3 := n.Links) (a4 := n.Signals) (a5 := n.Gates) (a7 := ne) (a8 := bo3) (a9 := gt3) F I3
    rw [l3, z2u, ta1, Ka, q5C, Ka, if_neg (fun h => hcl (hcont.1 (of_decide_eq_true h))), if_neg (by decide), g1, q1U, if_pos rfl, z8y F I3 g2 g3, Ka, if_pos rfl]
    have hidx : ∀ {k : Int}, 0 ≤ k ∧ k < (ro.length : Int) → idx hs k = some (q2w (V7 mp2 c (some c)) (V7 (cells (fun _ => q8U (roK ro c).From) mp2 ar2) c (q4D ro c (neK ne c) false)) k) := fun {k} hk => by
     have := g3 k.toNat (by omega)
     unfold idx
     rw [if_pos hk.1, this, show ((k.toNat : Nat) : Int) = k by omega]
    have hA : q2w (V7 mp2 c (some c)) (V7 (cells (fun _ => q8U (roK ro c).From) mp2 ar2) c (q4D ro c (neK ne c) false)) a = neK ne a := by
     have hlap : q8U (roK ro c).From (q4D ro a (neK ne a) false) = q4D ro a (neK ne a) false := if_neg hna
     rw [q5x I3 (x := q4D ro a (neK ne a) false) (by rw [z0v hnew]; exact List.mem_append_left _ hmem) (by
      rw [Q6 _ _ hac, q6r _ mp2 ar2 a I2.nd, S2.cell]
      show some (if _ then _ else _) = _
      rw [hlap]
      simp), q7K F ha]
    have hC : q2w (V7 mp2 c (some c)) (V7 (cells (fun _ => q8U (roK ro c).From) mp2 ar2) c (q4D ro c (neK ne c) false)) c = neK ne c := by
     rw [q5x I3 (x := q4D ro c (neK ne c) false) (by rw [z0v hnew]; exact List.mem_append_right _ (List.mem_singleton.2 rfl)) (Z1 _ _ _), q7K F hcc]
    rw [hidx ha, Ka, Ka, na1, hA, eqN, Ka, if_pos rfl, hidx hcc, Ka, tc1, Ka, nc1, hC, eqN, Ka, Ka]
 ·have e1 : (if (0 : Int) ≠ 0 then some true else if a < 0 then some true else if (ro.length : Int) ≤ a then some true else if c < 0 then some true else if (ro.length : Int) ≤ c then some true else some (decide (a = c))) = some true := by
   rw [if_neg (by decide)]
   by_cases c1 : a < 0
   ·rw [if_pos c1]
   ·by_cases c2 : (ro.length : Int) ≤ a
    ·rw [if_neg c1, if_pos c2]
    ·by_cases c3 : c < 0
     ·rw [if_neg c1, if_neg c2, if_pos c3]
     ·by_cases c4 : (ro.length : Int) ≤ c
      ·rw [if_neg c1, if_neg c2, if_neg c3, if_pos c4]
      ·rw [if_neg c1, if_neg c2, if_neg c3, if_neg c4, decide_eq_true]
       exact Classical.byContradiction fun h => hin ⟨⟨by omega, by omega⟩, ⟨by omega, by omega⟩, h⟩
  rw [e1, Ka, if_pos rfl]
theorem z2h {n : j1} (hS : j2F n) (hcl : ∀ g ∈ n.Gates, g.Close ≤ 9223372036854775807) (a c : Int) : V5 n a c = some true := by
 obtain ⟨e, hc, hok⟩ := z4V hS
 have bad : ∀ (e : Int) (l : List z8), e ≠ 0 → V1 n = some (e, l) → V5 n a c = some true := fun e l he h1 => by
  unfold V5
  rw [q9W, Ka, if_pos rfl, h1, q1U, if_pos he, Ka, if_pos rfl]
 by_cases h0 : e = 0
 ·subst h0
  have hN := hok rfl
  obtain ⟨d, rs, h1, h2, h3, h4, h5⟩ := z2r hN
  have hr : V1 n = some (d, rs) := by
   unfold V1
   rw [hc, Ka, if_neg (by decide), h1, q1U]
  by_cases hd : d = 0
  ·subst hd
   exact z5s hN hcl hc hr h3 h5 a c
  ·exact bad d rs hd hr
 ·refine bad e [] h0 ?_
  unfold V1
  rw [hc, Ka, if_pos h0]
theorem z4u (n : j1) (a c : Int) (k0 : j3L n) {P Q : Prop} (_ : P) (_ : Q) : V5 n a c = some true :=
 z2h (fun s hs => k0.1.2 s hs) (fun g hg => (k0.2.2.2.2.2 g hg).2.2) a c
end Go.Proofs.YtjlollifgeggdaaGreatDoor
