import Derived.Test.YtjlollifgeggdaaGreatDoorP2
import Derived.Test.YtjlollifgeggdaaGreatDoorP1
import Derived.KernelRfl
import Derived.Test.YtjlollifgeggdaaGreatDoorF6
set_option linter.unusedVariables false
set_option linter.unusedSimpArgs false
set_option linter.unusedSectionVars false
namespace Go.Proofs.YtjlollifgeggdaaGreatDoor
open Go.RowKit Go.Fp
theorem q8a : ∀ {l L : List Int}, l.Nodup → (∀ x ∈ l, x ∈ L) → l.length ≤ L.length
 | [], _, _, _ => Nat.zero_le _
 | x :: r, L, h, hs => by
  have hx := hs x List.mem_cons_self
  rw [List.nodup_cons] at h
  have h1 := q8a (l := r) (L := L.erase x) h.2 (fun y hy => by
   have hne : y ≠ x := fun e => h.1 (e ▸ hy)
   exact (List.mem_erase_of_ne hne).2 (hs y (List.mem_cons_of_mem _ hy)))
  rw [List.length_erase_of_mem hx] at h1
  have := List.length_pos_of_mem hx
  simp only [List.length_cons]
  omega
section
variable {n : j3} {ro : List z7} {ne : List (List q8)} {bo bo' : List q9} {gt gt' : List z8} {mp : List (Int × Option Int)} {ar : List (Int × z6)}
variable {a1 : List ByteArray} {a2 : List j0} {a3 : List j9} {a4 : List j5} {a5 : List Q2} {a6 : List z7} {a7 : List (List q8)} {a8 : List q9} {a9 : List z8} {b1 : List (Int × Option Int)} {b2 : List (Int × z6)}
theorem Inv.few (F : Fix n ro ne) (h : Inv n ro ne bo gt mp ar) : mp.length ≤ 81 := by
 have h1 := q8a (L := (List.range ro.length).map fun i : Nat => (i : Int)) h.nd (fun k hk => by
  obtain ⟨p, hp, rfl⟩ := List.mem_map.1 hk
  obtain ⟨_, x, _, kx⟩ := h.en p hp
  have := kx.kr
  exact List.mem_map.2 ⟨p.1.toNat, List.mem_range.2 (by omega), by omega⟩)
 have := F.many
 simp at h1
 omega
theorem z3W (F : Fix n ro ne) (h : Inv n ro ne bo gt mp ar) : z2W mp = some ((mp.map (·.1)).mergeSort fun x y => decide (x ≤ y)) := by
 have h1 := h.few F
 have h2 := F.many
 unfold z2W
 rw [q1u (by omega) (by omega), Ka, if_pos]
 rw [List.all_eq_true]
 intro p hp
 obtain ⟨_, x, _, kx⟩ := h.en p hp
 have := kx.kr
 exact decide_eq_true (by omega)
theorem q5e {k : Int} : k ∈ ((mp.map (·.1)).mergeSort fun x y => decide (x ≤ y)) ↔ k ∈ mp.map (·.1) := (List.mergeSort_perm _ _).mem_iff
theorem q7Z (F : Fix n ro ne) (h : Inv n ro ne bo gt mp ar) : q0i a1 a2 a3 a4 a5 a6 a7 a8 a9 mp ar = some (((mp.map (·.1)).mergeSort fun x y => decide (x ≤ y)).map some) := by
 have hlen : ((mp.map (·.1)).mergeSort fun x y => decide (x ≤ y)).length ≤ 81 := by
  rw [List.length_mergeSort, List.length_map]
  exact h.few F
 unfold q0i q5i q1S
 rw [Ka, z3W F h, Ka]
 generalize hl : ((mp.map (·.1)).mergeSort fun x y => decide (x ≤ y)) = l
 rw [hl] at hlen
 obtain ⟨s, h1, h2⟩ := H6 (body := q1g mp l) (fun j s => s = (l.take j).map some) l.length 0 [] (by simp) (fun j s _ hj hs => by
  have hj : j < l.length := by omega
  subst hs
  unfold q1g
  have hk : l[j] ∈ mp.map (·.1) := q5e.1 (by rw [hl]; exact List.getElem_mem hj)
  have hd : q0D mp l[j] none = some l[j] := by
   rcases h.look l[j] with ⟨_, h3⟩ | ⟨h3, _⟩
   ·exact absurd hk h3
   ·exact h3
  rw [Q6 hj, Ka, Ka, hd, q1u (by simp; omega) (by simp; omega), Ka]
  exact ⟨_, rfl, by rw [List.take_succ_eq_append_getElem hj, List.map_append]; rfl⟩)
 rw [h1, Ka, h2, Nat.zero_add, List.take_length]
theorem j0m (hb : z5f n.Sections.length bo) : ∃ bo', forS W5 bo.length 0 bo = some bo' ∧ z5f n.Sections.length bo' := by
 obtain ⟨s, h1, h2⟩ := H6 (body := W5) (fun _ b => z5f n.Sections.length b) bo.length 0 bo hb (fun j b _ hj hb' => by
  have hj : (0 : Int) ≤ (j : Int) ∧ (j : Int) < (n.Sections.length : Int) := by rw [← hb.1]; omega
  obtain ⟨s, h3, h4⟩ := hb'.get hj
  unfold W5
  rw [h3, Ka]
  by_cases c : s.moving = 0 ∨ s.failed = true
  ·have e1 : (if s.moving = 0 then some true else some s.failed) = some true := by
    by_cases c0 : s.moving = 0
    ·rw [if_pos c0]
    ·rw [if_neg c0, c.resolve_left c0]
   rw [e1, Ka, if_pos rfl]
   exact ⟨_, rfl, hb'⟩
  ·have c0 : ¬ s.moving = 0 := fun h => c (.inl h)
   have cf : ¬ s.failed = true := fun h => c (.inr h)
   have hm := h4.2.1
   have hp := h4.2.2
   have hjl : j < b.length := by have := hb'.1; omega
   rw [if_neg c0, Ka, if_neg cf, Y3 (by omega) (by omega), Ka, q0n, Q6 (by rw [List.length_set]; exact hjl), Ka, List.getElem_set_self]
   simp only
   by_cases c1 : s.moving - 1 = 0
   ·rw [if_pos c1, Y3 (by omega) (by omega), Ka, q0n, List.set_set, ← q0n]
    exact ⟨_, rfl, hb'.put _ ⟨h4.1, ⟨by simp only; omega, by simp only; omega⟩, by simp only; omega, by simp only; omega⟩⟩
   ·rw [if_neg c1, ← q0n]
    exact ⟨_, rfl, hb'.put _ ⟨h4.1, ⟨by simp only; omega, by simp only; omega⟩, h4.2.2⟩⟩)
 exact ⟨s, h1, h2⟩
theorem j1t (hb : j0y n.Gates.length gt) : ∃ gt', forS W4 gt.length 0 gt = some gt' ∧ j0y n.Gates.length gt' := by
 obtain ⟨s, h1, h2⟩ := H6 (body := W4) (fun _ b => j0y n.Gates.length b) gt.length 0 gt hb (fun j b _ hj hb' => by
  have hj : (0 : Int) ≤ (j : Int) ∧ (j : Int) < (n.Gates.length : Int) := by rw [← hb.1]; omega
  obtain ⟨s, h3, h4⟩ := hb'.get hj
  unfold W4
  rw [h3, Ka]
  by_cases cw : s.wanted = true
  ·by_cases cl : 0 < s.left
   ·rw [if_pos cw, if_pos cl, Ka]
    by_cases cf : (!s.failed) = true
    ·rw [if_pos cf, Y3 (by omega) (by omega), Ka]
     exact ⟨_, rfl, hb'.put _ (by simp only; omega)⟩
    ·rw [if_neg cf]
     exact ⟨_, rfl, hb'⟩
   ·rw [if_pos cw, if_neg cl, Ka, if_neg Kh]
    exact ⟨_, rfl, hb'⟩
  ·rw [if_neg cw, Ka, if_neg Kh]
   exact ⟨_, rfl, hb'⟩)
 exact ⟨s, h1, h2⟩
def j0v (n : j3) (ro : List z7) (ne : List (List q8)) (ks : List Int) (ar : List (Int × z6)) : Prop := ∀ k ∈ ks, ∃ x, J4 ar k = some x ∧ LOk n ro ne k x
theorem j0v.put {ks : List Int} (h : j0v n ro ne ks ar) {k : Int} {x : z6} (hx : LOk n ro ne k x) : j0v n ro ne ks (X7 ar k x) := fun j hj => by
 by_cases c : j = k
 ·rw [c]; exact ⟨x, J0 _ _ _, hx⟩
 ·obtain ⟨y, h1, h2⟩ := h j hj
  exact ⟨y, by rw [Z5 _ _ c]; exact h1, h2⟩
theorem Inv.kept (h : Inv n ro ne bo gt mp ar) : j0v n ro ne ((mp.map (·.1)).mergeSort fun x y => decide (x ≤ y)) ar := fun k hk => by
 obtain ⟨p, hp, rfl⟩ := List.mem_map.1 (q5e.1 hk)
 exact (h.en p hp).2
theorem j1M (F : Fix n ro ne) (h : Inv n ro ne bo gt mp ar) {ks : List Int} (hk : j0v n ro ne ks ar) : ∃ ar', forS (V0 (ks.map some)) (ks.map some).length 0 ar = some ar' ∧ Inv n ro ne bo gt mp ar' := by
 obtain ⟨r', h1, h2⟩ := H6 (body := V0 (ks.map some)) (fun _ S => Inv n ro ne bo gt mp S ∧ j0v n ro ne ks S) (ks.map some).length 0 ar ⟨h, hk⟩ (fun j r' _ hj hS => by
  obtain ⟨hI, hK⟩ := hS
  have hj : j < ks.length := by simpa using hj
  obtain ⟨x, hx, kx⟩ := hK _ (List.getElem_mem hj)
  have hp := kx.pos F
  have hs := kx.seen
  have hm : x.Route.Steps.length ≤ 16 := by rw [kx.route]; exact (F.rok kx.kr).way.many
  have hc := kx.clk
  unfold V0
  rw [Q6 (by simpa using hj), List.getElem_map, Ka, Ka, hx, Ka, Y3 (by omega) (by omega), Ka]
  obtain ⟨b, hb, _⟩ := q4r (l := x.seen) (i := (x.seen.length : Int) - 1) (by omega) (by omega)
  rw [hb, Ka]
  have e1 : (if b = true then some (some ks[j], x.laps) else some (some ks[j], false)) = some (some ks[j], b && x.laps) := by cases b <;> rfl
  rw [e1, q0L]
  by_cases c : (b && x.laps) = true
  ·have hlaps : x.laps = true := by cases b <;> simp_all
   have hc2 := hc.2 hlaps
   rw [if_pos c, Ka, hx, Ka, Y3 (by omega) (by omega), Ka]
   by_cases c6 : x.clock + 1 = 60
   ·rw [if_pos c6]
    have kx' : LOk n ro ne ks[j] ⟨x.Route, x.needs, x.seen, x.gone, false, x.sight, x.leave, x.clock + 1, x.number⟩ := ⟨kx.kr, kx.route, kx.num, kx.seen, kx.gone, kx.sub, kx.trk, kx.len, kx.g0, kx.leave, ⟨by simp only; omega, fun h => by cases h⟩⟩
    refine ⟨_, rfl, hI.put hx (fun _ => kx') (fun a ha => ?_), hK.put kx'⟩
    obtain ⟨ha, hb⟩ := q0v.1 ha
    refine q0v.2 ⟨ha, ?_⟩
    unfold q3E at hb ⊢
    by_cases c2 : a.Kind = 2
    ·rw [if_pos c2] at hb
     cases hb
    ·rw [if_neg c2] at hb ⊢
     exact hb
   ·rw [if_neg c6]
    have kx' : LOk n ro ne ks[j] ⟨x.Route, x.needs, x.seen, x.gone, x.laps, x.sight, x.leave, x.clock + 1, x.number⟩ := ⟨kx.kr, kx.route, kx.num, kx.seen, kx.gone, kx.sub, kx.trk, kx.len, kx.g0, kx.leave, ⟨by simp only; omega, fun _ => by simp only; omega⟩⟩
    exact ⟨_, rfl, hI.put hx (fun _ => kx') (fun a ha => ha), hK.put kx'⟩
  ·rw [if_neg c]
   exact ⟨_, rfl, hI, hK⟩)
 exact ⟨r', h1, h2.1⟩
theorem j3H {k : Int} {y : z6} (h : LOk n ro ne k y) (j : Nat) (h0 : y.seen[0]? = some true) : LOk n ro ne k ⟨y.Route, y.needs, y.seen, put y.gone (j : Int) true, y.laps, y.sight, y.leave, y.clock, y.number⟩ ∧ ∀ a ∈ W3 ⟨y.Route, y.needs, y.seen, put y.gone (j : Int) true, y.laps, y.sight, y.leave, y.clock, y.number⟩, a ∈ W3 y := by
 refine ⟨⟨h.kr, h.route, h.num, h.seen, by simp only [Q4]; exact h.gone, h.sub, h.trk, h.len, fun _ _ => h0, h.leave, h.clk⟩, fun a ha => ?_⟩
 obtain ⟨ha, hb⟩ := q0v.1 ha
 refine q0v.2 ⟨ha, ?_⟩
 unfold q3E at hb ⊢
 by_cases c2 : a.Kind = 2
 ·rw [if_pos c2] at hb ⊢
  exact hb
 ·rw [if_neg c2] at hb ⊢
  by_cases c5 : a.Kind = 5
  ·rw [if_pos c5] at hb ⊢
   exact hb
  ·rw [if_neg c5] at hb ⊢
   simp only [q0n] at hb
   rw [List.getElem?_set] at hb
   split at hb
   ·split at hb <;> simp at hb
   ·exact hb
theorem z7x (F : Fix n ro ne) (h : Inv n ro ne bo gt mp ar) {k : Int} {x : z6} (hx : J4 ar k = some x) (kx : LOk n ro ne k x) :
  ∃ ar' mp', G9 (some k) a1 a2 a3 a4 a5 a6 a7 ar bo a9 mp = some (ar', mp') ∧ Inv n ro ne bo gt mp' ar' ∧ ∃ y, ar' = X7 ar k y ∧ LOk n ro ne k y := by
 have hm : x.Route.Steps.length ≤ 16 := by rw [kx.route]; exact (F.rok kx.kr).way.many
 have hst : ∀ s ∈ x.Route.Steps, q3H n s := by rw [kx.route]; exact (F.rok kx.kr).way.path.step
 unfold G9
 rw [Ka, hx, Ka]
 rcases q1q (body := V5 bo mp k x) (fun j s => ∃ y, s = X7 ar k y ∧ y.Route = x.Route ∧ LOk n ro ne k y ∧ (∀ a ∈ W3 y, a ∈ W3 x) ∧ (0 < j → y.seen[0]? = some true))
  (fun t => t.2 = mp ∧ ∃ y, t.1 = X7 ar k y ∧ LOk n ro ne k y ∧ ∀ a ∈ W3 y, a ∈ W3 x) x.Route.Steps.length 0 ar ⟨x, (q6s ar hx).symm, rfl, kx, fun a ha => ha, fun h => by omega⟩ (fun j s _ hj hI => by
   obtain ⟨y, rfl, hr, ky, hsub, h0⟩ := hI
   have hj : j < x.Route.Steps.length := by omega
   have hg : j < y.gone.length := by rw [ky.gone, hr]; exact hj
   have hs : j < y.seen.length := by rw [ky.seen, hr]; exact hj
   unfold V5
   rw [Q6 hj, Ka, J0, Ka, Q6 hg, Ka]
   cases hgj : y.gone[j] with
   | true =>
    rw [if_pos rfl]
    exact .inl ⟨_, rfl, y, rfl, hr, ky, hsub, fun _ => ky.g0 j (by rw [Kf hg, hgj])⟩
   | false =>
    have hsec := (hst _ (List.getElem_mem hj)).1.1
    obtain ⟨sb, s1, s2⟩ := h.B.get hsec
    rw [if_neg Kh, Ka, Q6 hs, Ka, s1, Ka, q5A, Ka, Y3 (by omega) (by omega), Ka, Ka]
    have e1 : ∃ q, (if y.seen[j] = true then (if (decide (0 < sb.axles) || sb.disturbed) = true then some true else if (j : Int) + 1 < (y.Route.Steps.length : Int) then ((idx y.seen ((j : Int) + 1)).bind fun p => some (!p)) else some false) else some true) = some q ∧ (q = false → y.seen[j] = true) := by
     by_cases c : y.seen[j] = true
     ·rw [if_pos c]
      split
      ·exact ⟨_, rfl, fun h => by cases h⟩
      ·split
       ·rename_i c2
        obtain ⟨b, hb, _⟩ := q4r (l := y.seen) (i := (j : Int) + 1) (by omega) (by rw [ky.seen]; exact c2)
        rw [hb]
        exact ⟨_, rfl, fun _ => c⟩
       ·exact ⟨_, rfl, fun _ => c⟩
     ·rw [if_neg c]
      exact ⟨_, rfl, fun h => by cases h⟩
    obtain ⟨q, e1, e2⟩ := e1
    rw [e1, Ka]
    cases q with
    | true =>
     rw [if_pos rfl]
     exact .inr ⟨_, rfl, rfl, y, rfl, ky, hsub⟩
    | false =>
     have hsj := e2 rfl
     have h00 : y.seen[0]? = some true := by
      by_cases c : j = 0
      ·subst c
       rw [Kf hs, hsj]
      ·exact h0 (by omega)
     obtain ⟨k1, k2⟩ := j3H ky j h00
     rw [if_neg Kh, Ka, Q6 hg, Ka, q6Y]
     exact .inl ⟨_, rfl, _, rfl, hr, k1, fun a ha => hsub a (k2 a ha), fun _ => h00⟩) with ⟨s, h1, y, rfl, _, ky, hsub, _⟩ | ⟨⟨s, m'⟩, h1, h2, y, h3, ky, hsub⟩
 ·rw [h1, Ka, Sum.elim_inl, J0, Ka]
  exact ⟨_, _, rfl, (h.put hx (fun _ => ky) hsub).del _, y, rfl, ky⟩
 ·simp only at h2 h3
  rw [h1, Ka, Sum.elim_inr, h2, h3]
  exact ⟨_, _, rfl, h.put hx (fun _ => ky) hsub, y, rfl, ky⟩
end
theorem z6G {α : Type} {body : Nat → List α → Option (List α)} {f : α → α} (l : List α) (hb : ∀ (j : Nat) (b : List α) (hj : j < b.length) (hl : j < l.length), b[j] = l[j] → body j b = some (b.set j (f l[j]))) : forS body l.length 0 l = some (l.map f) := by
 obtain ⟨s, h1, h2⟩ := H6 (body := body) (fun j b => b = (l.take j).map f ++ l.drop j) l.length 0 l (by simp) (fun j b _ hj hI => by
  have hj : j < l.length := by omega
  subst hI
  have hlt : ((l.take j).map f).length = j := by simp; omega
  have hjb : j < ((l.take j).map f ++ l.drop j).length := by rw [List.length_append, hlt, List.length_drop]; omega
  refine ⟨_, hb j _ hjb hj ?_, ?_⟩
  ·rw [List.getElem_append_right (by omega)]
   simp only [hlt, Nat.sub_self, List.getElem_drop, Nat.add_zero]
  ·rw [List.set_append_right _ _ (by omega), hlt, Nat.sub_self, List.take_succ_eq_append_getElem hj, List.map_append, List.append_assoc, List.drop_eq_getElem_cons hj]
   rfl)
 rw [h1, h2]
 simp
def q6g (s : q9) : q9 := if s.moving = 0 ∨ s.failed = true then s else if s.moving - 1 = 0 then ⟨s.axles, s.disturbed, 3 - s.position, s.moving - 1, s.failed⟩ else ⟨s.axles, s.disturbed, s.position, s.moving - 1, s.failed⟩
def z7u (g : z8) : z8 := if g.wanted = true ∧ 0 < g.left ∧ g.failed = false then ⟨g.left - 1, g.wanted, g.failed⟩ else g
theorem q9Y {α : Type} {l : List α} {j : Nat} {x : α} (h : j < l.length) (e : l[j] = x) : l.set j x = l := by
 rw [← e]
 exact List.set_getElem_self h
theorem z4U {m : Nat} {bo : List q9} (hb : z5f m bo) : forS W5 bo.length 0 bo = some (bo.map q6g) := z6G bo fun j b hj hl he => by
 have h4 := hb.2 _ (List.getElem_mem hl)
 have hm := h4.2.1
 have hp := h4.2.2
 unfold W5
 rw [Q6 hj, Ka, he]
 unfold q6g
 by_cases c : bo[j].moving = 0 ∨ bo[j].failed = true
 ·have e1 : (if bo[j].moving = 0 then some true else some bo[j].failed) = some true := by
   by_cases c0 : bo[j].moving = 0
   ·rw [if_pos c0]
   ·rw [if_neg c0, c.resolve_left c0]
  rw [e1, Ka, if_pos rfl, if_pos c, q9Y hj he]
 ·have c0 : ¬ bo[j].moving = 0 := fun h => c (.inl h)
  have cf : ¬ bo[j].failed = true := fun h => c (.inr h)
  rw [if_neg c0, Ka, if_neg cf, Y3 (by omega) (by omega), Ka, q0n, Q6 (by rw [List.length_set]; exact hj), Ka, List.getElem_set_self, if_neg c]
  simp only
  by_cases c1 : bo[j].moving - 1 = 0
  ·rw [if_pos c1, if_pos c1, Y3 (by omega) (by omega), Ka, q0n, List.set_set]
  ·rw [if_neg c1, if_neg c1]
theorem z6F {m : Nat} {gt : List z8} (hb : j0y m gt) : forS W4 gt.length 0 gt = some (gt.map z7u) := z6G gt fun j b hj hl he => by
 have h4 := hb.2 _ (List.getElem_mem hl)
 unfold W4
 rw [Q6 hj, Ka, he]
 unfold z7u
 by_cases cw : gt[j].wanted = true
 ·by_cases cl : 0 < gt[j].left
  ·rw [if_pos cw, if_pos cl, Ka]
   by_cases cf : (!gt[j].failed) = true
   ·have cf' : gt[j].failed = false := by simpa using cf
    rw [if_pos cf, Y3 (by omega) (by omega), Ka, if_pos ⟨cw, cl, cf'⟩, q0n]
   ·rw [if_neg cf, if_neg (fun h => cf (by rw [h.2.2]; rfl)), q9Y hj he]
  ·rw [if_pos cw, if_neg cl, Ka, if_neg Kh, if_neg (fun h => cl h.2.1), q9Y hj he]
 ·rw [if_neg cw, Ka, if_neg Kh, if_neg (fun h => cw h.1), q9Y hj he]
theorem z6C {ν : Type} : ∀ {l : List (Int × ν)} {k : Int}, (l.map (·.1)).Nodup → ∀ {p : Int × ν}, p ∈ z0b l k ↔ p ∈ l ∧ p.1 ≠ k
 | [], k, _, p => by simp [z0b]
 | (a, b) :: r, k, hn, p => by
  simp only [List.map_cons, List.nodup_cons] at hn
  simp only [z0b]
  by_cases c : a = k
  ·subst c
   rw [if_pos rfl]
   constructor
   ·intro h
    exact ⟨List.mem_cons_of_mem _ h, fun e => hn.1 (e ▸ List.mem_map_of_mem h)⟩
   ·rintro ⟨h1, h2⟩
    rcases List.mem_cons.1 h1 with h1 | h1
    ·exact absurd (by rw [h1]) h2
    ·exact h1
  ·rw [if_neg c, List.mem_cons, List.mem_cons, z6C hn.2]
   constructor
   ·rintro (h | ⟨h1, h2⟩)
    ·exact ⟨.inl h, by rw [h]; exact c⟩
    ·exact ⟨.inr h1, h2⟩
   ·rintro ⟨h1 | h1, h2⟩
    ·exact .inl h1
    ·exact .inr ⟨h1, h2⟩
def q4k (bo : List q9) (s : Int) : Bool := ((idx bo s).map fun b => decide (0 < b.axles) || b.disturbed).getD false
def q5X (bo : List q9) (x : z6) (i : Nat) : Bool := !((x.seen[i]?).getD false) || q4k bo ((x.Route.Steps[i]?).getD ⟨0, 0, 0⟩).Section || (decide (i + 1 < x.Route.Steps.length) && !((x.seen[i + 1]?).getD false))
def q9H (bo : List q9) (x : z6) : Nat → Nat → List Bool → List Bool × Bool
 | 0, _, g => (g, true)
 | m + 1, i, g => if (g[i]?).getD true = true then q9H bo x m (i + 1) g else if q5X bo x i = true then (g, false) else q9H bo x m (i + 1) (g.set i true)
def q1P (x : z6) (g : List Bool) : z6 := ⟨x.Route, x.needs, x.seen, g, x.laps, x.sight, x.leave, x.clock, x.number⟩
def z1A (bo : List q9) (x : z6) : List Bool × Bool := q9H bo x x.Route.Steps.length 0 x.gone
def z5e (bo : List q9) (x : z6) : z6 := q1P x (z1A bo x).1
def q7t (x : z6) : z6 := if ((x.seen[x.seen.length - 1]?).getD false && x.laps) = true then ⟨x.Route, x.needs, x.seen, x.gone, if x.clock + 1 = 60 then false else x.laps, x.sight, x.leave, x.clock + 1, x.number⟩ else x
section
variable {n : j3} {ro : List z7} {ne : List (List q8)} {bo bo' : List q9} {gt gt' : List z8} {mp : List (Int × Option Int)} {ar : List (Int × z6)}
variable {a1 : List ByteArray} {a2 : List j0} {a3 : List j9} {a4 : List j5} {a5 : List Q2} {a6 : List z7} {a7 : List (List q8)} {a8 : List q9} {a9 : List z8} {b1 : List (Int × Option Int)} {b2 : List (Int × z6)}
theorem q6o (F : Fix n ro ne) (h : Inv n ro ne bo gt mp ar) {k : Int} {x : z6} (kx : LOk n ro ne k x) : ∀ (m i : Nat) (g : List Bool), g.length = x.Route.Steps.length → i + m = x.Route.Steps.length →
  Fp.forM (V5 bo mp k x) m i (X7 ar k (q1P x g)) = some (if (q9H bo x m i g).2 = true then .inl (X7 ar k (q1P x (q9H bo x m i g).1)) else .inr (X7 ar k (q1P x (q9H bo x m i g).1), mp))
 | 0, i, g, _, _ => rfl
 | m + 1, i, g, hg, hi => by
  have hst : ∀ s ∈ x.Route.Steps, q3H n s := by rw [kx.route]; exact (F.rok kx.kr).way.path.step
  have hm : x.Route.Steps.length ≤ 16 := by rw [kx.route]; exact (F.rok kx.kr).way.many
  have hil : i < x.Route.Steps.length := by omega
  have hig : i < g.length := by omega
  have his : i < x.seen.length := by rw [kx.seen]; exact hil
  obtain ⟨sb, s1, s2⟩ := h.B.get (hst _ (List.getElem_mem hil)).1.1
  have s1 : idx bo x.Route.Steps[i].Section = some sb := s1
  have hsh : q4k bo ((x.Route.Steps[i]?).getD ⟨0, 0, 0⟩).Section = (decide (0 < sb.axles) || sb.disturbed) := by
   unfold q4k
   rw [Kf hil, Option.getD_some, s1]
   rfl
  have body : V5 bo mp k x i (X7 ar k (q1P x g)) = some (if g[i] = true then .inl (X7 ar k (q1P x g)) else if q5X bo x i = true then .inr (X7 ar k (q1P x g), mp) else .inl (X7 ar k (q1P x (g.set i true)))) := by
   unfold V5
   rw [Q6 hil, Ka, J0, Ka]
   show (idx g (i : Int)).bind _ = _
   rw [Q6 hig, Ka]
   cases hgi : g[i] with
   | true => rw [if_pos rfl, if_pos rfl]
   | false =>
    rw [if_neg Kh, if_neg Kh, Ka]
    have e1 : ((idx (q1P x g).seen (i : Int)).bind fun m => if m = true then ((idx bo x.Route.Steps[i].Section).bind fun n => (H1 n).bind fun o => if o = true then some true else ((chk ((i : Int) + 1)).bind fun _ => if ((i : Int) + 1) < ((q1P x g).Route.Steps.length : Int) then ((chk ((i : Int) + 1)).bind fun _ => (idx (q1P x g).seen ((i : Int) + 1)).bind fun p => some (!p)) else some false)) else some true) = some (q5X bo x i) := by
     show ((idx x.seen (i : Int)).bind _) = _
     unfold q5X
     rw [Q6 his, Ka, Kf his, Option.getD_some, hsh]
     cases x.seen[i] with
     | false => rfl
     | true =>
      rw [if_pos rfl, s1, Ka, q5A, Ka]
      cases (decide (0 < sb.axles) || sb.disturbed) with
      | true => rfl
      | false =>
       rw [if_neg Kh, Y3 (by omega) (by omega), Ka]
       show (if (i : Int) + 1 < (x.Route.Steps.length : Int) then _ else _) = _
       by_cases c : i + 1 < x.Route.Steps.length
       ·have hs1 : i + 1 < x.seen.length := by rw [kx.seen]; exact c
        rw [if_pos (by omega), Ka]
        show ((idx x.seen ((i : Int) + 1)).bind _) = _
        rw [show (i : Int) + 1 = ((i + 1 : Nat) : Int) by omega, Q6 hs1, Ka, Kf hs1, decide_eq_true c]
        rfl
       ·rw [if_neg (by omega), decide_eq_false c]
        rfl
    rw [e1, Ka]
    cases q5X bo x i with
    | true => rw [if_pos rfl, if_pos rfl]
    | false =>
     rw [if_neg Kh, if_neg Kh]
     show (idx g (i : Int)).bind _ = _
     rw [Q6 hig, Ka, q6Y, q0n]
     rfl
  have hgd : (g[i]?).getD true = g[i] := by rw [Kf hig]; rfl
  unfold q9H
  rw [hgd]
  by_cases c : g[i] = true
  ·rw [if_pos c] at body
   rw [q5H body, q6o F h kx m (i + 1) g hg (by omega), if_pos c]
  ·rw [if_neg c] at body
   rw [if_neg c]
   by_cases c2 : q5X bo x i = true
   ·rw [if_pos c2] at body
    rw [q8h body, if_pos c2]
    rfl
   ·rw [if_neg c2] at body
    rw [q5H body, q6o F h kx m (i + 1) (g.set i true) (by rw [List.length_set]; exact hg) (by omega), if_neg c2]
theorem z7y (F : Fix n ro ne) (h : Inv n ro ne bo gt mp ar) {k : Int} {x : z6} (hx : J4 ar k = some x) (kx : LOk n ro ne k x) :
  G9 (some k) a1 a2 a3 a4 a5 a6 a7 ar bo a9 mp = some (X7 ar k (z5e bo x), if (z1A bo x).2 = true then z0b mp k else mp) := by
 unfold G9
 rw [Ka, hx, Ka]
 have h1 := q6o F h kx x.Route.Steps.length 0 x.gone kx.gone (by omega)
 have h2 : q1P x x.gone = x := rfl
 rw [h2, q6s ar hx] at h1
 rw [h1, Ka]
 unfold z5e z1A
 by_cases c : (q9H bo x x.Route.Steps.length 0 x.gone).2 = true
 ·rw [if_pos c, if_pos c, Sum.elim_inl, J0, Ka]
  have : (q1P x (q9H bo x x.Route.Steps.length 0 x.gone).1).number = k := kx.num
  rw [this]
 ·rw [if_neg c, if_neg c, Sum.elim_inr]
end
section
variable {n : j3} {ro : List z7} {ne : List (List q8)} {bo bo' : List q9} {gt gt' : List z8} {mp : List (Int × Option Int)} {ar : List (Int × z6)}
variable {a1 : List ByteArray} {a2 : List j0} {a3 : List j9} {a4 : List j5} {a5 : List Q2} {a6 : List z7} {a7 : List (List q8)} {a8 : List q9} {a9 : List z8} {b1 : List (Int × Option Int)} {b2 : List (Int × z6)}
def z2b (mp : List (Int × Option Int)) (ar : List (Int × z6)) (s : Int) : Prop := ∃ e ∈ mp, ∃ x, J4 ar e.1 = some x ∧ z8M x s
def z2a (n : j3) (mp : List (Int × Option Int)) (ar : List (Int × z6)) (j : Nat) (g g' : z8) : Prop :=
 g'.failed = g.failed ∧ (z2b mp ar ((n.Gates[j]?).getD ⟨0, 0⟩).Section → g'.wanted = true ∧ (g.wanted = true → g'.left = g.left) ∧ (g.wanted = false → g'.left = ((n.Gates[j]?).getD ⟨0, 0⟩).Close)) ∧ (¬ z2b mp ar ((n.Gates[j]?).getD ⟨0, 0⟩).Section → g'.wanted = false ∧ g'.left = g.left)
theorem z8o (F : Fix n ro ne) (h : Inv n ro ne bo gt mp ar) (a1 : List ByteArray) (a2 : List j0) (a3 : List j9) (a4 : List j5) (a6 : List z7) (a7 : List (List q8)) (a8 : List q9) :
  ∃ gt', q1A a1 a2 a3 a4 n.Gates a6 a7 a8 gt mp ar = some (gt', mp) ∧ gt'.length = gt.length ∧ (∀ g ∈ gt', g.left ≤ 9223372036854775807) ∧ ∀ (j : Nat) (g : z8), gt[j]? = some g → ∃ g', gt'[j]? = some g' ∧ z2a n mp ar j g g' := by
 unfold q1A
 obtain ⟨⟨g1, m1⟩, h1, h2, h3, h4, h5⟩ := H6 (body := q1U a1 a2 a3 a4 n.Gates a6 a7 a8 ar) (fun k S => S.2 = mp ∧ S.1.length = gt.length ∧ (∀ g ∈ S.1, g.left ≤ 9223372036854775807) ∧ ∀ (j : Nat) (g : z8), gt[j]? = some g → ∃ g', S.1[j]? = some g' ∧ (j < k → z2a n mp ar j g g') ∧ (k ≤ j → g' = g)) n.Gates.length 0 (gt, mp) ⟨rfl, rfl, h.gb, fun j g hg => ⟨g, hg, fun h => by omega, fun _ => rfl⟩⟩ (fun k S _ hk hS => by
  obtain ⟨g1, m1⟩ := S
  obtain ⟨h2, h3, h4, h5⟩ := hS
  have h2 : m1 = mp := h2
  subst h2
  have h3 : g1.length = gt.length := h3
  have h4 : ∀ g ∈ g1, g.left ≤ 9223372036854775807 := h4
  have h5 : ∀ (j : Nat) (g : z8), gt[j]? = some g → ∃ g', g1[j]? = some g' ∧ (j < k → z2a n m1 ar j g g') ∧ (k ≤ j → g' = g) := h5
  have hk : k < n.Gates.length := by omega
  have hkg : k < gt.length := by rw [h.gl]; exact hk
  have hg : k < g1.length := by rw [h3]; exact hkg
  have eG : ((n.Gates[k]?).getD ⟨0, 0⟩) = n.Gates[k] := by rw [Kf hk]; rfl
  obtain ⟨g0, e0, _, e2⟩ := h5 k gt[k] (Kf hkg)
  have e2 := e2 (Nat.le_refl _)
  rw [Kf hg] at e0
  have e0 : g1[k] = gt[k] := by rw [Kd e0, e2]
  unfold q1U
  show ∃ s', Option.bind _ _ = _ ∧ _
  obtain ⟨r, h6, h7⟩ := z6s F h a1 a2 a3 a4 n.Gates a6 a7 a8 g1 n.Gates[k].Section
  have hr : 0 ≤ r ↔ z2b m1 ar n.Gates[k].Section := by
   rcases h7 with ⟨rfl, h7⟩ | ⟨x, m1, x1, o1⟩
   ·exact ⟨fun h => by omega, fun ⟨e, he, x, hx, ho⟩ => absurd ho (h7 e he x hx)⟩
   ·obtain ⟨_, y, _, ky⟩ := h.en _ m1
    have hk := ky.kr
    exact ⟨fun _ => ⟨_, m1, x, x1, o1⟩, fun _ => hk.1⟩
  have key : ∀ y : z8, y.left ≤ 9223372036854775807 → z2a n m1 ar k gt[k] y → (∀ g ∈ put g1 (k : Int) y, g.left ≤ 9223372036854775807) ∧ ∀ (j : Nat) (g : z8), gt[j]? = some g → ∃ g', (put g1 (k : Int) y)[j]? = some g' ∧ (j < k + 1 → z2a n m1 ar j g g') ∧ (k + 1 ≤ j → g' = g) := fun y hy hw => by
   rw [q0n]
   refine ⟨fun g hgm => ?_, fun j g hj => ?_⟩
   ·rcases List.mem_or_eq_of_mem_set hgm with h | h
    ·exact h4 g h
    ·rw [h]; exact hy
   ·by_cases c : k = j
    ·subst c
     rw [Kf hkg] at hj
     rw [← Kd hj]
     refine ⟨y, ?_, fun _ => hw, fun h => by omega⟩
     rw [List.getElem?_set, if_pos rfl, if_pos hg]
    ·obtain ⟨g', q1, q2, q3⟩ := h5 j g hj
     refine ⟨g', ?_, fun h => q2 (by omega), fun h => q3 (by omega)⟩
     rw [List.getElem?_set, if_neg c]
     exact q1
  have hb := h4 _ (List.getElem_mem hg)
  rw [e0] at hb
  have hc := F.close _ (List.getElem_mem hk)
  rw [Q6 hk, Ka, Q6 hg, Ka, h6, Ka]
  simp only [q0q]
  rw [e0]
  by_cases c : 0 ≤ r
  ·rw [if_pos c, decide_eq_true c]
   have ho := hr.1 c
   by_cases cw : gt[k].wanted = true
   ·rw [if_pos cw]
    obtain ⟨k1, k2⟩ := key ⟨gt[k].left, true, gt[k].failed⟩ hb ⟨rfl, fun _ => ⟨rfl, fun _ => rfl, fun h => by rw [cw] at h; cases h⟩, fun h => absurd (by rw [eG]; exact ho) h⟩
    exact ⟨_, rfl, rfl, by rw [Q4]; exact h3, k1, k2⟩
   ·rw [if_neg cw, Q6 (by rw [Q4]; exact hg), Ka]
    obtain ⟨k1, k2⟩ := key ⟨n.Gates[k].Close, true, gt[k].failed⟩ hc ⟨rfl, fun _ => ⟨rfl, fun h => absurd h cw, fun _ => by rw [eG]⟩, fun h => absurd (by rw [eG]; exact ho) h⟩
    simp only [q0n, List.getElem_set_self, List.set_set] at k1 k2 ⊢
    exact ⟨_, rfl, rfl, by rw [List.length_set]; exact h3, k1, k2⟩
  ·rw [if_neg c, decide_eq_false c]
   obtain ⟨k1, k2⟩ := key ⟨gt[k].left, false, gt[k].failed⟩ hb ⟨rfl, fun h => absurd (hr.2 (by rw [← eG]; exact h)) c, fun _ => ⟨rfl, rfl⟩⟩
   exact ⟨_, rfl, rfl, by rw [Q4]; exact h3, k1, k2⟩)
 rw [h1]
 have h2 : m1 = mp := h2
 subst h2
 refine ⟨g1, rfl, h3, h4, fun j g hg => ?_⟩
 obtain ⟨g', q1, q2, q3⟩ := h5 j g hg
 have hj : j < gt.length := (List.getElem?_eq_some_iff.1 hg).1
 exact ⟨g', q1, q2 (by rw [Nat.zero_add, ← h.gl]; exact hj)⟩
theorem j1N (F : Fix n ro ne) {ks : List Int} (hn : ks.Nodup) (hk : j0v n ro ne ks ar) : ∃ ar', forS (V0 (ks.map some)) (ks.map some).length 0 ar = some ar' ∧ (∀ k ∈ ks, ∀ x, J4 ar k = some x → J4 ar' k = some (q7t x)) ∧ ∀ k, k ∉ ks → J4 ar' k = J4 ar k := by
 obtain ⟨r', h1, h2, h3⟩ := H6 (body := V0 (ks.map some)) (fun j S => (∀ k ∈ ks.take j, ∀ x, J4 ar k = some x → J4 S k = some (q7t x)) ∧ ∀ k, k ∉ ks.take j → J4 S k = J4 ar k) (ks.map some).length 0 ar ⟨fun k hk => by simp at hk, fun _ _ => rfl⟩ (fun j r' _ hj hS => by
  obtain ⟨i1, i2⟩ := hS
  have hj : j < ks.length := by simpa using hj
  obtain ⟨x, hx, kx⟩ := hk _ (List.getElem_mem hj)
  have hnot : ks[j] ∉ ks.take j := fun hm => by
   obtain ⟨i, hi, he⟩ := List.getElem_of_mem hm
   have hi' : i < j := by simp at hi; omega
   rw [List.getElem_take] at he
   have := (List.getElem_inj (h₀ := by omega) (h₁ := hj) hn).1 he
   omega
  have hx' : J4 r' ks[j] = some x := by rw [i2 _ hnot, hx]
  have hp := kx.pos F
  have hs := kx.seen
  have hm : x.Route.Steps.length ≤ 16 := by rw [kx.route]; exact (F.rok kx.kr).way.many
  have hc := kx.clk
  have fin : ∀ y, y = q7t x → (∀ k ∈ ks.take (j + 1), ∀ z, J4 ar k = some z → J4 (X7 r' ks[j] y) k = some (q7t z)) ∧ ∀ k, k ∉ ks.take (j + 1) → J4 (X7 r' ks[j] y) k = J4 ar k := fun y hy => by
   rw [List.take_succ_eq_append_getElem hj]
   refine ⟨fun k hk z hz => ?_, fun k hk => ?_⟩
   ·by_cases c : k = ks[j]
    ·rw [c] at hz ⊢
     rw [hx] at hz
     rw [J0, hy, Kd hz]
    ·rw [Z5 _ _ c]
     rcases List.mem_append.1 hk with hk | hk
     ·exact i1 k hk z hz
     ·exact absurd (List.mem_singleton.1 hk) c
   ·have c : k ≠ ks[j] := fun e => hk (by rw [e]; exact List.mem_append_right _ (List.mem_singleton.2 rfl))
    rw [Z5 _ _ c]
    exact i2 k fun hh => hk (List.mem_append_left _ hh)
  have hlt : x.seen.length - 1 < x.seen.length := by omega
  have hget : (x.seen[x.seen.length - 1]?).getD false = x.seen[x.seen.length - 1] := by rw [Kf hlt]; rfl
  unfold V0
  rw [Q6 (by simpa using hj), List.getElem_map, Ka, Ka, hx', Ka, Y3 (by omega) (by omega), Ka, show (x.seen.length : Int) - 1 = ((x.seen.length - 1 : Nat) : Int) by omega, Q6 hlt, Ka]
  have e1 : (if x.seen[x.seen.length - 1] = true then some (some ks[j], x.laps) else some (some ks[j], false)) = some (some ks[j], x.seen[x.seen.length - 1] && x.laps) := by cases x.seen[x.seen.length - 1] <;> rfl
  rw [e1, q0L]
  by_cases c : (x.seen[x.seen.length - 1] && x.laps) = true
  ·have hlaps : x.laps = true := by
    cases hq : x.laps with
    | true => rfl
    | false => rw [hq, Bool.and_false] at c; cases c
   have hc2 := hc.2 hlaps
   have hsec : q7t x = ⟨x.Route, x.needs, x.seen, x.gone, if x.clock + 1 = 60 then false else x.laps, x.sight, x.leave, x.clock + 1, x.number⟩ := if_pos (by rw [hget]; exact c)
   rw [if_pos c, Ka, hx', Ka, Y3 (by omega) (by omega), Ka]
   by_cases c6 : x.clock + 1 = 60
   ·rw [if_pos c6]
    exact ⟨_, rfl, fin _ (by rw [hsec, if_pos c6])⟩
   ·rw [if_neg c6]
    exact ⟨_, rfl, fin _ (by rw [hsec, if_neg c6])⟩
  ·rw [if_neg c]
   have hsec : q7t x = x := if_neg (by rw [hget]; exact c)
   have := fin x hsec.symm
   rw [q6s r' hx'] at this
   exact ⟨_, rfl, this⟩)
 refine ⟨r', h1, ?_, ?_⟩
 ·rw [List.length_map, Nat.zero_add, List.take_length] at h2
  exact h2
 ·rw [List.length_map, Nat.zero_add, List.take_length] at h3
  exact h3
theorem z5s (F : Fix n ro ne) (h : Inv n ro ne bo gt mp ar) {ks : List Int} (hn : ks.Nodup) (hk : j0v n ro ne ks ar) : ∃ mp' ar', forS (G1 a1 a2 a3 a4 a5 a6 a7 bo a9 (ks.map some)) (ks.map some).length 0 (mp, ar) = some (mp', ar') ∧ Inv n ro ne bo gt mp' ar' ∧
  (∀ p, p ∈ mp' ↔ p ∈ mp ∧ ¬ (p.1 ∈ ks ∧ ∃ x, J4 ar p.1 = some x ∧ (z1A bo x).2 = true)) ∧ (∀ k ∈ ks, ∀ x, J4 ar k = some x → J4 ar' k = some (z5e bo x)) ∧ ∀ k, k ∉ ks → J4 ar' k = J4 ar k := by
 obtain ⟨⟨m', r'⟩, h1, h2, h3, h4, h5, h6⟩ := H6 (body := G1 a1 a2 a3 a4 a5 a6 a7 bo a9 (ks.map some)) (fun j S => Inv n ro ne bo gt S.1 S.2 ∧ j0v n ro ne ks S.2 ∧ (∀ p, p ∈ S.1 ↔ p ∈ mp ∧ ¬ (p.1 ∈ ks.take j ∧ ∃ x, J4 ar p.1 = some x ∧ (z1A bo x).2 = true)) ∧ (∀ k ∈ ks.take j, ∀ x, J4 ar k = some x → J4 S.2 k = some (z5e bo x)) ∧ ∀ k, k ∉ ks.take j → J4 S.2 k = J4 ar k) (ks.map some).length 0 (mp, ar) ⟨h, hk, fun p => ⟨fun hp => ⟨hp, fun hh => by simp at hh⟩, fun hp => hp.1⟩, fun k hk => by simp at hk, fun _ _ => rfl⟩ (fun j S _ hj hS => by
  obtain ⟨m', r'⟩ := S
  obtain ⟨hI, hK, i1, i2, i3⟩ := hS
  have i1 : ∀ p, p ∈ m' ↔ p ∈ mp ∧ ¬ (p.1 ∈ ks.take j ∧ ∃ x, J4 ar p.1 = some x ∧ (z1A bo x).2 = true) := i1
  have hj : j < ks.length := by simpa using hj
  have hnot : ks[j] ∉ ks.take j := fun hm => by
   obtain ⟨i, hi, he⟩ := List.getElem_of_mem hm
   have hi' : i < j := by simp at hi; omega
   rw [List.getElem_take] at he
   have := (List.getElem_inj (h₀ := by omega) (h₁ := hj) hn).1 he
   omega
  obtain ⟨x, hx, kx⟩ := hK _ (List.getElem_mem hj)
  have hx : J4 r' ks[j] = some x := hx
  have hx0 : J4 ar ks[j] = some x := by rw [← hx]; exact (i3 _ hnot).symm
  obtain ⟨ar', mp', g3, g4, y, g5, ky⟩ := z7x (a1 := a1) (a2 := a2) (a3 := a3) (a4 := a4) (a5 := a5) (a6 := a6) (a7 := a7) (a9 := a9) F hI hx kx
  have e := z7y (a1 := a1) (a2 := a2) (a3 := a3) (a4 := a4) (a5 := a5) (a6 := a6) (a7 := a7) (a9 := a9) F hI hx kx
  rw [g3] at e
  have e := Kd e
  injection e with e1 e2
  unfold G1
  show ∃ s', Option.bind _ _ = _ ∧ _
  rw [Q6 (by simpa using hj), List.getElem_map, Ka, g3, q0L]
  refine ⟨_, rfl, g4, by rw [g5]; exact hK.put ky, fun p => ?_, fun k hk z hz => ?_, fun k hk => ?_⟩
  ·show p ∈ mp' ↔ _
   rw [e2, List.take_succ_eq_append_getElem hj]
   by_cases cd : (z1A bo x).2 = true
   ·rw [if_pos cd, z6C hI.nd, i1]
    constructor
    ·rintro ⟨⟨q1, q2⟩, q3⟩
     refine ⟨q1, fun ⟨q4, q5⟩ => ?_⟩
     rcases List.mem_append.1 q4 with q4 | q4
     ·exact q2 ⟨q4, q5⟩
     ·exact q3 (List.mem_singleton.1 q4)
    ·rintro ⟨q1, q2⟩
     refine ⟨⟨q1, fun ⟨q3, q4⟩ => q2 ⟨List.mem_append_left _ q3, q4⟩⟩, fun q3 => q2 ⟨List.mem_append_right _ (List.mem_singleton.2 q3), x, by rw [q3]; exact hx0, cd⟩⟩
   ·rw [if_neg cd, i1]
    constructor
    ·rintro ⟨q1, q2⟩
     refine ⟨q1, fun ⟨q3, q4⟩ => ?_⟩
     rcases List.mem_append.1 q3 with q3 | q3
     ·exact q2 ⟨q3, q4⟩
     ·obtain ⟨z, z1, z2⟩ := q4
      rw [List.mem_singleton.1 q3, hx0] at z1
      rw [← Kd z1] at z2
      exact cd z2
    ·rintro ⟨q1, q2⟩
     exact ⟨q1, fun ⟨q3, q4⟩ => q2 ⟨List.mem_append_left _ q3, q4⟩⟩
  ·show J4 ar' k = _
   rw [List.take_succ_eq_append_getElem hj] at hk
   rw [e1]
   by_cases c : k = ks[j]
   ·rw [c] at hz ⊢
    rw [hx0] at hz
    rw [J0, Kd hz]
   ·rw [Z5 _ _ c]
    rcases List.mem_append.1 hk with hk | hk
    ·exact i2 k hk z hz
    ·exact absurd (List.mem_singleton.1 hk) c
  ·show J4 ar' k = _
   rw [List.take_succ_eq_append_getElem hj] at hk
   have c : k ≠ ks[j] := fun e => hk (by rw [e]; exact List.mem_append_right _ (List.mem_singleton.2 rfl))
   rw [e1, Z5 _ _ c]
   exact i3 k fun hh => hk (List.mem_append_left _ hh))
 rw [List.length_map, Nat.zero_add, List.take_length] at h4 h5 h6
 exact ⟨m', r', h1, h2, h4, h5, h6⟩
end
section
variable {n : j3} {ro : List z7} {ne : List (List q8)} {bo bo' : List q9} {gt gt' : List z8} {mp : List (Int × Option Int)} {ar : List (Int × z6)}
variable {a1 : List ByteArray} {a2 : List j0} {a3 : List j9} {a4 : List j5} {a5 : List Q2} {a6 : List z7} {a7 : List (List q8)} {a8 : List q9} {a9 : List z8} {b1 : List (Int × Option Int)} {b2 : List (Int × z6)}
theorem z8G (F : Fix n ro ne) (h : Inv n ro ne bo gt mp ar) (hl : ∀ p ∈ mp, ∀ x, J4 ar p.1 = some x → x.leave = 0) :
  ∃ gt' mp' ar', Y5 a1 a2 a3 a4 n.Gates a6 a7 bo gt mp ar = some (bo.map q6g, gt', mp', ar') ∧ Inv n ro ne (bo.map q6g) gt' mp' ar' ∧
  (∀ p, p ∈ mp' ↔ p ∈ mp ∧ ¬ ∃ x, J4 ar p.1 = some x ∧ (z1A (bo.map q6g) (q7t x)).2 = true) ∧
  (∀ p ∈ mp, ∀ x, J4 ar p.1 = some x → J4 ar' p.1 = some (z5e (bo.map q6g) (q7t x))) ∧
  gt'.length = gt.length ∧ ∀ (j : Nat) (g : z8), gt[j]? = some g → ∃ g', gt'[j]? = some g' ∧ z2a n mp' ar' j (z7u g) g' := by
 obtain ⟨b1, q1, q2⟩ := j0m h.B
 rw [z4U h.B] at q1
 obtain rfl := Kd q1
 obtain ⟨g1, q3, q4⟩ := j1t h.G
 rw [z6F h.G] at q3
 obtain rfl := Kd q3
 have h1 := (h.toB q2).toG q4
 have hnk : ((mp.map (·.1)).mergeSort fun x y => decide (x ≤ y)).Nodup := (List.mergeSort_perm _ _).nodup_iff.2 h.nd
 have hmem : ∀ k, k ∈ ((mp.map (·.1)).mergeSort fun x y => decide (x ≤ y)) ↔ k ∈ mp.map (·.1) := fun k => q5e
 generalize hks : ((mp.map (·.1)).mergeSort fun x y => decide (x ≤ y)) = ks at hnk hmem
 have hkept : j0v n ro ne ks ar := by rw [← hks]; exact h1.kept
 have e1 : forS (G2 (ks.map some)) (ks.map some).length 0 (mp, ar) = some (mp, ar) := by
  obtain ⟨S, s1, s2⟩ := H6 (body := G2 (ks.map some)) (fun _ S => S = (mp, ar)) (ks.map some).length 0 (mp, ar) rfl (fun j S _ hj hS => by
   subst hS
   have hj : j < ks.length := by simpa using hj
   obtain ⟨x, hx, kx⟩ := hkept _ (List.getElem_mem hj)
   obtain ⟨p, hp, hpk⟩ := List.mem_map.1 ((hmem _).1 (List.getElem_mem hj))
   have h0 := hl p hp x (by rw [hpk]; exact hx)
   refine ⟨_, ?_, rfl⟩
   unfold G2
   show Option.bind _ _ = _
   rw [Q6 (by simpa using hj), List.getElem_map, Ka, Ka, hx, Ka, if_pos h0])
  rw [s1, s2]
 obtain ⟨r1, e2, e3, e4⟩ := j1N F hnk hkept
 obtain ⟨r2, e5, h2⟩ := j1M F h1 hkept
 rw [e2] at e5
 obtain rfl := Kd e5
 have hkept2 : j0v n ro ne ks r1 := by rw [← hks]; exact h2.kept
 obtain ⟨m3, r3, f1, f2, f3, f4, f5⟩ := z5s (a1 := a1) (a2 := a2) (a3 := a3) (a4 := a4) (a5 := n.Gates) (a6 := a6) (a7 := a7) (a9 := gt.map z7u) F h2 hnk hkept2
 obtain ⟨g2, w1, w2, w3, w4⟩ := z8o F f2 a1 a2 a3 a4 a6 a7 (bo.map q6g)
 refine ⟨g2, m3, r3, ?_, f2.gates w2 w3, fun p => ?_, fun p hp x hx => ?_, by rw [w2, List.length_map], fun j g hg => ?_⟩
 ·unfold Y5
  rw [z4U h.B, Ka, z6F h.G, Ka, q7Z F h1, hks, Ka, e1, q0L, q7Z F h1, hks, Ka, e2, Ka, q7Z F h2, hks, Ka, f1, q0L, w1, q0L]
 ·rw [f3]
  refine and_congr_right fun hp => not_congr ⟨?_, ?_⟩
  ·rintro ⟨_, x, hx, hd⟩
   obtain ⟨_, y, hy, _⟩ := h.en p hp
   have := e3 p.1 ((hmem _).2 (List.mem_map_of_mem hp)) y hy
   rw [hx] at this
   exact ⟨y, hy, by rw [← Kd this]; exact hd⟩
  ·rintro ⟨y, hy, hd⟩
   have hk := (hmem _).2 (List.mem_map_of_mem (f := (·.1)) hp)
   exact ⟨hk, q7t y, e3 p.1 hk y hy, hd⟩
 ·have hk := (hmem _).2 (List.mem_map_of_mem (f := (·.1)) hp)
  exact f4 p.1 hk _ (e3 p.1 hk x hx)
 ·exact w4 j (z7u g) (by rw [List.getElem?_map, hg]; rfl)
theorem j1k {m : Nat} {l : List q8} (hl : ∀ y ∈ l, y.Position ≠ 0 → 0 ≤ y.Place ∧ y.Place < (m : Int)) (hb : z5f m bo) : ∃ bo', forS (q0j l) l.length 0 bo = some bo' ∧ z5f m bo' ∧
  ∀ (j : Nat) (s : q9), bo[j]? = some s → ∃ v, bo'[j]? = some ⟨s.axles, s.disturbed, s.position, v, s.failed⟩ ∧ (v = s.moving ∨ s.moving = 0 ∧ v = 5 ∧ ∃ y ∈ l, y.Position ≠ 0 ∧ y.Place = (j : Int) ∧ s.position ≠ y.Position) ∧ (s.moving = 0 → (∃ y ∈ l, y.Position ≠ 0 ∧ y.Place = (j : Int) ∧ s.position ≠ y.Position) → v = 5) := by
 obtain ⟨b, h1, h2, h3⟩ := H6 (body := q0j l) (fun k b => z5f m b ∧ ∀ (j : Nat) (s : q9), bo[j]? = some s → ∃ v, b[j]? = some ⟨s.axles, s.disturbed, s.position, v, s.failed⟩ ∧ (v = s.moving ∨ s.moving = 0 ∧ v = 5 ∧ ∃ y ∈ l.take k, y.Position ≠ 0 ∧ y.Place = (j : Int) ∧ s.position ≠ y.Position) ∧ (s.moving = 0 → (∃ y ∈ l.take k, y.Position ≠ 0 ∧ y.Place = (j : Int) ∧ s.position ≠ y.Position) → v = 5)) l.length 0 bo ⟨hb, fun j s hs => ⟨s.moving, hs, .inl rfl, fun _ ⟨y, hy, _⟩ => by simp at hy⟩⟩ (fun k b _ hk hI => by
  obtain ⟨hB, hI⟩ := hI
  have hk : k < l.length := by omega
  have htk := List.take_succ_eq_append_getElem hk
  unfold q0j
  rw [Q6 hk, Ka]
  have keep : ∀ (hno : ∀ (j : Nat) (s : q9), bo[j]? = some s → ∀ v, b[j]? = some ⟨s.axles, s.disturbed, s.position, v, s.failed⟩ → s.moving = 0 → l[k].Position ≠ 0 → l[k].Place = (j : Int) → s.position ≠ l[k].Position → v = 5), z5f m b ∧ ∀ (j : Nat) (s : q9), bo[j]? = some s → ∃ v, b[j]? = some ⟨s.axles, s.disturbed, s.position, v, s.failed⟩ ∧ (v = s.moving ∨ s.moving = 0 ∧ v = 5 ∧ ∃ y ∈ l.take (k + 1), y.Position ≠ 0 ∧ y.Place = (j : Int) ∧ s.position ≠ y.Position) ∧ (s.moving = 0 → (∃ y ∈ l.take (k + 1), y.Position ≠ 0 ∧ y.Place = (j : Int) ∧ s.position ≠ y.Position) → v = 5) := fun hno => ⟨hB, fun j s hs => by
   obtain ⟨v, v1, v2, v3⟩ := hI j s hs
   rw [htk]
   refine ⟨v, v1, ?_, fun h0 ⟨y, hy, y1, y2, y3⟩ => ?_⟩
   ·rcases v2 with v2 | ⟨q1, q2, y, hy, q3⟩
    ·exact .inl v2
    ·exact .inr ⟨q1, q2, y, List.mem_append_left _ hy, q3⟩
   ·rcases List.mem_append.1 hy with hy | hy
    ·exact v3 h0 ⟨y, hy, y1, y2, y3⟩
    ·rw [List.mem_singleton.1 hy] at y1 y2 y3
     exact hno j s hs v v1 h0 y1 y2 y3⟩
  by_cases c : l[k].Position = 0
  ·rw [if_pos c]
   exact ⟨_, rfl, keep fun j s hs v hv h0 h1 => absurd c h1⟩
  ·obtain ⟨hp0, hp1⟩ := hl _ (List.getElem_mem hk) c
   obtain ⟨P, eP⟩ : ∃ P : Nat, l[k].Place = (P : Int) := ⟨l[k].Place.toNat, by omega⟩
   have hlt : P < b.length := by rw [hB.1]; omega
   have hbl : P < bo.length := by rw [hb.1]; omega
   obtain ⟨v, v1, v2, v3⟩ := hI _ _ (Kf hbl)
   have hget : b[P] = ⟨(bo[P]).axles, (bo[P]).disturbed, (bo[P]).position, v, (bo[P]).failed⟩ := by
    rw [Kf hlt] at v1
    exact Kd v1
   have hidx : idx b l[k].Place = some b[P] := by rw [eP, Q6 hlt]
   rw [if_neg c, hidx, Ka, hget]
   by_cases cp : (bo[P]).position ≠ l[k].Position
   ·rw [if_pos cp, Ka]
    by_cases cm : v = 0
    ·rw [if_pos (decide_eq_true cm)]
     have hm0 : (bo[P]).moving = 0 := by
      rcases v2 with v2 | ⟨q1, _⟩
      ·rw [← v2]; exact cm
      ·exact q1
     refine ⟨_, rfl, ?_, fun j s hs => ?_⟩
     ·have h4 := hB.2 _ (List.getElem_mem hlt)
      rw [hget] at h4
      exact hB.put _ ⟨h4.1, ⟨by simp, by simp⟩, h4.2.2⟩
     ·rw [htk, eP, q0n, List.getElem?_set]
      by_cases e : P = j
      ·subst e
       rw [Kf hbl] at hs
       have hs := Kd hs
       rw [if_pos rfl, if_pos hlt, ← hs]
       exact ⟨5, rfl, .inr ⟨hm0, rfl, _, List.mem_append_right _ (List.mem_singleton.2 rfl), c, eP, cp⟩, fun _ _ => rfl⟩
      ·obtain ⟨u, u1, u2, u3⟩ := hI j s hs
       rw [if_neg e]
       refine ⟨u, u1, ?_, fun h0 ⟨y, hy, y1, y2, y3⟩ => ?_⟩
       ·rcases u2 with u2 | ⟨q1, q2, y, hy, q3⟩
        ·exact .inl u2
        ·exact .inr ⟨q1, q2, y, List.mem_append_left _ hy, q3⟩
       ·rcases List.mem_append.1 hy with hy | hy
        ·exact u3 h0 ⟨y, hy, y1, y2, y3⟩
        ·rw [List.mem_singleton.1 hy] at y2
         exact absurd (by omega) e
    ·rw [if_neg (fun h => cm (of_decide_eq_true h))]
     refine ⟨_, rfl, keep fun j s hs u hu h0 h1 h2 h3 => ?_⟩
     have ej : P = j := by omega
     subst ej
     rw [Kf hbl] at hs
     rw [← Kd hs] at hu h0
     rw [v1] at hu
     have hu := Kd hu
     injection hu with _ _ _ hu _
     rcases v2 with v2 | ⟨_, q2, _⟩
     ·exact absurd (v2.trans h0) cm
     ·rw [← hu]; exact q2
   ·rw [if_neg cp, Ka, if_neg Kh]
    refine ⟨_, rfl, keep fun j s hs u hu h0 h1 h2 h3 => ?_⟩
    have ej : P = j := by omega
    subst ej
    rw [Kf hbl] at hs
    rw [← Kd hs] at h3
    exact absurd h3 cp)
 rw [Nat.zero_add, List.take_length] at h3
 exact ⟨b, h1, h2, h3⟩
end
section
variable {n : j3} {ro : List z7} {ne : List (List q8)} {bo bo' : List q9} {gt gt' : List z8} {mp : List (Int × Option Int)} {ar : List (Int × z6)}
variable {a1 : List ByteArray} {a2 : List j0} {a3 : List j9} {a4 : List j5} {a5 : List Q2} {a6 : List z7} {a7 : List (List q8)} {a8 : List q9} {a9 : List z8} {b1 : List (Int × Option Int)} {b2 : List (Int × z6)}
structure j7n (bo : List q9) (l : List q8) : Prop where
 pts : ∀ y ∈ l, y.Position ≠ 0 → ∀ s, idx bo y.Place = some s → s.failed = false ∧ s.moving = 0 ∧ ((decide (0 < s.axles) || s.disturbed) = true → s.position = y.Position)
 clr : ∀ y ∈ l, y.Kind = 1 ∨ y.Kind = 2 → ∀ s, idx bo y.Place = some s → (decide (0 < s.axles) || s.disturbed) = false
theorem q2y {τ : Type} {body : Nat → Unit → Option (Unit ⊕ τ)} {m : Nat} (hb : ∀ j, j < m → body j () = some (.inl ())) : Fp.forM body m 0 () = some (.inl ()) := by
 rcases q1q (body := body) (fun _ _ => True) (fun _ => False) m 0 () trivial (fun j s _ hj _ => .inl ⟨(), hb j (by omega), trivial⟩) with ⟨s, h1, _⟩ | ⟨_, _, h⟩
 ·exact h1
 ·exact h.elim
theorem z7q {l : List q8} (hl : ∀ y ∈ l, (y.Kind = 1 ∨ y.Kind = 2 ∨ y.Position ≠ 0) → 0 ≤ y.Place ∧ y.Place < (n.Sections.length : Int)) (hb : z5f n.Sections.length bo) (hf : j7n bo l) (d : List z8) (e : List (Int × z6)) (g : List (Int × Option Int)) :
  Fp.forM (q1k bo d e l g) l.length 0 () = some (.inl ()) ∧ Fp.forM (q1j bo d e l g) l.length 0 () = some (.inl ()) ∧ Fp.forM (q1i bo d e false l g) l.length 0 () = some (.inl ()) := by
 refine ⟨q2y fun j hj => ?_, q2y fun j hj => ?_, q2y fun j hj => ?_⟩
 ·unfold q1k
  rw [Q6 hj, Ka]
  by_cases c : 0 < l[j].Position
  ·obtain ⟨s, h3, _⟩ := hb.get (hl _ (List.getElem_mem hj) (.inr (.inr (by omega))))
   rw [if_pos c, h3, Ka, Ka, (hf.pts _ (List.getElem_mem hj) (by omega) s h3).1, if_neg Kh]
  ·rw [if_neg c, Ka, if_neg Kh]
 ·unfold q1j
  rw [Q6 hj, Ka]
  by_cases c : l[j].Position = 0
  ·rw [if_pos c]
  ·obtain ⟨s, h3, _⟩ := hb.get (hl _ (List.getElem_mem hj) (.inr (.inr c)))
   obtain ⟨f1, f2, f3⟩ := hf.pts _ (List.getElem_mem hj) c s h3
   rw [if_neg c, h3, Ka, j1d, q5A, Ka]
   have hm : ¬ 0 < s.moving := by omega
   have e1 : (if (decide (0 < s.axles) || s.disturbed) = true then (if s.position ≠ l[j].Position then some true else if 0 < s.moving then some true else if 0 < s.moving then some (decide (s.position = l[j].Position)) else some false) else if 0 < s.moving then some (decide (s.position = l[j].Position)) else some false) = some false := by
    by_cases co : (decide (0 < s.axles) || s.disturbed) = true
    ·rw [if_pos co, if_neg (fun h => h (f3 co)), if_neg hm, if_neg hm]
    ·rw [if_neg co, if_neg hm]
   have e1 : _ = some false := e1
   rw [e1, Ka, if_neg Kh]
 ·unfold q1i
  rw [Q6 hj, Ka, if_neg Kh]
  by_cases c1 : l[j].Kind = 1
  ·obtain ⟨s, h3, _⟩ := hb.get (hl _ (List.getElem_mem hj) (.inl c1))
   rw [if_pos c1, h3, Ka, q5A, hf.clr _ (List.getElem_mem hj) (.inl c1) s h3, Ka, Ka, if_neg Kh]
  ·by_cases c2 : l[j].Kind = 2
   ·obtain ⟨s, h3, _⟩ := hb.get (hl _ (List.getElem_mem hj) (.inr (.inl c2)))
    rw [if_neg c1, if_pos c2, h3, Ka, q5A, hf.clr _ (List.getElem_mem hj) (.inr c2) s h3, Ka, Ka, if_neg Kh]
   ·rw [if_neg c1, if_neg c2, Ka, if_neg Kh]
def Apt (ro : List z7) (ne : List (List q8)) (mp : List (Int × Option Int)) (ar : List (Int × z6)) (k : Int) : Prop := ∀ e ∈ mp, ∀ x, J4 ar e.1 = some x → ∀ y ∈ W3 x, ¬ (y.Kind = 2 ∧ x.Route.To = (roK ro k).From) → ∀ a ∈ neK ne k, ¬ q6c a y
def j7m (l : List q8) (bo bo' : List q9) : Prop := bo'.length = bo.length ∧ ∀ (j : Nat) (s : q9), bo[j]? = some s → ∃ v, bo'[j]? = some ⟨s.axles, s.disturbed, s.position, v, s.failed⟩ ∧ (v = s.moving ∨ s.moving = 0 ∧ v = 5 ∧ ∃ y ∈ l, y.Position ≠ 0 ∧ y.Place = (j : Int) ∧ s.position ≠ y.Position) ∧ (s.moving = 0 → (∃ y ∈ l, y.Position ≠ 0 ∧ y.Place = (j : Int) ∧ s.position ≠ y.Position) → v = 5)
theorem j1m (F : Fix n ro ne) (h : Inv n ro ne bo gt mp ar) {k : Int} (hk : 0 ≤ k ∧ k < (ro.length : Int)) (hnew : k ∉ mp.map (·.1)) (hc : Apt ro ne mp ar k) (hf : j7n bo (neK ne k)) :
  ∃ bo' gt', q2w k false a1 n.Sections a3 a4 n.Gates ro ne bo gt mp ar = some (0, bo', gt', X7 mp k (some k), X7 (cells (fun _ => z3j (roK ro k).From) mp ar) k (z4h ro k (neK ne k) false)) ∧ Inv n ro ne bo' gt' (X7 mp k (some k)) (X7 (cells (fun _ => z3j (roK ro k).From) mp ar) k (z4h ro k (neK ne k) false)) ∧ j7m (neK ne k) bo bo' ∧
   gt'.length = gt.length ∧ ∀ (j : Nat) (g : z8), gt[j]? = some g → ∃ g', gt'[j]? = some g' ∧ z2a n (X7 mp k (some k)) (X7 (cells (fun _ => z3j (roK ro k).From) mp ar) k (z4h ro k (neK ne k) false)) j g g' := by
 have hb := h.B
 have hlen := (F.nq hk).2.2
 have hpl := z0H F hk (l := neK ne k) (fun y hy => hy)
 have hsl := (F.rok hk).way.many
 obtain ⟨bo', m1, m2, m3⟩ := j1k (fun y hy hp => hpl y hy (.inr (.inr hp))) hb
 have hI := (h.add F hk hnew (fun y hy => hy) (fun y hy _ => hy) hlen false hc).toB m2
 obtain ⟨gt', w1, w2, w3, w4⟩ := z8o F hI a1 n.Sections a3 a4 ro ne bo'
 refine ⟨bo', gt', ?_, hI.gates w2 w3, ⟨m2.1.trans hb.1.symm, m3⟩, w2, w4⟩
 unfold q2w
 rw [z0O, Ka, decide_eq_true hk, if_pos rfl, Ka]
 rcases h.look k with ⟨h1, _⟩ | ⟨h1, hm, _⟩
 ·obtain ⟨b, h2, h3, h4⟩ := z7T F h a1 n.Sections a3 a4 n.Gates ne bo gt hk (neK ne k)
  have hb0 : b = false := by
   cases b with
   | false => rfl
   | true =>
    obtain ⟨e, he, x, hx, y, hy, hyc, a, ha, hm⟩ := h4 rfl
    exact absurd hm (hc e he x hx y hy hyc a ha)
  subst hb0
  obtain ⟨t1, t2, t3⟩ := z7q (n := n) hpl hb hf gt ar mp
  rw [h1, if_pos (show (none : Option Int).isNone = true from rfl), F.idxN hk, Ka]
  unfold q3m
  rw [q1u (by omega) (by omega), Ka, Ka, if_neg Kh, Ka, h2, q0L, if_neg Kh, t1, Ka, Sum.elim_inl, t2, Ka, Sum.elim_inl, t3, Ka, Sum.elim_inl, F.idxR hk, Ka, j3D h (roK ro k), Ka, Sum.elim_inl, q0L, z3f (by omega) (by omega), Ka, Ka, z8X h hnew, Ka, z7z, m1, Ka]
  have w1 : q1A a1 n.Sections a3 a4 n.Gates ro ne bo' gt (X7 mp k (some k)) (X7 (cells (fun _ => z3j (roK ro k).From) mp ar) k ⟨roK ro k, neK ne k, List.replicate (roK ro k).Steps.length false, List.replicate (roK ro k).Steps.length false, !false, false, 0, 0, k⟩) = some (gt', X7 mp k (some k)) := w1
  rw [w1, q0L]
  rfl
 ·exact absurd (List.mem_map_of_mem (f := (·.1)) hm) hnew
end
def bx : ByteArray := ByteArray.mk #[120]
theorem j0R : Y4 bx (ByteArray.mk #[10]) = some [bx] := by
 have e : K7 bx (ByteArray.mk #[10]) 0 1 (bx, 0, [ByteArray.empty]) = some (.inr (bx, 0, [ByteArray.empty])) := by kernel_rfl
 have h : q0M bx (ByteArray.mk #[10]) 0 (-1) = (q7g (K7 bx (ByteArray.mk #[10]) 0 1) (bx, 0, [ByteArray.empty])).bind (q5U fun x414 x415 l416 => (idx l416 x415).bind fun _ => (chk (x415 + 1)).bind fun _ => (z8f (put l416 x415 x414) 0 (x415 + 1)).bind fun l542 => some l542) := by kernel_rfl
 unfold Y4
 rw [h, q9b e]
 rfl
theorem j0Q : Y4 bx (ByteArray.mk #[32]) = some [bx] := by
 have e : K7 bx (ByteArray.mk #[32]) 0 1 (bx, 0, [ByteArray.empty]) = some (.inr (bx, 0, [ByteArray.empty])) := by kernel_rfl
 have h : q0M bx (ByteArray.mk #[32]) 0 (-1) = (q7g (K7 bx (ByteArray.mk #[32]) 0 1) (bx, 0, [ByteArray.empty])).bind (q5U fun x414 x415 l416 => (idx l416 x415).bind fun _ => (chk (x415 + 1)).bind fun _ => (z8f (put l416 x415 x414) 0 (x415 + 1)).bind fun l542 => some l542) := by kernel_rfl
 unfold Y4
 rw [h, q9b e]
 rfl
theorem j3C : q4g bx = some (false, [[bx]]) := by
 have h : q4g bx = (Y4 bx (ByteArray.mk #[10])).bind fun l147 => (forS (q0x l147) l147.length 0 ([] : (List (List ByteArray)))).bind (fun l239 => some (false, l239)) := by kernel_rfl
 rw [h, j0R, Ka]
 have e : q0x [bx] 0 [] = some [[bx]] := by
  have h2 : q0x [bx] 0 [] = (Y4 bx (ByteArray.mk #[32])).bind fun l259 => some [l259] := by kernel_rfl
  rw [h2, j0Q]
  rfl
 show ((q0x [bx] 0 []).bind fun s => some s).bind _ = _
 rw [e]
 rfl
theorem z2H : q0A = some true := by
 unfold q0A q8e
 rw [if_neg (by decide), show q4g (ByteArray.mk #[120]) = some (false, [[bx]]) from j3C, q0L, if_neg (by decide)]
 rfl
theorem z4D {n : j3} (h : J5 n = some 0) : n.Links.length ≤ 90 ∧ n.Gates.length ≤ 8 := by
 unfold J5 at h
 by_cases h0 : (n.Sections.length : Int) = 0
 ·rw [if_pos h0] at h; cases h
 ·rw [if_neg h0] at h
  by_cases c1 : 12 < (n.Stations.length : Int)
  ·rw [if_pos c1, Ka, if_pos rfl] at h; cases h
  ·rw [if_neg c1] at h
   by_cases c2 : 60 < (n.Sections.length : Int)
   ·rw [if_pos c2, Ka, if_pos rfl] at h; cases h
   ·rw [if_neg c2] at h
    by_cases c3 : 90 < (n.Links.length : Int)
    ·rw [if_pos c3, Ka, if_pos rfl] at h; cases h
    ·rw [if_neg c3] at h
     by_cases c4 : 40 < (n.Signals.length : Int)
     ·rw [if_pos c4, Ka, if_pos rfl] at h; cases h
     ·rw [if_neg c4, Ka] at h
      by_cases c5 : 8 < (n.Gates.length : Int)
      ·rw [if_pos (decide_eq_true c5)] at h; cases h
      ·exact ⟨by omega, by omega⟩
section
variable {n : j3}
theorem j0T {ro : List z7} (hr : H3 n = some (0, ro)) (hm : ro.length ≤ 81) {k : Int} (hk : 0 ≤ k ∧ k < (ro.length : Int)) : q6t n [k] = some (0, ro) := by
 unfold q6t
 rw [hr, q0L, if_neg (by decide), q2y (fun j hj => by
  have hj : j = 0 := by simpa using hj
  subst hj
  unfold q5E
  rw [Q6 (l := [k]) (j := 0) (by simp), Ka, Y3 (by omega) (by omega), Ka, q0J, Ka, if_pos (decide_eq_true (by simp; omega))])]
 rfl
theorem j4L (hN : q3P n) (hc : J5 n = some 0) : q8c n = some (n.Stations, n.Sections, n.Links, n.Signals, n.Gates) := by
 have h1 := z4D hc
 have h2 := hN.n60
 have h3 := hN.g40
 have h4 := hN.s12
 unfold q8c q3r q3q q3p q3o q3n
 rw [q1u (by omega) (by omega), Ka, Ka, q1u (by omega) (by omega), Ka, Ka, q1u (by omega) (by omega), Ka, Ka, q1u (by omega) (by omega), Ka, Ka, q1u (by omega) (by omega), Ka, Ka, j1d]
theorem j4R (hN : q3P n) (hcl : ∀ g ∈ n.Gates, g.Close ≤ 9223372036854775807) (hc : J5 n = some 0) {ro : List z7} (hr : H3 n = some (0, ro)) (hR : ∀ r ∈ ro, q2s n r) (hm : ro.length ≤ 81) :
  ∃ ne bo gt, q8d n = some (n.Stations, n.Sections, n.Links, n.Signals, n.Gates, ro, ne, bo, gt, [], []) ∧ Fix n ro ne ∧ Inv n ro ne bo gt [] [] ∧ (∀ s ∈ bo, s = ⟨0, false, 1, 0, false⟩) ∧ ∀ g ∈ gt, g = ⟨0, false, false⟩ := by
 have h1 := z4D hc
 have h2 := hN.n60
 unfold q8d
 rw [hc, Ka, if_neg (by decide), hr, q0L, if_neg (by decide), j4L hN hc, j1d, z3f (by omega) (by omega), Ka, z3f (by omega) (by omega), Ka, Ka]
 simp only [j6z]
 obtain ⟨bo, b1, b2, b3, _⟩ := H6 (body := q3X) (fun k s => s.length = n.Sections.length ∧ (∀ i : Nat, i < k → ∀ x, s[i]? = some x → x = ⟨0, false, 1, 0, false⟩) ∧ ∀ i : Nat, k ≤ i → ∀ x, s[i]? = some x → x = ⟨0, false, 0, 0, false⟩) (List.replicate n.Sections.length (⟨0, false, 0, 0, false⟩ : q9)).length 0 (List.replicate n.Sections.length ⟨0, false, 0, 0, false⟩) ⟨by simp, fun i hi => by omega, fun i _ x hx => List.eq_of_mem_replicate (List.mem_of_getElem? hx)⟩ (fun j s _ hj hI => by
  obtain ⟨i1, i2, i3⟩ := hI
  have hj : j < s.length := by simpa [i1] using hj
  have e := i3 j (by omega) _ (Kf hj)
  unfold q3X
  rw [Q6 hj, Ka, e]
  refine ⟨_, rfl, by rw [Q4]; exact i1, fun i hi x hx => ?_, fun i hi x hx => ?_⟩
  ·rw [q0n, List.getElem?_set] at hx
   by_cases c : j = i
   ·rw [if_pos c, if_pos hj] at hx
    exact (Kd hx).symm
   ·rw [if_neg c] at hx
    exact i2 i (by omega) x hx
  ·rw [q0n, List.getElem?_set, if_neg (by omega)] at hx
   exact i3 i (by omega) x hx)
 rw [b1, Ka]
 obtain ⟨ne, c1, c2, c3⟩ := H6 (body := q3W n) (fun k s => s.length = k ∧ ∀ i : Nat, i < k → Y0 n (roK ro i) = some (neK s i)) ro.length 0 [] ⟨rfl, fun i hi => by omega⟩ (fun j s _ hj hI => by
  obtain ⟨i1, i2⟩ := hI
  have hj : j < ro.length := by omega
  have hjk : (0 : Int) ≤ (j : Int) ∧ (j : Int) < (ro.length : Int) := ⟨by omega, by omega⟩
  have eR : roK ro (j : Int) = ro[j] := by
   unfold roK
   rw [show ((j : Int)).toNat = j by omega, Kf hj]
   rfl
  obtain ⟨q, hq⟩ := z5A hN (hR _ (List.getElem_mem hj))
  unfold q3W q4K
  rw [j0T hr hm hjk, q0L, if_neg (by decide), Q6 hj, Ka, hq, Ka, q0L, q1u (by omega) (by omega), Ka]
  refine ⟨_, rfl, by simp [i1], fun i hi => ?_⟩
  unfold neK
  rw [show ((i : Int)).toNat = i by omega]
  by_cases c : i = j
  ·subst c
   rw [eR, hq, ← i1, List.getElem?_concat_length]
   rfl
  ·rw [List.getElem?_append_left (by omega)]
   have := i2 i (by omega)
   unfold neK at this
   rw [show ((i : Int)).toNat = i by omega] at this
   exact this)
 rw [c1, Ka]
 have hb : ∀ s ∈ bo, s = (⟨0, false, 1, 0, false⟩ : q9) := fun s hs => by
  obtain ⟨i, hi, rfl⟩ := List.getElem_of_mem hs
  exact b3 i (by simp; omega) _ (Kf hi)
 refine ⟨ne, bo, _, rfl, ⟨hN, hR, hm, by omega, fun k hk => c3 k (by omega), hcl⟩, ⟨b2, fun s hs => ?_, by simp, fun g hg => ?_, .nil, fun p hp => (List.not_mem_nil hp).elim, fun p hp => (List.not_mem_nil hp).elim⟩, hb, fun g hg => List.eq_of_mem_replicate hg⟩
 ·rw [hb s hs]
  decide
 ·rw [List.eq_of_mem_replicate hg]
  decide
end
open Classical in
theorem j1l (a : q8) (m : List q8) : q4p a m = some (decide (∃ y ∈ m, q6c a y)) := by
 unfold q4p q0e q1d
 rw [q7q (fun y => q6c a y) (fun k hk => by
  unfold q0W q4a
  rw [Q6 hk, Ka]
  have : q2x (⟨a.Kind, a.Place, a.Position, a.At⟩ : q8) m[k] = some (decide (q6c a m[k])) := z6A _ _
  rw [this, Ka, Ka]
  by_cases c : q6c a m[k]
  ·rw [if_pos (decide_eq_true c), if_pos c]
  ·rw [if_neg (by simpa using c), if_neg c]), Ka]
open Classical in
theorem j3A (l m : List q8) : q6w l m = some (decide (∃ x ∈ l, ∃ y ∈ m, q6c x y)) := by
 unfold q6w q0f q1e
 rw [q7q (fun x => ∃ y ∈ m, q6c x y) (fun k hk => by
  unfold q0X
  rw [Q6 hk, Ka, j1l, Ka]
  by_cases c : ∃ y ∈ m, q6c l[k] y
  ·rw [if_pos (decide_eq_true c), if_pos c]
  ·rw [if_neg (by simpa using c), if_neg c]), Ka]
def InR (ro : List z7) (k : Int) : Prop := 0 ≤ k ∧ k < (ro.length : Int)
structure z8d (n : j3) (ro : List z7) (ne : List (List q8)) (tr : Int) (leg : List Int) (k : Int) : Prop where
 inr : InR ro k
 first : leg = [] → ((n.Signals[(roK ro k).From.toNat]?).getD ⟨0, 0⟩).Section = tr
 next : ∀ j, leg.getLast? = some j → (roK ro k).From = (roK ro j).To
 track : ∀ s ∈ (roK ro k).Steps, s.Section ≠ tr
 twice : ∀ s ∈ (roK ro k).Steps, ∀ j ∈ leg, ∀ t ∈ (roK ro j).Steps, t.Section ≠ s.Section
 clash : ∀ j ∈ leg, ∀ x ∈ neK ne j, x.Kind ≠ 2 → ∀ y ∈ neK ne k, ¬ q6c x y
 lap : ∃ l, H9 n (roK ro k) = some l ∧ ∀ s ∈ l, s.Section ≠ tr
section
variable {n : j3} {ro : List z7} {ne : List (List q8)}
theorem j3u (F : Fix n ro ne) (tr : Int) : q6u n tr ro = some (n.Stations, n.Sections, n.Links, n.Signals, n.Gates, tr, ro, ne) := by
 have hm := F.many
 have hl := F.nel
 unfold q6u
 obtain ⟨l, h1, h2⟩ := H6 (body := q3t n ro) (fun k l => l = ne.take k) ro.length 0 [] (by simp) (fun k l _ hk hi => by
  have hk : k < ro.length := by omega
  have hkn : k < ne.length := by omega
  have hn := F.nds k hk
  have eR : roK ro (k : Int) = ro[k] := by
   unfold roK
   rw [show ((k : Int)).toNat = k by omega, Kf hk]
   rfl
  have eN : neK ne (k : Int) = ne[k] := by
   unfold neK
   rw [show ((k : Int)).toNat = k by omega, Kf hkn]
   rfl
  rw [eR, eN] at hn
  have hlen : l.length = k := by rw [hi, List.length_take]; omega
  unfold q3t
  rw [Q6 hk, Ka, hn, Ka, q1u (by omega) (by omega), Ka]
  exact ⟨_, rfl, by rw [hi, List.take_succ_eq_append_getElem hkn]⟩)
 rw [h1, Ka, h2, Nat.zero_add, ← hl, List.take_length]
open Classical in
theorem z4B {leg : List Int} (hleg : ∀ j ∈ leg, InR ro j) (a b c tr : Int) (s1 : List ByteArray) (s2 : List j0) (s3 : List j9) (s4 : List j5) (s5 : List Q2) :
  q0g leg a b c s1 s2 s3 s4 s5 tr ro ne = some (decide (∃ j ∈ leg, ∃ t ∈ (roK ro j).Steps, t.Section = a)) :=
 q7q (fun j => ∃ t ∈ (roK ro j).Steps, t.Section = a) (fun k hk => by
  have hr := hleg _ (List.getElem_mem hk)
  obtain ⟨r, h1, h2⟩ := q4r hr.1 hr.2
  have eR : roK ro leg[k] = r := by
   unfold roK
   rw [h2]
   rfl
  unfold q0Y q3u
  rw [Q6 hk, Ka, h1, Ka, q1r, Ka, Ka, eR]
  by_cases e : ∃ t ∈ r.Steps, t.Section = a
  ·rw [if_pos (decide_eq_true e), if_pos e]
  ·rw [if_neg (fun h => e (of_decide_eq_true h)), if_neg e])
theorem j1U (F : Fix n ro ne) (tr : Int) {leg : List Int} (hleg : ∀ j ∈ leg, InR ro j) (hl : leg.length ≤ 60) (k : Int) :
  ∃ c, q3D leg k n.Stations n.Sections n.Links n.Signals n.Gates tr ro ne = some c ∧ (c = 0 → z8d n ro ne tr leg k) := by
 classical
 have hm := F.many
 have bad : ∀ c : Int, c ≠ 0 → ∃ c', some c = some c' ∧ (c' = 0 → z8d n ro ne tr leg k) := fun c hc => ⟨c, rfl, fun h => absurd h hc⟩
 unfold q3D
 rw [Y3 (by omega) (by omega), Ka, q0J, Ka]
 by_cases hk : 0 ≤ k ∧ k ≤ (ro.length : Int) - 1
 ·have hR : InR ro k := ⟨hk.1, by omega⟩
  have hr := F.rok hR
  rw [decide_eq_true hk, if_pos rfl, F.idxR hR, Ka]
  have hfrom := z0M (n := n) hr.from_
  obtain ⟨q, hq, hq2⟩ : ∃ q, ((if (leg.length : Int) = 0 then (idx n.Signals (roK ro k).From).bind fun o => some (decide (o.Section ≠ tr)) else some false).bind (fun m =>
    if m = true then some m else if 0 < (leg.length : Int) then (chk ((leg.length : Int) - 1)).bind fun _ => (idx leg ((leg.length : Int) - 1)).bind fun p => (idx ro p).bind fun r => some (decide ((roK ro k).From ≠ r.To)) else some false)) = some q ∧ (q = false → (leg = [] → ((n.Signals[(roK ro k).From.toNat]?).getD ⟨0, 0⟩).Section = tr) ∧ ∀ j, leg.getLast? = some j → (roK ro k).From = (roK ro j).To) := by
   by_cases c0 : (leg.length : Int) = 0
   ·have e0 : leg = [] := List.length_eq_zero_iff.1 (by omega)
    rw [if_pos c0, hfrom, Ka, Ka]
    split
    ·rename_i hd
     exact ⟨_, rfl, fun h => by rw [hd] at h; cases h⟩
    ·rename_i hd
     rw [if_neg (by omega)]
     refine ⟨_, rfl, fun _ => ⟨fun _ => ?_, fun j hj => by rw [e0] at hj; cases hj⟩⟩
     exact Classical.byContradiction fun h => hd (decide_eq_true h)
   ·have hlt : leg.length - 1 < leg.length := by omega
    have hj := hleg _ (List.getElem_mem hlt)
    rw [if_neg c0, Ka, if_neg (by decide), if_pos (by omega), Y3 (by omega) (by omega), Ka, show (leg.length : Int) - 1 = ((leg.length - 1 : Nat) : Int) by omega, Q6 hlt, Ka, F.idxR hj, Ka]
    refine ⟨_, rfl, fun h => ⟨fun e => by rw [e] at c0; exact absurd rfl c0, fun j hj => ?_⟩⟩
    rw [List.getLast?_eq_getElem?, Kf hlt] at hj
    rw [← Kd hj]
    exact Classical.byContradiction fun hh => of_decide_eq_false h hh
  rw [hq, Ka]
  cases q with
  | true => rw [if_pos rfl]; exact bad 5 (by decide)
  | false =>
   obtain ⟨q1, q2⟩ := hq2 rfl
   rw [if_neg Kh]
   rcases z5K (body := q1o leg n.Stations n.Sections n.Links n.Signals n.Gates ro ne tr (roK ro k)) (fun i => ∀ h : i < (roK ro k).Steps.length, (roK ro k).Steps[i].Section ≠ tr ∧ ¬ ∃ j ∈ leg, ∃ t ∈ (roK ro j).Steps, t.Section = (roK ro k).Steps[i].Section) (fun c : Int => c ≠ 0) (roK ro k).Steps.length (fun i hi => by
    unfold q1o
    rw [Q6 hi, Ka, z4B hleg]
    by_cases c1 : (roK ro k).Steps[i].Section = tr
    ·rw [if_pos c1, Ka, if_pos rfl]
     exact .inr ⟨_, rfl, by decide⟩
    ·rw [if_neg c1, Ka, Ka]
     by_cases c2 : ∃ j ∈ leg, ∃ t ∈ (roK ro j).Steps, t.Section = (roK ro k).Steps[i].Section
     ·rw [if_pos (decide_eq_true c2)]
      exact .inr ⟨_, rfl, by decide⟩
     ·rw [if_neg (fun h => c2 (of_decide_eq_true h))]
      exact .inl ⟨rfl, fun _ => ⟨c1, c2⟩⟩) with ⟨f1, f2⟩ | ⟨v, f1, f2⟩
   ·rw [f1, Ka, Sum.elim_inl]
    rcases z5K (body := q1n leg ne k) (fun j => ∀ h : j < leg.length, ∀ x ∈ neK ne leg[j], x.Kind ≠ 2 → ∀ y ∈ neK ne k, ¬ q6c x y) (fun c : Int => c ≠ 0) leg.length (fun j hj => by
     have hjr := hleg _ (List.getElem_mem hj)
     unfold q1n
     rw [Q6 hj, Ka, F.idxN hjr, Ka]
     rcases z5K (body := q1m ne k (neK ne leg[j])) (fun i => ∀ h : i < (neK ne leg[j]).length, (neK ne leg[j])[i].Kind ≠ 2 → ∀ y ∈ neK ne k, ¬ q6c (neK ne leg[j])[i] y) (fun v : Unit ⊕ Int => ∃ c : Int, v = .inr c ∧ c ≠ 0) (neK ne leg[j]).length (fun i hi => by
      unfold q1m
      rw [Q6 hi, Ka]
      by_cases c1 : (neK ne leg[j])[i].Kind ≠ 2
      ·rw [if_pos c1, F.idxN hR, Ka, j3A, Ka, Ka]
       by_cases c2 : ∃ x ∈ [(neK ne leg[j])[i]], ∃ y ∈ neK ne k, q6c x y
       ·rw [if_pos (decide_eq_true c2)]
        exact .inr ⟨_, rfl, 8, rfl, by decide⟩
       ·rw [if_neg (fun h => c2 (of_decide_eq_true h))]
        exact .inl ⟨rfl, fun _ _ y hy hm => c2 ⟨_, List.mem_singleton.2 rfl, y, hy, hm⟩⟩
      ·rw [if_neg c1, Ka, if_neg Kh]
       exact .inl ⟨rfl, fun _ h => absurd h c1⟩) with ⟨g1, g2⟩ | ⟨v, g1, c, rfl, g2⟩
     ·rw [g1]
      refine .inl ⟨rfl, fun _ x hx => ?_⟩
      obtain ⟨i, hi, rfl⟩ := List.getElem_of_mem hx
      exact g2 i hi hi
     ·rw [g1]
      exact .inr ⟨c, rfl, g2⟩) with ⟨h1, h2⟩ | ⟨v, h1, h2⟩
    ·rw [h1, Ka, Sum.elim_inl]
     obtain ⟨lap, o1, _⟩ := q4G F.net hr
     have o1' : H9 (⟨n.Stations, n.Sections, n.Links, n.Signals, n.Gates⟩ : j3) (roK ro k) = some lap := o1
     rw [o1', Ka, q1r, Ka, Ka]
     by_cases c3 : ∃ s ∈ lap, s.Section = tr
     ·rw [if_pos (decide_eq_true c3)]
      exact bad 8 (by decide)
     ·rw [if_neg (fun h => c3 (of_decide_eq_true h))]
      refine ⟨0, rfl, fun _ => ⟨hR, q1, q2, fun s hs => ?_, fun s hs j hj t ht e => ?_, fun j hj x hx => ?_, lap, o1, fun s hs e => c3 ⟨s, hs, e⟩⟩⟩
      ·obtain ⟨i, hi, rfl⟩ := List.getElem_of_mem hs
       exact (f2 i hi hi).1
      ·obtain ⟨i, hi, rfl⟩ := List.getElem_of_mem hs
       exact (f2 i hi hi).2 ⟨j, hj, t, ht, e⟩
      ·obtain ⟨i, hi, rfl⟩ := List.getElem_of_mem hj
       exact h2 i hi hi x hx
    ·rw [h1]
     exact bad v h2
   ·rw [f1]
    exact bad v f2
 ·rw [decide_eq_false hk, if_neg (by decide)]
  exact bad 3 (by decide)
def j6s (n : j3) (x : Int) : Prop := (0 ≤ x ∧ x < (n.Sections.length : Int)) ∧ (sec n x).Kind = 1
theorem q7X (hN : q3P n) (x : Int) : ∃ b, q1X n x = some b ∧ (b = true → j6s n x) := by
 have h60 := hN.n60
 unfold q1X
 rw [Y3 (by omega) (by omega), Ka, q0J, Ka]
 by_cases h : 0 ≤ x ∧ x ≤ (n.Sections.length : Int) - 1
 ·have hx : 0 ≤ x ∧ x < (n.Sections.length : Int) := ⟨h.1, by omega⟩
  rw [decide_eq_true h, if_pos rfl, q2r hx, Ka, Ka]
  refine ⟨_, rfl, fun hb => ⟨hx, ?_⟩⟩
  have hb := of_decide_eq_true hb
  have hmem : sec n x ∈ n.Sections := by
   have := q2r hx
   unfold idx at this
   rw [if_pos hx.1] at this
   exact List.mem_of_getElem? this
  rcases hN.stat _ hmem with h1 | h1
  ·exact absurd h1 hb
  ·exact h1.1
 ·rw [decide_eq_false h, if_neg (by decide), Ka]
  exact ⟨_, rfl, fun h => by cases h⟩
structure j6i (n : j3) (ro : List z7) (ne : List (List q8)) (tr : Int) (leg : List Int) : Prop where
 plat : j6s n tr
 some_ : leg ≠ []
 four : leg.length ≤ 4
 add : ∀ i (h : i < leg.length), z8d n ro ne tr (leg.take i) leg[i]
 last : ∀ j, leg.getLast? = some j → ∀ s, (roK ro j).Steps.getLast? = some s → j6s n s.Section
theorem j1o (hr : H3 n = some (0, ro)) (F : Fix n ro ne) (tr : Int) (leg : List Int) : ∃ c, q2N n tr leg = some c ∧ (c = 0 → j6i n ro ne tr leg) := by
 have bad : ∀ c : Int, c ≠ 0 → ∃ c', some c = some c' ∧ (c' = 0 → j6i n ro ne tr leg) := fun c hc => ⟨c, rfl, fun h => absurd h hc⟩
 unfold q2N
 obtain ⟨b, p1, p2⟩ := q7X F.net tr
 rw [hr, q0L, if_neg (by decide), p1, Ka]
 cases b with
 | false => rw [if_neg Kh]; exact bad 3 (by decide)
 | true =>
  rw [if_pos rfl]
  by_cases c4 : 4 < (leg.length : Int)
  ·rw [if_pos c4]; exact bad 4 (by decide)
  ·rw [if_neg c4]
   by_cases c0 : (leg.length : Int) = 0
   ·rw [if_pos c0]; exact bad 1 (by decide)
   ·rw [if_neg c0, j3u F tr, Ka]
    simp only [j6B]
    rcases q1q (body := q1p leg n.Stations n.Sections n.Links n.Signals n.Gates ro ne tr) (fun i _ => ∀ j (h : j < leg.length), j < i → z8d n ro ne tr (leg.take j) leg[j]) (fun c : Int => c ≠ 0) leg.length 0 () (fun j hj h => by omega) (fun i u _ hi hI => by
     have hi : i < leg.length := by omega
     obtain ⟨c, a1, a2⟩ := j1U F tr (leg := leg.take i) (fun j hj => by
      obtain ⟨q, hq, rfl⟩ := List.getElem_of_mem hj
      have hqi : q < i := by simp at hq; omega
      rw [List.getElem_take]
      exact (hI q (by omega) hqi).inr) (by simp; omega) leg[i]
     have hc := z9I (l := leg) (a := 0) (b := i) (by omega) (by omega)
     rw [show ((0 : Nat) : Int) = 0 from rfl, List.drop_zero] at hc
     unfold q1p
     rw [Q6 hi, Ka, hc, Ka, a1, Ka]
     by_cases e : c = 0
     ·rw [if_neg (by simpa using e)]
      refine .inl ⟨_, rfl, fun j hj hji => ?_⟩
      by_cases ej : j = i
      ·subst ej; exact a2 e
      ·exact hI j hj (by omega)
     ·rw [if_pos e]
      exact .inr ⟨_, rfl, e⟩) with ⟨u, f1, f2⟩ | ⟨v, f1, f2⟩
    ·have hlt : leg.length - 1 < leg.length := by omega
     have hinr := (f2 (leg.length - 1) hlt (by omega)).inr
     have hR := F.rok hinr
     obtain ⟨w, s, hw, _⟩ := hR.last
     have hm := hR.way.many
     have hs : (roK ro leg[leg.length - 1]).Steps.length = w.length + 1 := by rw [hw]; simp
     rw [f1, Ka, Sum.elim_inl]
     unfold q4b
     rw [Y3 (by omega) (by omega), Ka, show (leg.length : Int) - 1 = ((leg.length - 1 : Nat) : Int) by omega, Q6 hlt, Ka, F.idxR hinr, Ka, Y3 (by omega) (by omega), Ka, show ((roK ro leg[leg.length - 1]).Steps.length : Int) - 1 = ((w.length : Nat) : Int) by omega, Q6 (show w.length < (roK ro leg[leg.length - 1]).Steps.length by omega), Ka, Ka]
     obtain ⟨b, g1, g2⟩ := q7X F.net ((roK ro leg[leg.length - 1]).Steps[w.length]'(by omega)).Section
     rw [g1, Ka, Ka]
     cases b with
     | false => rw [if_pos (show (!false) = true from rfl)]; exact bad 5 (by decide)
     | true =>
      rw [if_neg (by decide)]
      refine ⟨0, rfl, fun _ => ⟨p2 rfl, fun e => by rw [e] at c0; exact c0 rfl, by omega, fun i hi => f2 i hi (by omega), fun j hj t ht => ?_⟩⟩
      rw [List.getLast?_eq_getElem?, Kf hlt] at hj
      rw [← Kd hj, List.getLast?_eq_getElem?, show (roK ro leg[leg.length - 1]).Steps.length - 1 = w.length by omega, Kf (by omega)] at ht
      rw [← Kd ht]
      exact g2 rfl
    ·rw [f1]
     exact bad v f2
end
def z6c (n : j3) (r : z7) (l : List v6) : Prop := (∀ s ∈ l, q3H n s) ∧ (∀ s ∈ l, ∀ t ∈ r.Steps, t.Section ≠ s.Section) ∧ l.Pairwise fun a b => a.Section ≠ b.Section
theorem z9G {σ τ : Type} {step : σ → Option (σ ⊕ τ)} {I : σ → Prop} {P : τ → Prop} (h : ∀ s, I s → Ens (step s) fun o => match o with | .inl s' => I s' | .inr t => P t) {s : σ} (hs : I s) : Ens (q7g step s) P := by
 unfold q7g
 refine z3v fun N => ?_
 induction N generalizing s with
 | zero => exact q8p
 | succ N ih =>
  intro t ht
  simp only [Fp.runN] at ht
  cases hq : step s with
  | none => rw [hq] at ht; cases ht
  | some o =>
   rw [hq] at ht
   have := h s hs o hq
   cases o with
   | inl s' => exact ih this t ht
   | inr u =>
    have ht : some u = some t := ht
    rw [← Kd ht]
    exact this
theorem z4d {n : j3} (hN : q3P n) {r : z7} (h : q2s n r) {l : List v6} (hl : H9 n r = some l) : z6c n r l := by
 have key : Ens (H9 n r) (z6c n r) := by
  unfold H9
  refine Z9 (fun _ => w8 ⟨(fun s hs => (List.not_mem_nil hs).elim), (fun s hs => (List.not_mem_nil hs).elim), .nil⟩) fun _ => k8 fun ⟨x, y⟩ _ => ?_
  show Ens (Option.bind _ _) _
  refine Z7 (z6c n r) ?_ fun l hl => w8 hl
  refine z9G (I := fun S => z6c n r S.2.2.2) (fun S hS => ?_) ⟨(fun s hs => (List.not_mem_nil hs).elim), (fun s hs => (List.not_mem_nil hs).elim), .nil⟩
  obtain ⟨d, x, y, l⟩ := S
  have hS : z6c n r l := hS
  unfold q0l
  show Ens (ite _ _ _) _
  refine Z9 (fun _ => ?_) fun _ => w8 hS
  refine k8 fun ⟨a, i, o, m⟩ ha => ?_
  show Ens (Option.bind _ _) _
  refine k8 fun q hq => Z9 (fun _ => w8 hS) fun hqn => ?_
  have hm : m = true := by
   cases m with
   | true => rfl
   | false =>
    rw [if_neg Kh] at hq
    exact absurd (Kd hq).symm hqn
  subst hm
  obtain ⟨ws, g1, _, g2⟩ := z0k hN (⟨x, y⟩ : v7)
  rw [g1, Ka] at ha
  have hs : q3H n ⟨a, i, o⟩ := by
   cases ws with
   | nil =>
    have ha : some (0, 0, 0, false) = some (a, i, o, true) := ha
    injection ha with ha
    injection ha with _ ha
    injection ha with _ ha
    injection ha with _ ha
    cases ha
   | cons s ws =>
    have ha : some (s.Section, s.In, s.Out, true) = some (a, i, o, true) := ha
    injection ha with ha
    injection ha with h1 ha
    injection ha with h2 ha
    injection ha with h3 _
    have := (g2 s List.mem_cons_self).2
    rw [← h1, ← h2, ← h3]
    exact this
  have hst : ¬ (∃ t ∈ r.Steps, t.Section = a) ∧ ¬ ∃ t ∈ l, t.Section = a := by
   rw [if_pos rfl, q1r, Ka, q1r] at hq
   by_cases c1 : ∃ t ∈ r.Steps, t.Section = a
   ·rw [if_pos (decide_eq_true c1)] at hq
    exact absurd (Kd hq).symm hqn
   ·rw [if_neg (fun h => c1 (of_decide_eq_true h)), Ka] at hq
    by_cases c2 : ∃ t ∈ l, t.Section = a
    ·rw [if_pos (decide_eq_true c2)] at hq
     exact absurd (Kd hq).symm hqn
    ·exact ⟨c1, c2⟩
  refine k8 fun _ _ => k8 fun _ _ => k8 fun _ _ => w8 ?_
  show z6c n r (l ++ [⟨a, i, o⟩])
  refine ⟨fun s hh => ?_, fun s hh t ht e => ?_, ?_⟩
  ·rcases List.mem_append.1 hh with hh | hh
   ·exact hS.1 s hh
   ·rw [List.mem_singleton.1 hh]; exact hs
  ·rcases List.mem_append.1 hh with hh | hh
   ·exact hS.2.1 s hh t ht e
   ·rw [List.mem_singleton.1 hh] at e
    exact hst.1 ⟨t, ht, e⟩
  ·rw [List.pairwise_append]
   refine ⟨hS.2.2, by simp, fun s hh t ht e => ?_⟩
   rw [List.mem_singleton.1 ht] at e
   exact hst.2 ⟨s, hh, e⟩
 exact key l hl
noncomputable def j0Z (n : j3) (s : v6) : Int := (K3 n s).getD 0
theorem z3b {n : j3} {s : v6} (h : q3H n s) : K3 n s = some (j0Z n s) ∧ 0 ≤ j0Z n s ∧ j0Z n s ≤ 2 := by
 have i1 := q2r (n := n) h.1.1
 simp only at i1
 have h1 := h.1.2
 have h2 := h.2.1.2
 simp only at h1 h2
 unfold j0Z
 have e : ∃ p, K3 n s = some p ∧ 0 ≤ p ∧ p ≤ 2 := by
  unfold K3
  rw [i1, Ka]
  by_cases c : (sec n s.Section).Kind = 2
  ·rw [c] at h1 h2
   have h3 : q5M 2 = 3 := by decide
   rw [h3] at h1 h2
   rw [if_pos c]
   exact ⟨_, rfl, by omega, by omega⟩
  ·rw [if_neg c]
   exact ⟨_, rfl, by decide, by decide⟩
 obtain ⟨p, e1, e2⟩ := e
 rw [e1]
 exact ⟨rfl, e2⟩
def j1W (n : j3) (r : z7) (i : Int) : Prop := ∃ j : Nat, i = (j : Int) ∧ ∃ h : j < r.Steps.length, (sec n r.Steps[j].Section).Kind ≠ 1
def j4l (n : j3) (r : z7) (lap : List v6) (x : q8) : Prop :=
 (∃ j : Nat, ∃ h : j < r.Steps.length, x = ⟨1, r.Steps[j].Section, j0Z n r.Steps[j], (j : Int)⟩) ∨ (∃ s ∈ lap, x = ⟨2, s.Section, j0Z n s, -1⟩) ∨
 (x.Kind = 3 ∧ (1 ≤ x.Position ∧ x.Position ≤ 2) ∧ (¬ ∃ s ∈ r.Steps, s.Section = x.Place) ∧ (¬ ∃ s ∈ lap, s.Section = x.Place) ∧ j1W n r x.At) ∨ (x.Kind = 4 ∧ x.Position = 0 ∧ j1W n r x.At) ∨ x = ⟨5, r.From, 0, -1⟩
structure NQ (n : j3) (r : z7) (lap : List v6) (l : List q8) : Prop where
 shape : ∀ x ∈ l, j4l n r lap x
 fl : ∀ x ∈ l, ∀ y ∈ l, x.Kind = 3 → y.Kind = 3 → x.Place = y.Place → x.Position = y.Position
 nd : l.Nodup
def NS (n : j3) (r : z7) (lap : List v6) (S : List q8 × List (q8 × Bool)) : Prop := NQ n r lap S.1 ∧ ∀ x, q0D S.2 x false = true ↔ x ∈ S.1
section
variable {n : j3} {r : z7} {lap : List v6}
variable {a : List ByteArray} {b : List j0} {c : List j9} {d : List j5} {e : List Q2} {f t : Int} {st : List v6} {lp : List v6}
theorem j1j {x : q8} {l : List q8} {mm : List (q8 × Bool)} (h : NS n r lap (l, mm)) (hx : j4l n r lap x) (hf : x.Kind = 3 → ∀ y ∈ l, y.Kind = 3 → x.Place = y.Place → x.Position = y.Position) : Ens (Z6 x a b c d e f t st lp l mm) (NS n r lap) := by
 obtain ⟨h1, h2⟩ := h
 have h2 : ∀ x, q0D mm x false = true ↔ x ∈ l := h2
 unfold Z6
 rw [Ka]
 refine Z9 (fun hq => w8 ⟨h1, h2⟩) fun hq => k8 fun _ _ => w8 ⟨⟨fun y hy => ?_, fun y hy z hz hy3 hz3 hp => ?_, ?_⟩, fun y => ?_⟩
 ·rcases List.mem_append.1 hy with hy | hy
  ·exact h1.shape y hy
  ·rw [List.mem_singleton.1 hy]; exact hx
 ·rcases List.mem_append.1 hy with hy | hy
  ·rcases List.mem_append.1 hz with hz | hz
   ·exact h1.fl y hy z hz hy3 hz3 hp
   ·have e := List.mem_singleton.1 hz
    rw [e] at hz3 hp ⊢
    exact (hf hz3 y hy hy3 hp.symm).symm
  ·have e := List.mem_singleton.1 hy
   rw [e] at hy3 hp ⊢
   rcases List.mem_append.1 hz with hz | hz
   ·exact hf hy3 z hz hz3 hp
   ·rw [List.mem_singleton.1 hz]
 ·show (l ++ [x]).Nodup
  rw [List.nodup_append]
  refine ⟨h1.nd, by simp, fun u hu v hv huv => hq ((h2 x).2 ?_)⟩
  have hv : v = x := by simpa using hv
  rw [← hv, ← huv]
  exact hu
 ·show q0D (X7 mm x true) y false = true ↔ y ∈ l ++ [x]
  by_cases cy : y = x
  ·subst cy
   unfold q0D
   rw [J0]
   simp
  ·unfold q0D
   rw [Z5 _ _ cy]
   have := h2 y
   unfold q0D at this
   rw [this]
   simp [cy]
theorem j2n {x : q8} {l : List q8} {mm : List (q8 × Bool)} (h : NS n r lap (l, mm)) (hx : j4l n r lap x) (hf : x.Kind = 3 → ∀ y ∈ l, y.Kind = 3 → x.Place = y.Place → x.Position = y.Position) : Ens ((Z6 x a b c d e f t st lp l mm).bind (q0q fun l' m' => some (l', m'))) (NS n r lap) :=
 Z7 _ (j1j h hx hf) fun _ ha => w8 ha
open Classical in
theorem j1w (p q : Int) (l : List q8) (mm : List (q8 × Bool)) : X0 p q a b c d e f t st lp l mm = some (decide (∃ y ∈ l, y.Kind = 3 ∧ y.Place = p ∧ y.Position = q)) := by
 unfold X0 Y6 q0a
 rw [q7q (fun y => y.Kind = 3 ∧ y.Place = p ∧ y.Position = q) (fun k hk => by
  unfold X8 q0m
  rw [Q6 hk, Ka]
  have e1 : (if l[k].Kind = 3 then (if l[k].Place = p then some (decide (l[k].Position = q)) else some false) else some false) = some (decide (l[k].Kind = 3 ∧ l[k].Place = p ∧ l[k].Position = q)) := by
   by_cases c1 : l[k].Kind = 3
   ·by_cases c2 : l[k].Place = p
    ·rw [if_pos c1, if_pos c2]
     congr 1
     exact decide_eq_decide.2 ⟨fun h => ⟨c1, c2, h⟩, fun h => h.2.2⟩
    ·rw [if_pos c1, if_neg c2, decide_eq_false (fun h => c2 h.2.1)]
   ·rw [if_neg c1, decide_eq_false (fun h => c1 h.1)]
  rw [e1, Ka, Ka]
  by_cases cc : l[k].Kind = 3 ∧ l[k].Place = p ∧ l[k].Position = q
  ·rw [if_pos (decide_eq_true cc), if_pos cc]
  ·rw [if_neg (fun h => cc (of_decide_eq_true h)), if_neg cc]), Ka]
theorem j2q (hN : q3P n) : ∀ (N : Nat) (g : v7) (many i : Int) (l : List q8) (mm : List (q8 × Bool)), j1W n r i → NS n r lap (l, mm) → Ens (Z4 N g many i n.Stations n.Sections n.Links n.Signals n.Gates f t r.Steps lap l mm) (NS n r lap)
 | 0, g, many, i, l, mm, hi, h => q8p
 | N + 1, g, many, i, l, mm, hi, h => by
  have keep : Ens (some (l, mm)) (NS n r lap) := w8 h
  unfold Z4
  have hj : Y1 (⟨n.Stations, n.Sections, n.Links, n.Signals, n.Gates⟩ : j3) g = some (q7w (q1Y n.Links g)) := q5j n g
  rw [hj]
  refine k8 fun ⟨q1, q2, q3⟩ hq => ?_
  have hz : q1 = true → Has n ⟨q2, q3⟩ := fun h1 => by
   cases hg : q1Y n.Links g with
   | none =>
    rw [hg] at hq
    have hq : some (false, _, _) = some (q1, q2, q3) := hq
    injection hq with hq
    injection hq with hq _
    rw [h1] at hq
    cases hq
   | some z =>
    rw [hg] at hq
    have hq : some (true, z.section_, z.end_) = some (q1, q2, q3) := hq
    injection hq with hq
    injection hq with _ hq
    injection hq with e1 e2
    rw [← e1, ← e2]
    exact z2s hN hg
  show Ens (Option.bind _ _) _
  refine k8 fun q hq2 => Z9 (fun _ => keep) fun hqn => ?_
  have h1 : q1 = true := by
   cases q1 with
   | true => rfl
   | false =>
    have hq2 : (if false = true then _ else some true) = some q := hq2
    rw [if_neg Kh] at hq2
    exact absurd (Kd hq2).symm hqn
  have hz := hz h1
  have hfree : (¬ ∃ s ∈ r.Steps, s.Section = q2) ∧ ¬ ∃ s ∈ lap, s.Section = q2 := by
   rw [if_pos h1] at hq2
   by_cases c8 : many = 8
   ·rw [if_pos c8] at hq2
    exact absurd (Kd hq2).symm hqn
   ·rw [if_neg c8, q1r, Ka, q1r] at hq2
    by_cases c1 : ∃ s ∈ r.Steps, s.Section = q2
    ·rw [if_pos (decide_eq_true c1)] at hq2
     exact absurd (Kd hq2).symm hqn
    ·rw [if_neg (fun h => c1 (of_decide_eq_true h)), Ka] at hq2
     refine ⟨c1, fun c2 => ?_⟩
     rw [decide_eq_true c2] at hq2
     exact absurd (Kd hq2).symm hqn
  refine k8 fun s hs => Z7 (fun o : Unit ⊕ _ => ∀ S, o = .inr S → NS n r lap S) ?_ ?_
  ·have hs : s = sec n q2 := by
    have := q2r (n := n) hz.1
    simp only at this
    rw [this] at hs
    exact (Kd hs).symm
   refine k8 fun q hq => Z9 (fun hq1 => ?_) fun _ => Z9 (fun _ => k8 fun v _ => Z9 (fun _ => ?_) fun _ => ?_) fun _ => ?_
   ·refine Z7 (NS n r lap) ?_ fun ⟨u, v⟩ hS => w8 fun S hs => by injection hs with hs; rw [← hs]; exact hS
    have hk : s.Kind = 2 ∧ 0 < q3 := by
     by_cases c : s.Kind = 2
     ·rw [if_pos c] at hq
      have := Kd hq
      rw [hq1] at this
      exact ⟨c, of_decide_eq_true this⟩
     ·rw [if_neg c] at hq
      have := Kd hq
      rw [hq1] at this
      cases this
    have h2 := hz.2
    simp only at h2
    rw [← hs, hk.1] at h2
    have h3 : q5M 2 = 3 := by decide
    rw [h3] at h2
    rw [j1w]
    refine k8 fun q hq => Z9 (fun _ => keep) fun hqf => k8 fun _ _ => j2n h (.inr (.inr (.inl ⟨rfl, ⟨by simp only; omega, by simp only; omega⟩, hfree.1, hfree.2, hi⟩))) (fun _ y hy hy3 hp => ?_)
    have hp : q2 = y.Place := hp
    have hno : ¬ ∃ y ∈ l, y.Kind = 3 ∧ y.Place = q2 ∧ y.Position = q3 := fun hh => hqf (by
     have := Kd hq
     rw [← this]
     exact decide_eq_true hh)
    have hne : y.Position ≠ q3 := fun hh => hno ⟨y, hy, hy3, hp.symm, hh⟩
    rcases h.1.shape y hy with ⟨j, hj, rfl⟩ | ⟨s, _, rfl⟩ | ⟨_, hb, _⟩ | ⟨h4, _⟩ | rfl
    ·exact absurd hy3 (by simp)
    ·exact absurd hy3 (by simp)
    ·show 3 - q3 = y.Position
     omega
    ·rw [hy3] at h4
     exact absurd h4 (by decide)
    ·exact absurd hy3 (by simp)
   ·refine Z7 (NS n r lap) ?_ fun ⟨u, v⟩ hS => w8 fun S hs => by injection hs with hs; rw [← hs]; exact hS
    exact Z9 (fun _ => j2n h (.inr (.inr (.inr (.inl ⟨rfl, rfl, hi⟩)))) (fun hh => absurd hh (by simp))) fun _ => keep
   ·exact w8 fun S hs => by cases hs
   ·exact w8 fun S hs => by cases hs
  ·rintro (u | S) hS
   ·rw [Sum.elim_inl]
    refine k8 fun o _ => Z7 (NS n r lap) ?_ fun ⟨u, v⟩ hS => w8 hS
    refine z0i (fun k ⟨l', m'⟩ hk => ?_) _ _ _ h
    unfold W0
    show Ens (Option.bind _ _) _
    exact k8 fun _ _ => k8 fun _ _ => Z7 (NS n r lap) (j2q hN N _ _ _ _ _ hi hk) fun ⟨u, v⟩ hS => w8 hS
   ·rw [Sum.elim_inr]
    exact w8 (hS S rfl)
theorem j7A {i : Int} (h : i = 0 ∨ i = 1) : z5j .i64 i 1 = 1 - i := by
 rcases h with rfl | rfl <;> decide
theorem j6T (hN : q3P n) (hR : q2s n r) {i : Nat} (hi : i < r.Steps.length) (l : List q8) (mm : List (q8 × Bool)) (h : NS n r lap (l, mm)) : Ens (H4 (i : Int) n.Stations n.Sections n.Links n.Signals n.Gates f t r.Steps lap l mm) (NS n r lap) := by
 have hs := hR.way.path.step _ (List.getElem_mem hi)
 have i1 := q2r (n := n) hs.1.1
 simp only at i1
 unfold H4
 rw [Q6 hi, Ka, z7z, i1, Ka, z3w, Ka]
 refine k8 fun _ _ => Z7 (NS n r lap) ?_ fun ⟨u, v⟩ hS => w8 hS
 have hloop : ∀ (m k : Nat) (S : List q8 × List (q8 × Bool)), k + m ≤ (q5M (sec n r.Steps[i].Section).Kind).toNat → NS n r lap S → Ens (forS (V1 n.Stations n.Sections n.Links n.Signals n.Gates r.Steps lap (i : Int) f t r.Steps[i].Section r.Steps[i].In r.Steps[i].Out) m k S) (NS n r lap) := by
  intro m
  induction m with
  | zero => intro k S _ hS; exact w8 hS
  | succ m ih =>
   intro k S hk hS
   show Ens ((V1 _ _ _ _ _ _ _ _ _ _ _ _ _ k S).bind _) _
   refine Z7 (NS n r lap) ?_ fun S' hS' => ih (k + 1) S' (by omega) hS'
   obtain ⟨l', m'⟩ := S
   unfold V1
   show Ens (Option.bind _ _) _
   refine k8 fun q hq => Z9 (fun hq1 => ?_) fun _ => w8 hS
   have hne : (k : Int) ≠ r.Steps[i].In ∧ (k : Int) ≠ r.Steps[i].Out := by
    by_cases c1 : (k : Int) ≠ r.Steps[i].In
    ·rw [if_pos c1] at hq
     refine ⟨c1, ?_⟩
     have := Kd hq
     rw [hq1] at this
     exact of_decide_eq_true this
    ·rw [if_neg c1] at hq
     have := Kd hq
     rw [hq1] at this
     cases this
   have hk1 : (sec n r.Steps[i].Section).Kind ≠ 1 := fun e1 => by
    have hin := hs.1.2
    have ho := hs.2.2
    simp only at hin
    rw [e1] at hin ho hk
    have h2 : q5M 1 = 2 := by decide
    rw [h2] at hin hk
    have hk : k + (m + 1) ≤ 2 := hk
    have hout : r.Steps[i].Out = 1 - r.Steps[i].In := by
     unfold q7Y at ho
     rw [if_neg (fun h => absurd h.1 (by decide)), if_neg (by decide), List.mem_singleton] at ho
     rw [ho, j7A (by omega)]
    omega
   refine Z7 (NS n r lap) (z3v fun N => j2q hN N _ _ _ _ _ ⟨i, rfl, hi, hk1⟩ hS) fun ⟨u, v⟩ hS => w8 hS
 exact hloop _ 0 (l, mm) (Nat.le_of_eq (Nat.zero_add _)) h
theorem q8Y (hN : q3P n) (hR : q2s n r) {l : List q8} (h : Y0 n r = some l) : ∃ lap, H9 n r = some lap ∧ z6c n r lap ∧ NQ n r lap l := by
 obtain ⟨lap, ho, _, _⟩ := q4G hN hR
 have hlap := z4d hN hR ho
 have key : Ens (Y0 n r) (NQ n r lap) := by
  unfold Y0
  rw [ho, Ka, q0L]
  have h0 : NS n r lap ([], []) := ⟨⟨(fun x hx => (List.not_mem_nil hx).elim), (fun x hx => (List.not_mem_nil hx).elim), .nil⟩, fun x => by simp [q0D, J4]⟩
  refine Z7 (NS n r lap) ?_ fun ⟨u, v⟩ hS => ?_
  ·refine q4t (I := fun _ => NS n r lap) _ _ _ (fun k ⟨l', m'⟩ _ hk hS => ?_) h0
   have hk : k < r.Steps.length := by omega
   have hs := hR.way.path.step _ (List.getElem_mem hk)
   unfold F5
   show Ens (Option.bind _ _) _
   rw [Q6 hk, Ka, (z3b hs).1, Ka]
   exact Z7 _ (j1j hS (.inl ⟨k, hk, rfl⟩) (fun hh => absurd hh (by simp))) fun ⟨u, v⟩ hu => w8 hu
  show Ens (Option.bind _ _) _
  refine Z7 (NS n r lap) ?_ fun ⟨u, v⟩ hS => ?_
  ·refine q4t (I := fun _ => NS n r lap) _ _ _ (fun k ⟨l', m'⟩ _ hk hS => ?_) hS
   have hk : k < lap.length := by omega
   have hs := hlap.1 _ (List.getElem_mem hk)
   unfold F4
   show Ens (Option.bind _ _) _
   rw [Q6 hk, Ka, (z3b hs).1, Ka]
   exact Z7 _ (j1j hS (.inr (.inl ⟨_, List.getElem_mem hk, rfl⟩)) (fun hh => absurd hh (by simp))) fun ⟨u, v⟩ hu => w8 hu
  show Ens (Option.bind _ _) _
  refine Z7 (NS n r lap) ?_ fun ⟨u, v⟩ hS => ?_
  ·refine q4t (I := fun _ => NS n r lap) _ _ _ (fun k ⟨l', m'⟩ _ hk hS => ?_) hS
   unfold F3
   show Ens (Option.bind _ _) _
   exact Z7 _ (j6T hN hR (i := k) (by omega) _ _ hS) fun ⟨u, v⟩ hu => w8 hu
  show Ens (Option.bind _ _) _
  exact Z7 _ (j1j hS (.inr (.inr (.inr (.inr rfl)))) (fun hh => absurd hh (by simp))) fun ⟨u, v⟩ hu => w8 hu.1
 exact ⟨lap, ho, hlap, key l h⟩
end
theorem z3m {τ : Type} {body : Nat → Unit → Option (Unit ⊕ τ)} : ∀ (m k : Nat), Fp.forM body m k () = some (.inl ()) → ∀ j, k ≤ j → j < k + m → body j () = some (.inl ())
 | 0, k, _, j, h1, h2 => by omega
 | m + 1, k, h, j, h1, h2 => by
  simp only [Fp.forM] at h
  cases hq : body k () with
  | none => rw [hq] at h; cases h
  | some o =>
   rw [hq] at h
   cases o with
   | inl u =>
    by_cases c : j = k
    ·rw [c]; exact hq
    ·exact z3m m (k + 1) h j (by omega) (by omega)
   | inr v => cases h
theorem z3l {τ : Type} {body : Nat → Unit → Option (Unit ⊕ τ)} {v : τ} : ∀ (m k : Nat), Fp.forM body m k () = some (.inr v) → ∃ j, body j () = some (.inr v)
 | 0, k, h => by cases h
 | m + 1, k, h => by
  simp only [Fp.forM] at h
  cases hq : body k () with
  | none => rw [hq] at h; cases h
  | some o =>
   rw [hq] at h
   cases o with
   | inl u => exact z3l m (k + 1) h
   | inr w =>
    have h : some (Sum.inr w) = some (Sum.inr v) := h
    exact ⟨k, by rw [hq, h]⟩
theorem q4w {body : Nat → Unit → Option (Unit ⊕ Int)} {m : Nat} {A : Option Int} (h : ((Fp.forM body m 0 ()).bind fun t => Sum.elim (fun _ => A) (fun q => some q) t) = some 0) (hb : ∀ j, body j () ≠ some (.inr 0)) : (∀ j, j < m → body j () = some (.inl ())) ∧ A = some 0 := by
 obtain ⟨t, h1, h2⟩ := q6e h
 cases t with
 | inl u => exact ⟨fun j hj => z3m m 0 h1 j (by omega) (by omega), h2⟩
 | inr v =>
  have h2 : some v = some 0 := h2
  obtain ⟨j, hj⟩ := z3l m 0 h1
  rw [Kd h2] at hj
  exact absurd hj (hb j)
section
variable {n : j3}
theorem q6r {o : Option (Unit ⊕ Int)} (h : Ens o fun x => x ≠ .inr 0) : o ≠ some (.inr 0) := fun e => h _ e rfl
theorem z1d (hc : J5 n = some 0) : Y2 n = some 0 ∧ F6 n = some 0 := by
 unfold J5 at hc
 by_cases h0 : (n.Sections.length : Int) = 0
 ·rw [if_pos h0] at hc; cases hc
 ·rw [if_neg h0] at hc
  obtain ⟨q, _, hc⟩ := q6e hc
  by_cases hq : q = true
  ·rw [if_pos hq] at hc; cases hc
  ·rw [if_neg hq] at hc
   obtain ⟨_, hc⟩ := q4w hc (fun j => q6r (by
    unfold q1I
    exact k8 fun _ _ => k8 fun _ _ => Z9 (fun _ => k8 fun _ _ => k8 fun _ _ => Z9 (fun _ => w8 (by simp)) fun _ => w8 (by simp)) fun _ => w8 (by simp)))
   obtain ⟨_, hc⟩ := q4w hc (fun j => q6r (by
    unfold q1H
    exact k8 fun _ _ => k8 fun c _ => Z9 (fun h => w8 (by simpa using h)) fun _ => w8 (by simp)))
   obtain ⟨h3, _⟩ := q4w hc (fun j => q6r (by
    unfold q0y
    refine Z9 (fun _ => k8 fun c _ => Z9 (fun h => w8 (by simpa using h)) fun _ => w8 (by simp)) fun _ => Z9 (fun _ => k8 fun c _ => Z9 (fun h => w8 (by simpa using h)) fun _ => w8 (by simp)) fun _ => Z9 (fun _ => k8 fun c _ => Z9 (fun h => w8 (by simpa using h)) fun _ => w8 (by simp)) fun _ => q8p))
   have g1 := h3 1 (by decide)
   have g2 := h3 2 (by decide)
   unfold q0y at g1 g2
   rw [if_neg (by decide), if_pos (by decide)] at g1
   rw [if_neg (by decide), if_neg (by decide), if_pos (by decide)] at g2
   obtain ⟨c1, e1, g1⟩ := q6e g1
   obtain ⟨c2, e2, g2⟩ := q6e g2
   by_cases k1 : c1 = 0
   ·by_cases k2 : c2 = 0
    ·rw [k1] at e1
     rw [k2] at e2
     exact ⟨e1, e2⟩
    ·rw [if_pos k2] at g2
     cases g2
   ·rw [if_pos k1] at g1
    cases g1
theorem z8D (hc : J5 n = some 0) {k : Int} (hk : 0 ≤ k ∧ k < (n.Signals.length : Int)) : (sec n ((n.Signals[k.toNat]?).getD ⟨0, 0⟩).Section).Kind = 1 := by
 have hS := (z1d hc).1
 unfold Y2 at hS
 obtain ⟨h1, _⟩ := q4w hS (fun j => q6r (by
  unfold V2
  refine k8 fun _ _ => k8 fun _ _ => Z9 (fun _ => k8 fun ⟨x, y, z⟩ _ => ?_) fun _ => w8 (by simp)
  show Ens (Option.bind _ _) _
  exact k8 fun _ _ => Z9 (fun _ => w8 (by simp)) fun _ => Z9 (fun _ => k8 fun _ _ => k8 fun _ _ => k8 fun _ _ => Z9 (fun _ => w8 (by simp)) fun _ => w8 (by simp)) fun _ => w8 (by simp)))
 have hkl : k.toNat < n.Signals.length := by omega
 have h2 := h1 k.toNat hkl
 have key : Ens (V2 n k.toNat ()) (fun o => o = .inl () → (sec n n.Signals[k.toNat].Section).Kind = 1) := by
  unfold V2
  rw [Q6 hkl, Ka]
  refine k8 fun b _ => Z9 (fun _ => k8 fun ⟨x, y, z⟩ _ => ?_) fun _ => w8 (fun h => by cases h)
  show Ens (Option.bind _ _) _
  refine k8 fun q hq => Z9 (fun _ => w8 (fun h => by cases h)) fun hqn => ?_
  have hkind : (sec n n.Signals[k.toNat].Section).Kind = 1 := by
   cases z with
   | false =>
    rw [if_neg Kh] at hq
    exact absurd (Kd hq).symm hqn
   | true =>
    rw [if_pos rfl] at hq
    obtain ⟨s, hs, hq⟩ := q6e hq
    have hs2 : s = sec n n.Signals[k.toNat].Section := by
     unfold idx at hs
     split at hs
     ·unfold sec
      rw [hs]
      rfl
     ·cases hs
    rw [hs2] at hq
    refine Classical.byContradiction fun hne => hqn ?_
    rw [← Kd hq]
    exact decide_eq_true hne
  exact Z9 (fun _ => k8 fun _ _ => k8 fun _ _ => k8 fun _ _ => Z9 (fun _ => w8 fun _ => hkind) fun _ => w8 fun _ => hkind) fun _ => w8 fun _ => hkind
 rw [Kf hkl]
 exact key _ h2 rfl
theorem q5k (hc : J5 n = some 0) {j : Nat} (hj : j < n.Gates.length) : 1 ≤ n.Gates[j].Close ∧ n.Gates[j].Close ≤ 12 := by
 have hG := (z1d hc).2
 unfold F6 at hG
 obtain ⟨h1, _⟩ := q4w hG (fun j => q6r (by
  unfold W7
  exact k8 fun _ _ => k8 fun _ _ => k8 fun _ _ => Z9 (fun _ => k8 fun _ _ => Z9 (fun _ => w8 (by simp)) fun _ => k8 fun _ _ => Z9 (fun _ => k8 fun _ _ => Z9 (fun _ => w8 (by simp)) fun _ => w8 (by simp)) fun _ => w8 (by simp)) fun _ => w8 (by simp)))
 have h2 := h1 j hj
 have key : Ens (W7 n j ()) (fun o => o = .inl () → 1 ≤ n.Gates[j].Close ∧ n.Gates[j].Close ≤ 12) := by
  unfold W7
  rw [Q6 hj, Ka]
  refine k8 fun _ _ => k8 fun _ _ => Z9 (fun _ => k8 fun _ _ => Z9 (fun _ => w8 (fun h => by cases h)) fun _ => ?_) fun _ => w8 (fun h => by cases h)
  rw [q0J, Ka]
  refine Z9 (fun hw => ?_) fun _ => w8 (fun h => by cases h)
  have hw := of_decide_eq_true hw
  exact k8 fun _ _ => Z9 (fun _ => w8 fun _ => hw) fun _ => w8 fun _ => hw
 exact key _ h2 rfl
end
def tf (s m : Nat) : List Bool := List.replicate s true ++ List.replicate (m - s) false
theorem z8q {s m : Nat} (h : s ≤ m) : (tf s m).length = m := by
 unfold tf
 simp
 omega
theorem q5V {s m i : Nat} (h : s ≤ m) (hi : i < m) : (tf s m)[i]? = some (decide (i < s)) := by
 unfold tf
 by_cases c : i < s
 ·rw [List.getElem?_append_left (by simpa using c), List.getElem?_replicate, if_pos c, decide_eq_true c]
 ·rw [List.getElem?_append_right (by simp; omega), List.length_replicate, List.getElem?_replicate, if_pos (by omega), decide_eq_false c]
theorem j2e {s m : Nat} (h : s < m) : (tf s m).set s true = tf (s + 1) m := by
 refine List.ext_getElem? fun i => ?_
 have h1 := z8q (s := s) (m := m) (by omega)
 have h2 := z8q (s := s + 1) (m := m) (by omega)
 by_cases c : i < m
 ·rw [List.getElem?_set, q5V (s := s + 1) (by omega) c]
  by_cases e : s = i
  ·rw [if_pos e, if_pos (by omega), decide_eq_true (by omega)]
  ·rw [if_neg e, q5V (by omega) c]
   congr 1
   exact decide_eq_decide.2 (by omega)
 ·rw [List.getElem?_eq_none (by rw [List.length_set]; omega), List.getElem?_eq_none (by omega)]
def W8 (ro : List z7) (ne : List (List q8)) (k : Int) (s g : Nat) (laps : Bool) (c : Int) : z6 := ⟨roK ro k, neK ne k, tf s (roK ro k).Steps.length, tf g (roK ro k).Steps.length, laps, false, 0, c, k⟩
theorem q4l {ro : List z7} {ne : List (List q8)} {k : Int} {s g : Nat} {laps : Bool} {c : Int} (hp : 0 < (roK ro k).Steps.length) (hs : s ≤ (roK ro k).Steps.length) :
  q7t (W8 ro ne k s g laps c) = if s = (roK ro k).Steps.length ∧ laps = true then W8 ro ne k s g (if c + 1 = 60 then false else laps) (c + 1) else W8 ro ne k s g laps c := by
 have h1 : ((W8 ro ne k s g laps c).seen[(W8 ro ne k s g laps c).seen.length - 1]?).getD false = decide (s = (roK ro k).Steps.length) := by
  show ((tf s _)[(tf s _).length - 1]?).getD false = _
  rw [z8q hs, q5V hs (by omega)]
  exact decide_eq_decide.2 (by omega)
 unfold q7t
 rw [h1]
 by_cases c1 : s = (roK ro k).Steps.length
 ·cases laps with
  | true =>
   exact (if_pos (show (decide (s = (roK ro k).Steps.length) && true) = true from by rw [decide_eq_true c1]; rfl)).trans (if_pos (show s = (roK ro k).Steps.length ∧ true = true from ⟨c1, rfl⟩)).symm
  | false => rw [if_neg (by rw [decide_eq_true c1]; exact Kh), if_neg (fun h => by cases h.2)]
 ·rw [if_neg (by rw [decide_eq_false c1]; exact Kh), if_neg (fun h => c1 h.1)]
def q2A (ro : List z7) (k : Int) (i : Nat) : Int := (((roK ro k).Steps[i]?).getD ⟨0, 0, 0⟩).Section
theorem q4i {ro : List z7} {ne : List (List q8)} {bo : List q9} {k : Int} {s g : Nat} {laps : Bool} {c : Int} {i : Nat} (hs : s ≤ (roK ro k).Steps.length) (hi : i < (roK ro k).Steps.length) :
  q5X bo (W8 ro ne k s g laps c) i = (!decide (i < s) || q4k bo (q2A ro k i) || (decide (i + 1 < (roK ro k).Steps.length) && !decide (i + 1 < s))) := by
 unfold q5X
 show (!((tf s (roK ro k).Steps.length)[i]?).getD false || q4k bo (q2A ro k i) || (decide (i + 1 < (roK ro k).Steps.length) && !((tf s (roK ro k).Steps.length)[i + 1]?).getD false)) = _
 rw [q5V hs hi]
 by_cases c1 : i + 1 < (roK ro k).Steps.length
 ·rw [q5V hs c1]
  rfl
 ·rw [decide_eq_false c1]
  rfl
theorem z2Z {bo : List q9} {x : z6} {m g t : Nat} (hgt : g ≤ t) (htm : t ≤ m) (h1 : ∀ i, g ≤ i → i < t → q5X bo x i = false) (h2 : t < m → q5X bo x t = true) : ∀ (d i : Nat), i + d = m → i ≤ t → q9H bo x d i (tf (max g i) m) = (tf t m, decide (t = m))
 | 0, i, hi, hit => by
  have e1 : max g i = t := by omega
  unfold q9H
  rw [e1, decide_eq_true (by omega)]
 | d + 1, i, hi, hit => by
  have hget : ((tf (max g i) m)[i]?).getD true = decide (i < g) := by
   rw [q5V (by omega) (by omega)]
   exact decide_eq_decide.2 (by omega)
  unfold q9H
  rw [hget]
  by_cases c1 : i < g
  ·rw [if_pos (decide_eq_true c1)]
   have ih := z2Z hgt htm h1 h2 d (i + 1) (by omega) (by omega)
   rw [show max g (i + 1) = max g i by omega] at ih
   exact ih
  ·rw [if_neg (fun h => c1 (of_decide_eq_true h))]
   by_cases c2 : i = t
   ·rw [c2, if_pos (h2 (by omega)), show max g t = t by omega, decide_eq_false (by omega)]
   ·rw [h1 i (by omega) (by omega), if_neg Kh]
    have ih := z2Z hgt htm h1 h2 d (i + 1) (by omega) (by omega)
    rw [show max g i = i by omega, j2e (by omega)]
    rw [show max g (i + 1) = i + 1 by omega] at ih
    exact ih
theorem q7W {ro : List z7} {ne : List (List q8)} {bo : List q9} {k : Int} {s g t : Nat} {laps : Bool} {c : Int} (hgt : g ≤ t) (htm : t ≤ (roK ro k).Steps.length) (h1 : ∀ i, g ≤ i → i < t → q5X bo (W8 ro ne k s g laps c) i = false) (h2 : t < (roK ro k).Steps.length → q5X bo (W8 ro ne k s g laps c) t = true) :
  z1A bo (W8 ro ne k s g laps c) = (tf t (roK ro k).Steps.length, decide (t = (roK ro k).Steps.length)) ∧ z5e bo (W8 ro ne k s g laps c) = W8 ro ne k s t laps c := by
 have e : z1A bo (W8 ro ne k s g laps c) = (tf t (roK ro k).Steps.length, decide (t = (roK ro k).Steps.length)) := by
  have := z2Z hgt htm h1 h2 (roK ro k).Steps.length 0 (by omega) (by omega)
  rw [show max g 0 = g by omega] at this
  exact this
 refine ⟨e, ?_⟩
 unfold z5e
 rw [e]
 rfl
def Bd (at_ ax : Int) (t : Nat) (bo : List q9) : Prop := ∀ (j : Nat) (s : q9), bo[j]? = some s → s.disturbed = false ∧ s.failed = false ∧ s.axles = (if (j : Int) = at_ then ax else 0) ∧ 0 ≤ s.moving ∧ (s.moving = 0 ∨ s.moving + (t : Int) ≤ 5)
theorem Bd.second {at_ ax : Int} {t : Nat} {bo : List q9} (h : Bd at_ ax t bo) : Bd at_ ax (t + 1) (bo.map q6g) := fun j s hs => by
 rw [List.getElem?_map] at hs
 cases hq : bo[j]? with
 | none => rw [hq] at hs; cases hs
 | some s0 =>
  rw [hq] at hs
  have hs : some (q6g s0) = some s := hs
  rw [← Kd hs]
  obtain ⟨b1, b2, b3, b4, b5⟩ := h j s0 hq
  unfold q6g
  split
  ·rename_i c
   have : s0.moving = 0 := c.resolve_right (by rw [b2]; exact Kh)
   exact ⟨b1, b2, b3, b4, .inl this⟩
  ·rename_i c
   have c0 : ¬ s0.moving = 0 := fun e => c (.inl e)
   split
   ·rename_i c1
    exact ⟨b1, b2, b3, by simp only; omega, .inl c1⟩
   ·exact ⟨b1, b2, b3, by simp only; omega, .inr (by simp only; omega)⟩
theorem Bd.rest {at_ ax : Int} {t : Nat} {bo : List q9} (h : Bd at_ ax t bo) (ht : 5 ≤ t) : Bd at_ ax 5 bo := fun j s hs => by
 obtain ⟨b1, b2, b3, b4, b5⟩ := h j s hs
 exact ⟨b1, b2, b3, b4, .inl (by omega)⟩
theorem Bd.shows {at_ ax : Int} {t : Nat} {bo : List q9} (h : Bd at_ ax t bo) (hax : 0 < ax) {s : Int} (hs : 0 ≤ s ∧ s < (bo.length : Int)) : q4k bo s = decide (s = at_) := by
 obtain ⟨x, h1, h2⟩ := q4r hs.1 hs.2
 obtain ⟨b1, b2, b3, _⟩ := h _ x h2
 unfold q4k
 rw [h1]
 show (decide (0 < x.axles) || x.disturbed) = _
 rw [b1, b3, show ((s.toNat : Nat) : Int) = s by omega]
 by_cases c : s = at_
 ·rw [if_pos c, decide_eq_true hax, decide_eq_true c]; rfl
 ·rw [if_neg c, decide_eq_false c]; rfl
structure Gt (n : j3) (mp : List (Int × Option Int)) (ar : List (Int × z6)) (gt : List z8) : Prop where
 len : gt.length = n.Gates.length
 ok : ∀ g ∈ gt, g.failed = false ∧ 0 ≤ g.left
 want : ∀ (j : Nat) (g : z8), gt[j]? = some g → (g.wanted = true ↔ z2b mp ar ((n.Gates[j]?).getD ⟨0, 0⟩).Section)
section
variable {n : j3} {ro : List z7} {ne : List (List q8)} {bo bo' : List q9} {gt gt' : List z8} {mp mp' : List (Int × Option Int)} {ar ar' : List (Int × z6)}
variable {a1 : List ByteArray} {a2 : List j0} {a3 : List j9} {a4 : List j5} {a5 : List Q2} {a6 : List z7} {a7 : List (List q8)} {a8 : List q9} {a9 : List z8}
theorem Gt.wants (hcl : ∀ j (h : j < n.Gates.length), 1 ≤ n.Gates[j].Close) (hl : gt.length = n.Gates.length) (hok : ∀ g ∈ gt, g.failed = false ∧ 0 ≤ g.left) (hl' : gt'.length = gt.length) (hw : ∀ (j : Nat) (g : z8), gt[j]? = some g → ∃ g', gt'[j]? = some g' ∧ z2a n mp ar j g g') : Gt n mp ar gt' := by
 have get : ∀ (j : Nat) (g' : z8), gt'[j]? = some g' → ∃ g, gt[j]? = some g ∧ z2a n mp ar j g g' := fun j g' hg => by
  have hj : j < gt'.length := (List.getElem?_eq_some_iff.1 hg).1
  have hjg : j < gt.length := by omega
  obtain ⟨g2, q1, q2⟩ := hw j _ (Kf hjg)
  rw [hg] at q1
  rw [← Kd q1] at q2
  exact ⟨_, Kf hjg, q2⟩
 refine ⟨by omega, fun g' hg => ?_, fun j g' hg => ?_⟩
 ·obtain ⟨j, hj, rfl⟩ := List.getElem_of_mem hg
  obtain ⟨g, g1, w1, w2, w3⟩ := get j _ (Kf hj)
  obtain ⟨k1, k2⟩ := hok g (List.mem_of_getElem? g1)
  refine ⟨by rw [w1]; exact k1, ?_⟩
  by_cases c : z2b mp ar ((n.Gates[j]?).getD ⟨0, 0⟩).Section
  ·obtain ⟨_, w4, w5⟩ := w2 c
   cases hq : g.wanted with
   | true => rw [w4 hq]; exact k2
   | false =>
    have hjn : j < n.Gates.length := by omega
    have := hcl j hjn
    rw [w5 hq, Kf hjn]
    show 0 ≤ n.Gates[j].Close
    omega
  ·rw [(w3 c).2]; exact k2
 ·obtain ⟨g, g1, w1, w2, w3⟩ := get j g' hg
  constructor
  ·intro h
   refine Classical.byContradiction fun c => ?_
   rw [(w3 c).1] at h
   cases h
  ·exact fun c => (w2 c).1
theorem z8H {g : z8} (h : g.failed = false ∧ 0 ≤ g.left) : (z7u g).failed = false ∧ 0 ≤ (z7u g).left ∧ (z7u g).wanted = g.wanted := by
 unfold z7u
 split
 ·rename_i c
  exact ⟨h.1, by simp only; omega, rfl⟩
 ·exact ⟨h.1, h.2, rfl⟩
structure St (n : j3) (ro : List z7) (ne : List (List q8)) (at_ ax : Int) (t : Nat) (L : List (Int × z6)) (bo : List q9) (gt : List z8) (mp : List (Int × Option Int)) (ar : List (Int × z6)) : Prop where
 inv : Inv n ro ne bo gt mp ar
 bd : Bd at_ ax t bo
 gts : Gt n mp ar gt
 nd : (L.map (·.1)).Nodup
 mem : ∀ p, p ∈ mp ↔ ∃ e ∈ L, p = (e.1, some e.1)
 cell : ∀ e ∈ L, J4 ar e.1 = some e.2
def q6l (bo : List q9) (L : List (Int × z6)) : List (Int × z6) := (L.filter fun e => !(z1A bo (q7t e.2)).2).map fun e => (e.1, z5e bo (q7t e.2))
theorem St.second (hcl : ∀ j (h : j < n.Gates.length), 1 ≤ n.Gates[j].Close) (F : Fix n ro ne) {at_ ax : Int} {t : Nat} {L : List (Int × z6)} (h : St n ro ne at_ ax t L bo gt mp ar) (hl : ∀ e ∈ L, e.2.leave = 0) :
  ∃ gt' mp' ar', Y5 a1 a2 a3 a4 n.Gates a6 a7 bo gt mp ar = some (bo.map q6g, gt', mp', ar') ∧ St n ro ne at_ ax (t + 1) (q6l (bo.map q6g) L) (bo.map q6g) gt' mp' ar' ∧
   ∀ (j : Nat) (g : z8), gt[j]? = some g → ∃ g', gt'[j]? = some g' ∧ z2a n mp' ar' j (z7u g) g' := by
 have hcell : ∀ p ∈ mp, ∃ e ∈ L, p = (e.1, some e.1) ∧ J4 ar p.1 = some e.2 := fun p hp => by
  obtain ⟨e, he, rfl⟩ := (h.mem p).1 hp
  exact ⟨e, he, rfl, h.cell e he⟩
 obtain ⟨gt', mp', ar', h1, h2, h3, h4, h5, h6⟩ := z8G (a1 := a1) (a2 := a2) (a3 := a3) (a4 := a4) (a6 := a6) (a7 := a7) F h.inv (fun p hp x hx => by
  obtain ⟨e, he, _, h7⟩ := hcell p hp
  rw [hx] at h7
  rw [Kd h7]
  exact hl e he)
 refine ⟨gt', mp', ar', h1, ⟨h2, h.bd.second, ?_, ?_, fun p => ?_, fun e he => ?_⟩, h6⟩
 ·refine Gt.wants (gt := gt.map z7u) hcl (by rw [List.length_map]; exact h.gts.len) (fun g hg => ?_) (by rw [h5, List.length_map]) (fun j g hg => ?_)
  ·obtain ⟨g0, hg0, rfl⟩ := List.mem_map.1 hg
   have := z8H (h.gts.ok g0 hg0)
   exact ⟨this.1, this.2.1⟩
  ·rw [List.getElem?_map] at hg
   cases hq : gt[j]? with
   | none => rw [hq] at hg; cases hg
   | some g0 =>
    rw [hq] at hg
    have hg : some (z7u g0) = some g := hg
    rw [← Kd hg]
    exact h6 j g0 hq
 ·unfold q6l
  rw [List.map_map]
  have : (List.map ((fun x => x.1) ∘ fun e : Int × z6 => (e.1, z5e (bo.map q6g) (q7t e.2))) (L.filter fun e => !(z1A (bo.map q6g) (q7t e.2)).2)) = (L.filter fun e => !(z1A (bo.map q6g) (q7t e.2)).2).map (·.1) := rfl
  rw [this]
  exact ((List.filter_sublist).map _).nodup h.nd
 ·rw [h3]
  unfold q6l
  constructor
  ·rintro ⟨hp, hd⟩
   obtain ⟨e, he, rfl, hc⟩ := hcell p hp
   refine ⟨(e.1, z5e (bo.map q6g) (q7t e.2)), List.mem_map.2 ⟨e, List.mem_filter.2 ⟨he, ?_⟩, rfl⟩, rfl⟩
   cases hq : (z1A (bo.map q6g) (q7t e.2)).2 with
   | false => rfl
   | true => exact absurd ⟨e.2, hc, hq⟩ hd
  ·rintro ⟨e', he', rfl⟩
   obtain ⟨e, he, rfl⟩ := List.mem_map.1 he'
   obtain ⟨he, hf⟩ := List.mem_filter.1 he
   have hp := (h.mem (e.1, some e.1)).2 ⟨e, he, rfl⟩
   refine ⟨hp, fun ⟨x, hx, hd⟩ => ?_⟩
   have hx : J4 ar e.1 = some x := hx
   rw [h.cell e he] at hx
   rw [← Kd hx] at hd
   rw [hd] at hf
   cases hf
 ·unfold q6l at he
  obtain ⟨e0, he0, rfl⟩ := List.mem_map.1 he
  obtain ⟨he0, _⟩ := List.mem_filter.1 he0
  exact h4 (e0.1, some e0.1) ((h.mem _).2 ⟨e0, he0, rfl⟩) _ (h.cell e0 he0)
end
theorem z0V (l : List Int) (x : Int) [Decidable (∃ y ∈ l, x = y)] : q1T l x = some (decide (∃ y ∈ l, x = y)) :=
 q7q (fun y => x = y) (fun k hk => by
  unfold q2D
  rw [Q6 hk, Ka]
  by_cases c : x = l[k]
  ·rw [if_pos c, if_pos c]
  ·rw [if_neg c, if_neg c])
def z2u (mp : List (Int × Option Int)) (ar : List (Int × z6)) (k : Int) : List q8 := match J4 mp k with
 | none => []
 | some _ => match J4 ar k with
  | none => []
  | some x => W3 x
section
variable {n : j3} {ro : List z7} {ne : List (List q8)} {bo bo' : List q9} {gt gt' : List z8} {mp : List (Int × Option Int)} {ar : List (Int × z6)}
variable {a1 : List ByteArray} {a2 : List j0} {a3 : List j9} {a4 : List j5} {a5 : List Q2} {a6 : List z7} {a7 : List (List q8)} {a8 : List q9} {a9 : List z8} {b1 : List (Int × Option Int)} {b2 : List (Int × z6)}
theorem z0N (h : Inv n ro ne bo gt mp ar) {k : Int} {x : z6} (hk : (k, some k) ∈ mp) (hx : J4 ar k = some x) : z2u mp ar k = W3 x := by
 unfold z2u
 rw [z5C h.nd hk, hx]
theorem z4n (h : Inv n ro ne bo gt mp ar) (k : Int) : (z2u mp ar k = [] ∧ q0D mp k none = none) ∨ ((k, some k) ∈ mp ∧ q0D mp k none = some k ∧ ∃ x, J4 ar k = some x ∧ LOk n ro ne k x ∧ z2u mp ar k = W3 x) := by
 rcases h.look k with ⟨h1, h2⟩ | ⟨h1, h2, x, hx, kx⟩
 ·refine .inl ⟨?_, h1⟩
  unfold z2u
  cases hm : J4 mp k with
  | none => rfl
  | some v => exact absurd (List.mem_map_of_mem (f := (·.1)) (z6z hm)) h2
 ·exact .inr ⟨h2, h1, x, hx, kx, z0N h h2 hx⟩
theorem z7Z (F : Fix n ro ne) (h : Inv n ro ne bo gt mp ar) {k : Int} (hk : 0 ≤ k ∧ k < (ro.length : Int)) : q3C k a1 a2 a3 a4 a5 ro a7 a8 a9 mp ar = some (0, z2u mp ar k) := by
 unfold q3C
 rw [z0O, Ka, decide_eq_true hk, if_pos rfl, Ka]
 rcases z4n h k with ⟨h1, h2⟩ | ⟨h1, h2, x, hx, kx, h3⟩
 ·rw [h2, if_pos (show (none : Option Int).isNone = true from rfl), h1]
 ·rw [h2, if_neg (by simp), z3k F kx hx, Ka, h3]
end
theorem z8u (s : q9) : q2K s = some (decide (s.moving = 0) && !s.failed) := by
 unfold q2K
 by_cases c : s.moving = 0
 ·rw [if_pos c, decide_eq_true c]; rfl
 ·rw [if_neg c, decide_eq_false c]; rfl
theorem z4C (g : z8) : q1z g = some (g.wanted && decide (g.left = 0) && !g.failed) := by
 unfold q1z
 by_cases c : g.wanted = true
 ·by_cases c2 : g.left = 0
  ·rw [if_pos c, if_pos c2, c, decide_eq_true c2]; rfl
  ·rw [if_pos c, if_neg c2, decide_eq_false c2, c]; rfl
 ·rw [if_neg c, show g.wanted = false by simpa using c]; rfl
structure z3M (n : j3) (bo : List q9) (gt : List z8) (x : z6) : Prop where
 pts : ∀ y ∈ W3 x, 0 < y.Position → ∃ s, idx bo y.Place = some s ∧ (decide (s.moving = 0) && !s.failed) = true ∧ s.position = y.Position
 gts : ∀ j : Nat, j < n.Gates.length → (∃ s ∈ x.Route.Steps, s.Section = ((n.Gates[j]?).getD ⟨0, 0⟩).Section) → ∃ g, idx gt (j : Int) = some g ∧ (g.wanted && decide (g.left = 0) && !g.failed) = true
 clr : x.sight = true ∨ ∀ s ∈ x.Route.Steps, ∃ b, idx bo s.Section = some b ∧ (decide (0 < b.axles) || b.disturbed) = false
section
variable {n : j3} {ro : List z7} {ne : List (List q8)} {bo bo' : List q9} {gt gt' : List z8} {mp : List (Int × Option Int)} {ar : List (Int × z6)}
variable {a1 : List ByteArray} {a2 : List j0} {a3 : List j9} {a4 : List j5} {a5 : List Q2} {a6 : List z7} {a7 : List (List q8)} {a8 : List q9} {a9 : List z8} {b1 : List (Int × Option Int)} {b2 : List (Int × z6)}
theorem q9x (l : List v6) (c d : Int) [Decidable (∃ s ∈ l, s.Section = c)] : q0c l c d = some (decide (∃ s ∈ l, s.Section = c)) :=
 q7q (fun s : v6 => s.Section = c) (fun k hk => by
  unfold q0U q2J
  rw [Q6 hk, Ka, Ka]
  by_cases h : l[k].Section = c
  ·rw [if_pos (decide_eq_true h), if_pos h]
  ·rw [if_neg (fun e => h (of_decide_eq_true e)), if_neg h])
theorem z4z (h : Inv n ro ne bo gt mp ar) (l : List v6) (hl : ∀ s ∈ l, q3H n s) : ∃ b, V4 l a1 a2 a3 a4 a5 a6 a7 bo a9 b1 b2 = some b ∧ (b = false → ∀ s ∈ l, ∃ z, idx bo s.Section = some z ∧ (decide (0 < z.axles) || z.disturbed) = false) := by
 classical
 have key : V4 l a1 a2 a3 a4 a5 a6 a7 bo a9 b1 b2 = some (decide (∃ s ∈ l, ∃ z, idx bo s.Section = some z ∧ (decide (0 < z.axles) || z.disturbed) = true)) :=
  q7q (fun s : v6 => ∃ z, idx bo s.Section = some z ∧ (decide (0 < z.axles) || z.disturbed) = true) (fun k hk => by
   obtain ⟨z, z1, _⟩ := h.B.get (hl _ (List.getElem_mem hk)).1.1
   have z1 : idx bo l[k].Section = some z := z1
   unfold F8 q1B
   rw [Q6 hk, Ka, z1, Ka, q5A, Ka, Ka]
   by_cases c : (decide (0 < z.axles) || z.disturbed) = true
   ·rw [if_pos c, if_pos ⟨z, rfl, c⟩]
   ·rw [if_neg c, if_neg (fun ⟨w, w1, w2⟩ => c (by rw [Kd w1]; exact w2))])
 refine ⟨_, key, fun hb s hs => ?_⟩
 have hb := of_decide_eq_false hb
 obtain ⟨z, z1, _⟩ := h.B.get (hl s hs).1.1
 refine ⟨z, z1, ?_⟩
 cases hz : (decide (0 < z.axles) || z.disturbed) with
 | false => rfl
 | true => exact absurd ⟨s, hs, z, z1, hz⟩ hb
theorem j0X (F : Fix n ro ne) (h : Inv n ro ne bo gt mp ar) {k : Int} {x : z6} (hx : J4 ar k = some x) (kx : LOk n ro ne k x) :
  ∃ b, q0G (some k) a1 a2 a3 a4 n.Gates a6 a7 ar bo gt mp = some b ∧ (b = true → z3M n bo gt x) := by
 classical
 have hst : ∀ s ∈ x.Route.Steps, q3H n s := by rw [kx.route]; exact (F.rok kx.kr).way.path.step
 unfold q0G
 rw [z3k F kx hx, Ka]
 rcases q1q (body := Y8 bo (W3 x)) (fun j _ => ∀ i (hi : i < (W3 x).length), i < j → 0 < (W3 x)[i].Position → ∃ s, idx bo (W3 x)[i].Place = some s ∧ (decide (s.moving = 0) && !s.failed) = true ∧ s.position = (W3 x)[i].Position) (fun t => t = false) (W3 x).length 0 () (fun i hi h0 => by omega) (fun j s _ hj hI => by
  have hj : j < (W3 x).length := by omega
  unfold Y8
  rw [Q6 hj, Ka]
  by_cases cp : 0 < (W3 x)[j].Position
  ·obtain ⟨s, s1, _⟩ := h.B.get ((kx.need F (q0v.1 (List.getElem_mem hj)).1).place (.inr (.inr (by omega))))
   rw [if_pos cp, s1, Ka, z8u, Ka]
   by_cases cs : (decide (s.moving = 0) && !s.failed) = true
   ·rw [if_pos cs, Ka, Ka]
    by_cases cq : s.position = (W3 x)[j].Position
    ·rw [if_neg (fun e => absurd cq (of_decide_eq_true e))]
     refine .inl ⟨_, rfl, fun i hi hij hp => ?_⟩
     by_cases e : i = j
     ·subst e
      exact ⟨s, s1, cs, cq⟩
     ·exact hI i hi (by omega) hp
    ·rw [if_pos (decide_eq_true cq)]
     exact .inr ⟨_, rfl, rfl⟩
   ·rw [if_neg cs, Ka, if_pos rfl]
    exact .inr ⟨_, rfl, rfl⟩
  ·rw [if_neg cp, Ka, if_neg Kh]
   refine .inl ⟨_, rfl, fun i hi hij hp => ?_⟩
   by_cases e : i = j
   ·subst e
    exact absurd hp cp
   ·exact hI i hi (by omega) hp) with ⟨u, h1, h2⟩ | ⟨t, h1, h2⟩
 ·rw [h1, Ka, Sum.elim_inl]
  rcases q1q (body := K4 n.Gates ar gt) (fun j q => q = some k ∧ ∀ i : Nat, i < j → (∃ s ∈ x.Route.Steps, s.Section = ((n.Gates[i]?).getD ⟨0, 0⟩).Section) → ∃ g, idx gt (i : Int) = some g ∧ (g.wanted && decide (g.left = 0) && !g.failed) = true) (fun t => t = false) n.Gates.length 0 (some k) ⟨rfl, fun i hi => by omega⟩ (fun j q _ hj hI => by
   obtain ⟨hq, hI⟩ := hI
   subst hq
   have hj : j < n.Gates.length := by omega
   unfold K4
   rw [Q6 hj, Ka, Ka, hx, Ka, q9x, Ka]
   obtain ⟨g, g1, _⟩ := h.G.get (i := (j : Int)) ⟨by omega, by omega⟩
   have hgj : ((n.Gates[j]?).getD ⟨0, 0⟩) = n.Gates[j] := by rw [Kf hj]; rfl
   by_cases co : ∃ s ∈ x.Route.Steps, s.Section = n.Gates[j].Section
   ·rw [if_pos (decide_eq_true co), g1, Ka, z4C, Ka, Ka]
    by_cases cc : (g.wanted && decide (g.left = 0) && !g.failed) = true
    ·rw [cc, if_neg (by decide)]
     refine .inl ⟨_, rfl, rfl, fun i hi hs => ?_⟩
     by_cases e : i = j
     ·subst e
      exact ⟨g, g1, cc⟩
     ·exact hI i (by omega) hs
    ·rw [Bool.eq_false_iff.2 cc, if_pos (show (!false) = true from rfl)]
     exact .inr ⟨_, rfl, rfl⟩
   ·rw [if_neg (fun e => co (of_decide_eq_true e)), Ka, if_neg Kh]
    refine .inl ⟨_, rfl, rfl, fun i hi hs => ?_⟩
    by_cases e : i = j
    ·subst e
     rw [hgj] at hs
     exact absurd hs co
    ·exact hI i (by omega) hs) with ⟨q, h3, hq, h4⟩ | ⟨t, h3, h4⟩
  ·subst hq
   rw [h3, Ka, Sum.elim_inl, Ka, hx, Ka]
   have hpts : ∀ y ∈ W3 x, 0 < y.Position → ∃ s, idx bo y.Place = some s ∧ (decide (s.moving = 0) && !s.failed) = true ∧ s.position = y.Position := fun y hy hp => by
    obtain ⟨i, hi, rfl⟩ := List.getElem_of_mem hy
    exact h2 i hi (by omega) hp
   have hgts : ∀ j : Nat, j < n.Gates.length → (∃ s ∈ x.Route.Steps, s.Section = ((n.Gates[j]?).getD ⟨0, 0⟩).Section) → ∃ g, idx gt (j : Int) = some g ∧ (g.wanted && decide (g.left = 0) && !g.failed) = true := fun j hj => h4 j (by omega)
   by_cases cs : x.sight = true
   ·rw [if_pos cs]
    exact ⟨_, rfl, fun _ => ⟨hpts, hgts, .inl cs⟩⟩
   ·obtain ⟨b, c1, c2⟩ := z4z (a1 := a1) (a2 := a2) (a3 := a3) (a4 := a4) (a5 := n.Gates) (a6 := a6) (a7 := a7) (a9 := gt) (b1 := mp) (b2 := ar) h x.Route.Steps hst
    rw [if_neg cs, c1]
    refine ⟨_, rfl, fun hb => ⟨hpts, hgts, .inr (c2 (by simpa using hb))⟩⟩
  ·rw [h3, h4]
   exact ⟨false, rfl, fun h => by cases h⟩
 ·rw [h1, h2]
  exact ⟨false, rfl, fun h => by cases h⟩
def z6b (n : j3) (bo : List q9) (gt : List z8) (mp : List (Int × Option Int)) (ar : List (Int × z6)) (g v : Int) : Prop :=
 v ≠ 0 → ∃ k x, (k, some k) ∈ mp ∧ J4 ar k = some x ∧ x.Route.From = g ∧ x.seen[0]? = some false ∧ z3M n bo gt x ∧ (v = 1 ↔ x.sight = true)
theorem q7G (F : Fix n ro ne) (h : Inv n ro ne bo gt mp ar) : ∀ (N : Nat) (g : Int) (d : List Int), 0 ≤ g ∧ g < (n.Signals.length : Int) → d.Nodup → (∀ s ∈ d, 0 ≤ s ∧ s < (n.Signals.length : Int)) →
  (Z2 N g a1 a2 a3 n.Signals n.Gates a6 a7 d bo gt mp ar = none ∧ N + d.length ≤ n.Signals.length) ∨ ∃ v d', Z2 N g a1 a2 a3 n.Signals n.Gates a6 a7 d bo gt mp ar = some (v, d') ∧ z6b n bo gt mp ar g v
 | 0, g, d, hg, hn, hd => by
  refine .inl ⟨rfl, ?_⟩
  have := q8a (L := (List.range n.Signals.length).map fun i : Nat => (i : Int)) hn (fun s hs => by
   have := hd s hs
   exact List.mem_map.2 ⟨s.toNat, List.mem_range.2 (by omega), by omega⟩)
  simpa using this
 | N + 1, g, d, hg, hn, hd => by
  classical
  have hsig := F.net.g40
  have hdl := q8a (L := (List.range n.Signals.length).map fun i : Nat => (i : Int)) hn (fun s hs => by
   have := hd s hs
   exact List.mem_map.2 ⟨s.toNat, List.mem_range.2 (by omega), by omega⟩)
  simp only [List.length_map, List.length_range] at hdl
  unfold Z2
  rw [z0V, Ka]
  by_cases cd : ∃ y ∈ d, g = y
  ·rw [if_pos (decide_eq_true cd)]
   exact .inr ⟨0, d, rfl, fun h => absurd rfl h⟩
  ·have hgd : g ∉ d := fun hm => cd ⟨g, hm, rfl⟩
   rw [if_neg (fun e => cd (of_decide_eq_true e)), q7Z F h, Ka]
   have hlenm : (((mp.map (·.1)).mergeSort fun x y => decide (x ≤ y)).map some).length = ((mp.map (·.1)).mergeSort fun x y => decide (x ≤ y)).length := List.length_map _
   have hkept := h.kept
   have hmem : ∀ k ∈ ((mp.map (·.1)).mergeSort fun x y => decide (x ≤ y)), (k, some k) ∈ mp := fun k hk => by
    obtain ⟨p, hp, rfl⟩ := List.mem_map.1 (q5e.1 hk)
    have := (h.en p hp).1
    rw [← this]
    exact hp
   generalize ((mp.map (·.1)).mergeSort fun x y => decide (x ≤ y)) = ks at hlenm hkept hmem ⊢
   have hd' : (d ++ [g]).Nodup := by
    rw [List.nodup_append]
    exact ⟨hn, by simp, fun a ha b hb => by
     rw [List.mem_singleton.1 hb]
     exact fun e => hgd (e ▸ ha)⟩
   have hdr : ∀ s ∈ d ++ [g], 0 ≤ s ∧ s < (n.Signals.length : Int) := fun s hs => by
    rcases List.mem_append.1 hs with hs | hs
    ·exact hd s hs
    ·rw [List.mem_singleton.1 hs]; exact hg
   have key : (forM (Z1 a1 a2 a3 n.Signals n.Gates a6 a7 d bo gt mp ar g (ks.map some) (Z2 N)) (ks.map some).length 0 () = none ∧ N + (d ++ [g]).length ≤ n.Signals.length) ∨
     (∃ t, forM (Z1 a1 a2 a3 n.Signals n.Gates a6 a7 d bo gt mp ar g (ks.map some) (Z2 N)) (ks.map some).length 0 () = some t ∧ ∀ v, t = .inr v → z6b n bo gt mp ar g v.1) := by
    have hbody : ∀ j, j < (ks.map some).length → (Z1 a1 a2 a3 n.Signals n.Gates a6 a7 d bo gt mp ar g (ks.map some) (Z2 N) j () = none ∧ N + (d ++ [g]).length ≤ n.Signals.length) ∨ Z1 a1 a2 a3 n.Signals n.Gates a6 a7 d bo gt mp ar g (ks.map some) (Z2 N) j () = some (.inl ()) ∨ ∃ v, Z1 a1 a2 a3 n.Signals n.Gates a6 a7 d bo gt mp ar g (ks.map some) (Z2 N) j () = some (.inr v) ∧ z6b n bo gt mp ar g v.1 := fun j hj => by
     have hjk : j < ks.length := by rw [← hlenm]; exact hj
     obtain ⟨x, hx, kx⟩ := hkept _ (List.getElem_mem hjk)
     have hkm := hmem _ (List.getElem_mem hjk)
     unfold Z1
     rw [Q6 hj, List.getElem_map, Ka, Ka, hx, Ka]
     by_cases cf : x.Route.From ≠ g
     ·rw [if_pos cf, q0L, if_pos rfl]
      exact .inr (.inl rfl)
     ·have cf : x.Route.From = g := Classical.not_not.1 cf
      obtain ⟨b, s1, s2⟩ := kx.seen0 F
      rw [if_neg (fun h => h cf), s1, Ka]
      cases b with
      | true =>
       rw [if_pos rfl, q0L, if_pos rfl]
       exact .inr (.inl rfl)
      | false =>
       rw [if_neg Kh]
       by_cases cl : 0 < x.leave
       ·rw [if_pos cl, q0L, if_pos rfl]
        exact .inr (.inl rfl)
       ·obtain ⟨rb, r1, r2⟩ := j0X (a1 := a1) (a2 := a2) (a3 := a3) (a4 := n.Signals) (a6 := a6) (a7 := a7) F h hx kx
        rw [if_neg cl, r1, Ka, q0L]
        cases rb with
        | false =>
         rw [if_pos (show (!false) = true from rfl)]
         exact .inr (.inl rfl)
        | true =>
         have hR := r2 rfl
         rw [if_neg (by decide), Ka, hx, Ka]
         by_cases cs : x.sight = true
         ·rw [if_pos cs]
          exact .inr (.inr ⟨_, rfl, fun _ => ⟨_, x, hkm, hx, cf, s2, hR, fun _ => cs, fun _ => rfl⟩⟩)
         ·rw [if_neg cs, Ka]
          have hshow : ∀ v : Int, v = 3 ∨ v = 2 → z6b n bo gt mp ar g v := fun v hv _ => ⟨_, x, hkm, hx, cf, s2, hR, fun e => by omega, fun e => absurd e cs⟩
          by_cases ct : 0 ≤ x.Route.To
          ·have hto : 0 ≤ x.Route.To ∧ x.Route.To < (n.Signals.length : Int) := by
            have := j2h (F.rok kx.kr) (by rw [← kx.route]; omega)
            rw [← kx.route] at this
            exact this
           rw [if_pos ct, q1u (by omega) (by omega), Ka]
           rcases q7G F h N x.Route.To (d ++ [g]) hto hd' hdr with ⟨q1, q2⟩ | ⟨v, d', q1, _⟩
           ·rw [q1]
            exact .inl ⟨rfl, q2⟩
           ·rw [q1, q0L, q0L]
            split
            ·exact .inr (.inr ⟨_, rfl, hshow 3 (.inl rfl)⟩)
            ·exact .inr (.inr ⟨_, rfl, hshow 2 (.inr rfl)⟩)
          ·rw [if_neg ct, q0L, if_neg Kh]
           exact .inr (.inr ⟨_, rfl, hshow 2 (.inr rfl)⟩)
    have gen : ∀ (m k : Nat), k + m ≤ (ks.map some).length → (forM (Z1 a1 a2 a3 n.Signals n.Gates a6 a7 d bo gt mp ar g (ks.map some) (Z2 N)) m k () = none ∧ N + (d ++ [g]).length ≤ n.Signals.length) ∨
      (∃ t, forM (Z1 a1 a2 a3 n.Signals n.Gates a6 a7 d bo gt mp ar g (ks.map some) (Z2 N)) m k () = some t ∧ ∀ v, t = .inr v → z6b n bo gt mp ar g v.1) := by
     intro m
     induction m with
     | zero => exact fun k _ => .inr ⟨_, rfl, fun v hv => by cases hv⟩
     | succ m ih =>
      intro k hk
      rcases hbody k (by omega) with ⟨h1, h2⟩ | h1 | ⟨v, h1, h2⟩
      ·exact .inl ⟨by simp only [Fp.forM, h1], h2⟩
      ·rw [q5H h1]
       exact ih (k + 1) (by omega)
      ·exact .inr ⟨_, q8h h1, fun w hw => by injection hw with hw; rw [← hw]; exact h2⟩
    exact gen _ 0 (by omega)
   rcases key with ⟨h1, h2⟩ | ⟨t, h1, h2⟩
   ·rw [h1]
    exact .inl ⟨rfl, by simp at h2; omega⟩
   ·rw [h1, Ka]
    cases t with
    | inl u =>
     rw [Sum.elim_inl]
     exact .inr ⟨0, d, rfl, fun h => absurd rfl h⟩
    | inr v =>
     obtain ⟨v, d'⟩ := v
     rw [Sum.elim_inr]
     exact .inr ⟨v, d', rfl, h2 _ rfl⟩
theorem j0p (F : Fix n ro ne) (h : Inv n ro ne bo gt mp ar) {g : Int} (hg : 0 ≤ g ∧ g < (n.Signals.length : Int)) : ∃ v, G3 g a1 a2 a3 n.Signals n.Gates a6 a7 bo gt mp ar = some (v, 0) ∧ z6b n bo gt mp ar g v := by
 have hl : ∃ t, lim (fun N => Z2 N g a1 a2 a3 n.Signals n.Gates a6 a7 ([] : List Int) bo gt mp ar) = some t ∧ z6b n bo gt mp ar g t.1 := by
  refine z2r ?_ (fun N t ht => ?_)
  ·rcases q7G (a1 := a1) (a2 := a2) (a3 := a3) (a6 := a6) (a7 := a7) F h (n.Signals.length + 1) g [] hg .nil (fun s hs => by cases hs) with ⟨_, h2⟩ | ⟨v, d', h1, _⟩
   ·simp at h2
    omega
   ·exact ⟨_, _, h1⟩
  ·rcases q7G (a1 := a1) (a2 := a2) (a3 := a3) (a6 := a6) (a7 := a7) F h N g [] hg .nil (fun s hs => by cases hs) with ⟨h1, _⟩ | ⟨v, d', h1, h2⟩
   ·rw [h1] at ht; cases ht
   ·rw [h1] at ht
    rw [← Kd ht]
    exact h2
 obtain ⟨⟨v, d'⟩, h1, h2⟩ := hl
 unfold G3
 rw [z9x, Ka, if_neg (fun e => absurd hg (of_decide_eq_true e)), h1, q0L]
 exact ⟨v, rfl, h2⟩
end
theorem z2p {s : Int} {x : z6} : ∀ m, (∀ i, i < m → ((x.Route.Steps[i]?).getD ⟨0, 0, 0⟩).Section ≠ s) → P5 s x m = x
 | 0, _ => rfl
 | m + 1, h => by
  show z1K s x m (P5 s x m) = x
  rw [z2p m fun i hi => h i (by omega)]
  unfold z1K
  exact if_neg fun e => h m (by omega) e.1
theorem z6r {ro : List z7} {ne : List (List q8)} {k s : Int} {j g : Nat} {laps : Bool} {c : Int} (hj : j < (roK ro k).Steps.length) (hg : g ≤ j) (hs : ∀ i, i < (roK ro k).Steps.length → (q2A ro k i = s ↔ i = j)) :
  ∀ m, m ≤ (roK ro k).Steps.length → P5 s (W8 ro ne k j g laps c) m = if j < m then W8 ro ne k (j + 1) g laps c else W8 ro ne k j g laps c
 | 0, _ => by rw [if_neg (by omega)]; rfl
 | m + 1, hm => by
  show z1K s (W8 ro ne k j g laps c) m (P5 s (W8 ro ne k j g laps c) m) = _
  rw [z6r hj hg hs m (by omega)]
  have hsm := hs m (by omega)
  have hsec : (((W8 ro ne k j g laps c).Route.Steps[m]?).getD ⟨0, 0, 0⟩).Section = q2A ro k m := rfl
  unfold z1K
  rw [hsec]
  by_cases c1 : m = j
  ·subst c1
   rw [if_neg (Nat.lt_irrefl m), if_pos (Nat.lt_succ_self m)]
   have e1 : (W8 ro ne k m g laps c).gone[m]? = some false := by
    show (tf g _)[m]? = _
    rw [q5V (by omega) hj, decide_eq_false (by omega)]
   rw [if_pos ⟨hsm.2 rfl, e1⟩]
   have e2 : put (W8 ro ne k m g laps c).seen (m : Int) true = tf (m + 1) (roK ro k).Steps.length := by
    rw [q0n]
    exact j2e hj
   rw [e2]
   have e3 : (if (m : Int) = 0 then (0 : Int) else (W8 ro ne k m g laps c).leave) = 0 := by
    split <;> rfl
   rw [e3]
   rfl
  ·rw [if_neg (fun e => c1 (hsm.1 e.1))]
   by_cases c2 : j < m
   ·rw [if_pos c2, if_pos (by omega)]
   ·rw [if_neg c2, if_neg (by omega)]
theorem q3z {ro : List z7} {ne : List (List q8)} {k v : Int} {s g : Nat} {laps : Bool} {c : Int} (hg : g ≤ (roK ro k).Steps.length) : z8M (W8 ro ne k s g laps c) v ↔ ∃ i, g ≤ i ∧ i < (roK ro k).Steps.length ∧ q2A ro k i = v := by
 constructor
 ·rintro ⟨i, hi, h1, h2⟩
  have hi : i < (roK ro k).Steps.length := hi
  have h2 : (tf g (roK ro k).Steps.length)[i]? = some false := h2
  rw [q5V hg hi] at h2
  have := of_decide_eq_false (Kd h2)
  exact ⟨i, by omega, hi, h1⟩
 ·rintro ⟨i, h0, hi, h1⟩
  refine ⟨i, hi, h1, ?_⟩
  show (tf g (roK ro k).Steps.length)[i]? = some false
  rw [q5V hg hi, decide_eq_false (by omega)]
theorem z4w (k : Int) : q2u [k] [k] = some true := by
 unfold q2u
 rw [if_neg (fun h => h rfl), q2y (fun j hj => by
  have hj : j = 0 := by simpa using hj
  subst hj
  unfold q3b
  have e : idx [k] ((0 : Nat) : Int) = some k := Q6 (l := [k]) (show 0 < [k].length from Nat.one_pos)
  rw [e, Ka, Ka, if_neg (fun h => h rfl)])]
 rfl
section
variable {n : j3} {ro : List z7} {ne : List (List q8)} {bo bo' : List q9} {gt gt' : List z8} {mp mp' : List (Int × Option Int)} {ar ar' : List (Int × z6)}
variable {a1 : List ByteArray} {a2 : List j0} {a3 : List j9} {a4 : List j5} {a5 : List Q2} {a6 : List z7} {a7 : List (List q8)} {a8 : List q9} {a9 : List z8} {b1 : List (Int × Option Int)} {b2 : List (Int × z6)}
theorem z7M {c d : Int} (h : ∃ l ∈ a3, l.A = c ∧ l.B = d ∨ l.A = d ∧ l.B = c) : q2e c d a1 a2 a3 a4 a5 a6 a7 a8 a9 b1 b2 = some true := by
 classical
 have h1 : q0b a3 c d = some (decide (∃ l ∈ a3, l.A = c ∧ l.B = d ∨ l.A = d ∧ l.B = c)) :=
  q7q (fun l : j9 => l.A = c ∧ l.B = d ∨ l.A = d ∧ l.B = c) (fun k hk => by
   unfold q0E
   rw [Q6 hk, Ka, z7N, Ka]
   split
   ·rename_i h
    rw [if_pos (of_decide_eq_true h)]
   ·rename_i h
    rw [if_neg (fun h2 => h (decide_eq_true h2))])
 unfold q2e
 rw [h1, decide_eq_true h]
 rfl
theorem j1b (F : Fix n ro ne) (h : Inv n ro ne bo gt mp ar) {e s f : Int} {t : Nat} (he : 0 ≤ e ∧ e < (n.Sections.length : Int)) (hs : 0 ≤ s ∧ s < (n.Sections.length : Int)) (hne : e ≠ s) (hk : ∃ l ∈ a3, l.A = e ∧ l.B = s ∨ l.A = s ∧ l.B = e) (hf : 1 ≤ f ∧ f ≤ 400) (hB : Bd e f t bo) :
  ∃ bo', q2v e s f a1 n.Sections a3 a4 a5 a6 a7 bo a9 mp ar = some (0, bo', mp, cells (fun _ x => P5 s x x.Route.Steps.length) mp ar) ∧ Inv n ro ne bo' gt mp (cells (fun _ x => P5 s x x.Route.Steps.length) mp ar) ∧ Bd s f t bo' := by
 have hb := h.B
 have hpass : z5w (fun p => q4L (q0h s) p ar) mp = some (.inl (cells (fun _ x => P5 s x x.Route.Steps.length) mp ar)) :=
  z2q (g := fun _ x => P5 s x x.Route.Steps.length) (fun e he l' x h1 h2 => z8K F h s he l' x h1 h2) h.some_ h.nd
 have hinv := h.each (fun _ x => P5 s x x.Route.Steps.length) (fun k x hx => j1c F hx s _)
 obtain ⟨i, rfl⟩ : ∃ i : Nat, e = (i : Int) := ⟨e.toNat, by omega⟩
 obtain ⟨j, rfl⟩ : ∃ j : Nat, s = (j : Int) := ⟨s.toNat, by omega⟩
 have hi : i < bo.length := by rw [hb.1]; omega
 have hj : j < bo.length := by rw [hb.1]; omega
 have hij : i ≠ j := fun c => hne (by rw [c])
 obtain ⟨x, x1, x2⟩ := hb.get he
 obtain ⟨y, y1, y2⟩ := hb.get hs
 have gx : bo[i]? = some x := by
  rw [Q6 hi] at x1
  rw [Kf hi, x1]
 have gy : bo[j]? = some y := by
  rw [Q6 hj] at y1
  rw [Kf hj, y1]
 obtain ⟨p1, p2, p3, p4, p5⟩ := hB i x gx
 obtain ⟨q1, q2, q3, q4, q5⟩ := hB j y gy
 rw [if_pos rfl] at p3
 rw [if_neg (by omega)] at q3
 have z1 : z4Z ⟨x.axles - f, x.disturbed, x.position, x.moving, x.failed⟩ := ⟨⟨by show 0 ≤ x.axles - f; omega, by show x.axles - f ≤ 400; omega⟩, x2.2⟩
 have z2 : z4Z ⟨y.axles + f, y.disturbed, y.position, y.moving, y.failed⟩ := ⟨⟨by show 0 ≤ y.axles + f; omega, by show y.axles + f ≤ 400; omega⟩, y2.2⟩
 have c1 : idx (put bo (i : Int) ⟨x.axles - f, x.disturbed, x.position, x.moving, x.failed⟩) (j : Int) = some y := by
  rw [q0n, Q6 (by rw [List.length_set]; exact hj), List.getElem_set_ne hij, ← Q6 hj]
  exact y1
 refine ⟨put (put bo (i : Int) ⟨x.axles - f, x.disturbed, x.position, x.moving, x.failed⟩) (j : Int) ⟨y.axles + f, y.disturbed, y.position, y.moving, y.failed⟩, ?_, hinv.toB ((hb.put _ z1).put _ z2), ?_⟩
 ·unfold q2v
  rw [q8K, Ka, decide_eq_true (show 0 ≤ (i : Int) ∧ (i : Int) < (bo.length : Int) from ⟨by omega, by omega⟩), if_pos rfl, q8K, Ka, decide_eq_true (show 0 ≤ (j : Int) ∧ (j : Int) < (bo.length : Int) from ⟨by omega, by omega⟩), if_pos rfl, z7M hk, Ka, if_pos rfl, if_neg (by omega), if_neg (by omega), x1, Ka, y1, Ka, Y3 (by omega) (by omega), Ka, if_neg (by omega), if_pos (by omega), Y3 (by omega) (by omega), Ka, c1, Ka, Y3 (by omega) (by omega), Ka, hpass]
  rfl
 ·intro u z hz
  rw [q0n, q0n, List.getElem?_set, List.getElem?_set] at hz
  by_cases cj : j = u
  ·subst cj
   rw [if_pos rfl, if_pos (by rw [List.length_set]; exact hj)] at hz
   rw [← Kd hz, if_pos rfl]
   exact ⟨q1, q2, by simp only; omega, q4, q5⟩
  ·rw [if_neg cj] at hz
   by_cases ci : i = u
   ·subst ci
    rw [if_pos rfl, if_pos hi] at hz
    rw [← Kd hz, if_neg (by omega)]
    exact ⟨p1, p2, by simp only; omega, p4, p5⟩
   ·rw [if_neg ci] at hz
    obtain ⟨z1, z2, z3, z4⟩ := hB u z hz
    rw [if_neg (by omega)] at z3 ⊢
    exact ⟨z1, z2, z3, z4⟩
theorem z7A (F : Fix n ro ne) {at_ ax : Int} {t : Nat} {L : List (Int × z6)} (h : St n ro ne at_ ax t L bo gt mp ar) {s : Int} (hs : 0 ≤ s ∧ s < (n.Sections.length : Int)) (hno : ∀ e ∈ L, ¬ z8M e.2 s) :
  q1C s a1 a2 a3 a4 a5 a6 a7 bo a9 mp ar = some (-1, 0, mp) := by
 have hb := h.inv.B
 unfold q1C
 rw [q8K, Ka, decide_eq_true (show 0 ≤ s ∧ s < (bo.length : Int) from ⟨hs.1, by rw [hb.1]; exact hs.2⟩), if_pos rfl]
 obtain ⟨r, h1, h2⟩ := z6s F h.inv a1 a2 a3 a4 a5 a6 a7 bo a9 s
 rw [h1, q0L]
 rcases h2 with ⟨h2, _⟩ | ⟨x, h2, h3, h4⟩
 ·rw [h2]
 ·obtain ⟨e, he, h5⟩ := (h.mem _).1 h2
  have e1 : r = e.1 := congrArg (·.1) h5
  have := h.cell e he
  rw [← e1, h3] at this
  rw [Kd this] at h4
  exact absurd h4 (hno e he)
theorem j2o {at_ ax : Int} {t : Nat} {k : Int} {x : z6} (h : St n ro ne at_ ax t [(k, x)] bo gt mp ar) : mp = [(k, some k)] := by
 have hm : ∀ p, p ∈ mp ↔ p = (k, some k) := fun p => by
  rw [h.mem]
  constructor
  ·rintro ⟨e, he, rfl⟩
   rw [List.mem_singleton.1 he]
  ·rintro rfl
   exact ⟨_, List.mem_singleton.2 rfl, rfl⟩
 have hn := h.inv.nd
 cases mp with
 | nil => exact absurd ((hm (k, some k)).2 rfl) (by simp)
 | cons p q =>
  have hp := (hm p).1 List.mem_cons_self
  cases q with
  | nil => rw [hp]
  | cons p2 q =>
   have hp2 := (hm p2).1 (by simp)
   rw [hp, hp2] at hn
   simp at hn
theorem z2n (F : Fix n ro ne) {at_ ax : Int} {t : Nat} {k : Int} {x : z6} (h : St n ro ne at_ ax t [(k, x)] bo gt mp ar) : q0T a1 a2 a3 a4 a5 a6 a7 a8 a9 mp ar = some [k] := by
 have e := z3W F h.inv
 have hm := j2o h
 unfold q0T q5i q1S
 rw [Ka, e, hm]
 simp
theorem z4y {l : List v6} (hl : ∀ s ∈ l, ∃ z, idx bo s.Section = some z ∧ (decide (0 < z.axles) || z.disturbed) = false) : V4 l a1 a2 a3 a4 a5 a6 a7 bo a9 b1 b2 = some false := by
 classical
 have key : V4 l a1 a2 a3 a4 a5 a6 a7 bo a9 b1 b2 = some (decide (∃ s ∈ l, False)) :=
  q7q (fun _ : v6 => False) (fun k hk => by
   obtain ⟨z, z1, z2⟩ := hl _ (List.getElem_mem hk)
   unfold F8 q1B
   rw [Q6 hk, Ka, z1, Ka, q5A, Ka, Ka, z2, if_neg Kh, if_neg id])
 rw [key, decide_eq_false (fun ⟨_, _, h⟩ => h)]
theorem z8I (F : Fix n ro ne) {k : Int} {x : z6} (hx : J4 ar k = some x) (kx : LOk n ro ne k x) (hr : z3M n bo gt x) : q0G (some k) a1 a2 a3 a4 n.Gates a6 a7 ar bo gt mp = some true := by
 classical
 have s1 : Fp.forM (Y8 bo (W3 x)) (W3 x).length 0 () = some (.inl ()) := q2y fun j hj => by
  unfold Y8
  rw [Q6 hj, Ka]
  by_cases cp : 0 < (W3 x)[j].Position
  ·obtain ⟨s, q1, q2, q3⟩ := hr.pts _ (List.getElem_mem hj) cp
   rw [if_pos cp, q1, Ka, z8u, Ka, if_pos q2, Ka, Ka, if_neg (fun e => absurd q3 (of_decide_eq_true e))]
  ·rw [if_neg cp, Ka, if_neg Kh]
 have s2 : Fp.forM (K4 n.Gates ar gt) n.Gates.length 0 (some k) = some (.inl (some k)) := by
  rcases q1q (body := K4 n.Gates ar gt) (fun _ q => q = some k) (fun _ => False) n.Gates.length 0 (some k) rfl (fun j q _ hj hq => by
   subst hq
   have hj : j < n.Gates.length := by omega
   refine .inl ⟨some k, ?_, rfl⟩
   unfold K4
   rw [Q6 hj, Ka, Ka, hx, Ka, q9x, Ka]
   by_cases co : ∃ s ∈ x.Route.Steps, s.Section = n.Gates[j].Section
   ·obtain ⟨g, g1, g2⟩ := hr.gts j hj (by rw [Kf hj]; exact co)
    rw [if_pos (decide_eq_true co), g1, Ka, z4C, Ka, Ka, g2, if_neg (by decide)]
   ·rw [if_neg (fun e => co (of_decide_eq_true e)), Ka, if_neg Kh]) with ⟨q, h1, h2⟩ | ⟨_, _, h3⟩
  ·rw [h1, h2]
  ·exact h3.elim
 unfold q0G
 rw [z3k F kx hx, Ka, s1, Ka, Sum.elim_inl, s2, Ka, Sum.elim_inl, Ka, hx, Ka]
 by_cases cs : x.sight = true
 ·rw [if_pos cs]
  rfl
 ·rw [if_neg cs, z4y (hr.clr.resolve_left cs)]
  rfl
theorem z8a (F : Fix n ro ne) (h : Inv n ro ne bo gt mp ar) {g k : Int} {x : z6} (hg : 0 ≤ g ∧ g < (n.Signals.length : Int)) (hk : (k, some k) ∈ mp) (hx : J4 ar k = some x) (hfrom : x.Route.From = g) (hs : x.seen[0]? = some false) (hl : x.leave = 0) (hr : z3M n bo gt x) :
  ∃ v, G3 g a1 a2 a3 n.Signals n.Gates a6 a7 bo gt mp ar = some (v, 0) ∧ v ≠ 0 := by
 classical
 obtain ⟨v, h1, _⟩ := j0p (a1 := a1) (a2 := a2) (a3 := a3) (a6 := a6) (a7 := a7) F h hg
 refine ⟨v, h1, ?_⟩
 obtain ⟨kp, x', hx', kx⟩ := h.en _ hk
 have hx' : J4 ar k = some x' := hx'
 rw [hx] at hx'
 rw [← Kd hx'] at kx
 have kx : LOk n ro ne k x := kx
 have key : Ens (lim (fun N => Z2 N g a1 a2 a3 n.Signals n.Gates a6 a7 ([] : List Int) bo gt mp ar)) fun t => t.1 ≠ 0 := z3v fun N => by
  cases N with
  | zero => exact q8p
  | succ N =>
   unfold Z2
   rw [z0V, Ka, if_neg (fun e => by obtain ⟨y, hy, _⟩ := of_decide_eq_true e; cases hy), q7Z F h, Ka]
   have hkm : k ∈ ((mp.map (·.1)).mergeSort fun x y => decide (x ≤ y)) := q5e.2 (List.mem_map_of_mem (f := (·.1)) hk)
   generalize ((mp.map (·.1)).mergeSort fun x y => decide (x ≤ y)) = ks at hkm ⊢
   refine k8 fun t ht => ?_
   cases t with
   | inl u =>
    exfalso
    obtain ⟨j, hj, ej⟩ := List.getElem_of_mem hkm
    have hjm : j < (ks.map some).length := by rw [List.length_map]; exact hj
    have hb := z3m _ 0 ht j (by omega) (by omega)
    obtain ⟨b, s1, s2⟩ := kx.seen0 F
    rw [hs] at s2
    rw [← Kd s2] at s1
    unfold Z1 at hb
    rw [Q6 hjm, List.getElem_map, ej, Ka, Ka, hx, Ka, if_neg (fun c => c hfrom), s1, Ka, if_neg Kh, if_neg (by omega), z8I F hx kx hr, Ka, q0L, if_neg (by decide), Ka, hx, Ka] at hb
    by_cases cs : x.sight = true
    ·rw [if_pos cs] at hb
     cases hb
    ·rw [if_neg cs, Ka] at hb
     obtain ⟨⟨D, s⟩, _, hb⟩ := q6e hb
     have hb : (if D = true then some (Sum.inr ((3 : Int), s)) else some (Sum.inr ((2 : Int), s)) : Option (Unit ⊕ (Int × List Int))) = some (.inl ()) := hb
     cases D with
     | true => rw [if_pos rfl] at hb; cases hb
     | false => rw [if_neg Kh] at hb; cases hb
   | inr w =>
    refine w8 ?_
    obtain ⟨j, hj⟩ := z3l _ 0 ht
    have key2 : Ens (Z1 a1 a2 a3 n.Signals n.Gates a6 a7 [] bo gt mp ar g (ks.map some) (Z2 N) j ()) fun o => ∀ v : Int × List Int, o = .inr v → v.1 ≠ 0 := by
     unfold Z1
     refine k8 fun _ _ => k8 fun ⟨y, z⟩ _ => ?_
     show Ens (ite _ _ _) _
     refine Z9 (fun _ => w8 fun v hv => by cases hv) fun _ => k8 fun _ _ => k8 fun _ _ => Z9 (fun _ => w8 fun v hv => by injection hv with hv; rw [← hv]; decide) fun _ => k8 fun ⟨D, s⟩ _ => ?_
     show Ens (ite _ _ _) _
     exact Z9 (fun _ => w8 fun v hv => by injection hv with hv; rw [← hv]; exact (by decide : (3 : Int) ≠ 0)) fun _ => w8 fun v hv => by injection hv with hv; rw [← hv]; exact (by decide : (2 : Int) ≠ 0)
    exact key2 _ hj w rfl
 unfold G3 at h1
 rw [z9x, Ka, if_neg (fun e => absurd hg (of_decide_eq_true e))] at h1
 obtain ⟨⟨o, d⟩, h2, h3⟩ := q6e h1
 have h3 : some (o, (0 : Int)) = some (v, 0) := h3
 injection h3 with h3
 injection h3 with h3 _
 rw [← h3]
 exact key _ h2
end
theorem q9i {α : Type} {l : List α} {j : Nat} {x : α} : idx l (j : Int) = some x ↔ l[j]? = some x := by
 unfold idx
 rw [if_pos (by omega)]
 exact Iff.rfl
theorem z9a {l : List v6} (h : l.Pairwise fun a b => a.Section ≠ b.Section) {i j : Nat} (hi : i < l.length) (hj : j < l.length) (e : l[i].Section = l[j].Section) : i = j := by
 rcases Nat.lt_trichotomy i j with c | c | c
 ·exact absurd e (List.pairwise_iff_getElem.1 h i j hi hj c)
 ·exact c
 ·exact absurd e.symm (List.pairwise_iff_getElem.1 h j i hj hi c)
theorem q2n {ro : List z7} {k : Int} {i : Nat} (h : i < (roK ro k).Steps.length) : q2A ro k i = (roK ro k).Steps[i].Section := by
 unfold q2A
 rw [Kf h]
 rfl
def pre (ro : List z7) (ne : List (List q8)) (p : Option Int) (laps : Bool) (c : Int) : List (Int × z6) := match p with
 | none => []
 | some k => [(k, W8 ro ne k (roK ro k).Steps.length ((roK ro k).Steps.length - 1) laps c)]
theorem q2c {ro : List z7} {ne : List (List q8)} {p : Option Int} {laps : Bool} {c : Int} {e : Int × z6} : e ∈ pre ro ne p laps c ↔ ∃ k, p = some k ∧ e = (k, W8 ro ne k (roK ro k).Steps.length ((roK ro k).Steps.length - 1) laps c) := by
 cases p with
 | none => exact ⟨fun h => (List.not_mem_nil h).elim, fun ⟨_, h, _⟩ => by cases h⟩
 | some k => exact ⟨fun h => ⟨k, rfl, List.mem_singleton.1 h⟩, fun ⟨k', h, e⟩ => by injection h with h; subst h; exact List.mem_singleton.2 e⟩
structure j0A (n : j3) (ro : List z7) (ne : List (List q8)) (k at_ : Int) : Prop where
 rng : 0 ≤ at_ ∧ at_ < (n.Sections.length : Int)
 from_ : (z0E n (roK ro k).From).section_ = at_
 off : ∀ y ∈ neK ne k, y.Kind = 1 ∨ y.Kind = 2 → y.Place ≠ at_
 plain : (sec n at_).Kind = 1
structure j2M (ro : List z7) (ne : List (List q8)) (k at_ j : Int) : Prop where
 inr : InR ro j
 to_ : (roK ro j).To = (roK ro k).From
 last : q2A ro j ((roK ro j).Steps.length - 1) = at_
 clash : ∀ x ∈ neK ne j, x.Kind ≠ 2 → ∀ y ∈ neK ne k, ¬ q6c x y
 twice : ∀ s ∈ (roK ro k).Steps, ∀ t ∈ (roK ro j).Steps, t.Section ≠ s.Section
def Pos (ne : List (List q8)) (k : Int) (t : Nat) (bo : List q9) : Prop := ∀ y ∈ neK ne k, y.Position ≠ 0 → ∀ s, idx bo y.Place = some s → (s.position = y.Position ∧ s.moving = 0) ∨ (t < 5 ∧ s.position = 3 - y.Position ∧ s.moving = 5 - (t : Int))
def Gk (n : j3) (ro : List z7) (k : Int) (t : Nat) (gt : List z8) : Prop := ∀ (j : Nat) (g : z8), gt[j]? = some g → (∃ s ∈ (roK ro k).Steps, s.Section = ((n.Gates[j]?).getD ⟨0, 0⟩).Section) → g.wanted = true ∧ (g.left = 0 ∨ g.left + (t : Int) ≤ 12)
section
variable {n : j3} {ro : List z7} {ne : List (List q8)} {bo bo' : List q9} {gt gt' : List z8} {mp mp' : List (Int × Option Int)} {ar ar' : List (Int × z6)}
variable {a1 : List ByteArray} {a2 : List j0} {a3 : List j9} {a4 : List j5} {a5 : List Q2} {a6 : List z7} {a7 : List (List q8)} {a8 : List q9} {a9 : List z8} {b1 : List (Int × Option Int)} {b2 : List (Int × z6)}
theorem z3e (F : Fix n ro ne) {k : Int} (hk : InR ro k) : Y0 n (roK ro k) = some (neK ne k) := by
 have h0 := hk.1
 have h1 := hk.2
 have := F.nds k.toNat (by omega)
 rwa [show ((k.toNat : Nat) : Int) = k by omega] at this
theorem q9Z (F : Fix n ro ne) {k : Int} (hk : InR ro k) {i j : Nat} (hi : i < (roK ro k).Steps.length) (hj : j < (roK ro k).Steps.length) (e : q2A ro k i = q2A ro k j) : i = j := by
 rw [q2n hi, q2n hj] at e
 exact z9a (F.rok hk).way.path.nd hi hj e
theorem q3k (F : Fix n ro ne) {k : Int} (hk : InR ro k) {i : Nat} (hi : i < (roK ro k).Steps.length) : 0 ≤ q2A ro k i ∧ q2A ro k i < (n.Sections.length : Int) := by
 rw [q2n hi]
 exact ((F.rok hk).way.path.step _ (List.getElem_mem hi)).1.1
theorem q3M (F : Fix n ro ne) {k : Int} (hk : InR ro k) : 0 < (roK ro k).Steps.length := z3S (F.rok hk)
theorem z5B (F : Fix n ro ne) {k : Int} (hk : InR ro k) : (∀ y ∈ neK ne k, y.Position ≤ 2) ∧ ∀ x ∈ neK ne k, ∀ y ∈ neK ne k, x.Position ≠ 0 → y.Position ≠ 0 → x.Place = y.Place → x.Position = y.Position := by
 obtain ⟨lap, _, hL, hQ⟩ := q8Y F.net (F.rok hk) (z3e F hk)
 have hst := (F.rok hk).way.path.step
 have hnd := (F.rok hk).way.path.nd
 have red : ∀ x ∈ neK ne k, x.Position ≠ 0 → (∃ j : Nat, ∃ h : j < (roK ro k).Steps.length, x = ⟨1, (roK ro k).Steps[j].Section, j0Z n (roK ro k).Steps[j], (j : Int)⟩) ∨ (∃ s ∈ lap, x = ⟨2, s.Section, j0Z n s, -1⟩) ∨ (x.Kind = 3 ∧ (¬ ∃ s ∈ (roK ro k).Steps, s.Section = x.Place) ∧ ¬ ∃ s ∈ lap, s.Section = x.Place) := fun x hx hp => by
  rcases hQ.shape x hx with h | h | ⟨h1, _, h2, h3, _⟩ | ⟨_, h, _⟩ | h
  ·exact .inl h
  ·exact .inr (.inl h)
  ·exact .inr (.inr ⟨h1, h2, h3⟩)
  ·exact absurd h hp
  ·rw [h] at hp
   exact absurd rfl hp
 refine ⟨fun y hy => ?_, fun x hx y hy hxp hyp e => ?_⟩
 ·rcases hQ.shape y hy with ⟨j, hj, rfl⟩ | ⟨s, hs, rfl⟩ | ⟨_, h, _⟩ | ⟨_, h, _⟩ | rfl
  ·exact (z3b (hst _ (List.getElem_mem hj))).2.2
  ·exact (z3b (hL.1 _ hs)).2.2
  ·exact h.2
  ·rw [h]; decide
  ·exact (by decide : (0 : Int) ≤ 2)
 ·rcases red x hx hxp with ⟨j, hj, rfl⟩ | ⟨s, hs, rfl⟩ | ⟨x3, x4, x5⟩
  ·rcases red y hy hyp with ⟨i, hi, rfl⟩ | ⟨u, hu, rfl⟩ | ⟨y3, y4, y5⟩
   ·have := z9a hnd hj hi e
    subst this
    rfl
   ·exact absurd e (hL.2.1 u hu _ (List.getElem_mem hj))
   ·exact absurd ⟨_, List.getElem_mem hj, e⟩ y4
  ·rcases red y hy hyp with ⟨i, hi, rfl⟩ | ⟨u, hu, rfl⟩ | ⟨y3, y4, y5⟩
   ·exact absurd e.symm (hL.2.1 s hs _ (List.getElem_mem hi))
   ·obtain ⟨i, hi, rfl⟩ := List.getElem_of_mem hs
    obtain ⟨j, hj, rfl⟩ := List.getElem_of_mem hu
    have := z9a hL.2.2 hi hj e
    subst this
    rfl
   ·exact absurd ⟨s, hs, e⟩ y5
  ·rcases red y hy hyp with ⟨i, hi, rfl⟩ | ⟨u, hu, rfl⟩ | ⟨y3, y4, y5⟩
   ·exact absurd ⟨_, List.getElem_mem hi, e.symm⟩ x4
   ·exact absurd ⟨u, hu, e.symm⟩ x5
   ·exact hQ.fl x hx y hy x3 y3 e
theorem j0A.step (F : Fix n ro ne) {k at_ : Int} (hk : InR ro k) (h : j0A n ro ne k at_) {i : Nat} (hi : i < (roK ro k).Steps.length) : q2A ro k i ≠ at_ := by
 obtain ⟨y, hy, h1, h2, _⟩ := (F.nq hk).2.1 i hi
 have := h.off y hy (.inl h1)
 rw [h2] at this
 exact this
theorem St.owned {at_ ax : Int} {t : Nat} {L : List (Int × z6)} (h : St n ro ne at_ ax t L bo gt mp ar) (s : Int) : z2b mp ar s ↔ ∃ e ∈ L, z8M e.2 s := by
 constructor
 ·rintro ⟨p, hp, x, hx, ho⟩
  obtain ⟨e, he, rfl⟩ := (h.mem p).1 hp
  have hx : J4 ar e.1 = some x := hx
  rw [h.cell e he] at hx
  rw [← Kd hx] at ho
  exact ⟨e, he, ho⟩
 ·rintro ⟨e, he, ho⟩
  exact ⟨(e.1, some e.1), (h.mem _).2 ⟨e, he, rfl⟩, e.2, h.cell e he, ho⟩
theorem j2M.ne_ (F : Fix n ro ne) {k at_ j : Int} (hk : InR ro k) (h : j2M ro ne k at_ j) : j ≠ k := fun e => by
 subst e
 have hp := q3M F hk
 exact h.twice _ (List.getElem_mem hp) _ (List.getElem_mem hp) rfl
theorem Bd.rest0 {at_ ax : Int} (h : Bd at_ ax 5 bo) {j : Nat} {s : q9} (hs : bo[j]? = some s) : s.moving = 0 := by
 obtain ⟨_, _, _, h4, h5⟩ := h j s hs
 omega
theorem j3B (hc : J5 n = some 0) (F : Fix n ro ne) {k at_ ax c : Int} {p : Option Int} (hk : InR ro k) (H : j0A n ro ne k at_) (hp : ∀ j, p = some j → j2M ro ne k at_ j) (h : St n ro ne at_ ax 5 (pre ro ne p true c) bo gt mp ar) :
  ∃ bo' gt' mp' ar', q2w k false a1 n.Sections a3 a4 n.Gates ro ne bo gt mp ar = some (0, bo', gt', mp', ar') ∧ St n ro ne at_ ax 0 (pre ro ne p false c ++ [(k, W8 ro ne k 0 0 true 0)]) bo' gt' mp' ar' ∧ Pos ne k 0 bo' ∧ Gk n ro k 0 gt' := by
 have hb := h.inv.B
 have hnew : k ∉ mp.map (·.1) := fun hm => by
  obtain ⟨q, hq, e⟩ := List.mem_map.1 hm
  obtain ⟨e0, he0, rfl⟩ := (h.mem q).1 hq
  obtain ⟨j, hj, rfl⟩ := q2c.1 he0
  exact (hp j hj).ne_ F hk e
 have hapt : Apt ro ne mp ar k := fun q hq x hx y hy hny a ha hm => by
  obtain ⟨e0, he0, rfl⟩ := (h.mem q).1 hq
  have hx : J4 ar e0.1 = some x := hx
  rw [h.cell e0 he0] at hx
  obtain ⟨j, hj, rfl⟩ := q2c.1 he0
  have P := hp j hj
  have hx := Kd hx
  have hyn : y ∈ neK ne j := by
   have := (q0v.1 hy).1
   rw [← hx] at this
   exact this
  have hto : x.Route.To = (roK ro k).From := by
   rw [← hx]
   exact P.to_
  exact P.clash y hyn (fun e => hny ⟨e, hto⟩) a ha (z6B hm)
 have hfree : j7n bo (neK ne k) := by
  have hpl := z0H F hk (l := neK ne k) (fun y hy => hy)
  refine ⟨fun y hy hy0 s hs => ?_, fun y hy hyk s hs => ?_⟩
  ·have hr := hpl y hy (.inr (.inr hy0))
   obtain ⟨j, hj⟩ : ∃ j : Nat, y.Place = (j : Int) := ⟨y.Place.toNat, by omega⟩
   rw [hj] at hs
   have hs := q9i.1 hs
   obtain ⟨b1, b2, b3, b4, b5⟩ := h.bd j s hs
   refine ⟨b2, h.bd.rest0 hs, fun hsh => ?_⟩
   have hk2 := ((F.nq hk).1 y hy).pts hy0
   rw [b1, b3] at hsh
   by_cases c1 : (j : Int) = at_
   ·rw [hj, c1, H.plain] at hk2
    exact absurd hk2 (by decide)
   ·rw [if_neg c1] at hsh
    exact absurd hsh (by decide)
  ·have hr := hpl y hy (hyk.elim .inl (fun h => .inr (.inl h)))
   obtain ⟨j, hj⟩ : ∃ j : Nat, y.Place = (j : Int) := ⟨y.Place.toNat, by omega⟩
   have hne := H.off y hy hyk
   rw [hj] at hs hne
   obtain ⟨b1, b2, b3, b4, b5⟩ := h.bd j s (q9i.1 hs)
   rw [b1, b3, if_neg hne]
   rfl
 obtain ⟨bo', gt', l1, l2, ⟨l3, l4⟩, l5, l6⟩ := j1m (a1 := a1) (a3 := a3) (a4 := a4) F h.inv hk hnew hapt hfree
 have hback : ∀ (j : Nat) (s' : q9), bo'[j]? = some s' → ∃ s v, bo[j]? = some s ∧ s' = ⟨s.axles, s.disturbed, s.position, v, s.failed⟩ ∧ (v = s.moving ∨ s.moving = 0 ∧ v = 5 ∧ ∃ y ∈ neK ne k, y.Position ≠ 0 ∧ y.Place = (j : Int) ∧ s.position ≠ y.Position) ∧ (s.moving = 0 → (∃ y ∈ neK ne k, y.Position ≠ 0 ∧ y.Place = (j : Int) ∧ s.position ≠ y.Position) → v = 5) := fun j s' hs' => by
  have hj : j < bo.length := by
   have := (List.getElem?_eq_some_iff.1 hs').1
   omega
  obtain ⟨v, v1, v2⟩ := l4 j _ (Kf hj)
  rw [hs'] at v1
  exact ⟨_, v, Kf hj, Kd v1, v2⟩
 have hS : St n ro ne at_ ax 0 (pre ro ne p false c ++ [(k, W8 ro ne k 0 0 true 0)]) bo' gt' (X7 mp k (some k)) (X7 (cells (fun _ => z3j (roK ro k).From) mp ar) k (z4h ro k (neK ne k) false)) := by
  refine ⟨l2, fun j s' hs' => ?_, Gt.wants (fun j hj => (q5k hc hj).1) h.gts.len h.gts.ok l5 l6, ?_, fun q => ?_, fun e he => ?_⟩
  ·obtain ⟨s, v, s1, rfl, s2, _⟩ := hback j s' hs'
   obtain ⟨b1, b2, b3, b4, b5⟩ := h.bd j s s1
   refine ⟨b1, b2, b3, ?_, ?_⟩
   ·show 0 ≤ v
    rcases s2 with e | ⟨_, e, _⟩ <;> omega
   ·show v = 0 ∨ v + ((0 : Nat) : Int) ≤ 5
    have := h.bd.rest0 s1
    rcases s2 with e | ⟨_, e, _⟩ <;> omega
  ·cases p with
   | none => simp [pre]
   | some j =>
    have := (hp j rfl).ne_ F hk
    simpa [pre] using this
  ·rw [z6x hnew, List.mem_append, h.mem]
   constructor
   ·rintro (⟨e, he, rfl⟩ | hq)
    ·obtain ⟨j, hj, rfl⟩ := q2c.1 he
     exact ⟨_, List.mem_append_left _ (q2c.2 ⟨j, hj, rfl⟩), rfl⟩
    ·rw [List.mem_singleton.1 hq]
     exact ⟨_, List.mem_append_right _ (List.mem_singleton.2 rfl), rfl⟩
   ·rintro ⟨e, he, rfl⟩
    rcases List.mem_append.1 he with he | he
    ·obtain ⟨j, hj, rfl⟩ := q2c.1 he
     exact .inl ⟨_, q2c.2 ⟨j, hj, rfl⟩, rfl⟩
    ·rw [List.mem_singleton.1 he]
     exact .inr (List.mem_singleton.2 rfl)
  ·rcases List.mem_append.1 he with he | he
   ·obtain ⟨j, hj, rfl⟩ := q2c.1 he
    have P := hp j hj
    have hm := h.cell _ (q2c.2 ⟨j, hj, rfl⟩)
    have hm : J4 ar j = some (W8 ro ne j (roK ro j).Steps.length ((roK ro j).Steps.length - 1) true c) := hm
    have hjm : j ∈ mp.map (·.1) := List.mem_map_of_mem (f := (·.1)) ((h.mem (j, some j)).2 ⟨_, q2c.2 ⟨j, hj, rfl⟩, rfl⟩)
    show J4 (X7 _ k _) j = _
    rw [Z5 _ _ (P.ne_ F hk), q5p _ _ _ _ h.inv.nd, hm, Option.map_some, if_pos hjm]
    unfold z3j
    rw [if_pos (show (W8 ro ne j (roK ro j).Steps.length ((roK ro j).Steps.length - 1) true c).Route.To = (roK ro k).From from P.to_)]
    rfl
   ·rw [List.mem_singleton.1 he]
    show J4 (X7 _ k _) k = _
    rw [J0]
    rfl
 refine ⟨bo', gt', _, _, l1, hS, fun y hy hy0 s' hs' => ?_, fun j g' hg' hon => ?_⟩
 ·have hN := (F.nq hk).1 y hy
  have hr := hN.place (.inr (.inr hy0))
  obtain ⟨j, hj⟩ : ∃ j : Nat, y.Place = (j : Int) := ⟨y.Place.toNat, by omega⟩
  rw [hj] at hs'
  obtain ⟨s, v, s1, rfl, s2, s3⟩ := hback j s' (q9i.1 hs')
  have hmov := h.bd.rest0 s1
  obtain ⟨_, _, hpos⟩ := hb.2 s (List.mem_of_getElem? s1)
  have hA := z5B F hk
  have h2 := hA.1 y hy
  have h0 := hN.pos
  by_cases ce : s.position = y.Position
  ·refine .inl ⟨ce, ?_⟩
   show v = 0
   rcases s2 with e | ⟨_, _, z, hz, hz0, hzp, hzn⟩
   ·rw [e]; exact hmov
   ·have := hA.2 z hz y hy hz0 hy0 (by rw [hzp, hj])
    rw [this] at hzn
    exact absurd ce hzn
  ·refine .inr ⟨by decide, ?_, ?_⟩
   ·show s.position = 3 - y.Position
    omega
   ·show v = 5 - ((0 : Nat) : Int)
    have := s3 hmov ⟨y, hy, hy0, hj, ce⟩
    omega
 ·have hj : j < gt.length := by
   have := (List.getElem?_eq_some_iff.1 hg').1
   omega
  have hjn : j < n.Gates.length := by
   have := h.gts.len
   omega
  obtain ⟨g2, w0, w1, w2, w3⟩ := l6 j _ (Kf hj)
  rw [hg'] at w0
  rw [← Kd w0] at w1 w2 w3
  obtain ⟨u, hu, hus⟩ := hon
  obtain ⟨i, hi, rfl⟩ := List.getElem_of_mem hu
  have hown : z2b (X7 mp k (some k)) (X7 (cells (fun _ => z3j (roK ro k).From) mp ar) k (z4h ro k (neK ne k) false)) ((n.Gates[j]?).getD ⟨0, 0⟩).Section := (hS.owned _).2 ⟨_, List.mem_append_right _ (List.mem_singleton.2 rfl), (q3z (Nat.zero_le _)).2 ⟨i, Nat.zero_le _, hi, by rw [q2n hi]; exact hus⟩⟩
  obtain ⟨w4, w5, w6⟩ := w2 hown
  have hno : gt[j].wanted = false := by
   cases hw : gt[j].wanted with
   | false => rfl
   | true =>
    have := (h.gts.want j _ (Kf hj)).1 hw
    obtain ⟨e, he, ho⟩ := (h.owned _).1 this
    obtain ⟨q, hq, rfl⟩ := q2c.1 he
    obtain ⟨i2, _, hi2, e2⟩ := (q3z (by omega)).1 ho
    rw [q2n hi2] at e2
    exact absurd (e2.trans hus.symm) ((hp q hq).twice _ (List.getElem_mem hi) _ (List.getElem_mem hi2))
  refine ⟨w4, .inr ?_⟩
  rw [w6 hno, Kf hjn]
  have := (q5k hc hjn).2
  show n.Gates[j].Close + ((0 : Nat) : Int) ≤ 12
  omega
end
section
variable {n : j3} {ro : List z7} {ne : List (List q8)} {bo bo' : List q9} {gt gt' : List z8} {mp mp' : List (Int × Option Int)} {ar ar' : List (Int × z6)}
variable {a1 : List ByteArray} {a2 : List j0} {a3 : List j9} {a4 : List j5} {a5 : List Q2} {a6 : List z7} {a7 : List (List q8)} {a8 : List q9} {a9 : List z8} {b1 : List (Int × Option Int)} {b2 : List (Int × z6)}
theorem j1i (F : Fix n ro ne) {k : Int} (hk : InR ro k) : (z1A bo (q7t (W8 ro ne k 0 0 true 0))).2 = false ∧ z5e bo (q7t (W8 ro ne k 0 0 true 0)) = W8 ro ne k 0 0 true 0 := by
 have hm := q3M F hk
 have e : q7t (W8 ro ne k 0 0 true 0) = W8 ro ne k 0 0 true 0 := by
  rw [q4l hm (Nat.zero_le _), if_neg (by omega)]
 obtain ⟨h1, h2⟩ := q7W (ro := ro) (bo := bo) (ne := ne) (k := k) (s := 0) (g := 0) (t := 0) (laps := true) (c := 0) (Nat.le_refl 0) (Nat.zero_le (roK ro k).Steps.length) (fun i h1 h2 => by omega) (fun h => by rw [q4i (Nat.zero_le _) h]; rfl)
 rw [e, h1]
 exact ⟨decide_eq_false (by omega), h2⟩
theorem z3d (F : Fix n ro ne) {k c : Int} {laps : Bool} (hk : InR ro k) (hs : q4k bo (q2A ro k ((roK ro k).Steps.length - 1)) = true) : (z1A bo (W8 ro ne k (roK ro k).Steps.length ((roK ro k).Steps.length - 1) laps c)).2 = false ∧ z5e bo (W8 ro ne k (roK ro k).Steps.length ((roK ro k).Steps.length - 1) laps c) = W8 ro ne k (roK ro k).Steps.length ((roK ro k).Steps.length - 1) laps c := by
 have hm := q3M F hk
 obtain ⟨h1, h2⟩ := q7W (ro := ro) (bo := bo) (ne := ne) (k := k) (s := (roK ro k).Steps.length) (g := (roK ro k).Steps.length - 1) (t := (roK ro k).Steps.length - 1) (laps := laps) (c := c) (Nat.le_refl _) (by omega) (fun i h1 h2 => by omega) (fun h => by rw [q4i (Nat.le_refl _) h, hs, Bool.or_true, Bool.true_or])
 rw [h1]
 exact ⟨decide_eq_false (by omega), h2⟩
theorem z8w {L : List (Int × z6)} (h : ∀ e ∈ L, (z1A bo (q7t e.2)).2 = false ∧ z5e bo (q7t e.2) = e.2) : q6l bo L = L := by
 unfold q6l
 rw [List.filter_eq_self.2 (fun e he => by rw [(h e he).1]; rfl), List.map_congr_left (g := id) (fun e he => by rw [(h e he).2]; rfl), List.map_id]
theorem Bd.shown {at_ ax : Int} {t : Nat} (h : Bd at_ ax t bo) (hax : 0 < ax) (hr : 0 ≤ at_ ∧ at_ < (bo.length : Int)) : q4k bo at_ = true := by
 rw [h.shows hax hr, decide_eq_true rfl]
theorem Pos.second (F : Fix n ro ne) {k at_ ax : Int} {t : Nat} (hk : InR ro k) (hB : Bd at_ ax t bo) (h : Pos ne k t bo) : Pos ne k (t + 1) (bo.map q6g) := fun y hy hy0 s' hs' => by
 have hr := ((F.nq hk).1 y hy).place (.inr (.inr hy0))
 obtain ⟨j, hj⟩ : ∃ j : Nat, y.Place = (j : Int) := ⟨y.Place.toNat, by omega⟩
 rw [hj] at hs'
 have hs' := q9i.1 hs'
 rw [List.getElem?_map] at hs'
 cases hq : bo[j]? with
 | none => rw [hq] at hs'; cases hs'
 | some s =>
  rw [hq] at hs'
  have hs' : some (q6g s) = some s' := hs'
  rw [← Kd hs']
  obtain ⟨_, b2, _, _, _⟩ := hB j s hq
  rcases h y hy hy0 s (by rw [hj]; exact q9i.2 hq) with ⟨c1, c2⟩ | ⟨c1, c2, c3⟩
  ·unfold q6g
   rw [if_pos (.inl c2)]
   exact .inl ⟨c1, c2⟩
  ·unfold q6g
   have hmv : ¬ (s.moving = 0 ∨ s.failed = true) := by
    rintro (e | e)
    ·omega
    ·rw [b2] at e
     cases e
   rw [if_neg hmv]
   by_cases c4 : s.moving - 1 = 0
   ·rw [if_pos c4]
    refine .inl ⟨?_, c4⟩
    show 3 - s.position = y.Position
    omega
   ·rw [if_neg c4]
    refine .inr ⟨by omega, c2, ?_⟩
    show s.moving - 1 = 5 - ((t + 1 : Nat) : Int)
    omega
theorem z5p (hc : J5 n = some 0) (F : Fix n ro ne) {k at_ ax c : Int} {p : Option Int} {t : Nat} (hk : InR ro k) (H : j0A n ro ne k at_) (hp : ∀ j, p = some j → j2M ro ne k at_ j) (hax : 0 < ax) (h : St n ro ne at_ ax t (pre ro ne p false c ++ [(k, W8 ro ne k 0 0 true 0)]) bo gt mp ar) (hP : Pos ne k t bo) (hG : Gk n ro k t gt) :
  ∃ gt' mp' ar', Y5 a1 a2 a3 a4 n.Gates a6 a7 bo gt mp ar = some (bo.map q6g, gt', mp', ar') ∧ St n ro ne at_ ax (t + 1) (pre ro ne p false c ++ [(k, W8 ro ne k 0 0 true 0)]) (bo.map q6g) gt' mp' ar' ∧ Pos ne k (t + 1) (bo.map q6g) ∧ Gk n ro k (t + 1) gt' := by
 obtain ⟨gt', mp', ar', h1, h2, h3⟩ := h.second (a1 := a1) (a2 := a2) (a3 := a3) (a4 := a4) (a6 := a6) (a7 := a7) (fun j hj => (q5k hc hj).1) F (fun e he => by
  rcases List.mem_append.1 he with he | he
  ·obtain ⟨j, _, rfl⟩ := q2c.1 he
   rfl
  ·rw [List.mem_singleton.1 he]
   rfl)
 have hkeep : q6l (bo.map q6g) (pre ro ne p false c ++ [(k, W8 ro ne k 0 0 true 0)]) = pre ro ne p false c ++ [(k, W8 ro ne k 0 0 true 0)] := z8w fun e he => by
  rcases List.mem_append.1 he with he | he
  ·obtain ⟨j, hj, rfl⟩ := q2c.1 he
   have P := hp j hj
   have hm := q3M F P.inr
   show (z1A _ (q7t (W8 ro ne j (roK ro j).Steps.length ((roK ro j).Steps.length - 1) false c))).2 = false ∧ z5e _ (q7t (W8 ro ne j (roK ro j).Steps.length ((roK ro j).Steps.length - 1) false c)) = _
   rw [q4l hm (Nat.le_refl _), if_neg (fun e => by cases e.2)]
   exact z3d F P.inr (by
    rw [P.last]
    exact h2.bd.shown hax (by rw [h2.inv.B.1]; exact H.rng))
  ·rw [List.mem_singleton.1 he]
   exact j1i F hk
 rw [hkeep] at h2
 refine ⟨gt', mp', ar', h1, h2, hP.second F hk h.bd, fun j g' hg' hon => ?_⟩
 have hj : j < gt.length := by
  have := (List.getElem?_eq_some_iff.1 hg').1
  have := h.gts.len
  have := h2.gts.len
  omega
 obtain ⟨g2, w0, w1, w2, w3⟩ := h3 j _ (Kf hj)
 rw [hg'] at w0
 rw [← Kd w0] at w1 w2 w3
 obtain ⟨q1, q2⟩ := hG j _ (Kf hj) hon
 obtain ⟨f1, f2⟩ := h.gts.ok _ (List.getElem_mem hj)
 obtain ⟨u, hu, hus⟩ := hon
 obtain ⟨i, hi, rfl⟩ := List.getElem_of_mem hu
 have hown : z2b mp' ar' ((n.Gates[j]?).getD ⟨0, 0⟩).Section := (h2.owned _).2 ⟨_, List.mem_append_right _ (List.mem_singleton.2 rfl), (q3z (Nat.zero_le _)).2 ⟨i, Nat.zero_le _, hi, by rw [q2n hi]; exact hus⟩⟩
 obtain ⟨w4, w5, _⟩ := w2 hown
 have hsg := z8H ⟨f1, f2⟩
 refine ⟨w4, ?_⟩
 rw [w5 (by rw [hsg.2.2]; exact q1)]
 unfold z7u
 by_cases cl : 0 < gt[j].left
 ·rw [if_pos ⟨q1, cl, f1⟩]
  show gt[j].left - 1 = 0 ∨ gt[j].left - 1 + ((t + 1 : Nat) : Int) ≤ 12
  omega
 ·rw [if_neg (fun e => cl e.2.1)]
  exact .inl (by omega)
theorem j6x (hc : J5 n = some 0) (F : Fix n ro ne) {k at_ ax c : Int} {p : Option Int} (hk : InR ro k) (H : j0A n ro ne k at_) (hp : ∀ j, p = some j → j2M ro ne k at_ j) (hax : 0 < ax) (h : St n ro ne at_ ax 0 (pre ro ne p false c ++ [(k, W8 ro ne k 0 0 true 0)]) bo gt mp ar) (hP : Pos ne k 0 bo) (hG : Gk n ro k 0 gt) :
  ∃ bo' gt' mp' ar', Fp.forS (K1 a1 a2 a3 a4 n.Gates a6 a7) 15 0 (bo, gt, mp, ar) = some (bo', gt', mp', ar') ∧ St n ro ne at_ ax 15 (pre ro ne p false c ++ [(k, W8 ro ne k 0 0 true 0)]) bo' gt' mp' ar' ∧ Pos ne k 15 bo' ∧ Gk n ro k 15 gt' := by
 obtain ⟨⟨bo', gt', mp', ar'⟩, h1, h2⟩ := H6 (body := K1 a1 a2 a3 a4 n.Gates a6 a7) (fun t S => St n ro ne at_ ax t (pre ro ne p false c ++ [(k, W8 ro ne k 0 0 true 0)]) S.1 S.2.1 S.2.2.1 S.2.2.2 ∧ Pos ne k t S.1 ∧ Gk n ro k t S.2.1) 15 0 (bo, gt, mp, ar) ⟨h, hP, hG⟩ (fun t S _ _ hS => by
  obtain ⟨bo, gt, mp, ar⟩ := S
  obtain ⟨s1, s2, s3⟩ := hS
  obtain ⟨gt', mp', ar', h1, h2⟩ := z5p (a1 := a1) (a2 := a2) (a3 := a3) (a4 := a4) (a6 := a6) (a7 := a7) hc F hk H hp hax s1 s2 s3
  refine ⟨(bo.map q6g, gt', mp', ar'), ?_, h2⟩
  unfold K1
  show Option.bind _ _ = _
  rw [h1]
  rfl)
 exact ⟨bo', gt', mp', ar', h1, by simpa using h2⟩
theorem z8E (F : Fix n ro ne) {k at_ ax c : Int} {p : Option Int} (hk : InR ro k) (H : j0A n ro ne k at_) (hax : 0 < ax) (h : St n ro ne at_ ax 15 (pre ro ne p false c ++ [(k, W8 ro ne k 0 0 true 0)]) bo gt mp ar) (hP : Pos ne k 15 bo) (hG : Gk n ro k 15 gt) :
  ∃ v, G3 (roK ro k).From a1 a2 a3 n.Signals n.Gates a6 a7 bo gt mp ar = some (v, 0) ∧ v ≠ 0 := by
 have hR := F.rok hk
 have hm := q3M F hk
 have hb := h.inv.B
 have hmem : (k, some k) ∈ mp := (h.mem _).2 ⟨_, List.mem_append_right _ (List.mem_singleton.2 rfl), rfl⟩
 have hcell : J4 ar k = some (W8 ro ne k 0 0 true 0) := h.cell (k, W8 ro ne k 0 0 true 0) (List.mem_append_right _ (List.mem_singleton.2 rfl))
 refine z8a F h.inv hR.from_ hmem hcell rfl ?_ rfl ⟨fun y hy hy0 => ?_, fun j hj hon => ?_, .inr fun s hs => ?_⟩
 ·show (tf 0 (roK ro k).Steps.length)[0]? = some false
  rw [q5V (Nat.zero_le _) hm]
  rfl
 ·have hy : y ∈ neK ne k := (q0v.1 hy).1
  have hr := ((F.nq hk).1 y hy).place (.inr (.inr (by omega)))
  obtain ⟨s, s1, _⟩ := hb.get hr
  obtain ⟨j, hj⟩ : ∃ j : Nat, y.Place = (j : Int) := ⟨y.Place.toNat, by omega⟩
  rcases hP y hy (by omega) s s1 with ⟨c1, c2⟩ | ⟨c1, _⟩
  ·refine ⟨s, s1, ?_, c1⟩
   rw [hj] at s1
   obtain ⟨_, b2, _⟩ := h.bd j s (q9i.1 s1)
   rw [c2, b2]
   rfl
  ·omega
 ·have hjg : j < gt.length := by
   have := h.gts.len
   omega
  refine ⟨gt[j], Q6 hjg, ?_⟩
  obtain ⟨q1, q2⟩ := hG j _ (Kf hjg) hon
  obtain ⟨f1, f2⟩ := h.gts.ok _ (List.getElem_mem hjg)
  rw [q1, f1, decide_eq_true (show gt[j].left = 0 by omega)]
  rfl
 ·obtain ⟨i, hi, rfl⟩ := List.getElem_of_mem (show s ∈ (roK ro k).Steps from hs)
  have hr := q3k F hk hi
  have hne := H.step F hk hi
  have hsh := h.bd.shows hax (s := q2A ro k i) (by rw [hb.1]; exact hr)
  obtain ⟨b, e1, _⟩ := hb.get hr
  unfold q4k at hsh
  rw [e1, decide_eq_false hne] at hsh
  rw [q2n hi] at e1
  exact ⟨b, e1, hsh⟩
end
theorem z3T (bo : List q9) (A B : List (Int × z6)) : q6l bo (A ++ B) = q6l bo A ++ q6l bo B := by
 unfold q6l
 rw [List.filter_append, List.map_append]
theorem z7r {bo : List q9} {A : List (Int × z6)} (h : ∀ e ∈ A, (z1A bo (q7t e.2)).2 = true) : q6l bo A = [] := by
 unfold q6l
 rw [List.filter_eq_nil_iff.2 (fun e he => by rw [h e he]; decide)]
 rfl
theorem z0s {bo : List q9} {k : Int} {x y : z6} (h1 : (z1A bo (q7t x)).2 = false) (h2 : z5e bo (q7t x) = y) : q6l bo [(k, x)] = [(k, y)] := by
 unfold q6l
 rw [List.filter_eq_self.2 (fun e he => by rw [List.mem_singleton.1 he, h1]; rfl), List.map_singleton, h2]
theorem z6E {L : List (Int × z6)} {p : Int × Option Int} : (∃ e ∈ L, p = (e.1, some e.1)) ↔ ∃ a ∈ L.map (·.1), p = (a, some a) := by
 constructor
 ·rintro ⟨e, he, rfl⟩
  exact ⟨e.1, List.mem_map_of_mem he, rfl⟩
 ·rintro ⟨a, ha, rfl⟩
  obtain ⟨e, he, rfl⟩ := List.mem_map.1 ha
  exact ⟨e, he, rfl⟩
section
variable {n : j3} {ro : List z7} {ne : List (List q8)} {bo bo' : List q9} {gt gt' : List z8} {mp mp' : List (Int × Option Int)} {ar ar' : List (Int × z6)}
variable {a1 : List ByteArray} {a2 : List j0} {a3 : List j9} {a4 : List j5} {a5 : List Q2} {a6 : List z7} {a7 : List (List q8)} {a8 : List q9} {a9 : List z8} {b1 : List (Int × Option Int)} {b2 : List (Int × z6)}
theorem z9n {e g : v7} (h : q1Y n.Links e = some g) : ∃ l ∈ n.Links, l.A = e.section_ ∧ l.B = g.section_ ∨ l.A = g.section_ ∧ l.B = e.section_ := by
 obtain ⟨x, hx, ⟨h1, h2⟩ | ⟨h1, h2⟩⟩ := q6y h
 ·exact ⟨x, hx, .inl ⟨congrArg v7.section_ h1, congrArg v7.section_ h2⟩⟩
 ·exact ⟨x, hx, .inr ⟨congrArg v7.section_ h2, congrArg v7.section_ h1⟩⟩
theorem St.rest {at_ ax : Int} {t : Nat} {L : List (Int × z6)} (h : St n ro ne at_ ax t L bo gt mp ar) (ht : 5 ≤ t) : St n ro ne at_ ax 5 L bo gt mp ar := ⟨h.inv, h.bd.rest ht, h.gts, h.nd, h.mem, h.cell⟩
def q6z (ro : List z7) (ne : List (List q8)) (p : Option Int) (c : Int) (k : Int) (s j : Nat) (c' : Int) : List (Int × z6) := pre ro ne p false c ++ [(k, W8 ro ne k s j true c')]
theorem z2w {p : Option Int} {c k c' c2 : Int} {s j s2 j2 : Nat} : (q6z ro ne p c k s j c').map (·.1) = (q6z ro ne p c k s2 j2 c2).map (·.1) := by
 unfold q6z
 rw [List.map_append, List.map_append]
 rfl
theorem j3q (F : Fix n ro ne) {at_ ax k c : Int} {p : Option Int} {j : Nat} (hk : InR ro k) (hax : 1 ≤ ax ∧ ax ≤ 400) (hj : j < (roK ro k).Steps.length) (h : St n ro ne at_ ax 5 (q6z ro ne p c k j (j - 1) 0) bo gt mp ar) (hat : 0 ≤ at_ ∧ at_ < (n.Sections.length : Int)) (hne : at_ ≠ q2A ro k j) (hl : ∃ l ∈ n.Links, l.A = at_ ∧ l.B = q2A ro k j ∨ l.A = q2A ro k j ∧ l.B = at_)
  (hp : ∀ q, p = some q → InR ro q ∧ q ≠ k ∧ ∀ i, i < (roK ro q).Steps.length → q2A ro q i ≠ q2A ro k j) :
  ∃ bo' ar', q2v at_ (q2A ro k j) ax a1 n.Sections n.Links a4 a5 a6 a7 bo a9 mp ar = some (0, bo', mp, ar') ∧ St n ro ne (q2A ro k j) ax 5 (q6z ro ne p c k (j + 1) (j - 1) 0) bo' gt mp ar' := by
 obtain ⟨bo', p1, p2, p3⟩ := j1b (a1 := a1) (a4 := a4) (a5 := a5) (a6 := a6) (a7 := a7) (a9 := a9) F h.inv hat (q3k F hk hj) hne hl hax h.bd
 refine ⟨bo', _, p1, ?_⟩
 have hcell : ∀ e ∈ q6z ro ne p c k (j + 1) (j - 1) 0, J4 (cells (fun _ x => P5 (q2A ro k j) x x.Route.Steps.length) mp ar) e.1 = some e.2 := fun e he => by
  rw [q5p _ _ _ _ h.inv.nd]
  rcases List.mem_append.1 he with he | he
  ·obtain ⟨q, hq, rfl⟩ := q2c.1 he
   have hm := List.mem_append_left [(k, W8 ro ne k j (j - 1) true 0)] he
   have h1 := h.cell _ hm
   have h2 := List.mem_map_of_mem (f := (·.1)) ((h.mem _).2 ⟨_, hm, rfl⟩)
   simp only at h1 h2 ⊢
   rw [h1, Option.map_some, if_pos h2, z2p]
   exact fun i hi => (hp q hq).2.2 i hi
  ·rw [List.mem_singleton.1 he]
   have hm : (k, W8 ro ne k j (j - 1) true 0) ∈ q6z ro ne p c k j (j - 1) 0 := List.mem_append_right _ (List.mem_singleton.2 rfl)
   have h1 := h.cell _ hm
   have h2 := List.mem_map_of_mem (f := (·.1)) ((h.mem _).2 ⟨_, hm, rfl⟩)
   simp only at h1 h2 ⊢
   rw [h1, Option.map_some, if_pos h2]
   show some (P5 (q2A ro k j) (W8 ro ne k j (j - 1) true 0) (roK ro k).Steps.length) = _
   rw [z6r hj (by omega) (fun i hi => ⟨fun e => q9Z F hk hi hj e, fun e => by rw [e]⟩) _ (Nat.le_refl _), if_pos hj]
 have hmem : ∀ q, q ∈ mp ↔ ∃ e ∈ q6z ro ne p c k (j + 1) (j - 1) 0, q = (e.1, some e.1) := fun q => by
  rw [h.mem, z6E, z6E, z2w]
 have hown : ∀ s, z2b mp (cells (fun _ x => P5 (q2A ro k j) x x.Route.Steps.length) mp ar) s ↔ z2b mp ar s := fun s => by
  rw [h.owned]
  constructor
  ·rintro ⟨q, hq, x, hx, ho⟩
   obtain ⟨e, he, rfl⟩ := (hmem q).1 hq
   have hx : J4 _ e.1 = some x := hx
   rw [hcell e he] at hx
   rw [← Kd hx] at ho
   rcases List.mem_append.1 he with he | he
   ·exact ⟨e, List.mem_append_left _ he, ho⟩
   ·rw [List.mem_singleton.1 he] at ho
    exact ⟨_, List.mem_append_right _ (List.mem_singleton.2 rfl), (q3z (by omega)).2 ((q3z (by omega)).1 ho)⟩
  ·rintro ⟨e, he, ho⟩
   rcases List.mem_append.1 he with he | he
   ·have hm : e ∈ q6z ro ne p c k (j + 1) (j - 1) 0 := List.mem_append_left _ he
    exact ⟨_, (hmem _).2 ⟨e, hm, rfl⟩, _, hcell e hm, ho⟩
   ·rw [List.mem_singleton.1 he] at ho
    have hm : (k, W8 ro ne k (j + 1) (j - 1) true 0) ∈ q6z ro ne p c k (j + 1) (j - 1) 0 := List.mem_append_right _ (List.mem_singleton.2 rfl)
    exact ⟨_, (hmem _).2 ⟨_, hm, rfl⟩, _, hcell _ hm, (q3z (by omega)).2 ((q3z (by omega)).1 ho)⟩
 exact ⟨p2, p3, ⟨h.gts.len, h.gts.ok, fun i g hg => (h.gts.want i g hg).trans (hown _).symm⟩, by rw [z2w (s2 := j) (j2 := j - 1) (c2 := 0)]; exact h.nd, hmem, hcell⟩
theorem z6k (hc : J5 n = some 0) (F : Fix n ro ne) {at_ ax k c : Int} {p : Option Int} {j : Nat} (hk : InR ro k) (hax : 1 ≤ ax ∧ ax ≤ 400) (hj : j < (roK ro k).Steps.length) (h : St n ro ne at_ ax 5 (q6z ro ne p c k j (j - 1) 0) bo gt mp ar) (hat : 0 ≤ at_ ∧ at_ < (n.Sections.length : Int)) (hl : ∃ l ∈ n.Links, l.A = at_ ∧ l.B = q2A ro k j ∨ l.A = q2A ro k j ∧ l.B = at_)
  (hp : ∀ q, p = some q → InR ro q ∧ q ≠ k ∧ ∀ i, i < (roK ro q).Steps.length → q2A ro q i ≠ q2A ro k j) (hback : ∀ i, j ≤ i → i < (roK ro k).Steps.length → q2A ro k i ≠ at_) :
  ∃ bo' gt' mp' ar', J9 ax a1 n.Sections n.Links a4 n.Gates a6 a7 (roK ro k) j (at_, bo, gt, mp, ar) = some (.inl (q2A ro k j, bo', gt', mp', ar')) ∧ St n ro ne (q2A ro k j) ax 5 (q6z ro ne none 0 k (j + 1) j (if j + 1 = (roK ro k).Steps.length then 1 else 0)) bo' gt' mp' ar' := by
 have hm := q3M F hk
 obtain ⟨bo1, ar1, p1, p2⟩ := j3q (a1 := a1) (a4 := a4) (a5 := n.Gates) (a6 := a6) (a7 := a7) (a9 := gt) F hk hax hj h hat (fun e => hback j (Nat.le_refl _) hj e.symm) hl hp
 obtain ⟨gt2, mp2, ar2, s1, s2, _⟩ := p2.second (a1 := a1) (a2 := n.Sections) (a3 := n.Links) (a4 := a4) (a6 := a6) (a7 := a7) (fun j hj => (q5k hc hj).1) F (fun e he => by
  rcases List.mem_append.1 he with he | he
  ·obtain ⟨j, _, rfl⟩ := q2c.1 he
   rfl
  ·rw [List.mem_singleton.1 he]
   rfl)
 have hsh : ∀ s, 0 ≤ s ∧ s < (n.Sections.length : Int) → q4k (bo1.map q6g) s = decide (s = q2A ro k j) := fun s hs => s2.bd.shows (by omega) (by rw [s2.inv.B.1]; exact hs)
 have e1 : q6l (bo1.map q6g) (q6z ro ne p c k (j + 1) (j - 1) 0) = q6z ro ne none 0 k (j + 1) j (if j + 1 = (roK ro k).Steps.length then 1 else 0) := by
  unfold q6z
  rw [z3T, z7r, z0s (y := W8 ro ne k (j + 1) j true (if j + 1 = (roK ro k).Steps.length then 1 else 0))]
  ·rfl
  ·rw [q4l hm (by omega)]
   have : ∀ c', (z1A (bo1.map q6g) (W8 ro ne k (j + 1) (j - 1) true c')).2 = false := fun c' => by
    obtain ⟨h1, _⟩ := q7W (ro := ro) (bo := bo1.map q6g) (ne := ne) (k := k) (s := j + 1) (g := j - 1) (t := j) (laps := true) (c := c') (by omega) (by omega) (fun i h1 h2 => by
     rw [q4i (by omega) (by omega), hsh _ (q3k F hk (by omega)), decide_eq_true (by omega), decide_eq_false (fun e => by have := q9Z F hk (by omega) hj e; omega), decide_eq_true (show i + 1 < j + 1 by omega)]
     simp) (fun h => by rw [q4i (by omega) h, hsh _ (q3k F hk h), decide_eq_true (show q2A ro k j = q2A ro k j from rfl), Bool.or_true, Bool.true_or])
    rw [h1]
    exact decide_eq_false (by omega)
   split
   ·exact this _
   ·exact this _
  ·rw [q4l hm (by omega)]
   have : ∀ c', z5e (bo1.map q6g) (W8 ro ne k (j + 1) (j - 1) true c') = W8 ro ne k (j + 1) j true c' := fun c' =>
    (q7W (ro := ro) (bo := bo1.map q6g) (ne := ne) (k := k) (s := j + 1) (g := j - 1) (t := j) (laps := true) (c := c') (by omega) (by omega) (fun i h1 h2 => by
     rw [q4i (by omega) (by omega), hsh _ (q3k F hk (by omega)), decide_eq_true (by omega), decide_eq_false (fun e => by have := q9Z F hk (by omega) hj e; omega), decide_eq_true (show i + 1 < j + 1 by omega)]
     simp) (fun h => by rw [q4i (by omega) h, hsh _ (q3k F hk h), decide_eq_true (show q2A ro k j = q2A ro k j from rfl), Bool.or_true, Bool.true_or])).2
   by_cases cj : j + 1 = (roK ro k).Steps.length
   ·rw [if_pos ⟨cj, rfl⟩, if_pos cj]
    exact this 1
   ·rw [if_neg (fun e => cj e.1), if_neg cj, this]
  ·intro e he
   obtain ⟨q, hq, rfl⟩ := q2c.1 he
   obtain ⟨hqr, _, hqs⟩ := hp q hq
   have hmq := q3M F hqr
   show (z1A _ (q7t (W8 ro ne q (roK ro q).Steps.length ((roK ro q).Steps.length - 1) false c))).2 = true
   rw [q4l hmq (Nat.le_refl _), if_neg (fun e => by cases e.2)]
   obtain ⟨h1, _⟩ := q7W (ro := ro) (bo := bo1.map q6g) (ne := ne) (k := q) (s := (roK ro q).Steps.length) (g := (roK ro q).Steps.length - 1) (t := (roK ro q).Steps.length) (laps := false) (c := c) (by omega) (by omega) (fun i h1 h2 => by
    rw [q4i (Nat.le_refl _) h2, hsh _ (q3k F hqr h2), decide_eq_true h2, decide_eq_false (hqs i h2), decide_eq_false (show ¬ i + 1 < (roK ro q).Steps.length by omega)]
    rfl) (fun h => by omega)
   rw [h1]
   exact decide_eq_true rfl
 rw [e1] at s2
 have s3 := s2.rest (by omega)
 refine ⟨_, gt2, mp2, ar2, ?_, s3⟩
 have ho := z7A (a1 := a1) (a2 := n.Sections) (a3 := n.Links) (a4 := a4) (a5 := n.Gates) (a6 := a6) (a7 := a7) (a9 := gt2) F s3 hat (fun e he ho => by
  rcases List.mem_append.1 he with he | he
  ·exact List.not_mem_nil he
  ·rw [List.mem_singleton.1 he] at ho
   obtain ⟨i, i1, i2, i3⟩ := (q3z (by omega)).1 ho
   exact hback i i1 i2 i3)
 unfold J9
 show Option.bind _ _ = _
 have e2 : (roK ro k).Steps[j].Section = q2A ro k j := (q2n hj).symm
 rw [Q6 hj, Ka, e2, p1, z8L, if_neg (by decide), s1, z8L, ho, z7z, if_neg (by decide), Ka, if_neg (by decide)]
theorem z8v (hc : J5 n = some 0) (F : Fix n ro ne) {at_ ax k c : Int} {p : Option Int} (hk : InR ro k) (hax : 1 ≤ ax ∧ ax ≤ 400) (H : j0A n ro ne k at_) (hp : ∀ j, p = some j → j2M ro ne k at_ j) (h : St n ro ne at_ ax 5 (pre ro ne p false c ++ [(k, W8 ro ne k 0 0 true 0)]) bo gt mp ar) :
  ∃ bo' gt' mp' ar', Fp.forM (J9 ax a1 n.Sections n.Links a4 n.Gates a6 a7 (roK ro k)) (roK ro k).Steps.length 0 (at_, bo, gt, mp, ar) = some (.inl (q2A ro k ((roK ro k).Steps.length - 1), bo', gt', mp', ar')) ∧ St n ro ne (q2A ro k ((roK ro k).Steps.length - 1)) ax 5 (pre ro ne (some k) true 1) bo' gt' mp' ar' := by
 have hm := q3M F hk
 have hR := F.rok hk
 rcases q1q (body := J9 ax a1 n.Sections n.Links a4 n.Gates a6 a7 (roK ro k)) (fun j S => (j = 0 ∧ S = (at_, bo, gt, mp, ar)) ∨ (0 < j ∧ S.1 = q2A ro k (j - 1) ∧ St n ro ne S.1 ax 5 (q6z ro ne none 0 k j (j - 1) (if j = (roK ro k).Steps.length then 1 else 0)) S.2.1 S.2.2.1 S.2.2.2.1 S.2.2.2.2)) (fun _ => False) (roK ro k).Steps.length 0 (at_, bo, gt, mp, ar) (.inl ⟨rfl, rfl⟩) (fun j S _ hj hS => by
  have hj : j < (roK ro k).Steps.length := by omega
  refine .inl ?_
  rcases hS with ⟨rfl, rfl⟩ | ⟨h0, h1, h2⟩
  ·have hhead := hR.way.head (roK ro k).Steps[0] (by rw [List.head?_eq_getElem?, Kf hm])
   have hl := z9n hhead
   rw [H.from_] at hl
   obtain ⟨bo', gt', mp', ar', q1, q2⟩ := z6k (a1 := a1) (a4 := a4) (a6 := a6) (a7 := a7) hc F hk hax hj h H.rng (by rw [q2n hm]; exact hl) (fun q hq => ⟨(hp q hq).inr, (hp q hq).ne_ F hk, fun i hi => by
    rw [q2n hi, q2n hj]
    exact (hp q hq).twice _ (List.getElem_mem hj) _ (List.getElem_mem hi)⟩) (fun i _ hi => H.step F hk hi)
   exact ⟨_, q1, .inr ⟨by omega, rfl, q2⟩⟩
  ·obtain ⟨at1, bo1, gt1, mp1, ar1⟩ := S
   have h1 : at1 = q2A ro k (j - 1) := h1
   subst h1
   have h2 : St n ro ne (q2A ro k (j - 1)) ax 5 (q6z ro ne none 0 k j (j - 1) (if j = (roK ro k).Steps.length then 1 else 0)) bo1 gt1 mp1 ar1 := h2
   rw [if_neg (by omega)] at h2
   have hl := z9n (hR.way.path.join (j - 1) (by omega))
   obtain ⟨bo', gt', mp', ar', q1, q2⟩ := z6k (a1 := a1) (a4 := a4) (a6 := a6) (a7 := a7) hc F hk hax hj h2 (q3k F hk (by omega)) (by
    rw [q2n (show j - 1 < _ by omega), q2n hj]
    have e : (roK ro k).Steps[j - 1 + 1] = (roK ro k).Steps[j] := by
     congr 1
     omega
    rw [e] at hl
    exact hl) (fun q hq => by cases hq) (fun i i1 i2 e => by
     have := q9Z F hk i2 (by omega) e
     omega)
   exact ⟨_, q1, .inr ⟨by omega, rfl, q2⟩⟩) with ⟨S, f1, f2⟩ | ⟨_, _, f⟩
 ·rcases f2 with ⟨e, _⟩ | ⟨_, h1, h2⟩
  ·omega
  ·obtain ⟨at1, bo1, gt1, mp1, ar1⟩ := S
   rw [Nat.zero_add] at h1 h2
   have h1 : at1 = q2A ro k ((roK ro k).Steps.length - 1) := h1
   subst h1
   rw [if_pos rfl] at h2
   exact ⟨bo1, gt1, mp1, ar1, f1, h2⟩
 ·exact f.elim
theorem z4a (hc : J5 n = some 0) (F : Fix n ro ne) {v : List Int} {i : Nat} (hi : i < v.length) {at_ ax c : Int} {p : Option Int} (hk : InR ro v[i]) (hax : 1 ≤ ax ∧ ax ≤ 400) (H : j0A n ro ne v[i] at_) (hp : ∀ j, p = some j → j2M ro ne v[i] at_ j) (h : St n ro ne at_ ax 5 (pre ro ne p true c) bo gt mp ar) :
  ∃ bo' gt' mp' ar', K2 v ax ro a1 n.Sections n.Links n.Signals n.Gates ro ne i (at_, bo, gt, mp, ar) = some (.inl (q2A ro v[i] ((roK ro v[i]).Steps.length - 1), bo', gt', mp', ar')) ∧ St n ro ne (q2A ro v[i] ((roK ro v[i]).Steps.length - 1)) ax 5 (pre ro ne (some v[i]) true 1) bo' gt' mp' ar' := by
 obtain ⟨bo1, gt1, mp1, ar1, l1, l2, l3, l4⟩ := j3B (a1 := a1) (a3 := n.Links) (a4 := n.Signals) hc F hk H hp h
 obtain ⟨bo2, gt2, mp2, ar2, w1, w2, w3, w4⟩ := j6x (a1 := a1) (a2 := n.Sections) (a3 := n.Links) (a4 := n.Signals) (a6 := ro) (a7 := ne) hc F hk H hp (by omega) l2 l3 l4
 obtain ⟨x, s1, s2⟩ := z8E (a1 := a1) (a2 := n.Sections) (a3 := n.Links) (a6 := ro) (a7 := ne) F hk H (by omega) w2 w3 w4
 obtain ⟨bo3, gt3, mp3, ar3, t1, t2⟩ := z8v (a1 := a1) (a4 := n.Signals) (a6 := ro) (a7 := ne) hc F hk hax H hp (w2.rest (by omega))
 refine ⟨bo3, gt3, mp3, ar3, ?_, t2⟩
 unfold K2
 show Option.bind _ _ = _
 rw [Q6 hi, Ka, l1, j1d, if_neg (by decide), w1, z8L, F.idxR hk, Ka, s1, q0L, if_neg (by decide), Ka, if_neg (by simpa using s2), Ka, t1, Ka, Sum.elim_inl]
 show Option.bind _ _ = _
 rw [z2n F t2, Ka, z4w, Ka, if_pos rfl]
end
theorem j4M {α : Type} {l : List α} {y : α} (hn : l.Nodup) (h : ∀ x ∈ l, x = y) (hy : y ∈ l) : l = [y] := by
 cases l with
 | nil => cases hy
 | cons a q =>
  have ha := h a List.mem_cons_self
  cases q with
  | nil => rw [ha]
  | cons b q =>
   have hb := h b (by simp)
   rw [ha, hb] at hn
   simp at hn
section
variable {n : j3} {ro : List z7} {ne : List (List q8)} {bo bo' : List q9} {gt gt' : List z8} {mp mp' : List (Int × Option Int)} {ar ar' : List (Int × z6)}
variable {a1 : List ByteArray} {a2 : List j0} {a3 : List j9} {a4 : List j5} {a5 : List Q2} {a6 : List z7} {a7 : List (List q8)} {a8 : List q9} {a9 : List z8} {b1 : List (Int × Option Int)} {b2 : List (Int × z6)}
theorem z9s (F : Fix n ro ne) {k c : Int} (hk : InR ro k) (hpl : (sec n (q2A ro k ((roK ro k).Steps.length - 1))).Kind = 1) : ∃ y, W3 (W8 ro ne k (roK ro k).Steps.length ((roK ro k).Steps.length - 1) false c) = [y] ∧ y.Kind = 1 ∧ y.Place = q2A ro k ((roK ro k).Steps.length - 1) := by
 have hm := q3M F hk
 obtain ⟨lap, _, hL, hQ⟩ := q8Y F.net (F.rok hk) (z3e F hk)
 have hgone : ∀ i, i < (roK ro k).Steps.length → (!(((tf ((roK ro k).Steps.length - 1) (roK ro k).Steps.length)[i]?).getD true)) = decide (i = (roK ro k).Steps.length - 1) := fun i hi => by
  rw [q5V (by omega) hi]
  show (!decide (i < (roK ro k).Steps.length - 1)) = _
  by_cases c1 : i < (roK ro k).Steps.length - 1
  ·rw [decide_eq_true c1, decide_eq_false (by omega)]; rfl
  ·rw [decide_eq_false c1, decide_eq_true (by omega)]; rfl
 have hold : ∀ y ∈ neK ne k, q3E (W8 ro ne k (roK ro k).Steps.length ((roK ro k).Steps.length - 1) false c) y = true → ∃ j : Nat, ∃ h : j < (roK ro k).Steps.length, j = (roK ro k).Steps.length - 1 ∧ y = ⟨1, (roK ro k).Steps[j].Section, j0Z n (roK ro k).Steps[j], (j : Int)⟩ := fun y hy hb => by
  unfold q3E at hb
  by_cases c2 : y.Kind = 2
  ·rw [if_pos c2] at hb
   cases hb
  ·rw [if_neg c2] at hb
   by_cases c5 : y.Kind = 5
   ·rw [if_pos c5] at hb
    have hb : (!(((tf (roK ro k).Steps.length (roK ro k).Steps.length)[0]?).getD true)) = true := hb
    rw [q5V (Nat.le_refl _) hm, decide_eq_true hm] at hb
    cases hb
   ·rw [if_neg c5] at hb
    have hb : (!(((tf ((roK ro k).Steps.length - 1) (roK ro k).Steps.length)[y.At.toNat]?).getD true)) = true := hb
    have third : j1W n (roK ro k) y.At → False := fun ⟨j, h1, h2, h3⟩ => by
     rw [h1, show ((j : Int)).toNat = j by omega, hgone j h2] at hb
     have := of_decide_eq_true hb
     subst this
     rw [q2n h2] at hpl
     exact h3 hpl
    rcases hQ.shape y hy with ⟨j, hj, rfl⟩ | ⟨s, _, rfl⟩ | ⟨_, _, _, _, h⟩ | ⟨_, _, h⟩ | rfl
    ·have hb : (!(((tf ((roK ro k).Steps.length - 1) (roK ro k).Steps.length)[((j : Int)).toNat]?).getD true)) = true := hb
     rw [show ((j : Int)).toNat = j by omega, hgone j hj] at hb
     exact ⟨j, hj, of_decide_eq_true hb, rfl⟩
    ·exact absurd rfl c2
    ·exact (third h).elim
    ·exact (third h).elim
    ·exact absurd rfl c5
 obtain ⟨y, hy, y1, y2, y3⟩ := (F.nq hk).2.1 ((roK ro k).Steps.length - 1) (by omega)
 have y2 : y.Place = q2A ro k ((roK ro k).Steps.length - 1) := y2
 have hyb : q3E (W8 ro ne k (roK ro k).Steps.length ((roK ro k).Steps.length - 1) false c) y = true := by
  unfold q3E
  rw [if_neg (by omega), if_neg (by omega)]
  show (!(((tf ((roK ro k).Steps.length - 1) (roK ro k).Steps.length)[y.At.toNat]?).getD true)) = true
  rw [y3, show ((((roK ro k).Steps.length - 1 : Nat) : Int)).toNat = (roK ro k).Steps.length - 1 by omega, hgone _ (by omega), decide_eq_true rfl]
 obtain ⟨j, hj, ej, e⟩ := hold y hy hyb
 refine ⟨y, j4M (hQ.nd.sublist List.filter_sublist) (fun x hx => ?_) (q0v.2 ⟨hy, hyb⟩), y1, y2⟩
 obtain ⟨hx, hxb⟩ := q0v.1 hx
 obtain ⟨i, hi, ei, e'⟩ := hold x hx hxb
 rw [e, e']
 have : i = j := by omega
 subst this
 rfl
theorem j6N (hc : J5 n = some 0) (F : Fix n ro ne) {k ax : Int} (hk : InR ro k) (hax : 0 < ax) (h : St n ro ne (q2A ro k ((roK ro k).Steps.length - 1)) ax 5 (pre ro ne (some k) true 1) bo gt mp ar) :
  ∃ bo' gt' mp' ar' c, Fp.forS (K0 a1 a2 a3 a4 n.Gates a6 a7) 60 0 (bo, gt, mp, ar) = some (bo', gt', mp', ar') ∧ St n ro ne (q2A ro k ((roK ro k).Steps.length - 1)) ax 5 (pre ro ne (some k) false c) bo' gt' mp' ar' := by
 have hm := q3M F hk
 obtain ⟨⟨bo', gt', mp', ar'⟩, h1, laps, c, h2, h3⟩ := H6 (body := K0 a1 a2 a3 a4 n.Gates a6 a7) (fun t S => ∃ laps c, St n ro ne (q2A ro k ((roK ro k).Steps.length - 1)) ax 5 (pre ro ne (some k) laps c) S.1 S.2.1 S.2.2.1 S.2.2.2 ∧ (laps = true → c = 1 + (t : Int) ∧ 1 + (t : Int) < 60)) 60 0 (bo, gt, mp, ar) ⟨true, 1, h, fun _ => ⟨by omega, by omega⟩⟩ (fun t S _ _ hS => by
  obtain ⟨bo, gt, mp, ar⟩ := S
  obtain ⟨laps, c, s1, s2⟩ := hS
  obtain ⟨gt', mp', ar', h1, h2, _⟩ := s1.second (a1 := a1) (a2 := a2) (a3 := a3) (a4 := a4) (a6 := a6) (a7 := a7) (fun j hj => (q5k hc hj).1) F (fun e he => by
   obtain ⟨j, _, rfl⟩ := q2c.1 he
   rfl)
  have hsh := h2.bd.shown hax (by rw [h2.inv.B.1]; exact q3k F hk (by omega))
  have key : ∃ laps' c', q6l (List.map q6g bo) (pre ro ne (some k) laps c) = pre ro ne (some k) laps' c' ∧ (laps' = true → c' = 1 + ((t + 1 : Nat) : Int) ∧ 1 + ((t + 1 : Nat) : Int) < 60) := by
   cases laps with
   | false =>
    have e : q7t (W8 ro ne k (roK ro k).Steps.length ((roK ro k).Steps.length - 1) false c) = W8 ro ne k (roK ro k).Steps.length ((roK ro k).Steps.length - 1) false c := by
     rw [q4l hm (Nat.le_refl _), if_neg (fun e => by cases e.2)]
    have o := z3d (ne := ne) (laps := false) (c := c) F hk hsh
    exact ⟨false, c, z0s (by rw [e]; exact o.1) (by rw [e]; exact o.2), fun e => by cases e⟩
   | true =>
    obtain ⟨d1, d2⟩ := s2 rfl
    have e : q7t (W8 ro ne k (roK ro k).Steps.length ((roK ro k).Steps.length - 1) true c) = W8 ro ne k (roK ro k).Steps.length ((roK ro k).Steps.length - 1) (if c + 1 = 60 then false else true) (c + 1) := by
     rw [q4l hm (Nat.le_refl _), if_pos ⟨rfl, rfl⟩]
    have o := z3d (ne := ne) (laps := if c + 1 = 60 then false else true) (c := c + 1) F hk hsh
    refine ⟨_, _, z0s (by rw [e]; exact o.1) (by rw [e]; exact o.2), fun e => ?_⟩
    by_cases c1 : c + 1 = 60
    ·rw [if_pos c1] at e
     cases e
    ·omega
  obtain ⟨laps', c', k1, k2⟩ := key
  rw [k1] at h2
  refine ⟨(bo.map q6g, gt', mp', ar'), ?_, laps', c', h2.rest (by omega), k2⟩
  unfold K0
  show Option.bind _ _ = _
  rw [h1]
  rfl)
 cases laps with
 | false => exact ⟨bo', gt', mp', ar', c, h1, h2⟩
 | true =>
  have := (h3 rfl).2
  omega
theorem z7R (F : Fix n ro ne) {tr k : Int} (hp : j6s n tr) (h : z8d n ro ne tr [] k) : j0A n ro ne k tr := by
 refine ⟨hp.1, h.first rfl, fun y hy hyk => ?_, hp.2⟩
 obtain ⟨lap, l1, hL, hQ⟩ := q8Y F.net (F.rok h.inr) (z3e F h.inr)
 obtain ⟨lap', l2, l3⟩ := h.lap
 rw [l1] at l2
 rw [← Kd l2] at l3
 rcases hQ.shape y hy with ⟨j, hj, rfl⟩ | ⟨s, hs, rfl⟩ | ⟨e, _⟩ | ⟨e, _⟩ | rfl
 ·exact h.track _ (List.getElem_mem hj)
 ·exact l3 s hs
 ·omega
 ·omega
 ·exact absurd hyk (by simp)
theorem z8Y (hc : J5 n = some 0) (F : Fix n ro ne) {tr k j : Int} {leg : List Int} (hj : InR ro j) (hl : leg.getLast? = some j) (h : z8d n ro ne tr leg k) : j0A n ro ne k (q2A ro j ((roK ro j).Steps.length - 1)) ∧ j2M ro ne k (q2A ro j ((roK ro j).Steps.length - 1)) j := by
 have hm := q3M F hj
 have hR := F.rok h.inr
 have hmem : j ∈ leg := List.mem_of_getLast? hl
 have hto := h.next j hl
 have hat : (z0E n (roK ro k).From).section_ = q2A ro j ((roK ro j).Steps.length - 1) := by
  obtain ⟨w, s, w1, w2, w3, w4⟩ := (F.rok hj).last
  have e : q2A ro j ((roK ro j).Steps.length - 1) = s.Section := by
   unfold q2A
   rw [w1]
   simp
  rw [e]
  rcases (q5z n (q7H s)).2 with c | ⟨i, hi, c1, c2⟩
  ·have := hR.from_.1
   rw [hto, w3, c] at this
   omega
  ·rw [hto, w3, c1]
   unfold z0E
   rw [show ((i : Int)).toNat = i by omega, Kf hi, c2]
   rfl
 have hpl := z8D hc hR.from_
 refine ⟨⟨q3k F hj (by omega), hat, fun y hy hyk e => ?_, by rw [← hat]; exact hpl⟩, ⟨hj, hto.symm, rfl, h.clash j hmem, fun s hs t ht => h.twice s hs j hmem t ht⟩⟩
 obtain ⟨x, hx, x1, x2, _⟩ := (F.nq hj).2.1 ((roK ro j).Steps.length - 1) (by omega)
 have x2 : x.Place = q2A ro j ((roK ro j).Steps.length - 1) := x2
 exact h.clash j hmem x hx (by omega) y hy ⟨by rw [x2, e], .inl ⟨.inl x1, hyk⟩⟩
end
theorem z4b {n : j3} (hN : q3P n) (hcl : ∀ g ∈ n.Gates, g.Close ≤ 9223372036854775807) (hc : J5 n = some 0) {ro : List z7} (hr : H3 n = some (0, ro)) (hR : ∀ r ∈ ro, q2s n r) (hm : ro.length ≤ 81) (tr : Int) (leg : List Int) (ax : Int) : V7 n tr leg ax = some true := by
 obtain ⟨ne, bo, gt, hnew, F, hI, hbo, hgt⟩ := j4R hN hcl hc hr hR hm
 obtain ⟨q, q1, q2⟩ := j1o hr F tr leg
 unfold V7
 rw [z2H, Ka, if_pos rfl, hr, q0L, if_neg (by decide), q1, Ka]
 by_cases hin : q = 0 ∧ 1 ≤ ax ∧ ax ≤ 400
 ·obtain ⟨rfl, hax⟩ := hin
  have hL := q2 rfl
  have hb := hI.B
  obtain ⟨hpr, hpk⟩ := hL.plat
  rw [if_neg (by decide), if_neg (by omega), decide_eq_false (by omega), Ka, if_neg Kh, hnew, Ka]
  simp only [j2W]
  rw [if_neg (by decide)]
  obtain ⟨t0, ht0⟩ : ∃ t0 : Nat, tr = (t0 : Int) := ⟨tr.toNat, by omega⟩
  have hlt : t0 < bo.length := by rw [hb.1]; omega
  have hidx : idx bo tr = some ⟨0, false, 1, 0, false⟩ := by
   rw [ht0, Q6 hlt, hbo _ (List.getElem_mem hlt)]
  have hput : q4o tr ax n.Stations n.Sections n.Links n.Signals n.Gates ro ne bo gt [] [] = some (0, put bo tr ⟨0 + ax, false, 1, 0, false⟩) := by
   unfold q4o
   rw [q8K, Ka, decide_eq_true (show 0 ≤ tr ∧ tr < (bo.length : Int) from ⟨by omega, by omega⟩), if_pos rfl, if_neg (by omega), Ka, decide_eq_false (by omega), if_neg Kh, hidx, Ka, Y3 (by simp only; omega) (by simp only; omega), Ka, if_neg (by simp only; omega), Ka, Y3 (by simp only; omega) (by simp only; omega), Ka, Ka]
  rw [hput, q0L, q0L, if_neg (by decide)]
  have hS0 : St n ro ne tr ax 5 (pre ro ne none true 0) (put bo tr ⟨0 + ax, false, 1, 0, false⟩) gt [] [] := by
   refine ⟨hI.toB (hb.put _ ⟨⟨by show 0 ≤ 0 + ax; omega, by show 0 + ax ≤ 400; omega⟩, ⟨by simp, by simp⟩, ⟨by simp, by simp⟩⟩), fun j s hs => ?_, ⟨hI.gl, fun g hg => ?_, fun j g hg => ?_⟩, .nil, fun p => ⟨fun h => (List.not_mem_nil h).elim, fun ⟨e, he, _⟩ => (List.not_mem_nil he).elim⟩, fun e he => (List.not_mem_nil he).elim⟩
   ·rw [ht0, q0n, List.getElem?_set] at hs
    by_cases c1 : t0 = j
    ·subst c1
     rw [if_pos rfl, if_pos hlt] at hs
     rw [← Kd hs, ht0, if_pos rfl]
     exact ⟨rfl, rfl, by show 0 + ax = ax; omega, by simp, .inl rfl⟩
    ·rw [if_neg c1] at hs
     rw [hbo s (List.mem_of_getElem? hs), if_neg (by omega)]
     exact ⟨rfl, rfl, rfl, by decide, .inl rfl⟩
   ·rw [hgt g hg]
    exact ⟨rfl, by decide⟩
   ·rw [hgt g (List.mem_of_getElem? hg)]
    exact ⟨fun h => Bool.noConfusion h, fun h => by obtain ⟨e, he, _⟩ := h; exact (List.not_mem_nil he).elim⟩
  have hl4 := hL.four
  have hl0 : 0 < leg.length := List.length_pos_iff.2 hL.some_
  rcases q1q (body := K2 leg ax ro n.Stations n.Sections n.Links n.Signals n.Gates ro ne) (fun i S => (i = 0 ∧ S = (tr, put bo tr ⟨0 + ax, false, 1, 0, false⟩, gt, [], [])) ∨ ∃ h : i - 1 < leg.length, 0 < i ∧ S.1 = q2A ro leg[i - 1] ((roK ro leg[i - 1]).Steps.length - 1) ∧ St n ro ne S.1 ax 5 (pre ro ne (some leg[i - 1]) true 1) S.2.1 S.2.2.1 S.2.2.2.1 S.2.2.2.2) (fun _ => False) leg.length 0 (tr, put bo tr ⟨0 + ax, false, 1, 0, false⟩, gt, [], []) (.inl ⟨rfl, rfl⟩) (fun i S _ hi hS => by
   have hi : i < leg.length := by omega
   have hA := hL.add i hi
   refine .inl ?_
   rcases hS with ⟨rfl, rfl⟩ | ⟨hi1, h0, h1, h2⟩
   ·rw [List.take_zero] at hA
    obtain ⟨bo', gt', mp', ar', r1, r2⟩ := z4a (a1 := n.Stations) hc F hi hA.inr hax (z7R F hL.plat hA) (fun j hj => by cases hj) hS0
    exact ⟨_, r1, .inr ⟨by omega, by omega, rfl, r2⟩⟩
   ·obtain ⟨at1, bo1, gt1, mp1, ar1⟩ := S
    have h1 : at1 = q2A ro leg[i - 1] ((roK ro leg[i - 1]).Steps.length - 1) := h1
    subst h1
    have hlast : (leg.take i).getLast? = some leg[i - 1] := by
     rw [List.getLast?_eq_getElem?, List.length_take, show min i leg.length - 1 = i - 1 by omega, List.getElem?_take, if_pos (by omega), Kf hi1]
    have hj := (hL.add (i - 1) hi1).inr
    obtain ⟨n1, n2⟩ := z8Y hc F hj hlast hA
    obtain ⟨bo', gt', mp', ar', r1, r2⟩ := z4a (a1 := n.Stations) hc F hi hA.inr hax n1 (fun j hj => by injection hj with hj; subst hj; exact n2) h2
    exact ⟨_, r1, .inr ⟨by omega, by omega, rfl, r2⟩⟩) with ⟨S, f1, f2⟩ | ⟨_, _, f⟩
  ·rcases f2 with ⟨e, _⟩ | ⟨hi1, _, h1, h2⟩
   ·omega
   ·obtain ⟨at1, bo1, gt1, mp1, ar1⟩ := S
    simp only [Nat.zero_add] at hi1 h1 h2
    subst h1
    have hk := (hL.add (leg.length - 1) hi1).inr
    have hmk := q3M F hk
    obtain ⟨bo2, gt2, mp2, ar2, c, s1, s2⟩ := j6N (a1 := n.Stations) (a2 := n.Sections) (a3 := n.Links) (a4 := n.Signals) (a6 := ro) (a7 := ne) hc F hk (by omega) h2
    have hplat := hL.last leg[leg.length - 1] (by rw [List.getLast?_eq_getElem?, Kf hi1]) _ (by rw [List.getLast?_eq_getElem?, Kf (show (roK ro leg[leg.length - 1]).Steps.length - 1 < _ by omega)])
    have hpl2 := hplat.2
    rw [← q2n (show (roK ro leg[leg.length - 1]).Steps.length - 1 < _ by omega)] at hpl2
    obtain ⟨y, y1, y2, y3⟩ := z9s (c := c) F hk hpl2
    have hheld := z7Z (a1 := n.Stations) (a2 := n.Sections) (a3 := n.Links) (a4 := n.Signals) (a5 := n.Gates) (a7 := ne) (a8 := bo2) (a9 := gt2) F s2.inv hk
    have hmem : (leg[leg.length - 1], some leg[leg.length - 1]) ∈ mp2 := by
     rw [j2o s2]
     exact List.mem_singleton.2 rfl
    rw [z0N s2.inv hmem (s2.cell _ (List.mem_singleton.2 rfl)), y1] at hheld
    have hroutes := z2n (a1 := n.Stations) (a2 := n.Sections) (a3 := n.Links) (a4 := n.Signals) (a5 := n.Gates) (a6 := ro) (a7 := ne) (a8 := bo2) (a9 := gt2) F s2
    have i0 : idx [y] 0 = some y := Q6 (l := [y]) (j := 0) (show 0 < [y].length from Nat.one_pos)
    rw [f1, Ka, Sum.elim_inl]
    show Option.bind _ _ = _
    rw [s1, z8L, Y3 (by omega) (by omega), Ka, show (leg.length : Int) - 1 = ((leg.length - 1 : Nat) : Int) by omega, Q6 hi1, Ka, hheld, q0L, if_pos rfl, hroutes, Ka, z4w, Ka, if_pos rfl, if_pos (show (([y] : List q8).length : Int) = 1 from rfl), i0, Ka, if_pos y2, Ka, y3, decide_eq_true rfl, Ka]
  ·exact f.elim
 ·have e1 : (if q ≠ 0 then some true else if ax < 1 then some true else some (decide (400 < ax))) = some true := by
   by_cases c1 : q ≠ 0
   ·rw [if_pos c1]
   ·by_cases c2 : ax < 1
    ·rw [if_neg c1, if_pos c2]
    ·rw [if_neg c1, if_neg c2, decide_eq_true]
     exact Classical.byContradiction fun h => hin ⟨Classical.not_not.1 c1, by omega, by omega⟩
  rw [e1, Ka, if_pos rfl]
theorem z1J {n : j3} (hS : j6e n) (hcl : ∀ g ∈ n.Gates, g.Close ≤ 9223372036854775807) (tr : Int) (leg : List Int) (ax : Int) : V7 n tr leg ax = some true := by
 obtain ⟨e, hc, hok⟩ := z7U hS
 have bad : ∀ (e : Int) (l : List z7), e ≠ 0 → H3 n = some (e, l) → V7 n tr leg ax = some true := fun e l he h1 => by
  unfold V7
  rw [z2H, Ka, if_pos rfl, h1, q0L, if_pos he, Ka, if_pos rfl]
 by_cases h0 : e = 0
 ·subst h0
  have hN := hok rfl
  obtain ⟨d, rs, h1, h2, h3, h4, h5⟩ := z5r hN
  have hr : H3 n = some (d, rs) := by
   unfold H3
   rw [hc, Ka, if_neg (by decide), h1, q0L]
  by_cases hd : d = 0
  ·subst hd
   exact z4b hN hcl hc hr h3 h5 tr leg ax
  ·exact bad d rs hd hr
 ·refine bad e [] h0 ?_
  unfold H3
  rw [hc, Ka, if_pos h0]
theorem z2Y (n : j3) (tr : Int) (leg : List Int) (ax : Int) (k0 : j7s n) {P Q R S : Prop} (_ : P) (_ : Q) (_ : R) (_ : S) : V7 n tr leg ax = some true :=
 z1J (fun s hs => k0.1.2 s hs) (fun g hg => (k0.2.2.2.2.2 g hg).2.2) tr leg ax
end Go.Proofs.YtjlollifgeggdaaGreatDoor
