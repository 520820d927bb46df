/- Extraction: slices of structs, one field of which is a slice of the call's own. -/
import Derived.Test.YtcibjjhanafojaaGreatDoorXG
namespace Go.Fp
open Go.RowKit

def OT.on {α β : Type} (o : OT α) (f : β → α) : OT β := ⟨o.sz, fun w vs x hs => o.rep w vs (f x) hs, o.fz.on f, o.fsz, fun h hk hb => o.frz h hk hb, fun hk h => o.mono hk h, fun h => o.cells h⟩
/-- Frozen cells ahead of cells of the call's own. -/
def OT.catR {α : Type} (r : RT α) (o : OT α) : OT α := ⟨r.sz + o.sz, fun w vs x hs => ∃ a c, vs = a ++ c ∧ r.rep w a x ∧ o.rep w c x hs, r.cat o.fz, by show r.sz + o.fz.sz = _; rw [o.fsz],
  fun ⟨a, c, h1, h2, h3⟩ hk hb => ⟨a, c, h1, r.mono hk h2, o.frz h3 hk hb⟩, fun hk ⟨a, c, h1, h2, h3⟩ => ⟨a, c, h1, r.mono hk h2, o.mono hk h3⟩,
  fun ⟨a, c, h1, h2, h3⟩ => by
    have hc := o.cells h3
    refine ⟨by rw [h1, List.length_append, r.len h2, hc.1], fun u hu => ?_⟩
    rw [h1, List.mem_append] at hu
    rcases hu with hu | hu
    · exact r.one h2 u hu
    · exact hc.2 u hu⟩
/-- Cells of the call's own ahead of frozen cells. -/
def OT.catL {α : Type} (o : OT α) (r : RT α) : OT α := ⟨o.sz + r.sz, fun w vs x hs => ∃ a c, vs = a ++ c ∧ o.rep w a x hs ∧ r.rep w c x, o.fz.cat r, by show o.fz.sz + r.sz = _; rw [o.fsz],
  fun ⟨a, c, h1, h2, h3⟩ hk hb => ⟨a, c, h1, o.frz h2 hk hb, r.mono hk h3⟩, fun hk ⟨a, c, h1, h2, h3⟩ => ⟨a, c, h1, o.mono hk h2, r.mono hk h3⟩,
  fun ⟨a, c, h1, h2, h3⟩ => by
    have hc := o.cells h2
    refine ⟨by rw [h1, List.length_append, hc.1, r.len h3], fun u hu => ?_⟩
    rw [h1, List.mem_append] at hu
    rcases hu with hu | hu
    · exact hc.2 u hu
    · exact r.one h3 u hu⟩
/-- A slice of the call's own, of which what hangs on element 'j' has been taken out; of the element's cells 'Q' is known. -/
def HoleQ {α : Type} (el : TypeId) (o : OT α) (w : World) (v : Value) (l : List α) (j : Nat) (Q : List Value → Prop) (hs : Hp) : Prop :=
  ∃ (css : List (List Value)) (hss : List Hp) (hq : Hp) (cs : List Value) (hsj : Hp), Seg el o.sz v l.length css.flatten hq ∧ css[j]? = some cs ∧ cs.length = o.sz ∧ hss[j]? = some hsj ∧ css.length = l.length ∧ hss.length = l.length ∧ css.flatten.length = l.length * o.sz ∧ (css.take j).flatten.length = j * o.sz ∧
    (∀ us a' hn, o.rep w us a' hn → All3 (o.rep w) (css.set j us) (l.set j a') (hss.set j hn)) ∧ Q cs ∧ hs = (hq ++ (hss.take j).flatten) ++ (hss.drop (j + 1)).flatten
section
variable {α : Type} {el : TypeId} {o : OT α} {b : Base} {A : Option Addr} {c : Nat} {l : List α} {hs : Hp}
/-- An element of a slice of the call's own, and the way back. -/
theorem OS.getQ {sz : Nat} (hsz : o.sz = sz) (hpos : 0 < sz) (h : OS el o b.w (.slice A l.length c) l hs) {j : Nat} {x : α} (hx : l[j]? = some x) :
    ∃ cs hsj P1 P2, hs = P1 ++ (hsj ++ P2) ∧ o.rep b.w cs x hsj ∧ (∀ (w : World) (hp : Hp), Own b hp w → hs.Sublist hp → ∀ (i : Nat) (u : Value), cs[i]? = some u → cellO w A (j * sz + i) = some u) ∧ A.isSome = true ∧ j < l.length ∧
      ∀ b' Q, b.Le b' → Q cs → HoleQ el o b'.w (.slice A l.length c) l j Q (P1 ++ P2) := by
  subst hsz
  have hnow := fun (w : World) (hp : Hp) (ho : Own b hp w) (hh : hs.Sublist hp) => h.now ho hh
  obtain ⟨css, hss, hq, h1, h2, h3⟩ := h
  obtain ⟨cs, hsj, hc, hh, hr⟩ := h2.get hx
  have hjl : j < l.length := (List.getElem?_eq_some_iff.1 hx).1
  have hlc := h2.len
  refine ⟨cs, hsj, hq ++ (hss.take j).flatten, (hss.drop (j + 1)).flatten, ?_, hr, fun w hp ho hsub i u hu => ?_, ?_, hjl, fun b' Q hle hq' => ?_⟩
  · rw [h3, flat_split hh]; simp
  · have hrd : Rd w A css.flatten := h1.rd (fun y hy => (ho.blk y.1 y.2 (hsub.subset (by rw [h3]; exact List.mem_append_left _ hy))).2)
    refine hrd _ u ?_
    rw [flat_split hc]
    have hl2 := all3_take_len h2 j (by omega)
    rw [List.getElem?_append_right (by omega), hl2, Nat.add_sub_cancel_left, List.getElem?_append_left (List.getElem?_eq_some_iff.1 hu).1]
    exact hu
  · exact h1.isSome (by omega)
  · exact ⟨css, hss, hq, cs, hsj, h1, hc, (o.cells hr).1, hh, hlc.1, hlc.2, (all3_flat h2).1, all3_take_len h2 j (by omega), fun us a' hn hr' => (h2.imp fun _ _ _ h => o.mono hle.cells h).set j hr', hq', rfl⟩
variable {P : Program} {n : NT} {m : Nat} {dk0 : Hp} {rq : Option Nat} {e : Env} {hp : Hp} {ty : TypeId}
/-- What was taken out of a field is put back. -/
theorem u_putHoleQ {i : Int} {j : Nat} (hj : i = (j : Int)) {sz : Nat} (hsz : o.sz = sz) (F hn R : Hp) (off k : Nat) {t : TypeId} {x y : Operand} {v : Value} (us : List Value) {a' : α} (hhp : hp = F ++ (hs ++ (hn ++ R)))
    (h : HoleQ el o b.w (.slice A l.length c) l j (fun cs => o.rep b.w (cs.take off ++ us ++ cs.drop (off + k)) a' hn) hs)
    (hx : val e x = some (.pointer (A.map (·.add (j * sz + off))))) (hy : val e y = some v) (hc : v.cells = us.toArray) (ht : sizT P t k = true) (hk : us.length = k) (hok : off + k ≤ sz) (h1 : ∀ u ∈ us, u.oneCell' = true) :
    Does P n b (.store t x y) ty e hp (fun _ hp' => ∃ hs', hp' = F ++ (hs' ++ R) ∧ OS el o b.w (.slice A (put l i a').length c) (put l i a') hs') := by
  rw [hj, put_nat]
  subst hsz
  obtain ⟨css, hss, hq, cs, hsj, q1, hcs, hcl, hh, hl5, hl6, hfl, htk, hset9, hr, q3⟩ := h
  have hr : o.rep b.w (cs.take off ++ us ++ cs.drop (off + k)) a' hn := hr
  have hjl : j < l.length := by have := (List.getElem?_eq_some_iff.1 hcs).1; omega
  obtain ⟨g, cap, pr, tl, hv, hq1, hl1, hl2, hmc, hcm⟩ := q1.pos (by omega)
  injection hv with e1 e2 e3
  subst e1
  subst hq1
  have hmul : (j + 1) * o.sz ≤ l.length * o.sz := Nat.mul_le_mul_right _ (by omega)
  rw [Nat.add_mul] at hmul
  have hle : j * o.sz + off + us.length ≤ css.flatten.length := by rw [hfl]; omega
  have hblk : hp[F.length]? = some (g, Cl el (pr ++ css.flatten ++ tl)) := by
    rw [hhp, q3]
    simp
  have hd := u_storeN (P := P) (n := n) (w0 := b) (ty := ty) (e := e) (hp := hp) F.length k (t := t) (t' := el) (x := x) (y := y) (g := g) (o := pr.length + (j * o.sz + off)) (cs := pr ++ css.flatten ++ tl) (vs := us) (v := v) (by simpa [Addr.add_lit] using hx) hy hc ht hk h1 hblk (by simp only [List.length_append]; omega)
  refine ⟨fun a w hf ho d pos af gd K Q hK => hd.out a w hf ho d pos af gd K Q (fun v' hp' w' hΨ ho' => ?_)⟩
  subst hΨ
  have hset := set_seg (pr := pr) (xs := css.flatten) (tl := tl) (us := us) (k := j * o.sz + off) hle
  rw [hk] at hset
  rw [hset] at ho'
  have hflat : css.flatten.take (j * o.sz + off) ++ us ++ css.flatten.drop (j * o.sz + off + k) = (css.set j (cs.take off ++ us ++ cs.drop (off + k))).flatten := by
    rw [flat_set _ (by omega), flat_split hcs, ← htk]
    have h6 : cs.drop (off + k) ++ (css.drop (j + 1)).flatten = (cs ++ (css.drop (j + 1)).flatten).drop (off + k) := by
      rw [List.drop_append_of_le_length (by omega)]
    have h7 : (cs ++ (css.drop (j + 1)).flatten).take off = cs.take off := List.take_append_of_le_length (by omega)
    rw [List.take_length_add_append, h7, Nat.add_assoc, List.drop_length_add_append, ← h6]
    simp
  rw [hflat] at ho'
  have h8 := hset9 _ a' hn hr
  have h9 := (all3_flat h8).1
  rw [List.length_set] at h9
  refine hK v' (F ++ (([(g, Cl el (pr ++ (css.set j (cs.take off ++ us ++ cs.drop (off + k))).flatten ++ tl))] ++ (hss.set j hn).flatten) ++ R)) w' ⟨_, rfl, css.set j (cs.take off ++ us ++ cs.drop (off + k)), hss.set j hn, _, ?_, h8, rfl⟩ ?_
  · refine .inr ⟨g, cap, pr, tl, ?_, rfl, ?_, ?_, ?_, hcm⟩
    · rw [e3]
    · rw [h9, List.length_set]
    · rw [List.length_append, h9, ← hfl, ← List.length_append]
      exact hl2
    · rw [List.length_set]; exact hmc
  · refine Own.perm (Own.sub ho' ?_) (perm_set _ hh)
    rw [hhp, q3]
    simp only [List.append_assoc, List.set_append_right, Nat.le_refl, Nat.sub_self, List.cons_append, List.nil_append, List.set_cons_zero]
    exact List.Sublist.refl _
end
end Go.Fp
