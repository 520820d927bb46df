/- Extraction: an element of a slice of the call's own, taken out as a part of a block; structs with several slices of their own. -/
import Derived.Test.YtckgfeglhjiflaaDoorXH
import Derived.Test.YtckgfeglhjiflaaDoorXZ
namespace Go.Fp
open Go.RowKit

/-- Cells of the call's own ahead of others. -/
def OT.both {α : Type} (o q : OT α) : OT α := ⟨o.sz + q.sz, fun w vs x hs => ∃ a c h1 h2, vs = a ++ c ∧ o.rep w a x h1 ∧ q.rep w c x h2 ∧ hs = h1 ++ h2, o.fz.cat q.fz, by show o.fz.sz + q.fz.sz = _; rw [o.fsz, q.fsz],
  fun ⟨a, c, h1, h2, e, p1, p2, e2⟩ hk hb => ⟨a, c, e, o.frz p1 hk (fun y hy => hb y (by rw [e2]; exact List.mem_append_left _ hy)), q.frz p2 hk (fun y hy => hb y (by rw [e2]; exact List.mem_append_right _ hy))⟩,
  fun hk ⟨a, c, h1, h2, e, p1, p2, e2⟩ => ⟨a, c, h1, h2, e, o.mono hk p1, q.mono hk p2, e2⟩,
  fun ⟨a, c, h1, h2, e, p1, p2, e2⟩ => by
    have hc := o.cells p1
    have hd := q.cells p2
    refine ⟨by rw [e, List.length_append, hc.1, hd.1], fun u hu => ?_⟩
    rw [e, List.mem_append] at hu
    rcases hu with hu | hu
    · exact hc.2 u hu
    · exact hd.2 u hu⟩
theorem cx_get {X Y l : List Value} {n k : Nat} {v : Value} (hX : X.length = n) (h : l[k]? = some v) : (X ++ (l ++ Y))[n + k]? = some v := by
  have hk := (List.getElem?_eq_some_iff.1 h).1
  subst hX
  rw [List.getElem?_append_right (by omega), Nat.add_sub_cancel_left, List.getElem?_append_left hk]
  exact h
theorem cx_set {X Y l : List Value} {n k : Nat} {v : Value} (hX : X.length = n) (hk : k < l.length) : (X ++ (l ++ Y)).set (n + k) v = X ++ (l.set k v ++ Y) := by
  subst hX
  rw [List.set_append_right _ _ (by omega), Nat.add_sub_cancel_left, List.set_append_left _ _ hk]
section
variable {P : Program} {n : NT} {w0 : Base} {e : Env} {hp : Hp} {ty : TypeId}
theorem st_loadX (i k : Nat) {x : Operand} {g m t t' : Nat} {X l Y : List Value} {v : Value} (hX : X.length = m) (hx : val e x = some (.pointer (some ⟨g, m + k, none⟩))) (ht : oneT P t = true) (hi : hp[i]? = some (g, Cl t' (X ++ (l ++ Y)))) (hv : l[k]? = some v) :
    Stable P n w0 (.load t x) ty e hp v := st_load i hx ht hi (cx_get hX hv)
theorem u_storeX (i k : Nat) {t t' : TypeId} {x y : Operand} {g m : Nat} {X l Y : List Value} {v : Value} (hX : X.length = m) (hx : val e x = some (.pointer (some ⟨g, m + k, none⟩))) (hy : val e y = some v) (ht : sizT P t 1 = true) (h1 : v.oneCell' = true)
    (hi : hp[i]? = some (g, Cl t' (X ++ (l ++ Y)))) (hlt : k < l.length) :
    Does P n w0 (.store t x y) ty e hp (fun _ hp' => hp' = hp.set i (g, Cl t' (X ++ (l.set k v ++ Y)))) := by
  have := u_store (P := P) (n := n) (w0 := w0) (ty := ty) (e := e) (hp := hp) i hx hy ht h1 hi (by simp only [List.length_append]; omega)
  rw [cx_set hX hlt] at this
  exact this
theorem st_indexX {α : Type} {l : List α} {el : TypeId} {x y : Operand} {t sz g m c : Nat} {A : Option Addr} {i : Int} (hA : A.map (·.add (i.toNat * sz)) = some ⟨g, m, none⟩) (hij : i = (i.toNat : Int) ∧ i.toNat < l.length) (hx : val e x = some (.slice A l.length c)) {kd : IntKind} (hy : val e y = some (.int kd i)) (ht : slT P t el sz = true) :
    Stable P n w0 (.indexAddr t x y) ty e hp (.pointer (some ⟨g, m + 0, none⟩)) := by
  have hs : A.isSome = true := by
    cases A with
    | none => cases hA
    | some _ => rfl
  have := st_index_old (P := P) (n := n) (w0 := w0) (ty := ty) (e := e) (hp := hp) i.toNat hx hy hij.1 hij.2 hs ht
  rw [hA] at this
  exact this
end
section
variable {α : Type} {el : TypeId} {o : OT α} {b : Base} {A : Option Addr} {c : Nat} {l : List α} {hs : Hp}
/-- An element is taken out as a part of its block; the way back. -/
theorem OS.out {sz : Nat} (hsz : o.sz = sz) (hpos : 0 < sz) (h : OS el o b.w (.slice A l.length c) l hs) {i : Int} {x : α} (hi : idx l i = some x) :
    ∃ (g n : Nat) (X cs Y : List Value) (hsj P1 P2 : Hp), A.map (·.add (i.toNat * sz)) = some ⟨g, n, none⟩ ∧ X.length = n ∧ hs = (g, Cl el (X ++ (cs ++ Y))) :: (P1 ++ (hsj ++ P2)) ∧ o.rep b.w cs x hsj ∧ (i = (i.toNat : Int) ∧ i.toNat < l.length) ∧
      ∀ b' cs' x' hs', b.Le b' → o.rep b'.w cs' x' hs' → OS el o b'.w (.slice A (put l i x').length c) (put l i x') ((g, Cl el (X ++ (cs' ++ Y))) :: (P1 ++ (hs' ++ P2))) := by
  obtain ⟨j, rfl, hx⟩ := idx_some hi
  rw [Int.toNat_natCast]
  subst hsz
  obtain ⟨css, hss, hq, q1, q2, q3⟩ := h
  obtain ⟨cs, hsj, hc, hh, hr⟩ := q2.get hx
  have hjl : j < l.length := (List.getElem?_eq_some_iff.1 hx).1
  obtain ⟨g, cap, pr, tl, hv, hq1, hl1, hl2, hmc, hcm⟩ := q1.pos (by omega)
  injection hv with e1 e2 e3
  subst e1
  subst hq1
  have hlc := q2.len
  have htk := all3_take_len q2 j (by omega)
  have hfl := (all3_flat q2).1
  refine ⟨g, pr.length + j * o.sz, pr ++ (css.take j).flatten, cs, (css.drop (j + 1)).flatten ++ tl, hsj, (hss.take j).flatten, (hss.drop (j + 1)).flatten, ?_, by rw [List.length_append, htk], ?_, hr, ⟨rfl, hjl⟩, fun b' cs' x' hs' hle hr' => ?_⟩
  · simp [Addr.add_lit]
  · rw [q3, flat_split hc, flat_split hh]
    simp
  · rw [put_nat]
    have h8 := (q2.imp fun _ _ _ h => o.mono hle.cells h).set j hr'
    have h9 := (all3_flat h8).1
    rw [List.length_set] at h9
    refine ⟨css.set j cs', hss.set j hs', [(g, Cl el (pr ++ (css.set j cs').flatten ++ tl))], .inr ⟨g, cap, pr, tl, ?_, rfl, ?_, ?_, ?_, hcm⟩, h8, ?_⟩
    · rw [e3]
    · rw [h9, List.length_set]
    · rw [List.length_append, h9, ← hfl, ← List.length_append]
      exact hl2
    · rw [List.length_set]; exact hmc
    · rw [flat_set _ (by omega), flat_set _ (by omega)]
      simp
end
section
variable {P : Program} {n : NT} {b : Base} {ops : Array Oper} {Q : Exit → Act → World → Prop} {e : Env} {hp : Hp}
theorem outX_perm {F hs hsj P1 P2 R : Hp} {x : Nat × Obj} (hh : hp = F ++ (hs ++ R)) (hq : hs = x :: (P1 ++ (hsj ++ P2))) : (x :: (F ++ (hsj ++ ((P1 ++ P2) ++ R)))).Perm hp := by
  subst hh
  subst hq
  classical
  refine List.perm_iff_count.2 fun y => ?_
  simp only [List.count_append, List.count_cons]
  omega
theorem inX_perm {F hsj P1 P2 R : Hp} {x : Nat × Obj} (hh : hp = x :: (F ++ (hsj ++ ((P1 ++ P2) ++ R)))) : (F ++ ((x :: (P1 ++ (hsj ++ P2))) ++ R)).Perm hp := by
  subst hh
  exact (outX_perm (hp := F ++ ((x :: (P1 ++ (hsj ++ P2))) ++ R)) rfl rfl).symm
theorem assoc3 (h1 h2 h3 R : Hp) : (h1 ++ (h2 ++ h3)) ++ R = h1 ++ (h2 ++ (h3 ++ R)) := by simp
theorem t_outX0 (F hs P1 P2 R : Hp) {x : Nat × Obj} {l : List Oper} (hh : hp = F ++ (hs ++ R)) (hq : hs = x :: (P1 ++ ([] ++ P2))) (h : SLo P n b ops Q l e (x :: (F ++ ((P1 ++ P2) ++ R)))) : SLo P n b ops Q l e hp := fun a w hf ho => h a w hf (ho.perm (outX_perm hh hq))
theorem t_outX3 (F hs h1 h2 h3 P1 P2 R : Hp) {x : Nat × Obj} {l : List Oper} (hh : hp = F ++ (hs ++ R)) (hq : hs = x :: (P1 ++ ((h1 ++ (h2 ++ h3)) ++ P2))) (h : SLo P n b ops Q l e (x :: (F ++ (h1 ++ (h2 ++ (h3 ++ ((P1 ++ P2) ++ R))))))) : SLo P n b ops Q l e hp := fun a w hf ho => h a w hf (by
  have := ho.perm (outX_perm hh hq)
  rwa [assoc3] at this)
theorem x_inX0 (F P1 P2 R : Hp) {x : Nat × Obj} {ex : Exit} (hh : hp = x :: (F ++ ((P1 ++ P2) ++ R))) (h : SLx n b Q ex e (F ++ ((x :: (P1 ++ ([] ++ P2))) ++ R))) : SLx n b Q ex e hp := fun a w hf ho => h a w hf (ho.perm (inX_perm (hsj := []) hh))
theorem x_inX3 (F h1 h2 h3 P1 P2 R : Hp) {x : Nat × Obj} {ex : Exit} (hh : hp = x :: (F ++ (h1 ++ (h2 ++ (h3 ++ ((P1 ++ P2) ++ R)))))) (h : SLx n b Q ex e (F ++ ((x :: (P1 ++ ((h1 ++ (h2 ++ h3)) ++ P2))) ++ R))) : SLx n b Q ex e hp := fun a w hf ho => h a w hf (ho.perm (inX_perm (by rw [assoc3]; exact hh)))
end
section
variable {α : Type} {el : TypeId} {o : OT α} {b : Base} {l : List α} {hs : Hp} {P : Program} {n : NT} {e : Env} {hp : Hp} {ty : TypeId}
/-- An element with three slices of its own is appended. -/
theorem u_appO3 (F h1 h2 h3 R : Hp) {s x : Operand} {t sz by_ : Nat} {zv v : Value} {B : Option Addr} {d : Nat} {a : α} (cs' : List Value) (hsz : o.sz = sz) (hpos : 0 < sz) (hsl : slT P t el sz = true) (hinf : (P.info? el).map (fun i => (i.zero, i.size, i.bytes)) = some (some zv, sz, by_)) (hzs : zv.cells.size = sz)
    (hx : val e s = some v) (hy : val e x = some (.slice B 1 d)) (h : OS el o b.w v l hs) (hhp : hp = F ++ (hs ++ (h1 ++ (h2 ++ (h3 ++ R))))) (hrd : ∀ w, Own b hp w → Rd w B cs') (hr : o.rep b.w cs' a (h1 ++ (h2 ++ h3))) (hroom : (l.length + 1) * by_ ≤ 140737488355328 ∧ l.length + 1 ≤ 9223372036854775807) :
    Does P n b (.call { callee := .builtin .append, args := #[s, x], argTypes := #[t, t] }) ty e hp (fun v' hp' => ∃ hs', hp' = F ++ (hs' ++ R) ∧ OS el o b.w v' (l ++ [a]) hs') :=
  u_appOO F (h1 ++ (h2 ++ h3)) R cs' hsz hpos hsl hinf hzs hx hy h (by rw [hhp, assoc3]) hrd hr hroom
end
end Go.Fp
