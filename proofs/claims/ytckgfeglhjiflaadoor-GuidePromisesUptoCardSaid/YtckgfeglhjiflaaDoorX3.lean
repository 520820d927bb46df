/- Extraction, part 3: operations on slices of the call's own, by what they stand for. -/
import Derived.Test.YtckgfeglhjiflaaDoorX2
namespace Go.Fp
open Go.RowKit

theorem flat_split {α : Type} : ∀ {l : List (List α)} {j : Nat} {x : List α}, l[j]? = some x → l.flatten = (l.take j).flatten ++ (x ++ (l.drop (j + 1)).flatten)
  | [], j, x, h => by simp at h
  | y :: r, 0, x, h => by simp at h; subst h; simp
  | y :: r, j + 1, x, h => by
    have := flat_split (l := r) (j := j) (x := x) (by simpa using h)
    simp [this]
theorem flat_set {α : Type} : ∀ {l : List (List α)} {j : Nat} (x : List α), j < l.length → (l.set j x).flatten = (l.take j).flatten ++ (x ++ (l.drop (j + 1)).flatten)
  | [], j, x, h => by simp at h
  | y :: r, 0, x, h => by simp
  | y :: r, j + 1, x, h => by
    have := flat_set (l := r) (j := j) x (by simpa using h)
    simp [this]
theorem all3_take_len {α : Type} {o : OT α} {w : World} {css : List (List Value)} {l : List α} {hss : List Hp} (h : All3 (o.rep w) css l hss) (j : Nat) (hj : j ≤ l.length) : (css.take j).flatten.length = j * o.sz := by
  have := (all3_flat (h.take j)).1
  rw [this, List.length_take, Nat.min_eq_left hj]

/-- A slice of the call's own, of which element 'j' has been taken out. -/
def Hole {α : Type} (el : TypeId) (o : OT α) (w : World) (v : Value) (l : List α) (j : Nat) (hs : Hp) : Prop :=
  ∃ (css : List (List Value)) (hss : List Hp) (hq : Hp) (cs : List Value) (hsj : Hp), Seg el o.sz v l.length css.flatten hq ∧ css[j]? = some cs ∧ cs.length = o.sz ∧ hss[j]? = some hsj ∧ css.length = l.length ∧ hss.length = l.length ∧ css.flatten.length = l.length * o.sz ∧ (css.take j).flatten.length = j * o.sz ∧
    (∀ us a' hn, o.rep w us a' hn → All3 (o.rep w) (css.set j us) (l.set j a') (hss.set j hn)) ∧ hs = (hq ++ (hss.take j).flatten) ++ (hss.drop (j + 1)).flatten
section
variable {α : Type} {el : TypeId} {o : OT α} {b : Base} {A : Option Addr} {c : Nat} {l : List α} {hs : Hp}
/-- An element of a slice of the call's own, and the way back. -/
theorem OS.get {sz : Nat} (hsz : o.sz = sz) (hpos : 0 < sz) (h : OS el o b.w (.slice A l.length c) l hs) {j : Nat} {x : α} (hx : l[j]? = some x) :
    ∃ cs hsj P1 P2, hs = P1 ++ (hsj ++ P2) ∧ o.rep b.w cs x hsj ∧ (∀ (w : World) (hp : Hp), Own b hp w → hs.Sublist hp → ∀ (i : Nat) (u : Value), cs[i]? = some u → cellO w A (j * sz + i) = some u) ∧ A.isSome = true ∧ j < l.length ∧
      (∀ b' x' hsj', b.Le b' → o.rep b'.w cs x' hsj' → OS el o b'.w (.slice A (l.set j x').length c) (l.set j x') (P1 ++ (hsj' ++ P2))) ∧ ∀ b', b.Le b' → Hole el o b'.w (.slice A l.length c) l j (P1 ++ P2) := by
  subst hsz
  have hnow := fun (w : World) (hp : Hp) (ho : Own b hp w) (hh : hs.Sublist hp) => h.now ho hh
  obtain ⟨css, hss, hq, h1, h2, h3⟩ := h
  obtain ⟨cs, hsj, hc, hh, hr⟩ := h2.get hx
  have hjl : j < l.length := (List.getElem?_eq_some_iff.1 hx).1
  have hlc := h2.len
  refine ⟨cs, hsj, hq ++ (hss.take j).flatten, (hss.drop (j + 1)).flatten, ?_, hr, fun w hp ho hsub i u hu => ?_, ?_, hjl, fun b' x' hsj' hle hr' => ?_, fun b' hle => ?_⟩
  · rw [h3, flat_split hh]; simp
  · have hrd : Rd w A css.flatten := h1.rd (fun y hy => (ho.blk y.1 y.2 (hsub.subset (by rw [h3]; exact List.mem_append_left _ hy))).2)
    refine hrd _ u ?_
    rw [flat_split hc]
    have hl2 := all3_take_len h2 j (by omega)
    rw [List.getElem?_append_right (by omega), hl2, Nat.add_sub_cancel_left, List.getElem?_append_left (List.getElem?_eq_some_iff.1 hu).1]
    exact hu
  · exact h1.isSome (by omega)
  · refine ⟨css, hss.set j hsj', hq, by rw [List.length_set]; exact h1, ?_, ?_⟩
    · have h4 := (h2.imp fun _ _ _ h => o.mono hle.cells h).set j hr'
      rwa [show css.set j cs = css by
        apply List.ext_getElem?
        intro i
        by_cases hij : j = i
        · subst hij
          rw [List.getElem?_set_self (by omega), hc]
        · rw [List.getElem?_set_ne hij]] at h4
    · rw [flat_set _ (by omega)]; simp
  · exact ⟨css, hss, hq, cs, hsj, h1, hc, (o.cells hr).1, hh, hlc.1, hlc.2, (all3_flat h2).1, all3_take_len h2 j (by omega), fun us a' hn hr' => (h2.imp fun _ _ _ h => o.mono hle.cells h).set j hr', rfl⟩
theorem set_seg {pr xs tl us : List Value} {k : Nat} (hk : k + us.length ≤ xs.length) : (pr ++ xs ++ tl).take (pr.length + k) ++ us ++ (pr ++ xs ++ tl).drop (pr.length + k + us.length) = pr ++ (xs.take k ++ us ++ xs.drop (k + us.length)) ++ tl := by
  have e1 : (pr ++ xs ++ tl).take (pr.length + k) = pr ++ xs.take k := by
    rw [List.append_assoc, List.take_length_add_append, List.take_append_of_le_length (by omega)]
  have e2 : (pr ++ xs ++ tl).drop (pr.length + k + us.length) = xs.drop (k + us.length) ++ tl := by
    rw [List.append_assoc, Nat.add_assoc, List.drop_length_add_append, List.drop_append_of_le_length (by omega)]
  rw [e1, e2]
  simp
variable {P : Program} {n : NT} {m : Nat} {dk0 : Hp} {rq : Option Nat} {e : Env} {hp : Hp} {ty : TypeId}
/-- Cells 'us' are stored into element 'j', from cell 'off' on; what hangs on the element is as before, or 'hsn'. -/
theorem u_storeOS {sz : Nat} (hsz : o.sz = sz) (F R : Hp) (off k : Nat) {t : TypeId} {x y : Operand} {v : Value} (us : List Value) {j : Nat} {a a' : α} (hhp : hp = F ++ (hs ++ R)) (h : OS el o b.w (.slice A l.length c) l hs) (ha : l[j]? = some a)
    (hx : val e x = some (.pointer (A.map (·.add (j * sz + off))))) (hy : val e y = some v) (hc : v.cells = us.toArray) (ht : sizT P t k = true) (hk : us.length = k) (h1 : ∀ u ∈ us, u.oneCell' = true)
    (hr : ∀ cs hsj, o.rep b.w cs a hsj → off + k ≤ sz ∧ o.rep b.w (cs.take off ++ us ++ cs.drop (off + k)) a' hsj) :
    Does P n b (.store t x y) ty e hp (fun _ hp' => ∃ hs', hp' = F ++ (hs' ++ R) ∧ OS el o b.w (.slice A (l.set j a').length c) (l.set j a') hs') := by
  subst hsz
  obtain ⟨css, hss, hq, q1, q2, q3⟩ := h
  obtain ⟨cs, hsj, hcs, hh, hrep⟩ := q2.get ha
  have hjl : j < l.length := (List.getElem?_eq_some_iff.1 ha).1
  obtain ⟨hok, hrep'⟩ := hr cs hsj hrep
  obtain ⟨g, cap, pr, tl, hv, hq1, hl1, hl2, hmc, hcm⟩ := q1.pos (by omega)
  injection hv with e1 e2 e3
  subst e1
  subst hq1
  have hlc := q2.len
  have hcl : cs.length = o.sz := (o.cells hrep).1
  have htk := all3_take_len q2 j (by omega)
  have hfl := (all3_flat q2).1
  have hmul : (j + 1) * o.sz ≤ l.length * o.sz := Nat.mul_le_mul_right _ (by omega)
  rw [Nat.add_mul] at hmul
  have hle : j * o.sz + off + us.length ≤ css.flatten.length := by rw [hfl]; omega
  have hblk : hp[F.length]? = some (g, Cl el (pr ++ css.flatten ++ tl)) := by
    rw [hhp, q3]
    simp
  have hd := u_storeN (P := P) (n := n) (w0 := b) (ty := ty) (e := e) (hp := hp) F.length k (t := t) (t' := el) (x := x) (y := y) (g := g) (o := pr.length + (j * o.sz + off)) (cs := pr ++ css.flatten ++ tl) (vs := us) (v := v) (by simpa [Addr.add_lit] using hx) hy hc ht hk h1 hblk (by simp only [List.length_append]; omega)
  refine ⟨fun a w hf ho d pos af gd K Q hK => hd.out a w hf ho d pos af gd K Q (fun v' hp' w' hΨ ho' => hK v' hp' w' ?_ ho')⟩
  subst hΨ
  have hset := set_seg (pr := pr) (xs := css.flatten) (tl := tl) (us := us) (k := j * o.sz + off) hle
  rw [hk] at hset
  rw [hset]
  have hflat : css.flatten.take (j * o.sz + off) ++ us ++ css.flatten.drop (j * o.sz + off + k) = (css.set j (cs.take off ++ us ++ cs.drop (off + k))).flatten := by
    rw [flat_set _ (by omega), flat_split hcs, ← htk]
    have h6 : cs.drop (off + k) ++ (css.drop (j + 1)).flatten = (cs ++ (css.drop (j + 1)).flatten).drop (off + k) := by
      rw [List.drop_append_of_le_length (by omega)]
    have h7 : (cs ++ (css.drop (j + 1)).flatten).take off = cs.take off := List.take_append_of_le_length (by omega)
    rw [List.take_length_add_append, h7, Nat.add_assoc, List.drop_length_add_append, ← h6]
    simp
  rw [hflat]
  refine ⟨[(g, Cl el (pr ++ (css.set j (cs.take off ++ us ++ cs.drop (off + k))).flatten ++ tl))] ++ hss.flatten, ?_, css.set j (cs.take off ++ us ++ cs.drop (off + k)), hss, _, ?_, ?_, rfl⟩
  · rw [hhp, q3]
    simp
  · have h8 := q2.set j hrep'
    have h9 := (all3_flat h8).1
    rw [List.length_set] at h9
    refine .inr ⟨g, cap, pr, tl, ?_, rfl, ?_, ?_, ?_, hcm⟩
    · rw [e3]
    · rw [h9, List.length_set]
    · rw [List.length_append, h9, ← hfl, ← List.length_append]
      exact hl2
    · rw [List.length_set]; exact hmc
  · have h8 := q2.set j hrep'
    rwa [show hss.set j hsj = hss by
      apply List.ext_getElem?
      intro i
      by_cases hij : j = i
      · subst hij
        rw [List.getElem?_set_self (by omega), hh]
      · rw [List.getElem?_set_ne hij]] at h8
theorem perm_set {F R : Hp} (q : Hp) : ∀ {hss : List Hp} {j : Nat} {x y : Hp}, hss[j]? = some x → (F ++ ((q ++ (hss.set j y).flatten) ++ R)).Perm (F ++ ((q ++ ((hss.take j).flatten ++ (hss.drop (j + 1)).flatten)) ++ (y ++ R))) := by
  intro hss j x y h
  rw [flat_set _ (List.getElem?_eq_some_iff.1 h).1]
  refine List.Perm.append_left F ?_
  simp only [List.append_assoc]
  refine List.Perm.append_left q (List.Perm.append_left _ ?_)
  rw [← List.append_assoc, ← List.append_assoc]
  exact List.Perm.append_right R List.perm_append_comm
/-- append to a slice of the call's own; what is appended is frozen, or flat. -/
theorem u_appOS {r : RT α} (F R : Hp) {s x : Operand} {t sz by_ : Nat} {zv v : Value} {B : Option Addr} {k d : Nat} (css' : List (List Value)) (m : List α) (hsz : r.sz = sz) (hpos : 0 < sz) (hsl : slT P t el sz = true) (hinf : (P.info? el).map (fun i => (i.zero, i.size, i.bytes)) = some (some zv, sz, by_)) (hzs : zv.cells.size = sz)
    (hx : val e s = some v) (hy : val e x = some (.slice B k d)) (hk : k = m.length) (h : OS el (OT.fr r) b.w v l hs) (hhp : hp = F ++ (hs ++ R)) (hrd : ∀ w, Own b hp w → Rd w B css'.flatten) (hall : All2 (r.rep b.w) css' m) (hroom : (l.length + k) * by_ ≤ 140737488355328 ∧ l.length + k ≤ 9223372036854775807) :
    Does P n b (.call { callee := .builtin .append, args := #[s, x], argTypes := #[t, t] }) ty e hp (fun v' hp' => ∃ hs', hp' = F ++ (hs' ++ R) ∧ OS el (OT.fr r) b.w v' (l ++ m) hs') := by
  subst hsz
  subst hk
  obtain ⟨css, hss, hq, q1, q2, q3⟩ := h
  obtain ⟨q4, q5⟩ := all3_fr q2
  have hq' : hs = hq := by rw [q3, q5, List.append_nil]
  subst hq'
  have hd := u_appF (P := P) (n := n) (w0 := b) (ty := ty) (e := e) (hp := hp) (by_ := by_) F hs R css'.flatten hsl hinf hzs hpos hx hy q1 hhp (flat_len hall) hrd (flat_one hall) hroom.2 hroom.1
  refine ⟨fun a w hf ho d pos af gd K Q hK => hd.out a w hf ho d pos af gd K Q (fun v' hp' w' hΨ ho' => hK v' hp' w' ?_ ho')⟩
  obtain ⟨hs', h1, h2⟩ := hΨ
  refine ⟨hs', h1, css ++ css', List.replicate (l ++ m).length [], hs', ?_, all3_of2 (q4.append hall), by simp⟩
  rw [List.length_append, List.flatten_append]
  exact h2
/-- append to a slice whose elements are the call's own: one more of them, 'a', with what hangs on it. -/
theorem u_appOO (F hn R : Hp) {s x : Operand} {t sz by_ : Nat} {zv v : Value} {B : Option Addr} {d : Nat} {a : α} (cs' : List Value) (hsz : o.sz = sz) (hpos : 0 < sz) (hsl : slT P t el sz = true) (hinf : (P.info? el).map (fun i => (i.zero, i.size, i.bytes)) = some (some zv, sz, by_)) (hzs : zv.cells.size = sz)
    (hx : val e s = some v) (hy : val e x = some (.slice B 1 d)) (h : OS el o b.w v l hs) (hhp : hp = F ++ (hs ++ (hn ++ R))) (hrd : ∀ w, Own b hp w → Rd w B cs') (hr : o.rep b.w cs' a hn) (hroom : (l.length + 1) * by_ ≤ 140737488355328 ∧ l.length + 1 ≤ 9223372036854775807) :
    Does P n b (.call { callee := .builtin .append, args := #[s, x], argTypes := #[t, t] }) ty e hp (fun v' hp' => ∃ hs', hp' = F ++ (hs' ++ R) ∧ OS el o b.w v' (l ++ [a]) hs') := by
  subst hsz
  obtain ⟨css, hss, hq, q1, q2, q3⟩ := h
  have hc := o.cells hr
  have hd := u_appF (P := P) (n := n) (w0 := b) (ty := ty) (e := e) (hp := hp) (by_ := by_) F hq (hss.flatten ++ (hn ++ R)) cs' hsl hinf hzs hpos hx hy q1 (by rw [hhp, q3]; simp) (by rw [hc.1]; omega) hrd hc.2 hroom.2 hroom.1
  refine ⟨fun a w hf ho d pos af gd K Q hK => hd.out a w hf ho d pos af gd K Q (fun v' hp' w' hΨ ho' => hK v' hp' w' ?_ ho')⟩
  obtain ⟨hs', h1, h2⟩ := hΨ
  refine ⟨hs' ++ (hss ++ [hn]).flatten, by rw [h1]; simp, css ++ [cs'], hss ++ [hn], hs', ?_, q2.append ⟨hr, trivial⟩, rfl⟩
  rw [List.length_append, List.flatten_append]
  simpa using h2
theorem rd_src {r : RT α} {w0 : World} {B : Option Addr} {k : Nat} {m : List α} (h : FZ r w0 B k m) : ∃ css, Rd w0 B css.flatten ∧ All2 (r.rep w0) css m := h.2
theorem rd_own {r : RT α} {A : Option Addr} {c : Nat} (h : OS el (OT.fr r) b.w (.slice A l.length c) l hs) (hh : hs.Sublist hp) : ∃ css, (∀ w, Own b hp w → Rd w A css.flatten) ∧ All2 (r.rep b.w) css l := by
  obtain ⟨css, hss, hq, q1, q2, q3⟩ := h
  exact ⟨css, fun w ho => q1.rd (fun y hy => (ho.blk y.1 y.2 (hh.subset (by rw [q3]; exact List.mem_append_left _ hy))).2), (all3_fr q2).1⟩
theorem made_flat (zs : List Value) (m : Nat) : (madeCells zs.toArray (m * zs.length)).toList = (List.replicate m zs).flatten := by
  induction m with
  | zero => simp [madeCells]
  | succ m ih =>
    rw [List.replicate_succ', List.flatten_append, ← ih]
    simp only [madeCells, Array.toList_map, Array.toList_range, Nat.add_mul, Nat.one_mul, List.range_add, List.map_append, List.map_map]
    congr 1
    simp only [List.flatten_cons, List.flatten_nil, List.append_nil]
    apply List.ext_getElem?
    intro i
    by_cases hi : i < zs.length
    · simp [hi, Nat.mod_eq_of_lt hi]
    · simp [hi]
/-- make([]T, m): each at its zero. -/
theorem u_mkOS {r : RT α} (F R : Hp) {t sz by_ : Nat} {x y : Operand} {zv : Value} (zs : List Value) (a0 : α) (m : Nat) {i : Int} (hhp : hp = F ++ R) (hi0 : i = (m : Int)) (hx : val e x = some (.int .i64 i)) (hy : val e y = some (.int .i64 i)) (hsl : slT P t el sz = true) (hinf : (P.info? el).map (fun i => (i.zero, i.size, i.bytes)) = some (some zv, sz, by_))
    (hz : zv.cells = zs.toArray) (hl : zs.length = sz) (hsz : r.sz = sz) (hpos : 0 < sz) (hr : r.rep b.w zs a0) (hb : by_ * m ≤ 281474976710656) (hm : m ≤ 9223372036854775807) :
    Does P n b (.makeSlice t x y) ty e hp (fun v hp' => ∃ hs, hp' = F ++ (hs ++ R) ∧ OS el (OT.fr r) b.w v (List.replicate m a0) hs) := by
  subst hsz
  subst hi0
  obtain ⟨h2, _⟩ := slT_spec hsl
  cases hi : P.info? el with
  | none => simp [hi] at hinf
  | some inf =>
    simp only [hi, Option.map_some, Option.some.injEq, Prod.mk.injEq] at hinf
    have h := u_make (P := P) (n := n) (w0 := b) (e := e) (hp := hp) (ty := ty) m hx hy h2 hi hinf.1 (by rw [hinf.2.2]; exact hb) hm
    rw [hinf.2.1, hz, ← hl, made_flat zs] at h
    refine ⟨fun a w hf ho d pos af gd K Q hK => h.out a w hf ho d pos af gd K Q (fun v' hp' w' hΨ ho' => ?_)⟩
    obtain ⟨g, h3, h4⟩ := hΨ
    subst h3
    subst h4
    rw [hhp] at ho'
    refine hK _ (F ++ ([(g, Cl el (List.replicate m zs).flatten)] ++ R)) w' ⟨_, rfl, List.replicate m zs, List.replicate (List.replicate m a0).length [], [(g, Cl el (List.replicate m zs).flatten)], ?_, all3_of2 (All2.rep hr m), by simp⟩ (ho'.perm (perm_mid F [(g, Cl el (List.replicate m zs).flatten)] R).symm)
    have hfl := flat_len (All2.rep hr m)
    rw [List.length_replicate] at hfl
    have hmx : maxLen = 9223372036854775807 := by decide
    refine .inr ⟨g, m, [], [], ?_, by simp, ?_, ?_, ?_, by omega, Front.nil⟩
    · simp
    · rw [hfl, List.length_replicate]; rfl
    · rw [List.append_nil, hfl]; exact Nat.le_refl _
    · rw [List.length_replicate]; exact Nat.le_refl _
/-- A block as a slice of the call's own: a literal. -/
theorem OS.lit {r : RT α} {g m : Nat} {cs : List Value} (css : List (List Value)) (hf : css.flatten = cs) (h : All2 (r.rep b.w) css l) (hm : l.length = m) (hmx : m ≤ 9223372036854775807) : OS el (OT.fr r) b.w (.slice (some ⟨g, 0, none⟩) m m) l [(g, Cl el cs)] := by
  subst hm
  have hx : maxLen = 9223372036854775807 := by decide
  refine ⟨css, List.replicate l.length [], [(g, Cl el cs)], .inr ⟨g, l.length, [], [], rfl, by simp [hf], flat_len h, by rw [List.append_nil]; exact Nat.le_of_eq (flat_len h).symm, Nat.le_refl _, by omega, Front.nil⟩, all3_of2 h, by simp⟩
theorem st_loadN_rd (k : Nat) {x : Operand} {t : TypeId} {A : Option Addr} {o : Nat} {vs : List Value} (hx : val e x = some (.pointer (A.map (·.add o)))) (ht : aggT P t k = true) (hA : A.isSome = true) (hl : vs.length = k) (hv : ∀ w, Own b hp w → ∀ (j : Nat) (u : Value), vs[j]? = some u → cellO w A (o + j) = some u) :
    Stable P n b (.load t x) ty e hp (.agg vs.toArray) := fun a w hf ho _ _ _ _ => by
  cases A with
  | none => cases hA
  | some p =>
    have hc := run_loadCells_list (P := P) w (p.add o) vs (fun j u hu => by rw [addr_add_add]; exact hv w ho j u hu)
    rw [hl] at hc
    simp only [Option.map_some] at hx
    simp [execOp, hf.eval hx, Instr.loadAt, Instr.sureAddr, loadVar, run_isAgg_agg ht, Fp.run_sizeOf (aggT_siz ht), hc]
theorem flat_fz {r : RT α} (hfl : ∀ (w w' : World) (vs : List Value) (x : α), r.rep w vs x → r.rep w' vs x) {w w' : World} {v : Value} (h : OS el (OT.fr r) w v l hs) : OS el (OT.fr r) w' v l hs := by
  obtain ⟨css, hss, hq, h1, h2, h3⟩ := h
  exact ⟨css, hss, hq, h1, h2.imp fun _ _ _ h => ⟨hfl _ _ _ _ h.1, h.2⟩, h3⟩
theorem cat_flat {r s : RT α} (h1 : ∀ (w w' : World) (vs : List Value) (x : α), r.rep w vs x → r.rep w' vs x) (h2 : ∀ (w w' : World) (vs : List Value) (x : α), s.rep w vs x → s.rep w' vs x) (w w' : World) (vs : List Value) (x : α) (h : (r.cat s).rep w vs x) : (r.cat s).rep w' vs x := by
  obtain ⟨a, c, q1, q2, q3⟩ := h
  exact ⟨a, c, q1, h1 _ _ _ _ q2, h2 _ _ _ _ q3⟩
theorem OS.len {w : World} {v : Value} (h : OS el o w v l hs) : l.length ≤ 9223372036854775807 := by
  obtain ⟨_, _, _, h1, h2⟩ := h.form
  omega
theorem OS.lc {w : World} (h : OS el o w (.slice A l.length c) l hs) : l.length ≤ c := by
  obtain ⟨_, _, hv, h1, _⟩ := h.form
  injection hv with _ _ hv
  omega
theorem notT {t : Bool} (h : (!t) = true) : t = false := by cases t <;> simp_all
theorem notF {t : Bool} (h : (!t) = false) : t = true := by cases t <;> simp_all
theorem u_putOS {i : Int} {j : Nat} (hj : i = (j : Int)) {sz : Nat} (hsz : o.sz = sz) (F R : Hp) (off k : Nat) {t : TypeId} {x y : Operand} {v : Value} (us : List Value) {a a' : α} (hhp : hp = F ++ (hs ++ R)) (h : OS el o b.w (.slice A l.length c) l hs) (ha : l[j]? = some a)
    (hx : val e x = some (.pointer (A.map (·.add (j * sz + off))))) (hy : val e y = some v) (hc : v.cells = us.toArray) (ht : sizT P t k = true) (hk : us.length = k) (h1 : ∀ u ∈ us, u.oneCell' = true)
    (hr : ∀ cs hsj, o.rep b.w cs a hsj → off + k ≤ sz ∧ o.rep b.w (cs.take off ++ us ++ cs.drop (off + k)) a' hsj) :
    Does P n b (.store t x y) ty e hp (fun _ hp' => ∃ hs', hp' = F ++ (hs' ++ R) ∧ OS el o b.w (.slice A (put l i a').length c) (put l i a') hs') := by
  rw [hj, put_nat]
  exact u_storeOS hsz F R off k us hhp h ha hx hy hc ht hk h1 hr
theorem OS.nz {w : World} (h : OS el o w (.slice A l.length c) l hs) (hne : l ≠ []) : (A = none ↔ l = []) := by
  obtain ⟨css, hss, hq, h1, _, _⟩ := h
  have hl : 0 < l.length := List.length_pos_iff.2 hne
  have := h1.isSome hl
  exact ⟨(fun h => by rw [h] at this; cases this), fun h => absurd h hne⟩
theorem put_nz {i : Int} {x : α} (h : A = none ↔ l = []) : (A = none ↔ put l i x = []) := by
  rw [h]
  unfold put
  constructor
  · intro h; rw [h]; rfl
  · intro h
    have := congrArg List.length h
    simp at this
    exact this
theorem nz_dec (h : A = none ↔ l = []) : decide (A = none) = l.isEmpty := by
  cases l with
  | nil => simp [h.2 rfl]
  | cons x t => simp; intro hA; exact absurd (h.1 hA) (by simp)
theorem st_neqnil_z {x y : Operand} {t u el sz m c m' c' : Nat} {A : Option Addr} {l : List α} (hx : val e x = some (.slice A m c)) (hy : val e y = some (.slice none m' c')) (hz : A = none ↔ l = []) (h : slT P t el sz = true) :
    Stable P n b (.binOp .neq t x y u) ty e hp (.bool (!l.isEmpty)) := by
  have := st_neqnil (P := P) (n := n) (w0 := b) (e := e) (hp := hp) (ty := ty) (u := u) hx hy h
  rw [← nz_dec hz]
  rwa [show decide (A ≠ none) = !decide (A = none) by simp] at this
/-- slices.Clone, from a walk of it. -/
theorem clone_of {r : RT α} {f : FuncId} {R : Hp} {sz by_ : Nat} (hsz : r.sz = sz) (hpos : 0 < sz) (hcl : ∀ (A : Option Addr) (n c : Nat) (xs : List Value) (w : World), Rd w A xs → xs.length = n * sz → (n * by_ ≤ 140737488355328 ∧ n ≤ 9223372036854775807) → CallsH P f [.slice A n c] w [] (fun v hp' => Seg0 el sz v n xs hp')) (h : FZ r b.w A c l) (hroom : l.length * by_ ≤ 140737488355328 ∧ l.length ≤ 9223372036854775807) :
    CallsG P f [.slice A l.length c] b R (fun v b' hp' => ∃ (A' : Option Addr) (c' : Nat) (hs : Hp), .slice A' l.length c' = v ∧ (hs ++ R) = hp' ∧ OS el (OT.fr r) b'.w (.slice A' l.length c') l hs) := fun w ho => by
  subst hsz
  obtain ⟨_, css, h1, h2⟩ := h
  refine (CallsH.frame (fun w ho => hcl A l.length c css.flatten w (h1.old ho) (flat_len h2) hroom) w ho).mono fun en w' ⟨v, hp', he, ho', hs, hq, hseg⟩ => ?_
  subst he
  subst hq
  obtain ⟨A', c', hv, _⟩ := hseg.form
  subst hv
  exact ⟨_, b, _, rfl, Base.Le.refl _, ho', A', c', hs, rfl, rfl, css, List.replicate l.length [], hs, hseg.seg, all3_of2 h2, by simp⟩
/- parts of slices -/
def subA (A : Option Addr) (c j sz : Nat) : Option Addr := if c = j then A else A.map (·.add (j * sz))
theorem st_part {x : Operand} {lo hi : Option Operand} {t el sz : Nat} (j k : Nat) (hx : val e x = some (.slice A l.length c)) (hlo : (lo = none ∧ j = 0) ∨ ∃ q kd i, lo = some q ∧ val e q = some (.int kd i) ∧ i = (j : Int)) (hhi : (hi = none ∧ k = l.length) ∨ ∃ q kd i, hi = some q ∧ val e q = some (.int kd i) ∧ i = (k : Int)) (hjk : j ≤ k) (hkl : k ≤ l.length) (hlc : l.length ≤ c) (h : slT P t el sz = true) :
    Stable P n b (.slice t x lo hi none) ty e hp (.slice (subA A c j sz) ((l.take k).drop j).length (c - j)) := fun a w hf _ _ _ _ _ => by
  obtain ⟨h1, inf, h2, h3⟩ := slT_spec h
  have hlen : ((l.take k).drop j).length = k - j := by simp [Nat.min_eq_left hkl]
  rw [hlen]
  have hkc : k ≤ c := by omega
  unfold subA
  rcases hlo with ⟨rfl, rfl⟩ | ⟨q, kd, i, rfl, hq, rfl⟩ <;> rcases hhi with ⟨rfl, rfl⟩ | ⟨q', kd', i', rfl, hq', rfl⟩
  · simp [execOp, hf.eval hx, Instr.sliceAt, run_underlying h1, Instr.slice, Instr.sliceBounds, sizeOf, typeInfo, h2]
  · simp [execOp, hf.eval hx, hf.eval hq', Instr.sliceAt, run_underlying h1, Instr.slice, Instr.sliceBounds, Instr.sliceBound, asIntOf, hkc, sizeOf, typeInfo, h2]
  · simp [execOp, hf.eval hx, hf.eval hq, Instr.sliceAt, run_underlying h1, Instr.slice, Instr.sliceBounds, Instr.sliceBound, asIntOf, hjk, sizeOf, typeInfo, h2, h3]
  · simp [execOp, hf.eval hx, hf.eval hq, hf.eval hq', Instr.sliceAt, run_underlying h1, Instr.slice, Instr.sliceBounds, Instr.sliceBound, asIntOf, hjk, hkc, sizeOf, typeInfo, h2, h3]
theorem cellO_sub {w : World} {A : Option Addr} {c j sz i : Nat} (hc : c ≠ j) : cellO w (subA A c j sz) i = cellO w A (j * sz + i) := by
  unfold subA
  rw [if_neg hc]
  cases A with
  | none => rfl
  | some p => simp [cellO, addr_add_add]
theorem FZ.sub {r : RT α} {w : World} {sz : Nat} (hsz : r.sz = sz) (h : FZ r w A c l) {j k : Nat} (hjk : j ≤ k) (hkl : k ≤ l.length) : FZ r w (subA A c j sz) (c - j) ((l.take k).drop j) := by
  subst hsz
  obtain ⟨⟨hl, hc⟩, css, h1, h2⟩ := h
  have hlen : ((l.take k).drop j).length = k - j := by simp [Nat.min_eq_left hkl]
  refine ⟨by omega, (css.take k).drop j, fun i u hu => ?_, (h2.take k).drop j⟩
  have h3 := (h2.take k).drop j
  have hi : i < ((css.take k).drop j).flatten.length := (List.getElem?_eq_some_iff.1 hu).1
  rw [flat_len h3, hlen] at hi
  have hne : c ≠ j := by
    intro hcj
    have : k - j = 0 := by omega
    rw [this] at hi
    omega
  rw [cellO_sub hne]
  refine h1 _ u ?_
  have hsp : css.flatten = (css.take j).flatten ++ (((css.take k).drop j).flatten ++ (css.drop k).flatten) := by
    rw [← List.flatten_append, ← List.flatten_append]
    congr 1
    have e1 : (css.take k).drop j ++ css.drop k = css.drop j := by
      rw [List.drop_take]
      have : css.drop k = (css.drop j).drop (k - j) := by rw [List.drop_drop]; congr 1; omega
      rw [this, List.take_append_drop]
    rw [e1, List.take_append_drop]
  have hlj : (css.take j).flatten.length = j * r.sz := by
    rw [flat_len (h2.take j), List.length_take, Nat.min_eq_left (by omega)]
  rw [hsp, List.getElem?_append_right (by omega), hlj, Nat.add_sub_cancel_left, List.getElem?_append_left (List.getElem?_eq_some_iff.1 hu).1]
  exact hu
theorem flatten_sub {β : Type} : ∀ {a c : List (List β)}, a.Sublist c → a.flatten.Sublist c.flatten
  | _, _, .slnil => List.Sublist.refl _
  | _, _, .cons x h => (flatten_sub h).trans (List.sublist_append_right x _)
  | _, _, .cons_cons x h => List.Sublist.append_left (flatten_sub h) x
theorem all3_sub {w : World} {css : List (List Value)} {hss : List Hp} (h : All3 (o.rep w) css l hss) (j k : Nat) : All3 (o.rep w) ((css.take k).drop j) ((l.take k).drop j) ((hss.take k).drop j) := (h.take k).drop j
/-- A part of a slice of the call's own; the whole is given up. -/
theorem OS.sub {sz : Nat} (hsz : o.sz = sz) (h : OS el o b.w (.slice A l.length c) l hs) {j k : Nat} (hjk : j ≤ k) (hkl : k ≤ l.length) (hF : FrontJ j := by first | exact True.intro | (show _ = 0; omega)) : ∃ hs', hs'.Sublist hs ∧ OS el o b.w (.slice (subA A c j sz) ((l.take k).drop j).length (c - j)) ((l.take k).drop j) hs' := by
  subst hsz
  obtain ⟨css, hss, hq, h1, h2, h3⟩ := h
  have hlen : ((l.take k).drop j).length = k - j := by simp [Nat.min_eq_left hkl]
  have hsub : ((hss.take k).drop j).flatten.Sublist hss.flatten := by
    have e1 : ((hss.take k).drop j).Sublist hss := (List.drop_sublist j _).trans (List.take_sublist k _)
    exact flatten_sub e1
  have h4 := all3_sub h2 j k
  rcases h1 with ⟨A', hv, hm, hx, hq0⟩ | ⟨g, cap, pr, tl, hv, hq0, hl1, hl2, hmc, hcm⟩
  · injection hv with e1 e2 e3
    subst e3
    refine ⟨[] ++ ((hss.take k).drop j).flatten, by rw [h3]; simpa using hsub.trans (List.sublist_append_right _ _), (css.take k).drop j, (hss.take k).drop j, [], ?_, h4, rfl⟩
    have hk0 : k = 0 := by omega
    subst hk0
    exact .inl ⟨subA A 0 j o.sz, by simp, by simp, by simp, rfl⟩
  · injection hv with e1 e2 e3
    subst e1
    subst e3
    subst hq0
    have hsp : css.flatten = (css.take j).flatten ++ (((css.take k).drop j).flatten ++ (css.drop k).flatten) := by
      rw [← List.flatten_append, ← List.flatten_append]
      congr 1
      have e1 : (css.take k).drop j ++ css.drop k = css.drop j := by
        rw [List.drop_take]
        have : css.drop k = (css.drop j).drop (k - j) := by rw [List.drop_drop]; congr 1; omega
        rw [this, List.take_append_drop]
      rw [e1, List.take_append_drop]
    have hlj : (css.take j).flatten.length = j * o.sz := all3_take_len h2 j (by omega)
    have hls := (all3_flat h4).1
    rw [hlen] at hls
    by_cases hcj : c = j
    · -- nothing is left
      subst hcj
      have hkj : k = c := by omega
      subst hkj
      refine ⟨[] ++ ((hss.take k).drop k).flatten, by rw [h3]; simp, (css.take k).drop k, (hss.take k).drop k, [], ?_, h4, rfl⟩
      refine .inl ⟨subA (some ⟨g, pr.length, none⟩) k k o.sz, ?_, by rw [hlen]; omega, ?_, rfl⟩
      · rw [hlen]; simp
      · rw [List.drop_take]; simp
    · refine ⟨[(g, Cl el (pr ++ css.flatten ++ tl))] ++ ((hss.take k).drop j).flatten, by rw [h3]; exact List.Sublist.append_left hsub _, (css.take k).drop j, (hss.take k).drop j, [(g, Cl el (pr ++ css.flatten ++ tl))], ?_, h4, rfl⟩
      refine .inr ⟨g, c - j, pr ++ (css.take j).flatten, (css.drop k).flatten ++ tl, ?_, ?_, ?_, ?_, by rw [hlen]; omega, by omega, hcm.2.sub hF (fun e => by subst e; rfl)⟩
      · unfold subA
        rw [if_neg hcj]
        simp [Addr.add_lit, hlj]
      · rw [hsp]; simp
      · rw [hls, hlen]
      · have hl3 := (all3_flat h2).1
        rw [List.length_append] at hl2 ⊢
        rw [hsp] at hl2
        simp only [List.length_append] at hl2 ⊢
        rw [hlj] at hl2
        rw [Nat.sub_mul]
        omega
/- pointers to frozen structs -/
theorem at_fz {w : World} {g : Nat} {t : TypeId} {cs : List Value} (h : w.heap[g]? = some (Cl t cs)) (i : Nat) (u : Value) (hu : cs[i]? = some u) : w.cell? ((⟨g, 0, none⟩ : Addr).add i) = some u := by
  rw [Addr.add_lit]
  simp [World.cell?, h, hu]
theorem at_le {b b' : Base} {p : Addr} {cs : List Value} (h : ∀ (i : Nat) (u : Value), cs[i]? = some u → b.w.cell? (p.add i) = some u) (hle : b.Le b') (i : Nat) (u : Value) (hu : cs[i]? = some u) : b'.w.cell? (p.add i) = some u := hle.cells _ _ (h i u hu)
theorem st_field_at {x : Operand} {t f off k : Nat} {p : Addr} (hx : val e x = some (.pointer (some (p.add k)))) (h : fldT P t f off = true) : Stable P n b (.fieldAddr t x f) ty e hp (.pointer (some (p.add (k + off)))) := fun a w hf _ _ _ _ _ => by
  obtain ⟨fs, fd, h1, h2, h3⟩ := run_fieldPlace h (p.add k) w
  simp [execOp, hf.eval hx, Instr.fieldAt, run_underlying h1, h2, Instr.sureAddr, h3, addr_add_add]
/- an element that is taken out, grows, and is put back -/
theorem Hole.mono {w w' : World} {v : Value} {j : Nat} (h : Hole el o w v l j hs) (hk : Keeps w w') (hn : ∀ us a' q, o.rep w' us a' q → o.rep w us a' q) : Hole el o w' v l j hs := by
  obtain ⟨css, hss, hq, cs, hsj, h1, h2, h3, h4, h5, h6, h7, h8, h9, h10⟩ := h
  exact ⟨css, hss, hq, cs, hsj, h1, h2, h3, h4, h5, h6, h7, h8, fun us a' q hr => (h9 us a' q (hn us a' q hr)).imp fun _ _ _ h => o.mono hk h, h10⟩
end
end Go.Fp
