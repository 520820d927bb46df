/- Extraction, part 14: arrays in own and in frozen blocks. -/
import Derived.Test.YtckgfeglhjiflaaDoorXD
import Derived.Lib.AppendZerosOnto
namespace Go.Fp
open Go.RowKit

section
variable {P : Program} {n : NT} {m : Nat} {dk0 : Hp} {rq : Option Nat} {b : Base} {e : Env} {hp : Hp} {ty : TypeId}
theorem FZ.arrL {α : Type} {r : RT α} {b : Base} {hp : Hp} {w : World} {i g c : Nat} {t : TypeId} {cs : List Value} {css : List (List Value)} {rest : List Value} {l : List α} (ho : Own b hp w) (hi : hp[i]? = some (g, Cl t cs)) (hc : cs = css.flatten ++ rest) (ha : All2 (r.rep w) css l) (hl : l.length ≤ c ∧ c ≤ 9223372036854775807) : FZ r w (some ⟨g, 0, none⟩) c l := by
  refine ⟨hl, css, ?_, ha⟩
  have h1 := Rd.own ho hi
  rw [hc] at h1
  exact h1.left
theorem ptr_one1 {β : Type} {r : RT β} {w : World} {v : Value} {x : Option β} (h : (RT.ptr r).rep w [v] x) : v.oneCell' = true := (RT.ptr r).one h v (by simp)
theorem ptr_cells {β : Type} {r : RT β} {w : World} {v : Value} {x : Option β} (h : (RT.ptr r).rep w [v] x) : v.cells = [v].toArray := by
  have h1 := ptr_one1 h
  cases v <;> first | rfl | cases h1
theorem flat_setk {α : Type} {r : RT α} {w : World} {v : Value} {k : Nat} (hk : k < r.sz) : ∀ {css : List (List Value)} {l : List α}, All2 (r.rep w) css l → ∀ {j : Nat} {d : List Value}, css[j]? = some d → css.flatten.set (j * r.sz + k) v = (css.set j (d.set k v)).flatten
  | [], _, _, j, d, hd => by simp at hd
  | c :: css, x :: l, h, 0, d, hd => by
    simp at hd
    subst hd
    have := r.len h.1
    simp only [Nat.zero_mul, Nat.zero_add, List.set_cons_zero, List.flatten_cons]
    rw [List.set_append_left (h := by omega)]
  | c :: css, x :: l, h, j + 1, d, hd => by
    have ih := flat_setk (v := v) hk h.2 (j := j) (d := d) (by simpa using hd)
    have hl := r.len h.1
    have e1 : (j + 1) * r.sz + k = r.sz + (j * r.sz + k) := by rw [Nat.add_mul]; omega
    simp only [List.set_cons_succ, List.flatten_cons]
    rw [e1, List.set_append_right (h := by omega), show r.sz + (j * r.sz + k) - c.length = j * r.sz + k by omega, ih]
theorem arr_put {α : Type} {m k o : Nat} {r : RT α} {w : World} {cs : List Value} {l : List α} {i : Int} {j : Nat} {x y : α} {v : Value} (hj : i = (j : Int)) (h : (RT.arr m r).rep w cs l) (hx : l[j]? = some x) (hk : k < r.sz) (ho : o = j * r.sz + k) (hy : ∀ ds, r.rep w ds x → r.rep w (ds.set k v) y) :
    (RT.arr m r).rep w (cs.set o v) (put l i y) := by
  subst ho hj
  obtain ⟨hl, css, rfl, h2⟩ := h
  obtain ⟨d, hd, hr⟩ := h2.get hx
  rw [put_nat]
  exact ⟨by rw [List.length_set]; exact hl, css.set j (d.set k v), flat_setk hk h2 hd, h2.set j (hy d hr)⟩
theorem int_set {q : IntKind} {w : World} {y x : Int} (ds : List Value) (h : (RT.int q).rep w ds x) : (RT.int q).rep w (ds.set 0 (.int q y)) y := by
  rw [show ds = [.int q x] from h]
  rfl
theorem bool_set {w : World} {y x : Bool} (ds : List Value) (h : RT.bool.rep w ds x) : RT.bool.rep w (ds.set 0 (.bool y)) y := by
  rw [show ds = [.bool x] from h]
  rfl
theorem arr_zero {α : Type} {r : RT α} {w : World} {cs : List Value} {x : α} (m : Nat) (h : r.rep w cs x) : (RT.arr m r).rep w (List.replicate m cs).flatten (List.replicate m x) :=
  ⟨List.length_replicate, _, rfl, All2.rep h m⟩
theorem arr_bd {α : Type} {m : Nat} {r : RT α} {w : World} {cs : List Value} {l : List α} (h : (RT.arr m r).rep w cs l) : l.length = m := h.1
theorem st_index_at (j : Nat) {x ix : Operand} {t m el sz k : Nat} {kd : IntKind} {i : Int} {p : Addr} (hx : val e x = some (.pointer (some (p.add k)))) (hix : val e ix = some (.int kd i)) (hj : i = (j : Int)) (hlt : j < m)
    (ha : arrT P t m el sz = true) : Stable P n b (.indexAddr t x ix) ty e hp (.pointer (some (p.add (k + j * sz)))) := fun a w hf ho d pos af gg => by
  have := st_aaddr (n := n) (b := b) (hp := hp) (ty := ty) j hx hix hj hlt rfl ha a w hf ho d pos af gg
  rw [this]
  simp only [Option.map_some, addr_add_add]
theorem u_storeArr (i : Nat) {t t' : TypeId} {x y : Operand} {g o m : Nat} {cs : List Value} {v : Value} {α : Type} {r : RT α} {w : World} {l : List α} (hx : val e x = some (.pointer (some ⟨g, o, none⟩))) (hy : val e y = some v) (ht : sizT P t 1 = true) (h1 : v.oneCell' = true)
    (hi : hp[i]? = some (g, Cl t' cs)) (hr : (RT.arr m r).rep w cs l) (hlt : o < m * r.sz) :
    Does P n b (.store t x y) ty e hp (fun _ hp' => hp' = hp.set i (g, Cl t' (cs.set o v))) := u_store i hx hy ht h1 hi (by rw [(RT.arr m r).len hr]; exact hlt)
theorem u_storeAll (i : Nat) {t t' : TypeId} {x y : Operand} {g m : Nat} {cs vs : List Value} {α : Type} {r : RT α} {w w' : World} {l l' : List α} (hx : val e x = some (.pointer (some ⟨g, 0, none⟩))) (hy : val e y = some (.agg vs.toArray)) (ht : sizT P t (m * r.sz) = true)
    (hi : hp[i]? = some (g, Cl t' cs)) (hr : (RT.arr m r).rep w cs l) (hv : (RT.arr m r).rep w' vs l') :
    Does P n b (.store t x y) ty e hp (fun _ hp' => hp' = hp.set i (g, Cl t' vs)) := by
  have l1 : cs.length = m * r.sz := (RT.arr m r).len hr
  have l2 : vs.length = m * r.sz := (RT.arr m r).len hv
  have h := u_storeN (n := n) (w0 := b) (ty := ty) i (m * r.sz) (vs := vs) hx hy rfl ht l2 (fun u hu => (RT.arr m r).one hv u hu) hi (by omega)
  have e1 : cs.take 0 ++ vs ++ cs.drop (0 + m * r.sz) = vs := by
    rw [List.take_zero, List.nil_append, Nat.zero_add, ← l1, List.drop_length, List.append_nil]
  rw [e1] at h
  exact h
theorem st_loadArr (i : Nat) {x : Operand} {g t t' m : Nat} {cs : List Value} {α : Type} {r : RT α} {w : World} {l : List α} (hx : val e x = some (.pointer (some ⟨g, 0, none⟩))) (ht : aggT P t (m * r.sz) = true) (hi : hp[i]? = some (g, Cl t' cs)) (hr : (RT.arr m r).rep w cs l) :
    Stable P n b (.load t x) ty e hp (.agg cs.toArray) := st_loadN i (m * r.sz) hx ht hi ((RT.arr m r).len hr) (fun j u hu => by rw [Nat.zero_add]; exact hu)
theorem st_loadArr_at {x : Operand} {t m : Nat} {p : Addr} {cs : List Value} {α : Type} {r : RT α} {w : World} {l : List α} (hx : val e x = some (.pointer (some (p.add 0)))) (ht : aggT P t (m * r.sz) = true) (hr : (RT.arr m r).rep w cs l) (hv : ∀ (j : Nat) (u : Value), cs[j]? = some u → b.w.cell? (p.add j) = some u) :
    Stable P n b (.load t x) ty e hp (.agg cs.toArray) := st_loadN_at (m * r.sz) hx ht ((RT.arr m r).len hr) (fun j u hu => by rw [Nat.zero_add]; exact hv j u hu)
theorem at_in {w : World} {p : Addr} {cs ds : List Value} {q o : Nat} (hcs : ∀ (i : Nat) (u : Value), cs[i]? = some u → w.cell? (p.add (q + i)) = some u) (h : ∀ (i : Nat) (u : Value), ds[i]? = some u → cs[o + i]? = some u) (i : Nat) (u : Value) (hu : ds[i]? = some u) : w.cell? (p.add (q + o + i)) = some u := by
  rw [Nat.add_assoc]
  exact hcs _ _ (h i u hu)
theorem at_zero {w : World} {p : Addr} {cs : List Value} (hcs : ∀ (i : Nat) (u : Value), cs[i]? = some u → w.cell? (p.add i) = some u) (i : Nat) (u : Value) (hu : cs[i]? = some u) : w.cell? (p.add (0 + i)) = some u := by
  rw [Nat.zero_add]
  exact hcs i u hu
theorem st_negc {x : Operand} {i : Int} {t : TypeId} (hx : val e x = some (.int .i64 i)) (hb : -9223372036854775808 ≤ -i ∧ -i ≤ 9223372036854775807) : Stable P n b (.unOp .neg t x) ty e hp (.int .i64 (-i)) := fun a w hf _ _ _ _ _ => by
  have : IntKind.i64.wrap (0 - i) = -i := by rw [IntWalk.i64_in _ (by omega)]; omega
  simp [execOp, hf.eval hx, Op.unary, Op.intArith] at *
  exact this
def posN (i : Int) : Option Nat := if 0 < i then some i.toNat else none
theorem posN_some {i : Int} {m : Nat} (h : posN i = some m) : i = (m : Int) ∧ 0 < m := by
  unfold posN at h
  split at h
  · injection h with h
    omega
  · cases h
theorem posN_ok {m : Nat} (h : 0 < m) : posN (m : Int) = some m := by
  unfold posN
  rw [if_pos (by omega), Int.toNat_natCast]
theorem zeros_flat (zs : List Value) (k : Nat) : (Builtin.zeroCells zs.toArray k).toList = (List.replicate k zs).flatten := by
  rw [← made_flat]
  simp [Builtin.zeroCells, madeCells]
/-- append of so many zeros onto nil (slices.Grow). -/
theorem u_appZ {α : Type} {r : RT α} (F R : Hp) {t tn el sz by_ : Nat} {s x : Operand} {kq kn : IntKind} {zv : Value} (zs : List Value) (a0 : α) (k : Nat) {i : Int} (hhp : hp = F ++ R) (hx : val e s = some (.slice none 0 0)) (hy : val e x = some (.int kq i)) (hi0 : i = (k : Int)) (h0 : 0 < k) (hsl : slT P t el sz = true) (htn : intT P tn kn = true)
    (hinf : (P.info? el).map (fun i => (i.zero, i.size, i.bytes)) = some (some zv, sz, by_)) (hz : zv.cells = zs.toArray) (hl : zs.length = sz) (hsz : r.sz = sz) (hpos : 0 < sz) (hr : r.rep b.w zs a0) (hroom : k * by_ ≤ 140737488355328 ∧ k ≤ 9223372036854775807) :
    Does P n b (.call { callee := .builtin .append, args := #[s, x], argTypes := #[t, tn] }) ty e hp (fun v hp' => ∃ hs, hp' = F ++ (hs ++ R) ∧ OS el (OT.fr r) b.w v (List.replicate k a0) hs) := does_of fun a w hf ho => by
  subst hsz
  subst hi0
  subst hhp
  obtain ⟨h2, _⟩ := slT_spec hsl
  cases hi : P.info? el with
  | none => simp [hi] at hinf
  | some inf =>
    simp only [hi, Option.map_some, Option.some.injEq, Prod.mk.injEq] at hinf
    obtain ⟨g1, g2, g3⟩ := hinf
    have hfit := growslice_fits (need := 0 + k) (old := 0) (bytes := inf.bytes) (by omega) (by rw [g3, Nat.zero_add]; exact hroom.1)
    have hrun := Lib.run_append_grow_zeros (P := P) w t tn ty el inf zv kq kn h2 (intT_spec htn) hi g1 none 0 0 [] (by simp [Builtin.firstCells]) k h0 (by rw [g2]; exact hpos) (by omega) (by omega) (by rw [g3]; omega) hfit
    have hge := grownCap_ge w (0 + k) 0 el
    have hcm : grownCap w (0 + k) 0 el ≤ maxLen := grownCap_le_maxLen w (0 + k) 0 el (by simpa [maxLen] using hroom.2)
    have hfl := flat_len (All2.rep hr k)
    rw [List.length_replicate] at hfl
    have harr : (([] : List Value).toArray ++ Builtin.zeroCells zv.cells k ++ Builtin.zeroCells zv.cells (grownCap w (0 + k) 0 el - (0 + k))) = ((List.replicate k zs).flatten ++ (Builtin.zeroCells zs.toArray (grownCap w (0 + k) 0 el - (0 + k))).toList).toArray := by
      rw [hz, ← zeros_flat]
      simp
    rw [harr] at hrun
    refine ⟨.slice (some ⟨w.heap.size, 0, none⟩) (0 + k) (grownCap w (0 + k) 0 el), _, F ++ ([(w.heap.size, Cl el ((List.replicate k zs).flatten ++ (Builtin.zeroCells zs.toArray (grownCap w (0 + k) 0 el - (0 + k))).toList))] ++ R), fun d pos af g => ?_, (ho.drew.alloc (Cl el ((List.replicate k zs).flatten ++ (Builtin.zeroCells zs.toArray (grownCap w (0 + k) 0 el - (0 + k))).toList))).perm ?_, _, rfl, List.replicate k zs, List.replicate (List.replicate k a0).length [], [(w.heap.size, Cl el ((List.replicate k zs).flatten ++ (Builtin.zeroCells zs.toArray (grownCap w (0 + k) 0 el - (0 + k))).toList))], ?_, all3_of2 (All2.rep hr k), by simp⟩
    · simp [execOp, resolve, invoke, builtin, hf.eval hx, hf.eval hy, hrun]
    · exact (perm_mid F [_] R).symm
    · refine .inr ⟨w.heap.size, grownCap w (0 + k) 0 el, [], (Builtin.zeroCells zs.toArray (grownCap w (0 + k) 0 el - (0 + k))).toList, ?_, by simp, ?_, ?_, ?_, hcm, Front.nil⟩
      · simp
      · rw [hfl, List.length_replicate]; rfl
      · rw [List.length_append, hfl, zeroCells_length]
        refine Nat.le_of_eq (Eq.symm ?_)
        show k * r.sz + _ * zs.toArray.size = grownCap w (0 + k) 0 el * r.sz
        rw [show zs.toArray.size = r.sz by simpa using hl, ← Nat.add_mul]
        congr 1
        omega
      · rw [List.length_replicate]; omega
theorem st_len0 {x : Operand} {t el sz c : Nat} {A : Option Addr} (hx : val e x = some (.slice A 0 c)) (h : slT P t el sz = true) :
    Stable P n b (.call { callee := .builtin .len, args := #[x], argTypes := #[t] }) ty e hp (.int .i64 0) := st_len hx h
theorem st_cap0 {x : Operand} {t el sz : Nat} (hx : val e x = some (.slice none 0 0)) (h : slT P t el sz = true) :
    Stable P n b (.call { callee := .builtin .cap, args := #[x], argTypes := #[t] }) ty e hp (.int .i64 0) := fun a w hf _ _ _ _ _ => by
  obtain ⟨h1, _⟩ := slT_spec h
  simp [execOp, resolve, invoke, builtin, hf.eval hx, Builtin.cap_, run_underlying h1, goInt]
theorem st_slcN {x q : Operand} {t el sz : Nat} {kd : IntKind} (hx : val e x = some (.slice none 0 0)) (hq : val e q = some (.int kd 0)) (h : slT P t el sz = true) :
    Stable P n b (.slice t x none (some q) none) ty e hp (.slice none 0 0) := by
  have := st_part (P := P) (n := n) (b := b) (ty := ty) (hp := hp) (l := ([] : List Nat)) (A := none) (c := 0) (lo := none) (hi := some q) (el := el) (sz := sz) 0 0 hx (.inl ⟨rfl, rfl⟩) (.inr ⟨q, kd, 0, rfl, hq, rfl⟩) (Nat.le_refl _) (Nat.le_refl _) (Nat.le_refl _) h
  exact this
end
end Go.Fp
