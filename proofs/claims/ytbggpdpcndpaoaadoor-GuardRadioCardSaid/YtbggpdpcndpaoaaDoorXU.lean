/- Extraction: slices of pointers to the call's own structs (one of them may be out); functions as values of a map. -/
import Derived.Test.YtbggpdpcndpaoaaDoorXG
set_option linter.unusedVariables false
set_option linter.unusedSimpArgs false
namespace Go.Fp
open Go.RowKit
/-- A pointer to what is frozen (never nil). -/
def RT.pt {α : Type} (r : RT α) : RT α := ⟨1, fun w vs x => ∃ a cs, vs = [.pointer (.some a)] ∧ r.rep w cs x ∧ ∀ (i : Nat) (u : Value), cs[i]? = .some u → w.cell? (a.add i) = .some u,
  fun ⟨_, _, h, _⟩ => by rw [h]; rfl, fun ⟨_, _, h, _⟩ u hu => by rw [h] at hu; simp at hu; subst hu; rfl,
  fun hk ⟨a, cs, h, h2, h3⟩ => ⟨a, cs, h, r.mono hk h2, fun i u hu => hk _ _ (h3 i u hu)⟩⟩
/-- A pointer to a block of the call's own. -/
def OT.ptr {α : Type} (T : TypeId) (o : OT α) : OT α := ⟨1, fun w vs x hs => ∃ g cs hs', vs = [.pointer (.some ⟨g, 0, .none⟩)] ∧ o.rep w cs x hs' ∧ hs = (g, Cl T cs) :: hs', RT.pt o.fz, rfl,
  fun ⟨g, cs, hs', h1, h2, h3⟩ hk hb => ⟨⟨g, 0, .none⟩, cs, h1, o.frz h2 hk (fun y hy => hb y (by rw [h3]; exact List.mem_cons_of_mem _ hy)), fun i u hu => at_fz (hb (g, Cl T cs) (by rw [h3]; exact List.mem_cons_self)) i u hu⟩,
  fun hk ⟨g, cs, hs', h1, h2, h3⟩ => ⟨g, cs, hs', h1, o.mono hk h2, h3⟩,
  fun ⟨_, _, _, h, _⟩ => by subst h; exact ⟨rfl, fun u hu => by simp at hu; subst hu; rfl⟩⟩
/-- Any value. -/
def RT.val : RT Value := ⟨1, fun _ vs x => vs = [x] ∧ x.oneCell' = true, fun h => by rw [h.1]; rfl, fun h u hu => by rw [h.1] at hu; simp at hu; subst hu; exact h.2, fun _ h => h⟩
section
variable {P : Program} {n : NT} {m : Nat} {dk0 : Hp} {rq : Option Nat} {b : Base} {ops : Array Oper} {Q : Exit → Act → World → Prop} {e : Env} {hp : Hp} {ty : TypeId}
theorem prm_mid {P1 P2 hn : Hp} : ((P1 ++ P2) ++ hn).Perm (P1 ++ (hn ++ P2)) := by
  rw [List.append_assoc]
  exact List.Perm.append_left _ List.perm_append_comm
theorem mrg_perm {F a c k R : Hp} (hh : hp = F ++ (a ++ (k ++ R))) (hq : c.Perm (a ++ k)) : (F ++ (c ++ R)).Perm hp := by
  rw [hh]
  refine .append_left _ ?_
  rw [← List.append_assoc]
  exact hq.append_right _
theorem c_mrg (F a k c R : Hp) {cd : Code} (hh : hp = F ++ (a ++ (k ++ R))) (hq : c.Perm (a ++ k)) (h : SLc P n b Q cd e (F ++ (c ++ R))) : SLc P n b Q cd e hp := fun A w hf ho => h A w hf (ho.perm (mrg_perm hh hq))
theorem t_mrg (F a k c R : Hp) {l : List Oper} (hh : hp = F ++ (a ++ (k ++ R))) (hq : c.Perm (a ++ k)) (h : SLo P n b ops Q l e (F ++ (c ++ R))) : SLo P n b ops Q l e hp := fun A w hf ho => h A w hf (ho.perm (mrg_perm hh hq))
theorem x_mrg (F a k c R : Hp) {ex : Exit} (hh : hp = F ++ (a ++ (k ++ R))) (hq : c.Perm (a ++ k)) (h : SLx n b Q ex e (F ++ (c ++ R))) : SLx n b Q ex e hp := fun A w hf ho => h A w hf (ho.perm (mrg_perm hh hq))
theorem d_mrg (F a k c R : Hp) {w0 : Base} {S : Hp} {fuel : Nat} {listed : Array Bool} (hh : hp = F ++ (a ++ (k ++ R))) (hq : c.Perm (a ++ k)) (h : SLA P n w0 b ops S Q fuel listed e (F ++ (c ++ R))) : SLA P n w0 b ops S Q fuel listed e hp := fun A w hf ho => h A w hf (ho.perm (mrg_perm hh hq))
/-- append of one cell to a slice whose elements are the call's own: what hangs on it is still out. -/
theorem u_appP {α : Type} {o : OT α} {el : TypeId} {l : List α} {hs : Hp} (F R : Hp) {s x : Operand} {t by_ : Nat} {zv v c0 : Value} {B : Option Addr} {d : Nat} (a0 : α) (hsz : o.sz = 1) (hsl : slT P t el 1 = true) (hinf : (P.info? el).map (fun i => (i.zero, i.size, i.bytes)) = some (some zv, 1, by_)) (hzs : zv.cells.size = 1)
    (hx : val e s = some v) (hy : val e x = some (.slice B 1 d)) (h : OS el o b.w v l hs) (hhp : hp = F ++ (hs ++ R)) (hrd : ∀ w, Own b hp w → Rd w B [c0]) (h1 : c0.oneCell' = true) (hroom : (l.length + 1) * by_ ≤ 140737488355328 ∧ l.length + 1 ≤ 9223372036854775807) :
    Does P n b (.call { callee := .builtin .append, args := #[s, x], argTypes := #[t, t] }) ty e hp (fun v' hp' => ∃ hs' A c, v' = .slice A (l ++ [a0]).length c ∧ hp' = F ++ (hs' ++ R) ∧ ∀ b' a hn, b.Le b' → o.rep b'.w [c0] a hn → OS el o b'.w (.slice A (l ++ [a]).length c) (l ++ [a]) (hs' ++ hn)) := by
  obtain ⟨css, hss, hq, q1, q2, q3⟩ := h
  rw [hsz] at q1
  have hd := u_appF (P := P) (n := n) (w0 := b) (ty := ty) (e := e) (hp := hp) (by_ := by_) F hq (hss.flatten ++ R) [c0] hsl hinf hzs (by decide) hx hy q1 (by rw [hhp, q3]; simp) (by simp) hrd (by simp [h1]) hroom.2 hroom.1
  refine ⟨fun a w hf ho d pos af gd K Q hK => hd.out a w hf ho d pos af gd K Q (fun v' hp' w' hΨ ho' => hK v' hp' w' ?_ ho')⟩
  obtain ⟨hs', g1, g2⟩ := hΨ
  have key : ∀ b' a hn, b.Le b' → o.rep b'.w [c0] a hn → OS el o b'.w v' (l ++ [a]) (hs' ++ hss.flatten ++ hn) := fun b' a hn hle hr => by
    refine ⟨css ++ [[c0]], hss ++ [hn], hs', ?_, (q2.imp fun _ _ _ h => o.mono hle.cells h).append ⟨hr, trivial⟩, by simp⟩
    rw [List.length_append, List.flatten_append, hsz]
    simpa using g2
  have hv : ∃ A c, v' = .slice A (l.length + 1) c := by
    rcases g2 with ⟨A, hv, h, _, _⟩ | ⟨g, cap, pr, tl, hv, _⟩
    · exact absurd h (by omega)
    · exact ⟨_, _, hv⟩
  obtain ⟨A, c, hv⟩ := hv
  refine ⟨hs' ++ hss.flatten, A, c, by rw [hv]; simp, by rw [g1]; simp, fun b' a hn hle hr => ?_⟩
  have := key b' a hn hle hr
  rw [hv] at this
  simpa using this
/-- An array of integers, cell by cell. -/
theorem arr_flat {k : IntKind} {w : World} : ∀ {css : List (List Value)} {l : List Int}, All2 ((RT.int k).rep w) css l → css.flatten = l.map (Value.int k)
  | [], [], _ => rfl
  | c :: r, x :: s, h => by
    have h1 : c = [Value.int k x] := h.1
    rw [List.flatten_cons, arr_flat h.2, h1]
    rfl
theorem arrI {n : Nat} {k : IntKind} {w : World} {cs : List Value} {l : List Int} (h : (RT.arr n (RT.int k)).rep w cs l) : cs = (List.range n).map (fun i => Value.int k (l.getD i 0)) := by
  obtain ⟨hl, css, h1, h2⟩ := h
  rw [h1, arr_flat h2]
  apply List.ext_getElem?
  intro i
  rw [List.getElem?_map, List.getElem?_map]
  by_cases hi : i < n
  · rw [List.getElem?_range hi, List.getElem?_eq_getElem (by omega)]
    simp [List.getD, List.getElem?_eq_getElem (show i < l.length by omega)]
  · rw [List.getElem?_eq_none (by omega), List.getElem?_eq_none (by rw [List.length_range]; omega)]
    rfl
/- ---- functions and nil ---- -/
def fnT (P : Program) (t : TypeId) : Bool := match P.underlying t with
  | some (.func ..) => true
  | _ => false
theorem fnT_spec {t : TypeId} (h : fnT P t = true) : ∃ a c d, P.underlying t = some (.func a c d) := by
  unfold fnT at h
  split at h
  · rename_i h1
    exact ⟨_, _, _, h1⟩
  · cases h
theorem run_eq_fnIn (d : Nat) (w : World) (t : TypeId) (x : Value) (r : Bool) (h : fnT P t = true) (hx : (x = .nilFunc ∧ r = true) ∨ (∃ f us vs, x = .func f us vs) ∧ r = false) : (Op.equalIn (d + 1) t x .nilFunc).run P w = .ok r w := by
  obtain ⟨a, c, d, hu⟩ := fnT_spec h
  rcases hx with ⟨rfl, rfl⟩ | ⟨⟨f, us, vs, rfl⟩, rfl⟩
  · simp [Op.equalIn, run_underlying hu]
  · simp [Op.equalIn, run_underlying hu]
theorem run_eq_fn (w : World) (t : TypeId) (x : Value) (r : Bool) (h : fnT P t = true) (hx : (x = .nilFunc ∧ r = true) ∨ (∃ f us vs, x = .func f us vs) ∧ r = false) : (binOp .eql t x .nilFunc).run P w = .ok (.bool r) w := by
  have h1 : (Op.equal t x .nilFunc).run P w = .ok r w := run_eq_fnIn 9999 w t x r h hx
  simp only [binOp]
  simp [h1]
theorem st_eqfN {x y : Operand} {t u : TypeId} (hx : val e x = some .nilFunc) (hy : val e y = some .nilFunc) (h : fnT P t = true) : Stable P n b (.binOp .eql t x y u) ty e hp (.bool true) := fun a w hf _ _ _ _ _ => by
  have h1 := run_eq_fn (P := P) w t .nilFunc true h (.inl ⟨rfl, rfl⟩)
  simp only [execOp, hf.eval hx, hf.eval hy, eqGuard, Sem.run_bind]
  simp [h1]
theorem st_eqfF {x y : Operand} {t u : TypeId} {f : Fn} {us vs : Array Value} (hx : val e x = some (.func f us vs)) (hy : val e y = some .nilFunc) (h : fnT P t = true) : Stable P n b (.binOp .eql t x y u) ty e hp (.bool false) := fun a w hf _ _ _ _ _ => by
  have h1 := run_eq_fn (P := P) w t (.func f us vs) false h (.inr ⟨⟨_, _, _, rfl⟩, rfl⟩)
  simp only [execOp, hf.eval hx, hf.eval hy, eqGuard, Sem.run_bind]
  simp [h1]
end
end Go.Fp
