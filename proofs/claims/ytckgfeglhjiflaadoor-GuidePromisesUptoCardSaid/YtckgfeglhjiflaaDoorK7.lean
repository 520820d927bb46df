/- The framework, part 7: nil slices, literals, append, reslicing. -/
import Derived.Test.YtckgfeglhjiflaaDoorK6
import Derived.WalkSpells
namespace Go.Fp
open Go.RowKit

def pvals (e : Env) : List (Nat × Operand) → Option (List (Nat × Value))
  | [] => some []
  | (i, x) :: r => match val e x, pvals e r with
    | some v, some vs => some ((i, v) :: vs)
    | _, _ => none
theorem FitV.pvals {n : NT} {e : Env} {a : Act} (h : FitV n e a) : ∀ {xs : List (Nat × Operand)} {vs : List (Nat × Value)}, pvals e xs = some vs → xs.map (fun (i, x) => (i, a.eval x)) = vs
  | [], vs, hx => by simp [Go.Fp.pvals] at hx; simp [hx]
  | (i, x) :: r, vs, hx => by
    simp only [Go.Fp.pvals] at hx
    split at hx
    · rename_i v us hv hus
      injection hx with hx
      subst hx
      simp [h.eval hv, h.pvals hus]
    · cases hx

section
variable {P : Program} {n : NT} {m : Nat} {dk0 : Hp} {rq : Option Nat} {w0 : Base} {e : Env} {hp : Hp} {ty : TypeId}

theorem st_eqnil {x y : Operand} {t u el sz m c m' c' : Nat} {A : Option Addr} (hx : val e x = some (.slice A m c)) (hy : val e y = some (.slice none m' c')) (h : slT P t el sz = true) :
    Stable P n w0 (.binOp .eql t x y u) ty e hp (.bool (decide (A = none))) := fun a w hf _ _ _ _ _ => by
  obtain ⟨h1, _⟩ := slT_spec h
  have hr := Lib.run_eql_slice_nil (P := P) w t el A m c m' c' h1
  have hb : A.isNone = decide (A = none) := by cases A <;> rfl
  simp only [execOp, hf.eval hx, hf.eval hy, eqGuard, Sem.run_bind]
  simp [hr, hb]
theorem st_neqnil {x y : Operand} {t u el sz m c m' c' : Nat} {A : Option Addr} (hx : val e x = some (.slice A m c)) (hy : val e y = some (.slice none m' c')) (h : slT P t el sz = true) :
    Stable P n w0 (.binOp .neq t x y u) ty e hp (.bool (decide (A ≠ none))) := fun a w hf _ _ _ _ _ => by
  obtain ⟨h1, _⟩ := slT_spec h
  have hr := run_neq_slice_nil_any (P := P) w t el A m c m' c' h1
  have hb : (!A.isNone) = decide (A ≠ none) := by cases A <;> rfl
  simp only [execOp, hf.eval hx, hf.eval hy, eqGuard, Sem.run_bind]
  simp [hr]
  cases A <;> rfl

theorem st_build {t : TypeId} {parts : Array (Nat × Operand)} {v : Value} (ps : List (Nat × Value)) (hv : pvals e parts.toList = some ps) (hrun : ∀ w, (Instr.build t ps.toArray).run P w = .ok v w) :
    Stable P n w0 (.build t parts) ty e hp v := fun a w hf _ _ _ _ _ => by
  have h1 : (parts.map fun (i, x) => (i, a.eval x)) = ps.toArray := Array.ext' (by rw [Array.toList_map]; exact hf.pvals hv)
  simp only [execOp, h1, Sem.run_bind, hrun, Result.andThen_ok]
  rfl
theorem u_bslice {t el len : TypeId} {parts : Array (Nat × Operand)} (ps : List (Nat × Value)) (cs : List Value) (hv : pvals e parts.toList = some ps)
    (hrun : ∀ w : World, (Instr.buildSlice t len ps.toArray).run P w = .ok (.slice (some ⟨w.heap.size, 0, none⟩) len len) (w.alloc (Cl el cs))) :
    Does P n w0 (.buildSlice t len parts) ty e hp (fun v hp' => ∃ g, v = .slice (some ⟨g, 0, none⟩) len len ∧ hp' = (g, Cl el cs) :: hp) := does_of fun a w hf ho => by
  have h1 : (parts.map fun (i, x) => (i, a.eval x)) = ps.toArray := Array.ext' (by rw [Array.toList_map]; exact hf.pvals hv)
  refine ⟨_, w.alloc (Cl el cs), _, fun d pos af g => ?_, ho.alloc _, w.heap.size, rfl, rfl⟩
  simp only [execOp, h1, Sem.run_bind, hrun, Result.andThen_ok]
  rfl

/-- append: the slice is the call's own, the first of the heap; the source reads as 'news'. -/
theorem u_append {s x : Operand} {t el sz by_ : Nat} {inf : TypeInfo} {z v : Value} {m : Nat} {xs : List Value} (hs R : Hp) {A : Option Addr} {k c : Nat} (news : List Value)
    (ht : P.underlying t = some (.slice el)) (hi : P.info? el = some inf) (hz : inf.zero = some z) (hsz : inf.size = sz) (hby : inf.bytes = by_) (hzs : z.cells.size = sz) (hpos : 0 < sz)
    (hx : val e s = some v) (hy : val e x = some (.slice A k c)) (hseg : Seg el sz v m xs hs) (hhp : hp = hs ++ R) (hl : news.length = k * sz) (hrd : ∀ w, Own w0 hp w → Rd w A news) (h1 : ∀ u ∈ news, u.oneCell' = true)
    (hmax : m + k ≤ 9223372036854775807) (hbytes : (m + k) * by_ ≤ 140737488355328) :
    Does P n w0 (.call { callee := .builtin .append, args := #[s, x], argTypes := #[t, t] }) ty e hp (fun v' hp' => ∃ hs', hp' = hs' ++ R ∧ Seg el sz v' (m + k) (xs ++ news) hs') := does_of fun a w hf ho => by
  subst hhp
  obtain ⟨v', w', hs', hrun, ho', hseg'⟩ := run_append_seg (P := P) (ty := ty) ht hi hz hsz hby hzs hpos hseg ho (A := A) (c := c) hl (hrd w ho) h1 hmax hbytes
  refine ⟨v', w', hs' ++ R, fun d pos af g => ?_, ho', hs', rfl, hseg'⟩
  simp [execOp, resolve, invoke, builtin, hf.eval hx, hf.eval hy, hrun]

theorem u_app {s x : Operand} {t el sz by_ : Nat} {z v : Value} {m : Nat} {xs : List Value} (hs R : Hp) {A : Option Addr} {k c : Nat} (news : List Value)
    (hsl : slT P t el sz = true) (hinf : (P.info? el).map (fun i => (i.zero, i.size, i.bytes)) = some (some z, sz, by_)) (hzs : z.cells.size = sz) (hpos : 0 < sz)
    (hx : val e s = some v) (hy : val e x = some (.slice A k c)) (hseg : Seg el sz v m xs hs) (hhp : hp = hs ++ R) (hl : news.length = k * sz) (hrd : ∀ w, Own w0 hp w → Rd w A news) (h1 : ∀ u ∈ news, u.oneCell' = true)
    (hmax : m + k ≤ 9223372036854775807) (hbytes : (m + k) * by_ ≤ 140737488355328) :
    Does P n w0 (.call { callee := .builtin .append, args := #[s, x], argTypes := #[t, t] }) ty e hp (fun v' hp' => ∃ hs', hp' = hs' ++ R ∧ Seg el sz v' (m + k) (xs ++ news) hs') := by
  obtain ⟨h2, _⟩ := slT_spec hsl
  cases hi : P.info? el with
  | none => simp [hi] at hinf
  | some inf =>
    simp only [hi, Option.map_some, Option.some.injEq, Prod.mk.injEq] at hinf
    exact u_append hs R news h2 hi hinf.1 hinf.2.1 hinf.2.2 hzs hpos hx hy hseg hhp hl hrd h1 hmax hbytes

theorem u_appF {s x : Operand} {t el sz by_ : Nat} {z v : Value} {m : Nat} {xs : List Value} (F hs R : Hp) {A : Option Addr} {k c : Nat} (news : List Value)
    (hsl : slT P t el sz = true) (hinf : (P.info? el).map (fun i => (i.zero, i.size, i.bytes)) = some (some z, sz, by_)) (hzs : z.cells.size = sz) (hpos : 0 < sz)
    (hx : val e s = some v) (hy : val e x = some (.slice A k c)) (hseg : Seg el sz v m xs hs) (hhp : hp = F ++ (hs ++ R)) (hl : news.length = k * sz) (hrd : ∀ w, Own w0 hp w → Rd w A news) (h1 : ∀ u ∈ news, u.oneCell' = true)
    (hmax : m + k ≤ 9223372036854775807) (hbytes : (m + k) * by_ ≤ 140737488355328) :
    Does P n w0 (.call { callee := .builtin .append, args := #[s, x], argTypes := #[t, t] }) ty e hp (fun v' hp' => ∃ hs', hp' = F ++ (hs' ++ R) ∧ Seg el sz v' (m + k) (xs ++ news) hs') := by
  have hperm : ∀ q : Hp, (q ++ (F ++ R)).Perm (F ++ (q ++ R)) := fun q => by
    rw [← List.append_assoc, ← List.append_assoc]
    exact List.Perm.append_right R List.perm_append_comm
  have h := u_app (P := P) (n := n) (w0 := w0) (e := e) (ty := ty) (hp := hs ++ (F ++ R)) hs (F ++ R) (A := A) (c := c) news hsl hinf hzs hpos hx hy hseg rfl hl (fun w ho => hrd w (by rw [hhp]; exact ho.perm (hperm hs).symm)) h1 hmax hbytes
  refine ⟨fun a w hf ho d pos af g K Q hK => h.out a w hf ?_ d pos af g K Q (fun v' hp' w' hΨ ho' => ?_)⟩
  · rw [hhp] at ho
    exact ho.perm (hperm hs)
  · obtain ⟨hs', rfl, hseg'⟩ := hΨ
    exact hK v' (F ++ (hs' ++ R)) w' ⟨hs', rfl, hseg'⟩ (ho'.perm (hperm hs').symm)
theorem u_app0 {s x : Operand} {t el sz by_ : Nat} {z : Value} {A' : Option Addr} {A : Option Addr} {k c : Nat} (news : List Value)
    (hsl : slT P t el sz = true) (hinf : (P.info? el).map (fun i => (i.zero, i.size, i.bytes)) = some (some z, sz, by_)) (hzs : z.cells.size = sz) (hpos : 0 < sz)
    (hx : val e s = some (.slice A' 0 0)) (hy : val e x = some (.slice A k c)) (hl : news.length = k * sz) (hrd : ∀ w, Own w0 hp w → Rd w A news)
    (hmax : k ≤ 9223372036854775807) (hbytes : k * by_ ≤ 140737488355328) :
    Does P n w0 (.call { callee := .builtin .append, args := #[s, x], argTypes := #[t, t] }) ty e hp (fun v' hp' => ∃ hs', hp' = hs' ++ hp ∧ Seg0 el sz v' k news hs') := does_of fun a w hf ho => by
  obtain ⟨h2, _⟩ := slT_spec hsl
  cases hi : P.info? el with
  | none => simp [hi] at hinf
  | some inf =>
    simp only [hi, Option.map_some, Option.some.injEq, Prod.mk.injEq] at hinf
    obtain ⟨v', w', hs', hrun, ho', hseg'⟩ := run_append_new (P := P) (ty := ty) h2 hi hinf.1 hinf.2.1 hinf.2.2 hzs hpos ho (A' := A') (A := A) (c := c) hl (hrd w ho) hmax hbytes
    refine ⟨v', w', hs' ++ hp, fun d pos af g => ?_, ho', hs', rfl, hseg'⟩
    simp [execOp, resolve, invoke, builtin, hf.eval hx, hf.eval hy, hrun]

theorem Seg.tail {el sz m : Nat} {A : Option Addr} {c : Nat} {x xs : List Value} {hs : Hp} (h : Seg el sz (.slice A (m + 1) c) (m + 1) (x ++ xs) hs) (hx : x.length = sz) :
    ∃ hs', Seg el sz (.slice (if c = 1 then A else A.map (·.add (1 * sz))) m (c - 1)) m xs hs' ∧ hs'.Sublist hs := by
  obtain ⟨g, cap, pr, tl, hv, rfl, hl, hcl, hmc, hcm⟩ := h.pos (by omega)
  injection hv with h1 h2 h3
  subst h1; subst h3
  have hxs : xs.length = m * sz := by rw [List.length_append, hx, Nat.add_mul] at hl; omega
  by_cases hc : c = 1
  · subst hc
    have hm : m = 0 := by omega
    subst hm
    have : xs = [] := List.eq_nil_of_length_eq_zero (by simpa using hxs)
    subst this
    exact ⟨[], .inl ⟨_, rfl, rfl, rfl, rfl⟩, List.nil_sublist _⟩
  · refine ⟨[(g, Cl el (pr ++ (x ++ xs) ++ tl))], .inr ⟨g, c - 1, pr ++ x, tl, ?_, ?_, hxs, ?_, by omega, by omega, True.intro⟩, List.Sublist.refl _⟩
    · rw [if_neg hc]
      simp [Addr.add_lit, hx]
    · simp
    · rw [List.length_append] at hcl ⊢
      rw [List.length_append, hx] at hcl
      obtain ⟨c', rfl⟩ : ∃ c', c = c' + 1 := ⟨c - 1, by omega⟩
      rw [Nat.add_mul] at hcl
      simp only [Nat.add_sub_cancel]
      omega
end
theorem Rd.none_nil {w : World} {xs : List Value} (h : Rd w none xs) : xs = [] := by
  cases xs with
  | nil => rfl
  | cons x r => have := h 0 x rfl; simp [cellO] at this
end Go.Fp
