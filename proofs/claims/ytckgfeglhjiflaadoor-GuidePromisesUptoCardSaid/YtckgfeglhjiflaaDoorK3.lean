/- The framework, part 3: operations that yield a value and leave the world as it is. -/
import Derived.Test.YtckgfeglhjiflaaDoorK2
namespace Go.Fp
open Go.RowKit

/- closed questions to the program's tables -/
def oneT (P : Program) (t : TypeId) : Bool := match P.underlying t with
  | some (.struct _) => false
  | some (.array _ _) => false
  | none => false
  | some _ => true
def sizT (P : Program) (t k : Nat) : Bool := match P.info? t with
  | some i => Nat.beq i.size k
  | none => false
def aggT (P : Program) (t k : Nat) : Bool := (match P.underlying t with
  | some (.struct _) => true
  | some (.array _ _) => true
  | _ => false) && sizT P t k
def slT (P : Program) (t el sz : Nat) : Bool := (match P.underlying t with
  | some (.slice x) => Nat.beq x el
  | _ => false) && sizT P el sz
def fldT (P : Program) (t f off : Nat) : Bool := match P.underlying t with
  | some (.struct fs) => (match fs[f]? with
    | some fd => Nat.beq fd.offset off && (match P.info? fd.type with | some i => !Nat.beq i.size 0 | none => false)
    | none => false)
  | _ => false

theorem sizT_spec {P : Program} {t k : Nat} (h : sizT P t k = true) : ∃ i, P.info? t = some i ∧ i.size = k := by
  unfold sizT at h
  split at h
  · rename_i i hi; exact ⟨i, hi, Nat.eq_of_beq_eq_true h⟩
  · cases h
theorem slT_spec {P : Program} {t el sz : Nat} (h : slT P t el sz = true) : P.underlying t = some (.slice el) ∧ ∃ i, P.info? el = some i ∧ i.size = sz := by
  unfold slT at h
  simp only [Bool.and_eq_true] at h
  obtain ⟨h1, h2⟩ := h
  split at h1
  · rename_i x hx
    have : x = el := Nat.eq_of_beq_eq_true h1
    subst this
    exact ⟨hx, sizT_spec h2⟩
  · cases h1
theorem run_isAgg_one {P : Program} {t : TypeId} (h : oneT P t = true) (w : World) : (isAgg t).run P w = .ok false w := by
  unfold oneT at h
  split at h
  · cases h
  · cases h
  · cases h
  · rename_i d h1 h2 hd
    simp only [isAgg, Sem.run_bind, run_underlying hd, Result.andThen_ok]
    cases d <;> first | rfl | exact absurd rfl (h1 _) | exact absurd rfl (h2 _ _)
theorem run_isAgg_agg {P : Program} {t k : Nat} (h : aggT P t k = true) (w : World) : (isAgg t).run P w = .ok true w := by
  unfold aggT at h
  simp only [Bool.and_eq_true] at h
  have h1 := h.1
  split at h1
  · rename_i d hd; simp only [isAgg, Sem.run_bind, run_underlying hd, Result.andThen_ok]; rfl
  · rename_i d hd; simp only [isAgg, Sem.run_bind, run_underlying hd, Result.andThen_ok]; rfl
  · cases h1
theorem run_sizeOf {P : Program} {t k : Nat} (h : sizT P t k = true) (w : World) : (sizeOf t).run P w = .ok k w := by
  obtain ⟨i, hi, hk⟩ := sizT_spec h
  simp [sizeOf, typeInfo, hi, hk]
theorem aggT_siz {P : Program} {t k : Nat} (h : aggT P t k = true) : sizT P t k = true := by
  unfold aggT at h
  simp only [Bool.and_eq_true] at h
  exact h.2

/-- A cell of the memory at which a slice or a pointer begins ('none': nil). -/
def cellO (w : World) (A : Option Addr) (k : Nat) : Option Value := A.bind fun a => w.cell? (a.add k)
theorem cellO_some {w : World} {A : Option Addr} {k : Nat} {v : Value} (h : cellO w A k = some v) : A.isSome = true := by cases A <;> simp_all [cellO]
/-- The cells from 'A' on hold 'xs'. -/
def Rd (w : World) (A : Option Addr) (xs : List Value) : Prop := ∀ j u, xs[j]? = some u → cellO w A j = some u
theorem addr_add_add (a : Addr) (i j : Nat) : (a.add i).add j = a.add (i + j) := by
  unfold Addr.add
  by_cases hi : i = 0 <;> by_cases hj : j = 0 <;> simp [hi, hj, Nat.add_assoc]

section
variable {P : Program} {n : NT} {m : Nat} {dk0 : Hp} {rq : Option Nat} {w0 : Base} {e : Env} {hp : Hp} {ty : TypeId}

theorem st_move {x : Operand} {v : Value} (hx : val e x = some v) : Stable P n w0 (.move x) ty e hp v := fun a w hf _ _ _ _ _ => by
  simp [execOp, hf.eval hx]
theorem st_assign {x : Operand} {v : Value} (hx : val e x = some v) : Stable P n w0 (.assign x) ty e hp v := fun a w hf _ _ _ _ _ => by
  simp [execOp, hf.eval hx]
theorem st_pick_t {c x y : Operand} {v : Value} (hc : val e c = some (.bool true)) (hx : val e x = some v) : Stable P n w0 (.pick c x y) ty e hp v := fun a w hf _ _ _ _ _ => by
  simp [execOp, hf.eval hc, hf.eval hx, asBool]
theorem st_pick_f {c x y : Operand} {v : Value} (hc : val e c = some (.bool false)) (hy : val e y = some v) : Stable P n w0 (.pick c x y) ty e hp v := fun a w hf _ _ _ _ _ => by
  simp [execOp, hf.eval hc, hf.eval hy, asBool]
theorem st_not {x : Operand} {b : Bool} {t : TypeId} (hx : val e x = some (.bool b)) : Stable P n w0 (.unOp .not t x) ty e hp (.bool (!b)) := fun a w hf _ _ _ _ _ => by
  simp [execOp, hf.eval hx, Op.unary]
theorem st_not_t {x : Operand} {t : TypeId} (hx : val e x = some (.bool true)) : Stable P n w0 (.unOp .not t x) ty e hp (.bool false) := st_not hx
theorem st_not_f {x : Operand} {t : TypeId} (hx : val e x = some (.bool false)) : Stable P n w0 (.unOp .not t x) ty e hp (.bool true) := st_not hx
theorem st_nil {x : Operand} {A : Addr} (hx : val e x = some (.pointer (some A))) : Stable P n w0 (.nilCheck x) ty e hp (.pointer (some A)) := fun a w hf _ _ _ _ _ => by
  simp [execOp, hf.eval hx]
theorem st_extract {x : Operand} {k : Nat} {vs : Array Value} {v : Value} (hx : val e x = some (.tuple vs)) (hv : vs[k]? = some v) : Stable P n w0 (.extract x k) ty e hp v := fun a w hf _ _ _ _ _ => by
  simp [execOp, hf.eval hx, Instr.extract, hv]
theorem st_func {fn : Fn} {xs ys : Array Operand} (us vs : List Value) (hx : vals e xs.toList = some us) (hy : vals e ys.toList = some vs) : Stable P n w0 (.makeFunc fn xs ys) ty e hp (.func fn us.toArray vs.toArray) := fun a w hf _ _ _ _ _ => by
  have h1 : xs.map a.eval = us.toArray := Array.ext' (by rw [Array.toList_map]; exact hf.evals hx)
  have h2 : ys.map a.eval = vs.toArray := Array.ext' (by rw [Array.toList_map]; exact hf.evals hy)
  simp [execOp, h1, h2, Instr.makeFunc]

/- loads -/
theorem st_load (i : Nat) {x : Operand} {g o t t' : Nat} {cs : List Value} {v : Value} (hx : val e x = some (.pointer (some ⟨g, o, none⟩))) (ht : oneT P t = true) (hi : hp[i]? = some (g, Cl t' cs)) (hv : cs[o]? = some v) :
    Stable P n w0 (.load t x) ty e hp v := fun a w hf ho _ _ _ _ => by
  have hc := ho.cell hi o
  rw [hv] at hc
  simp [execOp, hf.eval hx, Instr.loadAt, Instr.sureAddr, loadVar, run_isAgg_one ht, hc]
theorem st_load_old {x : Operand} {t : TypeId} {A : Option Addr} {k : Nat} {v : Value} (hx : val e x = some (.pointer (A.map (·.add k)))) (ht : oneT P t = true) (hv : cellO w0.w A k = some v) :
    Stable P n w0 (.load t x) ty e hp v := fun a w hf ho _ _ _ _ => by
  cases A with
  | none => simp [cellO] at hv
  | some p =>
    have hc := ho.old (p := p.add k) hv
    simp only [Option.map_some] at hx
    simp [execOp, hf.eval hx, Instr.loadAt, Instr.sureAddr, loadVar, run_isAgg_one ht, hc]
theorem st_load_at {x : Operand} {t : TypeId} {p : Addr} {v : Value} (hx : val e x = some (.pointer (some p))) (ht : oneT P t = true) (hv : w0.w.cell? p = some v) :
    Stable P n w0 (.load t x) ty e hp v := fun a w hf ho _ _ _ _ => by
  simp [execOp, hf.eval hx, Instr.loadAt, Instr.sureAddr, loadVar, run_isAgg_one ht, ho.old hv]
theorem st_loadN (i k : Nat) {x : Operand} {g o t t' : Nat} {cs vs : List Value} (hx : val e x = some (.pointer (some ⟨g, o, none⟩))) (ht : aggT P t k = true) (hi : hp[i]? = some (g, Cl t' cs)) (hl : vs.length = k) (hv : ∀ j u, vs[j]? = some u → cs[o + j]? = some u) :
    Stable P n w0 (.load t x) ty e hp (.agg vs.toArray) := fun a w hf ho _ _ _ _ => by
  have hc := run_loadCells_list (P := P) w ⟨g, o, none⟩ vs (fun j u hu => by rw [Addr.add_lit, ho.cell hi]; exact hv j u hu)
  rw [hl] at hc
  simp [execOp, hf.eval hx, Instr.loadAt, Instr.sureAddr, loadVar, run_isAgg_agg ht, run_sizeOf (aggT_siz ht), hc]
theorem st_loadD (i k : Nat) {x : Operand} {g o t t' : Nat} {cs vs r : List Value} (hx : val e x = some (.pointer (some ⟨g, o, none⟩))) (ht : aggT P t k = true) (hi : hp[i]? = some (g, Cl t' cs)) (hl : vs.length = k) (hd : cs.drop o = vs ++ r) :
    Stable P n w0 (.load t x) ty e hp (.agg vs.toArray) := st_loadN i k hx ht hi hl (fun j u hu => by
  have hj : j < vs.length := (List.getElem?_eq_some_iff.1 hu).1
  rw [← List.getElem?_drop, hd, List.getElem?_append_left hj]
  exact hu)
theorem st_loadN_old (k : Nat) {x : Operand} {t : TypeId} {A : Option Addr} {o : Nat} {vs : List Value} (hx : val e x = some (.pointer (A.map (·.add o)))) (ht : aggT P t k = true) (hA : A.isSome = true) (hl : vs.length = k) (hv : ∀ j u, vs[j]? = some u → cellO w0.w A (o + j) = some u) :
    Stable P n w0 (.load t x) ty e hp (.agg vs.toArray) := fun a w hf ho _ _ _ _ => by
  cases A with
  | none => cases hA
  | some p =>
    have hc := run_loadCells_list (P := P) w (p.add o) vs (fun j u hu => by rw [addr_add_add]; exact ho.old (hv j u hu))
    rw [hl] at hc
    simp only [Option.map_some] at hx
    simp [execOp, hf.eval hx, Instr.loadAt, Instr.sureAddr, loadVar, run_isAgg_agg ht, run_sizeOf (aggT_siz ht), hc]

/- addresses -/
theorem run_fieldPlace {t f off : Nat} (h : fldT P t f off = true) (p : Addr) (w : World) : ∃ fs fd, P.underlying t = some (.struct fs) ∧ fs[f]? = some fd ∧ (fieldPlace p fd).run P w = .ok (p.add off) w := by
  unfold fldT at h
  split at h
  · rename_i fs hfs
    split at h
    · rename_i fd hfd
      simp only [Bool.and_eq_true] at h
      obtain ⟨h1, h2⟩ := h
      have ho : fd.offset = off := Nat.eq_of_beq_eq_true h1
      split at h2
      · rename_i i hi
        have hne : i.size ≠ 0 := by
          intro h0
          rw [h0] at h2
          cases h2
        exact ⟨fs, fd, hfs, hfd, by simp [fieldPlace, sizeOf, typeInfo, hi, hne, ho]⟩
      · cases h2
    · cases h
  · cases h
theorem st_field {x : Operand} {t f off g o : Nat} (hx : val e x = some (.pointer (some ⟨g, o, none⟩))) (h : fldT P t f off = true) : Stable P n w0 (.fieldAddr t x f) ty e hp (.pointer (some ⟨g, o + off, none⟩)) := fun a w hf _ _ _ _ _ => by
  obtain ⟨fs, fd, h1, h2, h3⟩ := run_fieldPlace h ⟨g, o, none⟩ w
  simp [execOp, hf.eval hx, Instr.fieldAt, run_underlying h1, h2, Instr.sureAddr, h3, Addr.add_lit]
theorem st_field_old {x : Operand} {t f off k : Nat} {A : Option Addr} (hx : val e x = some (.pointer (A.map (·.add k)))) (hA : A.isSome = true) (h : fldT P t f off = true) : Stable P n w0 (.fieldAddr t x f) ty e hp (.pointer (A.map (·.add (k + off)))) := fun a w hf _ _ _ _ _ => by
  cases A with
  | none => cases hA
  | some p =>
    simp only [Option.map_some] at hx ⊢
    obtain ⟨fs, fd, h1, h2, h3⟩ := run_fieldPlace h (p.add k) w
    simp [execOp, hf.eval hx, Instr.fieldAt, run_underlying h1, h2, Instr.sureAddr, h3, addr_add_add]
theorem st_index_old (j : Nat) {x ix : Operand} {t el sz len cap : Nat} {A : Option Addr} {kd : IntKind} {i : Int} (hx : val e x = some (.slice A len cap)) (hix : val e ix = some (.int kd i)) (hj : i = (j : Int)) (hlt : j < len) (hA : A.isSome = true) (h : slT P t el sz = true) :
    Stable P n w0 (.indexAddr t x ix) ty e hp (.pointer (A.map (·.add (j * sz)))) := fun a w hf _ _ _ _ _ => by
  obtain ⟨h1, inf, h2, h3⟩ := slT_spec h
  subst hj
  cases A with
  | none => cases hA
  | some p =>
    simp [execOp, hf.eval hx, hf.eval hix, Instr.indexAt, asIntOf, run_underlying h1, hlt, sizeOf, typeInfo, h2, h3]

/- builtins -/
theorem st_len {x : Operand} {t el sz len cap : Nat} {A : Option Addr} (hx : val e x = some (.slice A len cap)) (h : slT P t el sz = true) :
    Stable P n w0 (.call { callee := .builtin .len, args := #[x], argTypes := #[t] }) ty e hp (.int .i64 (len : Int)) := fun a w hf _ _ _ _ _ => by
  obtain ⟨h1, _⟩ := slT_spec h
  simp [execOp, resolve, invoke, builtin, hf.eval hx, Builtin.len_, run_underlying h1, goInt]
/- integers -/

theorem st_add {x y : Operand} {t u : TypeId} {i j : Int} (hx : val e x = some (.int .i64 i)) (hy : val e y = some (.int .i64 j)) (hb : -9223372036854775808 ≤ i + j ∧ i + j ≤ 9223372036854775807) :
    Stable P n w0 (.binOp .add t x y u) ty e hp (.int .i64 (i + j)) := fun a w hf _ _ _ _ _ => by
  have hw := IntWalk.i64_in _ hb
  simp [execOp, hf.eval hx, hf.eval hy, eqGuard, binOp, Op.intArith] at *
  exact hw
theorem st_sub {x y : Operand} {t u : TypeId} {i j : Int} (hx : val e x = some (.int .i64 i)) (hy : val e y = some (.int .i64 j)) (hb : -9223372036854775808 ≤ i - j ∧ i - j ≤ 9223372036854775807) :
    Stable P n w0 (.binOp .sub t x y u) ty e hp (.int .i64 (i - j)) := fun a w hf _ _ _ _ _ => by
  have hw := IntWalk.i64_in _ hb
  simp [execOp, hf.eval hx, hf.eval hy, eqGuard, binOp, Op.intArith] at *
  exact hw
theorem st_eql {x y : Operand} {t u : TypeId} {k : IntKind} {i j : Int} (hx : val e x = some (.int k i)) (hy : val e y = some (.int k j)) :
    Stable P n w0 (.binOp .eql t x y u) ty e hp (.bool (decide (i = j))) := fun a w hf _ _ _ _ _ => by
  have hb : (i == j) = decide (i = j) := by
    rw [Bool.eq_iff_iff]
    simp
  simp only [execOp, hf.eval hx, hf.eval hy]
  simp [eqGuard, binOp, Op.intCmp] at *
  exact hb
theorem st_eql_t {x y : Operand} {t u : TypeId} {k : IntKind} {i j : Int} (hx : val e x = some (.int k i)) (hy : val e y = some (.int k j)) (h : i = j) :
    Stable P n w0 (.binOp .eql t x y u) ty e hp (.bool true) := by
  have := st_eql (P := P) (n := n) (w0 := w0) (hp := hp) (ty := ty) (t := t) (u := u) hx hy
  rwa [decide_eq_true h] at this
theorem st_eql_f {x y : Operand} {t u : TypeId} {k : IntKind} {i j : Int} (hx : val e x = some (.int k i)) (hy : val e y = some (.int k j)) (h : ¬ (i = j)) :
    Stable P n w0 (.binOp .eql t x y u) ty e hp (.bool false) := by
  have := st_eql (P := P) (n := n) (w0 := w0) (hp := hp) (ty := ty) (t := t) (u := u) hx hy
  rwa [decide_eq_false h] at this

theorem st_neq {x y : Operand} {t u : TypeId} {k : IntKind} {i j : Int} (hx : val e x = some (.int k i)) (hy : val e y = some (.int k j)) :
    Stable P n w0 (.binOp .neq t x y u) ty e hp (.bool (decide (i ≠ j))) := fun a w hf _ _ _ _ _ => by
  have hb : (i != j) = decide (i ≠ j) := by
    rw [Bool.eq_iff_iff]
    simp
  simp only [execOp, hf.eval hx, hf.eval hy]
  simp [eqGuard, binOp, Op.intCmp] at *
  exact hb
theorem st_neq_t {x y : Operand} {t u : TypeId} {k : IntKind} {i j : Int} (hx : val e x = some (.int k i)) (hy : val e y = some (.int k j)) (h : i ≠ j) :
    Stable P n w0 (.binOp .neq t x y u) ty e hp (.bool true) := by
  have := st_neq (P := P) (n := n) (w0 := w0) (hp := hp) (ty := ty) (t := t) (u := u) hx hy
  rwa [decide_eq_true h] at this
theorem st_neq_f {x y : Operand} {t u : TypeId} {k : IntKind} {i j : Int} (hx : val e x = some (.int k i)) (hy : val e y = some (.int k j)) (h : ¬ (i ≠ j)) :
    Stable P n w0 (.binOp .neq t x y u) ty e hp (.bool false) := by
  have := st_neq (P := P) (n := n) (w0 := w0) (hp := hp) (ty := ty) (t := t) (u := u) hx hy
  rwa [decide_eq_false h] at this

theorem st_lss {x y : Operand} {t u : TypeId} {k : IntKind} {i j : Int} (hx : val e x = some (.int k i)) (hy : val e y = some (.int k j)) :
    Stable P n w0 (.binOp .lss t x y u) ty e hp (.bool (decide (i < j))) := fun a w hf _ _ _ _ _ => by
  simp only [execOp, hf.eval hx, hf.eval hy]
  simp [eqGuard, binOp, Op.intCmp]
theorem st_lss_t {x y : Operand} {t u : TypeId} {k : IntKind} {i j : Int} (hx : val e x = some (.int k i)) (hy : val e y = some (.int k j)) (h : i < j) :
    Stable P n w0 (.binOp .lss t x y u) ty e hp (.bool true) := by
  have := st_lss (P := P) (n := n) (w0 := w0) (hp := hp) (ty := ty) (t := t) (u := u) hx hy
  rwa [decide_eq_true h] at this
theorem st_lss_f {x y : Operand} {t u : TypeId} {k : IntKind} {i j : Int} (hx : val e x = some (.int k i)) (hy : val e y = some (.int k j)) (h : ¬ (i < j)) :
    Stable P n w0 (.binOp .lss t x y u) ty e hp (.bool false) := by
  have := st_lss (P := P) (n := n) (w0 := w0) (hp := hp) (ty := ty) (t := t) (u := u) hx hy
  rwa [decide_eq_false h] at this

theorem st_leq {x y : Operand} {t u : TypeId} {k : IntKind} {i j : Int} (hx : val e x = some (.int k i)) (hy : val e y = some (.int k j)) :
    Stable P n w0 (.binOp .leq t x y u) ty e hp (.bool (decide (i ≤ j))) := fun a w hf _ _ _ _ _ => by
  simp only [execOp, hf.eval hx, hf.eval hy]
  simp [eqGuard, binOp, Op.intCmp]
theorem st_gtr {x y : Operand} {t u : TypeId} {k : IntKind} {i j : Int} (hx : val e x = some (.int k i)) (hy : val e y = some (.int k j)) :
    Stable P n w0 (.binOp .gtr t x y u) ty e hp (.bool (decide (j < i))) := fun a w hf _ _ _ _ _ => by
  simp only [execOp, hf.eval hx, hf.eval hy]
  simp [eqGuard, binOp, Op.intCmp]
theorem st_gtr_t {x y : Operand} {t u : TypeId} {k : IntKind} {i j : Int} (hx : val e x = some (.int k i)) (hy : val e y = some (.int k j)) (h : j < i) :
    Stable P n w0 (.binOp .gtr t x y u) ty e hp (.bool true) := by
  have := st_gtr (P := P) (n := n) (w0 := w0) (hp := hp) (ty := ty) (t := t) (u := u) hx hy
  rwa [decide_eq_true h] at this
theorem st_gtr_f {x y : Operand} {t u : TypeId} {k : IntKind} {i j : Int} (hx : val e x = some (.int k i)) (hy : val e y = some (.int k j)) (h : ¬ (j < i)) :
    Stable P n w0 (.binOp .gtr t x y u) ty e hp (.bool false) := by
  have := st_gtr (P := P) (n := n) (w0 := w0) (hp := hp) (ty := ty) (t := t) (u := u) hx hy
  rwa [decide_eq_false h] at this

theorem st_geq {x y : Operand} {t u : TypeId} {k : IntKind} {i j : Int} (hx : val e x = some (.int k i)) (hy : val e y = some (.int k j)) :
    Stable P n w0 (.binOp .geq t x y u) ty e hp (.bool (decide (j ≤ i))) := fun a w hf _ _ _ _ _ => by
  simp only [execOp, hf.eval hx, hf.eval hy]
  simp [eqGuard, binOp, Op.intCmp]
theorem st_geq_t {x y : Operand} {t u : TypeId} {k : IntKind} {i j : Int} (hx : val e x = some (.int k i)) (hy : val e y = some (.int k j)) (h : j ≤ i) :
    Stable P n w0 (.binOp .geq t x y u) ty e hp (.bool true) := by
  have := st_geq (P := P) (n := n) (w0 := w0) (hp := hp) (ty := ty) (t := t) (u := u) hx hy
  rwa [decide_eq_true h] at this
theorem st_geq_f {x y : Operand} {t u : TypeId} {k : IntKind} {i j : Int} (hx : val e x = some (.int k i)) (hy : val e y = some (.int k j)) (h : ¬ (j ≤ i)) :
    Stable P n w0 (.binOp .geq t x y u) ty e hp (.bool false) := by
  have := st_geq (P := P) (n := n) (w0 := w0) (hp := hp) (ty := ty) (t := t) (u := u) hx hy
  rwa [decide_eq_false h] at this

end
end Go.Fp