/- Extraction, part 8: bytes of strings, fields of values, more of max and min, equality of bools, maps. -/
import Derived.Test.YtckgfeglhjiflaaDoorX7
import Derived.Laws.IdiomStrings
import Derived.MapKept
namespace Go.Fp
open Go.RowKit

/- ---- the bytes of a string ---- -/
def sBytes (s : ByteArray) : List Int := s.data.toList.map (fun b => (b.toNat : Int))
theorem sBytes_length (s : ByteArray) : (sBytes s).length = s.size := by simp [sBytes]
theorem grownCap_bd (w : World) (need old : Nat) (e : TypeId) (h : need ≤ 9223372036854775807) : need ≤ grownCap w need old e ∧ grownCap w need old e ≤ 9223372036854775807 := by
  unfold grownCap
  simp only [Question.cut]
  have h2 : (2 : Nat) ^ 63 - need > 0 := by
    have : (2 : Nat) ^ 63 = 9223372036854775808 := by decide
    omega
  have := Nat.mod_lt (w.tape w.drawn (.appendCap need old e)) h2
  have h3 : (2 : Nat) ^ 63 = 9223372036854775808 := by decide
  omega
theorem bytes_fz {w : World} {g el cap : Nat} {s : ByteArray} {fr : Nat × Nat} {tl : List Value} (hb : w.heap[g]? = some (.cells ((sBytes s).map (Value.int .u8) ++ tl).toArray el fr)) (hc : s.size ≤ cap) (hm : cap ≤ 9223372036854775807) : FZ (RT.int .u8) w (some ⟨g, 0, none⟩) cap (sBytes s) := by
  refine ⟨by rw [sBytes_length]; omega, (sBytes s).map (fun x => [Value.int .u8 x]), fun j u hu => ?_, ?_⟩
  · have hf : ((sBytes s).map (fun x => [Value.int .u8 x])).flatten = (sBytes s).map (Value.int .u8) := by
      induction sBytes s with
      | nil => rfl
      | cons a r ih => simp [ih]
    rw [hf] at hu
    have hlt := (List.getElem?_eq_some_iff.1 hu).1
    simp only [cellO, Option.bind_some, Addr.add]
    split
    · rename_i h0
      subst h0
      simp only [World.cell?, hb, List.getElem?_toArray]
      rw [List.getElem?_append_left hlt]
      exact hu
    · simp only [World.cell?, hb, List.getElem?_toArray, Nat.zero_add]
      rw [List.getElem?_append_left hlt]
      exact hu
  · induction sBytes s with
    | nil => trivial
    | cons a r ih => exact ⟨rfl, ih⟩
section
variable {P : Program} {n : NT} {m : Nat} {dk0 : Hp} {rq : Option Nat} {b : Base} {e : Env} {hp : Hp} {ty : TypeId}
theorem u_bytes {x : Operand} {t u el : TypeId} {s : ByteArray} (hx : val e x = some (.string s)) (ht : strT P t = true) (hu : slT P u el 1 = true) (he : intT P el .u8 = true) (hs : (s.size : Int) ≤ 9223372036854775807) :
    Does P n b (.convert t u x) ty e hp (fun v hp' => ∃ g cap tl fr, v = .slice (some ⟨g, 0, none⟩) (sBytes s).length cap ∧ hp' = (g, .cells ((sBytes s).map (Value.int .u8) ++ tl).toArray el fr) :: hp ∧ s.size ≤ cap ∧ cap ≤ 9223372036854775807) := does_of fun a w hf ho => by
  obtain ⟨h1, _⟩ := slT_spec hu
  have hr := run_bytes_of_string (P := P) w t u el s (strT_spec ht) h1 (intT_spec he)
  have hbd := grownCap_bd w s.size 0 el (by omega)
  have hrow : bytesRow s (grownCap w s.size 0 el) = ((sBytes s).map (Value.int .u8) ++ List.replicate (grownCap w s.size 0 el - s.size) (Value.int .u8 0)).toArray := by
    apply Array.ext'
    simp [bytesRow, sBytes]
  refine ⟨_, w.drew.alloc (.cells (bytesRow s (grownCap w s.size 0 el)) el ((bytesRow s (grownCap w s.size 0 el)).size, (bytesRow s (grownCap w s.size 0 el)).size + 1)), _, fun d pos af g => ?_, ?_, w.heap.size, grownCap w s.size 0 el, List.replicate (grownCap w s.size 0 el - s.size) (.int .u8 0), ((bytesRow s (grownCap w s.size 0 el)).size, (bytesRow s (grownCap w s.size 0 el)).size + 1), rfl, rfl, hbd.1, hbd.2⟩
  · simp only [execOp, hf.eval hx, Sem.run_bind, hr, Result.andThen_ok, Sem.run_pure, sBytes_length]
  · rw [← hrow]
    exact ho.drew.alloc _

/- ---- fields of values ---- -/
def fldV (P : Program) (t f off ft : Nat) : Bool := match P.underlying t with
  | some (.struct fs) => (match fs[f]? with
    | some fd => Nat.beq fd.offset off && Nat.beq fd.type ft
    | none => false)
  | _ => false
theorem fldV_spec {t f off ft : Nat} (h : fldV P t f off ft = true) : ∃ fs fd, P.underlying t = some (.struct fs) ∧ fs[f]? = some fd ∧ fd.offset = off ∧ fd.type = ft := by
  unfold fldV at h
  split at h
  · rename_i fs hu
    split at h
    · rename_i fd hfd
      simp only [Bool.and_eq_true] at h
      exact ⟨fs, fd, hu, hfd, Nat.eq_of_beq_eq_true h.1, Nat.eq_of_beq_eq_true h.2⟩
    · cases h
  · cases h
theorem st_vfield1 {x : Operand} {t f off ft : Nat} {cs : List Value} {v : Value} (hx : val e x = some (.agg cs.toArray)) (h : fldV P t f off ft = true) (ho : oneT P ft = true) (hv : cs[off]? = some v) : Stable P n b (.field t x f) ty e hp v := fun a w hf _ _ _ _ _ => by
  obtain ⟨fs, fd, h1, h2, h3, h4⟩ := fldV_spec h
  subst h3; subst h4
  simp [execOp, hf.eval hx, Instr.field, run_underlying h1, h2, asAgg, part, run_isAgg_one ho, hv]
theorem st_vfieldN (k : Nat) {x : Operand} {t f off ft : Nat} {cs vs r : List Value} (hx : val e x = some (.agg cs.toArray)) (h : fldV P t f off ft = true) (ho : aggT P ft k = true) (hl : vs.length = k) (hd : cs.drop off = vs ++ r) : Stable P n b (.field t x f) ty e hp (.agg vs.toArray) := fun a w hf _ _ _ _ _ => by
  obtain ⟨fs, fd, h1, h2, h3, h4⟩ := fldV_spec h
  subst h3; subst h4
  have he : cs.toArray.extract fd.offset (fd.offset + k) = vs.toArray := by
    apply Array.ext'
    rw [Array.toList_extract]
    simp only [List.extract_eq_take_drop, hd]
    subst hl
    simp
  simp [execOp, hf.eval hx, Instr.field, run_underlying h1, h2, asAgg, part, run_isAgg_agg ho, run_sizeOf (aggT_siz ho)]
  simpa using he

theorem st_nil_el {x : Operand} {A : Option Addr} {k : Nat} (hx : val e x = some (.pointer (A.map (·.add k)))) (hA : A.isSome = true) : Stable P n b (.nilCheck x) ty e hp (.pointer (A.map (·.add k))) := fun a w hf ho d pos af g => by
  cases A with
  | none => cases hA
  | some p => exact st_nil (n := n) (w0 := b) (hp := hp) (ty := ty) (A := p.add k) hx a w hf ho d pos af g

/- ---- small operations ---- -/
theorem st_max3 {x y z : Operand} {ts : Array TypeId} {k : IntKind} {i j q : Int} (hx : val e x = some (.int k i)) (hy : val e y = some (.int k j)) (hz : val e z = some (.int k q)) :
    Stable P n b (.call { callee := .builtin .max, args := #[x, y, z], argTypes := ts }) ty e hp (.int k (max (max i j) q)) := fun a w hf _ _ _ _ _ => by
  simp [execOp, resolve, invoke, builtin, hf.eval hx, hf.eval hy, hf.eval hz, Builtin.max_, Builtin.max2]
  split <;> split <;> omega
theorem st_min3 {x y z : Operand} {ts : Array TypeId} {k : IntKind} {i j q : Int} (hx : val e x = some (.int k i)) (hy : val e y = some (.int k j)) (hz : val e z = some (.int k q)) :
    Stable P n b (.call { callee := .builtin .min, args := #[x, y, z], argTypes := ts }) ty e hp (.int k (min (min i j) q)) := fun a w hf _ _ _ _ _ => by
  simp [execOp, resolve, invoke, builtin, hf.eval hx, hf.eval hy, hf.eval hz, Builtin.min_, Builtin.min2]
  split <;> split <;> omega
theorem st_min4 {x y z u : Operand} {ts : Array TypeId} {k : IntKind} {i j q r : Int} (hx : val e x = some (.int k i)) (hy : val e y = some (.int k j)) (hz : val e z = some (.int k q)) (hu : val e u = some (.int k r)) :
    Stable P n b (.call { callee := .builtin .min, args := #[x, y, z, u], argTypes := ts }) ty e hp (.int k (min (min (min i j) q) r)) := fun a w hf _ _ _ _ _ => by
  simp [execOp, resolve, invoke, builtin, hf.eval hx, hf.eval hy, hf.eval hz, hf.eval hu, Builtin.min_, Builtin.min2]
  split <;> split <;> split <;> omega
def boolT (P : Program) (t : TypeId) : Bool := match P.underlying t with
  | some .bool => true
  | _ => false
theorem boolT_spec {t : TypeId} (h : boolT P t = true) : P.underlying t = some .bool := by
  unfold boolT at h
  split at h
  · assumption
  · cases h
theorem st_beql {x y : Operand} {t u : TypeId} {i j : Bool} (hx : val e x = some (.bool i)) (hy : val e y = some (.bool j)) (h : boolT P t = true) : Stable P n b (.binOp .eql t x y u) ty e hp (.bool (decide (i = j))) := fun a w hf _ _ _ _ _ => by
  have he : (i == j) = decide (i = j) := by cases i <;> cases j <;> rfl
  have hq : (Op.equalIn 10000 t (.bool i) (.bool j)).run P w = .ok (i == j) w := run_equalIn_bool' w 9999 t i j (boolT_spec h)
  rw [he] at hq
  simp [execOp, hf.eval hx, hf.eval hy, eqGuard, binOp, Op.equal, Op.maxDepth, hq]
theorem st_bneq {x y : Operand} {t u : TypeId} {i j : Bool} (hx : val e x = some (.bool i)) (hy : val e y = some (.bool j)) (h : boolT P t = true) : Stable P n b (.binOp .neq t x y u) ty e hp (.bool (decide (i ≠ j))) := fun a w hf _ _ _ _ _ => by
  have he : (!(i == j)) = decide (i ≠ j) := by cases i <;> cases j <;> rfl
  have hq : (Op.equalIn 10000 t (.bool i) (.bool j)).run P w = .ok (i == j) w := run_equalIn_bool' w 9999 t i j (boolT_spec h)
  rw [← he]
  simp [execOp, hf.eval hx, hf.eval hy, eqGuard, binOp, Op.equal, Op.maxDepth, hq]
end
end Go.Fp
