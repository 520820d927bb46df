/- Extraction, part 8: bytes of strings, fields of values, more of max and min, equality of bools, maps. -/
import Derived.Test.YtcibjjhanafojaaGreatDoorX7
import Derived.Laws.IdiomStrings
import Derived.MapKept
namespace Go.Fp
open Go.RowKit

/- ---- the bytes of a string ---- -/
def sBytes (s : ByteArray) : List Int := s.data.toList.map (fun b => (b.toNat : Int))
theorem sBytes_length (s : ByteArray) : (sBytes s).length = s.size := by simp [sBytes]
theorem grownCap_bd (w : World) (need old : Nat) (e : TypeId) (h : need ≤ 9223372036854775807) : need ≤ grownCap w need old e ∧ grownCap w need old e ≤ 9223372036854775807 := by
  unfold grownCap
  simp only [Question.cut]
  have h2 : (2 : Nat) ^ 63 - need > 0 := by
    have : (2 : Nat) ^ 63 = 9223372036854775808 := by decide
    omega
  have := Nat.mod_lt (w.tape w.drawn (.appendCap need old e)) h2
  have h3 : (2 : Nat) ^ 63 = 9223372036854775808 := by decide
  omega
theorem bytes_fz {w : World} {g el cap : Nat} {s : ByteArray} {fr : Nat × Nat} {tl : List Value} (hb : w.heap[g]? = some (.cells ((sBytes s).map (Value.int .u8) ++ tl).toArray el fr)) (hc : s.size ≤ cap) (hm : cap ≤ 9223372036854775807) : FZ (RT.int .u8) w (some ⟨g, 0, none⟩) cap (sBytes s) := by
  refine ⟨by rw [sBytes_length]; omega, (sBytes s).map (fun x => [Value.int .u8 x]), fun j u hu => ?_, ?_⟩
  · have hf : ((sBytes s).map (fun x => [Value.int .u8 x])).flatten = (sBytes s).map (Value.int .u8) := by
      induction sBytes s with
      | nil => rfl
      | cons a r ih => simp [ih]
    rw [hf] at hu
    have hlt := (List.getElem?_eq_some_iff.1 hu).1
    simp only [cellO, Option.bind_some, Addr.add]
    split
    · rename_i h0
      subst h0
      simp only [World.cell?, hb, List.getElem?_toArray]
      rw [List.getElem?_append_left hlt]
      exact hu
    · simp only [World.cell?, hb, List.getElem?_toArray, Nat.zero_add]
      rw [List.getElem?_append_left hlt]
      exact hu
  · induction sBytes s with
    | nil => trivial
    | cons a r ih => exact ⟨rfl, ih⟩
section
variable {P : Program} {n : NT} {m : Nat} {dk0 : Hp} {rq : Option Nat} {b : Base} {e : Env} {hp : Hp} {ty : TypeId}
theorem u_bytes {x : Operand} {t u el : TypeId} {s : ByteArray} (hx : val e x = some (.string s)) (ht : strT P t = true) (hu : slT P u el 1 = true) (he : intT P el .u8 = true) (hs : (s.size : Int) ≤ 9223372036854775807) :
    Does P n b (.convert t u x) ty e hp (fun v hp' => ∃ g cap tl fr, v = .slice (some ⟨g, 0, none⟩) (sBytes s).length cap ∧ hp' = (g, .cells ((sBytes s).map (Value.int .u8) ++ tl).toArray el fr) :: hp ∧ s.size ≤ cap ∧ cap ≤ 9223372036854775807) := does_of fun a w hf ho => by
  obtain ⟨h1, _⟩ := slT_spec hu
  have hr := run_bytes_of_string (P := P) w t u el s (strT_spec ht) h1 (intT_spec he)
  have hbd := grownCap_bd w s.size 0 el (by omega)
  have hrow : bytesRow s (grownCap w s.size 0 el) = ((sBytes s).map (Value.int .u8) ++ List.replicate (grownCap w s.size 0 el - s.size) (Value.int .u8 0)).toArray := by
    apply Array.ext'
    simp [bytesRow, sBytes]
  refine ⟨_, w.drew.alloc (.cells (bytesRow s (grownCap w s.size 0 el)) el ((bytesRow s (grownCap w s.size 0 el)).size, (bytesRow s (grownCap w s.size 0 el)).size + 1)), _, fun d pos af g => ?_, ?_, w.heap.size, grownCap w s.size 0 el, List.replicate (grownCap w s.size 0 el - s.size) (.int .u8 0), ((bytesRow s (grownCap w s.size 0 el)).size, (bytesRow s (grownCap w s.size 0 el)).size + 1), rfl, rfl, hbd.1, hbd.2⟩
  · simp only [execOp, hf.eval hx, Sem.run_bind, hr, Result.andThen_ok, Sem.run_pure, sBytes_length]
  · rw [← hrow]
    exact ho.drew.alloc _

/- ---- fields of values ---- -/
def fldV (P : Program) (t f off ft : Nat) : Bool := match P.underlying t with
  | some (.struct fs) => (match fs[f]? with
    | some fd => Nat.beq fd.offset off && Nat.beq fd.type ft
    | none => false)
  | _ => false
/- ---- small operations ---- -/
def boolT (P : Program) (t : TypeId) : Bool := match P.underlying t with
  | some .bool => true
  | _ => false
theorem boolT_spec {t : TypeId} (h : boolT P t = true) : P.underlying t = some .bool := by
  unfold boolT at h
  split at h
  · assumption
  · cases h
theorem st_bneq {x y : Operand} {t u : TypeId} {i j : Bool} (hx : val e x = some (.bool i)) (hy : val e y = some (.bool j)) (h : boolT P t = true) : Stable P n b (.binOp .neq t x y u) ty e hp (.bool (decide (i ≠ j))) := fun a w hf _ _ _ _ _ => by
  have he : (!(i == j)) = decide (i ≠ j) := by cases i <;> cases j <;> rfl
  have hq : (Op.equalIn 10000 t (.bool i) (.bool j)).run P w = .ok (i == j) w := run_equalIn_bool' w 9999 t i j (boolT_spec h)
  rw [← he]
  simp [execOp, hf.eval hx, hf.eval hy, eqGuard, binOp, Op.equal, Op.maxDepth, hq]
end
end Go.Fp
