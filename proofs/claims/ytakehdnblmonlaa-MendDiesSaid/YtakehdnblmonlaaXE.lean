/- Extraction, part 14: arrays in own and in frozen blocks. -/
import Derived.Test.YtakehdnblmonlaaXD
import Derived.Lib.AppendZerosOnto
namespace Go.Fp
open Go.RowKit

section
variable {P : Program} {n : NT} {m : Nat} {dk0 : Hp} {rq : Option Nat} {b : Base} {e : Env} {hp : Hp} {ty : TypeId}
def posN (i : Int) : Option Nat := if 0 < i then some i.toNat else none
theorem posN_some {i : Int} {m : Nat} (h : posN i = some m) : i = (m : Int) ∧ 0 < m := by
  unfold posN at h
  split at h
  · injection h with h
    omega
  · cases h
theorem zeros_flat (zs : List Value) (k : Nat) : (Builtin.zeroCells zs.toArray k).toList = (List.replicate k zs).flatten := by
  rw [← made_flat]
  simp [Builtin.zeroCells, madeCells]
/-- append of so many zeros onto nil (slices.Grow). -/
theorem u_appZ {α : Type} {r : RT α} (F R : Hp) {t tn el sz by_ : Nat} {s x : Operand} {kq kn : IntKind} {zv : Value} (zs : List Value) (a0 : α) (k : Nat) {i : Int} (hhp : hp = F ++ R) (hx : val e s = some (.slice none 0 0)) (hy : val e x = some (.int kq i)) (hi0 : i = (k : Int)) (h0 : 0 < k) (hsl : slT P t el sz = true) (htn : intT P tn kn = true)
    (hinf : (P.info? el).map (fun i => (i.zero, i.size, i.bytes)) = some (some zv, sz, by_)) (hz : zv.cells = zs.toArray) (hl : zs.length = sz) (hsz : r.sz = sz) (hpos : 0 < sz) (hr : r.rep b.w zs a0) (hroom : k * by_ ≤ 140737488355328 ∧ k ≤ 9223372036854775807) :
    Does P n b (.call { callee := .builtin .append, args := #[s, x], argTypes := #[t, tn] }) ty e hp (fun v hp' => ∃ hs, hp' = F ++ (hs ++ R) ∧ OS el (OT.fr r) b.w v (List.replicate k a0) hs) := does_of fun a w hf ho => by
  subst hsz
  subst hi0
  subst hhp
  obtain ⟨h2, _⟩ := slT_spec hsl
  cases hi : P.info? el with
  | none => simp [hi] at hinf
  | some inf =>
    simp only [hi, Option.map_some, Option.some.injEq, Prod.mk.injEq] at hinf
    obtain ⟨g1, g2, g3⟩ := hinf
    have hfit := growslice_fits (need := 0 + k) (old := 0) (bytes := inf.bytes) (by omega) (by rw [g3, Nat.zero_add]; exact hroom.1)
    have hrun := Lib.run_append_grow_zeros (P := P) w t tn ty el inf zv kq kn h2 (intT_spec htn) hi g1 none 0 0 [] (by simp [Builtin.firstCells]) k h0 (by rw [g2]; exact hpos) (by omega) (by omega) (by rw [g3]; omega) hfit
    have hge := grownCap_ge w (0 + k) 0 el
    have hcm : grownCap w (0 + k) 0 el ≤ maxLen := grownCap_le_maxLen w (0 + k) 0 el (by simpa [maxLen] using hroom.2)
    have hfl := flat_len (All2.rep hr k)
    rw [List.length_replicate] at hfl
    have harr : (([] : List Value).toArray ++ Builtin.zeroCells zv.cells k ++ Builtin.zeroCells zv.cells (grownCap w (0 + k) 0 el - (0 + k))) = ((List.replicate k zs).flatten ++ (Builtin.zeroCells zs.toArray (grownCap w (0 + k) 0 el - (0 + k))).toList).toArray := by
      rw [hz, ← zeros_flat]
      simp
    rw [harr] at hrun
    refine ⟨.slice (some ⟨w.heap.size, 0, none⟩) (0 + k) (grownCap w (0 + k) 0 el), _, F ++ ([(w.heap.size, Cl el ((List.replicate k zs).flatten ++ (Builtin.zeroCells zs.toArray (grownCap w (0 + k) 0 el - (0 + k))).toList))] ++ R), fun d pos af g => ?_, (ho.drew.alloc (Cl el ((List.replicate k zs).flatten ++ (Builtin.zeroCells zs.toArray (grownCap w (0 + k) 0 el - (0 + k))).toList))).perm ?_, _, rfl, List.replicate k zs, List.replicate (List.replicate k a0).length [], [(w.heap.size, Cl el ((List.replicate k zs).flatten ++ (Builtin.zeroCells zs.toArray (grownCap w (0 + k) 0 el - (0 + k))).toList))], ?_, all3_of2 (All2.rep hr k), by simp⟩
    · simp [execOp, resolve, invoke, builtin, hf.eval hx, hf.eval hy, hrun]
    · exact (perm_mid F [_] R).symm
    · refine .inr ⟨w.heap.size, grownCap w (0 + k) 0 el, [], (Builtin.zeroCells zs.toArray (grownCap w (0 + k) 0 el - (0 + k))).toList, ?_, by simp, ?_, ?_, ?_, hcm⟩
      · simp
      · rw [hfl, List.length_replicate]; rfl
      · rw [List.length_append, hfl, zeroCells_length]
        show k * r.sz + _ * zs.toArray.size = grownCap w (0 + k) 0 el * r.sz
        rw [show zs.toArray.size = r.sz by simpa using hl, ← Nat.add_mul]
        congr 1
        omega
      · rw [List.length_replicate]; omega
theorem st_len0 {x : Operand} {t el sz c : Nat} {A : Option Addr} (hx : val e x = some (.slice A 0 c)) (h : slT P t el sz = true) :
    Stable P n b (.call { callee := .builtin .len, args := #[x], argTypes := #[t] }) ty e hp (.int .i64 0) := st_len hx h
theorem st_cap0 {x : Operand} {t el sz : Nat} (hx : val e x = some (.slice none 0 0)) (h : slT P t el sz = true) :
    Stable P n b (.call { callee := .builtin .cap, args := #[x], argTypes := #[t] }) ty e hp (.int .i64 0) := fun a w hf _ _ _ _ _ => by
  obtain ⟨h1, _⟩ := slT_spec h
  simp [execOp, resolve, invoke, builtin, hf.eval hx, Builtin.cap_, run_underlying h1, goInt]
theorem st_slcN {x q : Operand} {t el sz : Nat} {kd : IntKind} (hx : val e x = some (.slice none 0 0)) (hq : val e q = some (.int kd 0)) (h : slT P t el sz = true) :
    Stable P n b (.slice t x none (some q) none) ty e hp (.slice none 0 0) := by
  have := st_part (P := P) (n := n) (b := b) (ty := ty) (hp := hp) (l := ([] : List Nat)) (A := none) (c := 0) (lo := none) (hi := some q) (el := el) (sz := sz) 0 0 hx (.inl ⟨rfl, rfl⟩) (.inr ⟨q, kd, 0, rfl, hq, rfl⟩) (Nat.le_refl _) (Nat.le_refl _) (Nat.le_refl _) h
  exact this
end
end Go.Fp
