/- fishkeep2.awakeFare: fare.Read at "x" panics; its deferred closure takes the panic and answers a fault. -/
import Derived.Test.YtglmhaihgpnogaaGreatDoorProg
import Derived.Tactics
import Derived.Tactics2
import Derived.Defers
import Derived.Recover
import Derived.Laws.Pointers
import Derived.Below
import Derived.WalkLawsBesides
import Derived.KernelRfl
import Derived.Test.YtglmhaihgpnogaaGreatDoorXG
set_option linter.unusedVariables false
set_option linter.unusedSimpArgs false
namespace Go.Proofs.YtglmhaihgpnogaaGreatDoor
open Go.RowKit

theorem setCell_same {W : World} {a i : Nat} {v : Value} {c : Array Value} {t : TypeId} {fr : Nat × Nat} (h : W.heap[a]? = some (.cells c t fr)) (hc : c.setIfInBounds i v = c) : W.setCell ⟨a, i, none⟩ v = W := by
  unfold World.setCell
  have : ∀ f : Obj → Obj, f (.cells c t fr) = .cells c t fr → W.heap.modify a f = W.heap := fun f hf => by
    apply Array.ext_getElem?
    intro j
    rw [Array.getElem?_modify]
    by_cases e : a = j
    · subst e
      rw [if_pos rfl, h]
      simp [hf]
    · rw [if_neg e]
  rw [this _ (by simp [hc])]
set_option maxRecDepth 100000 in
set_option maxHeartbeats 2000000 in
theorem catch40 (a : Nat) (w : World) (h0 : w.heap[a]? = some (.cells #[.bool false, .slice none 0 0, .int .i64 0, .slice none 0 0] 42)) (h1 : w.heap[a + 1]? = some (.cells #[.int .i64 0] 28)) :
    CallsD Tryz.prog 25 #[.pointer (some ⟨a, 0, none⟩), .pointer (some ⟨a + 1, 0, none⟩)] (.panicking ({ v := .iface 72 (.agg #[]), recovered := false } :: [])) w fun e u' w' =>
      e = .returned (.tuple #[]) ∧ u' = .panicking ({ v := .iface 72 (.agg #[]), recovered := true } :: []) ∧ w'.heap[a]? = some (.cells #[.bool false, .slice none 0 0, .int .i64 0, .slice none 0 0] 42) ∧ w'.heap[a + 1]? = some (.cells #[.int .i64 10] 28) ∧ Below a w w' := by
  have hta : ∀ (w : World), (Instr.typeAssert (.iface 72 (.agg #[])) 20 72 true).run Tryz.prog w = .ok (.tuple #[.agg #[], .bool true]) w := fun w => by kernel_rfl
  have hnt : ∀ (w : World), (Op.unary .not (.bool true)).run Tryz.prog w = .ok (.bool false) w := fun w => rfl
  have hb52 : ∀ (w : World), (Instr.build 42 #[]).run Tryz.prog w = .ok (.agg #[.bool false, .slice none 0 0, .int .i64 0, .slice none 0 0]) w := fun w => by kernel_rfl
  refine callsD_of_wpS Tryz.func25 rfl fun c₀ cs hu => ?_
  apply wpS_seq
  apply wpS_region
  simp [wpOpsS, go_sem, recoverD, hu, Tryz.ntmps25, Exit.thenS]
  apply wpS_seq
  apply wpS_region
  simp [wpOpsS, go_sem, Exit.thenS]
  refine wpS_cond (t := true) (by simp [Act.eval, Array.replicate]) ?_
  simp only [if_true]
  apply wpS_seq
  apply wpS_seq
  apply wpS_region
  simp [wpOpsS, go_sem, Exit.thenS, hta]
  apply wpS_seq
  apply wpS_region
  simp [wpOpsS, go_sem, Exit.thenS, hnt]
  refine wpS_cond (t := false) (by simp [Act.eval, Array.replicate]) ?_
  simp only [Bool.false_eq_true, if_false]
  refine wpS_of_wp (wp_skip ?_)
  simp only [Exit.thenS]
  apply wpS_region
  have ha : a < w.heap.size := (Array.getElem?_eq_some_iff.1 h0).1
  have ha1 : a + 1 < w.heap.size := (Array.getElem?_eq_some_iff.1 h1).1
  have g0 : (w.alloc (.cells #[] 72)).heap[a]? = some (.cells #[.bool false, .slice none 0 0, .int .i64 0, .slice none 0 0] 42) := (Below.heap_alloc _ _ _ ha).trans h0
  have g1 : (w.alloc (.cells #[] 72)).heap[a + 1]? = some (.cells #[.int .i64 0] 28) := (Below.heap_alloc _ _ _ ha1).trans h1
  have k0 : (w.alloc (.cells #[] 72)).cell? ⟨a, 0, none⟩ = some (.bool false) := by simp [World.cell?, g0]
  have k1 : (w.alloc (.cells #[] 72)).cell? ⟨a, 1, none⟩ = some (.slice none 0 0) := by simp [World.cell?, g0]
  have k2 : (w.alloc (.cells #[] 72)).cell? ⟨a, 2, none⟩ = some (.int .i64 0) := by simp [World.cell?, g0]
  have k3 : (w.alloc (.cells #[] 72)).cell? ⟨a, 3, none⟩ = some (.slice none 0 0) := by simp [World.cell?, g0]
  have k4 : (w.alloc (.cells #[] 72)).cell? ⟨a + 1, 0, none⟩ = some (.int .i64 0) := by simp [World.cell?, g1]
  have f0 : ∀ i, (w.alloc (.cells #[] 72)).frozen? ⟨a, i, none⟩ = false := fun i => by simp [World.frozen?, g0]
  have f1 : (w.alloc (.cells #[] 72)).frozen? ⟨a + 1, 0, none⟩ = false := by simp [World.frozen?, g1]
  have s0 := setCell_same (i := 0) (v := .bool false) g0 rfl
  have s1 := setCell_same (i := 1) (v := .slice none 0 0) g0 rfl
  have s2 := setCell_same (i := 2) (v := .int .i64 0) g0 rfl
  have s3 := setCell_same (i := 3) (v := .slice none 0 0) g0 rfl
  simp [wpOpsS, go_sem, hb52, bodyPostS, results, Tryz.results25, k0, k1, k2, k3, k4, f0, f1, s0, s1, s2, s3]
  refine ⟨?_, ?_, ?_⟩
  · simp [World.setCell, Array.getElem?_modify, g0]
  · simp [World.setCell, Array.getElem?_modify, g1]
  · exact (((Below.refl a w).alloc (Nat.le_of_lt ha) _).setCell (Nat.le_succ _) _)
set_option maxRecDepth 100000 in
set_option maxHeartbeats 4000000 in
theorem read_x (w : World) : Calls Tryz.prog 11 #[.string (ByteArray.mk #[120])] w fun e w' => e = .returned (.tuple #[(Value.agg #[Value.bool false, Value.slice none 0 0, Value.int IntKind.i64 0, Value.slice none 0 0]), .int .i64 10]) ∧ Below w.heap.size w w' := by
  have hmf : ∀ (fn : Fn) (first cap : Array Value) (w : World), (Instr.makeFunc fn first cap).run Tryz.prog w = .ok (.func fn first cap) w := fun _ _ _ _ => rfl
  have hlen1 : ∀ (w : World), (Builtin.len_ #[9] 3 #[.string (ByteArray.mk #[120])]).run Tryz.prog w = .ok (.int .i64 1) w := fun w => by simp [Builtin.len_, run_underlying Tryz.underlying9, goInt]; rfl
  have hlen2 : ∀ (w : World), (Builtin.len_ #[9] 3 #[.string (ByteArray.mk #[10])]).run Tryz.prog w = .ok (.int .i64 1) w := fun w => by simp [Builtin.len_, run_underlying Tryz.underlying9, goInt]; rfl
  have hsl : ∀ (w : World), (Instr.sliceAt 9 (.string (ByteArray.mk #[120])) (some (.int .i64 0)) none none).run Tryz.prog w = .ok (.string (ByteArray.mk #[120])) w := fun w => by
    simp [Instr.sliceAt, run_underlying Tryz.underlying9, Instr.slice, Instr.sliceBounds, Instr.sliceBound, asIntOf]
  have hbe : ∀ (w : World), (binOp .eql 9 (.string (ByteArray.mk #[120])) (.string (ByteArray.mk #[10]))).run Tryz.prog w = .ok (.bool false) w := fun w => by
    simp [binOp, Op.stringOp]
  have hnot : ∀ (w : World), (Op.unary .not (.bool false)).run Tryz.prog w = .ok (.bool true) w := fun w => rfl
  have hb86 : ∀ (w : World), (Instr.build 72 #[]).run Tryz.prog w = .ok (.agg #[]) w := fun w => by kernel_rfl
  go_enter_defers Tryz.func11, Tryz.ntmps11
  go_wp2
  refine ⟨rfl, ?_⟩
  go_wp2
  clear hmf hlen1 hlen2 hsl hbe hnot hb86
  refine leaves_cons (f := 25) (args := #[.pointer (some ⟨w.heap.size, 0, none⟩), .pointer (some ⟨w.heap.size + 1, 0, none⟩)]) (by simp) ?_ ?_
  · simp [go_sem]
  have n1 : ((w.alloc (.cells #[.bool false, .slice none 0 0, .int .i64 0, .slice none 0 0] 42)).alloc (.cells #[.int .i64 0] 28)).heap.size = w.heap.size + 2 := by
    show (Array.push (Array.push _ _) _).size = _
    simp
  have n0 : (w.alloc (.cells #[.bool false, .slice none 0 0, .int .i64 0, .slice none 0 0] 42)).heap.size = w.heap.size + 1 := by
    show (Array.push _ _).size = _
    simp
  have e0 : (w.alloc (.cells #[.bool false, .slice none 0 0, .int .i64 0, .slice none 0 0] 42)).heap[w.heap.size]? = some (.cells #[.bool false, .slice none 0 0, .int .i64 0, .slice none 0 0] 42) := by
    show (w.heap.push _)[w.heap.size]? = _
    simp
  have e1 : ((w.alloc (.cells #[.bool false, .slice none 0 0, .int .i64 0, .slice none 0 0] 42)).alloc (.cells #[.int .i64 0] 28)).heap[w.heap.size + 1]? = some (.cells #[.int .i64 0] 28) := by
    show (Array.push _ _)[_]? = _
    rw [← n0]
    exact Array.getElem?_push_size
  refine (catch40 w.heap.size _ ?_ ?_).mono ?_
  · rw [Below.heap_alloc _ _ _ (by omega), Below.heap_alloc _ _ _ (by omega)]
    exact e0
  · rw [Below.heap_alloc _ _ _ (by omega)]
    exact e1
  rintro e u' w' ⟨rfl, rfl, q0, q1, qB⟩
  refine ⟨.tuple #[(Value.agg #[Value.bool false, Value.slice none 0 0, Value.int IntKind.i64 0, Value.slice none 0 0]), .int .i64 10], ?_, rfl, ?_⟩
  · have k0 : w'.cell? ⟨w.heap.size, 0, none⟩ = some (.bool false) := by simp [World.cell?, q0]
    have k1 : w'.cell? ⟨w.heap.size, 1, none⟩ = some (.slice none 0 0) := by simp [World.cell?, q0]
    have k2 : w'.cell? ⟨w.heap.size, 2, none⟩ = some (.int .i64 0) := by simp [World.cell?, q0]
    have k3 : w'.cell? ⟨w.heap.size, 3, none⟩ = some (.slice none 0 0) := by simp [World.cell?, q0]
    have k4 : w'.cell? ⟨w.heap.size + 1, 0, none⟩ = some (.int .i64 10) := by simp [World.cell?, q1]
    simp [results, Tryz.results11, go_sem, k0, k1, k2, k3, k4]
  · refine Below.trans ?_ qB
    exact (((Below.refl _ w).alloc (Nat.le_refl _) _).alloc (by omega) _).alloc (by omega) _
theorem awake6 (w : World) : Calls Tryz.prog 4 #[] w fun e w' => e = .returned (.bool true) ∧ Below w.heap.size w w' := by
  go_enter Tryz.func4, Tryz.ntmps4
  go_wp2_with (go_at_call 11; refine (read_x _).mono ?_; rintro e w' ⟨rfl, qB⟩)
  simp [bodyPost, results, Tryz.results4, go_sem]
  exact qB.trans ((Below.refl _ _).alloc qB.size _)
theorem own_nil {w w' : World} (hb : Below w.heap.size w w') : Go.Fp.Own (w : Go.Fp.Base) [] w' :=
  ⟨Nat.le_refl _, hb, Go.Fp.below_keeps hb, by simp, fun g' o' hm => by simp at hm, fun g' o' hm => by simp at hm, fun g' o' hm => absurd hm (by simp)⟩
/-- fishkeep2.awakeFare. -/
theorem awake_of {b : Go.Fp.Base} {R : Go.Fp.Hp} : Go.Fp.CallsG Tryz.prog 4 [] b R (fun v b' hp' => .bool true = v ∧ R = hp') := fun w ho =>
  (awake6 w).mono fun e W' ⟨he, hB⟩ => ⟨_, b, R, he, Go.Fp.Base.Le.refl _, ho.grow (own_nil hB), rfl, rfl⟩

#print axioms awake_of
end Go.Proofs.YtglmhaihgpnogaaGreatDoor
