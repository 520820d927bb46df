/- strings.Builder: what its block stands for, and the builtin append of a string onto its buffer. -/
import Derived.Test.YtckgfeglhjiflaaDoorXG
import Derived.Lib.Builder
import Derived.Lib.AppendStr
import Derived.Lib.UnsafeStr
set_option linter.unusedVariables false
set_option linter.unusedSimpArgs false
namespace Go.Fp
open Go.RowKit
def Buf (el : TypeId) (v : Value) (s : ByteArray) (hb : Hp) : Prop :=
  (v = .slice none 0 0 ∧ s.size = 0 ∧ hb = []) ∨
  (∃ g cap tl, v = .slice (some ⟨g, 0, none⟩) s.size cap ∧ hb = [(g, Cl el (Lib.strCells s ++ tl))] ∧ (Lib.strCells s ++ tl).length = cap ∧ s.size ≤ cap ∧ cap ≤ maxLen ∧ 0 < cap)
/-- A builder at block 'g' that holds 's'. -/
def OB (T el : TypeId) (_w : World) (g : Nat) (s : ByteArray) (hs : Hp) : Prop :=
  ∃ p v hb, hs = (g, Cl T [p, v]) :: hb ∧ (p = .pointer none ∨ p = .pointer (some ⟨g, 0, none⟩)) ∧ Buf el v s hb
theorem OB.le {T el : TypeId} {b b' : Base} {g : Nat} {s : ByteArray} {hs : Hp} (h : OB T el b.w g s hs) (_ : b.Le b') : OB T el b'.w g s hs := h
theorem OB.fresh {T el : TypeId} {w : World} (g : Nat) : OB T el w g ByteArray.empty [(g, Cl T [.pointer none, .slice none 0 0])] := ⟨_, _, [], rfl, .inl rfl, .inl ⟨rfl, rfl, rfl⟩⟩
theorem strCells_append (s t : ByteArray) : Lib.strCells (s ++ t) = Lib.strCells s ++ Lib.strCells t := by
  simp [Lib.strCells, ByteArray.data_append]
section
variable {P : Program} {b : Base} {R : Hp} {w : World} {t u ty el : TypeId} {inf : TypeInfo}
theorem run_append_buf (ht : P.underlying t = some (.slice el)) (hu : P.underlying u = some .string) (hi : P.info? el = some inf) (hz : inf.zero = some (.int .u8 0)) (h1 : inf.size = 1) (h2 : inf.bytes = 1)
    {v : Value} {s0 : ByteArray} {hb : Hp} (hbuf : Buf el v s0 hb) (ho : Own b (hb ++ R) w) (s : ByteArray) (hroom : s0.size + s.size ≤ 140737488355328) :
    ∃ v' w' hb', (Builtin.append_ #[t, u] ty #[v, .string s]).run P w = .ok v' w' ∧ Own b (hb' ++ R) w' ∧ Buf el v' (s0 ++ s) hb' := by
  have hsz : (s0 ++ s).size = s0.size + s.size := ByteArray.size_append
  have hcap : ∀ need old, need ≤ 9223372036854775807 → grownCap w need old el ≤ maxLen := fun need old h => grownCap_le_maxLen w need old el (by simpa [maxLen] using h)
  have hml : maxLen = 9223372036854775807 := by decide
  have fin : ∀ (old : Nat), 0 < s0.size + s.size →
      ∃ hb', Own b (hb' ++ R) (w.drew.alloc (.cells ((Lib.strCells s0).toArray ++ (Lib.strCells s).toArray ++ Builtin.zeroCells (Value.int .u8 0).cells (grownCap w (s0.size + s.size) old el - (s0.size + s.size))) el)) ∧
        Buf el (.slice (some ⟨w.heap.size, 0, none⟩) (s0.size + s.size) (grownCap w (s0.size + s.size) old el)) (s0 ++ s) hb' := fun old hp => by
    have hge := grownCap_ge w (s0.size + s.size) old el
    have ho1 := (ho.sub (List.sublist_append_right hb R)).drew.alloc (Cl el (Lib.strCells (s0 ++ s) ++ (Builtin.zeroCells (Value.int .u8 0).cells (grownCap w (s0.size + s.size) old el - (s0.size + s.size))).toList))
    refine ⟨[(w.heap.size, Cl el (Lib.strCells (s0 ++ s) ++ (Builtin.zeroCells (Value.int .u8 0).cells (grownCap w (s0.size + s.size) old el - (s0.size + s.size))).toList))], ?_, .inr ⟨w.heap.size, _, _, by rw [hsz], rfl, ?_, by rw [hsz]; exact hge, hcap _ _ (by omega), by omega⟩⟩
    · have harr : (Lib.strCells (s0 ++ s) ++ (Builtin.zeroCells (Value.int .u8 0).cells (grownCap w (s0.size + s.size) old el - (s0.size + s.size))).toList).toArray = (Lib.strCells s0).toArray ++ (Lib.strCells s).toArray ++ Builtin.zeroCells (Value.int .u8 0).cells (grownCap w (s0.size + s.size) old el - (s0.size + s.size)) := by
        rw [strCells_append]
        simp
      simp only [Cl, harr] at ho1 ⊢
      exact ho1
    · rw [List.length_append, zeroCells_length, Lib.strCells_length, hsz, show (Value.int IntKind.u8 0).cells.size = 1 from rfl]
      omega
  rcases Nat.eq_zero_or_pos s.size with hk | hk
  · have hn : Lib.strCells s = [] := List.eq_nil_of_length_eq_zero (by rw [Lib.strCells_length, hk])
    have hf : ∀ w : World, (Builtin.firstCells 1 s.size (.string s)).run P w = .ok #[] w := fun w => by
      rw [Lib.run_firstCells_string, hn]
    have hc : Lib.strCells (s0 ++ s) = Lib.strCells s0 := by rw [strCells_append, hn, List.append_nil]
    rcases hbuf with ⟨rfl, h0, rfl⟩ | ⟨g, cap, tl, rfl, rfl, a1, a2, a3, a4⟩
    · refine ⟨.slice none 0 0, w, [], ?_, ho, .inl ⟨rfl, by omega, rfl⟩⟩
      rw [hk] at hf
      simp [Builtin.append_, run_underlying ht, run_underlying hu, sizeOf, typeInfo, hi, h1, Builtin.lenOf, hf, storeCells, hk]
    · refine ⟨.slice (some ⟨g, 0, none⟩) s0.size cap, w, [(g, Cl el (Lib.strCells s0 ++ tl))], ?_, ho, .inr ⟨g, cap, tl, by rw [hsz, hk, Nat.add_zero], by rw [hc], by rw [hc]; exact a1, by omega, a3, a4⟩⟩
      rw [hk] at hf
      simp [Builtin.append_, run_underlying ht, run_underlying hu, sizeOf, typeInfo, hi, h1, Builtin.lenOf, hf, storeCells, hk, a2]
  · rcases hbuf with ⟨rfl, h0, rfl⟩ | ⟨g, cap, tl, rfl, rfl, a1, a2, a3, a4⟩
    · have hr := run_append_nil_string (P := P) w t u ty el inf (.int .u8 0) ht hu hi hz s hk (by omega) (by rw [h2]; omega)
      obtain ⟨hb', f1, f2⟩ := fin 0 (by omega)
      have hn : Lib.strCells s0 = [] := List.eq_nil_of_length_eq_zero (by rw [Lib.strCells_length, h0])
      rw [h0, Nat.zero_add] at f1 f2
      refine ⟨_, _, hb', hr, ?_, f2⟩
      have e : (Lib.strCells s0).toArray ++ (Lib.strCells s).toArray = s.data.map (fun b => Value.int .u8 b.toNat) := by
        rw [hn]
        apply Array.ext'
        simp [Lib.strCells]
      rw [e] at f1
      exact f1
    · have hgm : ((g, Cl el (Lib.strCells s0 ++ tl)) : Nat × Obj) ∈ [(g, Cl el (Lib.strCells s0 ++ tl))] ++ R := by simp
      have hblk := (ho.blk g _ hgm).2
      have hl0 := Lib.strCells_length s0
      by_cases hr : s0.size + s.size ≤ cap
      · have hrun := Lib.run_append_room_string (P := P) w t u ty el inf ht hu hi h1 g s0.size cap (Lib.strCells s0 ++ tl).toArray hblk s hr (by rw [List.size_toArray, a1]; exact hr)
        have e1 : (Lib.strCells s0 ++ tl).take s0.size = Lib.strCells s0 := by rw [← hl0]; exact List.take_left
        have e2 : (Lib.strCells s0 ++ tl).drop (s0.size + s.size) = tl.drop s.size := by rw [← hl0, ← List.drop_drop, List.drop_left]
        simp only [e1, e2] at hrun
        have ho2 := ho.row (i := 0) (g := g) (t := el) (cs := Lib.strCells s0 ++ tl) rfl (Lib.strCells s0 ++ Lib.strCells s ++ tl.drop s.size)
        refine ⟨_, _, [(g, Cl el (Lib.strCells (s0 ++ s) ++ tl.drop s.size))], hrun, by rw [strCells_append]; simpa using ho2, .inr ⟨g, cap, tl.drop s.size, by rw [hsz], rfl, ?_, by rw [hsz]; exact hr, a3, a4⟩⟩
        rw [List.length_append, Lib.strCells_length, hsz, List.length_drop]
        rw [List.length_append, hl0] at a1
        omega
      · have holds : ∀ j u, (Lib.strCells s0)[j]? = some u → w.cell? ((⟨g, 0, none⟩ : Addr).add j) = some u := fun j u hu => by
          have hj := (List.getElem?_eq_some_iff.1 hu).1
          simp only [Addr.add_lit, World.cell?, hblk]
          simp only [Option.isSome_none, Bool.false_eq_true, if_false, List.getElem?_toArray]
          rw [Nat.zero_add, List.getElem?_append_left hj]
          exact hu
        have hrun := Lib.run_append_grow_string (P := P) w t u ty el inf (.int .u8 0) ht hu hi hz ⟨g, 0, none⟩ s0.size cap (Lib.strCells s0) (by rw [hl0, h1, Nat.mul_one]) holds s (by omega) (by omega) (growslice_fits (by omega) (by rw [h2]; omega))
        obtain ⟨hb', f1, f2⟩ := fin cap (by omega)
        exact ⟨_, _, hb', hrun, by simpa using f1, f2⟩
/-- A block of the call's own is let go, whatever becomes of it. -/
theorem Own.letgo {g : Nat} {o : Obj} {hp : Hp} {w' : World} (ho : Own b ((g, o) :: hp) w) (hb : Below b.B b.w w') (hh : ∀ k, k ≠ g → k < w.heap.size → w'.heap[k]? = w.heap[k]?) : Own b hp w' := by
  have hB := (ho.blk g o (by simp)).1
  have hnd := ho.nd
  rw [List.map_cons, List.nodup_cons] at hnd
  refine ⟨ho.lo, hb, Keeps.of_obj fun k a t fr h0 hk => ?_, hnd.2, fun k o' hm => ?_, fun k o' hm => ho.hole k o' (List.mem_cons_of_mem _ hm), fun k o' hm => ?_⟩
  · have h1 := ho.keeps.obj k a t fr h0 hk
    have h2 : k ≠ g := fun e => by
      have := ho.hole g o (by simp) ⟨k, 0, none⟩ e
      rw [cell_of_obj h0 hk] at this
      cases this
    exact (hh k h2 (Array.getElem?_eq_some_iff.1 h1).1).trans h1
  · have h1 := ho.blk k o' (List.mem_cons_of_mem _ hm)
    have hne : k ≠ g := fun e => hnd.1 (List.mem_map.2 ⟨(k, o'), hm, e⟩)
    refine ⟨h1.1, ?_⟩
    rw [hh k hne (ho.lt (List.mem_cons_of_mem _ hm))]
    exact h1.2
  · obtain ⟨d1, d2, d3, d4⟩ := ho.dks k o' hm
    have hne : k ≠ g := fun e => d4 o (by rw [e]; simp)
    have hlt : k < w.heap.size := (Array.getElem?_eq_some_iff.1 d2).1
    refine ⟨d1, ?_, d3, fun o'' hm' => d4 o'' (List.mem_cons_of_mem _ hm')⟩
    rw [hh k hne hlt]
    exact d2
end
section
variable {P : Program} {n : NT} {b : Base} {hp : Hp} {e : Env} {ty : TypeId}
/-- A new builder. -/
theorem u_balloc (el : TypeId) (F R : Hp) (hhp : hp = F ++ R) {T : TypeId} {z : Value} (hz : (P.info? T).bind (·.zero) = some z) (hc : z.cells = [.pointer none, .slice none 0 0].toArray) :
    Does P n b (.alloc T) ty e hp (fun v hp' => ∃ g hs, v = .pointer (some ⟨g, 0, none⟩) ∧ hp' = F ++ (hs ++ R) ∧ OB T el b.w g ByteArray.empty hs) := does_of fun a w hf ho => by
  refine ⟨.pointer (some ⟨w.heap.size, 0, none⟩), w.alloc (Cl T [.pointer none, .slice none 0 0]), F ++ ([(w.heap.size, Cl T [.pointer none, .slice none 0 0])] ++ R), fun d pos af g => ?_, ?_, w.heap.size, [(w.heap.size, Cl T [.pointer none, .slice none 0 0])], rfl, rfl, OB.fresh _⟩
  · cases hi : P.info? T with
    | none => simp [hi] at hz
    | some i =>
      have hz' : i.zero = some z := by simpa [hi] using hz
      simp [execOp, Instr.alloc, zeroValue, typeInfo, hi, hz', newVar, newRow, hc]
  · have := ho.alloc (Cl T [.pointer none, .slice none 0 0])
    rw [hhp] at this
    exact this.perm (by simp only [List.cons_append, List.nil_append]; exact (List.perm_middle (l₁ := F) (l₂ := R)))
end
/-- What a builder holds then, where there is room. -/
def bWrite (s t : ByteArray) : Option (Int × ByteArray) := if s.size + t.size ≤ 140737488355328 then some ((t.size : Int), s ++ t) else none
theorem bWrite_some {s t r : ByteArray} {x : Int} (h : bWrite s t = some (x, r)) : s.size + t.size ≤ 140737488355328 ∧ x = t.size ∧ r = s ++ t := by
  unfold bWrite at h
  split at h
  · have := Option.some.inj h
    exact ⟨‹_›, (Prod.mk.inj this).1.symm, (Prod.mk.inj this).2.symm⟩
  · cases h
end Go.Fp
