/- strings.Builder: contracts of WriteString and String. -/
import Derived.Test.YtckgfeglhjiflaaDoorXS
import Derived.Test.YtckgfeglhjiflaaDoorProg
import Derived.Tactics
import Derived.Tactics2
import Derived.Laws.Pointers
import Derived.Below
import Derived.KernelRfl
import Derived.Shelf.RegionOpenPlain
set_option linter.unusedVariables false
set_option linter.unusedSimpArgs false
namespace Go.Proofs.YtckgfeglhjiflaaDoor
open Go.RowKit Go.Fp
theorem bmixed : Tryd.prog.follows .mixedOrders = true := by kernel_rfl
theorem bsize : (Tryd.prog.info? 179).map (·.size) = some 2 := by kernel_rfl
theorem blies : liesAt Tryd.prog Tryd.prog.depth 179 (2 / Tryd.prog.cellsOf 179) 0 179 1 = true := by kernel_rfl
theorem bptr : Tryd.prog.underlying 176 = some (.pointer 179) := by kernel_rfl
theorem buns : Tryd.prog.underlying 211 = some .unsafePointer := by kernel_rfl
theorem bbyte : (Tryd.prog.info? 5).map (fun i => (i.zero, i.size, i.bytes)) = some (some (.int .u8 0), 1, 1) := by kernel_rfl
theorem bsl : Tryd.prog.underlying 177 = some (.slice 5) := by kernel_rfl
theorem bstr : Tryd.prog.underlying 9 = some .string := by kernel_rfl
theorem bpb : Tryd.prog.underlying 202 = some (.pointer 5) := by kernel_rfl
theorem bcell : Tryd.prog.cellsOf 5 = 1 := by kernel_rfl
set_option maxHeartbeats 2000000 in
set_option maxRecDepth 100000 in
theorem copy_used (b : Nat) (w : World) (h0 : w.cell? ⟨b, 0, none⟩ = some (.pointer (some ⟨b, 0, none⟩))) :
    Calls Tryd.prog 117 #[.pointer (some ⟨b, 0, none⟩)] w fun e w' => e = .returned (.tuple #[]) ∧ w' = w := by
  obtain ⟨j, hj, _⟩ := Option.map_eq_some_iff.1 bsize
  go_enter Tryd.func117, Tryd.ntmps117
  go_wp2
  rw [Lib.run_neq_ptr_same w _ bptr hj]
  go_wp2
  simp [bodyPost, results, Tryd.results117, go_sem]
set_option maxHeartbeats 2000000 in
set_option maxRecDepth 100000 in
theorem copy_fresh (b : Nat) (w : World) (h0 : w.cell? ⟨b, 0, none⟩ = some (.pointer none)) (hsh : w.shape? b = some (179, 2)) (hfz : w.frozen? ⟨b, 0, none⟩ = false) :
    Calls Tryd.prog 117 #[.pointer (some ⟨b, 0, none⟩)] w fun e w' => e = .returned (.tuple #[]) ∧ w' = w.setCell ⟨b, 0, none⟩ (.pointer (some ⟨b, 0, none⟩)) := by
  obtain ⟨j, hj, hjs⟩ := Option.map_eq_some_iff.1 bsize
  go_enter Tryd.func117, Tryd.ntmps117
  go_wp2
  rw [Lib.run_to_unsafe w ⟨b, 0, none⟩ bptr buns hj (by rw [hjs]; decide) hsh (Nat.zero_lt_succ 1)]
  simp only [Result.andThen]
  rw [Oper.upon_value]
  go_wp2
  rw [run_callFunc_extern Tryd.func127 (by kernel_rfl) (by kernel_rfl) (by kernel_rfl) (e := Extern.AbiNoEscape.same) (by kernel_rfl)]
  rw [Lib.run_noEscape]
  simp only [Result.andThen]
  rw [Oper.upon_value]
  go_wp2
  rw [Lib.run_from_unsafe w ⟨b, 0, none⟩ buns bptr hj hsh blies]
  simp only [Result.andThen]
  rw [Oper.upon_value]
  go_wp2
  simp [bodyPost, results, Tryd.results117, go_sem]
theorem wpList_append_run {P : Program} {w w' : World} {ops : Array Oper} {rest : List Oper} {o : Oper} {a : Act} {Q : Exit → Act → World → Prop} (hgd : o.guard = none) (sl x : Operand) (t u : TypeId) (ho : o.op = .call { callee := .builtin .append, args := #[sl, x], argTypes := #[t, u] })
    {v v' : Value} {s : ByteArray} (hs : a.eval sl = v) (hx : a.eval x = .string s) (hrun : (Builtin.append_ #[t, u] o.type #[v, .string s]).run P w = .ok v' w') (h : wpList P ops Q rest (a.put o.dst v') w') : wpList P ops Q (o :: rest) a w := by
  refine wpList_plain hgd fun K hK => ?_
  unfold Oper.wp execOp
  simp only [ho, resolve, invoke, builtin, Sem.run_bind, Sem.run_pure, Result.andThen_ok, List.map_toArray, List.map_cons, List.map_nil, hs, hx, hrun]
  exact hK _ _ h
set_option maxHeartbeats 4000000 in
set_option maxRecDepth 100000 in
theorem bwrite {b : Base} {R : Hp} {g : Nat} {s0 s : ByteArray} {hs : Hp} (h : OB 179 5 b.w g s0 hs) (hroom : s0.size + s.size ≤ 140737488355328) :
    CallsG Tryd.prog 101 [.pointer (some ⟨g, 0, none⟩), .string s] b (hs ++ R) (fun v b' hp' => .tuple #[.int .i64 (s.size : Int), .nilIface] = v ∧ ∃ hs', hs' ++ R = hp' ∧ OB 179 5 b'.w g (s0 ++ s) hs') := fun w ho => by
  obtain ⟨p, v, hb, rfl, hp, hbuf⟩ := h
  have ho : Own b ((g, Cl 179 [p, v]) :: (hb ++ R)) w := ho
  have hblk := (ho.blk g _ (List.mem_cons_self ..)).2
  obtain ⟨inf, hi, hz⟩ := Option.map_eq_some_iff.1 bbyte
  injection hz with hz0 hz12
  injection hz12 with hz1 hz2
  obtain ⟨w1, hcc, ho1⟩ : ∃ w1, Calls Tryd.prog 117 #[.pointer (some ⟨g, 0, none⟩)] w (fun e w' => e = .returned (.tuple #[]) ∧ w' = w1) ∧ Own b ((g, Cl 179 [.pointer (some ⟨g, 0, none⟩), v]) :: (hb ++ R)) w1 := by
    rcases hp with rfl | rfl
    · exact ⟨_, copy_fresh g w (ho.cell (i := 0) rfl 0) (by simp [World.shape?, hblk]) (ho.frozen (i := 0) rfl 0), ho.set (i := 0) rfl 0 _⟩
    · exact ⟨w, copy_used g w (ho.cell (i := 0) rfl 0), ho⟩
  have c1 : w1.cell? ⟨g, 1, none⟩ = some v := ho1.cell (i := 0) rfl 1
  obtain ⟨v', w2, hb', hrun, ho2, hbuf'⟩ := run_append_buf (P := Tryd.prog) (t := 177) (u := 9) (ty := 177) (R := (g, Cl 179 [.pointer (some ⟨g, 0, none⟩), v]) :: R) bsl bstr hi hz0 hz1 hz2 hbuf (ho1.perm List.perm_middle) s hroom
  obtain ⟨ao, n', cap', rfl⟩ : ∃ ao n' cap', v' = .slice ao n' cap' := by
    rcases hbuf' with ⟨h, _⟩ | ⟨_, _, _, h, _⟩ <;> exact ⟨_, _, _, h⟩
  have ho3 : Own b ((g, Cl 179 [.pointer (some ⟨g, 0, none⟩), v]) :: (hb' ++ R)) w2 := ho2.perm List.perm_middle.symm
  have d1 : w2.cell? ⟨g, 1, none⟩ = some v := ho3.cell (i := 0) rfl 1
  have f1 : w2.frozen? ⟨g, 1, none⟩ = false := ho3.frozen (i := 0) rfl 1
  have ho4 := ho3.set (i := 0) rfl 1 (.slice ao n' cap')
  go_enter Tryd.func101, Tryd.ntmps101
  go_wp2_with (go_at_call 117; refine hcc.mono ?_)
  rintro e w' ⟨rfl, rfl⟩
  go_wp2_with (at_builtin; refine wpList_append_run rfl _ _ 177 9 rfl rfl rfl hrun ?_)
  go_wp2
  simp [bodyPost, results, Tryd.results101, go_sem]
  exact ⟨_, b, _, rfl, Base.Le.refl _, ho4, rfl, (g, Cl 179 [.pointer (some ⟨g, 0, none⟩), .slice ao n' cap']) :: hb', rfl, _, _, hb', rfl, .inr rfl, hbuf'⟩
theorem str_of (s : ByteArray) : (⟨s.data.toList.toArray⟩ : ByteArray) = s := by
  cases s
  simp
set_option maxHeartbeats 4000000 in
set_option maxRecDepth 100000 in
theorem bstring {b : Base} {R : Hp} {g : Nat} {s0 : ByteArray} {hs : Hp} (h : OB 179 5 b.w g s0 hs) :
    CallsG Tryd.prog 103 [.pointer (some ⟨g, 0, none⟩)] b (hs ++ R) (fun v b' hp' => .string s0 = v ∧ R = hp') := fun w ho => by
  obtain ⟨p, v, hb, rfl, hp, hbuf⟩ := h
  have ho : Own b ((g, Cl 179 [p, v]) :: (hb ++ R)) w := ho
  have hblk := (ho.blk g _ (List.mem_cons_self ..)).2
  have mixed := bmixed
  have c1 : w.drew.cell? ⟨g, 1, none⟩ = some v := ho.drew.cell (i := 0) rfl 1
  have hend : ∀ (W : World), Own b R W → PostG b (fun v b' hp' => Value.string s0 = v ∧ R = hp') (.returned (.string s0)) W := fun W hW => ⟨_, b, R, rfl, Base.Le.refl _, hW, rfl, rfl⟩
  rcases hbuf with ⟨rfl, h0, rfl⟩ | ⟨g', cap, tl, rfl, rfl, a1, a2, a3, a4⟩
  · have hs0 : s0 = ByteArray.empty := by
      cases s0 with
      | mk d => simp only [ByteArray.size] at h0; rw [ByteArray.empty]; congr 1; exact Array.eq_empty_of_size_eq_zero h0
    subst hs0
    have hSD : (Builtin.unsafeSliceData_ #[177] 202 #[.slice none 0 0]).run Tryd.prog w.drew = .ok (.pointer none) w.drew := rfl
    have hUS := Lib.run_unsafeString_none (P := Tryd.prog) w.drew 202 3 9 none
    have hR : Own b R w.drew := (ho.sub (List.sublist_cons_self _ _)).drew
    go_enter Tryd.func103, Tryd.ntmps103
    go_wp2
    go_region_o
    all_goals (go_wp2; simp [bodyPost, results, Tryd.results103, go_sem]; exact hend _ hR)
  · have hb2 : w.heap[g']? = some (Cl 5 (Lib.strCells s0 ++ tl)) := (ho.blk g' _ (by simp)).2
    have hSD : (Builtin.unsafeSliceData_ #[177] 202 #[.slice (some ⟨g', 0, none⟩) s0.size cap]).run Tryd.prog w.drew = .ok (.pointer (some ⟨g', 0, none⟩)) w.drew := Lib.run_unsafeSliceData_row _ _ _ _ _ _ (by omega)
    by_cases h0 : s0.size = 0
    · have hs0 : s0 = ByteArray.empty := by
        cases s0 with
        | mk d => simp only [ByteArray.size] at h0; rw [ByteArray.empty]; congr 1; exact Array.eq_empty_of_size_eq_zero h0
      rw [h0] at hSD c1
      have hUS := Lib.run_unsafeString_none (P := Tryd.prog) w.drew 202 3 9 (some ⟨g', 0, none⟩)
      have hR : Own b R w.drew := ((ho.sub (List.sublist_cons_self _ _)).sub (List.sublist_cons_self _ _)).drew
      clear h0
      subst hs0
      go_enter Tryd.func103, Tryd.ntmps103
      go_wp2
      go_region_o
      all_goals (go_wp2; simp [bodyPost, results, Tryd.results103, go_sem]; exact hend _ hR)
    · have hl : s0.data.toList.length = s0.size := Array.length_toList
      have hUS := Lib.run_unsafeString_row (P := Tryd.prog) w.drew 202 3 9 5 bpb bcell g' cap (by have hg' : w.drew.heap[g']? = some (Cl 5 (Lib.strCells s0 ++ tl)) := hb2; simp only [World.shape?, hg', List.size_toArray, a1]) s0.data.toList (fun e => h0 (by rw [← hl, e]; rfl)) (by rw [hl]; exact a2) (by rw [hl]; unfold maxLen at a3; omega) (fun j x hx => by
        have hj : (Lib.strCells s0)[j]? = some (.int .u8 x.toNat) := by rw [Lib.strCells, List.getElem?_map, hx]; rfl
        have hb3 : w.drew.heap[g']? = some (Cl 5 (Lib.strCells s0 ++ tl)) := hb2
        simp only [Addr.add_lit, World.cell?, hb3]
        simp only [Option.isSome_none, Bool.false_eq_true, if_false, List.getElem?_toArray]
        rw [Nat.zero_add, List.getElem?_append_left (List.getElem?_eq_some_iff.1 hj).1]
        exact hj)
      rw [hl, str_of] at hUS
      have hR : Own b R (w.drew.freeze ⟨g', 0, none⟩ s0.size) := by
        have h1 : Own b ((g', Cl 5 (Lib.strCells s0 ++ tl)) :: R) w.drew := (ho.sub (List.sublist_cons_self _ _)).drew
        exact h1.letgo (Lib.below_freeze h1.below ((h1.blk g' _ (List.mem_cons_self ..)).1) _) (fun k hk _ => by
          unfold World.freeze
          rw [if_neg h0, Array.getElem?_modify, if_neg (fun e => hk e.symm)])
      go_enter Tryd.func103, Tryd.ntmps103
      go_wp2
      go_region_o
      all_goals (go_wp2; simp [bodyPost, results, Tryd.results103, go_sem]; exact hend _ hR)
theorem bwrite_c {b : Base} {R : Hp} {g : Nat} {s0 s r : ByteArray} {x : Int} {hs : Hp} (h : OB 179 5 b.w g s0 hs) (hm : bWrite s0 s = some (x, r)) :
    CallsG Tryd.prog 101 [.pointer (some ⟨g, 0, none⟩), .string s] b (hs ++ R) (fun v b' hp' => ∃ hs', .tuple #[.int .i64 x, .nilIface] = v ∧ hs' ++ R = hp' ∧ OB 179 5 b'.w g r hs') := by
  obtain ⟨hr, rfl, rfl⟩ := bWrite_some hm
  intro w ho
  refine (bwrite h hr w ho).mono ?_
  rintro e w' ⟨v, b', hp', h1, h2, h3, h4, hs', h5, h6⟩
  exact ⟨v, b', hp', h1, h2, h3, hs', h4, h5, h6⟩
theorem bstring_c {b : Base} {R : Hp} {g : Nat} {s0 s : ByteArray} {hs : Hp} (h : OB 179 5 b.w g s0 hs) (hm : some s0 = some s) :
    CallsG Tryd.prog 103 [.pointer (some ⟨g, 0, none⟩)] b (hs ++ R) (fun v b' hp' => .string s = v ∧ R = hp') := by
  obtain rfl := Option.some.inj hm
  exact bstring h
end Go.Proofs.YtckgfeglhjiflaaDoor
