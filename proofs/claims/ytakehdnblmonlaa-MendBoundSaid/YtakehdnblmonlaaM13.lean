/- The contracts of Equal, awakeMend, graphs. -/
import Derived.Test.YtakehdnblmonlaaM12
namespace Go.Proofs.Ytakehdnblmonlaa
open Go.RowKit Go.Fp

theorem equalI_c (A B : Option Addr) (c d : Nat) (l m : List Int) (w : World) (hA : Rd w A (rows encI l)) (hB : Rd w B (rows encI m)) (hl : l.length ≤ 9223372036854775807) :
    CallsH Try.prog 22 [.slice A l.length c, .slice B m.length d] w [] (fun v hp' => v = .bool (decide (l = m)) ∧ hp' = []) := by
  refine fn_enter 26 Try.func22 rfl Try.ntmps22 rfl ?_
  refine c_seq ?_
  refine c_region ?_
  refine t_st rfl (st_assign rfl) ?_
  refine t_nil ?_
  refine x_then_normal ?_
  refine c_seq ?_
  refine c_seq ?_
  refine c_region ?_
  refine t_st rfl (st_move rfl) ?_
  refine t_st rfl (st_len rfl sl22) ?_
  refine t_st rfl (st_move rfl) ?_
  refine t_st rfl (st_len rfl sl22) ?_
  refine t_bool rfl (st_neq rfl rfl) (fun hc1 => ?_) (fun hc1 => ?_)
  ·
    refine t_nil ?_
    refine x_then_normal ?_
    refine c_cond_t rfl ?_
    refine c_seq ?_
    refine c_region ?_
    refine t_st rfl (st_assign rfl) ?_
    refine t_nil ?_
    refine x_then_normal ?_
    refine c_ret ?_
    refine x_then_ret ?_
    refine x_drop (hp' := []) (by repeat (first | exact List.Sublist.refl _ | exact List.nil_sublist _ | exact List.sublist_append_left _ _ | exact List.sublist_append_right _ _ | exact (List.sublist_append_right _ _).trans (List.sublist_append_right _ _) | apply List.Sublist.cons_cons | apply List.Sublist.cons)) ?_
    exact ret1 (Base.Le.refl _) rfl rfl ⟨congrArg Value.bool (decide_eq_false (fun h => by subst h; omega)).symm, rfl⟩
  ·
    refine t_nil ?_
    refine x_then_normal ?_
    refine c_cond_f rfl ?_
    refine c_skip ?_
    refine x_then_normal ?_
    refine c_seq ?_
    refine c_seq ?_
    refine c_region ?_
    refine t_st rfl (st_move rfl) ?_
    refine t_st rfl (st_len rfl sl22) ?_
    refine t_st rfl (st_move rfl) ?_
    refine t_nil ?_
    refine x_then_normal ?_
    refine c_block ?_
    refine l_loop [(0, _), (1, _), (12, _)] _ (fun (k : Nat) => [(13, .int .i64 (k : Int))]) (fun (k : Nat) => []) (fun (k : Nat) => k ≤ l.length ∧ l.take k = m.take k) (fun (k : Nat) => l.length - k) (0) ⟨rfl, trivial⟩ ⟨rfl, rfl, rfl, trivial⟩ rfl ⟨by omega, rfl⟩ ?_
    intro k hinv
    obtain ⟨hk, hT⟩ := hinv
    refine c_seq ?_
    refine c_region ?_
    refine t_bool rfl (st_lss rfl rfl) (fun hc2 => ?_) (fun hc2 => ?_)
    ·
      refine t_nil ?_
      refine x_then_normal ?_
      refine c_seq ?_
      refine c_cond_t rfl ?_
      refine c_skip ?_
      refine x_then_normal ?_
      refine c_seq ?_
      refine c_block ?_
      refine c_seq ?_
      refine c_region ?_
      refine t_st rfl (st_move rfl) ?_
      refine t_st rfl (st_assign rfl) ?_
      refine t_nil ?_
      refine x_then_normal ?_
      refine c_seq ?_
      refine c_draw mixed ?_
      obtain ⟨x, hx⟩ := ex_get (l := l) (k := k) (by omega)
      obtain ⟨y, hy⟩ := ex_get (l := m) (k := k) (by omega)
      refine d_st 0 rfl (by kernel_rfl) (by kernel_rfl) (by kernel_rfl) rfl (st_move rfl) (List.Sublist.refl _) ?_
      refine d_st 1 rfl (by kernel_rfl) (by kernel_rfl) (by kernel_rfl) rfl (st_move rfl) (List.Sublist.refl _) ?_
      refine d_st 2 rfl (by kernel_rfl) (by kernel_rfl) (by kernel_rfl) rfl (st_index_old k rfl rfl rfl (by omega) (Rd.isSome encI_len (by decide) hA hx) sl22) (List.Sublist.refl _) ?_
      refine d_st 3 rfl (by kernel_rfl) (by kernel_rfl) (by kernel_rfl) rfl (st_load_old rfl one3 (Rd.row encI_len hA hx (j := 0) rfl)) (List.Sublist.refl _) ?_
      refine d_st 4 rfl (by kernel_rfl) (by kernel_rfl) (by kernel_rfl) rfl (st_move rfl) (List.Sublist.refl _) ?_
      refine d_st 5 rfl (by kernel_rfl) (by kernel_rfl) (by kernel_rfl) rfl (st_move rfl) (List.Sublist.refl _) ?_
      refine d_st 6 rfl (by kernel_rfl) (by kernel_rfl) (by kernel_rfl) rfl (st_index_old k rfl rfl rfl (by have := lt_of_get hy; omega) (Rd.isSome encI_len (by decide) hB hy) sl22) (List.Sublist.refl _) ?_
      refine d_st 7 rfl (by kernel_rfl) (by kernel_rfl) (by kernel_rfl) rfl (st_load_old rfl one3 (Rd.row encI_len hB hy (j := 0) rfl)) (List.Sublist.refl _) ?_
      refine d_bool 8 rfl (by kernel_rfl) (by kernel_rfl) (by kernel_rfl) rfl (st_neq rfl rfl) (List.Sublist.refl _) (fun hc3 => ?_) (fun hc3 => ?_)
      ·
        refine d_done (by kernel_rfl) ?_
        refine x_then_normal ?_
        refine c_cond_t rfl ?_
        refine c_seq ?_
        refine c_region ?_
        refine t_st rfl (st_assign rfl) ?_
        refine t_nil ?_
        refine x_then_normal ?_
        refine c_ret ?_
        refine x_block_ret ?_
        refine x_then_ret ?_
        refine x_then_ret ?_
        refine x_block_ret ?_
        refine x_then_ret ?_
        refine x_drop (hp' := []) (by repeat (first | exact List.Sublist.refl _ | exact List.nil_sublist _ | exact List.sublist_append_left _ _ | exact List.sublist_append_right _ _ | exact (List.sublist_append_right _ _).trans (List.sublist_append_right _ _) | apply List.Sublist.cons_cons | apply List.Sublist.cons)) ?_
        exact ret1 (Base.Le.refl _) rfl rfl ⟨congrArg Value.bool (decide_eq_false (fun h => by subst h; rw [hx] at hy; injection hy; omega)).symm, rfl⟩
      ·
        refine d_done (by kernel_rfl) ?_
        refine x_then_normal ?_
        refine c_cond_f rfl ?_
        refine c_skip ?_
        refine x_block_normal ?_
        refine x_then_normal ?_
        refine c_region ?_
        refine t_st rfl (st_add rfl rfl (by omega)) ?_
        refine t_st rfl (st_move rfl) ?_
        refine t_nil ?_
        exact x_again  (k + 1) (Base.Le.refl _) ⟨rfl, trivial⟩ ⟨rfl, rfl, rfl, trivial⟩ (by repeat (first | exact List.Sublist.refl _ | exact List.nil_sublist _ | exact List.sublist_append_left _ _ | exact List.sublist_append_right _ _ | exact (List.sublist_append_right _ _).trans (List.sublist_append_right _ _) | apply List.Sublist.cons_cons | apply List.Sublist.cons)) ⟨by omega, by rw [take_snoc hx, take_snoc hy, hT, show x = y by omega]⟩ (by omega)
    ·
      refine t_nil ?_
      refine x_then_normal ?_
      refine c_seq ?_
      refine c_cond_f rfl ?_
      refine c_exit ?_
      refine x_then_exit ?_
      refine x_then_exit ?_
      refine x_block_out ?_
      refine x_then_normal ?_
      refine c_seq ?_
      refine c_region ?_
      refine t_st rfl (st_assign rfl) ?_
      refine t_nil ?_
      refine x_then_normal ?_
      refine c_ret ?_
      refine x_drop (hp' := []) (by repeat (first | exact List.Sublist.refl _ | exact List.nil_sublist _ | exact List.sublist_append_left _ _ | exact List.sublist_append_right _ _ | exact (List.sublist_append_right _ _).trans (List.sublist_append_right _ _) | apply List.Sublist.cons_cons | apply List.Sublist.cons)) ?_
      exact ret1 (Base.Le.refl _) rfl rfl ⟨congrArg Value.bool (decide_eq_true (by rw [List.take_of_length_le (by omega), List.take_of_length_le (by omega)] at hT; exact hT)).symm, rfl⟩
def gZ : Gr := ⟨⟨none, 0, []⟩, ⟨none, 0, []⟩, ⟨none, 0, []⟩, ⟨none, 0, []⟩, ⟨none, 0, []⟩⟩
theorem gZ_ok (w : World) : GrOk w gZ := ⟨Rd.nil, Rd.nil, Rd.nil, Rd.nil, Rd.nil, fun _ h => absurd h (by simp [gZ]), fun _ h => absurd h (by simp [gZ]), by simp [gZ], by simp [gZ], by simp [gZ], fun _ h => absurd h (by simp [gZ]), fun _ h => absurd h (by simp [gZ])⟩
theorem gZ_no (hP : PickV gZ [-1]) : False := by have := hP.1; simp [gZ] at this
set_option maxRecDepth 10000 in
theorem awake_c (b : Base) (hp : Hp) : CallsB Try.prog 7 [] b hp (fun v _ => v = .bool true) := by
  refine fn_enterB 11 Try.func7 rfl Try.ntmps7 rfl ?_
  refine c_seq ?_
  refine c_region ?_
  refine t_st rfl (st_assign rfl) ?_
  refine t_nil ?_
  refine x_then_normal ?_
  refine c_seq ?_
  refine c_region ?_
  refine t_st rfl (st_build (v := gZ.val) [] rfl (fun _ => by kernel_rfl)) ?_
  refine t_do rfl (u_bslice (el := 3) [(0, .int .i64 (-1))] [.int .i64 (-1)] rfl (fun _ => by kernel_rfl)) ?_
  rintro _ _ ⟨g0, rfl, rfl⟩
  refine t_freeze [_] _ rfl ?_
  intro b1 hle1 hfz1
  have hz1 : Rd b1.w (some ⟨g0, 0, none⟩) (rows encI [-1]) := Rd.fz (hfz1 _ (List.mem_cons_self))
  refine t_callB _ rfl call10 rfl (Times_c _ _ gZ _ _ [-1] (gZ_ok _) hz1 (by decide)) ?_
  rintro _ b9 hle9 (⟨r9, hr9, _, rfl⟩ | ⟨_, hP9, _⟩ | ⟨_, _, _, hP9, _⟩)
  ·
    refine t_st rfl (st_move rfl) ?_
    refine t_st rfl (st_extract rfl rfl) ?_
    refine t_st rfl (st_extract rfl rfl) ?_
    refine t_st rfl (st_assign rfl) ?_
    refine t_st rfl (st_assign rfl) ?_
    refine t_nil ?_
    refine x_then_normal ?_
    refine c_seq ?_
    refine c_region ?_
    refine t_st rfl (st_move rfl) ?_
    refine t_st rfl (st_neq_t rfl rfl hr9) ?_
    refine t_st rfl (st_assign rfl) ?_
    refine t_nil ?_
    refine x_then_normal ?_
    refine c_ret ?_
    refine x_drop (hp' := hp) (by repeat (first | exact List.Sublist.refl _ | exact List.nil_sublist _ | exact List.sublist_append_left _ _ | exact List.sublist_append_right _ _ | exact (List.sublist_append_right _ _).trans (List.sublist_append_right _ _) | apply List.Sublist.cons_cons | apply List.Sublist.cons)) ?_
    exact retB1 (hle1.trans hle9) rfl rfl rfl
  ·
    exact (gZ_no hP9).elim
  ·
    exact (gZ_no hP9).elim
def gK (g1 g2 g3 g4 : Nat) : Gr := ⟨⟨some ⟨g1, 0, none⟩, 2, [3, 0]⟩, ⟨some ⟨g2, 0, none⟩, 2, [-1, -1]⟩, ⟨some ⟨g3, 0, none⟩, 2, [-1, -1]⟩, ⟨some ⟨g4, 0, none⟩, 1, [⟨0, 1, 4⟩]⟩, ⟨none, 0, []⟩⟩
theorem gK_ok {w : World} {g1 g2 g3 g4 : Nat} (h1 : w.heap[g1]? = some (Cl 3 [.int .i64 3, .int .i64 0])) (h2 : w.heap[g2]? = some (Cl 3 [.int .i64 (-1), .int .i64 (-1)])) (h3 : w.heap[g3]? = some (Cl 3 [.int .i64 (-1), .int .i64 (-1)])) (h4 : w.heap[g4]? = some (Cl 34 [.int .i64 0, .int .i64 1, .int .i64 4])) : GrOk w (gK g1 g2 g3 g4) :=
  ⟨Rd.fz h1, Rd.fz h2, Rd.fz h3, Rd.fz h4, Rd.nil, fun _ h => absurd h (by simp [gK]), fun _ h => absurd h (by simp [gK]), by simp [gK], by simp [gK], by simp [gK], fun _ h => absurd h (by simp [gK]), fun _ h => absurd h (by simp [gK])⟩
theorem gK_v (g1 g2 g3 g4 : Nat) : GraphV (gK g1 g2 g3 g4) ∧ PickV (gK g1 g2 g3 g4) [] := by
  refine ⟨⟨by simp [gK], by simp [gK], by simp [gK], by simp [gK], by simp [gK], by simp [gK], by simp [gK], by simp [gK], ?_, by simp [gK]⟩, rfl, fun k x c h => by simp at h⟩
  intro a ha
  simp [gK] at ha
  subst ha
  exact ⟨by decide, by simp [gK], by decide, by simp [gK], by decide, by decide, by decide⟩
theorem gK_t (g1 g2 g3 g4 : Nat) : (pickF (gK g1 g2 g3 g4) []).map (·.T) = some [3, 7] := by
  show (startF [3, 0] [-1, -1] [⟨0, 1, 4⟩]).map (·.T) = some [3, 7]
  kernel_rfl
set_option maxRecDepth 10000 in
theorem graphs_c (b : Base) (hp : Hp) : CallsB Try.prog 8 [] b hp (fun v _ => v = .bool true) := by
  refine fn_enterB 22 Try.func8 rfl Try.ntmps8 rfl ?_
  refine c_seq ?_
  refine c_region ?_
  refine t_st rfl (st_assign rfl) ?_
  refine t_nil ?_
  refine x_then_normal ?_
  refine c_seq ?_
  refine c_region ?_
  refine t_do rfl (u_bslice (el := 3) [(0, .int .i64 3), (1, .int .i64 0)] [.int .i64 3, .int .i64 0] rfl (fun _ => by kernel_rfl)) ?_
  rintro _ _ ⟨gk1, rfl, rfl⟩
  refine t_do rfl (u_bslice (el := 3) [(0, .int .i64 (-1)), (1, .int .i64 (-1))] [.int .i64 (-1), .int .i64 (-1)] rfl (fun _ => by kernel_rfl)) ?_
  rintro _ _ ⟨gk2, rfl, rfl⟩
  refine t_do rfl (u_bslice (el := 3) [(0, .int .i64 (-1)), (1, .int .i64 (-1))] [.int .i64 (-1), .int .i64 (-1)] rfl (fun _ => by kernel_rfl)) ?_
  rintro _ _ ⟨gk3, rfl, rfl⟩
  refine t_st rfl (st_build (v := .agg #[.int .i64 0, .int .i64 1, .int .i64 4]) [(0, .int .i64 0), (1, .int .i64 1), (2, .int .i64 4)] rfl (fun _ => by kernel_rfl)) ?_
  refine t_do rfl (u_bslice (el := 34) [(0, .agg #[.int .i64 0, .int .i64 1, .int .i64 4])] [.int .i64 0, .int .i64 1, .int .i64 4] rfl (fun _ => by kernel_rfl)) ?_
  rintro _ _ ⟨gk4, rfl, rfl⟩
  refine t_st rfl (st_build (v := (gK gk1 gk2 gk3 gk4).val) [(0, (gK gk1 gk2 gk3 gk4).ready.val), (1, (gK gk1 gk2 gk3 gk4).last.val), (2, (gK gk1 gk2 gk3 gk4).due.val), (3, (gK gk1 gk2 gk3 gk4).arcs.val)] rfl (fun _ => by kernel_rfl)) ?_
  refine t_do rfl (u_alloc [.slice none 0 0, .slice none 0 0, .slice none 0 0, .slice none 0 0, .slice none 0 0] zero26 rfl) ?_
  rintro _ _ ⟨g1, rfl, rfl⟩
  refine t_do rfl (u_storeN (vs := [_, _, _, _, _]) 0 5 rfl rfl rfl siz26 rfl (by intro u hu; simp only [List.mem_cons, List.not_mem_nil, or_false] at hu; rcases hu with rfl | rfl | rfl | rfl | rfl <;> rfl) rfl (by simp)) ?_
  rintro _ _ rfl
  refine t_nil ?_
  refine x_then_normal ?_
  refine c_seq ?_
  refine c_pull 1 rfl ?_
  refine c_pull 2 rfl ?_
  refine c_pull 3 rfl ?_
  refine c_pull 4 rfl ?_
  refine c_freeze [_, _, _, _] _ rfl ?_
  intro b1 hle1 hfz1
  have hok := gK_ok (hfz1 (gk1, _) (by simp)) (hfz1 (gk2, _) (by simp)) (hfz1 (gk3, _) (by simp)) (hfz1 (gk4, _) (by simp))
  have hkv := gK_v gk1 gk2 gk3 gk4
  have hkt := gK_t gk1 gk2 gk3 gk4
  refine c_region ?_
  refine t_st rfl (st_loadD (vs := [_, _, _, _, _]) 0 5 rfl agg26 rfl rfl rfl) ?_
  refine t_callB _ rfl call10 rfl (Times_c _ _ (gK gk1 gk2 gk3 gk4) _ _ [] hok Rd.nil (by decide)) ?_
  rintro _ b9 hle9 (⟨_, _, hn9, _⟩ | ⟨_, _, hn9, _⟩ | ⟨s9, t9, _, _, hs9, ht9, rfl, hR9⟩)
  ·
    exact (hn9 hkv).elim
  ·
    rw [hn9] at hkt
    cases hkt
  ·
    rw [hs9] at hkt
    simp only [Option.map_some, Option.some.injEq] at hkt
    rw [ht9] at hkt
    refine t_st rfl (st_move rfl) ?_
    refine t_st rfl (st_extract rfl rfl) ?_
    refine t_st rfl (st_extract rfl rfl) ?_
    refine t_st rfl (st_assign rfl) ?_
    refine t_st rfl (st_assign rfl) ?_
    refine t_nil ?_
    refine x_then_normal ?_
    refine c_seq ?_
    refine c_region ?_
    refine t_st rfl (st_move rfl) ?_
    refine t_st rfl (st_eql_t rfl rfl rfl) ?_
    refine t_st rfl (st_move rfl) ?_
    refine t_yes 17 rfl rfl rfl ?_
    refine t_st rfl (st_move rfl) ?_
    refine t_yes 17 rfl rfl rfl ?_
    refine t_do rfl (u_bslice (el := 3) [(0, .int .i64 3), (1, .int .i64 7)] [.int .i64 3, .int .i64 7] rfl (fun _ => by kernel_rfl)) ?_
    rintro _ _ ⟨gk5, rfl, rfl⟩
    refine t_yes 17 rfl rfl rfl ?_
    refine t_do rfl (u_callf _ call22 rfl (fun w ho => equalI_c _ _ _ _ t9.l [3, 7] w (hR9.old ho) (Rd.own (i := 0) ho rfl) (by rw [hkt]; decide))) ?_
    rintro _ _ ⟨_, rfl, rfl, rfl⟩
    refine t_st rfl (st_pick_t rfl rfl) ?_
    refine t_st rfl (st_assign rfl) ?_
    refine t_nil ?_
    refine x_then_normal ?_
    refine c_ret ?_
    refine x_drop (hp' := hp) (by repeat (first | exact List.Sublist.refl _ | exact List.nil_sublist _ | exact List.sublist_append_left _ _ | exact List.sublist_append_right _ _ | exact (List.sublist_append_right _ _).trans (List.sublist_append_right _ _) | apply List.Sublist.cons_cons | apply List.Sublist.cons)) ?_
    exact retB1 (hle1.trans hle9) rfl rfl (congrArg Value.bool (decide_eq_true hkt))

end Go.Proofs.Ytakehdnblmonlaa
