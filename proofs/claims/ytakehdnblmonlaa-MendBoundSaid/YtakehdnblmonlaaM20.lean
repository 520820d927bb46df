/- Index, Contains, delay, Delay. -/
import Derived.Test.YtakehdnblmonlaaM19
namespace Go.Proofs.Ytakehdnblmonlaa
open Go.RowKit Go.Fp


theorem dl_snoc : ∀ (due T : List Int) (k : Nat) (d t : Int), due[k]? = some d → T[k]? = some t → dl (due.take (k + 1)) (T.take (k + 1)) = dl (due.take k) (T.take k) + (if 0 ≤ d then max 0 (t - d) else 0)
  | [], _, _, _, _, h, _ => by simp at h
  | _ :: _, [], _, _, _, _, h => by simp at h
  | a :: r, b :: u, 0, d, t, h, h' => by
    simp at h h'
    subst h
    subst h'
    simp [dl]
  | a :: r, b :: u, k + 1, d, t, h, h' => by
    have := dl_snoc r u k d t (by simpa using h) (by simpa using h')
    simp only [List.take_succ_cons, dl] at this ⊢
    omega
theorem dl_bd : ∀ (d t : List Int), (∀ x ∈ t, 0 ≤ x ∧ x ≤ 1099511627776) → 0 ≤ dl d t ∧ dl d t ≤ 1099511627776 * (d.length : Int)
  | [], _, _ => by simp [dl]
  | _ :: r, [], _ => by simp only [dl, List.length_cons]; omega
  | a :: r, b :: u, h => by
    have h1 := dl_bd r u (fun x hx => h x (by simp [hx]))
    have h2 := h b (by simp)
    simp only [dl, List.length_cons]
    split <;> omega


theorem indexI_c (A : Option Addr) (c : Nat) (l : List Int) (x : Int) (w : World) (hR : Rd w A (rows encI l)) (hl : l.length ≤ 9223372036854775807) :
    CallsH Try.prog 35 [.slice A l.length c, .int .i64 x] w [] (fun v hp' => ∃ r : Int, v = .int .i64 r ∧ (0 ≤ r ↔ x ∈ l) ∧ hp' = []) := by
  refine fn_enter 19 Try.func35 rfl Try.ntmps35 rfl ?_
  refine c_seq ?_
  refine c_region ?_
  refine t_st rfl (st_assign rfl) ?_
  refine t_nil ?_
  refine x_then_normal ?_
  refine c_seq ?_
  refine c_seq ?_
  refine c_region ?_
  refine t_st rfl (st_move rfl) ?_
  refine t_st rfl (st_len rfl sl22) ?_
  refine t_st rfl (st_move rfl) ?_
  refine t_nil ?_
  refine x_then_normal ?_
  refine c_block ?_
  refine l_loop [(0, _), (1, _), (7, _)] _ (fun (k : Nat) => [(8, .int .i64 (k : Int))]) (fun (k : Nat) => []) (fun (k : Nat) => k ≤ l.length ∧ x ∉ l.take k) (fun (k : Nat) => l.length - k) (0) ⟨rfl, trivial⟩ ⟨rfl, rfl, rfl, trivial⟩ rfl ⟨by omega, by simp⟩ ?_
  intro k hinv
  obtain ⟨hk, hno⟩ := hinv
  refine c_seq ?_
  refine c_region ?_
  refine t_bool rfl (st_lss rfl rfl) (fun hc1 => ?_) (fun hc1 => ?_)
  ·
    refine t_nil ?_
    refine x_then_normal ?_
    refine c_seq ?_
    refine c_cond_t rfl ?_
    refine c_skip ?_
    refine x_then_normal ?_
    refine c_seq ?_
    refine c_block ?_
    refine c_seq ?_
    refine c_region ?_
    refine t_st rfl (st_move rfl) ?_
    refine t_st rfl (st_assign rfl) ?_
    refine t_nil ?_
    refine x_then_normal ?_
    refine c_seq ?_
    refine c_region ?_
    obtain ⟨y, hy⟩ := ex_get (l := l) (k := k) (by omega)
    refine t_st rfl (st_move rfl) ?_
    refine t_st rfl (st_move rfl) ?_
    refine t_st rfl (st_move rfl) ?_
    refine t_st rfl (st_index_old k rfl rfl rfl (by omega) (Rd.isSome encI_len (by decide) hR hy) sl22) ?_
    refine t_st rfl (st_load_old rfl one3 (Rd.row encI_len hR hy (j := 0) rfl)) ?_
    refine t_bool rfl (st_eql rfl rfl) (fun hc2 => ?_) (fun hc2 => ?_)
    ·
      refine t_nil ?_
      refine x_then_normal ?_
      refine c_cond_t rfl ?_
      refine c_seq ?_
      refine c_region ?_
      refine t_st rfl (st_move rfl) ?_
      refine t_st rfl (st_assign rfl) ?_
      refine t_nil ?_
      refine x_then_normal ?_
      refine c_ret ?_
      refine x_block_ret ?_
      refine x_then_ret ?_
      refine x_then_ret ?_
      refine x_block_ret ?_
      refine x_then_ret ?_
      refine x_drop (hp' := []) (by repeat (first | exact List.Sublist.refl _ | exact List.nil_sublist _ | exact List.sublist_append_left _ _ | exact List.sublist_append_right _ _ | exact (List.sublist_append_right _ _).trans (List.sublist_append_right _ _) | apply List.Sublist.cons_cons | apply List.Sublist.cons)) ?_
      exact ret1 (Base.Le.refl _) rfl rfl ⟨_, rfl, ⟨fun _ => by have := mem_of_get hy; rw [show x = y by omega]; exact this, fun _ => by omega⟩, rfl⟩
    ·
      refine t_nil ?_
      refine x_then_normal ?_
      refine c_cond_f rfl ?_
      refine c_skip ?_
      refine x_block_normal ?_
      refine x_then_normal ?_
      refine c_region ?_
      refine t_st rfl (st_add rfl rfl (by omega)) ?_
      refine t_st rfl (st_move rfl) ?_
      refine t_nil ?_
      exact x_again  (k + 1) (Base.Le.refl _) ⟨rfl, trivial⟩ ⟨rfl, rfl, rfl, trivial⟩ (by repeat (first | exact List.Sublist.refl _ | exact List.nil_sublist _ | exact List.sublist_append_left _ _ | exact List.sublist_append_right _ _ | exact (List.sublist_append_right _ _).trans (List.sublist_append_right _ _) | apply List.Sublist.cons_cons | apply List.Sublist.cons)) ⟨by omega, by rw [take_snoc hy, List.mem_append, List.mem_singleton]; rintro (h | h); exact hno h; omega⟩ (by omega)
  ·
    refine t_nil ?_
    refine x_then_normal ?_
    refine c_seq ?_
    refine c_cond_f rfl ?_
    refine c_exit ?_
    refine x_then_exit ?_
    refine x_then_exit ?_
    refine x_block_out ?_
    refine x_then_normal ?_
    refine c_seq ?_
    refine c_region ?_
    refine t_st rfl (st_assign rfl) ?_
    refine t_nil ?_
    refine x_then_normal ?_
    refine c_ret ?_
    refine x_drop (hp' := []) (by repeat (first | exact List.Sublist.refl _ | exact List.nil_sublist _ | exact List.sublist_append_left _ _ | exact List.sublist_append_right _ _ | exact (List.sublist_append_right _ _).trans (List.sublist_append_right _ _) | apply List.Sublist.cons_cons | apply List.Sublist.cons)) ?_
    exact ret1 (Base.Le.refl _) rfl rfl ⟨_, rfl, ⟨fun h => absurd h (by omega), fun h => absurd h (by rw [List.take_of_length_le (by omega)] at hno; exact hno)⟩, rfl⟩

theorem containsI_c (A : Option Addr) (c : Nat) (l : List Int) (x : Int) (w : World) (hR : Rd w A (rows encI l)) (hl : l.length ≤ 9223372036854775807) :
    CallsH Try.prog 13 [.slice A l.length c, .int .i64 x] w [] (fun v hp' => v = .bool (decide (x ∈ l)) ∧ hp' = []) := by
  refine fn_enter 9 Try.func13 rfl Try.ntmps13 rfl ?_
  refine c_seq ?_
  refine c_region ?_
  refine t_st rfl (st_assign rfl) ?_
  refine t_nil ?_
  refine x_then_normal ?_
  refine c_seq ?_
  refine c_region ?_
  refine t_st rfl (st_move rfl) ?_
  refine t_st rfl (st_move rfl) ?_
  refine t_do rfl (u_callf _ call35 rfl (fun w ho => indexI_c _ _ _ _ w (hR.old ho) hl)) ?_
  rintro _ _ ⟨_, rfl, r, rfl, hr, rfl⟩
  refine t_st rfl (st_geq rfl rfl) ?_
  refine t_st rfl (st_assign rfl) ?_
  refine t_nil ?_
  refine x_then_normal ?_
  refine c_ret ?_
  refine x_drop (hp' := []) (by repeat (first | exact List.Sublist.refl _ | exact List.nil_sublist _ | exact List.sublist_append_left _ _ | exact List.sublist_append_right _ _ | exact (List.sublist_append_right _ _).trans (List.sublist_append_right _ _) | apply List.Sublist.cons_cons | apply List.Sublist.cons)) ?_
  exact ret1 (Base.Le.refl _) rfl rfl ⟨congrArg Value.bool (decide_eq_decide.2 hr), rfl⟩

theorem delay_c (g : Gr) (A : Option Addr) (c : Nat) (T : List Int) (w : World) (hg : GrOk w g) (hR : Rd w A (rows encI T)) (hV : GraphV g) (hT : T.length = g.ready.l.length) (hv : ∀ x ∈ T, 0 ≤ x ∧ x ≤ 1099511627776) :
    CallsH Try.prog 38 [g.val, .slice A T.length c] w [] (fun v hp' => v = .int .i64 (dl g.due.l T) ∧ hp' = []) := by
  have hnd := hV.nd
  have hnr := hV.nr
  refine fn_enter 29 Try.func38 rfl Try.ntmps38 rfl ?_
  refine c_seq ?_
  refine c_region ?_
  refine t_do rfl (u_box _ rfl rfl) ?_
  rintro _ _ ⟨g1, rfl, rfl⟩
  refine t_st rfl (st_assign rfl) ?_
  refine t_nil ?_
  refine x_then_normal ?_
  refine c_seq ?_
  refine c_region ?_
  refine t_st rfl (st_assign rfl) ?_
  refine t_nil ?_
  refine x_then_normal ?_
  refine c_seq ?_
  refine c_seq ?_
  refine c_region ?_
  refine t_st rfl (st_field rfl fld26_2) ?_
  refine t_st rfl (st_load 0 rfl one22 rfl rfl) ?_
  refine t_st rfl (st_len rfl sl22) ?_
  refine t_st rfl (st_move rfl) ?_
  refine t_nil ?_
  refine x_then_normal ?_
  refine c_block ?_
  refine l_loop [(1, _), (9, _), (10, _)] _ (fun (k : Nat) => [(11, .int .i64 (k : Int)), (5, .int .i64 (dl (g.due.l.take k) (T.take k)))]) (fun (k : Nat) => []) (fun (k : Nat) => k ≤ g.due.l.length) (fun (k : Nat) => g.due.l.length - k) (0) ⟨rfl, rfl, trivial⟩ ⟨rfl, rfl, rfl, trivial⟩ rfl (by omega) ?_
  intro k hinv
  refine c_seq ?_
  refine c_region ?_
  refine t_bool rfl (st_lss rfl rfl) (fun hc2 => ?_) (fun hc2 => ?_)
  ·
    refine t_nil ?_
    refine x_then_normal ?_
    refine c_seq ?_
    refine c_cond_t rfl ?_
    refine c_skip ?_
    refine x_then_normal ?_
    refine c_seq ?_
    refine c_block ?_
    refine c_seq ?_
    refine c_region ?_
    obtain ⟨d, hd⟩ := ex_get (l := g.due.l) (k := k) (by omega)
    obtain ⟨t, ht⟩ := ex_get (l := T) (k := k) (by omega)
    have hbd := dl_bd (g.due.l.take k) (T.take k) (fun x hx => hv x (List.mem_of_mem_take hx))
    rw [List.length_take] at hbd
    have htv := hv t (mem_of_get ht)
    have hdv := hV.duev d (mem_of_get hd)
    refine t_st rfl (st_move rfl) ?_
    refine t_st rfl (st_index_old k rfl rfl rfl (by omega) (Rd.isSome encI_len (by decide) hg.due hd) sl22) ?_
    refine t_st rfl (st_load_old rfl one3 (Rd.row encI_len hg.due hd (j := 0) rfl)) ?_
    refine t_st rfl (st_assign rfl) ?_
    refine t_st rfl (st_assign rfl) ?_
    refine t_nil ?_
    refine x_then_normal ?_
    refine c_seq ?_
    refine c_region ?_
    refine t_st rfl (st_move rfl) ?_
    refine t_bool rfl (st_geq rfl rfl) (fun hc3 => ?_) (fun hc3 => ?_)
    ·
      refine t_nil ?_
      refine x_then_normal ?_
      refine c_cond_t rfl ?_
      refine c_region ?_
      refine t_st rfl (st_move rfl) ?_
      refine t_st rfl (st_move rfl) ?_
      refine t_st rfl (st_move rfl) ?_
      refine t_st rfl (st_index_old k rfl rfl rfl (by omega) (Rd.isSome encI_len (by decide) hR ht) sl22) ?_
      refine t_st rfl (st_load_old rfl one3 (Rd.row encI_len hR ht (j := 0) rfl)) ?_
      refine t_st rfl (st_move rfl) ?_
      refine t_st rfl (st_sub rfl rfl (by omega)) ?_
      refine t_st rfl (st_max rfl rfl) ?_
      refine t_st rfl (st_add rfl rfl (by omega)) ?_
      refine t_st rfl (st_assign rfl) ?_
      refine t_nil ?_
      refine x_block_normal ?_
      refine x_then_normal ?_
      refine c_region ?_
      refine t_st rfl (st_add rfl rfl (by omega)) ?_
      refine t_st rfl (st_move rfl) ?_
      refine t_nil ?_
      exact x_again  (k + 1) (Base.Le.refl _) ⟨rfl, congrArg (fun z => some (Value.int .i64 z)) (by rw [dl_snoc _ _ k d t hd ht]; first | rw [if_pos (by omega)] | (rw [if_neg (by omega)]; omega)), trivial⟩ ⟨rfl, rfl, rfl, trivial⟩ (by repeat (first | exact List.Sublist.refl _ | exact List.nil_sublist _ | exact List.sublist_append_left _ _ | exact List.sublist_append_right _ _ | exact (List.sublist_append_right _ _).trans (List.sublist_append_right _ _) | apply List.Sublist.cons_cons | apply List.Sublist.cons)) (by omega) (by omega)
    ·
      refine t_nil ?_
      refine x_then_normal ?_
      refine c_cond_f rfl ?_
      refine c_skip ?_
      refine x_block_normal ?_
      refine x_then_normal ?_
      refine c_region ?_
      refine t_st rfl (st_add rfl rfl (by omega)) ?_
      refine t_st rfl (st_move rfl) ?_
      refine t_nil ?_
      exact x_again  (k + 1) (Base.Le.refl _) ⟨rfl, congrArg (fun z => some (Value.int .i64 z)) (by rw [dl_snoc _ _ k d t hd ht]; first | rw [if_pos (by omega)] | (rw [if_neg (by omega)]; omega)), trivial⟩ ⟨rfl, rfl, rfl, trivial⟩ (by repeat (first | exact List.Sublist.refl _ | exact List.nil_sublist _ | exact List.sublist_append_left _ _ | exact List.sublist_append_right _ _ | exact (List.sublist_append_right _ _).trans (List.sublist_append_right _ _) | apply List.Sublist.cons_cons | apply List.Sublist.cons)) (by omega) (by omega)
  ·
    refine t_nil ?_
    refine x_then_normal ?_
    refine c_seq ?_
    refine c_cond_f rfl ?_
    refine c_exit ?_
    refine x_then_exit ?_
    refine x_then_exit ?_
    refine x_block_out ?_
    refine x_then_normal ?_
    refine c_seq ?_
    refine c_region ?_
    refine t_st rfl (st_move rfl) ?_
    refine t_st rfl (st_assign rfl) ?_
    refine t_nil ?_
    refine x_then_normal ?_
    refine c_ret ?_
    refine x_drop (hp' := []) (by repeat (first | exact List.Sublist.refl _ | exact List.nil_sublist _ | exact List.sublist_append_left _ _ | exact List.sublist_append_right _ _ | exact (List.sublist_append_right _ _).trans (List.sublist_append_right _ _) | apply List.Sublist.cons_cons | apply List.Sublist.cons)) ?_
    exact ret1 (Base.Le.refl _) rfl rfl ⟨by rw [List.take_of_length_le (by omega), List.take_of_length_le (by omega)], rfl⟩

theorem Delay_c (g : Gr) (A : Option Addr) (c : Nat) (T : List Int) (w : World) (hg : GrOk w g) (hR : Rd w A (rows encI T)) (hV : GraphV g) (hT : T.length = g.ready.l.length) (hv : ∀ x ∈ T, 0 ≤ x ∧ x ≤ 1099511627776) :
    CallsH Try.prog 14 [g.val, .slice A T.length c] w [] (fun v hp' => v = .tuple #[.int .i64 (dl g.due.l T), .int .i64 0] ∧ hp' = []) := by
  have hnr := hV.nr
  refine fn_enter 33 Try.func14 rfl Try.ntmps14 rfl ?_
  refine c_seq ?_
  refine c_region ?_
  refine t_do rfl (u_box _ rfl rfl) ?_
  rintro _ _ ⟨g1, rfl, rfl⟩
  refine t_st rfl (st_assign rfl) ?_
  refine t_st rfl (st_assign rfl) ?_
  refine t_nil ?_
  refine x_then_normal ?_
  refine c_seq ?_
  refine c_seq ?_
  refine c_region ?_
  refine t_st rfl (st_loadD (vs := [_, _, _, _, _]) 0 5 rfl agg26 rfl rfl rfl) ?_
  refine t_do rfl (u_callf _ call36 rfl (fun w ho => CheckGraph_c g w (hg.old ho))) ?_
  rintro _ _ ⟨_, rfl, r, rfl, hr, rfl⟩
  refine t_st rfl (st_assign rfl) ?_
  refine t_nil ?_
  refine x_then_normal ?_
  refine c_seq ?_
  refine c_region ?_
  refine t_st rfl (st_move rfl) ?_
  refine t_st rfl (st_neq_f rfl rfl (by have := hr.2 hV; omega)) ?_
  refine t_nil ?_
  refine x_then_normal ?_
  refine c_cond_f rfl ?_
  refine c_skip ?_
  refine x_then_normal ?_
  refine c_seq ?_
  refine c_seq ?_
  refine c_region ?_
  refine t_st rfl (st_move rfl) ?_
  refine t_st rfl (st_len rfl sl22) ?_
  refine t_st rfl (st_field rfl fld26_0) ?_
  refine t_st rfl (st_load 0 rfl one22 rfl rfl) ?_
  refine t_st rfl (st_len rfl sl22) ?_
  refine t_st rfl (st_neq_f rfl rfl (by omega)) ?_
  refine t_nil ?_
  refine x_then_normal ?_
  refine c_cond_f rfl ?_
  refine c_skip ?_
  refine x_then_normal ?_
  refine c_seq ?_
  refine c_seq ?_
  refine c_region ?_
  refine t_st rfl (st_move rfl) ?_
  refine t_st rfl (st_len rfl sl22) ?_
  refine t_st rfl (st_move rfl) ?_
  refine t_nil ?_
  refine x_then_normal ?_
  refine c_block ?_
  refine l_loop [(1, _), (2, _), (20, _), (21, _)] _ (fun (k : Nat) => [(22, .int .i64 (k : Int))]) (fun (k : Nat) => []) (fun (k : Nat) => k ≤ T.length) (fun (k : Nat) => T.length - k) (0) ⟨rfl, trivial⟩ ⟨rfl, rfl, rfl, rfl, trivial⟩ rfl (by omega) ?_
  intro k hinv
  refine c_seq ?_
  refine c_region ?_
  refine t_bool rfl (st_lss rfl rfl) (fun hc2 => ?_) (fun hc2 => ?_)
  ·
    refine t_nil ?_
    refine x_then_normal ?_
    refine c_seq ?_
    refine c_cond_t rfl ?_
    refine c_skip ?_
    refine x_then_normal ?_
    refine c_seq ?_
    refine c_block ?_
    refine c_seq ?_
    refine c_region ?_
    obtain ⟨t, ht⟩ := ex_get (l := T) (k := k) (by omega)
    have htv := hv t (mem_of_get ht)
    refine t_st rfl (st_index_old k rfl rfl rfl (by omega) (Rd.isSome encI_len (by decide) hR ht) sl22) ?_
    refine t_st rfl (st_load_old rfl one3 (Rd.row encI_len hR ht (j := 0) rfl)) ?_
    refine t_st rfl (st_assign rfl) ?_
    refine t_nil ?_
    refine x_then_normal ?_
    refine c_seq ?_
    refine c_region ?_
    refine t_st rfl (st_move rfl) ?_
    refine t_doB rfl (u_call _ call37 rfl (within_c _ _ _ _ _)) (fun hc3 => ?_) (fun hc3 => ?_)
    ·
      refine t_st rfl (st_not_t rfl) ?_
      refine t_nil ?_
      refine x_then_normal ?_
      refine c_cond_f rfl ?_
      refine c_skip ?_
      refine x_block_normal ?_
      refine x_then_normal ?_
      refine c_region ?_
      refine t_st rfl (st_add rfl rfl (by omega)) ?_
      refine t_st rfl (st_move rfl) ?_
      refine t_nil ?_
      exact x_again  (k + 1) (Base.Le.refl _) ⟨rfl, trivial⟩ ⟨rfl, rfl, rfl, rfl, trivial⟩ (by repeat (first | exact List.Sublist.refl _ | exact List.nil_sublist _ | exact List.sublist_append_left _ _ | exact List.sublist_append_right _ _ | exact (List.sublist_append_right _ _).trans (List.sublist_append_right _ _) | apply List.Sublist.cons_cons | apply List.Sublist.cons)) (by omega) (by omega)
    ·
      refine t_st rfl (st_not_f rfl) ?_
      refine t_nil ?_
      refine x_then_normal ?_
      refine c_cond_t rfl ?_
      refine c_seq ?_
      refine c_region ?_
      refine t_st rfl (st_assign rfl) ?_
      refine t_st rfl (st_assign rfl) ?_
      refine t_nil ?_
      refine x_then_normal ?_
      refine c_ret ?_
      refine x_block_ret ?_
      refine x_then_ret ?_
      refine x_then_ret ?_
      refine x_block_ret ?_
      refine x_then_ret ?_
      refine x_drop (hp' := []) (by repeat (first | exact List.Sublist.refl _ | exact List.nil_sublist _ | exact List.sublist_append_left _ _ | exact List.sublist_append_right _ _ | exact (List.sublist_append_right _ _).trans (List.sublist_append_right _ _) | apply List.Sublist.cons_cons | apply List.Sublist.cons)) ?_
      exact ret2 (Base.Le.refl _) rfl rfl rfl (by exfalso; omega)
  ·
    refine t_nil ?_
    refine x_then_normal ?_
    refine c_seq ?_
    refine c_cond_f rfl ?_
    refine c_exit ?_
    refine x_then_exit ?_
    refine x_then_exit ?_
    refine x_block_out ?_
    refine x_then_normal ?_
    refine c_seq ?_
    refine c_region ?_
    refine t_st rfl (st_loadD (vs := [_, _, _, _, _]) 0 5 rfl agg26 rfl rfl rfl) ?_
    refine t_st rfl (st_move rfl) ?_
    refine t_do rfl (u_callf _ call38 rfl (fun w ho => delay_c g _ _ T w (hg.old ho) (hR.old ho) hV hT hv)) ?_
    rintro _ _ ⟨_, rfl, rfl, rfl⟩
    refine t_st rfl (st_assign rfl) ?_
    refine t_st rfl (st_assign rfl) ?_
    refine t_nil ?_
    refine x_then_normal ?_
    refine c_ret ?_
    refine x_drop (hp' := []) (by repeat (first | exact List.Sublist.refl _ | exact List.nil_sublist _ | exact List.sublist_append_left _ _ | exact List.sublist_append_right _ _ | exact (List.sublist_append_right _ _).trans (List.sublist_append_right _ _) | apply List.Sublist.cons_cons | apply List.Sublist.cons)) ?_
    exact ret2 (Base.Le.refl _) rfl rfl rfl ⟨rfl, rfl⟩

end Go.Proofs.Ytakehdnblmonlaa
