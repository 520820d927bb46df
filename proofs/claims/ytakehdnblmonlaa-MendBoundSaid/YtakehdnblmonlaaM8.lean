/- The contract of (*solver).with, at a graph without nodes. -/
import Derived.Test.YtakehdnblmonlaaM7
namespace Go.Proofs.Ytakehdnblmonlaa
open Go.RowKit Go.Fp

set_option maxRecDepth 10000 in
theorem with_c0 (b : Base) (hp : Hp) (gs0 : Nat) (s : So) (A : Option Addr) (c M : Nat) (hS : SoOk b.w gs0 s) (hT : s.times.l = []) (hO : s.outs.l = []) :
    CallsB Try.prog 41 [.pointer (some ⟨gs0, 0, none⟩), .slice A ([] : List Arc).length c] b hp (fun v b' =>
      (withF s.last.l s.sv [] = none ∧ ∃ q, v = .tuple #[.pointer q, .bool false]) ∨
      ∃ (gs' : Nat) (s' : So), withF s.last.l s.sv [] = some s'.sv ∧ v = .tuple #[.pointer (some ⟨gs', 0, none⟩), .bool true] ∧ SoOk b'.w gs' s' ∧ s'.last = s.last ∧ ∀ y ∈ s'.outs.l, y.l.length ≤ M + ([] : List Arc).length) := by
  refine fn_enterB 128 Try.func41 rfl Try.ntmps41 rfl ?_
  refine c_seq ?_
  refine c_region ?_
  refine t_st rfl (st_assign rfl) ?_
  refine t_st rfl (st_assign rfl) ?_
  refine t_nil ?_
  refine x_then_normal ?_
  refine c_cut6 [(1, .slice A ([] : List Arc).length c)] (hp) (fun (gn : Nat) (gs : Nat) (A1 : Option Addr) (c1 : Nat) (A2 : Option Addr) (c2 : Nat) => [(6, .pointer (some ⟨gn, 0, none⟩))]) (fun (gn : Nat) (gs : Nat) (A1 : Option Addr) (c1 : Nat) (A2 : Option Addr) (c2 : Nat) => [(gn, Cl 69 [.pointer (some ⟨gs, 0, none⟩)]), (gs, Cl 73 [.slice A1 s.times.l.length c1, s.last.val, .slice A2 s.outs.l.length c2])]) (fun (gn : Nat) (gs : Nat) (A1 : Option Addr) (c1 : Nat) (A2 : Option Addr) (c2 : Nat) => True) ?_ ?_
  ·
    refine c_draw mixed ?_
    refine d_st 0 rfl (by kernel_rfl) (by kernel_rfl) (by kernel_rfl) rfl (st_move rfl) (List.Sublist.refl _) ?_
    refine d_st 1 rfl (by kernel_rfl) (by kernel_rfl) (by kernel_rfl) rfl (st_nil rfl) (List.Sublist.refl _) ?_
    refine d_st 2 rfl (by kernel_rfl) (by kernel_rfl) (by kernel_rfl) rfl (st_field rfl fld73_0) (List.Sublist.refl _) ?_
    refine d_st 3 rfl (by kernel_rfl) (by kernel_rfl) (by kernel_rfl) rfl (st_load_at rfl one22 hS.c0) (List.Sublist.refl _) ?_
    refine d_st 5 rfl (by kernel_rfl) (by kernel_rfl) (by kernel_rfl) rfl (st_move rfl) (List.Sublist.refl _) ?_
    refine d_st 6 rfl (by kernel_rfl) (by kernel_rfl) (by kernel_rfl) rfl (st_nil rfl) (List.Sublist.refl _) ?_
    refine d_st 7 rfl (by kernel_rfl) (by kernel_rfl) (by kernel_rfl) rfl (st_field rfl fld73_1) (List.Sublist.refl _) ?_
    refine d_st 8 rfl (by kernel_rfl) (by kernel_rfl) (by kernel_rfl) rfl (st_load_at rfl one22 hS.c1) (List.Sublist.refl _) ?_
    refine d_st 9 rfl (by kernel_rfl) (by kernel_rfl) (by kernel_rfl) rfl (st_move rfl) (List.Sublist.refl _) ?_
    refine d_st 10 rfl (by kernel_rfl) (by kernel_rfl) (by kernel_rfl) rfl (st_nil rfl) (List.Sublist.refl _) ?_
    refine d_st 11 rfl (by kernel_rfl) (by kernel_rfl) (by kernel_rfl) rfl (st_field rfl fld73_2) (List.Sublist.refl _) ?_
    refine d_st 12 rfl (by kernel_rfl) (by kernel_rfl) (by kernel_rfl) rfl (st_load_at rfl one35 hS.c2) (List.Sublist.refl _) ?_
    refine d_all [4, 16] (by kernel_rfl) rfl ?_
    refine r_do rfl rfl (u_callF [] _ _ call12 rfl rfl (fun w ho => cloneI_c _ _ _ _ w (hS.times.old ho) (by rw [rows_length encI_len]) (by rw [hT]; simp))) ?_ ?_
    ·
      rintro _ _ ⟨hs1, rfl, hseg1⟩
      obtain ⟨A1, c1, rfl, hcm1⟩ := hseg1.form
      refine ⟨.inr (by repeat (first | exact List.Sublist.refl _ | exact List.nil_sublist _ | exact List.sublist_append_left _ _ | exact List.sublist_append_right _ _ | exact (List.sublist_append_right _ _).trans (List.sublist_append_right _ _) | apply List.Sublist.cons_cons | apply List.Sublist.cons)), ?_⟩
      refine d_all [13, 16] (by kernel_rfl) rfl ?_
      refine r_do rfl rfl (u_callF [] _ _ call60 rfl rfl (fun w ho => cloneS_c _ _ _ _ w (hS.outs.old ho) (by rw [rows_length encS_len]) (by rw [hO]; simp))) ?_ ?_
      ·
        rintro _ _ ⟨hs2, rfl, hseg2⟩
        obtain ⟨A2, c2, rfl, hcm2⟩ := hseg2.form
        refine ⟨.inr (by repeat (first | exact List.Sublist.refl _ | exact List.nil_sublist _ | exact List.sublist_append_left _ _ | exact List.sublist_append_right _ _ | exact (List.sublist_append_right _ _).trans (List.sublist_append_right _ _) | apply List.Sublist.cons_cons | apply List.Sublist.cons)), ?_⟩
        refine d_st 14 rfl (by kernel_rfl) (by kernel_rfl) (by kernel_rfl) rfl (st_build (v := .agg #[.slice A1 s.times.l.length c1, s.last.val, .slice A2 s.outs.l.length c2]) [(0, .slice A1 s.times.l.length c1), (1, s.last.val), (2, .slice A2 s.outs.l.length c2)] rfl (fun _ => by kernel_rfl)) (by repeat (first | exact List.Sublist.refl _ | exact List.nil_sublist _ | exact List.sublist_append_left _ _ | exact List.sublist_append_right _ _ | exact (List.sublist_append_right _ _).trans (List.sublist_append_right _ _) | apply List.Sublist.cons_cons | apply List.Sublist.cons)) ?_
        refine d_all [15, 16] (by kernel_rfl) rfl ?_
        refine r_do rfl rfl (u_box _ rfl rfl) ?_ ?_
        ·
          rintro _ _ ⟨g1, rfl, rfl⟩
          refine ⟨.inr (by repeat (first | exact List.Sublist.refl _ | exact List.nil_sublist _ | exact List.sublist_append_left _ _ | exact List.sublist_append_right _ _ | exact (List.sublist_append_right _ _).trans (List.sublist_append_right _ _) | apply List.Sublist.cons_cons | apply List.Sublist.cons)), ?_⟩
          refine d_all [16] (by kernel_rfl) rfl ?_
          refine r_do rfl rfl (u_alloc [.pointer none] zero69 rfl) ?_ ?_
          ·
            rintro _ _ ⟨g2, rfl, rfl⟩
            refine ⟨.inr (by repeat (first | exact List.Sublist.refl _ | exact List.nil_sublist _ | exact List.sublist_append_left _ _ | exact List.sublist_append_right _ _ | exact (List.sublist_append_right _ _).trans (List.sublist_append_right _ _) | apply List.Sublist.cons_cons | apply List.Sublist.cons)), ?_⟩
            refine d_all [17] (by kernel_rfl) rfl ?_
            refine r_do rfl rfl (u_store 0 rfl rfl siz69 rfl rfl (by simp)) ?_ ?_
            ·
              rintro _ _ rfl
              refine ⟨.inl (by kernel_rfl), ?_⟩
              refine d_done (by kernel_rfl) ?_
              refine x_pull 1 rfl ?_
              refine x_pull 1 rfl ?_
              exact x_meet6 (ev := (fun (gn : Nat) (gs : Nat) (A1 : Option Addr) (c1 : Nat) (A2 : Option Addr) (c2 : Nat) => [(6, .pointer (some ⟨gn, 0, none⟩))])) (hv := (fun (gn : Nat) (gs : Nat) (A1 : Option Addr) (c1 : Nat) (A2 : Option Addr) (c2 : Nat) => [(gn, Cl 69 [.pointer (some ⟨gs, 0, none⟩)]), (gs, Cl 73 [.slice A1 s.times.l.length c1, s.last.val, .slice A2 s.outs.l.length c2])])) (inv := (fun (gn : Nat) (gs : Nat) (A1 : Option Addr) (c1 : Nat) (A2 : Option Addr) (c2 : Nat) => True)) (g2) (g1) (A1) (c1) (A2) (c2) (Base.Le.refl _) ⟨rfl, trivial⟩ ⟨rfl, trivial⟩ (by repeat (first | exact List.Sublist.refl _ | exact List.nil_sublist _ | exact List.sublist_append_left _ _ | exact List.sublist_append_right _ _ | exact (List.sublist_append_right _ _).trans (List.sublist_append_right _ _) | apply List.Sublist.cons_cons | apply List.Sublist.cons)) trivial
            exact r_nil
          exact r_nil
        refine r_do rfl rfl (u_alloc [.pointer none] zero69 rfl) ?_ ?_
        ·
          rintro _ _ ⟨g3, rfl, rfl⟩
          refine ⟨.inr (by repeat (first | exact List.Sublist.refl _ | exact List.nil_sublist _ | exact List.sublist_append_left _ _ | exact List.sublist_append_right _ _ | exact (List.sublist_append_right _ _).trans (List.sublist_append_right _ _) | apply List.Sublist.cons_cons | apply List.Sublist.cons)), ?_⟩
          refine d_all [15] (by kernel_rfl) rfl ?_
          refine r_do rfl rfl (u_box _ rfl rfl) ?_ ?_
          ·
            rintro _ _ ⟨g4, rfl, rfl⟩
            refine ⟨.inr (by repeat (first | exact List.Sublist.refl _ | exact List.nil_sublist _ | exact List.sublist_append_left _ _ | exact List.sublist_append_right _ _ | exact (List.sublist_append_right _ _).trans (List.sublist_append_right _ _) | apply List.Sublist.cons_cons | apply List.Sublist.cons)), ?_⟩
            refine d_all [17] (by kernel_rfl) rfl ?_
            refine r_do rfl rfl (u_store 1 rfl rfl siz69 rfl rfl (by simp)) ?_ ?_
            ·
              rintro _ _ rfl
              refine ⟨.inl (by kernel_rfl), ?_⟩
              refine d_done (by kernel_rfl) ?_
              refine x_pull 0 rfl ?_
              refine x_pull 1 rfl ?_
              exact x_meet6 (ev := (fun (gn : Nat) (gs : Nat) (A1 : Option Addr) (c1 : Nat) (A2 : Option Addr) (c2 : Nat) => [(6, .pointer (some ⟨gn, 0, none⟩))])) (hv := (fun (gn : Nat) (gs : Nat) (A1 : Option Addr) (c1 : Nat) (A2 : Option Addr) (c2 : Nat) => [(gn, Cl 69 [.pointer (some ⟨gs, 0, none⟩)]), (gs, Cl 73 [.slice A1 s.times.l.length c1, s.last.val, .slice A2 s.outs.l.length c2])])) (inv := (fun (gn : Nat) (gs : Nat) (A1 : Option Addr) (c1 : Nat) (A2 : Option Addr) (c2 : Nat) => True)) (g3) (g4) (A1) (c1) (A2) (c2) (Base.Le.refl _) ⟨rfl, trivial⟩ ⟨rfl, trivial⟩ (by repeat (first | exact List.Sublist.refl _ | exact List.nil_sublist _ | exact List.sublist_append_left _ _ | exact List.sublist_append_right _ _ | exact (List.sublist_append_right _ _).trans (List.sublist_append_right _ _) | apply List.Sublist.cons_cons | apply List.Sublist.cons)) trivial
            exact r_nil
          exact r_nil
        exact r_nil
      refine r_do rfl rfl (u_alloc [.pointer none] zero69 rfl) ?_ ?_
      ·
        rintro _ _ ⟨g5, rfl, rfl⟩
        refine ⟨.inr (by repeat (first | exact List.Sublist.refl _ | exact List.nil_sublist _ | exact List.sublist_append_left _ _ | exact List.sublist_append_right _ _ | exact (List.sublist_append_right _ _).trans (List.sublist_append_right _ _) | apply List.Sublist.cons_cons | apply List.Sublist.cons)), ?_⟩
        refine d_all [13] (by kernel_rfl) rfl ?_
        refine r_do rfl rfl (u_callF [_] _ _ call60 rfl rfl (fun w ho => cloneS_c _ _ _ _ w (hS.outs.old ho) (by rw [rows_length encS_len]) (by rw [hO]; simp))) ?_ ?_
        ·
          rintro _ _ ⟨hs2, rfl, hseg2⟩
          obtain ⟨A2, c2, rfl, hcm2⟩ := hseg2.form
          refine ⟨.inr (by repeat (first | exact List.Sublist.refl _ | exact List.nil_sublist _ | exact List.sublist_append_left _ _ | exact List.sublist_append_right _ _ | exact (List.sublist_append_right _ _).trans (List.sublist_append_right _ _) | apply List.Sublist.cons_cons | apply List.Sublist.cons)), ?_⟩
          refine d_st 14 rfl (by kernel_rfl) (by kernel_rfl) (by kernel_rfl) rfl (st_build (v := .agg #[.slice A1 s.times.l.length c1, s.last.val, .slice A2 s.outs.l.length c2]) [(0, .slice A1 s.times.l.length c1), (1, s.last.val), (2, .slice A2 s.outs.l.length c2)] rfl (fun _ => by kernel_rfl)) (by repeat (first | exact List.Sublist.refl _ | exact List.nil_sublist _ | exact List.sublist_append_left _ _ | exact List.sublist_append_right _ _ | exact (List.sublist_append_right _ _).trans (List.sublist_append_right _ _) | apply List.Sublist.cons_cons | apply List.Sublist.cons)) ?_
          refine d_all [15] (by kernel_rfl) rfl ?_
          refine r_do rfl rfl (u_box _ rfl rfl) ?_ ?_
          ·
            rintro _ _ ⟨g6, rfl, rfl⟩
            refine ⟨.inr (by repeat (first | exact List.Sublist.refl _ | exact List.nil_sublist _ | exact List.sublist_append_left _ _ | exact List.sublist_append_right _ _ | exact (List.sublist_append_right _ _).trans (List.sublist_append_right _ _) | apply List.Sublist.cons_cons | apply List.Sublist.cons)), ?_⟩
            refine d_all [17] (by kernel_rfl) rfl ?_
            refine r_do rfl rfl (u_store 1 rfl rfl siz69 rfl rfl (by simp)) ?_ ?_
            ·
              rintro _ _ rfl
              refine ⟨.inl (by kernel_rfl), ?_⟩
              refine d_done (by kernel_rfl) ?_
              refine x_pull 0 rfl ?_
              refine x_pull 1 rfl ?_
              exact x_meet6 (ev := (fun (gn : Nat) (gs : Nat) (A1 : Option Addr) (c1 : Nat) (A2 : Option Addr) (c2 : Nat) => [(6, .pointer (some ⟨gn, 0, none⟩))])) (hv := (fun (gn : Nat) (gs : Nat) (A1 : Option Addr) (c1 : Nat) (A2 : Option Addr) (c2 : Nat) => [(gn, Cl 69 [.pointer (some ⟨gs, 0, none⟩)]), (gs, Cl 73 [.slice A1 s.times.l.length c1, s.last.val, .slice A2 s.outs.l.length c2])])) (inv := (fun (gn : Nat) (gs : Nat) (A1 : Option Addr) (c1 : Nat) (A2 : Option Addr) (c2 : Nat) => True)) (g5) (g6) (A1) (c1) (A2) (c2) (Base.Le.refl _) ⟨rfl, trivial⟩ ⟨rfl, trivial⟩ (by repeat (first | exact List.Sublist.refl _ | exact List.nil_sublist _ | exact List.sublist_append_left _ _ | exact List.sublist_append_right _ _ | exact (List.sublist_append_right _ _).trans (List.sublist_append_right _ _) | apply List.Sublist.cons_cons | apply List.Sublist.cons)) trivial
            exact r_nil
          exact r_nil
        exact r_nil
      exact r_nil
    refine r_do rfl rfl (u_alloc [.pointer none] zero69 rfl) ?_ ?_
    ·
      rintro _ _ ⟨g7, rfl, rfl⟩
      refine ⟨.inr (.cons _ (List.Sublist.refl _)), ?_⟩
      refine d_all [4] (by kernel_rfl) rfl ?_
      refine r_do rfl rfl (u_callF [_] _ _ call12 rfl rfl (fun w ho => cloneI_c _ _ _ _ w (hS.times.old ho) (by rw [rows_length encI_len]) (by rw [hT]; simp))) ?_ ?_
      ·
        rintro _ _ ⟨hs1, rfl, hseg1⟩
        obtain ⟨A1, c1, rfl, hcm1⟩ := hseg1.form
        refine ⟨.inr (by repeat (first | exact List.Sublist.refl _ | exact List.nil_sublist _ | exact List.sublist_append_left _ _ | exact List.sublist_append_right _ _ | exact (List.sublist_append_right _ _).trans (List.sublist_append_right _ _) | apply List.Sublist.cons_cons | apply List.Sublist.cons)), ?_⟩
        refine d_all [13] (by kernel_rfl) rfl ?_
        refine r_do rfl rfl (u_callF [_] _ _ call60 rfl rfl (fun w ho => cloneS_c _ _ _ _ w (hS.outs.old ho) (by rw [rows_length encS_len]) (by rw [hO]; simp))) ?_ ?_
        ·
          rintro _ _ ⟨hs2, rfl, hseg2⟩
          obtain ⟨A2, c2, rfl, hcm2⟩ := hseg2.form
          refine ⟨.inr (by repeat (first | exact List.Sublist.refl _ | exact List.nil_sublist _ | exact List.sublist_append_left _ _ | exact List.sublist_append_right _ _ | exact (List.sublist_append_right _ _).trans (List.sublist_append_right _ _) | apply List.Sublist.cons_cons | apply List.Sublist.cons)), ?_⟩
          refine d_st 14 rfl (by kernel_rfl) (by kernel_rfl) (by kernel_rfl) rfl (st_build (v := .agg #[.slice A1 s.times.l.length c1, s.last.val, .slice A2 s.outs.l.length c2]) [(0, .slice A1 s.times.l.length c1), (1, s.last.val), (2, .slice A2 s.outs.l.length c2)] rfl (fun _ => by kernel_rfl)) (by repeat (first | exact List.Sublist.refl _ | exact List.nil_sublist _ | exact List.sublist_append_left _ _ | exact List.sublist_append_right _ _ | exact (List.sublist_append_right _ _).trans (List.sublist_append_right _ _) | apply List.Sublist.cons_cons | apply List.Sublist.cons)) ?_
          refine d_all [15] (by kernel_rfl) rfl ?_
          refine r_do rfl rfl (u_box _ rfl rfl) ?_ ?_
          ·
            rintro _ _ ⟨g8, rfl, rfl⟩
            refine ⟨.inr (by repeat (first | exact List.Sublist.refl _ | exact List.nil_sublist _ | exact List.sublist_append_left _ _ | exact List.sublist_append_right _ _ | exact (List.sublist_append_right _ _).trans (List.sublist_append_right _ _) | apply List.Sublist.cons_cons | apply List.Sublist.cons)), ?_⟩
            refine d_all [17] (by kernel_rfl) rfl ?_
            refine r_do rfl rfl (u_store 1 rfl rfl siz69 rfl rfl (by simp)) ?_ ?_
            ·
              rintro _ _ rfl
              refine ⟨.inl (by kernel_rfl), ?_⟩
              refine d_done (by kernel_rfl) ?_
              refine x_pull 0 rfl ?_
              refine x_pull 1 rfl ?_
              exact x_meet6 (ev := (fun (gn : Nat) (gs : Nat) (A1 : Option Addr) (c1 : Nat) (A2 : Option Addr) (c2 : Nat) => [(6, .pointer (some ⟨gn, 0, none⟩))])) (hv := (fun (gn : Nat) (gs : Nat) (A1 : Option Addr) (c1 : Nat) (A2 : Option Addr) (c2 : Nat) => [(gn, Cl 69 [.pointer (some ⟨gs, 0, none⟩)]), (gs, Cl 73 [.slice A1 s.times.l.length c1, s.last.val, .slice A2 s.outs.l.length c2])])) (inv := (fun (gn : Nat) (gs : Nat) (A1 : Option Addr) (c1 : Nat) (A2 : Option Addr) (c2 : Nat) => True)) (g7) (g8) (A1) (c1) (A2) (c2) (Base.Le.refl _) ⟨rfl, trivial⟩ ⟨rfl, trivial⟩ (by repeat (first | exact List.Sublist.refl _ | exact List.nil_sublist _ | exact List.sublist_append_left _ _ | exact List.sublist_append_right _ _ | exact (List.sublist_append_right _ _).trans (List.sublist_append_right _ _) | apply List.Sublist.cons_cons | apply List.Sublist.cons)) trivial
            exact r_nil
          exact r_nil
        exact r_nil
      exact r_nil
    exact r_nil
  ·
    intro gn gs A1 c1 A2 c2 hinv
    refine c_seq ?_
    refine c_seq ?_
    refine c_region ?_
    refine t_st rfl (st_move rfl) ?_
    refine t_st rfl (st_len rfl sl23) ?_
    refine t_st rfl (st_move rfl) ?_
    refine t_nil ?_
    refine x_then_normal ?_
    refine c_block ?_
    refine l_loop [(1, _), (6, _), (36, _), (37, _)] _ (fun (k : Nat) => [(38, .int .i64 (k : Int))]) (fun (k : Nat) => []) (fun (k : Nat) => k = 0) (fun (k : Nat) => 0) (0) ⟨rfl, trivial⟩ ⟨rfl, rfl, rfl, rfl, trivial⟩ rfl rfl ?_
    intro k hinv
    subst hinv
    refine c_seq ?_
    refine c_region ?_
    refine t_st rfl (st_lss_f rfl rfl (by simp)) ?_
    refine t_nil ?_
    refine x_then_normal ?_
    refine c_seq ?_
    refine c_cond_f rfl ?_
    refine c_exit ?_
    refine x_then_exit ?_
    refine x_then_exit ?_
    refine x_block_out ?_
    refine x_then_normal ?_
    refine c_seq ?_
    refine c_region ?_
    refine t_st rfl (st_load 0 rfl one69 rfl rfl) ?_
    refine t_st rfl (st_nil rfl) ?_
    refine t_st rfl (st_field rfl fld73_0) ?_
    refine t_st rfl (st_load 1 rfl one22 rfl rfl) ?_
    refine t_st rfl (st_len rfl sl22) ?_
    refine t_do rfl (u_mk (enc := encB) (by_ := 1) false s.times.l.length rfl rfl sl88 inf4 rfl rfl (by rw [hT]; simp) (by rw [hT]; simp)) ?_
    rintro _ _ ⟨g9, rfl, rfl⟩
    refine t_do rfl (u_alloc [.slice none 0 0] zero88 rfl) ?_
    rintro _ _ ⟨g10, rfl, rfl⟩
    refine t_do rfl (u_store 0 rfl rfl siz88 rfl rfl (by simp)) ?_
    rintro _ _ rfl
    refine t_nil ?_
    refine x_then_normal ?_
    refine c_seq ?_
    refine c_region ?_
    refine t_st rfl (st_load 2 rfl one69 rfl rfl) ?_
    refine t_st rfl (st_nil rfl) ?_
    refine t_st rfl (st_field rfl fld73_0) ?_
    refine t_st rfl (st_load 3 rfl one22 rfl rfl) ?_
    refine t_st rfl (st_len rfl sl22) ?_
    refine t_do rfl (u_mk (enc := encI) (by_ := 8) 0 s.times.l.length rfl rfl sl22 inf3 rfl rfl (by rw [hT]; simp) (by rw [hT]; simp)) ?_
    rintro _ _ ⟨g11, rfl, rfl⟩
    refine t_do rfl (u_alloc [.slice none 0 0] zero22 rfl) ?_
    rintro _ _ ⟨g12, rfl, rfl⟩
    refine t_do rfl (u_store 0 rfl rfl siz22 rfl rfl (by simp)) ?_
    rintro _ _ rfl
    refine t_nil ?_
    refine x_then_normal ?_
    refine c_seq ?_
    refine c_region ?_
    refine t_do rfl (u_alloc [.slice none 0 0] zero22 rfl) ?_
    rintro _ _ ⟨g13, rfl, rfl⟩
    refine t_nil ?_
    refine x_then_normal ?_
    refine c_seq ?_
    refine c_region ?_
    refine t_do rfl (u_alloc [.bool false] zero4 rfl) ?_
    rintro _ _ ⟨g14, rfl, rfl⟩
    refine t_do rfl (u_store 0 rfl rfl siz4 rfl rfl (by simp)) ?_
    rintro _ _ rfl
    refine t_nil ?_
    refine x_then_normal ?_
    refine c_seq ?_
    refine c_region ?_
    refine t_st rfl (st_func _ _ rfl rfl) ?_
    refine t_st rfl (st_assign rfl) ?_
    refine t_nil ?_
    refine x_then_normal ?_
    refine c_seq ?_
    refine c_seq ?_
    refine c_region ?_
    refine t_st rfl (st_move rfl) ?_
    refine t_st rfl (st_len rfl sl23) ?_
    refine t_st rfl (st_move rfl) ?_
    refine t_nil ?_
    refine x_then_normal ?_
    refine c_block ?_
    refine l_loop [(6, _), (9, _), (11, _), (12, _), (13, _), (75, _), (76, _)] _ (fun (k : Nat) => [(77, .int .i64 (k : Int))]) (fun (k : Nat) => []) (fun (k : Nat) => k = 0) (fun (k : Nat) => 0) (0) ⟨rfl, trivial⟩ ⟨rfl, rfl, rfl, rfl, rfl, rfl, rfl, trivial⟩ rfl rfl ?_
    intro k hinv
    subst hinv
    refine c_seq ?_
    refine c_region ?_
    refine t_st rfl (st_lss_f rfl rfl (by simp)) ?_
    refine t_nil ?_
    refine x_then_normal ?_
    refine c_seq ?_
    refine c_cond_f rfl ?_
    refine c_exit ?_
    refine x_then_exit ?_
    refine x_then_exit ?_
    refine x_block_out ?_
    refine x_then_normal ?_
    refine c_seq ?_
    refine c_region ?_
    refine t_st rfl (st_load 6 rfl one69 rfl rfl) ?_
    refine t_do rfl (u_callF [_, _, _, _, _, _, _, _] _ _ call62 rfl rfl (fun w ho => bound_c gs ⟨⟨A1, c1, []⟩, s.last, ⟨A2, c2, []⟩⟩ w ⟨by have h := ho.cell (i := 7) rfl 0; rw [h]; show some (Value.slice _ s.times.l.length c1) = _; rw [hT], ho.cell (i := 7) rfl 1, by have h := ho.cell (i := 7) rfl 2; rw [h]; show some (Value.slice _ s.outs.l.length c2) = _; rw [hO], Rd.nil, hS.last.old ho, Rd.nil, fun y hy => absurd hy (by simp)⟩ (fun x hx => absurd hx (by simp)) (fun y hy => absurd hy (by simp)) (by simp) (by simp) (fun y hy => absurd hy (by simp)))) ?_
    rintro _ _ ⟨_, rfl, rfl, rfl⟩
    refine t_st rfl (st_assign rfl) ?_
    refine t_nil ?_
    refine x_then_normal ?_
    refine c_seq ?_
    refine c_block ?_
    refine l_loop [(6, _), (9, _), (11, _), (12, _), (13, _), (16, _)] _ (fun (k : Nat) => []) (fun (k : Nat) => []) (fun (k : Nat) => True) (fun (k : Nat) => 0) (0) trivial ⟨rfl, rfl, rfl, rfl, rfl, rfl, trivial⟩ rfl trivial ?_
    intro k hinv
    refine c_seq ?_
    refine c_seq ?_
    refine c_region ?_
    refine t_st rfl (st_load 1 rfl one22 rfl rfl) ?_
    refine t_st rfl (st_len rfl sl22) ?_
    refine t_st rfl (st_gtr_f rfl rfl (by simp)) ?_
    refine t_st rfl (st_move rfl) ?_
    refine t_no 90 rfl rfl rfl rfl rfl ?_
    refine t_st rfl (st_pick_f rfl rfl) ?_
    refine t_nil ?_
    refine x_then_normal ?_
    refine c_cond_f rfl ?_
    refine c_exit ?_
    refine x_then_exit ?_
    refine x_then_exit ?_
    refine x_block_out ?_
    refine x_then_normal ?_
    refine c_seq ?_
    refine c_draw mixed ?_
    refine d_st 0 rfl (by kernel_rfl) (by kernel_rfl) (by kernel_rfl) rfl (st_load 6 rfl one69 rfl rfl) (List.Sublist.refl _) ?_
    refine d_st 1 rfl (by kernel_rfl) (by kernel_rfl) (by kernel_rfl) rfl (st_load 0 rfl one4 rfl rfl) (List.Sublist.refl _) ?_
    refine d_st 2 rfl (by kernel_rfl) (by kernel_rfl) (by kernel_rfl) rfl (st_assign rfl) (List.Sublist.refl _) ?_
    refine d_st 3 rfl (by kernel_rfl) (by kernel_rfl) (by kernel_rfl) rfl (st_assign rfl) (List.Sublist.refl _) ?_
    refine d_done (by kernel_rfl) ?_
    refine x_then_normal ?_
    refine c_ret ?_
    refine x_drop (hp' := (gs, Cl 73 [.slice A1 s.times.l.length c1, s.last.val, .slice A2 s.outs.l.length c2]) :: hp) (by repeat (first | exact List.Sublist.refl _ | exact List.nil_sublist _ | exact List.sublist_append_left _ _ | exact List.sublist_append_right _ _ | exact (List.sublist_append_right _ _).trans (List.sublist_append_right _ _) | apply List.Sublist.cons_cons | apply List.Sublist.cons)) ?_
    refine x_freeze [_] _ rfl ?_
    intro b3 hle3 hfz3
    have hz1 := hfz3 _ (List.mem_singleton.2 rfl)
    exact retB2 ((Base.Le.refl _).trans hle3) rfl rfl rfl (.inr ⟨gs, ⟨⟨A1, c1, []⟩, s.last, ⟨A2, c2, []⟩⟩, by simp [withF, So.sv, hT, hO, tries, q0, runQ, loopQ, addOuts], rfl, ⟨by rw [cell_fz hz1 0 rfl, hT], cell_fz hz1 1 rfl, by rw [cell_fz hz1 2 rfl, hO], Rd.nil, hS.last.le hle3, Rd.nil, fun y hy => absurd hy (by simp)⟩, rfl, fun y hy => absurd hy (by simp)⟩)

end Go.Proofs.Ytakehdnblmonlaa
