/- The contract of Best. -/
import Derived.Test.YtakehdnblmonlaaM28
namespace Go.Proofs.Ytakehdnblmonlaa
open Go.RowKit Go.Fp

set_option maxRecDepth 10000 in
theorem Best_c (b : Base) (hp : Hp) (g : Gr) (hg : GrOk b.w g) (hV : GraphV g) : CallsB Try.prog 16 [g.val] b hp (BeR g) := by
  have hnr := hV.nr
  have hnc := hV.nc
  refine fn_enterB 58 Try.func16 rfl Try.ntmps16 rfl ?_
  refine c_seq ?_
  refine c_region ?_
  refine t_do rfl (u_box _ rfl rfl) ?_
  rintro _ _ ⟨g1, rfl, rfl⟩
  refine t_st rfl (st_assign rfl) ?_
  refine t_st rfl (st_assign rfl) ?_
  refine t_st rfl (st_assign rfl) ?_
  refine t_nil ?_
  refine x_then_normal ?_
  refine c_seq ?_
  refine c_seq ?_
  refine c_region ?_
  refine t_st rfl (st_loadD (vs := [_, _, _, _, _]) 0 5 rfl agg26 rfl rfl rfl) ?_
  refine t_do rfl (u_callf _ call36 rfl (fun w ho => CheckGraph_c g w (hg.old ho))) ?_
  rintro _ _ ⟨_, rfl, r, rfl, hr, rfl⟩
  refine t_st rfl (st_assign rfl) ?_
  refine t_nil ?_
  refine x_then_normal ?_
  refine c_seq ?_
  refine c_region ?_
  refine t_st rfl (st_move rfl) ?_
  refine t_st rfl (st_neq_f rfl rfl (by have := hr.2 hV; omega)) ?_
  refine t_nil ?_
  refine x_then_normal ?_
  refine c_cond_f rfl ?_
  refine c_skip ?_
  refine x_then_normal ?_
  refine c_seq ?_
  refine D_draw mixed ?_
  refine D_st (Base.Le.refl _) 0 rfl (by kernel_rfl) (by kernel_rfl) (by kernel_rfl) rfl (st_loadD (vs := [_, _, _, _, _]) 0 5 rfl agg26 rfl rfl rfl) (by repeat (first | exact List.Sublist.refl _ | exact List.nil_sublist _ | exact List.sublist_append_left _ _ | exact List.sublist_append_right _ _ | exact (List.sublist_append_right _ _).trans (List.sublist_append_right _ _) | apply List.Sublist.cons_cons | apply List.Sublist.cons)) ?_
  refine D_st (Base.Le.refl _) 1 rfl (by kernel_rfl) (by kernel_rfl) (by kernel_rfl) rfl (st_field rfl fld26_4) (by repeat (first | exact List.Sublist.refl _ | exact List.nil_sublist _ | exact List.sublist_append_left _ _ | exact List.sublist_append_right _ _ | exact (List.sublist_append_right _ _).trans (List.sublist_append_right _ _) | apply List.Sublist.cons_cons | apply List.Sublist.cons)) ?_
  refine D_st (Base.Le.refl _) 2 rfl (by kernel_rfl) (by kernel_rfl) (by kernel_rfl) rfl (st_load 0 rfl one24 rfl rfl) (by repeat (first | exact List.Sublist.refl _ | exact List.nil_sublist _ | exact List.sublist_append_left _ _ | exact List.sublist_append_right _ _ | exact (List.sublist_append_right _ _).trans (List.sublist_append_right _ _) | apply List.Sublist.cons_cons | apply List.Sublist.cons)) ?_
  refine D_st (Base.Le.refl _) 3 rfl (by kernel_rfl) (by kernel_rfl) (by kernel_rfl) rfl (st_len rfl sl24) (by repeat (first | exact List.Sublist.refl _ | exact List.nil_sublist _ | exact List.sublist_append_left _ _ | exact List.sublist_append_right _ _ | exact (List.sublist_append_right _ _).trans (List.sublist_append_right _ _) | apply List.Sublist.cons_cons | apply List.Sublist.cons)) ?_
  refine D_all [4, 10] (by kernel_rfl) rfl ?_
  refine R_do (Base.Le.refl _) rfl rfl (u_mk (enc := encI) (by_ := 8) 0 g.choices.l.length rfl rfl sl22 inf3 rfl rfl (by omega) (by omega)) ?_ ?_
  ·
    rintro _ _ ⟨gM, rfl, rfl⟩
    refine ⟨.inr (by repeat (first | exact List.Sublist.refl _ | exact List.nil_sublist _ | exact List.sublist_append_left _ _ | exact List.sublist_append_right _ _ | exact (List.sublist_append_right _ _).trans (List.sublist_append_right _ _) | apply List.Sublist.cons_cons | apply List.Sublist.cons)), ?_⟩
    refine D_freeze [_] _ rfl ?_
    intro b1 hle1 hfz1
    have hz1 : Rd b1.w (some ⟨gM, 0, none⟩) (rows encI (List.replicate g.choices.l.length 0)) := (Rd.fz (hfz1 _ (List.mem_singleton.2 rfl))).left
    have hg := hg.le hle1
    refine D_all [5, 10] (by kernel_rfl) rfl ?_
    refine R_callG hle1 rfl rfl _ call39 rfl (forced_F [_] hp _ _ g _ _ _ (List.replicate g.choices.l.length 0) rfl (by simp) hg hz1 hV (pickV_zero g)) ?_ ?_
    ·
      rintro _ b2 hp2 hle2 (⟨rfl, rfl, hno⟩ | ⟨A1, c1, p1, gs1, s1, hs1, rfl, rfl, hbk1, hP1, hS1, hl1, hps1, hag1⟩)
      ·
        refine ⟨(by repeat (first | exact List.Sublist.refl _ | exact List.nil_sublist _ | exact List.sublist_append_left _ _ | exact List.sublist_append_right _ _ | exact (List.sublist_append_right _ _).trans (List.sublist_append_right _ _) | apply List.Sublist.cons_cons | apply List.Sublist.cons)), ?_⟩
        have hg := hg.le hle2
        refine D_st (hle1.trans hle2) 6 rfl (by kernel_rfl) (by kernel_rfl) (by kernel_rfl) rfl (st_move rfl) (by repeat (first | exact List.Sublist.refl _ | exact List.nil_sublist _ | exact List.sublist_append_left _ _ | exact List.sublist_append_right _ _ | exact (List.sublist_append_right _ _).trans (List.sublist_append_right _ _) | apply List.Sublist.cons_cons | apply List.Sublist.cons)) ?_
        refine D_st (hle1.trans hle2) 7 rfl (by kernel_rfl) (by kernel_rfl) (by kernel_rfl) rfl (st_extract rfl rfl) (by repeat (first | exact List.Sublist.refl _ | exact List.nil_sublist _ | exact List.sublist_append_left _ _ | exact List.sublist_append_right _ _ | exact (List.sublist_append_right _ _).trans (List.sublist_append_right _ _) | apply List.Sublist.cons_cons | apply List.Sublist.cons)) ?_
        refine D_st (hle1.trans hle2) 8 rfl (by kernel_rfl) (by kernel_rfl) (by kernel_rfl) rfl (st_extract rfl rfl) (by repeat (first | exact List.Sublist.refl _ | exact List.nil_sublist _ | exact List.sublist_append_left _ _ | exact List.sublist_append_right _ _ | exact (List.sublist_append_right _ _).trans (List.sublist_append_right _ _) | apply List.Sublist.cons_cons | apply List.Sublist.cons)) ?_
        refine D_st (hle1.trans hle2) 9 rfl (by kernel_rfl) (by kernel_rfl) (by kernel_rfl) rfl (st_extract rfl rfl) (by repeat (first | exact List.Sublist.refl _ | exact List.nil_sublist _ | exact List.sublist_append_left _ _ | exact List.sublist_append_right _ _ | exact (List.sublist_append_right _ _).trans (List.sublist_append_right _ _) | apply List.Sublist.cons_cons | apply List.Sublist.cons)) ?_
        refine D_all [10] (by kernel_rfl) rfl ?_
        refine R_do (hle1.trans hle2) rfl rfl (u_alloc [.slice none 0 0] zero22 rfl) ?_ ?_
        ·
          rintro _ _ ⟨g2, rfl, rfl⟩
          refine ⟨.inr (by repeat (first | exact List.Sublist.refl _ | exact List.nil_sublist _ | exact List.sublist_append_left _ _ | exact List.sublist_append_right _ _ | exact (List.sublist_append_right _ _).trans (List.sublist_append_right _ _) | apply List.Sublist.cons_cons | apply List.Sublist.cons)), ?_⟩
          refine D_all [11] (by kernel_rfl) rfl ?_
          refine R_do (hle1.trans hle2) rfl rfl (u_store 0 rfl rfl siz22 rfl rfl (by simp)) ?_ ?_
          ·
            rintro _ _ rfl
            refine ⟨.inr (by repeat (first | exact List.Sublist.refl _ | exact List.nil_sublist _ | exact List.sublist_append_left _ _ | exact List.sublist_append_right _ _ | exact (List.sublist_append_right _ _).trans (List.sublist_append_right _ _) | apply List.Sublist.cons_cons | apply List.Sublist.cons)), ?_⟩
            refine D_st (hle1.trans hle2) 12 rfl (by kernel_rfl) (by kernel_rfl) (by kernel_rfl) rfl (st_assign rfl) (by repeat (first | exact List.Sublist.refl _ | exact List.nil_sublist _ | exact List.sublist_append_left _ _ | exact List.sublist_append_right _ _ | exact (List.sublist_append_right _ _).trans (List.sublist_append_right _ _) | apply List.Sublist.cons_cons | apply List.Sublist.cons)) ?_
            refine D_st (hle1.trans hle2) 13 rfl (by kernel_rfl) (by kernel_rfl) (by kernel_rfl) rfl (st_assign rfl) (by repeat (first | exact List.Sublist.refl _ | exact List.nil_sublist _ | exact List.sublist_append_left _ _ | exact List.sublist_append_right _ _ | exact (List.sublist_append_right _ _).trans (List.sublist_append_right _ _) | apply List.Sublist.cons_cons | apply List.Sublist.cons)) ?_
            refine D_done (by kernel_rfl) ?_
            refine x_then_normal ?_
            refine c_seq ?_
            refine c_seq ?_
            refine c_region ?_
            refine t_st rfl (st_move rfl) ?_
            refine t_st rfl (st_not_f rfl) ?_
            refine t_nil ?_
            refine x_then_normal ?_
            refine c_cond_t rfl ?_
            refine c_seq ?_
            refine c_region ?_
            refine t_st rfl (st_assign rfl) ?_
            refine t_st rfl (st_assign rfl) ?_
            refine t_st rfl (st_assign rfl) ?_
            refine t_nil ?_
            refine x_then_normal ?_
            refine c_ret ?_
            refine x_then_ret ?_
            refine x_drop (hp' := hp) (by repeat (first | exact List.Sublist.refl _ | exact List.nil_sublist _ | exact List.sublist_append_left _ _ | exact List.sublist_append_right _ _ | exact (List.sublist_append_right _ _).trans (List.sublist_append_right _ _) | apply List.Sublist.cons_cons | apply List.Sublist.cons)) ?_
            exact retB3 (hle1.trans hle2) rfl rfl rfl rfl (.inl ⟨rfl, hno⟩)
          exact R_nil
        exact R_nil
      ·
        refine ⟨(by repeat (first | exact List.Sublist.refl _ | exact List.nil_sublist _ | exact List.sublist_append_left _ _ | exact List.sublist_append_right _ _ | exact (List.sublist_append_right _ _).trans (List.sublist_append_right _ _) | apply List.Sublist.cons_cons | apply List.Sublist.cons)), ?_⟩
        have hg := hg.le hle2
        refine D_st (hle1.trans hle2) 6 rfl (by kernel_rfl) (by kernel_rfl) (by kernel_rfl) rfl (st_move rfl) (by repeat (first | exact List.Sublist.refl _ | exact List.nil_sublist _ | exact List.sublist_append_left _ _ | exact List.sublist_append_right _ _ | exact (List.sublist_append_right _ _).trans (List.sublist_append_right _ _) | apply List.Sublist.cons_cons | apply List.Sublist.cons)) ?_
        refine D_st (hle1.trans hle2) 7 rfl (by kernel_rfl) (by kernel_rfl) (by kernel_rfl) rfl (st_extract rfl rfl) (by repeat (first | exact List.Sublist.refl _ | exact List.nil_sublist _ | exact List.sublist_append_left _ _ | exact List.sublist_append_right _ _ | exact (List.sublist_append_right _ _).trans (List.sublist_append_right _ _) | apply List.Sublist.cons_cons | apply List.Sublist.cons)) ?_
        refine D_st (hle1.trans hle2) 8 rfl (by kernel_rfl) (by kernel_rfl) (by kernel_rfl) rfl (st_extract rfl rfl) (by repeat (first | exact List.Sublist.refl _ | exact List.nil_sublist _ | exact List.sublist_append_left _ _ | exact List.sublist_append_right _ _ | exact (List.sublist_append_right _ _).trans (List.sublist_append_right _ _) | apply List.Sublist.cons_cons | apply List.Sublist.cons)) ?_
        refine D_st (hle1.trans hle2) 9 rfl (by kernel_rfl) (by kernel_rfl) (by kernel_rfl) rfl (st_extract rfl rfl) (by repeat (first | exact List.Sublist.refl _ | exact List.nil_sublist _ | exact List.sublist_append_left _ _ | exact List.sublist_append_right _ _ | exact (List.sublist_append_right _ _).trans (List.sublist_append_right _ _) | apply List.Sublist.cons_cons | apply List.Sublist.cons)) ?_
        refine D_all [10] (by kernel_rfl) rfl ?_
        refine R_do (hle1.trans hle2) rfl rfl (u_alloc [.slice none 0 0] zero22 rfl) ?_ ?_
        ·
          rintro _ _ ⟨g3, rfl, rfl⟩
          refine ⟨.inr (by repeat (first | exact List.Sublist.refl _ | exact List.nil_sublist _ | exact List.sublist_append_left _ _ | exact List.sublist_append_right _ _ | exact (List.sublist_append_right _ _).trans (List.sublist_append_right _ _) | apply List.Sublist.cons_cons | apply List.Sublist.cons)), ?_⟩
          refine D_all [11] (by kernel_rfl) rfl ?_
          refine R_do (hle1.trans hle2) rfl rfl (u_store 0 rfl rfl siz22 rfl rfl (by simp)) ?_ ?_
          ·
            rintro _ _ rfl
            refine ⟨.inr (by repeat (first | exact List.Sublist.refl _ | exact List.nil_sublist _ | exact List.sublist_append_left _ _ | exact List.sublist_append_right _ _ | exact (List.sublist_append_right _ _).trans (List.sublist_append_right _ _) | apply List.Sublist.cons_cons | apply List.Sublist.cons)), ?_⟩
            refine D_st (hle1.trans hle2) 12 rfl (by kernel_rfl) (by kernel_rfl) (by kernel_rfl) rfl (st_assign rfl) (by repeat (first | exact List.Sublist.refl _ | exact List.nil_sublist _ | exact List.sublist_append_left _ _ | exact List.sublist_append_right _ _ | exact (List.sublist_append_right _ _).trans (List.sublist_append_right _ _) | apply List.Sublist.cons_cons | apply List.Sublist.cons)) ?_
            refine D_st (hle1.trans hle2) 13 rfl (by kernel_rfl) (by kernel_rfl) (by kernel_rfl) rfl (st_assign rfl) (by repeat (first | exact List.Sublist.refl _ | exact List.nil_sublist _ | exact List.sublist_append_left _ _ | exact List.sublist_append_right _ _ | exact (List.sublist_append_right _ _).trans (List.sublist_append_right _ _) | apply List.Sublist.cons_cons | apply List.Sublist.cons)) ?_
            refine D_done (by kernel_rfl) ?_
            refine x_then_normal ?_
            refine c_seq ?_
            refine c_seq ?_
            refine c_region ?_
            refine t_st rfl (st_move rfl) ?_
            refine t_st rfl (st_not_t rfl) ?_
            refine t_nil ?_
            refine x_then_normal ?_
            refine c_cond_f rfl ?_
            refine c_skip ?_
            refine x_then_normal ?_
            refine c_seq ?_
            refine c_region ?_
            refine t_do rfl (u_alloc [.slice none 0 0] zero22 rfl) ?_
            rintro _ _ ⟨g4, rfl, rfl⟩
            refine t_nil ?_
            refine x_then_normal ?_
            refine c_seq ?_
            refine c_seq ?_
            refine c_region ?_
            refine t_st rfl (st_load 1 rfl one22 rfl rfl) ?_
            refine t_st rfl (st_len rfl sl22) ?_
            refine t_st rfl (st_move rfl) ?_
            refine t_nil ?_
            refine x_then_normal ?_
            refine c_block ?_
            refine c_pull 1 rfl ?_
            refine c_pull 2 rfl ?_
            refine c_pull 2 rfl ?_
            refine l_loop5 [(1, _), (6, _), (7, _), (9, _), (33, _), (34, _)] _ (fun (k : Nat) (Ao : Option Addr) (co : Nat) (ol : List Int) (hsO : Hp) => [(35, .int .i64 (k : Int))]) (fun (k : Nat) (Ao : Option Addr) (co : Nat) (ol : List Int) (hsO : Hp) => [(g4, Cl 22 [.slice Ao ol.length co]), (g1, Cl 26 g.cells), (g3, Cl 22 [.slice A1 p1.length c1])] ++ hsO) (fun (k : Nat) (Ao : Option Addr) (co : Nat) (ol : List Int) (hsO : Hp) => k ≤ p1.length ∧ Seg 3 1 (.slice Ao ol.length co) ol.length (rows encI ol) hsO ∧ OL p1 k ol) (fun (k : Nat) (Ao : Option Addr) (co : Nat) (ol : List Int) (hsO : Hp) => p1.length - k) (0) (none) (0) ([]) ([]) ⟨rfl, trivial⟩ ⟨rfl, rfl, rfl, rfl, rfl, rfl, trivial⟩ rfl ⟨by omega, Seg.nil, OL.zero⟩ ?_
            intro k Ao co ol hsO hinv
            obtain ⟨hk, hseg, hol⟩ := hinv
            have holl := hol.len
            have hpl1 := hP1.1
            refine c_seq ?_
            refine c_region ?_
            refine t_bool rfl (st_lss rfl rfl) (fun hc5 => ?_) (fun hc5 => ?_)
            ·
              refine t_nil ?_
              refine x_then_normal ?_
              refine c_seq ?_
              refine c_cond_t rfl ?_
              refine c_skip ?_
              refine x_then_normal ?_
              refine c_seq ?_
              refine c_block ?_
              refine c_seq ?_
              refine c_region ?_
              obtain ⟨x, hx⟩ := ex_get (l := p1) (k := k) (by omega)
              refine t_st rfl (st_move rfl) ?_
              refine t_st rfl (st_index_old k rfl rfl rfl (by omega) (bk_some hbk1 (by omega : k < p1.length)) sl22) ?_
              refine t_st rfl (st_load_rd rfl one3 (fun w ho => (bk_own ([_, _, _] ++ hsO) hp hbk1 rfl ho).int hx)) ?_
              refine t_st rfl (st_assign rfl) ?_
              refine t_st rfl (st_assign rfl) ?_
              refine t_nil ?_
              refine x_then_normal ?_
              refine c_seq ?_
              refine c_region ?_
              refine t_st rfl (st_move rfl) ?_
              refine t_bool rfl (st_eql rfl rfl) (fun hc6 => ?_) (fun hc6 => ?_)
              ·
                refine t_nil ?_
                refine x_then_normal ?_
                refine c_cond_t rfl ?_
                refine c_region ?_
                refine t_st rfl (st_load 0 rfl one22 rfl rfl) ?_
                refine t_st rfl (st_move rfl) ?_
                refine t_do rfl (u_bslice (el := 3) [(0, .int .i64 (k : Int))] [.int .i64 (k : Int)] rfl (fun _ => by kernel_rfl)) ?_
                rintro _ _ ⟨g99, rfl, rfl⟩
                refine t_do rfl (u_appF [_, _, _, _] hsO _ [.int .i64 (k : Int)] sl22 inf3 rfl (by decide) rfl rfl hseg rfl rfl (fun w ho => Rd.own (i := 0) ho rfl) (encI_one (k : Int)) (by omega) (by omega)) ?_
                rintro _ _ ⟨hs8, rfl, hseg8⟩
                obtain ⟨A8, c8, rfl, hcm8⟩ := hseg8.form
                have hlen8 : ol.length + 1 = (ol ++ [(k : Int)]).length := by simp
                refine t_do rfl (u_store 1 rfl rfl siz22 rfl rfl (by simp)) ?_
                rintro _ _ rfl
                refine t_nil ?_
                refine x_block_normal ?_
                refine x_then_normal ?_
                refine c_region ?_
                refine t_st rfl (st_add rfl rfl (by omega)) ?_
                refine t_st rfl (st_move rfl) ?_
                refine t_nil ?_
                rw [hlen8]
                exact x_again5 (ev := (fun (k : Nat) (Ao : Option Addr) (co : Nat) (ol : List Int) (hsO : Hp) => [(35, .int .i64 (k : Int))])) (hv := (fun (k : Nat) (Ao : Option Addr) (co : Nat) (ol : List Int) (hsO : Hp) => [(g4, Cl 22 [.slice Ao ol.length co]), (g1, Cl 26 g.cells), (g3, Cl 22 [.slice A1 p1.length c1])] ++ hsO)) (inv := (fun (k : Nat) (Ao : Option Addr) (co : Nat) (ol : List Int) (hsO : Hp) => k ≤ p1.length ∧ Seg 3 1 (.slice Ao ol.length co) ol.length (rows encI ol) hsO ∧ OL p1 k ol)) (μ := (fun (k : Nat) (Ao : Option Addr) (co : Nat) (ol : List Int) (hsO : Hp) => p1.length - k)) (k + 1) (A8) (c8) (ol ++ [(k : Int)]) (hs8) (Base.Le.refl _) ⟨rfl, trivial⟩ ⟨rfl, rfl, rfl, rfl, rfl, rfl, trivial⟩ (by repeat (first | exact List.Sublist.refl _ | exact List.nil_sublist _ | exact List.sublist_append_left _ _ | exact List.sublist_append_right _ _ | exact (List.sublist_append_right _ _).trans (List.sublist_append_right _ _) | apply List.Sublist.cons_cons | apply List.Sublist.cons)) ⟨by omega, by rw [rows_append, List.length_append]; exact hseg8, hol.hit hx (by omega)⟩ (by omega)
              ·
                refine t_nil ?_
                refine x_then_normal ?_
                refine c_cond_f rfl ?_
                refine c_skip ?_
                refine x_block_normal ?_
                refine x_then_normal ?_
                refine c_region ?_
                refine t_st rfl (st_add rfl rfl (by omega)) ?_
                refine t_st rfl (st_move rfl) ?_
                refine t_nil ?_
                exact x_again5 (ev := (fun (k : Nat) (Ao : Option Addr) (co : Nat) (ol : List Int) (hsO : Hp) => [(35, .int .i64 (k : Int))])) (hv := (fun (k : Nat) (Ao : Option Addr) (co : Nat) (ol : List Int) (hsO : Hp) => [(g4, Cl 22 [.slice Ao ol.length co]), (g1, Cl 26 g.cells), (g3, Cl 22 [.slice A1 p1.length c1])] ++ hsO)) (inv := (fun (k : Nat) (Ao : Option Addr) (co : Nat) (ol : List Int) (hsO : Hp) => k ≤ p1.length ∧ Seg 3 1 (.slice Ao ol.length co) ol.length (rows encI ol) hsO ∧ OL p1 k ol)) (μ := (fun (k : Nat) (Ao : Option Addr) (co : Nat) (ol : List Int) (hsO : Hp) => p1.length - k)) (k + 1) (Ao) (co) (ol) (hsO) (Base.Le.refl _) ⟨rfl, trivial⟩ ⟨rfl, rfl, rfl, rfl, rfl, rfl, trivial⟩ (by repeat (first | exact List.Sublist.refl _ | exact List.nil_sublist _ | exact List.sublist_append_left _ _ | exact List.sublist_append_right _ _ | exact (List.sublist_append_right _ _).trans (List.sublist_append_right _ _) | apply List.Sublist.cons_cons | apply List.Sublist.cons)) ⟨by omega, hseg, hol.miss hx (by omega)⟩ (by omega)
            ·
              refine t_nil ?_
              refine x_then_normal ?_
              refine c_seq ?_
              refine c_cond_f rfl ?_
              refine c_exit ?_
              refine x_then_exit ?_
              refine x_then_exit ?_
              refine x_block_out ?_
              refine x_then_normal ?_
              refine c_seq ?_
              refine c_seq ?_
              refine c_region ?_
              refine t_st rfl (st_load 0 rfl one22 rfl rfl) ?_
              refine t_st rfl (st_len rfl sl22) ?_
              refine t_bool rfl (st_gtr rfl rfl) (fun hc7 => ?_) (fun hc7 => ?_)
              ·
                refine t_nil ?_
                refine x_then_normal ?_
                refine c_cond_t rfl ?_
                refine c_seq ?_
                refine c_region ?_
                refine t_st rfl (st_assign rfl) ?_
                refine t_st rfl (st_assign rfl) ?_
                refine t_st rfl (st_assign rfl) ?_
                refine t_nil ?_
                refine x_then_normal ?_
                refine c_ret ?_
                refine x_then_ret ?_
                refine x_drop (hp' := hp) (by repeat (first | exact List.Sublist.refl _ | exact List.nil_sublist _ | exact List.sublist_append_left _ _ | exact List.sublist_append_right _ _ | exact (List.sublist_append_right _ _).trans (List.sublist_append_right _ _) | apply List.Sublist.cons_cons | apply List.Sublist.cons)) ?_
                exact retB3 (hle1.trans hle2) rfl rfl rfl rfl (.inr (.inl rfl))
              ·
                refine t_nil ?_
                refine x_then_normal ?_
                refine c_cond_f rfl ?_
                refine c_skip ?_
                refine x_then_normal ?_
                refine c_seq ?_
                refine c_freezeF [_, _, _] hsO _ rfl ?_
                intro b3 hle3 hfz3
                have hO : Rd b3.w Ao (rows encI ol) := hseg.rd hfz3
                have hg := hg.le hle3
                have hS1 := hS1.le hle3
                refine c_region ?_
                refine t_do rfl (u_alloc [.slice none 0 0] zero22 rfl) ?_
                rintro _ _ ⟨g8, rfl, rfl⟩
                refine t_do rfl (u_alloc [.slice none 0 0] zero22 rfl) ?_
                rintro _ _ ⟨g9, rfl, rfl⟩
                refine t_nil ?_
                refine x_then_normal ?_
                refine c_seq ?_
                refine c_region ?_
                refine t_do rfl (u_alloc [.int .i64 0] zero3 rfl) ?_
                rintro _ _ ⟨g10, rfl, rfl⟩
                refine t_do rfl (u_store 0 rfl rfl siz3 rfl rfl (by simp)) ?_
                rintro _ _ rfl
                refine t_nil ?_
                refine x_then_normal ?_
                refine c_seq ?_
                refine c_region ?_
                refine t_do rfl (u_alloc [.nilFunc] zero79 rfl) ?_
                rintro _ _ ⟨g11, rfl, rfl⟩
                refine t_nil ?_
                refine x_then_normal ?_
                refine c_seq ?_
                refine c_region ?_
                refine t_st rfl (st_func _ _ rfl rfl) ?_
                refine t_do rfl (u_store 0 rfl rfl siz79 rfl rfl (by simp)) ?_
                rintro _ _ rfl
                refine t_nil ?_
                refine x_then_normal ?_
                refine c_seq ?_
                refine c_region ?_
                refine t_st rfl (st_load 0 rfl one79 rfl rfl) ?_
                refine t_st rfl (st_move rfl) ?_
                refine t_pull 0 rfl ?_
                refine t_pull 2 rfl ?_
                refine t_pull 3 rfl ?_
                refine t_pull 6 rfl ?_
                refine t_pull 5 rfl ?_
                refine t_pull 5 rfl ?_
                refine t_pull 6 rfl ?_
                refine t_callvG #[] (Bl.caps ⟨g1, g10, g4, g3, g8, g9, g11, c1, ⟨Ao, co, ol⟩⟩) [.int .i64 0, .pointer (some ⟨gs1, 0, none⟩)] rfl rfl call40 rfl (best1_c g ⟨g1, g10, g4, g3, g8, g9, g11, c1, ⟨Ao, co, ol⟩⟩ hp hV hol.nd (by show ol.length ≤ 10; omega) (fun x hx => by have := hol.lt x hx; omega) ol.length 0 (by omega) rfl b3 A1 p1 hs1 gs1 s1 (-1) (.slice none 0 0) (.slice none 0 0) ⟨hg, hO, hbk1, hP1, hS1, hl1, hps1, hol.oi (by omega), .inl (by decide)⟩) ?_
                rintro _ b4 hp4 hle4 (⟨rfl, l4, vb4, vt4, rfl, hli4, hmo4, hco4⟩)
                ·
                  have hg := hg.le hle4
                  refine t_nil ?_
                  refine x_then_normal ?_
                  refine c_seq ?_
                  refine c_seq ?_
                  refine c_region ?_
                  refine t_st rfl (st_load 1 rfl one3 rfl rfl) ?_
                  refine t_bool rfl (st_lss rfl rfl) (fun hc12 => ?_) (fun hc12 => ?_)
                  ·
                    refine t_nil ?_
                    refine x_then_normal ?_
                    refine c_cond_t rfl ?_
                    refine c_seq ?_
                    refine c_region ?_
                    refine t_st rfl (st_assign rfl) ?_
                    refine t_st rfl (st_assign rfl) ?_
                    refine t_st rfl (st_assign rfl) ?_
                    refine t_nil ?_
                    refine x_then_normal ?_
                    refine c_ret ?_
                    refine x_then_ret ?_
                    refine x_drop (hp' := hp) (by repeat (first | exact List.Sublist.refl _ | exact List.nil_sublist _ | exact List.sublist_append_left _ _ | exact List.sublist_append_right _ _ | exact (List.sublist_append_right _ _).trans (List.sublist_append_right _ _) | apply List.Sublist.cons_cons | apply List.Sublist.cons)) ?_
                    exact retB3 (((hle1.trans hle2).trans hle3).trans hle4) rfl rfl rfl rfl (.inl ⟨rfl, fun F sF h1 h2 h3 h4 => by have := hco4 F sF h1 h2 h3 (hag1 F sF h1 h2 h3 h4); omega⟩)
                  ·
                    refine t_nil ?_
                    refine x_then_normal ?_
                    refine c_cond_f rfl ?_
                    refine c_skip ?_
                    refine x_then_normal ?_
                    refine c_seq ?_
                    obtain ⟨F4, s4, t4, hPF4, hFu4, hPS4, rfl, hst4, hl4, hRt4⟩ := hli4.resolve_left (by omega)
                    refine c_draw mixed ?_
                    refine d_st 0 rfl (by kernel_rfl) (by kernel_rfl) (by kernel_rfl) rfl (st_load 4 rfl one22 rfl rfl) (List.Sublist.refl _) ?_
                    refine d_st 1 rfl (by kernel_rfl) (by kernel_rfl) (by kernel_rfl) rfl (st_load 5 rfl one22 rfl rfl) (List.Sublist.refl _) ?_
                    refine d_st 2 rfl (by kernel_rfl) (by kernel_rfl) (by kernel_rfl) rfl (st_assign rfl) (List.Sublist.refl _) ?_
                    refine d_st 3 rfl (by kernel_rfl) (by kernel_rfl) (by kernel_rfl) rfl (st_assign rfl) (List.Sublist.refl _) ?_
                    refine d_st 4 rfl (by kernel_rfl) (by kernel_rfl) (by kernel_rfl) rfl (st_assign rfl) (List.Sublist.refl _) ?_
                    refine d_done (by kernel_rfl) ?_
                    refine x_then_normal ?_
                    refine c_ret ?_
                    refine x_drop (hp' := hp) (by repeat (first | exact List.Sublist.refl _ | exact List.nil_sublist _ | exact List.sublist_append_left _ _ | exact List.sublist_append_right _ _ | exact (List.sublist_append_right _ _).trans (List.sublist_append_right _ _) | apply List.Sublist.cons_cons | apply List.Sublist.cons)) ?_
                    exact retB3 (((hle1.trans hle2).trans hle3).trans hle4) rfl rfl rfl rfl (.inr (.inr ⟨vb4, t4, F4, s4, rfl, hRt4, hPF4, hFu4, hPS4, hst4, fun F' s' h1 h2 h3 => by rw [← hl4]; exact (hco4 F' s' h1 h2 h3 (hag1 F' s' h1 h2 h3 (agree_zero h1.1))).2⟩))
          exact R_nil
        exact R_nil
    refine R_do hle1 rfl rfl (u_alloc [.slice none 0 0] zero22 rfl) ?_ ?_
    ·
      rintro _ _ ⟨g13, rfl, rfl⟩
      refine ⟨.inr (by repeat (first | exact List.Sublist.refl _ | exact List.nil_sublist _ | exact List.sublist_append_left _ _ | exact List.sublist_append_right _ _ | exact (List.sublist_append_right _ _).trans (List.sublist_append_right _ _) | apply List.Sublist.cons_cons | apply List.Sublist.cons)), ?_⟩
      refine D_all [5] (by kernel_rfl) rfl ?_
      refine R_callG hle1 rfl rfl _ call39 rfl (forced_F [_, _] hp _ _ g _ _ _ (List.replicate g.choices.l.length 0) rfl (by simp) hg hz1 hV (pickV_zero g)) ?_ ?_
      ·
        rintro _ b2 hp2 hle2 (⟨rfl, rfl, hno⟩ | ⟨A1, c1, p1, gs1, s1, hs1, rfl, rfl, hbk1, hP1, hS1, hl1, hps1, hag1⟩)
        ·
          refine ⟨(by repeat (first | exact List.Sublist.refl _ | exact List.nil_sublist _ | exact List.sublist_append_left _ _ | exact List.sublist_append_right _ _ | exact (List.sublist_append_right _ _).trans (List.sublist_append_right _ _) | apply List.Sublist.cons_cons | apply List.Sublist.cons)), ?_⟩
          have hg := hg.le hle2
          refine D_st (hle1.trans hle2) 6 rfl (by kernel_rfl) (by kernel_rfl) (by kernel_rfl) rfl (st_move rfl) (by repeat (first | exact List.Sublist.refl _ | exact List.nil_sublist _ | exact List.sublist_append_left _ _ | exact List.sublist_append_right _ _ | exact (List.sublist_append_right _ _).trans (List.sublist_append_right _ _) | apply List.Sublist.cons_cons | apply List.Sublist.cons)) ?_
          refine D_st (hle1.trans hle2) 7 rfl (by kernel_rfl) (by kernel_rfl) (by kernel_rfl) rfl (st_extract rfl rfl) (by repeat (first | exact List.Sublist.refl _ | exact List.nil_sublist _ | exact List.sublist_append_left _ _ | exact List.sublist_append_right _ _ | exact (List.sublist_append_right _ _).trans (List.sublist_append_right _ _) | apply List.Sublist.cons_cons | apply List.Sublist.cons)) ?_
          refine D_st (hle1.trans hle2) 8 rfl (by kernel_rfl) (by kernel_rfl) (by kernel_rfl) rfl (st_extract rfl rfl) (by repeat (first | exact List.Sublist.refl _ | exact List.nil_sublist _ | exact List.sublist_append_left _ _ | exact List.sublist_append_right _ _ | exact (List.sublist_append_right _ _).trans (List.sublist_append_right _ _) | apply List.Sublist.cons_cons | apply List.Sublist.cons)) ?_
          refine D_st (hle1.trans hle2) 9 rfl (by kernel_rfl) (by kernel_rfl) (by kernel_rfl) rfl (st_extract rfl rfl) (by repeat (first | exact List.Sublist.refl _ | exact List.nil_sublist _ | exact List.sublist_append_left _ _ | exact List.sublist_append_right _ _ | exact (List.sublist_append_right _ _).trans (List.sublist_append_right _ _) | apply List.Sublist.cons_cons | apply List.Sublist.cons)) ?_
          refine D_all [11] (by kernel_rfl) rfl ?_
          refine R_do (hle1.trans hle2) rfl rfl (u_store 0 rfl rfl siz22 rfl rfl (by simp)) ?_ ?_
          ·
            rintro _ _ rfl
            refine ⟨.inr (by repeat (first | exact List.Sublist.refl _ | exact List.nil_sublist _ | exact List.sublist_append_left _ _ | exact List.sublist_append_right _ _ | exact (List.sublist_append_right _ _).trans (List.sublist_append_right _ _) | apply List.Sublist.cons_cons | apply List.Sublist.cons)), ?_⟩
            refine D_st (hle1.trans hle2) 12 rfl (by kernel_rfl) (by kernel_rfl) (by kernel_rfl) rfl (st_assign rfl) (by repeat (first | exact List.Sublist.refl _ | exact List.nil_sublist _ | exact List.sublist_append_left _ _ | exact List.sublist_append_right _ _ | exact (List.sublist_append_right _ _).trans (List.sublist_append_right _ _) | apply List.Sublist.cons_cons | apply List.Sublist.cons)) ?_
            refine D_st (hle1.trans hle2) 13 rfl (by kernel_rfl) (by kernel_rfl) (by kernel_rfl) rfl (st_assign rfl) (by repeat (first | exact List.Sublist.refl _ | exact List.nil_sublist _ | exact List.sublist_append_left _ _ | exact List.sublist_append_right _ _ | exact (List.sublist_append_right _ _).trans (List.sublist_append_right _ _) | apply List.Sublist.cons_cons | apply List.Sublist.cons)) ?_
            refine D_done (by kernel_rfl) ?_
            refine x_then_normal ?_
            refine c_seq ?_
            refine c_seq ?_
            refine c_region ?_
            refine t_st rfl (st_move rfl) ?_
            refine t_st rfl (st_not_f rfl) ?_
            refine t_nil ?_
            refine x_then_normal ?_
            refine c_cond_t rfl ?_
            refine c_seq ?_
            refine c_region ?_
            refine t_st rfl (st_assign rfl) ?_
            refine t_st rfl (st_assign rfl) ?_
            refine t_st rfl (st_assign rfl) ?_
            refine t_nil ?_
            refine x_then_normal ?_
            refine c_ret ?_
            refine x_then_ret ?_
            refine x_drop (hp' := hp) (by repeat (first | exact List.Sublist.refl _ | exact List.nil_sublist _ | exact List.sublist_append_left _ _ | exact List.sublist_append_right _ _ | exact (List.sublist_append_right _ _).trans (List.sublist_append_right _ _) | apply List.Sublist.cons_cons | apply List.Sublist.cons)) ?_
            exact retB3 (hle1.trans hle2) rfl rfl rfl rfl (.inl ⟨rfl, hno⟩)
          exact R_nil
        ·
          refine ⟨(by repeat (first | exact List.Sublist.refl _ | exact List.nil_sublist _ | exact List.sublist_append_left _ _ | exact List.sublist_append_right _ _ | exact (List.sublist_append_right _ _).trans (List.sublist_append_right _ _) | apply List.Sublist.cons_cons | apply List.Sublist.cons)), ?_⟩
          have hg := hg.le hle2
          refine D_st (hle1.trans hle2) 6 rfl (by kernel_rfl) (by kernel_rfl) (by kernel_rfl) rfl (st_move rfl) (by repeat (first | exact List.Sublist.refl _ | exact List.nil_sublist _ | exact List.sublist_append_left _ _ | exact List.sublist_append_right _ _ | exact (List.sublist_append_right _ _).trans (List.sublist_append_right _ _) | apply List.Sublist.cons_cons | apply List.Sublist.cons)) ?_
          refine D_st (hle1.trans hle2) 7 rfl (by kernel_rfl) (by kernel_rfl) (by kernel_rfl) rfl (st_extract rfl rfl) (by repeat (first | exact List.Sublist.refl _ | exact List.nil_sublist _ | exact List.sublist_append_left _ _ | exact List.sublist_append_right _ _ | exact (List.sublist_append_right _ _).trans (List.sublist_append_right _ _) | apply List.Sublist.cons_cons | apply List.Sublist.cons)) ?_
          refine D_st (hle1.trans hle2) 8 rfl (by kernel_rfl) (by kernel_rfl) (by kernel_rfl) rfl (st_extract rfl rfl) (by repeat (first | exact List.Sublist.refl _ | exact List.nil_sublist _ | exact List.sublist_append_left _ _ | exact List.sublist_append_right _ _ | exact (List.sublist_append_right _ _).trans (List.sublist_append_right _ _) | apply List.Sublist.cons_cons | apply List.Sublist.cons)) ?_
          refine D_st (hle1.trans hle2) 9 rfl (by kernel_rfl) (by kernel_rfl) (by kernel_rfl) rfl (st_extract rfl rfl) (by repeat (first | exact List.Sublist.refl _ | exact List.nil_sublist _ | exact List.sublist_append_left _ _ | exact List.sublist_append_right _ _ | exact (List.sublist_append_right _ _).trans (List.sublist_append_right _ _) | apply List.Sublist.cons_cons | apply List.Sublist.cons)) ?_
          refine D_all [11] (by kernel_rfl) rfl ?_
          refine R_do (hle1.trans hle2) rfl rfl (u_store 0 rfl rfl siz22 rfl rfl (by simp)) ?_ ?_
          ·
            rintro _ _ rfl
            refine ⟨.inr (by repeat (first | exact List.Sublist.refl _ | exact List.nil_sublist _ | exact List.sublist_append_left _ _ | exact List.sublist_append_right _ _ | exact (List.sublist_append_right _ _).trans (List.sublist_append_right _ _) | apply List.Sublist.cons_cons | apply List.Sublist.cons)), ?_⟩
            refine D_st (hle1.trans hle2) 12 rfl (by kernel_rfl) (by kernel_rfl) (by kernel_rfl) rfl (st_assign rfl) (by repeat (first | exact List.Sublist.refl _ | exact List.nil_sublist _ | exact List.sublist_append_left _ _ | exact List.sublist_append_right _ _ | exact (List.sublist_append_right _ _).trans (List.sublist_append_right _ _) | apply List.Sublist.cons_cons | apply List.Sublist.cons)) ?_
            refine D_st (hle1.trans hle2) 13 rfl (by kernel_rfl) (by kernel_rfl) (by kernel_rfl) rfl (st_assign rfl) (by repeat (first | exact List.Sublist.refl _ | exact List.nil_sublist _ | exact List.sublist_append_left _ _ | exact List.sublist_append_right _ _ | exact (List.sublist_append_right _ _).trans (List.sublist_append_right _ _) | apply List.Sublist.cons_cons | apply List.Sublist.cons)) ?_
            refine D_done (by kernel_rfl) ?_
            refine x_then_normal ?_
            refine c_seq ?_
            refine c_seq ?_
            refine c_region ?_
            refine t_st rfl (st_move rfl) ?_
            refine t_st rfl (st_not_t rfl) ?_
            refine t_nil ?_
            refine x_then_normal ?_
            refine c_cond_f rfl ?_
            refine c_skip ?_
            refine x_then_normal ?_
            refine c_seq ?_
            refine c_region ?_
            refine t_do rfl (u_alloc [.slice none 0 0] zero22 rfl) ?_
            rintro _ _ ⟨g14, rfl, rfl⟩
            refine t_nil ?_
            refine x_then_normal ?_
            refine c_seq ?_
            refine c_seq ?_
            refine c_region ?_
            refine t_st rfl (st_load 1 rfl one22 rfl rfl) ?_
            refine t_st rfl (st_len rfl sl22) ?_
            refine t_st rfl (st_move rfl) ?_
            refine t_nil ?_
            refine x_then_normal ?_
            refine c_block ?_
            refine c_pull 1 rfl ?_
            refine c_pull 2 rfl ?_
            refine c_pull 2 rfl ?_
            refine l_loop5 [(1, _), (6, _), (7, _), (9, _), (33, _), (34, _)] _ (fun (k : Nat) (Ao : Option Addr) (co : Nat) (ol : List Int) (hsO : Hp) => [(35, .int .i64 (k : Int))]) (fun (k : Nat) (Ao : Option Addr) (co : Nat) (ol : List Int) (hsO : Hp) => [(g14, Cl 22 [.slice Ao ol.length co]), (g1, Cl 26 g.cells), (g13, Cl 22 [.slice A1 p1.length c1])] ++ hsO) (fun (k : Nat) (Ao : Option Addr) (co : Nat) (ol : List Int) (hsO : Hp) => k ≤ p1.length ∧ Seg 3 1 (.slice Ao ol.length co) ol.length (rows encI ol) hsO ∧ OL p1 k ol) (fun (k : Nat) (Ao : Option Addr) (co : Nat) (ol : List Int) (hsO : Hp) => p1.length - k) (0) (none) (0) ([]) ([]) ⟨rfl, trivial⟩ ⟨rfl, rfl, rfl, rfl, rfl, rfl, trivial⟩ rfl ⟨by omega, Seg.nil, OL.zero⟩ ?_
            intro k Ao co ol hsO hinv
            obtain ⟨hk, hseg, hol⟩ := hinv
            have holl := hol.len
            have hpl1 := hP1.1
            refine c_seq ?_
            refine c_region ?_
            refine t_bool rfl (st_lss rfl rfl) (fun hc15 => ?_) (fun hc15 => ?_)
            ·
              refine t_nil ?_
              refine x_then_normal ?_
              refine c_seq ?_
              refine c_cond_t rfl ?_
              refine c_skip ?_
              refine x_then_normal ?_
              refine c_seq ?_
              refine c_block ?_
              refine c_seq ?_
              refine c_region ?_
              obtain ⟨x, hx⟩ := ex_get (l := p1) (k := k) (by omega)
              refine t_st rfl (st_move rfl) ?_
              refine t_st rfl (st_index_old k rfl rfl rfl (by omega) (bk_some hbk1 (by omega : k < p1.length)) sl22) ?_
              refine t_st rfl (st_load_rd rfl one3 (fun w ho => (bk_own ([_, _, _] ++ hsO) hp hbk1 rfl ho).int hx)) ?_
              refine t_st rfl (st_assign rfl) ?_
              refine t_st rfl (st_assign rfl) ?_
              refine t_nil ?_
              refine x_then_normal ?_
              refine c_seq ?_
              refine c_region ?_
              refine t_st rfl (st_move rfl) ?_
              refine t_bool rfl (st_eql rfl rfl) (fun hc16 => ?_) (fun hc16 => ?_)
              ·
                refine t_nil ?_
                refine x_then_normal ?_
                refine c_cond_t rfl ?_
                refine c_region ?_
                refine t_st rfl (st_load 0 rfl one22 rfl rfl) ?_
                refine t_st rfl (st_move rfl) ?_
                refine t_do rfl (u_bslice (el := 3) [(0, .int .i64 (k : Int))] [.int .i64 (k : Int)] rfl (fun _ => by kernel_rfl)) ?_
                rintro _ _ ⟨g99, rfl, rfl⟩
                refine t_do rfl (u_appF [_, _, _, _] hsO _ [.int .i64 (k : Int)] sl22 inf3 rfl (by decide) rfl rfl hseg rfl rfl (fun w ho => Rd.own (i := 0) ho rfl) (encI_one (k : Int)) (by omega) (by omega)) ?_
                rintro _ _ ⟨hs8, rfl, hseg8⟩
                obtain ⟨A8, c8, rfl, hcm8⟩ := hseg8.form
                have hlen8 : ol.length + 1 = (ol ++ [(k : Int)]).length := by simp
                refine t_do rfl (u_store 1 rfl rfl siz22 rfl rfl (by simp)) ?_
                rintro _ _ rfl
                refine t_nil ?_
                refine x_block_normal ?_
                refine x_then_normal ?_
                refine c_region ?_
                refine t_st rfl (st_add rfl rfl (by omega)) ?_
                refine t_st rfl (st_move rfl) ?_
                refine t_nil ?_
                rw [hlen8]
                exact x_again5 (ev := (fun (k : Nat) (Ao : Option Addr) (co : Nat) (ol : List Int) (hsO : Hp) => [(35, .int .i64 (k : Int))])) (hv := (fun (k : Nat) (Ao : Option Addr) (co : Nat) (ol : List Int) (hsO : Hp) => [(g14, Cl 22 [.slice Ao ol.length co]), (g1, Cl 26 g.cells), (g13, Cl 22 [.slice A1 p1.length c1])] ++ hsO)) (inv := (fun (k : Nat) (Ao : Option Addr) (co : Nat) (ol : List Int) (hsO : Hp) => k ≤ p1.length ∧ Seg 3 1 (.slice Ao ol.length co) ol.length (rows encI ol) hsO ∧ OL p1 k ol)) (μ := (fun (k : Nat) (Ao : Option Addr) (co : Nat) (ol : List Int) (hsO : Hp) => p1.length - k)) (k + 1) (A8) (c8) (ol ++ [(k : Int)]) (hs8) (Base.Le.refl _) ⟨rfl, trivial⟩ ⟨rfl, rfl, rfl, rfl, rfl, rfl, trivial⟩ (by repeat (first | exact List.Sublist.refl _ | exact List.nil_sublist _ | exact List.sublist_append_left _ _ | exact List.sublist_append_right _ _ | exact (List.sublist_append_right _ _).trans (List.sublist_append_right _ _) | apply List.Sublist.cons_cons | apply List.Sublist.cons)) ⟨by omega, by rw [rows_append, List.length_append]; exact hseg8, hol.hit hx (by omega)⟩ (by omega)
              ·
                refine t_nil ?_
                refine x_then_normal ?_
                refine c_cond_f rfl ?_
                refine c_skip ?_
                refine x_block_normal ?_
                refine x_then_normal ?_
                refine c_region ?_
                refine t_st rfl (st_add rfl rfl (by omega)) ?_
                refine t_st rfl (st_move rfl) ?_
                refine t_nil ?_
                exact x_again5 (ev := (fun (k : Nat) (Ao : Option Addr) (co : Nat) (ol : List Int) (hsO : Hp) => [(35, .int .i64 (k : Int))])) (hv := (fun (k : Nat) (Ao : Option Addr) (co : Nat) (ol : List Int) (hsO : Hp) => [(g14, Cl 22 [.slice Ao ol.length co]), (g1, Cl 26 g.cells), (g13, Cl 22 [.slice A1 p1.length c1])] ++ hsO)) (inv := (fun (k : Nat) (Ao : Option Addr) (co : Nat) (ol : List Int) (hsO : Hp) => k ≤ p1.length ∧ Seg 3 1 (.slice Ao ol.length co) ol.length (rows encI ol) hsO ∧ OL p1 k ol)) (μ := (fun (k : Nat) (Ao : Option Addr) (co : Nat) (ol : List Int) (hsO : Hp) => p1.length - k)) (k + 1) (Ao) (co) (ol) (hsO) (Base.Le.refl _) ⟨rfl, trivial⟩ ⟨rfl, rfl, rfl, rfl, rfl, rfl, trivial⟩ (by repeat (first | exact List.Sublist.refl _ | exact List.nil_sublist _ | exact List.sublist_append_left _ _ | exact List.sublist_append_right _ _ | exact (List.sublist_append_right _ _).trans (List.sublist_append_right _ _) | apply List.Sublist.cons_cons | apply List.Sublist.cons)) ⟨by omega, hseg, hol.miss hx (by omega)⟩ (by omega)
            ·
              refine t_nil ?_
              refine x_then_normal ?_
              refine c_seq ?_
              refine c_cond_f rfl ?_
              refine c_exit ?_
              refine x_then_exit ?_
              refine x_then_exit ?_
              refine x_block_out ?_
              refine x_then_normal ?_
              refine c_seq ?_
              refine c_seq ?_
              refine c_region ?_
              refine t_st rfl (st_load 0 rfl one22 rfl rfl) ?_
              refine t_st rfl (st_len rfl sl22) ?_
              refine t_bool rfl (st_gtr rfl rfl) (fun hc17 => ?_) (fun hc17 => ?_)
              ·
                refine t_nil ?_
                refine x_then_normal ?_
                refine c_cond_t rfl ?_
                refine c_seq ?_
                refine c_region ?_
                refine t_st rfl (st_assign rfl) ?_
                refine t_st rfl (st_assign rfl) ?_
                refine t_st rfl (st_assign rfl) ?_
                refine t_nil ?_
                refine x_then_normal ?_
                refine c_ret ?_
                refine x_then_ret ?_
                refine x_drop (hp' := hp) (by repeat (first | exact List.Sublist.refl _ | exact List.nil_sublist _ | exact List.sublist_append_left _ _ | exact List.sublist_append_right _ _ | exact (List.sublist_append_right _ _).trans (List.sublist_append_right _ _) | apply List.Sublist.cons_cons | apply List.Sublist.cons)) ?_
                exact retB3 (hle1.trans hle2) rfl rfl rfl rfl (.inr (.inl rfl))
              ·
                refine t_nil ?_
                refine x_then_normal ?_
                refine c_cond_f rfl ?_
                refine c_skip ?_
                refine x_then_normal ?_
                refine c_seq ?_
                refine c_freezeF [_, _, _] hsO _ rfl ?_
                intro b3 hle3 hfz3
                have hO : Rd b3.w Ao (rows encI ol) := hseg.rd hfz3
                have hg := hg.le hle3
                have hS1 := hS1.le hle3
                refine c_region ?_
                refine t_do rfl (u_alloc [.slice none 0 0] zero22 rfl) ?_
                rintro _ _ ⟨g18, rfl, rfl⟩
                refine t_do rfl (u_alloc [.slice none 0 0] zero22 rfl) ?_
                rintro _ _ ⟨g19, rfl, rfl⟩
                refine t_nil ?_
                refine x_then_normal ?_
                refine c_seq ?_
                refine c_region ?_
                refine t_do rfl (u_alloc [.int .i64 0] zero3 rfl) ?_
                rintro _ _ ⟨g20, rfl, rfl⟩
                refine t_do rfl (u_store 0 rfl rfl siz3 rfl rfl (by simp)) ?_
                rintro _ _ rfl
                refine t_nil ?_
                refine x_then_normal ?_
                refine c_seq ?_
                refine c_region ?_
                refine t_do rfl (u_alloc [.nilFunc] zero79 rfl) ?_
                rintro _ _ ⟨g21, rfl, rfl⟩
                refine t_nil ?_
                refine x_then_normal ?_
                refine c_seq ?_
                refine c_region ?_
                refine t_st rfl (st_func _ _ rfl rfl) ?_
                refine t_do rfl (u_store 0 rfl rfl siz79 rfl rfl (by simp)) ?_
                rintro _ _ rfl
                refine t_nil ?_
                refine x_then_normal ?_
                refine c_seq ?_
                refine c_region ?_
                refine t_st rfl (st_load 0 rfl one79 rfl rfl) ?_
                refine t_st rfl (st_move rfl) ?_
                refine t_pull 0 rfl ?_
                refine t_pull 2 rfl ?_
                refine t_pull 3 rfl ?_
                refine t_pull 6 rfl ?_
                refine t_pull 5 rfl ?_
                refine t_pull 5 rfl ?_
                refine t_pull 6 rfl ?_
                refine t_callvG #[] (Bl.caps ⟨g1, g20, g14, g13, g18, g19, g21, c1, ⟨Ao, co, ol⟩⟩) [.int .i64 0, .pointer (some ⟨gs1, 0, none⟩)] rfl rfl call40 rfl (best1_c g ⟨g1, g20, g14, g13, g18, g19, g21, c1, ⟨Ao, co, ol⟩⟩ hp hV hol.nd (by show ol.length ≤ 10; omega) (fun x hx => by have := hol.lt x hx; omega) ol.length 0 (by omega) rfl b3 A1 p1 hs1 gs1 s1 (-1) (.slice none 0 0) (.slice none 0 0) ⟨hg, hO, hbk1, hP1, hS1, hl1, hps1, hol.oi (by omega), .inl (by decide)⟩) ?_
                rintro _ b4 hp4 hle4 (⟨rfl, l4, vb4, vt4, rfl, hli4, hmo4, hco4⟩)
                ·
                  have hg := hg.le hle4
                  refine t_nil ?_
                  refine x_then_normal ?_
                  refine c_seq ?_
                  refine c_seq ?_
                  refine c_region ?_
                  refine t_st rfl (st_load 1 rfl one3 rfl rfl) ?_
                  refine t_bool rfl (st_lss rfl rfl) (fun hc22 => ?_) (fun hc22 => ?_)
                  ·
                    refine t_nil ?_
                    refine x_then_normal ?_
                    refine c_cond_t rfl ?_
                    refine c_seq ?_
                    refine c_region ?_
                    refine t_st rfl (st_assign rfl) ?_
                    refine t_st rfl (st_assign rfl) ?_
                    refine t_st rfl (st_assign rfl) ?_
                    refine t_nil ?_
                    refine x_then_normal ?_
                    refine c_ret ?_
                    refine x_then_ret ?_
                    refine x_drop (hp' := hp) (by repeat (first | exact List.Sublist.refl _ | exact List.nil_sublist _ | exact List.sublist_append_left _ _ | exact List.sublist_append_right _ _ | exact (List.sublist_append_right _ _).trans (List.sublist_append_right _ _) | apply List.Sublist.cons_cons | apply List.Sublist.cons)) ?_
                    exact retB3 (((hle1.trans hle2).trans hle3).trans hle4) rfl rfl rfl rfl (.inl ⟨rfl, fun F sF h1 h2 h3 h4 => by have := hco4 F sF h1 h2 h3 (hag1 F sF h1 h2 h3 h4); omega⟩)
                  ·
                    refine t_nil ?_
                    refine x_then_normal ?_
                    refine c_cond_f rfl ?_
                    refine c_skip ?_
                    refine x_then_normal ?_
                    refine c_seq ?_
                    obtain ⟨F4, s4, t4, hPF4, hFu4, hPS4, rfl, hst4, hl4, hRt4⟩ := hli4.resolve_left (by omega)
                    refine c_draw mixed ?_
                    refine d_st 0 rfl (by kernel_rfl) (by kernel_rfl) (by kernel_rfl) rfl (st_load 4 rfl one22 rfl rfl) (List.Sublist.refl _) ?_
                    refine d_st 1 rfl (by kernel_rfl) (by kernel_rfl) (by kernel_rfl) rfl (st_load 5 rfl one22 rfl rfl) (List.Sublist.refl _) ?_
                    refine d_st 2 rfl (by kernel_rfl) (by kernel_rfl) (by kernel_rfl) rfl (st_assign rfl) (List.Sublist.refl _) ?_
                    refine d_st 3 rfl (by kernel_rfl) (by kernel_rfl) (by kernel_rfl) rfl (st_assign rfl) (List.Sublist.refl _) ?_
                    refine d_st 4 rfl (by kernel_rfl) (by kernel_rfl) (by kernel_rfl) rfl (st_assign rfl) (List.Sublist.refl _) ?_
                    refine d_done (by kernel_rfl) ?_
                    refine x_then_normal ?_
                    refine c_ret ?_
                    refine x_drop (hp' := hp) (by repeat (first | exact List.Sublist.refl _ | exact List.nil_sublist _ | exact List.sublist_append_left _ _ | exact List.sublist_append_right _ _ | exact (List.sublist_append_right _ _).trans (List.sublist_append_right _ _) | apply List.Sublist.cons_cons | apply List.Sublist.cons)) ?_
                    exact retB3 (((hle1.trans hle2).trans hle3).trans hle4) rfl rfl rfl rfl (.inr (.inr ⟨vb4, t4, F4, s4, rfl, hRt4, hPF4, hFu4, hPS4, hst4, fun F' s' h1 h2 h3 => by rw [← hl4]; exact (hco4 F' s' h1 h2 h3 (hag1 F' s' h1 h2 h3 (agree_zero h1.1))).2⟩))
          exact R_nil
      exact R_nil
    exact R_nil
  refine R_do (Base.Le.refl _) rfl rfl (u_alloc [.slice none 0 0] zero22 rfl) ?_ ?_
  ·
    rintro _ _ ⟨g23, rfl, rfl⟩
    refine ⟨.inr (by repeat (first | exact List.Sublist.refl _ | exact List.nil_sublist _ | exact List.sublist_append_left _ _ | exact List.sublist_append_right _ _ | exact (List.sublist_append_right _ _).trans (List.sublist_append_right _ _) | apply List.Sublist.cons_cons | apply List.Sublist.cons)), ?_⟩
    refine D_all [4] (by kernel_rfl) rfl ?_
    refine R_do (Base.Le.refl _) rfl rfl (u_mk (enc := encI) (by_ := 8) 0 g.choices.l.length rfl rfl sl22 inf3 rfl rfl (by omega) (by omega)) ?_ ?_
    ·
      rintro _ _ ⟨gM, rfl, rfl⟩
      refine ⟨.inr (by repeat (first | exact List.Sublist.refl _ | exact List.nil_sublist _ | exact List.sublist_append_left _ _ | exact List.sublist_append_right _ _ | exact (List.sublist_append_right _ _).trans (List.sublist_append_right _ _) | apply List.Sublist.cons_cons | apply List.Sublist.cons)), ?_⟩
      refine D_freeze [_] _ rfl ?_
      intro b1 hle1 hfz1
      have hz1 : Rd b1.w (some ⟨gM, 0, none⟩) (rows encI (List.replicate g.choices.l.length 0)) := (Rd.fz (hfz1 _ (List.mem_singleton.2 rfl))).left
      have hg := hg.le hle1
      refine D_all [5] (by kernel_rfl) rfl ?_
      refine R_callG hle1 rfl rfl _ call39 rfl (forced_F [_, _] hp _ _ g _ _ _ (List.replicate g.choices.l.length 0) rfl (by simp) hg hz1 hV (pickV_zero g)) ?_ ?_
      ·
        rintro _ b2 hp2 hle2 (⟨rfl, rfl, hno⟩ | ⟨A1, c1, p1, gs1, s1, hs1, rfl, rfl, hbk1, hP1, hS1, hl1, hps1, hag1⟩)
        ·
          refine ⟨(by repeat (first | exact List.Sublist.refl _ | exact List.nil_sublist _ | exact List.sublist_append_left _ _ | exact List.sublist_append_right _ _ | exact (List.sublist_append_right _ _).trans (List.sublist_append_right _ _) | apply List.Sublist.cons_cons | apply List.Sublist.cons)), ?_⟩
          have hg := hg.le hle2
          refine D_st (hle1.trans hle2) 6 rfl (by kernel_rfl) (by kernel_rfl) (by kernel_rfl) rfl (st_move rfl) (by repeat (first | exact List.Sublist.refl _ | exact List.nil_sublist _ | exact List.sublist_append_left _ _ | exact List.sublist_append_right _ _ | exact (List.sublist_append_right _ _).trans (List.sublist_append_right _ _) | apply List.Sublist.cons_cons | apply List.Sublist.cons)) ?_
          refine D_st (hle1.trans hle2) 7 rfl (by kernel_rfl) (by kernel_rfl) (by kernel_rfl) rfl (st_extract rfl rfl) (by repeat (first | exact List.Sublist.refl _ | exact List.nil_sublist _ | exact List.sublist_append_left _ _ | exact List.sublist_append_right _ _ | exact (List.sublist_append_right _ _).trans (List.sublist_append_right _ _) | apply List.Sublist.cons_cons | apply List.Sublist.cons)) ?_
          refine D_st (hle1.trans hle2) 8 rfl (by kernel_rfl) (by kernel_rfl) (by kernel_rfl) rfl (st_extract rfl rfl) (by repeat (first | exact List.Sublist.refl _ | exact List.nil_sublist _ | exact List.sublist_append_left _ _ | exact List.sublist_append_right _ _ | exact (List.sublist_append_right _ _).trans (List.sublist_append_right _ _) | apply List.Sublist.cons_cons | apply List.Sublist.cons)) ?_
          refine D_st (hle1.trans hle2) 9 rfl (by kernel_rfl) (by kernel_rfl) (by kernel_rfl) rfl (st_extract rfl rfl) (by repeat (first | exact List.Sublist.refl _ | exact List.nil_sublist _ | exact List.sublist_append_left _ _ | exact List.sublist_append_right _ _ | exact (List.sublist_append_right _ _).trans (List.sublist_append_right _ _) | apply List.Sublist.cons_cons | apply List.Sublist.cons)) ?_
          refine D_all [11] (by kernel_rfl) rfl ?_
          refine R_do (hle1.trans hle2) rfl rfl (u_store 0 rfl rfl siz22 rfl rfl (by simp)) ?_ ?_
          ·
            rintro _ _ rfl
            refine ⟨.inr (by repeat (first | exact List.Sublist.refl _ | exact List.nil_sublist _ | exact List.sublist_append_left _ _ | exact List.sublist_append_right _ _ | exact (List.sublist_append_right _ _).trans (List.sublist_append_right _ _) | apply List.Sublist.cons_cons | apply List.Sublist.cons)), ?_⟩
            refine D_st (hle1.trans hle2) 12 rfl (by kernel_rfl) (by kernel_rfl) (by kernel_rfl) rfl (st_assign rfl) (by repeat (first | exact List.Sublist.refl _ | exact List.nil_sublist _ | exact List.sublist_append_left _ _ | exact List.sublist_append_right _ _ | exact (List.sublist_append_right _ _).trans (List.sublist_append_right _ _) | apply List.Sublist.cons_cons | apply List.Sublist.cons)) ?_
            refine D_st (hle1.trans hle2) 13 rfl (by kernel_rfl) (by kernel_rfl) (by kernel_rfl) rfl (st_assign rfl) (by repeat (first | exact List.Sublist.refl _ | exact List.nil_sublist _ | exact List.sublist_append_left _ _ | exact List.sublist_append_right _ _ | exact (List.sublist_append_right _ _).trans (List.sublist_append_right _ _) | apply List.Sublist.cons_cons | apply List.Sublist.cons)) ?_
            refine D_done (by kernel_rfl) ?_
            refine x_then_normal ?_
            refine c_seq ?_
            refine c_seq ?_
            refine c_region ?_
            refine t_st rfl (st_move rfl) ?_
            refine t_st rfl (st_not_f rfl) ?_
            refine t_nil ?_
            refine x_then_normal ?_
            refine c_cond_t rfl ?_
            refine c_seq ?_
            refine c_region ?_
            refine t_st rfl (st_assign rfl) ?_
            refine t_st rfl (st_assign rfl) ?_
            refine t_st rfl (st_assign rfl) ?_
            refine t_nil ?_
            refine x_then_normal ?_
            refine c_ret ?_
            refine x_then_ret ?_
            refine x_drop (hp' := hp) (by repeat (first | exact List.Sublist.refl _ | exact List.nil_sublist _ | exact List.sublist_append_left _ _ | exact List.sublist_append_right _ _ | exact (List.sublist_append_right _ _).trans (List.sublist_append_right _ _) | apply List.Sublist.cons_cons | apply List.Sublist.cons)) ?_
            exact retB3 (hle1.trans hle2) rfl rfl rfl rfl (.inl ⟨rfl, hno⟩)
          exact R_nil
        ·
          refine ⟨(by repeat (first | exact List.Sublist.refl _ | exact List.nil_sublist _ | exact List.sublist_append_left _ _ | exact List.sublist_append_right _ _ | exact (List.sublist_append_right _ _).trans (List.sublist_append_right _ _) | apply List.Sublist.cons_cons | apply List.Sublist.cons)), ?_⟩
          have hg := hg.le hle2
          refine D_st (hle1.trans hle2) 6 rfl (by kernel_rfl) (by kernel_rfl) (by kernel_rfl) rfl (st_move rfl) (by repeat (first | exact List.Sublist.refl _ | exact List.nil_sublist _ | exact List.sublist_append_left _ _ | exact List.sublist_append_right _ _ | exact (List.sublist_append_right _ _).trans (List.sublist_append_right _ _) | apply List.Sublist.cons_cons | apply List.Sublist.cons)) ?_
          refine D_st (hle1.trans hle2) 7 rfl (by kernel_rfl) (by kernel_rfl) (by kernel_rfl) rfl (st_extract rfl rfl) (by repeat (first | exact List.Sublist.refl _ | exact List.nil_sublist _ | exact List.sublist_append_left _ _ | exact List.sublist_append_right _ _ | exact (List.sublist_append_right _ _).trans (List.sublist_append_right _ _) | apply List.Sublist.cons_cons | apply List.Sublist.cons)) ?_
          refine D_st (hle1.trans hle2) 8 rfl (by kernel_rfl) (by kernel_rfl) (by kernel_rfl) rfl (st_extract rfl rfl) (by repeat (first | exact List.Sublist.refl _ | exact List.nil_sublist _ | exact List.sublist_append_left _ _ | exact List.sublist_append_right _ _ | exact (List.sublist_append_right _ _).trans (List.sublist_append_right _ _) | apply List.Sublist.cons_cons | apply List.Sublist.cons)) ?_
          refine D_st (hle1.trans hle2) 9 rfl (by kernel_rfl) (by kernel_rfl) (by kernel_rfl) rfl (st_extract rfl rfl) (by repeat (first | exact List.Sublist.refl _ | exact List.nil_sublist _ | exact List.sublist_append_left _ _ | exact List.sublist_append_right _ _ | exact (List.sublist_append_right _ _).trans (List.sublist_append_right _ _) | apply List.Sublist.cons_cons | apply List.Sublist.cons)) ?_
          refine D_all [11] (by kernel_rfl) rfl ?_
          refine R_do (hle1.trans hle2) rfl rfl (u_store 0 rfl rfl siz22 rfl rfl (by simp)) ?_ ?_
          ·
            rintro _ _ rfl
            refine ⟨.inr (by repeat (first | exact List.Sublist.refl _ | exact List.nil_sublist _ | exact List.sublist_append_left _ _ | exact List.sublist_append_right _ _ | exact (List.sublist_append_right _ _).trans (List.sublist_append_right _ _) | apply List.Sublist.cons_cons | apply List.Sublist.cons)), ?_⟩
            refine D_st (hle1.trans hle2) 12 rfl (by kernel_rfl) (by kernel_rfl) (by kernel_rfl) rfl (st_assign rfl) (by repeat (first | exact List.Sublist.refl _ | exact List.nil_sublist _ | exact List.sublist_append_left _ _ | exact List.sublist_append_right _ _ | exact (List.sublist_append_right _ _).trans (List.sublist_append_right _ _) | apply List.Sublist.cons_cons | apply List.Sublist.cons)) ?_
            refine D_st (hle1.trans hle2) 13 rfl (by kernel_rfl) (by kernel_rfl) (by kernel_rfl) rfl (st_assign rfl) (by repeat (first | exact List.Sublist.refl _ | exact List.nil_sublist _ | exact List.sublist_append_left _ _ | exact List.sublist_append_right _ _ | exact (List.sublist_append_right _ _).trans (List.sublist_append_right _ _) | apply List.Sublist.cons_cons | apply List.Sublist.cons)) ?_
            refine D_done (by kernel_rfl) ?_
            refine x_then_normal ?_
            refine c_seq ?_
            refine c_seq ?_
            refine c_region ?_
            refine t_st rfl (st_move rfl) ?_
            refine t_st rfl (st_not_t rfl) ?_
            refine t_nil ?_
            refine x_then_normal ?_
            refine c_cond_f rfl ?_
            refine c_skip ?_
            refine x_then_normal ?_
            refine c_seq ?_
            refine c_region ?_
            refine t_do rfl (u_alloc [.slice none 0 0] zero22 rfl) ?_
            rintro _ _ ⟨g24, rfl, rfl⟩
            refine t_nil ?_
            refine x_then_normal ?_
            refine c_seq ?_
            refine c_seq ?_
            refine c_region ?_
            refine t_st rfl (st_load 1 rfl one22 rfl rfl) ?_
            refine t_st rfl (st_len rfl sl22) ?_
            refine t_st rfl (st_move rfl) ?_
            refine t_nil ?_
            refine x_then_normal ?_
            refine c_block ?_
            refine c_pull 1 rfl ?_
            refine c_pull 2 rfl ?_
            refine c_pull 2 rfl ?_
            refine l_loop5 [(1, _), (6, _), (7, _), (9, _), (33, _), (34, _)] _ (fun (k : Nat) (Ao : Option Addr) (co : Nat) (ol : List Int) (hsO : Hp) => [(35, .int .i64 (k : Int))]) (fun (k : Nat) (Ao : Option Addr) (co : Nat) (ol : List Int) (hsO : Hp) => [(g24, Cl 22 [.slice Ao ol.length co]), (g1, Cl 26 g.cells), (g23, Cl 22 [.slice A1 p1.length c1])] ++ hsO) (fun (k : Nat) (Ao : Option Addr) (co : Nat) (ol : List Int) (hsO : Hp) => k ≤ p1.length ∧ Seg 3 1 (.slice Ao ol.length co) ol.length (rows encI ol) hsO ∧ OL p1 k ol) (fun (k : Nat) (Ao : Option Addr) (co : Nat) (ol : List Int) (hsO : Hp) => p1.length - k) (0) (none) (0) ([]) ([]) ⟨rfl, trivial⟩ ⟨rfl, rfl, rfl, rfl, rfl, rfl, trivial⟩ rfl ⟨by omega, Seg.nil, OL.zero⟩ ?_
            intro k Ao co ol hsO hinv
            obtain ⟨hk, hseg, hol⟩ := hinv
            have holl := hol.len
            have hpl1 := hP1.1
            refine c_seq ?_
            refine c_region ?_
            refine t_bool rfl (st_lss rfl rfl) (fun hc25 => ?_) (fun hc25 => ?_)
            ·
              refine t_nil ?_
              refine x_then_normal ?_
              refine c_seq ?_
              refine c_cond_t rfl ?_
              refine c_skip ?_
              refine x_then_normal ?_
              refine c_seq ?_
              refine c_block ?_
              refine c_seq ?_
              refine c_region ?_
              obtain ⟨x, hx⟩ := ex_get (l := p1) (k := k) (by omega)
              refine t_st rfl (st_move rfl) ?_
              refine t_st rfl (st_index_old k rfl rfl rfl (by omega) (bk_some hbk1 (by omega : k < p1.length)) sl22) ?_
              refine t_st rfl (st_load_rd rfl one3 (fun w ho => (bk_own ([_, _, _] ++ hsO) hp hbk1 rfl ho).int hx)) ?_
              refine t_st rfl (st_assign rfl) ?_
              refine t_st rfl (st_assign rfl) ?_
              refine t_nil ?_
              refine x_then_normal ?_
              refine c_seq ?_
              refine c_region ?_
              refine t_st rfl (st_move rfl) ?_
              refine t_bool rfl (st_eql rfl rfl) (fun hc26 => ?_) (fun hc26 => ?_)
              ·
                refine t_nil ?_
                refine x_then_normal ?_
                refine c_cond_t rfl ?_
                refine c_region ?_
                refine t_st rfl (st_load 0 rfl one22 rfl rfl) ?_
                refine t_st rfl (st_move rfl) ?_
                refine t_do rfl (u_bslice (el := 3) [(0, .int .i64 (k : Int))] [.int .i64 (k : Int)] rfl (fun _ => by kernel_rfl)) ?_
                rintro _ _ ⟨g99, rfl, rfl⟩
                refine t_do rfl (u_appF [_, _, _, _] hsO _ [.int .i64 (k : Int)] sl22 inf3 rfl (by decide) rfl rfl hseg rfl rfl (fun w ho => Rd.own (i := 0) ho rfl) (encI_one (k : Int)) (by omega) (by omega)) ?_
                rintro _ _ ⟨hs8, rfl, hseg8⟩
                obtain ⟨A8, c8, rfl, hcm8⟩ := hseg8.form
                have hlen8 : ol.length + 1 = (ol ++ [(k : Int)]).length := by simp
                refine t_do rfl (u_store 1 rfl rfl siz22 rfl rfl (by simp)) ?_
                rintro _ _ rfl
                refine t_nil ?_
                refine x_block_normal ?_
                refine x_then_normal ?_
                refine c_region ?_
                refine t_st rfl (st_add rfl rfl (by omega)) ?_
                refine t_st rfl (st_move rfl) ?_
                refine t_nil ?_
                rw [hlen8]
                exact x_again5 (ev := (fun (k : Nat) (Ao : Option Addr) (co : Nat) (ol : List Int) (hsO : Hp) => [(35, .int .i64 (k : Int))])) (hv := (fun (k : Nat) (Ao : Option Addr) (co : Nat) (ol : List Int) (hsO : Hp) => [(g24, Cl 22 [.slice Ao ol.length co]), (g1, Cl 26 g.cells), (g23, Cl 22 [.slice A1 p1.length c1])] ++ hsO)) (inv := (fun (k : Nat) (Ao : Option Addr) (co : Nat) (ol : List Int) (hsO : Hp) => k ≤ p1.length ∧ Seg 3 1 (.slice Ao ol.length co) ol.length (rows encI ol) hsO ∧ OL p1 k ol)) (μ := (fun (k : Nat) (Ao : Option Addr) (co : Nat) (ol : List Int) (hsO : Hp) => p1.length - k)) (k + 1) (A8) (c8) (ol ++ [(k : Int)]) (hs8) (Base.Le.refl _) ⟨rfl, trivial⟩ ⟨rfl, rfl, rfl, rfl, rfl, rfl, trivial⟩ (by repeat (first | exact List.Sublist.refl _ | exact List.nil_sublist _ | exact List.sublist_append_left _ _ | exact List.sublist_append_right _ _ | exact (List.sublist_append_right _ _).trans (List.sublist_append_right _ _) | apply List.Sublist.cons_cons | apply List.Sublist.cons)) ⟨by omega, by rw [rows_append, List.length_append]; exact hseg8, hol.hit hx (by omega)⟩ (by omega)
              ·
                refine t_nil ?_
                refine x_then_normal ?_
                refine c_cond_f rfl ?_
                refine c_skip ?_
                refine x_block_normal ?_
                refine x_then_normal ?_
                refine c_region ?_
                refine t_st rfl (st_add rfl rfl (by omega)) ?_
                refine t_st rfl (st_move rfl) ?_
                refine t_nil ?_
                exact x_again5 (ev := (fun (k : Nat) (Ao : Option Addr) (co : Nat) (ol : List Int) (hsO : Hp) => [(35, .int .i64 (k : Int))])) (hv := (fun (k : Nat) (Ao : Option Addr) (co : Nat) (ol : List Int) (hsO : Hp) => [(g24, Cl 22 [.slice Ao ol.length co]), (g1, Cl 26 g.cells), (g23, Cl 22 [.slice A1 p1.length c1])] ++ hsO)) (inv := (fun (k : Nat) (Ao : Option Addr) (co : Nat) (ol : List Int) (hsO : Hp) => k ≤ p1.length ∧ Seg 3 1 (.slice Ao ol.length co) ol.length (rows encI ol) hsO ∧ OL p1 k ol)) (μ := (fun (k : Nat) (Ao : Option Addr) (co : Nat) (ol : List Int) (hsO : Hp) => p1.length - k)) (k + 1) (Ao) (co) (ol) (hsO) (Base.Le.refl _) ⟨rfl, trivial⟩ ⟨rfl, rfl, rfl, rfl, rfl, rfl, trivial⟩ (by repeat (first | exact List.Sublist.refl _ | exact List.nil_sublist _ | exact List.sublist_append_left _ _ | exact List.sublist_append_right _ _ | exact (List.sublist_append_right _ _).trans (List.sublist_append_right _ _) | apply List.Sublist.cons_cons | apply List.Sublist.cons)) ⟨by omega, hseg, hol.miss hx (by omega)⟩ (by omega)
            ·
              refine t_nil ?_
              refine x_then_normal ?_
              refine c_seq ?_
              refine c_cond_f rfl ?_
              refine c_exit ?_
              refine x_then_exit ?_
              refine x_then_exit ?_
              refine x_block_out ?_
              refine x_then_normal ?_
              refine c_seq ?_
              refine c_seq ?_
              refine c_region ?_
              refine t_st rfl (st_load 0 rfl one22 rfl rfl) ?_
              refine t_st rfl (st_len rfl sl22) ?_
              refine t_bool rfl (st_gtr rfl rfl) (fun hc27 => ?_) (fun hc27 => ?_)
              ·
                refine t_nil ?_
                refine x_then_normal ?_
                refine c_cond_t rfl ?_
                refine c_seq ?_
                refine c_region ?_
                refine t_st rfl (st_assign rfl) ?_
                refine t_st rfl (st_assign rfl) ?_
                refine t_st rfl (st_assign rfl) ?_
                refine t_nil ?_
                refine x_then_normal ?_
                refine c_ret ?_
                refine x_then_ret ?_
                refine x_drop (hp' := hp) (by repeat (first | exact List.Sublist.refl _ | exact List.nil_sublist _ | exact List.sublist_append_left _ _ | exact List.sublist_append_right _ _ | exact (List.sublist_append_right _ _).trans (List.sublist_append_right _ _) | apply List.Sublist.cons_cons | apply List.Sublist.cons)) ?_
                exact retB3 (hle1.trans hle2) rfl rfl rfl rfl (.inr (.inl rfl))
              ·
                refine t_nil ?_
                refine x_then_normal ?_
                refine c_cond_f rfl ?_
                refine c_skip ?_
                refine x_then_normal ?_
                refine c_seq ?_
                refine c_freezeF [_, _, _] hsO _ rfl ?_
                intro b3 hle3 hfz3
                have hO : Rd b3.w Ao (rows encI ol) := hseg.rd hfz3
                have hg := hg.le hle3
                have hS1 := hS1.le hle3
                refine c_region ?_
                refine t_do rfl (u_alloc [.slice none 0 0] zero22 rfl) ?_
                rintro _ _ ⟨g28, rfl, rfl⟩
                refine t_do rfl (u_alloc [.slice none 0 0] zero22 rfl) ?_
                rintro _ _ ⟨g29, rfl, rfl⟩
                refine t_nil ?_
                refine x_then_normal ?_
                refine c_seq ?_
                refine c_region ?_
                refine t_do rfl (u_alloc [.int .i64 0] zero3 rfl) ?_
                rintro _ _ ⟨g30, rfl, rfl⟩
                refine t_do rfl (u_store 0 rfl rfl siz3 rfl rfl (by simp)) ?_
                rintro _ _ rfl
                refine t_nil ?_
                refine x_then_normal ?_
                refine c_seq ?_
                refine c_region ?_
                refine t_do rfl (u_alloc [.nilFunc] zero79 rfl) ?_
                rintro _ _ ⟨g31, rfl, rfl⟩
                refine t_nil ?_
                refine x_then_normal ?_
                refine c_seq ?_
                refine c_region ?_
                refine t_st rfl (st_func _ _ rfl rfl) ?_
                refine t_do rfl (u_store 0 rfl rfl siz79 rfl rfl (by simp)) ?_
                rintro _ _ rfl
                refine t_nil ?_
                refine x_then_normal ?_
                refine c_seq ?_
                refine c_region ?_
                refine t_st rfl (st_load 0 rfl one79 rfl rfl) ?_
                refine t_st rfl (st_move rfl) ?_
                refine t_pull 0 rfl ?_
                refine t_pull 2 rfl ?_
                refine t_pull 3 rfl ?_
                refine t_pull 6 rfl ?_
                refine t_pull 5 rfl ?_
                refine t_pull 5 rfl ?_
                refine t_pull 6 rfl ?_
                refine t_callvG #[] (Bl.caps ⟨g1, g30, g24, g23, g28, g29, g31, c1, ⟨Ao, co, ol⟩⟩) [.int .i64 0, .pointer (some ⟨gs1, 0, none⟩)] rfl rfl call40 rfl (best1_c g ⟨g1, g30, g24, g23, g28, g29, g31, c1, ⟨Ao, co, ol⟩⟩ hp hV hol.nd (by show ol.length ≤ 10; omega) (fun x hx => by have := hol.lt x hx; omega) ol.length 0 (by omega) rfl b3 A1 p1 hs1 gs1 s1 (-1) (.slice none 0 0) (.slice none 0 0) ⟨hg, hO, hbk1, hP1, hS1, hl1, hps1, hol.oi (by omega), .inl (by decide)⟩) ?_
                rintro _ b4 hp4 hle4 (⟨rfl, l4, vb4, vt4, rfl, hli4, hmo4, hco4⟩)
                ·
                  have hg := hg.le hle4
                  refine t_nil ?_
                  refine x_then_normal ?_
                  refine c_seq ?_
                  refine c_seq ?_
                  refine c_region ?_
                  refine t_st rfl (st_load 1 rfl one3 rfl rfl) ?_
                  refine t_bool rfl (st_lss rfl rfl) (fun hc32 => ?_) (fun hc32 => ?_)
                  ·
                    refine t_nil ?_
                    refine x_then_normal ?_
                    refine c_cond_t rfl ?_
                    refine c_seq ?_
                    refine c_region ?_
                    refine t_st rfl (st_assign rfl) ?_
                    refine t_st rfl (st_assign rfl) ?_
                    refine t_st rfl (st_assign rfl) ?_
                    refine t_nil ?_
                    refine x_then_normal ?_
                    refine c_ret ?_
                    refine x_then_ret ?_
                    refine x_drop (hp' := hp) (by repeat (first | exact List.Sublist.refl _ | exact List.nil_sublist _ | exact List.sublist_append_left _ _ | exact List.sublist_append_right _ _ | exact (List.sublist_append_right _ _).trans (List.sublist_append_right _ _) | apply List.Sublist.cons_cons | apply List.Sublist.cons)) ?_
                    exact retB3 (((hle1.trans hle2).trans hle3).trans hle4) rfl rfl rfl rfl (.inl ⟨rfl, fun F sF h1 h2 h3 h4 => by have := hco4 F sF h1 h2 h3 (hag1 F sF h1 h2 h3 h4); omega⟩)
                  ·
                    refine t_nil ?_
                    refine x_then_normal ?_
                    refine c_cond_f rfl ?_
                    refine c_skip ?_
                    refine x_then_normal ?_
                    refine c_seq ?_
                    obtain ⟨F4, s4, t4, hPF4, hFu4, hPS4, rfl, hst4, hl4, hRt4⟩ := hli4.resolve_left (by omega)
                    refine c_draw mixed ?_
                    refine d_st 0 rfl (by kernel_rfl) (by kernel_rfl) (by kernel_rfl) rfl (st_load 4 rfl one22 rfl rfl) (List.Sublist.refl _) ?_
                    refine d_st 1 rfl (by kernel_rfl) (by kernel_rfl) (by kernel_rfl) rfl (st_load 5 rfl one22 rfl rfl) (List.Sublist.refl _) ?_
                    refine d_st 2 rfl (by kernel_rfl) (by kernel_rfl) (by kernel_rfl) rfl (st_assign rfl) (List.Sublist.refl _) ?_
                    refine d_st 3 rfl (by kernel_rfl) (by kernel_rfl) (by kernel_rfl) rfl (st_assign rfl) (List.Sublist.refl _) ?_
                    refine d_st 4 rfl (by kernel_rfl) (by kernel_rfl) (by kernel_rfl) rfl (st_assign rfl) (List.Sublist.refl _) ?_
                    refine d_done (by kernel_rfl) ?_
                    refine x_then_normal ?_
                    refine c_ret ?_
                    refine x_drop (hp' := hp) (by repeat (first | exact List.Sublist.refl _ | exact List.nil_sublist _ | exact List.sublist_append_left _ _ | exact List.sublist_append_right _ _ | exact (List.sublist_append_right _ _).trans (List.sublist_append_right _ _) | apply List.Sublist.cons_cons | apply List.Sublist.cons)) ?_
                    exact retB3 (((hle1.trans hle2).trans hle3).trans hle4) rfl rfl rfl rfl (.inr (.inr ⟨vb4, t4, F4, s4, rfl, hRt4, hPF4, hFu4, hPS4, hst4, fun F' s' h1 h2 h3 => by rw [← hl4]; exact (hco4 F' s' h1 h2 h3 (hag1 F' s' h1 h2 h3 (agree_zero h1.1))).2⟩))
          exact R_nil
      exact R_nil
    exact R_nil
  exact R_nil

end Go.Proofs.Ytakehdnblmonlaa
