/- The contract of Bound. -/
import Derived.Test.YtakehdnblmonlaaM23
namespace Go.Proofs.Ytakehdnblmonlaa
open Go.RowKit Go.Fp

set_option maxRecDepth 10000 in
theorem Bound_c (b : Base) (hp : Hp) (g : Gr) (A : Option Addr) (c0 : Nat) (pick : List Int) (hg : GrOk b.w g) (hR : Rd b.w A (rows encI pick)) (hl : pick.length ≤ 9223372036854775807) (hV : GraphV g) (hP : PickV g pick) : CallsB Try.prog 15 [g.val, .slice A pick.length c0] b hp (BoR g pick) := by
  refine fn_enterB 31 Try.func15 rfl Try.ntmps15 rfl ?_
  refine c_seq ?_
  refine c_region ?_
  refine t_do rfl (u_box _ rfl rfl) ?_
  rintro _ _ ⟨g1, rfl, rfl⟩
  refine t_st rfl (st_assign rfl) ?_
  refine t_st rfl (st_assign rfl) ?_
  refine t_nil ?_
  refine x_then_normal ?_
  refine c_seq ?_
  refine c_seq ?_
  refine c_region ?_
  refine t_st rfl (st_loadD (vs := [_, _, _, _, _]) 0 5 rfl agg26 rfl rfl rfl) ?_
  refine t_st rfl (st_move rfl) ?_
  refine t_do rfl (u_callf _ call33 rfl (fun w ho => checkPick_c g _ _ pick w (hg.old ho) (hR.old ho) hl)) ?_
  rintro _ _ ⟨_, rfl, r, rfl, hr, rfl⟩
  refine t_st rfl (st_assign rfl) ?_
  refine t_nil ?_
  refine x_then_normal ?_
  refine c_seq ?_
  refine c_region ?_
  refine t_st rfl (st_move rfl) ?_
  refine t_st rfl (st_neq_f rfl rfl (by have := hr.2 ⟨hV, hP⟩; omega)) ?_
  refine t_nil ?_
  refine x_then_normal ?_
  refine c_cond_f rfl ?_
  refine c_skip ?_
  refine x_then_normal ?_
  refine c_seq ?_
  refine c_region ?_
  refine t_st rfl (st_loadD (vs := [_, _, _, _, _]) 0 5 rfl agg26 rfl rfl rfl) ?_
  refine t_st rfl (st_move rfl) ?_
  refine t_callG _ rfl call39 rfl (forced_F [_] hp _ _ g _ _ _ pick rfl rfl hg hR hV hP) ?_
  rintro _ b1 hp1 hle1 (⟨rfl, rfl, hno⟩ | ⟨A1, c1, p1, gs1, s1, hs1, rfl, rfl, hbk1, hP1, hS1, hl1, hps1, hag1⟩)
  ·
    have hg := hg.le hle1
    refine t_st rfl (st_move rfl) ?_
    refine t_st rfl (st_extract rfl rfl) ?_
    refine t_st rfl (st_extract rfl rfl) ?_
    refine t_st rfl (st_extract rfl rfl) ?_
    refine t_st rfl (st_assign rfl) ?_
    refine t_st rfl (st_assign rfl) ?_
    refine t_st rfl (st_assign rfl) ?_
    refine t_nil ?_
    refine x_then_normal ?_
    refine c_seq ?_
    refine c_seq ?_
    refine c_region ?_
    refine t_st rfl (st_move rfl) ?_
    refine t_st rfl (st_not_f rfl) ?_
    refine t_nil ?_
    refine x_then_normal ?_
    refine c_cond_t rfl ?_
    refine c_seq ?_
    refine c_region ?_
    refine t_st rfl (st_assign rfl) ?_
    refine t_st rfl (st_assign rfl) ?_
    refine t_nil ?_
    refine x_then_normal ?_
    refine c_ret ?_
    refine x_then_ret ?_
    refine x_drop (hp' := hp) (by repeat (first | exact List.Sublist.refl _ | exact List.nil_sublist _ | exact List.sublist_append_left _ _ | exact List.sublist_append_right _ _ | exact (List.sublist_append_right _ _).trans (List.sublist_append_right _ _) | apply List.Sublist.cons_cons | apply List.Sublist.cons)) ?_
    exact retB2 hle1 rfl rfl rfl (.inl ⟨rfl, hno⟩)
  ·
    have hg := hg.le hle1
    refine t_st rfl (st_move rfl) ?_
    refine t_st rfl (st_extract rfl rfl) ?_
    refine t_st rfl (st_extract rfl rfl) ?_
    refine t_st rfl (st_extract rfl rfl) ?_
    refine t_st rfl (st_assign rfl) ?_
    refine t_st rfl (st_assign rfl) ?_
    refine t_st rfl (st_assign rfl) ?_
    refine t_nil ?_
    refine x_then_normal ?_
    refine c_seq ?_
    refine c_seq ?_
    refine c_region ?_
    refine t_st rfl (st_move rfl) ?_
    refine t_st rfl (st_not_t rfl) ?_
    refine t_nil ?_
    refine x_then_normal ?_
    refine c_cond_f rfl ?_
    refine c_skip ?_
    refine x_then_normal ?_
    refine c_seq ?_
    refine c_draw mixed ?_
    refine d_st 0 rfl (by kernel_rfl) (by kernel_rfl) (by kernel_rfl) rfl (st_loadD (vs := [_, _, _, _, _]) 0 5 rfl agg26 rfl rfl rfl) (List.Sublist.refl _) ?_
    refine d_st 1 rfl (by kernel_rfl) (by kernel_rfl) (by kernel_rfl) rfl (st_move rfl) (List.Sublist.refl _) ?_
    refine d_st 2 rfl (by kernel_rfl) (by kernel_rfl) (by kernel_rfl) rfl (st_nil rfl) (List.Sublist.refl _) ?_
    refine d_st 3 rfl (by kernel_rfl) (by kernel_rfl) (by kernel_rfl) rfl (st_field rfl fld73_0) (List.Sublist.refl _) ?_
    refine d_st 4 rfl (by kernel_rfl) (by kernel_rfl) (by kernel_rfl) rfl (st_load_at rfl one22 hS1.c0) (List.Sublist.refl _) ?_
    refine d_all [5] (by kernel_rfl) rfl ?_
    refine r_do rfl rfl (u_callf _ call38 rfl (fun w ho => delay_c g _ _ s1.times.l w (hg.old ho) (hS1.times.old ho) hV hps1.v.1 hps1.v.2.2)) ?_ ?_
    ·
      rintro _ _ ⟨_, rfl, rfl, rfl⟩
      refine ⟨.inr (List.Sublist.refl _), ?_⟩
      refine d_st 6 rfl (by kernel_rfl) (by kernel_rfl) (by kernel_rfl) rfl (st_assign rfl) (List.Sublist.refl _) ?_
      refine d_st 7 rfl (by kernel_rfl) (by kernel_rfl) (by kernel_rfl) rfl (st_assign rfl) (List.Sublist.refl _) ?_
      refine d_done (by kernel_rfl) ?_
      refine x_then_normal ?_
      refine c_ret ?_
      refine x_drop (hp' := hp) (by repeat (first | exact List.Sublist.refl _ | exact List.nil_sublist _ | exact List.sublist_append_left _ _ | exact List.sublist_append_right _ _ | exact (List.sublist_append_right _ _).trans (List.sublist_append_right _ _) | apply List.Sublist.cons_cons | apply List.Sublist.cons)) ?_
      exact retB2 hle1 rfl rfl rfl (.inr ⟨_, rfl, fun F sF hPF hFu hF ha => hps1.dl_le hF (hag1 F sF hPF hFu hF ha)⟩)
    exact r_nil

end Go.Proofs.Ytakehdnblmonlaa
