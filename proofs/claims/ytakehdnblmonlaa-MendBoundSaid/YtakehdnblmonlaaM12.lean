/- The contract of Times. -/
import Derived.Test.YtakehdnblmonlaaM11
namespace Go.Proofs.Ytakehdnblmonlaa
open Go.RowKit Go.Fp


/-- What Times answers. -/
def TmR (g : Gr) (pick : List Int) (v : Value) (b' : Base) : Prop :=
  (∃ r : Int, r ≠ 0 ∧ ¬ (GraphV g ∧ PickV g pick) ∧ v = .tuple #[.slice none 0 0, .int .i64 r]) ∨
  (GraphV g ∧ PickV g pick ∧ pickF g pick = none ∧ v = .tuple #[.slice none 0 0, .int .i64 5]) ∨
  (∃ (s : Sv) (t : Sl Int), GraphV g ∧ PickV g pick ∧ pickF g pick = some s ∧ s.T = t.l ∧ v = .tuple #[t.val, .int .i64 0] ∧ Rd b'.w t.A (rows encI t.l))
set_option maxRecDepth 10000 in
theorem Times_c (b : Base) (hp : Hp) (g : Gr) (A : Option Addr) (c0 : Nat) (pick : List Int) (hg : GrOk b.w g) (hR : Rd b.w A (rows encI pick)) (hl : pick.length ≤ 9223372036854775807) : CallsB Try.prog 10 [g.val, .slice A pick.length c0] b hp (TmR g pick) := by
  refine fn_enterB 27 Try.func10 rfl Try.ntmps10 rfl ?_
  refine c_seq ?_
  refine c_region ?_
  refine t_do rfl (u_box _ rfl rfl) ?_
  rintro _ _ ⟨g1, rfl, rfl⟩
  refine t_st rfl (st_assign rfl) ?_
  refine t_st rfl (st_assign rfl) ?_
  refine t_nil ?_
  refine x_then_normal ?_
  refine c_seq ?_
  refine c_seq ?_
  refine c_region ?_
  refine t_st rfl (st_loadD (vs := [_, _, _, _, _]) 0 5 rfl agg26 rfl rfl rfl) ?_
  refine t_st rfl (st_move rfl) ?_
  refine t_do rfl (u_callf _ call33 rfl (fun w ho => checkPick_c g _ _ pick w (hg.old ho) (hR.old ho) hl)) ?_
  rintro _ _ ⟨_, rfl, r, rfl, hr, rfl⟩
  refine t_st rfl (st_assign rfl) ?_
  refine t_nil ?_
  refine x_then_normal ?_
  refine c_seq ?_
  refine c_region ?_
  refine t_st rfl (st_move rfl) ?_
  refine t_bool rfl (st_neq rfl rfl) (fun hc2 => ?_) (fun hc2 => ?_)
  ·
    refine t_nil ?_
    refine x_then_normal ?_
    refine c_cond_t rfl ?_
    refine c_seq ?_
    refine c_region ?_
    refine t_st rfl (st_move rfl) ?_
    refine t_st rfl (st_assign rfl) ?_
    refine t_st rfl (st_assign rfl) ?_
    refine t_nil ?_
    refine x_then_normal ?_
    refine c_ret ?_
    refine x_then_ret ?_
    refine x_drop (hp' := hp) (by repeat (first | exact List.Sublist.refl _ | exact List.nil_sublist _ | exact List.sublist_append_left _ _ | exact List.sublist_append_right _ _ | exact (List.sublist_append_right _ _).trans (List.sublist_append_right _ _) | apply List.Sublist.cons_cons | apply List.Sublist.cons)) ?_
    exact retB2 (Base.Le.refl _) rfl rfl rfl (.inl ⟨r, by assumption, fun h => absurd (hr.2 h) (by assumption), rfl⟩)
  ·
    refine t_nil ?_
    refine x_then_normal ?_
    refine c_cond_f rfl ?_
    refine c_skip ?_
    refine x_then_normal ?_
    refine c_seq ?_
    refine c_region ?_
    obtain ⟨hV, hP⟩ := hr.1 (by omega)
    refine t_st rfl (st_loadD (vs := [_, _, _, _, _]) 0 5 rfl agg26 rfl rfl rfl) ?_
    refine t_st rfl (st_move rfl) ?_
    refine t_callB _ rfl call34 rfl (picked_c _ _ g _ _ pick hg hR hV hP) ?_
    rintro _ b9 hle9 (⟨hw, q9, rfl⟩ | ⟨gs9, s9, hw, rfl, hS9, hl9, hm9⟩)
    ·
      refine t_st rfl (st_move rfl) ?_
      refine t_st rfl (st_extract rfl rfl) ?_
      refine t_st rfl (st_extract rfl rfl) ?_
      refine t_st rfl (st_assign rfl) ?_
      refine t_st rfl (st_assign rfl) ?_
      refine t_nil ?_
      refine x_then_normal ?_
      refine c_seq ?_
      refine c_seq ?_
      refine c_region ?_
      refine t_st rfl (st_move rfl) ?_
      refine t_st rfl (st_not_f rfl) ?_
      refine t_nil ?_
      refine x_then_normal ?_
      refine c_cond_t rfl ?_
      refine c_seq ?_
      refine c_region ?_
      refine t_st rfl (st_assign rfl) ?_
      refine t_st rfl (st_assign rfl) ?_
      refine t_nil ?_
      refine x_then_normal ?_
      refine c_ret ?_
      refine x_then_ret ?_
      refine x_drop (hp' := hp) (by repeat (first | exact List.Sublist.refl _ | exact List.nil_sublist _ | exact List.sublist_append_left _ _ | exact List.sublist_append_right _ _ | exact (List.sublist_append_right _ _).trans (List.sublist_append_right _ _) | apply List.Sublist.cons_cons | apply List.Sublist.cons)) ?_
      exact retB2 hle9 rfl rfl rfl (.inr (.inl ⟨hV, hP, hw, rfl⟩))
    ·
      refine t_st rfl (st_move rfl) ?_
      refine t_st rfl (st_extract rfl rfl) ?_
      refine t_st rfl (st_extract rfl rfl) ?_
      refine t_st rfl (st_assign rfl) ?_
      refine t_st rfl (st_assign rfl) ?_
      refine t_nil ?_
      refine x_then_normal ?_
      refine c_seq ?_
      refine c_seq ?_
      refine c_region ?_
      refine t_st rfl (st_move rfl) ?_
      refine t_st rfl (st_not_t rfl) ?_
      refine t_nil ?_
      refine x_then_normal ?_
      refine c_cond_f rfl ?_
      refine c_skip ?_
      refine x_then_normal ?_
      refine c_seq ?_
      refine c_region ?_
      refine t_st rfl (st_move rfl) ?_
      refine t_st rfl (st_nil rfl) ?_
      refine t_st rfl (st_field rfl fld73_0) ?_
      refine t_st rfl (st_load_at rfl one22 hS9.c0) ?_
      refine t_st rfl (st_assign rfl) ?_
      refine t_st rfl (st_assign rfl) ?_
      refine t_nil ?_
      refine x_then_normal ?_
      refine c_ret ?_
      refine x_drop (hp' := hp) (by repeat (first | exact List.Sublist.refl _ | exact List.nil_sublist _ | exact List.sublist_append_left _ _ | exact List.sublist_append_right _ _ | exact (List.sublist_append_right _ _).trans (List.sublist_append_right _ _) | apply List.Sublist.cons_cons | apply List.Sublist.cons)) ?_
      exact retB2 hle9 rfl rfl rfl (.inr (.inr ⟨s9.sv, s9.times, hV, hP, hw, rfl, rfl, hS9.times⟩))

end Go.Proofs.Ytakehdnblmonlaa
