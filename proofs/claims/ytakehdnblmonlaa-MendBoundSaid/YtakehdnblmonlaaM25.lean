/- The contract of Quick. -/
import Derived.Test.YtakehdnblmonlaaM23
namespace Go.Proofs.Ytakehdnblmonlaa
open Go.RowKit Go.Fp

set_option maxRecDepth 10000 in
theorem Quick_c (b : Base) (hp : Hp) (g : Gr) (hg : GrOk b.w g) (hV : GraphV g) : CallsB Try.prog 17 [g.val] b hp (QuR g) := by
  have hnr := hV.nr
  have hnc := hV.nc
  refine fn_enterB 85 Try.func17 rfl Try.ntmps17 rfl ?_
  refine c_seq ?_
  refine c_region ?_
  refine t_do rfl (u_box _ rfl rfl) ?_
  rintro _ _ ⟨g1, rfl, rfl⟩
  refine t_st rfl (st_assign rfl) ?_
  refine t_st rfl (st_assign rfl) ?_
  refine t_st rfl (st_assign rfl) ?_
  refine t_nil ?_
  refine x_then_normal ?_
  refine c_seq ?_
  refine c_seq ?_
  refine c_region ?_
  refine t_st rfl (st_loadD (vs := [_, _, _, _, _]) 0 5 rfl agg26 rfl rfl rfl) ?_
  refine t_do rfl (u_callf _ call36 rfl (fun w ho => CheckGraph_c g w (hg.old ho))) ?_
  rintro _ _ ⟨_, rfl, r, rfl, hr, rfl⟩
  refine t_st rfl (st_assign rfl) ?_
  refine t_nil ?_
  refine x_then_normal ?_
  refine c_seq ?_
  refine c_region ?_
  refine t_st rfl (st_move rfl) ?_
  refine t_st rfl (st_neq_f rfl rfl (by have := hr.2 hV; omega)) ?_
  refine t_nil ?_
  refine x_then_normal ?_
  refine c_cond_f rfl ?_
  refine c_skip ?_
  refine x_then_normal ?_
  refine c_seq ?_
  refine c_region ?_
  refine t_st rfl (st_loadD (vs := [_, _, _, _, _]) 0 5 rfl agg26 rfl rfl rfl) ?_
  refine t_callB _ rfl call42 rfl (start_c _ _ g hg hV) ?_
  rintro _ b1 hle1 (⟨hw, q1, rfl⟩ | ⟨gs1, s1, hw, rfl, hS1, hl1, hm1⟩)
  ·
    have hg := hg.le hle1
    refine t_st rfl (st_move rfl) ?_
    refine t_st rfl (st_extract rfl rfl) ?_
    refine t_st rfl (st_extract rfl rfl) ?_
    refine t_st rfl (st_assign rfl) ?_
    refine t_st rfl (st_assign rfl) ?_
    refine t_nil ?_
    refine x_then_normal ?_
    refine c_seq ?_
    refine c_seq ?_
    refine c_region ?_
    refine t_st rfl (st_move rfl) ?_
    refine t_st rfl (st_not_f rfl) ?_
    refine t_nil ?_
    refine x_then_normal ?_
    refine c_cond_t rfl ?_
    refine c_seq ?_
    refine c_region ?_
    refine t_st rfl (st_assign rfl) ?_
    refine t_st rfl (st_assign rfl) ?_
    refine t_st rfl (st_assign rfl) ?_
    refine t_nil ?_
    refine x_then_normal ?_
    refine c_ret ?_
    refine x_then_ret ?_
    refine x_drop (hp' := hp) (by repeat (first | exact List.Sublist.refl _ | exact List.nil_sublist _ | exact List.sublist_append_left _ _ | exact List.sublist_append_right _ _ | exact (List.sublist_append_right _ _).trans (List.sublist_append_right _ _) | apply List.Sublist.cons_cons | apply List.Sublist.cons)) ?_
    exact retB3 hle1 rfl rfl rfl rfl (.inl rfl)
  ·
    have hg := hg.le hle1
    refine t_st rfl (st_move rfl) ?_
    refine t_st rfl (st_extract rfl rfl) ?_
    refine t_st rfl (st_extract rfl rfl) ?_
    refine t_st rfl (st_assign rfl) ?_
    refine t_st rfl (st_assign rfl) ?_
    refine t_nil ?_
    refine x_then_normal ?_
    refine c_seq ?_
    refine c_seq ?_
    refine c_region ?_
    refine t_st rfl (st_move rfl) ?_
    refine t_st rfl (st_not_t rfl) ?_
    refine t_nil ?_
    refine x_then_normal ?_
    refine c_cond_f rfl ?_
    refine c_skip ?_
    refine x_then_normal ?_
    refine c_seq ?_
    refine c_region ?_
    refine t_st rfl (st_assign rfl) ?_
    refine t_nil ?_
    refine x_then_normal ?_
    refine c_seq ?_
    refine c_seq ?_
    refine c_region ?_
    refine t_st rfl (st_field rfl fld26_4) ?_
    refine t_st rfl (st_load 0 rfl one24 rfl rfl) ?_
    refine t_st rfl (st_len rfl sl24) ?_
    refine t_st rfl (st_move rfl) ?_
    refine t_nil ?_
    refine x_then_normal ?_
    refine c_block ?_
    refine c_pull 0 rfl ?_
    refine l_loopb9 (fun (k : Nat) (b2 : Base) (A6 : Option Addr) (c6 : Nat) (l6 : List Int) (hs6 : Hp) (pk : List Int) (gs : Nat) (s : So) => b2) [(1, _), (32, _), (33, _)] _ (fun (k : Nat) (b2 : Base) (A6 : Option Addr) (c6 : Nat) (l6 : List Int) (hs6 : Hp) (pk : List Int) (gs : Nat) (s : So) => [(34, .int .i64 (k : Int)), (8, .slice A6 l6.length c6), (6, .pointer (some ⟨gs, 0, none⟩))]) (fun (k : Nat) (b2 : Base) (A6 : Option Addr) (c6 : Nat) (l6 : List Int) (hs6 : Hp) (pk : List Int) (gs : Nat) (s : So) => [(g1, Cl 26 g.cells)] ++ hs6) (fun (k : Nat) (b2 : Base) (A6 : Option Addr) (c6 : Nat) (l6 : List Int) (hs6 : Hp) (pk : List Int) (gs : Nat) (s : So) => k ≤ g.choices.l.length ∧ b1.Le b2 ∧ l6.length = k ∧ Seg 3 1 (.slice A6 l6.length c6) l6.length (rows encI l6) hs6 ∧ QI2 b2 g k pk gs s) (fun (k : Nat) (b2 : Base) (A6 : Option Addr) (c6 : Nat) (l6 : List Int) (hs6 : Hp) (pk : List Int) (gs : Nat) (s : So) => g.choices.l.length - k) (0) (b1) (none) (0) ([]) ([]) (List.replicate g.choices.l.length 0) (gs1) (s1) rfl ⟨rfl, rfl, rfl, trivial⟩ ⟨rfl, rfl, rfl, trivial⟩ rfl ⟨by omega, Base.Le.refl _, rfl, Seg.nil, QI2.zero hV hS1 hl1 hw⟩ ?_
    intro k b2 A6 c6 l6 hs6 pk gs s hinv
    obtain ⟨hk, hle2, hl6, hseg, hq2⟩ := hinv
    have hg := hg.le hle2
    refine c_seq ?_
    refine c_region ?_
    refine t_bool rfl (st_lss rfl rfl) (fun hc2 => ?_) (fun hc2 => ?_)
    ·
      refine t_nil ?_
      refine x_then_normal ?_
      refine c_seq ?_
      refine c_cond_t rfl ?_
      refine c_skip ?_
      refine x_then_normal ?_
      refine c_seq ?_
      refine c_block ?_
      refine c_seq ?_
      refine c_region ?_
      obtain ⟨c, hc⟩ := ex_get (l := g.choices.l) (k := k) (by omega)
      have hcv := hV.choicesv c (mem_of_get hc)
      have hcv3 := hcv.1
      refine t_st rfl (st_index_old k rfl rfl rfl (by omega) (Rd.isSome encS_len (by decide) hg.choices hc) sl24) ?_
      refine t_st rfl (st_loadN_old (vs := encS _) 1 rfl agg37 (Rd.isSome encS_len (by decide) hg.choices hc) rfl (fun _ _ h => Rd.row encS_len hg.choices hc h)) ?_
      refine t_do rfl (u_alloc [.slice none 0 0] zero37 rfl) ?_
      rintro _ _ ⟨g3, rfl, rfl⟩
      refine t_do rfl (u_storeN (vs := [_]) 0 1 rfl rfl rfl siz37 rfl (by intro u hu; simp only [List.mem_cons, List.not_mem_nil, or_false] at hu; rcases hu with rfl <;> rfl) rfl (by simp)) ?_
      rintro _ _ rfl
      refine t_nil ?_
      refine x_then_normal ?_
      refine c_seq ?_
      refine c_region ?_
      refine t_st rfl (st_assign rfl) ?_
      refine t_st rfl (st_assign rfl) ?_
      refine t_nil ?_
      refine x_then_normal ?_
      refine c_seq ?_
      refine c_region ?_
      refine t_st rfl (st_assign rfl) ?_
      refine t_nil ?_
      refine x_then_normal ?_
      refine c_seq ?_
      refine c_seq ?_
      refine c_region ?_
      refine t_st rfl (st_field rfl fld37_0) ?_
      refine t_st rfl (st_load 0 rfl one35 rfl rfl) ?_
      refine t_st rfl (st_len rfl sl35) ?_
      refine t_st rfl (st_move rfl) ?_
      refine t_nil ?_
      refine x_then_normal ?_
      refine c_block ?_
      refine l_loopb5 (fun (j : Nat) (b3 : Base) (best : Int) (least : Int) (nx : Option Addr) => b3) [(1, _), (6, _), (8, _), (32, _), (33, _), (34, _), (39, _), (40, _)] _ (fun (j : Nat) (b3 : Base) (best : Int) (least : Int) (nx : Option Addr) => [(41, .int .i64 (j : Int)), (11, .int .i64 best), (12, .int .i64 least), (13, .pointer nx)]) (fun (j : Nat) (b3 : Base) (best : Int) (least : Int) (nx : Option Addr) => []) (fun (j : Nat) (b3 : Base) (best : Int) (least : Int) (nx : Option Addr) => j ≤ c.l.length ∧ b2.Le b3 ∧ QN b3 g s.sv c j best nx) (fun (j : Nat) (b3 : Base) (best : Int) (least : Int) (nx : Option Addr) => c.l.length - j) (0) (b2) (0) (0) (none) rfl ⟨rfl, rfl, rfl, rfl, trivial⟩ ⟨rfl, rfl, rfl, rfl, rfl, rfl, rfl, rfl, trivial⟩ rfl ⟨by omega, Base.Le.refl _, .inl rfl⟩ ?_
      intro j b3 best least nx hinv
      obtain ⟨hj, hle3, hqn⟩ := hinv
      have hg := hg.le hle3
      have hq3 := hq2.le hle3
      refine c_seq ?_
      refine c_region ?_
      refine t_bool rfl (st_lss rfl rfl) (fun hc4 => ?_) (fun hc4 => ?_)
      ·
        refine t_nil ?_
        refine x_then_normal ?_
        refine c_seq ?_
        refine c_cond_t rfl ?_
        refine c_skip ?_
        refine x_then_normal ?_
        refine c_seq ?_
        refine c_block ?_
        refine c_seq ?_
        obtain ⟨x0, hx0⟩ := ex_get (l := pk) (k := k) (by rw [hq2.pv.1]; omega)
        obtain rfl := hq2.hi k x0 (Nat.le_refl _) hx0
        have hpk0 := hx0
        refine c_region ?_
        obtain ⟨y, hy⟩ := ex_get (l := c.l) (k := j) (by omega)
        have hyv := hcv.2 y (mem_of_get hy)
        have hy4 := hyv.1
        refine t_st rfl (st_move rfl) ?_
        refine t_st rfl (st_index_old j rfl rfl rfl (by omega) (Rd.isSome encS_len (by decide) (hg.ways _ (mem_of_get hc)) hy) sl35) ?_
        refine t_st rfl (st_load_old rfl one23 (Rd.row encS_len (hg.ways _ (mem_of_get hc)) hy (j := 0) rfl)) ?_
        refine t_st rfl (st_assign rfl) ?_
        refine t_st rfl (st_assign rfl) ?_
        refine t_nil ?_
        refine x_then_normal ?_
        refine c_seq ?_
        refine c_region ?_
        refine t_st rfl (st_move rfl) ?_
        refine t_st rfl (st_move rfl) ?_
        refine t_callB _ rfl call41 rfl (with_all _ _ gs s _ _ y.l g.ready.l.length 1450 hV.nr hq3.so (hg.steps _ (mem_of_get hc) _ (mem_of_get hy)) (by omega) hyv.2 hq3.ps.v (by rw [hq3.la]; exact hV.nl) (hq3.ps.outs_len hV hq3.pv.1) (by omega)) ?_
        rintro _ b5 hle5 (⟨hw5, q5, rfl⟩ | ⟨gs5, s5, hw5, rfl, hS5, hl5, hm5⟩)
        ·
          have hg := hg.le hle5
          refine t_st rfl (st_move rfl) ?_
          refine t_st rfl (st_extract rfl rfl) ?_
          refine t_st rfl (st_extract rfl rfl) ?_
          refine t_st rfl (st_assign rfl) ?_
          refine t_st rfl (st_assign rfl) ?_
          refine t_nil ?_
          refine x_then_normal ?_
          refine c_seq ?_
          refine c_seq ?_
          refine c_region ?_
          refine t_st rfl (st_move rfl) ?_
          refine t_st rfl (st_not_f rfl) ?_
          refine t_nil ?_
          refine x_then_normal ?_
          refine c_cond_t rfl ?_
          refine c_exit ?_
          refine x_then_exit ?_
          refine x_block_out ?_
          refine x_then_normal ?_
          refine c_region ?_
          refine t_st rfl (st_add rfl rfl (by omega)) ?_
          refine t_st rfl (st_move rfl) ?_
          refine t_nil ?_
          exact x_againb5 (ev := (fun (j : Nat) (b3 : Base) (best : Int) (least : Int) (nx : Option Addr) => [(41, .int .i64 (j : Int)), (11, .int .i64 best), (12, .int .i64 least), (13, .pointer nx)])) (hv := (fun (j : Nat) (b3 : Base) (best : Int) (least : Int) (nx : Option Addr) => [])) (inv := (fun (j : Nat) (b3 : Base) (best : Int) (least : Int) (nx : Option Addr) => j ≤ c.l.length ∧ b2.Le b3 ∧ QN b3 g s.sv c j best nx)) (μ := (fun (j : Nat) (b3 : Base) (best : Int) (least : Int) (nx : Option Addr) => c.l.length - j)) (bs := (fun (j : Nat) (b3 : Base) (best : Int) (least : Int) (nx : Option Addr) => b3)) (j + 1) (b5) (best) (least) (nx) (Base.Le.refl _) ⟨rfl, rfl, rfl, rfl, trivial⟩ ⟨rfl, rfl, rfl, rfl, rfl, rfl, rfl, rfl, trivial⟩ (by repeat (first | exact List.Sublist.refl _ | exact List.nil_sublist _ | exact List.sublist_append_left _ _ | exact List.sublist_append_right _ _ | exact (List.sublist_append_right _ _).trans (List.sublist_append_right _ _) | apply List.Sublist.cons_cons | apply List.Sublist.cons)) ⟨by omega, hle3.trans hle5, hqn.le hle5⟩ (by omega)
        ·
          have hg := hg.le hle5
          rw [hq3.la] at hw5 hl5
          have hps5 := hq3.ps.step hV hq3.pv.1 hpk0 hc hy hw5
          refine t_st rfl (st_move rfl) ?_
          refine t_st rfl (st_extract rfl rfl) ?_
          refine t_st rfl (st_extract rfl rfl) ?_
          refine t_st rfl (st_assign rfl) ?_
          refine t_st rfl (st_assign rfl) ?_
          refine t_nil ?_
          refine x_then_normal ?_
          refine c_seq ?_
          refine c_seq ?_
          refine c_region ?_
          refine t_st rfl (st_move rfl) ?_
          refine t_st rfl (st_not_t rfl) ?_
          refine t_nil ?_
          refine x_then_normal ?_
          refine c_cond_f rfl ?_
          refine c_skip ?_
          refine x_then_normal ?_
          refine c_seq ?_
          refine c_draw mixed ?_
          refine d_st 0 rfl (by kernel_rfl) (by kernel_rfl) (by kernel_rfl) rfl (st_loadD (vs := [_, _, _, _, _]) 1 5 rfl agg26 rfl rfl rfl) (List.Sublist.refl _) ?_
          refine d_st 1 rfl (by kernel_rfl) (by kernel_rfl) (by kernel_rfl) rfl (st_move rfl) (List.Sublist.refl _) ?_
          refine d_st 2 rfl (by kernel_rfl) (by kernel_rfl) (by kernel_rfl) rfl (st_nil rfl) (List.Sublist.refl _) ?_
          refine d_st 3 rfl (by kernel_rfl) (by kernel_rfl) (by kernel_rfl) rfl (st_field rfl fld73_0) (List.Sublist.refl _) ?_
          refine d_st 4 rfl (by kernel_rfl) (by kernel_rfl) (by kernel_rfl) rfl (st_load_at rfl one22 hS5.c0) (List.Sublist.refl _) ?_
          refine d_all [5] (by kernel_rfl) rfl ?_
          refine r_do rfl rfl (u_callf _ call38 rfl (fun w ho => delay_c g _ _ s5.times.l w (hg.old ho) (hS5.times.old ho) hV hps5.v.1 hps5.v.2.2)) ?_ ?_
          ·
            rintro _ _ ⟨_, rfl, rfl, rfl⟩
            refine ⟨.inr (List.Sublist.refl _), ?_⟩
            refine d_st 6 rfl (by kernel_rfl) (by kernel_rfl) (by kernel_rfl) rfl (st_assign rfl) (List.Sublist.refl _) ?_
            refine d_done (by kernel_rfl) ?_
            refine x_then_normal ?_
            refine c_seq ?_
            refine c_region ?_
            refine t_st rfl (st_move rfl) ?_
            refine t_bool rfl (st_eql rfl rfl) (fun hc5 => ?_) (fun hc5 => ?_)
            ·
              refine t_st rfl (st_move rfl) ?_
              refine t_no 62 rfl rfl rfl rfl rfl ?_
              refine t_no 62 rfl rfl rfl rfl rfl ?_
              refine t_no 62 rfl rfl rfl rfl rfl ?_
              refine t_st rfl (st_pick_t rfl rfl) ?_
              refine t_nil ?_
              refine x_then_normal ?_
              refine c_cond_t rfl ?_
              refine c_region ?_
              refine t_st rfl (st_move rfl) ?_
              refine t_st rfl (st_add rfl rfl (by omega)) ?_
              refine t_st rfl (st_move rfl) ?_
              refine t_st rfl (st_move rfl) ?_
              refine t_st rfl (st_assign rfl) ?_
              refine t_st rfl (st_assign rfl) ?_
              refine t_st rfl (st_assign rfl) ?_
              refine t_nil ?_
              refine x_block_normal ?_
              refine x_then_normal ?_
              refine c_region ?_
              refine t_st rfl (st_add rfl rfl (by omega)) ?_
              refine t_st rfl (st_move rfl) ?_
              refine t_nil ?_
              exact x_againb5 (ev := (fun (j : Nat) (b3 : Base) (best : Int) (least : Int) (nx : Option Addr) => [(41, .int .i64 (j : Int)), (11, .int .i64 best), (12, .int .i64 least), (13, .pointer nx)])) (hv := (fun (j : Nat) (b3 : Base) (best : Int) (least : Int) (nx : Option Addr) => [])) (inv := (fun (j : Nat) (b3 : Base) (best : Int) (least : Int) (nx : Option Addr) => j ≤ c.l.length ∧ b2.Le b3 ∧ QN b3 g s.sv c j best nx)) (μ := (fun (j : Nat) (b3 : Base) (best : Int) (least : Int) (nx : Option Addr) => c.l.length - j)) (bs := (fun (j : Nat) (b3 : Base) (best : Int) (least : Int) (nx : Option Addr) => b3)) (j + 1) (b5) ((j : Int) + 1) (dl g.due.l s5.times.l) (some ⟨gs5, 0, none⟩) (Base.Le.refl _) ⟨rfl, rfl, rfl, rfl, trivial⟩ ⟨rfl, rfl, rfl, rfl, rfl, rfl, rfl, rfl, trivial⟩ (by repeat (first | exact List.Sublist.refl _ | exact List.nil_sublist _ | exact List.sublist_append_left _ _ | exact List.sublist_append_right _ _ | exact (List.sublist_append_right _ _).trans (List.sublist_append_right _ _) | apply List.Sublist.cons_cons | apply List.Sublist.cons)) ⟨by omega, hle3.trans hle5, .inr ⟨j, y, gs5, s5, by omega, hy, rfl, rfl, hS5, hl5, hw5⟩⟩ (by omega)
            ·
              refine t_st rfl (st_move rfl) ?_
              refine t_yes 62 rfl rfl rfl ?_
              refine t_st rfl (st_move rfl) ?_
              refine t_yes 62 rfl rfl rfl ?_
              refine t_st rfl (st_move rfl) ?_
              refine t_yes 62 rfl rfl rfl ?_
              refine t_bool rfl (st_lss rfl rfl) (fun hc6 => ?_) (fun hc6 => ?_)
              ·
                refine t_st rfl (st_pick_f rfl rfl) ?_
                refine t_nil ?_
                refine x_then_normal ?_
                refine c_cond_t rfl ?_
                refine c_region ?_
                refine t_st rfl (st_move rfl) ?_
                refine t_st rfl (st_add rfl rfl (by omega)) ?_
                refine t_st rfl (st_move rfl) ?_
                refine t_st rfl (st_move rfl) ?_
                refine t_st rfl (st_assign rfl) ?_
                refine t_st rfl (st_assign rfl) ?_
                refine t_st rfl (st_assign rfl) ?_
                refine t_nil ?_
                refine x_block_normal ?_
                refine x_then_normal ?_
                refine c_region ?_
                refine t_st rfl (st_add rfl rfl (by omega)) ?_
                refine t_st rfl (st_move rfl) ?_
                refine t_nil ?_
                exact x_againb5 (ev := (fun (j : Nat) (b3 : Base) (best : Int) (least : Int) (nx : Option Addr) => [(41, .int .i64 (j : Int)), (11, .int .i64 best), (12, .int .i64 least), (13, .pointer nx)])) (hv := (fun (j : Nat) (b3 : Base) (best : Int) (least : Int) (nx : Option Addr) => [])) (inv := (fun (j : Nat) (b3 : Base) (best : Int) (least : Int) (nx : Option Addr) => j ≤ c.l.length ∧ b2.Le b3 ∧ QN b3 g s.sv c j best nx)) (μ := (fun (j : Nat) (b3 : Base) (best : Int) (least : Int) (nx : Option Addr) => c.l.length - j)) (bs := (fun (j : Nat) (b3 : Base) (best : Int) (least : Int) (nx : Option Addr) => b3)) (j + 1) (b5) ((j : Int) + 1) (dl g.due.l s5.times.l) (some ⟨gs5, 0, none⟩) (Base.Le.refl _) ⟨rfl, rfl, rfl, rfl, trivial⟩ ⟨rfl, rfl, rfl, rfl, rfl, rfl, rfl, rfl, trivial⟩ (by repeat (first | exact List.Sublist.refl _ | exact List.nil_sublist _ | exact List.sublist_append_left _ _ | exact List.sublist_append_right _ _ | exact (List.sublist_append_right _ _).trans (List.sublist_append_right _ _) | apply List.Sublist.cons_cons | apply List.Sublist.cons)) ⟨by omega, hle3.trans hle5, .inr ⟨j, y, gs5, s5, by omega, hy, rfl, rfl, hS5, hl5, hw5⟩⟩ (by omega)
              ·
                refine t_st rfl (st_pick_f rfl rfl) ?_
                refine t_nil ?_
                refine x_then_normal ?_
                refine c_cond_f rfl ?_
                refine c_skip ?_
                refine x_block_normal ?_
                refine x_then_normal ?_
                refine c_region ?_
                refine t_st rfl (st_add rfl rfl (by omega)) ?_
                refine t_st rfl (st_move rfl) ?_
                refine t_nil ?_
                exact x_againb5 (ev := (fun (j : Nat) (b3 : Base) (best : Int) (least : Int) (nx : Option Addr) => [(41, .int .i64 (j : Int)), (11, .int .i64 best), (12, .int .i64 least), (13, .pointer nx)])) (hv := (fun (j : Nat) (b3 : Base) (best : Int) (least : Int) (nx : Option Addr) => [])) (inv := (fun (j : Nat) (b3 : Base) (best : Int) (least : Int) (nx : Option Addr) => j ≤ c.l.length ∧ b2.Le b3 ∧ QN b3 g s.sv c j best nx)) (μ := (fun (j : Nat) (b3 : Base) (best : Int) (least : Int) (nx : Option Addr) => c.l.length - j)) (bs := (fun (j : Nat) (b3 : Base) (best : Int) (least : Int) (nx : Option Addr) => b3)) (j + 1) (b5) (best) (least) (nx) (Base.Le.refl _) ⟨rfl, rfl, rfl, rfl, trivial⟩ ⟨rfl, rfl, rfl, rfl, rfl, rfl, rfl, rfl, trivial⟩ (by repeat (first | exact List.Sublist.refl _ | exact List.nil_sublist _ | exact List.sublist_append_left _ _ | exact List.sublist_append_right _ _ | exact (List.sublist_append_right _ _).trans (List.sublist_append_right _ _) | apply List.Sublist.cons_cons | apply List.Sublist.cons)) ⟨by omega, hle3.trans hle5, hqn.le hle5⟩ (by omega)
          exact r_nil
      ·
        refine t_nil ?_
        refine x_then_normal ?_
        refine c_seq ?_
        refine c_cond_f rfl ?_
        refine c_exit ?_
        refine x_then_exit ?_
        refine x_then_exit ?_
        refine x_block_out ?_
        refine x_then_normal ?_
        refine c_seq ?_
        refine c_seq ?_
        refine c_region ?_
        refine t_st rfl (st_move rfl) ?_
        refine t_bool rfl (st_eql rfl rfl) (fun hc7 => ?_) (fun hc7 => ?_)
        ·
          refine t_nil ?_
          refine x_then_normal ?_
          refine c_cond_t rfl ?_
          refine c_seq ?_
          refine c_region ?_
          refine t_st rfl (st_assign rfl) ?_
          refine t_st rfl (st_assign rfl) ?_
          refine t_st rfl (st_assign rfl) ?_
          refine t_nil ?_
          refine x_then_normal ?_
          refine c_ret ?_
          refine x_then_ret ?_
          refine x_block_ret ?_
          refine x_then_ret ?_
          refine x_then_ret ?_
          refine x_block_ret ?_
          refine x_then_ret ?_
          refine x_drop (hp' := hp) (by repeat (first | exact List.Sublist.refl _ | exact List.nil_sublist _ | exact List.sublist_append_left _ _ | exact List.sublist_append_right _ _ | exact (List.sublist_append_right _ _).trans (List.sublist_append_right _ _) | apply List.Sublist.cons_cons | apply List.Sublist.cons)) ?_
          exact retB3 ((hle1.trans hle2).trans hle3) rfl rfl rfl rfl (.inl rfl)
        ·
          refine t_nil ?_
          refine x_then_normal ?_
          refine c_cond_f rfl ?_
          refine c_skip ?_
          refine x_then_normal ?_
          obtain ⟨k5, y5, gs5, s5, hj5, hk5, rfl, rfl, hS5, hl5, hw5⟩ : ∃ (k : Nat) (y : Sl Arc) (gs : Nat) (s' : So), k < j ∧ c.l[k]? = some y ∧ best = (k : Int) + 1 ∧ nx = some ⟨gs, 0, none⟩ ∧ SoOk b3.w gs s' ∧ s'.last = g.last ∧ withF g.last.l s.sv y.l = some s'.sv := by
            rcases hqn with h | h
            · exact absurd h (by assumption)
            · exact h
          refine c_region ?_
          refine t_st rfl (st_move rfl) ?_
          refine t_st rfl (st_move rfl) ?_
          refine t_do rfl (u_bslice (el := 3) [(0, .int .i64 ((k5 : Int) + 1))] [.int .i64 ((k5 : Int) + 1)] rfl (fun _ => by kernel_rfl)) ?_
          rintro _ _ ⟨g9, rfl, rfl⟩
          refine t_do rfl (u_appF [_, _, _] hs6 _ [.int .i64 ((k5 : Int) + 1)] sl22 inf3 rfl (by decide) rfl rfl hseg rfl rfl (fun w ho => Rd.own (i := 0) ho rfl) (encI_one ((k5 : Int) + 1)) (by omega) (by omega)) ?_
          rintro _ _ ⟨hs8, rfl, hseg8⟩
          obtain ⟨A8, c8, rfl, hcm8⟩ := hseg8.form
          refine t_st rfl (st_move rfl) ?_
          refine t_st rfl (st_assign rfl) ?_
          refine t_st rfl (st_assign rfl) ?_
          refine t_nil ?_
          refine x_block_normal ?_
          refine x_then_normal ?_
          refine c_region ?_
          refine t_st rfl (st_add rfl rfl (by omega)) ?_
          refine t_st rfl (st_move rfl) ?_
          refine t_nil ?_
          exact x_againb9 (ev := (fun (k : Nat) (b2 : Base) (A6 : Option Addr) (c6 : Nat) (l6 : List Int) (hs6 : Hp) (pk : List Int) (gs : Nat) (s : So) => [(34, .int .i64 (k : Int)), (8, .slice A6 l6.length c6), (6, .pointer (some ⟨gs, 0, none⟩))])) (hv := (fun (k : Nat) (b2 : Base) (A6 : Option Addr) (c6 : Nat) (l6 : List Int) (hs6 : Hp) (pk : List Int) (gs : Nat) (s : So) => [(g1, Cl 26 g.cells)] ++ hs6)) (inv := (fun (k : Nat) (b2 : Base) (A6 : Option Addr) (c6 : Nat) (l6 : List Int) (hs6 : Hp) (pk : List Int) (gs : Nat) (s : So) => k ≤ g.choices.l.length ∧ b1.Le b2 ∧ l6.length = k ∧ Seg 3 1 (.slice A6 l6.length c6) l6.length (rows encI l6) hs6 ∧ QI2 b2 g k pk gs s)) (μ := (fun (k : Nat) (b2 : Base) (A6 : Option Addr) (c6 : Nat) (l6 : List Int) (hs6 : Hp) (pk : List Int) (gs : Nat) (s : So) => g.choices.l.length - k)) (bs := (fun (k : Nat) (b2 : Base) (A6 : Option Addr) (c6 : Nat) (l6 : List Int) (hs6 : Hp) (pk : List Int) (gs : Nat) (s : So) => b2)) (k + 1) (b3) (A8) (c8) (l6 ++ [(k5 : Int) + 1]) (hs8) (pk.set k ((k5 : Int) + 1)) (gs5) (s5) (Base.Le.refl _) ⟨rfl, congrArg (fun z => some (Value.slice A8 z c8)) (by rw [List.length_append]; rfl), rfl, trivial⟩ ⟨rfl, rfl, rfl, trivial⟩ (by repeat (first | exact List.Sublist.refl _ | exact List.nil_sublist _ | exact List.sublist_append_left _ _ | exact List.sublist_append_right _ _ | exact (List.sublist_append_right _ _).trans (List.sublist_append_right _ _) | apply List.Sublist.cons_cons | apply List.Sublist.cons)) ⟨by omega, hle2.trans hle3, by rw [List.length_append, List.length_singleton]; omega, by rw [rows_append, List.length_append]; exact hseg8, (hq2.le hle3).put hV hc hk5 hw5 hS5 hl5⟩ (by omega)
    ·
      refine t_nil ?_
      refine x_then_normal ?_
      refine c_seq ?_
      refine c_cond_f rfl ?_
      refine c_exit ?_
      refine x_then_exit ?_
      refine x_then_exit ?_
      refine x_block_out ?_
      refine x_then_normal ?_
      refine c_seq ?_
      refine c_draw mixed ?_
      refine d_st 0 rfl (by kernel_rfl) (by kernel_rfl) (by kernel_rfl) rfl (st_move rfl) (List.Sublist.refl _) ?_
      refine d_st 1 rfl (by kernel_rfl) (by kernel_rfl) (by kernel_rfl) rfl (st_move rfl) (List.Sublist.refl _) ?_
      refine d_st 2 rfl (by kernel_rfl) (by kernel_rfl) (by kernel_rfl) rfl (st_nil rfl) (List.Sublist.refl _) ?_
      refine d_st 3 rfl (by kernel_rfl) (by kernel_rfl) (by kernel_rfl) rfl (st_field rfl fld73_0) (List.Sublist.refl _) ?_
      refine d_st 4 rfl (by kernel_rfl) (by kernel_rfl) (by kernel_rfl) rfl (st_load_at rfl one22 hq2.so.c0) (List.Sublist.refl _) ?_
      refine d_st 5 rfl (by kernel_rfl) (by kernel_rfl) (by kernel_rfl) rfl (st_assign rfl) (List.Sublist.refl _) ?_
      refine d_st 6 rfl (by kernel_rfl) (by kernel_rfl) (by kernel_rfl) rfl (st_assign rfl) (List.Sublist.refl _) ?_
      refine d_st 7 rfl (by kernel_rfl) (by kernel_rfl) (by kernel_rfl) rfl (st_assign rfl) (List.Sublist.refl _) ?_
      refine d_done (by kernel_rfl) ?_
      refine x_then_normal ?_
      refine c_ret ?_
      refine x_drop (hp' := hp) (by repeat (first | exact List.Sublist.refl _ | exact List.nil_sublist _ | exact List.sublist_append_left _ _ | exact List.sublist_append_right _ _ | exact (List.sublist_append_right _ _).trans (List.sublist_append_right _ _) | apply List.Sublist.cons_cons | apply List.Sublist.cons)) ?_
      exact retB3 (hle1.trans hle2) rfl rfl rfl rfl (.inr ⟨_, s.times, pk, s.sv, rfl, hq2.so.times, hq2.pv, hq2.full (by omega), hq2.ps, rfl⟩)

end Go.Proofs.Ytakehdnblmonlaa
