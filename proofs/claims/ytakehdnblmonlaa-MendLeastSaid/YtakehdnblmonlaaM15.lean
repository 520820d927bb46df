/- The contract of MendLeast: it answers true. -/
import Derived.Test.YtakehdnblmonlaaM14
namespace Go.Proofs.Ytakehdnblmonlaa
open Go.RowKit Go.Fp

set_option maxRecDepth 10000 in
theorem MendLeast_c (b : Base) (hp : Hp) (g : Gr) (A B : Option Addr) (c d : Nat) (p m : List Int) (hg : GrOk b.w g) (hA : Rd b.w A (rows encI p)) (hB : Rd b.w B (rows encI m)) (hpl : p.length ≤ 9223372036854775807) (hml : m.length ≤ 9223372036854775807) :
    CallsB Try.prog 3 [g.val, .slice A p.length c, .slice B m.length d] b hp (fun v _ => v = .bool true) := by
  refine fn_enterB 225 Try.func3 rfl Try.ntmps3 rfl ?_
  refine c_seq ?_
  refine c_region ?_
  refine t_do rfl (u_box _ rfl rfl) ?_
  rintro _ _ ⟨g1, rfl, rfl⟩
  refine t_st rfl (st_assign rfl) ?_
  refine t_nil ?_
  refine x_then_normal ?_
  refine c_seq ?_
  refine c_seq ?_
  refine c_region ?_
  refine t_callB _ rfl call7 rfl (awake_c _ _) ?_
  rintro _ b1 hle1 (rfl)
  ·
    have hg := hg.le hle1
    have hA := hA.le hle1
    have hB := hB.le hle1
    refine t_st rfl (st_not_t rfl) ?_
    refine t_nil ?_
    refine x_then_normal ?_
    refine c_cond_f rfl ?_
    refine c_skip ?_
    refine x_then_normal ?_
    refine c_seq ?_
    refine c_seq ?_
    refine c_region ?_
    refine t_callB _ rfl call8 rfl (graphs_c _ _) ?_
    rintro _ b2 hle2 (rfl)
    ·
      have hg := hg.le hle2
      have hA := hA.le hle2
      have hB := hB.le hle2
      refine t_st rfl (st_not_t rfl) ?_
      refine t_nil ?_
      refine x_then_normal ?_
      refine c_cond_f rfl ?_
      refine c_skip ?_
      refine x_then_normal ?_
      refine c_seq ?_
      refine c_seq ?_
      refine c_region ?_
      refine t_st rfl (st_loadD (vs := [_, _, _, _, _]) 0 5 rfl agg26 rfl rfl rfl) ?_
      refine t_st rfl (st_move rfl) ?_
      refine t_do rfl (u_callf _ call9 rfl (fun w ho => PickFault_c g _ _ p w (hg.old ho) (hA.old ho) hpl)) ?_
      rintro _ _ ⟨_, rfl, r1, rfl, hr1, rfl⟩
      refine t_bool rfl (st_neq rfl rfl) (fun hc2 => ?_) (fun hc2 => ?_)
      ·
        refine t_st rfl (st_move rfl) ?_
        refine t_no 32 rfl rfl rfl rfl rfl ?_
        refine t_no 32 rfl rfl rfl rfl rfl ?_
        refine t_no 32 rfl rfl rfl rfl rfl ?_
        refine t_no 32 rfl rfl rfl rfl rfl ?_
        refine t_st rfl (st_pick_t rfl rfl) ?_
        refine t_nil ?_
        refine x_then_normal ?_
        refine c_cond_t rfl ?_
        refine c_seq ?_
        refine c_region ?_
        refine t_st rfl (st_assign rfl) ?_
        refine t_nil ?_
        refine x_then_normal ?_
        refine c_ret ?_
        refine x_then_ret ?_
        refine x_drop (hp' := hp) (by repeat (first | exact List.Sublist.refl _ | exact List.nil_sublist _ | exact List.sublist_append_left _ _ | exact List.sublist_append_right _ _ | exact (List.sublist_append_right _ _).trans (List.sublist_append_right _ _) | apply List.Sublist.cons_cons | apply List.Sublist.cons)) ?_
        exact retB1 (hle1.trans hle2) rfl rfl rfl
      ·
        refine t_st rfl (st_move rfl) ?_
        refine t_yes 32 rfl rfl rfl ?_
        refine t_st rfl (st_loadD (vs := [_, _, _, _, _]) 0 5 rfl agg26 rfl rfl rfl) ?_
        refine t_yes 32 rfl rfl rfl ?_
        refine t_st rfl (st_move rfl) ?_
        refine t_yes 32 rfl rfl rfl ?_
        refine t_do rfl (u_callf _ call9 rfl (fun w ho => PickFault_c g _ _ m w (hg.old ho) (hB.old ho) hml)) ?_
        rintro _ _ ⟨_, rfl, r2, rfl, hr2, rfl⟩
        refine t_yes 32 rfl rfl rfl ?_
        refine t_bool rfl (st_neq rfl rfl) (fun hc3 => ?_) (fun hc3 => ?_)
        ·
          refine t_st rfl (st_pick_f rfl rfl) ?_
          refine t_nil ?_
          refine x_then_normal ?_
          refine c_cond_t rfl ?_
          refine c_seq ?_
          refine c_region ?_
          refine t_st rfl (st_assign rfl) ?_
          refine t_nil ?_
          refine x_then_normal ?_
          refine c_ret ?_
          refine x_then_ret ?_
          refine x_drop (hp' := hp) (by repeat (first | exact List.Sublist.refl _ | exact List.nil_sublist _ | exact List.sublist_append_left _ _ | exact List.sublist_append_right _ _ | exact (List.sublist_append_right _ _).trans (List.sublist_append_right _ _) | apply List.Sublist.cons_cons | apply List.Sublist.cons)) ?_
          exact retB1 (hle1.trans hle2) rfl rfl rfl
        ·
          refine t_st rfl (st_pick_f rfl rfl) ?_
          refine t_nil ?_
          refine x_then_normal ?_
          refine c_cond_f rfl ?_
          refine c_skip ?_
          refine x_then_normal ?_
          refine c_seq ?_
          refine c_region ?_
          obtain ⟨hV, hP⟩ := hr1.1 (by omega)
          obtain ⟨_, hM⟩ := hr2.1 (by omega)
          have hna := hV.na
          have hnc := hV.nc
          have hnr := hV.nr
          have hnl := hV.nl
          have hp1 := hP.1
          have hm1 := hM.1
          refine t_st rfl (st_loadD (vs := [_, _, _, _, _]) 0 5 rfl agg26 rfl rfl rfl) ?_
          refine t_st rfl (st_move rfl) ?_
          refine t_callB _ rfl call10 rfl (Times_c _ _ g _ _ p hg hA hpl) ?_
          rintro _ b3 hle3 (⟨_, _, hn3, _⟩ | ⟨_, _, hs3, rfl⟩ | ⟨s3, t3, _, _, hs3, ht3, rfl, hT⟩)
          ·
            exact (hn3 ⟨hV, hP⟩).elim
          ·
            refine t_st rfl (st_move rfl) ?_
            refine t_st rfl (st_extract rfl rfl) ?_
            refine t_st rfl (st_extract rfl rfl) ?_
            refine t_st rfl (st_assign rfl) ?_
            refine t_st rfl (st_assign rfl) ?_
            refine t_nil ?_
            refine x_then_normal ?_
            refine c_seq ?_
            refine c_seq ?_
            refine c_region ?_
            refine t_st rfl (st_move rfl) ?_
            refine t_st rfl (st_neq_t rfl rfl (by decide)) ?_
            refine t_nil ?_
            refine x_then_normal ?_
            refine c_cond_t rfl ?_
            refine c_seq ?_
            refine c_region ?_
            refine t_st rfl (st_move rfl) ?_
            refine t_st rfl (st_eql_t rfl rfl rfl) ?_
            refine t_st rfl (st_move rfl) ?_
            refine t_yes 48 rfl rfl rfl ?_
            refine t_st rfl (st_move rfl) ?_
            refine t_yes 48 rfl rfl rfl ?_
            refine t_st rfl (st_len rfl sl22) ?_
            refine t_yes 48 rfl rfl rfl ?_
            refine t_st rfl (st_eql_t rfl rfl rfl) ?_
            refine t_st rfl (st_pick_t rfl rfl) ?_
            refine t_st rfl (st_assign rfl) ?_
            refine t_nil ?_
            refine x_then_normal ?_
            refine c_ret ?_
            refine x_then_ret ?_
            refine x_drop (hp' := hp) (by repeat (first | exact List.Sublist.refl _ | exact List.nil_sublist _ | exact List.sublist_append_left _ _ | exact List.sublist_append_right _ _ | exact (List.sublist_append_right _ _).trans (List.sublist_append_right _ _) | apply List.Sublist.cons_cons | apply List.Sublist.cons)) ?_
            exact retB1 ((hle1.trans hle2).trans hle3) rfl rfl rfl
          ·
            have hg := hg.le hle3
            have hA := hA.le hle3
            have hB := hB.le hle3
            have hlen := tm_len hV hs3 ht3
            refine t_st rfl (st_move rfl) ?_
            refine t_st rfl (st_extract rfl rfl) ?_
            refine t_st rfl (st_extract rfl rfl) ?_
            refine t_st rfl (st_assign rfl) ?_
            refine t_st rfl (st_assign rfl) ?_
            refine t_nil ?_
            refine x_then_normal ?_
            refine c_seq ?_
            refine c_seq ?_
            refine c_region ?_
            refine t_st rfl (st_move rfl) ?_
            refine t_st rfl (st_neq_f rfl rfl (by decide)) ?_
            refine t_nil ?_
            refine x_then_normal ?_
            refine c_cond_f rfl ?_
            refine c_skip ?_
            refine x_then_normal ?_
            refine c_seq ?_
            refine c_seq ?_
            refine c_region ?_
            refine t_st rfl (st_move rfl) ?_
            refine t_st rfl (st_len rfl sl22) ?_
            refine t_st rfl (st_field rfl fld26_0) ?_
            refine t_st rfl (st_load 0 rfl one22 rfl rfl) ?_
            refine t_st rfl (st_len rfl sl22) ?_
            refine t_st rfl (st_neq_f rfl rfl (by omega)) ?_
            refine t_nil ?_
            refine x_then_normal ?_
            refine c_cond_f rfl ?_
            refine c_skip ?_
            refine x_then_normal ?_
            refine c_seq ?_
            refine c_region ?_
            refine t_st rfl (st_field rfl fld26_3) ?_
            refine t_st rfl (st_load 0 rfl one23 rfl rfl) ?_
            refine t_do rfl (u_callF [_] _ _ call11 rfl rfl (fun w ho => cloneA_c _ _ _ _ w (hg.arcs.old ho) (by rw [rows_length encA_len]) (by omega))) ?_
            rintro _ _ ⟨hs1, rfl, hseg1⟩
            obtain ⟨A1, c1, rfl, hcm1⟩ := hseg1.form
            refine t_st rfl (st_assign rfl) ?_
            refine t_nil ?_
            refine x_then_normal ?_
            refine c_seq ?_
            refine c_seq ?_
            refine c_region ?_
            refine t_st rfl (st_move rfl) ?_
            refine t_st rfl (st_len rfl sl22) ?_
            refine t_st rfl (st_move rfl) ?_
            refine t_nil ?_
            refine x_then_normal ?_
            refine c_block ?_
            refine c_pull 0 rfl ?_
            refine l_loop5 [(1, _), (2, _), (3, _), (7, _), (62, _), (63, _)] _ (fun (k : Nat) (A1 : Option Addr) (c1 : Nat) (D : List Arc) (hs : Hp) => [(64, .int .i64 (k : Int)), (9, .slice A1 D.length c1)]) (fun (k : Nat) (A1 : Option Addr) (c1 : Nat) (D : List Arc) (hs : Hp) => [(g1, Cl 26 g.cells)] ++ hs) (fun (k : Nat) (A1 : Option Addr) (c1 : Nat) (D : List Arc) (hs : Hp) => k ≤ p.length ∧ D = g.arcs.l ++ ((p.zip (chA g)).take k).flatMap pickA ∧ Seg 34 3 (.slice A1 D.length c1) D.length (rows encA D) hs ∧ D.length ≤ 250 + 4 * k) (fun (k : Nat) (A1 : Option Addr) (c1 : Nat) (D : List Arc) (hs : Hp) => p.length - k) (0) (A1) (c1) (g.arcs.l) (hs1) ⟨rfl, rfl, trivial⟩ ⟨rfl, rfl, rfl, rfl, rfl, rfl, trivial⟩ rfl ⟨by omega, by simp, hseg1.seg, by omega⟩ ?_
            intro k A1 c1 D hs hinv
            obtain ⟨hk, hD, hseg, hDl⟩ := hinv
            refine c_seq ?_
            refine c_region ?_
            refine t_bool rfl (st_lss rfl rfl) (fun hc4 => ?_) (fun hc4 => ?_)
            ·
              refine t_nil ?_
              refine x_then_normal ?_
              refine c_seq ?_
              refine c_cond_t rfl ?_
              refine c_skip ?_
              refine x_then_normal ?_
              refine c_seq ?_
              refine c_block ?_
              refine c_seq ?_
              refine c_region ?_
              obtain ⟨x, hx⟩ := ex_get (l := p) (k := k) (by omega)
              obtain ⟨c, hc⟩ := ex_get (l := g.choices.l) (k := k) (by omega)
              have hcv := hV.choicesv c (mem_of_get hc)
              have hcv3 := hcv.1
              have hpv := hP.2 k x c hx hc
              refine t_st rfl (st_move rfl) ?_
              refine t_st rfl (st_index_old k rfl rfl rfl (by omega) (Rd.isSome encI_len (by decide) hA hx) sl22) ?_
              refine t_st rfl (st_load_old rfl one3 (Rd.row encI_len hA hx (j := 0) rfl)) ?_
              refine t_st rfl (st_assign rfl) ?_
              refine t_st rfl (st_assign rfl) ?_
              refine t_nil ?_
              refine x_then_normal ?_
              refine c_seq ?_
              refine c_region ?_
              refine t_st rfl (st_move rfl) ?_
              refine t_bool rfl (st_gtr rfl rfl) (fun hc5 => ?_) (fun hc5 => ?_)
              ·
                refine t_nil ?_
                refine x_then_normal ?_
                refine c_cond_t rfl ?_
                refine c_region ?_
                obtain ⟨j, hj⟩ := nat_of (show 0 ≤ x - 1 by omega)
                obtain ⟨y, hyj⟩ := ex_get (l := c.l) (k := j) (by omega)
                have hy4 := (hcv.2 y (mem_of_get hyj)).1
                refine t_st rfl (st_move rfl) ?_
                refine t_st rfl (st_field rfl fld26_4) ?_
                refine t_st rfl (st_load 0 rfl one24 rfl rfl) ?_
                refine t_st rfl (st_move rfl) ?_
                refine t_st rfl (st_index_old k rfl rfl rfl (by omega) (Rd.isSome encS_len (by decide) hg.choices hc) sl24) ?_
                refine t_st rfl (st_field_old rfl (Rd.isSome encS_len (by decide) hg.choices hc) fld37_0) ?_
                refine t_st rfl (st_load_old rfl one35 (Rd.row encS_len hg.choices hc (j := 0) rfl)) ?_
                refine t_st rfl (st_move rfl) ?_
                refine t_st rfl (st_sub rfl rfl (by omega)) ?_
                refine t_st rfl (st_index_old j rfl rfl hj (by omega) (Rd.isSome encS_len (by decide) (hg.ways _ (mem_of_get hc)) hyj) sl35) ?_
                refine t_st rfl (st_load_old rfl one23 (Rd.row encS_len (hg.ways _ (mem_of_get hc)) hyj (j := 0) rfl)) ?_
                refine t_do rfl (u_appF [_] hs _ (rows encA y.l) sl23 inf34 rfl (by decide) rfl rfl hseg rfl (by rw [rows_length encA_len]) (fun w ho => (hg.steps _ (mem_of_get hc) _ (mem_of_get hyj)).old ho) (one_rows encA_one y.l) (by omega) (by omega)) ?_
                rintro _ _ ⟨hs2, rfl, hseg2⟩
                obtain ⟨A2, c2, rfl, hcm2⟩ := hseg2.form
                refine t_st rfl (st_assign rfl) ?_
                refine t_nil ?_
                refine x_block_normal ?_
                refine x_then_normal ?_
                refine c_region ?_
                refine t_st rfl (st_add rfl rfl (by omega)) ?_
                refine t_st rfl (st_move rfl) ?_
                refine t_nil ?_
                exact x_again5 (ev := (fun (k : Nat) (A1 : Option Addr) (c1 : Nat) (D : List Arc) (hs : Hp) => [(64, .int .i64 (k : Int)), (9, .slice A1 D.length c1)])) (hv := (fun (k : Nat) (A1 : Option Addr) (c1 : Nat) (D : List Arc) (hs : Hp) => [(g1, Cl 26 g.cells)] ++ hs)) (inv := (fun (k : Nat) (A1 : Option Addr) (c1 : Nat) (D : List Arc) (hs : Hp) => k ≤ p.length ∧ D = g.arcs.l ++ ((p.zip (chA g)).take k).flatMap pickA ∧ Seg 34 3 (.slice A1 D.length c1) D.length (rows encA D) hs ∧ D.length ≤ 250 + 4 * k)) (μ := (fun (k : Nat) (A1 : Option Addr) (c1 : Nat) (D : List Arc) (hs : Hp) => p.length - k)) (k + 1) (A2) (c2) (D ++ y.l) (hs2) (Base.Le.refl _) ⟨rfl, congrArg (fun z => some (Value.slice A2 z c2)) List.length_append.symm, trivial⟩ ⟨rfl, rfl, rfl, rfl, rfl, rfl, trivial⟩ (by repeat (first | exact List.Sublist.refl _ | exact List.nil_sublist _ | exact List.sublist_append_left _ _ | exact List.sublist_append_right _ _ | exact (List.sublist_append_right _ _).trans (List.sublist_append_right _ _) | apply List.Sublist.cons_cons | apply List.Sublist.cons)) ⟨by omega, by rw [all_snoc hx hc, ← hD, pickA_pos hj hyj], by rw [rows_append, List.length_append]; exact hseg2, by rw [List.length_append]; omega⟩ (by omega)
              ·
                refine t_nil ?_
                refine x_then_normal ?_
                refine c_cond_f rfl ?_
                refine c_skip ?_
                refine x_block_normal ?_
                refine x_then_normal ?_
                refine c_region ?_
                refine t_st rfl (st_add rfl rfl (by omega)) ?_
                refine t_st rfl (st_move rfl) ?_
                refine t_nil ?_
                exact x_again5 (ev := (fun (k : Nat) (A1 : Option Addr) (c1 : Nat) (D : List Arc) (hs : Hp) => [(64, .int .i64 (k : Int)), (9, .slice A1 D.length c1)])) (hv := (fun (k : Nat) (A1 : Option Addr) (c1 : Nat) (D : List Arc) (hs : Hp) => [(g1, Cl 26 g.cells)] ++ hs)) (inv := (fun (k : Nat) (A1 : Option Addr) (c1 : Nat) (D : List Arc) (hs : Hp) => k ≤ p.length ∧ D = g.arcs.l ++ ((p.zip (chA g)).take k).flatMap pickA ∧ Seg 34 3 (.slice A1 D.length c1) D.length (rows encA D) hs ∧ D.length ≤ 250 + 4 * k)) (μ := (fun (k : Nat) (A1 : Option Addr) (c1 : Nat) (D : List Arc) (hs : Hp) => p.length - k)) (k + 1) (A1) (c1) (D) (hs) (Base.Le.refl _) ⟨rfl, rfl, trivial⟩ ⟨rfl, rfl, rfl, rfl, rfl, rfl, trivial⟩ (by repeat (first | exact List.Sublist.refl _ | exact List.nil_sublist _ | exact List.sublist_append_left _ _ | exact List.sublist_append_right _ _ | exact (List.sublist_append_right _ _).trans (List.sublist_append_right _ _) | apply List.Sublist.cons_cons | apply List.Sublist.cons)) ⟨by omega, by rw [all_snoc hx hc, ← hD, pickA_neg (by omega), List.append_nil], hseg, by omega⟩ (by omega)
            ·
              refine t_nil ?_
              refine x_then_normal ?_
              refine c_seq ?_
              refine c_cond_f rfl ?_
              refine c_exit ?_
              refine x_then_exit ?_
              refine x_then_exit ?_
              refine x_block_out ?_
              refine x_then_normal ?_
              refine c_seq ?_
              refine c_seq ?_
              have hend : (p.zip (chA g)).take k = p.zip (chA g) := List.take_of_length_le (by rw [List.length_zip]; omega)
              have hD : D = allA g p := by rw [hD, hend]; rfl
              refine c_freezeF [_] hs hp rfl ?_
              intro b4 hle4 hfz4
              have hAr : Rd b4.w A1 (rows encA D) := hseg.rd hfz4
              have hg := hg.le hle4
              have hA := hA.le hle4
              have hB := hB.le hle4
              have hT := hT.le hle4
              refine c_region ?_
              refine t_st rfl (st_move rfl) ?_
              refine t_st rfl (st_len rfl sl23) ?_
              refine t_st rfl (st_move rfl) ?_
              refine t_nil ?_
              refine x_then_normal ?_
              refine c_block ?_
              refine l_loop [(1, _), (2, _), (3, _), (7, _), (9, _), (84, _), (85, _)] _ (fun (k : Nat) => [(86, .int .i64 (k : Int))]) (fun (k : Nat) => []) (fun (k : Nat) => k ≤ D.length) (fun (k : Nat) => D.length - k) (0) ⟨rfl, trivial⟩ ⟨rfl, rfl, rfl, rfl, rfl, rfl, rfl, trivial⟩ rfl (by omega) ?_
              intro k hinv
              refine c_seq ?_
              refine c_region ?_
              refine t_bool rfl (st_lss rfl rfl) (fun hc6 => ?_) (fun hc6 => ?_)
              ·
                refine t_nil ?_
                refine x_then_normal ?_
                refine c_seq ?_
                refine c_cond_t rfl ?_
                refine c_skip ?_
                refine x_then_normal ?_
                refine c_seq ?_
                refine c_block ?_
                refine c_seq ?_
                refine c_region ?_
                obtain ⟨a, ha⟩ := ex_get (l := D) (k := k) (by omega)
                obtain ⟨f, u, tf, tu, hf, hu, hf1, hu1, hgf, hsat, htf0, htf1, hl0, hl1⟩ := arc_at hV hs3 ht3 (by rw [← hD]; exact mem_of_get ha)
                have hfl := lt_of_get hf1
                have hul := lt_of_get hu1
                refine t_st rfl (st_index_old k rfl rfl rfl (by omega) (Rd.isSome encA_len (by decide) hAr ha) sl23) ?_
                refine t_st rfl (st_loadN_old (vs := encA _) 3 rfl agg34 (Rd.isSome encA_len (by decide) hAr ha) rfl (fun _ _ h => Rd.row encA_len hAr ha h)) ?_
                refine t_do rfl (u_alloc [.int .i64 0, .int .i64 0, .int .i64 0] zero34 rfl) ?_
                rintro _ _ ⟨g7, rfl, rfl⟩
                refine t_do rfl (u_storeN (vs := [_, _, _]) 0 3 rfl rfl rfl siz34 rfl (by intro u hu; simp only [List.mem_cons, List.not_mem_nil, or_false] at hu; rcases hu with rfl | rfl | rfl <;> rfl) rfl (by simp)) ?_
                rintro _ _ rfl
                refine t_nil ?_
                refine x_then_normal ?_
                refine c_seq ?_
                refine c_draw mixed ?_
                refine d_st 0 rfl (by kernel_rfl) (by kernel_rfl) (by kernel_rfl) rfl (st_move rfl) (List.Sublist.refl _) ?_
                refine d_st 1 rfl (by kernel_rfl) (by kernel_rfl) (by kernel_rfl) rfl (st_field rfl fld34_1) (List.Sublist.refl _) ?_
                refine d_st 2 rfl (by kernel_rfl) (by kernel_rfl) (by kernel_rfl) rfl (st_load 0 rfl one3 rfl rfl) (List.Sublist.refl _) ?_
                refine d_st 3 rfl (by kernel_rfl) (by kernel_rfl) (by kernel_rfl) rfl (st_index_old u rfl rfl hu (by omega) (Rd.isSome encI_len (by decide) hT hu1) sl22) (List.Sublist.refl _) ?_
                refine d_st 4 rfl (by kernel_rfl) (by kernel_rfl) (by kernel_rfl) rfl (st_load_old rfl one3 (Rd.row encI_len hT hu1 (j := 0) rfl)) (List.Sublist.refl _) ?_
                refine d_st 5 rfl (by kernel_rfl) (by kernel_rfl) (by kernel_rfl) rfl (st_move rfl) (List.Sublist.refl _) ?_
                refine d_st 6 rfl (by kernel_rfl) (by kernel_rfl) (by kernel_rfl) rfl (st_field rfl fld34_0) (List.Sublist.refl _) ?_
                refine d_st 7 rfl (by kernel_rfl) (by kernel_rfl) (by kernel_rfl) rfl (st_load 0 rfl one3 rfl rfl) (List.Sublist.refl _) ?_
                refine d_st 8 rfl (by kernel_rfl) (by kernel_rfl) (by kernel_rfl) rfl (st_index_old f rfl rfl hf (by omega) (Rd.isSome encI_len (by decide) hT hf1) sl22) (List.Sublist.refl _) ?_
                refine d_st 9 rfl (by kernel_rfl) (by kernel_rfl) (by kernel_rfl) rfl (st_load_old rfl one3 (Rd.row encI_len hT hf1 (j := 0) rfl)) (List.Sublist.refl _) ?_
                refine d_st 10 rfl (by kernel_rfl) (by kernel_rfl) (by kernel_rfl) rfl (st_field rfl fld34_2) (List.Sublist.refl _) ?_
                refine d_st 11 rfl (by kernel_rfl) (by kernel_rfl) (by kernel_rfl) rfl (st_load 0 rfl one3 rfl rfl) (List.Sublist.refl _) ?_
                refine d_st 12 rfl (by kernel_rfl) (by kernel_rfl) (by kernel_rfl) rfl (st_add rfl rfl (by omega)) (List.Sublist.refl _) ?_
                refine d_st 13 rfl (by kernel_rfl) (by kernel_rfl) (by kernel_rfl) rfl (st_lss_f rfl rfl (by omega)) (List.Sublist.refl _) ?_
                refine d_done (by kernel_rfl) ?_
                refine x_then_normal ?_
                refine c_cond_f rfl ?_
                refine c_skip ?_
                refine x_block_normal ?_
                refine x_then_normal ?_
                refine c_region ?_
                refine t_st rfl (st_add rfl rfl (by omega)) ?_
                refine t_st rfl (st_move rfl) ?_
                refine t_nil ?_
                exact x_again  (k + 1) (Base.Le.refl _) ⟨rfl, trivial⟩ ⟨rfl, rfl, rfl, rfl, rfl, rfl, rfl, trivial⟩ (by repeat (first | exact List.Sublist.refl _ | exact List.nil_sublist _ | exact List.sublist_append_left _ _ | exact List.sublist_append_right _ _ | exact (List.sublist_append_right _ _).trans (List.sublist_append_right _ _) | apply List.Sublist.cons_cons | apply List.Sublist.cons)) (by omega) (by omega)
              ·
                refine t_nil ?_
                refine x_then_normal ?_
                refine c_seq ?_
                refine c_cond_f rfl ?_
                refine c_exit ?_
                refine x_then_exit ?_
                refine x_then_exit ?_
                refine x_block_out ?_
                refine x_then_normal ?_
                refine c_seq ?_
                refine c_seq ?_
                refine c_region ?_
                refine t_st rfl (st_move rfl) ?_
                refine t_st rfl (st_len rfl sl22) ?_
                refine t_st rfl (st_move rfl) ?_
                refine t_nil ?_
                refine x_then_normal ?_
                refine c_block ?_
                refine l_loop [(1, _), (2, _), (3, _), (7, _), (9, _), (105, _), (106, _)] _ (fun (k : Nat) => [(107, .int .i64 (k : Int))]) (fun (k : Nat) => []) (fun (k : Nat) => k ≤ t3.l.length) (fun (k : Nat) => t3.l.length - k) (0) ⟨rfl, trivial⟩ ⟨rfl, rfl, rfl, rfl, rfl, rfl, rfl, trivial⟩ rfl (by omega) ?_
                intro k hinv
                refine c_seq ?_
                refine c_region ?_
                refine t_bool rfl (st_lss rfl rfl) (fun hc8 => ?_) (fun hc8 => ?_)
                ·
                  refine t_nil ?_
                  refine x_then_normal ?_
                  refine c_seq ?_
                  refine c_cond_t rfl ?_
                  refine c_skip ?_
                  refine x_then_normal ?_
                  refine c_seq ?_
                  refine c_block ?_
                  refine c_seq ?_
                  refine c_region ?_
                  obtain ⟨x, hx⟩ := ex_get (l := t3.l) (k := k) (by omega)
                  obtain ⟨r, hr⟩ := ex_get (l := g.ready.l) (k := k) (by omega)
                  obtain ⟨la, hla⟩ := ex_get (l := g.last.l) (k := k) (by omega)
                  obtain ⟨hge, hok, hsup⟩ := node_at hV hs3 ht3 hx hr hla
                  rw [← hD] at hsup
                  refine t_st rfl (st_move rfl) ?_
                  refine t_st rfl (st_index_old k rfl rfl rfl (by omega) (Rd.isSome encI_len (by decide) hT hx) sl22) ?_
                  refine t_st rfl (st_load_old rfl one3 (Rd.row encI_len hT hx (j := 0) rfl)) ?_
                  refine t_st rfl (st_assign rfl) ?_
                  refine t_st rfl (st_assign rfl) ?_
                  refine t_nil ?_
                  refine x_then_normal ?_
                  refine c_seq ?_
                  refine c_region ?_
                  refine t_st rfl (st_move rfl) ?_
                  refine t_st rfl (st_field rfl fld26_0) ?_
                  refine t_st rfl (st_load 0 rfl one22 rfl rfl) ?_
                  refine t_st rfl (st_move rfl) ?_
                  refine t_st rfl (st_index_old k rfl rfl rfl (by omega) (Rd.isSome encI_len (by decide) hg.ready hr) sl22) ?_
                  refine t_st rfl (st_load_old rfl one3 (Rd.row encI_len hg.ready hr (j := 0) rfl)) ?_
                  refine t_st rfl (st_eql rfl rfl) ?_
                  refine t_st rfl (st_assign rfl) ?_
                  refine t_nil ?_
                  refine x_then_normal ?_
                  refine c_seq ?_
                  refine c_seq ?_
                  refine c_region ?_
                  refine t_st rfl (st_move rfl) ?_
                  refine t_st rfl (st_len rfl sl23) ?_
                  refine t_st rfl (st_move rfl) ?_
                  refine t_nil ?_
                  refine x_then_normal ?_
                  refine c_block ?_
                  refine l_loop2 [(1, _), (2, _), (3, _), (7, _), (9, _), (14, _), (15, _), (105, _), (106, _), (107, _), (119, _), (120, _)] _ (fun (j : Nat) (held : Bool) => [(121, .int .i64 (j : Int)), (16, .bool held)]) (fun (j : Nat) (held : Bool) => []) (fun (j : Nat) (held : Bool) => j ≤ D.length ∧ Held t3.l D (k : Int) x r j held) (fun (j : Nat) (held : Bool) => D.length - j) (0) (decide (x = r)) ⟨rfl, rfl, trivial⟩ ⟨rfl, rfl, rfl, rfl, rfl, rfl, rfl, rfl, rfl, rfl, rfl, rfl, trivial⟩ rfl ⟨by omega, Held.zero⟩ ?_
                  intro j held hinv
                  obtain ⟨hj, hH⟩ := hinv
                  refine c_seq ?_
                  refine c_region ?_
                  refine t_bool rfl (st_lss rfl rfl) (fun hc9 => ?_) (fun hc9 => ?_)
                  ·
                    refine t_nil ?_
                    refine x_then_normal ?_
                    refine c_seq ?_
                    refine c_cond_t rfl ?_
                    refine c_skip ?_
                    refine x_then_normal ?_
                    refine c_seq ?_
                    refine c_block ?_
                    refine c_seq ?_
                    refine c_region ?_
                    obtain ⟨a, ha⟩ := ex_get (l := D) (k := j) (by omega)
                    obtain ⟨f, u, tf, tu, hf, hu, hf1, hu1, hgf, hsat, htf0, htf1, hl0, hl1⟩ := arc_at hV hs3 ht3 (by rw [← hD]; exact mem_of_get ha)
                    have hfl := lt_of_get hf1
                    have hul := lt_of_get hu1
                    refine t_st rfl (st_index_old j rfl rfl rfl (by omega) (Rd.isSome encA_len (by decide) hAr ha) sl23) ?_
                    refine t_st rfl (st_loadN_old (vs := encA _) 3 rfl agg34 (Rd.isSome encA_len (by decide) hAr ha) rfl (fun _ _ h => Rd.row encA_len hAr ha h)) ?_
                    refine t_do rfl (u_alloc [.int .i64 0, .int .i64 0, .int .i64 0] zero34 rfl) ?_
                    rintro _ _ ⟨g10, rfl, rfl⟩
                    refine t_do rfl (u_storeN (vs := [_, _, _]) 0 3 rfl rfl rfl siz34 rfl (by intro u hu; simp only [List.mem_cons, List.not_mem_nil, or_false] at hu; rcases hu with rfl | rfl | rfl <;> rfl) rfl (by simp)) ?_
                    rintro _ _ rfl
                    refine t_nil ?_
                    refine x_then_normal ?_
                    refine c_draw mixed ?_
                    refine d_st 0 rfl (by kernel_rfl) (by kernel_rfl) (by kernel_rfl) rfl (st_move rfl) (List.Sublist.refl _) ?_
                    refine d_boolv 1 rfl (by kernel_rfl) (by kernel_rfl) (by kernel_rfl) rfl (st_move rfl) (List.Sublist.refl _) (fun hc11 => ?_) (fun hc11 => ?_)
                    ·
                      refine d_no 2 126 rfl (by kernel_rfl) (by kernel_rfl) (by kernel_rfl) rfl rfl rfl rfl rfl (List.Sublist.refl _) ?_
                      refine d_no 3 126 rfl (by kernel_rfl) (by kernel_rfl) (by kernel_rfl) rfl rfl rfl rfl rfl (List.Sublist.refl _) ?_
                      refine d_no 4 126 rfl (by kernel_rfl) (by kernel_rfl) (by kernel_rfl) rfl rfl rfl rfl rfl (List.Sublist.refl _) ?_
                      refine d_no 5 126 rfl (by kernel_rfl) (by kernel_rfl) (by kernel_rfl) rfl rfl rfl rfl rfl (List.Sublist.refl _) ?_
                      refine d_no 6 126 rfl (by kernel_rfl) (by kernel_rfl) (by kernel_rfl) rfl rfl rfl rfl rfl (List.Sublist.refl _) ?_
                      refine d_no 7 131 rfl (by kernel_rfl) (by kernel_rfl) (by kernel_rfl) rfl rfl rfl rfl rfl (List.Sublist.refl _) ?_
                      refine d_no 8 131 rfl (by kernel_rfl) (by kernel_rfl) (by kernel_rfl) rfl rfl rfl rfl rfl (List.Sublist.refl _) ?_
                      refine d_no 9 131 rfl (by kernel_rfl) (by kernel_rfl) (by kernel_rfl) rfl rfl rfl rfl rfl (List.Sublist.refl _) ?_
                      refine d_no 10 131 rfl (by kernel_rfl) (by kernel_rfl) (by kernel_rfl) rfl rfl rfl rfl rfl (List.Sublist.refl _) ?_
                      refine d_no 11 131 rfl (by kernel_rfl) (by kernel_rfl) (by kernel_rfl) rfl rfl rfl rfl rfl (List.Sublist.refl _) ?_
                      refine d_no 12 131 rfl (by kernel_rfl) (by kernel_rfl) (by kernel_rfl) rfl rfl rfl rfl rfl (List.Sublist.refl _) ?_
                      refine d_no 13 131 rfl (by kernel_rfl) (by kernel_rfl) (by kernel_rfl) rfl rfl rfl rfl rfl (List.Sublist.refl _) ?_
                      refine d_no 14 131 rfl (by kernel_rfl) (by kernel_rfl) (by kernel_rfl) rfl rfl rfl rfl rfl (List.Sublist.refl _) ?_
                      refine d_no 15 131 rfl (by kernel_rfl) (by kernel_rfl) (by kernel_rfl) rfl rfl rfl rfl rfl (List.Sublist.refl _) ?_
                      refine d_no 16 131 rfl (by kernel_rfl) (by kernel_rfl) (by kernel_rfl) rfl rfl rfl rfl rfl (List.Sublist.refl _) ?_
                      refine d_no 17 126 rfl (by kernel_rfl) (by kernel_rfl) (by kernel_rfl) rfl rfl rfl rfl rfl (List.Sublist.refl _) ?_
                      refine d_st 18 rfl (by kernel_rfl) (by kernel_rfl) (by kernel_rfl) rfl (st_pick_t rfl rfl) (List.Sublist.refl _) ?_
                      refine d_st 19 rfl (by kernel_rfl) (by kernel_rfl) (by kernel_rfl) rfl (st_assign rfl) (List.Sublist.refl _) ?_
                      refine d_done (by kernel_rfl) ?_
                      refine x_block_normal ?_
                      refine x_then_normal ?_
                      refine c_region ?_
                      refine t_st rfl (st_add rfl rfl (by omega)) ?_
                      refine t_st rfl (st_move rfl) ?_
                      refine t_nil ?_
                      exact x_again2 (ev := (fun (j : Nat) (held : Bool) => [(121, .int .i64 (j : Int)), (16, .bool held)])) (hv := (fun (j : Nat) (held : Bool) => [])) (inv := (fun (j : Nat) (held : Bool) => j ≤ D.length ∧ Held t3.l D (k : Int) x r j held)) (μ := (fun (j : Nat) (held : Bool) => D.length - j)) (j + 1) (true) (Base.Le.refl _) ⟨rfl, rfl, trivial⟩ ⟨rfl, rfl, rfl, rfl, rfl, rfl, rfl, rfl, rfl, rfl, rfl, rfl, trivial⟩ (by repeat (first | exact List.Sublist.refl _ | exact List.nil_sublist _ | exact List.sublist_append_left _ _ | exact List.sublist_append_right _ _ | exact (List.sublist_append_right _ _).trans (List.sublist_append_right _ _) | apply List.Sublist.cons_cons | apply List.Sublist.cons)) ⟨by omega, hH.snoc ha (fun _ => rfl) (fun _ _ => rfl)⟩ (by omega)
                    ·
                      refine d_yes 2 126 rfl (by kernel_rfl) (by kernel_rfl) (by kernel_rfl) rfl rfl rfl rfl (st_field rfl fld34_1) (List.Sublist.refl _) ?_
                      refine d_yes 3 126 rfl (by kernel_rfl) (by kernel_rfl) (by kernel_rfl) rfl rfl rfl rfl (st_load 0 rfl one3 rfl rfl) (List.Sublist.refl _) ?_
                      refine d_yes 4 126 rfl (by kernel_rfl) (by kernel_rfl) (by kernel_rfl) rfl rfl rfl rfl (st_move rfl) (List.Sublist.refl _) ?_
                      refine d_yesB 5 126 rfl (by kernel_rfl) (by kernel_rfl) (by kernel_rfl) rfl rfl rfl rfl (st_eql rfl rfl) (List.Sublist.refl _) (fun hc12 => ?_) (fun hc12 => ?_)
                      ·
                        refine d_yes 6 126 rfl (by kernel_rfl) (by kernel_rfl) (by kernel_rfl) rfl rfl rfl rfl (st_move rfl) (List.Sublist.refl _) ?_
                        refine d_yes 7 131 rfl (by kernel_rfl) (by kernel_rfl) (by kernel_rfl) rfl rfl rfl rfl (st_move rfl) (List.Sublist.refl _) ?_
                        refine d_yes 8 131 rfl (by kernel_rfl) (by kernel_rfl) (by kernel_rfl) rfl rfl rfl rfl (st_move rfl) (List.Sublist.refl _) ?_
                        refine d_yes 9 131 rfl (by kernel_rfl) (by kernel_rfl) (by kernel_rfl) rfl rfl rfl rfl (st_field rfl fld34_0) (List.Sublist.refl _) ?_
                        refine d_yes 10 131 rfl (by kernel_rfl) (by kernel_rfl) (by kernel_rfl) rfl rfl rfl rfl (st_load 0 rfl one3 rfl rfl) (List.Sublist.refl _) ?_
                        refine d_yes 11 131 rfl (by kernel_rfl) (by kernel_rfl) (by kernel_rfl) rfl rfl rfl rfl (st_index_old f rfl rfl hf (by omega) (Rd.isSome encI_len (by decide) hT hf1) sl22) (List.Sublist.refl _) ?_
                        refine d_yes 12 131 rfl (by kernel_rfl) (by kernel_rfl) (by kernel_rfl) rfl rfl rfl rfl (st_load_old rfl one3 (Rd.row encI_len hT hf1 (j := 0) rfl)) (List.Sublist.refl _) ?_
                        refine d_yes 13 131 rfl (by kernel_rfl) (by kernel_rfl) (by kernel_rfl) rfl rfl rfl rfl (st_field rfl fld34_2) (List.Sublist.refl _) ?_
                        refine d_yes 14 131 rfl (by kernel_rfl) (by kernel_rfl) (by kernel_rfl) rfl rfl rfl rfl (st_load 0 rfl one3 rfl rfl) (List.Sublist.refl _) ?_
                        refine d_yes 15 131 rfl (by kernel_rfl) (by kernel_rfl) (by kernel_rfl) rfl rfl rfl rfl (st_add rfl rfl (by omega)) (List.Sublist.refl _) ?_
                        refine d_yesB 16 131 rfl (by kernel_rfl) (by kernel_rfl) (by kernel_rfl) rfl rfl rfl rfl (st_eql rfl rfl) (List.Sublist.refl _) (fun hc13 => ?_) (fun hc13 => ?_)
                        ·
                          refine d_yes 17 126 rfl (by kernel_rfl) (by kernel_rfl) (by kernel_rfl) rfl rfl rfl rfl (st_pick_t rfl rfl) (List.Sublist.refl _) ?_
                          refine d_st 18 rfl (by kernel_rfl) (by kernel_rfl) (by kernel_rfl) rfl (st_pick_f rfl rfl) (List.Sublist.refl _) ?_
                          refine d_st 19 rfl (by kernel_rfl) (by kernel_rfl) (by kernel_rfl) rfl (st_assign rfl) (List.Sublist.refl _) ?_
                          refine d_done (by kernel_rfl) ?_
                          refine x_block_normal ?_
                          refine x_then_normal ?_
                          refine c_region ?_
                          refine t_st rfl (st_add rfl rfl (by omega)) ?_
                          refine t_st rfl (st_move rfl) ?_
                          refine t_nil ?_
                          exact x_again2 (ev := (fun (j : Nat) (held : Bool) => [(121, .int .i64 (j : Int)), (16, .bool held)])) (hv := (fun (j : Nat) (held : Bool) => [])) (inv := (fun (j : Nat) (held : Bool) => j ≤ D.length ∧ Held t3.l D (k : Int) x r j held)) (μ := (fun (j : Nat) (held : Bool) => D.length - j)) (j + 1) (true) (Base.Le.refl _) ⟨rfl, rfl, trivial⟩ ⟨rfl, rfl, rfl, rfl, rfl, rfl, rfl, rfl, rfl, rfl, rfl, rfl, trivial⟩ (by repeat (first | exact List.Sublist.refl _ | exact List.nil_sublist _ | exact List.sublist_append_left _ _ | exact List.sublist_append_right _ _ | exact (List.sublist_append_right _ _).trans (List.sublist_append_right _ _) | apply List.Sublist.cons_cons | apply List.Sublist.cons)) ⟨by omega, hH.snoc ha (fun _ => rfl) (fun _ _ => rfl)⟩ (by omega)
                        ·
                          refine d_yes 17 126 rfl (by kernel_rfl) (by kernel_rfl) (by kernel_rfl) rfl rfl rfl rfl (st_pick_t rfl rfl) (List.Sublist.refl _) ?_
                          refine d_st 18 rfl (by kernel_rfl) (by kernel_rfl) (by kernel_rfl) rfl (st_pick_f rfl rfl) (List.Sublist.refl _) ?_
                          refine d_st 19 rfl (by kernel_rfl) (by kernel_rfl) (by kernel_rfl) rfl (st_assign rfl) (List.Sublist.refl _) ?_
                          refine d_done (by kernel_rfl) ?_
                          refine x_block_normal ?_
                          refine x_then_normal ?_
                          refine c_region ?_
                          refine t_st rfl (st_add rfl rfl (by omega)) ?_
                          refine t_st rfl (st_move rfl) ?_
                          refine t_nil ?_
                          exact x_again2 (ev := (fun (j : Nat) (held : Bool) => [(121, .int .i64 (j : Int)), (16, .bool held)])) (hv := (fun (j : Nat) (held : Bool) => [])) (inv := (fun (j : Nat) (held : Bool) => j ≤ D.length ∧ Held t3.l D (k : Int) x r j held)) (μ := (fun (j : Nat) (held : Bool) => D.length - j)) (j + 1) (false) (Base.Le.refl _) ⟨rfl, rfl, trivial⟩ ⟨rfl, rfl, rfl, rfl, rfl, rfl, rfl, rfl, rfl, rfl, rfl, rfl, trivial⟩ (by repeat (first | exact List.Sublist.refl _ | exact List.nil_sublist _ | exact List.sublist_append_left _ _ | exact List.sublist_append_right _ _ | exact (List.sublist_append_right _ _).trans (List.sublist_append_right _ _) | apply List.Sublist.cons_cons | apply List.Sublist.cons)) ⟨by omega, hH.snoc ha (fun h1 => absurd h1 (by simp [*])) (fun h1 h2 => by exfalso; omega)⟩ (by omega)
                      ·
                        refine d_yes 6 126 rfl (by kernel_rfl) (by kernel_rfl) (by kernel_rfl) rfl rfl rfl rfl (st_move rfl) (List.Sublist.refl _) ?_
                        refine d_no 7 131 rfl (by kernel_rfl) (by kernel_rfl) (by kernel_rfl) rfl rfl rfl rfl rfl (List.Sublist.refl _) ?_
                        refine d_no 8 131 rfl (by kernel_rfl) (by kernel_rfl) (by kernel_rfl) rfl rfl rfl rfl rfl (List.Sublist.refl _) ?_
                        refine d_no 9 131 rfl (by kernel_rfl) (by kernel_rfl) (by kernel_rfl) rfl rfl rfl rfl rfl (List.Sublist.refl _) ?_
                        refine d_no 10 131 rfl (by kernel_rfl) (by kernel_rfl) (by kernel_rfl) rfl rfl rfl rfl rfl (List.Sublist.refl _) ?_
                        refine d_no 11 131 rfl (by kernel_rfl) (by kernel_rfl) (by kernel_rfl) rfl rfl rfl rfl rfl (List.Sublist.refl _) ?_
                        refine d_no 12 131 rfl (by kernel_rfl) (by kernel_rfl) (by kernel_rfl) rfl rfl rfl rfl rfl (List.Sublist.refl _) ?_
                        refine d_no 13 131 rfl (by kernel_rfl) (by kernel_rfl) (by kernel_rfl) rfl rfl rfl rfl rfl (List.Sublist.refl _) ?_
                        refine d_no 14 131 rfl (by kernel_rfl) (by kernel_rfl) (by kernel_rfl) rfl rfl rfl rfl rfl (List.Sublist.refl _) ?_
                        refine d_no 15 131 rfl (by kernel_rfl) (by kernel_rfl) (by kernel_rfl) rfl rfl rfl rfl rfl (List.Sublist.refl _) ?_
                        refine d_no 16 131 rfl (by kernel_rfl) (by kernel_rfl) (by kernel_rfl) rfl rfl rfl rfl rfl (List.Sublist.refl _) ?_
                        refine d_yes 17 126 rfl (by kernel_rfl) (by kernel_rfl) (by kernel_rfl) rfl rfl rfl rfl (st_pick_f rfl rfl) (List.Sublist.refl _) ?_
                        refine d_st 18 rfl (by kernel_rfl) (by kernel_rfl) (by kernel_rfl) rfl (st_pick_f rfl rfl) (List.Sublist.refl _) ?_
                        refine d_st 19 rfl (by kernel_rfl) (by kernel_rfl) (by kernel_rfl) rfl (st_assign rfl) (List.Sublist.refl _) ?_
                        refine d_done (by kernel_rfl) ?_
                        refine x_block_normal ?_
                        refine x_then_normal ?_
                        refine c_region ?_
                        refine t_st rfl (st_add rfl rfl (by omega)) ?_
                        refine t_st rfl (st_move rfl) ?_
                        refine t_nil ?_
                        exact x_again2 (ev := (fun (j : Nat) (held : Bool) => [(121, .int .i64 (j : Int)), (16, .bool held)])) (hv := (fun (j : Nat) (held : Bool) => [])) (inv := (fun (j : Nat) (held : Bool) => j ≤ D.length ∧ Held t3.l D (k : Int) x r j held)) (μ := (fun (j : Nat) (held : Bool) => D.length - j)) (j + 1) (false) (Base.Le.refl _) ⟨rfl, rfl, trivial⟩ ⟨rfl, rfl, rfl, rfl, rfl, rfl, rfl, rfl, rfl, rfl, rfl, rfl, trivial⟩ (by repeat (first | exact List.Sublist.refl _ | exact List.nil_sublist _ | exact List.sublist_append_left _ _ | exact List.sublist_append_right _ _ | exact (List.sublist_append_right _ _).trans (List.sublist_append_right _ _) | apply List.Sublist.cons_cons | apply List.Sublist.cons)) ⟨by omega, hH.snoc ha (fun h1 => absurd h1 (by simp [*])) (fun h1 h2 => by exfalso; omega)⟩ (by omega)
                  ·
                    refine t_nil ?_
                    refine x_then_normal ?_
                    refine c_seq ?_
                    refine c_cond_f rfl ?_
                    refine c_exit ?_
                    refine x_then_exit ?_
                    refine x_then_exit ?_
                    refine x_block_out ?_
                    refine x_then_normal ?_
                    refine c_seq ?_
                    have hhd := hH.done (by omega) hsup
                    subst hhd
                    refine c_region ?_
                    refine t_st rfl (st_move rfl) ?_
                    refine t_st rfl (st_not_t rfl) ?_
                    refine t_st rfl (st_move rfl) ?_
                    refine t_yes 147 rfl rfl rfl ?_
                    refine t_st rfl (st_move rfl) ?_
                    refine t_yes 147 rfl rfl rfl ?_
                    refine t_st rfl (st_field rfl fld26_0) ?_
                    refine t_yes 147 rfl rfl rfl ?_
                    refine t_st rfl (st_load 0 rfl one22 rfl rfl) ?_
                    refine t_yes 147 rfl rfl rfl ?_
                    refine t_st rfl (st_move rfl) ?_
                    refine t_yes 147 rfl rfl rfl ?_
                    refine t_st rfl (st_index_old k rfl rfl rfl (by omega) (Rd.isSome encI_len (by decide) hg.ready hr) sl22) ?_
                    refine t_yes 147 rfl rfl rfl ?_
                    refine t_st rfl (st_load_old rfl one3 (Rd.row encI_len hg.ready hr (j := 0) rfl)) ?_
                    refine t_yes 147 rfl rfl rfl ?_
                    refine t_st rfl (st_lss_f rfl rfl (by omega)) ?_
                    refine t_st rfl (st_pick_f rfl rfl) ?_
                    refine t_st rfl (st_move rfl) ?_
                    refine t_yes 156 rfl rfl rfl ?_
                    refine t_st rfl (st_field rfl fld26_1) ?_
                    refine t_yes 156 rfl rfl rfl ?_
                    refine t_st rfl (st_load 0 rfl one22 rfl rfl) ?_
                    refine t_yes 156 rfl rfl rfl ?_
                    refine t_st rfl (st_move rfl) ?_
                    refine t_yes 156 rfl rfl rfl ?_
                    refine t_st rfl (st_index_old k rfl rfl rfl (by omega) (Rd.isSome encI_len (by decide) hg.last hla) sl22) ?_
                    refine t_yes 156 rfl rfl rfl ?_
                    refine t_st rfl (st_load_old rfl one3 (Rd.row encI_len hg.last hla (j := 0) rfl)) ?_
                    refine t_yes 156 rfl rfl rfl ?_
                    refine t_bool rfl (st_geq rfl rfl) (fun hc14 => ?_) (fun hc14 => ?_)
                    ·
                      refine t_yes 156 rfl rfl rfl ?_
                      refine t_st rfl (st_move rfl) ?_
                      refine t_yes 163 rfl rfl rfl ?_
                      refine t_st rfl (st_move rfl) ?_
                      refine t_yes 163 rfl rfl rfl ?_
                      refine t_st rfl (st_field rfl fld26_1) ?_
                      refine t_yes 163 rfl rfl rfl ?_
                      refine t_st rfl (st_load 0 rfl one22 rfl rfl) ?_
                      refine t_yes 163 rfl rfl rfl ?_
                      refine t_st rfl (st_move rfl) ?_
                      refine t_yes 163 rfl rfl rfl ?_
                      refine t_st rfl (st_index_old k rfl rfl rfl (by omega) (Rd.isSome encI_len (by decide) hg.last hla) sl22) ?_
                      refine t_yes 163 rfl rfl rfl ?_
                      refine t_st rfl (st_load_old rfl one3 (Rd.row encI_len hg.last hla (j := 0) rfl)) ?_
                      refine t_yes 163 rfl rfl rfl ?_
                      refine t_st rfl (st_gtr_f rfl rfl (by omega)) ?_
                      refine t_yes 156 rfl rfl rfl ?_
                      refine t_st rfl (st_pick_t rfl rfl) ?_
                      refine t_st rfl (st_pick_f rfl rfl) ?_
                      refine t_nil ?_
                      refine x_then_normal ?_
                      refine c_cond_f rfl ?_
                      refine c_skip ?_
                      refine x_block_normal ?_
                      refine x_then_normal ?_
                      refine c_region ?_
                      refine t_st rfl (st_add rfl rfl (by omega)) ?_
                      refine t_st rfl (st_move rfl) ?_
                      refine t_nil ?_
                      exact x_again  (k + 1) (Base.Le.refl _) ⟨rfl, trivial⟩ ⟨rfl, rfl, rfl, rfl, rfl, rfl, rfl, trivial⟩ (by repeat (first | exact List.Sublist.refl _ | exact List.nil_sublist _ | exact List.sublist_append_left _ _ | exact List.sublist_append_right _ _ | exact (List.sublist_append_right _ _).trans (List.sublist_append_right _ _) | apply List.Sublist.cons_cons | apply List.Sublist.cons)) (by omega) (by omega)
                    ·
                      refine t_yes 156 rfl rfl rfl ?_
                      refine t_st rfl (st_move rfl) ?_
                      refine t_no 163 rfl rfl rfl rfl rfl ?_
                      refine t_no 163 rfl rfl rfl rfl rfl ?_
                      refine t_no 163 rfl rfl rfl rfl rfl ?_
                      refine t_no 163 rfl rfl rfl rfl rfl ?_
                      refine t_no 163 rfl rfl rfl rfl rfl ?_
                      refine t_no 163 rfl rfl rfl rfl rfl ?_
                      refine t_no 163 rfl rfl rfl rfl rfl ?_
                      refine t_yes 156 rfl rfl rfl ?_
                      refine t_st rfl (st_pick_f rfl rfl) ?_
                      refine t_st rfl (st_pick_f rfl rfl) ?_
                      refine t_nil ?_
                      refine x_then_normal ?_
                      refine c_cond_f rfl ?_
                      refine c_skip ?_
                      refine x_block_normal ?_
                      refine x_then_normal ?_
                      refine c_region ?_
                      refine t_st rfl (st_add rfl rfl (by omega)) ?_
                      refine t_st rfl (st_move rfl) ?_
                      refine t_nil ?_
                      exact x_again  (k + 1) (Base.Le.refl _) ⟨rfl, trivial⟩ ⟨rfl, rfl, rfl, rfl, rfl, rfl, rfl, trivial⟩ (by repeat (first | exact List.Sublist.refl _ | exact List.nil_sublist _ | exact List.sublist_append_left _ _ | exact List.sublist_append_right _ _ | exact (List.sublist_append_right _ _).trans (List.sublist_append_right _ _) | apply List.Sublist.cons_cons | apply List.Sublist.cons)) (by omega) (by omega)
                ·
                  refine t_nil ?_
                  refine x_then_normal ?_
                  refine c_seq ?_
                  refine c_cond_f rfl ?_
                  refine c_exit ?_
                  refine x_then_exit ?_
                  refine x_then_exit ?_
                  refine x_block_out ?_
                  refine x_then_normal ?_
                  refine c_seq ?_
                  refine c_region ?_
                  refine t_st rfl (st_move rfl) ?_
                  refine t_do rfl (u_callF [_] _ _ call12 rfl rfl (fun w ho => cloneI_c _ _ _ _ w (hA.old ho) (by rw [rows_length encI_len]) (by omega))) ?_
                  rintro _ _ ⟨hs5, rfl, hseg5⟩
                  obtain ⟨A5, c5, rfl, hcm5⟩ := hseg5.form
                  refine t_st rfl (st_assign rfl) ?_
                  refine t_nil ?_
                  refine x_then_normal ?_
                  refine c_seq ?_
                  refine c_seq ?_
                  refine c_region ?_
                  refine t_st rfl (st_move rfl) ?_
                  refine t_st rfl (st_len rfl sl22) ?_
                  refine t_st rfl (st_move rfl) ?_
                  refine t_nil ?_
                  refine x_then_normal ?_
                  refine c_block ?_
                  refine c_pull 0 rfl ?_
                  refine l_loop4 [(3, _), (7, _), (176, _), (177, _)] _ (fun (k : Nat) (A6 : Option Addr) (cur : List Int) (hs6 : Hp) => [(178, .int .i64 (k : Int)), (19, .slice A6 cur.length c5)]) (fun (k : Nat) (A6 : Option Addr) (cur : List Int) (hs6 : Hp) => [(g1, Cl 26 g.cells)] ++ hs6) (fun (k : Nat) (A6 : Option Addr) (cur : List Int) (hs6 : Hp) => k ≤ m.length ∧ CurB p m cur k ∧ BK A6 cur hs6) (fun (k : Nat) (A6 : Option Addr) (cur : List Int) (hs6 : Hp) => m.length - k) (0) (A5) (p) (hs5) ⟨rfl, rfl, trivial⟩ ⟨rfl, rfl, rfl, rfl, trivial⟩ rfl ⟨by omega, CurB.zero, BK.of hseg5⟩ ?_
                  intro k A6 cur hs6 hinv
                  obtain ⟨hk, hcu, hbk⟩ := hinv
                  refine c_seq ?_
                  refine c_region ?_
                  refine t_bool rfl (st_lss rfl rfl) (fun hc15 => ?_) (fun hc15 => ?_)
                  ·
                    refine t_nil ?_
                    refine x_then_normal ?_
                    refine c_seq ?_
                    refine c_cond_t rfl ?_
                    refine c_skip ?_
                    refine x_then_normal ?_
                    refine c_seq ?_
                    refine c_block ?_
                    refine c_seq ?_
                    obtain ⟨x, hx⟩ := ex_get (l := p) (k := k) (by omega)
                    obtain ⟨y, hy⟩ := ex_get (l := m) (k := k) (by omega)
                    have hcx := hcu.at hx hy
                    have hcl := lt_of_get hcx
                    obtain ⟨gb, tl, rfl, rfl⟩ : ∃ (g : Nat) (tl : List Value), A6 = some ⟨g, 0, none⟩ ∧ hs6 = [(g, Cl 3 (rows encI cur ++ tl))] := by
                      rcases hbk with h | h
                      · rw [h] at hcl
                        simp at hcl
                      · exact h
                    refine c_region ?_
                    refine t_st rfl (st_move rfl) ?_
                    refine t_st rfl (st_index_old k rfl rfl rfl (by omega) (Rd.isSome encI_len (by decide) hB hy) sl22) ?_
                    refine t_st rfl (st_load_old rfl one3 (Rd.row encI_len hB hy (j := 0) rfl)) ?_
                    refine t_st rfl (st_assign rfl) ?_
                    refine t_st rfl (st_assign rfl) ?_
                    refine t_nil ?_
                    refine x_then_normal ?_
                    refine c_seq ?_
                    refine c_region ?_
                    refine t_st rfl (st_move rfl) ?_
                    refine t_st rfl (st_move rfl) ?_
                    refine t_st rfl (st_index k rfl rfl rfl (by omega) sl22) ?_
                    refine t_st rfl (st_load 1 rfl one3 rfl (own_int hcx)) ?_
                    refine t_bool rfl (st_eql rfl rfl) (fun hc16 => ?_) (fun hc16 => ?_)
                    ·
                      refine t_nil ?_
                      refine x_then_normal ?_
                      refine c_cond_t rfl ?_
                      refine c_region ?_
                      refine t_st rfl (st_move rfl) ?_
                      refine t_st rfl (st_move rfl) ?_
                      refine t_st rfl (st_move rfl) ?_
                      refine t_st rfl (st_index k rfl rfl rfl (by omega) sl22) ?_
                      refine t_do rfl (u_store_int 1 rfl rfl siz3 rfl hcl) ?_
                      rintro _ _ rfl
                      refine t_nil ?_
                      refine x_block_normal ?_
                      refine x_then_normal ?_
                      refine c_region ?_
                      refine t_st rfl (st_add rfl rfl (by omega)) ?_
                      refine t_st rfl (st_move rfl) ?_
                      refine t_nil ?_
                      exact x_again4 (ev := (fun (k : Nat) (A6 : Option Addr) (cur : List Int) (hs6 : Hp) => [(178, .int .i64 (k : Int)), (19, .slice A6 cur.length c5)])) (hv := (fun (k : Nat) (A6 : Option Addr) (cur : List Int) (hs6 : Hp) => [(g1, Cl 26 g.cells)] ++ hs6)) (inv := (fun (k : Nat) (A6 : Option Addr) (cur : List Int) (hs6 : Hp) => k ≤ m.length ∧ CurB p m cur k ∧ BK A6 cur hs6)) (μ := (fun (k : Nat) (A6 : Option Addr) (cur : List Int) (hs6 : Hp) => m.length - k)) (k + 1) (some ⟨gb, 0, none⟩) (cur.set k y) ([(gb, Cl 3 (rows encI (cur.set k y) ++ tl))]) (Base.Le.refl _) ⟨rfl, congrArg (fun z => some (Value.slice (some ⟨gb, 0, none⟩) z c5)) List.length_set.symm, trivial⟩ ⟨rfl, rfl, rfl, rfl, trivial⟩ (by repeat (first | exact List.Sublist.refl _ | exact List.nil_sublist _ | exact List.sublist_append_left _ _ | exact List.sublist_append_right _ _ | exact (List.sublist_append_right _ _).trans (List.sublist_append_right _ _) | apply List.Sublist.cons_cons | apply List.Sublist.cons)) ⟨by omega, hcu.set hx hy (by omega), .inr ⟨gb, tl, rfl, rfl⟩⟩ (by omega)
                    ·
                      refine t_nil ?_
                      refine x_then_normal ?_
                      refine c_cond_f rfl ?_
                      refine c_skip ?_
                      refine x_block_normal ?_
                      refine x_then_normal ?_
                      refine c_region ?_
                      refine t_st rfl (st_add rfl rfl (by omega)) ?_
                      refine t_st rfl (st_move rfl) ?_
                      refine t_nil ?_
                      exact x_again4 (ev := (fun (k : Nat) (A6 : Option Addr) (cur : List Int) (hs6 : Hp) => [(178, .int .i64 (k : Int)), (19, .slice A6 cur.length c5)])) (hv := (fun (k : Nat) (A6 : Option Addr) (cur : List Int) (hs6 : Hp) => [(g1, Cl 26 g.cells)] ++ hs6)) (inv := (fun (k : Nat) (A6 : Option Addr) (cur : List Int) (hs6 : Hp) => k ≤ m.length ∧ CurB p m cur k ∧ BK A6 cur hs6)) (μ := (fun (k : Nat) (A6 : Option Addr) (cur : List Int) (hs6 : Hp) => m.length - k)) (k + 1) (some ⟨gb, 0, none⟩) (cur) ([(gb, Cl 3 (rows encI cur ++ tl))]) (Base.Le.refl _) ⟨rfl, rfl, trivial⟩ ⟨rfl, rfl, rfl, rfl, trivial⟩ (by repeat (first | exact List.Sublist.refl _ | exact List.nil_sublist _ | exact List.sublist_append_left _ _ | exact List.sublist_append_right _ _ | exact (List.sublist_append_right _ _).trans (List.sublist_append_right _ _) | apply List.Sublist.cons_cons | apply List.Sublist.cons)) ⟨by omega, hcu.keep hx (by omega), .inr ⟨gb, tl, rfl, rfl⟩⟩ (by omega)
                  ·
                    refine t_nil ?_
                    refine x_then_normal ?_
                    refine c_seq ?_
                    refine c_cond_f rfl ?_
                    refine c_exit ?_
                    refine x_then_exit ?_
                    refine x_then_exit ?_
                    refine x_block_out ?_
                    refine x_then_normal ?_
                    refine c_seq ?_
                    have hcb : cur = bothP p m := hcu.done (by omega) (by omega)
                    refine c_freezeF [_] hs6 hp rfl ?_
                    intro b5 hle5 hfz5
                    have hC : Rd b5.w A6 (rows encI cur) := hbk.rd hfz5
                    have hg := hg.le hle5
                    have hT := hT.le hle5
                    have hCv : PickV g cur := by rw [hcb]; exact both_v hP hM
                    have hcl : cur.length = p.length := by rw [hcb, both_length]
                    refine c_region ?_
                    refine t_st rfl (st_loadD (vs := [_, _, _, _, _]) 0 5 rfl agg26 rfl rfl rfl) ?_
                    refine t_st rfl (st_move rfl) ?_
                    refine t_callB _ rfl call10 rfl (Times_c _ _ g _ _ cur hg hC (by omega)) ?_
                    rintro _ b6 hle6 (⟨_, _, hn6, _⟩ | ⟨_, _, hs6, rfl⟩ | ⟨s6, t6, _, _, hs7, ht6, rfl, hU⟩)
                    ·
                      exact (hn6 ⟨hV, hCv⟩).elim
                    ·
                      refine t_st rfl (st_move rfl) ?_
                      refine t_st rfl (st_extract rfl rfl) ?_
                      refine t_st rfl (st_extract rfl rfl) ?_
                      refine t_st rfl (st_assign rfl) ?_
                      refine t_st rfl (st_assign rfl) ?_
                      refine t_nil ?_
                      refine x_then_normal ?_
                      refine c_seq ?_
                      refine c_seq ?_
                      refine c_region ?_
                      refine t_st rfl (st_move rfl) ?_
                      refine t_st rfl (st_neq_t rfl rfl (by decide)) ?_
                      refine t_nil ?_
                      refine x_then_normal ?_
                      refine c_cond_t rfl ?_
                      refine c_seq ?_
                      refine c_region ?_
                      refine t_st rfl (st_move rfl) ?_
                      refine t_st rfl (st_eql_t rfl rfl rfl) ?_
                      refine t_st rfl (st_assign rfl) ?_
                      refine t_nil ?_
                      refine x_then_normal ?_
                      refine c_ret ?_
                      refine x_then_ret ?_
                      refine x_drop (hp' := hp) (by repeat (first | exact List.Sublist.refl _ | exact List.nil_sublist _ | exact List.sublist_append_left _ _ | exact List.sublist_append_right _ _ | exact (List.sublist_append_right _ _).trans (List.sublist_append_right _ _) | apply List.Sublist.cons_cons | apply List.Sublist.cons)) ?_
                      exact retB1 (((((hle1.trans hle2).trans hle3).trans hle4).trans hle5).trans hle6) rfl rfl rfl
                    ·
                      have hT := hT.le hle6
                      have hlen6 := tm_len hV hs7 ht6
                      rw [hcb] at hs7
                      refine t_st rfl (st_move rfl) ?_
                      refine t_st rfl (st_extract rfl rfl) ?_
                      refine t_st rfl (st_extract rfl rfl) ?_
                      refine t_st rfl (st_assign rfl) ?_
                      refine t_st rfl (st_assign rfl) ?_
                      refine t_nil ?_
                      refine x_then_normal ?_
                      refine c_seq ?_
                      refine c_seq ?_
                      refine c_region ?_
                      refine t_st rfl (st_move rfl) ?_
                      refine t_st rfl (st_neq_f rfl rfl (by decide)) ?_
                      refine t_nil ?_
                      refine x_then_normal ?_
                      refine c_cond_f rfl ?_
                      refine c_skip ?_
                      refine x_then_normal ?_
                      refine c_seq ?_
                      refine c_seq ?_
                      refine c_region ?_
                      refine t_st rfl (st_move rfl) ?_
                      refine t_st rfl (st_len rfl sl22) ?_
                      refine t_st rfl (st_move rfl) ?_
                      refine t_nil ?_
                      refine x_then_normal ?_
                      refine c_block ?_
                      refine l_loop [(7, _), (22, _), (204, _)] _ (fun (k : Nat) => [(205, .int .i64 (k : Int))]) (fun (k : Nat) => []) (fun (k : Nat) => k ≤ t3.l.length) (fun (k : Nat) => t3.l.length - k) (0) ⟨rfl, trivial⟩ ⟨rfl, rfl, rfl, trivial⟩ rfl (by omega) ?_
                      intro k hinv
                      refine c_seq ?_
                      refine c_region ?_
                      refine t_bool rfl (st_lss rfl rfl) (fun hc17 => ?_) (fun hc17 => ?_)
                      ·
                        refine t_nil ?_
                        refine x_then_normal ?_
                        refine c_seq ?_
                        refine c_cond_t rfl ?_
                        refine c_skip ?_
                        refine x_then_normal ?_
                        refine c_seq ?_
                        refine c_block ?_
                        refine c_seq ?_
                        refine c_region ?_
                        refine t_st rfl (st_move rfl) ?_
                        refine t_st rfl (st_assign rfl) ?_
                        refine t_nil ?_
                        refine x_then_normal ?_
                        refine c_seq ?_
                        refine c_draw mixed ?_
                        obtain ⟨x, hx⟩ := ex_get (l := t3.l) (k := k) (by omega)
                        obtain ⟨z, hz⟩ := ex_get (l := t6.l) (k := k) (by omega)
                        have hle7 := least_at hV hP hM hs3 hs7 ht3 ht6 hx hz
                        refine d_st 0 rfl (by kernel_rfl) (by kernel_rfl) (by kernel_rfl) rfl (st_move rfl) (List.Sublist.refl _) ?_
                        refine d_st 1 rfl (by kernel_rfl) (by kernel_rfl) (by kernel_rfl) rfl (st_len rfl sl22) (List.Sublist.refl _) ?_
                        refine d_st 2 rfl (by kernel_rfl) (by kernel_rfl) (by kernel_rfl) rfl (st_move rfl) (List.Sublist.refl _) ?_
                        refine d_st 3 rfl (by kernel_rfl) (by kernel_rfl) (by kernel_rfl) rfl (st_len rfl sl22) (List.Sublist.refl _) ?_
                        refine d_st 4 rfl (by kernel_rfl) (by kernel_rfl) (by kernel_rfl) rfl (st_neq_f rfl rfl (by omega)) (List.Sublist.refl _) ?_
                        refine d_st 5 rfl (by kernel_rfl) (by kernel_rfl) (by kernel_rfl) rfl (st_move rfl) (List.Sublist.refl _) ?_
                        refine d_yes 6 213 rfl (by kernel_rfl) (by kernel_rfl) (by kernel_rfl) rfl rfl rfl rfl (st_move rfl) (List.Sublist.refl _) ?_
                        refine d_yes 7 213 rfl (by kernel_rfl) (by kernel_rfl) (by kernel_rfl) rfl rfl rfl rfl (st_move rfl) (List.Sublist.refl _) ?_
                        refine d_yes 8 213 rfl (by kernel_rfl) (by kernel_rfl) (by kernel_rfl) rfl rfl rfl rfl (st_index_old k rfl rfl rfl (by omega) (Rd.isSome encI_len (by decide) hU hz) sl22) (List.Sublist.refl _) ?_
                        refine d_yes 9 213 rfl (by kernel_rfl) (by kernel_rfl) (by kernel_rfl) rfl rfl rfl rfl (st_load_old rfl one3 (Rd.row encI_len hU hz (j := 0) rfl)) (List.Sublist.refl _) ?_
                        refine d_yes 10 213 rfl (by kernel_rfl) (by kernel_rfl) (by kernel_rfl) rfl rfl rfl rfl (st_move rfl) (List.Sublist.refl _) ?_
                        refine d_yes 11 213 rfl (by kernel_rfl) (by kernel_rfl) (by kernel_rfl) rfl rfl rfl rfl (st_move rfl) (List.Sublist.refl _) ?_
                        refine d_yes 12 213 rfl (by kernel_rfl) (by kernel_rfl) (by kernel_rfl) rfl rfl rfl rfl (st_index_old k rfl rfl rfl (by omega) (Rd.isSome encI_len (by decide) hT hx) sl22) (List.Sublist.refl _) ?_
                        refine d_yes 13 213 rfl (by kernel_rfl) (by kernel_rfl) (by kernel_rfl) rfl rfl rfl rfl (st_load_old rfl one3 (Rd.row encI_len hT hx (j := 0) rfl)) (List.Sublist.refl _) ?_
                        refine d_yes 14 213 rfl (by kernel_rfl) (by kernel_rfl) (by kernel_rfl) rfl rfl rfl rfl (st_lss_f rfl rfl (by omega)) (List.Sublist.refl _) ?_
                        refine d_st 15 rfl (by kernel_rfl) (by kernel_rfl) (by kernel_rfl) rfl (st_pick_f rfl rfl) (List.Sublist.refl _) ?_
                        refine d_done (by kernel_rfl) ?_
                        refine x_then_normal ?_
                        refine c_cond_f rfl ?_
                        refine c_skip ?_
                        refine x_block_normal ?_
                        refine x_then_normal ?_
                        refine c_region ?_
                        refine t_st rfl (st_add rfl rfl (by omega)) ?_
                        refine t_st rfl (st_move rfl) ?_
                        refine t_nil ?_
                        exact x_again  (k + 1) (Base.Le.refl _) ⟨rfl, trivial⟩ ⟨rfl, rfl, rfl, trivial⟩ (by repeat (first | exact List.Sublist.refl _ | exact List.nil_sublist _ | exact List.sublist_append_left _ _ | exact List.sublist_append_right _ _ | exact (List.sublist_append_right _ _).trans (List.sublist_append_right _ _) | apply List.Sublist.cons_cons | apply List.Sublist.cons)) (by omega) (by omega)
                      ·
                        refine t_nil ?_
                        refine x_then_normal ?_
                        refine c_seq ?_
                        refine c_cond_f rfl ?_
                        refine c_exit ?_
                        refine x_then_exit ?_
                        refine x_then_exit ?_
                        refine x_block_out ?_
                        refine x_then_normal ?_
                        refine c_seq ?_
                        refine c_region ?_
                        refine t_st rfl (st_assign rfl) ?_
                        refine t_nil ?_
                        refine x_then_normal ?_
                        refine c_ret ?_
                        refine x_drop (hp' := hp) (by repeat (first | exact List.Sublist.refl _ | exact List.nil_sublist _ | exact List.sublist_append_left _ _ | exact List.sublist_append_right _ _ | exact (List.sublist_append_right _ _).trans (List.sublist_append_right _ _) | apply List.Sublist.cons_cons | apply List.Sublist.cons)) ?_
                        exact retB1 (((((hle1.trans hle2).trans hle3).trans hle4).trans hle5).trans hle6) rfl rfl rfl

end Go.Proofs.Ytakehdnblmonlaa
