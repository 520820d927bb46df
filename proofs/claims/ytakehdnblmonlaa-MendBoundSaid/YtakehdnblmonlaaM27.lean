/- The closure of Best, one step. -/
import Derived.Test.YtakehdnblmonlaaM26
namespace Go.Proofs.Ytakehdnblmonlaa
open Go.RowKit Go.Fp

set_option maxRecDepth 10000 in
theorem best1_step (g : Gr) (L : Bl) (fr : Hp) (hV : GraphV g) (hnd : L.op.l.Nodup) (hop : L.op.l.length ≤ 10) (hov : ∀ x ∈ L.op.l, 0 ≤ x ∧ x < (g.choices.l.length : Int)) (k : Nat) (hk : k ≤ L.op.l.length)
    (ih : k < L.op.l.length → ∀ (b : Base) (Ap : Option Addr) (cur : List Int) (hsP : Hp) (gs : Nat) (s : So) (least : Int) (vb vt : Value), BH b g L Ap (k + 1) cur hsP gs s least vt → CallsG Try.prog 40 [.int .i64 ((k : Int) + 1), .pointer (some ⟨gs, 0, none⟩), .pointer (some ⟨L.gg, 0, none⟩), .pointer (some ⟨L.gl, 0, none⟩), .pointer (some ⟨L.go, 0, none⟩), .pointer (some ⟨L.gp, 0, none⟩), .pointer (some ⟨L.gb, 0, none⟩), .pointer (some ⟨L.gt, 0, none⟩), .pointer (some ⟨L.gf, 0, none⟩)] b (hb L g Ap cur.length least vb vt ++ (hsP ++ fr)) (BP L g Ap hsP fr least cur))
    (b : Base) (Ap : Option Addr) (cur : List Int) (hsP : Hp) (gs : Nat) (s : So) (least : Int) (vb vt : Value) (H : BH b g L Ap k cur hsP gs s least vt) : CallsG Try.prog 40 [.int .i64 (k : Int), .pointer (some ⟨gs, 0, none⟩), .pointer (some ⟨L.gg, 0, none⟩), .pointer (some ⟨L.gl, 0, none⟩), .pointer (some ⟨L.go, 0, none⟩), .pointer (some ⟨L.gp, 0, none⟩), .pointer (some ⟨L.gb, 0, none⟩), .pointer (some ⟨L.gt, 0, none⟩), .pointer (some ⟨L.gf, 0, none⟩)] b (hb L g Ap cur.length least vb vt ++ (hsP ++ fr)) (BP L g Ap hsP fr least cur) := by
  obtain ⟨hg, hO, hbk, hpv, hso, hla, hps, hoi, hli⟩ := H
  have hnr := hV.nr
  have hnc := hV.nc
  refine fn_enterG 78 Try.func40 rfl Try.ntmps40 rfl ?_
  refine c_seq ?_
  refine c_draw mixed ?_
  refine d_st 0 rfl (by kernel_rfl) (by kernel_rfl) (by kernel_rfl) rfl (st_loadD (vs := [_, _, _, _, _]) 0 5 rfl agg26 rfl rfl rfl) (List.Sublist.refl _) ?_
  refine d_st 1 rfl (by kernel_rfl) (by kernel_rfl) (by kernel_rfl) rfl (st_move rfl) (List.Sublist.refl _) ?_
  refine d_st 2 rfl (by kernel_rfl) (by kernel_rfl) (by kernel_rfl) rfl (st_nil rfl) (List.Sublist.refl _) ?_
  refine d_st 3 rfl (by kernel_rfl) (by kernel_rfl) (by kernel_rfl) rfl (st_field rfl fld73_0) (List.Sublist.refl _) ?_
  refine d_st 4 rfl (by kernel_rfl) (by kernel_rfl) (by kernel_rfl) rfl (st_load_at rfl one22 hso.c0) (List.Sublist.refl _) ?_
  refine d_all [5] (by kernel_rfl) rfl ?_
  refine r_do rfl rfl (u_callf _ call38 rfl (fun w ho => delay_c g _ _ s.times.l w (hg.old ho) (hso.times.old ho) hV hps.v.1 hps.v.2.2)) ?_ ?_
  ·
    rintro _ _ ⟨_, rfl, rfl, rfl⟩
    refine ⟨.inr (List.Sublist.refl _), ?_⟩
    refine d_st 6 rfl (by kernel_rfl) (by kernel_rfl) (by kernel_rfl) rfl (st_assign rfl) (List.Sublist.refl _) ?_
    refine d_done (by kernel_rfl) ?_
    refine x_then_normal ?_
    refine c_seq ?_
    refine c_seq ?_
    refine c_region ?_
    refine t_st rfl (st_load 1 rfl one3 rfl rfl) ?_
    refine t_bool rfl (st_geq rfl rfl) (fun hc1 => ?_) (fun hc1 => ?_)
    ·
      refine t_st rfl (st_move rfl) ?_
      refine t_yes 25 rfl rfl rfl ?_
      refine t_st rfl (st_move rfl) ?_
      refine t_yes 25 rfl rfl rfl ?_
      refine t_st rfl (st_load 1 rfl one3 rfl rfl) ?_
      refine t_yes 25 rfl rfl rfl ?_
      refine t_bool rfl (st_geq rfl rfl) (fun hc2 => ?_) (fun hc2 => ?_)
      ·
        refine t_st rfl (st_pick_t rfl rfl) ?_
        refine t_nil ?_
        refine x_then_normal ?_
        refine c_cond_t rfl ?_
        refine c_ret ?_
        refine x_then_ret ?_
        refine x_drop (hp' := hb L g Ap cur.length least vb vt ++ (hsP ++ fr)) (by repeat (first | exact List.Sublist.refl _ | exact List.nil_sublist _ | exact List.sublist_append_left _ _ | exact List.sublist_append_right _ _ | exact (List.sublist_append_right _ _).trans (List.sublist_append_right _ _) | apply List.Sublist.cons_cons | apply List.Sublist.cons)) ?_
        exact retG0 (Base.Le.refl _) rfl  ⟨rfl, least, vb, vt, rfl, hli, fun h => ⟨h, Int.le_refl _⟩, fun F sF _ _ hF ha => by have h : dl g.due.l s.times.l ≤ dl g.due.l sF.T := hps.dl_le hF ha; omega⟩
      ·
        refine t_st rfl (st_pick_t rfl rfl) ?_
        refine t_nil ?_
        refine x_then_normal ?_
        refine c_cond_f rfl ?_
        refine c_skip ?_
        refine x_then_normal ?_
        refine c_seq ?_
        refine c_seq ?_
        refine c_region ?_
        refine t_st rfl (st_move rfl) ?_
        refine t_st rfl (st_load 2 rfl one22 rfl rfl) ?_
        refine t_st rfl (st_len rfl sl22) ?_
        refine t_bool rfl (st_eql rfl rfl) (fun hc3 => ?_) (fun hc3 => ?_)
        ·
          refine t_nil ?_
          refine x_then_normal ?_
          refine c_cond_t rfl ?_
          refine c_seq ?_
          refine c_drawS [(L.gg, Cl 26 g.cells), (L.go, Cl 22 [L.op.val]), (L.gp, Cl 22 [.slice Ap cur.length L.cp]), (L.gf, Cl 79 [.func (.func 40) #[] L.caps])] mixed ?_
          refine d_st 0 rfl (by kernel_rfl) (by kernel_rfl) (by kernel_rfl) rfl (st_load 2 rfl one22 rfl rfl) (by repeat (first | exact List.Sublist.refl _ | exact List.nil_sublist _ | exact List.sublist_append_left _ _ | exact List.sublist_append_right _ _ | exact (List.sublist_append_right _ _).trans (List.sublist_append_right _ _) | apply List.Sublist.cons_cons | apply List.Sublist.cons)) ?_
          refine d_st 2 rfl (by kernel_rfl) (by kernel_rfl) (by kernel_rfl) rfl (st_move rfl) (by repeat (first | exact List.Sublist.refl _ | exact List.nil_sublist _ | exact List.sublist_append_left _ _ | exact List.sublist_append_right _ _ | exact (List.sublist_append_right _ _).trans (List.sublist_append_right _ _) | apply List.Sublist.cons_cons | apply List.Sublist.cons)) ?_
          refine d_st 3 rfl (by kernel_rfl) (by kernel_rfl) (by kernel_rfl) rfl (st_nil rfl) (by repeat (first | exact List.Sublist.refl _ | exact List.nil_sublist _ | exact List.sublist_append_left _ _ | exact List.sublist_append_right _ _ | exact (List.sublist_append_right _ _).trans (List.sublist_append_right _ _) | apply List.Sublist.cons_cons | apply List.Sublist.cons)) ?_
          refine d_st 4 rfl (by kernel_rfl) (by kernel_rfl) (by kernel_rfl) rfl (st_field rfl fld73_0) (by repeat (first | exact List.Sublist.refl _ | exact List.nil_sublist _ | exact List.sublist_append_left _ _ | exact List.sublist_append_right _ _ | exact (List.sublist_append_right _ _).trans (List.sublist_append_right _ _) | apply List.Sublist.cons_cons | apply List.Sublist.cons)) ?_
          refine d_st 5 rfl (by kernel_rfl) (by kernel_rfl) (by kernel_rfl) rfl (st_load_at rfl one22 hso.c0) (by repeat (first | exact List.Sublist.refl _ | exact List.nil_sublist _ | exact List.sublist_append_left _ _ | exact List.sublist_append_right _ _ | exact (List.sublist_append_right _ _).trans (List.sublist_append_right _ _) | apply List.Sublist.cons_cons | apply List.Sublist.cons)) ?_
          refine d_st 6 rfl (by kernel_rfl) (by kernel_rfl) (by kernel_rfl) rfl (st_move rfl) (by repeat (first | exact List.Sublist.refl _ | exact List.nil_sublist _ | exact List.sublist_append_left _ _ | exact List.sublist_append_right _ _ | exact (List.sublist_append_right _ _).trans (List.sublist_append_right _ _) | apply List.Sublist.cons_cons | apply List.Sublist.cons)) ?_
          refine d_all [1] (by kernel_rfl) rfl ?_
          refine r_do rfl rfl (u_callF [_, _, _, _, _, _, _] _ _ call12 rfl rfl (fun w ho => cloneI_c _ _ _ _ w (bk_own [_, _, _, _, _, _, _] fr hbk rfl ho) (by rw [rows_length encI_len]) (by have := hpv.1; omega))) ?_ ?_
          ·
            rintro _ _ ⟨hs9, rfl, hseg9⟩
            obtain ⟨A9, c9, rfl, hcm9⟩ := hseg9.form
            refine ⟨.inr (by repeat (first | exact List.Sublist.refl _ | exact List.nil_sublist _ | exact List.sublist_append_left _ _ | exact List.sublist_append_right _ _ | exact (List.sublist_append_right _ _).trans (List.sublist_append_right _ _) | apply List.Sublist.cons_cons | apply List.Sublist.cons)), ?_⟩
            refine d_all [7] (by kernel_rfl) rfl ?_
            refine r_do rfl rfl (u_store 4 rfl rfl siz22 rfl rfl (by simp)) ?_ ?_
            ·
              rintro _ _ rfl
              refine ⟨.inr (by repeat (first | exact List.Sublist.refl _ | exact List.nil_sublist _ | exact List.sublist_append_left _ _ | exact List.sublist_append_right _ _ | exact (List.sublist_append_right _ _).trans (List.sublist_append_right _ _) | apply List.Sublist.cons_cons | apply List.Sublist.cons)), ?_⟩
              refine d_all [8] (by kernel_rfl) rfl ?_
              refine r_do rfl rfl (u_store 5 rfl rfl siz22 rfl rfl (by simp)) ?_ ?_
              ·
                rintro _ _ rfl
                refine ⟨.inr (by repeat (first | exact List.Sublist.refl _ | exact List.nil_sublist _ | exact List.sublist_append_left _ _ | exact List.sublist_append_right _ _ | exact (List.sublist_append_right _ _).trans (List.sublist_append_right _ _) | apply List.Sublist.cons_cons | apply List.Sublist.cons)), ?_⟩
                refine d_all [9] (by kernel_rfl) rfl ?_
                refine r_do rfl rfl (u_store 1 rfl rfl siz3 rfl rfl (by simp)) ?_ ?_
                ·
                  rintro _ _ rfl
                  refine ⟨.inl (by kernel_rfl), ?_⟩
                  refine d_done (by kernel_rfl) ?_
                  refine x_then_normal ?_
                  refine c_ret ?_
                  refine x_then_ret ?_
                  refine x_drop (hp' := hb L g Ap cur.length (dl g.due.l s.times.l) (.slice A9 cur.length c9) s.times.val ++ (hsP ++ fr)) (by repeat (first | exact List.Sublist.refl _ | exact List.nil_sublist _ | exact List.sublist_append_left _ _ | exact List.sublist_append_right _ _ | exact (List.sublist_append_right _ _).trans (List.sublist_append_right _ _) | apply List.Sublist.cons_cons | apply List.Sublist.cons)) ?_
                  exact retG0 (Base.Le.refl _) rfl  ⟨rfl, _, _, _, rfl, .inr ⟨cur, s.sv, s.times, hpv, hoi.full (by omega), hps, rfl, rfl, rfl, hso.times⟩, fun h => ⟨(dl_bd _ _ hps.v.2.2).1, by omega⟩, fun F sF _ _ hF ha => ⟨(dl_bd _ _ hps.v.2.2).1, hps.dl_le hF ha⟩⟩
                exact r_nil
              exact r_nil
            exact r_nil
          exact r_nil
        ·
          refine t_nil ?_
          refine x_then_normal ?_
          refine c_cond_f rfl ?_
          refine c_skip ?_
          refine x_then_normal ?_
          refine c_seq ?_
          obtain ⟨x, hx⟩ := ex_get (l := L.op.l) (k := k) (by omega)
          have hxv := hov x (mem_of_get hx)
          obtain ⟨i, hi⟩ := nat_of hxv.1
          subst hi
          obtain ⟨c, hc⟩ := ex_get (l := g.choices.l) (k := i) (by omega)
          have hcv := hV.choicesv c (mem_of_get hc)
          have hcv3 := hcv.1
          have hpl := hpv.1
          obtain ⟨x0, hx0⟩ := ex_get (l := cur) (k := i) (by omega)
          obtain rfl := hoi.zero hx hx0
          have hil := lt_of_get hx0
          obtain ⟨gpa, tl, rfl, rfl⟩ : ∃ (g : Nat) (tl : List Value), Ap = some ⟨g, 0, none⟩ ∧ hsP = [(g, Cl 3 (rows encI cur ++ tl))] := by
            rcases hbk with h | h
            · rw [h] at hil
              simp at hil
            · exact h
          refine c_region ?_
          refine t_st rfl (st_load 2 rfl one22 rfl rfl) ?_
          refine t_st rfl (st_move rfl) ?_
          refine t_st rfl (st_index_old k rfl rfl rfl (by omega) (Rd.isSome encI_len (by decide) hO hx) sl22) ?_
          refine t_st rfl (st_load_old rfl one3 (Rd.row encI_len hO hx (j := 0) rfl)) ?_
          refine t_st rfl (st_assign rfl) ?_
          refine t_nil ?_
          refine x_then_normal ?_
          refine c_seq ?_
          refine c_seq ?_
          refine c_region ?_
          refine t_st rfl (st_field rfl fld26_4) ?_
          refine t_st rfl (st_load 0 rfl one24 rfl rfl) ?_
          refine t_st rfl (st_move rfl) ?_
          refine t_st rfl (st_index_old i rfl rfl rfl (by omega) (Rd.isSome encS_len (by decide) hg.choices hc) sl24) ?_
          refine t_st rfl (st_field_old rfl (Rd.isSome encS_len (by decide) hg.choices hc) fld37_0) ?_
          refine t_st rfl (st_load_old rfl one35 (Rd.row encS_len hg.choices hc (j := 0) rfl)) ?_
          refine t_st rfl (st_len rfl sl35) ?_
          refine t_st rfl (st_move rfl) ?_
          refine t_nil ?_
          refine x_then_normal ?_
          refine c_block ?_
          refine c_pull 7 rfl ?_
          refine c_pull 7 rfl ?_
          refine c_pull 7 rfl ?_
          refine c_pull 7 rfl ?_
          refine c_pull 7 rfl ?_
          refine c_pull 7 rfl ?_
          refine c_pull 7 rfl ?_
          refine c_pull 7 rfl ?_
          refine l_loopb6 (fun (j : Nat) (b3 : Base) (pk : List Int) (l3 : Int) (vb3 : Value) (vt3 : Value) => b3) [(0, _), (1, _), (5, _), (8, _), (12, _), (50, _), (51, _)] _ (fun (j : Nat) (b3 : Base) (pk : List Int) (l3 : Int) (vb3 : Value) (vt3 : Value) => [(52, .int .i64 (j : Int))]) (fun (j : Nat) (b3 : Base) (pk : List Int) (l3 : Int) (vb3 : Value) (vt3 : Value) => hb L g (some ⟨gpa, 0, none⟩) cur.length l3 vb3 vt3 ++ [(gpa, Cl 3 (rows encI pk ++ tl))]) (fun (j : Nat) (b3 : Base) (pk : List Int) (l3 : Int) (vb3 : Value) (vt3 : Value) => j ≤ c.l.length ∧ b.Le b3 ∧ pk.length = cur.length ∧ (∀ z : Int, pk.set i z = cur.set i z) ∧ LI b3 g l3 vt3 ∧ (0 ≤ least → 0 ≤ l3 ∧ l3 ≤ least) ∧ CovW g cur i j l3) (fun (j : Nat) (b3 : Base) (pk : List Int) (l3 : Int) (vb3 : Value) (vt3 : Value) => c.l.length - j) (0) (b) (cur) (least) (vb) (vt) rfl ⟨rfl, trivial⟩ ⟨rfl, rfl, rfl, rfl, rfl, rfl, rfl, trivial⟩ rfl ⟨by omega, Base.Le.refl _, rfl, fun _ => rfl, hli, fun h => ⟨h, Int.le_refl _⟩, fun k hk => absurd hk (by omega)⟩ ?_
          intro j b3 pk l3 vb3 vt3 hinv
          obtain ⟨hj, hle3, hpkl, hpk, hli3, hmo3, hcw3⟩ := hinv
          have hg := hg.le hle3
          have hO := hO.le hle3
          have hso := hso.le hle3
          refine c_seq ?_
          refine c_region ?_
          refine t_bool rfl (st_lss rfl rfl) (fun hc4 => ?_) (fun hc4 => ?_)
          ·
            refine t_nil ?_
            refine x_then_normal ?_
            refine c_seq ?_
            refine c_cond_t rfl ?_
            refine c_skip ?_
            refine x_then_normal ?_
            refine c_seq ?_
            refine c_block ?_
            refine c_seq ?_
            refine c_region ?_
            obtain ⟨y, hy⟩ := ex_get (l := c.l) (k := j) (by omega)
            have hyv := hcv.2 y (mem_of_get hy)
            have hy4 := hyv.1
            refine t_st rfl (st_move rfl) ?_
            refine t_st rfl (st_index_old j rfl rfl rfl (by omega) (Rd.isSome encS_len (by decide) (hg.ways _ (mem_of_get hc)) hy) sl35) ?_
            refine t_st rfl (st_load_old rfl one23 (Rd.row encS_len (hg.ways _ (mem_of_get hc)) hy (j := 0) rfl)) ?_
            refine t_st rfl (st_assign rfl) ?_
            refine t_st rfl (st_assign rfl) ?_
            refine t_nil ?_
            refine x_then_normal ?_
            refine c_seq ?_
            refine c_region ?_
            refine t_st rfl (st_move rfl) ?_
            refine t_st rfl (st_move rfl) ?_
            refine t_callB _ rfl call41 rfl (with_all _ _ gs s _ _ y.l g.ready.l.length 1450 hV.nr hso (hg.steps _ (mem_of_get hc) _ (mem_of_get hy)) (by omega) hyv.2 hps.v (by rw [hla]; exact hV.nl) (hps.outs_len hV hpv.1) (by omega)) ?_
            rintro _ b5 hle5 (⟨hw5, q5, rfl⟩ | ⟨gs5, s5, hw5, rfl, hS5, hl5, hm5⟩)
            ·
              have hg := hg.le hle5
              have hO := hO.le hle5
              rw [hla] at hw5
              refine t_st rfl (st_move rfl) ?_
              refine t_st rfl (st_extract rfl rfl) ?_
              refine t_st rfl (st_extract rfl rfl) ?_
              refine t_st rfl (st_assign rfl) ?_
              refine t_st rfl (st_assign rfl) ?_
              refine t_nil ?_
              refine x_then_normal ?_
              refine c_seq ?_
              refine c_region ?_
              refine t_st rfl (st_move rfl) ?_
              refine t_nil ?_
              refine x_then_normal ?_
              refine c_cond_f rfl ?_
              refine c_skip ?_
              refine x_block_normal ?_
              refine x_then_normal ?_
              refine c_region ?_
              refine t_st rfl (st_add rfl rfl (by omega)) ?_
              refine t_st rfl (st_move rfl) ?_
              refine t_nil ?_
              exact x_againb6 (ev := (fun (j : Nat) (b3 : Base) (pk : List Int) (l3 : Int) (vb3 : Value) (vt3 : Value) => [(52, .int .i64 (j : Int))])) (hv := (fun (j : Nat) (b3 : Base) (pk : List Int) (l3 : Int) (vb3 : Value) (vt3 : Value) => hb L g (some ⟨gpa, 0, none⟩) cur.length l3 vb3 vt3 ++ [(gpa, Cl 3 (rows encI pk ++ tl))])) (inv := (fun (j : Nat) (b3 : Base) (pk : List Int) (l3 : Int) (vb3 : Value) (vt3 : Value) => j ≤ c.l.length ∧ b.Le b3 ∧ pk.length = cur.length ∧ (∀ z : Int, pk.set i z = cur.set i z) ∧ LI b3 g l3 vt3 ∧ (0 ≤ least → 0 ≤ l3 ∧ l3 ≤ least) ∧ CovW g cur i j l3)) (μ := (fun (j : Nat) (b3 : Base) (pk : List Int) (l3 : Int) (vb3 : Value) (vt3 : Value) => c.l.length - j)) (bs := (fun (j : Nat) (b3 : Base) (pk : List Int) (l3 : Int) (vb3 : Value) (vt3 : Value) => b3)) (j + 1) (b5) (pk) (l3) (vb3) (vt3) (Base.Le.refl _) ⟨rfl, trivial⟩ ⟨rfl, rfl, rfl, rfl, rfl, rfl, rfl, trivial⟩ (by repeat (first | exact List.Sublist.refl _ | exact List.nil_sublist _ | exact List.sublist_append_left _ _ | exact List.sublist_append_right _ _ | exact (List.sublist_append_right _ _).trans (List.sublist_append_right _ _) | apply List.Sublist.cons_cons | apply List.Sublist.cons)) ⟨by omega, hle3.trans hle5, hpkl, hpk, hli3.le hle5, hmo3, hcw3.snoc (cov_none hV hpv hps hx0 hc hy hw5)⟩ (by omega)
            ·
              have hg := hg.le hle5
              have hO := hO.le hle5
              rw [hla] at hw5 hl5
              refine t_st rfl (st_move rfl) ?_
              refine t_st rfl (st_extract rfl rfl) ?_
              refine t_st rfl (st_extract rfl rfl) ?_
              refine t_st rfl (st_assign rfl) ?_
              refine t_st rfl (st_assign rfl) ?_
              refine t_nil ?_
              refine x_then_normal ?_
              refine c_seq ?_
              refine c_region ?_
              refine t_st rfl (st_move rfl) ?_
              refine t_nil ?_
              refine x_then_normal ?_
              refine c_cond_t rfl ?_
              refine c_seq ?_
              refine c_region ?_
              refine t_st rfl (st_load 3 rfl one22 rfl rfl) ?_
              refine t_st rfl (st_move rfl) ?_
              refine t_st rfl (st_move rfl) ?_
              refine t_st rfl (st_add rfl rfl (by omega)) ?_
              refine t_st rfl (st_index i rfl rfl rfl (by omega) sl22) ?_
              refine t_do rfl (u_store_int 7 rfl rfl siz3 rfl (by omega)) ?_
              rintro _ _ rfl
              refine t_nil ?_
              refine x_then_normal ?_
              rw [hpk]
              have hih := ih (by omega) b5 (some ⟨gpa, 0, none⟩) (cur.set i ((j : Int) + 1)) [(gpa, Cl 3 (rows encI (cur.set i ((j : Int) + 1)) ++ tl))] gs5 s5 l3 vb3 vt3 ⟨hg, hO, .inr ⟨gpa, tl, rfl, rfl⟩, pickV_set hpv hc hy, hS5, hl5, hps.step hV hpv.1 hx0 hc hy hw5, hoi.put hnd hx hil (by omega), hli3.le hle5⟩
              rw [List.length_set] at hih
              refine c_region ?_
              refine t_st rfl (st_load 6 rfl one79 rfl rfl) ?_
              refine t_st rfl (st_move rfl) ?_
              refine t_st rfl (st_add rfl rfl (by omega)) ?_
              refine t_st rfl (st_move rfl) ?_
              refine t_callvG #[] L.caps [.int .i64 ((k : Int) + 1), .pointer (some ⟨gs5, 0, none⟩)] rfl rfl call40 rfl (hih) ?_
              rintro _ b6 hp6 hle6 (⟨rfl, l6, vb6, vt6, rfl, hli6, hmo6, hco6⟩)
              ·
                rw [List.length_set]
                have hg := hg.le hle6
                refine t_nil ?_
                refine x_block_normal ?_
                refine x_then_normal ?_
                refine c_region ?_
                refine t_st rfl (st_add rfl rfl (by omega)) ?_
                refine t_st rfl (st_move rfl) ?_
                refine t_nil ?_
                exact x_againb6 (ev := (fun (j : Nat) (b3 : Base) (pk : List Int) (l3 : Int) (vb3 : Value) (vt3 : Value) => [(52, .int .i64 (j : Int))])) (hv := (fun (j : Nat) (b3 : Base) (pk : List Int) (l3 : Int) (vb3 : Value) (vt3 : Value) => hb L g (some ⟨gpa, 0, none⟩) cur.length l3 vb3 vt3 ++ [(gpa, Cl 3 (rows encI pk ++ tl))])) (inv := (fun (j : Nat) (b3 : Base) (pk : List Int) (l3 : Int) (vb3 : Value) (vt3 : Value) => j ≤ c.l.length ∧ b.Le b3 ∧ pk.length = cur.length ∧ (∀ z : Int, pk.set i z = cur.set i z) ∧ LI b3 g l3 vt3 ∧ (0 ≤ least → 0 ≤ l3 ∧ l3 ≤ least) ∧ CovW g cur i j l3)) (μ := (fun (j : Nat) (b3 : Base) (pk : List Int) (l3 : Int) (vb3 : Value) (vt3 : Value) => c.l.length - j)) (bs := (fun (j : Nat) (b3 : Base) (pk : List Int) (l3 : Int) (vb3 : Value) (vt3 : Value) => b3)) (j + 1) (b6) (cur.set i ((j : Int) + 1)) (l6) (vb6) (vt6) (Base.Le.refl _) ⟨rfl, trivial⟩ ⟨rfl, rfl, rfl, rfl, rfl, rfl, rfl, trivial⟩ (by repeat (first | exact List.Sublist.refl _ | exact List.nil_sublist _ | exact List.sublist_append_left _ _ | exact List.sublist_append_right _ _ | exact (List.sublist_append_right _ _).trans (List.sublist_append_right _ _) | apply List.Sublist.cons_cons | apply List.Sublist.cons)) ⟨by omega, (hle3.trans hle5).trans hle6, List.length_set, fun z => List.set_set .., hli6, fun h => by have h1 := hmo3 h; have h2 := hmo6 h1.1; omega, (hcw3.less hmo6).snoc hco6⟩ (by omega)
          ·
            refine t_nil ?_
            refine x_then_normal ?_
            refine c_seq ?_
            refine c_cond_f rfl ?_
            refine c_exit ?_
            refine x_then_exit ?_
            refine x_then_exit ?_
            refine x_block_out ?_
            refine x_then_normal ?_
            refine c_region ?_
            refine t_st rfl (st_load 3 rfl one22 rfl rfl) ?_
            refine t_st rfl (st_move rfl) ?_
            refine t_st rfl (st_index i rfl rfl rfl (by omega) sl22) ?_
            refine t_do rfl (u_store_int 7 rfl rfl siz3 rfl (by omega)) ?_
            rintro _ _ rfl
            refine t_nil ?_
            rw [hpk, set_same hx0]
            refine x_drop (hp' := hb L g (some ⟨gpa, 0, none⟩) cur.length l3 vb3 vt3 ++ ([(gpa, Cl 3 (rows encI cur ++ tl))] ++ fr)) (by repeat (first | exact List.Sublist.refl _ | exact List.nil_sublist _ | exact List.sublist_append_left _ _ | exact List.sublist_append_right _ _ | exact (List.sublist_append_right _ _).trans (List.sublist_append_right _ _) | apply List.Sublist.cons_cons | apply List.Sublist.cons)) ?_
            exact endG0 hle3 rfl ⟨rfl, l3, vb3, vt3, rfl, hli3, hmo3, hcw3.all hc (by omega)⟩
    ·
      refine t_st rfl (st_move rfl) ?_
      refine t_no 25 rfl rfl rfl rfl rfl ?_
      refine t_no 25 rfl rfl rfl rfl rfl ?_
      refine t_no 25 rfl rfl rfl rfl rfl ?_
      refine t_st rfl (st_pick_f rfl rfl) ?_
      refine t_nil ?_
      refine x_then_normal ?_
      refine c_cond_f rfl ?_
      refine c_skip ?_
      refine x_then_normal ?_
      refine c_seq ?_
      refine c_seq ?_
      refine c_region ?_
      refine t_st rfl (st_move rfl) ?_
      refine t_st rfl (st_load 2 rfl one22 rfl rfl) ?_
      refine t_st rfl (st_len rfl sl22) ?_
      refine t_bool rfl (st_eql rfl rfl) (fun hc5 => ?_) (fun hc5 => ?_)
      ·
        refine t_nil ?_
        refine x_then_normal ?_
        refine c_cond_t rfl ?_
        refine c_seq ?_
        refine c_drawS [(L.gg, Cl 26 g.cells), (L.go, Cl 22 [L.op.val]), (L.gp, Cl 22 [.slice Ap cur.length L.cp]), (L.gf, Cl 79 [.func (.func 40) #[] L.caps])] mixed ?_
        refine d_st 0 rfl (by kernel_rfl) (by kernel_rfl) (by kernel_rfl) rfl (st_load 2 rfl one22 rfl rfl) (by repeat (first | exact List.Sublist.refl _ | exact List.nil_sublist _ | exact List.sublist_append_left _ _ | exact List.sublist_append_right _ _ | exact (List.sublist_append_right _ _).trans (List.sublist_append_right _ _) | apply List.Sublist.cons_cons | apply List.Sublist.cons)) ?_
        refine d_st 2 rfl (by kernel_rfl) (by kernel_rfl) (by kernel_rfl) rfl (st_move rfl) (by repeat (first | exact List.Sublist.refl _ | exact List.nil_sublist _ | exact List.sublist_append_left _ _ | exact List.sublist_append_right _ _ | exact (List.sublist_append_right _ _).trans (List.sublist_append_right _ _) | apply List.Sublist.cons_cons | apply List.Sublist.cons)) ?_
        refine d_st 3 rfl (by kernel_rfl) (by kernel_rfl) (by kernel_rfl) rfl (st_nil rfl) (by repeat (first | exact List.Sublist.refl _ | exact List.nil_sublist _ | exact List.sublist_append_left _ _ | exact List.sublist_append_right _ _ | exact (List.sublist_append_right _ _).trans (List.sublist_append_right _ _) | apply List.Sublist.cons_cons | apply List.Sublist.cons)) ?_
        refine d_st 4 rfl (by kernel_rfl) (by kernel_rfl) (by kernel_rfl) rfl (st_field rfl fld73_0) (by repeat (first | exact List.Sublist.refl _ | exact List.nil_sublist _ | exact List.sublist_append_left _ _ | exact List.sublist_append_right _ _ | exact (List.sublist_append_right _ _).trans (List.sublist_append_right _ _) | apply List.Sublist.cons_cons | apply List.Sublist.cons)) ?_
        refine d_st 5 rfl (by kernel_rfl) (by kernel_rfl) (by kernel_rfl) rfl (st_load_at rfl one22 hso.c0) (by repeat (first | exact List.Sublist.refl _ | exact List.nil_sublist _ | exact List.sublist_append_left _ _ | exact List.sublist_append_right _ _ | exact (List.sublist_append_right _ _).trans (List.sublist_append_right _ _) | apply List.Sublist.cons_cons | apply List.Sublist.cons)) ?_
        refine d_st 6 rfl (by kernel_rfl) (by kernel_rfl) (by kernel_rfl) rfl (st_move rfl) (by repeat (first | exact List.Sublist.refl _ | exact List.nil_sublist _ | exact List.sublist_append_left _ _ | exact List.sublist_append_right _ _ | exact (List.sublist_append_right _ _).trans (List.sublist_append_right _ _) | apply List.Sublist.cons_cons | apply List.Sublist.cons)) ?_
        refine d_all [1] (by kernel_rfl) rfl ?_
        refine r_do rfl rfl (u_callF [_, _, _, _, _, _, _] _ _ call12 rfl rfl (fun w ho => cloneI_c _ _ _ _ w (bk_own [_, _, _, _, _, _, _] fr hbk rfl ho) (by rw [rows_length encI_len]) (by have := hpv.1; omega))) ?_ ?_
        ·
          rintro _ _ ⟨hs9, rfl, hseg9⟩
          obtain ⟨A9, c9, rfl, hcm9⟩ := hseg9.form
          refine ⟨.inr (by repeat (first | exact List.Sublist.refl _ | exact List.nil_sublist _ | exact List.sublist_append_left _ _ | exact List.sublist_append_right _ _ | exact (List.sublist_append_right _ _).trans (List.sublist_append_right _ _) | apply List.Sublist.cons_cons | apply List.Sublist.cons)), ?_⟩
          refine d_all [7] (by kernel_rfl) rfl ?_
          refine r_do rfl rfl (u_store 4 rfl rfl siz22 rfl rfl (by simp)) ?_ ?_
          ·
            rintro _ _ rfl
            refine ⟨.inr (by repeat (first | exact List.Sublist.refl _ | exact List.nil_sublist _ | exact List.sublist_append_left _ _ | exact List.sublist_append_right _ _ | exact (List.sublist_append_right _ _).trans (List.sublist_append_right _ _) | apply List.Sublist.cons_cons | apply List.Sublist.cons)), ?_⟩
            refine d_all [8] (by kernel_rfl) rfl ?_
            refine r_do rfl rfl (u_store 5 rfl rfl siz22 rfl rfl (by simp)) ?_ ?_
            ·
              rintro _ _ rfl
              refine ⟨.inr (by repeat (first | exact List.Sublist.refl _ | exact List.nil_sublist _ | exact List.sublist_append_left _ _ | exact List.sublist_append_right _ _ | exact (List.sublist_append_right _ _).trans (List.sublist_append_right _ _) | apply List.Sublist.cons_cons | apply List.Sublist.cons)), ?_⟩
              refine d_all [9] (by kernel_rfl) rfl ?_
              refine r_do rfl rfl (u_store 1 rfl rfl siz3 rfl rfl (by simp)) ?_ ?_
              ·
                rintro _ _ rfl
                refine ⟨.inl (by kernel_rfl), ?_⟩
                refine d_done (by kernel_rfl) ?_
                refine x_then_normal ?_
                refine c_ret ?_
                refine x_then_ret ?_
                refine x_drop (hp' := hb L g Ap cur.length (dl g.due.l s.times.l) (.slice A9 cur.length c9) s.times.val ++ (hsP ++ fr)) (by repeat (first | exact List.Sublist.refl _ | exact List.nil_sublist _ | exact List.sublist_append_left _ _ | exact List.sublist_append_right _ _ | exact (List.sublist_append_right _ _).trans (List.sublist_append_right _ _) | apply List.Sublist.cons_cons | apply List.Sublist.cons)) ?_
                exact retG0 (Base.Le.refl _) rfl  ⟨rfl, _, _, _, rfl, .inr ⟨cur, s.sv, s.times, hpv, hoi.full (by omega), hps, rfl, rfl, rfl, hso.times⟩, fun h => ⟨(dl_bd _ _ hps.v.2.2).1, by omega⟩, fun F sF _ _ hF ha => ⟨(dl_bd _ _ hps.v.2.2).1, hps.dl_le hF ha⟩⟩
              exact r_nil
            exact r_nil
          exact r_nil
        exact r_nil
      ·
        refine t_nil ?_
        refine x_then_normal ?_
        refine c_cond_f rfl ?_
        refine c_skip ?_
        refine x_then_normal ?_
        refine c_seq ?_
        obtain ⟨x, hx⟩ := ex_get (l := L.op.l) (k := k) (by omega)
        have hxv := hov x (mem_of_get hx)
        obtain ⟨i, hi⟩ := nat_of hxv.1
        subst hi
        obtain ⟨c, hc⟩ := ex_get (l := g.choices.l) (k := i) (by omega)
        have hcv := hV.choicesv c (mem_of_get hc)
        have hcv3 := hcv.1
        have hpl := hpv.1
        obtain ⟨x0, hx0⟩ := ex_get (l := cur) (k := i) (by omega)
        obtain rfl := hoi.zero hx hx0
        have hil := lt_of_get hx0
        obtain ⟨gpa, tl, rfl, rfl⟩ : ∃ (g : Nat) (tl : List Value), Ap = some ⟨g, 0, none⟩ ∧ hsP = [(g, Cl 3 (rows encI cur ++ tl))] := by
          rcases hbk with h | h
          · rw [h] at hil
            simp at hil
          · exact h
        refine c_region ?_
        refine t_st rfl (st_load 2 rfl one22 rfl rfl) ?_
        refine t_st rfl (st_move rfl) ?_
        refine t_st rfl (st_index_old k rfl rfl rfl (by omega) (Rd.isSome encI_len (by decide) hO hx) sl22) ?_
        refine t_st rfl (st_load_old rfl one3 (Rd.row encI_len hO hx (j := 0) rfl)) ?_
        refine t_st rfl (st_assign rfl) ?_
        refine t_nil ?_
        refine x_then_normal ?_
        refine c_seq ?_
        refine c_seq ?_
        refine c_region ?_
        refine t_st rfl (st_field rfl fld26_4) ?_
        refine t_st rfl (st_load 0 rfl one24 rfl rfl) ?_
        refine t_st rfl (st_move rfl) ?_
        refine t_st rfl (st_index_old i rfl rfl rfl (by omega) (Rd.isSome encS_len (by decide) hg.choices hc) sl24) ?_
        refine t_st rfl (st_field_old rfl (Rd.isSome encS_len (by decide) hg.choices hc) fld37_0) ?_
        refine t_st rfl (st_load_old rfl one35 (Rd.row encS_len hg.choices hc (j := 0) rfl)) ?_
        refine t_st rfl (st_len rfl sl35) ?_
        refine t_st rfl (st_move rfl) ?_
        refine t_nil ?_
        refine x_then_normal ?_
        refine c_block ?_
        refine c_pull 7 rfl ?_
        refine c_pull 7 rfl ?_
        refine c_pull 7 rfl ?_
        refine c_pull 7 rfl ?_
        refine c_pull 7 rfl ?_
        refine c_pull 7 rfl ?_
        refine c_pull 7 rfl ?_
        refine c_pull 7 rfl ?_
        refine l_loopb6 (fun (j : Nat) (b3 : Base) (pk : List Int) (l3 : Int) (vb3 : Value) (vt3 : Value) => b3) [(0, _), (1, _), (5, _), (8, _), (12, _), (50, _), (51, _)] _ (fun (j : Nat) (b3 : Base) (pk : List Int) (l3 : Int) (vb3 : Value) (vt3 : Value) => [(52, .int .i64 (j : Int))]) (fun (j : Nat) (b3 : Base) (pk : List Int) (l3 : Int) (vb3 : Value) (vt3 : Value) => hb L g (some ⟨gpa, 0, none⟩) cur.length l3 vb3 vt3 ++ [(gpa, Cl 3 (rows encI pk ++ tl))]) (fun (j : Nat) (b3 : Base) (pk : List Int) (l3 : Int) (vb3 : Value) (vt3 : Value) => j ≤ c.l.length ∧ b.Le b3 ∧ pk.length = cur.length ∧ (∀ z : Int, pk.set i z = cur.set i z) ∧ LI b3 g l3 vt3 ∧ (0 ≤ least → 0 ≤ l3 ∧ l3 ≤ least) ∧ CovW g cur i j l3) (fun (j : Nat) (b3 : Base) (pk : List Int) (l3 : Int) (vb3 : Value) (vt3 : Value) => c.l.length - j) (0) (b) (cur) (least) (vb) (vt) rfl ⟨rfl, trivial⟩ ⟨rfl, rfl, rfl, rfl, rfl, rfl, rfl, trivial⟩ rfl ⟨by omega, Base.Le.refl _, rfl, fun _ => rfl, hli, fun h => ⟨h, Int.le_refl _⟩, fun k hk => absurd hk (by omega)⟩ ?_
        intro j b3 pk l3 vb3 vt3 hinv
        obtain ⟨hj, hle3, hpkl, hpk, hli3, hmo3, hcw3⟩ := hinv
        have hg := hg.le hle3
        have hO := hO.le hle3
        have hso := hso.le hle3
        refine c_seq ?_
        refine c_region ?_
        refine t_bool rfl (st_lss rfl rfl) (fun hc6 => ?_) (fun hc6 => ?_)
        ·
          refine t_nil ?_
          refine x_then_normal ?_
          refine c_seq ?_
          refine c_cond_t rfl ?_
          refine c_skip ?_
          refine x_then_normal ?_
          refine c_seq ?_
          refine c_block ?_
          refine c_seq ?_
          refine c_region ?_
          obtain ⟨y, hy⟩ := ex_get (l := c.l) (k := j) (by omega)
          have hyv := hcv.2 y (mem_of_get hy)
          have hy4 := hyv.1
          refine t_st rfl (st_move rfl) ?_
          refine t_st rfl (st_index_old j rfl rfl rfl (by omega) (Rd.isSome encS_len (by decide) (hg.ways _ (mem_of_get hc)) hy) sl35) ?_
          refine t_st rfl (st_load_old rfl one23 (Rd.row encS_len (hg.ways _ (mem_of_get hc)) hy (j := 0) rfl)) ?_
          refine t_st rfl (st_assign rfl) ?_
          refine t_st rfl (st_assign rfl) ?_
          refine t_nil ?_
          refine x_then_normal ?_
          refine c_seq ?_
          refine c_region ?_
          refine t_st rfl (st_move rfl) ?_
          refine t_st rfl (st_move rfl) ?_
          refine t_callB _ rfl call41 rfl (with_all _ _ gs s _ _ y.l g.ready.l.length 1450 hV.nr hso (hg.steps _ (mem_of_get hc) _ (mem_of_get hy)) (by omega) hyv.2 hps.v (by rw [hla]; exact hV.nl) (hps.outs_len hV hpv.1) (by omega)) ?_
          rintro _ b5 hle5 (⟨hw5, q5, rfl⟩ | ⟨gs5, s5, hw5, rfl, hS5, hl5, hm5⟩)
          ·
            have hg := hg.le hle5
            have hO := hO.le hle5
            rw [hla] at hw5
            refine t_st rfl (st_move rfl) ?_
            refine t_st rfl (st_extract rfl rfl) ?_
            refine t_st rfl (st_extract rfl rfl) ?_
            refine t_st rfl (st_assign rfl) ?_
            refine t_st rfl (st_assign rfl) ?_
            refine t_nil ?_
            refine x_then_normal ?_
            refine c_seq ?_
            refine c_region ?_
            refine t_st rfl (st_move rfl) ?_
            refine t_nil ?_
            refine x_then_normal ?_
            refine c_cond_f rfl ?_
            refine c_skip ?_
            refine x_block_normal ?_
            refine x_then_normal ?_
            refine c_region ?_
            refine t_st rfl (st_add rfl rfl (by omega)) ?_
            refine t_st rfl (st_move rfl) ?_
            refine t_nil ?_
            exact x_againb6 (ev := (fun (j : Nat) (b3 : Base) (pk : List Int) (l3 : Int) (vb3 : Value) (vt3 : Value) => [(52, .int .i64 (j : Int))])) (hv := (fun (j : Nat) (b3 : Base) (pk : List Int) (l3 : Int) (vb3 : Value) (vt3 : Value) => hb L g (some ⟨gpa, 0, none⟩) cur.length l3 vb3 vt3 ++ [(gpa, Cl 3 (rows encI pk ++ tl))])) (inv := (fun (j : Nat) (b3 : Base) (pk : List Int) (l3 : Int) (vb3 : Value) (vt3 : Value) => j ≤ c.l.length ∧ b.Le b3 ∧ pk.length = cur.length ∧ (∀ z : Int, pk.set i z = cur.set i z) ∧ LI b3 g l3 vt3 ∧ (0 ≤ least → 0 ≤ l3 ∧ l3 ≤ least) ∧ CovW g cur i j l3)) (μ := (fun (j : Nat) (b3 : Base) (pk : List Int) (l3 : Int) (vb3 : Value) (vt3 : Value) => c.l.length - j)) (bs := (fun (j : Nat) (b3 : Base) (pk : List Int) (l3 : Int) (vb3 : Value) (vt3 : Value) => b3)) (j + 1) (b5) (pk) (l3) (vb3) (vt3) (Base.Le.refl _) ⟨rfl, trivial⟩ ⟨rfl, rfl, rfl, rfl, rfl, rfl, rfl, trivial⟩ (by repeat (first | exact List.Sublist.refl _ | exact List.nil_sublist _ | exact List.sublist_append_left _ _ | exact List.sublist_append_right _ _ | exact (List.sublist_append_right _ _).trans (List.sublist_append_right _ _) | apply List.Sublist.cons_cons | apply List.Sublist.cons)) ⟨by omega, hle3.trans hle5, hpkl, hpk, hli3.le hle5, hmo3, hcw3.snoc (cov_none hV hpv hps hx0 hc hy hw5)⟩ (by omega)
          ·
            have hg := hg.le hle5
            have hO := hO.le hle5
            rw [hla] at hw5 hl5
            refine t_st rfl (st_move rfl) ?_
            refine t_st rfl (st_extract rfl rfl) ?_
            refine t_st rfl (st_extract rfl rfl) ?_
            refine t_st rfl (st_assign rfl) ?_
            refine t_st rfl (st_assign rfl) ?_
            refine t_nil ?_
            refine x_then_normal ?_
            refine c_seq ?_
            refine c_region ?_
            refine t_st rfl (st_move rfl) ?_
            refine t_nil ?_
            refine x_then_normal ?_
            refine c_cond_t rfl ?_
            refine c_seq ?_
            refine c_region ?_
            refine t_st rfl (st_load 3 rfl one22 rfl rfl) ?_
            refine t_st rfl (st_move rfl) ?_
            refine t_st rfl (st_move rfl) ?_
            refine t_st rfl (st_add rfl rfl (by omega)) ?_
            refine t_st rfl (st_index i rfl rfl rfl (by omega) sl22) ?_
            refine t_do rfl (u_store_int 7 rfl rfl siz3 rfl (by omega)) ?_
            rintro _ _ rfl
            refine t_nil ?_
            refine x_then_normal ?_
            rw [hpk]
            have hih := ih (by omega) b5 (some ⟨gpa, 0, none⟩) (cur.set i ((j : Int) + 1)) [(gpa, Cl 3 (rows encI (cur.set i ((j : Int) + 1)) ++ tl))] gs5 s5 l3 vb3 vt3 ⟨hg, hO, .inr ⟨gpa, tl, rfl, rfl⟩, pickV_set hpv hc hy, hS5, hl5, hps.step hV hpv.1 hx0 hc hy hw5, hoi.put hnd hx hil (by omega), hli3.le hle5⟩
            rw [List.length_set] at hih
            refine c_region ?_
            refine t_st rfl (st_load 6 rfl one79 rfl rfl) ?_
            refine t_st rfl (st_move rfl) ?_
            refine t_st rfl (st_add rfl rfl (by omega)) ?_
            refine t_st rfl (st_move rfl) ?_
            refine t_callvG #[] L.caps [.int .i64 ((k : Int) + 1), .pointer (some ⟨gs5, 0, none⟩)] rfl rfl call40 rfl (hih) ?_
            rintro _ b6 hp6 hle6 (⟨rfl, l6, vb6, vt6, rfl, hli6, hmo6, hco6⟩)
            ·
              rw [List.length_set]
              have hg := hg.le hle6
              refine t_nil ?_
              refine x_block_normal ?_
              refine x_then_normal ?_
              refine c_region ?_
              refine t_st rfl (st_add rfl rfl (by omega)) ?_
              refine t_st rfl (st_move rfl) ?_
              refine t_nil ?_
              exact x_againb6 (ev := (fun (j : Nat) (b3 : Base) (pk : List Int) (l3 : Int) (vb3 : Value) (vt3 : Value) => [(52, .int .i64 (j : Int))])) (hv := (fun (j : Nat) (b3 : Base) (pk : List Int) (l3 : Int) (vb3 : Value) (vt3 : Value) => hb L g (some ⟨gpa, 0, none⟩) cur.length l3 vb3 vt3 ++ [(gpa, Cl 3 (rows encI pk ++ tl))])) (inv := (fun (j : Nat) (b3 : Base) (pk : List Int) (l3 : Int) (vb3 : Value) (vt3 : Value) => j ≤ c.l.length ∧ b.Le b3 ∧ pk.length = cur.length ∧ (∀ z : Int, pk.set i z = cur.set i z) ∧ LI b3 g l3 vt3 ∧ (0 ≤ least → 0 ≤ l3 ∧ l3 ≤ least) ∧ CovW g cur i j l3)) (μ := (fun (j : Nat) (b3 : Base) (pk : List Int) (l3 : Int) (vb3 : Value) (vt3 : Value) => c.l.length - j)) (bs := (fun (j : Nat) (b3 : Base) (pk : List Int) (l3 : Int) (vb3 : Value) (vt3 : Value) => b3)) (j + 1) (b6) (cur.set i ((j : Int) + 1)) (l6) (vb6) (vt6) (Base.Le.refl _) ⟨rfl, trivial⟩ ⟨rfl, rfl, rfl, rfl, rfl, rfl, rfl, trivial⟩ (by repeat (first | exact List.Sublist.refl _ | exact List.nil_sublist _ | exact List.sublist_append_left _ _ | exact List.sublist_append_right _ _ | exact (List.sublist_append_right _ _).trans (List.sublist_append_right _ _) | apply List.Sublist.cons_cons | apply List.Sublist.cons)) ⟨by omega, (hle3.trans hle5).trans hle6, List.length_set, fun z => List.set_set .., hli6, fun h => by have h1 := hmo3 h; have h2 := hmo6 h1.1; omega, (hcw3.less hmo6).snoc hco6⟩ (by omega)
        ·
          refine t_nil ?_
          refine x_then_normal ?_
          refine c_seq ?_
          refine c_cond_f rfl ?_
          refine c_exit ?_
          refine x_then_exit ?_
          refine x_then_exit ?_
          refine x_block_out ?_
          refine x_then_normal ?_
          refine c_region ?_
          refine t_st rfl (st_load 3 rfl one22 rfl rfl) ?_
          refine t_st rfl (st_move rfl) ?_
          refine t_st rfl (st_index i rfl rfl rfl (by omega) sl22) ?_
          refine t_do rfl (u_store_int 7 rfl rfl siz3 rfl (by omega)) ?_
          rintro _ _ rfl
          refine t_nil ?_
          rw [hpk, set_same hx0]
          refine x_drop (hp' := hb L g (some ⟨gpa, 0, none⟩) cur.length l3 vb3 vt3 ++ ([(gpa, Cl 3 (rows encI cur ++ tl))] ++ fr)) (by repeat (first | exact List.Sublist.refl _ | exact List.nil_sublist _ | exact List.sublist_append_left _ _ | exact List.sublist_append_right _ _ | exact (List.sublist_append_right _ _).trans (List.sublist_append_right _ _) | apply List.Sublist.cons_cons | apply List.Sublist.cons)) ?_
          exact endG0 hle3 rfl ⟨rfl, l3, vb3, vt3, rfl, hli3, hmo3, hcw3.all hc (by omega)⟩
  exact r_nil
theorem best1_c (g : Gr) (L : Bl) (fr : Hp) (hV : GraphV g) (hnd : L.op.l.Nodup) (hop : L.op.l.length ≤ 10) (hov : ∀ x ∈ L.op.l, 0 ≤ x ∧ x < (g.choices.l.length : Int)) : ∀ (m k : Nat), k ≤ L.op.l.length → L.op.l.length - k = m → ∀ (b : Base) (Ap : Option Addr) (cur : List Int) (hsP : Hp) (gs : Nat) (s : So) (least : Int) (vb vt : Value), BH b g L Ap k cur hsP gs s least vt → CallsG Try.prog 40 [.int .i64 (k : Int), .pointer (some ⟨gs, 0, none⟩), .pointer (some ⟨L.gg, 0, none⟩), .pointer (some ⟨L.gl, 0, none⟩), .pointer (some ⟨L.go, 0, none⟩), .pointer (some ⟨L.gp, 0, none⟩), .pointer (some ⟨L.gb, 0, none⟩), .pointer (some ⟨L.gt, 0, none⟩), .pointer (some ⟨L.gf, 0, none⟩)] b (hb L g Ap cur.length least vb vt ++ (hsP ++ fr)) (BP L g Ap hsP fr least cur) := by
  intro m
  induction m with
  | zero =>
    intro k hk hm b Ap cur hsP gs s least vb vt H
    exact best1_step g L fr hV hnd hop hov k hk (fun h => absurd h (by omega)) b Ap cur hsP gs s least vb vt H
  | succ m ih =>
    intro k hk hm b Ap cur hsP gs s least vb vt H
    exact best1_step g L fr hV hnd hop hov k hk (fun h b Ap cur hsP gs s least vb vt H2 => by
      have := ih (k + 1) (by omega) (by omega) b Ap cur hsP gs s least vb vt H2
      rwa [show ((k + 1 : Nat) : Int) = (k : Int) + 1 by omega] at this) b Ap cur hsP gs s least vb vt H


end Go.Proofs.Ytakehdnblmonlaa
