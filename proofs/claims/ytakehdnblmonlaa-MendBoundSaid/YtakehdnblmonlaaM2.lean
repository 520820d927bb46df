/- Contracts of CheckGraph, GraphFault, checkPick, PickFault. -/
import Derived.Test.YtakehdnblmonlaaM1
namespace Go.Proofs.Ytakehdnblmonlaa
open Go.RowKit Go.Fp

theorem CheckGraph_c (g : Gr) (w : World) (hg : GrOk w g) : CallsH Try.prog 36 [g.val] w [] (fun v hp' => ∃ r : Int, v = .int .i64 r ∧ (r = 0 ↔ GraphV g) ∧ hp' = []) := by
  have hnr := hg.nready
  have hna := hg.narcs
  have hnc := hg.nchoices
  refine fn_enter 112 Try.func36 rfl Try.ntmps36 rfl ?_
  refine c_seq ?_
  refine c_region ?_
  refine t_do rfl (u_box _ rfl rfl) ?_
  rintro _ _ ⟨g1, rfl, rfl⟩
  refine t_st rfl (st_assign rfl) ?_
  refine t_nil ?_
  refine x_then_normal ?_
  refine c_seq ?_
  refine c_block ?_
  refine c_seq ?_
  refine c_region ?_
  refine t_st rfl (st_field rfl fld26_0) ?_
  refine t_st rfl (st_load 0 rfl one22 rfl rfl) ?_
  refine t_st rfl (st_len rfl sl22) ?_
  refine t_bool rfl (st_gtr rfl rfl) (fun hc2 => ?_) (fun hc2 => ?_)
  ·
    refine t_st rfl (st_move rfl) ?_
    refine t_no 15 rfl rfl rfl rfl rfl ?_
    refine t_no 15 rfl rfl rfl rfl rfl ?_
    refine t_no 15 rfl rfl rfl rfl rfl ?_
    refine t_no 15 rfl rfl rfl rfl rfl ?_
    refine t_st rfl (st_pick_t rfl rfl) ?_
    refine t_st rfl (st_move rfl) ?_
    refine t_no 21 rfl rfl rfl rfl rfl ?_
    refine t_no 21 rfl rfl rfl rfl rfl ?_
    refine t_no 21 rfl rfl rfl rfl rfl ?_
    refine t_no 21 rfl rfl rfl rfl rfl ?_
    refine t_st rfl (st_pick_t rfl rfl) ?_
    refine t_st rfl (st_assign rfl) ?_
    refine t_nil ?_
    refine x_then_normal ?_
    refine c_cond_t rfl ?_
    refine c_seq ?_
    refine c_region ?_
    refine t_st rfl (st_assign rfl) ?_
    refine t_nil ?_
    refine x_then_normal ?_
    refine c_ret ?_
    refine x_block_ret ?_
    refine x_then_ret ?_
    refine x_drop (hp' := []) (by repeat (first | exact List.Sublist.refl _ | exact List.nil_sublist _ | exact List.sublist_append_left _ _ | exact List.sublist_append_right _ _ | exact (List.sublist_append_right _ _).trans (List.sublist_append_right _ _) | apply List.Sublist.cons_cons | apply List.Sublist.cons)) ?_
    exact ret1 (Base.Le.refl _) rfl rfl ⟨_, rfl, no_of (by first | decide | assumption) (fun hV => by first | (have h1 := hV.nr; have h2 := hV.na; have h3 := hV.nc; have h4 := hV.nl; have h5 := hV.nd; omega) | (have h1 := hV.readyv r (mem_of_get hr); have h2 := hV.lastv la (mem_of_get hla); have h3 := hV.duev du (mem_of_get hdu); omega) | (exact (show _ = (0 : Int) → False from by assumption) (firstE_zero.2 fun a ha => arcE_zero.2 (hV.arcsv a ha))) | (have h1 := (hV.choicesv x (mem_of_get hx)).1; omega) | (have h1 := ((hV.choicesv x (mem_of_get hx)).2 y (mem_of_get hy)).1; omega) | (exact (show _ = (0 : Int) → False from by assumption) (firstE_zero.2 fun a ha => arcE_zero.2 (((hV.choicesv x (mem_of_get hx)).2 y (mem_of_get hy)).2 a ha))) | (exact (show _ = (0 : Int) → False from by assumption) (arcE_zero.2 (hV.arcsv a (mem_of_get ha)))) | (exact (show _ = (0 : Int) → False from by assumption) (arcE_zero.2 (((hV.choicesv x (mem_of_get hx)).2 y (mem_of_get hy)).2 a (mem_of_get ha))))), rfl⟩
  ·
    refine t_st rfl (st_move rfl) ?_
    refine t_yes 15 rfl rfl rfl ?_
    refine t_st rfl (st_field rfl fld26_3) ?_
    refine t_yes 15 rfl rfl rfl ?_
    refine t_st rfl (st_load 0 rfl one23 rfl rfl) ?_
    refine t_yes 15 rfl rfl rfl ?_
    refine t_st rfl (st_len rfl sl23) ?_
    refine t_yes 15 rfl rfl rfl ?_
    refine t_bool rfl (st_gtr rfl rfl) (fun hc3 => ?_) (fun hc3 => ?_)
    ·
      refine t_st rfl (st_pick_f rfl rfl) ?_
      refine t_st rfl (st_move rfl) ?_
      refine t_no 21 rfl rfl rfl rfl rfl ?_
      refine t_no 21 rfl rfl rfl rfl rfl ?_
      refine t_no 21 rfl rfl rfl rfl rfl ?_
      refine t_no 21 rfl rfl rfl rfl rfl ?_
      refine t_st rfl (st_pick_t rfl rfl) ?_
      refine t_st rfl (st_assign rfl) ?_
      refine t_nil ?_
      refine x_then_normal ?_
      refine c_cond_t rfl ?_
      refine c_seq ?_
      refine c_region ?_
      refine t_st rfl (st_assign rfl) ?_
      refine t_nil ?_
      refine x_then_normal ?_
      refine c_ret ?_
      refine x_block_ret ?_
      refine x_then_ret ?_
      refine x_drop (hp' := []) (by repeat (first | exact List.Sublist.refl _ | exact List.nil_sublist _ | exact List.sublist_append_left _ _ | exact List.sublist_append_right _ _ | exact (List.sublist_append_right _ _).trans (List.sublist_append_right _ _) | apply List.Sublist.cons_cons | apply List.Sublist.cons)) ?_
      exact ret1 (Base.Le.refl _) rfl rfl ⟨_, rfl, no_of (by first | decide | assumption) (fun hV => by first | (have h1 := hV.nr; have h2 := hV.na; have h3 := hV.nc; have h4 := hV.nl; have h5 := hV.nd; omega) | (have h1 := hV.readyv r (mem_of_get hr); have h2 := hV.lastv la (mem_of_get hla); have h3 := hV.duev du (mem_of_get hdu); omega) | (exact (show _ = (0 : Int) → False from by assumption) (firstE_zero.2 fun a ha => arcE_zero.2 (hV.arcsv a ha))) | (have h1 := (hV.choicesv x (mem_of_get hx)).1; omega) | (have h1 := ((hV.choicesv x (mem_of_get hx)).2 y (mem_of_get hy)).1; omega) | (exact (show _ = (0 : Int) → False from by assumption) (firstE_zero.2 fun a ha => arcE_zero.2 (((hV.choicesv x (mem_of_get hx)).2 y (mem_of_get hy)).2 a ha))) | (exact (show _ = (0 : Int) → False from by assumption) (arcE_zero.2 (hV.arcsv a (mem_of_get ha)))) | (exact (show _ = (0 : Int) → False from by assumption) (arcE_zero.2 (((hV.choicesv x (mem_of_get hx)).2 y (mem_of_get hy)).2 a (mem_of_get ha))))), rfl⟩
    ·
      refine t_st rfl (st_pick_f rfl rfl) ?_
      refine t_st rfl (st_move rfl) ?_
      refine t_yes 21 rfl rfl rfl ?_
      refine t_st rfl (st_field rfl fld26_4) ?_
      refine t_yes 21 rfl rfl rfl ?_
      refine t_st rfl (st_load 0 rfl one24 rfl rfl) ?_
      refine t_yes 21 rfl rfl rfl ?_
      refine t_st rfl (st_len rfl sl24) ?_
      refine t_yes 21 rfl rfl rfl ?_
      refine t_bool rfl (st_gtr rfl rfl) (fun hc4 => ?_) (fun hc4 => ?_)
      ·
        refine t_st rfl (st_pick_f rfl rfl) ?_
        refine t_st rfl (st_assign rfl) ?_
        refine t_nil ?_
        refine x_then_normal ?_
        refine c_cond_t rfl ?_
        refine c_seq ?_
        refine c_region ?_
        refine t_st rfl (st_assign rfl) ?_
        refine t_nil ?_
        refine x_then_normal ?_
        refine c_ret ?_
        refine x_block_ret ?_
        refine x_then_ret ?_
        refine x_drop (hp' := []) (by repeat (first | exact List.Sublist.refl _ | exact List.nil_sublist _ | exact List.sublist_append_left _ _ | exact List.sublist_append_right _ _ | exact (List.sublist_append_right _ _).trans (List.sublist_append_right _ _) | apply List.Sublist.cons_cons | apply List.Sublist.cons)) ?_
        exact ret1 (Base.Le.refl _) rfl rfl ⟨_, rfl, no_of (by first | decide | assumption) (fun hV => by first | (have h1 := hV.nr; have h2 := hV.na; have h3 := hV.nc; have h4 := hV.nl; have h5 := hV.nd; omega) | (have h1 := hV.readyv r (mem_of_get hr); have h2 := hV.lastv la (mem_of_get hla); have h3 := hV.duev du (mem_of_get hdu); omega) | (exact (show _ = (0 : Int) → False from by assumption) (firstE_zero.2 fun a ha => arcE_zero.2 (hV.arcsv a ha))) | (have h1 := (hV.choicesv x (mem_of_get hx)).1; omega) | (have h1 := ((hV.choicesv x (mem_of_get hx)).2 y (mem_of_get hy)).1; omega) | (exact (show _ = (0 : Int) → False from by assumption) (firstE_zero.2 fun a ha => arcE_zero.2 (((hV.choicesv x (mem_of_get hx)).2 y (mem_of_get hy)).2 a ha))) | (exact (show _ = (0 : Int) → False from by assumption) (arcE_zero.2 (hV.arcsv a (mem_of_get ha)))) | (exact (show _ = (0 : Int) → False from by assumption) (arcE_zero.2 (((hV.choicesv x (mem_of_get hx)).2 y (mem_of_get hy)).2 a (mem_of_get ha))))), rfl⟩
      ·
        refine t_st rfl (st_pick_f rfl rfl) ?_
        refine t_st rfl (st_assign rfl) ?_
        refine t_nil ?_
        refine x_then_normal ?_
        refine c_cond_f rfl ?_
        refine c_seq ?_
        refine c_region ?_
        refine t_st rfl (st_field rfl fld26_1) ?_
        refine t_st rfl (st_load 0 rfl one22 rfl rfl) ?_
        refine t_st rfl (st_len rfl sl22) ?_
        refine t_st rfl (st_field rfl fld26_0) ?_
        refine t_st rfl (st_load 0 rfl one22 rfl rfl) ?_
        refine t_st rfl (st_len rfl sl22) ?_
        refine t_bool rfl (st_neq rfl rfl) (fun hc5 => ?_) (fun hc5 => ?_)
        ·
          refine t_st rfl (st_move rfl) ?_
          refine t_no 35 rfl rfl rfl rfl rfl ?_
          refine t_no 35 rfl rfl rfl rfl rfl ?_
          refine t_no 35 rfl rfl rfl rfl rfl ?_
          refine t_no 35 rfl rfl rfl rfl rfl ?_
          refine t_no 35 rfl rfl rfl rfl rfl ?_
          refine t_no 35 rfl rfl rfl rfl rfl ?_
          refine t_no 35 rfl rfl rfl rfl rfl ?_
          refine t_st rfl (st_pick_t rfl rfl) ?_
          refine t_st rfl (st_assign rfl) ?_
          refine t_nil ?_
          refine x_then_normal ?_
          refine c_cond_t rfl ?_
          refine c_seq ?_
          refine c_region ?_
          refine t_st rfl (st_assign rfl) ?_
          refine t_nil ?_
          refine x_then_normal ?_
          refine c_ret ?_
          refine x_block_ret ?_
          refine x_then_ret ?_
          refine x_drop (hp' := []) (by repeat (first | exact List.Sublist.refl _ | exact List.nil_sublist _ | exact List.sublist_append_left _ _ | exact List.sublist_append_right _ _ | exact (List.sublist_append_right _ _).trans (List.sublist_append_right _ _) | apply List.Sublist.cons_cons | apply List.Sublist.cons)) ?_
          exact ret1 (Base.Le.refl _) rfl rfl ⟨_, rfl, no_of (by first | decide | assumption) (fun hV => by first | (have h1 := hV.nr; have h2 := hV.na; have h3 := hV.nc; have h4 := hV.nl; have h5 := hV.nd; omega) | (have h1 := hV.readyv r (mem_of_get hr); have h2 := hV.lastv la (mem_of_get hla); have h3 := hV.duev du (mem_of_get hdu); omega) | (exact (show _ = (0 : Int) → False from by assumption) (firstE_zero.2 fun a ha => arcE_zero.2 (hV.arcsv a ha))) | (have h1 := (hV.choicesv x (mem_of_get hx)).1; omega) | (have h1 := ((hV.choicesv x (mem_of_get hx)).2 y (mem_of_get hy)).1; omega) | (exact (show _ = (0 : Int) → False from by assumption) (firstE_zero.2 fun a ha => arcE_zero.2 (((hV.choicesv x (mem_of_get hx)).2 y (mem_of_get hy)).2 a ha))) | (exact (show _ = (0 : Int) → False from by assumption) (arcE_zero.2 (hV.arcsv a (mem_of_get ha)))) | (exact (show _ = (0 : Int) → False from by assumption) (arcE_zero.2 (((hV.choicesv x (mem_of_get hx)).2 y (mem_of_get hy)).2 a (mem_of_get ha))))), rfl⟩
        ·
          refine t_st rfl (st_move rfl) ?_
          refine t_yes 35 rfl rfl rfl ?_
          refine t_st rfl (st_field rfl fld26_2) ?_
          refine t_yes 35 rfl rfl rfl ?_
          refine t_st rfl (st_load 0 rfl one22 rfl rfl) ?_
          refine t_yes 35 rfl rfl rfl ?_
          refine t_st rfl (st_len rfl sl22) ?_
          refine t_yes 35 rfl rfl rfl ?_
          refine t_st rfl (st_field rfl fld26_0) ?_
          refine t_yes 35 rfl rfl rfl ?_
          refine t_st rfl (st_load 0 rfl one22 rfl rfl) ?_
          refine t_yes 35 rfl rfl rfl ?_
          refine t_st rfl (st_len rfl sl22) ?_
          refine t_yes 35 rfl rfl rfl ?_
          refine t_bool rfl (st_neq rfl rfl) (fun hc6 => ?_) (fun hc6 => ?_)
          ·
            refine t_st rfl (st_pick_f rfl rfl) ?_
            refine t_st rfl (st_assign rfl) ?_
            refine t_nil ?_
            refine x_then_normal ?_
            refine c_cond_t rfl ?_
            refine c_seq ?_
            refine c_region ?_
            refine t_st rfl (st_assign rfl) ?_
            refine t_nil ?_
            refine x_then_normal ?_
            refine c_ret ?_
            refine x_block_ret ?_
            refine x_then_ret ?_
            refine x_drop (hp' := []) (by repeat (first | exact List.Sublist.refl _ | exact List.nil_sublist _ | exact List.sublist_append_left _ _ | exact List.sublist_append_right _ _ | exact (List.sublist_append_right _ _).trans (List.sublist_append_right _ _) | apply List.Sublist.cons_cons | apply List.Sublist.cons)) ?_
            exact ret1 (Base.Le.refl _) rfl rfl ⟨_, rfl, no_of (by first | decide | assumption) (fun hV => by first | (have h1 := hV.nr; have h2 := hV.na; have h3 := hV.nc; have h4 := hV.nl; have h5 := hV.nd; omega) | (have h1 := hV.readyv r (mem_of_get hr); have h2 := hV.lastv la (mem_of_get hla); have h3 := hV.duev du (mem_of_get hdu); omega) | (exact (show _ = (0 : Int) → False from by assumption) (firstE_zero.2 fun a ha => arcE_zero.2 (hV.arcsv a ha))) | (have h1 := (hV.choicesv x (mem_of_get hx)).1; omega) | (have h1 := ((hV.choicesv x (mem_of_get hx)).2 y (mem_of_get hy)).1; omega) | (exact (show _ = (0 : Int) → False from by assumption) (firstE_zero.2 fun a ha => arcE_zero.2 (((hV.choicesv x (mem_of_get hx)).2 y (mem_of_get hy)).2 a ha))) | (exact (show _ = (0 : Int) → False from by assumption) (arcE_zero.2 (hV.arcsv a (mem_of_get ha)))) | (exact (show _ = (0 : Int) → False from by assumption) (arcE_zero.2 (((hV.choicesv x (mem_of_get hx)).2 y (mem_of_get hy)).2 a (mem_of_get ha))))), rfl⟩
          ·
            refine t_st rfl (st_pick_f rfl rfl) ?_
            refine t_st rfl (st_assign rfl) ?_
            refine t_nil ?_
            refine x_then_normal ?_
            refine c_cond_f rfl ?_
            refine c_skip ?_
            refine x_block_normal ?_
            refine x_then_normal ?_
            refine c_seq ?_
            refine c_seq ?_
            refine c_region ?_
            refine t_st rfl (st_field rfl fld26_0) ?_
            refine t_st rfl (st_load 0 rfl one22 rfl rfl) ?_
            refine t_st rfl (st_len rfl sl22) ?_
            refine t_st rfl (st_move rfl) ?_
            refine t_nil ?_
            refine x_then_normal ?_
            refine c_block ?_
            refine l_loop [(1, _), (46, _)] _ (fun (k : Nat) => [(47, .int .i64 (k : Int))]) (fun (k : Nat) => []) (fun (k : Nat) => k ≤ g.ready.l.length ∧ All (fun x => 0 ≤ x ∧ x ≤ 28800) g.ready.l k ∧ All (fun x => -1 ≤ x ∧ x ≤ 28800) g.last.l k ∧ All (fun x => -1 ≤ x ∧ x ≤ 28800) g.due.l k) (fun (k : Nat) => g.ready.l.length - k) (0) ⟨rfl, trivial⟩ ⟨rfl, rfl, trivial⟩ rfl ⟨by omega, All.zero, All.zero, All.zero⟩ ?_
            intro k hinv
            obtain ⟨hk, n1, n2, n3⟩ := hinv
            refine c_seq ?_
            refine c_region ?_
            refine t_bool rfl (st_lss rfl rfl) (fun hc7 => ?_) (fun hc7 => ?_)
            ·
              refine t_nil ?_
              refine x_then_normal ?_
              refine c_seq ?_
              refine c_cond_t rfl ?_
              refine c_skip ?_
              refine x_then_normal ?_
              refine c_seq ?_
              refine c_block ?_
              refine c_seq ?_
              refine c_region ?_
              refine t_st rfl (st_move rfl) ?_
              refine t_st rfl (st_assign rfl) ?_
              refine t_nil ?_
              refine x_then_normal ?_
              refine c_seq ?_
              refine c_region ?_
              refine t_st rfl (st_field rfl fld26_0) ?_
              refine t_st rfl (st_load 0 rfl one22 rfl rfl) ?_
              refine t_st rfl (st_move rfl) ?_
              obtain ⟨r, hr⟩ := ex_get (l := g.ready.l) (k := k) (by omega)
              obtain ⟨la, hla⟩ := ex_get (l := g.last.l) (k := k) (by omega)
              obtain ⟨du, hdu⟩ := ex_get (l := g.due.l) (k := k) (by omega)
              refine t_st rfl (st_index_old k rfl rfl rfl (by omega) (Rd.isSome encI_len (by decide) hg.ready hr) sl22) ?_
              refine t_st rfl (st_load_old rfl one3 (Rd.row encI_len hg.ready hr (j := 0) rfl)) ?_
              refine t_doB rfl (u_call _ call37 rfl (within_c _ _ _ _ _)) (fun hc8 => ?_) (fun hc8 => ?_)
              ·
                refine t_st rfl (st_not_t rfl) ?_
                refine t_st rfl (st_move rfl) ?_
                refine t_yes 57 rfl rfl rfl ?_
                refine t_st rfl (st_field rfl fld26_1) ?_
                refine t_yes 57 rfl rfl rfl ?_
                refine t_st rfl (st_load 0 rfl one22 rfl rfl) ?_
                refine t_yes 57 rfl rfl rfl ?_
                refine t_st rfl (st_move rfl) ?_
                refine t_yes 57 rfl rfl rfl ?_
                refine t_st rfl (st_index_old k rfl rfl rfl (by have := lt_of_get hla; omega) (Rd.isSome encI_len (by decide) hg.last hla) sl22) ?_
                refine t_yes 57 rfl rfl rfl ?_
                refine t_st rfl (st_load_old rfl one3 (Rd.row encI_len hg.last hla (j := 0) rfl)) ?_
                refine t_yes 57 rfl rfl rfl ?_
                refine t_doB rfl (u_call _ call37 rfl (within_c _ _ _ _ _)) (fun hc9 => ?_) (fun hc9 => ?_)
                ·
                  refine t_yes 57 rfl rfl rfl ?_
                  refine t_st rfl (st_not_t rfl) ?_
                  refine t_st rfl (st_pick_f rfl rfl) ?_
                  refine t_st rfl (st_move rfl) ?_
                  refine t_yes 66 rfl rfl rfl ?_
                  refine t_st rfl (st_field rfl fld26_2) ?_
                  refine t_yes 66 rfl rfl rfl ?_
                  refine t_st rfl (st_load 0 rfl one22 rfl rfl) ?_
                  refine t_yes 66 rfl rfl rfl ?_
                  refine t_st rfl (st_move rfl) ?_
                  refine t_yes 66 rfl rfl rfl ?_
                  refine t_st rfl (st_index_old k rfl rfl rfl (by have := lt_of_get hdu; omega) (Rd.isSome encI_len (by decide) hg.due hdu) sl22) ?_
                  refine t_yes 66 rfl rfl rfl ?_
                  refine t_st rfl (st_load_old rfl one3 (Rd.row encI_len hg.due hdu (j := 0) rfl)) ?_
                  refine t_yes 66 rfl rfl rfl ?_
                  refine t_doB rfl (u_call _ call37 rfl (within_c _ _ _ _ _)) (fun hc10 => ?_) (fun hc10 => ?_)
                  ·
                    refine t_yes 66 rfl rfl rfl ?_
                    refine t_st rfl (st_not_t rfl) ?_
                    refine t_st rfl (st_pick_f rfl rfl) ?_
                    refine t_nil ?_
                    refine x_then_normal ?_
                    refine c_cond_f rfl ?_
                    refine c_skip ?_
                    refine x_block_normal ?_
                    refine x_then_normal ?_
                    refine c_region ?_
                    refine t_st rfl (st_add rfl rfl (by omega)) ?_
                    refine t_st rfl (st_move rfl) ?_
                    refine t_nil ?_
                    exact x_again  (k + 1) (Base.Le.refl _) ⟨rfl, trivial⟩ ⟨rfl, rfl, trivial⟩ (by repeat (first | exact List.Sublist.refl _ | exact List.nil_sublist _ | exact List.sublist_append_left _ _ | exact List.sublist_append_right _ _ | exact (List.sublist_append_right _ _).trans (List.sublist_append_right _ _) | apply List.Sublist.cons_cons | apply List.Sublist.cons)) ⟨by omega, n1.snoc hr (by omega), n2.snoc hla (by omega), n3.snoc hdu (by omega)⟩ (by omega)
                  ·
                    refine t_yes 66 rfl rfl rfl ?_
                    refine t_st rfl (st_not_f rfl) ?_
                    refine t_st rfl (st_pick_f rfl rfl) ?_
                    refine t_nil ?_
                    refine x_then_normal ?_
                    refine c_cond_t rfl ?_
                    refine c_seq ?_
                    refine c_region ?_
                    refine t_st rfl (st_assign rfl) ?_
                    refine t_nil ?_
                    refine x_then_normal ?_
                    refine c_ret ?_
                    refine x_block_ret ?_
                    refine x_then_ret ?_
                    refine x_then_ret ?_
                    refine x_block_ret ?_
                    refine x_then_ret ?_
                    refine x_drop (hp' := []) (by repeat (first | exact List.Sublist.refl _ | exact List.nil_sublist _ | exact List.sublist_append_left _ _ | exact List.sublist_append_right _ _ | exact (List.sublist_append_right _ _).trans (List.sublist_append_right _ _) | apply List.Sublist.cons_cons | apply List.Sublist.cons)) ?_
                    exact ret1 (Base.Le.refl _) rfl rfl ⟨_, rfl, no_of (by first | decide | assumption) (fun hV => by first | (have h1 := hV.nr; have h2 := hV.na; have h3 := hV.nc; have h4 := hV.nl; have h5 := hV.nd; omega) | (have h1 := hV.readyv r (mem_of_get hr); have h2 := hV.lastv la (mem_of_get hla); have h3 := hV.duev du (mem_of_get hdu); omega) | (exact (show _ = (0 : Int) → False from by assumption) (firstE_zero.2 fun a ha => arcE_zero.2 (hV.arcsv a ha))) | (have h1 := (hV.choicesv x (mem_of_get hx)).1; omega) | (have h1 := ((hV.choicesv x (mem_of_get hx)).2 y (mem_of_get hy)).1; omega) | (exact (show _ = (0 : Int) → False from by assumption) (firstE_zero.2 fun a ha => arcE_zero.2 (((hV.choicesv x (mem_of_get hx)).2 y (mem_of_get hy)).2 a ha))) | (exact (show _ = (0 : Int) → False from by assumption) (arcE_zero.2 (hV.arcsv a (mem_of_get ha)))) | (exact (show _ = (0 : Int) → False from by assumption) (arcE_zero.2 (((hV.choicesv x (mem_of_get hx)).2 y (mem_of_get hy)).2 a (mem_of_get ha))))), rfl⟩
                ·
                  refine t_yes 57 rfl rfl rfl ?_
                  refine t_st rfl (st_not_f rfl) ?_
                  refine t_st rfl (st_pick_f rfl rfl) ?_
                  refine t_st rfl (st_move rfl) ?_
                  refine t_no 66 rfl rfl rfl rfl rfl ?_
                  refine t_no 66 rfl rfl rfl rfl rfl ?_
                  refine t_no 66 rfl rfl rfl rfl rfl ?_
                  refine t_no 66 rfl rfl rfl rfl rfl ?_
                  refine t_no 66 rfl rfl rfl rfl rfl ?_
                  refine t_no 66 rfl rfl rfl rfl rfl ?_
                  refine t_no 66 rfl rfl rfl rfl rfl ?_
                  refine t_st rfl (st_pick_t rfl rfl) ?_
                  refine t_nil ?_
                  refine x_then_normal ?_
                  refine c_cond_t rfl ?_
                  refine c_seq ?_
                  refine c_region ?_
                  refine t_st rfl (st_assign rfl) ?_
                  refine t_nil ?_
                  refine x_then_normal ?_
                  refine c_ret ?_
                  refine x_block_ret ?_
                  refine x_then_ret ?_
                  refine x_then_ret ?_
                  refine x_block_ret ?_
                  refine x_then_ret ?_
                  refine x_drop (hp' := []) (by repeat (first | exact List.Sublist.refl _ | exact List.nil_sublist _ | exact List.sublist_append_left _ _ | exact List.sublist_append_right _ _ | exact (List.sublist_append_right _ _).trans (List.sublist_append_right _ _) | apply List.Sublist.cons_cons | apply List.Sublist.cons)) ?_
                  exact ret1 (Base.Le.refl _) rfl rfl ⟨_, rfl, no_of (by first | decide | assumption) (fun hV => by first | (have h1 := hV.nr; have h2 := hV.na; have h3 := hV.nc; have h4 := hV.nl; have h5 := hV.nd; omega) | (have h1 := hV.readyv r (mem_of_get hr); have h2 := hV.lastv la (mem_of_get hla); have h3 := hV.duev du (mem_of_get hdu); omega) | (exact (show _ = (0 : Int) → False from by assumption) (firstE_zero.2 fun a ha => arcE_zero.2 (hV.arcsv a ha))) | (have h1 := (hV.choicesv x (mem_of_get hx)).1; omega) | (have h1 := ((hV.choicesv x (mem_of_get hx)).2 y (mem_of_get hy)).1; omega) | (exact (show _ = (0 : Int) → False from by assumption) (firstE_zero.2 fun a ha => arcE_zero.2 (((hV.choicesv x (mem_of_get hx)).2 y (mem_of_get hy)).2 a ha))) | (exact (show _ = (0 : Int) → False from by assumption) (arcE_zero.2 (hV.arcsv a (mem_of_get ha)))) | (exact (show _ = (0 : Int) → False from by assumption) (arcE_zero.2 (((hV.choicesv x (mem_of_get hx)).2 y (mem_of_get hy)).2 a (mem_of_get ha))))), rfl⟩
              ·
                refine t_st rfl (st_not_f rfl) ?_
                refine t_st rfl (st_move rfl) ?_
                refine t_no 57 rfl rfl rfl rfl rfl ?_
                refine t_no 57 rfl rfl rfl rfl rfl ?_
                refine t_no 57 rfl rfl rfl rfl rfl ?_
                refine t_no 57 rfl rfl rfl rfl rfl ?_
                refine t_no 57 rfl rfl rfl rfl rfl ?_
                refine t_no 57 rfl rfl rfl rfl rfl ?_
                refine t_no 57 rfl rfl rfl rfl rfl ?_
                refine t_st rfl (st_pick_t rfl rfl) ?_
                refine t_st rfl (st_move rfl) ?_
                refine t_no 66 rfl rfl rfl rfl rfl ?_
                refine t_no 66 rfl rfl rfl rfl rfl ?_
                refine t_no 66 rfl rfl rfl rfl rfl ?_
                refine t_no 66 rfl rfl rfl rfl rfl ?_
                refine t_no 66 rfl rfl rfl rfl rfl ?_
                refine t_no 66 rfl rfl rfl rfl rfl ?_
                refine t_no 66 rfl rfl rfl rfl rfl ?_
                refine t_st rfl (st_pick_t rfl rfl) ?_
                refine t_nil ?_
                refine x_then_normal ?_
                refine c_cond_t rfl ?_
                refine c_seq ?_
                refine c_region ?_
                refine t_st rfl (st_assign rfl) ?_
                refine t_nil ?_
                refine x_then_normal ?_
                refine c_ret ?_
                refine x_block_ret ?_
                refine x_then_ret ?_
                refine x_then_ret ?_
                refine x_block_ret ?_
                refine x_then_ret ?_
                refine x_drop (hp' := []) (by repeat (first | exact List.Sublist.refl _ | exact List.nil_sublist _ | exact List.sublist_append_left _ _ | exact List.sublist_append_right _ _ | exact (List.sublist_append_right _ _).trans (List.sublist_append_right _ _) | apply List.Sublist.cons_cons | apply List.Sublist.cons)) ?_
                exact ret1 (Base.Le.refl _) rfl rfl ⟨_, rfl, no_of (by first | decide | assumption) (fun hV => by first | (have h1 := hV.nr; have h2 := hV.na; have h3 := hV.nc; have h4 := hV.nl; have h5 := hV.nd; omega) | (have h1 := hV.readyv r (mem_of_get hr); have h2 := hV.lastv la (mem_of_get hla); have h3 := hV.duev du (mem_of_get hdu); omega) | (exact (show _ = (0 : Int) → False from by assumption) (firstE_zero.2 fun a ha => arcE_zero.2 (hV.arcsv a ha))) | (have h1 := (hV.choicesv x (mem_of_get hx)).1; omega) | (have h1 := ((hV.choicesv x (mem_of_get hx)).2 y (mem_of_get hy)).1; omega) | (exact (show _ = (0 : Int) → False from by assumption) (firstE_zero.2 fun a ha => arcE_zero.2 (((hV.choicesv x (mem_of_get hx)).2 y (mem_of_get hy)).2 a ha))) | (exact (show _ = (0 : Int) → False from by assumption) (arcE_zero.2 (hV.arcsv a (mem_of_get ha)))) | (exact (show _ = (0 : Int) → False from by assumption) (arcE_zero.2 (((hV.choicesv x (mem_of_get hx)).2 y (mem_of_get hy)).2 a (mem_of_get ha))))), rfl⟩
            ·
              refine t_nil ?_
              refine x_then_normal ?_
              refine c_seq ?_
              refine c_cond_f rfl ?_
              refine c_exit ?_
              refine x_then_exit ?_
              refine x_then_exit ?_
              refine x_block_out ?_
              refine x_then_normal ?_
              refine c_seq ?_
              refine c_seq ?_
              refine c_region ?_
              refine t_st rfl (st_loadD (vs := [_, _, _, _, _]) 0 5 rfl agg26 rfl rfl rfl) ?_
              refine t_st rfl (st_field rfl fld26_3) ?_
              refine t_st rfl (st_load 0 rfl one23 rfl rfl) ?_
              refine t_do rfl (u_callf _ call59 rfl (fun w ho => checkArcs_c g _ _ _ w (hg.arcs.old ho) hg.narcs hg.nready)) ?_
              rintro _ _ ⟨_, rfl, rfl, rfl⟩
              refine t_st rfl (st_assign rfl) ?_
              refine t_nil ?_
              refine x_then_normal ?_
              refine c_seq ?_
              refine c_region ?_
              refine t_st rfl (st_move rfl) ?_
              refine t_bool rfl (st_neq rfl rfl) (fun hc11 => ?_) (fun hc11 => ?_)
              ·
                refine t_nil ?_
                refine x_then_normal ?_
                refine c_cond_t rfl ?_
                refine c_seq ?_
                refine c_region ?_
                refine t_st rfl (st_move rfl) ?_
                refine t_st rfl (st_assign rfl) ?_
                refine t_nil ?_
                refine x_then_normal ?_
                refine c_ret ?_
                refine x_then_ret ?_
                refine x_drop (hp' := []) (by repeat (first | exact List.Sublist.refl _ | exact List.nil_sublist _ | exact List.sublist_append_left _ _ | exact List.sublist_append_right _ _ | exact (List.sublist_append_right _ _).trans (List.sublist_append_right _ _) | apply List.Sublist.cons_cons | apply List.Sublist.cons)) ?_
                exact ret1 (Base.Le.refl _) rfl rfl ⟨_, rfl, no_of (by first | decide | assumption) (fun hV => by first | (have h1 := hV.nr; have h2 := hV.na; have h3 := hV.nc; have h4 := hV.nl; have h5 := hV.nd; omega) | (have h1 := hV.readyv r (mem_of_get hr); have h2 := hV.lastv la (mem_of_get hla); have h3 := hV.duev du (mem_of_get hdu); omega) | (exact (show _ = (0 : Int) → False from by assumption) (firstE_zero.2 fun a ha => arcE_zero.2 (hV.arcsv a ha))) | (have h1 := (hV.choicesv x (mem_of_get hx)).1; omega) | (have h1 := ((hV.choicesv x (mem_of_get hx)).2 y (mem_of_get hy)).1; omega) | (exact (show _ = (0 : Int) → False from by assumption) (firstE_zero.2 fun a ha => arcE_zero.2 (((hV.choicesv x (mem_of_get hx)).2 y (mem_of_get hy)).2 a ha))) | (exact (show _ = (0 : Int) → False from by assumption) (arcE_zero.2 (hV.arcsv a (mem_of_get ha)))) | (exact (show _ = (0 : Int) → False from by assumption) (arcE_zero.2 (((hV.choicesv x (mem_of_get hx)).2 y (mem_of_get hy)).2 a (mem_of_get ha))))), rfl⟩
              ·
                refine t_nil ?_
                refine x_then_normal ?_
                refine c_cond_f rfl ?_
                refine c_skip ?_
                refine x_then_normal ?_
                refine c_seq ?_
                refine c_seq ?_
                refine c_region ?_
                refine t_st rfl (st_field rfl fld26_4) ?_
                refine t_st rfl (st_load 0 rfl one24 rfl rfl) ?_
                refine t_st rfl (st_len rfl sl24) ?_
                refine t_st rfl (st_move rfl) ?_
                refine t_nil ?_
                refine x_then_normal ?_
                refine c_block ?_
                refine l_loop [(1, _), (84, _), (85, _)] _ (fun (k : Nat) => [(86, .int .i64 (k : Int))]) (fun (k : Nat) => []) (fun (k : Nat) => k ≤ g.choices.l.length ∧ All (ChoiceV g.ready.l.length) g.choices.l k) (fun (k : Nat) => g.choices.l.length - k) (0) ⟨rfl, trivial⟩ ⟨rfl, rfl, rfl, trivial⟩ rfl ⟨by omega, All.zero⟩ ?_
                intro k hinv
                obtain ⟨hk, n4⟩ := hinv
                refine c_seq ?_
                refine c_region ?_
                refine t_bool rfl (st_lss rfl rfl) (fun hc12 => ?_) (fun hc12 => ?_)
                ·
                  refine t_nil ?_
                  refine x_then_normal ?_
                  refine c_seq ?_
                  refine c_cond_t rfl ?_
                  refine c_skip ?_
                  refine x_then_normal ?_
                  refine c_seq ?_
                  refine c_block ?_
                  refine c_seq ?_
                  refine c_region ?_
                  obtain ⟨x, hx⟩ := ex_get (l := g.choices.l) (k := k) (by omega)
                  refine t_st rfl (st_index_old k rfl rfl rfl (by omega) (Rd.isSome encS_len (by decide) hg.choices hx) sl24) ?_
                  refine t_st rfl (st_loadN_old (vs := encS _) 1 rfl agg37 (Rd.isSome encS_len (by decide) hg.choices hx) rfl (fun _ _ h => Rd.row encS_len hg.choices hx h)) ?_
                  refine t_do rfl (u_alloc [.slice none 0 0] zero37 rfl) ?_
                  rintro _ _ ⟨g13, rfl, rfl⟩
                  refine t_do rfl (u_storeN (vs := [_]) 0 1 rfl rfl rfl siz37 rfl (by intro u hu; simp only [List.mem_cons, List.not_mem_nil, or_false] at hu; rcases hu with rfl <;> rfl) rfl (by simp)) ?_
                  rintro _ _ rfl
                  refine t_nil ?_
                  refine x_then_normal ?_
                  refine c_seq ?_
                  refine c_seq ?_
                  refine c_region ?_
                  refine t_st rfl (st_field rfl fld37_0) ?_
                  refine t_st rfl (st_load 0 rfl one35 rfl rfl) ?_
                  refine t_st rfl (st_len rfl sl35) ?_
                  refine t_bool rfl (st_gtr rfl rfl) (fun hc14 => ?_) (fun hc14 => ?_)
                  ·
                    refine t_nil ?_
                    refine x_then_normal ?_
                    refine c_cond_t rfl ?_
                    refine c_seq ?_
                    refine c_region ?_
                    refine t_st rfl (st_assign rfl) ?_
                    refine t_nil ?_
                    refine x_then_normal ?_
                    refine c_ret ?_
                    refine x_then_ret ?_
                    refine x_block_ret ?_
                    refine x_then_ret ?_
                    refine x_then_ret ?_
                    refine x_block_ret ?_
                    refine x_then_ret ?_
                    refine x_drop (hp' := []) (by repeat (first | exact List.Sublist.refl _ | exact List.nil_sublist _ | exact List.sublist_append_left _ _ | exact List.sublist_append_right _ _ | exact (List.sublist_append_right _ _).trans (List.sublist_append_right _ _) | apply List.Sublist.cons_cons | apply List.Sublist.cons)) ?_
                    exact ret1 (Base.Le.refl _) rfl rfl ⟨_, rfl, no_of (by first | decide | assumption) (fun hV => by first | (have h1 := hV.nr; have h2 := hV.na; have h3 := hV.nc; have h4 := hV.nl; have h5 := hV.nd; omega) | (have h1 := hV.readyv r (mem_of_get hr); have h2 := hV.lastv la (mem_of_get hla); have h3 := hV.duev du (mem_of_get hdu); omega) | (exact (show _ = (0 : Int) → False from by assumption) (firstE_zero.2 fun a ha => arcE_zero.2 (hV.arcsv a ha))) | (have h1 := (hV.choicesv x (mem_of_get hx)).1; omega) | (have h1 := ((hV.choicesv x (mem_of_get hx)).2 y (mem_of_get hy)).1; omega) | (exact (show _ = (0 : Int) → False from by assumption) (firstE_zero.2 fun a ha => arcE_zero.2 (((hV.choicesv x (mem_of_get hx)).2 y (mem_of_get hy)).2 a ha))) | (exact (show _ = (0 : Int) → False from by assumption) (arcE_zero.2 (hV.arcsv a (mem_of_get ha)))) | (exact (show _ = (0 : Int) → False from by assumption) (arcE_zero.2 (((hV.choicesv x (mem_of_get hx)).2 y (mem_of_get hy)).2 a (mem_of_get ha))))), rfl⟩
                  ·
                    refine t_nil ?_
                    refine x_then_normal ?_
                    refine c_cond_f rfl ?_
                    refine c_skip ?_
                    refine x_then_normal ?_
                    refine c_seq ?_
                    refine c_region ?_
                    refine t_st rfl (st_field rfl fld37_0) ?_
                    refine t_st rfl (st_load 0 rfl one35 rfl rfl) ?_
                    refine t_st rfl (st_len rfl sl35) ?_
                    refine t_st rfl (st_move rfl) ?_
                    refine t_nil ?_
                    refine x_then_normal ?_
                    refine c_block ?_
                    refine l_loop [(1, _), (84, _), (85, _), (86, _), (95, _), (96, _)] _ (fun (j : Nat) => [(97, .int .i64 (j : Int))]) (fun (j : Nat) => []) (fun (j : Nat) => j ≤ x.l.length ∧ All (WayV g.ready.l.length) x.l j) (fun (j : Nat) => x.l.length - j) (0) ⟨rfl, trivial⟩ ⟨rfl, rfl, rfl, rfl, rfl, rfl, trivial⟩ rfl ⟨by omega, All.zero⟩ ?_
                    intro j hinv
                    obtain ⟨hj, n5⟩ := hinv
                    have hnw := hg.nways _ (mem_of_get hx)
                    refine c_seq ?_
                    refine c_region ?_
                    refine t_bool rfl (st_lss rfl rfl) (fun hc15 => ?_) (fun hc15 => ?_)
                    ·
                      refine t_nil ?_
                      refine x_then_normal ?_
                      refine c_seq ?_
                      refine c_cond_t rfl ?_
                      refine c_skip ?_
                      refine x_then_normal ?_
                      refine c_seq ?_
                      refine c_block ?_
                      refine c_seq ?_
                      refine c_region ?_
                      obtain ⟨y, hy⟩ := ex_get (l := x.l) (k := j) (by omega)
                      refine t_st rfl (st_index_old j rfl rfl rfl (by omega) (Rd.isSome encS_len (by decide) (hg.ways _ (mem_of_get hx)) hy) sl35) ?_
                      refine t_st rfl (st_load_old rfl one23 (Rd.row encS_len (hg.ways _ (mem_of_get hx)) hy (j := 0) rfl)) ?_
                      refine t_st rfl (st_assign rfl) ?_
                      refine t_nil ?_
                      refine x_then_normal ?_
                      refine c_seq ?_
                      refine c_seq ?_
                      refine c_region ?_
                      refine t_st rfl (st_move rfl) ?_
                      refine t_st rfl (st_len rfl sl23) ?_
                      refine t_bool rfl (st_gtr rfl rfl) (fun hc16 => ?_) (fun hc16 => ?_)
                      ·
                        refine t_nil ?_
                        refine x_then_normal ?_
                        refine c_cond_t rfl ?_
                        refine c_seq ?_
                        refine c_region ?_
                        refine t_st rfl (st_assign rfl) ?_
                        refine t_nil ?_
                        refine x_then_normal ?_
                        refine c_ret ?_
                        refine x_then_ret ?_
                        refine x_block_ret ?_
                        refine x_then_ret ?_
                        refine x_then_ret ?_
                        refine x_block_ret ?_
                        refine x_block_ret ?_
                        refine x_then_ret ?_
                        refine x_then_ret ?_
                        refine x_block_ret ?_
                        refine x_then_ret ?_
                        refine x_drop (hp' := []) (by repeat (first | exact List.Sublist.refl _ | exact List.nil_sublist _ | exact List.sublist_append_left _ _ | exact List.sublist_append_right _ _ | exact (List.sublist_append_right _ _).trans (List.sublist_append_right _ _) | apply List.Sublist.cons_cons | apply List.Sublist.cons)) ?_
                        exact ret1 (Base.Le.refl _) rfl rfl ⟨_, rfl, no_of (by first | decide | assumption) (fun hV => by first | (have h1 := hV.nr; have h2 := hV.na; have h3 := hV.nc; have h4 := hV.nl; have h5 := hV.nd; omega) | (have h1 := hV.readyv r (mem_of_get hr); have h2 := hV.lastv la (mem_of_get hla); have h3 := hV.duev du (mem_of_get hdu); omega) | (exact (show _ = (0 : Int) → False from by assumption) (firstE_zero.2 fun a ha => arcE_zero.2 (hV.arcsv a ha))) | (have h1 := (hV.choicesv x (mem_of_get hx)).1; omega) | (have h1 := ((hV.choicesv x (mem_of_get hx)).2 y (mem_of_get hy)).1; omega) | (exact (show _ = (0 : Int) → False from by assumption) (firstE_zero.2 fun a ha => arcE_zero.2 (((hV.choicesv x (mem_of_get hx)).2 y (mem_of_get hy)).2 a ha))) | (exact (show _ = (0 : Int) → False from by assumption) (arcE_zero.2 (hV.arcsv a (mem_of_get ha)))) | (exact (show _ = (0 : Int) → False from by assumption) (arcE_zero.2 (((hV.choicesv x (mem_of_get hx)).2 y (mem_of_get hy)).2 a (mem_of_get ha))))), rfl⟩
                      ·
                        refine t_nil ?_
                        refine x_then_normal ?_
                        refine c_cond_f rfl ?_
                        refine c_skip ?_
                        refine x_then_normal ?_
                        refine c_seq ?_
                        refine c_region ?_
                        refine t_st rfl (st_loadD (vs := [_, _, _, _, _]) 1 5 rfl agg26 rfl rfl rfl) ?_
                        refine t_st rfl (st_move rfl) ?_
                        refine t_do rfl (u_callf _ call59 rfl (fun w ho => checkArcs_c g _ _ _ w ((hg.steps _ (mem_of_get hx) _ (mem_of_get hy)).old ho) (hg.nsteps _ (mem_of_get hx) _ (mem_of_get hy)) hg.nready)) ?_
                        rintro _ _ ⟨_, rfl, rfl, rfl⟩
                        refine t_st rfl (st_assign rfl) ?_
                        refine t_nil ?_
                        refine x_then_normal ?_
                        refine c_seq ?_
                        refine c_region ?_
                        refine t_st rfl (st_move rfl) ?_
                        refine t_bool rfl (st_neq rfl rfl) (fun hc17 => ?_) (fun hc17 => ?_)
                        ·
                          refine t_nil ?_
                          refine x_then_normal ?_
                          refine c_cond_t rfl ?_
                          refine c_seq ?_
                          refine c_region ?_
                          refine t_st rfl (st_move rfl) ?_
                          refine t_st rfl (st_assign rfl) ?_
                          refine t_nil ?_
                          refine x_then_normal ?_
                          refine c_ret ?_
                          refine x_block_ret ?_
                          refine x_then_ret ?_
                          refine x_then_ret ?_
                          refine x_block_ret ?_
                          refine x_block_ret ?_
                          refine x_then_ret ?_
                          refine x_then_ret ?_
                          refine x_block_ret ?_
                          refine x_then_ret ?_
                          refine x_drop (hp' := []) (by repeat (first | exact List.Sublist.refl _ | exact List.nil_sublist _ | exact List.sublist_append_left _ _ | exact List.sublist_append_right _ _ | exact (List.sublist_append_right _ _).trans (List.sublist_append_right _ _) | apply List.Sublist.cons_cons | apply List.Sublist.cons)) ?_
                          exact ret1 (Base.Le.refl _) rfl rfl ⟨_, rfl, no_of (by first | decide | assumption) (fun hV => by first | (have h1 := hV.nr; have h2 := hV.na; have h3 := hV.nc; have h4 := hV.nl; have h5 := hV.nd; omega) | (have h1 := hV.readyv r (mem_of_get hr); have h2 := hV.lastv la (mem_of_get hla); have h3 := hV.duev du (mem_of_get hdu); omega) | (exact (show _ = (0 : Int) → False from by assumption) (firstE_zero.2 fun a ha => arcE_zero.2 (hV.arcsv a ha))) | (have h1 := (hV.choicesv x (mem_of_get hx)).1; omega) | (have h1 := ((hV.choicesv x (mem_of_get hx)).2 y (mem_of_get hy)).1; omega) | (exact (show _ = (0 : Int) → False from by assumption) (firstE_zero.2 fun a ha => arcE_zero.2 (((hV.choicesv x (mem_of_get hx)).2 y (mem_of_get hy)).2 a ha))) | (exact (show _ = (0 : Int) → False from by assumption) (arcE_zero.2 (hV.arcsv a (mem_of_get ha)))) | (exact (show _ = (0 : Int) → False from by assumption) (arcE_zero.2 (((hV.choicesv x (mem_of_get hx)).2 y (mem_of_get hy)).2 a (mem_of_get ha))))), rfl⟩
                        ·
                          refine t_nil ?_
                          refine x_then_normal ?_
                          refine c_cond_f rfl ?_
                          refine c_skip ?_
                          refine x_block_normal ?_
                          refine x_then_normal ?_
                          refine c_region ?_
                          refine t_st rfl (st_add rfl rfl (by omega)) ?_
                          refine t_st rfl (st_move rfl) ?_
                          refine t_nil ?_
                          exact x_again  (j + 1) (Base.Le.refl _) ⟨rfl, trivial⟩ ⟨rfl, rfl, rfl, rfl, rfl, rfl, trivial⟩ (by repeat (first | exact List.Sublist.refl _ | exact List.nil_sublist _ | exact List.sublist_append_left _ _ | exact List.sublist_append_right _ _ | exact (List.sublist_append_right _ _).trans (List.sublist_append_right _ _) | apply List.Sublist.cons_cons | apply List.Sublist.cons)) ⟨by omega, n5.snoc hy ⟨by omega, fun a ha => arcE_zero.1 (firstE_zero.1 (by omega) a ha)⟩⟩ (by omega)
                    ·
                      refine t_nil ?_
                      refine x_then_normal ?_
                      refine c_seq ?_
                      refine c_cond_f rfl ?_
                      refine c_exit ?_
                      refine x_then_exit ?_
                      refine x_then_exit ?_
                      refine x_block_out ?_
                      refine x_block_normal ?_
                      refine x_then_normal ?_
                      refine c_region ?_
                      refine t_st rfl (st_add rfl rfl (by omega)) ?_
                      refine t_st rfl (st_move rfl) ?_
                      refine t_nil ?_
                      exact x_again  (k + 1) (Base.Le.refl _) ⟨rfl, trivial⟩ ⟨rfl, rfl, rfl, trivial⟩ (by repeat (first | exact List.Sublist.refl _ | exact List.nil_sublist _ | exact List.sublist_append_left _ _ | exact List.sublist_append_right _ _ | exact (List.sublist_append_right _ _).trans (List.sublist_append_right _ _) | apply List.Sublist.cons_cons | apply List.Sublist.cons)) ⟨by omega, n4.snoc hx ⟨by omega, n5.done (by omega)⟩⟩ (by omega)
                ·
                  refine t_nil ?_
                  refine x_then_normal ?_
                  refine c_seq ?_
                  refine c_cond_f rfl ?_
                  refine c_exit ?_
                  refine x_then_exit ?_
                  refine x_then_exit ?_
                  refine x_block_out ?_
                  refine x_then_normal ?_
                  refine c_seq ?_
                  refine c_region ?_
                  refine t_st rfl (st_assign rfl) ?_
                  refine t_nil ?_
                  refine x_then_normal ?_
                  refine c_ret ?_
                  refine x_drop (hp' := []) (by repeat (first | exact List.Sublist.refl _ | exact List.nil_sublist _ | exact List.sublist_append_left _ _ | exact List.sublist_append_right _ _ | exact (List.sublist_append_right _ _).trans (List.sublist_append_right _ _) | apply List.Sublist.cons_cons | apply List.Sublist.cons)) ?_
                  exact ret1 (Base.Le.refl _) rfl rfl ⟨_, rfl, yes_of rfl ⟨by omega, by omega, by omega, by omega, by omega, n1.done (by omega), n2.done (by omega), n3.done (by omega), (fun a ha => arcE_zero.1 (firstE_zero.1 (by omega) a ha)), n4.done (by omega)⟩, rfl⟩

theorem GraphFault_c (g : Gr) (w : World) (hg : GrOk w g) : CallsH Try.prog 32 [g.val] w [] (fun v hp' => ∃ r : Int, v = .int .i64 r ∧ (r = 0 ↔ GraphV g) ∧ hp' = []) := by
  have hnr := hg.nready
  have hna := hg.narcs
  have hnc := hg.nchoices
  refine fn_enter 124 Try.func32 rfl Try.ntmps32 rfl ?_
  refine c_seq ?_
  refine c_region ?_
  refine t_do rfl (u_box _ rfl rfl) ?_
  rintro _ _ ⟨g1, rfl, rfl⟩
  refine t_st rfl (st_assign rfl) ?_
  refine t_nil ?_
  refine x_then_normal ?_
  refine c_seq ?_
  refine c_region ?_
  refine t_st rfl (st_field rfl fld26_0) ?_
  refine t_st rfl (st_load 0 rfl one22 rfl rfl) ?_
  refine t_st rfl (st_len rfl sl22) ?_
  refine t_st rfl (st_assign rfl) ?_
  refine t_nil ?_
  refine x_then_normal ?_
  refine c_seq ?_
  refine c_seq ?_
  refine c_region ?_
  refine t_st rfl (st_move rfl) ?_
  refine t_bool rfl (st_gtr rfl rfl) (fun hc2 => ?_) (fun hc2 => ?_)
  ·
    refine t_st rfl (st_move rfl) ?_
    refine t_no 20 rfl rfl rfl rfl rfl ?_
    refine t_no 20 rfl rfl rfl rfl rfl ?_
    refine t_no 20 rfl rfl rfl rfl rfl ?_
    refine t_no 20 rfl rfl rfl rfl rfl ?_
    refine t_st rfl (st_pick_t rfl rfl) ?_
    refine t_st rfl (st_move rfl) ?_
    refine t_no 26 rfl rfl rfl rfl rfl ?_
    refine t_no 26 rfl rfl rfl rfl rfl ?_
    refine t_no 26 rfl rfl rfl rfl rfl ?_
    refine t_no 26 rfl rfl rfl rfl rfl ?_
    refine t_st rfl (st_pick_t rfl rfl) ?_
    refine t_nil ?_
    refine x_then_normal ?_
    refine c_cond_t rfl ?_
    refine c_seq ?_
    refine c_region ?_
    refine t_st rfl (st_assign rfl) ?_
    refine t_nil ?_
    refine x_then_normal ?_
    refine c_ret ?_
    refine x_then_ret ?_
    refine x_drop (hp' := []) (by repeat (first | exact List.Sublist.refl _ | exact List.nil_sublist _ | exact List.sublist_append_left _ _ | exact List.sublist_append_right _ _ | exact (List.sublist_append_right _ _).trans (List.sublist_append_right _ _) | apply List.Sublist.cons_cons | apply List.Sublist.cons)) ?_
    exact ret1 (Base.Le.refl _) rfl rfl ⟨_, rfl, no_of (by first | decide | assumption) (fun hV => by first | (have h1 := hV.nr; have h2 := hV.na; have h3 := hV.nc; have h4 := hV.nl; have h5 := hV.nd; omega) | (have h1 := hV.readyv r (mem_of_get hr); have h2 := hV.lastv la (mem_of_get hla); have h3 := hV.duev du (mem_of_get hdu); omega) | (exact (show _ = (0 : Int) → False from by assumption) (firstE_zero.2 fun a ha => arcE_zero.2 (hV.arcsv a ha))) | (have h1 := (hV.choicesv x (mem_of_get hx)).1; omega) | (have h1 := ((hV.choicesv x (mem_of_get hx)).2 y (mem_of_get hy)).1; omega) | (exact (show _ = (0 : Int) → False from by assumption) (firstE_zero.2 fun a ha => arcE_zero.2 (((hV.choicesv x (mem_of_get hx)).2 y (mem_of_get hy)).2 a ha))) | (exact (show _ = (0 : Int) → False from by assumption) (arcE_zero.2 (hV.arcsv a (mem_of_get ha)))) | (exact (show _ = (0 : Int) → False from by assumption) (arcE_zero.2 (((hV.choicesv x (mem_of_get hx)).2 y (mem_of_get hy)).2 a (mem_of_get ha))))), rfl⟩
  ·
    refine t_st rfl (st_move rfl) ?_
    refine t_yes 20 rfl rfl rfl ?_
    refine t_st rfl (st_field rfl fld26_3) ?_
    refine t_yes 20 rfl rfl rfl ?_
    refine t_st rfl (st_load 0 rfl one23 rfl rfl) ?_
    refine t_yes 20 rfl rfl rfl ?_
    refine t_st rfl (st_len rfl sl23) ?_
    refine t_yes 20 rfl rfl rfl ?_
    refine t_bool rfl (st_gtr rfl rfl) (fun hc3 => ?_) (fun hc3 => ?_)
    ·
      refine t_st rfl (st_pick_f rfl rfl) ?_
      refine t_st rfl (st_move rfl) ?_
      refine t_no 26 rfl rfl rfl rfl rfl ?_
      refine t_no 26 rfl rfl rfl rfl rfl ?_
      refine t_no 26 rfl rfl rfl rfl rfl ?_
      refine t_no 26 rfl rfl rfl rfl rfl ?_
      refine t_st rfl (st_pick_t rfl rfl) ?_
      refine t_nil ?_
      refine x_then_normal ?_
      refine c_cond_t rfl ?_
      refine c_seq ?_
      refine c_region ?_
      refine t_st rfl (st_assign rfl) ?_
      refine t_nil ?_
      refine x_then_normal ?_
      refine c_ret ?_
      refine x_then_ret ?_
      refine x_drop (hp' := []) (by repeat (first | exact List.Sublist.refl _ | exact List.nil_sublist _ | exact List.sublist_append_left _ _ | exact List.sublist_append_right _ _ | exact (List.sublist_append_right _ _).trans (List.sublist_append_right _ _) | apply List.Sublist.cons_cons | apply List.Sublist.cons)) ?_
      exact ret1 (Base.Le.refl _) rfl rfl ⟨_, rfl, no_of (by first | decide | assumption) (fun hV => by first | (have h1 := hV.nr; have h2 := hV.na; have h3 := hV.nc; have h4 := hV.nl; have h5 := hV.nd; omega) | (have h1 := hV.readyv r (mem_of_get hr); have h2 := hV.lastv la (mem_of_get hla); have h3 := hV.duev du (mem_of_get hdu); omega) | (exact (show _ = (0 : Int) → False from by assumption) (firstE_zero.2 fun a ha => arcE_zero.2 (hV.arcsv a ha))) | (have h1 := (hV.choicesv x (mem_of_get hx)).1; omega) | (have h1 := ((hV.choicesv x (mem_of_get hx)).2 y (mem_of_get hy)).1; omega) | (exact (show _ = (0 : Int) → False from by assumption) (firstE_zero.2 fun a ha => arcE_zero.2 (((hV.choicesv x (mem_of_get hx)).2 y (mem_of_get hy)).2 a ha))) | (exact (show _ = (0 : Int) → False from by assumption) (arcE_zero.2 (hV.arcsv a (mem_of_get ha)))) | (exact (show _ = (0 : Int) → False from by assumption) (arcE_zero.2 (((hV.choicesv x (mem_of_get hx)).2 y (mem_of_get hy)).2 a (mem_of_get ha))))), rfl⟩
    ·
      refine t_st rfl (st_pick_f rfl rfl) ?_
      refine t_st rfl (st_move rfl) ?_
      refine t_yes 26 rfl rfl rfl ?_
      refine t_st rfl (st_field rfl fld26_4) ?_
      refine t_yes 26 rfl rfl rfl ?_
      refine t_st rfl (st_load 0 rfl one24 rfl rfl) ?_
      refine t_yes 26 rfl rfl rfl ?_
      refine t_st rfl (st_len rfl sl24) ?_
      refine t_yes 26 rfl rfl rfl ?_
      refine t_bool rfl (st_gtr rfl rfl) (fun hc4 => ?_) (fun hc4 => ?_)
      ·
        refine t_st rfl (st_pick_f rfl rfl) ?_
        refine t_nil ?_
        refine x_then_normal ?_
        refine c_cond_t rfl ?_
        refine c_seq ?_
        refine c_region ?_
        refine t_st rfl (st_assign rfl) ?_
        refine t_nil ?_
        refine x_then_normal ?_
        refine c_ret ?_
        refine x_then_ret ?_
        refine x_drop (hp' := []) (by repeat (first | exact List.Sublist.refl _ | exact List.nil_sublist _ | exact List.sublist_append_left _ _ | exact List.sublist_append_right _ _ | exact (List.sublist_append_right _ _).trans (List.sublist_append_right _ _) | apply List.Sublist.cons_cons | apply List.Sublist.cons)) ?_
        exact ret1 (Base.Le.refl _) rfl rfl ⟨_, rfl, no_of (by first | decide | assumption) (fun hV => by first | (have h1 := hV.nr; have h2 := hV.na; have h3 := hV.nc; have h4 := hV.nl; have h5 := hV.nd; omega) | (have h1 := hV.readyv r (mem_of_get hr); have h2 := hV.lastv la (mem_of_get hla); have h3 := hV.duev du (mem_of_get hdu); omega) | (exact (show _ = (0 : Int) → False from by assumption) (firstE_zero.2 fun a ha => arcE_zero.2 (hV.arcsv a ha))) | (have h1 := (hV.choicesv x (mem_of_get hx)).1; omega) | (have h1 := ((hV.choicesv x (mem_of_get hx)).2 y (mem_of_get hy)).1; omega) | (exact (show _ = (0 : Int) → False from by assumption) (firstE_zero.2 fun a ha => arcE_zero.2 (((hV.choicesv x (mem_of_get hx)).2 y (mem_of_get hy)).2 a ha))) | (exact (show _ = (0 : Int) → False from by assumption) (arcE_zero.2 (hV.arcsv a (mem_of_get ha)))) | (exact (show _ = (0 : Int) → False from by assumption) (arcE_zero.2 (((hV.choicesv x (mem_of_get hx)).2 y (mem_of_get hy)).2 a (mem_of_get ha))))), rfl⟩
      ·
        refine t_st rfl (st_pick_f rfl rfl) ?_
        refine t_nil ?_
        refine x_then_normal ?_
        refine c_cond_f rfl ?_
        refine c_skip ?_
        refine x_then_normal ?_
        refine c_seq ?_
        refine c_seq ?_
        refine c_region ?_
        refine t_st rfl (st_field rfl fld26_1) ?_
        refine t_st rfl (st_load 0 rfl one22 rfl rfl) ?_
        refine t_st rfl (st_len rfl sl22) ?_
        refine t_st rfl (st_move rfl) ?_
        refine t_bool rfl (st_neq rfl rfl) (fun hc5 => ?_) (fun hc5 => ?_)
        ·
          refine t_st rfl (st_move rfl) ?_
          refine t_no 37 rfl rfl rfl rfl rfl ?_
          refine t_no 37 rfl rfl rfl rfl rfl ?_
          refine t_no 37 rfl rfl rfl rfl rfl ?_
          refine t_no 37 rfl rfl rfl rfl rfl ?_
          refine t_no 37 rfl rfl rfl rfl rfl ?_
          refine t_st rfl (st_pick_t rfl rfl) ?_
          refine t_nil ?_
          refine x_then_normal ?_
          refine c_cond_t rfl ?_
          refine c_seq ?_
          refine c_region ?_
          refine t_st rfl (st_assign rfl) ?_
          refine t_nil ?_
          refine x_then_normal ?_
          refine c_ret ?_
          refine x_then_ret ?_
          refine x_drop (hp' := []) (by repeat (first | exact List.Sublist.refl _ | exact List.nil_sublist _ | exact List.sublist_append_left _ _ | exact List.sublist_append_right _ _ | exact (List.sublist_append_right _ _).trans (List.sublist_append_right _ _) | apply List.Sublist.cons_cons | apply List.Sublist.cons)) ?_
          exact ret1 (Base.Le.refl _) rfl rfl ⟨_, rfl, no_of (by first | decide | assumption) (fun hV => by first | (have h1 := hV.nr; have h2 := hV.na; have h3 := hV.nc; have h4 := hV.nl; have h5 := hV.nd; omega) | (have h1 := hV.readyv r (mem_of_get hr); have h2 := hV.lastv la (mem_of_get hla); have h3 := hV.duev du (mem_of_get hdu); omega) | (exact (show _ = (0 : Int) → False from by assumption) (firstE_zero.2 fun a ha => arcE_zero.2 (hV.arcsv a ha))) | (have h1 := (hV.choicesv x (mem_of_get hx)).1; omega) | (have h1 := ((hV.choicesv x (mem_of_get hx)).2 y (mem_of_get hy)).1; omega) | (exact (show _ = (0 : Int) → False from by assumption) (firstE_zero.2 fun a ha => arcE_zero.2 (((hV.choicesv x (mem_of_get hx)).2 y (mem_of_get hy)).2 a ha))) | (exact (show _ = (0 : Int) → False from by assumption) (arcE_zero.2 (hV.arcsv a (mem_of_get ha)))) | (exact (show _ = (0 : Int) → False from by assumption) (arcE_zero.2 (((hV.choicesv x (mem_of_get hx)).2 y (mem_of_get hy)).2 a (mem_of_get ha))))), rfl⟩
        ·
          refine t_st rfl (st_move rfl) ?_
          refine t_yes 37 rfl rfl rfl ?_
          refine t_st rfl (st_field rfl fld26_2) ?_
          refine t_yes 37 rfl rfl rfl ?_
          refine t_st rfl (st_load 0 rfl one22 rfl rfl) ?_
          refine t_yes 37 rfl rfl rfl ?_
          refine t_st rfl (st_len rfl sl22) ?_
          refine t_yes 37 rfl rfl rfl ?_
          refine t_st rfl (st_move rfl) ?_
          refine t_yes 37 rfl rfl rfl ?_
          refine t_bool rfl (st_neq rfl rfl) (fun hc6 => ?_) (fun hc6 => ?_)
          ·
            refine t_st rfl (st_pick_f rfl rfl) ?_
            refine t_nil ?_
            refine x_then_normal ?_
            refine c_cond_t rfl ?_
            refine c_seq ?_
            refine c_region ?_
            refine t_st rfl (st_assign rfl) ?_
            refine t_nil ?_
            refine x_then_normal ?_
            refine c_ret ?_
            refine x_then_ret ?_
            refine x_drop (hp' := []) (by repeat (first | exact List.Sublist.refl _ | exact List.nil_sublist _ | exact List.sublist_append_left _ _ | exact List.sublist_append_right _ _ | exact (List.sublist_append_right _ _).trans (List.sublist_append_right _ _) | apply List.Sublist.cons_cons | apply List.Sublist.cons)) ?_
            exact ret1 (Base.Le.refl _) rfl rfl ⟨_, rfl, no_of (by first | decide | assumption) (fun hV => by first | (have h1 := hV.nr; have h2 := hV.na; have h3 := hV.nc; have h4 := hV.nl; have h5 := hV.nd; omega) | (have h1 := hV.readyv r (mem_of_get hr); have h2 := hV.lastv la (mem_of_get hla); have h3 := hV.duev du (mem_of_get hdu); omega) | (exact (show _ = (0 : Int) → False from by assumption) (firstE_zero.2 fun a ha => arcE_zero.2 (hV.arcsv a ha))) | (have h1 := (hV.choicesv x (mem_of_get hx)).1; omega) | (have h1 := ((hV.choicesv x (mem_of_get hx)).2 y (mem_of_get hy)).1; omega) | (exact (show _ = (0 : Int) → False from by assumption) (firstE_zero.2 fun a ha => arcE_zero.2 (((hV.choicesv x (mem_of_get hx)).2 y (mem_of_get hy)).2 a ha))) | (exact (show _ = (0 : Int) → False from by assumption) (arcE_zero.2 (hV.arcsv a (mem_of_get ha)))) | (exact (show _ = (0 : Int) → False from by assumption) (arcE_zero.2 (((hV.choicesv x (mem_of_get hx)).2 y (mem_of_get hy)).2 a (mem_of_get ha))))), rfl⟩
          ·
            refine t_st rfl (st_pick_f rfl rfl) ?_
            refine t_nil ?_
            refine x_then_normal ?_
            refine c_cond_f rfl ?_
            refine c_skip ?_
            refine x_then_normal ?_
            refine c_seq ?_
            refine c_seq ?_
            refine c_region ?_
            refine t_st rfl (st_move rfl) ?_
            refine t_st rfl (st_move rfl) ?_
            refine t_nil ?_
            refine x_then_normal ?_
            refine c_block ?_
            refine l_loop [(1, _), (3, _), (44, _)] _ (fun (k : Nat) => [(45, .int .i64 (k : Int))]) (fun (k : Nat) => []) (fun (k : Nat) => k ≤ g.ready.l.length ∧ All (fun x => 0 ≤ x ∧ x ≤ 28800) g.ready.l k ∧ All (fun x => -1 ≤ x ∧ x ≤ 28800) g.last.l k ∧ All (fun x => -1 ≤ x ∧ x ≤ 28800) g.due.l k) (fun (k : Nat) => g.ready.l.length - k) (0) ⟨rfl, trivial⟩ ⟨rfl, rfl, rfl, trivial⟩ rfl ⟨by omega, All.zero, All.zero, All.zero⟩ ?_
            intro k hinv
            obtain ⟨hk, n1, n2, n3⟩ := hinv
            refine c_seq ?_
            refine c_region ?_
            refine t_bool rfl (st_lss rfl rfl) (fun hc7 => ?_) (fun hc7 => ?_)
            ·
              refine t_nil ?_
              refine x_then_normal ?_
              refine c_seq ?_
              refine c_cond_t rfl ?_
              refine c_skip ?_
              refine x_then_normal ?_
              refine c_seq ?_
              refine c_block ?_
              refine c_seq ?_
              refine c_region ?_
              refine t_st rfl (st_move rfl) ?_
              refine t_st rfl (st_assign rfl) ?_
              refine t_nil ?_
              refine x_then_normal ?_
              refine c_seq ?_
              refine c_region ?_
              refine t_st rfl (st_field rfl fld26_0) ?_
              refine t_st rfl (st_load 0 rfl one22 rfl rfl) ?_
              refine t_st rfl (st_move rfl) ?_
              obtain ⟨r, hr⟩ := ex_get (l := g.ready.l) (k := k) (by omega)
              obtain ⟨la, hla⟩ := ex_get (l := g.last.l) (k := k) (by omega)
              obtain ⟨du, hdu⟩ := ex_get (l := g.due.l) (k := k) (by omega)
              refine t_st rfl (st_index_old k rfl rfl rfl (by omega) (Rd.isSome encI_len (by decide) hg.ready hr) sl22) ?_
              refine t_st rfl (st_load_old rfl one3 (Rd.row encI_len hg.ready hr (j := 0) rfl)) ?_
              refine t_doB rfl (u_call _ call48 rfl (rwithin_c _ _ _ _ _)) (fun hc8 => ?_) (fun hc8 => ?_)
              ·
                refine t_st rfl (st_not_t rfl) ?_
                refine t_st rfl (st_move rfl) ?_
                refine t_yes 55 rfl rfl rfl ?_
                refine t_st rfl (st_field rfl fld26_1) ?_
                refine t_yes 55 rfl rfl rfl ?_
                refine t_st rfl (st_load 0 rfl one22 rfl rfl) ?_
                refine t_yes 55 rfl rfl rfl ?_
                refine t_st rfl (st_move rfl) ?_
                refine t_yes 55 rfl rfl rfl ?_
                refine t_st rfl (st_index_old k rfl rfl rfl (by have := lt_of_get hla; omega) (Rd.isSome encI_len (by decide) hg.last hla) sl22) ?_
                refine t_yes 55 rfl rfl rfl ?_
                refine t_st rfl (st_load_old rfl one3 (Rd.row encI_len hg.last hla (j := 0) rfl)) ?_
                refine t_yes 55 rfl rfl rfl ?_
                refine t_doB rfl (u_call _ call48 rfl (rwithin_c _ _ _ _ _)) (fun hc9 => ?_) (fun hc9 => ?_)
                ·
                  refine t_yes 55 rfl rfl rfl ?_
                  refine t_st rfl (st_not_t rfl) ?_
                  refine t_st rfl (st_pick_f rfl rfl) ?_
                  refine t_st rfl (st_move rfl) ?_
                  refine t_yes 64 rfl rfl rfl ?_
                  refine t_st rfl (st_field rfl fld26_2) ?_
                  refine t_yes 64 rfl rfl rfl ?_
                  refine t_st rfl (st_load 0 rfl one22 rfl rfl) ?_
                  refine t_yes 64 rfl rfl rfl ?_
                  refine t_st rfl (st_move rfl) ?_
                  refine t_yes 64 rfl rfl rfl ?_
                  refine t_st rfl (st_index_old k rfl rfl rfl (by have := lt_of_get hdu; omega) (Rd.isSome encI_len (by decide) hg.due hdu) sl22) ?_
                  refine t_yes 64 rfl rfl rfl ?_
                  refine t_st rfl (st_load_old rfl one3 (Rd.row encI_len hg.due hdu (j := 0) rfl)) ?_
                  refine t_yes 64 rfl rfl rfl ?_
                  refine t_doB rfl (u_call _ call48 rfl (rwithin_c _ _ _ _ _)) (fun hc10 => ?_) (fun hc10 => ?_)
                  ·
                    refine t_yes 64 rfl rfl rfl ?_
                    refine t_st rfl (st_not_t rfl) ?_
                    refine t_st rfl (st_pick_f rfl rfl) ?_
                    refine t_nil ?_
                    refine x_then_normal ?_
                    refine c_cond_f rfl ?_
                    refine c_skip ?_
                    refine x_block_normal ?_
                    refine x_then_normal ?_
                    refine c_region ?_
                    refine t_st rfl (st_add rfl rfl (by omega)) ?_
                    refine t_st rfl (st_move rfl) ?_
                    refine t_nil ?_
                    exact x_again  (k + 1) (Base.Le.refl _) ⟨rfl, trivial⟩ ⟨rfl, rfl, rfl, trivial⟩ (by repeat (first | exact List.Sublist.refl _ | exact List.nil_sublist _ | exact List.sublist_append_left _ _ | exact List.sublist_append_right _ _ | exact (List.sublist_append_right _ _).trans (List.sublist_append_right _ _) | apply List.Sublist.cons_cons | apply List.Sublist.cons)) ⟨by omega, n1.snoc hr (by omega), n2.snoc hla (by omega), n3.snoc hdu (by omega)⟩ (by omega)
                  ·
                    refine t_yes 64 rfl rfl rfl ?_
                    refine t_st rfl (st_not_f rfl) ?_
                    refine t_st rfl (st_pick_f rfl rfl) ?_
                    refine t_nil ?_
                    refine x_then_normal ?_
                    refine c_cond_t rfl ?_
                    refine c_seq ?_
                    refine c_region ?_
                    refine t_st rfl (st_assign rfl) ?_
                    refine t_nil ?_
                    refine x_then_normal ?_
                    refine c_ret ?_
                    refine x_block_ret ?_
                    refine x_then_ret ?_
                    refine x_then_ret ?_
                    refine x_block_ret ?_
                    refine x_then_ret ?_
                    refine x_drop (hp' := []) (by repeat (first | exact List.Sublist.refl _ | exact List.nil_sublist _ | exact List.sublist_append_left _ _ | exact List.sublist_append_right _ _ | exact (List.sublist_append_right _ _).trans (List.sublist_append_right _ _) | apply List.Sublist.cons_cons | apply List.Sublist.cons)) ?_
                    exact ret1 (Base.Le.refl _) rfl rfl ⟨_, rfl, no_of (by first | decide | assumption) (fun hV => by first | (have h1 := hV.nr; have h2 := hV.na; have h3 := hV.nc; have h4 := hV.nl; have h5 := hV.nd; omega) | (have h1 := hV.readyv r (mem_of_get hr); have h2 := hV.lastv la (mem_of_get hla); have h3 := hV.duev du (mem_of_get hdu); omega) | (exact (show _ = (0 : Int) → False from by assumption) (firstE_zero.2 fun a ha => arcE_zero.2 (hV.arcsv a ha))) | (have h1 := (hV.choicesv x (mem_of_get hx)).1; omega) | (have h1 := ((hV.choicesv x (mem_of_get hx)).2 y (mem_of_get hy)).1; omega) | (exact (show _ = (0 : Int) → False from by assumption) (firstE_zero.2 fun a ha => arcE_zero.2 (((hV.choicesv x (mem_of_get hx)).2 y (mem_of_get hy)).2 a ha))) | (exact (show _ = (0 : Int) → False from by assumption) (arcE_zero.2 (hV.arcsv a (mem_of_get ha)))) | (exact (show _ = (0 : Int) → False from by assumption) (arcE_zero.2 (((hV.choicesv x (mem_of_get hx)).2 y (mem_of_get hy)).2 a (mem_of_get ha))))), rfl⟩
                ·
                  refine t_yes 55 rfl rfl rfl ?_
                  refine t_st rfl (st_not_f rfl) ?_
                  refine t_st rfl (st_pick_f rfl rfl) ?_
                  refine t_st rfl (st_move rfl) ?_
                  refine t_no 64 rfl rfl rfl rfl rfl ?_
                  refine t_no 64 rfl rfl rfl rfl rfl ?_
                  refine t_no 64 rfl rfl rfl rfl rfl ?_
                  refine t_no 64 rfl rfl rfl rfl rfl ?_
                  refine t_no 64 rfl rfl rfl rfl rfl ?_
                  refine t_no 64 rfl rfl rfl rfl rfl ?_
                  refine t_no 64 rfl rfl rfl rfl rfl ?_
                  refine t_st rfl (st_pick_t rfl rfl) ?_
                  refine t_nil ?_
                  refine x_then_normal ?_
                  refine c_cond_t rfl ?_
                  refine c_seq ?_
                  refine c_region ?_
                  refine t_st rfl (st_assign rfl) ?_
                  refine t_nil ?_
                  refine x_then_normal ?_
                  refine c_ret ?_
                  refine x_block_ret ?_
                  refine x_then_ret ?_
                  refine x_then_ret ?_
                  refine x_block_ret ?_
                  refine x_then_ret ?_
                  refine x_drop (hp' := []) (by repeat (first | exact List.Sublist.refl _ | exact List.nil_sublist _ | exact List.sublist_append_left _ _ | exact List.sublist_append_right _ _ | exact (List.sublist_append_right _ _).trans (List.sublist_append_right _ _) | apply List.Sublist.cons_cons | apply List.Sublist.cons)) ?_
                  exact ret1 (Base.Le.refl _) rfl rfl ⟨_, rfl, no_of (by first | decide | assumption) (fun hV => by first | (have h1 := hV.nr; have h2 := hV.na; have h3 := hV.nc; have h4 := hV.nl; have h5 := hV.nd; omega) | (have h1 := hV.readyv r (mem_of_get hr); have h2 := hV.lastv la (mem_of_get hla); have h3 := hV.duev du (mem_of_get hdu); omega) | (exact (show _ = (0 : Int) → False from by assumption) (firstE_zero.2 fun a ha => arcE_zero.2 (hV.arcsv a ha))) | (have h1 := (hV.choicesv x (mem_of_get hx)).1; omega) | (have h1 := ((hV.choicesv x (mem_of_get hx)).2 y (mem_of_get hy)).1; omega) | (exact (show _ = (0 : Int) → False from by assumption) (firstE_zero.2 fun a ha => arcE_zero.2 (((hV.choicesv x (mem_of_get hx)).2 y (mem_of_get hy)).2 a ha))) | (exact (show _ = (0 : Int) → False from by assumption) (arcE_zero.2 (hV.arcsv a (mem_of_get ha)))) | (exact (show _ = (0 : Int) → False from by assumption) (arcE_zero.2 (((hV.choicesv x (mem_of_get hx)).2 y (mem_of_get hy)).2 a (mem_of_get ha))))), rfl⟩
              ·
                refine t_st rfl (st_not_f rfl) ?_
                refine t_st rfl (st_move rfl) ?_
                refine t_no 55 rfl rfl rfl rfl rfl ?_
                refine t_no 55 rfl rfl rfl rfl rfl ?_
                refine t_no 55 rfl rfl rfl rfl rfl ?_
                refine t_no 55 rfl rfl rfl rfl rfl ?_
                refine t_no 55 rfl rfl rfl rfl rfl ?_
                refine t_no 55 rfl rfl rfl rfl rfl ?_
                refine t_no 55 rfl rfl rfl rfl rfl ?_
                refine t_st rfl (st_pick_t rfl rfl) ?_
                refine t_st rfl (st_move rfl) ?_
                refine t_no 64 rfl rfl rfl rfl rfl ?_
                refine t_no 64 rfl rfl rfl rfl rfl ?_
                refine t_no 64 rfl rfl rfl rfl rfl ?_
                refine t_no 64 rfl rfl rfl rfl rfl ?_
                refine t_no 64 rfl rfl rfl rfl rfl ?_
                refine t_no 64 rfl rfl rfl rfl rfl ?_
                refine t_no 64 rfl rfl rfl rfl rfl ?_
                refine t_st rfl (st_pick_t rfl rfl) ?_
                refine t_nil ?_
                refine x_then_normal ?_
                refine c_cond_t rfl ?_
                refine c_seq ?_
                refine c_region ?_
                refine t_st rfl (st_assign rfl) ?_
                refine t_nil ?_
                refine x_then_normal ?_
                refine c_ret ?_
                refine x_block_ret ?_
                refine x_then_ret ?_
                refine x_then_ret ?_
                refine x_block_ret ?_
                refine x_then_ret ?_
                refine x_drop (hp' := []) (by repeat (first | exact List.Sublist.refl _ | exact List.nil_sublist _ | exact List.sublist_append_left _ _ | exact List.sublist_append_right _ _ | exact (List.sublist_append_right _ _).trans (List.sublist_append_right _ _) | apply List.Sublist.cons_cons | apply List.Sublist.cons)) ?_
                exact ret1 (Base.Le.refl _) rfl rfl ⟨_, rfl, no_of (by first | decide | assumption) (fun hV => by first | (have h1 := hV.nr; have h2 := hV.na; have h3 := hV.nc; have h4 := hV.nl; have h5 := hV.nd; omega) | (have h1 := hV.readyv r (mem_of_get hr); have h2 := hV.lastv la (mem_of_get hla); have h3 := hV.duev du (mem_of_get hdu); omega) | (exact (show _ = (0 : Int) → False from by assumption) (firstE_zero.2 fun a ha => arcE_zero.2 (hV.arcsv a ha))) | (have h1 := (hV.choicesv x (mem_of_get hx)).1; omega) | (have h1 := ((hV.choicesv x (mem_of_get hx)).2 y (mem_of_get hy)).1; omega) | (exact (show _ = (0 : Int) → False from by assumption) (firstE_zero.2 fun a ha => arcE_zero.2 (((hV.choicesv x (mem_of_get hx)).2 y (mem_of_get hy)).2 a ha))) | (exact (show _ = (0 : Int) → False from by assumption) (arcE_zero.2 (hV.arcsv a (mem_of_get ha)))) | (exact (show _ = (0 : Int) → False from by assumption) (arcE_zero.2 (((hV.choicesv x (mem_of_get hx)).2 y (mem_of_get hy)).2 a (mem_of_get ha))))), rfl⟩
            ·
              refine t_nil ?_
              refine x_then_normal ?_
              refine c_seq ?_
              refine c_cond_f rfl ?_
              refine c_exit ?_
              refine x_then_exit ?_
              refine x_then_exit ?_
              refine x_block_out ?_
              refine x_then_normal ?_
              refine c_seq ?_
              refine c_seq ?_
              refine c_region ?_
              refine t_st rfl (st_field rfl fld26_3) ?_
              refine t_st rfl (st_load 0 rfl one23 rfl rfl) ?_
              refine t_st rfl (st_len rfl sl23) ?_
              refine t_st rfl (st_move rfl) ?_
              refine t_nil ?_
              refine x_then_normal ?_
              refine c_block ?_
              refine l_loop [(1, _), (3, _), (75, _), (76, _)] _ (fun (k : Nat) => [(77, .int .i64 (k : Int))]) (fun (k : Nat) => []) (fun (k : Nat) => k ≤ g.arcs.l.length ∧ All (ArcV g.ready.l.length) g.arcs.l k) (fun (k : Nat) => g.arcs.l.length - k) (0) ⟨rfl, trivial⟩ ⟨rfl, rfl, rfl, rfl, trivial⟩ rfl ⟨by omega, All.zero⟩ ?_
              intro k hinv
              obtain ⟨hk2, n6⟩ := hinv
              refine c_seq ?_
              refine c_region ?_
              refine t_bool rfl (st_lss rfl rfl) (fun hc11 => ?_) (fun hc11 => ?_)
              ·
                refine t_nil ?_
                refine x_then_normal ?_
                refine c_seq ?_
                refine c_cond_t rfl ?_
                refine c_skip ?_
                refine x_then_normal ?_
                refine c_seq ?_
                refine c_block ?_
                refine c_seq ?_
                refine c_region ?_
                obtain ⟨a, ha⟩ := ex_get (l := g.arcs.l) (k := k) (by omega)
                refine t_st rfl (st_index_old k rfl rfl rfl (by omega) (Rd.isSome encA_len (by decide) hg.arcs ha) sl23) ?_
                refine t_st rfl (st_loadN_old (vs := encA _) 3 rfl agg34 (Rd.isSome encA_len (by decide) hg.arcs ha) rfl (fun _ _ h => Rd.row encA_len hg.arcs ha h)) ?_
                refine t_do rfl (u_alloc [.int .i64 0, .int .i64 0, .int .i64 0] zero34 rfl) ?_
                rintro _ _ ⟨g12, rfl, rfl⟩
                refine t_do rfl (u_storeN (vs := [_, _, _]) 0 3 rfl rfl rfl siz34 rfl (by intro u hu; simp only [List.mem_cons, List.not_mem_nil, or_false] at hu; rcases hu with rfl | rfl | rfl <;> rfl) rfl (by simp)) ?_
                rintro _ _ rfl
                refine t_nil ?_
                refine x_then_normal ?_
                refine c_seq ?_
                refine c_region ?_
                refine t_st rfl (st_loadD (vs := [_, _, _]) 0 3 rfl agg34 rfl rfl rfl) ?_
                refine t_st rfl (st_move rfl) ?_
                refine t_do rfl (u_call _ call58 rfl (arcFault_c a _ _ _)) ?_
                rintro _ _ ⟨rfl, rfl⟩
                refine t_st rfl (st_assign rfl) ?_
                refine t_nil ?_
                refine x_then_normal ?_
                refine c_seq ?_
                refine c_region ?_
                refine t_st rfl (st_move rfl) ?_
                refine t_bool rfl (st_neq rfl rfl) (fun hc13 => ?_) (fun hc13 => ?_)
                ·
                  refine t_nil ?_
                  refine x_then_normal ?_
                  refine c_cond_t rfl ?_
                  refine c_seq ?_
                  refine c_region ?_
                  refine t_st rfl (st_move rfl) ?_
                  refine t_st rfl (st_assign rfl) ?_
                  refine t_nil ?_
                  refine x_then_normal ?_
                  refine c_ret ?_
                  refine x_block_ret ?_
                  refine x_then_ret ?_
                  refine x_then_ret ?_
                  refine x_block_ret ?_
                  refine x_then_ret ?_
                  refine x_drop (hp' := []) (by repeat (first | exact List.Sublist.refl _ | exact List.nil_sublist _ | exact List.sublist_append_left _ _ | exact List.sublist_append_right _ _ | exact (List.sublist_append_right _ _).trans (List.sublist_append_right _ _) | apply List.Sublist.cons_cons | apply List.Sublist.cons)) ?_
                  exact ret1 (Base.Le.refl _) rfl rfl ⟨_, rfl, no_of (by first | decide | assumption) (fun hV => by first | (have h1 := hV.nr; have h2 := hV.na; have h3 := hV.nc; have h4 := hV.nl; have h5 := hV.nd; omega) | (have h1 := hV.readyv r (mem_of_get hr); have h2 := hV.lastv la (mem_of_get hla); have h3 := hV.duev du (mem_of_get hdu); omega) | (exact (show _ = (0 : Int) → False from by assumption) (firstE_zero.2 fun a ha => arcE_zero.2 (hV.arcsv a ha))) | (have h1 := (hV.choicesv x (mem_of_get hx)).1; omega) | (have h1 := ((hV.choicesv x (mem_of_get hx)).2 y (mem_of_get hy)).1; omega) | (exact (show _ = (0 : Int) → False from by assumption) (firstE_zero.2 fun a ha => arcE_zero.2 (((hV.choicesv x (mem_of_get hx)).2 y (mem_of_get hy)).2 a ha))) | (exact (show _ = (0 : Int) → False from by assumption) (arcE_zero.2 (hV.arcsv a (mem_of_get ha)))) | (exact (show _ = (0 : Int) → False from by assumption) (arcE_zero.2 (((hV.choicesv x (mem_of_get hx)).2 y (mem_of_get hy)).2 a (mem_of_get ha))))), rfl⟩
                ·
                  refine t_nil ?_
                  refine x_then_normal ?_
                  refine c_cond_f rfl ?_
                  refine c_skip ?_
                  refine x_block_normal ?_
                  refine x_then_normal ?_
                  refine c_region ?_
                  refine t_st rfl (st_add rfl rfl (by omega)) ?_
                  refine t_st rfl (st_move rfl) ?_
                  refine t_nil ?_
                  exact x_again  (k + 1) (Base.Le.refl _) ⟨rfl, trivial⟩ ⟨rfl, rfl, rfl, rfl, trivial⟩ (by repeat (first | exact List.Sublist.refl _ | exact List.nil_sublist _ | exact List.sublist_append_left _ _ | exact List.sublist_append_right _ _ | exact (List.sublist_append_right _ _).trans (List.sublist_append_right _ _) | apply List.Sublist.cons_cons | apply List.Sublist.cons)) ⟨by omega, n6.snoc ha (arcE_zero.1 (by omega))⟩ (by omega)
              ·
                refine t_nil ?_
                refine x_then_normal ?_
                refine c_seq ?_
                refine c_cond_f rfl ?_
                refine c_exit ?_
                refine x_then_exit ?_
                refine x_then_exit ?_
                refine x_block_out ?_
                refine x_then_normal ?_
                refine c_seq ?_
                refine c_seq ?_
                refine c_region ?_
                refine t_st rfl (st_field rfl fld26_4) ?_
                refine t_st rfl (st_load 0 rfl one24 rfl rfl) ?_
                refine t_st rfl (st_len rfl sl24) ?_
                refine t_st rfl (st_move rfl) ?_
                refine t_nil ?_
                refine x_then_normal ?_
                refine c_block ?_
                refine l_loop [(3, _), (89, _), (90, _)] _ (fun (k : Nat) => [(91, .int .i64 (k : Int))]) (fun (k : Nat) => []) (fun (k : Nat) => k ≤ g.choices.l.length ∧ All (ChoiceV g.ready.l.length) g.choices.l k) (fun (k : Nat) => g.choices.l.length - k) (0) ⟨rfl, trivial⟩ ⟨rfl, rfl, rfl, trivial⟩ rfl ⟨by omega, All.zero⟩ ?_
                intro k hinv
                obtain ⟨hk3, n4⟩ := hinv
                refine c_seq ?_
                refine c_region ?_
                refine t_bool rfl (st_lss rfl rfl) (fun hc14 => ?_) (fun hc14 => ?_)
                ·
                  refine t_nil ?_
                  refine x_then_normal ?_
                  refine c_seq ?_
                  refine c_cond_t rfl ?_
                  refine c_skip ?_
                  refine x_then_normal ?_
                  refine c_seq ?_
                  refine c_block ?_
                  refine c_seq ?_
                  refine c_region ?_
                  obtain ⟨x, hx⟩ := ex_get (l := g.choices.l) (k := k) (by omega)
                  refine t_st rfl (st_index_old k rfl rfl rfl (by omega) (Rd.isSome encS_len (by decide) hg.choices hx) sl24) ?_
                  refine t_st rfl (st_loadN_old (vs := encS _) 1 rfl agg37 (Rd.isSome encS_len (by decide) hg.choices hx) rfl (fun _ _ h => Rd.row encS_len hg.choices hx h)) ?_
                  refine t_do rfl (u_alloc [.slice none 0 0] zero37 rfl) ?_
                  rintro _ _ ⟨g15, rfl, rfl⟩
                  refine t_do rfl (u_storeN (vs := [_]) 0 1 rfl rfl rfl siz37 rfl (by intro u hu; simp only [List.mem_cons, List.not_mem_nil, or_false] at hu; rcases hu with rfl <;> rfl) rfl (by simp)) ?_
                  rintro _ _ rfl
                  refine t_nil ?_
                  refine x_then_normal ?_
                  refine c_seq ?_
                  refine c_seq ?_
                  refine c_region ?_
                  refine t_st rfl (st_field rfl fld37_0) ?_
                  refine t_st rfl (st_load 0 rfl one35 rfl rfl) ?_
                  refine t_st rfl (st_len rfl sl35) ?_
                  refine t_bool rfl (st_gtr rfl rfl) (fun hc16 => ?_) (fun hc16 => ?_)
                  ·
                    refine t_nil ?_
                    refine x_then_normal ?_
                    refine c_cond_t rfl ?_
                    refine c_seq ?_
                    refine c_region ?_
                    refine t_st rfl (st_assign rfl) ?_
                    refine t_nil ?_
                    refine x_then_normal ?_
                    refine c_ret ?_
                    refine x_then_ret ?_
                    refine x_block_ret ?_
                    refine x_then_ret ?_
                    refine x_then_ret ?_
                    refine x_block_ret ?_
                    refine x_then_ret ?_
                    refine x_drop (hp' := []) (by repeat (first | exact List.Sublist.refl _ | exact List.nil_sublist _ | exact List.sublist_append_left _ _ | exact List.sublist_append_right _ _ | exact (List.sublist_append_right _ _).trans (List.sublist_append_right _ _) | apply List.Sublist.cons_cons | apply List.Sublist.cons)) ?_
                    exact ret1 (Base.Le.refl _) rfl rfl ⟨_, rfl, no_of (by first | decide | assumption) (fun hV => by first | (have h1 := hV.nr; have h2 := hV.na; have h3 := hV.nc; have h4 := hV.nl; have h5 := hV.nd; omega) | (have h1 := hV.readyv r (mem_of_get hr); have h2 := hV.lastv la (mem_of_get hla); have h3 := hV.duev du (mem_of_get hdu); omega) | (exact (show _ = (0 : Int) → False from by assumption) (firstE_zero.2 fun a ha => arcE_zero.2 (hV.arcsv a ha))) | (have h1 := (hV.choicesv x (mem_of_get hx)).1; omega) | (have h1 := ((hV.choicesv x (mem_of_get hx)).2 y (mem_of_get hy)).1; omega) | (exact (show _ = (0 : Int) → False from by assumption) (firstE_zero.2 fun a ha => arcE_zero.2 (((hV.choicesv x (mem_of_get hx)).2 y (mem_of_get hy)).2 a ha))) | (exact (show _ = (0 : Int) → False from by assumption) (arcE_zero.2 (hV.arcsv a (mem_of_get ha)))) | (exact (show _ = (0 : Int) → False from by assumption) (arcE_zero.2 (((hV.choicesv x (mem_of_get hx)).2 y (mem_of_get hy)).2 a (mem_of_get ha))))), rfl⟩
                  ·
                    refine t_nil ?_
                    refine x_then_normal ?_
                    refine c_cond_f rfl ?_
                    refine c_skip ?_
                    refine x_then_normal ?_
                    refine c_seq ?_
                    refine c_region ?_
                    refine t_st rfl (st_field rfl fld37_0) ?_
                    refine t_st rfl (st_load 0 rfl one35 rfl rfl) ?_
                    refine t_st rfl (st_len rfl sl35) ?_
                    refine t_st rfl (st_move rfl) ?_
                    refine t_nil ?_
                    refine x_then_normal ?_
                    refine c_block ?_
                    refine l_loop [(3, _), (89, _), (90, _), (91, _), (100, _), (101, _)] _ (fun (j : Nat) => [(102, .int .i64 (j : Int))]) (fun (j : Nat) => []) (fun (j : Nat) => j ≤ x.l.length ∧ All (WayV g.ready.l.length) x.l j) (fun (j : Nat) => x.l.length - j) (0) ⟨rfl, trivial⟩ ⟨rfl, rfl, rfl, rfl, rfl, rfl, trivial⟩ rfl ⟨by omega, All.zero⟩ ?_
                    intro j hinv
                    obtain ⟨hj, n5⟩ := hinv
                    have hnw := hg.nways _ (mem_of_get hx)
                    refine c_seq ?_
                    refine c_region ?_
                    refine t_bool rfl (st_lss rfl rfl) (fun hc17 => ?_) (fun hc17 => ?_)
                    ·
                      refine t_nil ?_
                      refine x_then_normal ?_
                      refine c_seq ?_
                      refine c_cond_t rfl ?_
                      refine c_skip ?_
                      refine x_then_normal ?_
                      refine c_seq ?_
                      refine c_block ?_
                      refine c_seq ?_
                      refine c_region ?_
                      obtain ⟨y, hy⟩ := ex_get (l := x.l) (k := j) (by omega)
                      refine t_st rfl (st_index_old j rfl rfl rfl (by omega) (Rd.isSome encS_len (by decide) (hg.ways _ (mem_of_get hx)) hy) sl35) ?_
                      refine t_st rfl (st_load_old rfl one23 (Rd.row encS_len (hg.ways _ (mem_of_get hx)) hy (j := 0) rfl)) ?_
                      refine t_st rfl (st_assign rfl) ?_
                      refine t_nil ?_
                      refine x_then_normal ?_
                      refine c_seq ?_
                      refine c_seq ?_
                      refine c_region ?_
                      refine t_st rfl (st_move rfl) ?_
                      refine t_st rfl (st_len rfl sl23) ?_
                      refine t_bool rfl (st_gtr rfl rfl) (fun hc18 => ?_) (fun hc18 => ?_)
                      ·
                        refine t_nil ?_
                        refine x_then_normal ?_
                        refine c_cond_t rfl ?_
                        refine c_seq ?_
                        refine c_region ?_
                        refine t_st rfl (st_assign rfl) ?_
                        refine t_nil ?_
                        refine x_then_normal ?_
                        refine c_ret ?_
                        refine x_then_ret ?_
                        refine x_block_ret ?_
                        refine x_then_ret ?_
                        refine x_then_ret ?_
                        refine x_block_ret ?_
                        refine x_block_ret ?_
                        refine x_then_ret ?_
                        refine x_then_ret ?_
                        refine x_block_ret ?_
                        refine x_then_ret ?_
                        refine x_drop (hp' := []) (by repeat (first | exact List.Sublist.refl _ | exact List.nil_sublist _ | exact List.sublist_append_left _ _ | exact List.sublist_append_right _ _ | exact (List.sublist_append_right _ _).trans (List.sublist_append_right _ _) | apply List.Sublist.cons_cons | apply List.Sublist.cons)) ?_
                        exact ret1 (Base.Le.refl _) rfl rfl ⟨_, rfl, no_of (by first | decide | assumption) (fun hV => by first | (have h1 := hV.nr; have h2 := hV.na; have h3 := hV.nc; have h4 := hV.nl; have h5 := hV.nd; omega) | (have h1 := hV.readyv r (mem_of_get hr); have h2 := hV.lastv la (mem_of_get hla); have h3 := hV.duev du (mem_of_get hdu); omega) | (exact (show _ = (0 : Int) → False from by assumption) (firstE_zero.2 fun a ha => arcE_zero.2 (hV.arcsv a ha))) | (have h1 := (hV.choicesv x (mem_of_get hx)).1; omega) | (have h1 := ((hV.choicesv x (mem_of_get hx)).2 y (mem_of_get hy)).1; omega) | (exact (show _ = (0 : Int) → False from by assumption) (firstE_zero.2 fun a ha => arcE_zero.2 (((hV.choicesv x (mem_of_get hx)).2 y (mem_of_get hy)).2 a ha))) | (exact (show _ = (0 : Int) → False from by assumption) (arcE_zero.2 (hV.arcsv a (mem_of_get ha)))) | (exact (show _ = (0 : Int) → False from by assumption) (arcE_zero.2 (((hV.choicesv x (mem_of_get hx)).2 y (mem_of_get hy)).2 a (mem_of_get ha))))), rfl⟩
                      ·
                        refine t_nil ?_
                        refine x_then_normal ?_
                        refine c_cond_f rfl ?_
                        refine c_skip ?_
                        refine x_then_normal ?_
                        refine c_seq ?_
                        refine c_region ?_
                        refine t_st rfl (st_move rfl) ?_
                        refine t_st rfl (st_len rfl sl23) ?_
                        refine t_st rfl (st_move rfl) ?_
                        refine t_nil ?_
                        refine x_then_normal ?_
                        refine c_block ?_
                        refine l_loop [(3, _), (89, _), (90, _), (91, _), (100, _), (101, _), (102, _), (109, _), (110, _)] _ (fun (i : Nat) => [(111, .int .i64 (i : Int))]) (fun (i : Nat) => []) (fun (i : Nat) => i ≤ y.l.length ∧ All (ArcV g.ready.l.length) y.l i) (fun (i : Nat) => y.l.length - i) (0) ⟨rfl, trivial⟩ ⟨rfl, rfl, rfl, rfl, rfl, rfl, rfl, rfl, rfl, trivial⟩ rfl ⟨by omega, All.zero⟩ ?_
                        intro i hinv
                        obtain ⟨hi, n7⟩ := hinv
                        have hns := hg.nsteps _ (mem_of_get hx) _ (mem_of_get hy)
                        refine c_seq ?_
                        refine c_region ?_
                        refine t_bool rfl (st_lss rfl rfl) (fun hc19 => ?_) (fun hc19 => ?_)
                        ·
                          refine t_nil ?_
                          refine x_then_normal ?_
                          refine c_seq ?_
                          refine c_cond_t rfl ?_
                          refine c_skip ?_
                          refine x_then_normal ?_
                          refine c_seq ?_
                          refine c_block ?_
                          refine c_seq ?_
                          refine c_region ?_
                          obtain ⟨a, ha⟩ := ex_get (l := y.l) (k := i) (by omega)
                          refine t_st rfl (st_index_old i rfl rfl rfl (by omega) (Rd.isSome encA_len (by decide) (hg.steps _ (mem_of_get hx) _ (mem_of_get hy)) ha) sl23) ?_
                          refine t_st rfl (st_loadN_old (vs := encA _) 3 rfl agg34 (Rd.isSome encA_len (by decide) (hg.steps _ (mem_of_get hx) _ (mem_of_get hy)) ha) rfl (fun _ _ h => Rd.row encA_len (hg.steps _ (mem_of_get hx) _ (mem_of_get hy)) ha h)) ?_
                          refine t_do rfl (u_alloc [.int .i64 0, .int .i64 0, .int .i64 0] zero34 rfl) ?_
                          rintro _ _ ⟨g20, rfl, rfl⟩
                          refine t_do rfl (u_storeN (vs := [_, _, _]) 0 3 rfl rfl rfl siz34 rfl (by intro u hu; simp only [List.mem_cons, List.not_mem_nil, or_false] at hu; rcases hu with rfl | rfl | rfl <;> rfl) rfl (by simp)) ?_
                          rintro _ _ rfl
                          refine t_nil ?_
                          refine x_then_normal ?_
                          refine c_seq ?_
                          refine c_region ?_
                          refine t_st rfl (st_loadD (vs := [_, _, _]) 0 3 rfl agg34 rfl rfl rfl) ?_
                          refine t_st rfl (st_move rfl) ?_
                          refine t_do rfl (u_call _ call58 rfl (arcFault_c a _ _ _)) ?_
                          rintro _ _ ⟨rfl, rfl⟩
                          refine t_st rfl (st_assign rfl) ?_
                          refine t_nil ?_
                          refine x_then_normal ?_
                          refine c_seq ?_
                          refine c_region ?_
                          refine t_st rfl (st_move rfl) ?_
                          refine t_bool rfl (st_neq rfl rfl) (fun hc21 => ?_) (fun hc21 => ?_)
                          ·
                            refine t_nil ?_
                            refine x_then_normal ?_
                            refine c_cond_t rfl ?_
                            refine c_seq ?_
                            refine c_region ?_
                            refine t_st rfl (st_move rfl) ?_
                            refine t_st rfl (st_assign rfl) ?_
                            refine t_nil ?_
                            refine x_then_normal ?_
                            refine c_ret ?_
                            refine x_block_ret ?_
                            refine x_then_ret ?_
                            refine x_then_ret ?_
                            refine x_block_ret ?_
                            refine x_block_ret ?_
                            refine x_then_ret ?_
                            refine x_then_ret ?_
                            refine x_block_ret ?_
                            refine x_block_ret ?_
                            refine x_then_ret ?_
                            refine x_then_ret ?_
                            refine x_block_ret ?_
                            refine x_then_ret ?_
                            refine x_drop (hp' := []) (by repeat (first | exact List.Sublist.refl _ | exact List.nil_sublist _ | exact List.sublist_append_left _ _ | exact List.sublist_append_right _ _ | exact (List.sublist_append_right _ _).trans (List.sublist_append_right _ _) | apply List.Sublist.cons_cons | apply List.Sublist.cons)) ?_
                            exact ret1 (Base.Le.refl _) rfl rfl ⟨_, rfl, no_of (by first | decide | assumption) (fun hV => by first | (have h1 := hV.nr; have h2 := hV.na; have h3 := hV.nc; have h4 := hV.nl; have h5 := hV.nd; omega) | (have h1 := hV.readyv r (mem_of_get hr); have h2 := hV.lastv la (mem_of_get hla); have h3 := hV.duev du (mem_of_get hdu); omega) | (exact (show _ = (0 : Int) → False from by assumption) (firstE_zero.2 fun a ha => arcE_zero.2 (hV.arcsv a ha))) | (have h1 := (hV.choicesv x (mem_of_get hx)).1; omega) | (have h1 := ((hV.choicesv x (mem_of_get hx)).2 y (mem_of_get hy)).1; omega) | (exact (show _ = (0 : Int) → False from by assumption) (firstE_zero.2 fun a ha => arcE_zero.2 (((hV.choicesv x (mem_of_get hx)).2 y (mem_of_get hy)).2 a ha))) | (exact (show _ = (0 : Int) → False from by assumption) (arcE_zero.2 (hV.arcsv a (mem_of_get ha)))) | (exact (show _ = (0 : Int) → False from by assumption) (arcE_zero.2 (((hV.choicesv x (mem_of_get hx)).2 y (mem_of_get hy)).2 a (mem_of_get ha))))), rfl⟩
                          ·
                            refine t_nil ?_
                            refine x_then_normal ?_
                            refine c_cond_f rfl ?_
                            refine c_skip ?_
                            refine x_block_normal ?_
                            refine x_then_normal ?_
                            refine c_region ?_
                            refine t_st rfl (st_add rfl rfl (by omega)) ?_
                            refine t_st rfl (st_move rfl) ?_
                            refine t_nil ?_
                            exact x_again  (i + 1) (Base.Le.refl _) ⟨rfl, trivial⟩ ⟨rfl, rfl, rfl, rfl, rfl, rfl, rfl, rfl, rfl, trivial⟩ (by repeat (first | exact List.Sublist.refl _ | exact List.nil_sublist _ | exact List.sublist_append_left _ _ | exact List.sublist_append_right _ _ | exact (List.sublist_append_right _ _).trans (List.sublist_append_right _ _) | apply List.Sublist.cons_cons | apply List.Sublist.cons)) ⟨by omega, n7.snoc ha (arcE_zero.1 (by omega))⟩ (by omega)
                        ·
                          refine t_nil ?_
                          refine x_then_normal ?_
                          refine c_seq ?_
                          refine c_cond_f rfl ?_
                          refine c_exit ?_
                          refine x_then_exit ?_
                          refine x_then_exit ?_
                          refine x_block_out ?_
                          refine x_block_normal ?_
                          refine x_then_normal ?_
                          refine c_region ?_
                          refine t_st rfl (st_add rfl rfl (by omega)) ?_
                          refine t_st rfl (st_move rfl) ?_
                          refine t_nil ?_
                          exact x_again  (j + 1) (Base.Le.refl _) ⟨rfl, trivial⟩ ⟨rfl, rfl, rfl, rfl, rfl, rfl, trivial⟩ (by repeat (first | exact List.Sublist.refl _ | exact List.nil_sublist _ | exact List.sublist_append_left _ _ | exact List.sublist_append_right _ _ | exact (List.sublist_append_right _ _).trans (List.sublist_append_right _ _) | apply List.Sublist.cons_cons | apply List.Sublist.cons)) ⟨by omega, n5.snoc hy ⟨by omega, n7.done (by omega)⟩⟩ (by omega)
                    ·
                      refine t_nil ?_
                      refine x_then_normal ?_
                      refine c_seq ?_
                      refine c_cond_f rfl ?_
                      refine c_exit ?_
                      refine x_then_exit ?_
                      refine x_then_exit ?_
                      refine x_block_out ?_
                      refine x_block_normal ?_
                      refine x_then_normal ?_
                      refine c_region ?_
                      refine t_st rfl (st_add rfl rfl (by omega)) ?_
                      refine t_st rfl (st_move rfl) ?_
                      refine t_nil ?_
                      exact x_again  (k + 1) (Base.Le.refl _) ⟨rfl, trivial⟩ ⟨rfl, rfl, rfl, trivial⟩ (by repeat (first | exact List.Sublist.refl _ | exact List.nil_sublist _ | exact List.sublist_append_left _ _ | exact List.sublist_append_right _ _ | exact (List.sublist_append_right _ _).trans (List.sublist_append_right _ _) | apply List.Sublist.cons_cons | apply List.Sublist.cons)) ⟨by omega, n4.snoc hx ⟨by omega, n5.done (by omega)⟩⟩ (by omega)
                ·
                  refine t_nil ?_
                  refine x_then_normal ?_
                  refine c_seq ?_
                  refine c_cond_f rfl ?_
                  refine c_exit ?_
                  refine x_then_exit ?_
                  refine x_then_exit ?_
                  refine x_block_out ?_
                  refine x_then_normal ?_
                  refine c_seq ?_
                  refine c_region ?_
                  refine t_st rfl (st_assign rfl) ?_
                  refine t_nil ?_
                  refine x_then_normal ?_
                  refine c_ret ?_
                  refine x_drop (hp' := []) (by repeat (first | exact List.Sublist.refl _ | exact List.nil_sublist _ | exact List.sublist_append_left _ _ | exact List.sublist_append_right _ _ | exact (List.sublist_append_right _ _).trans (List.sublist_append_right _ _) | apply List.Sublist.cons_cons | apply List.Sublist.cons)) ?_
                  exact ret1 (Base.Le.refl _) rfl rfl ⟨_, rfl, yes_of rfl ⟨by omega, by omega, by omega, by omega, by omega, n1.done (by omega), n2.done (by omega), n3.done (by omega), n6.done (by omega), n4.done (by omega)⟩, rfl⟩

theorem checkPick_c (g : Gr) (A : Option Addr) (c : Nat) (l : List Int) (w : World) (hg : GrOk w g) (hR : Rd w A (rows encI l)) (hl : l.length ≤ 9223372036854775807) :
    CallsH Try.prog 33 [g.val, .slice A l.length c] w [] (fun v hp' => ∃ r : Int, v = .int .i64 r ∧ (r = 0 ↔ GraphV g ∧ PickV g l) ∧ hp' = []) := by
  refine fn_enter 37 Try.func33 rfl Try.ntmps33 rfl ?_
  refine c_seq ?_
  refine c_region ?_
  refine t_do rfl (u_box _ rfl rfl) ?_
  rintro _ _ ⟨g1, rfl, rfl⟩
  refine t_st rfl (st_assign rfl) ?_
  refine t_nil ?_
  refine x_then_normal ?_
  refine c_seq ?_
  refine c_seq ?_
  refine c_region ?_
  refine t_st rfl (st_loadD (vs := [_, _, _, _, _]) 0 5 rfl agg26 rfl rfl rfl) ?_
  refine t_do rfl (u_callf _ call36 rfl (fun w ho => CheckGraph_c g w (hg.old ho))) ?_
  rintro _ _ ⟨_, rfl, r, rfl, hr, rfl⟩
  refine t_st rfl (st_assign rfl) ?_
  refine t_nil ?_
  refine x_then_normal ?_
  refine c_seq ?_
  refine c_region ?_
  refine t_st rfl (st_move rfl) ?_
  refine t_bool rfl (st_neq rfl rfl) (fun hc2 => ?_) (fun hc2 => ?_)
  ·
    refine t_nil ?_
    refine x_then_normal ?_
    refine c_cond_t rfl ?_
    refine c_seq ?_
    refine c_region ?_
    refine t_st rfl (st_move rfl) ?_
    refine t_st rfl (st_assign rfl) ?_
    refine t_nil ?_
    refine x_then_normal ?_
    refine c_ret ?_
    refine x_then_ret ?_
    refine x_drop (hp' := []) (by repeat (first | exact List.Sublist.refl _ | exact List.nil_sublist _ | exact List.sublist_append_left _ _ | exact List.sublist_append_right _ _ | exact (List.sublist_append_right _ _).trans (List.sublist_append_right _ _) | apply List.Sublist.cons_cons | apply List.Sublist.cons)) ?_
    exact ret1 (Base.Le.refl _) rfl rfl ⟨_, rfl, no_of (by first | decide | assumption) (fun hV => by first | (exact (show r ≠ 0 by assumption) (hr.2 hV.1)) | (have h2 := hV.2.1; omega) | (have h2 := hV.2.2 k x c hx hc; omega)), rfl⟩
  ·
    refine t_nil ?_
    refine x_then_normal ?_
    refine c_cond_f rfl ?_
    refine c_skip ?_
    refine x_then_normal ?_
    refine c_seq ?_
    refine c_seq ?_
    refine c_region ?_
    refine t_st rfl (st_move rfl) ?_
    refine t_st rfl (st_len rfl sl22) ?_
    refine t_st rfl (st_field rfl fld26_4) ?_
    refine t_st rfl (st_load 0 rfl one24 rfl rfl) ?_
    refine t_st rfl (st_len rfl sl24) ?_
    refine t_bool rfl (st_neq rfl rfl) (fun hc3 => ?_) (fun hc3 => ?_)
    ·
      refine t_nil ?_
      refine x_then_normal ?_
      refine c_cond_t rfl ?_
      refine c_seq ?_
      refine c_region ?_
      refine t_st rfl (st_assign rfl) ?_
      refine t_nil ?_
      refine x_then_normal ?_
      refine c_ret ?_
      refine x_then_ret ?_
      refine x_drop (hp' := []) (by repeat (first | exact List.Sublist.refl _ | exact List.nil_sublist _ | exact List.sublist_append_left _ _ | exact List.sublist_append_right _ _ | exact (List.sublist_append_right _ _).trans (List.sublist_append_right _ _) | apply List.Sublist.cons_cons | apply List.Sublist.cons)) ?_
      exact ret1 (Base.Le.refl _) rfl rfl ⟨_, rfl, no_of (by first | decide | assumption) (fun hV => by first | (exact (show r ≠ 0 by assumption) (hr.2 hV.1)) | (have h2 := hV.2.1; omega) | (have h2 := hV.2.2 k x c hx hc; omega)), rfl⟩
    ·
      refine t_nil ?_
      refine x_then_normal ?_
      refine c_cond_f rfl ?_
      refine c_skip ?_
      refine x_then_normal ?_
      refine c_seq ?_
      refine c_seq ?_
      refine c_region ?_
      refine t_st rfl (st_move rfl) ?_
      refine t_st rfl (st_len rfl sl22) ?_
      refine t_st rfl (st_move rfl) ?_
      refine t_nil ?_
      refine x_then_normal ?_
      refine c_block ?_
      refine l_loop [(2, _), (19, _), (20, _)] _ (fun (k : Nat) => [(21, .int .i64 (k : Int))]) (fun (k : Nat) => []) (fun (k : Nat) => k ≤ l.length ∧ ∀ (j : Nat) (y : Int) (d : Sl (Sl Arc)), j < k → l[j]? = some y → g.choices.l[j]? = some d → 0 ≤ y ∧ y ≤ (d.l.length : Int)) (fun (k : Nat) => l.length - k) (0) ⟨rfl, trivial⟩ ⟨rfl, rfl, rfl, trivial⟩ rfl ⟨by omega, fun j y d hj => absurd hj (by omega)⟩ ?_
      intro k hinv
      obtain ⟨hk, hP⟩ := hinv
      refine c_seq ?_
      refine c_region ?_
      refine t_bool rfl (st_lss rfl rfl) (fun hc4 => ?_) (fun hc4 => ?_)
      ·
        refine t_nil ?_
        refine x_then_normal ?_
        refine c_seq ?_
        refine c_cond_t rfl ?_
        refine c_skip ?_
        refine x_then_normal ?_
        refine c_seq ?_
        refine c_block ?_
        refine c_seq ?_
        refine c_region ?_
        refine t_st rfl (st_move rfl) ?_
        obtain ⟨x, hx⟩ := ex_get (l := l) (k := k) (by omega)
        obtain ⟨c, hc⟩ := ex_get (l := g.choices.l) (k := k) (by omega)
        refine t_st rfl (st_index_old k rfl rfl rfl (by omega) (Rd.isSome encI_len (by decide) hR hx) sl22) ?_
        refine t_st rfl (st_load_old rfl one3 (Rd.row encI_len hR hx (j := 0) rfl)) ?_
        refine t_st rfl (st_assign rfl) ?_
        refine t_st rfl (st_assign rfl) ?_
        refine t_nil ?_
        refine x_then_normal ?_
        refine c_seq ?_
        refine c_region ?_
        refine t_st rfl (st_move rfl) ?_
        refine t_st rfl (st_field rfl fld26_4) ?_
        refine t_st rfl (st_load 0 rfl one24 rfl rfl) ?_
        refine t_st rfl (st_move rfl) ?_
        refine t_st rfl (st_index_old k rfl rfl rfl (by omega) (Rd.isSome encS_len (by decide) hg.choices hc) sl24) ?_
        refine t_st rfl (st_field_old rfl (Rd.isSome encS_len (by decide) hg.choices hc) fld37_0) ?_
        refine t_st rfl (st_load_old rfl one35 (Rd.row encS_len hg.choices hc (j := 0) rfl)) ?_
        refine t_st rfl (st_len rfl sl35) ?_
        refine t_doB rfl (u_call _ call37 rfl (within_c _ _ _ _ _)) (fun hc5 => ?_) (fun hc5 => ?_)
        ·
          refine t_st rfl (st_not_t rfl) ?_
          refine t_nil ?_
          refine x_then_normal ?_
          refine c_cond_f rfl ?_
          refine c_skip ?_
          refine x_block_normal ?_
          refine x_then_normal ?_
          refine c_region ?_
          refine t_st rfl (st_add rfl rfl (by omega)) ?_
          refine t_st rfl (st_move rfl) ?_
          refine t_nil ?_
          exact x_again  (k + 1) (Base.Le.refl _) ⟨rfl, trivial⟩ ⟨rfl, rfl, rfl, trivial⟩ (by repeat (first | exact List.Sublist.refl _ | exact List.nil_sublist _ | exact List.sublist_append_left _ _ | exact List.sublist_append_right _ _ | exact (List.sublist_append_right _ _).trans (List.sublist_append_right _ _) | apply List.Sublist.cons_cons | apply List.Sublist.cons)) ⟨by omega, fun j y d hj hy hd => by
              rcases Nat.lt_or_ge j k with h | h
              · exact hP j y d h hy hd
              · have hjk : j = k := by omega
                subst hjk
                rw [hx] at hy
                rw [hc] at hd
                injection hy with hy
                injection hd with hd
                subst hy
                subst hd
                omega⟩ (by omega)
        ·
          refine t_st rfl (st_not_f rfl) ?_
          refine t_nil ?_
          refine x_then_normal ?_
          refine c_cond_t rfl ?_
          refine c_seq ?_
          refine c_region ?_
          refine t_st rfl (st_assign rfl) ?_
          refine t_nil ?_
          refine x_then_normal ?_
          refine c_ret ?_
          refine x_block_ret ?_
          refine x_then_ret ?_
          refine x_then_ret ?_
          refine x_block_ret ?_
          refine x_then_ret ?_
          refine x_drop (hp' := []) (by repeat (first | exact List.Sublist.refl _ | exact List.nil_sublist _ | exact List.sublist_append_left _ _ | exact List.sublist_append_right _ _ | exact (List.sublist_append_right _ _).trans (List.sublist_append_right _ _) | apply List.Sublist.cons_cons | apply List.Sublist.cons)) ?_
          exact ret1 (Base.Le.refl _) rfl rfl ⟨_, rfl, no_of (by first | decide | assumption) (fun hV => by first | (exact (show r ≠ 0 by assumption) (hr.2 hV.1)) | (have h2 := hV.2.1; omega) | (have h2 := hV.2.2 k x c hx hc; omega)), rfl⟩
      ·
        refine t_nil ?_
        refine x_then_normal ?_
        refine c_seq ?_
        refine c_cond_f rfl ?_
        refine c_exit ?_
        refine x_then_exit ?_
        refine x_then_exit ?_
        refine x_block_out ?_
        refine x_then_normal ?_
        refine c_seq ?_
        refine c_region ?_
        refine t_st rfl (st_assign rfl) ?_
        refine t_nil ?_
        refine x_then_normal ?_
        refine c_ret ?_
        refine x_drop (hp' := []) (by repeat (first | exact List.Sublist.refl _ | exact List.nil_sublist _ | exact List.sublist_append_left _ _ | exact List.sublist_append_right _ _ | exact (List.sublist_append_right _ _).trans (List.sublist_append_right _ _) | apply List.Sublist.cons_cons | apply List.Sublist.cons)) ?_
        exact ret1 (Base.Le.refl _) rfl rfl ⟨_, rfl, yes_of rfl ⟨hr.1 (by omega), by omega, fun j y d hy hd => hP j y d (by have := lt_of_get hy; omega) hy hd⟩, rfl⟩

theorem PickFault_c (g : Gr) (A : Option Addr) (c : Nat) (l : List Int) (w : World) (hg : GrOk w g) (hR : Rd w A (rows encI l)) (hl : l.length ≤ 9223372036854775807) :
    CallsH Try.prog 9 [g.val, .slice A l.length c] w [] (fun v hp' => ∃ r : Int, v = .int .i64 r ∧ (r = 0 ↔ GraphV g ∧ PickV g l) ∧ hp' = []) := by
  refine fn_enter 40 Try.func9 rfl Try.ntmps9 rfl ?_
  refine c_seq ?_
  refine c_region ?_
  refine t_do rfl (u_box _ rfl rfl) ?_
  rintro _ _ ⟨g1, rfl, rfl⟩
  refine t_st rfl (st_assign rfl) ?_
  refine t_nil ?_
  refine x_then_normal ?_
  refine c_seq ?_
  refine c_seq ?_
  refine c_region ?_
  refine t_st rfl (st_loadD (vs := [_, _, _, _, _]) 0 5 rfl agg26 rfl rfl rfl) ?_
  refine t_do rfl (u_callf _ call32 rfl (fun w ho => GraphFault_c g w (hg.old ho))) ?_
  rintro _ _ ⟨_, rfl, r, rfl, hr, rfl⟩
  refine t_st rfl (st_assign rfl) ?_
  refine t_nil ?_
  refine x_then_normal ?_
  refine c_seq ?_
  refine c_region ?_
  refine t_st rfl (st_move rfl) ?_
  refine t_bool rfl (st_neq rfl rfl) (fun hc2 => ?_) (fun hc2 => ?_)
  ·
    refine t_nil ?_
    refine x_then_normal ?_
    refine c_cond_t rfl ?_
    refine c_seq ?_
    refine c_region ?_
    refine t_st rfl (st_move rfl) ?_
    refine t_st rfl (st_assign rfl) ?_
    refine t_nil ?_
    refine x_then_normal ?_
    refine c_ret ?_
    refine x_then_ret ?_
    refine x_drop (hp' := []) (by repeat (first | exact List.Sublist.refl _ | exact List.nil_sublist _ | exact List.sublist_append_left _ _ | exact List.sublist_append_right _ _ | exact (List.sublist_append_right _ _).trans (List.sublist_append_right _ _) | apply List.Sublist.cons_cons | apply List.Sublist.cons)) ?_
    exact ret1 (Base.Le.refl _) rfl rfl ⟨_, rfl, no_of (by first | decide | assumption) (fun hV => by first | (exact (show r ≠ 0 by assumption) (hr.2 hV.1)) | (have h2 := hV.2.1; omega) | (have h2 := hV.2.2 k x c hx hc; omega)), rfl⟩
  ·
    refine t_nil ?_
    refine x_then_normal ?_
    refine c_cond_f rfl ?_
    refine c_skip ?_
    refine x_then_normal ?_
    refine c_seq ?_
    refine c_seq ?_
    refine c_region ?_
    refine t_st rfl (st_move rfl) ?_
    refine t_st rfl (st_len rfl sl22) ?_
    refine t_st rfl (st_field rfl fld26_4) ?_
    refine t_st rfl (st_load 0 rfl one24 rfl rfl) ?_
    refine t_st rfl (st_len rfl sl24) ?_
    refine t_bool rfl (st_neq rfl rfl) (fun hc3 => ?_) (fun hc3 => ?_)
    ·
      refine t_nil ?_
      refine x_then_normal ?_
      refine c_cond_t rfl ?_
      refine c_seq ?_
      refine c_region ?_
      refine t_st rfl (st_assign rfl) ?_
      refine t_nil ?_
      refine x_then_normal ?_
      refine c_ret ?_
      refine x_then_ret ?_
      refine x_drop (hp' := []) (by repeat (first | exact List.Sublist.refl _ | exact List.nil_sublist _ | exact List.sublist_append_left _ _ | exact List.sublist_append_right _ _ | exact (List.sublist_append_right _ _).trans (List.sublist_append_right _ _) | apply List.Sublist.cons_cons | apply List.Sublist.cons)) ?_
      exact ret1 (Base.Le.refl _) rfl rfl ⟨_, rfl, no_of (by first | decide | assumption) (fun hV => by first | (exact (show r ≠ 0 by assumption) (hr.2 hV.1)) | (have h2 := hV.2.1; omega) | (have h2 := hV.2.2 k x c hx hc; omega)), rfl⟩
    ·
      refine t_nil ?_
      refine x_then_normal ?_
      refine c_cond_f rfl ?_
      refine c_skip ?_
      refine x_then_normal ?_
      refine c_seq ?_
      refine c_seq ?_
      refine c_region ?_
      refine t_st rfl (st_move rfl) ?_
      refine t_st rfl (st_len rfl sl22) ?_
      refine t_st rfl (st_move rfl) ?_
      refine t_nil ?_
      refine x_then_normal ?_
      refine c_block ?_
      refine l_loop [(2, _), (19, _), (20, _)] _ (fun (k : Nat) => [(21, .int .i64 (k : Int))]) (fun (k : Nat) => []) (fun (k : Nat) => k ≤ l.length ∧ ∀ (j : Nat) (y : Int) (d : Sl (Sl Arc)), j < k → l[j]? = some y → g.choices.l[j]? = some d → 0 ≤ y ∧ y ≤ (d.l.length : Int)) (fun (k : Nat) => l.length - k) (0) ⟨rfl, trivial⟩ ⟨rfl, rfl, rfl, trivial⟩ rfl ⟨by omega, fun j y d hj => absurd hj (by omega)⟩ ?_
      intro k hinv
      obtain ⟨hk, hP⟩ := hinv
      refine c_seq ?_
      refine c_region ?_
      refine t_bool rfl (st_lss rfl rfl) (fun hc4 => ?_) (fun hc4 => ?_)
      ·
        refine t_nil ?_
        refine x_then_normal ?_
        refine c_seq ?_
        refine c_cond_t rfl ?_
        refine c_skip ?_
        refine x_then_normal ?_
        refine c_seq ?_
        refine c_block ?_
        refine c_seq ?_
        refine c_region ?_
        refine t_st rfl (st_move rfl) ?_
        obtain ⟨x, hx⟩ := ex_get (l := l) (k := k) (by omega)
        obtain ⟨c, hc⟩ := ex_get (l := g.choices.l) (k := k) (by omega)
        refine t_st rfl (st_index_old k rfl rfl rfl (by omega) (Rd.isSome encI_len (by decide) hR hx) sl22) ?_
        refine t_st rfl (st_load_old rfl one3 (Rd.row encI_len hR hx (j := 0) rfl)) ?_
        refine t_st rfl (st_assign rfl) ?_
        refine t_st rfl (st_assign rfl) ?_
        refine t_nil ?_
        refine x_then_normal ?_
        refine c_seq ?_
        refine c_region ?_
        refine t_st rfl (st_move rfl) ?_
        refine t_bool rfl (st_lss rfl rfl) (fun hc5 => ?_) (fun hc5 => ?_)
        ·
          refine t_st rfl (st_move rfl) ?_
          refine t_no 28 rfl rfl rfl rfl rfl ?_
          refine t_no 28 rfl rfl rfl rfl rfl ?_
          refine t_no 28 rfl rfl rfl rfl rfl ?_
          refine t_no 28 rfl rfl rfl rfl rfl ?_
          refine t_no 28 rfl rfl rfl rfl rfl ?_
          refine t_no 28 rfl rfl rfl rfl rfl ?_
          refine t_no 28 rfl rfl rfl rfl rfl ?_
          refine t_no 28 rfl rfl rfl rfl rfl ?_
          refine t_no 28 rfl rfl rfl rfl rfl ?_
          refine t_st rfl (st_pick_t rfl rfl) ?_
          refine t_nil ?_
          refine x_then_normal ?_
          refine c_cond_t rfl ?_
          refine c_seq ?_
          refine c_region ?_
          refine t_st rfl (st_assign rfl) ?_
          refine t_nil ?_
          refine x_then_normal ?_
          refine c_ret ?_
          refine x_block_ret ?_
          refine x_then_ret ?_
          refine x_then_ret ?_
          refine x_block_ret ?_
          refine x_then_ret ?_
          refine x_drop (hp' := []) (by repeat (first | exact List.Sublist.refl _ | exact List.nil_sublist _ | exact List.sublist_append_left _ _ | exact List.sublist_append_right _ _ | exact (List.sublist_append_right _ _).trans (List.sublist_append_right _ _) | apply List.Sublist.cons_cons | apply List.Sublist.cons)) ?_
          exact ret1 (Base.Le.refl _) rfl rfl ⟨_, rfl, no_of (by first | decide | assumption) (fun hV => by first | (exact (show r ≠ 0 by assumption) (hr.2 hV.1)) | (have h2 := hV.2.1; omega) | (have h2 := hV.2.2 k x c hx hc; omega)), rfl⟩
        ·
          refine t_st rfl (st_move rfl) ?_
          refine t_yes 28 rfl rfl rfl ?_
          refine t_st rfl (st_move rfl) ?_
          refine t_yes 28 rfl rfl rfl ?_
          refine t_st rfl (st_field rfl fld26_4) ?_
          refine t_yes 28 rfl rfl rfl ?_
          refine t_st rfl (st_load 0 rfl one24 rfl rfl) ?_
          refine t_yes 28 rfl rfl rfl ?_
          refine t_st rfl (st_move rfl) ?_
          refine t_yes 28 rfl rfl rfl ?_
          refine t_st rfl (st_index_old k rfl rfl rfl (by omega) (Rd.isSome encS_len (by decide) hg.choices hc) sl24) ?_
          refine t_yes 28 rfl rfl rfl ?_
          refine t_st rfl (st_field_old rfl (Rd.isSome encS_len (by decide) hg.choices hc) fld37_0) ?_
          refine t_yes 28 rfl rfl rfl ?_
          refine t_st rfl (st_load_old rfl one35 (Rd.row encS_len hg.choices hc (j := 0) rfl)) ?_
          refine t_yes 28 rfl rfl rfl ?_
          refine t_st rfl (st_len rfl sl35) ?_
          refine t_yes 28 rfl rfl rfl ?_
          refine t_bool rfl (st_gtr rfl rfl) (fun hc6 => ?_) (fun hc6 => ?_)
          ·
            refine t_st rfl (st_pick_f rfl rfl) ?_
            refine t_nil ?_
            refine x_then_normal ?_
            refine c_cond_t rfl ?_
            refine c_seq ?_
            refine c_region ?_
            refine t_st rfl (st_assign rfl) ?_
            refine t_nil ?_
            refine x_then_normal ?_
            refine c_ret ?_
            refine x_block_ret ?_
            refine x_then_ret ?_
            refine x_then_ret ?_
            refine x_block_ret ?_
            refine x_then_ret ?_
            refine x_drop (hp' := []) (by repeat (first | exact List.Sublist.refl _ | exact List.nil_sublist _ | exact List.sublist_append_left _ _ | exact List.sublist_append_right _ _ | exact (List.sublist_append_right _ _).trans (List.sublist_append_right _ _) | apply List.Sublist.cons_cons | apply List.Sublist.cons)) ?_
            exact ret1 (Base.Le.refl _) rfl rfl ⟨_, rfl, no_of (by first | decide | assumption) (fun hV => by first | (exact (show r ≠ 0 by assumption) (hr.2 hV.1)) | (have h2 := hV.2.1; omega) | (have h2 := hV.2.2 k x c hx hc; omega)), rfl⟩
          ·
            refine t_st rfl (st_pick_f rfl rfl) ?_
            refine t_nil ?_
            refine x_then_normal ?_
            refine c_cond_f rfl ?_
            refine c_skip ?_
            refine x_block_normal ?_
            refine x_then_normal ?_
            refine c_region ?_
            refine t_st rfl (st_add rfl rfl (by omega)) ?_
            refine t_st rfl (st_move rfl) ?_
            refine t_nil ?_
            exact x_again  (k + 1) (Base.Le.refl _) ⟨rfl, trivial⟩ ⟨rfl, rfl, rfl, trivial⟩ (by repeat (first | exact List.Sublist.refl _ | exact List.nil_sublist _ | exact List.sublist_append_left _ _ | exact List.sublist_append_right _ _ | exact (List.sublist_append_right _ _).trans (List.sublist_append_right _ _) | apply List.Sublist.cons_cons | apply List.Sublist.cons)) ⟨by omega, fun j y d hj hy hd => by
                rcases Nat.lt_or_ge j k with h | h
                · exact hP j y d h hy hd
                · have hjk : j = k := by omega
                  subst hjk
                  rw [hx] at hy
                  rw [hc] at hd
                  injection hy with hy
                  injection hd with hd
                  subst hy
                  subst hd
                  omega⟩ (by omega)
      ·
        refine t_nil ?_
        refine x_then_normal ?_
        refine c_seq ?_
        refine c_cond_f rfl ?_
        refine c_exit ?_
        refine x_then_exit ?_
        refine x_then_exit ?_
        refine x_block_out ?_
        refine x_then_normal ?_
        refine c_seq ?_
        refine c_region ?_
        refine t_st rfl (st_assign rfl) ?_
        refine t_nil ?_
        refine x_then_normal ?_
        refine c_ret ?_
        refine x_drop (hp' := []) (by repeat (first | exact List.Sublist.refl _ | exact List.nil_sublist _ | exact List.sublist_append_left _ _ | exact List.sublist_append_right _ _ | exact (List.sublist_append_right _ _).trans (List.sublist_append_right _ _) | apply List.Sublist.cons_cons | apply List.Sublist.cons)) ?_
        exact ret1 (Base.Le.refl _) rfl rfl ⟨_, rfl, yes_of rfl ⟨hr.1 (by omega), by omega, fun j y d hy hd => hP j y d (by have := lt_of_get hy; omega) hy hd⟩, rfl⟩

end Go.Proofs.Ytakehdnblmonlaa
