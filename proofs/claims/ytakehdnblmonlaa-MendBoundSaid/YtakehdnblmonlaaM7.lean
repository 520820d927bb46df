/- The contract of (*solver).with, at a graph that has nodes. -/
import Derived.Test.YtakehdnblmonlaaM6
namespace Go.Proofs.Ytakehdnblmonlaa
open Go.RowKit Go.Fp

set_option maxRecDepth 10000 in
theorem with_c (b : Base) (hp : Hp) (gs0 : Nat) (s : So) (A : Option Addr) (c : Nat) (l : List Arc) (N M : Nat) (hN0 : 0 < N) (hN : N ≤ 24) (hS : SoOk b.w gs0 s) (hR : Rd b.w A (rows encA l)) (hl : l.length ≤ 2000) (hva : ∀ a ∈ l, ArcV N a)
    (nT : s.times.l.length = N) (nL : s.last.l.length = N) (hO : OutsV N (s.outs.l.map (·.l))) (hT : ∀ x ∈ s.times.l, 0 ≤ x ∧ x ≤ 1099511627776) (hM : ∀ y ∈ s.outs.l, y.l.length ≤ M) (hMl : M + l.length ≤ 100000) :
    CallsB Try.prog 41 [.pointer (some ⟨gs0, 0, none⟩), .slice A l.length c] b hp (fun v b' =>
      (withF s.last.l s.sv l = none ∧ ∃ q, v = .tuple #[.pointer q, .bool false]) ∨
      ∃ (gs' : Nat) (s' : So), withF s.last.l s.sv l = some s'.sv ∧ v = .tuple #[.pointer (some ⟨gs', 0, none⟩), .bool true] ∧ SoOk b'.w gs' s' ∧ s'.last = s.last ∧ ∀ y ∈ s'.outs.l, y.l.length ≤ M + l.length) := by
  have hnOs : s.outs.l.length = N := by have := hO.1; rw [List.length_map] at this; exact this
  refine fn_enterB 128 Try.func41 rfl Try.ntmps41 rfl ?_
  refine c_seq ?_
  refine c_region ?_
  refine t_st rfl (st_assign rfl) ?_
  refine t_st rfl (st_assign rfl) ?_
  refine t_nil ?_
  refine x_then_normal ?_
  refine c_cut8 [(1, .slice A l.length c)] (hp) (fun (gn : Nat) (gs : Nat) (gt : Nat) (go : Nat) (ct : Nat) (co : Nat) (tT : List Value) (tO : List Value) => [(6, .pointer (some ⟨gn, 0, none⟩))]) (fun (gn : Nat) (gs : Nat) (gt : Nat) (go : Nat) (ct : Nat) (co : Nat) (tT : List Value) (tO : List Value) => [(gn, Cl 69 [.pointer (some ⟨gs, 0, none⟩)]), (gs, Cl 73 [.slice (some ⟨gt, 0, none⟩) s.times.l.length ct, s.last.val, .slice (some ⟨go, 0, none⟩) s.outs.l.length co]), (gt, Cl 3 (rows encI s.times.l ++ tT)), (go, Cl 23 (rows encS s.outs.l ++ tO))]) (fun (gn : Nat) (gs : Nat) (gt : Nat) (go : Nat) (ct : Nat) (co : Nat) (tT : List Value) (tO : List Value) => True) ?_ ?_
  ·
    refine c_draw mixed ?_
    refine d_st 0 rfl (by kernel_rfl) (by kernel_rfl) (by kernel_rfl) rfl (st_move rfl) (List.Sublist.refl _) ?_
    refine d_st 1 rfl (by kernel_rfl) (by kernel_rfl) (by kernel_rfl) rfl (st_nil rfl) (List.Sublist.refl _) ?_
    refine d_st 2 rfl (by kernel_rfl) (by kernel_rfl) (by kernel_rfl) rfl (st_field rfl fld73_0) (List.Sublist.refl _) ?_
    refine d_st 3 rfl (by kernel_rfl) (by kernel_rfl) (by kernel_rfl) rfl (st_load_at rfl one22 hS.c0) (List.Sublist.refl _) ?_
    refine d_st 5 rfl (by kernel_rfl) (by kernel_rfl) (by kernel_rfl) rfl (st_move rfl) (List.Sublist.refl _) ?_
    refine d_st 6 rfl (by kernel_rfl) (by kernel_rfl) (by kernel_rfl) rfl (st_nil rfl) (List.Sublist.refl _) ?_
    refine d_st 7 rfl (by kernel_rfl) (by kernel_rfl) (by kernel_rfl) rfl (st_field rfl fld73_1) (List.Sublist.refl _) ?_
    refine d_st 8 rfl (by kernel_rfl) (by kernel_rfl) (by kernel_rfl) rfl (st_load_at rfl one22 hS.c1) (List.Sublist.refl _) ?_
    refine d_st 9 rfl (by kernel_rfl) (by kernel_rfl) (by kernel_rfl) rfl (st_move rfl) (List.Sublist.refl _) ?_
    refine d_st 10 rfl (by kernel_rfl) (by kernel_rfl) (by kernel_rfl) rfl (st_nil rfl) (List.Sublist.refl _) ?_
    refine d_st 11 rfl (by kernel_rfl) (by kernel_rfl) (by kernel_rfl) rfl (st_field rfl fld73_2) (List.Sublist.refl _) ?_
    refine d_st 12 rfl (by kernel_rfl) (by kernel_rfl) (by kernel_rfl) rfl (st_load_at rfl one35 hS.c2) (List.Sublist.refl _) ?_
    refine d_all [4, 16] (by kernel_rfl) rfl ?_
    refine r_do rfl rfl (u_callF [] _ _ call12 rfl rfl (fun w ho => cloneI_c _ _ _ _ w (hS.times.old ho) (by rw [rows_length encI_len]) (by omega))) ?_ ?_
    ·
      rintro _ _ ⟨hs1, rfl, hseg1⟩
      obtain ⟨gt, ct, tT, rfl, rfl, hx1, hy1, hz1, hw1⟩ := hseg1.pos (by omega)
      refine ⟨.inr (by repeat (first | exact List.Sublist.refl _ | exact List.nil_sublist _ | exact List.sublist_append_left _ _ | exact List.sublist_append_right _ _ | exact (List.sublist_append_right _ _).trans (List.sublist_append_right _ _) | apply List.Sublist.cons_cons | apply List.Sublist.cons)), ?_⟩
      refine d_all [13, 16] (by kernel_rfl) rfl ?_
      refine r_do rfl rfl (u_callF [_] _ _ call60 rfl rfl (fun w ho => cloneS_c _ _ _ _ w (hS.outs.old ho) (by rw [rows_length encS_len]) (by omega))) ?_ ?_
      ·
        rintro _ _ ⟨hs2, rfl, hseg2⟩
        obtain ⟨go, co, tO, rfl, rfl, hx2, hy2, hz2, hw2⟩ := hseg2.pos (by omega)
        refine ⟨.inr (by repeat (first | exact List.Sublist.refl _ | exact List.nil_sublist _ | exact List.sublist_append_left _ _ | exact List.sublist_append_right _ _ | exact (List.sublist_append_right _ _).trans (List.sublist_append_right _ _) | apply List.Sublist.cons_cons | apply List.Sublist.cons)), ?_⟩
        refine d_st 14 rfl (by kernel_rfl) (by kernel_rfl) (by kernel_rfl) rfl (st_build (v := .agg #[.slice (some ⟨gt, 0, none⟩) s.times.l.length ct, s.last.val, .slice (some ⟨go, 0, none⟩) s.outs.l.length co]) [(0, .slice (some ⟨gt, 0, none⟩) s.times.l.length ct), (1, s.last.val), (2, .slice (some ⟨go, 0, none⟩) s.outs.l.length co)] rfl (fun _ => by kernel_rfl)) (by repeat (first | exact List.Sublist.refl _ | exact List.nil_sublist _ | exact List.sublist_append_left _ _ | exact List.sublist_append_right _ _ | exact (List.sublist_append_right _ _).trans (List.sublist_append_right _ _) | apply List.Sublist.cons_cons | apply List.Sublist.cons)) ?_
        refine d_all [15, 16] (by kernel_rfl) rfl ?_
        refine r_do rfl rfl (u_box _ rfl rfl) ?_ ?_
        ·
          rintro _ _ ⟨g1, rfl, rfl⟩
          refine ⟨.inr (by repeat (first | exact List.Sublist.refl _ | exact List.nil_sublist _ | exact List.sublist_append_left _ _ | exact List.sublist_append_right _ _ | exact (List.sublist_append_right _ _).trans (List.sublist_append_right _ _) | apply List.Sublist.cons_cons | apply List.Sublist.cons)), ?_⟩
          refine d_all [16] (by kernel_rfl) rfl ?_
          refine r_do rfl rfl (u_alloc [.pointer none] zero69 rfl) ?_ ?_
          ·
            rintro _ _ ⟨g2, rfl, rfl⟩
            refine ⟨.inr (by repeat (first | exact List.Sublist.refl _ | exact List.nil_sublist _ | exact List.sublist_append_left _ _ | exact List.sublist_append_right _ _ | exact (List.sublist_append_right _ _).trans (List.sublist_append_right _ _) | apply List.Sublist.cons_cons | apply List.Sublist.cons)), ?_⟩
            refine d_all [17] (by kernel_rfl) rfl ?_
            refine r_do rfl rfl (u_store 0 rfl rfl siz69 rfl rfl (by simp)) ?_ ?_
            ·
              rintro _ _ rfl
              refine ⟨.inl (by kernel_rfl), ?_⟩
              refine d_done (by kernel_rfl) ?_
              refine x_pull 3 rfl ?_
              refine x_pull 3 rfl ?_
              refine x_pull 3 rfl ?_
              refine x_pull 3 rfl ?_
              exact x_meet8 (ev := (fun (gn : Nat) (gs : Nat) (gt : Nat) (go : Nat) (ct : Nat) (co : Nat) (tT : List Value) (tO : List Value) => [(6, .pointer (some ⟨gn, 0, none⟩))])) (hv := (fun (gn : Nat) (gs : Nat) (gt : Nat) (go : Nat) (ct : Nat) (co : Nat) (tT : List Value) (tO : List Value) => [(gn, Cl 69 [.pointer (some ⟨gs, 0, none⟩)]), (gs, Cl 73 [.slice (some ⟨gt, 0, none⟩) s.times.l.length ct, s.last.val, .slice (some ⟨go, 0, none⟩) s.outs.l.length co]), (gt, Cl 3 (rows encI s.times.l ++ tT)), (go, Cl 23 (rows encS s.outs.l ++ tO))])) (inv := (fun (gn : Nat) (gs : Nat) (gt : Nat) (go : Nat) (ct : Nat) (co : Nat) (tT : List Value) (tO : List Value) => True)) (g2) (g1) (gt) (go) (ct) (co) (tT) (tO) (Base.Le.refl _) ⟨rfl, trivial⟩ ⟨rfl, trivial⟩ (by repeat (first | exact List.Sublist.refl _ | exact List.nil_sublist _ | exact List.sublist_append_left _ _ | exact List.sublist_append_right _ _ | exact (List.sublist_append_right _ _).trans (List.sublist_append_right _ _) | apply List.Sublist.cons_cons | apply List.Sublist.cons)) trivial
            exact r_nil
          exact r_nil
        refine r_do rfl rfl (u_alloc [.pointer none] zero69 rfl) ?_ ?_
        ·
          rintro _ _ ⟨g3, rfl, rfl⟩
          refine ⟨.inr (by repeat (first | exact List.Sublist.refl _ | exact List.nil_sublist _ | exact List.sublist_append_left _ _ | exact List.sublist_append_right _ _ | exact (List.sublist_append_right _ _).trans (List.sublist_append_right _ _) | apply List.Sublist.cons_cons | apply List.Sublist.cons)), ?_⟩
          refine d_all [15] (by kernel_rfl) rfl ?_
          refine r_do rfl rfl (u_box _ rfl rfl) ?_ ?_
          ·
            rintro _ _ ⟨g4, rfl, rfl⟩
            refine ⟨.inr (by repeat (first | exact List.Sublist.refl _ | exact List.nil_sublist _ | exact List.sublist_append_left _ _ | exact List.sublist_append_right _ _ | exact (List.sublist_append_right _ _).trans (List.sublist_append_right _ _) | apply List.Sublist.cons_cons | apply List.Sublist.cons)), ?_⟩
            refine d_all [17] (by kernel_rfl) rfl ?_
            refine r_do rfl rfl (u_store 1 rfl rfl siz69 rfl rfl (by simp)) ?_ ?_
            ·
              rintro _ _ rfl
              refine ⟨.inl (by kernel_rfl), ?_⟩
              refine d_done (by kernel_rfl) ?_
              refine x_pull 3 rfl ?_
              refine x_pull 3 rfl ?_
              refine x_pull 2 rfl ?_
              refine x_pull 3 rfl ?_
              exact x_meet8 (ev := (fun (gn : Nat) (gs : Nat) (gt : Nat) (go : Nat) (ct : Nat) (co : Nat) (tT : List Value) (tO : List Value) => [(6, .pointer (some ⟨gn, 0, none⟩))])) (hv := (fun (gn : Nat) (gs : Nat) (gt : Nat) (go : Nat) (ct : Nat) (co : Nat) (tT : List Value) (tO : List Value) => [(gn, Cl 69 [.pointer (some ⟨gs, 0, none⟩)]), (gs, Cl 73 [.slice (some ⟨gt, 0, none⟩) s.times.l.length ct, s.last.val, .slice (some ⟨go, 0, none⟩) s.outs.l.length co]), (gt, Cl 3 (rows encI s.times.l ++ tT)), (go, Cl 23 (rows encS s.outs.l ++ tO))])) (inv := (fun (gn : Nat) (gs : Nat) (gt : Nat) (go : Nat) (ct : Nat) (co : Nat) (tT : List Value) (tO : List Value) => True)) (g3) (g4) (gt) (go) (ct) (co) (tT) (tO) (Base.Le.refl _) ⟨rfl, trivial⟩ ⟨rfl, trivial⟩ (by repeat (first | exact List.Sublist.refl _ | exact List.nil_sublist _ | exact List.sublist_append_left _ _ | exact List.sublist_append_right _ _ | exact (List.sublist_append_right _ _).trans (List.sublist_append_right _ _) | apply List.Sublist.cons_cons | apply List.Sublist.cons)) trivial
            exact r_nil
          exact r_nil
        exact r_nil
      refine r_do rfl rfl (u_alloc [.pointer none] zero69 rfl) ?_ ?_
      ·
        rintro _ _ ⟨g5, rfl, rfl⟩
        refine ⟨.inr (by repeat (first | exact List.Sublist.refl _ | exact List.nil_sublist _ | exact List.sublist_append_left _ _ | exact List.sublist_append_right _ _ | exact (List.sublist_append_right _ _).trans (List.sublist_append_right _ _) | apply List.Sublist.cons_cons | apply List.Sublist.cons)), ?_⟩
        refine d_all [13] (by kernel_rfl) rfl ?_
        refine r_do rfl rfl (u_callF [_, _] _ _ call60 rfl rfl (fun w ho => cloneS_c _ _ _ _ w (hS.outs.old ho) (by rw [rows_length encS_len]) (by omega))) ?_ ?_
        ·
          rintro _ _ ⟨hs2, rfl, hseg2⟩
          obtain ⟨go, co, tO, rfl, rfl, hx2, hy2, hz2, hw2⟩ := hseg2.pos (by omega)
          refine ⟨.inr (by repeat (first | exact List.Sublist.refl _ | exact List.nil_sublist _ | exact List.sublist_append_left _ _ | exact List.sublist_append_right _ _ | exact (List.sublist_append_right _ _).trans (List.sublist_append_right _ _) | apply List.Sublist.cons_cons | apply List.Sublist.cons)), ?_⟩
          refine d_st 14 rfl (by kernel_rfl) (by kernel_rfl) (by kernel_rfl) rfl (st_build (v := .agg #[.slice (some ⟨gt, 0, none⟩) s.times.l.length ct, s.last.val, .slice (some ⟨go, 0, none⟩) s.outs.l.length co]) [(0, .slice (some ⟨gt, 0, none⟩) s.times.l.length ct), (1, s.last.val), (2, .slice (some ⟨go, 0, none⟩) s.outs.l.length co)] rfl (fun _ => by kernel_rfl)) (by repeat (first | exact List.Sublist.refl _ | exact List.nil_sublist _ | exact List.sublist_append_left _ _ | exact List.sublist_append_right _ _ | exact (List.sublist_append_right _ _).trans (List.sublist_append_right _ _) | apply List.Sublist.cons_cons | apply List.Sublist.cons)) ?_
          refine d_all [15] (by kernel_rfl) rfl ?_
          refine r_do rfl rfl (u_box _ rfl rfl) ?_ ?_
          ·
            rintro _ _ ⟨g6, rfl, rfl⟩
            refine ⟨.inr (by repeat (first | exact List.Sublist.refl _ | exact List.nil_sublist _ | exact List.sublist_append_left _ _ | exact List.sublist_append_right _ _ | exact (List.sublist_append_right _ _).trans (List.sublist_append_right _ _) | apply List.Sublist.cons_cons | apply List.Sublist.cons)), ?_⟩
            refine d_all [17] (by kernel_rfl) rfl ?_
            refine r_do rfl rfl (u_store 1 rfl rfl siz69 rfl rfl (by simp)) ?_ ?_
            ·
              rintro _ _ rfl
              refine ⟨.inl (by kernel_rfl), ?_⟩
              refine d_done (by kernel_rfl) ?_
              refine x_pull 3 rfl ?_
              refine x_pull 3 rfl ?_
              refine x_pull 2 rfl ?_
              refine x_pull 3 rfl ?_
              exact x_meet8 (ev := (fun (gn : Nat) (gs : Nat) (gt : Nat) (go : Nat) (ct : Nat) (co : Nat) (tT : List Value) (tO : List Value) => [(6, .pointer (some ⟨gn, 0, none⟩))])) (hv := (fun (gn : Nat) (gs : Nat) (gt : Nat) (go : Nat) (ct : Nat) (co : Nat) (tT : List Value) (tO : List Value) => [(gn, Cl 69 [.pointer (some ⟨gs, 0, none⟩)]), (gs, Cl 73 [.slice (some ⟨gt, 0, none⟩) s.times.l.length ct, s.last.val, .slice (some ⟨go, 0, none⟩) s.outs.l.length co]), (gt, Cl 3 (rows encI s.times.l ++ tT)), (go, Cl 23 (rows encS s.outs.l ++ tO))])) (inv := (fun (gn : Nat) (gs : Nat) (gt : Nat) (go : Nat) (ct : Nat) (co : Nat) (tT : List Value) (tO : List Value) => True)) (g5) (g6) (gt) (go) (ct) (co) (tT) (tO) (Base.Le.refl _) ⟨rfl, trivial⟩ ⟨rfl, trivial⟩ (by repeat (first | exact List.Sublist.refl _ | exact List.nil_sublist _ | exact List.sublist_append_left _ _ | exact List.sublist_append_right _ _ | exact (List.sublist_append_right _ _).trans (List.sublist_append_right _ _) | apply List.Sublist.cons_cons | apply List.Sublist.cons)) trivial
            exact r_nil
          exact r_nil
        exact r_nil
      exact r_nil
    refine r_do rfl rfl (u_alloc [.pointer none] zero69 rfl) ?_ ?_
    ·
      rintro _ _ ⟨g7, rfl, rfl⟩
      refine ⟨.inr (.cons _ (List.Sublist.refl _)), ?_⟩
      refine d_all [4] (by kernel_rfl) rfl ?_
      refine r_do rfl rfl (u_callF [_] _ _ call12 rfl rfl (fun w ho => cloneI_c _ _ _ _ w (hS.times.old ho) (by rw [rows_length encI_len]) (by omega))) ?_ ?_
      ·
        rintro _ _ ⟨hs1, rfl, hseg1⟩
        obtain ⟨gt, ct, tT, rfl, rfl, hx1, hy1, hz1, hw1⟩ := hseg1.pos (by omega)
        refine ⟨.inr (by repeat (first | exact List.Sublist.refl _ | exact List.nil_sublist _ | exact List.sublist_append_left _ _ | exact List.sublist_append_right _ _ | exact (List.sublist_append_right _ _).trans (List.sublist_append_right _ _) | apply List.Sublist.cons_cons | apply List.Sublist.cons)), ?_⟩
        refine d_all [13] (by kernel_rfl) rfl ?_
        refine r_do rfl rfl (u_callF [_, _] _ _ call60 rfl rfl (fun w ho => cloneS_c _ _ _ _ w (hS.outs.old ho) (by rw [rows_length encS_len]) (by omega))) ?_ ?_
        ·
          rintro _ _ ⟨hs2, rfl, hseg2⟩
          obtain ⟨go, co, tO, rfl, rfl, hx2, hy2, hz2, hw2⟩ := hseg2.pos (by omega)
          refine ⟨.inr (by repeat (first | exact List.Sublist.refl _ | exact List.nil_sublist _ | exact List.sublist_append_left _ _ | exact List.sublist_append_right _ _ | exact (List.sublist_append_right _ _).trans (List.sublist_append_right _ _) | apply List.Sublist.cons_cons | apply List.Sublist.cons)), ?_⟩
          refine d_st 14 rfl (by kernel_rfl) (by kernel_rfl) (by kernel_rfl) rfl (st_build (v := .agg #[.slice (some ⟨gt, 0, none⟩) s.times.l.length ct, s.last.val, .slice (some ⟨go, 0, none⟩) s.outs.l.length co]) [(0, .slice (some ⟨gt, 0, none⟩) s.times.l.length ct), (1, s.last.val), (2, .slice (some ⟨go, 0, none⟩) s.outs.l.length co)] rfl (fun _ => by kernel_rfl)) (by repeat (first | exact List.Sublist.refl _ | exact List.nil_sublist _ | exact List.sublist_append_left _ _ | exact List.sublist_append_right _ _ | exact (List.sublist_append_right _ _).trans (List.sublist_append_right _ _) | apply List.Sublist.cons_cons | apply List.Sublist.cons)) ?_
          refine d_all [15] (by kernel_rfl) rfl ?_
          refine r_do rfl rfl (u_box _ rfl rfl) ?_ ?_
          ·
            rintro _ _ ⟨g8, rfl, rfl⟩
            refine ⟨.inr (by repeat (first | exact List.Sublist.refl _ | exact List.nil_sublist _ | exact List.sublist_append_left _ _ | exact List.sublist_append_right _ _ | exact (List.sublist_append_right _ _).trans (List.sublist_append_right _ _) | apply List.Sublist.cons_cons | apply List.Sublist.cons)), ?_⟩
            refine d_all [17] (by kernel_rfl) rfl ?_
            refine r_do rfl rfl (u_store 1 rfl rfl siz69 rfl rfl (by simp)) ?_ ?_
            ·
              rintro _ _ rfl
              refine ⟨.inl (by kernel_rfl), ?_⟩
              refine d_done (by kernel_rfl) ?_
              refine x_pull 3 rfl ?_
              refine x_pull 3 rfl ?_
              refine x_pull 2 rfl ?_
              refine x_pull 3 rfl ?_
              exact x_meet8 (ev := (fun (gn : Nat) (gs : Nat) (gt : Nat) (go : Nat) (ct : Nat) (co : Nat) (tT : List Value) (tO : List Value) => [(6, .pointer (some ⟨gn, 0, none⟩))])) (hv := (fun (gn : Nat) (gs : Nat) (gt : Nat) (go : Nat) (ct : Nat) (co : Nat) (tT : List Value) (tO : List Value) => [(gn, Cl 69 [.pointer (some ⟨gs, 0, none⟩)]), (gs, Cl 73 [.slice (some ⟨gt, 0, none⟩) s.times.l.length ct, s.last.val, .slice (some ⟨go, 0, none⟩) s.outs.l.length co]), (gt, Cl 3 (rows encI s.times.l ++ tT)), (go, Cl 23 (rows encS s.outs.l ++ tO))])) (inv := (fun (gn : Nat) (gs : Nat) (gt : Nat) (go : Nat) (ct : Nat) (co : Nat) (tT : List Value) (tO : List Value) => True)) (g7) (g8) (gt) (go) (ct) (co) (tT) (tO) (Base.Le.refl _) ⟨rfl, trivial⟩ ⟨rfl, trivial⟩ (by repeat (first | exact List.Sublist.refl _ | exact List.nil_sublist _ | exact List.sublist_append_left _ _ | exact List.sublist_append_right _ _ | exact (List.sublist_append_right _ _).trans (List.sublist_append_right _ _) | apply List.Sublist.cons_cons | apply List.Sublist.cons)) trivial
            exact r_nil
          exact r_nil
        exact r_nil
      exact r_nil
    exact r_nil
  ·
    intro gn gs gt go ct co tT tO hinv
    refine c_seq ?_
    refine c_seq ?_
    refine c_region ?_
    refine t_st rfl (st_move rfl) ?_
    refine t_st rfl (st_len rfl sl23) ?_
    refine t_st rfl (st_move rfl) ?_
    refine t_nil ?_
    refine x_then_normal ?_
    refine c_block ?_
    refine c_pull 3 rfl ?_
    refine l_loopb3 (fun (k : Nat) (b1 : Base) (O : List (Sl Arc)) => b1) [(1, _), (6, _), (36, _), (37, _)] _ (fun (k : Nat) (b1 : Base) (O : List (Sl Arc)) => [(38, .int .i64 (k : Int))]) (fun (k : Nat) (b1 : Base) (O : List (Sl Arc)) => [(go, Cl 23 (rows encS O ++ tO))]) (fun (k : Nat) (b1 : Base) (O : List (Sl Arc)) => k ≤ l.length ∧ b.Le b1 ∧ O.map (·.l) = addOuts (s.outs.l.map (·.l)) (l.take k) ∧ (∀ y ∈ O, Rd b1.w y.A (rows encA y.l)) ∧ (∀ y ∈ O, y.l.length ≤ M + k)) (fun (k : Nat) (b1 : Base) (O : List (Sl Arc)) => l.length - k) (0) (b) (s.outs.l) rfl ⟨rfl, trivial⟩ ⟨rfl, rfl, rfl, rfl, trivial⟩ rfl ⟨by omega, Base.Le.refl _, rfl, hS.inner, fun y hy => by have := hM y hy; omega⟩ ?_
    intro k b1 O hinv
    obtain ⟨hk, hle1, hO1, hin1, hm1⟩ := hinv
    have hR1 := hR.le hle1
    have hL1 := hS.last.le hle1
    have hnO : O.length = N := by have h := congrArg List.length hO1; rw [List.length_map, addOuts_length] at h; rw [h]; exact hO.1
    refine c_seq ?_
    refine c_region ?_
    refine t_bool rfl (st_lss rfl rfl) (fun hc9 => ?_) (fun hc9 => ?_)
    ·
      refine t_nil ?_
      refine x_then_normal ?_
      refine c_seq ?_
      refine c_cond_t rfl ?_
      refine c_skip ?_
      refine x_then_normal ?_
      refine c_seq ?_
      refine c_block ?_
      refine c_seq ?_
      refine c_region ?_
      obtain ⟨a, ha⟩ := ex_get (l := l) (k := k) (by omega)
      have hav := hva a (mem_of_get ha)
      have hal := hav.lo
      have hah := hav.hi
      obtain ⟨f, hf⟩ := nat_of hav.fr0
      obtain ⟨t, ht⟩ := nat_of hav.to0
      have hfN : f < N := by have := hav.fr1; omega
      have htN : t < N := by have := hav.to1; omega
      obtain ⟨y, hy⟩ := ex_get (l := O) (k := f) (by omega)
      have hmy := hm1 y (mem_of_get hy)
      refine t_st rfl (st_index_old k rfl rfl rfl (by omega) (Rd.isSome encA_len (by decide) hR1 ha) sl23) ?_
      refine t_st rfl (st_loadN_old (vs := encA _) 3 rfl agg34 (Rd.isSome encA_len (by decide) hR1 ha) rfl (fun _ _ h => Rd.row encA_len hR1 ha h)) ?_
      refine t_do rfl (u_alloc [.int .i64 0, .int .i64 0, .int .i64 0] zero34 rfl) ?_
      rintro _ _ ⟨g10, rfl, rfl⟩
      refine t_do rfl (u_storeN (vs := [_, _, _]) 0 3 rfl rfl rfl siz34 rfl (by intro u hu; simp only [List.mem_cons, List.not_mem_nil, or_false] at hu; rcases hu with rfl | rfl | rfl <;> rfl) rfl (by simp)) ?_
      rintro _ _ rfl
      refine t_nil ?_
      refine x_then_normal ?_
      refine c_draw mixed ?_
      refine d_st 0 rfl (by kernel_rfl) (by kernel_rfl) (by kernel_rfl) rfl (st_load 2 rfl one69 rfl rfl) (List.Sublist.refl _) ?_
      refine d_st 1 rfl (by kernel_rfl) (by kernel_rfl) (by kernel_rfl) rfl (st_nil rfl) (List.Sublist.refl _) ?_
      refine d_st 2 rfl (by kernel_rfl) (by kernel_rfl) (by kernel_rfl) rfl (st_field rfl fld73_2) (List.Sublist.refl _) ?_
      refine d_st 3 rfl (by kernel_rfl) (by kernel_rfl) (by kernel_rfl) rfl (st_load 3 rfl one35 rfl rfl) (List.Sublist.refl _) ?_
      refine d_st 4 rfl (by kernel_rfl) (by kernel_rfl) (by kernel_rfl) rfl (st_field rfl fld34_0) (List.Sublist.refl _) ?_
      refine d_st 5 rfl (by kernel_rfl) (by kernel_rfl) (by kernel_rfl) rfl (st_load 0 rfl one3 rfl rfl) (List.Sublist.refl _) ?_
      refine d_st 6 rfl (by kernel_rfl) (by kernel_rfl) (by kernel_rfl) rfl (st_load 2 rfl one69 rfl rfl) (List.Sublist.refl _) ?_
      refine d_st 7 rfl (by kernel_rfl) (by kernel_rfl) (by kernel_rfl) rfl (st_nil rfl) (List.Sublist.refl _) ?_
      refine d_st 8 rfl (by kernel_rfl) (by kernel_rfl) (by kernel_rfl) rfl (st_field rfl fld73_2) (List.Sublist.refl _) ?_
      refine d_st 9 rfl (by kernel_rfl) (by kernel_rfl) (by kernel_rfl) rfl (st_load 3 rfl one35 rfl rfl) (List.Sublist.refl _) ?_
      refine d_st 10 rfl (by kernel_rfl) (by kernel_rfl) (by kernel_rfl) rfl (st_field rfl fld34_0) (List.Sublist.refl _) ?_
      refine d_st 11 rfl (by kernel_rfl) (by kernel_rfl) (by kernel_rfl) rfl (st_load 0 rfl one3 rfl rfl) (List.Sublist.refl _) ?_
      refine d_st 12 rfl (by kernel_rfl) (by kernel_rfl) (by kernel_rfl) rfl (st_index f rfl rfl hf (by omega) sl35) (List.Sublist.refl _) ?_
      refine d_st 13 rfl (by kernel_rfl) (by kernel_rfl) (by kernel_rfl) rfl (st_load 1 rfl one23 rfl (own_row encS_len hy (j := 0) rfl)) (List.Sublist.refl _) ?_
      refine d_st 15 rfl (by kernel_rfl) (by kernel_rfl) (by kernel_rfl) rfl (st_loadD (vs := [_, _, _]) 0 3 rfl agg34 rfl rfl rfl) (List.Sublist.refl _) ?_
      refine d_all [14, 16] (by kernel_rfl) rfl ?_
      refine r_do rfl rfl (u_callF [_, _, _, _, _] _ _ call11 rfl rfl (fun w ho => cloneA_c _ _ _ _ w ((hin1 _ (mem_of_get hy)).old ho) (by rw [rows_length encA_len]) (by omega))) ?_ ?_
      ·
        rintro _ _ ⟨hs7, rfl, hseg7⟩
        obtain ⟨A7, c7, rfl, hc7⟩ := hseg7.form
        refine ⟨.inr (by repeat (first | exact List.Sublist.refl _ | exact List.nil_sublist _ | exact List.sublist_append_left _ _ | exact List.sublist_append_right _ _ | exact (List.sublist_append_right _ _).trans (List.sublist_append_right _ _) | apply List.Sublist.cons_cons | apply List.Sublist.cons)), ?_⟩
        refine d_all [16] (by kernel_rfl) rfl ?_
        refine r_do rfl rfl (u_bslice (el := 34) [(0, .agg #[.int .i64 a.fr, .int .i64 a.to, .int .i64 a.len])] [.int .i64 a.fr, .int .i64 a.to, .int .i64 a.len] rfl (fun _ => by kernel_rfl)) ?_ ?_
        ·
          rintro _ _ ⟨g11, rfl, rfl⟩
          refine ⟨.inr (by repeat (first | exact List.Sublist.refl _ | exact List.nil_sublist _ | exact List.sublist_append_left _ _ | exact List.sublist_append_right _ _ | exact (List.sublist_append_right _ _).trans (List.sublist_append_right _ _) | apply List.Sublist.cons_cons | apply List.Sublist.cons)), ?_⟩
          refine d_all [17] (by kernel_rfl) rfl ?_
          refine r_do rfl rfl (u_appF [_, _, _, _, _, _] hs7 _ (encA a) sl23 inf34 rfl (by decide) rfl rfl hseg7.seg rfl rfl (fun w ho => Rd.own (i := 0) ho rfl) (encA_one a) (by omega) (by omega)) ?_ ?_
          ·
            rintro _ _ ⟨hs8, rfl, hseg8⟩
            obtain ⟨A8, c8, rfl, hc8⟩ := hseg8.form
            refine ⟨.inr (by repeat (first | exact List.Sublist.refl _ | exact List.nil_sublist _ | exact List.sublist_append_left _ _ | exact List.sublist_append_right _ _ | exact (List.sublist_append_right _ _).trans (List.sublist_append_right _ _) | apply List.Sublist.cons_cons | apply List.Sublist.cons)), ?_⟩
            refine d_st 18 rfl (by kernel_rfl) (by kernel_rfl) (by kernel_rfl) rfl (st_index f rfl rfl hf (by omega) sl35) (by repeat (first | exact List.Sublist.refl _ | exact List.nil_sublist _ | exact List.sublist_append_left _ _ | exact List.sublist_append_right _ _ | exact (List.sublist_append_right _ _).trans (List.sublist_append_right _ _) | apply List.Sublist.cons_cons | apply List.Sublist.cons)) ?_
            refine d_all [19] (by kernel_rfl) rfl ?_
            refine r_do rfl rfl (u_store_row encS_len 2 (⟨A8, c8, y.l ++ [a]⟩ : Sl Arc) (by simp [encS]) rfl rfl siz23 rfl rfl (by omega)) ?_ ?_
            ·
              rintro _ _ rfl
              refine ⟨.inl (by kernel_rfl), ?_⟩
              refine d_done (by kernel_rfl) ?_
              refine x_block_normal ?_
              refine x_then_normal ?_
              refine c_freezeF [_, _, _, _, _, _] hs8 _ rfl ?_
              intro b2 hle2 hfz2
              refine c_region ?_
              refine t_st rfl (st_add rfl rfl (by omega)) ?_
              refine t_st rfl (st_move rfl) ?_
              refine t_nil ?_
              exact x_againb3 (ev := (fun (k : Nat) (b1 : Base) (O : List (Sl Arc)) => [(38, .int .i64 (k : Int))])) (hv := (fun (k : Nat) (b1 : Base) (O : List (Sl Arc)) => [(go, Cl 23 (rows encS O ++ tO))])) (inv := (fun (k : Nat) (b1 : Base) (O : List (Sl Arc)) => k ≤ l.length ∧ b.Le b1 ∧ O.map (·.l) = addOuts (s.outs.l.map (·.l)) (l.take k) ∧ (∀ y ∈ O, Rd b1.w y.A (rows encA y.l)) ∧ (∀ y ∈ O, y.l.length ≤ M + k))) (μ := (fun (k : Nat) (b1 : Base) (O : List (Sl Arc)) => l.length - k)) (bs := (fun (k : Nat) (b1 : Base) (O : List (Sl Arc)) => b1)) (k + 1) (b2) (O.set f ⟨A8, c8, y.l ++ [a]⟩) (Base.Le.refl _) ⟨rfl, trivial⟩ ⟨rfl, rfl, rfl, rfl, trivial⟩ (by repeat (first | exact List.Sublist.refl _ | exact List.nil_sublist _ | exact List.sublist_append_left _ _ | exact List.sublist_append_right _ _ | exact (List.sublist_append_right _ _).trans (List.sublist_append_right _ _) | apply List.Sublist.cons_cons | apply List.Sublist.cons)) ⟨by omega, hle1.trans hle2, by rw [addOuts_snoc ha]; exact outs_step hO1 hf hy rfl, fun y2 hy2 => by
                  rcases mem_set_or hy2 with rfl | hy2
                  · show Rd b2.w A8 (rows encA (y.l ++ [a]))
                    rw [rows_append]
                    simpa [rows] using hseg8.rd hfz2
                  · exact (hin1 y2 hy2).le hle2, fun y2 hy2 => by
                  rcases mem_set_or hy2 with rfl | hy2
                  · have := hm1 y (mem_of_get hy)
                    simp
                    omega
                  · have := hm1 y2 hy2
                    omega⟩ (by omega)
            exact r_nil
          exact r_nil
        exact r_nil
      refine r_do rfl rfl (u_bslice (el := 34) [(0, .agg #[.int .i64 a.fr, .int .i64 a.to, .int .i64 a.len])] [.int .i64 a.fr, .int .i64 a.to, .int .i64 a.len] rfl (fun _ => by kernel_rfl)) ?_ ?_
      ·
        rintro _ _ ⟨g12, rfl, rfl⟩
        refine ⟨.inr (.cons _ (List.Sublist.refl _)), ?_⟩
        refine d_all [14] (by kernel_rfl) rfl ?_
        refine r_do rfl rfl (u_callF [_, _, _, _, _, _] _ _ call11 rfl rfl (fun w ho => cloneA_c _ _ _ _ w ((hin1 _ (mem_of_get hy)).old ho) (by rw [rows_length encA_len]) (by omega))) ?_ ?_
        ·
          rintro _ _ ⟨hs7, rfl, hseg7⟩
          obtain ⟨A7, c7, rfl, hc7⟩ := hseg7.form
          refine ⟨.inr (by repeat (first | exact List.Sublist.refl _ | exact List.nil_sublist _ | exact List.sublist_append_left _ _ | exact List.sublist_append_right _ _ | exact (List.sublist_append_right _ _).trans (List.sublist_append_right _ _) | apply List.Sublist.cons_cons | apply List.Sublist.cons)), ?_⟩
          refine d_all [17] (by kernel_rfl) rfl ?_
          refine r_do rfl rfl (u_appF [_, _, _, _, _, _] hs7 _ (encA a) sl23 inf34 rfl (by decide) rfl rfl hseg7.seg rfl rfl (fun w ho => Rd.own (i := 0) ho rfl) (encA_one a) (by omega) (by omega)) ?_ ?_
          ·
            rintro _ _ ⟨hs8, rfl, hseg8⟩
            obtain ⟨A8, c8, rfl, hc8⟩ := hseg8.form
            refine ⟨.inr (by repeat (first | exact List.Sublist.refl _ | exact List.nil_sublist _ | exact List.sublist_append_left _ _ | exact List.sublist_append_right _ _ | exact (List.sublist_append_right _ _).trans (List.sublist_append_right _ _) | apply List.Sublist.cons_cons | apply List.Sublist.cons)), ?_⟩
            refine d_st 18 rfl (by kernel_rfl) (by kernel_rfl) (by kernel_rfl) rfl (st_index f rfl rfl hf (by omega) sl35) (by repeat (first | exact List.Sublist.refl _ | exact List.nil_sublist _ | exact List.sublist_append_left _ _ | exact List.sublist_append_right _ _ | exact (List.sublist_append_right _ _).trans (List.sublist_append_right _ _) | apply List.Sublist.cons_cons | apply List.Sublist.cons)) ?_
            refine d_all [19] (by kernel_rfl) rfl ?_
            refine r_do rfl rfl (u_store_row encS_len 2 (⟨A8, c8, y.l ++ [a]⟩ : Sl Arc) (by simp [encS]) rfl rfl siz23 rfl rfl (by omega)) ?_ ?_
            ·
              rintro _ _ rfl
              refine ⟨.inl (by kernel_rfl), ?_⟩
              refine d_done (by kernel_rfl) ?_
              refine x_block_normal ?_
              refine x_then_normal ?_
              refine c_freezeF [_, _, _, _, _, _] hs8 _ rfl ?_
              intro b2 hle2 hfz2
              refine c_region ?_
              refine t_st rfl (st_add rfl rfl (by omega)) ?_
              refine t_st rfl (st_move rfl) ?_
              refine t_nil ?_
              exact x_againb3 (ev := (fun (k : Nat) (b1 : Base) (O : List (Sl Arc)) => [(38, .int .i64 (k : Int))])) (hv := (fun (k : Nat) (b1 : Base) (O : List (Sl Arc)) => [(go, Cl 23 (rows encS O ++ tO))])) (inv := (fun (k : Nat) (b1 : Base) (O : List (Sl Arc)) => k ≤ l.length ∧ b.Le b1 ∧ O.map (·.l) = addOuts (s.outs.l.map (·.l)) (l.take k) ∧ (∀ y ∈ O, Rd b1.w y.A (rows encA y.l)) ∧ (∀ y ∈ O, y.l.length ≤ M + k))) (μ := (fun (k : Nat) (b1 : Base) (O : List (Sl Arc)) => l.length - k)) (bs := (fun (k : Nat) (b1 : Base) (O : List (Sl Arc)) => b1)) (k + 1) (b2) (O.set f ⟨A8, c8, y.l ++ [a]⟩) (Base.Le.refl _) ⟨rfl, trivial⟩ ⟨rfl, rfl, rfl, rfl, trivial⟩ (by repeat (first | exact List.Sublist.refl _ | exact List.nil_sublist _ | exact List.sublist_append_left _ _ | exact List.sublist_append_right _ _ | exact (List.sublist_append_right _ _).trans (List.sublist_append_right _ _) | apply List.Sublist.cons_cons | apply List.Sublist.cons)) ⟨by omega, hle1.trans hle2, by rw [addOuts_snoc ha]; exact outs_step hO1 hf hy rfl, fun y2 hy2 => by
                  rcases mem_set_or hy2 with rfl | hy2
                  · show Rd b2.w A8 (rows encA (y.l ++ [a]))
                    rw [rows_append]
                    simpa [rows] using hseg8.rd hfz2
                  · exact (hin1 y2 hy2).le hle2, fun y2 hy2 => by
                  rcases mem_set_or hy2 with rfl | hy2
                  · have := hm1 y (mem_of_get hy)
                    simp
                    omega
                  · have := hm1 y2 hy2
                    omega⟩ (by omega)
            exact r_nil
          exact r_nil
        exact r_nil
      exact r_nil
    ·
      refine t_nil ?_
      refine x_then_normal ?_
      refine c_seq ?_
      refine c_cond_f rfl ?_
      refine c_exit ?_
      refine x_then_exit ?_
      refine x_then_exit ?_
      refine x_block_out ?_
      refine x_then_normal ?_
      refine c_seq ?_
      obtain rfl : k = l.length := by omega
      rw [List.take_length] at hO1
      refine c_freeze [_] _ rfl ?_
      intro b2 hle2 hfz2
      have hOut : Rd b2.w (some ⟨go, 0, none⟩) (rows encS O) := (Rd.fz (hfz2 _ (List.mem_singleton.2 rfl))).left
      have hin2 : ∀ y ∈ O, Rd b2.w y.A (rows encA y.l) := fun y hy => (hin1 y hy).le hle2
      have hL2 := hL1.le hle2
      have hR2 := hR1.le hle2
      have hOV : OutsV N (addOuts (s.outs.l.map (·.l)) l) := addOuts_v hO hva
      refine c_region ?_
      refine t_st rfl (st_load 0 rfl one69 rfl rfl) ?_
      refine t_st rfl (st_nil rfl) ?_
      refine t_st rfl (st_field rfl fld73_0) ?_
      refine t_st rfl (st_load 1 rfl one22 rfl rfl) ?_
      refine t_st rfl (st_len rfl sl22) ?_
      refine t_do rfl (u_mk (enc := encB) (by_ := 1) false s.times.l.length rfl rfl sl88 inf4 rfl rfl (by omega) (by omega)) ?_
      rintro _ _ ⟨g13, rfl, rfl⟩
      refine t_do rfl (u_alloc [.slice none 0 0] zero88 rfl) ?_
      rintro _ _ ⟨g14, rfl, rfl⟩
      refine t_do rfl (u_store 0 rfl rfl siz88 rfl rfl (by simp)) ?_
      rintro _ _ rfl
      refine t_nil ?_
      refine x_then_normal ?_
      refine c_seq ?_
      refine c_region ?_
      refine t_st rfl (st_load 2 rfl one69 rfl rfl) ?_
      refine t_st rfl (st_nil rfl) ?_
      refine t_st rfl (st_field rfl fld73_0) ?_
      refine t_st rfl (st_load 3 rfl one22 rfl rfl) ?_
      refine t_st rfl (st_len rfl sl22) ?_
      refine t_do rfl (u_mk (enc := encI) (by_ := 8) 0 s.times.l.length rfl rfl sl22 inf3 rfl rfl (by omega) (by omega)) ?_
      rintro _ _ ⟨g15, rfl, rfl⟩
      refine t_do rfl (u_alloc [.slice none 0 0] zero22 rfl) ?_
      rintro _ _ ⟨g16, rfl, rfl⟩
      refine t_do rfl (u_store 0 rfl rfl siz22 rfl rfl (by simp)) ?_
      rintro _ _ rfl
      refine t_nil ?_
      refine x_then_normal ?_
      refine c_seq ?_
      refine c_region ?_
      refine t_do rfl (u_alloc [.slice none 0 0] zero22 rfl) ?_
      rintro _ _ ⟨g17, rfl, rfl⟩
      refine t_nil ?_
      refine x_then_normal ?_
      refine c_seq ?_
      refine c_region ?_
      refine t_do rfl (u_alloc [.bool false] zero4 rfl) ?_
      rintro _ _ ⟨g18, rfl, rfl⟩
      refine t_do rfl (u_store 0 rfl rfl siz4 rfl rfl (by simp)) ?_
      rintro _ _ rfl
      refine t_nil ?_
      refine x_then_normal ?_
      refine c_seq ?_
      refine c_region ?_
      refine t_st rfl (st_func _ _ rfl rfl) ?_
      refine t_st rfl (st_assign rfl) ?_
      refine t_nil ?_
      refine x_then_normal ?_
      refine c_seq ?_
      refine c_seq ?_
      refine c_region ?_
      refine t_st rfl (st_move rfl) ?_
      refine t_st rfl (st_len rfl sl23) ?_
      refine t_st rfl (st_move rfl) ?_
      refine t_nil ?_
      refine x_then_normal ?_
      refine c_block ?_
      refine c_pull 1 rfl ?_
      refine c_pull 5 rfl ?_
      refine c_pull 4 rfl ?_
      refine c_pull 8 rfl ?_
      refine c_pull 8 rfl ?_
      refine c_pull 7 rfl ?_
      refine c_pull 6 rfl ?_
      refine c_pull 7 rfl ?_
      refine c_pull 8 rfl ?_
      refine l_loop4 [(6, _), (9, _), (11, _), (12, _), (13, _), (75, _), (76, _)] _ (fun (k : Nat) (q : Qs) (v : Value) (hsd : Hp) => [(77, .int .i64 (k : Int))]) (fun (k : Nat) (q : Qs) (v : Value) (hsd : Hp) => hq ⟨gn, g16, g18, g14, gs, gt, g15, g13, g17, s.times.l.length, ct, tT, s.last, .slice (some ⟨go, 0, none⟩) s.outs.l.length co⟩ q v ++ hsd) (fun (k : Nat) (q : Qs) (v : Value) (hsd : Hp) => k ≤ l.length ∧ q = tries s.last.l (l.take k) (q0 s.times.l) ∧ Seg 3 1 v q.Q.length (rows encI q.Q) hsd ∧ QI N k q) (fun (k : Nat) (q : Qs) (v : Value) (hsd : Hp) => l.length - k) (0) (q0 s.times.l) (.slice none 0 0) ([]) ⟨rfl, trivial⟩ ⟨rfl, rfl, rfl, rfl, rfl, rfl, rfl, trivial⟩ rfl ⟨by omega, rfl, Seg.nil, q0_inv nT hT⟩ ?_
      intro k q v hsd hinv
      obtain ⟨hk2, hqe, hseg, hqi⟩ := hinv
      refine c_seq ?_
      refine c_region ?_
      refine t_bool rfl (st_lss rfl rfl) (fun hc19 => ?_) (fun hc19 => ?_)
      ·
        refine t_nil ?_
        refine x_then_normal ?_
        refine c_seq ?_
        refine c_cond_t rfl ?_
        refine c_skip ?_
        refine x_then_normal ?_
        refine c_seq ?_
        refine c_block ?_
        refine c_seq ?_
        refine c_region ?_
        obtain ⟨a, ha⟩ := ex_get (l := l) (k := k) (by omega)
        have hav := hva a (mem_of_get ha)
        have hal := hav.lo
        have hah := hav.hi
        obtain ⟨f, hf⟩ := nat_of hav.fr0
        obtain ⟨t, ht⟩ := nat_of hav.to0
        have hfN : f < N := by have := hav.fr1; omega
        have htN : t < N := by have := hav.to1; omega
        refine t_st rfl (st_index_old k rfl rfl rfl (by omega) (Rd.isSome encA_len (by decide) hR2 ha) sl23) ?_
        refine t_st rfl (st_loadN_old (vs := encA _) 3 rfl agg34 (Rd.isSome encA_len (by decide) hR2 ha) rfl (fun _ _ h => Rd.row encA_len hR2 ha h)) ?_
        refine t_do rfl (u_alloc [.int .i64 0, .int .i64 0, .int .i64 0] zero34 rfl) ?_
        rintro _ _ ⟨g20, rfl, rfl⟩
        refine t_do rfl (u_storeN (vs := [_, _, _]) 0 3 rfl rfl rfl siz34 rfl (by intro u hu; simp only [List.mem_cons, List.not_mem_nil, or_false] at hu; rcases hu with rfl | rfl | rfl <;> rfl) rfl (by simp)) ?_
        rintro _ _ rfl
        refine t_nil ?_
        refine x_then_normal ?_
        refine c_region ?_
        refine t_st rfl (st_move rfl) ?_
        refine t_st rfl (st_loadD (vs := [_, _, _]) 0 3 rfl agg34 rfl rfl rfl) ?_
        obtain ⟨tf, _, _, h1, _, _⟩ := hqi.get hfN
        obtain ⟨tt, rt, wt, h2, h3, h4⟩ := hqi.get htN
        obtain ⟨la, h5⟩ := ex_get (l := s.last.l) (k := t) (by omega)
        have ht1 := hqi.T1 tf (mem_of_get h1)
        have ht0 := hqi.T0 tf (mem_of_get h1)
        have hr0 := hqi.R0 rt (mem_of_get h3)
        have hr1 := hqi.R1 rt (mem_of_get h3)
        have hnq := hqi.nQ
        have hsl := sumN_le (l := q.R) (B := 65536 + k) (fun x hx => by have := hqi.R1 x hx; omega)
        rw [hqi.nR] at hsl
        have hsl2 : N * (65536 + k) ≤ 24 * (65536 + k) := Nat.mul_le_mul_right _ hN
        refine t_drop (hp' := hq ⟨gn, g16, g18, g14, gs, gt, g15, g13, g17, s.times.l.length, ct, tT, s.last, .slice (some ⟨go, 0, none⟩) s.outs.l.length co⟩ q v ++ (hsd ++ hp)) (by repeat (first | exact List.Sublist.refl _ | exact List.nil_sublist _ | exact List.sublist_append_left _ _ | exact List.sublist_append_right _ _ | exact (List.sublist_append_right _ _).trans (List.sublist_append_right _ _) | apply List.Sublist.cons_cons | apply List.Sublist.cons)) ?_
        refine t_do rfl (u_callv #[] #[.pointer (some ⟨gn, 0, none⟩), .pointer (some ⟨g16, 0, none⟩), .pointer (some ⟨g18, 0, none⟩), .pointer (some ⟨g14, 0, none⟩), .pointer (some ⟨g17, 0, none⟩)] [.agg (encA a).toArray] rfl call61 rfl (try_c ⟨gn, g16, g18, g14, gs, gt, g15, g13, g17, s.times.l.length, ct, tT, s.last, .slice (some ⟨go, 0, none⟩) s.outs.l.length co⟩ q a v hsd hp b2 f t tf tt rt la wt hf ht (by show f < s.times.l.length; omega) (by show t < s.times.l.length; omega) h1 h2 h3 h4 h5 hL2 (by show s.last.l.length = s.times.l.length; omega) hseg (by omega) ⟨by omega, by omega⟩ ⟨hal, hah⟩ ⟨hr0, by omega⟩)) ?_
        rintro _ _ ⟨rfl, q2, v2, hsd2, hq2, hseg2, rfl⟩
        refine t_nil ?_
        refine x_block_normal ?_
        refine x_then_normal ?_
        refine c_region ?_
        refine t_st rfl (st_add rfl rfl (by omega)) ?_
        refine t_st rfl (st_move rfl) ?_
        refine t_nil ?_
        exact x_again4 (ev := (fun (k : Nat) (q : Qs) (v : Value) (hsd : Hp) => [(77, .int .i64 (k : Int))])) (hv := (fun (k : Nat) (q : Qs) (v : Value) (hsd : Hp) => hq ⟨gn, g16, g18, g14, gs, gt, g15, g13, g17, s.times.l.length, ct, tT, s.last, .slice (some ⟨go, 0, none⟩) s.outs.l.length co⟩ q v ++ hsd)) (inv := (fun (k : Nat) (q : Qs) (v : Value) (hsd : Hp) => k ≤ l.length ∧ q = tries s.last.l (l.take k) (q0 s.times.l) ∧ Seg 3 1 v q.Q.length (rows encI q.Q) hsd ∧ QI N k q)) (μ := (fun (k : Nat) (q : Qs) (v : Value) (hsd : Hp) => l.length - k)) (k + 1) (q2) (v2) (hsd2) (Base.Le.refl _) ⟨rfl, trivial⟩ ⟨rfl, rfl, rfl, rfl, rfl, rfl, rfl, trivial⟩ (by repeat (first | exact List.Sublist.refl _ | exact List.nil_sublist _ | exact List.sublist_append_left _ _ | exact List.sublist_append_right _ _ | exact (List.sublist_append_right _ _).trans (List.sublist_append_right _ _) | apply List.Sublist.cons_cons | apply List.Sublist.cons)) ⟨by omega, by rw [hq2, hqe, tries_snoc ha], hseg2, by rw [hq2]; exact tryQ_inv hqi hav nL⟩ (by omega)
      ·
        refine t_nil ?_
        refine x_then_normal ?_
        refine c_seq ?_
        refine c_cond_f rfl ?_
        refine c_exit ?_
        refine x_then_exit ?_
        refine x_then_exit ?_
        refine x_block_out ?_
        refine x_then_normal ?_
        refine c_seq ?_
        obtain rfl : k = l.length := by omega
        rw [List.take_length] at hqe
        refine c_region ?_
        refine t_st rfl (st_load 0 rfl one69 rfl rfl) ?_
        refine t_do rfl (u_callF [_, _, _, _, _, _, _, _, _] (hsd ++ hp) _ call62 rfl rfl (fun w ho => bound_c gs ⟨⟨some ⟨gt, 0, none⟩, ct, q.T⟩, s.last, ⟨some ⟨go, 0, none⟩, co, O⟩⟩ w ⟨by have h := ho.cell (i := 4) rfl 0; rw [h]; show some (Value.slice _ s.times.l.length ct) = _; rw [nT, ← hqi.nT], ho.cell (i := 4) rfl 1, by have h := ho.cell (i := 4) rfl 2; rw [h]; show some (Value.slice _ s.outs.l.length co) = some (Value.slice _ O.length co); rw [hnO, ← hO.1, List.length_map], (Rd.own (i := 5) ho rfl).left, hL2.old ho, hOut.old ho, fun y hy => (hin2 y hy).old ho⟩ (fun x hx => by have := hqi.T1 x hx; omega) (fun y hy a ha => by have h := hOV.2 y.l (by rw [← hO1]; exact List.mem_map.2 ⟨y, hy, rfl⟩) a ha; exact ⟨h.lo, h.hi⟩) (by show O.length ≤ 24; omega) (by show q.T.length ≤ 24; rw [hqi.nT]; exact hN) (fun y hy => by have := hm1 y hy; omega))) ?_
        rintro _ _ ⟨_, rfl, rfl, rfl⟩
        refine t_st rfl (st_assign rfl) ?_
        refine t_nil ?_
        refine x_then_normal ?_
        refine c_seq ?_
        refine c_block ?_
        refine c_pull 8 rfl ?_
        refine c_pull 8 rfl ?_
        refine c_pull 8 rfl ?_
        refine c_pull 8 rfl ?_
        refine c_pull 8 rfl ?_
        refine c_pull 8 rfl ?_
        refine c_pull 8 rfl ?_
        refine c_pull 8 rfl ?_
        refine c_pull 8 rfl ?_
        refine l_loop3 [(6, _), (9, _), (11, _), (12, _), (13, _), (16, _)] _ (fun (q3 : Qs) (v3 : Value) (hs3 : Hp) => []) (fun (q3 : Qs) (v3 : Value) (hs3 : Hp) => hq ⟨gn, g16, g18, g14, gs, gt, g15, g13, g17, s.times.l.length, ct, tT, s.last, .slice (some ⟨go, 0, none⟩) s.outs.l.length co⟩ q3 v3 ++ hs3) (fun (q3 : Qs) (v3 : Value) (hs3 : Hp) => runQ s.last.l (addOuts (s.outs.l.map (·.l)) l) (boundV q.T (addOuts (s.outs.l.map (·.l)) l)) q3 = runQ s.last.l (addOuts (s.outs.l.map (·.l)) l) (boundV q.T (addOuts (s.outs.l.map (·.l)) l)) q ∧ Seg 3 1 v3 q3.Q.length (rows encI q3.Q) hs3 ∧ ∃ c3 : Nat, c3 ≤ 200000 ∧ QI N c3 q3) (fun (q3 : Qs) (v3 : Value) (hs3 : Hp) => mu q3) (q) (v) (hsd) trivial ⟨rfl, rfl, rfl, rfl, rfl, rfl, trivial⟩ rfl ⟨rfl, hseg, l.length, by omega, hqi⟩ ?_
        intro q3 v3 hs3 hinv
        obtain ⟨hrun, hseg3, cc, hcc, hqi3⟩ := hinv
        obtain ⟨A3, c3, rfl, hc3⟩ := hseg3.form
        refine c_seq ?_
        refine c_seq ?_
        refine c_region ?_
        refine t_st rfl (st_load 8 rfl one22 rfl rfl) ?_
        refine t_st rfl (st_len rfl sl22) ?_
        refine t_bool rfl (st_gtr rfl rfl) (fun hc21 => ?_) (fun hc21 => ?_)
        ·
          refine t_st rfl (st_move rfl) ?_
          refine t_yes 90 rfl rfl rfl ?_
          refine t_boolv rfl (st_load 2 rfl one4 rfl rfl) (fun hc22 => ?_) (fun hc22 => ?_)
          ·
            refine t_st rfl (st_pick_t rfl rfl) ?_
            refine t_nil ?_
            refine x_then_normal ?_
            refine c_cond_t rfl ?_
            refine c_skip ?_
            refine x_then_normal ?_
            refine c_block ?_
            refine c_seq ?_
            refine c_region ?_
            obtain ⟨x, r, hQ⟩ : ∃ x r, q3.Q = x :: r := by
              cases hq : q3.Q with
              | nil => rw [hq] at hc21; simp at hc21
              | cons x r => exact ⟨x, r, rfl⟩
            have hok : q3.ok = true := by assumption
            have hx0 : q3.Q[0]? = some x := by rw [hQ]; rfl
            have hxr := hqi3.Q0 x (by rw [hQ]; simp)
            obtain ⟨j, hj⟩ := nat_of hxr.1
            have hjN : j < N := by omega
            obtain ⟨tj, _, wj, htj, _, hwj⟩ := hqi3.get hjN
            obtain ⟨y, hyj⟩ := ex_get (l := O) (k := j) (by omega)
            have hgetT : q3.T.getD x.toNat 0 = tj := by rw [hj, Int.toNat_natCast, List.getD_eq_getElem?_getD, htj]; rfl
            have hst : stepQ s.last.l (addOuts (s.outs.l.map (·.l)) l) q3 = tries s.last.l y.l { q3 with W := q3.W.set j false, Q := r } := by
              unfold stepQ
              rw [hQ]
              simp only
              rw [hj, Int.toNat_natCast, ← hO1, List.getD_eq_getElem?_getD, List.getElem?_map, hyj]
              rfl
            refine t_st rfl (st_load 8 rfl one22 rfl rfl) ?_
            refine t_st rfl (st_index_old 0 rfl rfl rfl (by omega) (hseg3.isSome (by omega)) sl22) ?_
            refine t_st rfl (st_load_rd rfl one3 (fun w ho => (hseg3.rdF [_, _, _, _, _, _, _, _, _] hs3 hp rfl ho).int hx0)) ?_
            refine t_st rfl (st_assign rfl) ?_
            refine t_nil ?_
            refine x_then_normal ?_
            refine c_seq ?_
            refine c_region ?_
            refine t_st rfl (st_load 8 rfl one22 rfl rfl) ?_
            refine t_st rfl (st_from 1 rfl rfl rfl (by omega) sl22) ?_
            refine t_do rfl (u_store 8 rfl rfl siz22 rfl rfl (by simp)) ?_
            rintro _ _ rfl
            refine t_nil ?_
            refine x_then_normal ?_
            refine c_seq ?_
            have hlen : q3.Q.length - 1 = r.length := by rw [hQ]; rfl
            rw [hlen]
            have hsegx : Seg 3 1 (.slice A3 (r.length + 1) c3) (r.length + 1) (encI x ++ rows encI r) hs3 := by
              have h := hseg3
              rw [hQ] at h
              exact h
            obtain ⟨hs4, hseg4, hsub4⟩ := hsegx.tail rfl
            refine c_drop (hp' := hq ⟨gn, g16, g18, g14, gs, gt, g15, g13, g17, s.times.l.length, ct, tT, s.last, .slice (some ⟨go, 0, none⟩) s.outs.l.length co⟩ { q3 with Q := r } (.slice (if c3 = 1 then A3 else A3.map (·.add (1 * 1))) r.length (c3 - 1)) ++ (hs4 ++ hp)) (List.Sublist.append (List.Sublist.refl (hq ⟨gn, g16, g18, g14, gs, gt, g15, g13, g17, s.times.l.length, ct, tT, s.last, .slice (some ⟨go, 0, none⟩) s.outs.l.length co⟩ { q3 with Q := r } (.slice (if c3 = 1 then A3 else A3.map (·.add (1 * 1))) r.length (c3 - 1)))) (hsub4.append (List.Sublist.refl hp))) ?_
            refine c_region ?_
            refine t_st rfl (st_load 3 rfl one88 rfl rfl) ?_
            refine t_st rfl (st_move rfl) ?_
            refine t_st rfl (st_index j rfl rfl hj (by show j < s.times.l.length; omega) sl88) ?_
            refine t_do rfl (u_store_bool 7 rfl rfl siz4 rfl (by have := lt_of_get hwj; exact this)) ?_
            rintro _ _ rfl
            refine t_nil ?_
            refine x_then_normal ?_
            refine c_seq ?_
            refine c_seq ?_
            refine c_region ?_
            refine t_st rfl (st_load 0 rfl one69 rfl rfl) ?_
            refine t_st rfl (st_nil rfl) ?_
            refine t_st rfl (st_field rfl fld73_0) ?_
            refine t_st rfl (st_load 4 rfl one22 rfl rfl) ?_
            refine t_st rfl (st_move rfl) ?_
            refine t_st rfl (st_index j rfl rfl hj (by show j < s.times.l.length; omega) sl22) ?_
            refine t_st rfl (st_load 5 rfl one3 rfl (own_int htj)) ?_
            refine t_st rfl (st_move rfl) ?_
            refine t_bool rfl (st_gtr rfl rfl) (fun hc23 => ?_) (fun hc23 => ?_)
            ·
              refine t_nil ?_
              refine x_then_normal ?_
              refine c_cond_t rfl ?_
              refine c_seq ?_
              refine c_region ?_
              refine t_st rfl (st_assign rfl) ?_
              refine t_st rfl (st_assign rfl) ?_
              refine t_nil ?_
              refine x_then_normal ?_
              refine c_ret ?_
              refine x_then_ret ?_
              refine x_block_ret ?_
              refine x_then_ret ?_
              refine x_block_ret ?_
              refine x_then_ret ?_
              refine x_drop (hp' := hp) (by repeat (first | exact List.Sublist.refl _ | exact List.nil_sublist _ | exact List.sublist_append_left _ _ | exact List.sublist_append_right _ _ | exact (List.sublist_append_right _ _).trans (List.sublist_append_right _ _) | apply List.Sublist.cons_cons | apply List.Sublist.cons)) ?_
              exact retB2 (hle1.trans hle2) rfl rfl rfl (.inl ⟨by unfold withF; rw [show (So.sv s).outs = s.outs.l.map (·.l) from rfl, show (So.sv s).T = s.times.l from rfl, ← hqe, ← hrun, runQ_high hQ hok (by rw [hgetT, ← hO1]; assumption)], none, rfl⟩)
            ·
              refine t_nil ?_
              refine x_then_normal ?_
              refine c_cond_f rfl ?_
              refine c_skip ?_
              refine x_then_normal ?_
              refine c_seq ?_
              refine c_region ?_
              refine t_st rfl (st_load 0 rfl one69 rfl rfl) ?_
              refine t_st rfl (st_nil rfl) ?_
              refine t_st rfl (st_field rfl fld73_2) ?_
              refine t_st rfl (st_load 4 rfl one35 rfl rfl) ?_
              refine t_st rfl (st_move rfl) ?_
              refine t_st rfl (st_index_old j rfl rfl hj (by omega) (Rd.isSome encS_len (by decide) hOut hyj) sl35) ?_
              refine t_st rfl (st_load_old rfl one23 (Rd.row encS_len hOut hyj (j := 0) rfl)) ?_
              refine t_st rfl (st_len rfl sl23) ?_
              refine t_st rfl (st_move rfl) ?_
              refine t_nil ?_
              refine x_then_normal ?_
              refine c_block ?_
              refine c_pull 8 rfl ?_
              refine c_pull 8 rfl ?_
              refine c_pull 8 rfl ?_
              refine c_pull 8 rfl ?_
              refine c_pull 8 rfl ?_
              refine c_pull 8 rfl ?_
              refine c_pull 8 rfl ?_
              refine c_pull 8 rfl ?_
              refine c_pull 8 rfl ?_
              refine l_loop4 [(6, _), (9, _), (11, _), (12, _), (13, _), (16, _), (116, _), (117, _)] _ (fun (i : Nat) (q5 : Qs) (v5 : Value) (hs5 : Hp) => [(118, .int .i64 (i : Int))]) (fun (i : Nat) (q5 : Qs) (v5 : Value) (hs5 : Hp) => hq ⟨gn, g16, g18, g14, gs, gt, g15, g13, g17, s.times.l.length, ct, tT, s.last, .slice (some ⟨go, 0, none⟩) s.outs.l.length co⟩ q5 v5 ++ hs5) (fun (i : Nat) (q5 : Qs) (v5 : Value) (hs5 : Hp) => i ≤ y.l.length ∧ q5 = tries s.last.l (y.l.take i) ({ q3 with W := q3.W.set j false, Q := r } : Qs) ∧ Seg 3 1 v5 q5.Q.length (rows encI q5.Q) hs5 ∧ QI N i q5) (fun (i : Nat) (q5 : Qs) (v5 : Value) (hs5 : Hp) => y.l.length - i) (0) (({ q3 with W := q3.W.set j false, Q := r } : Qs)) ((.slice (if c3 = 1 then A3 else A3.map (·.add (1 * 1))) r.length (c3 - 1))) (hs4) ⟨rfl, trivial⟩ ⟨rfl, rfl, rfl, rfl, rfl, rfl, rfl, rfl, trivial⟩ rfl ⟨by omega, rfl, hseg4, pop_inv (hqi3.zero hok) hQ⟩ ?_
              intro i q5 v5 hs5 hinv
              obtain ⟨hi5, hqe5, hseg5, hqi5⟩ := hinv
              have hmy := hm1 y (mem_of_get hyj)
              refine c_seq ?_
              refine c_region ?_
              refine t_bool rfl (st_lss rfl rfl) (fun hc24 => ?_) (fun hc24 => ?_)
              ·
                refine t_nil ?_
                refine x_then_normal ?_
                refine c_seq ?_
                refine c_cond_t rfl ?_
                refine c_skip ?_
                refine x_then_normal ?_
                refine c_seq ?_
                refine c_block ?_
                refine c_seq ?_
                refine c_region ?_
                obtain ⟨a, ha⟩ := ex_get (l := y.l) (k := i) (by omega)
                have hav := hOV.2 y.l (by rw [← hO1]; exact List.mem_map.2 ⟨y, mem_of_get hyj, rfl⟩) a (mem_of_get ha)
                have hal := hav.lo
                have hah := hav.hi
                obtain ⟨f, hf⟩ := nat_of hav.fr0
                obtain ⟨t, ht⟩ := nat_of hav.to0
                have hfN : f < N := by have := hav.fr1; omega
                have htN : t < N := by have := hav.to1; omega
                refine t_st rfl (st_index_old i rfl rfl rfl (by omega) (Rd.isSome encA_len (by decide) (hin2 _ (mem_of_get hyj)) ha) sl23) ?_
                refine t_st rfl (st_loadN_old (vs := encA _) 3 rfl agg34 (Rd.isSome encA_len (by decide) (hin2 _ (mem_of_get hyj)) ha) rfl (fun _ _ h => Rd.row encA_len (hin2 _ (mem_of_get hyj)) ha h)) ?_
                refine t_do rfl (u_alloc [.int .i64 0, .int .i64 0, .int .i64 0] zero34 rfl) ?_
                rintro _ _ ⟨g25, rfl, rfl⟩
                refine t_do rfl (u_storeN (vs := [_, _, _]) 0 3 rfl rfl rfl siz34 rfl (by intro u hu; simp only [List.mem_cons, List.not_mem_nil, or_false] at hu; rcases hu with rfl | rfl | rfl <;> rfl) rfl (by simp)) ?_
                rintro _ _ rfl
                refine t_nil ?_
                refine x_then_normal ?_
                refine c_region ?_
                refine t_st rfl (st_move rfl) ?_
                refine t_st rfl (st_loadD (vs := [_, _, _]) 0 3 rfl agg34 rfl rfl rfl) ?_
                obtain ⟨tf, _, _, h1, _, _⟩ := hqi5.get hfN
                obtain ⟨tt, rt, wt, h2, h3, h4⟩ := hqi5.get htN
                obtain ⟨la, h5⟩ := ex_get (l := s.last.l) (k := t) (by omega)
                have ht1 := hqi5.T1 tf (mem_of_get h1)
                have ht0 := hqi5.T0 tf (mem_of_get h1)
                have hr0 := hqi5.R0 rt (mem_of_get h3)
                have hr1 := hqi5.R1 rt (mem_of_get h3)
                have hnq := hqi5.nQ
                have hsl := sumN_le (l := q5.R) (B := 65536 + i) (fun x hx => by have := hqi5.R1 x hx; omega)
                rw [hqi5.nR] at hsl
                have hsl2 : N * (65536 + i) ≤ 24 * (65536 + i) := Nat.mul_le_mul_right _ hN
                refine t_drop (hp' := hq ⟨gn, g16, g18, g14, gs, gt, g15, g13, g17, s.times.l.length, ct, tT, s.last, .slice (some ⟨go, 0, none⟩) s.outs.l.length co⟩ q5 v5 ++ (hs5 ++ hp)) (by repeat (first | exact List.Sublist.refl _ | exact List.nil_sublist _ | exact List.sublist_append_left _ _ | exact List.sublist_append_right _ _ | exact (List.sublist_append_right _ _).trans (List.sublist_append_right _ _) | apply List.Sublist.cons_cons | apply List.Sublist.cons)) ?_
                refine t_do rfl (u_callv #[] #[.pointer (some ⟨gn, 0, none⟩), .pointer (some ⟨g16, 0, none⟩), .pointer (some ⟨g18, 0, none⟩), .pointer (some ⟨g14, 0, none⟩), .pointer (some ⟨g17, 0, none⟩)] [.agg (encA a).toArray] rfl call61 rfl (try_c ⟨gn, g16, g18, g14, gs, gt, g15, g13, g17, s.times.l.length, ct, tT, s.last, .slice (some ⟨go, 0, none⟩) s.outs.l.length co⟩ q5 a v5 hs5 hp b2 f t tf tt rt la wt hf ht (by show f < s.times.l.length; omega) (by show t < s.times.l.length; omega) h1 h2 h3 h4 h5 hL2 (by show s.last.l.length = s.times.l.length; omega) hseg5 (by omega) ⟨by omega, by omega⟩ ⟨hal, hah⟩ ⟨hr0, by omega⟩)) ?_
                rintro _ _ ⟨rfl, q2, v2, hsd2, hq2, hseg2, rfl⟩
                refine t_nil ?_
                refine x_block_normal ?_
                refine x_then_normal ?_
                refine c_region ?_
                refine t_st rfl (st_add rfl rfl (by omega)) ?_
                refine t_st rfl (st_move rfl) ?_
                refine t_nil ?_
                exact x_again4 (ev := (fun (i : Nat) (q5 : Qs) (v5 : Value) (hs5 : Hp) => [(118, .int .i64 (i : Int))])) (hv := (fun (i : Nat) (q5 : Qs) (v5 : Value) (hs5 : Hp) => hq ⟨gn, g16, g18, g14, gs, gt, g15, g13, g17, s.times.l.length, ct, tT, s.last, .slice (some ⟨go, 0, none⟩) s.outs.l.length co⟩ q5 v5 ++ hs5)) (inv := (fun (i : Nat) (q5 : Qs) (v5 : Value) (hs5 : Hp) => i ≤ y.l.length ∧ q5 = tries s.last.l (y.l.take i) ({ q3 with W := q3.W.set j false, Q := r } : Qs) ∧ Seg 3 1 v5 q5.Q.length (rows encI q5.Q) hs5 ∧ QI N i q5)) (μ := (fun (i : Nat) (q5 : Qs) (v5 : Value) (hs5 : Hp) => y.l.length - i)) (i + 1) (q2) (v2) (hsd2) (Base.Le.refl _) ⟨rfl, trivial⟩ ⟨rfl, rfl, rfl, rfl, rfl, rfl, rfl, rfl, trivial⟩ (by repeat (first | exact List.Sublist.refl _ | exact List.nil_sublist _ | exact List.sublist_append_left _ _ | exact List.sublist_append_right _ _ | exact (List.sublist_append_right _ _).trans (List.sublist_append_right _ _) | apply List.Sublist.cons_cons | apply List.Sublist.cons)) ⟨by omega, by rw [hq2, hqe5, tries_snoc ha], hseg2, by rw [hq2]; exact tryQ_inv hqi5 hav nL⟩ (by omega)
              ·
                refine t_nil ?_
                refine x_then_normal ?_
                refine c_seq ?_
                refine c_cond_f rfl ?_
                refine c_exit ?_
                refine x_then_exit ?_
                refine x_then_exit ?_
                refine x_block_out ?_
                refine x_block_normal ?_
                exact x_again3 (ev := (fun (q3 : Qs) (v3 : Value) (hs3 : Hp) => [])) (hv := (fun (q3 : Qs) (v3 : Value) (hs3 : Hp) => hq ⟨gn, g16, g18, g14, gs, gt, g15, g13, g17, s.times.l.length, ct, tT, s.last, .slice (some ⟨go, 0, none⟩) s.outs.l.length co⟩ q3 v3 ++ hs3)) (inv := (fun (q3 : Qs) (v3 : Value) (hs3 : Hp) => runQ s.last.l (addOuts (s.outs.l.map (·.l)) l) (boundV q.T (addOuts (s.outs.l.map (·.l)) l)) q3 = runQ s.last.l (addOuts (s.outs.l.map (·.l)) l) (boundV q.T (addOuts (s.outs.l.map (·.l)) l)) q ∧ Seg 3 1 v3 q3.Q.length (rows encI q3.Q) hs3 ∧ ∃ c3 : Nat, c3 ≤ 200000 ∧ QI N c3 q3)) (μ := (fun (q3 : Qs) (v3 : Value) (hs3 : Hp) => mu q3)) (q5) (v5) (hs5) (Base.Le.refl _) trivial ⟨rfl, rfl, rfl, rfl, rfl, rfl, trivial⟩ (by repeat (first | exact List.Sublist.refl _ | exact List.nil_sublist _ | exact List.sublist_append_left _ _ | exact List.sublist_append_right _ _ | exact (List.sublist_append_right _ _).trans (List.sublist_append_right _ _) | apply List.Sublist.cons_cons | apply List.Sublist.cons)) ⟨by rw [← hrun, runQ_step hqi3 hOV nL hN hQ hok (by rw [hgetT, ← hO1]; assumption), hst, hqe5, List.take_of_length_le (by omega)], hseg5, y.l.length, by have := hm1 y (mem_of_get hyj); omega, (by have hi : i = y.l.length := (by omega); rw [hi] at hqi5; exact hqi5)⟩ (by have h := step_mu hqi3 hOV nL hN hQ hok; rw [hst] at h; rw [hqe5, List.take_of_length_le (by omega)]; exact h)
          ·
            refine t_st rfl (st_pick_t rfl rfl) ?_
            refine t_nil ?_
            refine x_then_normal ?_
            refine c_cond_f rfl ?_
            refine c_exit ?_
            refine x_then_exit ?_
            refine x_then_exit ?_
            refine x_block_out ?_
            refine x_then_normal ?_
            refine c_seq ?_
            refine c_draw mixed ?_
            refine d_st 0 rfl (by kernel_rfl) (by kernel_rfl) (by kernel_rfl) rfl (st_load 0 rfl one69 rfl rfl) (List.Sublist.refl _) ?_
            refine d_boolv 1 rfl (by kernel_rfl) (by kernel_rfl) (by kernel_rfl) rfl (st_load 2 rfl one4 rfl rfl) (List.Sublist.refl _) (fun hc26 => ?_) (fun hc26 => ?_)
            ·
              refine d_st 2 rfl (by kernel_rfl) (by kernel_rfl) (by kernel_rfl) rfl (st_assign rfl) (List.Sublist.refl _) ?_
              refine d_st 3 rfl (by kernel_rfl) (by kernel_rfl) (by kernel_rfl) rfl (st_assign rfl) (List.Sublist.refl _) ?_
              refine d_done (by kernel_rfl) ?_
              refine x_then_normal ?_
              refine c_ret ?_
              refine x_drop (hp' := (gs, Cl 73 [.slice (some ⟨gt, 0, none⟩) s.times.l.length ct, s.last.val, .slice (some ⟨go, 0, none⟩) s.outs.l.length co]) :: (gt, Cl 3 (rows encI q3.T ++ tT)) :: hp) (by repeat (first | exact List.Sublist.refl _ | exact List.nil_sublist _ | exact List.sublist_append_left _ _ | exact List.sublist_append_right _ _ | exact (List.sublist_append_right _ _).trans (List.sublist_append_right _ _) | apply List.Sublist.cons_cons | apply List.Sublist.cons)) ?_
              refine x_freeze [_, _] _ rfl ?_
              intro b3 hle3 hfz3
              have hz1 := hfz3 _ (List.mem_cons_self)
              have hz2 := hfz3 _ (List.mem_cons_of_mem _ (List.mem_singleton.2 rfl))
              exact retB2 ((hle1.trans hle2).trans hle3) rfl rfl rfl (.inr ⟨gs, ⟨⟨some ⟨gt, 0, none⟩, ct, q3.T⟩, s.last, ⟨some ⟨go, 0, none⟩, co, O⟩⟩, by first | (exact absurd (show q3.ok = true by assumption) (by rw [show q3.ok = false by assumption]; decide)) | (unfold withF; rw [show (So.sv s).outs = s.outs.l.map (·.l) from rfl, show (So.sv s).T = s.times.l from rfl, ← hqe, ← hrun, runQ_end (by first | (exact .inl (List.eq_nil_of_length_eq_zero (by omega))) | (exact .inr (by assumption)))]; simp [*, So.sv]), rfl, ⟨by rw [cell_fz hz1 0 rfl]; show some (Value.slice _ s.times.l.length ct) = some (Value.slice _ q3.T.length ct); rw [nT, ← hqi3.nT], cell_fz hz1 1 rfl, by rw [cell_fz hz1 2 rfl]; show some (Value.slice _ s.outs.l.length co) = some (Value.slice _ O.length co); rw [hnO, ← hO.1, List.length_map], (Rd.fz hz2).left, hL2.le hle3, hOut.le hle3, fun y hy => (hin2 y hy).le hle3⟩, rfl, hm1⟩)
            ·
              refine d_st 2 rfl (by kernel_rfl) (by kernel_rfl) (by kernel_rfl) rfl (st_assign rfl) (List.Sublist.refl _) ?_
              refine d_st 3 rfl (by kernel_rfl) (by kernel_rfl) (by kernel_rfl) rfl (st_assign rfl) (List.Sublist.refl _) ?_
              refine d_done (by kernel_rfl) ?_
              refine x_then_normal ?_
              refine c_ret ?_
              refine x_drop (hp' := hp) (by repeat (first | exact List.Sublist.refl _ | exact List.nil_sublist _ | exact List.sublist_append_left _ _ | exact List.sublist_append_right _ _ | exact (List.sublist_append_right _ _).trans (List.sublist_append_right _ _) | apply List.Sublist.cons_cons | apply List.Sublist.cons)) ?_
              exact retB2 (hle1.trans hle2) rfl rfl rfl (.inl ⟨by unfold withF; rw [show (So.sv s).outs = s.outs.l.map (·.l) from rfl, show (So.sv s).T = s.times.l from rfl, ← hqe, ← hrun, runQ_end (by first | (exact .inl (List.eq_nil_of_length_eq_zero (by omega))) | (exact .inr (by assumption)))]; simp [*], _, rfl⟩)
        ·
          refine t_st rfl (st_move rfl) ?_
          refine t_no 90 rfl rfl rfl rfl rfl ?_
          refine t_st rfl (st_pick_f rfl rfl) ?_
          refine t_nil ?_
          refine x_then_normal ?_
          refine c_cond_f rfl ?_
          refine c_exit ?_
          refine x_then_exit ?_
          refine x_then_exit ?_
          refine x_block_out ?_
          refine x_then_normal ?_
          refine c_seq ?_
          refine c_draw mixed ?_
          refine d_st 0 rfl (by kernel_rfl) (by kernel_rfl) (by kernel_rfl) rfl (st_load 0 rfl one69 rfl rfl) (List.Sublist.refl _) ?_
          refine d_boolv 1 rfl (by kernel_rfl) (by kernel_rfl) (by kernel_rfl) rfl (st_load 2 rfl one4 rfl rfl) (List.Sublist.refl _) (fun hc27 => ?_) (fun hc27 => ?_)
          ·
            refine d_st 2 rfl (by kernel_rfl) (by kernel_rfl) (by kernel_rfl) rfl (st_assign rfl) (List.Sublist.refl _) ?_
            refine d_st 3 rfl (by kernel_rfl) (by kernel_rfl) (by kernel_rfl) rfl (st_assign rfl) (List.Sublist.refl _) ?_
            refine d_done (by kernel_rfl) ?_
            refine x_then_normal ?_
            refine c_ret ?_
            refine x_drop (hp' := (gs, Cl 73 [.slice (some ⟨gt, 0, none⟩) s.times.l.length ct, s.last.val, .slice (some ⟨go, 0, none⟩) s.outs.l.length co]) :: (gt, Cl 3 (rows encI q3.T ++ tT)) :: hp) (by repeat (first | exact List.Sublist.refl _ | exact List.nil_sublist _ | exact List.sublist_append_left _ _ | exact List.sublist_append_right _ _ | exact (List.sublist_append_right _ _).trans (List.sublist_append_right _ _) | apply List.Sublist.cons_cons | apply List.Sublist.cons)) ?_
            refine x_freeze [_, _] _ rfl ?_
            intro b3 hle3 hfz3
            have hz1 := hfz3 _ (List.mem_cons_self)
            have hz2 := hfz3 _ (List.mem_cons_of_mem _ (List.mem_singleton.2 rfl))
            exact retB2 ((hle1.trans hle2).trans hle3) rfl rfl rfl (.inr ⟨gs, ⟨⟨some ⟨gt, 0, none⟩, ct, q3.T⟩, s.last, ⟨some ⟨go, 0, none⟩, co, O⟩⟩, by first | (exact absurd (show q3.ok = true by assumption) (by rw [show q3.ok = false by assumption]; decide)) | (unfold withF; rw [show (So.sv s).outs = s.outs.l.map (·.l) from rfl, show (So.sv s).T = s.times.l from rfl, ← hqe, ← hrun, runQ_end (by first | (exact .inl (List.eq_nil_of_length_eq_zero (by omega))) | (exact .inr (by assumption)))]; simp [*, So.sv]), rfl, ⟨by rw [cell_fz hz1 0 rfl]; show some (Value.slice _ s.times.l.length ct) = some (Value.slice _ q3.T.length ct); rw [nT, ← hqi3.nT], cell_fz hz1 1 rfl, by rw [cell_fz hz1 2 rfl]; show some (Value.slice _ s.outs.l.length co) = some (Value.slice _ O.length co); rw [hnO, ← hO.1, List.length_map], (Rd.fz hz2).left, hL2.le hle3, hOut.le hle3, fun y hy => (hin2 y hy).le hle3⟩, rfl, hm1⟩)
          ·
            refine d_st 2 rfl (by kernel_rfl) (by kernel_rfl) (by kernel_rfl) rfl (st_assign rfl) (List.Sublist.refl _) ?_
            refine d_st 3 rfl (by kernel_rfl) (by kernel_rfl) (by kernel_rfl) rfl (st_assign rfl) (List.Sublist.refl _) ?_
            refine d_done (by kernel_rfl) ?_
            refine x_then_normal ?_
            refine c_ret ?_
            refine x_drop (hp' := hp) (by repeat (first | exact List.Sublist.refl _ | exact List.nil_sublist _ | exact List.sublist_append_left _ _ | exact List.sublist_append_right _ _ | exact (List.sublist_append_right _ _).trans (List.sublist_append_right _ _) | apply List.Sublist.cons_cons | apply List.Sublist.cons)) ?_
            exact retB2 (hle1.trans hle2) rfl rfl rfl (.inl ⟨by unfold withF; rw [show (So.sv s).outs = s.outs.l.map (·.l) from rfl, show (So.sv s).T = s.times.l from rfl, ← hqe, ← hrun, runQ_end (by first | (exact .inl (List.eq_nil_of_length_eq_zero (by omega))) | (exact .inr (by assumption)))]; simp [*], _, rfl⟩)

end Go.Proofs.Ytakehdnblmonlaa
