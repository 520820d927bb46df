/- The contract of forced. -/
import Derived.Test.YtakehdnblmonlaaM21
import Derived.Test.YtakehdnblmonlaaKG
namespace Go.Proofs.Ytakehdnblmonlaa
open Go.RowKit Go.Fp

set_option maxRecDepth 10000 in
theorem forced_c (b : Base) (hp : Hp) (g : Gr) (A : Option Addr) (c0 : Nat) (p : List Int) (hg : GrOk b.w g) (hR : Rd b.w A (rows encI p)) (hV : GraphV g) (hP : PickV g p) : CallsG Try.prog 39 [g.val, .slice A p.length c0] b hp (FR g p [] hp) := by
  have hnr := hV.nr
  have hnc := hV.nc
  have hpl := hP.1
  refine fn_enterG 77 Try.func39 rfl Try.ntmps39 rfl ?_
  refine c_seq ?_
  refine c_region ?_
  refine t_do rfl (u_box _ rfl rfl) ?_
  rintro _ _ ⟨g1, rfl, rfl⟩
  refine t_st rfl (st_assign rfl) ?_
  refine t_st rfl (st_assign rfl) ?_
  refine t_st rfl (st_assign rfl) ?_
  refine t_nil ?_
  refine x_then_normal ?_
  refine c_seq ?_
  refine c_region ?_
  refine t_st rfl (st_loadD (vs := [_, _, _, _, _]) 0 5 rfl agg26 rfl rfl rfl) ?_
  refine t_st rfl (st_move rfl) ?_
  refine t_callB _ rfl call34 rfl (picked_c _ _ g _ _ p hg hR hV hP) ?_
  rintro _ b1 hle1 (⟨hw, q1, rfl⟩ | ⟨gs1, s1, hw, rfl, hS1, hl1, hm1⟩)
  ·
    have hg := hg.le hle1
    have hR := hR.le hle1
    refine t_st rfl (st_move rfl) ?_
    refine t_st rfl (st_extract rfl rfl) ?_
    refine t_st rfl (st_extract rfl rfl) ?_
    refine t_st rfl (st_assign rfl) ?_
    refine t_st rfl (st_assign rfl) ?_
    refine t_nil ?_
    refine x_then_normal ?_
    refine c_seq ?_
    refine c_seq ?_
    refine c_region ?_
    refine t_st rfl (st_move rfl) ?_
    refine t_st rfl (st_not_f rfl) ?_
    refine t_nil ?_
    refine x_then_normal ?_
    refine c_cond_t rfl ?_
    refine c_seq ?_
    refine c_region ?_
    refine t_st rfl (st_assign rfl) ?_
    refine t_st rfl (st_assign rfl) ?_
    refine t_st rfl (st_assign rfl) ?_
    refine t_nil ?_
    refine x_then_normal ?_
    refine c_ret ?_
    refine x_then_ret ?_
    refine x_drop (hp' := hp) (by repeat (first | exact List.Sublist.refl _ | exact List.nil_sublist _ | exact List.sublist_append_left _ _ | exact List.sublist_append_right _ _ | exact (List.sublist_append_right _ _).trans (List.sublist_append_right _ _) | apply List.Sublist.cons_cons | apply List.Sublist.cons)) ?_
    exact retG3 hle1 rfl rfl rfl rfl (.inl ⟨rfl, rfl, fun F sF _ _ hF ha => by obtain ⟨s, e⟩ := pickF_can hV hF ha; rw [hw] at e; cases e⟩)
  ·
    have hg := hg.le hle1
    have hR := hR.le hle1
    refine t_st rfl (st_move rfl) ?_
    refine t_st rfl (st_extract rfl rfl) ?_
    refine t_st rfl (st_extract rfl rfl) ?_
    refine t_st rfl (st_assign rfl) ?_
    refine t_st rfl (st_assign rfl) ?_
    refine t_nil ?_
    refine x_then_normal ?_
    refine c_seq ?_
    refine c_seq ?_
    refine c_region ?_
    refine t_st rfl (st_move rfl) ?_
    refine t_st rfl (st_not_t rfl) ?_
    refine t_nil ?_
    refine x_then_normal ?_
    refine c_cond_f rfl ?_
    refine c_skip ?_
    refine x_then_normal ?_
    refine c_seq ?_
    refine c_region ?_
    refine t_st rfl (st_move rfl) ?_
    refine t_do rfl (u_callF [_] _ _ call12 rfl rfl (fun w ho => cloneI_c _ _ _ _ w (hR.old ho) (by rw [rows_length encI_len]) (by omega))) ?_
    rintro _ _ ⟨hs5, rfl, hseg5⟩
    obtain ⟨A5, c5, rfl, hcm5⟩ := hseg5.form
    refine t_st rfl (st_assign rfl) ?_
    refine t_nil ?_
    refine x_then_normal ?_
    refine c_seq ?_
    refine c_seq ?_
    refine c_region ?_
    refine t_st rfl (st_assign rfl) ?_
    refine t_nil ?_
    refine x_then_normal ?_
    refine c_block ?_
    refine c_pull 0 rfl ?_
    refine l_loopb7 (fun (b2 : Base) (A6 : Option Addr) (cur : List Int) (hs6 : Hp) (gs : Nat) (s : So) (ag : Bool) => b2) [(2, _)] _ (fun (b2 : Base) (A6 : Option Addr) (cur : List Int) (hs6 : Hp) (gs : Nat) (s : So) (ag : Bool) => [(1, .slice A6 cur.length c5), (7, .pointer (some ⟨gs, 0, none⟩)), (9, .bool ag)]) (fun (b2 : Base) (A6 : Option Addr) (cur : List Int) (hs6 : Hp) (gs : Nat) (s : So) (ag : Bool) => [(g1, Cl 26 g.cells)] ++ hs6) (fun (b2 : Base) (A6 : Option Addr) (cur : List Int) (hs6 : Hp) (gs : Nat) (s : So) (ag : Bool) => b1.Le b2 ∧ FI b2 g p A6 cur hs6 gs s) (fun (b2 : Base) (A6 : Option Addr) (cur : List Int) (hs6 : Hp) (gs : Nat) (s : So) (ag : Bool) => 2 * (cur.length - nz cur) + (if ag then 1 else 0)) (b1) (A5) (p) (hs5) (gs1) (s1) (true) rfl ⟨rfl, rfl, rfl, trivial⟩ ⟨rfl, trivial⟩ rfl ⟨Base.Le.refl _, ⟨BK.of hseg5, hP, hS1, hl1, pickF_ps hV hw, fun _ _ _ _ _ h => h⟩⟩ ?_
    intro b2 A6 cur hs6 gs s ag hinv
    obtain ⟨hle2, hfi⟩ := hinv
    have hg := hg.le hle2
    have hcl := hfi.pv.1
    refine c_seq ?_
    refine c_seq ?_
    refine c_region ?_
    refine t_boolv rfl (st_move rfl) (fun hc2 => ?_) (fun hc2 => ?_)
    ·
      refine t_nil ?_
      refine x_then_normal ?_
      refine c_cond_t rfl ?_
      refine c_skip ?_
      refine x_then_normal ?_
      refine c_block ?_
      refine c_seq ?_
      refine c_region ?_
      refine t_st rfl (st_assign rfl) ?_
      refine t_nil ?_
      refine x_then_normal ?_
      refine c_seq ?_
      refine c_region ?_
      refine t_st rfl (st_field rfl fld26_4) ?_
      refine t_st rfl (st_load 0 rfl one24 rfl rfl) ?_
      refine t_st rfl (st_len rfl sl24) ?_
      refine t_st rfl (st_move rfl) ?_
      refine t_nil ?_
      refine x_then_normal ?_
      refine c_block ?_
      refine c_pull 0 rfl ?_
      refine l_loopb8 (fun (k : Nat) (b3 : Base) (A7 : Option Addr) (cur3 : List Int) (hs7 : Hp) (gs3 : Nat) (s3 : So) (ag3 : Bool) => b3) [(2, _), (31, _), (32, _)] _ (fun (k : Nat) (b3 : Base) (A7 : Option Addr) (cur3 : List Int) (hs7 : Hp) (gs3 : Nat) (s3 : So) (ag3 : Bool) => [(33, .int .i64 (k : Int)), (1, .slice A7 cur3.length c5), (7, .pointer (some ⟨gs3, 0, none⟩)), (9, .bool ag3)]) (fun (k : Nat) (b3 : Base) (A7 : Option Addr) (cur3 : List Int) (hs7 : Hp) (gs3 : Nat) (s3 : So) (ag3 : Bool) => [(g1, Cl 26 g.cells)] ++ hs7) (fun (k : Nat) (b3 : Base) (A7 : Option Addr) (cur3 : List Int) (hs7 : Hp) (gs3 : Nat) (s3 : So) (ag3 : Bool) => k ≤ g.choices.l.length ∧ b2.Le b3 ∧ FI b3 g p A7 cur3 hs7 gs3 s3 ∧ nz cur ≤ nz cur3 ∧ (ag3 = true → nz cur < nz cur3)) (fun (k : Nat) (b3 : Base) (A7 : Option Addr) (cur3 : List Int) (hs7 : Hp) (gs3 : Nat) (s3 : So) (ag3 : Bool) => g.choices.l.length - k) (0) (b2) (A6) (cur) (hs6) (gs) (s) (false) rfl ⟨rfl, rfl, rfl, rfl, trivial⟩ ⟨rfl, rfl, rfl, trivial⟩ rfl ⟨by omega, Base.Le.refl _, hfi, Nat.le_refl _, fun h => by cases h⟩ ?_
      intro k b3 A7 cur3 hs7 gs3 s3 ag3 hinv
      obtain ⟨hk, hle3, hf3, hn3, hn4⟩ := hinv
      have hg := hg.le hle3
      have hcl3 := hf3.pv.1
      refine c_seq ?_
      refine c_region ?_
      refine t_bool rfl (st_lss rfl rfl) (fun hc3 => ?_) (fun hc3 => ?_)
      ·
        refine t_nil ?_
        refine x_then_normal ?_
        refine c_seq ?_
        refine c_cond_t rfl ?_
        refine c_skip ?_
        refine x_then_normal ?_
        refine c_seq ?_
        refine c_block ?_
        refine c_seq ?_
        obtain ⟨c, hc⟩ := ex_get (l := g.choices.l) (k := k) (by omega)
        obtain ⟨x, hx⟩ := ex_get (l := cur3) (k := k) (by omega)
        have hxl := lt_of_get hx
        have hcv := hV.choicesv c (mem_of_get hc)
        have hcv3 := hcv.1
        have hpx := hf3.pv.2 k x c hx hc
        obtain ⟨gb, tl, rfl, rfl⟩ : ∃ (g : Nat) (tl : List Value), A7 = some ⟨g, 0, none⟩ ∧ hs7 = [(g, Cl 3 (rows encI cur3 ++ tl))] := by
          rcases hf3.bk with h | h
          · rw [h] at hxl
            simp at hxl
          · exact h
        refine c_region ?_
        refine t_st rfl (st_move rfl) ?_
        refine t_st rfl (st_index_old k rfl rfl rfl (by omega) (Rd.isSome encS_len (by decide) hg.choices hc) sl24) ?_
        refine t_st rfl (st_loadN_old (vs := encS _) 1 rfl agg37 (Rd.isSome encS_len (by decide) hg.choices hc) rfl (fun _ _ h => Rd.row encS_len hg.choices hc h)) ?_
        refine t_do rfl (u_alloc [.slice none 0 0] zero37 rfl) ?_
        rintro _ _ ⟨g4, rfl, rfl⟩
        refine t_st rfl (st_assign rfl) ?_
        refine t_do rfl (u_storeN (vs := [_]) 0 1 rfl rfl rfl siz37 rfl (by intro u hu; simp only [List.mem_cons, List.not_mem_nil, or_false] at hu; rcases hu with rfl <;> rfl) rfl (by simp)) ?_
        rintro _ _ rfl
        refine t_nil ?_
        refine x_then_normal ?_
        refine c_seq ?_
        refine c_seq ?_
        refine c_region ?_
        refine t_st rfl (st_move rfl) ?_
        refine t_st rfl (st_move rfl) ?_
        refine t_st rfl (st_index k rfl rfl rfl (by omega) sl22) ?_
        refine t_st rfl (st_load 2 rfl one3 rfl (own_int hx)) ?_
        refine t_bool rfl (st_gtr rfl rfl) (fun hc5 => ?_) (fun hc5 => ?_)
        ·
          refine t_nil ?_
          refine x_then_normal ?_
          refine c_cond_t rfl ?_
          refine c_exit ?_
          refine x_then_exit ?_
          refine x_block_out ?_
          refine x_then_normal ?_
          refine c_region ?_
          refine t_st rfl (st_add rfl rfl (by omega)) ?_
          refine t_st rfl (st_move rfl) ?_
          refine t_nil ?_
          exact x_againb8 (ev := (fun (k : Nat) (b3 : Base) (A7 : Option Addr) (cur3 : List Int) (hs7 : Hp) (gs3 : Nat) (s3 : So) (ag3 : Bool) => [(33, .int .i64 (k : Int)), (1, .slice A7 cur3.length c5), (7, .pointer (some ⟨gs3, 0, none⟩)), (9, .bool ag3)])) (hv := (fun (k : Nat) (b3 : Base) (A7 : Option Addr) (cur3 : List Int) (hs7 : Hp) (gs3 : Nat) (s3 : So) (ag3 : Bool) => [(g1, Cl 26 g.cells)] ++ hs7)) (inv := (fun (k : Nat) (b3 : Base) (A7 : Option Addr) (cur3 : List Int) (hs7 : Hp) (gs3 : Nat) (s3 : So) (ag3 : Bool) => k ≤ g.choices.l.length ∧ b2.Le b3 ∧ FI b3 g p A7 cur3 hs7 gs3 s3 ∧ nz cur ≤ nz cur3 ∧ (ag3 = true → nz cur < nz cur3))) (μ := (fun (k : Nat) (b3 : Base) (A7 : Option Addr) (cur3 : List Int) (hs7 : Hp) (gs3 : Nat) (s3 : So) (ag3 : Bool) => g.choices.l.length - k)) (bs := (fun (k : Nat) (b3 : Base) (A7 : Option Addr) (cur3 : List Int) (hs7 : Hp) (gs3 : Nat) (s3 : So) (ag3 : Bool) => b3)) (k + 1) (b3) (some ⟨gb, 0, none⟩) (cur3) ([(gb, Cl 3 (rows encI cur3 ++ tl))]) (gs3) (s3) (ag3) (Base.Le.refl _) ⟨rfl, rfl, rfl, rfl, trivial⟩ ⟨rfl, rfl, rfl, trivial⟩ (by repeat (first | exact List.Sublist.refl _ | exact List.nil_sublist _ | exact List.sublist_append_left _ _ | exact List.sublist_append_right _ _ | exact (List.sublist_append_right _ _).trans (List.sublist_append_right _ _) | apply List.Sublist.cons_cons | apply List.Sublist.cons)) ⟨by omega, hle3, hf3, hn3, hn4⟩ (by omega)
        ·
          refine t_nil ?_
          refine x_then_normal ?_
          refine c_cond_f rfl ?_
          refine c_skip ?_
          refine x_then_normal ?_
          refine c_seq ?_
          obtain rfl : x = 0 := by omega
          have hx0 := hx
          refine c_region ?_
          refine t_st rfl (st_assign rfl) ?_
          refine t_st rfl (st_assign rfl) ?_
          refine t_nil ?_
          refine x_then_normal ?_
          refine c_seq ?_
          refine c_region ?_
          refine t_st rfl (st_assign rfl) ?_
          refine t_nil ?_
          refine x_then_normal ?_
          refine c_seq ?_
          refine c_seq ?_
          refine c_region ?_
          refine t_st rfl (st_field rfl fld37_0) ?_
          refine t_st rfl (st_load 0 rfl one35 rfl rfl) ?_
          refine t_st rfl (st_len rfl sl35) ?_
          refine t_st rfl (st_move rfl) ?_
          refine t_nil ?_
          refine x_then_normal ?_
          refine c_block ?_
          refine l_loopb5 (fun (j : Nat) (b4 : Base) (only : Int) (many : Int) (nx : Option Addr) => b4) [(1, _), (2, _), (7, _), (9, _), (10, _), (31, _), (32, _), (33, _), (44, _), (45, _)] _ (fun (j : Nat) (b4 : Base) (only : Int) (many : Int) (nx : Option Addr) => [(46, .int .i64 (j : Int)), (12, .int .i64 only), (13, .int .i64 many), (14, .pointer nx)]) (fun (j : Nat) (b4 : Base) (only : Int) (many : Int) (nx : Option Addr) => []) (fun (j : Nat) (b4 : Base) (only : Int) (many : Int) (nx : Option Addr) => j ≤ c.l.length ∧ b3.Le b4 ∧ NX b4 g s3.sv c j only many nx) (fun (j : Nat) (b4 : Base) (only : Int) (many : Int) (nx : Option Addr) => c.l.length - j) (0) (b3) (0) (0) (none) rfl ⟨rfl, rfl, rfl, rfl, trivial⟩ ⟨rfl, rfl, rfl, rfl, rfl, rfl, rfl, rfl, rfl, rfl, trivial⟩ rfl ⟨by omega, Base.Le.refl _, NX.zero⟩ ?_
          intro j b4 only many nx hinv
          obtain ⟨hj, hle4, hnx⟩ := hinv
          have hg := hg.le hle4
          have hf4 := hf3.le hle4
          have hbd := hnx.bd
          refine c_seq ?_
          refine c_region ?_
          refine t_bool rfl (st_lss rfl rfl) (fun hc6 => ?_) (fun hc6 => ?_)
          ·
            refine t_nil ?_
            refine x_then_normal ?_
            refine c_seq ?_
            refine c_cond_t rfl ?_
            refine c_skip ?_
            refine x_then_normal ?_
            refine c_seq ?_
            refine c_block ?_
            refine c_seq ?_
            refine c_region ?_
            obtain ⟨y, hy⟩ := ex_get (l := c.l) (k := j) (by omega)
            have hyv := hcv.2 y (mem_of_get hy)
            have hy4 := hyv.1
            refine t_st rfl (st_move rfl) ?_
            refine t_st rfl (st_index_old j rfl rfl rfl (by omega) (Rd.isSome encS_len (by decide) (hg.ways _ (mem_of_get hc)) hy) sl35) ?_
            refine t_st rfl (st_load_old rfl one23 (Rd.row encS_len (hg.ways _ (mem_of_get hc)) hy (j := 0) rfl)) ?_
            refine t_st rfl (st_assign rfl) ?_
            refine t_st rfl (st_assign rfl) ?_
            refine t_nil ?_
            refine x_then_normal ?_
            refine c_seq ?_
            refine c_region ?_
            refine t_st rfl (st_move rfl) ?_
            refine t_st rfl (st_move rfl) ?_
            refine t_callB _ rfl call41 rfl (with_all _ _ gs3 s3 _ _ y.l g.ready.l.length 1450 hV.nr hf4.so (hg.steps _ (mem_of_get hc) _ (mem_of_get hy)) (by omega) hyv.2 hf4.ps.v (by rw [hf4.la]; exact hV.nl) (hf4.ps.outs_len hV hf4.pv.1) (by omega)) ?_
            rintro _ b5 hle5 (⟨hw5, q5, rfl⟩ | ⟨gs5, s5, hw5, rfl, hS5, hl5, hm5⟩)
            ·
              have hg := hg.le hle5
              rw [hf4.la] at hw5
              refine t_st rfl (st_move rfl) ?_
              refine t_st rfl (st_extract rfl rfl) ?_
              refine t_st rfl (st_extract rfl rfl) ?_
              refine t_st rfl (st_assign rfl) ?_
              refine t_st rfl (st_assign rfl) ?_
              refine t_nil ?_
              refine x_then_normal ?_
              refine c_seq ?_
              refine c_region ?_
              refine t_st rfl (st_move rfl) ?_
              refine t_nil ?_
              refine x_then_normal ?_
              refine c_cond_f rfl ?_
              refine c_skip ?_
              refine x_block_normal ?_
              refine x_then_normal ?_
              refine c_region ?_
              refine t_st rfl (st_add rfl rfl (by omega)) ?_
              refine t_st rfl (st_move rfl) ?_
              refine t_nil ?_
              exact x_againb5 (ev := (fun (j : Nat) (b4 : Base) (only : Int) (many : Int) (nx : Option Addr) => [(46, .int .i64 (j : Int)), (12, .int .i64 only), (13, .int .i64 many), (14, .pointer nx)])) (hv := (fun (j : Nat) (b4 : Base) (only : Int) (many : Int) (nx : Option Addr) => [])) (inv := (fun (j : Nat) (b4 : Base) (only : Int) (many : Int) (nx : Option Addr) => j ≤ c.l.length ∧ b3.Le b4 ∧ NX b4 g s3.sv c j only many nx)) (μ := (fun (j : Nat) (b4 : Base) (only : Int) (many : Int) (nx : Option Addr) => c.l.length - j)) (bs := (fun (j : Nat) (b4 : Base) (only : Int) (many : Int) (nx : Option Addr) => b4)) (j + 1) (b5) (only) (many) (nx) (Base.Le.refl _) ⟨rfl, rfl, rfl, rfl, trivial⟩ ⟨rfl, rfl, rfl, rfl, rfl, rfl, rfl, rfl, rfl, rfl, trivial⟩ (by repeat (first | exact List.Sublist.refl _ | exact List.nil_sublist _ | exact List.sublist_append_left _ _ | exact List.sublist_append_right _ _ | exact (List.sublist_append_right _ _).trans (List.sublist_append_right _ _) | apply List.Sublist.cons_cons | apply List.Sublist.cons)) ⟨by omega, hle4.trans hle5, (hnx.le hle5).miss hy hw5⟩ (by omega)
            ·
              have hg := hg.le hle5
              rw [hf4.la] at hw5 hl5
              refine t_st rfl (st_move rfl) ?_
              refine t_st rfl (st_extract rfl rfl) ?_
              refine t_st rfl (st_extract rfl rfl) ?_
              refine t_st rfl (st_assign rfl) ?_
              refine t_st rfl (st_assign rfl) ?_
              refine t_nil ?_
              refine x_then_normal ?_
              refine c_seq ?_
              refine c_region ?_
              refine t_st rfl (st_move rfl) ?_
              refine t_nil ?_
              refine x_then_normal ?_
              refine c_cond_t rfl ?_
              refine c_seq ?_
              refine c_region ?_
              refine t_st rfl (st_move rfl) ?_
              refine t_st rfl (st_add rfl rfl (by omega)) ?_
              refine t_st rfl (st_move rfl) ?_
              refine t_st rfl (st_assign rfl) ?_
              refine t_st rfl (st_assign rfl) ?_
              refine t_nil ?_
              refine x_then_normal ?_
              refine c_region ?_
              refine t_st rfl (st_move rfl) ?_
              refine t_st rfl (st_add rfl rfl (by omega)) ?_
              refine t_st rfl (st_assign rfl) ?_
              refine t_nil ?_
              refine x_block_normal ?_
              refine x_then_normal ?_
              refine c_region ?_
              refine t_st rfl (st_add rfl rfl (by omega)) ?_
              refine t_st rfl (st_move rfl) ?_
              refine t_nil ?_
              exact x_againb5 (ev := (fun (j : Nat) (b4 : Base) (only : Int) (many : Int) (nx : Option Addr) => [(46, .int .i64 (j : Int)), (12, .int .i64 only), (13, .int .i64 many), (14, .pointer nx)])) (hv := (fun (j : Nat) (b4 : Base) (only : Int) (many : Int) (nx : Option Addr) => [])) (inv := (fun (j : Nat) (b4 : Base) (only : Int) (many : Int) (nx : Option Addr) => j ≤ c.l.length ∧ b3.Le b4 ∧ NX b4 g s3.sv c j only many nx)) (μ := (fun (j : Nat) (b4 : Base) (only : Int) (many : Int) (nx : Option Addr) => c.l.length - j)) (bs := (fun (j : Nat) (b4 : Base) (only : Int) (many : Int) (nx : Option Addr) => b4)) (j + 1) (b5) ((j : Int) + 1) (many + 1) (some ⟨gs5, 0, none⟩) (Base.Le.refl _) ⟨rfl, rfl, rfl, rfl, trivial⟩ ⟨rfl, rfl, rfl, rfl, rfl, rfl, rfl, rfl, rfl, rfl, trivial⟩ (by repeat (first | exact List.Sublist.refl _ | exact List.nil_sublist _ | exact List.sublist_append_left _ _ | exact List.sublist_append_right _ _ | exact (List.sublist_append_right _ _).trans (List.sublist_append_right _ _) | apply List.Sublist.cons_cons | apply List.Sublist.cons)) ⟨by omega, hle4.trans hle5, (hnx.le hle5).hit hy hS5 hl5 hw5⟩ (by omega)
          ·
            refine t_nil ?_
            refine x_then_normal ?_
            refine c_seq ?_
            refine c_cond_f rfl ?_
            refine c_exit ?_
            refine x_then_exit ?_
            refine x_then_exit ?_
            refine x_block_out ?_
            refine x_then_normal ?_
            refine c_seq ?_
            refine c_region ?_
            refine t_st rfl (st_move rfl) ?_
            refine t_nil ?_
            refine x_then_normal ?_
            refine c_block ?_
            refine c_seq ?_
            refine c_region ?_
            refine t_bool rfl (st_eql rfl rfl) (fun hc7 => ?_) (fun hc7 => ?_)
            ·
              refine t_st rfl (st_assign rfl) ?_
              refine t_nil ?_
              refine x_then_normal ?_
              refine c_cond_t rfl ?_
              refine c_seq ?_
              refine c_region ?_
              refine t_st rfl (st_assign rfl) ?_
              refine t_st rfl (st_assign rfl) ?_
              refine t_st rfl (st_assign rfl) ?_
              refine t_nil ?_
              refine x_then_normal ?_
              refine c_ret ?_
              refine x_block_ret ?_
              refine x_block_ret ?_
              refine x_then_ret ?_
              refine x_then_ret ?_
              refine x_block_ret ?_
              refine x_block_ret ?_
              refine x_then_ret ?_
              refine x_block_ret ?_
              refine x_then_ret ?_
              refine x_drop (hp' := hp) (by repeat (first | exact List.Sublist.refl _ | exact List.nil_sublist _ | exact List.sublist_append_left _ _ | exact List.sublist_append_right _ _ | exact (List.sublist_append_right _ _).trans (List.sublist_append_right _ _) | apply List.Sublist.cons_cons | apply List.Sublist.cons)) ?_
              exact retG3 (((hle1.trans hle2).trans hle3).trans hle4) rfl rfl rfl rfl (.inl ⟨rfl, rfl, hf4.none hV hx0 hc (hnx.all (by omega) (by omega))⟩)
            ·
              refine t_st rfl (st_assign rfl) ?_
              refine t_nil ?_
              refine x_then_normal ?_
              refine c_cond_f rfl ?_
              refine c_seq ?_
              refine c_region ?_
              refine t_bool rfl (st_eql rfl rfl) (fun hc8 => ?_) (fun hc8 => ?_)
              ·
                refine t_st rfl (st_assign rfl) ?_
                refine t_nil ?_
                refine x_then_normal ?_
                refine c_cond_t rfl ?_
                obtain ⟨k5, y5, gs5, s5, hk5, rfl, rfl, hS5, hl5, hw5, hu5⟩ := hnx.one (by omega) (by omega)
                refine c_region ?_
                refine t_st rfl (st_move rfl) ?_
                refine t_st rfl (st_move rfl) ?_
                refine t_st rfl (st_move rfl) ?_
                refine t_st rfl (st_move rfl) ?_
                refine t_st rfl (st_index k rfl rfl rfl (by omega) sl22) ?_
                refine t_do rfl (u_store_int 2 rfl rfl siz3 rfl hxl) ?_
                rintro _ _ rfl
                refine t_st rfl (st_assign rfl) ?_
                refine t_st rfl (st_assign rfl) ?_
                refine t_nil ?_
                refine x_block_normal ?_
                refine x_block_normal ?_
                refine x_then_normal ?_
                refine c_region ?_
                refine t_st rfl (st_add rfl rfl (by omega)) ?_
                refine t_st rfl (st_move rfl) ?_
                refine t_nil ?_
                exact x_againb8 (ev := (fun (k : Nat) (b3 : Base) (A7 : Option Addr) (cur3 : List Int) (hs7 : Hp) (gs3 : Nat) (s3 : So) (ag3 : Bool) => [(33, .int .i64 (k : Int)), (1, .slice A7 cur3.length c5), (7, .pointer (some ⟨gs3, 0, none⟩)), (9, .bool ag3)])) (hv := (fun (k : Nat) (b3 : Base) (A7 : Option Addr) (cur3 : List Int) (hs7 : Hp) (gs3 : Nat) (s3 : So) (ag3 : Bool) => [(g1, Cl 26 g.cells)] ++ hs7)) (inv := (fun (k : Nat) (b3 : Base) (A7 : Option Addr) (cur3 : List Int) (hs7 : Hp) (gs3 : Nat) (s3 : So) (ag3 : Bool) => k ≤ g.choices.l.length ∧ b2.Le b3 ∧ FI b3 g p A7 cur3 hs7 gs3 s3 ∧ nz cur ≤ nz cur3 ∧ (ag3 = true → nz cur < nz cur3))) (μ := (fun (k : Nat) (b3 : Base) (A7 : Option Addr) (cur3 : List Int) (hs7 : Hp) (gs3 : Nat) (s3 : So) (ag3 : Bool) => g.choices.l.length - k)) (bs := (fun (k : Nat) (b3 : Base) (A7 : Option Addr) (cur3 : List Int) (hs7 : Hp) (gs3 : Nat) (s3 : So) (ag3 : Bool) => b3)) (k + 1) (b4) (some ⟨gb, 0, none⟩) ((cur3.set k ((k5 : Int) + 1))) ([(gb, Cl 3 (rows encI (cur3.set k ((k5 : Int) + 1)) ++ tl))]) (gs5) (s5) (true) (Base.Le.refl _) ⟨rfl, congrArg (fun z => some (Value.slice (some ⟨gb, 0, none⟩) z c5)) List.length_set.symm, rfl, rfl, trivial⟩ ⟨rfl, rfl, rfl, trivial⟩ (by repeat (first | exact List.Sublist.refl _ | exact List.nil_sublist _ | exact List.sublist_append_left _ _ | exact List.sublist_append_right _ _ | exact (List.sublist_append_right _ _).trans (List.sublist_append_right _ _) | apply List.Sublist.cons_cons | apply List.Sublist.cons)) ⟨by omega, (hle3.trans hle4), FI.put hV hf4 hx0 hc hk5 hw5 hS5 hl5 hu5 (.inr ⟨gb, tl, rfl, rfl⟩), by rw [nz_set cur3 k _ hx0 (by omega)]; omega, fun _ => by rw [nz_set cur3 k _ hx0 (by omega)]; omega⟩ (by omega)
              ·
                refine t_st rfl (st_assign rfl) ?_
                refine t_nil ?_
                refine x_then_normal ?_
                refine c_cond_f rfl ?_
                refine c_skip ?_
                refine x_block_normal ?_
                refine x_block_normal ?_
                refine x_then_normal ?_
                refine c_region ?_
                refine t_st rfl (st_add rfl rfl (by omega)) ?_
                refine t_st rfl (st_move rfl) ?_
                refine t_nil ?_
                exact x_againb8 (ev := (fun (k : Nat) (b3 : Base) (A7 : Option Addr) (cur3 : List Int) (hs7 : Hp) (gs3 : Nat) (s3 : So) (ag3 : Bool) => [(33, .int .i64 (k : Int)), (1, .slice A7 cur3.length c5), (7, .pointer (some ⟨gs3, 0, none⟩)), (9, .bool ag3)])) (hv := (fun (k : Nat) (b3 : Base) (A7 : Option Addr) (cur3 : List Int) (hs7 : Hp) (gs3 : Nat) (s3 : So) (ag3 : Bool) => [(g1, Cl 26 g.cells)] ++ hs7)) (inv := (fun (k : Nat) (b3 : Base) (A7 : Option Addr) (cur3 : List Int) (hs7 : Hp) (gs3 : Nat) (s3 : So) (ag3 : Bool) => k ≤ g.choices.l.length ∧ b2.Le b3 ∧ FI b3 g p A7 cur3 hs7 gs3 s3 ∧ nz cur ≤ nz cur3 ∧ (ag3 = true → nz cur < nz cur3))) (μ := (fun (k : Nat) (b3 : Base) (A7 : Option Addr) (cur3 : List Int) (hs7 : Hp) (gs3 : Nat) (s3 : So) (ag3 : Bool) => g.choices.l.length - k)) (bs := (fun (k : Nat) (b3 : Base) (A7 : Option Addr) (cur3 : List Int) (hs7 : Hp) (gs3 : Nat) (s3 : So) (ag3 : Bool) => b3)) (k + 1) (b4) (some ⟨gb, 0, none⟩) (cur3) ([(gb, Cl 3 (rows encI cur3 ++ tl))]) (gs3) (s3) (ag3) (Base.Le.refl _) ⟨rfl, rfl, rfl, rfl, trivial⟩ ⟨rfl, rfl, rfl, trivial⟩ (by repeat (first | exact List.Sublist.refl _ | exact List.nil_sublist _ | exact List.sublist_append_left _ _ | exact List.sublist_append_right _ _ | exact (List.sublist_append_right _ _).trans (List.sublist_append_right _ _) | apply List.Sublist.cons_cons | apply List.Sublist.cons)) ⟨by omega, (hle3.trans hle4), hf4, hn3, hn4⟩ (by omega)
      ·
        refine t_nil ?_
        refine x_then_normal ?_
        refine c_seq ?_
        refine c_cond_f rfl ?_
        refine c_exit ?_
        refine x_then_exit ?_
        refine x_then_exit ?_
        refine x_block_out ?_
        refine x_block_normal ?_
        exact x_againb7 (ev := (fun (b2 : Base) (A6 : Option Addr) (cur : List Int) (hs6 : Hp) (gs : Nat) (s : So) (ag : Bool) => [(1, .slice A6 cur.length c5), (7, .pointer (some ⟨gs, 0, none⟩)), (9, .bool ag)])) (hv := (fun (b2 : Base) (A6 : Option Addr) (cur : List Int) (hs6 : Hp) (gs : Nat) (s : So) (ag : Bool) => [(g1, Cl 26 g.cells)] ++ hs6)) (inv := (fun (b2 : Base) (A6 : Option Addr) (cur : List Int) (hs6 : Hp) (gs : Nat) (s : So) (ag : Bool) => b1.Le b2 ∧ FI b2 g p A6 cur hs6 gs s)) (μ := (fun (b2 : Base) (A6 : Option Addr) (cur : List Int) (hs6 : Hp) (gs : Nat) (s : So) (ag : Bool) => 2 * (cur.length - nz cur) + (if ag then 1 else 0))) (bs := (fun (b2 : Base) (A6 : Option Addr) (cur : List Int) (hs6 : Hp) (gs : Nat) (s : So) (ag : Bool) => b2)) (b3) (A7) (cur3) (hs7) (gs3) (s3) (ag3) (Base.Le.refl _) ⟨rfl, rfl, rfl, trivial⟩ ⟨rfl, trivial⟩ (by repeat (first | exact List.Sublist.refl _ | exact List.nil_sublist _ | exact List.sublist_append_left _ _ | exact List.sublist_append_right _ _ | exact (List.sublist_append_right _ _).trans (List.sublist_append_right _ _) | apply List.Sublist.cons_cons | apply List.Sublist.cons)) ⟨hle2.trans hle3, hf3⟩ (mu_again (by omega) hn3 hn4 (by assumption))
    ·
      refine t_nil ?_
      refine x_then_normal ?_
      refine c_cond_f rfl ?_
      refine c_exit ?_
      refine x_then_exit ?_
      refine x_then_exit ?_
      refine x_block_out ?_
      refine x_then_normal ?_
      refine c_seq ?_
      refine c_region ?_
      refine t_st rfl (st_move rfl) ?_
      refine t_st rfl (st_move rfl) ?_
      refine t_st rfl (st_assign rfl) ?_
      refine t_st rfl (st_assign rfl) ?_
      refine t_st rfl (st_assign rfl) ?_
      refine t_nil ?_
      refine x_then_normal ?_
      refine c_ret ?_
      refine x_drop (hp' := hs6 ++ hp) (by repeat (first | exact List.Sublist.refl _ | exact List.nil_sublist _ | exact List.sublist_append_left _ _ | exact List.sublist_append_right _ _ | exact (List.sublist_append_right _ _).trans (List.sublist_append_right _ _) | apply List.Sublist.cons_cons | apply List.Sublist.cons)) ?_
      exact retG3 (hle1.trans hle2) rfl rfl rfl rfl (.inr ⟨A6, c5, cur, gs, s, hs6, rfl, rfl, hfi.bk, hfi.pv, hfi.so, hfi.la, hfi.ps, hfi.ag⟩)
theorem forced_F (F R : Hp) (b : Base) (hp : Hp) (g : Gr) (A : Option Addr) (c0 n : Nat) (p : List Int) (hhp : hp = F ++ R) (hn : p.length = n) (hg : GrOk b.w g) (hR : Rd b.w A (rows encI p)) (hV : GraphV g) (hP : PickV g p) : CallsG Try.prog 39 [g.val, .slice A n c0] b hp (FR g p F R) := by
  subst hn
  refine (forced_c b hp g A c0 p hg hR hV hP).perm fun v b' hp' h => ?_
  rcases h with ⟨h1, h2, h3⟩ | ⟨A', c', p', gs, s, hs, h1, h2, h3⟩
  · exact ⟨F ++ R, by rw [h2, hhp]; exact List.Perm.refl _, .inl ⟨h1, rfl, h3⟩⟩
  · exact ⟨F ++ (hs ++ R), by rw [h2, hhp]; exact perm_mid F hs R, .inr ⟨A', c', p', gs, s, hs, h1, rfl, h3⟩⟩


end Go.Proofs.Ytakehdnblmonlaa
