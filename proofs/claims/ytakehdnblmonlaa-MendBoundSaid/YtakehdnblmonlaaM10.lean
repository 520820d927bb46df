/- The contract of picked. -/
import Derived.Test.YtakehdnblmonlaaM9
namespace Go.Proofs.Ytakehdnblmonlaa
open Go.RowKit Go.Fp


/-- Where the loop of picked stands: no solver, or one in memory. -/
def Cur (g : Gr) (M : Nat) (o : Option Sv) (b : Base) (q : Option Addr) (ok : Bool) : Prop :=
  (ok = false ∧ o = none) ∨ (ok = true ∧ ∃ (gs : Nat) (s : So), q = some ⟨gs, 0, none⟩ ∧ o = some s.sv ∧ SoOk b.w gs s ∧ s.last = g.last ∧ SvV g.ready.l.length s.sv ∧ ∀ y ∈ s.outs.l, y.l.length ≤ M)
theorem Cur.more {g : Gr} {M M' : Nat} {o : Option Sv} {b : Base} {q : Option Addr} {ok : Bool} (h : Cur g M o b q ok) (hM : M ≤ M') : Cur g M' o b q ok := by
  rcases h with h | ⟨h1, gs, s, h2, h3, h4, h5, h6, h7⟩
  · exact .inl h
  · exact .inr ⟨h1, gs, s, h2, h3, h4, h5, h6, fun y hy => Nat.le_trans (h7 y hy) hM⟩
theorem pick_snoc {g : Gr} {pick : List Int} {k : Nat} {x : Int} {c : Sl (Sl Arc)} {st : Option Sv} (hx : pick[k]? = some x) (hc : g.choices.l[k]? = some c) :
    ((pick.zip (chA g)).take (k + 1)).foldl (pstep g.last.l) st = pstep g.last.l (((pick.zip (chA g)).take k).foldl (pstep g.last.l) st) (x, c.l.map (·.l)) := by
  have h : (pick.zip (chA g))[k]? = some (x, c.l.map (·.l)) := zip_get hx (by unfold chA; rw [List.getElem?_map, hc]; rfl)
  rw [take_snoc h, List.foldl_append]; rfl
theorem ways_get {c : Sl (Sl Arc)} {j : Nat} {y : Sl Arc} (h : c.l[j]? = some y) : (c.l.map (·.l)).getD j [] = y.l := by
  rw [List.getD_eq_getElem?_getD, List.getElem?_map, h]; rfl
theorem start_sv {g : Gr} {s : Sv} (hV : GraphV g) (h : startF g.ready.l g.last.l g.arcs.l = some s) : SvV g.ready.l.length s := by
  unfold startF at h
  split at h
  · exact withF_v (start_v hV) hV.arcsv hV.nl h
  · cases h

set_option maxRecDepth 10000 in
theorem picked_c (b : Base) (hp : Hp) (g : Gr) (A : Option Addr) (c0 : Nat) (pick : List Int) (hg : GrOk b.w g) (hR : Rd b.w A (rows encI pick)) (hV : GraphV g) (hP : PickV g pick) : CallsB Try.prog 34 [g.val, .slice A pick.length c0] b hp (Res g.last 2000 (pickF g pick)) := by
  have hnr := hV.nr
  have hnc := hV.nc
  have hpl := hP.1
  refine fn_enterB 45 Try.func34 rfl Try.ntmps34 rfl ?_
  refine c_seq ?_
  refine c_region ?_
  refine t_do rfl (u_box _ rfl rfl) ?_
  rintro _ _ ⟨g1, rfl, rfl⟩
  refine t_st rfl (st_assign rfl) ?_
  refine t_st rfl (st_assign rfl) ?_
  refine t_nil ?_
  refine x_then_normal ?_
  refine c_seq ?_
  refine c_region ?_
  refine t_st rfl (st_loadD (vs := [_, _, _, _, _]) 0 5 rfl agg26 rfl rfl rfl) ?_
  refine t_callB _ rfl call42 rfl (start_c _ _ g hg hV) ?_
  rintro _ b9 hle9 (⟨hw, q9, rfl⟩ | ⟨gs9, s9, hw, rfl, hS9, hl9, hm9⟩)
  ·
    have hg := hg.le hle9
    have hR := hR.le hle9
    have hcur : Cur g 250 (startF g.ready.l g.last.l g.arcs.l) b9 q9 false := .inl ⟨rfl, hw⟩
    refine t_st rfl (st_move rfl) ?_
    refine t_st rfl (st_extract rfl rfl) ?_
    refine t_st rfl (st_extract rfl rfl) ?_
    refine t_st rfl (st_assign rfl) ?_
    refine t_st rfl (st_assign rfl) ?_
    refine t_nil ?_
    refine x_then_normal ?_
    refine c_seq ?_
    refine c_seq ?_
    refine c_region ?_
    refine t_st rfl (st_move rfl) ?_
    refine t_st rfl (st_len rfl sl22) ?_
    refine t_st rfl (st_move rfl) ?_
    refine t_nil ?_
    refine x_then_normal ?_
    refine c_block ?_
    refine l_loopb4 (fun (k : Nat) (b1 : Base) (q : Option Addr) (ok : Bool) => b1) [(2, _), (15, _), (16, _)] _ (fun (k : Nat) (b1 : Base) (q : Option Addr) (ok : Bool) => [(17, .int .i64 (k : Int)), (6, .pointer q), (7, .bool ok)]) (fun (k : Nat) (b1 : Base) (q : Option Addr) (ok : Bool) => []) (fun (k : Nat) (b1 : Base) (q : Option Addr) (ok : Bool) => k ≤ pick.length ∧ b9.Le b1 ∧ Cur g (250 + 4 * k) (((pick.zip (chA g)).take k).foldl (pstep g.last.l) (startF g.ready.l g.last.l g.arcs.l)) b1 q ok) (fun (k : Nat) (b1 : Base) (q : Option Addr) (ok : Bool) => pick.length - k) (0) (b9) (q9) (false) rfl ⟨rfl, rfl, rfl, trivial⟩ ⟨rfl, rfl, rfl, trivial⟩ rfl ⟨by omega, Base.Le.refl _, hcur⟩ ?_
    intro k b1 q ok hinv
    obtain ⟨hk, hle1, hcu⟩ := hinv
    have hg := hg.le hle1
    have hR := hR.le hle1
    refine c_seq ?_
    refine c_region ?_
    refine t_bool rfl (st_lss rfl rfl) (fun hc2 => ?_) (fun hc2 => ?_)
    ·
      refine t_nil ?_
      refine x_then_normal ?_
      refine c_seq ?_
      refine c_cond_t rfl ?_
      refine c_skip ?_
      refine x_then_normal ?_
      refine c_seq ?_
      refine c_block ?_
      refine c_seq ?_
      refine c_region ?_
      refine t_st rfl (st_move rfl) ?_
      obtain ⟨x, hx⟩ := ex_get (l := pick) (k := k) (by omega)
      obtain ⟨c, hc⟩ := ex_get (l := g.choices.l) (k := k) (by omega)
      have hcv := hV.choicesv c (mem_of_get hc)
      have hcv3 := hcv.1
      have hpv := hP.2 k x c hx hc
      refine t_st rfl (st_index_old k rfl rfl rfl (by omega) (Rd.isSome encI_len (by decide) hR hx) sl22) ?_
      refine t_st rfl (st_load_old rfl one3 (Rd.row encI_len hR hx (j := 0) rfl)) ?_
      refine t_st rfl (st_assign rfl) ?_
      refine t_st rfl (st_assign rfl) ?_
      refine t_nil ?_
      refine x_then_normal ?_
      refine c_seq ?_
      refine c_region ?_
      refine t_boolv rfl (st_move rfl) (fun hc3 => ?_) (fun hc3 => ?_)
      ·
        refine t_st rfl (st_move rfl) ?_
        refine t_yes 23 rfl rfl rfl ?_
        refine t_st rfl (st_move rfl) ?_
        refine t_yes 23 rfl rfl rfl ?_
        refine t_bool rfl (st_gtr rfl rfl) (fun hc4 => ?_) (fun hc4 => ?_)
        ·
          refine t_st rfl (st_pick_t rfl rfl) ?_
          refine t_nil ?_
          refine x_then_normal ?_
          refine c_cond_t rfl ?_
          refine c_region ?_
          obtain ⟨gs0, s, rfl, hcs, hS, hsl, hsv, hsm⟩ : ∃ (gs : Nat) (s : So), q = some ⟨gs, 0, none⟩ ∧ (((pick.zip (chA g)).take k).foldl (pstep g.last.l) (startF g.ready.l g.last.l g.arcs.l)) = some s.sv ∧ SoOk b1.w gs s ∧ s.last = g.last ∧ SvV g.ready.l.length s.sv ∧ ∀ y ∈ s.outs.l, y.l.length ≤ 250 + 4 * k := by
            rcases hcu with ⟨h1, _⟩ | ⟨_, h2⟩
            · rw [show ok = true by assumption] at h1; cases h1
            · exact h2
          obtain ⟨j, hj⟩ := nat_of (show 0 ≤ x - 1 by omega)
          obtain ⟨y, hyj⟩ := ex_get (l := c.l) (k := j) (by omega)
          have hyv := hcv.2 y (mem_of_get hyj)
          have hy4 := hyv.1
          refine t_st rfl (st_move rfl) ?_
          refine t_st rfl (st_field rfl fld26_4) ?_
          refine t_st rfl (st_load 0 rfl one24 rfl rfl) ?_
          refine t_st rfl (st_move rfl) ?_
          refine t_st rfl (st_index_old k rfl rfl rfl (by omega) (Rd.isSome encS_len (by decide) hg.choices hc) sl24) ?_
          refine t_st rfl (st_field_old rfl (Rd.isSome encS_len (by decide) hg.choices hc) fld37_0) ?_
          refine t_st rfl (st_load_old rfl one35 (Rd.row encS_len hg.choices hc (j := 0) rfl)) ?_
          refine t_st rfl (st_move rfl) ?_
          refine t_st rfl (st_sub rfl rfl (by omega)) ?_
          refine t_st rfl (st_index_old j rfl rfl hj (by omega) (Rd.isSome encS_len (by decide) (hg.ways _ (mem_of_get hc)) hyj) sl35) ?_
          refine t_st rfl (st_load_old rfl one23 (Rd.row encS_len (hg.ways _ (mem_of_get hc)) hyj (j := 0) rfl)) ?_
          refine t_callB _ rfl call41 rfl (with_all _ _ gs0 s _ _ y.l g.ready.l.length (250 + 4 * k) hV.nr hS (hg.steps _ (mem_of_get hc) _ (mem_of_get hyj)) (by omega) hyv.2 hsv (by rw [hsl]; exact hV.nl) hsm (by omega)) ?_
          rintro _ b2 hle2 (⟨hw, q2, rfl⟩ | ⟨gs2, s2, hw, rfl, hS2, hl2, hm2⟩)
          ·
            have hg := hg.le hle2
            have hR := hR.le hle2
            refine t_st rfl (st_move rfl) ?_
            refine t_st rfl (st_extract rfl rfl) ?_
            refine t_st rfl (st_extract rfl rfl) ?_
            refine t_st rfl (st_assign rfl) ?_
            refine t_st rfl (st_assign rfl) ?_
            refine t_nil ?_
            refine x_block_normal ?_
            refine x_then_normal ?_
            refine c_region ?_
            refine t_st rfl (st_add rfl rfl (by omega)) ?_
            refine t_st rfl (st_move rfl) ?_
            refine t_nil ?_
            exact x_againb4 (ev := (fun (k : Nat) (b1 : Base) (q : Option Addr) (ok : Bool) => [(17, .int .i64 (k : Int)), (6, .pointer q), (7, .bool ok)])) (hv := (fun (k : Nat) (b1 : Base) (q : Option Addr) (ok : Bool) => [])) (inv := (fun (k : Nat) (b1 : Base) (q : Option Addr) (ok : Bool) => k ≤ pick.length ∧ b9.Le b1 ∧ Cur g (250 + 4 * k) (((pick.zip (chA g)).take k).foldl (pstep g.last.l) (startF g.ready.l g.last.l g.arcs.l)) b1 q ok)) (μ := (fun (k : Nat) (b1 : Base) (q : Option Addr) (ok : Bool) => pick.length - k)) (bs := (fun (k : Nat) (b1 : Base) (q : Option Addr) (ok : Bool) => b1)) (k + 1) (b2) (q2) (false) (Base.Le.refl _) ⟨rfl, rfl, rfl, trivial⟩ ⟨rfl, rfl, rfl, trivial⟩ (by repeat (first | exact List.Sublist.refl _ | exact List.nil_sublist _ | exact List.sublist_append_left _ _ | exact List.sublist_append_right _ _ | exact (List.sublist_append_right _ _).trans (List.sublist_append_right _ _) | apply List.Sublist.cons_cons | apply List.Sublist.cons)) ⟨by omega, hle1.trans hle2, .inl ⟨rfl, by rw [pick_snoc hx hc, hcs, (show pstep g.last.l (some s.sv) (x, c.l.map (·.l)) = withF s.last.l s.sv y.l from by unfold pstep; simp only; rw [if_pos (by omega), hj, Int.toNat_natCast, ways_get hyj, hsl])]; exact hw⟩⟩ (by omega)
          ·
            have hg := hg.le hle2
            have hR := hR.le hle2
            refine t_st rfl (st_move rfl) ?_
            refine t_st rfl (st_extract rfl rfl) ?_
            refine t_st rfl (st_extract rfl rfl) ?_
            refine t_st rfl (st_assign rfl) ?_
            refine t_st rfl (st_assign rfl) ?_
            refine t_nil ?_
            refine x_block_normal ?_
            refine x_then_normal ?_
            refine c_region ?_
            refine t_st rfl (st_add rfl rfl (by omega)) ?_
            refine t_st rfl (st_move rfl) ?_
            refine t_nil ?_
            exact x_againb4 (ev := (fun (k : Nat) (b1 : Base) (q : Option Addr) (ok : Bool) => [(17, .int .i64 (k : Int)), (6, .pointer q), (7, .bool ok)])) (hv := (fun (k : Nat) (b1 : Base) (q : Option Addr) (ok : Bool) => [])) (inv := (fun (k : Nat) (b1 : Base) (q : Option Addr) (ok : Bool) => k ≤ pick.length ∧ b9.Le b1 ∧ Cur g (250 + 4 * k) (((pick.zip (chA g)).take k).foldl (pstep g.last.l) (startF g.ready.l g.last.l g.arcs.l)) b1 q ok)) (μ := (fun (k : Nat) (b1 : Base) (q : Option Addr) (ok : Bool) => pick.length - k)) (bs := (fun (k : Nat) (b1 : Base) (q : Option Addr) (ok : Bool) => b1)) (k + 1) (b2) (some ⟨gs2, 0, none⟩) (true) (Base.Le.refl _) ⟨rfl, rfl, rfl, trivial⟩ ⟨rfl, rfl, rfl, trivial⟩ (by repeat (first | exact List.Sublist.refl _ | exact List.nil_sublist _ | exact List.sublist_append_left _ _ | exact List.sublist_append_right _ _ | exact (List.sublist_append_right _ _).trans (List.sublist_append_right _ _) | apply List.Sublist.cons_cons | apply List.Sublist.cons)) ⟨by omega, hle1.trans hle2, .inr ⟨rfl, gs2, s2, rfl, by rw [pick_snoc hx hc, hcs, (show pstep g.last.l (some s.sv) (x, c.l.map (·.l)) = withF s.last.l s.sv y.l from by unfold pstep; simp only; rw [if_pos (by omega), hj, Int.toNat_natCast, ways_get hyj, hsl])]; exact hw, hS2, by rw [hl2, hsl], withF_v hsv hyv.2 (by rw [hsl]; exact hV.nl) hw, fun y2 hy2 => by have := hm2 y2 hy2; omega⟩⟩ (by omega)
        ·
          refine t_st rfl (st_pick_t rfl rfl) ?_
          refine t_nil ?_
          refine x_then_normal ?_
          refine c_cond_f rfl ?_
          refine c_skip ?_
          refine x_block_normal ?_
          refine x_then_normal ?_
          refine c_region ?_
          refine t_st rfl (st_add rfl rfl (by omega)) ?_
          refine t_st rfl (st_move rfl) ?_
          refine t_nil ?_
          exact x_againb4 (ev := (fun (k : Nat) (b1 : Base) (q : Option Addr) (ok : Bool) => [(17, .int .i64 (k : Int)), (6, .pointer q), (7, .bool ok)])) (hv := (fun (k : Nat) (b1 : Base) (q : Option Addr) (ok : Bool) => [])) (inv := (fun (k : Nat) (b1 : Base) (q : Option Addr) (ok : Bool) => k ≤ pick.length ∧ b9.Le b1 ∧ Cur g (250 + 4 * k) (((pick.zip (chA g)).take k).foldl (pstep g.last.l) (startF g.ready.l g.last.l g.arcs.l)) b1 q ok)) (μ := (fun (k : Nat) (b1 : Base) (q : Option Addr) (ok : Bool) => pick.length - k)) (bs := (fun (k : Nat) (b1 : Base) (q : Option Addr) (ok : Bool) => b1)) (k + 1) (b1) (q) (ok) (Base.Le.refl _) ⟨rfl, rfl, rfl, trivial⟩ ⟨rfl, rfl, rfl, trivial⟩ (by repeat (first | exact List.Sublist.refl _ | exact List.nil_sublist _ | exact List.sublist_append_left _ _ | exact List.sublist_append_right _ _ | exact (List.sublist_append_right _ _).trans (List.sublist_append_right _ _) | apply List.Sublist.cons_cons | apply List.Sublist.cons)) ⟨by omega, hle1, by
                rw [pick_snoc hx hc]
                rcases hcu with ⟨h1, h2⟩ | ⟨h1, gs1, s1, h2, h3, h4⟩
                · exact .inl ⟨h1, by rw [h2]; rfl⟩
                · by_cases hokf : ok = false
                  · exact absurd h1 (by rw [hokf]; decide)
                  refine Cur.more (M := 250 + 4 * k) ?_ (by omega)
                  refine .inr ⟨h1, gs1, s1, h2, ?_, h4⟩
                  rw [h3]
                  unfold pstep
                  simp only
                  rw [if_neg (by first | omega | (exact absurd (show ok = false by assumption) hokf))]⟩ (by omega)
      ·
        refine t_st rfl (st_move rfl) ?_
        refine t_no 23 rfl rfl rfl rfl rfl ?_
        refine t_no 23 rfl rfl rfl rfl rfl ?_
        refine t_st rfl (st_pick_f rfl rfl) ?_
        refine t_nil ?_
        refine x_then_normal ?_
        refine c_cond_f rfl ?_
        refine c_skip ?_
        refine x_block_normal ?_
        refine x_then_normal ?_
        refine c_region ?_
        refine t_st rfl (st_add rfl rfl (by omega)) ?_
        refine t_st rfl (st_move rfl) ?_
        refine t_nil ?_
        exact x_againb4 (ev := (fun (k : Nat) (b1 : Base) (q : Option Addr) (ok : Bool) => [(17, .int .i64 (k : Int)), (6, .pointer q), (7, .bool ok)])) (hv := (fun (k : Nat) (b1 : Base) (q : Option Addr) (ok : Bool) => [])) (inv := (fun (k : Nat) (b1 : Base) (q : Option Addr) (ok : Bool) => k ≤ pick.length ∧ b9.Le b1 ∧ Cur g (250 + 4 * k) (((pick.zip (chA g)).take k).foldl (pstep g.last.l) (startF g.ready.l g.last.l g.arcs.l)) b1 q ok)) (μ := (fun (k : Nat) (b1 : Base) (q : Option Addr) (ok : Bool) => pick.length - k)) (bs := (fun (k : Nat) (b1 : Base) (q : Option Addr) (ok : Bool) => b1)) (k + 1) (b1) (q) (ok) (Base.Le.refl _) ⟨rfl, rfl, rfl, trivial⟩ ⟨rfl, rfl, rfl, trivial⟩ (by repeat (first | exact List.Sublist.refl _ | exact List.nil_sublist _ | exact List.sublist_append_left _ _ | exact List.sublist_append_right _ _ | exact (List.sublist_append_right _ _).trans (List.sublist_append_right _ _) | apply List.Sublist.cons_cons | apply List.Sublist.cons)) ⟨by omega, hle1, by
              rw [pick_snoc hx hc]
              rcases hcu with ⟨h1, h2⟩ | ⟨h1, gs1, s1, h2, h3, h4⟩
              · exact .inl ⟨h1, by rw [h2]; rfl⟩
              · by_cases hokf : ok = false
                · exact absurd h1 (by rw [hokf]; decide)
                refine Cur.more (M := 250 + 4 * k) ?_ (by omega)
                refine .inr ⟨h1, gs1, s1, h2, ?_, h4⟩
                rw [h3]
                unfold pstep
                simp only
                rw [if_neg (by first | omega | (exact absurd (show ok = false by assumption) hokf))]⟩ (by omega)
    ·
      refine t_nil ?_
      refine x_then_normal ?_
      refine c_seq ?_
      refine c_cond_f rfl ?_
      refine c_exit ?_
      refine x_then_exit ?_
      refine x_then_exit ?_
      refine x_block_out ?_
      refine x_then_normal ?_
      refine c_seq ?_
      refine c_region ?_
      refine t_st rfl (st_move rfl) ?_
      refine t_st rfl (st_move rfl) ?_
      refine t_st rfl (st_assign rfl) ?_
      refine t_st rfl (st_assign rfl) ?_
      refine t_nil ?_
      refine x_then_normal ?_
      refine c_ret ?_
      refine x_drop (hp' := hp) (by repeat (first | exact List.Sublist.refl _ | exact List.nil_sublist _ | exact List.sublist_append_left _ _ | exact List.sublist_append_right _ _ | exact (List.sublist_append_right _ _).trans (List.sublist_append_right _ _) | apply List.Sublist.cons_cons | apply List.Sublist.cons)) ?_
      exact retB2 (hle9.trans hle1) rfl rfl rfl (by
          have hend : (pick.zip (chA g)).take k = pick.zip (chA g) := List.take_of_length_le (by rw [List.length_zip]; omega)
          rw [hend] at hcu
          rcases hcu with ⟨rfl, h2⟩ | ⟨rfl, gs1, s1, rfl, h3, h4, h5, _, h6⟩
          · exact .inl ⟨h2, q, rfl⟩
          · exact .inr ⟨gs1, s1, h3, rfl, h4, h5, fun y hy => by have := h6 y hy; have := hV.nc; omega⟩)
  ·
    have hg := hg.le hle9
    have hR := hR.le hle9
    have hcur : Cur g 250 (startF g.ready.l g.last.l g.arcs.l) b9 (some ⟨gs9, 0, none⟩) true := .inr ⟨rfl, gs9, s9, rfl, hw, hS9, hl9, start_sv hV hw, hm9⟩
    refine t_st rfl (st_move rfl) ?_
    refine t_st rfl (st_extract rfl rfl) ?_
    refine t_st rfl (st_extract rfl rfl) ?_
    refine t_st rfl (st_assign rfl) ?_
    refine t_st rfl (st_assign rfl) ?_
    refine t_nil ?_
    refine x_then_normal ?_
    refine c_seq ?_
    refine c_seq ?_
    refine c_region ?_
    refine t_st rfl (st_move rfl) ?_
    refine t_st rfl (st_len rfl sl22) ?_
    refine t_st rfl (st_move rfl) ?_
    refine t_nil ?_
    refine x_then_normal ?_
    refine c_block ?_
    refine l_loopb4 (fun (k : Nat) (b1 : Base) (q : Option Addr) (ok : Bool) => b1) [(2, _), (15, _), (16, _)] _ (fun (k : Nat) (b1 : Base) (q : Option Addr) (ok : Bool) => [(17, .int .i64 (k : Int)), (6, .pointer q), (7, .bool ok)]) (fun (k : Nat) (b1 : Base) (q : Option Addr) (ok : Bool) => []) (fun (k : Nat) (b1 : Base) (q : Option Addr) (ok : Bool) => k ≤ pick.length ∧ b9.Le b1 ∧ Cur g (250 + 4 * k) (((pick.zip (chA g)).take k).foldl (pstep g.last.l) (startF g.ready.l g.last.l g.arcs.l)) b1 q ok) (fun (k : Nat) (b1 : Base) (q : Option Addr) (ok : Bool) => pick.length - k) (0) (b9) (some ⟨gs9, 0, none⟩) (true) rfl ⟨rfl, rfl, rfl, trivial⟩ ⟨rfl, rfl, rfl, trivial⟩ rfl ⟨by omega, Base.Le.refl _, hcur⟩ ?_
    intro k b1 q ok hinv
    obtain ⟨hk, hle1, hcu⟩ := hinv
    have hg := hg.le hle1
    have hR := hR.le hle1
    refine c_seq ?_
    refine c_region ?_
    refine t_bool rfl (st_lss rfl rfl) (fun hc5 => ?_) (fun hc5 => ?_)
    ·
      refine t_nil ?_
      refine x_then_normal ?_
      refine c_seq ?_
      refine c_cond_t rfl ?_
      refine c_skip ?_
      refine x_then_normal ?_
      refine c_seq ?_
      refine c_block ?_
      refine c_seq ?_
      refine c_region ?_
      refine t_st rfl (st_move rfl) ?_
      obtain ⟨x, hx⟩ := ex_get (l := pick) (k := k) (by omega)
      obtain ⟨c, hc⟩ := ex_get (l := g.choices.l) (k := k) (by omega)
      have hcv := hV.choicesv c (mem_of_get hc)
      have hcv3 := hcv.1
      have hpv := hP.2 k x c hx hc
      refine t_st rfl (st_index_old k rfl rfl rfl (by omega) (Rd.isSome encI_len (by decide) hR hx) sl22) ?_
      refine t_st rfl (st_load_old rfl one3 (Rd.row encI_len hR hx (j := 0) rfl)) ?_
      refine t_st rfl (st_assign rfl) ?_
      refine t_st rfl (st_assign rfl) ?_
      refine t_nil ?_
      refine x_then_normal ?_
      refine c_seq ?_
      refine c_region ?_
      refine t_boolv rfl (st_move rfl) (fun hc6 => ?_) (fun hc6 => ?_)
      ·
        refine t_st rfl (st_move rfl) ?_
        refine t_yes 23 rfl rfl rfl ?_
        refine t_st rfl (st_move rfl) ?_
        refine t_yes 23 rfl rfl rfl ?_
        refine t_bool rfl (st_gtr rfl rfl) (fun hc7 => ?_) (fun hc7 => ?_)
        ·
          refine t_st rfl (st_pick_t rfl rfl) ?_
          refine t_nil ?_
          refine x_then_normal ?_
          refine c_cond_t rfl ?_
          refine c_region ?_
          obtain ⟨gs0, s, rfl, hcs, hS, hsl, hsv, hsm⟩ : ∃ (gs : Nat) (s : So), q = some ⟨gs, 0, none⟩ ∧ (((pick.zip (chA g)).take k).foldl (pstep g.last.l) (startF g.ready.l g.last.l g.arcs.l)) = some s.sv ∧ SoOk b1.w gs s ∧ s.last = g.last ∧ SvV g.ready.l.length s.sv ∧ ∀ y ∈ s.outs.l, y.l.length ≤ 250 + 4 * k := by
            rcases hcu with ⟨h1, _⟩ | ⟨_, h2⟩
            · rw [show ok = true by assumption] at h1; cases h1
            · exact h2
          obtain ⟨j, hj⟩ := nat_of (show 0 ≤ x - 1 by omega)
          obtain ⟨y, hyj⟩ := ex_get (l := c.l) (k := j) (by omega)
          have hyv := hcv.2 y (mem_of_get hyj)
          have hy4 := hyv.1
          refine t_st rfl (st_move rfl) ?_
          refine t_st rfl (st_field rfl fld26_4) ?_
          refine t_st rfl (st_load 0 rfl one24 rfl rfl) ?_
          refine t_st rfl (st_move rfl) ?_
          refine t_st rfl (st_index_old k rfl rfl rfl (by omega) (Rd.isSome encS_len (by decide) hg.choices hc) sl24) ?_
          refine t_st rfl (st_field_old rfl (Rd.isSome encS_len (by decide) hg.choices hc) fld37_0) ?_
          refine t_st rfl (st_load_old rfl one35 (Rd.row encS_len hg.choices hc (j := 0) rfl)) ?_
          refine t_st rfl (st_move rfl) ?_
          refine t_st rfl (st_sub rfl rfl (by omega)) ?_
          refine t_st rfl (st_index_old j rfl rfl hj (by omega) (Rd.isSome encS_len (by decide) (hg.ways _ (mem_of_get hc)) hyj) sl35) ?_
          refine t_st rfl (st_load_old rfl one23 (Rd.row encS_len (hg.ways _ (mem_of_get hc)) hyj (j := 0) rfl)) ?_
          refine t_callB _ rfl call41 rfl (with_all _ _ gs0 s _ _ y.l g.ready.l.length (250 + 4 * k) hV.nr hS (hg.steps _ (mem_of_get hc) _ (mem_of_get hyj)) (by omega) hyv.2 hsv (by rw [hsl]; exact hV.nl) hsm (by omega)) ?_
          rintro _ b2 hle2 (⟨hw, q2, rfl⟩ | ⟨gs2, s2, hw, rfl, hS2, hl2, hm2⟩)
          ·
            have hg := hg.le hle2
            have hR := hR.le hle2
            refine t_st rfl (st_move rfl) ?_
            refine t_st rfl (st_extract rfl rfl) ?_
            refine t_st rfl (st_extract rfl rfl) ?_
            refine t_st rfl (st_assign rfl) ?_
            refine t_st rfl (st_assign rfl) ?_
            refine t_nil ?_
            refine x_block_normal ?_
            refine x_then_normal ?_
            refine c_region ?_
            refine t_st rfl (st_add rfl rfl (by omega)) ?_
            refine t_st rfl (st_move rfl) ?_
            refine t_nil ?_
            exact x_againb4 (ev := (fun (k : Nat) (b1 : Base) (q : Option Addr) (ok : Bool) => [(17, .int .i64 (k : Int)), (6, .pointer q), (7, .bool ok)])) (hv := (fun (k : Nat) (b1 : Base) (q : Option Addr) (ok : Bool) => [])) (inv := (fun (k : Nat) (b1 : Base) (q : Option Addr) (ok : Bool) => k ≤ pick.length ∧ b9.Le b1 ∧ Cur g (250 + 4 * k) (((pick.zip (chA g)).take k).foldl (pstep g.last.l) (startF g.ready.l g.last.l g.arcs.l)) b1 q ok)) (μ := (fun (k : Nat) (b1 : Base) (q : Option Addr) (ok : Bool) => pick.length - k)) (bs := (fun (k : Nat) (b1 : Base) (q : Option Addr) (ok : Bool) => b1)) (k + 1) (b2) (q2) (false) (Base.Le.refl _) ⟨rfl, rfl, rfl, trivial⟩ ⟨rfl, rfl, rfl, trivial⟩ (by repeat (first | exact List.Sublist.refl _ | exact List.nil_sublist _ | exact List.sublist_append_left _ _ | exact List.sublist_append_right _ _ | exact (List.sublist_append_right _ _).trans (List.sublist_append_right _ _) | apply List.Sublist.cons_cons | apply List.Sublist.cons)) ⟨by omega, hle1.trans hle2, .inl ⟨rfl, by rw [pick_snoc hx hc, hcs, (show pstep g.last.l (some s.sv) (x, c.l.map (·.l)) = withF s.last.l s.sv y.l from by unfold pstep; simp only; rw [if_pos (by omega), hj, Int.toNat_natCast, ways_get hyj, hsl])]; exact hw⟩⟩ (by omega)
          ·
            have hg := hg.le hle2
            have hR := hR.le hle2
            refine t_st rfl (st_move rfl) ?_
            refine t_st rfl (st_extract rfl rfl) ?_
            refine t_st rfl (st_extract rfl rfl) ?_
            refine t_st rfl (st_assign rfl) ?_
            refine t_st rfl (st_assign rfl) ?_
            refine t_nil ?_
            refine x_block_normal ?_
            refine x_then_normal ?_
            refine c_region ?_
            refine t_st rfl (st_add rfl rfl (by omega)) ?_
            refine t_st rfl (st_move rfl) ?_
            refine t_nil ?_
            exact x_againb4 (ev := (fun (k : Nat) (b1 : Base) (q : Option Addr) (ok : Bool) => [(17, .int .i64 (k : Int)), (6, .pointer q), (7, .bool ok)])) (hv := (fun (k : Nat) (b1 : Base) (q : Option Addr) (ok : Bool) => [])) (inv := (fun (k : Nat) (b1 : Base) (q : Option Addr) (ok : Bool) => k ≤ pick.length ∧ b9.Le b1 ∧ Cur g (250 + 4 * k) (((pick.zip (chA g)).take k).foldl (pstep g.last.l) (startF g.ready.l g.last.l g.arcs.l)) b1 q ok)) (μ := (fun (k : Nat) (b1 : Base) (q : Option Addr) (ok : Bool) => pick.length - k)) (bs := (fun (k : Nat) (b1 : Base) (q : Option Addr) (ok : Bool) => b1)) (k + 1) (b2) (some ⟨gs2, 0, none⟩) (true) (Base.Le.refl _) ⟨rfl, rfl, rfl, trivial⟩ ⟨rfl, rfl, rfl, trivial⟩ (by repeat (first | exact List.Sublist.refl _ | exact List.nil_sublist _ | exact List.sublist_append_left _ _ | exact List.sublist_append_right _ _ | exact (List.sublist_append_right _ _).trans (List.sublist_append_right _ _) | apply List.Sublist.cons_cons | apply List.Sublist.cons)) ⟨by omega, hle1.trans hle2, .inr ⟨rfl, gs2, s2, rfl, by rw [pick_snoc hx hc, hcs, (show pstep g.last.l (some s.sv) (x, c.l.map (·.l)) = withF s.last.l s.sv y.l from by unfold pstep; simp only; rw [if_pos (by omega), hj, Int.toNat_natCast, ways_get hyj, hsl])]; exact hw, hS2, by rw [hl2, hsl], withF_v hsv hyv.2 (by rw [hsl]; exact hV.nl) hw, fun y2 hy2 => by have := hm2 y2 hy2; omega⟩⟩ (by omega)
        ·
          refine t_st rfl (st_pick_t rfl rfl) ?_
          refine t_nil ?_
          refine x_then_normal ?_
          refine c_cond_f rfl ?_
          refine c_skip ?_
          refine x_block_normal ?_
          refine x_then_normal ?_
          refine c_region ?_
          refine t_st rfl (st_add rfl rfl (by omega)) ?_
          refine t_st rfl (st_move rfl) ?_
          refine t_nil ?_
          exact x_againb4 (ev := (fun (k : Nat) (b1 : Base) (q : Option Addr) (ok : Bool) => [(17, .int .i64 (k : Int)), (6, .pointer q), (7, .bool ok)])) (hv := (fun (k : Nat) (b1 : Base) (q : Option Addr) (ok : Bool) => [])) (inv := (fun (k : Nat) (b1 : Base) (q : Option Addr) (ok : Bool) => k ≤ pick.length ∧ b9.Le b1 ∧ Cur g (250 + 4 * k) (((pick.zip (chA g)).take k).foldl (pstep g.last.l) (startF g.ready.l g.last.l g.arcs.l)) b1 q ok)) (μ := (fun (k : Nat) (b1 : Base) (q : Option Addr) (ok : Bool) => pick.length - k)) (bs := (fun (k : Nat) (b1 : Base) (q : Option Addr) (ok : Bool) => b1)) (k + 1) (b1) (q) (ok) (Base.Le.refl _) ⟨rfl, rfl, rfl, trivial⟩ ⟨rfl, rfl, rfl, trivial⟩ (by repeat (first | exact List.Sublist.refl _ | exact List.nil_sublist _ | exact List.sublist_append_left _ _ | exact List.sublist_append_right _ _ | exact (List.sublist_append_right _ _).trans (List.sublist_append_right _ _) | apply List.Sublist.cons_cons | apply List.Sublist.cons)) ⟨by omega, hle1, by
                rw [pick_snoc hx hc]
                rcases hcu with ⟨h1, h2⟩ | ⟨h1, gs1, s1, h2, h3, h4⟩
                · exact .inl ⟨h1, by rw [h2]; rfl⟩
                · by_cases hokf : ok = false
                  · exact absurd h1 (by rw [hokf]; decide)
                  refine Cur.more (M := 250 + 4 * k) ?_ (by omega)
                  refine .inr ⟨h1, gs1, s1, h2, ?_, h4⟩
                  rw [h3]
                  unfold pstep
                  simp only
                  rw [if_neg (by first | omega | (exact absurd (show ok = false by assumption) hokf))]⟩ (by omega)
      ·
        refine t_st rfl (st_move rfl) ?_
        refine t_no 23 rfl rfl rfl rfl rfl ?_
        refine t_no 23 rfl rfl rfl rfl rfl ?_
        refine t_st rfl (st_pick_f rfl rfl) ?_
        refine t_nil ?_
        refine x_then_normal ?_
        refine c_cond_f rfl ?_
        refine c_skip ?_
        refine x_block_normal ?_
        refine x_then_normal ?_
        refine c_region ?_
        refine t_st rfl (st_add rfl rfl (by omega)) ?_
        refine t_st rfl (st_move rfl) ?_
        refine t_nil ?_
        exact x_againb4 (ev := (fun (k : Nat) (b1 : Base) (q : Option Addr) (ok : Bool) => [(17, .int .i64 (k : Int)), (6, .pointer q), (7, .bool ok)])) (hv := (fun (k : Nat) (b1 : Base) (q : Option Addr) (ok : Bool) => [])) (inv := (fun (k : Nat) (b1 : Base) (q : Option Addr) (ok : Bool) => k ≤ pick.length ∧ b9.Le b1 ∧ Cur g (250 + 4 * k) (((pick.zip (chA g)).take k).foldl (pstep g.last.l) (startF g.ready.l g.last.l g.arcs.l)) b1 q ok)) (μ := (fun (k : Nat) (b1 : Base) (q : Option Addr) (ok : Bool) => pick.length - k)) (bs := (fun (k : Nat) (b1 : Base) (q : Option Addr) (ok : Bool) => b1)) (k + 1) (b1) (q) (ok) (Base.Le.refl _) ⟨rfl, rfl, rfl, trivial⟩ ⟨rfl, rfl, rfl, trivial⟩ (by repeat (first | exact List.Sublist.refl _ | exact List.nil_sublist _ | exact List.sublist_append_left _ _ | exact List.sublist_append_right _ _ | exact (List.sublist_append_right _ _).trans (List.sublist_append_right _ _) | apply List.Sublist.cons_cons | apply List.Sublist.cons)) ⟨by omega, hle1, by
              rw [pick_snoc hx hc]
              rcases hcu with ⟨h1, h2⟩ | ⟨h1, gs1, s1, h2, h3, h4⟩
              · exact .inl ⟨h1, by rw [h2]; rfl⟩
              · by_cases hokf : ok = false
                · exact absurd h1 (by rw [hokf]; decide)
                refine Cur.more (M := 250 + 4 * k) ?_ (by omega)
                refine .inr ⟨h1, gs1, s1, h2, ?_, h4⟩
                rw [h3]
                unfold pstep
                simp only
                rw [if_neg (by first | omega | (exact absurd (show ok = false by assumption) hokf))]⟩ (by omega)
    ·
      refine t_nil ?_
      refine x_then_normal ?_
      refine c_seq ?_
      refine c_cond_f rfl ?_
      refine c_exit ?_
      refine x_then_exit ?_
      refine x_then_exit ?_
      refine x_block_out ?_
      refine x_then_normal ?_
      refine c_seq ?_
      refine c_region ?_
      refine t_st rfl (st_move rfl) ?_
      refine t_st rfl (st_move rfl) ?_
      refine t_st rfl (st_assign rfl) ?_
      refine t_st rfl (st_assign rfl) ?_
      refine t_nil ?_
      refine x_then_normal ?_
      refine c_ret ?_
      refine x_drop (hp' := hp) (by repeat (first | exact List.Sublist.refl _ | exact List.nil_sublist _ | exact List.sublist_append_left _ _ | exact List.sublist_append_right _ _ | exact (List.sublist_append_right _ _).trans (List.sublist_append_right _ _) | apply List.Sublist.cons_cons | apply List.Sublist.cons)) ?_
      exact retB2 (hle9.trans hle1) rfl rfl rfl (by
          have hend : (pick.zip (chA g)).take k = pick.zip (chA g) := List.take_of_length_le (by rw [List.length_zip]; omega)
          rw [hend] at hcu
          rcases hcu with ⟨rfl, h2⟩ | ⟨rfl, gs1, s1, rfl, h3, h4, h5, _, h6⟩
          · exact .inl ⟨h2, q, rfl⟩
          · exact .inr ⟨gs1, s1, h3, rfl, h4, h5, fun y hy => by have := h6 y hy; have := hV.nc; omega⟩)

end Go.Proofs.Ytakehdnblmonlaa
