/- The contract of MendBound: it answers true. -/
import Derived.Test.YtakehdnblmonlaaM29
import Derived.Test.YtakehdnblmonlaaM25
import Derived.Test.YtakehdnblmonlaaM24
namespace Go.Proofs.Ytakehdnblmonlaa
open Go.RowKit Go.Fp


theorem does_nil {P : Program} {n : Nat} {w0 : Base} {op : Op} {ty : TypeId} {e : Env} {hp : Hp} {x : Value} (h : Does P n w0 op ty e hp (fun v hp' => ∃ hp1, hp' = hp1 ++ hp ∧ (v = x ∧ hp1 = []))) : Does P n w0 op ty e hp (fun v hp' => v = x ∧ hp' = hp) :=
  ⟨fun a w hf ho d pos af g K Q hK => h.out a w hf ho d pos af g K Q (fun v hp' w' ⟨hp1, h1, h2, h3⟩ ho' => hK v hp' w' ⟨h2, by rw [h1, h3]; rfl⟩ ho')⟩
theorem agree_self (p : List Int) : Agree p p := ⟨rfl, fun k x y hx hy => .inr (by rw [hx] at hy; injection hy)⟩
theorem agree_put {g : Gr} {p cur : List Int} {k : Nat} (hv : PickV g cur) (ha : Agree cur p) : PickV g (cur.set k 0) ∧ Agree (cur.set k 0) p := by
  refine ⟨⟨by rw [List.length_set]; exact hv.1, fun n x c hx hc => ?_⟩, by rw [List.length_set]; exact ha.1, fun n x y hx hy => ?_⟩
  · by_cases hn : n = k
    · subst hn
      have hlt : n < cur.length := by have := lt_of_get hx; rwa [List.length_set] at this
      rw [List.getElem?_set_self hlt] at hx
      injection hx with hx
      omega
    · rw [List.getElem?_set_ne (by omega)] at hx
      exact hv.2 n x c hx hc
  · by_cases hn : n = k
    · subst hn
      have hlt : n < cur.length := by have := lt_of_get hx; rwa [List.length_set] at this
      rw [List.getElem?_set_self hlt] at hx
      injection hx with hx
      exact .inl hx.symm
    · rw [List.getElem?_set_ne (by omega)] at hx
      exact ha.2 n x y hx hy
set_option maxRecDepth 10000 in
theorem MendBound_c (b : Base) (hp : Hp) (g : Gr) (A B : Option Addr) (c d : Nat) (p m : List Int) (hg : GrOk b.w g) (hA : Rd b.w A (rows encI p)) (hB : Rd b.w B (rows encI m)) (hpl : p.length ≤ 9223372036854775807) (_hml : m.length ≤ 9223372036854775807) :
    CallsB Try.prog 4 [g.val, .slice A p.length c, .slice B m.length d] b hp (fun v _ => v = .bool true) := by
  refine fn_enterB 136 Try.func4 rfl Try.ntmps4 rfl ?_
  refine c_seq ?_
  refine c_region ?_
  refine t_do rfl (u_box _ rfl rfl) ?_
  rintro _ _ ⟨g1, rfl, rfl⟩
  refine t_st rfl (st_assign rfl) ?_
  refine t_nil ?_
  refine x_then_normal ?_
  refine c_seq ?_
  refine c_seq ?_
  refine c_region ?_
  refine t_callB _ rfl call7 rfl (awake_c _ _) ?_
  rintro _ b1 hle1 (rfl)
  ·
    have hg := hg.le hle1
    have hA := hA.le hle1
    have hB := hB.le hle1
    refine t_st rfl (st_not_t rfl) ?_
    refine t_nil ?_
    refine x_then_normal ?_
    refine c_cond_f rfl ?_
    refine c_skip ?_
    refine x_then_normal ?_
    refine c_seq ?_
    refine c_seq ?_
    refine c_region ?_
    refine t_callB _ rfl call8 rfl (graphs_c _ _) ?_
    rintro _ b2 hle2 (rfl)
    ·
      have hg := hg.le hle2
      have hA := hA.le hle2
      have hB := hB.le hle2
      refine t_st rfl (st_not_t rfl) ?_
      refine t_nil ?_
      refine x_then_normal ?_
      refine c_cond_f rfl ?_
      refine c_skip ?_
      refine x_then_normal ?_
      refine c_seq ?_
      refine c_seq ?_
      refine c_region ?_
      refine t_st rfl (st_loadD (vs := [_, _, _, _, _]) 0 5 rfl agg26 rfl rfl rfl) ?_
      refine t_st rfl (st_move rfl) ?_
      refine t_do rfl (u_callf _ call9 rfl (fun w ho => PickFault_c g _ _ p w (hg.old ho) (hA.old ho) hpl)) ?_
      rintro _ _ ⟨_, rfl, r1, rfl, hr1, rfl⟩
      refine t_bool rfl (st_neq rfl rfl) (fun hc2 => ?_) (fun hc2 => ?_)
      ·
        refine t_st rfl (st_move rfl) ?_
        refine t_no 29 rfl rfl rfl rfl rfl ?_
        refine t_no 29 rfl rfl rfl rfl rfl ?_
        refine t_st rfl (st_pick_t rfl rfl) ?_
        refine t_st rfl (st_move rfl) ?_
        refine t_no 33 rfl rfl rfl rfl rfl ?_
        refine t_no 33 rfl rfl rfl rfl rfl ?_
        refine t_no 33 rfl rfl rfl rfl rfl ?_
        refine t_no 33 rfl rfl rfl rfl rfl ?_
        refine t_no 33 rfl rfl rfl rfl rfl ?_
        refine t_st rfl (st_pick_t rfl rfl) ?_
        refine t_nil ?_
        refine x_then_normal ?_
        refine c_cond_t rfl ?_
        refine c_seq ?_
        refine c_region ?_
        refine t_st rfl (st_assign rfl) ?_
        refine t_nil ?_
        refine x_then_normal ?_
        refine c_ret ?_
        refine x_then_ret ?_
        refine x_drop (hp' := hp) (by repeat (first | exact List.Sublist.refl _ | exact List.nil_sublist _ | exact List.sublist_append_left _ _ | exact List.sublist_append_right _ _ | exact (List.sublist_append_right _ _).trans (List.sublist_append_right _ _) | apply List.Sublist.cons_cons | apply List.Sublist.cons)) ?_
        exact retB1 (hle1.trans hle2) rfl rfl rfl
      ·
        refine t_st rfl (st_move rfl) ?_
        refine t_yes 29 rfl rfl rfl ?_
        refine t_st rfl (st_move rfl) ?_
        refine t_yes 29 rfl rfl rfl ?_
        refine t_doB rfl (does_nil (u_callf _ call13 rfl (fun w ho => containsI_c _ _ p 0 w (hA.old ho) hpl))) (fun hc3 => ?_) (fun hc3 => ?_)
        ·
          refine t_st rfl (st_pick_f rfl rfl) ?_
          refine t_st rfl (st_move rfl) ?_
          refine t_no 33 rfl rfl rfl rfl rfl ?_
          refine t_no 33 rfl rfl rfl rfl rfl ?_
          refine t_no 33 rfl rfl rfl rfl rfl ?_
          refine t_no 33 rfl rfl rfl rfl rfl ?_
          refine t_no 33 rfl rfl rfl rfl rfl ?_
          refine t_st rfl (st_pick_t rfl rfl) ?_
          refine t_nil ?_
          refine x_then_normal ?_
          refine c_cond_t rfl ?_
          refine c_seq ?_
          refine c_region ?_
          refine t_st rfl (st_assign rfl) ?_
          refine t_nil ?_
          refine x_then_normal ?_
          refine c_ret ?_
          refine x_then_ret ?_
          refine x_drop (hp' := hp) (by repeat (first | exact List.Sublist.refl _ | exact List.nil_sublist _ | exact List.sublist_append_left _ _ | exact List.sublist_append_right _ _ | exact (List.sublist_append_right _ _).trans (List.sublist_append_right _ _) | apply List.Sublist.cons_cons | apply List.Sublist.cons)) ?_
          exact retB1 (hle1.trans hle2) rfl rfl rfl
        ·
          refine t_st rfl (st_pick_f rfl rfl) ?_
          refine t_st rfl (st_move rfl) ?_
          refine t_yes 33 rfl rfl rfl ?_
          refine t_st rfl (st_move rfl) ?_
          refine t_yes 33 rfl rfl rfl ?_
          refine t_st rfl (st_len rfl sl22) ?_
          refine t_yes 33 rfl rfl rfl ?_
          refine t_st rfl (st_move rfl) ?_
          refine t_yes 33 rfl rfl rfl ?_
          refine t_st rfl (st_len rfl sl22) ?_
          refine t_yes 33 rfl rfl rfl ?_
          refine t_bool rfl (st_neq rfl rfl) (fun hc4 => ?_) (fun hc4 => ?_)
          ·
            refine t_st rfl (st_pick_f rfl rfl) ?_
            refine t_nil ?_
            refine x_then_normal ?_
            refine c_cond_t rfl ?_
            refine c_seq ?_
            refine c_region ?_
            refine t_st rfl (st_assign rfl) ?_
            refine t_nil ?_
            refine x_then_normal ?_
            refine c_ret ?_
            refine x_then_ret ?_
            refine x_drop (hp' := hp) (by repeat (first | exact List.Sublist.refl _ | exact List.nil_sublist _ | exact List.sublist_append_left _ _ | exact List.sublist_append_right _ _ | exact (List.sublist_append_right _ _).trans (List.sublist_append_right _ _) | apply List.Sublist.cons_cons | apply List.Sublist.cons)) ?_
            exact retB1 (hle1.trans hle2) rfl rfl rfl
          ·
            refine t_st rfl (st_pick_f rfl rfl) ?_
            refine t_nil ?_
            refine x_then_normal ?_
            refine c_cond_f rfl ?_
            refine c_skip ?_
            refine x_then_normal ?_
            refine c_seq ?_
            refine c_region ?_
            obtain ⟨hV, hP⟩ := hr1.1 (by omega)
            have hFu : FullP p := fun x hx h0 => (show (0 : Int) ∉ p by assumption) (h0 ▸ hx)
            have hnc := hV.nc
            have hp1 := hP.1
            refine t_st rfl (st_loadD (vs := [_, _, _, _, _]) 0 5 rfl agg26 rfl rfl rfl) ?_
            refine t_st rfl (st_move rfl) ?_
            refine t_callB _ rfl call10 rfl (Times_c _ _ g _ _ p hg hA hpl) ?_
            rintro _ b3 hle3 (⟨_, _, hn3, _⟩ | ⟨_, _, hs3, rfl⟩ | ⟨s3, t3, _, _, hs3, ht3, rfl, hT⟩)
            ·
              exact (hn3 ⟨hV, hP⟩).elim
            ·
              refine t_st rfl (st_move rfl) ?_
              refine t_st rfl (st_extract rfl rfl) ?_
              refine t_st rfl (st_extract rfl rfl) ?_
              refine t_st rfl (st_assign rfl) ?_
              refine t_st rfl (st_assign rfl) ?_
              refine t_nil ?_
              refine x_then_normal ?_
              refine c_seq ?_
              refine c_seq ?_
              refine c_region ?_
              refine t_st rfl (st_move rfl) ?_
              refine t_st rfl (st_neq_t rfl rfl (by decide)) ?_
              refine t_nil ?_
              refine x_then_normal ?_
              refine c_cond_t rfl ?_
              refine c_seq ?_
              refine c_region ?_
              refine t_st rfl (st_move rfl) ?_
              refine t_st rfl (st_len rfl sl22) ?_
              refine t_st rfl (st_eql_t rfl rfl rfl) ?_
              refine t_st rfl (st_assign rfl) ?_
              refine t_nil ?_
              refine x_then_normal ?_
              refine c_ret ?_
              refine x_then_ret ?_
              refine x_drop (hp' := hp) (by repeat (first | exact List.Sublist.refl _ | exact List.nil_sublist _ | exact List.sublist_append_left _ _ | exact List.sublist_append_right _ _ | exact (List.sublist_append_right _ _).trans (List.sublist_append_right _ _) | apply List.Sublist.cons_cons | apply List.Sublist.cons)) ?_
              exact retB1 ((hle1.trans hle2).trans hle3) rfl rfl rfl
            ·
              have hg := hg.le hle3
              have hA := hA.le hle3
              have hB := hB.le hle3
              have hps3 := pickF_ps hV hs3
              have hl3 : t3.l.length = g.ready.l.length := by rw [← ht3]; exact hps3.v.1
              have hb3 : ∀ x ∈ t3.l, 0 ≤ x ∧ x ≤ 1099511627776 := by rw [← ht3]; exact hps3.v.2.2
              refine t_st rfl (st_move rfl) ?_
              refine t_st rfl (st_extract rfl rfl) ?_
              refine t_st rfl (st_extract rfl rfl) ?_
              refine t_st rfl (st_assign rfl) ?_
              refine t_st rfl (st_assign rfl) ?_
              refine t_nil ?_
              refine x_then_normal ?_
              refine c_seq ?_
              refine c_seq ?_
              refine c_region ?_
              refine t_st rfl (st_move rfl) ?_
              refine t_st rfl (st_neq_f rfl rfl (by decide)) ?_
              refine t_nil ?_
              refine x_then_normal ?_
              refine c_cond_f rfl ?_
              refine c_skip ?_
              refine x_then_normal ?_
              refine c_seq ?_
              refine c_region ?_
              refine t_st rfl (st_loadD (vs := [_, _, _, _, _]) 0 5 rfl agg26 rfl rfl rfl) ?_
              refine t_st rfl (st_move rfl) ?_
              refine t_do rfl (u_callf _ call14 rfl (fun w ho => Delay_c g _ _ _ w (hg.old ho) (hT.old ho) hV hl3 hb3)) ?_
              rintro _ _ ⟨_, rfl, rfl, rfl⟩
              refine t_st rfl (st_move rfl) ?_
              refine t_st rfl (st_extract rfl rfl) ?_
              refine t_st rfl (st_extract rfl rfl) ?_
              refine t_st rfl (st_assign rfl) ?_
              refine t_st rfl (st_assign rfl) ?_
              refine t_nil ?_
              refine x_then_normal ?_
              refine c_seq ?_
              refine c_seq ?_
              refine c_region ?_
              refine t_st rfl (st_move rfl) ?_
              refine t_st rfl (st_neq_f rfl rfl (by omega)) ?_
              refine t_nil ?_
              refine x_then_normal ?_
              refine c_cond_f rfl ?_
              refine c_skip ?_
              refine x_then_normal ?_
              refine c_seq ?_
              refine c_region ?_
              refine t_st rfl (st_move rfl) ?_
              refine t_do rfl (u_callF [_] _ _ call12 rfl rfl (fun w ho => cloneI_c _ _ _ _ w (hA.old ho) (by rw [rows_length encI_len]) (by omega))) ?_
              rintro _ _ ⟨hs5, rfl, hseg5⟩
              obtain ⟨A5, c5, rfl, hcm5⟩ := hseg5.form
              refine t_st rfl (st_assign rfl) ?_
              refine t_nil ?_
              refine x_then_normal ?_
              refine c_seq ?_
              refine c_seq ?_
              refine c_region ?_
              refine t_st rfl (st_move rfl) ?_
              refine t_st rfl (st_len rfl sl22) ?_
              refine t_st rfl (st_move rfl) ?_
              refine t_nil ?_
              refine x_then_normal ?_
              refine c_block ?_
              refine c_pull 0 rfl ?_
              refine l_loop4 [(3, _), (9, _), (61, _), (62, _)] _ (fun (k : Nat) (A6 : Option Addr) (cur : List Int) (hs6 : Hp) => [(63, .int .i64 (k : Int)), (10, .slice A6 cur.length c5)]) (fun (k : Nat) (A6 : Option Addr) (cur : List Int) (hs6 : Hp) => [(g1, Cl 26 g.cells)] ++ hs6) (fun (k : Nat) (A6 : Option Addr) (cur : List Int) (hs6 : Hp) => k ≤ m.length ∧ (PickV g cur ∧ Agree cur p) ∧ BK A6 cur hs6) (fun (k : Nat) (A6 : Option Addr) (cur : List Int) (hs6 : Hp) => m.length - k) (0) (A5) (p) (hs5) ⟨rfl, rfl, trivial⟩ ⟨rfl, rfl, rfl, rfl, trivial⟩ rfl ⟨by omega, ⟨hP, agree_self p⟩, BK.of hseg5⟩ ?_
              intro k A6 cur hs6 hinv
              obtain ⟨hk, ⟨hcv, hca⟩, hbk⟩ := hinv
              have hcl0 := hca.1
              refine c_seq ?_
              refine c_region ?_
              refine t_bool rfl (st_lss rfl rfl) (fun hc5 => ?_) (fun hc5 => ?_)
              ·
                refine t_nil ?_
                refine x_then_normal ?_
                refine c_seq ?_
                refine c_cond_t rfl ?_
                refine c_skip ?_
                refine x_then_normal ?_
                refine c_seq ?_
                refine c_block ?_
                refine c_seq ?_
                obtain ⟨y, hy⟩ := ex_get (l := m) (k := k) (by omega)
                obtain ⟨cx, hcx⟩ := ex_get (l := cur) (k := k) (by omega)
                have hcl := lt_of_get hcx
                obtain ⟨gb, tl, rfl, rfl⟩ : ∃ (g : Nat) (tl : List Value), A6 = some ⟨g, 0, none⟩ ∧ hs6 = [(g, Cl 3 (rows encI cur ++ tl))] := by
                  rcases hbk with h | h
                  · rw [h] at hcl
                    simp at hcl
                  · exact h
                refine c_region ?_
                refine t_st rfl (st_move rfl) ?_
                refine t_st rfl (st_index_old k rfl rfl rfl (by omega) (Rd.isSome encI_len (by decide) hB hy) sl22) ?_
                refine t_st rfl (st_load_old rfl one3 (Rd.row encI_len hB hy (j := 0) rfl)) ?_
                refine t_st rfl (st_assign rfl) ?_
                refine t_st rfl (st_assign rfl) ?_
                refine t_nil ?_
                refine x_then_normal ?_
                refine c_seq ?_
                refine c_region ?_
                refine t_st rfl (st_move rfl) ?_
                refine t_st rfl (st_rem rfl rfl (by omega)) ?_
                refine t_bool rfl (st_eql rfl rfl) (fun hc6 => ?_) (fun hc6 => ?_)
                ·
                  refine t_nil ?_
                  refine x_then_normal ?_
                  refine c_cond_t rfl ?_
                  refine c_region ?_
                  refine t_st rfl (st_move rfl) ?_
                  refine t_st rfl (st_move rfl) ?_
                  refine t_st rfl (st_index k rfl rfl rfl (by omega) sl22) ?_
                  refine t_do rfl (u_store_int 1 rfl rfl siz3 rfl hcl) ?_
                  rintro _ _ rfl
                  refine t_nil ?_
                  refine x_block_normal ?_
                  refine x_then_normal ?_
                  refine c_region ?_
                  refine t_st rfl (st_add rfl rfl (by omega)) ?_
                  refine t_st rfl (st_move rfl) ?_
                  refine t_nil ?_
                  exact x_again4 (ev := (fun (k : Nat) (A6 : Option Addr) (cur : List Int) (hs6 : Hp) => [(63, .int .i64 (k : Int)), (10, .slice A6 cur.length c5)])) (hv := (fun (k : Nat) (A6 : Option Addr) (cur : List Int) (hs6 : Hp) => [(g1, Cl 26 g.cells)] ++ hs6)) (inv := (fun (k : Nat) (A6 : Option Addr) (cur : List Int) (hs6 : Hp) => k ≤ m.length ∧ (PickV g cur ∧ Agree cur p) ∧ BK A6 cur hs6)) (μ := (fun (k : Nat) (A6 : Option Addr) (cur : List Int) (hs6 : Hp) => m.length - k)) (k + 1) (some ⟨gb, 0, none⟩) (cur.set k 0) ([(gb, Cl 3 (rows encI (cur.set k 0) ++ tl))]) (Base.Le.refl _) ⟨rfl, congrArg (fun z => some (Value.slice (some ⟨gb, 0, none⟩) z c5)) List.length_set.symm, trivial⟩ ⟨rfl, rfl, rfl, rfl, trivial⟩ (by repeat (first | exact List.Sublist.refl _ | exact List.nil_sublist _ | exact List.sublist_append_left _ _ | exact List.sublist_append_right _ _ | exact (List.sublist_append_right _ _).trans (List.sublist_append_right _ _) | apply List.Sublist.cons_cons | apply List.Sublist.cons)) ⟨by omega, agree_put hcv hca, .inr ⟨gb, tl, rfl, rfl⟩⟩ (by omega)
                ·
                  refine t_nil ?_
                  refine x_then_normal ?_
                  refine c_cond_f rfl ?_
                  refine c_skip ?_
                  refine x_block_normal ?_
                  refine x_then_normal ?_
                  refine c_region ?_
                  refine t_st rfl (st_add rfl rfl (by omega)) ?_
                  refine t_st rfl (st_move rfl) ?_
                  refine t_nil ?_
                  exact x_again4 (ev := (fun (k : Nat) (A6 : Option Addr) (cur : List Int) (hs6 : Hp) => [(63, .int .i64 (k : Int)), (10, .slice A6 cur.length c5)])) (hv := (fun (k : Nat) (A6 : Option Addr) (cur : List Int) (hs6 : Hp) => [(g1, Cl 26 g.cells)] ++ hs6)) (inv := (fun (k : Nat) (A6 : Option Addr) (cur : List Int) (hs6 : Hp) => k ≤ m.length ∧ (PickV g cur ∧ Agree cur p) ∧ BK A6 cur hs6)) (μ := (fun (k : Nat) (A6 : Option Addr) (cur : List Int) (hs6 : Hp) => m.length - k)) (k + 1) (some ⟨gb, 0, none⟩) (cur) ([(gb, Cl 3 (rows encI cur ++ tl))]) (Base.Le.refl _) ⟨rfl, rfl, trivial⟩ ⟨rfl, rfl, rfl, rfl, trivial⟩ (by repeat (first | exact List.Sublist.refl _ | exact List.nil_sublist _ | exact List.sublist_append_left _ _ | exact List.sublist_append_right _ _ | exact (List.sublist_append_right _ _).trans (List.sublist_append_right _ _) | apply List.Sublist.cons_cons | apply List.Sublist.cons)) ⟨by omega, ⟨hcv, hca⟩, .inr ⟨gb, tl, rfl, rfl⟩⟩ (by omega)
              ·
                refine t_nil ?_
                refine x_then_normal ?_
                refine c_seq ?_
                refine c_cond_f rfl ?_
                refine c_exit ?_
                refine x_then_exit ?_
                refine x_then_exit ?_
                refine x_block_out ?_
                refine x_then_normal ?_
                refine c_seq ?_
                refine c_freezeF [_] hs6 hp rfl ?_
                intro b5 hle5 hfz5
                have hC : Rd b5.w A6 (rows encI cur) := hbk.rd hfz5
                have hg := hg.le hle5
                refine c_region ?_
                refine t_st rfl (st_loadD (vs := [_, _, _, _, _]) 0 5 rfl agg26 rfl rfl rfl) ?_
                refine t_st rfl (st_move rfl) ?_
                refine t_callB _ rfl call15 rfl (Bound_c _ _ g _ _ cur hg hC (by omega) hV hcv) ?_
                rintro _ b6 hle6 (⟨rfl, hno⟩ | ⟨d6, rfl, hd6⟩)
                ·
                  exact (hno p s3 hP hFu hps3 hca).elim
                ·
                  have hg := hg.le hle6
                  have hd7 := hd6 p s3 hP hFu hps3 hca
                  rw [ht3] at hd7
                  refine t_st rfl (st_move rfl) ?_
                  refine t_st rfl (st_extract rfl rfl) ?_
                  refine t_st rfl (st_extract rfl rfl) ?_
                  refine t_st rfl (st_assign rfl) ?_
                  refine t_st rfl (st_assign rfl) ?_
                  refine t_nil ?_
                  refine x_then_normal ?_
                  refine c_seq ?_
                  refine c_seq ?_
                  refine c_region ?_
                  refine t_st rfl (st_move rfl) ?_
                  refine t_st rfl (st_neq_f rfl rfl (by omega)) ?_
                  refine t_st rfl (st_move rfl) ?_
                  refine t_yes 83 rfl rfl rfl ?_
                  refine t_st rfl (st_move rfl) ?_
                  refine t_yes 83 rfl rfl rfl ?_
                  refine t_st rfl (st_move rfl) ?_
                  refine t_yes 83 rfl rfl rfl ?_
                  refine t_st rfl (st_gtr_f rfl rfl (by omega)) ?_
                  refine t_st rfl (st_pick_f rfl rfl) ?_
                  refine t_nil ?_
                  refine x_then_normal ?_
                  refine c_cond_f rfl ?_
                  refine c_skip ?_
                  refine x_then_normal ?_
                  refine c_seq ?_
                  refine c_region ?_
                  refine t_st rfl (st_loadD (vs := [_, _, _, _, _]) 0 5 rfl agg26 rfl rfl rfl) ?_
                  refine t_callB _ rfl call16 rfl (Best_c _ _ g hg hV) ?_
                  rintro _ b7 hle7 (⟨rfl, hno⟩ | rfl | ⟨x4, t4, F4, s4, rfl, hR4, hP4, hFu4, hps4, ht4, hmin4⟩)
                  ·
                    exact (hno p s3 hP hFu hps3 (agree_zero hP.1)).elim
                  ·
                    have hg := hg.le hle7
                    refine t_st rfl (st_move rfl) ?_
                    refine t_st rfl (st_extract rfl rfl) ?_
                    refine t_st rfl (st_extract rfl rfl) ?_
                    refine t_st rfl (st_extract rfl rfl) ?_
                    refine t_st rfl (st_assign rfl) ?_
                    refine t_st rfl (st_assign rfl) ?_
                    refine t_st rfl (st_assign rfl) ?_
                    refine t_nil ?_
                    refine x_then_normal ?_
                    refine c_seq ?_
                    refine c_seq ?_
                    refine c_region ?_
                    refine t_st rfl (st_move rfl) ?_
                    refine t_st rfl (st_eql_t rfl rfl rfl) ?_
                    refine t_nil ?_
                    refine x_then_normal ?_
                    refine c_cond_t rfl ?_
                    refine c_seq ?_
                    refine c_region ?_
                    refine t_st rfl (st_assign rfl) ?_
                    refine t_nil ?_
                    refine x_then_normal ?_
                    refine c_ret ?_
                    refine x_then_ret ?_
                    refine x_drop (hp' := hp) (by repeat (first | exact List.Sublist.refl _ | exact List.nil_sublist _ | exact List.sublist_append_left _ _ | exact List.sublist_append_right _ _ | exact (List.sublist_append_right _ _).trans (List.sublist_append_right _ _) | apply List.Sublist.cons_cons | apply List.Sublist.cons)) ?_
                    exact retB1 (((((hle1.trans hle2).trans hle3).trans hle5).trans hle6).trans hle7) rfl rfl rfl
                  ·
                    have hg := hg.le hle7
                    have hm4 := hmin4 p s3 hP hFu hps3
                    rw [ht4, ht3] at hm4
                    have hl4 : t4.l.length = g.ready.l.length := by rw [← ht4]; exact hps4.v.1
                    have hb4 : ∀ x ∈ t4.l, 0 ≤ x ∧ x ≤ 1099511627776 := by rw [← ht4]; exact hps4.v.2.2
                    refine t_st rfl (st_move rfl) ?_
                    refine t_st rfl (st_extract rfl rfl) ?_
                    refine t_st rfl (st_extract rfl rfl) ?_
                    refine t_st rfl (st_extract rfl rfl) ?_
                    refine t_st rfl (st_assign rfl) ?_
                    refine t_st rfl (st_assign rfl) ?_
                    refine t_st rfl (st_assign rfl) ?_
                    refine t_nil ?_
                    refine x_then_normal ?_
                    refine c_seq ?_
                    refine c_seq ?_
                    refine c_region ?_
                    refine t_st rfl (st_move rfl) ?_
                    refine t_st rfl (st_eql_f rfl rfl (by decide)) ?_
                    refine t_nil ?_
                    refine x_then_normal ?_
                    refine c_cond_f rfl ?_
                    refine c_skip ?_
                    refine x_then_normal ?_
                    refine c_seq ?_
                    refine c_region ?_
                    refine t_st rfl (st_loadD (vs := [_, _, _, _, _]) 0 5 rfl agg26 rfl rfl rfl) ?_
                    refine t_st rfl (st_move rfl) ?_
                    refine t_do rfl (u_callf _ call14 rfl (fun w ho => Delay_c g _ _ _ w (hg.old ho) (hR4.old ho) hV hl4 hb4)) ?_
                    rintro _ _ ⟨_, rfl, rfl, rfl⟩
                    refine t_st rfl (st_move rfl) ?_
                    refine t_st rfl (st_extract rfl rfl) ?_
                    refine t_st rfl (st_extract rfl rfl) ?_
                    refine t_st rfl (st_assign rfl) ?_
                    refine t_st rfl (st_assign rfl) ?_
                    refine t_nil ?_
                    refine x_then_normal ?_
                    refine c_seq ?_
                    refine c_seq ?_
                    refine c_region ?_
                    refine t_st rfl (st_move rfl) ?_
                    refine t_st rfl (st_neq_f rfl rfl (by omega)) ?_
                    refine t_st rfl (st_move rfl) ?_
                    refine t_yes 104 rfl rfl rfl ?_
                    refine t_st rfl (st_move rfl) ?_
                    refine t_yes 104 rfl rfl rfl ?_
                    refine t_st rfl (st_neq_f rfl rfl (by omega)) ?_
                    refine t_st rfl (st_pick_f rfl rfl) ?_
                    refine t_st rfl (st_move rfl) ?_
                    refine t_yes 108 rfl rfl rfl ?_
                    refine t_st rfl (st_move rfl) ?_
                    refine t_yes 108 rfl rfl rfl ?_
                    refine t_st rfl (st_move rfl) ?_
                    refine t_yes 108 rfl rfl rfl ?_
                    refine t_st rfl (st_gtr_f rfl rfl (by omega)) ?_
                    refine t_st rfl (st_pick_f rfl rfl) ?_
                    refine t_nil ?_
                    refine x_then_normal ?_
                    refine c_cond_f rfl ?_
                    refine c_skip ?_
                    refine x_then_normal ?_
                    refine c_seq ?_
                    refine c_region ?_
                    refine t_st rfl (st_loadD (vs := [_, _, _, _, _]) 0 5 rfl agg26 rfl rfl rfl) ?_
                    refine t_callB _ rfl call17 rfl (Quick_c _ _ g hg hV) ?_
                    rintro _ b8 hle8 (rfl | ⟨x5, t5, F5, s5, rfl, hR5, hP5, hFu5, hps5, ht5⟩)
                    ·
                      have hg := hg.le hle8
                      refine t_st rfl (st_move rfl) ?_
                      refine t_st rfl (st_extract rfl rfl) ?_
                      refine t_st rfl (st_extract rfl rfl) ?_
                      refine t_st rfl (st_extract rfl rfl) ?_
                      refine t_st rfl (st_assign rfl) ?_
                      refine t_st rfl (st_assign rfl) ?_
                      refine t_st rfl (st_assign rfl) ?_
                      refine t_nil ?_
                      refine x_then_normal ?_
                      refine c_seq ?_
                      refine c_seq ?_
                      refine c_region ?_
                      refine t_st rfl (st_move rfl) ?_
                      refine t_st rfl (st_neq_t rfl rfl (by decide)) ?_
                      refine t_nil ?_
                      refine x_then_normal ?_
                      refine c_cond_t rfl ?_
                      refine c_seq ?_
                      refine c_region ?_
                      refine t_st rfl (st_move rfl) ?_
                      refine t_st rfl (st_eql_t rfl rfl rfl) ?_
                      refine t_st rfl (st_assign rfl) ?_
                      refine t_nil ?_
                      refine x_then_normal ?_
                      refine c_ret ?_
                      refine x_then_ret ?_
                      refine x_drop (hp' := hp) (by repeat (first | exact List.Sublist.refl _ | exact List.nil_sublist _ | exact List.sublist_append_left _ _ | exact List.sublist_append_right _ _ | exact (List.sublist_append_right _ _).trans (List.sublist_append_right _ _) | apply List.Sublist.cons_cons | apply List.Sublist.cons)) ?_
                      exact retB1 ((((((hle1.trans hle2).trans hle3).trans hle5).trans hle6).trans hle7).trans hle8) rfl rfl rfl
                    ·
                      have hg := hg.le hle8
                      have hm5 := hmin4 F5 s5 hP5 hFu5 hps5
                      rw [ht4, ht5] at hm5
                      have hl5 : t5.l.length = g.ready.l.length := by rw [← ht5]; exact hps5.v.1
                      have hb5 : ∀ x ∈ t5.l, 0 ≤ x ∧ x ≤ 1099511627776 := by rw [← ht5]; exact hps5.v.2.2
                      refine t_st rfl (st_move rfl) ?_
                      refine t_st rfl (st_extract rfl rfl) ?_
                      refine t_st rfl (st_extract rfl rfl) ?_
                      refine t_st rfl (st_extract rfl rfl) ?_
                      refine t_st rfl (st_assign rfl) ?_
                      refine t_st rfl (st_assign rfl) ?_
                      refine t_st rfl (st_assign rfl) ?_
                      refine t_nil ?_
                      refine x_then_normal ?_
                      refine c_seq ?_
                      refine c_seq ?_
                      refine c_region ?_
                      refine t_st rfl (st_move rfl) ?_
                      refine t_st rfl (st_neq_f rfl rfl (by decide)) ?_
                      refine t_nil ?_
                      refine x_then_normal ?_
                      refine c_cond_f rfl ?_
                      refine c_skip ?_
                      refine x_then_normal ?_
                      refine c_seq ?_
                      refine c_region ?_
                      refine t_st rfl (st_loadD (vs := [_, _, _, _, _]) 0 5 rfl agg26 rfl rfl rfl) ?_
                      refine t_st rfl (st_move rfl) ?_
                      refine t_do rfl (u_callf _ call14 rfl (fun w ho => Delay_c g _ _ _ w (hg.old ho) (hR5.old ho) hV hl5 hb5)) ?_
                      rintro _ _ ⟨_, rfl, rfl, rfl⟩
                      refine t_st rfl (st_move rfl) ?_
                      refine t_st rfl (st_extract rfl rfl) ?_
                      refine t_st rfl (st_extract rfl rfl) ?_
                      refine t_st rfl (st_assign rfl) ?_
                      refine t_st rfl (st_assign rfl) ?_
                      refine t_nil ?_
                      refine x_then_normal ?_
                      refine c_seq ?_
                      refine c_region ?_
                      refine t_st rfl (st_move rfl) ?_
                      refine t_st rfl (st_eql_t rfl rfl rfl) ?_
                      refine t_st rfl (st_move rfl) ?_
                      refine t_yes 131 rfl rfl rfl ?_
                      refine t_st rfl (st_move rfl) ?_
                      refine t_yes 131 rfl rfl rfl ?_
                      refine t_st rfl (st_move rfl) ?_
                      refine t_yes 131 rfl rfl rfl ?_
                      refine t_st rfl (st_leq_t rfl rfl (by omega)) ?_
                      refine t_st rfl (st_pick_t rfl rfl) ?_
                      refine t_st rfl (st_assign rfl) ?_
                      refine t_nil ?_
                      refine x_then_normal ?_
                      refine c_ret ?_
                      refine x_drop (hp' := hp) (by repeat (first | exact List.Sublist.refl _ | exact List.nil_sublist _ | exact List.sublist_append_left _ _ | exact List.sublist_append_right _ _ | exact (List.sublist_append_right _ _).trans (List.sublist_append_right _ _) | apply List.Sublist.cons_cons | apply List.Sublist.cons)) ?_
                      exact retB1 ((((((hle1.trans hle2).trans hle3).trans hle5).trans hle6).trans hle7).trans hle8) rfl rfl rfl

end Go.Proofs.Ytakehdnblmonlaa
