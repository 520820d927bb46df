/- The contract of the closure inside (*solver).with. -/
import Derived.Test.YtakehdnblmonlaaM3
namespace Go.Proofs.Ytakehdnblmonlaa
open Go.RowKit Go.Fp


/-- What the closure works on: seconds, how often raised, who waits, whether all is well, the queue. -/
structure Qs where
  T : List Int
  R : List Int
  W : List Bool
  ok : Bool
  Q : List Int
def tryQ (last : List Int) (a : Arc) (s : Qs) : Qs :=
  if s.T.getD a.fr.toNat 0 + a.len ≤ s.T.getD a.to.toNat 0 then s else
  { T := s.T.set a.to.toNat (s.T.getD a.fr.toNat 0 + a.len)
    R := s.R.set a.to.toNat (s.R.getD a.to.toNat 0 + 1)
    ok := s.ok && (decide (last.getD a.to.toNat 0 < 0) || decide (s.T.getD a.fr.toNat 0 + a.len ≤ last.getD a.to.toNat 0)) && decide (s.T.getD a.fr.toNat 0 + a.len ≤ 1099511627776) && decide (s.R.getD a.to.toNat 0 + 1 ≤ 65536)
    W := if s.W.getD a.to.toNat false then s.W else s.W.set a.to.toNat true
    Q := if s.W.getD a.to.toNat false then s.Q else s.Q ++ [a.to] }
/-- Where it lies. -/
structure Loc where
  gn : Nat
  gr : Nat
  gk : Nat
  gw : Nat
  gs : Nat
  gt : Nat
  gx : Nat
  gy : Nat
  gd : Nat
  N : Nat
  ct : Nat
  tl : List Value
  last : Sl Int
  outs : Value
def hq (L : Loc) (s : Qs) (v : Value) : Hp :=
  [(L.gn, Cl 69 [.pointer (some ⟨L.gs, 0, none⟩)]), (L.gr, Cl 22 [.slice (some ⟨L.gx, 0, none⟩) L.N L.N]), (L.gk, Cl 4 [.bool s.ok]), (L.gw, Cl 88 [.slice (some ⟨L.gy, 0, none⟩) L.N L.N]),
   (L.gs, Cl 73 [.slice (some ⟨L.gt, 0, none⟩) L.N L.ct, L.last.val, L.outs]), (L.gt, Cl 3 (rows encI s.T ++ L.tl)), (L.gx, Cl 3 (rows encI s.R ++ [])), (L.gy, Cl 4 (rows encB s.W ++ [])), (L.gd, Cl 22 [v])]
theorem tryQ_low {last : List Int} {a : Arc} {s : Qs} {f t : Nat} {tf tt : Int} (hf : a.fr = (f : Int)) (ht : a.to = (t : Int)) (h1 : s.T[f]? = some tf) (h2 : s.T[t]? = some tt) (h : tf + a.len ≤ tt) : tryQ last a s = s := by
  unfold tryQ
  rw [hf, ht, Int.toNat_natCast, Int.toNat_natCast, List.getD_eq_getElem?_getD, List.getD_eq_getElem?_getD, h1, h2]
  simp [h]
theorem tryQ_up {last : List Int} {a : Arc} {s : Qs} {f t : Nat} {tf tt rt la : Int} {wt : Bool} (hf : a.fr = (f : Int)) (ht : a.to = (t : Int)) (h1 : s.T[f]? = some tf) (h2 : s.T[t]? = some tt) (h3 : s.R[t]? = some rt) (h4 : s.W[t]? = some wt) (h5 : last[t]? = some la) (h : ¬ tf + a.len ≤ tt) :
    tryQ last a s = { T := s.T.set t (tf + a.len), R := s.R.set t (rt + 1), ok := s.ok && (decide (la < 0) || decide (tf + a.len ≤ la)) && decide (tf + a.len ≤ 1099511627776) && decide (rt + 1 ≤ 65536), W := if wt then s.W else s.W.set t true, Q := if wt then s.Q else s.Q ++ [a.to] } := by
  unfold tryQ
  rw [hf, ht]
  simp only [Int.toNat_natCast, List.getD_eq_getElem?_getD, h1, h2, h3, h4, h5, Option.getD_some]
  rw [if_neg h]
set_option maxRecDepth 10000 in
theorem try_c (L : Loc) (s : Qs) (a : Arc) (v : Value) (hsd fr : Hp) (b : Base) (f t : Nat) (tf tt rt la : Int) (wt : Bool) (hf : a.fr = (f : Int)) (ht : a.to = (t : Int)) (hfN : f < L.N) (htN : t < L.N)
    (h1 : s.T[f]? = some tf) (h2 : s.T[t]? = some tt) (h3 : s.R[t]? = some rt) (h4 : s.W[t]? = some wt) (h5 : L.last.l[t]? = some la) (hL : Rd b.w L.last.A (rows encI L.last.l)) (hlN : L.last.l.length = L.N)
    (hseg : Seg 3 1 v s.Q.length (rows encI s.Q) hsd) (hQ : s.Q.length ≤ 1000000000) (htf : -4398046511104 ≤ tf ∧ tf ≤ 4398046511104) (hal : -28800 ≤ a.len ∧ a.len ≤ 28800) (hrt : 0 ≤ rt ∧ rt ≤ 1000000000) :
    CallsH Try.prog 61 [.agg (encA a).toArray, .pointer (some ⟨L.gn, 0, none⟩), .pointer (some ⟨L.gr, 0, none⟩), .pointer (some ⟨L.gk, 0, none⟩), .pointer (some ⟨L.gw, 0, none⟩), .pointer (some ⟨L.gd, 0, none⟩)] b (hq L s v ++ (hsd ++ fr))
      (fun r hp' => r = .tuple #[] ∧ ∃ s' v' hsd', s' = tryQ L.last.l a s ∧ Seg 3 1 v' s'.Q.length (rows encI s'.Q) hsd' ∧ hp' = hq L s' v' ++ (hsd' ++ fr)) := by
  refine fn_enter 95 Try.func61 rfl Try.ntmps61 rfl ?_
  refine c_seq ?_
  refine c_region ?_
  refine t_do rfl (u_box _ rfl rfl) ?_
  rintro _ _ ⟨g1, rfl, rfl⟩
  refine t_nil ?_
  refine x_then_normal ?_
  refine c_seq ?_
  refine c_draw mixed ?_
  refine d_st 0 rfl (by kernel_rfl) (by kernel_rfl) (by kernel_rfl) rfl (st_load 1 rfl one69 rfl rfl) (List.Sublist.refl _) ?_
  refine d_st 1 rfl (by kernel_rfl) (by kernel_rfl) (by kernel_rfl) rfl (st_nil rfl) (List.Sublist.refl _) ?_
  refine d_st 2 rfl (by kernel_rfl) (by kernel_rfl) (by kernel_rfl) rfl (st_field rfl fld73_0) (List.Sublist.refl _) ?_
  refine d_st 3 rfl (by kernel_rfl) (by kernel_rfl) (by kernel_rfl) rfl (st_load 5 rfl one22 rfl rfl) (List.Sublist.refl _) ?_
  refine d_st 4 rfl (by kernel_rfl) (by kernel_rfl) (by kernel_rfl) rfl (st_field rfl fld34_0) (List.Sublist.refl _) ?_
  refine d_st 5 rfl (by kernel_rfl) (by kernel_rfl) (by kernel_rfl) rfl (st_load 0 rfl one3 rfl rfl) (List.Sublist.refl _) ?_
  refine d_st 6 rfl (by kernel_rfl) (by kernel_rfl) (by kernel_rfl) rfl (st_index f rfl rfl hf (by omega) sl22) (List.Sublist.refl _) ?_
  refine d_st 7 rfl (by kernel_rfl) (by kernel_rfl) (by kernel_rfl) rfl (st_load 6 rfl one3 rfl (own_int h1)) (List.Sublist.refl _) ?_
  refine d_st 8 rfl (by kernel_rfl) (by kernel_rfl) (by kernel_rfl) rfl (st_field rfl fld34_2) (List.Sublist.refl _) ?_
  refine d_st 9 rfl (by kernel_rfl) (by kernel_rfl) (by kernel_rfl) rfl (st_load 0 rfl one3 rfl rfl) (List.Sublist.refl _) ?_
  refine d_st 10 rfl (by kernel_rfl) (by kernel_rfl) (by kernel_rfl) rfl (st_add rfl rfl (by omega)) (List.Sublist.refl _) ?_
  refine d_st 11 rfl (by kernel_rfl) (by kernel_rfl) (by kernel_rfl) rfl (st_assign rfl) (List.Sublist.refl _) ?_
  refine d_done (by kernel_rfl) ?_
  refine x_then_normal ?_
  refine c_seq ?_
  refine c_seq ?_
  refine c_draw mixed ?_
  refine d_st 0 rfl (by kernel_rfl) (by kernel_rfl) (by kernel_rfl) rfl (st_move rfl) (List.Sublist.refl _) ?_
  refine d_st 1 rfl (by kernel_rfl) (by kernel_rfl) (by kernel_rfl) rfl (st_load 1 rfl one69 rfl rfl) (List.Sublist.refl _) ?_
  refine d_st 2 rfl (by kernel_rfl) (by kernel_rfl) (by kernel_rfl) rfl (st_nil rfl) (List.Sublist.refl _) ?_
  refine d_st 3 rfl (by kernel_rfl) (by kernel_rfl) (by kernel_rfl) rfl (st_field rfl fld73_0) (List.Sublist.refl _) ?_
  refine d_st 4 rfl (by kernel_rfl) (by kernel_rfl) (by kernel_rfl) rfl (st_load 5 rfl one22 rfl rfl) (List.Sublist.refl _) ?_
  refine d_st 5 rfl (by kernel_rfl) (by kernel_rfl) (by kernel_rfl) rfl (st_field rfl fld34_1) (List.Sublist.refl _) ?_
  refine d_st 6 rfl (by kernel_rfl) (by kernel_rfl) (by kernel_rfl) rfl (st_load 0 rfl one3 rfl rfl) (List.Sublist.refl _) ?_
  refine d_st 7 rfl (by kernel_rfl) (by kernel_rfl) (by kernel_rfl) rfl (st_index t rfl rfl ht (by omega) sl22) (List.Sublist.refl _) ?_
  refine d_st 8 rfl (by kernel_rfl) (by kernel_rfl) (by kernel_rfl) rfl (st_load 6 rfl one3 rfl (own_int h2)) (List.Sublist.refl _) ?_
  refine d_bool 9 rfl (by kernel_rfl) (by kernel_rfl) (by kernel_rfl) rfl (st_leq rfl rfl) (List.Sublist.refl _) (fun hc2 => ?_) (fun hc2 => ?_)
  ·
    refine d_done (by kernel_rfl) ?_
    refine x_then_normal ?_
    refine c_cond_t rfl ?_
    refine c_ret ?_
    refine x_then_ret ?_
    refine x_drop (hp' := hq L s v ++ (hsd ++ fr)) (by repeat (first | exact List.Sublist.refl _ | exact List.nil_sublist _ | exact List.sublist_append_left _ _ | exact List.sublist_append_right _ _ | exact (List.sublist_append_right _ _).trans (List.sublist_append_right _ _) | apply List.Sublist.cons_cons | apply List.Sublist.cons)) ?_
    exact ret0 (Base.Le.refl _) rfl  ⟨rfl, s, v, hsd, (tryQ_low hf ht h1 h2 (by assumption)).symm, hseg, rfl⟩
  ·
    refine d_done (by kernel_rfl) ?_
    refine x_then_normal ?_
    refine c_cond_f rfl ?_
    refine c_skip ?_
    refine x_then_normal ?_
    refine c_seq ?_
    refine c_draw mixed ?_
    refine d_st 0 rfl (by kernel_rfl) (by kernel_rfl) (by kernel_rfl) rfl (st_load 1 rfl one69 rfl rfl) (List.Sublist.refl _) ?_
    refine d_st 1 rfl (by kernel_rfl) (by kernel_rfl) (by kernel_rfl) rfl (st_nil rfl) (List.Sublist.refl _) ?_
    refine d_st 2 rfl (by kernel_rfl) (by kernel_rfl) (by kernel_rfl) rfl (st_field rfl fld73_0) (List.Sublist.refl _) ?_
    refine d_st 3 rfl (by kernel_rfl) (by kernel_rfl) (by kernel_rfl) rfl (st_load 5 rfl one22 rfl rfl) (List.Sublist.refl _) ?_
    refine d_st 4 rfl (by kernel_rfl) (by kernel_rfl) (by kernel_rfl) rfl (st_field rfl fld34_1) (List.Sublist.refl _) ?_
    refine d_st 5 rfl (by kernel_rfl) (by kernel_rfl) (by kernel_rfl) rfl (st_load 0 rfl one3 rfl rfl) (List.Sublist.refl _) ?_
    refine d_st 6 rfl (by kernel_rfl) (by kernel_rfl) (by kernel_rfl) rfl (st_move rfl) (List.Sublist.refl _) ?_
    refine d_st 7 rfl (by kernel_rfl) (by kernel_rfl) (by kernel_rfl) rfl (st_index t rfl rfl ht (by omega) sl22) (List.Sublist.refl _) ?_
    refine d_all [8] (by kernel_rfl) rfl ?_
    refine r_do rfl rfl (u_store_int 6 rfl rfl siz3 rfl (by have := lt_of_get h2; omega)) ?_ ?_
    ·
      rintro _ _ rfl
      refine ⟨.inl (by kernel_rfl), ?_⟩
      refine d_done (by kernel_rfl) ?_
      refine x_then_normal ?_
      refine c_seq ?_
      refine c_region ?_
      refine t_st rfl (st_load 2 rfl one22 rfl rfl) ?_
      refine t_st rfl (st_field rfl fld34_1) ?_
      refine t_st rfl (st_load 0 rfl one3 rfl rfl) ?_
      refine t_st rfl (st_index t rfl rfl ht (by omega) sl22) ?_
      refine t_st rfl (st_load 7 rfl one3 rfl (own_int h3)) ?_
      refine t_st rfl (st_add rfl rfl (by omega)) ?_
      refine t_st rfl (st_index t rfl rfl ht (by omega) sl22) ?_
      refine t_do rfl (u_store_int 7 rfl rfl siz3 rfl (by have := lt_of_get h3; omega)) ?_
      rintro _ _ rfl
      refine t_nil ?_
      refine x_then_normal ?_
      refine c_seq ?_
      refine c_draw mixed ?_
      refine d_boolv 0 rfl (by kernel_rfl) (by kernel_rfl) (by kernel_rfl) rfl (st_load 3 rfl one4 rfl rfl) (List.Sublist.refl _) (fun hc3 => ?_) (fun hc3 => ?_)
      ·
        refine d_st 1 rfl (by kernel_rfl) (by kernel_rfl) (by kernel_rfl) rfl (st_move rfl) (List.Sublist.refl _) ?_
        refine d_yes 2 45 rfl (by kernel_rfl) (by kernel_rfl) (by kernel_rfl) rfl rfl rfl rfl (st_load 1 rfl one69 rfl rfl) (List.Sublist.refl _) ?_
        refine d_yes 3 45 rfl (by kernel_rfl) (by kernel_rfl) (by kernel_rfl) rfl rfl rfl rfl (st_nil rfl) (List.Sublist.refl _) ?_
        refine d_yes 4 45 rfl (by kernel_rfl) (by kernel_rfl) (by kernel_rfl) rfl rfl rfl rfl (st_field rfl fld73_1) (List.Sublist.refl _) ?_
        refine d_yes 5 45 rfl (by kernel_rfl) (by kernel_rfl) (by kernel_rfl) rfl rfl rfl rfl (st_load 5 rfl one22 rfl rfl) (List.Sublist.refl _) ?_
        refine d_yes 6 45 rfl (by kernel_rfl) (by kernel_rfl) (by kernel_rfl) rfl rfl rfl rfl (st_field rfl fld34_1) (List.Sublist.refl _) ?_
        refine d_yes 7 45 rfl (by kernel_rfl) (by kernel_rfl) (by kernel_rfl) rfl rfl rfl rfl (st_load 0 rfl one3 rfl rfl) (List.Sublist.refl _) ?_
        refine d_yes 8 45 rfl (by kernel_rfl) (by kernel_rfl) (by kernel_rfl) rfl rfl rfl rfl (st_index_old t rfl rfl ht (by omega) (Rd.isSome encI_len (by decide) hL h5) sl22) (List.Sublist.refl _) ?_
        refine d_yes 9 45 rfl (by kernel_rfl) (by kernel_rfl) (by kernel_rfl) rfl rfl rfl rfl (st_load_old rfl one3 (Rd.row encI_len hL h5 (j := 0) rfl)) (List.Sublist.refl _) ?_
        refine d_yesB 10 45 rfl (by kernel_rfl) (by kernel_rfl) (by kernel_rfl) rfl rfl rfl rfl (st_lss rfl rfl) (List.Sublist.refl _) (fun hc4 => ?_) (fun hc4 => ?_)
        ·
          refine d_yes 11 45 rfl (by kernel_rfl) (by kernel_rfl) (by kernel_rfl) rfl rfl rfl rfl (st_move rfl) (List.Sublist.refl _) ?_
          refine d_no 12 55 rfl (by kernel_rfl) (by kernel_rfl) (by kernel_rfl) rfl rfl rfl rfl rfl (List.Sublist.refl _) ?_
          refine d_no 13 55 rfl (by kernel_rfl) (by kernel_rfl) (by kernel_rfl) rfl rfl rfl rfl rfl (List.Sublist.refl _) ?_
          refine d_no 14 55 rfl (by kernel_rfl) (by kernel_rfl) (by kernel_rfl) rfl rfl rfl rfl rfl (List.Sublist.refl _) ?_
          refine d_no 15 55 rfl (by kernel_rfl) (by kernel_rfl) (by kernel_rfl) rfl rfl rfl rfl rfl (List.Sublist.refl _) ?_
          refine d_no 16 55 rfl (by kernel_rfl) (by kernel_rfl) (by kernel_rfl) rfl rfl rfl rfl rfl (List.Sublist.refl _) ?_
          refine d_no 17 55 rfl (by kernel_rfl) (by kernel_rfl) (by kernel_rfl) rfl rfl rfl rfl rfl (List.Sublist.refl _) ?_
          refine d_no 18 55 rfl (by kernel_rfl) (by kernel_rfl) (by kernel_rfl) rfl rfl rfl rfl rfl (List.Sublist.refl _) ?_
          refine d_no 19 55 rfl (by kernel_rfl) (by kernel_rfl) (by kernel_rfl) rfl rfl rfl rfl rfl (List.Sublist.refl _) ?_
          refine d_no 20 55 rfl (by kernel_rfl) (by kernel_rfl) (by kernel_rfl) rfl rfl rfl rfl rfl (List.Sublist.refl _) ?_
          refine d_no 21 55 rfl (by kernel_rfl) (by kernel_rfl) (by kernel_rfl) rfl rfl rfl rfl rfl (List.Sublist.refl _) ?_
          refine d_yes 22 45 rfl (by kernel_rfl) (by kernel_rfl) (by kernel_rfl) rfl rfl rfl rfl (st_pick_t rfl rfl) (List.Sublist.refl _) ?_
          refine d_st 23 rfl (by kernel_rfl) (by kernel_rfl) (by kernel_rfl) rfl (st_pick_t rfl rfl) (List.Sublist.refl _) ?_
          refine d_st 24 rfl (by kernel_rfl) (by kernel_rfl) (by kernel_rfl) rfl (st_move rfl) (List.Sublist.refl _) ?_
          refine d_yes 25 68 rfl (by kernel_rfl) (by kernel_rfl) (by kernel_rfl) rfl rfl rfl rfl (st_move rfl) (List.Sublist.refl _) ?_
          refine d_yesB 26 68 rfl (by kernel_rfl) (by kernel_rfl) (by kernel_rfl) rfl rfl rfl rfl (st_leq rfl rfl) (List.Sublist.refl _) (fun hc5 => ?_) (fun hc5 => ?_)
          ·
            refine d_st 27 rfl (by kernel_rfl) (by kernel_rfl) (by kernel_rfl) rfl (st_pick_t rfl rfl) (List.Sublist.refl _) ?_
            refine d_st 28 rfl (by kernel_rfl) (by kernel_rfl) (by kernel_rfl) rfl (st_move rfl) (List.Sublist.refl _) ?_
            refine d_yes 29 72 rfl (by kernel_rfl) (by kernel_rfl) (by kernel_rfl) rfl rfl rfl rfl (st_load 2 rfl one22 rfl rfl) (List.Sublist.refl _) ?_
            refine d_yes 30 72 rfl (by kernel_rfl) (by kernel_rfl) (by kernel_rfl) rfl rfl rfl rfl (st_field rfl fld34_1) (List.Sublist.refl _) ?_
            refine d_yes 31 72 rfl (by kernel_rfl) (by kernel_rfl) (by kernel_rfl) rfl rfl rfl rfl (st_load 0 rfl one3 rfl rfl) (List.Sublist.refl _) ?_
            refine d_yes 32 72 rfl (by kernel_rfl) (by kernel_rfl) (by kernel_rfl) rfl rfl rfl rfl (st_index t rfl rfl ht (by omega) sl22) (List.Sublist.refl _) ?_
            refine d_yes 33 72 rfl (by kernel_rfl) (by kernel_rfl) (by kernel_rfl) rfl rfl rfl rfl (st_load 7 rfl one3 rfl (own_int (List.getElem?_set_self (lt_of_get h3)))) (List.Sublist.refl _) ?_
            refine d_yesB 34 72 rfl (by kernel_rfl) (by kernel_rfl) (by kernel_rfl) rfl rfl rfl rfl (st_leq rfl rfl) (List.Sublist.refl _) (fun hc6 => ?_) (fun hc6 => ?_)
            ·
              refine d_st 35 rfl (by kernel_rfl) (by kernel_rfl) (by kernel_rfl) rfl (st_pick_t rfl rfl) (List.Sublist.refl _) ?_
              refine d_all [36] (by kernel_rfl) rfl ?_
              refine r_do rfl rfl (u_store 3 rfl rfl siz4 rfl rfl (by simp)) ?_ ?_
              ·
                rintro _ _ rfl
                refine ⟨.inl (by kernel_rfl), ?_⟩
                refine d_done (by kernel_rfl) ?_
                refine x_then_normal ?_
                refine c_seq ?_
                refine c_region ?_
                refine t_st rfl (st_load 4 rfl one88 rfl rfl) ?_
                refine t_st rfl (st_field rfl fld34_1) ?_
                refine t_st rfl (st_load 0 rfl one3 rfl rfl) ?_
                refine t_st rfl (st_index t rfl rfl ht (by omega) sl88) ?_
                refine t_boolv rfl (st_load 8 rfl one4 rfl (own_bool h4)) (fun hc7 => ?_) (fun hc7 => ?_)
                ·
                  refine t_st rfl (st_not_t rfl) ?_
                  refine t_nil ?_
                  refine x_then_normal ?_
                  refine c_cond_f rfl ?_
                  refine c_skip ?_
                  refine x_drop (hp' := hq L ⟨s.T.set t (tf + a.len), s.R.set t (rt + 1), s.W, true, s.Q⟩ v ++ (hsd ++ fr)) (by repeat (first | exact List.Sublist.refl _ | exact List.nil_sublist _ | exact List.sublist_append_left _ _ | exact List.sublist_append_right _ _ | exact (List.sublist_append_right _ _).trans (List.sublist_append_right _ _) | apply List.Sublist.cons_cons | apply List.Sublist.cons)) ?_
                  exact end0 (Base.Le.refl _) rfl ⟨rfl, ⟨s.T.set t (tf + a.len), s.R.set t (rt + 1), s.W, true, s.Q⟩, v, hsd, (by rw [tryQ_up hf ht h1 h2 h3 h4 h5 (by assumption)]; simp [*]), hseg, rfl⟩
                ·
                  refine t_st rfl (st_not_f rfl) ?_
                  refine t_nil ?_
                  refine x_then_normal ?_
                  refine c_cond_t rfl ?_
                  refine c_seq ?_
                  refine c_region ?_
                  refine t_st rfl (st_load 4 rfl one88 rfl rfl) ?_
                  refine t_st rfl (st_field rfl fld34_1) ?_
                  refine t_st rfl (st_load 0 rfl one3 rfl rfl) ?_
                  refine t_st rfl (st_index t rfl rfl ht (by omega) sl88) ?_
                  refine t_do rfl (u_store_bool 8 rfl rfl siz4 rfl (by have := lt_of_get h4; omega)) ?_
                  rintro _ _ rfl
                  refine t_nil ?_
                  refine x_then_normal ?_
                  refine c_region ?_
                  refine t_st rfl (st_load 9 rfl one22 rfl rfl) ?_
                  refine t_st rfl (st_field rfl fld34_1) ?_
                  refine t_st rfl (st_load 0 rfl one3 rfl rfl) ?_
                  refine t_do rfl (u_bslice (el := 3) [(0, .int .i64 a.to)] [.int .i64 a.to] rfl (fun _ => by kernel_rfl)) ?_
                  rintro _ _ ⟨g9, rfl, rfl⟩
                  refine t_do rfl (u_appF [_, _, _, _, _, _, _, _, _, _, _] hsd fr [.int .i64 a.to] sl22 inf3 rfl (by decide) rfl rfl hseg rfl rfl (fun w ho => Rd.own (i := 0) ho rfl) (encI_one a.to) (by omega) (by omega)) ?_
                  rintro _ _ ⟨hsd2, rfl, hseg2⟩
                  obtain ⟨A2, c2, rfl, hcc⟩ := hseg2.form
                  refine t_do rfl (u_store 10 rfl rfl siz22 rfl rfl (by simp)) ?_
                  rintro _ _ rfl
                  refine t_nil ?_
                  refine x_drop (hp' := hq L ⟨s.T.set t (tf + a.len), s.R.set t (rt + 1), s.W.set t true, true, s.Q ++ [a.to]⟩ (.slice A2 (s.Q.length + 1) c2) ++ (hsd2 ++ fr)) (by repeat (first | exact List.Sublist.refl _ | exact List.nil_sublist _ | exact List.sublist_append_left _ _ | exact List.sublist_append_right _ _ | exact (List.sublist_append_right _ _).trans (List.sublist_append_right _ _) | apply List.Sublist.cons_cons | apply List.Sublist.cons)) ?_
                  exact end0 (Base.Le.refl _) rfl ⟨rfl, ⟨s.T.set t (tf + a.len), s.R.set t (rt + 1), s.W.set t true, true, s.Q ++ [a.to]⟩, .slice A2 (s.Q.length + 1) c2, hsd2, (by rw [tryQ_up hf ht h1 h2 h3 h4 h5 (by assumption)]; simp [*]), (by rw [rows_append, List.length_append]; exact hseg2), rfl⟩
              exact r_nil
            ·
              refine d_st 35 rfl (by kernel_rfl) (by kernel_rfl) (by kernel_rfl) rfl (st_pick_t rfl rfl) (List.Sublist.refl _) ?_
              refine d_all [36] (by kernel_rfl) rfl ?_
              refine r_do rfl rfl (u_store 3 rfl rfl siz4 rfl rfl (by simp)) ?_ ?_
              ·
                rintro _ _ rfl
                refine ⟨.inl (by kernel_rfl), ?_⟩
                refine d_done (by kernel_rfl) ?_
                refine x_then_normal ?_
                refine c_seq ?_
                refine c_region ?_
                refine t_st rfl (st_load 4 rfl one88 rfl rfl) ?_
                refine t_st rfl (st_field rfl fld34_1) ?_
                refine t_st rfl (st_load 0 rfl one3 rfl rfl) ?_
                refine t_st rfl (st_index t rfl rfl ht (by omega) sl88) ?_
                refine t_boolv rfl (st_load 8 rfl one4 rfl (own_bool h4)) (fun hc8 => ?_) (fun hc8 => ?_)
                ·
                  refine t_st rfl (st_not_t rfl) ?_
                  refine t_nil ?_
                  refine x_then_normal ?_
                  refine c_cond_f rfl ?_
                  refine c_skip ?_
                  refine x_drop (hp' := hq L ⟨s.T.set t (tf + a.len), s.R.set t (rt + 1), s.W, false, s.Q⟩ v ++ (hsd ++ fr)) (by repeat (first | exact List.Sublist.refl _ | exact List.nil_sublist _ | exact List.sublist_append_left _ _ | exact List.sublist_append_right _ _ | exact (List.sublist_append_right _ _).trans (List.sublist_append_right _ _) | apply List.Sublist.cons_cons | apply List.Sublist.cons)) ?_
                  exact end0 (Base.Le.refl _) rfl ⟨rfl, ⟨s.T.set t (tf + a.len), s.R.set t (rt + 1), s.W, false, s.Q⟩, v, hsd, (by rw [tryQ_up hf ht h1 h2 h3 h4 h5 (by assumption)]; simp [*]), hseg, rfl⟩
                ·
                  refine t_st rfl (st_not_f rfl) ?_
                  refine t_nil ?_
                  refine x_then_normal ?_
                  refine c_cond_t rfl ?_
                  refine c_seq ?_
                  refine c_region ?_
                  refine t_st rfl (st_load 4 rfl one88 rfl rfl) ?_
                  refine t_st rfl (st_field rfl fld34_1) ?_
                  refine t_st rfl (st_load 0 rfl one3 rfl rfl) ?_
                  refine t_st rfl (st_index t rfl rfl ht (by omega) sl88) ?_
                  refine t_do rfl (u_store_bool 8 rfl rfl siz4 rfl (by have := lt_of_get h4; omega)) ?_
                  rintro _ _ rfl
                  refine t_nil ?_
                  refine x_then_normal ?_
                  refine c_region ?_
                  refine t_st rfl (st_load 9 rfl one22 rfl rfl) ?_
                  refine t_st rfl (st_field rfl fld34_1) ?_
                  refine t_st rfl (st_load 0 rfl one3 rfl rfl) ?_
                  refine t_do rfl (u_bslice (el := 3) [(0, .int .i64 a.to)] [.int .i64 a.to] rfl (fun _ => by kernel_rfl)) ?_
                  rintro _ _ ⟨g9, rfl, rfl⟩
                  refine t_do rfl (u_appF [_, _, _, _, _, _, _, _, _, _, _] hsd fr [.int .i64 a.to] sl22 inf3 rfl (by decide) rfl rfl hseg rfl rfl (fun w ho => Rd.own (i := 0) ho rfl) (encI_one a.to) (by omega) (by omega)) ?_
                  rintro _ _ ⟨hsd2, rfl, hseg2⟩
                  obtain ⟨A2, c2, rfl, hcc⟩ := hseg2.form
                  refine t_do rfl (u_store 10 rfl rfl siz22 rfl rfl (by simp)) ?_
                  rintro _ _ rfl
                  refine t_nil ?_
                  refine x_drop (hp' := hq L ⟨s.T.set t (tf + a.len), s.R.set t (rt + 1), s.W.set t true, false, s.Q ++ [a.to]⟩ (.slice A2 (s.Q.length + 1) c2) ++ (hsd2 ++ fr)) (by repeat (first | exact List.Sublist.refl _ | exact List.nil_sublist _ | exact List.sublist_append_left _ _ | exact List.sublist_append_right _ _ | exact (List.sublist_append_right _ _).trans (List.sublist_append_right _ _) | apply List.Sublist.cons_cons | apply List.Sublist.cons)) ?_
                  exact end0 (Base.Le.refl _) rfl ⟨rfl, ⟨s.T.set t (tf + a.len), s.R.set t (rt + 1), s.W.set t true, false, s.Q ++ [a.to]⟩, .slice A2 (s.Q.length + 1) c2, hsd2, (by rw [tryQ_up hf ht h1 h2 h3 h4 h5 (by assumption)]; simp [*]), (by rw [rows_append, List.length_append]; exact hseg2), rfl⟩
              exact r_nil
          ·
            refine d_st 27 rfl (by kernel_rfl) (by kernel_rfl) (by kernel_rfl) rfl (st_pick_t rfl rfl) (List.Sublist.refl _) ?_
            refine d_st 28 rfl (by kernel_rfl) (by kernel_rfl) (by kernel_rfl) rfl (st_move rfl) (List.Sublist.refl _) ?_
            refine d_no 29 72 rfl (by kernel_rfl) (by kernel_rfl) (by kernel_rfl) rfl rfl rfl rfl rfl (List.Sublist.refl _) ?_
            refine d_no 30 72 rfl (by kernel_rfl) (by kernel_rfl) (by kernel_rfl) rfl rfl rfl rfl rfl (List.Sublist.refl _) ?_
            refine d_no 31 72 rfl (by kernel_rfl) (by kernel_rfl) (by kernel_rfl) rfl rfl rfl rfl rfl (List.Sublist.refl _) ?_
            refine d_no 32 72 rfl (by kernel_rfl) (by kernel_rfl) (by kernel_rfl) rfl rfl rfl rfl rfl (List.Sublist.refl _) ?_
            refine d_no 33 72 rfl (by kernel_rfl) (by kernel_rfl) (by kernel_rfl) rfl rfl rfl rfl rfl (List.Sublist.refl _) ?_
            refine d_no 34 72 rfl (by kernel_rfl) (by kernel_rfl) (by kernel_rfl) rfl rfl rfl rfl rfl (List.Sublist.refl _) ?_
            refine d_st 35 rfl (by kernel_rfl) (by kernel_rfl) (by kernel_rfl) rfl (st_pick_f rfl rfl) (List.Sublist.refl _) ?_
            refine d_all [36] (by kernel_rfl) rfl ?_
            refine r_do rfl rfl (u_store 3 rfl rfl siz4 rfl rfl (by simp)) ?_ ?_
            ·
              rintro _ _ rfl
              refine ⟨.inl (by kernel_rfl), ?_⟩
              refine d_done (by kernel_rfl) ?_
              refine x_then_normal ?_
              refine c_seq ?_
              refine c_region ?_
              refine t_st rfl (st_load 4 rfl one88 rfl rfl) ?_
              refine t_st rfl (st_field rfl fld34_1) ?_
              refine t_st rfl (st_load 0 rfl one3 rfl rfl) ?_
              refine t_st rfl (st_index t rfl rfl ht (by omega) sl88) ?_
              refine t_boolv rfl (st_load 8 rfl one4 rfl (own_bool h4)) (fun hc9 => ?_) (fun hc9 => ?_)
              ·
                refine t_st rfl (st_not_t rfl) ?_
                refine t_nil ?_
                refine x_then_normal ?_
                refine c_cond_f rfl ?_
                refine c_skip ?_
                refine x_drop (hp' := hq L ⟨s.T.set t (tf + a.len), s.R.set t (rt + 1), s.W, false, s.Q⟩ v ++ (hsd ++ fr)) (by repeat (first | exact List.Sublist.refl _ | exact List.nil_sublist _ | exact List.sublist_append_left _ _ | exact List.sublist_append_right _ _ | exact (List.sublist_append_right _ _).trans (List.sublist_append_right _ _) | apply List.Sublist.cons_cons | apply List.Sublist.cons)) ?_
                exact end0 (Base.Le.refl _) rfl ⟨rfl, ⟨s.T.set t (tf + a.len), s.R.set t (rt + 1), s.W, false, s.Q⟩, v, hsd, (by rw [tryQ_up hf ht h1 h2 h3 h4 h5 (by assumption)]; simp [*]), hseg, rfl⟩
              ·
                refine t_st rfl (st_not_f rfl) ?_
                refine t_nil ?_
                refine x_then_normal ?_
                refine c_cond_t rfl ?_
                refine c_seq ?_
                refine c_region ?_
                refine t_st rfl (st_load 4 rfl one88 rfl rfl) ?_
                refine t_st rfl (st_field rfl fld34_1) ?_
                refine t_st rfl (st_load 0 rfl one3 rfl rfl) ?_
                refine t_st rfl (st_index t rfl rfl ht (by omega) sl88) ?_
                refine t_do rfl (u_store_bool 8 rfl rfl siz4 rfl (by have := lt_of_get h4; omega)) ?_
                rintro _ _ rfl
                refine t_nil ?_
                refine x_then_normal ?_
                refine c_region ?_
                refine t_st rfl (st_load 9 rfl one22 rfl rfl) ?_
                refine t_st rfl (st_field rfl fld34_1) ?_
                refine t_st rfl (st_load 0 rfl one3 rfl rfl) ?_
                refine t_do rfl (u_bslice (el := 3) [(0, .int .i64 a.to)] [.int .i64 a.to] rfl (fun _ => by kernel_rfl)) ?_
                rintro _ _ ⟨g9, rfl, rfl⟩
                refine t_do rfl (u_appF [_, _, _, _, _, _, _, _, _, _, _] hsd fr [.int .i64 a.to] sl22 inf3 rfl (by decide) rfl rfl hseg rfl rfl (fun w ho => Rd.own (i := 0) ho rfl) (encI_one a.to) (by omega) (by omega)) ?_
                rintro _ _ ⟨hsd2, rfl, hseg2⟩
                obtain ⟨A2, c2, rfl, hcc⟩ := hseg2.form
                refine t_do rfl (u_store 10 rfl rfl siz22 rfl rfl (by simp)) ?_
                rintro _ _ rfl
                refine t_nil ?_
                refine x_drop (hp' := hq L ⟨s.T.set t (tf + a.len), s.R.set t (rt + 1), s.W.set t true, false, s.Q ++ [a.to]⟩ (.slice A2 (s.Q.length + 1) c2) ++ (hsd2 ++ fr)) (by repeat (first | exact List.Sublist.refl _ | exact List.nil_sublist _ | exact List.sublist_append_left _ _ | exact List.sublist_append_right _ _ | exact (List.sublist_append_right _ _).trans (List.sublist_append_right _ _) | apply List.Sublist.cons_cons | apply List.Sublist.cons)) ?_
                exact end0 (Base.Le.refl _) rfl ⟨rfl, ⟨s.T.set t (tf + a.len), s.R.set t (rt + 1), s.W.set t true, false, s.Q ++ [a.to]⟩, .slice A2 (s.Q.length + 1) c2, hsd2, (by rw [tryQ_up hf ht h1 h2 h3 h4 h5 (by assumption)]; simp [*]), (by rw [rows_append, List.length_append]; exact hseg2), rfl⟩
            exact r_nil
        ·
          refine d_yes 11 45 rfl (by kernel_rfl) (by kernel_rfl) (by kernel_rfl) rfl rfl rfl rfl (st_move rfl) (List.Sublist.refl _) ?_
          refine d_yes 12 55 rfl (by kernel_rfl) (by kernel_rfl) (by kernel_rfl) rfl rfl rfl rfl (st_move rfl) (List.Sublist.refl _) ?_
          refine d_yes 13 55 rfl (by kernel_rfl) (by kernel_rfl) (by kernel_rfl) rfl rfl rfl rfl (st_load 1 rfl one69 rfl rfl) (List.Sublist.refl _) ?_
          refine d_yes 14 55 rfl (by kernel_rfl) (by kernel_rfl) (by kernel_rfl) rfl rfl rfl rfl (st_nil rfl) (List.Sublist.refl _) ?_
          refine d_yes 15 55 rfl (by kernel_rfl) (by kernel_rfl) (by kernel_rfl) rfl rfl rfl rfl (st_field rfl fld73_1) (List.Sublist.refl _) ?_
          refine d_yes 16 55 rfl (by kernel_rfl) (by kernel_rfl) (by kernel_rfl) rfl rfl rfl rfl (st_load 5 rfl one22 rfl rfl) (List.Sublist.refl _) ?_
          refine d_yes 17 55 rfl (by kernel_rfl) (by kernel_rfl) (by kernel_rfl) rfl rfl rfl rfl (st_field rfl fld34_1) (List.Sublist.refl _) ?_
          refine d_yes 18 55 rfl (by kernel_rfl) (by kernel_rfl) (by kernel_rfl) rfl rfl rfl rfl (st_load 0 rfl one3 rfl rfl) (List.Sublist.refl _) ?_
          refine d_yes 19 55 rfl (by kernel_rfl) (by kernel_rfl) (by kernel_rfl) rfl rfl rfl rfl (st_index_old t rfl rfl ht (by omega) (Rd.isSome encI_len (by decide) hL h5) sl22) (List.Sublist.refl _) ?_
          refine d_yes 20 55 rfl (by kernel_rfl) (by kernel_rfl) (by kernel_rfl) rfl rfl rfl rfl (st_load_old rfl one3 (Rd.row encI_len hL h5 (j := 0) rfl)) (List.Sublist.refl _) ?_
          refine d_yesB 21 55 rfl (by kernel_rfl) (by kernel_rfl) (by kernel_rfl) rfl rfl rfl rfl (st_leq rfl rfl) (List.Sublist.refl _) (fun hc10 => ?_) (fun hc10 => ?_)
          ·
            refine d_yes 22 45 rfl (by kernel_rfl) (by kernel_rfl) (by kernel_rfl) rfl rfl rfl rfl (st_pick_f rfl rfl) (List.Sublist.refl _) ?_
            refine d_st 23 rfl (by kernel_rfl) (by kernel_rfl) (by kernel_rfl) rfl (st_pick_t rfl rfl) (List.Sublist.refl _) ?_
            refine d_st 24 rfl (by kernel_rfl) (by kernel_rfl) (by kernel_rfl) rfl (st_move rfl) (List.Sublist.refl _) ?_
            refine d_yes 25 68 rfl (by kernel_rfl) (by kernel_rfl) (by kernel_rfl) rfl rfl rfl rfl (st_move rfl) (List.Sublist.refl _) ?_
            refine d_yesB 26 68 rfl (by kernel_rfl) (by kernel_rfl) (by kernel_rfl) rfl rfl rfl rfl (st_leq rfl rfl) (List.Sublist.refl _) (fun hc11 => ?_) (fun hc11 => ?_)
            ·
              refine d_st 27 rfl (by kernel_rfl) (by kernel_rfl) (by kernel_rfl) rfl (st_pick_t rfl rfl) (List.Sublist.refl _) ?_
              refine d_st 28 rfl (by kernel_rfl) (by kernel_rfl) (by kernel_rfl) rfl (st_move rfl) (List.Sublist.refl _) ?_
              refine d_yes 29 72 rfl (by kernel_rfl) (by kernel_rfl) (by kernel_rfl) rfl rfl rfl rfl (st_load 2 rfl one22 rfl rfl) (List.Sublist.refl _) ?_
              refine d_yes 30 72 rfl (by kernel_rfl) (by kernel_rfl) (by kernel_rfl) rfl rfl rfl rfl (st_field rfl fld34_1) (List.Sublist.refl _) ?_
              refine d_yes 31 72 rfl (by kernel_rfl) (by kernel_rfl) (by kernel_rfl) rfl rfl rfl rfl (st_load 0 rfl one3 rfl rfl) (List.Sublist.refl _) ?_
              refine d_yes 32 72 rfl (by kernel_rfl) (by kernel_rfl) (by kernel_rfl) rfl rfl rfl rfl (st_index t rfl rfl ht (by omega) sl22) (List.Sublist.refl _) ?_
              refine d_yes 33 72 rfl (by kernel_rfl) (by kernel_rfl) (by kernel_rfl) rfl rfl rfl rfl (st_load 7 rfl one3 rfl (own_int (List.getElem?_set_self (lt_of_get h3)))) (List.Sublist.refl _) ?_
              refine d_yesB 34 72 rfl (by kernel_rfl) (by kernel_rfl) (by kernel_rfl) rfl rfl rfl rfl (st_leq rfl rfl) (List.Sublist.refl _) (fun hc12 => ?_) (fun hc12 => ?_)
              ·
                refine d_st 35 rfl (by kernel_rfl) (by kernel_rfl) (by kernel_rfl) rfl (st_pick_t rfl rfl) (List.Sublist.refl _) ?_
                refine d_all [36] (by kernel_rfl) rfl ?_
                refine r_do rfl rfl (u_store 3 rfl rfl siz4 rfl rfl (by simp)) ?_ ?_
                ·
                  rintro _ _ rfl
                  refine ⟨.inl (by kernel_rfl), ?_⟩
                  refine d_done (by kernel_rfl) ?_
                  refine x_then_normal ?_
                  refine c_seq ?_
                  refine c_region ?_
                  refine t_st rfl (st_load 4 rfl one88 rfl rfl) ?_
                  refine t_st rfl (st_field rfl fld34_1) ?_
                  refine t_st rfl (st_load 0 rfl one3 rfl rfl) ?_
                  refine t_st rfl (st_index t rfl rfl ht (by omega) sl88) ?_
                  refine t_boolv rfl (st_load 8 rfl one4 rfl (own_bool h4)) (fun hc13 => ?_) (fun hc13 => ?_)
                  ·
                    refine t_st rfl (st_not_t rfl) ?_
                    refine t_nil ?_
                    refine x_then_normal ?_
                    refine c_cond_f rfl ?_
                    refine c_skip ?_
                    refine x_drop (hp' := hq L ⟨s.T.set t (tf + a.len), s.R.set t (rt + 1), s.W, true, s.Q⟩ v ++ (hsd ++ fr)) (by repeat (first | exact List.Sublist.refl _ | exact List.nil_sublist _ | exact List.sublist_append_left _ _ | exact List.sublist_append_right _ _ | exact (List.sublist_append_right _ _).trans (List.sublist_append_right _ _) | apply List.Sublist.cons_cons | apply List.Sublist.cons)) ?_
                    exact end0 (Base.Le.refl _) rfl ⟨rfl, ⟨s.T.set t (tf + a.len), s.R.set t (rt + 1), s.W, true, s.Q⟩, v, hsd, (by rw [tryQ_up hf ht h1 h2 h3 h4 h5 (by assumption)]; simp [*]), hseg, rfl⟩
                  ·
                    refine t_st rfl (st_not_f rfl) ?_
                    refine t_nil ?_
                    refine x_then_normal ?_
                    refine c_cond_t rfl ?_
                    refine c_seq ?_
                    refine c_region ?_
                    refine t_st rfl (st_load 4 rfl one88 rfl rfl) ?_
                    refine t_st rfl (st_field rfl fld34_1) ?_
                    refine t_st rfl (st_load 0 rfl one3 rfl rfl) ?_
                    refine t_st rfl (st_index t rfl rfl ht (by omega) sl88) ?_
                    refine t_do rfl (u_store_bool 8 rfl rfl siz4 rfl (by have := lt_of_get h4; omega)) ?_
                    rintro _ _ rfl
                    refine t_nil ?_
                    refine x_then_normal ?_
                    refine c_region ?_
                    refine t_st rfl (st_load 9 rfl one22 rfl rfl) ?_
                    refine t_st rfl (st_field rfl fld34_1) ?_
                    refine t_st rfl (st_load 0 rfl one3 rfl rfl) ?_
                    refine t_do rfl (u_bslice (el := 3) [(0, .int .i64 a.to)] [.int .i64 a.to] rfl (fun _ => by kernel_rfl)) ?_
                    rintro _ _ ⟨g9, rfl, rfl⟩
                    refine t_do rfl (u_appF [_, _, _, _, _, _, _, _, _, _, _] hsd fr [.int .i64 a.to] sl22 inf3 rfl (by decide) rfl rfl hseg rfl rfl (fun w ho => Rd.own (i := 0) ho rfl) (encI_one a.to) (by omega) (by omega)) ?_
                    rintro _ _ ⟨hsd2, rfl, hseg2⟩
                    obtain ⟨A2, c2, rfl, hcc⟩ := hseg2.form
                    refine t_do rfl (u_store 10 rfl rfl siz22 rfl rfl (by simp)) ?_
                    rintro _ _ rfl
                    refine t_nil ?_
                    refine x_drop (hp' := hq L ⟨s.T.set t (tf + a.len), s.R.set t (rt + 1), s.W.set t true, true, s.Q ++ [a.to]⟩ (.slice A2 (s.Q.length + 1) c2) ++ (hsd2 ++ fr)) (by repeat (first | exact List.Sublist.refl _ | exact List.nil_sublist _ | exact List.sublist_append_left _ _ | exact List.sublist_append_right _ _ | exact (List.sublist_append_right _ _).trans (List.sublist_append_right _ _) | apply List.Sublist.cons_cons | apply List.Sublist.cons)) ?_
                    exact end0 (Base.Le.refl _) rfl ⟨rfl, ⟨s.T.set t (tf + a.len), s.R.set t (rt + 1), s.W.set t true, true, s.Q ++ [a.to]⟩, .slice A2 (s.Q.length + 1) c2, hsd2, (by rw [tryQ_up hf ht h1 h2 h3 h4 h5 (by assumption)]; simp [*]), (by rw [rows_append, List.length_append]; exact hseg2), rfl⟩
                exact r_nil
              ·
                refine d_st 35 rfl (by kernel_rfl) (by kernel_rfl) (by kernel_rfl) rfl (st_pick_t rfl rfl) (List.Sublist.refl _) ?_
                refine d_all [36] (by kernel_rfl) rfl ?_
                refine r_do rfl rfl (u_store 3 rfl rfl siz4 rfl rfl (by simp)) ?_ ?_
                ·
                  rintro _ _ rfl
                  refine ⟨.inl (by kernel_rfl), ?_⟩
                  refine d_done (by kernel_rfl) ?_
                  refine x_then_normal ?_
                  refine c_seq ?_
                  refine c_region ?_
                  refine t_st rfl (st_load 4 rfl one88 rfl rfl) ?_
                  refine t_st rfl (st_field rfl fld34_1) ?_
                  refine t_st rfl (st_load 0 rfl one3 rfl rfl) ?_
                  refine t_st rfl (st_index t rfl rfl ht (by omega) sl88) ?_
                  refine t_boolv rfl (st_load 8 rfl one4 rfl (own_bool h4)) (fun hc14 => ?_) (fun hc14 => ?_)
                  ·
                    refine t_st rfl (st_not_t rfl) ?_
                    refine t_nil ?_
                    refine x_then_normal ?_
                    refine c_cond_f rfl ?_
                    refine c_skip ?_
                    refine x_drop (hp' := hq L ⟨s.T.set t (tf + a.len), s.R.set t (rt + 1), s.W, false, s.Q⟩ v ++ (hsd ++ fr)) (by repeat (first | exact List.Sublist.refl _ | exact List.nil_sublist _ | exact List.sublist_append_left _ _ | exact List.sublist_append_right _ _ | exact (List.sublist_append_right _ _).trans (List.sublist_append_right _ _) | apply List.Sublist.cons_cons | apply List.Sublist.cons)) ?_
                    exact end0 (Base.Le.refl _) rfl ⟨rfl, ⟨s.T.set t (tf + a.len), s.R.set t (rt + 1), s.W, false, s.Q⟩, v, hsd, (by rw [tryQ_up hf ht h1 h2 h3 h4 h5 (by assumption)]; simp [*]), hseg, rfl⟩
                  ·
                    refine t_st rfl (st_not_f rfl) ?_
                    refine t_nil ?_
                    refine x_then_normal ?_
                    refine c_cond_t rfl ?_
                    refine c_seq ?_
                    refine c_region ?_
                    refine t_st rfl (st_load 4 rfl one88 rfl rfl) ?_
                    refine t_st rfl (st_field rfl fld34_1) ?_
                    refine t_st rfl (st_load 0 rfl one3 rfl rfl) ?_
                    refine t_st rfl (st_index t rfl rfl ht (by omega) sl88) ?_
                    refine t_do rfl (u_store_bool 8 rfl rfl siz4 rfl (by have := lt_of_get h4; omega)) ?_
                    rintro _ _ rfl
                    refine t_nil ?_
                    refine x_then_normal ?_
                    refine c_region ?_
                    refine t_st rfl (st_load 9 rfl one22 rfl rfl) ?_
                    refine t_st rfl (st_field rfl fld34_1) ?_
                    refine t_st rfl (st_load 0 rfl one3 rfl rfl) ?_
                    refine t_do rfl (u_bslice (el := 3) [(0, .int .i64 a.to)] [.int .i64 a.to] rfl (fun _ => by kernel_rfl)) ?_
                    rintro _ _ ⟨g9, rfl, rfl⟩
                    refine t_do rfl (u_appF [_, _, _, _, _, _, _, _, _, _, _] hsd fr [.int .i64 a.to] sl22 inf3 rfl (by decide) rfl rfl hseg rfl rfl (fun w ho => Rd.own (i := 0) ho rfl) (encI_one a.to) (by omega) (by omega)) ?_
                    rintro _ _ ⟨hsd2, rfl, hseg2⟩
                    obtain ⟨A2, c2, rfl, hcc⟩ := hseg2.form
                    refine t_do rfl (u_store 10 rfl rfl siz22 rfl rfl (by simp)) ?_
                    rintro _ _ rfl
                    refine t_nil ?_
                    refine x_drop (hp' := hq L ⟨s.T.set t (tf + a.len), s.R.set t (rt + 1), s.W.set t true, false, s.Q ++ [a.to]⟩ (.slice A2 (s.Q.length + 1) c2) ++ (hsd2 ++ fr)) (by repeat (first | exact List.Sublist.refl _ | exact List.nil_sublist _ | exact List.sublist_append_left _ _ | exact List.sublist_append_right _ _ | exact (List.sublist_append_right _ _).trans (List.sublist_append_right _ _) | apply List.Sublist.cons_cons | apply List.Sublist.cons)) ?_
                    exact end0 (Base.Le.refl _) rfl ⟨rfl, ⟨s.T.set t (tf + a.len), s.R.set t (rt + 1), s.W.set t true, false, s.Q ++ [a.to]⟩, .slice A2 (s.Q.length + 1) c2, hsd2, (by rw [tryQ_up hf ht h1 h2 h3 h4 h5 (by assumption)]; simp [*]), (by rw [rows_append, List.length_append]; exact hseg2), rfl⟩
                exact r_nil
            ·
              refine d_st 27 rfl (by kernel_rfl) (by kernel_rfl) (by kernel_rfl) rfl (st_pick_t rfl rfl) (List.Sublist.refl _) ?_
              refine d_st 28 rfl (by kernel_rfl) (by kernel_rfl) (by kernel_rfl) rfl (st_move rfl) (List.Sublist.refl _) ?_
              refine d_no 29 72 rfl (by kernel_rfl) (by kernel_rfl) (by kernel_rfl) rfl rfl rfl rfl rfl (List.Sublist.refl _) ?_
              refine d_no 30 72 rfl (by kernel_rfl) (by kernel_rfl) (by kernel_rfl) rfl rfl rfl rfl rfl (List.Sublist.refl _) ?_
              refine d_no 31 72 rfl (by kernel_rfl) (by kernel_rfl) (by kernel_rfl) rfl rfl rfl rfl rfl (List.Sublist.refl _) ?_
              refine d_no 32 72 rfl (by kernel_rfl) (by kernel_rfl) (by kernel_rfl) rfl rfl rfl rfl rfl (List.Sublist.refl _) ?_
              refine d_no 33 72 rfl (by kernel_rfl) (by kernel_rfl) (by kernel_rfl) rfl rfl rfl rfl rfl (List.Sublist.refl _) ?_
              refine d_no 34 72 rfl (by kernel_rfl) (by kernel_rfl) (by kernel_rfl) rfl rfl rfl rfl rfl (List.Sublist.refl _) ?_
              refine d_st 35 rfl (by kernel_rfl) (by kernel_rfl) (by kernel_rfl) rfl (st_pick_f rfl rfl) (List.Sublist.refl _) ?_
              refine d_all [36] (by kernel_rfl) rfl ?_
              refine r_do rfl rfl (u_store 3 rfl rfl siz4 rfl rfl (by simp)) ?_ ?_
              ·
                rintro _ _ rfl
                refine ⟨.inl (by kernel_rfl), ?_⟩
                refine d_done (by kernel_rfl) ?_
                refine x_then_normal ?_
                refine c_seq ?_
                refine c_region ?_
                refine t_st rfl (st_load 4 rfl one88 rfl rfl) ?_
                refine t_st rfl (st_field rfl fld34_1) ?_
                refine t_st rfl (st_load 0 rfl one3 rfl rfl) ?_
                refine t_st rfl (st_index t rfl rfl ht (by omega) sl88) ?_
                refine t_boolv rfl (st_load 8 rfl one4 rfl (own_bool h4)) (fun hc15 => ?_) (fun hc15 => ?_)
                ·
                  refine t_st rfl (st_not_t rfl) ?_
                  refine t_nil ?_
                  refine x_then_normal ?_
                  refine c_cond_f rfl ?_
                  refine c_skip ?_
                  refine x_drop (hp' := hq L ⟨s.T.set t (tf + a.len), s.R.set t (rt + 1), s.W, false, s.Q⟩ v ++ (hsd ++ fr)) (by repeat (first | exact List.Sublist.refl _ | exact List.nil_sublist _ | exact List.sublist_append_left _ _ | exact List.sublist_append_right _ _ | exact (List.sublist_append_right _ _).trans (List.sublist_append_right _ _) | apply List.Sublist.cons_cons | apply List.Sublist.cons)) ?_
                  exact end0 (Base.Le.refl _) rfl ⟨rfl, ⟨s.T.set t (tf + a.len), s.R.set t (rt + 1), s.W, false, s.Q⟩, v, hsd, (by rw [tryQ_up hf ht h1 h2 h3 h4 h5 (by assumption)]; simp [*]), hseg, rfl⟩
                ·
                  refine t_st rfl (st_not_f rfl) ?_
                  refine t_nil ?_
                  refine x_then_normal ?_
                  refine c_cond_t rfl ?_
                  refine c_seq ?_
                  refine c_region ?_
                  refine t_st rfl (st_load 4 rfl one88 rfl rfl) ?_
                  refine t_st rfl (st_field rfl fld34_1) ?_
                  refine t_st rfl (st_load 0 rfl one3 rfl rfl) ?_
                  refine t_st rfl (st_index t rfl rfl ht (by omega) sl88) ?_
                  refine t_do rfl (u_store_bool 8 rfl rfl siz4 rfl (by have := lt_of_get h4; omega)) ?_
                  rintro _ _ rfl
                  refine t_nil ?_
                  refine x_then_normal ?_
                  refine c_region ?_
                  refine t_st rfl (st_load 9 rfl one22 rfl rfl) ?_
                  refine t_st rfl (st_field rfl fld34_1) ?_
                  refine t_st rfl (st_load 0 rfl one3 rfl rfl) ?_
                  refine t_do rfl (u_bslice (el := 3) [(0, .int .i64 a.to)] [.int .i64 a.to] rfl (fun _ => by kernel_rfl)) ?_
                  rintro _ _ ⟨g9, rfl, rfl⟩
                  refine t_do rfl (u_appF [_, _, _, _, _, _, _, _, _, _, _] hsd fr [.int .i64 a.to] sl22 inf3 rfl (by decide) rfl rfl hseg rfl rfl (fun w ho => Rd.own (i := 0) ho rfl) (encI_one a.to) (by omega) (by omega)) ?_
                  rintro _ _ ⟨hsd2, rfl, hseg2⟩
                  obtain ⟨A2, c2, rfl, hcc⟩ := hseg2.form
                  refine t_do rfl (u_store 10 rfl rfl siz22 rfl rfl (by simp)) ?_
                  rintro _ _ rfl
                  refine t_nil ?_
                  refine x_drop (hp' := hq L ⟨s.T.set t (tf + a.len), s.R.set t (rt + 1), s.W.set t true, false, s.Q ++ [a.to]⟩ (.slice A2 (s.Q.length + 1) c2) ++ (hsd2 ++ fr)) (by repeat (first | exact List.Sublist.refl _ | exact List.nil_sublist _ | exact List.sublist_append_left _ _ | exact List.sublist_append_right _ _ | exact (List.sublist_append_right _ _).trans (List.sublist_append_right _ _) | apply List.Sublist.cons_cons | apply List.Sublist.cons)) ?_
                  exact end0 (Base.Le.refl _) rfl ⟨rfl, ⟨s.T.set t (tf + a.len), s.R.set t (rt + 1), s.W.set t true, false, s.Q ++ [a.to]⟩, .slice A2 (s.Q.length + 1) c2, hsd2, (by rw [tryQ_up hf ht h1 h2 h3 h4 h5 (by assumption)]; simp [*]), (by rw [rows_append, List.length_append]; exact hseg2), rfl⟩
              exact r_nil
          ·
            refine d_yes 22 45 rfl (by kernel_rfl) (by kernel_rfl) (by kernel_rfl) rfl rfl rfl rfl (st_pick_f rfl rfl) (List.Sublist.refl _) ?_
            refine d_st 23 rfl (by kernel_rfl) (by kernel_rfl) (by kernel_rfl) rfl (st_pick_t rfl rfl) (List.Sublist.refl _) ?_
            refine d_st 24 rfl (by kernel_rfl) (by kernel_rfl) (by kernel_rfl) rfl (st_move rfl) (List.Sublist.refl _) ?_
            refine d_no 25 68 rfl (by kernel_rfl) (by kernel_rfl) (by kernel_rfl) rfl rfl rfl rfl rfl (List.Sublist.refl _) ?_
            refine d_no 26 68 rfl (by kernel_rfl) (by kernel_rfl) (by kernel_rfl) rfl rfl rfl rfl rfl (List.Sublist.refl _) ?_
            refine d_st 27 rfl (by kernel_rfl) (by kernel_rfl) (by kernel_rfl) rfl (st_pick_f rfl rfl) (List.Sublist.refl _) ?_
            refine d_st 28 rfl (by kernel_rfl) (by kernel_rfl) (by kernel_rfl) rfl (st_move rfl) (List.Sublist.refl _) ?_
            refine d_no 29 72 rfl (by kernel_rfl) (by kernel_rfl) (by kernel_rfl) rfl rfl rfl rfl rfl (List.Sublist.refl _) ?_
            refine d_no 30 72 rfl (by kernel_rfl) (by kernel_rfl) (by kernel_rfl) rfl rfl rfl rfl rfl (List.Sublist.refl _) ?_
            refine d_no 31 72 rfl (by kernel_rfl) (by kernel_rfl) (by kernel_rfl) rfl rfl rfl rfl rfl (List.Sublist.refl _) ?_
            refine d_no 32 72 rfl (by kernel_rfl) (by kernel_rfl) (by kernel_rfl) rfl rfl rfl rfl rfl (List.Sublist.refl _) ?_
            refine d_no 33 72 rfl (by kernel_rfl) (by kernel_rfl) (by kernel_rfl) rfl rfl rfl rfl rfl (List.Sublist.refl _) ?_
            refine d_no 34 72 rfl (by kernel_rfl) (by kernel_rfl) (by kernel_rfl) rfl rfl rfl rfl rfl (List.Sublist.refl _) ?_
            refine d_st 35 rfl (by kernel_rfl) (by kernel_rfl) (by kernel_rfl) rfl (st_pick_f rfl rfl) (List.Sublist.refl _) ?_
            refine d_all [36] (by kernel_rfl) rfl ?_
            refine r_do rfl rfl (u_store 3 rfl rfl siz4 rfl rfl (by simp)) ?_ ?_
            ·
              rintro _ _ rfl
              refine ⟨.inl (by kernel_rfl), ?_⟩
              refine d_done (by kernel_rfl) ?_
              refine x_then_normal ?_
              refine c_seq ?_
              refine c_region ?_
              refine t_st rfl (st_load 4 rfl one88 rfl rfl) ?_
              refine t_st rfl (st_field rfl fld34_1) ?_
              refine t_st rfl (st_load 0 rfl one3 rfl rfl) ?_
              refine t_st rfl (st_index t rfl rfl ht (by omega) sl88) ?_
              refine t_boolv rfl (st_load 8 rfl one4 rfl (own_bool h4)) (fun hc16 => ?_) (fun hc16 => ?_)
              ·
                refine t_st rfl (st_not_t rfl) ?_
                refine t_nil ?_
                refine x_then_normal ?_
                refine c_cond_f rfl ?_
                refine c_skip ?_
                refine x_drop (hp' := hq L ⟨s.T.set t (tf + a.len), s.R.set t (rt + 1), s.W, false, s.Q⟩ v ++ (hsd ++ fr)) (by repeat (first | exact List.Sublist.refl _ | exact List.nil_sublist _ | exact List.sublist_append_left _ _ | exact List.sublist_append_right _ _ | exact (List.sublist_append_right _ _).trans (List.sublist_append_right _ _) | apply List.Sublist.cons_cons | apply List.Sublist.cons)) ?_
                exact end0 (Base.Le.refl _) rfl ⟨rfl, ⟨s.T.set t (tf + a.len), s.R.set t (rt + 1), s.W, false, s.Q⟩, v, hsd, (by rw [tryQ_up hf ht h1 h2 h3 h4 h5 (by assumption)]; simp [*]), hseg, rfl⟩
              ·
                refine t_st rfl (st_not_f rfl) ?_
                refine t_nil ?_
                refine x_then_normal ?_
                refine c_cond_t rfl ?_
                refine c_seq ?_
                refine c_region ?_
                refine t_st rfl (st_load 4 rfl one88 rfl rfl) ?_
                refine t_st rfl (st_field rfl fld34_1) ?_
                refine t_st rfl (st_load 0 rfl one3 rfl rfl) ?_
                refine t_st rfl (st_index t rfl rfl ht (by omega) sl88) ?_
                refine t_do rfl (u_store_bool 8 rfl rfl siz4 rfl (by have := lt_of_get h4; omega)) ?_
                rintro _ _ rfl
                refine t_nil ?_
                refine x_then_normal ?_
                refine c_region ?_
                refine t_st rfl (st_load 9 rfl one22 rfl rfl) ?_
                refine t_st rfl (st_field rfl fld34_1) ?_
                refine t_st rfl (st_load 0 rfl one3 rfl rfl) ?_
                refine t_do rfl (u_bslice (el := 3) [(0, .int .i64 a.to)] [.int .i64 a.to] rfl (fun _ => by kernel_rfl)) ?_
                rintro _ _ ⟨g9, rfl, rfl⟩
                refine t_do rfl (u_appF [_, _, _, _, _, _, _, _, _, _, _] hsd fr [.int .i64 a.to] sl22 inf3 rfl (by decide) rfl rfl hseg rfl rfl (fun w ho => Rd.own (i := 0) ho rfl) (encI_one a.to) (by omega) (by omega)) ?_
                rintro _ _ ⟨hsd2, rfl, hseg2⟩
                obtain ⟨A2, c2, rfl, hcc⟩ := hseg2.form
                refine t_do rfl (u_store 10 rfl rfl siz22 rfl rfl (by simp)) ?_
                rintro _ _ rfl
                refine t_nil ?_
                refine x_drop (hp' := hq L ⟨s.T.set t (tf + a.len), s.R.set t (rt + 1), s.W.set t true, false, s.Q ++ [a.to]⟩ (.slice A2 (s.Q.length + 1) c2) ++ (hsd2 ++ fr)) (by repeat (first | exact List.Sublist.refl _ | exact List.nil_sublist _ | exact List.sublist_append_left _ _ | exact List.sublist_append_right _ _ | exact (List.sublist_append_right _ _).trans (List.sublist_append_right _ _) | apply List.Sublist.cons_cons | apply List.Sublist.cons)) ?_
                exact end0 (Base.Le.refl _) rfl ⟨rfl, ⟨s.T.set t (tf + a.len), s.R.set t (rt + 1), s.W.set t true, false, s.Q ++ [a.to]⟩, .slice A2 (s.Q.length + 1) c2, hsd2, (by rw [tryQ_up hf ht h1 h2 h3 h4 h5 (by assumption)]; simp [*]), (by rw [rows_append, List.length_append]; exact hseg2), rfl⟩
            exact r_nil
      ·
        refine d_st 1 rfl (by kernel_rfl) (by kernel_rfl) (by kernel_rfl) rfl (st_move rfl) (List.Sublist.refl _) ?_
        refine d_no 2 45 rfl (by kernel_rfl) (by kernel_rfl) (by kernel_rfl) rfl rfl rfl rfl rfl (List.Sublist.refl _) ?_
        refine d_no 3 45 rfl (by kernel_rfl) (by kernel_rfl) (by kernel_rfl) rfl rfl rfl rfl rfl (List.Sublist.refl _) ?_
        refine d_no 4 45 rfl (by kernel_rfl) (by kernel_rfl) (by kernel_rfl) rfl rfl rfl rfl rfl (List.Sublist.refl _) ?_
        refine d_no 5 45 rfl (by kernel_rfl) (by kernel_rfl) (by kernel_rfl) rfl rfl rfl rfl rfl (List.Sublist.refl _) ?_
        refine d_no 6 45 rfl (by kernel_rfl) (by kernel_rfl) (by kernel_rfl) rfl rfl rfl rfl rfl (List.Sublist.refl _) ?_
        refine d_no 7 45 rfl (by kernel_rfl) (by kernel_rfl) (by kernel_rfl) rfl rfl rfl rfl rfl (List.Sublist.refl _) ?_
        refine d_no 8 45 rfl (by kernel_rfl) (by kernel_rfl) (by kernel_rfl) rfl rfl rfl rfl rfl (List.Sublist.refl _) ?_
        refine d_no 9 45 rfl (by kernel_rfl) (by kernel_rfl) (by kernel_rfl) rfl rfl rfl rfl rfl (List.Sublist.refl _) ?_
        refine d_no 10 45 rfl (by kernel_rfl) (by kernel_rfl) (by kernel_rfl) rfl rfl rfl rfl rfl (List.Sublist.refl _) ?_
        refine d_no 11 45 rfl (by kernel_rfl) (by kernel_rfl) (by kernel_rfl) rfl rfl rfl rfl rfl (List.Sublist.refl _) ?_
        refine d_no 12 55 rfl (by kernel_rfl) (by kernel_rfl) (by kernel_rfl) rfl rfl rfl rfl rfl (List.Sublist.refl _) ?_
        refine d_no 13 55 rfl (by kernel_rfl) (by kernel_rfl) (by kernel_rfl) rfl rfl rfl rfl rfl (List.Sublist.refl _) ?_
        refine d_no 14 55 rfl (by kernel_rfl) (by kernel_rfl) (by kernel_rfl) rfl rfl rfl rfl rfl (List.Sublist.refl _) ?_
        refine d_no 15 55 rfl (by kernel_rfl) (by kernel_rfl) (by kernel_rfl) rfl rfl rfl rfl rfl (List.Sublist.refl _) ?_
        refine d_no 16 55 rfl (by kernel_rfl) (by kernel_rfl) (by kernel_rfl) rfl rfl rfl rfl rfl (List.Sublist.refl _) ?_
        refine d_no 17 55 rfl (by kernel_rfl) (by kernel_rfl) (by kernel_rfl) rfl rfl rfl rfl rfl (List.Sublist.refl _) ?_
        refine d_no 18 55 rfl (by kernel_rfl) (by kernel_rfl) (by kernel_rfl) rfl rfl rfl rfl rfl (List.Sublist.refl _) ?_
        refine d_no 19 55 rfl (by kernel_rfl) (by kernel_rfl) (by kernel_rfl) rfl rfl rfl rfl rfl (List.Sublist.refl _) ?_
        refine d_no 20 55 rfl (by kernel_rfl) (by kernel_rfl) (by kernel_rfl) rfl rfl rfl rfl rfl (List.Sublist.refl _) ?_
        refine d_no 21 55 rfl (by kernel_rfl) (by kernel_rfl) (by kernel_rfl) rfl rfl rfl rfl rfl (List.Sublist.refl _) ?_
        refine d_no 22 45 rfl (by kernel_rfl) (by kernel_rfl) (by kernel_rfl) rfl rfl rfl rfl rfl (List.Sublist.refl _) ?_
        refine d_st 23 rfl (by kernel_rfl) (by kernel_rfl) (by kernel_rfl) rfl (st_pick_f rfl rfl) (List.Sublist.refl _) ?_
        refine d_st 24 rfl (by kernel_rfl) (by kernel_rfl) (by kernel_rfl) rfl (st_move rfl) (List.Sublist.refl _) ?_
        refine d_no 25 68 rfl (by kernel_rfl) (by kernel_rfl) (by kernel_rfl) rfl rfl rfl rfl rfl (List.Sublist.refl _) ?_
        refine d_no 26 68 rfl (by kernel_rfl) (by kernel_rfl) (by kernel_rfl) rfl rfl rfl rfl rfl (List.Sublist.refl _) ?_
        refine d_st 27 rfl (by kernel_rfl) (by kernel_rfl) (by kernel_rfl) rfl (st_pick_f rfl rfl) (List.Sublist.refl _) ?_
        refine d_st 28 rfl (by kernel_rfl) (by kernel_rfl) (by kernel_rfl) rfl (st_move rfl) (List.Sublist.refl _) ?_
        refine d_no 29 72 rfl (by kernel_rfl) (by kernel_rfl) (by kernel_rfl) rfl rfl rfl rfl rfl (List.Sublist.refl _) ?_
        refine d_no 30 72 rfl (by kernel_rfl) (by kernel_rfl) (by kernel_rfl) rfl rfl rfl rfl rfl (List.Sublist.refl _) ?_
        refine d_no 31 72 rfl (by kernel_rfl) (by kernel_rfl) (by kernel_rfl) rfl rfl rfl rfl rfl (List.Sublist.refl _) ?_
        refine d_no 32 72 rfl (by kernel_rfl) (by kernel_rfl) (by kernel_rfl) rfl rfl rfl rfl rfl (List.Sublist.refl _) ?_
        refine d_no 33 72 rfl (by kernel_rfl) (by kernel_rfl) (by kernel_rfl) rfl rfl rfl rfl rfl (List.Sublist.refl _) ?_
        refine d_no 34 72 rfl (by kernel_rfl) (by kernel_rfl) (by kernel_rfl) rfl rfl rfl rfl rfl (List.Sublist.refl _) ?_
        refine d_st 35 rfl (by kernel_rfl) (by kernel_rfl) (by kernel_rfl) rfl (st_pick_f rfl rfl) (List.Sublist.refl _) ?_
        refine d_all [36] (by kernel_rfl) rfl ?_
        refine r_do rfl rfl (u_store 3 rfl rfl siz4 rfl rfl (by simp)) ?_ ?_
        ·
          rintro _ _ rfl
          refine ⟨.inl (by kernel_rfl), ?_⟩
          refine d_done (by kernel_rfl) ?_
          refine x_then_normal ?_
          refine c_seq ?_
          refine c_region ?_
          refine t_st rfl (st_load 4 rfl one88 rfl rfl) ?_
          refine t_st rfl (st_field rfl fld34_1) ?_
          refine t_st rfl (st_load 0 rfl one3 rfl rfl) ?_
          refine t_st rfl (st_index t rfl rfl ht (by omega) sl88) ?_
          refine t_boolv rfl (st_load 8 rfl one4 rfl (own_bool h4)) (fun hc17 => ?_) (fun hc17 => ?_)
          ·
            refine t_st rfl (st_not_t rfl) ?_
            refine t_nil ?_
            refine x_then_normal ?_
            refine c_cond_f rfl ?_
            refine c_skip ?_
            refine x_drop (hp' := hq L ⟨s.T.set t (tf + a.len), s.R.set t (rt + 1), s.W, false, s.Q⟩ v ++ (hsd ++ fr)) (by repeat (first | exact List.Sublist.refl _ | exact List.nil_sublist _ | exact List.sublist_append_left _ _ | exact List.sublist_append_right _ _ | exact (List.sublist_append_right _ _).trans (List.sublist_append_right _ _) | apply List.Sublist.cons_cons | apply List.Sublist.cons)) ?_
            exact end0 (Base.Le.refl _) rfl ⟨rfl, ⟨s.T.set t (tf + a.len), s.R.set t (rt + 1), s.W, false, s.Q⟩, v, hsd, (by rw [tryQ_up hf ht h1 h2 h3 h4 h5 (by assumption)]; simp [*]), hseg, rfl⟩
          ·
            refine t_st rfl (st_not_f rfl) ?_
            refine t_nil ?_
            refine x_then_normal ?_
            refine c_cond_t rfl ?_
            refine c_seq ?_
            refine c_region ?_
            refine t_st rfl (st_load 4 rfl one88 rfl rfl) ?_
            refine t_st rfl (st_field rfl fld34_1) ?_
            refine t_st rfl (st_load 0 rfl one3 rfl rfl) ?_
            refine t_st rfl (st_index t rfl rfl ht (by omega) sl88) ?_
            refine t_do rfl (u_store_bool 8 rfl rfl siz4 rfl (by have := lt_of_get h4; omega)) ?_
            rintro _ _ rfl
            refine t_nil ?_
            refine x_then_normal ?_
            refine c_region ?_
            refine t_st rfl (st_load 9 rfl one22 rfl rfl) ?_
            refine t_st rfl (st_field rfl fld34_1) ?_
            refine t_st rfl (st_load 0 rfl one3 rfl rfl) ?_
            refine t_do rfl (u_bslice (el := 3) [(0, .int .i64 a.to)] [.int .i64 a.to] rfl (fun _ => by kernel_rfl)) ?_
            rintro _ _ ⟨g9, rfl, rfl⟩
            refine t_do rfl (u_appF [_, _, _, _, _, _, _, _, _, _, _] hsd fr [.int .i64 a.to] sl22 inf3 rfl (by decide) rfl rfl hseg rfl rfl (fun w ho => Rd.own (i := 0) ho rfl) (encI_one a.to) (by omega) (by omega)) ?_
            rintro _ _ ⟨hsd2, rfl, hseg2⟩
            obtain ⟨A2, c2, rfl, hcc⟩ := hseg2.form
            refine t_do rfl (u_store 10 rfl rfl siz22 rfl rfl (by simp)) ?_
            rintro _ _ rfl
            refine t_nil ?_
            refine x_drop (hp' := hq L ⟨s.T.set t (tf + a.len), s.R.set t (rt + 1), s.W.set t true, false, s.Q ++ [a.to]⟩ (.slice A2 (s.Q.length + 1) c2) ++ (hsd2 ++ fr)) (by repeat (first | exact List.Sublist.refl _ | exact List.nil_sublist _ | exact List.sublist_append_left _ _ | exact List.sublist_append_right _ _ | exact (List.sublist_append_right _ _).trans (List.sublist_append_right _ _) | apply List.Sublist.cons_cons | apply List.Sublist.cons)) ?_
            exact end0 (Base.Le.refl _) rfl ⟨rfl, ⟨s.T.set t (tf + a.len), s.R.set t (rt + 1), s.W.set t true, false, s.Q ++ [a.to]⟩, .slice A2 (s.Q.length + 1) c2, hsd2, (by rw [tryQ_up hf ht h1 h2 h3 h4 h5 (by assumption)]; simp [*]), (by rw [rows_append, List.length_append]; exact hseg2), rfl⟩
        exact r_nil
    exact r_nil

end Go.Proofs.Ytakehdnblmonlaa
