/- Contracts of within, greatest, checkArcs, arcFault. -/
import Derived.Test.YtakehdnblmonlaaT
namespace Go.Proofs.Ytakehdnblmonlaa
open Go.RowKit Go.Fp


structure Arc where
  fr : Int
  to : Int
  len : Int
def encA (a : Arc) : List Value := [.int .i64 a.fr, .int .i64 a.to, .int .i64 a.len]
theorem encA_len (a : Arc) : (encA a).length = 3 := rfl
structure Gr where
  ready : Sl Int
  last : Sl Int
  due : Sl Int
  arcs : Sl Arc
  choices : Sl (Sl (Sl Arc))
abbrev Gr.cells (g : Gr) : List Value := [g.ready.val, g.last.val, g.due.val, g.arcs.val, g.choices.val]
abbrev Gr.val (g : Gr) : Value := .agg #[g.ready.val, g.last.val, g.due.val, g.arcs.val, g.choices.val]
def arcE (N : Nat) (a : Arc) : Int :=
  if ¬ (0 ≤ a.fr ∧ a.fr ≤ (N : Int) - 1) then 3 else if ¬ (0 ≤ a.to ∧ a.to ≤ (N : Int) - 1) then 3
  else if a.fr = a.to then 1 else if ¬ (-28800 ≤ a.len ∧ a.len ≤ 28800) then 2 else 0
structure ArcV (N : Nat) (a : Arc) : Prop where
  fr0 : 0 ≤ a.fr
  fr1 : a.fr < N
  to0 : 0 ≤ a.to
  to1 : a.to < N
  ne : a.fr ≠ a.to
  lo : -28800 ≤ a.len
  hi : a.len ≤ 28800
theorem arcE_zero {N : Nat} {a : Arc} : arcE N a = 0 ↔ ArcV N a := by
  unfold arcE
  constructor
  · intro h
    split at h
    · omega
    · split at h
      · omega
      · split at h
        · omega
        · split at h
          · omega
          · exact ⟨by omega, by omega, by omega, by omega, by assumption, by omega, by omega⟩
  · intro h
    have h1 := h.fr0; have h2 := h.fr1; have h3 := h.to0; have h4 := h.to1; have h5 := h.ne; have h6 := h.lo; have h7 := h.hi
    rw [if_neg (by omega), if_neg (by omega), if_neg h5, if_neg (by omega)]
def WayV (N : Nat) (y : Sl Arc) : Prop := y.l.length ≤ 4 ∧ ∀ a ∈ y.l, ArcV N a
def ChoiceV (N : Nat) (c : Sl (Sl Arc)) : Prop := c.l.length ≤ 3 ∧ ∀ y ∈ c.l, WayV N y
structure GraphV (g : Gr) : Prop where
  nr : g.ready.l.length ≤ 24
  na : g.arcs.l.length ≤ 250
  nc : g.choices.l.length ≤ 300
  nl : g.last.l.length = g.ready.l.length
  nd : g.due.l.length = g.ready.l.length
  readyv : ∀ x ∈ g.ready.l, 0 ≤ x ∧ x ≤ 28800
  lastv : ∀ x ∈ g.last.l, -1 ≤ x ∧ x ≤ 28800
  duev : ∀ x ∈ g.due.l, -1 ≤ x ∧ x ≤ 28800
  arcsv : ∀ a ∈ g.arcs.l, ArcV g.ready.l.length a
  choicesv : ∀ c ∈ g.choices.l, ChoiceV g.ready.l.length c
structure GrOk (w : World) (g : Gr) : Prop where
  ready : Rd w g.ready.A (rows encI g.ready.l)
  last : Rd w g.last.A (rows encI g.last.l)
  due : Rd w g.due.A (rows encI g.due.l)
  arcs : Rd w g.arcs.A (rows encA g.arcs.l)
  choices : Rd w g.choices.A (rows encS g.choices.l)
  ways : ∀ c ∈ g.choices.l, Rd w c.A (rows encS c.l)
  steps : ∀ c ∈ g.choices.l, ∀ y ∈ c.l, Rd w y.A (rows encA y.l)
  nready : g.ready.l.length ≤ 9223372036854775807
  narcs : g.arcs.l.length ≤ 9223372036854775807
  nchoices : g.choices.l.length ≤ 9223372036854775807
  nways : ∀ c ∈ g.choices.l, c.l.length ≤ 9223372036854775807
  nsteps : ∀ c ∈ g.choices.l, ∀ y ∈ c.l, y.l.length ≤ 9223372036854775807
theorem GrOk.old {w0 : Base} {w : World} {hp : Hp} {g : Gr} (h : GrOk w0.w g) (ho : Own w0 hp w) : GrOk w g :=
  ⟨h.ready.old ho, h.last.old ho, h.due.old ho, h.arcs.old ho, h.choices.old ho, fun c hc => (h.ways c hc).old ho, fun c hc y hy => (h.steps c hc y hy).old ho, h.nready, h.narcs, h.nchoices, h.nways, h.nsteps⟩
def PickV (g : Gr) (l : List Int) : Prop := l.length = g.choices.l.length ∧ ∀ (k : Nat) (x : Int) (c : Sl (Sl Arc)), l[k]? = some x → g.choices.l[k]? = some c → 0 ≤ x ∧ x ≤ (c.l.length : Int)

theorem within_c (x lo hi : Int) (w0 : Base) (hp : Hp) : CallsH Try.prog 37 [.int .i64 x, .int .i64 lo, .int .i64 hi] w0 hp (fun v hp' => v = .bool (decide (lo ≤ x ∧ x ≤ hi)) ∧ hp' = hp) := by
  refine fn_enter 15 Try.func37 rfl Try.ntmps37 rfl ?_
  refine c_seq ?_
  refine c_region ?_
  refine t_st rfl (st_assign rfl) ?_
  refine t_nil ?_
  refine x_then_normal ?_
  refine c_seq ?_
  refine c_region ?_
  refine t_st rfl (st_move rfl) ?_
  refine t_st rfl (st_move rfl) ?_
  refine t_bool rfl (st_geq rfl rfl) (fun hc1 => ?_) (fun hc1 => ?_)
  ·
    refine t_st rfl (st_move rfl) ?_
    refine t_yes 10 rfl rfl rfl ?_
    refine t_st rfl (st_move rfl) ?_
    refine t_yes 10 rfl rfl rfl ?_
    refine t_st rfl (st_move rfl) ?_
    refine t_yes 10 rfl rfl rfl ?_
    refine t_bool rfl (st_leq rfl rfl) (fun hc2 => ?_) (fun hc2 => ?_)
    ·
      refine t_st rfl (st_pick_t rfl rfl) ?_
      refine t_st rfl (st_assign rfl) ?_
      refine t_nil ?_
      refine x_then_normal ?_
      refine c_ret ?_
      refine x_drop (hp' := hp) (by repeat (first | exact List.Sublist.refl _ | exact List.nil_sublist _ | exact List.sublist_append_left _ _ | exact List.sublist_append_right _ _ | exact (List.sublist_append_right _ _).trans (List.sublist_append_right _ _) | apply List.Sublist.cons_cons | apply List.Sublist.cons)) ?_
      exact ret1 (Base.Le.refl _) rfl rfl ⟨by simp [*]; try omega, rfl⟩
    ·
      refine t_st rfl (st_pick_t rfl rfl) ?_
      refine t_st rfl (st_assign rfl) ?_
      refine t_nil ?_
      refine x_then_normal ?_
      refine c_ret ?_
      refine x_drop (hp' := hp) (by repeat (first | exact List.Sublist.refl _ | exact List.nil_sublist _ | exact List.sublist_append_left _ _ | exact List.sublist_append_right _ _ | exact (List.sublist_append_right _ _).trans (List.sublist_append_right _ _) | apply List.Sublist.cons_cons | apply List.Sublist.cons)) ?_
      exact ret1 (Base.Le.refl _) rfl rfl ⟨by simp [*]; try omega, rfl⟩
  ·
    refine t_st rfl (st_move rfl) ?_
    refine t_no 10 rfl rfl rfl rfl rfl ?_
    refine t_no 10 rfl rfl rfl rfl rfl ?_
    refine t_no 10 rfl rfl rfl rfl rfl ?_
    refine t_st rfl (st_pick_f rfl rfl) ?_
    refine t_st rfl (st_assign rfl) ?_
    refine t_nil ?_
    refine x_then_normal ?_
    refine c_ret ?_
    refine x_drop (hp' := hp) (by repeat (first | exact List.Sublist.refl _ | exact List.nil_sublist _ | exact List.sublist_append_left _ _ | exact List.sublist_append_right _ _ | exact (List.sublist_append_right _ _).trans (List.sublist_append_right _ _) | apply List.Sublist.cons_cons | apply List.Sublist.cons)) ?_
    exact ret1 (Base.Le.refl _) rfl rfl ⟨by simp [*]; try omega, rfl⟩

theorem rwithin_c (x lo hi : Int) (w0 : Base) (hp : Hp) : CallsH Try.prog 48 [.int .i64 x, .int .i64 lo, .int .i64 hi] w0 hp (fun v hp' => v = .bool (decide (lo ≤ x ∧ x ≤ hi)) ∧ hp' = hp) := by
  refine fn_enter 15 Try.func48 rfl Try.ntmps48 rfl ?_
  refine c_seq ?_
  refine c_region ?_
  refine t_st rfl (st_assign rfl) ?_
  refine t_nil ?_
  refine x_then_normal ?_
  refine c_seq ?_
  refine c_region ?_
  refine t_st rfl (st_move rfl) ?_
  refine t_st rfl (st_move rfl) ?_
  refine t_bool rfl (st_geq rfl rfl) (fun hc1 => ?_) (fun hc1 => ?_)
  ·
    refine t_st rfl (st_move rfl) ?_
    refine t_yes 10 rfl rfl rfl ?_
    refine t_st rfl (st_move rfl) ?_
    refine t_yes 10 rfl rfl rfl ?_
    refine t_st rfl (st_move rfl) ?_
    refine t_yes 10 rfl rfl rfl ?_
    refine t_bool rfl (st_leq rfl rfl) (fun hc2 => ?_) (fun hc2 => ?_)
    ·
      refine t_st rfl (st_pick_t rfl rfl) ?_
      refine t_st rfl (st_assign rfl) ?_
      refine t_nil ?_
      refine x_then_normal ?_
      refine c_ret ?_
      refine x_drop (hp' := hp) (by repeat (first | exact List.Sublist.refl _ | exact List.nil_sublist _ | exact List.sublist_append_left _ _ | exact List.sublist_append_right _ _ | exact (List.sublist_append_right _ _).trans (List.sublist_append_right _ _) | apply List.Sublist.cons_cons | apply List.Sublist.cons)) ?_
      exact ret1 (Base.Le.refl _) rfl rfl ⟨by simp [*]; try omega, rfl⟩
    ·
      refine t_st rfl (st_pick_t rfl rfl) ?_
      refine t_st rfl (st_assign rfl) ?_
      refine t_nil ?_
      refine x_then_normal ?_
      refine c_ret ?_
      refine x_drop (hp' := hp) (by repeat (first | exact List.Sublist.refl _ | exact List.nil_sublist _ | exact List.sublist_append_left _ _ | exact List.sublist_append_right _ _ | exact (List.sublist_append_right _ _).trans (List.sublist_append_right _ _) | apply List.Sublist.cons_cons | apply List.Sublist.cons)) ?_
      exact ret1 (Base.Le.refl _) rfl rfl ⟨by simp [*]; try omega, rfl⟩
  ·
    refine t_st rfl (st_move rfl) ?_
    refine t_no 10 rfl rfl rfl rfl rfl ?_
    refine t_no 10 rfl rfl rfl rfl rfl ?_
    refine t_no 10 rfl rfl rfl rfl rfl ?_
    refine t_st rfl (st_pick_f rfl rfl) ?_
    refine t_st rfl (st_assign rfl) ?_
    refine t_nil ?_
    refine x_then_normal ?_
    refine c_ret ?_
    refine x_drop (hp' := hp) (by repeat (first | exact List.Sublist.refl _ | exact List.nil_sublist _ | exact List.sublist_append_left _ _ | exact List.sublist_append_right _ _ | exact (List.sublist_append_right _ _).trans (List.sublist_append_right _ _) | apply List.Sublist.cons_cons | apply List.Sublist.cons)) ?_
    exact ret1 (Base.Le.refl _) rfl rfl ⟨by simp [*]; try omega, rfl⟩

theorem greatest_c (m : Int) (A : Option Addr) (c : Nat) (l : List Int) (w : World) (hR : Rd w A (rows encI l)) (hl : l.length ≤ 9223372036854775807) :
    CallsH Try.prog 54 [.int .i64 m, .slice A l.length c] w [] (fun v hp' => v = .int .i64 (l.foldl max m) ∧ hp' = []) := by
  refine fn_enter 18 Try.func54 rfl Try.ntmps54 rfl ?_
  refine c_seq ?_
  refine c_region ?_
  refine t_st rfl (st_assign rfl) ?_
  refine t_nil ?_
  refine x_then_normal ?_
  refine c_seq ?_
  refine c_seq ?_
  refine c_region ?_
  refine t_st rfl (st_move rfl) ?_
  refine t_st rfl (st_len rfl sl22) ?_
  refine t_st rfl (st_move rfl) ?_
  refine t_nil ?_
  refine x_then_normal ?_
  refine c_block ?_
  refine l_loop [(7, _), (8, _)] _ (fun (k : Nat) => [(9, .int .i64 (k : Int)), (0, .int .i64 ((l.take k).foldl max m))]) (fun (k : Nat) => []) (fun (k : Nat) => k ≤ l.length) (fun (k : Nat) => l.length - k) (0) ⟨rfl, rfl, trivial⟩ ⟨rfl, rfl, trivial⟩ rfl (by omega) ?_
  intro k hinv
  refine c_seq ?_
  refine c_region ?_
  refine t_bool rfl (st_lss rfl rfl) (fun hc1 => ?_) (fun hc1 => ?_)
  ·
    refine t_nil ?_
    refine x_then_normal ?_
    refine c_seq ?_
    refine c_cond_t rfl ?_
    refine c_skip ?_
    refine x_then_normal ?_
    refine c_seq ?_
    refine c_block ?_
    refine c_seq ?_
    refine c_region ?_
    obtain ⟨x, hx⟩ := ex_get (l := l) (k := k) (by omega)
    refine t_st rfl (st_index_old k rfl rfl rfl (by omega) (Rd.isSome encI_len (by decide) hR hx) sl22) ?_
    refine t_st rfl (st_load_old rfl one3 (Rd.row encI_len hR hx (j := 0) rfl)) ?_
    refine t_st rfl (st_assign rfl) ?_
    refine t_nil ?_
    refine x_then_normal ?_
    refine c_region ?_
    refine t_st rfl (st_move rfl) ?_
    refine t_st rfl (st_move rfl) ?_
    refine t_st rfl (st_max rfl rfl) ?_
    refine t_st rfl (st_assign rfl) ?_
    refine t_nil ?_
    refine x_block_normal ?_
    refine x_then_normal ?_
    refine c_region ?_
    refine t_st rfl (st_add rfl rfl (by omega)) ?_
    refine t_st rfl (st_move rfl) ?_
    refine t_nil ?_
    exact x_again  (k + 1) (Base.Le.refl _) ⟨rfl, by rw [take_snoc hx, List.foldl_append]; rfl, trivial⟩ ⟨rfl, rfl, trivial⟩ (by repeat (first | exact List.Sublist.refl _ | exact List.nil_sublist _ | exact List.sublist_append_left _ _ | exact List.sublist_append_right _ _ | exact (List.sublist_append_right _ _).trans (List.sublist_append_right _ _) | apply List.Sublist.cons_cons | apply List.Sublist.cons)) (by omega) (by omega)
  ·
    refine t_nil ?_
    refine x_then_normal ?_
    refine c_seq ?_
    refine c_cond_f rfl ?_
    refine c_exit ?_
    refine x_then_exit ?_
    refine x_then_exit ?_
    refine x_block_out ?_
    refine x_then_normal ?_
    refine c_seq ?_
    refine c_region ?_
    refine t_st rfl (st_move rfl) ?_
    refine t_st rfl (st_assign rfl) ?_
    refine t_nil ?_
    refine x_then_normal ?_
    refine c_ret ?_
    refine x_drop (hp' := []) (by repeat (first | exact List.Sublist.refl _ | exact List.nil_sublist _ | exact List.sublist_append_left _ _ | exact List.sublist_append_right _ _ | exact (List.sublist_append_right _ _).trans (List.sublist_append_right _ _) | apply List.Sublist.cons_cons | apply List.Sublist.cons)) ?_
    exact ret1 (Base.Le.refl _) rfl rfl ⟨by rw [List.take_of_length_le (by omega)], rfl⟩

theorem checkArcs_c (g : Gr) (A : Option Addr) (c : Nat) (l : List Arc) (w : World) (hR : Rd w A (rows encA l)) (hl : l.length ≤ 9223372036854775807) (hN : g.ready.l.length ≤ 9223372036854775807) :
    CallsH Try.prog 59 [g.val, .slice A l.length c] w [] (fun v hp' => v = .int .i64 (firstE (arcE g.ready.l.length) l) ∧ hp' = []) := by
  refine fn_enter 44 Try.func59 rfl Try.ntmps59 rfl ?_
  refine c_seq ?_
  refine c_region ?_
  refine t_do rfl (u_box _ rfl rfl) ?_
  rintro _ _ ⟨g1, rfl, rfl⟩
  refine t_st rfl (st_assign rfl) ?_
  refine t_nil ?_
  refine x_then_normal ?_
  refine c_seq ?_
  refine c_seq ?_
  refine c_region ?_
  refine t_st rfl (st_move rfl) ?_
  refine t_st rfl (st_len rfl sl23) ?_
  refine t_st rfl (st_move rfl) ?_
  refine t_nil ?_
  refine x_then_normal ?_
  refine c_block ?_
  refine l_loop [(2, _), (7, _), (8, _)] _ (fun (k : Nat) => [(9, .int .i64 (k : Int))]) (fun (k : Nat) => []) (fun (k : Nat) => k ≤ l.length ∧ firstE (arcE g.ready.l.length) l = firstE (arcE g.ready.l.length) (l.drop k)) (fun (k : Nat) => l.length - k) (0) ⟨rfl, trivial⟩ ⟨rfl, rfl, rfl, trivial⟩ rfl ⟨by omega, rfl⟩ ?_
  intro k hinv
  obtain ⟨hk, hE⟩ := hinv
  refine c_seq ?_
  refine c_region ?_
  refine t_bool rfl (st_lss rfl rfl) (fun hc2 => ?_) (fun hc2 => ?_)
  ·
    refine t_nil ?_
    refine x_then_normal ?_
    refine c_seq ?_
    refine c_cond_t rfl ?_
    refine c_skip ?_
    refine x_then_normal ?_
    refine c_seq ?_
    refine c_block ?_
    refine c_seq ?_
    refine c_region ?_
    obtain ⟨x, hx⟩ := ex_get (l := l) (k := k) (by omega)
    have hf := firstE_drop (f := arcE g.ready.l.length) hx
    refine t_st rfl (st_index_old k rfl rfl rfl (by omega) (Rd.isSome encA_len (by decide) hR hx) sl23) ?_
    refine t_st rfl (st_loadN_old (vs := encA _) 3 rfl agg34 (Rd.isSome encA_len (by decide) hR hx) rfl (fun _ _ h => Rd.row encA_len hR hx h)) ?_
    refine t_do rfl (u_alloc [.int .i64 0, .int .i64 0, .int .i64 0] zero34 rfl) ?_
    rintro _ _ ⟨g3, rfl, rfl⟩
    refine t_do rfl (u_storeN (vs := [_, _, _]) 0 3 rfl rfl rfl siz34 rfl (by intro u hu; simp only [List.mem_cons, List.not_mem_nil, or_false] at hu; rcases hu with rfl | rfl | rfl <;> rfl) rfl (by simp)) ?_
    rintro _ _ rfl
    refine t_nil ?_
    refine x_then_normal ?_
    refine c_block ?_
    refine c_seq ?_
    refine c_region ?_
    refine t_st rfl (st_field rfl fld34_0) ?_
    refine t_st rfl (st_load 0 rfl one3 rfl rfl) ?_
    refine t_st rfl (st_field rfl fld26_0) ?_
    refine t_st rfl (st_load 1 rfl one22 rfl rfl) ?_
    refine t_st rfl (st_len rfl sl22) ?_
    refine t_st rfl (st_sub rfl rfl (by omega)) ?_
    refine t_doB rfl (u_call _ call37 rfl (within_c _ _ _ _ _)) (fun hc4 => ?_) (fun hc4 => ?_)
    ·
      refine t_st rfl (st_not_t rfl) ?_
      refine t_st rfl (st_move rfl) ?_
      refine t_yes 22 rfl rfl rfl ?_
      refine t_st rfl (st_field rfl fld34_1) ?_
      refine t_yes 22 rfl rfl rfl ?_
      refine t_st rfl (st_load 0 rfl one3 rfl rfl) ?_
      refine t_yes 22 rfl rfl rfl ?_
      refine t_st rfl (st_field rfl fld26_0) ?_
      refine t_yes 22 rfl rfl rfl ?_
      refine t_st rfl (st_load 1 rfl one22 rfl rfl) ?_
      refine t_yes 22 rfl rfl rfl ?_
      refine t_st rfl (st_len rfl sl22) ?_
      refine t_yes 22 rfl rfl rfl ?_
      refine t_st rfl (st_sub rfl rfl (by omega)) ?_
      refine t_yes 22 rfl rfl rfl ?_
      refine t_doB rfl (u_call _ call37 rfl (within_c _ _ _ _ _)) (fun hc5 => ?_) (fun hc5 => ?_)
      ·
        refine t_yes 22 rfl rfl rfl ?_
        refine t_st rfl (st_not_t rfl) ?_
        refine t_st rfl (st_pick_f rfl rfl) ?_
        refine t_st rfl (st_assign rfl) ?_
        refine t_nil ?_
        refine x_then_normal ?_
        refine c_cond_f rfl ?_
        refine c_seq ?_
        refine c_region ?_
        refine t_st rfl (st_field rfl fld34_0) ?_
        refine t_st rfl (st_load 0 rfl one3 rfl rfl) ?_
        refine t_st rfl (st_field rfl fld34_1) ?_
        refine t_st rfl (st_load 0 rfl one3 rfl rfl) ?_
        refine t_bool rfl (st_eql rfl rfl) (fun hc6 => ?_) (fun hc6 => ?_)
        ·
          refine t_st rfl (st_assign rfl) ?_
          refine t_nil ?_
          refine x_then_normal ?_
          refine c_cond_t rfl ?_
          refine c_seq ?_
          refine c_region ?_
          refine t_st rfl (st_assign rfl) ?_
          refine t_nil ?_
          refine x_then_normal ?_
          refine c_ret ?_
          refine x_block_ret ?_
          refine x_block_ret ?_
          refine x_then_ret ?_
          refine x_then_ret ?_
          refine x_block_ret ?_
          refine x_then_ret ?_
          refine x_drop (hp' := []) (by repeat (first | exact List.Sublist.refl _ | exact List.nil_sublist _ | exact List.sublist_append_left _ _ | exact List.sublist_append_right _ _ | exact (List.sublist_append_right _ _).trans (List.sublist_append_right _ _) | apply List.Sublist.cons_cons | apply List.Sublist.cons)) ?_
          exact ret1 (Base.Le.refl _) rfl rfl ⟨by rw [hE]; first | (rw [hf]; simp [arcE, *]; done) | (rw [firstE_end (by omega)]), rfl⟩
        ·
          refine t_st rfl (st_assign rfl) ?_
          refine t_nil ?_
          refine x_then_normal ?_
          refine c_cond_f rfl ?_
          refine c_seq ?_
          refine c_region ?_
          refine t_st rfl (st_field rfl fld34_2) ?_
          refine t_st rfl (st_load 0 rfl one3 rfl rfl) ?_
          refine t_doB rfl (u_call _ call37 rfl (within_c _ _ _ _ _)) (fun hc7 => ?_) (fun hc7 => ?_)
          ·
            refine t_st rfl (st_not_t rfl) ?_
            refine t_st rfl (st_assign rfl) ?_
            refine t_nil ?_
            refine x_then_normal ?_
            refine c_cond_f rfl ?_
            refine c_skip ?_
            refine x_block_normal ?_
            refine x_block_normal ?_
            refine x_then_normal ?_
            refine c_region ?_
            refine t_st rfl (st_add rfl rfl (by omega)) ?_
            refine t_st rfl (st_move rfl) ?_
            refine t_nil ?_
            exact x_again  (k + 1) (Base.Le.refl _) ⟨rfl, trivial⟩ ⟨rfl, rfl, rfl, trivial⟩ (by repeat (first | exact List.Sublist.refl _ | exact List.nil_sublist _ | exact List.sublist_append_left _ _ | exact List.sublist_append_right _ _ | exact (List.sublist_append_right _ _).trans (List.sublist_append_right _ _) | apply List.Sublist.cons_cons | apply List.Sublist.cons)) ⟨by omega, by rw [hE, hf, if_pos (by simp [arcE, *])]⟩ (by omega)
          ·
            refine t_st rfl (st_not_f rfl) ?_
            refine t_st rfl (st_assign rfl) ?_
            refine t_nil ?_
            refine x_then_normal ?_
            refine c_cond_t rfl ?_
            refine c_seq ?_
            refine c_region ?_
            refine t_st rfl (st_assign rfl) ?_
            refine t_nil ?_
            refine x_then_normal ?_
            refine c_ret ?_
            refine x_block_ret ?_
            refine x_block_ret ?_
            refine x_then_ret ?_
            refine x_then_ret ?_
            refine x_block_ret ?_
            refine x_then_ret ?_
            refine x_drop (hp' := []) (by repeat (first | exact List.Sublist.refl _ | exact List.nil_sublist _ | exact List.sublist_append_left _ _ | exact List.sublist_append_right _ _ | exact (List.sublist_append_right _ _).trans (List.sublist_append_right _ _) | apply List.Sublist.cons_cons | apply List.Sublist.cons)) ?_
            exact ret1 (Base.Le.refl _) rfl rfl ⟨by rw [hE]; first | (rw [hf]; simp [arcE, *]; done) | (rw [firstE_end (by omega)]), rfl⟩
      ·
        refine t_yes 22 rfl rfl rfl ?_
        refine t_st rfl (st_not_f rfl) ?_
        refine t_st rfl (st_pick_f rfl rfl) ?_
        refine t_st rfl (st_assign rfl) ?_
        refine t_nil ?_
        refine x_then_normal ?_
        refine c_cond_t rfl ?_
        refine c_seq ?_
        refine c_region ?_
        refine t_st rfl (st_assign rfl) ?_
        refine t_nil ?_
        refine x_then_normal ?_
        refine c_ret ?_
        refine x_block_ret ?_
        refine x_block_ret ?_
        refine x_then_ret ?_
        refine x_then_ret ?_
        refine x_block_ret ?_
        refine x_then_ret ?_
        refine x_drop (hp' := []) (by repeat (first | exact List.Sublist.refl _ | exact List.nil_sublist _ | exact List.sublist_append_left _ _ | exact List.sublist_append_right _ _ | exact (List.sublist_append_right _ _).trans (List.sublist_append_right _ _) | apply List.Sublist.cons_cons | apply List.Sublist.cons)) ?_
        exact ret1 (Base.Le.refl _) rfl rfl ⟨by rw [hE]; first | (rw [hf]; simp [arcE, *]; done) | (rw [firstE_end (by omega)]), rfl⟩
    ·
      refine t_st rfl (st_not_f rfl) ?_
      refine t_st rfl (st_move rfl) ?_
      refine t_no 22 rfl rfl rfl rfl rfl ?_
      refine t_no 22 rfl rfl rfl rfl rfl ?_
      refine t_no 22 rfl rfl rfl rfl rfl ?_
      refine t_no 22 rfl rfl rfl rfl rfl ?_
      refine t_no 22 rfl rfl rfl rfl rfl ?_
      refine t_no 22 rfl rfl rfl rfl rfl ?_
      refine t_no 22 rfl rfl rfl rfl rfl ?_
      refine t_no 22 rfl rfl rfl rfl rfl ?_
      refine t_st rfl (st_pick_t rfl rfl) ?_
      refine t_st rfl (st_assign rfl) ?_
      refine t_nil ?_
      refine x_then_normal ?_
      refine c_cond_t rfl ?_
      refine c_seq ?_
      refine c_region ?_
      refine t_st rfl (st_assign rfl) ?_
      refine t_nil ?_
      refine x_then_normal ?_
      refine c_ret ?_
      refine x_block_ret ?_
      refine x_block_ret ?_
      refine x_then_ret ?_
      refine x_then_ret ?_
      refine x_block_ret ?_
      refine x_then_ret ?_
      refine x_drop (hp' := []) (by repeat (first | exact List.Sublist.refl _ | exact List.nil_sublist _ | exact List.sublist_append_left _ _ | exact List.sublist_append_right _ _ | exact (List.sublist_append_right _ _).trans (List.sublist_append_right _ _) | apply List.Sublist.cons_cons | apply List.Sublist.cons)) ?_
      exact ret1 (Base.Le.refl _) rfl rfl ⟨by rw [hE]; first | (rw [hf]; simp [arcE, *]; done) | (rw [firstE_end (by omega)]), rfl⟩
  ·
    refine t_nil ?_
    refine x_then_normal ?_
    refine c_seq ?_
    refine c_cond_f rfl ?_
    refine c_exit ?_
    refine x_then_exit ?_
    refine x_then_exit ?_
    refine x_block_out ?_
    refine x_then_normal ?_
    refine c_seq ?_
    refine c_region ?_
    refine t_st rfl (st_assign rfl) ?_
    refine t_nil ?_
    refine x_then_normal ?_
    refine c_ret ?_
    refine x_drop (hp' := []) (by repeat (first | exact List.Sublist.refl _ | exact List.nil_sublist _ | exact List.sublist_append_left _ _ | exact List.sublist_append_right _ _ | exact (List.sublist_append_right _ _).trans (List.sublist_append_right _ _) | apply List.Sublist.cons_cons | apply List.Sublist.cons)) ?_
    exact ret1 (Base.Le.refl _) rfl rfl ⟨by rw [hE]; first | (rw [hf]; simp [arcE, *]; done) | (rw [firstE_end (by omega)]), rfl⟩

theorem arcFault_c (a : Arc) (N : Nat) (w0 : Base) (hp : Hp) :
    CallsH Try.prog 58 [.agg (encA a).toArray, .int .i64 (N : Int)] w0 hp (fun v hp' => v = .int .i64 (arcE N a) ∧ hp' = hp) := by
  refine fn_enter 37 Try.func58 rfl Try.ntmps58 rfl ?_
  refine c_seq ?_
  refine c_region ?_
  refine t_do rfl (u_box _ rfl rfl) ?_
  rintro _ _ ⟨g1, rfl, rfl⟩
  refine t_st rfl (st_assign rfl) ?_
  refine t_nil ?_
  refine x_then_normal ?_
  refine c_seq ?_
  refine c_block ?_
  refine c_seq ?_
  refine c_region ?_
  refine t_st rfl (st_field rfl fld34_0) ?_
  refine t_st rfl (st_load 0 rfl one3 rfl rfl) ?_
  refine t_bool rfl (st_lss rfl rfl) (fun hc2 => ?_) (fun hc2 => ?_)
  ·
    refine t_st rfl (st_move rfl) ?_
    refine t_no 9 rfl rfl rfl rfl rfl ?_
    refine t_no 9 rfl rfl rfl rfl rfl ?_
    refine t_no 9 rfl rfl rfl rfl rfl ?_
    refine t_no 9 rfl rfl rfl rfl rfl ?_
    refine t_st rfl (st_pick_t rfl rfl) ?_
    refine t_st rfl (st_move rfl) ?_
    refine t_no 15 rfl rfl rfl rfl rfl ?_
    refine t_no 15 rfl rfl rfl rfl rfl ?_
    refine t_no 15 rfl rfl rfl rfl rfl ?_
    refine t_st rfl (st_pick_t rfl rfl) ?_
    refine t_st rfl (st_move rfl) ?_
    refine t_no 20 rfl rfl rfl rfl rfl ?_
    refine t_no 20 rfl rfl rfl rfl rfl ?_
    refine t_no 20 rfl rfl rfl rfl rfl ?_
    refine t_no 20 rfl rfl rfl rfl rfl ?_
    refine t_st rfl (st_pick_t rfl rfl) ?_
    refine t_st rfl (st_assign rfl) ?_
    refine t_nil ?_
    refine x_then_normal ?_
    refine c_cond_t rfl ?_
    refine c_seq ?_
    refine c_region ?_
    refine t_st rfl (st_assign rfl) ?_
    refine t_nil ?_
    refine x_then_normal ?_
    refine c_ret ?_
    refine x_block_ret ?_
    refine x_then_ret ?_
    refine x_drop (hp' := hp) (by repeat (first | exact List.Sublist.refl _ | exact List.nil_sublist _ | exact List.sublist_append_left _ _ | exact List.sublist_append_right _ _ | exact (List.sublist_append_right _ _).trans (List.sublist_append_right _ _) | apply List.Sublist.cons_cons | apply List.Sublist.cons)) ?_
    exact ret1 (Base.Le.refl _) rfl rfl ⟨congrArg (Value.int .i64) (by unfold arcE; repeat (first | rw [if_pos (by omega)] | rw [if_neg (by omega)]); try rfl), rfl⟩
  ·
    refine t_st rfl (st_move rfl) ?_
    refine t_yes 9 rfl rfl rfl ?_
    refine t_st rfl (st_field rfl fld34_0) ?_
    refine t_yes 9 rfl rfl rfl ?_
    refine t_st rfl (st_load 0 rfl one3 rfl rfl) ?_
    refine t_yes 9 rfl rfl rfl ?_
    refine t_st rfl (st_move rfl) ?_
    refine t_yes 9 rfl rfl rfl ?_
    refine t_bool rfl (st_geq rfl rfl) (fun hc3 => ?_) (fun hc3 => ?_)
    ·
      refine t_st rfl (st_pick_f rfl rfl) ?_
      refine t_st rfl (st_move rfl) ?_
      refine t_no 15 rfl rfl rfl rfl rfl ?_
      refine t_no 15 rfl rfl rfl rfl rfl ?_
      refine t_no 15 rfl rfl rfl rfl rfl ?_
      refine t_st rfl (st_pick_t rfl rfl) ?_
      refine t_st rfl (st_move rfl) ?_
      refine t_no 20 rfl rfl rfl rfl rfl ?_
      refine t_no 20 rfl rfl rfl rfl rfl ?_
      refine t_no 20 rfl rfl rfl rfl rfl ?_
      refine t_no 20 rfl rfl rfl rfl rfl ?_
      refine t_st rfl (st_pick_t rfl rfl) ?_
      refine t_st rfl (st_assign rfl) ?_
      refine t_nil ?_
      refine x_then_normal ?_
      refine c_cond_t rfl ?_
      refine c_seq ?_
      refine c_region ?_
      refine t_st rfl (st_assign rfl) ?_
      refine t_nil ?_
      refine x_then_normal ?_
      refine c_ret ?_
      refine x_block_ret ?_
      refine x_then_ret ?_
      refine x_drop (hp' := hp) (by repeat (first | exact List.Sublist.refl _ | exact List.nil_sublist _ | exact List.sublist_append_left _ _ | exact List.sublist_append_right _ _ | exact (List.sublist_append_right _ _).trans (List.sublist_append_right _ _) | apply List.Sublist.cons_cons | apply List.Sublist.cons)) ?_
      exact ret1 (Base.Le.refl _) rfl rfl ⟨congrArg (Value.int .i64) (by unfold arcE; repeat (first | rw [if_pos (by omega)] | rw [if_neg (by omega)]); try rfl), rfl⟩
    ·
      refine t_st rfl (st_pick_f rfl rfl) ?_
      refine t_st rfl (st_move rfl) ?_
      refine t_yes 15 rfl rfl rfl ?_
      refine t_st rfl (st_field rfl fld34_1) ?_
      refine t_yes 15 rfl rfl rfl ?_
      refine t_st rfl (st_load 0 rfl one3 rfl rfl) ?_
      refine t_yes 15 rfl rfl rfl ?_
      refine t_bool rfl (st_lss rfl rfl) (fun hc4 => ?_) (fun hc4 => ?_)
      ·
        refine t_st rfl (st_pick_f rfl rfl) ?_
        refine t_st rfl (st_move rfl) ?_
        refine t_no 20 rfl rfl rfl rfl rfl ?_
        refine t_no 20 rfl rfl rfl rfl rfl ?_
        refine t_no 20 rfl rfl rfl rfl rfl ?_
        refine t_no 20 rfl rfl rfl rfl rfl ?_
        refine t_st rfl (st_pick_t rfl rfl) ?_
        refine t_st rfl (st_assign rfl) ?_
        refine t_nil ?_
        refine x_then_normal ?_
        refine c_cond_t rfl ?_
        refine c_seq ?_
        refine c_region ?_
        refine t_st rfl (st_assign rfl) ?_
        refine t_nil ?_
        refine x_then_normal ?_
        refine c_ret ?_
        refine x_block_ret ?_
        refine x_then_ret ?_
        refine x_drop (hp' := hp) (by repeat (first | exact List.Sublist.refl _ | exact List.nil_sublist _ | exact List.sublist_append_left _ _ | exact List.sublist_append_right _ _ | exact (List.sublist_append_right _ _).trans (List.sublist_append_right _ _) | apply List.Sublist.cons_cons | apply List.Sublist.cons)) ?_
        exact ret1 (Base.Le.refl _) rfl rfl ⟨congrArg (Value.int .i64) (by unfold arcE; repeat (first | rw [if_pos (by omega)] | rw [if_neg (by omega)]); try rfl), rfl⟩
      ·
        refine t_st rfl (st_pick_f rfl rfl) ?_
        refine t_st rfl (st_move rfl) ?_
        refine t_yes 20 rfl rfl rfl ?_
        refine t_st rfl (st_field rfl fld34_1) ?_
        refine t_yes 20 rfl rfl rfl ?_
        refine t_st rfl (st_load 0 rfl one3 rfl rfl) ?_
        refine t_yes 20 rfl rfl rfl ?_
        refine t_st rfl (st_move rfl) ?_
        refine t_yes 20 rfl rfl rfl ?_
        refine t_bool rfl (st_geq rfl rfl) (fun hc5 => ?_) (fun hc5 => ?_)
        ·
          refine t_st rfl (st_pick_f rfl rfl) ?_
          refine t_st rfl (st_assign rfl) ?_
          refine t_nil ?_
          refine x_then_normal ?_
          refine c_cond_t rfl ?_
          refine c_seq ?_
          refine c_region ?_
          refine t_st rfl (st_assign rfl) ?_
          refine t_nil ?_
          refine x_then_normal ?_
          refine c_ret ?_
          refine x_block_ret ?_
          refine x_then_ret ?_
          refine x_drop (hp' := hp) (by repeat (first | exact List.Sublist.refl _ | exact List.nil_sublist _ | exact List.sublist_append_left _ _ | exact List.sublist_append_right _ _ | exact (List.sublist_append_right _ _).trans (List.sublist_append_right _ _) | apply List.Sublist.cons_cons | apply List.Sublist.cons)) ?_
          exact ret1 (Base.Le.refl _) rfl rfl ⟨congrArg (Value.int .i64) (by unfold arcE; repeat (first | rw [if_pos (by omega)] | rw [if_neg (by omega)]); try rfl), rfl⟩
        ·
          refine t_st rfl (st_pick_f rfl rfl) ?_
          refine t_st rfl (st_assign rfl) ?_
          refine t_nil ?_
          refine x_then_normal ?_
          refine c_cond_f rfl ?_
          refine c_seq ?_
          refine c_region ?_
          refine t_st rfl (st_field rfl fld34_0) ?_
          refine t_st rfl (st_load 0 rfl one3 rfl rfl) ?_
          refine t_st rfl (st_field rfl fld34_1) ?_
          refine t_st rfl (st_load 0 rfl one3 rfl rfl) ?_
          refine t_bool rfl (st_eql rfl rfl) (fun hc6 => ?_) (fun hc6 => ?_)
          ·
            refine t_st rfl (st_assign rfl) ?_
            refine t_nil ?_
            refine x_then_normal ?_
            refine c_cond_t rfl ?_
            refine c_seq ?_
            refine c_region ?_
            refine t_st rfl (st_assign rfl) ?_
            refine t_nil ?_
            refine x_then_normal ?_
            refine c_ret ?_
            refine x_block_ret ?_
            refine x_then_ret ?_
            refine x_drop (hp' := hp) (by repeat (first | exact List.Sublist.refl _ | exact List.nil_sublist _ | exact List.sublist_append_left _ _ | exact List.sublist_append_right _ _ | exact (List.sublist_append_right _ _).trans (List.sublist_append_right _ _) | apply List.Sublist.cons_cons | apply List.Sublist.cons)) ?_
            exact ret1 (Base.Le.refl _) rfl rfl ⟨congrArg (Value.int .i64) (by unfold arcE; repeat (first | rw [if_pos (by omega)] | rw [if_neg (by omega)]); try rfl), rfl⟩
          ·
            refine t_st rfl (st_assign rfl) ?_
            refine t_nil ?_
            refine x_then_normal ?_
            refine c_cond_f rfl ?_
            refine c_seq ?_
            refine c_region ?_
            refine t_st rfl (st_field rfl fld34_2) ?_
            refine t_st rfl (st_load 0 rfl one3 rfl rfl) ?_
            refine t_doB rfl (u_call _ call48 rfl (rwithin_c _ _ _ _ _)) (fun hc7 => ?_) (fun hc7 => ?_)
            ·
              refine t_st rfl (st_not_t rfl) ?_
              refine t_st rfl (st_assign rfl) ?_
              refine t_nil ?_
              refine x_then_normal ?_
              refine c_cond_f rfl ?_
              refine c_skip ?_
              refine x_block_normal ?_
              refine x_then_normal ?_
              refine c_seq ?_
              refine c_region ?_
              refine t_st rfl (st_assign rfl) ?_
              refine t_nil ?_
              refine x_then_normal ?_
              refine c_ret ?_
              refine x_drop (hp' := hp) (by repeat (first | exact List.Sublist.refl _ | exact List.nil_sublist _ | exact List.sublist_append_left _ _ | exact List.sublist_append_right _ _ | exact (List.sublist_append_right _ _).trans (List.sublist_append_right _ _) | apply List.Sublist.cons_cons | apply List.Sublist.cons)) ?_
              exact ret1 (Base.Le.refl _) rfl rfl ⟨congrArg (Value.int .i64) (by unfold arcE; repeat (first | rw [if_pos (by omega)] | rw [if_neg (by omega)]); try rfl), rfl⟩
            ·
              refine t_st rfl (st_not_f rfl) ?_
              refine t_st rfl (st_assign rfl) ?_
              refine t_nil ?_
              refine x_then_normal ?_
              refine c_cond_t rfl ?_
              refine c_seq ?_
              refine c_region ?_
              refine t_st rfl (st_assign rfl) ?_
              refine t_nil ?_
              refine x_then_normal ?_
              refine c_ret ?_
              refine x_block_ret ?_
              refine x_then_ret ?_
              refine x_drop (hp' := hp) (by repeat (first | exact List.Sublist.refl _ | exact List.nil_sublist _ | exact List.sublist_append_left _ _ | exact List.sublist_append_right _ _ | exact (List.sublist_append_right _ _).trans (List.sublist_append_right _ _) | apply List.Sublist.cons_cons | apply List.Sublist.cons)) ?_
              exact ret1 (Base.Le.refl _) rfl rfl ⟨congrArg (Value.int .i64) (by unfold arcE; repeat (first | rw [if_pos (by omega)] | rw [if_neg (by omega)]); try rfl), rfl⟩

end Go.Proofs.Ytakehdnblmonlaa
