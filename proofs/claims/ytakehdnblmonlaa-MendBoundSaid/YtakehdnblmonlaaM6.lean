/- The solver in memory; the contract of bound. -/
import Derived.Test.YtakehdnblmonlaaM5
namespace Go.Proofs.Ytakehdnblmonlaa
open Go.RowKit Go.Fp


structure So where
  times : Sl Int
  last : Sl Int
  outs : Sl (Sl Arc)
structure SoOk (w : World) (g : Nat) (s : So) : Prop where
  c0 : w.cell? ⟨g, 0, none⟩ = some s.times.val
  c1 : w.cell? ⟨g, 1, none⟩ = some s.last.val
  c2 : w.cell? ⟨g, 2, none⟩ = some s.outs.val
  times : Rd w s.times.A (rows encI s.times.l)
  last : Rd w s.last.A (rows encI s.last.l)
  outs : Rd w s.outs.A (rows encS s.outs.l)
  inner : ∀ y ∈ s.outs.l, Rd w y.A (rows encA y.l)
theorem SoOk.le {b b' : Base} {g : Nat} {s : So} (h : SoOk b.w g s) (hle : b.Le b') : SoOk b'.w g s :=
  ⟨cell_le hle h.c0, cell_le hle h.c1, cell_le hle h.c2, h.times.le hle, h.last.le hle, h.outs.le hle, fun y hy => (h.inner y hy).le hle⟩
def So.sv (s : So) : Sv := { T := s.times.l, outs := s.outs.l.map (·.l) }
theorem mostL_bd {l : List Arc} (h : ∀ a ∈ l, -28800 ≤ a.len ∧ a.len ≤ 28800) (k : Nat) : 0 ≤ mostL (l.take k) ∧ mostL (l.take k) ≤ 28800 := by
  have gen : ∀ (l : List Arc) (m : Int), 0 ≤ m → m ≤ 28800 → (∀ a ∈ l, -28800 ≤ a.len ∧ a.len ≤ 28800) → 0 ≤ l.foldl (fun m a => max m a.len) m ∧ l.foldl (fun m a => max m a.len) m ≤ 28800 := by
    intro l
    induction l with
    | nil => intro m h0 h1 _; exact ⟨h0, h1⟩
    | cons a r ih =>
      intro m h0 h1 h
      have := h a (by simp)
      exact ih _ (by show 0 ≤ max m a.len; omega) (by show max m a.len ≤ 28800; omega) (fun x hx => h x (by simp [hx]))
  exact gen (l.take k) 0 (by omega) (by omega) (fun a ha => h a (List.mem_of_mem_take ha))
theorem mostL_snoc {l : List Arc} {k : Nat} {a : Arc} (h : l[k]? = some a) : mostL (l.take (k + 1)) = max (mostL (l.take k)) a.len := by
  unfold mostL
  rw [take_snoc h, List.foldl_append]; rfl
theorem boundV_snoc {T : List Int} {O : List (Sl Arc)} {k : Nat} {y : Sl Arc} (h : O[k]? = some y) : boundV T ((O.take (k + 1)).map (·.l)) = boundV T ((O.take k).map (·.l)) + mostL y.l := by
  unfold boundV
  rw [take_snoc h, List.map_append, List.foldl_append]; rfl
theorem foldmax_bd {T : List Int} {B : Int} (hB : 0 ≤ B) (h : ∀ x ∈ T, x ≤ B) : 0 ≤ T.foldl max 0 ∧ T.foldl max 0 ≤ B := by
  have gen : ∀ (l : List Int) (m : Int), 0 ≤ m → m ≤ B → (∀ x ∈ l, x ≤ B) → 0 ≤ l.foldl max m ∧ l.foldl max m ≤ B := by
    intro l
    induction l with
    | nil => intro m h0 h1 _; exact ⟨h0, h1⟩
    | cons a r ih =>
      intro m h0 h1 h
      have := h a (by simp)
      exact ih _ (by omega) (by omega) (fun x hx => h x (by simp [hx]))
  exact gen T 0 (by omega) hB h
theorem boundV_bd {T : List Int} {O : List (Sl Arc)} {B : Int} (hB : 0 ≤ B) (hT : ∀ x ∈ T, x ≤ B) (hO : ∀ y ∈ O, ∀ a ∈ y.l, -28800 ≤ a.len ∧ a.len ≤ 28800) (k : Nat) (hk : k ≤ O.length) :
    0 ≤ boundV T ((O.take k).map (·.l)) ∧ boundV T ((O.take k).map (·.l)) ≤ B + 28800 * (k : Int) := by
  induction k with
  | zero =>
    have := foldmax_bd hB hT
    simp [boundV] at this ⊢
    exact this
  | succ k ih =>
    obtain ⟨y, hy⟩ := ex_get (l := O) (k := k) (by omega)
    rw [boundV_snoc hy]
    have h1 := ih (by omega)
    have h2 := mostL_bd (hO y (mem_of_get hy)) y.l.length
    rw [List.take_length] at h2
    omega
theorem outs_step {O : List (Sl Arc)} {outs : List (List Arc)} {f : Nat} {a : Arc} {y z : Sl Arc} (hO : O.map (·.l) = outs) (hf : a.fr = (f : Int)) (hy : O[f]? = some y) (hz : z.l = y.l ++ [a]) :
    (O.set f z).map (·.l) = outs.set a.fr.toNat (outs.getD a.fr.toNat [] ++ [a]) := by
  subst hO
  rw [hf, Int.toNat_natCast, List.map_set, hz, List.getD_eq_getElem?_getD, List.getElem?_map, hy]
  rfl

theorem bound_c (g : Nat) (s : So) (w : World) (hS : SoOk w g s) (hT : ∀ x ∈ s.times.l, x ≤ 4398046511104) (hO : ∀ y ∈ s.outs.l, ∀ a ∈ y.l, -28800 ≤ a.len ∧ a.len ≤ 28800) (nO : s.outs.l.length ≤ 24) (nT : s.times.l.length ≤ 24) (nI : ∀ y ∈ s.outs.l, y.l.length ≤ 1000000) :
    CallsH Try.prog 62 [.pointer (some ⟨g, 0, none⟩)] w [] (fun v hp' => v = .int .i64 (boundV s.times.l (s.outs.l.map (·.l))) ∧ hp' = []) := by
  refine fn_enter 39 Try.func62 rfl Try.ntmps62 rfl ?_
  refine c_seq ?_
  refine c_region ?_
  refine t_st rfl (st_assign rfl) ?_
  refine t_nil ?_
  refine x_then_normal ?_
  refine c_seq ?_
  refine c_region ?_
  refine t_st rfl (st_move rfl) ?_
  refine t_st rfl (st_nil rfl) ?_
  refine t_st rfl (st_field rfl fld73_0) ?_
  refine t_st rfl (st_load_at rfl one22 hS.c0) ?_
  refine t_do rfl (u_callf _ call54 rfl (fun w ho => greatest_c _ _ _ _ w (hS.times.old ho) (by omega))) ?_
  rintro _ _ ⟨_, rfl, rfl, rfl⟩
  refine t_st rfl (st_assign rfl) ?_
  refine t_nil ?_
  refine x_then_normal ?_
  refine c_seq ?_
  refine c_seq ?_
  refine c_region ?_
  refine t_st rfl (st_move rfl) ?_
  refine t_st rfl (st_nil rfl) ?_
  refine t_st rfl (st_field rfl fld73_2) ?_
  refine t_st rfl (st_load_at rfl one35 hS.c2) ?_
  refine t_st rfl (st_len rfl sl35) ?_
  refine t_st rfl (st_move rfl) ?_
  refine t_nil ?_
  refine x_then_normal ?_
  refine c_block ?_
  refine l_loop [(17, _), (18, _)] _ (fun (k : Nat) => [(19, .int .i64 (k : Int)), (3, .int .i64 (boundV s.times.l ((s.outs.l.take k).map (·.l))))]) (fun (k : Nat) => []) (fun (k : Nat) => k ≤ s.outs.l.length) (fun (k : Nat) => s.outs.l.length - k) (0) ⟨rfl, rfl, trivial⟩ ⟨rfl, rfl, trivial⟩ rfl (by omega) ?_
  intro k hinv
  have hbd := boundV_bd (by omega) hT hO k hinv
  refine c_seq ?_
  refine c_region ?_
  refine t_bool rfl (st_lss rfl rfl) (fun hc1 => ?_) (fun hc1 => ?_)
  ·
    refine t_nil ?_
    refine x_then_normal ?_
    refine c_seq ?_
    refine c_cond_t rfl ?_
    refine c_skip ?_
    refine x_then_normal ?_
    refine c_seq ?_
    refine c_block ?_
    refine c_seq ?_
    refine c_region ?_
    obtain ⟨y, hy⟩ := ex_get (l := s.outs.l) (k := k) (by omega)
    refine t_st rfl (st_index_old k rfl rfl rfl (by omega) (Rd.isSome encS_len (by decide) hS.outs hy) sl35) ?_
    refine t_st rfl (st_load_old rfl one23 (Rd.row encS_len hS.outs hy (j := 0) rfl)) ?_
    refine t_st rfl (st_assign rfl) ?_
    refine t_nil ?_
    refine x_then_normal ?_
    refine c_seq ?_
    refine c_region ?_
    refine t_st rfl (st_assign rfl) ?_
    refine t_nil ?_
    refine x_then_normal ?_
    refine c_seq ?_
    refine c_seq ?_
    refine c_region ?_
    refine t_st rfl (st_move rfl) ?_
    refine t_st rfl (st_len rfl sl23) ?_
    refine t_st rfl (st_move rfl) ?_
    refine t_nil ?_
    refine x_then_normal ?_
    refine c_block ?_
    refine l_loop [(3, _), (17, _), (18, _), (19, _), (23, _), (24, _)] _ (fun (j : Nat) => [(25, .int .i64 (j : Int)), (6, .int .i64 (mostL (y.l.take j)))]) (fun (j : Nat) => []) (fun (j : Nat) => j ≤ y.l.length) (fun (j : Nat) => y.l.length - j) (0) ⟨rfl, rfl, trivial⟩ ⟨rfl, rfl, rfl, rfl, rfl, rfl, trivial⟩ rfl (by omega) ?_
    intro j hinv
    have hni := nI y (mem_of_get hy)
    have hmb := mostL_bd (hO y (mem_of_get hy)) j
    refine c_seq ?_
    refine c_region ?_
    refine t_bool rfl (st_lss rfl rfl) (fun hc2 => ?_) (fun hc2 => ?_)
    ·
      refine t_nil ?_
      refine x_then_normal ?_
      refine c_seq ?_
      refine c_cond_t rfl ?_
      refine c_skip ?_
      refine x_then_normal ?_
      refine c_seq ?_
      refine c_block ?_
      refine c_seq ?_
      refine c_region ?_
      obtain ⟨a, ha⟩ := ex_get (l := y.l) (k := j) (by omega)
      refine t_st rfl (st_index_old j rfl rfl rfl (by omega) (Rd.isSome encA_len (by decide) (hS.inner _ (mem_of_get hy)) ha) sl23) ?_
      refine t_st rfl (st_loadN_old (vs := encA _) 3 rfl agg34 (Rd.isSome encA_len (by decide) (hS.inner _ (mem_of_get hy)) ha) rfl (fun _ _ h => Rd.row encA_len (hS.inner _ (mem_of_get hy)) ha h)) ?_
      refine t_do rfl (u_alloc [.int .i64 0, .int .i64 0, .int .i64 0] zero34 rfl) ?_
      rintro _ _ ⟨g3, rfl, rfl⟩
      refine t_do rfl (u_storeN (vs := [_, _, _]) 0 3 rfl rfl rfl siz34 rfl (by intro u hu; simp only [List.mem_cons, List.not_mem_nil, or_false] at hu; rcases hu with rfl | rfl | rfl <;> rfl) rfl (by simp)) ?_
      rintro _ _ rfl
      refine t_nil ?_
      refine x_then_normal ?_
      refine c_region ?_
      refine t_st rfl (st_move rfl) ?_
      refine t_st rfl (st_field rfl fld34_2) ?_
      refine t_st rfl (st_load 0 rfl one3 rfl rfl) ?_
      refine t_st rfl (st_max rfl rfl) ?_
      refine t_st rfl (st_assign rfl) ?_
      refine t_nil ?_
      refine x_block_normal ?_
      refine x_then_normal ?_
      refine c_region ?_
      refine t_st rfl (st_add rfl rfl (by omega)) ?_
      refine t_st rfl (st_move rfl) ?_
      refine t_nil ?_
      exact x_again  (j + 1) (Base.Le.refl _) ⟨rfl, congrArg (fun z => some (Value.int .i64 z)) (mostL_snoc ha).symm, trivial⟩ ⟨rfl, rfl, rfl, rfl, rfl, rfl, trivial⟩ (by repeat (first | exact List.Sublist.refl _ | exact List.nil_sublist _ | exact List.sublist_append_left _ _ | exact List.sublist_append_right _ _ | exact (List.sublist_append_right _ _).trans (List.sublist_append_right _ _) | apply List.Sublist.cons_cons | apply List.Sublist.cons)) (by omega) (by omega)
    ·
      refine t_nil ?_
      refine x_then_normal ?_
      refine c_seq ?_
      refine c_cond_f rfl ?_
      refine c_exit ?_
      refine x_then_exit ?_
      refine x_then_exit ?_
      refine x_block_out ?_
      refine x_then_normal ?_
      refine c_region ?_
      refine t_st rfl (st_move rfl) ?_
      refine t_st rfl (st_move rfl) ?_
      refine t_st rfl (st_add rfl rfl (by omega)) ?_
      refine t_st rfl (st_assign rfl) ?_
      refine t_nil ?_
      refine x_block_normal ?_
      refine x_then_normal ?_
      refine c_region ?_
      refine t_st rfl (st_add rfl rfl (by omega)) ?_
      refine t_st rfl (st_move rfl) ?_
      refine t_nil ?_
      exact x_again  (k + 1) (Base.Le.refl _) ⟨rfl, congrArg (fun z => some (Value.int .i64 z)) (by rw [boundV_snoc hy, List.take_of_length_le (l := y.l) (i := j) (by omega)]), trivial⟩ ⟨rfl, rfl, trivial⟩ (by repeat (first | exact List.Sublist.refl _ | exact List.nil_sublist _ | exact List.sublist_append_left _ _ | exact List.sublist_append_right _ _ | exact (List.sublist_append_right _ _).trans (List.sublist_append_right _ _) | apply List.Sublist.cons_cons | apply List.Sublist.cons)) (by omega) (by omega)
  ·
    refine t_nil ?_
    refine x_then_normal ?_
    refine c_seq ?_
    refine c_cond_f rfl ?_
    refine c_exit ?_
    refine x_then_exit ?_
    refine x_then_exit ?_
    refine x_block_out ?_
    refine x_then_normal ?_
    refine c_seq ?_
    refine c_region ?_
    refine t_st rfl (st_move rfl) ?_
    refine t_st rfl (st_assign rfl) ?_
    refine t_nil ?_
    refine x_then_normal ?_
    refine c_ret ?_
    refine x_drop (hp' := []) (by repeat (first | exact List.Sublist.refl _ | exact List.nil_sublist _ | exact List.sublist_append_left _ _ | exact List.sublist_append_right _ _ | exact (List.sublist_append_right _ _).trans (List.sublist_append_right _ _) | apply List.Sublist.cons_cons | apply List.Sublist.cons)) ?_
    exact ret1 (Base.Le.refl _) rfl rfl ⟨by rw [List.take_of_length_le (by omega)], rfl⟩

end Go.Proofs.Ytakehdnblmonlaa
