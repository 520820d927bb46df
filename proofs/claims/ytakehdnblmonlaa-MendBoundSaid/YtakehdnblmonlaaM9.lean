/- with at every graph; the contract of start. -/
import Derived.Test.YtakehdnblmonlaaM8
namespace Go.Proofs.Ytakehdnblmonlaa
open Go.RowKit Go.Fp

def SvV (N : Nat) (s : Sv) : Prop := s.T.length = N ∧ OutsV N s.outs ∧ ∀ x ∈ s.T, 0 ≤ x ∧ x ≤ 1099511627776
theorem loopQ_inv {N : Nat} {last : List Int} {outs : List (List Arc)} {bd : Int} (ho : OutsV N outs) (hl : last.length = N) : ∀ (f c : Nat) (q q' : Qs), QI N c q → loopQ last outs bd f q = some q' → ∃ c', QI N c' q' := by
  intro f
  induction f with
  | zero => intro c q q' h he; simp only [loopQ, Option.some.injEq] at he; subst he; exact ⟨c, h⟩
  | succ f ih =>
    intro c q q' h he
    simp only [loopQ] at he
    cases hQ : q.Q with
    | nil => rw [hQ] at he; simp only [Option.some.injEq] at he; subst he; exact ⟨c, h⟩
    | cons x r =>
      rw [hQ] at he
      simp only at he
      split at he
      · simp only [Option.some.injEq] at he; subst he; exact ⟨c, h⟩
      · split at he
        · cases he
        · obtain ⟨c', hc'⟩ := step_inv h ho hl
          exact ih c' _ q' hc' he
theorem withF_v {N : Nat} {last : List Int} {s s' : Sv} {l : List Arc} (hs : SvV N s) (ha : ∀ a ∈ l, ArcV N a) (hl : last.length = N) (h : withF last s l = some s') : SvV N s' := by
  have hO := addOuts_v hs.2.1 ha
  have h0 := tries_inv (q0_inv hs.1 hs.2.2) ha hl
  unfold withF at h
  split at h
  · cases h
  · rename_i q hq
    split at h
    · rename_i hok
      simp only [Option.some.injEq] at h
      subst h
      obtain ⟨c', hc'⟩ := loopQ_inv hO hl _ _ _ _ h0 hq
      exact ⟨hc'.nT, hO, fun x hx => ⟨hc'.T0 x hx, hc'.okT hok x hx⟩⟩
    · cases h
def okP (p : Int × Int) : Bool := !(decide (0 ≤ p.2) && decide (p.2 < p.1))
def startF (ready last : List Int) (arcs : List Arc) : Option Sv := if (ready.zip last).all okP then withF last { T := ready, outs := List.replicate ready.length [] } arcs else none
def pstep (last : List Int) (o : Option Sv) (pc : Int × List (List Arc)) : Option Sv := match o with
  | none => none
  | some s => if 0 < pc.1 then withF last s (pc.2.getD (pc.1 - 1).toNat []) else some s
def chA (g : Gr) : List (List (List Arc)) := g.choices.l.map (fun c => c.l.map (·.l))
def pickF (g : Gr) (pick : List Int) : Option Sv := (pick.zip (chA g)).foldl (pstep g.last.l) (startF g.ready.l g.last.l g.arcs.l)
theorem start_v {g : Gr} (hV : GraphV g) : SvV g.ready.l.length { T := g.ready.l, outs := List.replicate g.ready.l.length [] } :=
  ⟨rfl, ⟨by simp, fun l hl a ha => by have := List.eq_of_mem_replicate hl; subst this; simp at ha⟩, fun x hx => by have := hV.readyv x hx; omega⟩
theorem zip_get {α β : Type} {l : List α} {m : List β} {k : Nat} {x : α} {y : β} (hx : l[k]? = some x) (hy : m[k]? = some y) : (l.zip m)[k]? = some (x, y) := by
  rw [List.getElem?_zip_eq_some]; exact ⟨hx, hy⟩
/-- What the functions that make a solver hand back. -/
def Res (last : Sl Int) (M : Nat) (o : Option Sv) (v : Value) (b' : Base) : Prop :=
  (o = none ∧ ∃ q, v = .tuple #[.pointer q, .bool false]) ∨
  ∃ (gs' : Nat) (s' : So), o = some s'.sv ∧ v = .tuple #[.pointer (some ⟨gs', 0, none⟩), .bool true] ∧ SoOk b'.w gs' s' ∧ s'.last = last ∧ ∀ y ∈ s'.outs.l, y.l.length ≤ M
theorem GrOk.le {b b' : Base} {g : Gr} (h : GrOk b.w g) (hle : b.Le b') : GrOk b'.w g :=
  ⟨h.ready.le hle, h.last.le hle, h.due.le hle, h.arcs.le hle, h.choices.le hle, fun c hc => (h.ways c hc).le hle, fun c hc y hy => (h.steps c hc y hy).le hle, h.nready, h.narcs, h.nchoices, h.nways, h.nsteps⟩


theorem with_all (b : Base) (hp : Hp) (gs0 : Nat) (s : So) (A : Option Addr) (c : Nat) (l : List Arc) (N M : Nat) (hN : N ≤ 24) (hS : SoOk b.w gs0 s) (hR : Rd b.w A (rows encA l)) (hl : l.length ≤ 2000) (hva : ∀ a ∈ l, ArcV N a)
    (hv : SvV N s.sv) (nL : s.last.l.length = N) (hM : ∀ y ∈ s.outs.l, y.l.length ≤ M) (hMl : M + l.length ≤ 100000) :
    CallsB Try.prog 41 [.pointer (some ⟨gs0, 0, none⟩), .slice A l.length c] b hp (Res s.last (M + l.length) (withF s.last.l s.sv l)) := by
  rcases Nat.eq_zero_or_pos N with h0 | h0
  · subst h0
    have hl0 : l = [] := by
      cases l with
      | nil => rfl
      | cons a r => have h1 := hva a (by simp); have h2 := h1.fr0; have h3 := h1.fr1; omega
    subst hl0
    have hT : s.times.l = [] := List.eq_nil_of_length_eq_zero hv.1
    have hO : s.outs.l = [] := List.eq_nil_of_length_eq_zero (by have := hv.2.1.1; simpa [So.sv] using this)
    exact with_c0 b hp gs0 s A c M hS hT hO
  · exact with_c b hp gs0 s A c l N M h0 hN hS hR hl hva hv.1 nL hv.2.1 hv.2.2 hM hMl

set_option maxRecDepth 10000 in
theorem start_c (b : Base) (hp : Hp) (g : Gr) (hg : GrOk b.w g) (hV : GraphV g) : CallsB Try.prog 42 [g.val] b hp (Res g.last 250 (startF g.ready.l g.last.l g.arcs.l)) := by
  have hnr := hV.nr
  have hna := hV.na
  have hnl := hV.nl
  refine fn_enterB 50 Try.func42 rfl Try.ntmps42 rfl ?_
  refine c_seq ?_
  refine c_region ?_
  refine t_do rfl (u_box _ rfl rfl) ?_
  rintro _ _ ⟨g1, rfl, rfl⟩
  refine t_st rfl (st_assign rfl) ?_
  refine t_st rfl (st_assign rfl) ?_
  refine t_nil ?_
  refine x_then_normal ?_
  refine c_seq ?_
  refine c_draw mixed ?_
  refine d_st 0 rfl (by kernel_rfl) (by kernel_rfl) (by kernel_rfl) rfl (st_field rfl fld26_0) (List.Sublist.refl _) ?_
  refine d_st 1 rfl (by kernel_rfl) (by kernel_rfl) (by kernel_rfl) rfl (st_load 0 rfl one22 rfl rfl) (List.Sublist.refl _) ?_
  refine d_st 3 rfl (by kernel_rfl) (by kernel_rfl) (by kernel_rfl) rfl (st_field rfl fld26_1) (List.Sublist.refl _) ?_
  refine d_st 4 rfl (by kernel_rfl) (by kernel_rfl) (by kernel_rfl) rfl (st_load 0 rfl one22 rfl rfl) (List.Sublist.refl _) ?_
  refine d_st 5 rfl (by kernel_rfl) (by kernel_rfl) (by kernel_rfl) rfl (st_field rfl fld26_0) (List.Sublist.refl _) ?_
  refine d_st 6 rfl (by kernel_rfl) (by kernel_rfl) (by kernel_rfl) rfl (st_load 0 rfl one22 rfl rfl) (List.Sublist.refl _) ?_
  refine d_st 7 rfl (by kernel_rfl) (by kernel_rfl) (by kernel_rfl) rfl (st_len rfl sl22) (List.Sublist.refl _) ?_
  refine d_all [2, 8] (by kernel_rfl) rfl ?_
  refine r_do rfl rfl (u_callF [_] _ _ call12 rfl rfl (fun w ho => cloneI_c _ _ _ _ w (hg.ready.old ho) (by rw [rows_length encI_len]) (by omega))) ?_ ?_
  ·
    rintro _ _ ⟨hs1, rfl, hseg1⟩
    obtain ⟨A1, c1, rfl, hcm1⟩ := hseg1.form
    refine ⟨.inr (by repeat (first | exact List.Sublist.refl _ | exact List.nil_sublist _ | exact List.sublist_append_left _ _ | exact List.sublist_append_right _ _ | exact (List.sublist_append_right _ _).trans (List.sublist_append_right _ _) | apply List.Sublist.cons_cons | apply List.Sublist.cons)), ?_⟩
    refine d_all [8] (by kernel_rfl) rfl ?_
    refine r_do rfl rfl (u_mk (enc := encS) (by_ := 24) (⟨none, 0, []⟩ : Sl Arc) g.ready.l.length rfl rfl sl35 inf23 rfl rfl (by omega) (by omega)) ?_ ?_
    ·
      rintro _ _ ⟨gM, rfl, rfl⟩
      refine ⟨.inr (by repeat (first | exact List.Sublist.refl _ | exact List.nil_sublist _ | exact List.sublist_append_left _ _ | exact List.sublist_append_right _ _ | exact (List.sublist_append_right _ _).trans (List.sublist_append_right _ _) | apply List.Sublist.cons_cons | apply List.Sublist.cons)), ?_⟩
      refine d_st 9 rfl (by kernel_rfl) (by kernel_rfl) (by kernel_rfl) rfl (st_build (v := .agg #[.slice A1 g.ready.l.length c1, g.last.val, .slice (some ⟨gM, 0, none⟩) g.ready.l.length g.ready.l.length]) [(0, .slice A1 g.ready.l.length c1), (1, g.last.val), (2, .slice (some ⟨gM, 0, none⟩) g.ready.l.length g.ready.l.length)] rfl (fun _ => by kernel_rfl)) (by repeat (first | exact List.Sublist.refl _ | exact List.nil_sublist _ | exact List.sublist_append_left _ _ | exact List.sublist_append_right _ _ | exact (List.sublist_append_right _ _).trans (List.sublist_append_right _ _) | apply List.Sublist.cons_cons | apply List.Sublist.cons)) ?_
      refine d_all [10] (by kernel_rfl) rfl ?_
      refine r_do rfl rfl (u_box _ rfl rfl) ?_ ?_
      ·
        rintro _ _ ⟨g2, rfl, rfl⟩
        refine ⟨.inr (by repeat (first | exact List.Sublist.refl _ | exact List.nil_sublist _ | exact List.sublist_append_left _ _ | exact List.sublist_append_right _ _ | exact (List.sublist_append_right _ _).trans (List.sublist_append_right _ _) | apply List.Sublist.cons_cons | apply List.Sublist.cons)), ?_⟩
        refine d_st 11 rfl (by kernel_rfl) (by kernel_rfl) (by kernel_rfl) rfl (st_assign rfl) (by repeat (first | exact List.Sublist.refl _ | exact List.nil_sublist _ | exact List.sublist_append_left _ _ | exact List.sublist_append_right _ _ | exact (List.sublist_append_right _ _).trans (List.sublist_append_right _ _) | apply List.Sublist.cons_cons | apply List.Sublist.cons)) ?_
        refine d_done (by kernel_rfl) ?_
        refine x_then_normal ?_
        refine c_seq ?_
        refine c_seq ?_
        refine c_pull 1 rfl ?_
        refine c_pull 1 rfl ?_
        refine c_freeze [_, _] _ rfl ?_
        intro b1 hle1 hfz1
        refine c_freezeF [_] hs1 hp rfl ?_
        intro b2 hle2 hfz2
        have hz1 := hfz1 _ (List.mem_cons_self)
        have hz2 := hfz1 _ (List.mem_cons_of_mem _ (List.mem_singleton.2 rfl))
        have hg := (hg.le hle1).le hle2
        have hS0 : SoOk b2.w g2 (⟨⟨A1, c1, g.ready.l⟩, g.last, ⟨some ⟨gM, 0, none⟩, g.ready.l.length, List.replicate g.ready.l.length ⟨none, 0, []⟩⟩⟩ : So) := ⟨cell_le hle2 (cell_fz hz1 0 rfl), cell_le hle2 (cell_fz hz1 1 rfl), by have h := cell_le hle2 (cell_fz hz1 2 rfl); rw [h]; show _ = some (Value.slice _ (List.length _) _); rw [List.length_replicate], hseg1.seg.rd hfz2, hg.last, (Rd.fz hz2).left.le hle2, fun y hy => by have := List.eq_of_mem_replicate hy; subst this; exact Rd.nil⟩
        have hd0 : b2.w.cell? ⟨g2, 0, none⟩ = some (.slice A1 g.ready.l.length c1) := hS0.c0
        have hd1 : Rd b2.w A1 (rows encI g.ready.l) := hS0.times
        refine c_region ?_
        refine t_st rfl (st_move rfl) ?_
        refine t_st rfl (st_nil rfl) ?_
        refine t_st rfl (st_field rfl fld73_0) ?_
        refine t_st rfl (st_load_at rfl one22 hd0) ?_
        refine t_st rfl (st_len rfl sl22) ?_
        refine t_st rfl (st_move rfl) ?_
        refine t_nil ?_
        refine x_then_normal ?_
        refine c_block ?_
        refine l_loop [(1, _), (4, _), (21, _), (22, _)] _ (fun (k : Nat) => [(23, .int .i64 (k : Int))]) (fun (k : Nat) => []) (fun (k : Nat) => k ≤ g.ready.l.length ∧ All (fun p => okP p = true) (g.ready.l.zip g.last.l) k) (fun (k : Nat) => g.ready.l.length - k) (0) ⟨rfl, trivial⟩ ⟨rfl, rfl, rfl, rfl, trivial⟩ rfl ⟨by omega, All.zero⟩ ?_
        intro k hinv
        obtain ⟨hk, hA⟩ := hinv
        refine c_seq ?_
        refine c_region ?_
        refine t_bool rfl (st_lss rfl rfl) (fun hc3 => ?_) (fun hc3 => ?_)
        ·
          refine t_nil ?_
          refine x_then_normal ?_
          refine c_seq ?_
          refine c_cond_t rfl ?_
          refine c_skip ?_
          refine x_then_normal ?_
          refine c_seq ?_
          refine c_block ?_
          refine c_seq ?_
          refine c_region ?_
          refine t_st rfl (st_move rfl) ?_
          obtain ⟨r, hr⟩ := ex_get (l := g.ready.l) (k := k) (by omega)
          obtain ⟨la, hla⟩ := ex_get (l := g.last.l) (k := k) (by omega)
          refine t_st rfl (st_index_old k rfl rfl rfl (by omega) (Rd.isSome encI_len (by decide) hd1 hr) sl22) ?_
          refine t_st rfl (st_load_old rfl one3 (Rd.row encI_len hd1 hr (j := 0) rfl)) ?_
          refine t_st rfl (st_assign rfl) ?_
          refine t_st rfl (st_assign rfl) ?_
          refine t_nil ?_
          refine x_then_normal ?_
          refine c_seq ?_
          refine c_region ?_
          refine t_st rfl (st_field rfl fld26_1) ?_
          refine t_st rfl (st_load 0 rfl one22 rfl rfl) ?_
          refine t_st rfl (st_move rfl) ?_
          refine t_st rfl (st_index_old k rfl rfl rfl (by have := lt_of_get hla; omega) (Rd.isSome encI_len (by decide) hg.last hla) sl22) ?_
          refine t_st rfl (st_load_old rfl one3 (Rd.row encI_len hg.last hla (j := 0) rfl)) ?_
          refine t_bool rfl (st_geq rfl rfl) (fun hc4 => ?_) (fun hc4 => ?_)
          ·
            refine t_st rfl (st_move rfl) ?_
            refine t_yes 34 rfl rfl rfl ?_
            refine t_st rfl (st_move rfl) ?_
            refine t_yes 34 rfl rfl rfl ?_
            refine t_st rfl (st_field rfl fld26_1) ?_
            refine t_yes 34 rfl rfl rfl ?_
            refine t_st rfl (st_load 0 rfl one22 rfl rfl) ?_
            refine t_yes 34 rfl rfl rfl ?_
            refine t_st rfl (st_move rfl) ?_
            refine t_yes 34 rfl rfl rfl ?_
            refine t_st rfl (st_index_old k rfl rfl rfl (by have := lt_of_get hla; omega) (Rd.isSome encI_len (by decide) hg.last hla) sl22) ?_
            refine t_yes 34 rfl rfl rfl ?_
            refine t_st rfl (st_load_old rfl one3 (Rd.row encI_len hg.last hla (j := 0) rfl)) ?_
            refine t_yes 34 rfl rfl rfl ?_
            refine t_bool rfl (st_gtr rfl rfl) (fun hc5 => ?_) (fun hc5 => ?_)
            ·
              refine t_st rfl (st_pick_t rfl rfl) ?_
              refine t_nil ?_
              refine x_then_normal ?_
              refine c_cond_t rfl ?_
              refine c_seq ?_
              refine c_region ?_
              refine t_st rfl (st_assign rfl) ?_
              refine t_st rfl (st_assign rfl) ?_
              refine t_nil ?_
              refine x_then_normal ?_
              refine c_ret ?_
              refine x_block_ret ?_
              refine x_then_ret ?_
              refine x_then_ret ?_
              refine x_block_ret ?_
              refine x_then_ret ?_
              refine x_drop (hp' := hp) (by repeat (first | exact List.Sublist.refl _ | exact List.nil_sublist _ | exact List.sublist_append_left _ _ | exact List.sublist_append_right _ _ | exact (List.sublist_append_right _ _).trans (List.sublist_append_right _ _) | apply List.Sublist.cons_cons | apply List.Sublist.cons)) ?_
              exact retB2 (hle1.trans hle2) rfl rfl rfl (.inl ⟨by
                  unfold startF
                  rw [if_neg (fun hall => by
                    have h := List.all_eq_true.1 hall _ (List.mem_of_getElem? (zip_get hr hla))
                    simp [okP] at h
                    omega)], none, rfl⟩)
            ·
              refine t_st rfl (st_pick_t rfl rfl) ?_
              refine t_nil ?_
              refine x_then_normal ?_
              refine c_cond_f rfl ?_
              refine c_skip ?_
              refine x_block_normal ?_
              refine x_then_normal ?_
              refine c_region ?_
              refine t_st rfl (st_add rfl rfl (by omega)) ?_
              refine t_st rfl (st_move rfl) ?_
              refine t_nil ?_
              exact x_again  (k + 1) (Base.Le.refl _) ⟨rfl, trivial⟩ ⟨rfl, rfl, rfl, rfl, trivial⟩ (by repeat (first | exact List.Sublist.refl _ | exact List.nil_sublist _ | exact List.sublist_append_left _ _ | exact List.sublist_append_right _ _ | exact (List.sublist_append_right _ _).trans (List.sublist_append_right _ _) | apply List.Sublist.cons_cons | apply List.Sublist.cons)) ⟨by omega, hA.snoc (zip_get hr hla) (by simp [okP]; omega)⟩ (by omega)
          ·
            refine t_st rfl (st_move rfl) ?_
            refine t_no 34 rfl rfl rfl rfl rfl ?_
            refine t_no 34 rfl rfl rfl rfl rfl ?_
            refine t_no 34 rfl rfl rfl rfl rfl ?_
            refine t_no 34 rfl rfl rfl rfl rfl ?_
            refine t_no 34 rfl rfl rfl rfl rfl ?_
            refine t_no 34 rfl rfl rfl rfl rfl ?_
            refine t_no 34 rfl rfl rfl rfl rfl ?_
            refine t_st rfl (st_pick_f rfl rfl) ?_
            refine t_nil ?_
            refine x_then_normal ?_
            refine c_cond_f rfl ?_
            refine c_skip ?_
            refine x_block_normal ?_
            refine x_then_normal ?_
            refine c_region ?_
            refine t_st rfl (st_add rfl rfl (by omega)) ?_
            refine t_st rfl (st_move rfl) ?_
            refine t_nil ?_
            exact x_again  (k + 1) (Base.Le.refl _) ⟨rfl, trivial⟩ ⟨rfl, rfl, rfl, rfl, trivial⟩ (by repeat (first | exact List.Sublist.refl _ | exact List.nil_sublist _ | exact List.sublist_append_left _ _ | exact List.sublist_append_right _ _ | exact (List.sublist_append_right _ _).trans (List.sublist_append_right _ _) | apply List.Sublist.cons_cons | apply List.Sublist.cons)) ⟨by omega, hA.snoc (zip_get hr hla) (by simp [okP]; omega)⟩ (by omega)
        ·
          refine t_nil ?_
          refine x_then_normal ?_
          refine c_seq ?_
          refine c_cond_f rfl ?_
          refine c_exit ?_
          refine x_then_exit ?_
          refine x_then_exit ?_
          refine x_block_out ?_
          refine x_then_normal ?_
          refine c_seq ?_
          refine c_region ?_
          refine t_st rfl (st_move rfl) ?_
          refine t_st rfl (st_field rfl fld26_3) ?_
          refine t_st rfl (st_load 0 rfl one23 rfl rfl) ?_
          refine t_callB _ rfl call41 rfl (with_all _ _ _ (⟨⟨A1, c1, g.ready.l⟩, g.last, ⟨some ⟨gM, 0, none⟩, g.ready.l.length, List.replicate g.ready.l.length ⟨none, 0, []⟩⟩⟩ : So) _ _ g.arcs.l g.ready.l.length 0 hV.nr hS0 hg.arcs (by omega) hV.arcsv (by have h := start_v hV; simpa [So.sv, SvV] using h) hV.nl (fun y hy => by have := List.eq_of_mem_replicate hy; subst this; simp) (by omega)) ?_
          rintro _ b9 hle9 (⟨hw, q9, rfl⟩ | ⟨gs9, s9, hw, rfl, hS9, hl9, hm9⟩)
          ·
            refine t_st rfl (st_extract rfl rfl) ?_
            refine t_st rfl (st_extract rfl rfl) ?_
            refine t_st rfl (st_assign rfl) ?_
            refine t_st rfl (st_assign rfl) ?_
            refine t_nil ?_
            refine x_then_normal ?_
            refine c_ret ?_
            refine x_drop (hp' := hp) (by repeat (first | exact List.Sublist.refl _ | exact List.nil_sublist _ | exact List.sublist_append_left _ _ | exact List.sublist_append_right _ _ | exact (List.sublist_append_right _ _).trans (List.sublist_append_right _ _) | apply List.Sublist.cons_cons | apply List.Sublist.cons)) ?_
            exact retB2 ((hle1.trans hle2).trans hle9) rfl rfl rfl (.inl ⟨by unfold startF; rw [if_pos (by rw [List.all_eq_true]; intro x hx; exact hA.done (by rw [List.length_zip]; omega) x hx), ← (show (So.sv (⟨⟨A1, c1, g.ready.l⟩, g.last, ⟨some ⟨gM, 0, none⟩, g.ready.l.length, List.replicate g.ready.l.length ⟨none, 0, []⟩⟩⟩ : So)) = { T := g.ready.l, outs := List.replicate g.ready.l.length [] } from by simp [So.sv])]; exact hw, q9, rfl⟩)
          ·
            refine t_st rfl (st_extract rfl rfl) ?_
            refine t_st rfl (st_extract rfl rfl) ?_
            refine t_st rfl (st_assign rfl) ?_
            refine t_st rfl (st_assign rfl) ?_
            refine t_nil ?_
            refine x_then_normal ?_
            refine c_ret ?_
            refine x_drop (hp' := hp) (by repeat (first | exact List.Sublist.refl _ | exact List.nil_sublist _ | exact List.sublist_append_left _ _ | exact List.sublist_append_right _ _ | exact (List.sublist_append_right _ _).trans (List.sublist_append_right _ _) | apply List.Sublist.cons_cons | apply List.Sublist.cons)) ?_
            exact retB2 ((hle1.trans hle2).trans hle9) rfl rfl rfl (.inr ⟨gs9, s9, by unfold startF; rw [if_pos (by rw [List.all_eq_true]; intro x hx; exact hA.done (by rw [List.length_zip]; omega) x hx), ← (show (So.sv (⟨⟨A1, c1, g.ready.l⟩, g.last, ⟨some ⟨gM, 0, none⟩, g.ready.l.length, List.replicate g.ready.l.length ⟨none, 0, []⟩⟩⟩ : So)) = { T := g.ready.l, outs := List.replicate g.ready.l.length [] } from by simp [So.sv])]; exact hw, rfl, hS9, hl9, fun y hy => by have := hm9 y hy; omega⟩)
      exact r_nil
    exact r_nil
  refine r_do rfl rfl (u_mk (enc := encS) (by_ := 24) (⟨none, 0, []⟩ : Sl Arc) g.ready.l.length rfl rfl sl35 inf23 rfl rfl (by omega) (by omega)) ?_ ?_
  ·
    rintro _ _ ⟨gM, rfl, rfl⟩
    refine ⟨.inr (.cons _ (List.Sublist.refl _)), ?_⟩
    refine d_all [2] (by kernel_rfl) rfl ?_
    refine r_do rfl rfl (u_callF [_, _] _ _ call12 rfl rfl (fun w ho => cloneI_c _ _ _ _ w (hg.ready.old ho) (by rw [rows_length encI_len]) (by omega))) ?_ ?_
    ·
      rintro _ _ ⟨hs1, rfl, hseg1⟩
      obtain ⟨A1, c1, rfl, hcm1⟩ := hseg1.form
      refine ⟨.inr (by repeat (first | exact List.Sublist.refl _ | exact List.nil_sublist _ | exact List.sublist_append_left _ _ | exact List.sublist_append_right _ _ | exact (List.sublist_append_right _ _).trans (List.sublist_append_right _ _) | apply List.Sublist.cons_cons | apply List.Sublist.cons)), ?_⟩
      refine d_st 9 rfl (by kernel_rfl) (by kernel_rfl) (by kernel_rfl) rfl (st_build (v := .agg #[.slice A1 g.ready.l.length c1, g.last.val, .slice (some ⟨gM, 0, none⟩) g.ready.l.length g.ready.l.length]) [(0, .slice A1 g.ready.l.length c1), (1, g.last.val), (2, .slice (some ⟨gM, 0, none⟩) g.ready.l.length g.ready.l.length)] rfl (fun _ => by kernel_rfl)) (by repeat (first | exact List.Sublist.refl _ | exact List.nil_sublist _ | exact List.sublist_append_left _ _ | exact List.sublist_append_right _ _ | exact (List.sublist_append_right _ _).trans (List.sublist_append_right _ _) | apply List.Sublist.cons_cons | apply List.Sublist.cons)) ?_
      refine d_all [10] (by kernel_rfl) rfl ?_
      refine r_do rfl rfl (u_box _ rfl rfl) ?_ ?_
      ·
        rintro _ _ ⟨g6, rfl, rfl⟩
        refine ⟨.inr (by repeat (first | exact List.Sublist.refl _ | exact List.nil_sublist _ | exact List.sublist_append_left _ _ | exact List.sublist_append_right _ _ | exact (List.sublist_append_right _ _).trans (List.sublist_append_right _ _) | apply List.Sublist.cons_cons | apply List.Sublist.cons)), ?_⟩
        refine d_st 11 rfl (by kernel_rfl) (by kernel_rfl) (by kernel_rfl) rfl (st_assign rfl) (by repeat (first | exact List.Sublist.refl _ | exact List.nil_sublist _ | exact List.sublist_append_left _ _ | exact List.sublist_append_right _ _ | exact (List.sublist_append_right _ _).trans (List.sublist_append_right _ _) | apply List.Sublist.cons_cons | apply List.Sublist.cons)) ?_
        refine d_done (by kernel_rfl) ?_
        refine x_then_normal ?_
        refine c_seq ?_
        refine c_seq ?_
        refine c_pull 1 rfl ?_
        refine c_pull 1 rfl ?_
        refine c_freeze [_, _] _ rfl ?_
        intro b1 hle1 hfz1
        refine c_freezeF [_] hs1 hp rfl ?_
        intro b2 hle2 hfz2
        have hz1 := hfz1 _ (List.mem_cons_self)
        have hz2 := hfz1 _ (List.mem_cons_of_mem _ (List.mem_singleton.2 rfl))
        have hg := (hg.le hle1).le hle2
        have hS0 : SoOk b2.w g6 (⟨⟨A1, c1, g.ready.l⟩, g.last, ⟨some ⟨gM, 0, none⟩, g.ready.l.length, List.replicate g.ready.l.length ⟨none, 0, []⟩⟩⟩ : So) := ⟨cell_le hle2 (cell_fz hz1 0 rfl), cell_le hle2 (cell_fz hz1 1 rfl), by have h := cell_le hle2 (cell_fz hz1 2 rfl); rw [h]; show _ = some (Value.slice _ (List.length _) _); rw [List.length_replicate], hseg1.seg.rd hfz2, hg.last, (Rd.fz hz2).left.le hle2, fun y hy => by have := List.eq_of_mem_replicate hy; subst this; exact Rd.nil⟩
        have hd0 : b2.w.cell? ⟨g6, 0, none⟩ = some (.slice A1 g.ready.l.length c1) := hS0.c0
        have hd1 : Rd b2.w A1 (rows encI g.ready.l) := hS0.times
        refine c_region ?_
        refine t_st rfl (st_move rfl) ?_
        refine t_st rfl (st_nil rfl) ?_
        refine t_st rfl (st_field rfl fld73_0) ?_
        refine t_st rfl (st_load_at rfl one22 hd0) ?_
        refine t_st rfl (st_len rfl sl22) ?_
        refine t_st rfl (st_move rfl) ?_
        refine t_nil ?_
        refine x_then_normal ?_
        refine c_block ?_
        refine l_loop [(1, _), (4, _), (21, _), (22, _)] _ (fun (k : Nat) => [(23, .int .i64 (k : Int))]) (fun (k : Nat) => []) (fun (k : Nat) => k ≤ g.ready.l.length ∧ All (fun p => okP p = true) (g.ready.l.zip g.last.l) k) (fun (k : Nat) => g.ready.l.length - k) (0) ⟨rfl, trivial⟩ ⟨rfl, rfl, rfl, rfl, trivial⟩ rfl ⟨by omega, All.zero⟩ ?_
        intro k hinv
        obtain ⟨hk, hA⟩ := hinv
        refine c_seq ?_
        refine c_region ?_
        refine t_bool rfl (st_lss rfl rfl) (fun hc7 => ?_) (fun hc7 => ?_)
        ·
          refine t_nil ?_
          refine x_then_normal ?_
          refine c_seq ?_
          refine c_cond_t rfl ?_
          refine c_skip ?_
          refine x_then_normal ?_
          refine c_seq ?_
          refine c_block ?_
          refine c_seq ?_
          refine c_region ?_
          refine t_st rfl (st_move rfl) ?_
          obtain ⟨r, hr⟩ := ex_get (l := g.ready.l) (k := k) (by omega)
          obtain ⟨la, hla⟩ := ex_get (l := g.last.l) (k := k) (by omega)
          refine t_st rfl (st_index_old k rfl rfl rfl (by omega) (Rd.isSome encI_len (by decide) hd1 hr) sl22) ?_
          refine t_st rfl (st_load_old rfl one3 (Rd.row encI_len hd1 hr (j := 0) rfl)) ?_
          refine t_st rfl (st_assign rfl) ?_
          refine t_st rfl (st_assign rfl) ?_
          refine t_nil ?_
          refine x_then_normal ?_
          refine c_seq ?_
          refine c_region ?_
          refine t_st rfl (st_field rfl fld26_1) ?_
          refine t_st rfl (st_load 0 rfl one22 rfl rfl) ?_
          refine t_st rfl (st_move rfl) ?_
          refine t_st rfl (st_index_old k rfl rfl rfl (by have := lt_of_get hla; omega) (Rd.isSome encI_len (by decide) hg.last hla) sl22) ?_
          refine t_st rfl (st_load_old rfl one3 (Rd.row encI_len hg.last hla (j := 0) rfl)) ?_
          refine t_bool rfl (st_geq rfl rfl) (fun hc8 => ?_) (fun hc8 => ?_)
          ·
            refine t_st rfl (st_move rfl) ?_
            refine t_yes 34 rfl rfl rfl ?_
            refine t_st rfl (st_move rfl) ?_
            refine t_yes 34 rfl rfl rfl ?_
            refine t_st rfl (st_field rfl fld26_1) ?_
            refine t_yes 34 rfl rfl rfl ?_
            refine t_st rfl (st_load 0 rfl one22 rfl rfl) ?_
            refine t_yes 34 rfl rfl rfl ?_
            refine t_st rfl (st_move rfl) ?_
            refine t_yes 34 rfl rfl rfl ?_
            refine t_st rfl (st_index_old k rfl rfl rfl (by have := lt_of_get hla; omega) (Rd.isSome encI_len (by decide) hg.last hla) sl22) ?_
            refine t_yes 34 rfl rfl rfl ?_
            refine t_st rfl (st_load_old rfl one3 (Rd.row encI_len hg.last hla (j := 0) rfl)) ?_
            refine t_yes 34 rfl rfl rfl ?_
            refine t_bool rfl (st_gtr rfl rfl) (fun hc9 => ?_) (fun hc9 => ?_)
            ·
              refine t_st rfl (st_pick_t rfl rfl) ?_
              refine t_nil ?_
              refine x_then_normal ?_
              refine c_cond_t rfl ?_
              refine c_seq ?_
              refine c_region ?_
              refine t_st rfl (st_assign rfl) ?_
              refine t_st rfl (st_assign rfl) ?_
              refine t_nil ?_
              refine x_then_normal ?_
              refine c_ret ?_
              refine x_block_ret ?_
              refine x_then_ret ?_
              refine x_then_ret ?_
              refine x_block_ret ?_
              refine x_then_ret ?_
              refine x_drop (hp' := hp) (by repeat (first | exact List.Sublist.refl _ | exact List.nil_sublist _ | exact List.sublist_append_left _ _ | exact List.sublist_append_right _ _ | exact (List.sublist_append_right _ _).trans (List.sublist_append_right _ _) | apply List.Sublist.cons_cons | apply List.Sublist.cons)) ?_
              exact retB2 (hle1.trans hle2) rfl rfl rfl (.inl ⟨by
                  unfold startF
                  rw [if_neg (fun hall => by
                    have h := List.all_eq_true.1 hall _ (List.mem_of_getElem? (zip_get hr hla))
                    simp [okP] at h
                    omega)], none, rfl⟩)
            ·
              refine t_st rfl (st_pick_t rfl rfl) ?_
              refine t_nil ?_
              refine x_then_normal ?_
              refine c_cond_f rfl ?_
              refine c_skip ?_
              refine x_block_normal ?_
              refine x_then_normal ?_
              refine c_region ?_
              refine t_st rfl (st_add rfl rfl (by omega)) ?_
              refine t_st rfl (st_move rfl) ?_
              refine t_nil ?_
              exact x_again  (k + 1) (Base.Le.refl _) ⟨rfl, trivial⟩ ⟨rfl, rfl, rfl, rfl, trivial⟩ (by repeat (first | exact List.Sublist.refl _ | exact List.nil_sublist _ | exact List.sublist_append_left _ _ | exact List.sublist_append_right _ _ | exact (List.sublist_append_right _ _).trans (List.sublist_append_right _ _) | apply List.Sublist.cons_cons | apply List.Sublist.cons)) ⟨by omega, hA.snoc (zip_get hr hla) (by simp [okP]; omega)⟩ (by omega)
          ·
            refine t_st rfl (st_move rfl) ?_
            refine t_no 34 rfl rfl rfl rfl rfl ?_
            refine t_no 34 rfl rfl rfl rfl rfl ?_
            refine t_no 34 rfl rfl rfl rfl rfl ?_
            refine t_no 34 rfl rfl rfl rfl rfl ?_
            refine t_no 34 rfl rfl rfl rfl rfl ?_
            refine t_no 34 rfl rfl rfl rfl rfl ?_
            refine t_no 34 rfl rfl rfl rfl rfl ?_
            refine t_st rfl (st_pick_f rfl rfl) ?_
            refine t_nil ?_
            refine x_then_normal ?_
            refine c_cond_f rfl ?_
            refine c_skip ?_
            refine x_block_normal ?_
            refine x_then_normal ?_
            refine c_region ?_
            refine t_st rfl (st_add rfl rfl (by omega)) ?_
            refine t_st rfl (st_move rfl) ?_
            refine t_nil ?_
            exact x_again  (k + 1) (Base.Le.refl _) ⟨rfl, trivial⟩ ⟨rfl, rfl, rfl, rfl, trivial⟩ (by repeat (first | exact List.Sublist.refl _ | exact List.nil_sublist _ | exact List.sublist_append_left _ _ | exact List.sublist_append_right _ _ | exact (List.sublist_append_right _ _).trans (List.sublist_append_right _ _) | apply List.Sublist.cons_cons | apply List.Sublist.cons)) ⟨by omega, hA.snoc (zip_get hr hla) (by simp [okP]; omega)⟩ (by omega)
        ·
          refine t_nil ?_
          refine x_then_normal ?_
          refine c_seq ?_
          refine c_cond_f rfl ?_
          refine c_exit ?_
          refine x_then_exit ?_
          refine x_then_exit ?_
          refine x_block_out ?_
          refine x_then_normal ?_
          refine c_seq ?_
          refine c_region ?_
          refine t_st rfl (st_move rfl) ?_
          refine t_st rfl (st_field rfl fld26_3) ?_
          refine t_st rfl (st_load 0 rfl one23 rfl rfl) ?_
          refine t_callB _ rfl call41 rfl (with_all _ _ _ (⟨⟨A1, c1, g.ready.l⟩, g.last, ⟨some ⟨gM, 0, none⟩, g.ready.l.length, List.replicate g.ready.l.length ⟨none, 0, []⟩⟩⟩ : So) _ _ g.arcs.l g.ready.l.length 0 hV.nr hS0 hg.arcs (by omega) hV.arcsv (by have h := start_v hV; simpa [So.sv, SvV] using h) hV.nl (fun y hy => by have := List.eq_of_mem_replicate hy; subst this; simp) (by omega)) ?_
          rintro _ b9 hle9 (⟨hw, q9, rfl⟩ | ⟨gs9, s9, hw, rfl, hS9, hl9, hm9⟩)
          ·
            refine t_st rfl (st_extract rfl rfl) ?_
            refine t_st rfl (st_extract rfl rfl) ?_
            refine t_st rfl (st_assign rfl) ?_
            refine t_st rfl (st_assign rfl) ?_
            refine t_nil ?_
            refine x_then_normal ?_
            refine c_ret ?_
            refine x_drop (hp' := hp) (by repeat (first | exact List.Sublist.refl _ | exact List.nil_sublist _ | exact List.sublist_append_left _ _ | exact List.sublist_append_right _ _ | exact (List.sublist_append_right _ _).trans (List.sublist_append_right _ _) | apply List.Sublist.cons_cons | apply List.Sublist.cons)) ?_
            exact retB2 ((hle1.trans hle2).trans hle9) rfl rfl rfl (.inl ⟨by unfold startF; rw [if_pos (by rw [List.all_eq_true]; intro x hx; exact hA.done (by rw [List.length_zip]; omega) x hx), ← (show (So.sv (⟨⟨A1, c1, g.ready.l⟩, g.last, ⟨some ⟨gM, 0, none⟩, g.ready.l.length, List.replicate g.ready.l.length ⟨none, 0, []⟩⟩⟩ : So)) = { T := g.ready.l, outs := List.replicate g.ready.l.length [] } from by simp [So.sv])]; exact hw, q9, rfl⟩)
          ·
            refine t_st rfl (st_extract rfl rfl) ?_
            refine t_st rfl (st_extract rfl rfl) ?_
            refine t_st rfl (st_assign rfl) ?_
            refine t_st rfl (st_assign rfl) ?_
            refine t_nil ?_
            refine x_then_normal ?_
            refine c_ret ?_
            refine x_drop (hp' := hp) (by repeat (first | exact List.Sublist.refl _ | exact List.nil_sublist _ | exact List.sublist_append_left _ _ | exact List.sublist_append_right _ _ | exact (List.sublist_append_right _ _).trans (List.sublist_append_right _ _) | apply List.Sublist.cons_cons | apply List.Sublist.cons)) ?_
            exact retB2 ((hle1.trans hle2).trans hle9) rfl rfl rfl (.inr ⟨gs9, s9, by unfold startF; rw [if_pos (by rw [List.all_eq_true]; intro x hx; exact hA.done (by rw [List.length_zip]; omega) x hx), ← (show (So.sv (⟨⟨A1, c1, g.ready.l⟩, g.last, ⟨some ⟨gM, 0, none⟩, g.ready.l.length, List.replicate g.ready.l.length ⟨none, 0, []⟩⟩⟩ : So)) = { T := g.ready.l, outs := List.replicate g.ready.l.length [] } from by simp [So.sv])]; exact hw, rfl, hS9, hl9, fun y hy => by have := hm9 y hy; omega⟩)
      exact r_nil
    exact r_nil
  exact r_nil

end Go.Proofs.Ytakehdnblmonlaa
