/- line.walk: the steps that a function hands to a loop, one by one. -/
import Derived.Test.YtcibjjhanafojaaGreatDoorXG
import Derived.Test.YtcibjjhanafojaaGreatDoorRows
import Derived.Test.YtcibjjhanafojaaGreatDoorSD
set_option linter.unusedVariables false
set_option linter.unusedSimpArgs false
namespace Go.Proofs.YtcibjjhanafojaaGreatDoor
open Go.RowKit Go.Fp

/-- The value of a step. -/
def stepV (s : ApiStep) : Value := .agg #[.int .i64 s.Section, .int .i64 s.In, .int .i64 s.Out]
theorem forM_go {N : Nat} : ∀ (k m : Nat), forM (σ := Unit) (τ := Empty) (fun _ _ => some (.inl ())) m k () = some (.inl ())
  | _, 0 => rfl
  | k, m + 1 => forM_go (N := N) (k + 1) m
/-- What is known of the two functions that walk calls. -/
def JoinedC : Prop := ∀ (b : Base) (R : Hp) (s1 : ApiNet) (s17 : LineEnd) (A2 : Option Addr) (c3 : Nat) (A5 : Option Addr) (c6 : Nat) (A8 : Option Addr) (c9 : Nat) (A11 : Option Addr) (c12 : Nat) (A14 : Option Addr) (c15 : Nat) (h4 : FZ RT.str b.w A2 c3 s1.Stations) (h7 : FZ rApiSection b.w A5 c6 s1.Sections) (h10 : FZ rApiLink b.w A8 c9 s1.Links) (h13 : FZ rApiSignal b.w A11 c12 s1.Signals) (h16 : FZ rApiGate b.w A14 c15 s1.Gates) (x : Int) (y : Int) (q : Bool) (hm : mLineJoined s1 s17 = some (x, y, q)),
  CallsG Tryz.prog 58 [.agg #[.slice A2 (s1.Stations).length c3, .slice A5 (s1.Sections).length c6, .slice A8 (s1.Links).length c9, .slice A11 (s1.Signals).length c12, .slice A14 (s1.Gates).length c15], .agg #[.int .i64 (s17.section_), .int .i64 (s17.end_)]] b (R) (fun v b' hp' => .tuple #[.agg #[.int .i64 (x), .int .i64 (y)], .bool (q)] = v ∧ R = hp')
def OutsC : Prop := ∀ (b : Base) (R : Hp) (x1 : Int) (x2 : Int) (l : (List Int)) (hm : mLineOuts x1 x2 = some l),
  CallsG Tryz.prog 61 [.int .i64 (x1), .int .i64 (x2)] b (R) (fun v b' hp' => ∃ (A : Option Addr), ∃ (c : Nat), .slice A (l).length c = v ∧ R = hp' ∧ FZ (RT.int .i64) b'.w A c l)

set_option maxRecDepth 20000 in
theorem walk1_iter (cj : JoinedC) (co : OutsC) {b : Base} {s1 : ApiNet} {s17 : LineEnd} {A2 : Option Addr} {c3 : Nat} {A5 : Option Addr} {c6 : Nat} {A8 : Option Addr} {c9 : Nat} {A11 : Option Addr} {c12 : Nat} {A14 : Option Addr} {c15 : Nat} (h4 : FZ RT.str b.w A2 c3 s1.Stations) (h7 : FZ rApiSection b.w A5 c6 s1.Sections) (h10 : FZ rApiLink b.w A8 c9 s1.Links) (h13 : FZ rApiSignal b.w A11 c12 s1.Signals) (h16 : FZ rApiGate b.w A14 c15 s1.Gates)
    {Bn Bf : Nat} (hn : ∀ (i : Nat) (u : Value), ([.slice A2 (s1.Stations).length c3, .slice A5 (s1.Sections).length c6, .slice A8 (s1.Links).length c9, .slice A11 (s1.Signals).length c12, .slice A14 (s1.Gates).length c15] : List Value)[i]? = some u → b.w.cell? ((⟨Bn, 0, none⟩ : Addr).add i) = some u)
    (hf : ∀ (i : Nat) (u : Value), ([.int .i64 (s17.section_), .int .i64 (s17.end_)] : List Value)[i]? = some u → b.w.cell? ((⟨Bf, 0, none⟩ : Addr).add i) = some u) {xs : List ApiStep} (hm : mLineWalk s1 s17 = some xs) :
    IterG Tryz.prog 74 #[.pointer (some ⟨Bn, 0, none⟩), .pointer (some ⟨Bf, 0, none⟩)] b (xs.map stepV) := by
  have agg28 : aggT Tryz.prog 28 5 = true := by kernel_rfl
  have agg77 : aggT Tryz.prog 109 2 = true := by kernel_rfl
  have call27 : callable Tryz.prog 58 = true := by kernel_rfl
  have call26 : callable Tryz.prog 61 = true := by kernel_rfl
  have zero77 : ((Tryz.prog.info? 109).bind (·.zero)) = some (.agg #[.int .i64 0, .int .i64 0]) := by kernel_rfl
  have siz77 : sizT Tryz.prog 109 2 = true := by kernel_rfl
  have fld28_1 : fldT Tryz.prog 28 1 1 = true := by kernel_rfl
  have fld77_0 : fldT Tryz.prog 109 0 0 = true := by kernel_rfl
  have fld77_1 : fldT Tryz.prog 109 1 1 = true := by kernel_rfl
  have fld58_0 : fldT Tryz.prog 91 0 0 = true := by kernel_rfl
  have one23 : oneT Tryz.prog 23 = true := by kernel_rfl
  have one3 : oneT Tryz.prog 3 = true := by kernel_rfl
  have sl23 : slT Tryz.prog 23 91 7 = true := by kernel_rfl
  have sl48 : slT Tryz.prog 37 3 1 = true := by kernel_rfl
  have mixed : Tryz.prog.follows .mixedOrders = true := by kernel_rfl
  intro b0 hp0 w hle how l Rd Rx hY h0
  have h4 := h4.le hle
  have h7 := h7.le hle
  have h10 := h10.le hle
  have h13 := h13.le hle
  have h16 := h16.le hle
  have hn := at_le hn hle
  have hf := at_le hf hle
  unfold mLineWalk at hm
  refine enter_N (fn := Tryz.f74) (args := [.func (.yield l) #[] #[], .pointer (some ((⟨Bn, 0, none⟩ : Addr).add 0)), .pointer (some ((⟨Bf, 0, none⟩ : Addr).add 0))]) (w0 := b0) (hp := hp0) 41 Tryz.func74 rfl Tryz.ntmps74 rfl ?_ w how
  refine c_seq ?_
  refine c_region ?_
  refine t_st rfl (st_loadN_at (vs := [.slice A2 (s1.Stations).length c3, .slice A5 (s1.Sections).length c6, .slice A8 (s1.Links).length c9, .slice A11 (s1.Signals).length c12, .slice A14 (s1.Gates).length c15]) 5 rfl agg28 rfl (fun j u hu => by rw [Nat.zero_add]; exact hn j u hu)) ?_
  refine t_st rfl (st_loadN_at (vs := [.int .i64 (s17.section_), .int .i64 (s17.end_)]) 2 rfl agg77 rfl (fun j u hu => by rw [Nat.zero_add]; exact hf j u hu)) ?_
  obtain ⟨⟨x, y, q⟩, hcl4, hm⟩ := bindS hm
  have hm := (unc3E hm)
  refine t_callG _ rfl call27 rfl (cj _ _ s1 s17 A2 c3 A5 c6 A8 c9 A11 c12 A14 c15 h4 h7 h10 h13 h16 x y q hcl4) ?_
  rintro _ b5 _ hle6 ⟨rfl, rfl⟩
  refine t_st rfl (st_move rfl) ?_
  refine t_st rfl (st_extract rfl rfl) ?_
  refine t_st rfl (st_extract rfl rfl) ?_
  refine t_do rfl (u_alloc [.int .i64 0, .int .i64 0] zero77 rfl) ?_
  rintro _ _ ⟨g7, rfl, rfl⟩
  refine t_do rfl (u_storeN (vs := [_, _]) 0 2 rfl rfl rfl siz77 rfl (by intro u hu; simp only [List.mem_cons, List.not_mem_nil, or_false] at hu; rcases hu with rfl | rfl <;> rfl) rfl (by simp)) ?_
  rintro _ _ rfl
  refine t_st rfl (st_assign rfl) ?_
  refine t_nil ?_
  refine x_then_normal ?_
  refine c_frzb 0 rfl ?_
  intro b7 hle8 hz
  have hq := at_fz hz
  refine c_seq ?_
  refine c_seq ?_
  refine c_region ?_
  refine t_st rfl (st_move rfl) ?_
  refine t_st rfl (st_not rfl) ?_
  refine t_nil ?_
  refine x_then_normal ?_
  refine c_cond _ rfl (fun hc => ?_) (fun hc => ?_)
  · have hqf : q = false := by simpa using hc
    subst hqf
    obtain rfl := some1 hm
    refine c_ret ?_
    refine x_then_ret ?_
    intro a w' hft ho'
    exact leave_N hft ⟨_, results_none rfl _ _ _, ⟨_, rfl⟩, b0, hp0, Base.Le.refl _, (hle6.trans hle8).back _ _ ho', .inl h0⟩
  have hqt : q = true := by simpa using hc
  subst hqt
  obtain ⟨p, hp, hm⟩ := bindS (by simpa using hm)
  obtain ⟨o, hom, hm⟩ := bindS hm
  obtain rfl := some1 hm
  refine c_skip ?_
  refine x_then_normal ?_
  refine c_seq ?_
  have h7' := h7.le (hle6.trans hle8)
  have hn' := at_le hn (hle6.trans hle8)
  refine D_drawS (hp0) mixed ?_
  refine E_in (.refl _) ?_
  refine E_st 0 rfl (st_field_at rfl fld28_1) ?_
  refine E_st 1 rfl (st_load_at rfl one23 (hn' 1 _ rfl)) ?_
  refine E_st 2 rfl (st_field_at (p := ⟨g7, 0, none⟩) (k := 0) rfl fld77_0) ?_
  refine E_st 3 rfl (st_load_at rfl one3 (hq 0 _ rfl)) ?_
  obtain ⟨j20, hj21, hx22⟩ := idx_some hp
  obtain ⟨cs23, hr24, hcs25, hA26, hlt27⟩ := FZ.get (sz := 7) rfl (by decide) h7' hx22
  obtain ⟨_, _, rfl, rfl, ⟨_, _, rfl, rfl, ⟨_, _, rfl, rfl, ⟨_, _, rfl, rfl, ⟨_, _, rfl, rfl, ⟨_, _, rfl, rfl, rfl⟩⟩⟩⟩⟩⟩ := hr24
  refine E_st 4 rfl (st_index_old j20 rfl rfl hj21 hlt27 hA26 sl23) ?_
  refine E_st 5 rfl (st_field_old rfl hA26 fld58_0) ?_
  refine E_st 6 rfl (st_load_old rfl one3 (hcs25 0 _ rfl)) ?_
  refine E_st 7 rfl (st_field_at (p := ⟨g7, 0, none⟩) (k := 0) rfl fld77_1) ?_
  refine E_st 8 rfl (st_load_at rfl one3 (hq 1 _ rfl)) ?_
  refine E_st 11 rfl (st_move rfl) ?_
  refine E_out ?_
  refine D_all [9] (by kernel_rfl) rfl ?_
  refine R_callGl (Base.Le.refl _) rfl rfl _ call26 rfl (co _ _ p.Kind y o hom) ?_ ?_
  case refine_2 => exact R_nil
  rintro _ b30 _ hle31 ⟨A32, c33, rfl, rfl, h34⟩
  refine ⟨.inr (.refl _), ?_⟩
  refine D_st hle31 10 rfl (by kernel_rfl) (by kernel_rfl) (by kernel_rfl) rfl (st_len rfl sl48) (.refl _) ?_
  refine D_done (by kernel_rfl) ?_
  refine x_then_normal ?_
  refine c_block ?_
  have hle : b0.Le b30 := (hle6.trans hle8).trans hle31
  have hb : o.length ≤ 9223372036854775807 := h34.bd
  refine c_forM (τ := Empty) (Inv := fun k _ b e' hp' => (∃ b1, Rd k b1 hp' ∧ b0.Le b1 ∧ b1.Le b) ∧ b30.Le b ∧ [(0, .func (.yield l) #[] #[]), (4, .pointer (some ((⟨g7, 0, none⟩ : Addr).add 0))), (25, .slice A32 (o).length c33), (26, .int .i64 ((o.length : Int))), (27, .int .i64 (k : Int))] = e') (forM_go (N := 0) 0 o.length)
    (e' := [(0, .func (.yield l) #[] #[]), (4, .pointer (some ((⟨g7, 0, none⟩ : Addr).add 0))), (25, .slice A32 (o).length c33), (26, .int .i64 ((o.length : Int))), (27, .int .i64 ((0 : Nat) : Int))]) (hp' := hp0) ⟨rfl, rfl, rfl, rfl, rfl, trivial⟩ (.refl _) ⟨⟨b0, h0, Base.Le.refl _, hle⟩, Base.Le.refl _, rfl⟩ ?_ ?_
  · -- a round
    rintro k _ bk _ hpk oo hk ⟨⟨b1, hr, hb1, hb2⟩, hb3, rfl⟩ hoo _
    obtain rfl := (Option.some.inj hoo)
    refine c_seq ?_
    refine c_region ?_
    refine t_st rfl (st_lss_t rfl rfl (by omega)) ?_
    refine t_nil ?_
    refine x_then_normal ?_
    refine c_seq ?_
    refine c_cond_t rfl ?_
    refine c_skip ?_
    refine x_then_normal ?_
    refine c_seq ?_
    refine c_block ?_
    refine c_seq ?_
    refine c_region ?_
    have hx12 : o[k]? = some o[k] := List.getElem?_eq_getElem hk
    obtain ⟨cs13, hr14, hcs15, hA16, hlt17⟩ := FZ.get (sz := 1) rfl (by decide) (h34.le hb3) hx12
    obtain rfl := hr14
    refine t_st rfl (st_index_old k rfl rfl rfl hlt17 hA16 sl48) ?_
    refine t_st rfl (st_load_old rfl one3 (hcs15 0 _ rfl)) ?_
    refine t_st rfl (st_assign rfl) ?_
    refine t_nil ?_
    refine x_then_normal ?_
    refine c_seq ?_
    refine c_region ?_
    have hq := at_le hq (hle31.trans hb3)
    refine t_st rfl (st_move rfl) ?_
    refine t_st rfl (st_field_at (p := ⟨g7, 0, none⟩) (k := 0) rfl fld77_0) ?_
    refine t_st rfl (st_load_at rfl one3 (hq 0 _ rfl)) ?_
    refine t_st rfl (st_field_at (p := ⟨g7, 0, none⟩) (k := 0) rfl fld77_1) ?_
    refine t_st rfl (st_load_at rfl one3 (hq 1 _ rfl)) ?_
    refine t_st rfl (st_move rfl) ?_
    refine t_st rfl (st_build (v := .agg #[.int .i64 (x), .int .i64 (y), .int .i64 (o[k])]) [(0, .int .i64 (x)), (1, .int .i64 (y)), (2, .int .i64 (o[k]))] rfl (fun _ => by kernel_rfl)) ?_
    refine t_yield (K := fun q b3 hp3 => (q = true ∧ Rd (k + 1) b3 hp3) ∨ (q = false ∧ Rx b3 hp3)) rfl rfl rfl (fun W hW => ?_) ?_
    · obtain ⟨fn, tmps, assign, body, g1, g2⟩ := hY k (stepV ⟨x, y, o[k]⟩) b1 hpk (by simp [hk]) hb1 hr bk hb2 W hW
      refine ⟨fn, tmps, assign, body, g1, g2.mono ?_⟩
      rintro e w' ⟨b3, hp3, k1, k2, ⟨rfl, k3⟩ | ⟨rfl, k3⟩⟩
      · exact ⟨true, b3, hp3, rfl, k1, k2, .inl ⟨rfl, k3⟩⟩
      · exact ⟨false, b3, hp3, rfl, k1, k2, .inr ⟨rfl, k3⟩⟩
    · rintro q b3 hp3 hbb (⟨rfl, hr3⟩ | ⟨rfl, hx3⟩)
      · refine t_st rfl (st_not rfl) ?_
        refine t_nil ?_
        refine x_then_normal ?_
        refine c_cond_f rfl ?_
        refine c_skip ?_
        refine x_block_normal ?_
        refine x_then_normal ?_
        refine c_region ?_
        refine t_st rfl (st_add rfl rfl (by omega)) ?_
        refine t_st rfl (st_move rfl) ?_
        refine t_nil ?_
        exact x_againM () rfl (e' := [(0, .func (.yield l) #[] #[]), (4, .pointer (some ((⟨g7, 0, none⟩ : Addr).add 0))), (25, .slice A32 (o).length c33), (26, .int .i64 ((o.length : Int))), (27, .int .i64 ((k : Int) + 1))]) (hp' := hp3) ⟨rfl, rfl, rfl, rfl, rfl, trivial⟩ (.refl _) ⟨⟨b3, hr3, (hb1.trans hb2).trans hbb, Base.Le.refl _⟩, hb3.trans hbb, rfl⟩
      · refine t_st rfl (st_not rfl) ?_
        refine t_nil ?_
        refine x_then_normal ?_
        refine c_cond_t rfl ?_
        refine c_ret ?_
        refine x_block_ret ?_
        refine x_then_ret ?_
        refine x_then_ret ?_
        refine x_block_ret ?_
        intro a w' hft ho'
        exact leave_N hft ⟨_, results_none rfl _ _ _, ⟨_, rfl⟩, b3, hp3, (hb1.trans hb2).trans hbb, ho', .inr hx3⟩
  · -- all have come
    rintro _ bk _ hpk ⟨⟨b1, hr, hb1, hb2⟩, hb3, rfl⟩ _
    refine c_seq ?_
    refine c_region ?_
    refine t_st rfl (st_lss_f rfl rfl (by omega)) ?_
    refine t_nil ?_
    refine x_then_normal ?_
    refine c_seq ?_
    refine c_cond_f rfl ?_
    refine c_exit ?_
    refine x_then_exit ?_
    refine x_then_exit ?_
    refine x_block_out ?_
    intro a w' hft ho'
    exact leave_N hft ⟨_, results_none rfl _ _ _, ⟨_, rfl⟩, b1, hpk, hb1, hb2.back _ _ ho', .inl (by simpa using hr)⟩

set_option maxRecDepth 20000 in
/-- line.walk. -/
theorem walk_of (cj : JoinedC) (co : OutsC) {b : Base} {R : Hp} {s1 : ApiNet} {s17 : LineEnd} {A2 : Option Addr} {c3 : Nat} {A5 : Option Addr} {c6 : Nat} {A8 : Option Addr} {c9 : Nat} {A11 : Option Addr} {c12 : Nat} {A14 : Option Addr} {c15 : Nat} (h4 : FZ RT.str b.w A2 c3 s1.Stations) (h7 : FZ rApiSection b.w A5 c6 s1.Sections) (h10 : FZ rApiLink b.w A8 c9 s1.Links) (h13 : FZ rApiSignal b.w A11 c12 s1.Signals) (h16 : FZ rApiGate b.w A14 c15 s1.Gates) {xs : List ApiStep} (hm : mLineWalk s1 s17 = some xs) :
    CallsG Tryz.prog 56 [.agg #[.slice A2 (s1.Stations).length c3, .slice A5 (s1.Sections).length c6, .slice A8 (s1.Links).length c9, .slice A11 (s1.Signals).length c12, .slice A14 (s1.Gates).length c15], .agg #[.int .i64 (s17.section_), .int .i64 (s17.end_)]] b (R) (fun v b' hp' => ∃ (v10 : Value), v10 = v ∧ R = hp' ∧ IterV Tryz.prog b' v10 (xs.map stepV)) := by
  refine fn_enterG 6 Tryz.func56 rfl Tryz.ntmps56 rfl ?_
  refine c_seq ?_
  refine c_region ?_
  refine t_do rfl (u_box _ rfl rfl) ?_
  rintro _ _ ⟨g1, rfl, rfl⟩
  refine t_do rfl (u_box _ rfl rfl) ?_
  rintro _ _ ⟨g2, rfl, rfl⟩
  refine t_st rfl (st_assign rfl) ?_
  refine t_nil ?_
  refine x_then_normal ?_
  refine c_frzb 0 rfl ?_
  intro b1 hle1 hz1
  have hf := at_fz hz1
  refine c_frzb 0 rfl ?_
  intro b2 hle2 hz2
  have hn := at_fz hz2
  have hf := at_le hf hle2
  refine c_seq ?_
  refine c_region ?_
  refine t_st rfl (st_func _ _ rfl rfl) ?_
  refine t_st rfl (st_assign rfl) ?_
  refine t_nil ?_
  refine x_then_normal ?_
  refine c_ret ?_
  have hle := hle1.trans hle2
  exact retM (rs := [.tmp 4]) [.func (.func 74) #[] #[.pointer (some ⟨g1, 0, none⟩), .pointer (some ⟨g2, 0, none⟩)]] hle (by decide) rfl ⟨rfl, trivial⟩ rfl (hp' := R) (.refl _) ⟨_, rfl, rfl, _, _, rfl, by kernel_rfl, walk1_iter cj co (b := b2.over b) (h4.le hle.over) (h7.le hle.over) (h10.le hle.over) (h13.le hle.over) (h16.le hle.over) hn hf hm⟩
end Go.Proofs.YtcibjjhanafojaaGreatDoor
