/- guide.net.rides: the rides that a function hands to a loop, one by one. -/
import Derived.Test.YtckgfeglhjiflaaDoorXG
import Derived.Test.YtckgfeglhjiflaaDoorRows
import Derived.Test.YtckgfeglhjiflaaDoorWD
set_option linter.unusedVariables false
set_option linter.unusedSimpArgs false
namespace Go.Proofs.YtckgfeglhjiflaaDoor
open Go.RowKit Go.Fp

/-- The value of a ride. -/
def rideV (x : GuideRide) : Value := .agg #[.int .i64 x.Train, .int .i64 x.On, .int .i64 x.Off]
theorem forM_go : ∀ (k m : Nat), forM (σ := Unit) (τ := Empty) (fun _ _ => some (.inl ())) m k () = some (.inl ())
  | _, 0 => rfl
  | k, m + 1 => forM_go (k + 1) m
/-- Up to a number. -/
def upTo (n : Nat) (m : Nat) : Option (Nat ⊕ Unit) := if m < n then some (.inl (m + 1)) else some (.inr ())
theorem upTo_run (n : Nat) : ∀ (d m : Nat), n ≤ m + d → Go.Fp.runN (upTo n) (d + 1) m = some ()
  | 0, m, h => by
    have : ¬ m < n := by omega
    simp [Go.Fp.runN, upTo, this]
  | d + 1, m, h => by
    by_cases hm : m < n
    · rw [Go.Fp.runN]
      simp only [upTo, if_pos hm]
      exact upTo_run n d (m + 1) (by omega)
    · simp [Go.Fp.runN, upTo, hm]
theorem loopM_upTo (n m : Nat) : loopM (upTo n) m = some () := by
  obtain ⟨t, h1, _⟩ := lim_ok (f := fun N => Go.Fp.runN (upTo n) N m) (P := fun _ => True) ⟨n + 1, (), upTo_run n n m (by omega)⟩ (fun _ _ _ => trivial)
  exact h1
theorem ride_some {xs : List Value} {j : Nat} {v : Value} {r : List Value} (h : xs.drop j = v :: r) : xs[j]? = some v ∧ xs.drop (j + 1) = r ∧ j + 1 ≤ xs.length := by
  have h1 : j < xs.length := by
    rcases Nat.lt_or_ge j xs.length with h2 | h2
    · exact h2
    · rw [List.drop_eq_nil_of_le h2] at h; cases h
  rw [List.drop_eq_getElem_cons h1] at h
  injection h with h2 h3
  exact ⟨by rw [List.getElem?_eq_getElem h1, h2], h3, h1⟩
theorem ride_end {xs : List Value} {j : Nat} (h : xs.drop j = []) (hj : j ≤ xs.length) : j = xs.length := by
  rcases Nat.lt_or_ge j xs.length with h2 | h2
  · rw [List.drop_eq_getElem_cons h2] at h; cases h
  · omega

set_option maxRecDepth 20000 in
theorem rides1_iter {b : Base} {l : List ApiTrain} {A2 : Option Addr} {c3 : Nat} (h4 : FZ rApiTrain b.w A2 c3 l) {Bn Bx Bs Ba : Nat} {nt sta at_ : Int} {u5 u6 : Value}
    (hn : ∀ (i : Nat) (u : Value), ([.slice A2 l.length c3, u5, u6] : List Value)[i]? = some u → b.w.cell? ((⟨Bn, 0, none⟩ : Addr).add i) = some u)
    (hx : ∀ (i : Nat) (u : Value), ([.int .i64 nt] : List Value)[i]? = some u → b.w.cell? ((⟨Bx, 0, none⟩ : Addr).add i) = some u)
    (hs : ∀ (i : Nat) (u : Value), ([.int .i64 sta] : List Value)[i]? = some u → b.w.cell? ((⟨Bs, 0, none⟩ : Addr).add i) = some u)
    (ha : ∀ (i : Nat) (u : Value), ([.int .i64 at_] : List Value)[i]? = some u → b.w.cell? ((⟨Ba, 0, none⟩ : Addr).add i) = some u) {xs : List Value} (hXS : (ridesL sta at_ nt l 0).map rideV = xs) :
    IterG Tryd.prog 81 #[.pointer (some ⟨Bn, 0, none⟩), .pointer (some ⟨Bx, 0, none⟩), .pointer (some ⟨Bs, 0, none⟩), .pointer (some ⟨Ba, 0, none⟩)] b xs := by
  have one3 : oneT Tryd.prog 3 = true := by kernel_rfl
  have oneTs : oneT Tryd.prog 22 = true := by kernel_rfl
  have oneSs : oneT Tryd.prog 45 = true := by kernel_rfl
  have slTs : slT Tryd.prog 22 47 4 = true := by kernel_rfl
  have slSs : slT Tryd.prog 45 83 4 = true := by kernel_rfl
  have aggT4 : aggT Tryd.prog 47 4 = true := by kernel_rfl
  have aggS4 : aggT Tryd.prog 83 4 = true := by kernel_rfl
  have sizT4 : sizT Tryd.prog 47 4 = true := by kernel_rfl
  have sizS4 : sizT Tryd.prog 83 4 = true := by kernel_rfl
  have zeroT : ((Tryd.prog.info? 47).bind (·.zero)) = some (.agg #[.int .i64 0, .int .i64 0, .slice none 0 0, .slice none 0 0]) := by kernel_rfl
  have zeroS : ((Tryd.prog.info? 83).bind (·.zero)) = some (.agg #[.int .i64 0, .int .i64 0, .int .i64 0, .int .i64 0]) := by kernel_rfl
  have fldN : fldT Tryd.prog 91 0 0 = true := by kernel_rfl
  have fldD : fldT Tryd.prog 25 0 0 = true := by kernel_rfl
  have fldT2 : fldT Tryd.prog 47 2 2 = true := by kernel_rfl
  have fldS0 : fldT Tryd.prog 83 0 0 = true := by kernel_rfl
  have fldS3 : fldT Tryd.prog 83 3 3 = true := by kernel_rfl
  intro b0 hp0 w hle how y Rd Rx hY h0
  have h4 := h4.le hle
  have hn := at_le hn hle
  have hx := at_le hx hle
  have hs := at_le hs hle
  have ha := at_le ha hle
  have hbl : l.length ≤ 9223372036854775807 := h4.bd
  refine enter_N (fn := Tryd.f81) (args := [.func (.yield y) #[] #[], .pointer (some ((⟨Bn, 0, none⟩ : Addr).add 0)), .pointer (some ((⟨Bx, 0, none⟩ : Addr).add 0)), .pointer (some ((⟨Bs, 0, none⟩ : Addr).add 0)), .pointer (some ((⟨Ba, 0, none⟩ : Addr).add 0))]) (w0 := b0) (hp := hp0) 59 Tryd.func81 rfl Tryd.ntmps81 rfl ?_ w how
  refine c_seq ?_
  refine c_region ?_
  refine t_st rfl (st_field_at rfl fldN) ?_
  refine t_st rfl (st_field_at rfl fldD) ?_
  refine t_st rfl (st_load_at rfl oneTs (hn 0 _ rfl)) ?_
  refine t_st rfl (st_len rfl slTs) ?_
  refine t_st rfl (st_move rfl) ?_
  refine t_nil ?_
  refine x_then_normal ?_
  refine c_block ?_
  refine c_forM (τ := Empty) (Inv := fun k _ bb e' hp' => (∃ j b1, Rd j b1 hp' ∧ b0.Le b1 ∧ b1.Le bb ∧ j ≤ xs.length ∧ xs.drop j = (ridesL sta at_ nt (l.drop k) k).map rideV) ∧ [(0, .func (.yield y) #[] #[]), (2, .pointer (some ((⟨Bx, 0, none⟩ : Addr).add 0))), (3, .pointer (some ((⟨Bs, 0, none⟩ : Addr).add 0))), (4, .pointer (some ((⟨Ba, 0, none⟩ : Addr).add 0))), (13, .slice A2 l.length c3), (14, .int .i64 (l.length : Int)), (15, .int .i64 (k : Int))] = e') (forM_go 0 l.length)
    (e' := [(0, .func (.yield y) #[] #[]), (2, .pointer (some ((⟨Bx, 0, none⟩ : Addr).add 0))), (3, .pointer (some ((⟨Bs, 0, none⟩ : Addr).add 0))), (4, .pointer (some ((⟨Ba, 0, none⟩ : Addr).add 0))), (13, .slice A2 l.length c3), (14, .int .i64 (l.length : Int)), (15, .int .i64 ((0 : Nat) : Int))]) (hp' := hp0) ⟨rfl, rfl, rfl, rfl, rfl, rfl, rfl, trivial⟩ (.refl _) ⟨⟨0, b0, h0, Base.Le.refl _, Base.Le.refl _, Nat.zero_le _, by rw [List.drop_zero, List.drop_zero, hXS]⟩, rfl⟩ ?_ ?_
  · -- a train
    rintro k _ bk _ hpk oo hk ⟨⟨j, b1, hr, hb1, hb2, hj, hdr⟩, rfl⟩ hoo _
    obtain rfl := (Option.some.inj hoo)
    have hbk := hb1.trans hb2
    obtain ⟨x, hxk⟩ : ∃ x, l[k]? = some x := ⟨_, List.getElem?_eq_getElem hk⟩
    have hdk : l.drop k = x :: l.drop (k + 1) := by rw [List.drop_eq_getElem_cons hk]; rw [List.getElem?_eq_getElem hk] at hxk; injection hxk with hxk; rw [hxk]
    refine c_seq ?_
    refine c_region ?_
    refine t_st rfl (st_lss_t rfl rfl (by omega)) ?_
    refine t_nil ?_
    refine x_then_normal ?_
    refine c_seq ?_
    refine c_cond_t rfl ?_
    refine c_skip ?_
    refine x_then_normal ?_
    refine c_seq ?_
    refine c_block ?_
    refine c_seq ?_
    refine c_region ?_
    refine t_st rfl (st_move rfl) ?_
    obtain ⟨cs, hrr, hcs, hA, hlt⟩ := FZ.get (sz := 4) rfl (by decide) (h4.le hbk) hxk
    obtain ⟨_, _, rfl, rfl, ⟨_, _, rfl, rfl, ⟨_, _, rfl, ⟨A202, c203, rfl, h204⟩, ⟨A205, c206, rfl, h207⟩⟩⟩⟩ := hrr
    refine t_st rfl (st_index_old k rfl rfl rfl hlt hA slTs) ?_
    refine t_st rfl (st_loadN_old (vs := [.int .i64 (x.No), .int .i64 (x.Stock), .slice A202 (x.Stops).length c203, .slice A205 (x.Legs).length c206]) 4 rfl aggT4 hA rfl (fun j u hu => hcs j u hu)) ?_
    refine t_do rfl (u_alloc [.int .i64 0, .int .i64 0, .slice none 0 0, .slice none 0 0] zeroT rfl) ?_
    rintro _ _ ⟨g208, rfl, rfl⟩
    refine t_st rfl (st_assign rfl) ?_
    refine t_do rfl (u_storeN (vs := [_, _, _, _]) 0 4 rfl rfl rfl sizT4 rfl (by intro u hu; simp only [List.mem_cons, List.not_mem_nil, or_false] at hu; rcases hu with rfl | rfl | rfl | rfl <;> rfl) rfl (by simp)) ?_
    rintro _ _ rfl
    refine t_nil ?_
    refine x_then_normal ?_
    refine c_frzb 0 rfl ?_
    intro b3 hle3 hz3
    have hq := at_fz hz3
    have hb3 := hbk.trans hle3
    have h204 := h204.le hle3
    refine c_seq ?_
    refine c_seq ?_
    refine c_region ?_
    refine t_st rfl (st_move rfl) ?_
    refine t_st rfl (st_load_at rfl one3 ((at_le hx hb3) 0 _ rfl)) ?_
    refine t_st rfl (st_eql rfl rfl) ?_
    refine t_nil ?_
    refine x_then_normal ?_
    refine c_cond _ rfl (fun hc => ?_) (fun hc => ?_)
    · have hc := of_decide_eq_true hc
      refine c_exit ?_
      refine x_then_exit ?_
      refine x_block_out ?_
      refine x_then_normal ?_
      refine c_region ?_
      refine t_st rfl (st_add rfl rfl (by omega)) ?_
      refine t_st rfl (st_move rfl) ?_
      refine t_nil ?_
      exact x_againM () rfl (e' := [(0, .func (.yield y) #[] #[]), (2, .pointer (some ((⟨Bx, 0, none⟩ : Addr).add 0))), (3, .pointer (some ((⟨Bs, 0, none⟩ : Addr).add 0))), (4, .pointer (some ((⟨Ba, 0, none⟩ : Addr).add 0))), (13, .slice A2 l.length c3), (14, .int .i64 (l.length : Int)), (15, .int .i64 ((k : Int) + 1))]) (hp' := hpk) ⟨rfl, rfl, rfl, rfl, rfl, rfl, rfl, trivial⟩ (.refl _)
        ⟨⟨j, b1, hr, hb1, hb2.trans hle3, hj, by rw [hdr, hdk]; simp only [ridesL, if_pos hc, List.nil_append]⟩, rfl⟩
    have hc := of_decide_eq_false hc
    have hdr : xs.drop j = (ridesS k x.Stops.length sta at_ (x.Stops.drop 0) 0 ++ ridesL sta at_ nt (l.drop (k + 1)) (k + 1)).map rideV := by rw [hdr, hdk]; simp only [ridesL, if_neg hc, List.drop_zero]
    have hbs : x.Stops.length ≤ 9223372036854775807 := FZ.bd h204
    refine c_skip ?_
    refine x_then_normal ?_
    refine c_seq ?_
    refine c_region ?_
    refine t_st rfl (st_field_at (p := ⟨g208, 0, none⟩) (k := 0) rfl fldT2) ?_
    refine t_st rfl (st_load_at rfl oneSs (hq 2 _ rfl)) ?_
    refine t_st rfl (st_len rfl slSs) ?_
    refine t_st rfl (st_move rfl) ?_
    refine t_nil ?_
    refine x_then_normal ?_
    refine c_block ?_
    refine c_forM (τ := Empty) (Inv := fun i _ bb e' hp' => (∃ j b1, Rd j b1 hp' ∧ b0.Le b1 ∧ b1.Le bb ∧ b3.Le bb ∧ j ≤ xs.length ∧ xs.drop j = (ridesS k x.Stops.length sta at_ (x.Stops.drop i) i ++ ridesL sta at_ nt (l.drop (k + 1)) (k + 1)).map rideV) ∧ [(0, .func (.yield y) #[] #[]), (2, .pointer (some ((⟨Bx, 0, none⟩ : Addr).add 0))), (3, .pointer (some ((⟨Bs, 0, none⟩ : Addr).add 0))), (4, .pointer (some ((⟨Ba, 0, none⟩ : Addr).add 0))), (6, .int .i64 (k : Int)), (7, .pointer (some ((⟨g208, 0, none⟩ : Addr).add 0))), (13, .slice A2 l.length c3), (14, .int .i64 (l.length : Int)), (15, .int .i64 (k : Int)), (24, .slice A202 (x.Stops).length c203), (25, .int .i64 (x.Stops.length : Int)), (26, .int .i64 (i : Int))] = e') (forM_go 0 x.Stops.length)
      (e' := [(0, .func (.yield y) #[] #[]), (2, .pointer (some ((⟨Bx, 0, none⟩ : Addr).add 0))), (3, .pointer (some ((⟨Bs, 0, none⟩ : Addr).add 0))), (4, .pointer (some ((⟨Ba, 0, none⟩ : Addr).add 0))), (6, .int .i64 (k : Int)), (7, .pointer (some ((⟨g208, 0, none⟩ : Addr).add 0))), (13, .slice A2 l.length c3), (14, .int .i64 (l.length : Int)), (15, .int .i64 (k : Int)), (24, .slice A202 (x.Stops).length c203), (25, .int .i64 (x.Stops.length : Int)), (26, .int .i64 ((0 : Nat) : Int))]) (hp' := hpk) ⟨rfl, rfl, rfl, rfl, rfl, rfl, rfl, rfl, rfl, rfl, rfl, rfl, trivial⟩ (.refl _) ⟨⟨j, b1, hr, hb1, hb2.trans hle3, Base.Le.refl _, hj, hdr⟩, rfl⟩ ?_ ?_
    · -- a stop
      rintro i _ bi _ hpi oo hi ⟨⟨j, b1, hr, hb1, hb2, hb4, hj, hdr⟩, rfl⟩ hoo _
      obtain rfl := (Option.some.inj hoo)
      have hbi := hb1.trans hb2
      obtain ⟨s, hsi⟩ : ∃ s, x.Stops[i]? = some s := ⟨_, List.getElem?_eq_getElem hi⟩
      have hdi : x.Stops.drop i = s :: x.Stops.drop (i + 1) := by rw [List.drop_eq_getElem_cons hi]; rw [List.getElem?_eq_getElem hi] at hsi; injection hsi with hsi; rw [hsi]
      have more : ∀ (b9 : Base), bi.Le b9 → (s.Station ≠ sta ∨ s.Dep < at_) → ∃ j b1, Rd j b1 hpi ∧ b0.Le b1 ∧ b1.Le b9 ∧ b3.Le b9 ∧ j ≤ xs.length ∧ xs.drop j = (ridesS k x.Stops.length sta at_ (x.Stops.drop (i + 1)) (i + 1) ++ ridesL sta at_ nt (l.drop (k + 1)) (k + 1)).map rideV := fun b9 h9 hh =>
        ⟨j, b1, hr, hb1, hb2.trans h9, hb4.trans h9, hj, by rw [hdr, hdi]; simp only [ridesS, if_pos hh, List.nil_append]⟩
      refine c_seq ?_
      refine c_region ?_
      refine t_st rfl (st_lss_t rfl rfl (by omega)) ?_
      refine t_nil ?_
      refine x_then_normal ?_
      refine c_seq ?_
      refine c_cond_t rfl ?_
      refine c_skip ?_
      refine x_then_normal ?_
      refine c_seq ?_
      refine c_block ?_
      refine c_seq ?_
      refine c_region ?_
      refine t_st rfl (st_move rfl) ?_
      obtain ⟨cs343, hr342, hcs343, hA344, hlt345⟩ := FZ.get (sz := 4) rfl (by decide) (h204.le hb4) hsi
      obtain ⟨_, _, rfl, rfl, ⟨_, _, rfl, rfl, ⟨_, _, rfl, rfl, rfl⟩⟩⟩ := hr342
      refine t_st rfl (st_index_old i rfl rfl rfl hlt345 hA344 slSs) ?_
      refine t_st rfl (st_loadN_old (vs := [.int .i64 (s.Station), .int .i64 (s.Track), .int .i64 (s.Arr), .int .i64 (s.Dep)]) 4 rfl aggS4 hA344 rfl (fun j u hu => hcs343 j u hu)) ?_
      refine t_do rfl (u_alloc [.int .i64 0, .int .i64 0, .int .i64 0, .int .i64 0] zeroS rfl) ?_
      rintro _ _ ⟨g346, rfl, rfl⟩
      refine t_st rfl (st_assign rfl) ?_
      refine t_do rfl (u_storeN (vs := [_, _, _, _]) 0 4 rfl rfl rfl sizS4 rfl (by intro u hu; simp only [List.mem_cons, List.not_mem_nil, or_false] at hu; rcases hu with rfl | rfl | rfl | rfl <;> rfl) rfl (by simp)) ?_
      rintro _ _ rfl
      refine t_nil ?_
      refine x_then_normal ?_
      refine c_seq ?_
      refine c_seq ?_
      refine c_region ?_
      refine t_st rfl (st_field rfl fldS0) ?_
      refine t_st rfl (st_load 0 rfl one3 rfl rfl) ?_
      refine t_st rfl (st_load_at rfl one3 ((at_le hs hbi) 0 _ rfl)) ?_
      refine t_bool rfl (st_neq rfl rfl) (fun hc1 => ?_) (fun hc1 => ?_)
      · refine t_st rfl (st_move rfl) ?_
        refine t_no 35 rfl rfl rfl rfl rfl ?_
        refine t_no 35 rfl rfl rfl rfl rfl ?_
        refine t_no 35 rfl rfl rfl rfl rfl ?_
        refine t_no 35 rfl rfl rfl rfl rfl ?_
        refine t_st rfl (st_pick_t rfl rfl) ?_
        refine t_nil ?_
        refine x_then_normal ?_
        refine c_cond_t rfl ?_
        refine c_exit ?_
        refine x_then_exit ?_
        refine x_block_out ?_
        refine x_then_normal ?_
        refine c_region ?_
        refine t_st rfl (st_add rfl rfl (by omega)) ?_
        refine t_st rfl (st_move rfl) ?_
        refine t_nil ?_
        exact x_againM () rfl (e' := [(0, .func (.yield y) #[] #[]), (2, .pointer (some ((⟨Bx, 0, none⟩ : Addr).add 0))), (3, .pointer (some ((⟨Bs, 0, none⟩ : Addr).add 0))), (4, .pointer (some ((⟨Ba, 0, none⟩ : Addr).add 0))), (6, .int .i64 (k : Int)), (7, .pointer (some ((⟨g208, 0, none⟩ : Addr).add 0))), (13, .slice A2 l.length c3), (14, .int .i64 (l.length : Int)), (15, .int .i64 (k : Int)), (24, .slice A202 (x.Stops).length c203), (25, .int .i64 (x.Stops.length : Int)), (26, .int .i64 ((i : Int) + 1))]) (hp' := hpi) ⟨rfl, rfl, rfl, rfl, rfl, rfl, rfl, rfl, rfl, rfl, rfl, rfl, trivial⟩ (.cons _ (.refl _)) ⟨more _ (Base.Le.refl _) (.inl hc1), rfl⟩
      · refine t_st rfl (st_move rfl) ?_
        refine t_yes 35 rfl rfl rfl ?_
        refine t_st rfl (st_field rfl fldS3) ?_
        refine t_yes 35 rfl rfl rfl ?_
        refine t_st rfl (st_load 0 rfl one3 rfl rfl) ?_
        refine t_yes 35 rfl rfl rfl ?_
        refine t_st rfl (st_load_at rfl one3 ((at_le ha hbi) 0 _ rfl)) ?_
        refine t_yes 35 rfl rfl rfl ?_
        refine t_st rfl (st_lss rfl rfl) ?_
        refine t_st rfl (st_pick_f rfl rfl) ?_
        refine t_nil ?_
        refine x_then_normal ?_
        refine c_cond _ rfl (fun hc2 => ?_) (fun hc2 => ?_)
        · refine c_exit ?_
          refine x_then_exit ?_
          refine x_block_out ?_
          refine x_then_normal ?_
          refine c_region ?_
          refine t_st rfl (st_add rfl rfl (by omega)) ?_
          refine t_st rfl (st_move rfl) ?_
          refine t_nil ?_
          exact x_againM () rfl (e' := [(0, .func (.yield y) #[] #[]), (2, .pointer (some ((⟨Bx, 0, none⟩ : Addr).add 0))), (3, .pointer (some ((⟨Bs, 0, none⟩ : Addr).add 0))), (4, .pointer (some ((⟨Ba, 0, none⟩ : Addr).add 0))), (6, .int .i64 (k : Int)), (7, .pointer (some ((⟨g208, 0, none⟩ : Addr).add 0))), (13, .slice A2 l.length c3), (14, .int .i64 (l.length : Int)), (15, .int .i64 (k : Int)), (24, .slice A202 (x.Stops).length c203), (25, .int .i64 (x.Stops.length : Int)), (26, .int .i64 ((i : Int) + 1))]) (hp' := hpi) ⟨rfl, rfl, rfl, rfl, rfl, rfl, rfl, rfl, rfl, rfl, rfl, rfl, trivial⟩ (.cons _ (.refl _)) ⟨more _ (Base.Le.refl _) (.inr (of_decide_eq_true hc2)), rfl⟩
        have hcc : ¬ (s.Station ≠ sta ∨ s.Dep < at_) := fun hh => hh.elim hc1 (of_decide_eq_false hc2)
        have hdr : xs.drop j = (offsG k i x.Stops.length (i + 1) ++ (ridesS k x.Stops.length sta at_ (x.Stops.drop (i + 1)) (i + 1) ++ ridesL sta at_ nt (l.drop (k + 1)) (k + 1))).map rideV := by rw [hdr, hdi]; simp only [ridesS, if_neg hcc, List.append_assoc]
        refine c_skip ?_
        refine x_then_normal ?_
        refine c_seq ?_
        refine c_region ?_
        refine t_st rfl (st_move rfl) ?_
        refine t_st rfl (st_add rfl rfl (by omega)) ?_
        refine t_st rfl (st_assign rfl) ?_
        refine t_nil ?_
        refine x_then_normal ?_
        refine c_block ?_
        refine c_loopM (Inv := fun (m : Nat) bb e' hp' => (∃ j b1, Rd j b1 hp' ∧ b0.Le b1 ∧ b1.Le bb ∧ b3.Le bb ∧ j ≤ xs.length ∧ xs.drop j = (offsG k i x.Stops.length m ++ (ridesS k x.Stops.length sta at_ (x.Stops.drop (i + 1)) (i + 1) ++ ridesL sta at_ nt (l.drop (k + 1)) (k + 1))).map rideV) ∧ m ≤ x.Stops.length ∧ [(0, .func (.yield y) #[] #[]), (2, .pointer (some ((⟨Bx, 0, none⟩ : Addr).add 0))), (3, .pointer (some ((⟨Bs, 0, none⟩ : Addr).add 0))), (4, .pointer (some ((⟨Ba, 0, none⟩ : Addr).add 0))), (6, .int .i64 (k : Int)), (7, .pointer (some ((⟨g208, 0, none⟩ : Addr).add 0))), (8, .int .i64 (i : Int)), (10, .int .i64 (m : Int)), (13, .slice A2 l.length c3), (14, .int .i64 (l.length : Int)), (15, .int .i64 (k : Int)), (24, .slice A202 (x.Stops).length c203), (25, .int .i64 (x.Stops.length : Int)), (26, .int .i64 (i : Int))] = e') (loopM_upTo x.Stops.length (i + 1))
          (e' := [(0, .func (.yield y) #[] #[]), (2, .pointer (some ((⟨Bx, 0, none⟩ : Addr).add 0))), (3, .pointer (some ((⟨Bs, 0, none⟩ : Addr).add 0))), (4, .pointer (some ((⟨Ba, 0, none⟩ : Addr).add 0))), (6, .int .i64 (k : Int)), (7, .pointer (some ((⟨g208, 0, none⟩ : Addr).add 0))), (8, .int .i64 (i : Int)), (10, .int .i64 ((i : Int) + 1)), (13, .slice A2 l.length c3), (14, .int .i64 (l.length : Int)), (15, .int .i64 (k : Int)), (24, .slice A202 (x.Stops).length c203), (25, .int .i64 (x.Stops.length : Int)), (26, .int .i64 (i : Int))]) (hp' := hpi) ⟨rfl, rfl, rfl, rfl, rfl, rfl, rfl, rfl, rfl, rfl, rfl, rfl, rfl, rfl, trivial⟩ (.cons _ (.refl _)) ⟨⟨j, b1, hr, hb1, hb2, hb4, hj, hdr⟩, hi, rfl⟩ ?_
        -- where one can get off
        rintro m bm _ hpm oo ⟨⟨j, b1, hr, hb1, hb2, hb4, hj, hdr⟩, hmn, rfl⟩ hoo hout
        have hbm := hb1.trans hb2
        have hq := at_le hq hb4
        refine c_seq ?_
        refine c_seq ?_
        refine c_region ?_
        refine t_st rfl (st_move rfl) ?_
        refine t_st rfl (st_field_at (p := ⟨g208, 0, none⟩) (k := 0) rfl fldT2) ?_
        refine t_st rfl (st_load_at rfl oneSs (hq 2 _ rfl)) ?_
        refine t_st rfl (st_len rfl slSs) ?_
        refine t_st rfl (st_lss rfl rfl) ?_
        refine t_nil ?_
        refine x_then_normal ?_
        refine c_cond _ rfl (fun hc3 => ?_) (fun hc3 => ?_)
        · have hc3 := of_decide_eq_true hc3
          have hlt : m < x.Stops.length := by omega
          rw [upTo, if_pos hlt] at hoo
          obtain rfl := (Option.some.inj hoo)
          have hof : offsG k i x.Stops.length m = ⟨(k : Int), (i : Int), (m : Int)⟩ :: offsG k i x.Stops.length (m + 1) := by
            have h1 : x.Stops.length - m = (x.Stops.length - (m + 1)) + 1 := by omega
            simp only [offsG]
            rw [h1, List.range'_succ]
            rfl
          rw [hof] at hdr
          obtain ⟨he1, he2, he3⟩ := ride_some hdr
          refine c_skip ?_
          refine x_then_normal ?_
          refine c_seq ?_
          refine c_block ?_
          refine c_seq ?_
          refine c_region ?_
          refine t_st rfl (st_move rfl) ?_
          refine t_st rfl (st_move rfl) ?_
          refine t_st rfl (st_move rfl) ?_
          refine t_st rfl (st_move rfl) ?_
          refine t_st rfl (st_build (v := rideV ⟨(k : Int), (i : Int), (m : Int)⟩) [(0, .int .i64 (k : Int)), (1, .int .i64 (i : Int)), (2, .int .i64 (m : Int))] rfl (fun _ => by kernel_rfl)) ?_
          refine t_yield (K := fun q b9 hp9 => (q = true ∧ Rd (j + 1) b9 hp9) ∨ (q = false ∧ Rx b9 hp9)) rfl rfl rfl (fun W hW => ?_) ?_
          · obtain ⟨fn, tmps, assign, body, g1, g2⟩ := hY j (rideV ⟨(k : Int), (i : Int), (m : Int)⟩) b1 hpm he1 hb1 hr bm hb2 W hW
            refine ⟨fn, tmps, assign, body, g1, g2.mono ?_⟩
            rintro e w' ⟨b9, hp9, k1, k2, ⟨rfl, k3⟩ | ⟨rfl, k3⟩⟩
            · exact ⟨true, b9, hp9, rfl, k1, k2, .inl ⟨rfl, k3⟩⟩
            · exact ⟨false, b9, hp9, rfl, k1, k2, .inr ⟨rfl, k3⟩⟩
          · rintro q b9 hp9 hbb (⟨rfl, hr9⟩ | ⟨rfl, hx9⟩)
            · refine t_st rfl (st_not rfl) ?_
              refine t_nil ?_
              refine x_then_normal ?_
              refine c_cond_f rfl ?_
              refine c_skip ?_
              refine x_block_normal ?_
              refine x_then_normal ?_
              refine c_region ?_
              refine t_st rfl (st_move rfl) ?_
              refine t_st rfl (st_add rfl rfl (by omega)) ?_
              refine t_st rfl (st_assign rfl) ?_
              refine t_nil ?_
              exact x_againM (m + 1) rfl (e' := [(0, .func (.yield y) #[] #[]), (2, .pointer (some ((⟨Bx, 0, none⟩ : Addr).add 0))), (3, .pointer (some ((⟨Bs, 0, none⟩ : Addr).add 0))), (4, .pointer (some ((⟨Ba, 0, none⟩ : Addr).add 0))), (6, .int .i64 (k : Int)), (7, .pointer (some ((⟨g208, 0, none⟩ : Addr).add 0))), (8, .int .i64 (i : Int)), (10, .int .i64 ((m : Int) + 1)), (13, .slice A2 l.length c3), (14, .int .i64 (l.length : Int)), (15, .int .i64 (k : Int)), (24, .slice A202 (x.Stops).length c203), (25, .int .i64 (x.Stops.length : Int)), (26, .int .i64 (i : Int))]) (hp' := hp9) ⟨rfl, rfl, rfl, rfl, rfl, rfl, rfl, rfl, rfl, rfl, rfl, rfl, rfl, rfl, trivial⟩ (.refl _) ⟨⟨j + 1, b9, hr9, hbm.trans hbb, Base.Le.refl _, hb4.trans hbb, he3, he2⟩, hlt, rfl⟩
            · refine t_st rfl (st_not rfl) ?_
              refine t_nil ?_
              refine x_then_normal ?_
              refine c_cond_t rfl ?_
              refine c_ret ?_
              repeat (first | refine x_block_ret ?_ | refine x_then_ret ?_)
              intro a w' hft ho'
              exact leave_N hft ⟨_, results_none rfl _ _ _, ⟨_, rfl⟩, b9, hp9, hbm.trans hbb, ho', .inr hx9⟩
        · have hc3 := of_decide_eq_false hc3
          have hge : m = x.Stops.length := by omega
          subst hge
          have hof : offsG k i x.Stops.length x.Stops.length = [] := by simp [offsG]
          rw [hof, List.nil_append] at hdr
          refine c_exit ?_
          refine x_then_exit ?_
          refine x_then_exit ?_
          refine x_block_out ?_
          refine x_block_normal ?_
          refine x_then_normal ?_
          refine c_region ?_
          refine t_st rfl (st_add rfl rfl (by omega)) ?_
          refine t_st rfl (st_move rfl) ?_
          refine t_nil ?_
          exact x_againM () rfl (e' := [(0, .func (.yield y) #[] #[]), (2, .pointer (some ((⟨Bx, 0, none⟩ : Addr).add 0))), (3, .pointer (some ((⟨Bs, 0, none⟩ : Addr).add 0))), (4, .pointer (some ((⟨Ba, 0, none⟩ : Addr).add 0))), (6, .int .i64 (k : Int)), (7, .pointer (some ((⟨g208, 0, none⟩ : Addr).add 0))), (13, .slice A2 l.length c3), (14, .int .i64 (l.length : Int)), (15, .int .i64 (k : Int)), (24, .slice A202 (x.Stops).length c203), (25, .int .i64 (x.Stops.length : Int)), (26, .int .i64 ((i : Int) + 1))]) (hp' := hpm) ⟨rfl, rfl, rfl, rfl, rfl, rfl, rfl, rfl, rfl, rfl, rfl, rfl, trivial⟩ (.refl _) ⟨⟨j, b1, hr, hb1, hb2, hb4, hj, hdr⟩, rfl⟩
    · -- no stop is left
      rintro _ bi _ hpi ⟨⟨j, b1, hr, hb1, hb2, hb4, hj, hdr⟩, rfl⟩ _
      rw [List.drop_length] at hdr
      simp only [ridesS, List.nil_append] at hdr
      refine c_seq ?_
      refine c_region ?_
      refine t_st rfl (st_lss_f rfl rfl (by omega)) ?_
      refine t_nil ?_
      refine x_then_normal ?_
      refine c_seq ?_
      refine c_cond_f rfl ?_
      refine c_exit ?_
      refine x_then_exit ?_
      refine x_then_exit ?_
      refine x_block_out ?_
      refine x_block_normal ?_
      refine x_then_normal ?_
      refine c_region ?_
      refine t_st rfl (st_add rfl rfl (by omega)) ?_
      refine t_st rfl (st_move rfl) ?_
      refine t_nil ?_
      exact x_againM () rfl (e' := [(0, .func (.yield y) #[] #[]), (2, .pointer (some ((⟨Bx, 0, none⟩ : Addr).add 0))), (3, .pointer (some ((⟨Bs, 0, none⟩ : Addr).add 0))), (4, .pointer (some ((⟨Ba, 0, none⟩ : Addr).add 0))), (13, .slice A2 l.length c3), (14, .int .i64 (l.length : Int)), (15, .int .i64 ((k : Int) + 1))]) (hp' := hpi) ⟨rfl, rfl, rfl, rfl, rfl, rfl, rfl, trivial⟩ (.refl _) ⟨⟨j, b1, hr, hb1, hb2, hj, hdr⟩, rfl⟩
  · -- no train is left
    rintro _ bk _ hpk ⟨⟨j, b1, hr, hb1, hb2, hj, hdr⟩, rfl⟩ _
    rw [List.drop_length] at hdr
    have hje := ride_end (by rw [hdr]; rfl) hj
    subst hje
    refine c_seq ?_
    refine c_region ?_
    refine t_st rfl (st_lss_f rfl rfl (by omega)) ?_
    refine t_nil ?_
    refine x_then_normal ?_
    refine c_seq ?_
    refine c_cond_f rfl ?_
    refine c_exit ?_
    refine x_then_exit ?_
    refine x_then_exit ?_
    refine x_block_out ?_
    intro a w' hft ho'
    exact leave_N hft ⟨_, results_none rfl _ _ _, ⟨_, rfl⟩, b1, hpk, hb1, hb2.back _ _ ho', .inl hr⟩

set_option maxRecDepth 20000 in
/-- guide.net.rides. -/
theorem rides_of {b : Base} {R : Hp} {s1 : GuideNet} {A2 : Option Addr} {c3 : Nat} {A5 : Option Addr} {c6 : Nat} (h4 : FZ rApiTrain b.w A2 c3 s1.Day.Trains) (h7 : FZ (RT.list (RT.int .i64)) b.w A5 c6 s1.Day.Turns) (x y z : Int) :
    CallsG Tryd.prog 54 [.agg #[.slice A2 (s1.Day.Trains).length c3, .slice A5 (s1.Day.Turns).length c6, .int .i64 (s1.least)], .int .i64 x, .int .i64 y, .int .i64 z] b (R) (fun v b' hp' => ∃ (v10 : Value), v10 = v ∧ R = hp' ∧ IterV Tryd.prog b' v10 ((ridesL x y z s1.Day.Trains 0).map rideV)) := by
  refine fn_enterG 10 Tryd.func54 rfl Tryd.ntmps54 rfl ?_
  refine c_seq ?_
  refine c_region ?_
  refine t_do rfl (u_box _ rfl rfl) ?_
  rintro _ _ ⟨g1, rfl, rfl⟩
  refine t_do rfl (u_box _ rfl rfl) ?_
  rintro _ _ ⟨g2, rfl, rfl⟩
  refine t_do rfl (u_box _ rfl rfl) ?_
  rintro _ _ ⟨g3, rfl, rfl⟩
  refine t_do rfl (u_box _ rfl rfl) ?_
  rintro _ _ ⟨g4, rfl, rfl⟩
  refine t_st rfl (st_assign rfl) ?_
  refine t_nil ?_
  refine x_then_normal ?_
  refine c_frzb 0 rfl ?_
  intro b1 hle1 hz1
  have hx := at_fz hz1
  refine c_frzb 0 rfl ?_
  intro b2 hle2 hz2
  have ha := at_fz hz2
  refine c_frzb 0 rfl ?_
  intro b3 hle3 hz3
  have hs := at_fz hz3
  refine c_frzb 0 rfl ?_
  intro b4 hle4 hz4
  have hn := at_fz hz4
  have hx := at_le hx (hle2.trans (hle3.trans hle4))
  have ha := at_le ha (hle3.trans hle4)
  have hs := at_le hs hle4
  refine c_seq ?_
  refine c_region ?_
  refine t_st rfl (st_func _ _ rfl rfl) ?_
  refine t_st rfl (st_assign rfl) ?_
  refine t_nil ?_
  refine x_then_normal ?_
  refine c_ret ?_
  have hle := hle1.trans (hle2.trans (hle3.trans hle4))
  exact retM (rs := [.tmp 8]) [.func (.func 81) #[] #[.pointer (some ⟨g1, 0, none⟩), .pointer (some ⟨g4, 0, none⟩), .pointer (some ⟨g2, 0, none⟩), .pointer (some ⟨g3, 0, none⟩)]] hle (by decide) rfl ⟨rfl, trivial⟩ rfl (hp' := R) (.refl _) ⟨_, rfl, rfl, _, _, rfl, by kernel_rfl, rides1_iter (b := b4.bare) (by have q := h4.le hle; exact q) hn hx hs ha rfl⟩
end Go.Proofs.YtckgfeglhjiflaaDoor
