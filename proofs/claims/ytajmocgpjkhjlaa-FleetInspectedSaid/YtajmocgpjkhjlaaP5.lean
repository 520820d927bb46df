/- Contracts: the code computes its model (part 5). -/
import Derived.Test.YtajmocgpjkhjlaaP4
set_option linter.unusedVariables false
set_option linter.unusedSimpArgs false
namespace Go.Proofs.Ytajmocgpjkhjlaa
open Go.RowKit Go.Fp

set_option maxRecDepth 20000 in
theorem cFishref2Kept (b : Base) (R : Hp) (l4 : (List FleetTask)) (l8 : (List Int)) (s9 : FleetSet) (s10 : FleetShop) (l14 : (List Int)) (A1 : Option Addr) (c2 : Nat) (A5 : Option Addr) (c6 : Nat) (A11 : Option Addr) (c12 : Nat) (h3 : FZ rFleetTask b.w A1 c2 l4) (h7 : FZ (RT.int .i64) b.w A5 c6 l8) (h13 : FZ (RT.int .i64) b.w A11 c12 l14) (x129 : Bool) (hm : mFishref2Kept l4 l8 s9 s10 l14 = some x129) :
    CallsG Try.prog 85 [.slice A1 (l4).length c2, .slice A5 (l8).length c6, .agg #[.int .i64 (s9.Home), .int .i64 (s9.Km)], .agg #[.int .i64 (s10.Place), .int .i64 (s10.Long), .int .i64 (s10.Limit)], .slice A11 (l14).length c12] b (R) (fun v b' hp' => .bool (x129) = v ∧ R = hp') := by
  refine fn_enterG 43 Try.func85 rfl Try.ntmps85 rfl ?_
  unfold mFishref2Kept at hm
  refine c_seq ?_
  refine c_region ?_
  refine t_do rfl (u_box _ rfl rfl) ?_
  rintro _ _ ⟨g130, rfl, rfl⟩
  refine t_do rfl (u_box _ rfl rfl) ?_
  rintro _ _ ⟨g131, rfl, rfl⟩
  refine t_st rfl (st_assign rfl) ?_
  refine t_nil ?_
  refine x_then_normal ?_
  refine c_seq ?_
  refine c_region ?_
  refine t_st rfl (st_field rfl fld47_1) ?_
  refine t_st rfl (st_load 1 rfl one3 rfl rfl) ?_
  refine t_st rfl (st_assign rfl) ?_
  refine t_nil ?_
  refine x_then_normal ?_
  refine c_seq ?_
  refine c_seq ?_
  refine c_region ?_
  refine t_st rfl (st_move rfl) ?_
  refine t_st rfl (st_len rfl sl45) ?_
  obtain ⟨_, h132, hm⟩ := bindS hm
  have h132 := (chk_some h132).2
  refine t_st rfl (st_add rfl rfl h132) ?_
  refine t_st rfl (st_move rfl) ?_
  refine t_nil ?_
  refine x_then_normal ?_
  refine c_block ?_
  obtain ⟨_, h134, hm⟩ := bindS hm
  have h134 := (chk_some h134).2
  obtain ⟨t206, hl207, hk208⟩ := bindS hm
  refine c_forM (fun k205 => fun x204 => fun b202 e' hp' => [(0, .slice A1 (l4).length c2), (1, .slice A5 (l8).length c6), (4, .slice A11 (l14).length c12), (8, .pointer (some ⟨g131, 0, none⟩)), (11, .int .i64 (x204)), (17, .int .i64 ((l8.length : Int) + 1)), (18, .int .i64 ((k205 : Int)))] = e' ∧ (g131, Cl 40 [.int .i64 (s10.Place), .int .i64 (s10.Long), .int .i64 (s10.Limit)]) :: R = hp' ∧ b.Le b202) hl207 (e' := [(0, .slice A1 (l4).length c2), (1, .slice A5 (l8).length c6), (4, .slice A11 (l14).length c12), (8, .pointer (some ⟨g131, 0, none⟩)), (11, .int .i64 (s9.Km)), (17, .int .i64 ((l8.length : Int) + 1)), (18, .int .i64 0)]) (hp' := (g131, Cl 40 [.int .i64 (s10.Place), .int .i64 (s10.Long), .int .i64 (s10.Limit)]) :: R) ⟨rfl, rfl, rfl, rfl, rfl, rfl, rfl, trivial⟩ (.cons_cons _ (.cons _ (.refl _))) ⟨rfl, rfl, (Base.Le.refl _)⟩ ?_ ?_
  ·
    rintro k205 x204 b202 _ _ oL133 hknL133 ⟨rfl, rfl, hle203⟩ hstepL133 houtL133
    unfold mFishref2Kept_L133 at hstepL133
    have hm := hstepL133
    refine c_seq ?_
    refine c_region ?_
    refine t_st rfl (st_lss_t rfl rfl (by omega)) ?_
    refine t_nil ?_
    refine x_then_normal ?_
    refine c_seq ?_
    refine c_cond_t rfl ?_
    refine c_skip ?_
    refine x_then_normal ?_
    refine c_seq ?_
    refine c_block ?_
    refine c_seq ?_
    refine c_region ?_
    refine t_st rfl (st_move rfl) ?_
    refine t_st rfl (st_assign rfl) ?_
    refine t_nil ?_
    refine x_then_normal ?_
    obtain ⟨x214, hj215, hk215⟩ := bindS hm
    refine c_join (fun b212 e' hp' => [(0, .slice A1 (l4).length c2), (1, .slice A5 (l8).length c6), (4, .slice A11 (l14).length c12), (8, .pointer (some ⟨g131, 0, none⟩)), (11, .int .i64 (x214)), (12, .int .i64 ((k205 : Int))), (17, .int .i64 ((l8.length : Int) + 1)), (18, .int .i64 ((k205 : Int)))] = e' ∧ (g131, Cl 40 [.int .i64 (s10.Place), .int .i64 (s10.Long), .int .i64 (s10.Limit)]) :: R = hp' ∧ b202.Le b212) ?_ ?_
    ·
      have hm := hj215
      refine c_seq ?_
      refine c_region ?_
      refine t_st rfl (st_move rfl) ?_
      refine t_st rfl (st_move rfl) ?_
      obtain ⟨x216, hcl217, hm⟩ := bindS hm
      refine t_do rfl (u_callW0 _ call20 rfl (fun w ho => cSlicesContains _ [] l14 (k205 : Int) A11 c12 ((h13.le hle203).old ho) x216 hcl217) (fun _ _ _ h => h.2.symm)) ?_
      rintro _ _ ⟨⟨_, rfl, _⟩, rfl⟩
      refine t_nil ?_
      refine x_then_normal ?_
      refine c_cond _ rfl (fun hc218 => ?_) (fun hc218 => ?_)
      ·
        rw [if_pos hc218] at hm
        refine c_region ?_
        refine t_st rfl (st_assign rfl) ?_
        refine t_nil ?_
        obtain rfl := some1 hm
        exact x_join (e' := [(0, .slice A1 (l4).length c2), (1, .slice A5 (l8).length c6), (4, .slice A11 (l14).length c12), (8, .pointer (some ⟨g131, 0, none⟩)), (11, .int .i64 (0)), (12, .int .i64 ((k205 : Int))), (17, .int .i64 ((l8.length : Int) + 1)), (18, .int .i64 ((k205 : Int)))]) (hp' := (g131, Cl 40 [.int .i64 (s10.Place), .int .i64 (s10.Long), .int .i64 (s10.Limit)]) :: R) ⟨rfl, rfl, rfl, rfl, rfl, rfl, rfl, rfl, trivial⟩ (.cons_cons _ (.refl _)) ⟨rfl, rfl, (Base.Le.refl _)⟩
      ·
        rw [if_neg (fun hh => Bool.noConfusion (hh.symm.trans hc218))] at hm
        refine c_skip ?_
        obtain rfl := some1 hm
        exact x_join (e' := [(0, .slice A1 (l4).length c2), (1, .slice A5 (l8).length c6), (4, .slice A11 (l14).length c12), (8, .pointer (some ⟨g131, 0, none⟩)), (11, .int .i64 (x204)), (12, .int .i64 ((k205 : Int))), (17, .int .i64 ((l8.length : Int) + 1)), (18, .int .i64 ((k205 : Int)))]) (hp' := (g131, Cl 40 [.int .i64 (s10.Place), .int .i64 (s10.Long), .int .i64 (s10.Limit)]) :: R) ⟨rfl, rfl, rfl, rfl, rfl, rfl, rfl, rfl, trivial⟩ (.cons_cons _ (.refl _)) ⟨rfl, rfl, (Base.Le.refl _)⟩
    ·
      rintro b212 _ _ ⟨rfl, rfl, hle213⟩
      have hm := hk215
      refine c_seq ?_
      refine c_region ?_
      refine t_st rfl (st_move rfl) ?_
      refine t_st rfl (st_move rfl) ?_
      refine t_st rfl (st_len rfl sl45) ?_
      refine t_st rfl (st_lss rfl rfl) ?_
      refine t_nil ?_
      refine x_then_normal ?_
      refine c_cond _ rfl (fun hc219 => ?_) (fun hc219 => ?_)
      ·
        rw [if_pos (of_decide_eq_true hc219)] at hm
        refine c_seq ?_
        refine c_region ?_
        refine t_st rfl (st_move rfl) ?_
        refine t_st rfl (st_move rfl) ?_
        refine t_st rfl (st_move rfl) ?_
        refine t_st rfl (st_move rfl) ?_
        obtain ⟨x220, h221, hm⟩ := bindS hm
        obtain ⟨j222, hj223, hx224⟩ := idx_some h221
        obtain ⟨cs225, hr226, hcs227, hA228, hlt229⟩ := FZ.get (sz := 1) rfl (by decide) (h7.le (hle203.trans hle213)) hx224
        obtain rfl := hr226
        refine t_st rfl (st_index_old j222 rfl rfl hj223 hlt229 hA228 sl45) ?_
        refine t_st rfl (st_load_old rfl one3 (hcs227 0 _ rfl)) ?_
        obtain ⟨x230, h231, hm⟩ := bindS hm
        obtain ⟨j232, hj233, hx234⟩ := idx_some h231
        obtain ⟨cs235, hr236, hcs237, hA238, hlt239⟩ := FZ.get (sz := 6) rfl (by decide) (h3.le (hle203.trans hle213)) hx234
        obtain ⟨_, _, rfl, rfl, ⟨_, _, rfl, rfl, ⟨_, _, rfl, rfl, ⟨_, _, rfl, rfl, ⟨_, _, rfl, rfl, rfl⟩⟩⟩⟩⟩ := hr236
        refine t_st rfl (st_index_old j232 rfl rfl hj233 hlt239 hA238 sl22) ?_
        refine t_st rfl (st_field_old rfl hA238 fld36_4) ?_
        refine t_st rfl (st_load_old rfl one3 (hcs237 4 _ rfl)) ?_
        obtain ⟨_, h240, hm⟩ := bindS hm
        have h240 := (chk_some h240).2
        refine t_st rfl (st_add rfl rfl h240) ?_
        refine t_st rfl (st_assign rfl) ?_
        refine t_nil ?_
        refine x_then_normal ?_
        refine c_seq ?_
        refine c_region ?_
        refine t_st rfl (st_move rfl) ?_
        refine t_st rfl (st_field rfl fld40_2) ?_
        refine t_st rfl (st_load 0 rfl one3 rfl rfl) ?_
        refine t_st rfl (st_gtr rfl rfl) ?_
        refine t_nil ?_
        refine x_then_normal ?_
        refine c_cond _ rfl (fun hc241 => ?_) (fun hc241 => ?_)
        ·
          rw [if_pos (of_decide_eq_true hc241)] at hm
          refine c_seq ?_
          refine c_region ?_
          refine t_st rfl (st_assign rfl) ?_
          refine t_nil ?_
          refine x_then_normal ?_
          refine c_ret ?_
          refine x_block_ret ?_
          refine x_then_ret ?_
          refine x_then_ret ?_
          refine x_block_ret ?_
          refine x_then_ret ?_
          have hq242 := houtL133 _ (Option.some.inj hm).symm
          rw [hq242] at hk208
          have hm := elimR hk208
          obtain rfl := some1 hm
          exact retM (rs := [.tmp 10]) [.bool (false)] (hle203.trans hle213) (by decide) rfl ⟨rfl, trivial⟩ rfl (hp' := R) (.cons _ (.refl _)) ⟨rfl, rfl⟩
        ·
          rw [if_neg (of_decide_eq_false hc241)] at hm
          refine c_skip ?_
          refine x_block_normal ?_
          refine x_then_normal ?_
          refine c_region ?_
          refine t_st rfl (st_add rfl rfl (by omega)) ?_
          refine t_st rfl (st_move rfl) ?_
          refine t_nil ?_
          exact x_againM (x214 + x230.Km) (Option.some.inj hm).symm (e' := [(0, .slice A1 (l4).length c2), (1, .slice A5 (l8).length c6), (4, .slice A11 (l14).length c12), (8, .pointer (some ⟨g131, 0, none⟩)), (11, .int .i64 (x214 + x230.Km)), (17, .int .i64 ((l8.length : Int) + 1)), (18, .int .i64 ((k205 : Int) + 1))]) (hp' := (g131, Cl 40 [.int .i64 (s10.Place), .int .i64 (s10.Long), .int .i64 (s10.Limit)]) :: R) ⟨rfl, rfl, rfl, rfl, rfl, rfl, rfl, trivial⟩ (.cons_cons _ (.refl _)) ⟨rfl, rfl, ((hle203.trans hle213))⟩
      ·
        rw [if_neg (of_decide_eq_false hc219)] at hm
        refine c_skip ?_
        refine x_block_normal ?_
        refine x_then_normal ?_
        refine c_region ?_
        refine t_st rfl (st_add rfl rfl (by omega)) ?_
        refine t_st rfl (st_move rfl) ?_
        refine t_nil ?_
        exact x_againM x214 (Option.some.inj hm).symm (e' := [(0, .slice A1 (l4).length c2), (1, .slice A5 (l8).length c6), (4, .slice A11 (l14).length c12), (8, .pointer (some ⟨g131, 0, none⟩)), (11, .int .i64 (x214)), (17, .int .i64 ((l8.length : Int) + 1)), (18, .int .i64 ((k205 : Int) + 1))]) (hp' := (g131, Cl 40 [.int .i64 (s10.Place), .int .i64 (s10.Long), .int .i64 (s10.Limit)]) :: R) ⟨rfl, rfl, rfl, rfl, rfl, rfl, rfl, trivial⟩ (.cons_cons _ (.refl _)) ⟨rfl, rfl, ((hle203.trans hle213))⟩
  ·
    rintro x204 b202 _ _ ⟨rfl, rfl, hle203⟩ hq243
    rw [hq243] at hk208
    have hm := elimL hk208
    refine c_seq ?_
    refine c_region ?_
    refine t_st rfl (st_lss_f rfl rfl (by omega)) ?_
    refine t_nil ?_
    refine x_then_normal ?_
    refine c_seq ?_
    refine c_cond_f rfl ?_
    refine c_exit ?_
    refine x_then_exit ?_
    refine x_then_exit ?_
    refine x_block_out ?_
    refine x_then_normal ?_
    refine c_seq ?_
    refine c_region ?_
    refine t_st rfl (st_assign rfl) ?_
    refine t_nil ?_
    refine x_then_normal ?_
    refine c_ret ?_
    obtain rfl := some1 hm
    exact retM (rs := [.tmp 10]) [.bool (true)] hle203 (by decide) rfl ⟨rfl, trivial⟩ rfl (hp' := R) (.cons _ (.refl _)) ⟨rfl, rfl⟩

set_option maxRecDepth 20000 in
theorem cFishref2Latest (b : Base) (R : Hp) (l4 : (List FleetTask)) (l8 : (List Int)) (s9 : FleetSet) (s10 : FleetShop) (l14 : (List Int)) (A1 : Option Addr) (c2 : Nat) (A5 : Option Addr) (c6 : Nat) (A11 : Option Addr) (c12 : Nat) (h3 : FZ rFleetTask b.w A1 c2 l4) (h7 : FZ (RT.int .i64) b.w A5 c6 l8) (h13 : FZ (RT.int .i64) b.w A11 c12 l14) (x842 : Bool) (l843 : (List Int)) (hm : mFishref2Latest l4 l8 s9 s10 l14 = some (x842, l843)) :
    CallsG Try.prog 84 [.slice A1 (l4).length c2, .slice A5 (l8).length c6, .agg #[.int .i64 (s9.Home), .int .i64 (s9.Km)], .agg #[.int .i64 (s10.Place), .int .i64 (s10.Long), .int .i64 (s10.Limit)], .slice A11 (l14).length c12] b (R) (fun v b' hp' => ∃ (A839 : Option Addr), ∃ (c840 : Nat), ∃ (hs838 : Hp), .tuple #[.slice A839 (l843).length c840, .bool (x842)] = v ∧ (hs838 ++ R) = hp' ∧ OS 3 (OT.fr (RT.int .i64)) b'.w (.slice A839 l843.length c840) l843 hs838) := by
  refine fn_enterG 64 Try.func84 rfl Try.ntmps84 rfl ?_
  unfold mFishref2Latest at hm
  refine c_seq ?_
  refine c_region ?_
  refine t_do rfl (u_box _ rfl rfl) ?_
  rintro _ _ ⟨g844, rfl, rfl⟩
  refine t_do rfl (u_box _ rfl rfl) ?_
  rintro _ _ ⟨g845, rfl, rfl⟩
  refine t_st rfl (st_assign rfl) ?_
  refine t_st rfl (st_assign rfl) ?_
  refine t_nil ?_
  refine x_then_normal ?_
  refine c_seq ?_
  refine c_region ?_
  refine t_st rfl (st_assign rfl) ?_
  refine t_nil ?_
  refine x_then_normal ?_
  refine c_seq ?_
  refine c_seq ?_
  refine c_region ?_
  refine t_st rfl (st_move rfl) ?_
  refine t_st rfl (st_len rfl sl45) ?_
  obtain ⟨_, h846, hm⟩ := bindS hm
  have h846 := (chk_some h846).2
  refine t_st rfl (st_add rfl rfl h846) ?_
  refine t_st rfl (st_move rfl) ?_
  refine t_nil ?_
  refine x_then_normal ?_
  refine c_block ?_
  obtain ⟨_, h848, hm⟩ := bindS hm
  have h848 := (chk_some h848).2
  refine c_pullb 1 rfl ?_
  obtain ⟨t1383, hl1384, hk1385⟩ := bindS hm
  refine c_forM (fun k1382 => fun l1381 => fun b1374 e' hp' => ∃ (A1378 : Option Addr), ∃ (c1379 : Nat), ∃ (hs1377 : Hp), [(0, .slice A1 (l4).length c2), (1, .slice A5 (l8).length c6), (4, .slice A11 (l14).length c12), (7, .pointer (some ⟨g844, 0, none⟩)), (8, .pointer (some ⟨g845, 0, none⟩)), (12, .slice A1378 (l1381).length c1379), (18, .int .i64 ((l14.length : Int) + 1)), (19, .int .i64 ((k1382 : Int)))] = e' ∧ (g844, Cl 47 [.int .i64 (s9.Home), .int .i64 (s9.Km)]) :: (g845, Cl 40 [.int .i64 (s10.Place), .int .i64 (s10.Long), .int .i64 (s10.Limit)]) :: (hs1377 ++ R) = hp' ∧ b.Le b1374 ∧ OS 3 (OT.fr (RT.int .i64)) b1374.w (.slice A1378 l1381.length c1379) l1381 hs1377) hl1384 (e' := [(0, .slice A1 (l4).length c2), (1, .slice A5 (l8).length c6), (4, .slice A11 (l14).length c12), (7, .pointer (some ⟨g844, 0, none⟩)), (8, .pointer (some ⟨g845, 0, none⟩)), (12, .slice none 0 0), (18, .int .i64 ((l14.length : Int) + 1)), (19, .int .i64 0)]) (hp' := (g844, Cl 47 [.int .i64 (s9.Home), .int .i64 (s9.Km)]) :: (g845, Cl 40 [.int .i64 (s10.Place), .int .i64 (s10.Long), .int .i64 (s10.Limit)]) :: ([] ++ R)) ⟨rfl, rfl, rfl, rfl, rfl, rfl, rfl, rfl, trivial⟩ (.cons_cons _ (.cons_cons _ (.refl _))) ⟨none, 0, [], rfl, rfl, (Base.Le.refl _), OS.nil⟩ ?_ ?_
  ·
    rintro k1382 l1381 b1374 _ _ oL847 hknL847 ⟨A1378, c1379, hs1377, rfl, rfl, hle1375, h1380⟩ hstepL847 houtL847
    unfold mFishref2Latest_L847 at hstepL847
    have hm := hstepL847
    refine c_seq ?_
    refine c_region ?_
    refine t_st rfl (st_lss_t rfl rfl (by omega)) ?_
    refine t_nil ?_
    refine x_then_normal ?_
    refine c_seq ?_
    refine c_cond_t rfl ?_
    refine c_skip ?_
    refine x_then_normal ?_
    refine c_seq ?_
    refine c_block ?_
    refine c_seq ?_
    refine c_seq ?_
    refine c_region ?_
    refine t_st rfl (st_move rfl) ?_
    refine t_st rfl (st_move rfl) ?_
    refine t_st rfl (st_loadD (vs := [_, _]) 0 2 rfl agg47 rfl rfl rfl) ?_
    refine t_st rfl (st_loadD (vs := [_, _, _]) 1 3 rfl agg40 rfl rfl rfl) ?_
    refine t_st rfl (st_move rfl) ?_
    obtain ⟨x1386, hcl1387, hm⟩ := bindS hm
    refine t_do rfl (u_callW0 _ call85 rfl (fun w ho => cFishref2Kept _ [] l4 l8 s9 s10 l1381 A1 c2 A5 c6 A1378 c1379 ((h3.le hle1375).old ho) ((h7.le hle1375).old ho) (OS.now (o := (OT.fr (RT.int .i64))) (l := l1381) (hs := hs1377) h1380 ho (.cons _ (.cons _ (List.sublist_append_left _ _)))) x1386 hcl1387) (fun _ _ _ h => h.2.symm)) ?_
    rintro _ _ ⟨⟨_, rfl, _⟩, rfl⟩
    refine t_nil ?_
    refine x_then_normal ?_
    refine c_cond _ rfl (fun hc1388 => ?_) (fun hc1388 => ?_)
    ·
      rw [if_pos hc1388] at hm
      refine c_seq ?_
      refine c_region ?_
      refine t_st rfl (st_move rfl) ?_
      refine t_st rfl (st_assign rfl) ?_
      refine t_st rfl (st_assign rfl) ?_
      refine t_nil ?_
      refine x_then_normal ?_
      refine c_ret ?_
      refine x_then_ret ?_
      refine x_block_ret ?_
      refine x_then_ret ?_
      refine x_then_ret ?_
      refine x_block_ret ?_
      refine x_then_ret ?_
      have hq1389 := houtL847 _ (Option.some.inj hm).symm
      rw [hq1389] at hk1385
      have hm := elimR hk1385
      obtain ⟨rfl, rfl⟩ := some2 hm
      exact retM (rs := [.tmp 10, .tmp 11]) [.slice A1378 (l1381).length c1379, .bool (true)] hle1375 (by decide) rfl ⟨rfl, ⟨rfl, trivial⟩⟩ rfl (hp' := (hs1377 ++ R)) (.cons _ (.cons _ (sub_app hs1377 (.refl _)))) ⟨A1378, c1379, hs1377, rfl, rfl, h1380⟩
    ·
      rw [if_neg (fun hh => Bool.noConfusion (hh.symm.trans hc1388))] at hm
      refine c_skip ?_
      refine x_then_normal ?_
      refine c_seq ?_
      refine c_region ?_
      refine t_st rfl (st_assign rfl) ?_
      refine t_nil ?_
      refine x_then_normal ?_
      refine c_seq ?_
      refine c_seq ?_
      refine c_region ?_
      refine t_st rfl (st_move rfl) ?_
      refine t_st rfl (st_len rfl sl45) ?_
      refine t_st rfl (st_move rfl) ?_
      refine t_nil ?_
      refine x_then_normal ?_
      refine c_block ?_
      have hb1391 := (FZ.bd (h13.le hle1375))
      refine c_pullb 1 rfl ?_
      refine c_pullb 1 rfl ?_
      obtain ⟨x1567, hl1569, hk1570⟩ := bindS hm
      refine c_forS (fun k1568 => fun x1567 => fun b1565 e' hp' => [(0, .slice A1 (l4).length c2), (1, .slice A5 (l8).length c6), (4, .slice A11 (l14).length c12), (7, .pointer (some ⟨g844, 0, none⟩)), (8, .pointer (some ⟨g845, 0, none⟩)), (12, .slice A1378 (l1381).length c1379), (13, .int .i64 (x1567)), (18, .int .i64 ((l14.length : Int) + 1)), (19, .int .i64 ((k1382 : Int))), (28, .slice A11 (l14).length c12), (29, .int .i64 ((l14.length : Int))), (30, .int .i64 ((k1568 : Int)))] = e' ∧ (g844, Cl 47 [.int .i64 (s9.Home), .int .i64 (s9.Km)]) :: (g845, Cl 40 [.int .i64 (s10.Place), .int .i64 (s10.Long), .int .i64 (s10.Limit)]) :: (hs1377 ++ R) = hp' ∧ b1374.Le b1565) hl1569 (e' := [(0, .slice A1 (l4).length c2), (1, .slice A5 (l8).length c6), (4, .slice A11 (l14).length c12), (7, .pointer (some ⟨g844, 0, none⟩)), (8, .pointer (some ⟨g845, 0, none⟩)), (12, .slice A1378 (l1381).length c1379), (13, .int .i64 ((-1))), (18, .int .i64 ((l14.length : Int) + 1)), (19, .int .i64 ((k1382 : Int))), (28, .slice A11 (l14).length c12), (29, .int .i64 ((l14.length : Int))), (30, .int .i64 0)]) (hp' := (g844, Cl 47 [.int .i64 (s9.Home), .int .i64 (s9.Km)]) :: (g845, Cl 40 [.int .i64 (s10.Place), .int .i64 (s10.Long), .int .i64 (s10.Limit)]) :: (hs1377 ++ R)) ⟨rfl, rfl, rfl, rfl, rfl, rfl, rfl, rfl, rfl, rfl, rfl, rfl, trivial⟩ (.cons_cons _ (.cons_cons _ (sub_app hs1377 (.refl _)))) ⟨rfl, rfl, (Base.Le.refl _)⟩ ?_ ?_
      ·
        rintro k1568 x1567 b1565 _ _ oL1390 hknL1390 ⟨rfl, rfl, hle1566⟩ hstepL1390
        unfold mFishref2Latest_L1390 at hstepL1390
        have hm := hstepL1390
        refine c_seq ?_
        refine c_region ?_
        refine t_st rfl (st_lss_t rfl rfl (by omega)) ?_
        refine t_nil ?_
        refine x_then_normal ?_
        refine c_seq ?_
        refine c_cond_t rfl ?_
        refine c_skip ?_
        refine x_then_normal ?_
        refine c_seq ?_
        refine c_block ?_
        refine c_seq ?_
        refine c_region ?_
        obtain ⟨x1571, h1572, hm⟩ := bindS hm
        obtain ⟨j1573, hj1574, hx1575⟩ := idx_some h1572
        obtain ⟨cs1576, hr1577, hcs1578, hA1579, hlt1580⟩ := FZ.get (sz := 1) rfl (by decide) (h13.le (hle1375.trans hle1566)) hx1575
        obtain rfl := hr1577
        refine t_st rfl (st_index_old j1573 rfl rfl hj1574 hlt1580 hA1579 sl45) ?_
        refine t_st rfl (st_load_old rfl one3 (hcs1578 0 _ rfl)) ?_
        refine t_st rfl (st_assign rfl) ?_
        refine t_nil ?_
        refine x_then_normal ?_
        refine c_seq ?_
        obtain ⟨x1601, hj1602, hk1602⟩ := bindS hm
        refine c_join (fun b1599 e' hp' => [(0, .slice A1 (l4).length c2), (1, .slice A5 (l8).length c6), (4, .slice A11 (l14).length c12), (7, .pointer (some ⟨g844, 0, none⟩)), (8, .pointer (some ⟨g845, 0, none⟩)), (12, .slice A1378 (l1381).length c1379), (13, .int .i64 (x1567)), (15, .int .i64 (x1571)), (18, .int .i64 ((l14.length : Int) + 1)), (19, .int .i64 ((k1382 : Int))), (28, .slice A11 (l14).length c12), (29, .int .i64 ((l14.length : Int))), (30, .int .i64 ((k1568 : Int))), (46, .bool (x1601))] = e' ∧ (g844, Cl 47 [.int .i64 (s9.Home), .int .i64 (s9.Km)]) :: (g845, Cl 40 [.int .i64 (s10.Place), .int .i64 (s10.Long), .int .i64 (s10.Limit)]) :: (hs1377 ++ R) = hp' ∧ b1565.Le b1599) ?_ ?_
        ·
          have hm := hj1602
          refine c_region ?_
          refine t_st rfl (st_move rfl) ?_
          refine t_st rfl (st_len rfl sl45) ?_
          refine t_bool rfl (st_gtr rfl rfl) (fun hc1603 => ?_) (fun hc1603 => ?_)
          ·
            rw [if_pos hc1603] at hm
            refine t_st rfl (st_move rfl) ?_
            refine t_yes 37 rfl rfl rfl ?_
            refine t_st rfl (st_move rfl) ?_
            refine t_yes 37 rfl rfl rfl ?_
            refine t_st rfl (st_move rfl) ?_
            refine t_yes 37 rfl rfl rfl ?_
            refine t_st rfl (st_move rfl) ?_
            refine t_yes 37 rfl rfl rfl ?_
            refine t_st rfl (st_len rfl sl45) ?_
            refine t_yes 37 rfl rfl rfl ?_
            obtain ⟨_, h1604, hm⟩ := bindS hm
            have h1604 := (chk_some h1604).2
            refine t_st rfl (st_sub rfl rfl h1604) ?_
            refine t_yes 37 rfl rfl rfl ?_
            obtain ⟨x1605, h1606, hm⟩ := bindS hm
            obtain ⟨j1607, hj1608, hx1609⟩ := idx_some h1606
            obtain ⟨cs1610, hs1615, P1616, P1617, hq1618, hr1611, hcs1612, hA1613, hlt1614, hb1619, hho1620⟩ := OS.get (sz := 1) rfl (by decide) (h1380.le hle1566) hx1609
            obtain ⟨rfl, rfl⟩ := hr1611
            refine t_st rfl (st_index_old j1607 rfl rfl hj1608 hlt1614 hA1613 sl45) ?_
            refine t_yes 37 rfl rfl rfl ?_
            refine t_st rfl (st_load_rd rfl one3 (fun w ho => hcs1612 w _ ho (.cons _ (.cons _ (List.sublist_append_left _ _))) 0 _ rfl)) ?_
            refine t_yes 37 rfl rfl rfl ?_
            refine t_st rfl (st_leq rfl rfl) ?_
            refine t_st rfl (st_pick_t rfl rfl) ?_
            refine t_nil ?_
            obtain rfl := some1 hm
            refine x_pullb 1 rfl ?_
            refine x_pullb 1 rfl ?_
            exact x_join (e' := [(0, .slice A1 (l4).length c2), (1, .slice A5 (l8).length c6), (4, .slice A11 (l14).length c12), (7, .pointer (some ⟨g844, 0, none⟩)), (8, .pointer (some ⟨g845, 0, none⟩)), (12, .slice A1378 (l1381).length c1379), (13, .int .i64 (x1567)), (15, .int .i64 (x1571)), (18, .int .i64 ((l14.length : Int) + 1)), (19, .int .i64 ((k1382 : Int))), (28, .slice A11 (l14).length c12), (29, .int .i64 ((l14.length : Int))), (30, .int .i64 ((k1568 : Int))), (46, .bool (decide (x1571 ≤ x1605)))]) (hp' := (g844, Cl 47 [.int .i64 (s9.Home), .int .i64 (s9.Km)]) :: (g845, Cl 40 [.int .i64 (s10.Place), .int .i64 (s10.Long), .int .i64 (s10.Limit)]) :: (hs1377 ++ R)) ⟨rfl, rfl, rfl, rfl, rfl, rfl, rfl, rfl, rfl, rfl, rfl, rfl, rfl, rfl, trivial⟩ (.cons_cons _ (.cons_cons _ (sub_app hs1377 (.refl _)))) ⟨rfl, rfl, (Base.Le.refl _)⟩
          ·
            rw [if_neg hc1603] at hm
            refine t_st rfl (st_move rfl) ?_
            refine t_no 37 rfl rfl rfl rfl rfl ?_
            refine t_no 37 rfl rfl rfl rfl rfl ?_
            refine t_no 37 rfl rfl rfl rfl rfl ?_
            refine t_no 37 rfl rfl rfl rfl rfl ?_
            refine t_no 37 rfl rfl rfl rfl rfl ?_
            refine t_no 37 rfl rfl rfl rfl rfl ?_
            refine t_no 37 rfl rfl rfl rfl rfl ?_
            refine t_no 37 rfl rfl rfl rfl rfl ?_
            refine t_st rfl (st_pick_f rfl rfl) ?_
            refine t_nil ?_
            obtain rfl := some1 hm
            refine x_pullb 1 rfl ?_
            refine x_pullb 1 rfl ?_
            exact x_join (e' := [(0, .slice A1 (l4).length c2), (1, .slice A5 (l8).length c6), (4, .slice A11 (l14).length c12), (7, .pointer (some ⟨g844, 0, none⟩)), (8, .pointer (some ⟨g845, 0, none⟩)), (12, .slice A1378 (l1381).length c1379), (13, .int .i64 (x1567)), (15, .int .i64 (x1571)), (18, .int .i64 ((l14.length : Int) + 1)), (19, .int .i64 ((k1382 : Int))), (28, .slice A11 (l14).length c12), (29, .int .i64 ((l14.length : Int))), (30, .int .i64 ((k1568 : Int))), (46, .bool (false))]) (hp' := (g844, Cl 47 [.int .i64 (s9.Home), .int .i64 (s9.Km)]) :: (g845, Cl 40 [.int .i64 (s10.Place), .int .i64 (s10.Long), .int .i64 (s10.Limit)]) :: (hs1377 ++ R)) ⟨rfl, rfl, rfl, rfl, rfl, rfl, rfl, rfl, rfl, rfl, rfl, rfl, rfl, rfl, trivial⟩ (.cons_cons _ (.cons_cons _ (sub_app hs1377 (.refl _)))) ⟨rfl, rfl, (Base.Le.refl _)⟩
        ·
          rintro b1599 _ _ ⟨rfl, rfl, hle1600⟩
          have hm := hk1602
          refine c_cond _ rfl (fun hc1621 => ?_) (fun hc1621 => ?_)
          ·
            rw [if_pos hc1621] at hm
            refine c_exit ?_
            refine x_then_exit ?_
            refine x_block_out ?_
            refine x_then_normal ?_
            refine c_region ?_
            refine t_st rfl (st_add rfl rfl (by omega)) ?_
            refine t_st rfl (st_move rfl) ?_
            refine t_nil ?_
            refine x_pullb 1 rfl ?_
            refine x_pullb 1 rfl ?_
            obtain rfl := some1 hm
            exact x_againS (e' := [(0, .slice A1 (l4).length c2), (1, .slice A5 (l8).length c6), (4, .slice A11 (l14).length c12), (7, .pointer (some ⟨g844, 0, none⟩)), (8, .pointer (some ⟨g845, 0, none⟩)), (12, .slice A1378 (l1381).length c1379), (13, .int .i64 (x1567)), (18, .int .i64 ((l14.length : Int) + 1)), (19, .int .i64 ((k1382 : Int))), (28, .slice A11 (l14).length c12), (29, .int .i64 ((l14.length : Int))), (30, .int .i64 ((k1568 : Int) + 1))]) (hp' := (g844, Cl 47 [.int .i64 (s9.Home), .int .i64 (s9.Km)]) :: (g845, Cl 40 [.int .i64 (s10.Place), .int .i64 (s10.Long), .int .i64 (s10.Limit)]) :: (hs1377 ++ R)) ⟨rfl, rfl, rfl, rfl, rfl, rfl, rfl, rfl, rfl, rfl, rfl, rfl, trivial⟩ (.cons_cons _ (.cons_cons _ (sub_app hs1377 (.refl _)))) ⟨rfl, rfl, ((hle1566.trans hle1600))⟩
          ·
            rw [if_neg (fun hh => Bool.noConfusion (hh.symm.trans hc1621))] at hm
            refine c_skip ?_
            refine x_then_normal ?_
            refine c_seq ?_
            obtain ⟨l1639, h1640, hm⟩ := bindS hm
            obtain ⟨x1654, hcl1655, hm⟩ := bindS hm
            refine D_drawS ((g844, Cl 47 [.int .i64 (s9.Home), .int .i64 (s9.Km)]) :: (g845, Cl 40 [.int .i64 (s10.Place), .int .i64 (s10.Long), .int .i64 (s10.Limit)]) :: (hs1377 ++ R)) mixed ?_
            refine D_st (Base.Le.refl _) 0 rfl (by kernel_rfl) (by kernel_rfl) (by kernel_rfl) rfl (st_move rfl) (.cons_cons _ (.cons_cons _ (sub_app hs1377 (.refl _)))) ?_
            refine D_st (Base.Le.refl _) 1 rfl (by kernel_rfl) (by kernel_rfl) (by kernel_rfl) rfl (st_move rfl) (.cons_cons _ (.cons_cons _ (sub_app hs1377 (.refl _)))) ?_
            refine D_st (Base.Le.refl _) 2 rfl (by kernel_rfl) (by kernel_rfl) (by kernel_rfl) rfl (st_move rfl) (.cons_cons _ (.cons_cons _ (sub_app hs1377 (.refl _)))) ?_
            obtain ⟨j1641, j1642, hj1643, hj1644, hj1645, hj1646, hx1647⟩ := cutS_some h1640
            have h1648 := FZ.sub (sz := 1) rfl (h7.le (hle1375.trans (hle1566.trans hle1600))) hj1645 hj1646
            have h1649 := (h7.le (hle1375.trans (hle1566.trans hle1600))).1.1
            rw [← hx1647] at h1648
            refine D_st (Base.Le.refl _) 3 rfl (by kernel_rfl) (by kernel_rfl) (by kernel_rfl) rfl (hx1647 ▸ st_part (l := l8) j1641 j1642 rfl (.inl ⟨rfl, by omega⟩) (.inr ⟨_, _, _, rfl, rfl, hj1644⟩) hj1645 hj1646 h1649 sl45) (.cons_cons _ (.cons_cons _ (sub_app hs1377 (.refl _)))) ?_
            refine D_st (Base.Le.refl _) 4 rfl (by kernel_rfl) (by kernel_rfl) (by kernel_rfl) rfl (st_loadD (vs := [_, _]) 0 2 rfl agg47 rfl rfl rfl) (.cons_cons _ (.cons_cons _ (sub_app hs1377 (.refl _)))) ?_
            refine D_st (Base.Le.refl _) 5 rfl (by kernel_rfl) (by kernel_rfl) (by kernel_rfl) rfl (st_loadD (vs := [_, _, _]) 1 3 rfl agg40 rfl rfl rfl) (.cons_cons _ (.cons_cons _ (sub_app hs1377 (.refl _)))) ?_
            refine D_st (Base.Le.refl _) 6 rfl (by kernel_rfl) (by kernel_rfl) (by kernel_rfl) rfl (st_move rfl) (.cons_cons _ (.cons_cons _ (sub_app hs1377 (.refl _)))) ?_
            refine D_all [7] (by kernel_rfl) rfl ?_
            refine R_do (Base.Le.refl _) rfl rfl (u_callW0 _ call85 rfl (fun w ho => cFishref2Kept _ [] l4 l1639 s9 s10 l1381 A1 c2 (subA A5 c6 j1641 1) (c6 - j1641) A1378 c1379 ((h3.le (hle1375.trans (hle1566.trans hle1600))).old ho) (h1648.old ho) (OS.now (o := (OT.fr (RT.int .i64))) (l := l1381) (hs := hs1377) (h1380.le (hle1566.trans hle1600)) ho (.cons _ (.cons _ (List.sublist_append_left _ _)))) x1654 hcl1655) (fun _ _ _ h => h.2.symm)) ?_ ?_
            ·
              rintro _ _ ⟨⟨_, rfl, _⟩, rfl⟩
              refine ⟨.inr (.cons_cons _ (.cons_cons _ (sub_app hs1377 (.refl _)))), ?_⟩
              refine D_done (by kernel_rfl) ?_
              refine x_then_normal ?_
              refine c_cond _ rfl (fun hc1656 => ?_) (fun hc1656 => ?_)
              ·
                rw [if_pos hc1656] at hm
                refine c_region ?_
                refine t_st rfl (st_move rfl) ?_
                refine t_st rfl (st_assign rfl) ?_
                refine t_nil ?_
                refine x_block_normal ?_
                refine x_then_normal ?_
                refine c_region ?_
                refine t_st rfl (st_add rfl rfl (by omega)) ?_
                refine t_st rfl (st_move rfl) ?_
                refine t_nil ?_
                refine x_pullb 1 rfl ?_
                refine x_pullb 1 rfl ?_
                obtain rfl := some1 hm
                exact x_againS (e' := [(0, .slice A1 (l4).length c2), (1, .slice A5 (l8).length c6), (4, .slice A11 (l14).length c12), (7, .pointer (some ⟨g844, 0, none⟩)), (8, .pointer (some ⟨g845, 0, none⟩)), (12, .slice A1378 (l1381).length c1379), (13, .int .i64 (x1571)), (18, .int .i64 ((l14.length : Int) + 1)), (19, .int .i64 ((k1382 : Int))), (28, .slice A11 (l14).length c12), (29, .int .i64 ((l14.length : Int))), (30, .int .i64 ((k1568 : Int) + 1))]) (hp' := (g844, Cl 47 [.int .i64 (s9.Home), .int .i64 (s9.Km)]) :: (g845, Cl 40 [.int .i64 (s10.Place), .int .i64 (s10.Long), .int .i64 (s10.Limit)]) :: (hs1377 ++ R)) ⟨rfl, rfl, rfl, rfl, rfl, rfl, rfl, rfl, rfl, rfl, rfl, rfl, trivial⟩ (.cons_cons _ (.cons_cons _ (sub_app hs1377 (.refl _)))) ⟨rfl, rfl, ((hle1566.trans hle1600))⟩
              ·
                rw [if_neg (fun hh => Bool.noConfusion (hh.symm.trans hc1656))] at hm
                refine c_skip ?_
                refine x_block_normal ?_
                refine x_then_normal ?_
                refine c_region ?_
                refine t_st rfl (st_add rfl rfl (by omega)) ?_
                refine t_st rfl (st_move rfl) ?_
                refine t_nil ?_
                refine x_pullb 1 rfl ?_
                refine x_pullb 1 rfl ?_
                obtain rfl := some1 hm
                exact x_againS (e' := [(0, .slice A1 (l4).length c2), (1, .slice A5 (l8).length c6), (4, .slice A11 (l14).length c12), (7, .pointer (some ⟨g844, 0, none⟩)), (8, .pointer (some ⟨g845, 0, none⟩)), (12, .slice A1378 (l1381).length c1379), (13, .int .i64 (x1567)), (18, .int .i64 ((l14.length : Int) + 1)), (19, .int .i64 ((k1382 : Int))), (28, .slice A11 (l14).length c12), (29, .int .i64 ((l14.length : Int))), (30, .int .i64 ((k1568 : Int) + 1))]) (hp' := (g844, Cl 47 [.int .i64 (s9.Home), .int .i64 (s9.Km)]) :: (g845, Cl 40 [.int .i64 (s10.Place), .int .i64 (s10.Long), .int .i64 (s10.Limit)]) :: (hs1377 ++ R)) ⟨rfl, rfl, rfl, rfl, rfl, rfl, rfl, rfl, rfl, rfl, rfl, rfl, trivial⟩ (.cons_cons _ (.cons_cons _ (sub_app hs1377 (.refl _)))) ⟨rfl, rfl, ((hle1566.trans hle1600))⟩
            exact R_nil
      ·
        rintro b1565 _ _ ⟨rfl, rfl, hle1566⟩
        have hm := hk1570
        refine c_seq ?_
        refine c_region ?_
        refine t_st rfl (st_lss_f rfl rfl (by omega)) ?_
        refine t_nil ?_
        refine x_then_normal ?_
        refine c_seq ?_
        refine c_cond_f rfl ?_
        refine c_exit ?_
        refine x_then_exit ?_
        refine x_then_exit ?_
        refine x_block_out ?_
        refine x_then_normal ?_
        refine c_seq ?_
        refine c_seq ?_
        refine c_region ?_
        refine t_st rfl (st_move rfl) ?_
        refine t_st rfl (st_lss rfl rfl) ?_
        refine t_nil ?_
        refine x_then_normal ?_
        refine c_cond _ rfl (fun hc1657 => ?_) (fun hc1657 => ?_)
        ·
          rw [if_pos (of_decide_eq_true hc1657)] at hm
          refine c_seq ?_
          refine c_region ?_
          refine t_st rfl (st_assign rfl) ?_
          refine t_st rfl (st_assign rfl) ?_
          refine t_nil ?_
          refine x_then_normal ?_
          refine c_ret ?_
          refine x_then_ret ?_
          refine x_block_ret ?_
          refine x_then_ret ?_
          refine x_then_ret ?_
          refine x_block_ret ?_
          refine x_then_ret ?_
          have hq1658 := houtL847 _ (Option.some.inj hm).symm
          rw [hq1658] at hk1385
          have hm := elimR hk1385
          obtain ⟨rfl, rfl⟩ := some2 hm
          exact retM (rs := [.tmp 10, .tmp 11]) [.slice none 0 0, .bool (false)] (hle1375.trans hle1566) (by decide) rfl ⟨rfl, ⟨rfl, trivial⟩⟩ rfl (hp' := ([] ++ R)) (.cons _ (.cons _ (sub_skip hs1377 (.refl _)))) ⟨none, 0, [], rfl, rfl, OS.nil⟩
        ·
          rw [if_neg (of_decide_eq_false hc1657)] at hm
          refine c_skip ?_
          refine x_then_normal ?_
          refine c_region ?_
          refine t_st rfl (st_move rfl) ?_
          refine t_st rfl (st_move rfl) ?_
          refine t_do rfl (u_bslice (el := 3) [(0, .int .i64 (x1567))] [.int .i64 (x1567)] rfl (fun _ => by kernel_rfl)) ?_
          rintro _ _ ⟨g1659, rfl, rfl⟩
          obtain ⟨_, h1660, hm⟩ := bindS hm
          have h1660 := room_some h1660
          refine t_do rfl (u_appOS (r := (RT.int .i64)) (l := l1381) [_, _, _] R [[.int .i64 (x1567)]] [x1567] rfl (by decide) sl45 inf3 rfl rfl rfl rfl (h1380.le hle1566) rfl (fun w ho => Rd.own (i := 0) ho rfl) ⟨rfl, trivial⟩ h1660) ?_
          rintro _ _ ⟨hs1661, rfl, h1662⟩
          obtain ⟨A1663, c1664, rfl, _⟩ := h1662.form
          refine t_st rfl (st_assign rfl) ?_
          refine t_nil ?_
          refine x_block_normal ?_
          refine x_then_normal ?_
          refine c_region ?_
          refine t_st rfl (st_add rfl rfl (by omega)) ?_
          refine t_st rfl (st_move rfl) ?_
          refine t_nil ?_
          refine x_pullb 2 rfl ?_
          refine x_pullb 2 rfl ?_
          exact x_againM (l1381 ++ [x1567]) (Option.some.inj hm).symm (e' := [(0, .slice A1 (l4).length c2), (1, .slice A5 (l8).length c6), (4, .slice A11 (l14).length c12), (7, .pointer (some ⟨g844, 0, none⟩)), (8, .pointer (some ⟨g845, 0, none⟩)), (12, .slice A1663 (l1381 ++ [x1567]).length c1664), (18, .int .i64 ((l14.length : Int) + 1)), (19, .int .i64 ((k1382 : Int) + 1))]) (hp' := (g844, Cl 47 [.int .i64 (s9.Home), .int .i64 (s9.Km)]) :: (g845, Cl 40 [.int .i64 (s10.Place), .int .i64 (s10.Long), .int .i64 (s10.Limit)]) :: (hs1661 ++ R)) ⟨rfl, rfl, rfl, rfl, rfl, rfl, rfl, rfl, trivial⟩ (.cons_cons _ (.cons_cons _ (.cons _ (sub_app hs1661 (.refl _))))) ⟨A1663, c1664, hs1661, rfl, rfl, ((hle1375.trans hle1566)), h1662⟩
  ·
    rintro l1381 b1374 _ _ ⟨A1378, c1379, hs1377, rfl, rfl, hle1375, h1380⟩ hq1665
    rw [hq1665] at hk1385
    have hm := elimL hk1385
    refine c_seq ?_
    refine c_region ?_
    refine t_st rfl (st_lss_f rfl rfl (by omega)) ?_
    refine t_nil ?_
    refine x_then_normal ?_
    refine c_seq ?_
    refine c_cond_f rfl ?_
    refine c_exit ?_
    refine x_then_exit ?_
    refine x_then_exit ?_
    refine x_block_out ?_
    refine x_then_normal ?_
    refine c_seq ?_
    refine c_region ?_
    refine t_st rfl (st_assign rfl) ?_
    refine t_st rfl (st_assign rfl) ?_
    refine t_nil ?_
    refine x_then_normal ?_
    refine c_ret ?_
    obtain ⟨rfl, rfl⟩ := some2 hm
    exact retM (rs := [.tmp 10, .tmp 11]) [.slice none 0 0, .bool (false)] hle1375 (by decide) rfl ⟨rfl, ⟨rfl, trivial⟩⟩ rfl (hp' := ([] ++ R)) (.cons _ (.cons _ (sub_skip hs1377 (.refl _)))) ⟨none, 0, [], rfl, rfl, OS.nil⟩

set_option maxRecDepth 20000 in
theorem cSlicesCompare (b : Base) (R : Hp) (l4 : (List Int)) (l8 : (List Int)) (A1 : Option Addr) (c2 : Nat) (A5 : Option Addr) (c6 : Nat) (h3 : FZ (RT.int .i64) b.w A1 c2 l4) (h7 : FZ (RT.int .i64) b.w A5 c6 l8) (x69 : Int) (hm : mSlicesCompare l4 l8 = some x69) :
    CallsG Try.prog 86 [.slice A1 (l4).length c2, .slice A5 (l8).length c6] b (R) (fun v b' hp' => .int .i64 (x69) = v ∧ R = hp') := by
  refine fn_enterG 36 Try.func86 rfl Try.ntmps86 rfl ?_
  unfold mSlicesCompare at hm
  refine c_seq ?_
  refine c_region ?_
  refine t_st rfl (st_assign rfl) ?_
  refine t_nil ?_
  refine x_then_normal ?_
  refine c_seq ?_
  refine c_seq ?_
  refine c_region ?_
  refine t_st rfl (st_move rfl) ?_
  refine t_st rfl (st_len rfl sl45) ?_
  refine t_st rfl (st_move rfl) ?_
  refine t_nil ?_
  refine x_then_normal ?_
  refine c_block ?_
  have hb71 := (FZ.bd h3)
  obtain ⟨t99, hl100, hk101⟩ := bindS hm
  refine c_forM (fun k98 => fun _ => fun b96 e' hp' => [(0, .slice A1 (l4).length c2), (1, .slice A5 (l8).length c6), (9, .slice A1 (l4).length c2), (10, .int .i64 ((l4.length : Int))), (11, .int .i64 ((k98 : Int)))] = e' ∧ R = hp' ∧ b.Le b96) hl100 (e' := [(0, .slice A1 (l4).length c2), (1, .slice A5 (l8).length c6), (9, .slice A1 (l4).length c2), (10, .int .i64 ((l4.length : Int))), (11, .int .i64 0)]) (hp' := R) ⟨rfl, rfl, rfl, rfl, rfl, trivial⟩ (.refl _) ⟨rfl, rfl, (Base.Le.refl _)⟩ ?_ ?_
  ·
    rintro k98 _ b96 _ _ oL70 hknL70 ⟨rfl, rfl, hle97⟩ hstepL70 houtL70
    unfold mSlicesCompare_L70 at hstepL70
    have hm := hstepL70
    refine c_seq ?_
    refine c_region ?_
    refine t_st rfl (st_lss_t rfl rfl (by omega)) ?_
    refine t_nil ?_
    refine x_then_normal ?_
    refine c_seq ?_
    refine c_cond_t rfl ?_
    refine c_skip ?_
    refine x_then_normal ?_
    refine c_seq ?_
    refine c_block ?_
    refine c_seq ?_
    refine c_region ?_
    refine t_st rfl (st_move rfl) ?_
    obtain ⟨x102, h103, hm⟩ := bindS hm
    obtain ⟨j104, hj105, hx106⟩ := idx_some h103
    obtain ⟨cs107, hr108, hcs109, hA110, hlt111⟩ := FZ.get (sz := 1) rfl (by decide) (h3.le hle97) hx106
    obtain rfl := hr108
    refine t_st rfl (st_index_old j104 rfl rfl hj105 hlt111 hA110 sl45) ?_
    refine t_st rfl (st_load_old rfl one3 (hcs109 0 _ rfl)) ?_
    refine t_st rfl (st_assign rfl) ?_
    refine t_st rfl (st_assign rfl) ?_
    refine t_nil ?_
    refine x_then_normal ?_
    refine c_seq ?_
    refine c_seq ?_
    refine c_region ?_
    refine t_st rfl (st_move rfl) ?_
    refine t_st rfl (st_move rfl) ?_
    refine t_st rfl (st_len rfl sl45) ?_
    refine t_st rfl (st_geq rfl rfl) ?_
    refine t_nil ?_
    refine x_then_normal ?_
    refine c_cond _ rfl (fun hc112 => ?_) (fun hc112 => ?_)
    ·
      rw [if_pos (of_decide_eq_true hc112)] at hm
      refine c_seq ?_
      refine c_region ?_
      refine t_st rfl (st_assign rfl) ?_
      refine t_nil ?_
      refine x_then_normal ?_
      refine c_ret ?_
      refine x_then_ret ?_
      refine x_block_ret ?_
      refine x_then_ret ?_
      refine x_then_ret ?_
      refine x_block_ret ?_
      refine x_then_ret ?_
      have hq113 := houtL70 _ (Option.some.inj hm).symm
      rw [hq113] at hk101
      have hm := elimR hk101
      obtain rfl := some1 hm
      exact retM (rs := [.tmp 4]) [.int .i64 (1)] hle97 (by decide) rfl ⟨rfl, trivial⟩ rfl (hp' := R) (.refl _) ⟨rfl, rfl⟩
    ·
      rw [if_neg (of_decide_eq_false hc112)] at hm
      refine c_skip ?_
      refine x_then_normal ?_
      refine c_seq ?_
      refine c_region ?_
      refine t_st rfl (st_move rfl) ?_
      refine t_st rfl (st_move rfl) ?_
      obtain ⟨x114, h115, hm⟩ := bindS hm
      obtain ⟨j116, hj117, hx118⟩ := idx_some h115
      obtain ⟨cs119, hr120, hcs121, hA122, hlt123⟩ := FZ.get (sz := 1) rfl (by decide) (h7.le hle97) hx118
      obtain rfl := hr120
      refine t_st rfl (st_index_old j116 rfl rfl hj117 hlt123 hA122 sl45) ?_
      refine t_st rfl (st_load_old rfl one3 (hcs121 0 _ rfl)) ?_
      refine t_st rfl (st_assign rfl) ?_
      refine t_nil ?_
      refine x_then_normal ?_
      refine c_seq ?_
      refine c_region ?_
      refine t_st rfl (st_move rfl) ?_
      refine t_st rfl (st_move rfl) ?_
      obtain ⟨x124, hcl125, hm⟩ := bindS hm
      refine t_do rfl (u_callW0 _ call81 rfl (fun w ho => cCmpCompare _ [] x102 x114 x124 hcl125) (fun _ _ _ h => h.2.symm)) ?_
      rintro _ _ ⟨⟨_, rfl, _⟩, rfl⟩
      refine t_st rfl (st_assign rfl) ?_
      refine t_nil ?_
      refine x_then_normal ?_
      refine c_seq ?_
      refine c_region ?_
      refine t_st rfl (st_move rfl) ?_
      refine t_st rfl (st_neq rfl rfl) ?_
      refine t_nil ?_
      refine x_then_normal ?_
      refine c_cond _ rfl (fun hc126 => ?_) (fun hc126 => ?_)
      ·
        rw [if_pos (of_decide_eq_true hc126)] at hm
        refine c_seq ?_
        refine c_region ?_
        refine t_st rfl (st_move rfl) ?_
        refine t_st rfl (st_assign rfl) ?_
        refine t_nil ?_
        refine x_then_normal ?_
        refine c_ret ?_
        refine x_block_ret ?_
        refine x_then_ret ?_
        refine x_then_ret ?_
        refine x_block_ret ?_
        refine x_then_ret ?_
        have hq127 := houtL70 _ (Option.some.inj hm).symm
        rw [hq127] at hk101
        have hm := elimR hk101
        obtain rfl := some1 hm
        exact retM (rs := [.tmp 4]) [.int .i64 (x124)] hle97 (by decide) rfl ⟨rfl, trivial⟩ rfl (hp' := R) (.refl _) ⟨rfl, rfl⟩
      ·
        rw [if_neg (of_decide_eq_false hc126)] at hm
        refine c_skip ?_
        refine x_block_normal ?_
        refine x_then_normal ?_
        refine c_region ?_
        refine t_st rfl (st_add rfl rfl (by omega)) ?_
        refine t_st rfl (st_move rfl) ?_
        refine t_nil ?_
        exact x_againM () (Option.some.inj hm).symm (e' := [(0, .slice A1 (l4).length c2), (1, .slice A5 (l8).length c6), (9, .slice A1 (l4).length c2), (10, .int .i64 ((l4.length : Int))), (11, .int .i64 ((k98 : Int) + 1))]) (hp' := R) ⟨rfl, rfl, rfl, rfl, rfl, trivial⟩ (.refl _) ⟨rfl, rfl, (hle97)⟩
  ·
    rintro _ b96 _ _ ⟨rfl, rfl, hle97⟩ hq128
    rw [hq128] at hk101
    have hm := elimL hk101
    refine c_seq ?_
    refine c_region ?_
    refine t_st rfl (st_lss_f rfl rfl (by omega)) ?_
    refine t_nil ?_
    refine x_then_normal ?_
    refine c_seq ?_
    refine c_cond_f rfl ?_
    refine c_exit ?_
    refine x_then_exit ?_
    refine x_then_exit ?_
    refine x_block_out ?_
    refine x_then_normal ?_
    refine c_seq ?_
    refine c_seq ?_
    refine c_region ?_
    refine t_st rfl (st_move rfl) ?_
    refine t_st rfl (st_len rfl sl45) ?_
    refine t_st rfl (st_move rfl) ?_
    refine t_st rfl (st_len rfl sl45) ?_
    refine t_st rfl (st_lss rfl rfl) ?_
    refine t_nil ?_
    refine x_then_normal ?_
    refine c_cond _ rfl (fun hc129 => ?_) (fun hc129 => ?_)
    ·
      rw [if_pos (of_decide_eq_true hc129)] at hm
      refine c_seq ?_
      refine c_region ?_
      refine t_st rfl (st_assign rfl) ?_
      refine t_nil ?_
      refine x_then_normal ?_
      refine c_ret ?_
      refine x_then_ret ?_
      obtain rfl := some1 hm
      exact retM (rs := [.tmp 4]) [.int .i64 ((-1))] hle97 (by decide) rfl ⟨rfl, trivial⟩ rfl (hp' := R) (.refl _) ⟨rfl, rfl⟩
    ·
      rw [if_neg (of_decide_eq_false hc129)] at hm
      refine c_skip ?_
      refine x_then_normal ?_
      refine c_seq ?_
      refine c_region ?_
      refine t_st rfl (st_assign rfl) ?_
      refine t_nil ?_
      refine x_then_normal ?_
      refine c_ret ?_
      obtain rfl := some1 hm
      exact retM (rs := [.tmp 4]) [.int .i64 (0)] hle97 (by decide) rfl ⟨rfl, trivial⟩ rfl (hp' := R) (.refl _) ⟨rfl, rfl⟩

set_option maxRecDepth 20000 in
theorem cFishref2Positions (b : Base) (R : Hp) (l4 : (List FleetTask)) (l8 : (List Int)) (s9 : FleetSet) (s10 : FleetShop) (A1 : Option Addr) (c2 : Nat) (A5 : Option Addr) (c6 : Nat) (h3 : FZ rFleetTask b.w A1 c2 l4) (h7 : FZ (RT.int .i64) b.w A5 c6 l8) (x787 : Bool) (l788 : (List Int)) (hm : mFishref2Positions l4 l8 s9 s10 = some (x787, l788)) :
    CallsG Try.prog 50 [.slice A1 (l4).length c2, .slice A5 (l8).length c6, .agg #[.int .i64 (s9.Home), .int .i64 (s9.Km)], .agg #[.int .i64 (s10.Place), .int .i64 (s10.Long), .int .i64 (s10.Limit)]] b (R) (fun v b' hp' => ∃ (A784 : Option Addr), ∃ (c785 : Nat), ∃ (hs783 : Hp), .tuple #[.slice A784 (l788).length c785, .bool (x787)] = v ∧ (hs783 ++ R) = hp' ∧ OS 3 (OT.fr (RT.int .i64)) b'.w (.slice A784 l788.length c785) l788 hs783) := by
  refine fn_enterG 103 Try.func50 rfl Try.ntmps50 rfl ?_
  unfold mFishref2Positions at hm
  refine c_seq ?_
  refine c_region ?_
  refine t_do rfl (u_box _ rfl rfl) ?_
  rintro _ _ ⟨g789, rfl, rfl⟩
  refine t_do rfl (u_box _ rfl rfl) ?_
  rintro _ _ ⟨g790, rfl, rfl⟩
  refine t_st rfl (st_assign rfl) ?_
  refine t_st rfl (st_assign rfl) ?_
  refine t_nil ?_
  refine x_then_normal ?_
  refine c_seq ?_
  refine c_region ?_
  refine t_st rfl (st_assign rfl) ?_
  refine t_nil ?_
  refine x_then_normal ?_
  refine c_seq ?_
  refine c_seq ?_
  refine c_region ?_
  refine t_st rfl (st_move rfl) ?_
  refine t_st rfl (st_len rfl sl45) ?_
  obtain ⟨_, h791, hm⟩ := bindS hm
  have h791 := (chk_some h791).2
  refine t_st rfl (st_add rfl rfl h791) ?_
  refine t_st rfl (st_move rfl) ?_
  refine t_nil ?_
  refine x_then_normal ?_
  refine c_block ?_
  obtain ⟨_, h793, hm⟩ := bindS hm
  have h793 := (chk_some h793).2
  refine c_pullb 1 rfl ?_
  obtain ⟨l826, hl828, hk829⟩ := bindS hm
  refine c_forS (fun k827 => fun l826 => fun b819 e' hp' => ∃ (A823 : Option Addr), ∃ (c824 : Nat), ∃ (hs822 : Hp), [(0, .slice A1 (l4).length c2), (1, .slice A5 (l8).length c6), (6, .pointer (some ⟨g789, 0, none⟩)), (7, .pointer (some ⟨g790, 0, none⟩)), (10, .slice A823 (l826).length c824), (21, .int .i64 ((l8.length : Int) + 1)), (22, .int .i64 ((k827 : Int)))] = e' ∧ (g789, Cl 47 [.int .i64 (s9.Home), .int .i64 (s9.Km)]) :: (g790, Cl 40 [.int .i64 (s10.Place), .int .i64 (s10.Long), .int .i64 (s10.Limit)]) :: (hs822 ++ R) = hp' ∧ b.Le b819 ∧ OS 3 (OT.fr (RT.int .i64)) b819.w (.slice A823 l826.length c824) l826 hs822) hl828 (e' := [(0, .slice A1 (l4).length c2), (1, .slice A5 (l8).length c6), (6, .pointer (some ⟨g789, 0, none⟩)), (7, .pointer (some ⟨g790, 0, none⟩)), (10, .slice none 0 0), (21, .int .i64 ((l8.length : Int) + 1)), (22, .int .i64 0)]) (hp' := (g789, Cl 47 [.int .i64 (s9.Home), .int .i64 (s9.Km)]) :: (g790, Cl 40 [.int .i64 (s10.Place), .int .i64 (s10.Long), .int .i64 (s10.Limit)]) :: ([] ++ R)) ⟨rfl, rfl, rfl, rfl, rfl, rfl, rfl, trivial⟩ (.cons_cons _ (.cons_cons _ (.refl _))) ⟨none, 0, [], rfl, rfl, (Base.Le.refl _), OS.nil⟩ ?_ ?_
  ·
    rintro k827 l826 b819 _ _ oL792 hknL792 ⟨A823, c824, hs822, rfl, rfl, hle820, h825⟩ hstepL792
    unfold mFishref2Positions_L792 at hstepL792
    have hm := hstepL792
    refine c_seq ?_
    refine c_region ?_
    refine t_st rfl (st_lss_t rfl rfl (by omega)) ?_
    refine t_nil ?_
    refine x_then_normal ?_
    refine c_seq ?_
    refine c_cond_t rfl ?_
    refine c_skip ?_
    refine x_then_normal ?_
    refine c_seq ?_
    refine c_block ?_
    refine c_seq ?_
    refine c_region ?_
    refine t_st rfl (st_move rfl) ?_
    refine t_st rfl (st_assign rfl) ?_
    refine t_nil ?_
    refine x_then_normal ?_
    refine c_seq ?_
    refine c_region ?_
    refine t_st rfl (st_move rfl) ?_
    refine t_st rfl (st_move rfl) ?_
    refine t_st rfl (st_loadD (vs := [_, _]) 0 2 rfl agg47 rfl rfl rfl) ?_
    refine t_st rfl (st_loadD (vs := [_, _, _]) 1 3 rfl agg40 rfl rfl rfl) ?_
    refine t_st rfl (st_move rfl) ?_
    obtain ⟨x830, hcl831, hm⟩ := bindS hm
    refine t_do rfl (u_callW0 _ call83 rfl (fun w ho => cFishref2CanInspect _ [] l4 l8 s9 s10 (k827 : Int) A1 c2 A5 c6 ((h3.le hle820).old ho) ((h7.le hle820).old ho) x830 hcl831) (fun _ _ _ h => h.2.symm)) ?_
    rintro _ _ ⟨⟨_, rfl, _⟩, rfl⟩
    refine t_nil ?_
    refine x_then_normal ?_
    refine c_cond _ rfl (fun hc832 => ?_) (fun hc832 => ?_)
    ·
      rw [if_pos hc832] at hm
      refine c_region ?_
      refine t_st rfl (st_move rfl) ?_
      refine t_st rfl (st_move rfl) ?_
      refine t_do rfl (u_bslice (el := 3) [(0, .int .i64 ((k827 : Int)))] [.int .i64 ((k827 : Int))] rfl (fun _ => by kernel_rfl)) ?_
      rintro _ _ ⟨g833, rfl, rfl⟩
      obtain ⟨_, h834, hm⟩ := bindS hm
      have h834 := room_some h834
      refine t_do rfl (u_appOS (r := (RT.int .i64)) (l := l826) [_, _, _] R [[.int .i64 ((k827 : Int))]] [(k827 : Int)] rfl (by decide) sl45 inf3 rfl rfl rfl rfl h825 rfl (fun w ho => Rd.own (i := 0) ho rfl) ⟨rfl, trivial⟩ h834) ?_
      rintro _ _ ⟨hs835, rfl, h836⟩
      obtain ⟨A837, c838, rfl, _⟩ := h836.form
      refine t_st rfl (st_assign rfl) ?_
      refine t_nil ?_
      refine x_block_normal ?_
      refine x_then_normal ?_
      refine c_region ?_
      refine t_st rfl (st_add rfl rfl (by omega)) ?_
      refine t_st rfl (st_move rfl) ?_
      refine t_nil ?_
      refine x_pullb 2 rfl ?_
      refine x_pullb 2 rfl ?_
      obtain rfl := some1 hm
      exact x_againS (e' := [(0, .slice A1 (l4).length c2), (1, .slice A5 (l8).length c6), (6, .pointer (some ⟨g789, 0, none⟩)), (7, .pointer (some ⟨g790, 0, none⟩)), (10, .slice A837 (l826 ++ [(k827 : Int)]).length c838), (21, .int .i64 ((l8.length : Int) + 1)), (22, .int .i64 ((k827 : Int) + 1))]) (hp' := (g789, Cl 47 [.int .i64 (s9.Home), .int .i64 (s9.Km)]) :: (g790, Cl 40 [.int .i64 (s10.Place), .int .i64 (s10.Long), .int .i64 (s10.Limit)]) :: (hs835 ++ R)) ⟨rfl, rfl, rfl, rfl, rfl, rfl, rfl, trivial⟩ (.cons_cons _ (.cons_cons _ (.cons _ (sub_app hs835 (.refl _))))) ⟨A837, c838, hs835, rfl, rfl, (hle820), h836⟩
    ·
      rw [if_neg (fun hh => Bool.noConfusion (hh.symm.trans hc832))] at hm
      refine c_skip ?_
      refine x_block_normal ?_
      refine x_then_normal ?_
      refine c_region ?_
      refine t_st rfl (st_add rfl rfl (by omega)) ?_
      refine t_st rfl (st_move rfl) ?_
      refine t_nil ?_
      refine x_pullb 1 rfl ?_
      refine x_pullb 1 rfl ?_
      obtain rfl := some1 hm
      exact x_againS (e' := [(0, .slice A1 (l4).length c2), (1, .slice A5 (l8).length c6), (6, .pointer (some ⟨g789, 0, none⟩)), (7, .pointer (some ⟨g790, 0, none⟩)), (10, .slice A823 (l826).length c824), (21, .int .i64 ((l8.length : Int) + 1)), (22, .int .i64 ((k827 : Int) + 1))]) (hp' := (g789, Cl 47 [.int .i64 (s9.Home), .int .i64 (s9.Km)]) :: (g790, Cl 40 [.int .i64 (s10.Place), .int .i64 (s10.Long), .int .i64 (s10.Limit)]) :: (hs822 ++ R)) ⟨rfl, rfl, rfl, rfl, rfl, rfl, rfl, trivial⟩ (.cons_cons _ (.cons_cons _ (sub_app hs822 (.refl _)))) ⟨A823, c824, hs822, rfl, rfl, (hle820), h825⟩
  ·
    rintro b819 _ _ ⟨A823, c824, hs822, rfl, rfl, hle820, h825⟩
    have hm := hk829
    refine c_seq ?_
    refine c_region ?_
    refine t_st rfl (st_lss_f rfl rfl (by omega)) ?_
    refine t_nil ?_
    refine x_then_normal ?_
    refine c_seq ?_
    refine c_cond_f rfl ?_
    refine c_exit ?_
    refine x_then_exit ?_
    refine x_then_exit ?_
    refine x_block_out ?_
    refine x_then_normal ?_
    refine c_seq ?_
    refine c_seq ?_
    refine c_region ?_
    refine t_st rfl (st_move rfl) ?_
    refine t_st rfl (st_len rfl sl45) ?_
    refine t_st rfl (st_gtr rfl rfl) ?_
    refine t_nil ?_
    refine x_then_normal ?_
    refine c_cond _ rfl (fun hc839 => ?_) (fun hc839 => ?_)
    ·
      rw [if_pos (of_decide_eq_true hc839)] at hm
      refine c_seq ?_
      refine c_region ?_
      refine t_st rfl (st_move rfl) ?_
      refine t_st rfl (st_move rfl) ?_
      refine t_st rfl (st_loadD (vs := [_, _]) 0 2 rfl agg47 rfl rfl rfl) ?_
      refine t_st rfl (st_loadD (vs := [_, _, _]) 1 3 rfl agg40 rfl rfl rfl) ?_
      refine t_st rfl (st_move rfl) ?_
      obtain ⟨⟨x840, l841⟩, hcl842, hm⟩ := bindS hm
      have hm := (unc2E hm)
      refine t_do rfl (u_callWF [_, _] (hs822 ++ R) _ rfl call84 rfl (fun w ho => cFishref2Latest _ [] l4 l8 s9 s10 l826 A1 c2 A5 c6 A823 c824 ((h3.le hle820).old ho) ((h7.le hle820).old ho) (OS.now (o := (OT.fr (RT.int .i64))) (l := l826) (hs := hs822) h825 ho (.cons _ (.cons _ (List.sublist_append_left _ _)))) x840 l841 hcl842)) ?_
      rintro _ _ ⟨_, _, rfl, A843, c844, hs845, rfl, hq848, h846⟩
      obtain rfl := List.append_cancel_right hq848
      have h847 := flat_fz (w' := b819.w) (fun _ _ _ _ h => h) h846
      refine t_st rfl (st_extract rfl rfl) ?_
      refine t_st rfl (st_extract rfl rfl) ?_
      refine t_st rfl (st_assign rfl) ?_
      refine t_st rfl (st_assign rfl) ?_
      refine t_nil ?_
      refine x_then_normal ?_
      refine c_ret ?_
      refine x_then_ret ?_
      obtain ⟨rfl, rfl⟩ := some2 hm
      exact retM (rs := [.tmp 8, .tmp 9]) [.slice A843 (l841).length c844, .bool (x840)] hle820 (by decide) rfl ⟨rfl, ⟨rfl, trivial⟩⟩ rfl (hp' := (hs845 ++ R)) (.cons _ (.cons _ (sub_app hs845 (sub_skip hs822 (.refl _))))) ⟨A843, c844, hs845, rfl, rfl, h847⟩
    ·
      rw [if_neg (of_decide_eq_false hc839)] at hm
      refine c_skip ?_
      refine x_then_normal ?_
      refine c_seq ?_
      refine c_seq ?_
      refine c_region ?_
      refine t_st rfl (st_move rfl) ?_
      refine t_st rfl (st_len rfl sl45) ?_
      obtain ⟨_, h849, hm⟩ := bindS hm
      have h849 := (chk_some h849).2
      refine t_st rfl (st_add rfl rfl h849) ?_
      refine t_st rfl (st_move rfl) ?_
      refine t_nil ?_
      refine x_then_normal ?_
      refine c_block ?_
      obtain ⟨_, h851, hm⟩ := bindS hm
      have h851 := (chk_some h851).2
      refine c_pullb 1 rfl ?_
      refine c_pullb 1 rfl ?_
      obtain ⟨t1205, hl1206, hk1207⟩ := bindS hm
      refine c_forM (fun k1204 => fun _ => fun b1202 e' hp' => [(0, .slice A1 (l4).length c2), (1, .slice A5 (l8).length c6), (6, .pointer (some ⟨g789, 0, none⟩)), (7, .pointer (some ⟨g790, 0, none⟩)), (10, .slice A823 (l826).length c824), (49, .int .i64 ((l826.length : Int) + 1)), (50, .int .i64 ((k1204 : Int)))] = e' ∧ (g789, Cl 47 [.int .i64 (s9.Home), .int .i64 (s9.Km)]) :: (g790, Cl 40 [.int .i64 (s10.Place), .int .i64 (s10.Long), .int .i64 (s10.Limit)]) :: (hs822 ++ R) = hp' ∧ b819.Le b1202) hl1206 (e' := [(0, .slice A1 (l4).length c2), (1, .slice A5 (l8).length c6), (6, .pointer (some ⟨g789, 0, none⟩)), (7, .pointer (some ⟨g790, 0, none⟩)), (10, .slice A823 (l826).length c824), (49, .int .i64 ((l826.length : Int) + 1)), (50, .int .i64 0)]) (hp' := (g789, Cl 47 [.int .i64 (s9.Home), .int .i64 (s9.Km)]) :: (g790, Cl 40 [.int .i64 (s10.Place), .int .i64 (s10.Long), .int .i64 (s10.Limit)]) :: (hs822 ++ R)) ⟨rfl, rfl, rfl, rfl, rfl, rfl, rfl, trivial⟩ (.cons_cons _ (.cons_cons _ (sub_app hs822 (.refl _)))) ⟨rfl, rfl, (Base.Le.refl _)⟩ ?_ ?_
      ·
        rintro k1204 _ b1202 _ _ oL850 hknL850 ⟨rfl, rfl, hle1203⟩ hstepL850 houtL850
        unfold mFishref2Positions_L850 at hstepL850
        have hm := hstepL850
        refine c_seq ?_
        refine c_region ?_
        refine t_st rfl (st_lss_t rfl rfl (by omega)) ?_
        refine t_nil ?_
        refine x_then_normal ?_
        refine c_seq ?_
        refine c_cond_t rfl ?_
        refine c_skip ?_
        refine x_then_normal ?_
        refine c_seq ?_
        refine c_block ?_
        refine c_seq ?_
        refine c_region ?_
        refine t_st rfl (st_move rfl) ?_
        refine t_st rfl (st_assign rfl) ?_
        refine t_nil ?_
        refine x_then_normal ?_
        refine c_seq ?_
        refine c_region ?_
        refine t_st rfl (st_assign rfl) ?_
        refine t_nil ?_
        refine x_then_normal ?_
        refine c_seq ?_
        refine c_region ?_
        refine t_st rfl (st_assign rfl) ?_
        refine t_nil ?_
        refine x_then_normal ?_
        refine c_seq ?_
        refine c_seq ?_
        refine c_region ?_
        refine t_st rfl (st_move rfl) ?_
        refine t_st rfl (st_len rfl sl45) ?_
        obtain ⟨_, h1208, hm⟩ := bindS hm
        have h1208 := shN_some h1208
        refine t_st rfl (st_shl rfl rfl h1208) ?_
        refine t_st rfl (st_move rfl) ?_
        refine t_nil ?_
        refine x_then_normal ?_
        refine c_block ?_
        obtain ⟨_, h1210, hm⟩ := bindS hm
        have h1210 := (chk_some h1210).2
        refine c_pullb 1 rfl ?_
        refine c_pullb 1 rfl ?_
        obtain ⟨⟨x1441, l1442⟩, hl1444, hk1445⟩ := bindS hm
        refine c_forS (fun k1443 => unc2 fun x1441 l1442 => fun b1434 e' hp' => ∃ (A1438 : Option Addr), ∃ (c1439 : Nat), ∃ (hs1437 : Hp), [(0, .slice A1 (l4).length c2), (1, .slice A5 (l8).length c6), (6, .pointer (some ⟨g789, 0, none⟩)), (7, .pointer (some ⟨g790, 0, none⟩)), (10, .slice A823 (l826).length c824), (12, .int .i64 ((k1204 : Int))), (13, .slice A1438 (l1442).length c1439), (14, .bool (x1441)), (49, .int .i64 ((l826.length : Int) + 1)), (50, .int .i64 ((k1204 : Int))), (55, .int .i64 (shlI .i64 1 (l826.length : Int))), (56, .int .i64 ((k1443 : Int)))] = e' ∧ (g789, Cl 47 [.int .i64 (s9.Home), .int .i64 (s9.Km)]) :: (g790, Cl 40 [.int .i64 (s10.Place), .int .i64 (s10.Long), .int .i64 (s10.Limit)]) :: (hs822 ++ (hs1437 ++ R)) = hp' ∧ b1202.Le b1434 ∧ OS 3 (OT.fr (RT.int .i64)) b1434.w (.slice A1438 l1442.length c1439) l1442 hs1437) hl1444 (e' := [(0, .slice A1 (l4).length c2), (1, .slice A5 (l8).length c6), (6, .pointer (some ⟨g789, 0, none⟩)), (7, .pointer (some ⟨g790, 0, none⟩)), (10, .slice A823 (l826).length c824), (12, .int .i64 ((k1204 : Int))), (13, .slice none 0 0), (14, .bool (false)), (49, .int .i64 ((l826.length : Int) + 1)), (50, .int .i64 ((k1204 : Int))), (55, .int .i64 (shlI .i64 1 (l826.length : Int))), (56, .int .i64 0)]) (hp' := (g789, Cl 47 [.int .i64 (s9.Home), .int .i64 (s9.Km)]) :: (g790, Cl 40 [.int .i64 (s10.Place), .int .i64 (s10.Long), .int .i64 (s10.Limit)]) :: (hs822 ++ ([] ++ R))) ⟨rfl, rfl, rfl, rfl, rfl, rfl, rfl, rfl, rfl, rfl, rfl, rfl, trivial⟩ (.cons_cons _ (.cons_cons _ (sub_app hs822 (.refl _)))) ⟨none, 0, [], rfl, rfl, (Base.Le.refl _), OS.nil⟩ ?_ ?_
        ·
          rintro k1443 ⟨x1441, l1442⟩ b1434 _ _ oL1209 hknL1209 ⟨A1438, c1439, hs1437, rfl, rfl, hle1435, h1440⟩ hstepL1209
          unfold mFishref2Positions_L1209 at hstepL1209
          have hm := (unc2E hstepL1209)
          refine c_seq ?_
          refine c_region ?_
          refine t_st rfl (st_lss_t rfl rfl (by omega)) ?_
          refine t_nil ?_
          refine x_then_normal ?_
          refine c_seq ?_
          refine c_cond_t rfl ?_
          refine c_skip ?_
          refine x_then_normal ?_
          refine c_seq ?_
          refine c_block ?_
          refine c_seq ?_
          refine c_region ?_
          refine t_st rfl (st_move rfl) ?_
          refine t_st rfl (st_assign rfl) ?_
          refine t_nil ?_
          refine x_then_normal ?_
          refine c_seq ?_
          refine c_region ?_
          refine t_st rfl (st_assign rfl) ?_
          refine t_nil ?_
          refine x_then_normal ?_
          refine c_seq ?_
          refine c_seq ?_
          refine c_region ?_
          refine t_st rfl (st_move rfl) ?_
          refine t_st rfl (st_len rfl sl45) ?_
          refine t_st rfl (st_move rfl) ?_
          refine t_nil ?_
          refine x_then_normal ?_
          refine c_block ?_
          have hb1447 := (OS.len h825)
          refine c_pullb 1 rfl ?_
          refine c_pullb 1 rfl ?_
          refine c_front2 [_, _] hs822 hs1437 R rfl ?_
          refine c_front2 [_, _] hs1437 hs822 R rfl ?_
          obtain ⟨l1510, hl1512, hk1513⟩ := bindS hm
          refine c_forS (fun k1511 => fun l1510 => fun b1503 e' hp' => ∃ (A1507 : Option Addr), ∃ (c1508 : Nat), ∃ (hs1506 : Hp), [(0, .slice A1 (l4).length c2), (1, .slice A5 (l8).length c6), (6, .pointer (some ⟨g789, 0, none⟩)), (7, .pointer (some ⟨g790, 0, none⟩)), (10, .slice A823 (l826).length c824), (12, .int .i64 ((k1204 : Int))), (13, .slice A1438 (l1442).length c1439), (14, .bool (x1441)), (15, .int .i64 ((k1443 : Int))), (16, .slice A1507 (l1510).length c1508), (49, .int .i64 ((l826.length : Int) + 1)), (50, .int .i64 ((k1204 : Int))), (55, .int .i64 (shlI .i64 1 (l826.length : Int))), (56, .int .i64 ((k1443 : Int))), (59, .slice A823 (l826).length c824), (60, .int .i64 ((l826.length : Int))), (61, .int .i64 ((k1511 : Int)))] = e' ∧ (g789, Cl 47 [.int .i64 (s9.Home), .int .i64 (s9.Km)]) :: (g790, Cl 40 [.int .i64 (s10.Place), .int .i64 (s10.Long), .int .i64 (s10.Limit)]) :: (hs822 ++ (hs1437 ++ (hs1506 ++ R))) = hp' ∧ b1434.Le b1503 ∧ OS 3 (OT.fr (RT.int .i64)) b1503.w (.slice A1507 l1510.length c1508) l1510 hs1506) hl1512 (e' := [(0, .slice A1 (l4).length c2), (1, .slice A5 (l8).length c6), (6, .pointer (some ⟨g789, 0, none⟩)), (7, .pointer (some ⟨g790, 0, none⟩)), (10, .slice A823 (l826).length c824), (12, .int .i64 ((k1204 : Int))), (13, .slice A1438 (l1442).length c1439), (14, .bool (x1441)), (15, .int .i64 ((k1443 : Int))), (16, .slice none 0 0), (49, .int .i64 ((l826.length : Int) + 1)), (50, .int .i64 ((k1204 : Int))), (55, .int .i64 (shlI .i64 1 (l826.length : Int))), (56, .int .i64 ((k1443 : Int))), (59, .slice A823 (l826).length c824), (60, .int .i64 ((l826.length : Int))), (61, .int .i64 0)]) (hp' := (g789, Cl 47 [.int .i64 (s9.Home), .int .i64 (s9.Km)]) :: (g790, Cl 40 [.int .i64 (s10.Place), .int .i64 (s10.Long), .int .i64 (s10.Limit)]) :: (hs822 ++ (hs1437 ++ ([] ++ R)))) ⟨rfl, rfl, rfl, rfl, rfl, rfl, rfl, rfl, rfl, rfl, rfl, rfl, rfl, rfl, rfl, rfl, rfl, trivial⟩ (.cons_cons _ (.cons_cons _ (sub_app hs822 (sub_app hs1437 (.refl _))))) ⟨none, 0, [], rfl, rfl, (Base.Le.refl _), OS.nil⟩ ?_ ?_
          ·
            rintro k1511 l1510 b1503 _ _ oL1446 hknL1446 ⟨A1507, c1508, hs1506, rfl, rfl, hle1504, h1509⟩ hstepL1446
            unfold mFishref2Positions_L1446 at hstepL1446
            have hm := hstepL1446
            refine c_seq ?_
            refine c_region ?_
            refine t_st rfl (st_lss_t rfl rfl (by omega)) ?_
            refine t_nil ?_
            refine x_then_normal ?_
            refine c_seq ?_
            refine c_cond_t rfl ?_
            refine c_skip ?_
            refine x_then_normal ?_
            refine c_seq ?_
            refine c_block ?_
            refine c_seq ?_
            refine c_region ?_
            refine t_st rfl (st_move rfl) ?_
            obtain ⟨x1514, h1515, hm⟩ := bindS hm
            obtain ⟨j1516, hj1517, hx1518⟩ := idx_some h1515
            obtain ⟨cs1519, hs1524, P1525, P1526, hq1527, hr1520, hcs1521, hA1522, hlt1523, hb1528, hho1529⟩ := OS.get (sz := 1) rfl (by decide) (h825.le (hle1203.trans (hle1435.trans hle1504))) hx1518
            obtain ⟨rfl, rfl⟩ := hr1520
            refine t_st rfl (st_index_old j1516 rfl rfl hj1517 hlt1523 hA1522 sl45) ?_
            refine t_st rfl (st_load_rd rfl one3 (fun w ho => hcs1521 w _ ho (.cons _ (.cons _ (List.sublist_append_left _ _))) 0 _ rfl)) ?_
            refine t_st rfl (st_assign rfl) ?_
            refine t_st rfl (st_assign rfl) ?_
            refine t_nil ?_
            refine x_then_normal ?_
            refine c_seq ?_
            refine c_region ?_
            refine t_st rfl (st_move rfl) ?_
            refine t_st rfl (st_move rfl) ?_
            obtain ⟨_, h1530, hm⟩ := bindS hm
            have h1530 := shN_some h1530
            refine t_st rfl (st_shr rfl rfl h1530) ?_
            refine t_st rfl (st_and rfl rfl) ?_
            refine t_st rfl (st_eql rfl rfl) ?_
            refine t_nil ?_
            refine x_then_normal ?_
            refine c_cond _ rfl (fun hc1531 => ?_) (fun hc1531 => ?_)
            ·
              rw [if_pos (of_decide_eq_true hc1531)] at hm
              refine c_region ?_
              refine t_st rfl (st_move rfl) ?_
              refine t_st rfl (st_move rfl) ?_
              refine t_do rfl (u_bslice (el := 3) [(0, .int .i64 (x1514))] [.int .i64 (x1514)] rfl (fun _ => by kernel_rfl)) ?_
              rintro _ _ ⟨g1532, rfl, rfl⟩
              obtain ⟨_, h1533, hm⟩ := bindS hm
              have h1533 := room_some h1533
              refine t_front3 [_, _, _] hs822 hs1437 hs1506 R rfl ?_
              refine t_do rfl (u_appOS (r := (RT.int .i64)) (l := l1510) [_, _, _] (hs822 ++ (hs1437 ++ R)) [[.int .i64 (x1514)]] [x1514] rfl (by decide) sl45 inf3 rfl rfl rfl rfl h1509 rfl (fun w ho => Rd.own (i := 0) ho rfl) ⟨rfl, trivial⟩ h1533) ?_
              rintro _ _ ⟨hs1534, rfl, h1535⟩
              obtain ⟨A1536, c1537, rfl, _⟩ := h1535.form
              refine t_st rfl (st_assign rfl) ?_
              refine t_nil ?_
              refine x_block_normal ?_
              refine x_then_normal ?_
              refine c_region ?_
              refine t_st rfl (st_add rfl rfl (by omega)) ?_
              refine t_st rfl (st_move rfl) ?_
              refine t_nil ?_
              refine x_pullb 2 rfl ?_
              refine x_pullb 2 rfl ?_
              refine x_front3 [_, _, _] hs1534 hs822 hs1437 R rfl ?_
              refine x_front3 [_, _, _] hs1437 hs1534 hs822 R rfl ?_
              obtain rfl := some1 hm
              exact x_againS (e' := [(0, .slice A1 (l4).length c2), (1, .slice A5 (l8).length c6), (6, .pointer (some ⟨g789, 0, none⟩)), (7, .pointer (some ⟨g790, 0, none⟩)), (10, .slice A823 (l826).length c824), (12, .int .i64 ((k1204 : Int))), (13, .slice A1438 (l1442).length c1439), (14, .bool (x1441)), (15, .int .i64 ((k1443 : Int))), (16, .slice A1536 (l1510 ++ [x1514]).length c1537), (49, .int .i64 ((l826.length : Int) + 1)), (50, .int .i64 ((k1204 : Int))), (55, .int .i64 (shlI .i64 1 (l826.length : Int))), (56, .int .i64 ((k1443 : Int))), (59, .slice A823 (l826).length c824), (60, .int .i64 ((l826.length : Int))), (61, .int .i64 ((k1511 : Int) + 1))]) (hp' := (g789, Cl 47 [.int .i64 (s9.Home), .int .i64 (s9.Km)]) :: (g790, Cl 40 [.int .i64 (s10.Place), .int .i64 (s10.Long), .int .i64 (s10.Limit)]) :: (hs822 ++ (hs1437 ++ (hs1534 ++ R)))) ⟨rfl, rfl, rfl, rfl, rfl, rfl, rfl, rfl, rfl, rfl, rfl, rfl, rfl, rfl, rfl, rfl, rfl, trivial⟩ (.cons_cons _ (.cons_cons _ (.cons _ (sub_app hs822 (sub_app hs1437 (sub_app hs1534 (.refl _))))))) ⟨A1536, c1537, hs1534, rfl, rfl, (hle1504), h1535⟩
            ·
              rw [if_neg (of_decide_eq_false hc1531)] at hm
              refine c_skip ?_
              refine x_block_normal ?_
              refine x_then_normal ?_
              refine c_region ?_
              refine t_st rfl (st_add rfl rfl (by omega)) ?_
              refine t_st rfl (st_move rfl) ?_
              refine t_nil ?_
              refine x_pullb 1 rfl ?_
              refine x_pullb 1 rfl ?_
              refine x_front3 [_, _] hs822 hs1437 hs1506 R rfl ?_
              refine x_front3 [_, _] hs1506 hs822 hs1437 R rfl ?_
              refine x_front3 [_, _] hs1437 hs1506 hs822 R rfl ?_
              obtain rfl := some1 hm
              exact x_againS (e' := [(0, .slice A1 (l4).length c2), (1, .slice A5 (l8).length c6), (6, .pointer (some ⟨g789, 0, none⟩)), (7, .pointer (some ⟨g790, 0, none⟩)), (10, .slice A823 (l826).length c824), (12, .int .i64 ((k1204 : Int))), (13, .slice A1438 (l1442).length c1439), (14, .bool (x1441)), (15, .int .i64 ((k1443 : Int))), (16, .slice A1507 (l1510).length c1508), (49, .int .i64 ((l826.length : Int) + 1)), (50, .int .i64 ((k1204 : Int))), (55, .int .i64 (shlI .i64 1 (l826.length : Int))), (56, .int .i64 ((k1443 : Int))), (59, .slice A823 (l826).length c824), (60, .int .i64 ((l826.length : Int))), (61, .int .i64 ((k1511 : Int) + 1))]) (hp' := (g789, Cl 47 [.int .i64 (s9.Home), .int .i64 (s9.Km)]) :: (g790, Cl 40 [.int .i64 (s10.Place), .int .i64 (s10.Long), .int .i64 (s10.Limit)]) :: (hs822 ++ (hs1437 ++ (hs1506 ++ R)))) ⟨rfl, rfl, rfl, rfl, rfl, rfl, rfl, rfl, rfl, rfl, rfl, rfl, rfl, rfl, rfl, rfl, rfl, trivial⟩ (.cons_cons _ (.cons_cons _ (sub_app hs822 (sub_app hs1437 (sub_app hs1506 (.refl _)))))) ⟨A1507, c1508, hs1506, rfl, rfl, (hle1504), h1509⟩
          ·
            rintro b1503 _ _ ⟨A1507, c1508, hs1506, rfl, rfl, hle1504, h1509⟩
            have hm := hk1513
            refine c_seq ?_
            refine c_region ?_
            refine t_st rfl (st_lss_f rfl rfl (by omega)) ?_
            refine t_nil ?_
            refine x_then_normal ?_
            refine c_seq ?_
            refine c_cond_f rfl ?_
            refine c_exit ?_
            refine x_then_exit ?_
            refine x_then_exit ?_
            refine x_block_out ?_
            refine x_then_normal ?_
            obtain ⟨x1547, hj1548, hk1548⟩ := bindS hm
            refine c_join (fun b1545 e' hp' => [(0, .slice A1 (l4).length c2), (1, .slice A5 (l8).length c6), (6, .pointer (some ⟨g789, 0, none⟩)), (7, .pointer (some ⟨g790, 0, none⟩)), (10, .slice A823 (l826).length c824), (12, .int .i64 ((k1204 : Int))), (13, .slice A1438 (l1442).length c1439), (14, .bool (x1441)), (16, .slice A1507 (l1510).length c1508), (49, .int .i64 ((l826.length : Int) + 1)), (50, .int .i64 ((k1204 : Int))), (55, .int .i64 (shlI .i64 1 (l826.length : Int))), (56, .int .i64 ((k1443 : Int))), (97, .bool (x1547))] = e' ∧ (g789, Cl 47 [.int .i64 (s9.Home), .int .i64 (s9.Km)]) :: (g790, Cl 40 [.int .i64 (s10.Place), .int .i64 (s10.Long), .int .i64 (s10.Limit)]) :: (hs822 ++ (hs1437 ++ (hs1506 ++ R))) = hp' ∧ b1503.Le b1545) ?_ ?_
            ·
              have hm := hj1548
              refine c_region ?_
              refine t_st rfl (st_move rfl) ?_
              refine t_st rfl (st_len rfl sl45) ?_
              refine t_st rfl (st_move rfl) ?_
              refine t_bool rfl (st_eql rfl rfl) (fun hc1549 => ?_) (fun hc1549 => ?_)
              ·
                rw [if_pos hc1549] at hm
                refine t_st rfl (st_move rfl) ?_
                refine t_yes 80 rfl rfl rfl ?_
                refine t_st rfl (st_move rfl) ?_
                refine t_yes 80 rfl rfl rfl ?_
                refine t_st rfl (st_move rfl) ?_
                refine t_yes 80 rfl rfl rfl ?_
                refine t_st rfl (st_loadD (vs := [_, _]) 0 2 rfl agg47 rfl rfl rfl) ?_
                refine t_yes 80 rfl rfl rfl ?_
                refine t_st rfl (st_loadD (vs := [_, _, _]) 1 3 rfl agg40 rfl rfl rfl) ?_
                refine t_yes 80 rfl rfl rfl ?_
                refine t_st rfl (st_move rfl) ?_
                refine t_yes 80 rfl rfl rfl ?_
                obtain ⟨x1550, hcl1551, hm⟩ := bindS hm
                refine t_do rfl (u_callW0 _ call85 rfl (fun w ho => cFishref2Kept _ [] l4 l8 s9 s10 l1510 A1 c2 A5 c6 A1507 c1508 ((h3.le (hle820.trans (hle1203.trans (hle1435.trans hle1504)))).old ho) ((h7.le (hle820.trans (hle1203.trans (hle1435.trans hle1504)))).old ho) (OS.now (o := (OT.fr (RT.int .i64))) (l := l1510) (hs := hs1506) h1509 ho (.cons _ (.cons _ (sub_skip hs822 (sub_skip hs1437 (List.sublist_append_left _ _)))))) x1550 hcl1551) (fun _ _ _ h => h.2.symm)) ?_
                rintro _ _ ⟨⟨_, rfl, _⟩, rfl⟩
                rcases Bool.eq_false_or_eq_true x1550 with hc1552 | hc1552
                ·
                  rw [if_pos hc1552] at hm
                  refine t_resp 86 rfl (v' := .bool true) (by rw [hc1552]) ?_
                  refine t_st rfl (st_pick_t rfl rfl) ?_
                  refine t_st rfl (st_move rfl) ?_
                  refine t_yes 88 rfl rfl rfl ?_
                  refine t_st rfl (st_move rfl) ?_
                  rcases Bool.eq_false_or_eq_true x1441 with hc1553 | hc1553
                  ·
                    rw [if_pos hc1553] at hm
                    refine t_resp 89 rfl (v' := .bool true) (by rw [hc1553]) ?_
                    refine t_yes 88 rfl rfl rfl ?_
                    refine t_st rfl (st_not_t rfl) ?_
                    refine t_yes 88 rfl rfl rfl ?_
                    refine t_st rfl (st_move rfl) ?_
                    refine t_yes 91 rfl rfl rfl ?_
                    refine t_st rfl (st_move rfl) ?_
                    refine t_yes 91 rfl rfl rfl ?_
                    refine t_st rfl (st_move rfl) ?_
                    refine t_yes 91 rfl rfl rfl ?_
                    obtain ⟨x1554, hcl1555, hm⟩ := bindS hm
                    refine t_do rfl (u_callW0 _ call86 rfl (fun w ho => cSlicesCompare _ [] l1510 l1442 A1507 c1508 A1438 c1439 (OS.now (o := (OT.fr (RT.int .i64))) (l := l1510) (hs := hs1506) h1509 ho (.cons _ (.cons _ (sub_skip hs822 (sub_skip hs1437 (List.sublist_append_left _ _)))))) (OS.now (o := (OT.fr (RT.int .i64))) (l := l1442) (hs := hs1437) (h1440.le hle1504) ho (.cons _ (.cons _ (sub_skip hs822 (List.sublist_append_left _ _))))) x1554 hcl1555) (fun _ _ _ h => h.2.symm)) ?_
                    rintro _ _ ⟨⟨_, rfl, _⟩, rfl⟩
                    refine t_yes 91 rfl rfl rfl ?_
                    refine t_st rfl (st_gtr rfl rfl) ?_
                    refine t_yes 88 rfl rfl rfl ?_
                    refine t_st rfl (st_pick_f rfl rfl) ?_
                    refine t_st rfl (st_pick_t rfl rfl) ?_
                    refine t_nil ?_
                    obtain rfl := some1 hm
                    refine x_pullb 1 rfl ?_
                    refine x_pullb 1 rfl ?_
                    refine x_front3 [_, _] hs822 hs1437 hs1506 R rfl ?_
                    refine x_front3 [_, _] hs1506 hs822 hs1437 R rfl ?_
                    refine x_front3 [_, _] hs1437 hs1506 hs822 R rfl ?_
                    exact x_join (e' := [(0, .slice A1 (l4).length c2), (1, .slice A5 (l8).length c6), (6, .pointer (some ⟨g789, 0, none⟩)), (7, .pointer (some ⟨g790, 0, none⟩)), (10, .slice A823 (l826).length c824), (12, .int .i64 ((k1204 : Int))), (13, .slice A1438 (l1442).length c1439), (14, .bool (x1441)), (16, .slice A1507 (l1510).length c1508), (49, .int .i64 ((l826.length : Int) + 1)), (50, .int .i64 ((k1204 : Int))), (55, .int .i64 (shlI .i64 1 (l826.length : Int))), (56, .int .i64 ((k1443 : Int))), (97, .bool (decide (0 < x1554)))]) (hp' := (g789, Cl 47 [.int .i64 (s9.Home), .int .i64 (s9.Km)]) :: (g790, Cl 40 [.int .i64 (s10.Place), .int .i64 (s10.Long), .int .i64 (s10.Limit)]) :: (hs822 ++ (hs1437 ++ (hs1506 ++ R)))) ⟨rfl, rfl, rfl, rfl, rfl, rfl, rfl, rfl, rfl, rfl, rfl, rfl, rfl, rfl, trivial⟩ (.cons_cons _ (.cons_cons _ (sub_app hs822 (sub_app hs1437 (sub_app hs1506 (.refl _)))))) ⟨rfl, rfl, (Base.Le.refl _)⟩
                  ·
                    rw [if_neg (fun hh => Bool.noConfusion (hh.symm.trans hc1553))] at hm
                    refine t_resp 89 rfl (v' := .bool false) (by rw [hc1553]) ?_
                    refine t_yes 88 rfl rfl rfl ?_
                    refine t_st rfl (st_not_f rfl) ?_
                    refine t_yes 88 rfl rfl rfl ?_
                    refine t_st rfl (st_move rfl) ?_
                    refine t_no 91 rfl rfl rfl rfl rfl ?_
                    refine t_no 91 rfl rfl rfl rfl rfl ?_
                    refine t_no 91 rfl rfl rfl rfl rfl ?_
                    refine t_no 91 rfl rfl rfl rfl rfl ?_
                    refine t_yes 88 rfl rfl rfl ?_
                    refine t_st rfl (st_pick_t rfl rfl) ?_
                    refine t_st rfl (st_pick_t rfl rfl) ?_
                    refine t_nil ?_
                    obtain rfl := some1 hm
                    refine x_pullb 1 rfl ?_
                    refine x_pullb 1 rfl ?_
                    refine x_front3 [_, _] hs822 hs1437 hs1506 R rfl ?_
                    refine x_front3 [_, _] hs1506 hs822 hs1437 R rfl ?_
                    refine x_front3 [_, _] hs1437 hs1506 hs822 R rfl ?_
                    exact x_join (e' := [(0, .slice A1 (l4).length c2), (1, .slice A5 (l8).length c6), (6, .pointer (some ⟨g789, 0, none⟩)), (7, .pointer (some ⟨g790, 0, none⟩)), (10, .slice A823 (l826).length c824), (12, .int .i64 ((k1204 : Int))), (13, .slice A1438 (l1442).length c1439), (14, .bool (x1441)), (16, .slice A1507 (l1510).length c1508), (49, .int .i64 ((l826.length : Int) + 1)), (50, .int .i64 ((k1204 : Int))), (55, .int .i64 (shlI .i64 1 (l826.length : Int))), (56, .int .i64 ((k1443 : Int))), (97, .bool (true))]) (hp' := (g789, Cl 47 [.int .i64 (s9.Home), .int .i64 (s9.Km)]) :: (g790, Cl 40 [.int .i64 (s10.Place), .int .i64 (s10.Long), .int .i64 (s10.Limit)]) :: (hs822 ++ (hs1437 ++ (hs1506 ++ R)))) ⟨rfl, rfl, rfl, rfl, rfl, rfl, rfl, rfl, rfl, rfl, rfl, rfl, rfl, rfl, trivial⟩ (.cons_cons _ (.cons_cons _ (sub_app hs822 (sub_app hs1437 (sub_app hs1506 (.refl _)))))) ⟨rfl, rfl, (Base.Le.refl _)⟩
                ·
                  rw [if_neg (fun hh => Bool.noConfusion (hh.symm.trans hc1552))] at hm
                  refine t_resp 86 rfl (v' := .bool false) (by rw [hc1552]) ?_
                  refine t_st rfl (st_pick_t rfl rfl) ?_
                  refine t_st rfl (st_move rfl) ?_
                  refine t_no 88 rfl rfl rfl rfl rfl ?_
                  refine t_no 88 rfl rfl rfl rfl rfl ?_
                  refine t_no 88 rfl rfl rfl rfl rfl ?_
                  refine t_no 91 rfl rfl rfl rfl rfl ?_
                  refine t_no 91 rfl rfl rfl rfl rfl ?_
                  refine t_no 91 rfl rfl rfl rfl rfl ?_
                  refine t_no 91 rfl rfl rfl rfl rfl ?_
                  refine t_no 88 rfl rfl rfl rfl rfl ?_
                  refine t_st rfl (st_pick_f rfl rfl) ?_
                  refine t_nil ?_
                  obtain rfl := some1 hm
                  refine x_pullb 1 rfl ?_
                  refine x_pullb 1 rfl ?_
                  refine x_front3 [_, _] hs822 hs1437 hs1506 R rfl ?_
                  refine x_front3 [_, _] hs1506 hs822 hs1437 R rfl ?_
                  refine x_front3 [_, _] hs1437 hs1506 hs822 R rfl ?_
                  exact x_join (e' := [(0, .slice A1 (l4).length c2), (1, .slice A5 (l8).length c6), (6, .pointer (some ⟨g789, 0, none⟩)), (7, .pointer (some ⟨g790, 0, none⟩)), (10, .slice A823 (l826).length c824), (12, .int .i64 ((k1204 : Int))), (13, .slice A1438 (l1442).length c1439), (14, .bool (x1441)), (16, .slice A1507 (l1510).length c1508), (49, .int .i64 ((l826.length : Int) + 1)), (50, .int .i64 ((k1204 : Int))), (55, .int .i64 (shlI .i64 1 (l826.length : Int))), (56, .int .i64 ((k1443 : Int))), (97, .bool (false))]) (hp' := (g789, Cl 47 [.int .i64 (s9.Home), .int .i64 (s9.Km)]) :: (g790, Cl 40 [.int .i64 (s10.Place), .int .i64 (s10.Long), .int .i64 (s10.Limit)]) :: (hs822 ++ (hs1437 ++ (hs1506 ++ R)))) ⟨rfl, rfl, rfl, rfl, rfl, rfl, rfl, rfl, rfl, rfl, rfl, rfl, rfl, rfl, trivial⟩ (.cons_cons _ (.cons_cons _ (sub_app hs822 (sub_app hs1437 (sub_app hs1506 (.refl _)))))) ⟨rfl, rfl, (Base.Le.refl _)⟩
              ·
                rw [if_neg hc1549] at hm
                refine t_st rfl (st_move rfl) ?_
                refine t_no 80 rfl rfl rfl rfl rfl ?_
                refine t_no 80 rfl rfl rfl rfl rfl ?_
                refine t_no 80 rfl rfl rfl rfl rfl ?_
                refine t_no 80 rfl rfl rfl rfl rfl ?_
                refine t_no 80 rfl rfl rfl rfl rfl ?_
                refine t_no 80 rfl rfl rfl rfl rfl ?_
                refine t_st rfl (st_pick_f rfl rfl) ?_
                refine t_st rfl (st_move rfl) ?_
                refine t_no 88 rfl rfl rfl rfl rfl ?_
                refine t_no 88 rfl rfl rfl rfl rfl ?_
                refine t_no 88 rfl rfl rfl rfl rfl ?_
                refine t_no 91 rfl rfl rfl rfl rfl ?_
                refine t_no 91 rfl rfl rfl rfl rfl ?_
                refine t_no 91 rfl rfl rfl rfl rfl ?_
                refine t_no 91 rfl rfl rfl rfl rfl ?_
                refine t_no 88 rfl rfl rfl rfl rfl ?_
                refine t_st rfl (st_pick_f rfl rfl) ?_
                refine t_nil ?_
                obtain rfl := some1 hm
                refine x_pullb 1 rfl ?_
                refine x_pullb 1 rfl ?_
                refine x_front3 [_, _] hs822 hs1437 hs1506 R rfl ?_
                refine x_front3 [_, _] hs1506 hs822 hs1437 R rfl ?_
                refine x_front3 [_, _] hs1437 hs1506 hs822 R rfl ?_
                exact x_join (e' := [(0, .slice A1 (l4).length c2), (1, .slice A5 (l8).length c6), (6, .pointer (some ⟨g789, 0, none⟩)), (7, .pointer (some ⟨g790, 0, none⟩)), (10, .slice A823 (l826).length c824), (12, .int .i64 ((k1204 : Int))), (13, .slice A1438 (l1442).length c1439), (14, .bool (x1441)), (16, .slice A1507 (l1510).length c1508), (49, .int .i64 ((l826.length : Int) + 1)), (50, .int .i64 ((k1204 : Int))), (55, .int .i64 (shlI .i64 1 (l826.length : Int))), (56, .int .i64 ((k1443 : Int))), (97, .bool (false))]) (hp' := (g789, Cl 47 [.int .i64 (s9.Home), .int .i64 (s9.Km)]) :: (g790, Cl 40 [.int .i64 (s10.Place), .int .i64 (s10.Long), .int .i64 (s10.Limit)]) :: (hs822 ++ (hs1437 ++ (hs1506 ++ R)))) ⟨rfl, rfl, rfl, rfl, rfl, rfl, rfl, rfl, rfl, rfl, rfl, rfl, rfl, rfl, trivial⟩ (.cons_cons _ (.cons_cons _ (sub_app hs822 (sub_app hs1437 (sub_app hs1506 (.refl _)))))) ⟨rfl, rfl, (Base.Le.refl _)⟩
            ·
              rintro b1545 _ _ ⟨rfl, rfl, hle1546⟩
              have hm := hk1548
              refine c_cond _ rfl (fun hc1556 => ?_) (fun hc1556 => ?_)
              ·
                rw [if_pos hc1556] at hm
                refine c_region ?_
                refine t_st rfl (st_move rfl) ?_
                refine t_st rfl (st_assign rfl) ?_
                refine t_st rfl (st_assign rfl) ?_
                refine t_nil ?_
                refine x_block_normal ?_
                refine x_then_normal ?_
                refine c_region ?_
                refine t_st rfl (st_add rfl rfl (by omega)) ?_
                refine t_st rfl (st_move rfl) ?_
                refine t_nil ?_
                refine x_pullb 1 rfl ?_
                refine x_pullb 1 rfl ?_
                refine x_front3 [_, _] hs822 hs1437 hs1506 R rfl ?_
                refine x_front2 [_, _] hs1506 hs822 (hs1437 ++ R) rfl ?_
                obtain rfl := some1 hm
                exact x_againS (e' := [(0, .slice A1 (l4).length c2), (1, .slice A5 (l8).length c6), (6, .pointer (some ⟨g789, 0, none⟩)), (7, .pointer (some ⟨g790, 0, none⟩)), (10, .slice A823 (l826).length c824), (12, .int .i64 ((k1204 : Int))), (13, .slice A1507 (l1510).length c1508), (14, .bool (true)), (49, .int .i64 ((l826.length : Int) + 1)), (50, .int .i64 ((k1204 : Int))), (55, .int .i64 (shlI .i64 1 (l826.length : Int))), (56, .int .i64 ((k1443 : Int) + 1))]) (hp' := (g789, Cl 47 [.int .i64 (s9.Home), .int .i64 (s9.Km)]) :: (g790, Cl 40 [.int .i64 (s10.Place), .int .i64 (s10.Long), .int .i64 (s10.Limit)]) :: (hs822 ++ (hs1506 ++ R))) ⟨rfl, rfl, rfl, rfl, rfl, rfl, rfl, rfl, rfl, rfl, rfl, rfl, trivial⟩ (.cons_cons _ (.cons_cons _ (sub_app hs822 (sub_app hs1506 (sub_skip hs1437 (.refl _)))))) ⟨A1507, c1508, hs1506, rfl, rfl, ((hle1435.trans (hle1504.trans hle1546))), (h1509.le hle1546)⟩
              ·
                rw [if_neg (fun hh => Bool.noConfusion (hh.symm.trans hc1556))] at hm
                refine c_skip ?_
                refine x_block_normal ?_
                refine x_then_normal ?_
                refine c_region ?_
                refine t_st rfl (st_add rfl rfl (by omega)) ?_
                refine t_st rfl (st_move rfl) ?_
                refine t_nil ?_
                refine x_pullb 1 rfl ?_
                refine x_pullb 1 rfl ?_
                refine x_front2 [_, _] hs822 hs1437 (hs1506 ++ R) rfl ?_
                refine x_front2 [_, _] hs1437 hs822 (hs1506 ++ R) rfl ?_
                obtain rfl := some1 hm
                exact x_againS (e' := [(0, .slice A1 (l4).length c2), (1, .slice A5 (l8).length c6), (6, .pointer (some ⟨g789, 0, none⟩)), (7, .pointer (some ⟨g790, 0, none⟩)), (10, .slice A823 (l826).length c824), (12, .int .i64 ((k1204 : Int))), (13, .slice A1438 (l1442).length c1439), (14, .bool (x1441)), (49, .int .i64 ((l826.length : Int) + 1)), (50, .int .i64 ((k1204 : Int))), (55, .int .i64 (shlI .i64 1 (l826.length : Int))), (56, .int .i64 ((k1443 : Int) + 1))]) (hp' := (g789, Cl 47 [.int .i64 (s9.Home), .int .i64 (s9.Km)]) :: (g790, Cl 40 [.int .i64 (s10.Place), .int .i64 (s10.Long), .int .i64 (s10.Limit)]) :: (hs822 ++ (hs1437 ++ R))) ⟨rfl, rfl, rfl, rfl, rfl, rfl, rfl, rfl, rfl, rfl, rfl, rfl, trivial⟩ (.cons_cons _ (.cons_cons _ (sub_app hs822 (sub_app hs1437 (sub_skip hs1506 (.refl _)))))) ⟨A1438, c1439, hs1437, rfl, rfl, ((hle1435.trans (hle1504.trans hle1546))), (h1440.le (hle1504.trans hle1546))⟩
        ·
          rintro b1434 _ _ ⟨A1438, c1439, hs1437, rfl, rfl, hle1435, h1440⟩
          have hm := (unc2E hk1445)
          refine c_seq ?_
          refine c_region ?_
          refine t_st rfl (st_lss_f rfl rfl (by omega)) ?_
          refine t_nil ?_
          refine x_then_normal ?_
          refine c_seq ?_
          refine c_cond_f rfl ?_
          refine c_exit ?_
          refine x_then_exit ?_
          refine x_then_exit ?_
          refine x_block_out ?_
          refine x_then_normal ?_
          refine c_seq ?_
          refine c_region ?_
          refine t_st rfl (st_move rfl) ?_
          refine t_nil ?_
          refine x_then_normal ?_
          refine c_cond _ rfl (fun hc1557 => ?_) (fun hc1557 => ?_)
          ·
            rw [if_pos hc1557] at hm
            refine c_seq ?_
            refine c_region ?_
            refine t_st rfl (st_move rfl) ?_
            refine t_st rfl (st_assign rfl) ?_
            refine t_st rfl (st_assign rfl) ?_
            refine t_nil ?_
            refine x_then_normal ?_
            refine c_ret ?_
            refine x_block_ret ?_
            refine x_then_ret ?_
            refine x_then_ret ?_
            refine x_block_ret ?_
            refine x_then_ret ?_
            have hq1558 := houtL850 _ (Option.some.inj hm).symm
            rw [hq1558] at hk1207
            have hm := elimR hk1207
            obtain ⟨rfl, rfl⟩ := some2 hm
            refine x_front2 [_, _] hs822 hs1437 R rfl ?_
            exact retM (rs := [.tmp 8, .tmp 9]) [.slice A1438 (l1442).length c1439, .bool (true)] (hle820.trans (hle1203.trans hle1435)) (by decide) rfl ⟨rfl, ⟨rfl, trivial⟩⟩ rfl (hp' := (hs1437 ++ R)) (.cons _ (.cons _ (sub_app hs1437 (sub_skip hs822 (.refl _))))) ⟨A1438, c1439, hs1437, rfl, rfl, h1440⟩
          ·
            rw [if_neg (fun hh => Bool.noConfusion (hh.symm.trans hc1557))] at hm
            refine c_skip ?_
            refine x_block_normal ?_
            refine x_then_normal ?_
            refine c_region ?_
            refine t_st rfl (st_add rfl rfl (by omega)) ?_
            refine t_st rfl (st_move rfl) ?_
            refine t_nil ?_
            refine x_pullb 1 rfl ?_
            refine x_pullb 1 rfl ?_
            exact x_againM () (Option.some.inj hm).symm (e' := [(0, .slice A1 (l4).length c2), (1, .slice A5 (l8).length c6), (6, .pointer (some ⟨g789, 0, none⟩)), (7, .pointer (some ⟨g790, 0, none⟩)), (10, .slice A823 (l826).length c824), (49, .int .i64 ((l826.length : Int) + 1)), (50, .int .i64 ((k1204 : Int) + 1))]) (hp' := (g789, Cl 47 [.int .i64 (s9.Home), .int .i64 (s9.Km)]) :: (g790, Cl 40 [.int .i64 (s10.Place), .int .i64 (s10.Long), .int .i64 (s10.Limit)]) :: (hs822 ++ R)) ⟨rfl, rfl, rfl, rfl, rfl, rfl, rfl, trivial⟩ (.cons_cons _ (.cons_cons _ (sub_app hs822 (sub_skip hs1437 (.refl _))))) ⟨rfl, rfl, ((hle1203.trans hle1435))⟩
      ·
        rintro _ b1202 _ _ ⟨rfl, rfl, hle1203⟩ hq1559
        rw [hq1559] at hk1207
        have hm := elimL hk1207
        refine c_seq ?_
        refine c_region ?_
        refine t_st rfl (st_lss_f rfl rfl (by omega)) ?_
        refine t_nil ?_
        refine x_then_normal ?_
        refine c_seq ?_
        refine c_cond_f rfl ?_
        refine c_exit ?_
        refine x_then_exit ?_
        refine x_then_exit ?_
        refine x_block_out ?_
        refine x_then_normal ?_
        refine c_seq ?_
        refine c_region ?_
        refine t_st rfl (st_assign rfl) ?_
        refine t_st rfl (st_assign rfl) ?_
        refine t_nil ?_
        refine x_then_normal ?_
        refine c_ret ?_
        obtain ⟨rfl, rfl⟩ := some2 hm
        exact retM (rs := [.tmp 8, .tmp 9]) [.slice none 0 0, .bool (false)] (hle820.trans hle1203) (by decide) rfl ⟨rfl, ⟨rfl, trivial⟩⟩ rfl (hp' := ([] ++ R)) (.cons _ (.cons _ (sub_skip hs822 (.refl _)))) ⟨none, 0, [], rfl, rfl, OS.nil⟩

set_option maxRecDepth 20000 in
theorem cFishref2InspectOf (b : Base) (R : Hp) (l4 : (List FleetTask)) (l8 : (List (List Int))) (l12 : (List FleetSet)) (s13 : FleetShop) (x14 : Int) (A1 : Option Addr) (c2 : Nat) (A5 : Option Addr) (c6 : Nat) (A9 : Option Addr) (c10 : Nat) (h3 : FZ rFleetTask b.w A1 c2 l4) (h7 : FZ (RT.list (RT.int .i64)) b.w A5 c6 l8) (h11 : FZ rFleetSet b.w A9 c10 l12) (x1165 : Int) (l1166 : (List (List Int))) (hm : mFishref2InspectOf l4 l8 l12 s13 x14 = some (x1165, l1166)) :
    CallsG Try.prog 19 [.slice A1 (l4).length c2, .slice A5 (l8).length c6, .slice A9 (l12).length c10, .agg #[.int .i64 (s13.Place), .int .i64 (s13.Long), .int .i64 (s13.Limit)], .int .i64 (x14)] b (R) (fun v b' hp' => ∃ (A1162 : Option Addr), ∃ (c1163 : Nat), ∃ (hs1161 : Hp), .tuple #[.slice A1162 (l1166).length c1163, .int .i64 (x1165)] = v ∧ (hs1161 ++ R) = hp' ∧ OS 45 (OT.fr (RT.list (RT.int .i64))) b'.w (.slice A1162 l1166.length c1163) l1166 hs1161) := by
  refine fn_enterG 128 Try.func19 rfl Try.ntmps19 rfl ?_
  unfold mFishref2InspectOf at hm
  refine c_seq ?_
  refine c_region ?_
  refine t_do rfl (u_box _ rfl rfl) ?_
  rintro _ _ ⟨g1167, rfl, rfl⟩
  refine t_st rfl (st_assign rfl) ?_
  refine t_st rfl (st_assign rfl) ?_
  refine t_nil ?_
  refine x_then_normal ?_
  refine c_seq ?_
  refine c_seq ?_
  refine c_region ?_
  refine t_st rfl (st_move rfl) ?_
  refine t_st rfl (st_loadD (vs := [_, _, _]) 0 3 rfl agg40 rfl rfl rfl) ?_
  refine t_st rfl (st_move rfl) ?_
  obtain ⟨x1168, hcl1169, hm⟩ := bindS hm
  refine t_do rfl (u_callW0 _ call17 rfl (fun w ho => cFishref2SetsFault _ [] l12 s13 x14 A9 c10 (h11.old ho) x1168 hcl1169) (fun _ _ _ h => h.2.symm)) ?_
  rintro _ _ ⟨⟨_, rfl, _⟩, rfl⟩
  refine t_st rfl (st_assign rfl) ?_
  refine t_nil ?_
  refine x_then_normal ?_
  refine c_seq ?_
  refine c_region ?_
  refine t_st rfl (st_move rfl) ?_
  refine t_st rfl (st_neq rfl rfl) ?_
  refine t_nil ?_
  refine x_then_normal ?_
  refine c_cond _ rfl (fun hc1170 => ?_) (fun hc1170 => ?_)
  ·
    rw [if_pos (of_decide_eq_true hc1170)] at hm
    refine c_seq ?_
    refine c_region ?_
    refine t_st rfl (st_move rfl) ?_
    refine t_st rfl (st_assign rfl) ?_
    refine t_st rfl (st_assign rfl) ?_
    refine t_nil ?_
    refine x_then_normal ?_
    refine c_ret ?_
    refine x_then_ret ?_
    obtain ⟨rfl, rfl⟩ := some2 hm
    exact retM (rs := [.tmp 10, .tmp 11]) [.slice none 0 0, .int .i64 (x1168)] (Base.Le.refl _) (by decide) rfl ⟨rfl, ⟨rfl, trivial⟩⟩ rfl (hp' := ([] ++ R)) (.cons _ (.refl _)) ⟨none, 0, [], rfl, rfl, OS.nil⟩
  ·
    rw [if_neg (of_decide_eq_false hc1170)] at hm
    refine c_skip ?_
    refine x_then_normal ?_
    refine c_seq ?_
    refine c_seq ?_
    refine c_region ?_
    refine t_st rfl (st_move rfl) ?_
    refine t_st rfl (st_len rfl sl26) ?_
    refine t_st rfl (st_move rfl) ?_
    refine t_st rfl (st_len rfl sl38) ?_
    refine t_st rfl (st_neq rfl rfl) ?_
    refine t_nil ?_
    refine x_then_normal ?_
    refine c_cond _ rfl (fun hc1171 => ?_) (fun hc1171 => ?_)
    ·
      rw [if_pos (of_decide_eq_true hc1171)] at hm
      refine c_seq ?_
      refine c_region ?_
      refine t_st rfl (st_assign rfl) ?_
      refine t_st rfl (st_assign rfl) ?_
      refine t_nil ?_
      refine x_then_normal ?_
      refine c_ret ?_
      refine x_then_ret ?_
      obtain ⟨rfl, rfl⟩ := some2 hm
      exact retM (rs := [.tmp 10, .tmp 11]) [.slice none 0 0, .int .i64 (1)] (Base.Le.refl _) (by decide) rfl ⟨rfl, ⟨rfl, trivial⟩⟩ rfl (hp' := ([] ++ R)) (.cons _ (.refl _)) ⟨none, 0, [], rfl, rfl, OS.nil⟩
    ·
      rw [if_neg (of_decide_eq_false hc1171)] at hm
      refine c_skip ?_
      refine x_then_normal ?_
      refine c_seq ?_
      refine c_seq ?_
      refine c_region ?_
      refine t_st rfl (st_move rfl) ?_
      refine t_st rfl (st_len rfl sl26) ?_
      refine t_st rfl (st_move rfl) ?_
      refine t_nil ?_
      refine x_then_normal ?_
      refine c_block ?_
      have hb1173 := (FZ.bd h7)
      obtain ⟨t1635, hl1636, hk1637⟩ := bindS hm
      refine c_forM (fun k1634 => fun _ => fun b1632 e' hp' => [(0, .slice A1 (l4).length c2), (1, .slice A5 (l8).length c6), (2, .slice A9 (l12).length c10), (8, .pointer (some ⟨g1167, 0, none⟩)), (35, .slice A5 (l8).length c6), (36, .int .i64 ((l8.length : Int))), (37, .int .i64 ((k1634 : Int)))] = e' ∧ (g1167, Cl 40 [.int .i64 (s13.Place), .int .i64 (s13.Long), .int .i64 (s13.Limit)]) :: R = hp' ∧ b.Le b1632) hl1636 (e' := [(0, .slice A1 (l4).length c2), (1, .slice A5 (l8).length c6), (2, .slice A9 (l12).length c10), (8, .pointer (some ⟨g1167, 0, none⟩)), (35, .slice A5 (l8).length c6), (36, .int .i64 ((l8.length : Int))), (37, .int .i64 0)]) (hp' := (g1167, Cl 40 [.int .i64 (s13.Place), .int .i64 (s13.Long), .int .i64 (s13.Limit)]) :: R) ⟨rfl, rfl, rfl, rfl, rfl, rfl, rfl, trivial⟩ (.cons_cons _ (.refl _)) ⟨rfl, rfl, (Base.Le.refl _)⟩ ?_ ?_
      ·
        rintro k1634 _ b1632 _ _ oL1172 hknL1172 ⟨rfl, rfl, hle1633⟩ hstepL1172 houtL1172
        unfold mFishref2InspectOf_L1172 at hstepL1172
        have hm := hstepL1172
        refine c_seq ?_
        refine c_region ?_
        refine t_st rfl (st_lss_t rfl rfl (by omega)) ?_
        refine t_nil ?_
        refine x_then_normal ?_
        refine c_seq ?_
        refine c_cond_t rfl ?_
        refine c_skip ?_
        refine x_then_normal ?_
        refine c_seq ?_
        refine c_block ?_
        refine c_seq ?_
        refine c_region ?_
        refine t_st rfl (st_move rfl) ?_
        obtain ⟨x1638, h1639, hm⟩ := bindS hm
        obtain ⟨j1640, hj1641, hx1642⟩ := idx_some h1639
        obtain ⟨cs1643, hr1644, hcs1645, hA1646, hlt1647⟩ := FZ.get (sz := 1) rfl (by decide) (h7.le hle1633) hx1642
        obtain ⟨A1648, c1649, rfl, h1650⟩ := hr1644
        refine t_st rfl (st_index_old j1640 rfl rfl hj1641 hlt1647 hA1646 sl26) ?_
        refine t_st rfl (st_load_old rfl one45 (hcs1645 0 _ rfl)) ?_
        refine t_st rfl (st_assign rfl) ?_
        refine t_st rfl (st_assign rfl) ?_
        refine t_nil ?_
        refine x_then_normal ?_
        refine c_seq ?_
        refine c_region ?_
        refine t_st rfl (st_move rfl) ?_
        refine t_st rfl (st_len rfl sl45) ?_
        refine t_st rfl (st_move rfl) ?_
        refine t_nil ?_
        refine x_then_normal ?_
        refine c_block ?_
        have hb1652 := (FZ.bd h1650)
        obtain ⟨t1874, hl1875, hk1876⟩ := bindS hm
        refine c_forM (fun k1873 => fun _ => fun b1871 e' hp' => [(0, .slice A1 (l4).length c2), (1, .slice A5 (l8).length c6), (2, .slice A9 (l12).length c10), (8, .pointer (some ⟨g1167, 0, none⟩)), (13, .int .i64 ((k1634 : Int))), (14, .slice A1648 (x1638).length c1649), (35, .slice A5 (l8).length c6), (36, .int .i64 ((l8.length : Int))), (37, .int .i64 ((k1634 : Int))), (42, .slice A1648 (x1638).length c1649), (43, .int .i64 ((x1638.length : Int))), (44, .int .i64 ((k1873 : Int)))] = e' ∧ (g1167, Cl 40 [.int .i64 (s13.Place), .int .i64 (s13.Long), .int .i64 (s13.Limit)]) :: R = hp' ∧ b1632.Le b1871) hl1875 (e' := [(0, .slice A1 (l4).length c2), (1, .slice A5 (l8).length c6), (2, .slice A9 (l12).length c10), (8, .pointer (some ⟨g1167, 0, none⟩)), (13, .int .i64 ((k1634 : Int))), (14, .slice A1648 (x1638).length c1649), (35, .slice A5 (l8).length c6), (36, .int .i64 ((l8.length : Int))), (37, .int .i64 ((k1634 : Int))), (42, .slice A1648 (x1638).length c1649), (43, .int .i64 ((x1638.length : Int))), (44, .int .i64 0)]) (hp' := (g1167, Cl 40 [.int .i64 (s13.Place), .int .i64 (s13.Long), .int .i64 (s13.Limit)]) :: R) ⟨rfl, rfl, rfl, rfl, rfl, rfl, rfl, rfl, rfl, rfl, rfl, rfl, trivial⟩ (.cons_cons _ (.refl _)) ⟨rfl, rfl, (Base.Le.refl _)⟩ ?_ ?_
        ·
          rintro k1873 _ b1871 _ _ oL1651 hknL1651 ⟨rfl, rfl, hle1872⟩ hstepL1651 houtL1651
          unfold mFishref2InspectOf_L1651 at hstepL1651
          have hm := hstepL1651
          refine c_seq ?_
          refine c_region ?_
          refine t_st rfl (st_lss_t rfl rfl (by omega)) ?_
          refine t_nil ?_
          refine x_then_normal ?_
          refine c_seq ?_
          refine c_cond_t rfl ?_
          refine c_skip ?_
          refine x_then_normal ?_
          refine c_seq ?_
          refine c_block ?_
          refine c_seq ?_
          refine c_region ?_
          refine t_st rfl (st_move rfl) ?_
          obtain ⟨x1877, h1878, hm⟩ := bindS hm
          obtain ⟨j1879, hj1880, hx1881⟩ := idx_some h1878
          obtain ⟨cs1882, hr1883, hcs1884, hA1885, hlt1886⟩ := FZ.get (sz := 1) rfl (by decide) (h1650.le hle1872) hx1881
          obtain rfl := hr1883
          refine t_st rfl (st_index_old j1879 rfl rfl hj1880 hlt1886 hA1885 sl45) ?_
          refine t_st rfl (st_load_old rfl one3 (hcs1884 0 _ rfl)) ?_
          refine t_st rfl (st_assign rfl) ?_
          refine t_st rfl (st_assign rfl) ?_
          refine t_nil ?_
          refine x_then_normal ?_
          refine c_seq ?_
          obtain ⟨x1890, hj1891, hk1891⟩ := bindS hm
          refine c_join (fun b1888 e' hp' => [(0, .slice A1 (l4).length c2), (1, .slice A5 (l8).length c6), (2, .slice A9 (l12).length c10), (8, .pointer (some ⟨g1167, 0, none⟩)), (13, .int .i64 ((k1634 : Int))), (14, .slice A1648 (x1638).length c1649), (15, .int .i64 ((k1873 : Int))), (16, .int .i64 (x1877)), (35, .slice A5 (l8).length c6), (36, .int .i64 ((l8.length : Int))), (37, .int .i64 ((k1634 : Int))), (42, .slice A1648 (x1638).length c1649), (43, .int .i64 ((x1638.length : Int))), (44, .int .i64 ((k1873 : Int))), (56, .bool (x1890))] = e' ∧ (g1167, Cl 40 [.int .i64 (s13.Place), .int .i64 (s13.Long), .int .i64 (s13.Limit)]) :: R = hp' ∧ b1871.Le b1888) ?_ ?_
          ·
            have hm := hj1891
            refine c_region ?_
            refine t_st rfl (st_move rfl) ?_
            refine t_bool rfl (st_lss rfl rfl) (fun hc1892 => ?_) (fun hc1892 => ?_)
            ·
              rw [if_pos hc1892] at hm
              refine t_st rfl (st_move rfl) ?_
              refine t_no 51 rfl rfl rfl rfl rfl ?_
              refine t_no 51 rfl rfl rfl rfl rfl ?_
              refine t_no 51 rfl rfl rfl rfl rfl ?_
              refine t_no 51 rfl rfl rfl rfl rfl ?_
              refine t_st rfl (st_pick_t rfl rfl) ?_
              refine t_nil ?_
              obtain rfl := some1 hm
              exact x_join (e' := [(0, .slice A1 (l4).length c2), (1, .slice A5 (l8).length c6), (2, .slice A9 (l12).length c10), (8, .pointer (some ⟨g1167, 0, none⟩)), (13, .int .i64 ((k1634 : Int))), (14, .slice A1648 (x1638).length c1649), (15, .int .i64 ((k1873 : Int))), (16, .int .i64 (x1877)), (35, .slice A5 (l8).length c6), (36, .int .i64 ((l8.length : Int))), (37, .int .i64 ((k1634 : Int))), (42, .slice A1648 (x1638).length c1649), (43, .int .i64 ((x1638.length : Int))), (44, .int .i64 ((k1873 : Int))), (56, .bool (true))]) (hp' := (g1167, Cl 40 [.int .i64 (s13.Place), .int .i64 (s13.Long), .int .i64 (s13.Limit)]) :: R) ⟨rfl, rfl, rfl, rfl, rfl, rfl, rfl, rfl, rfl, rfl, rfl, rfl, rfl, rfl, rfl, trivial⟩ (.cons_cons _ (.refl _)) ⟨rfl, rfl, (Base.Le.refl _)⟩
            ·
              rw [if_neg hc1892] at hm
              refine t_st rfl (st_move rfl) ?_
              refine t_yes 51 rfl rfl rfl ?_
              refine t_st rfl (st_move rfl) ?_
              refine t_yes 51 rfl rfl rfl ?_
              refine t_st rfl (st_move rfl) ?_
              refine t_yes 51 rfl rfl rfl ?_
              refine t_st rfl (st_len rfl sl22) ?_
              refine t_yes 51 rfl rfl rfl ?_
              refine t_st rfl (st_geq rfl rfl) ?_
              refine t_st rfl (st_pick_f rfl rfl) ?_
              refine t_nil ?_
              obtain rfl := some1 hm
              exact x_join (e' := [(0, .slice A1 (l4).length c2), (1, .slice A5 (l8).length c6), (2, .slice A9 (l12).length c10), (8, .pointer (some ⟨g1167, 0, none⟩)), (13, .int .i64 ((k1634 : Int))), (14, .slice A1648 (x1638).length c1649), (15, .int .i64 ((k1873 : Int))), (16, .int .i64 (x1877)), (35, .slice A5 (l8).length c6), (36, .int .i64 ((l8.length : Int))), (37, .int .i64 ((k1634 : Int))), (42, .slice A1648 (x1638).length c1649), (43, .int .i64 ((x1638.length : Int))), (44, .int .i64 ((k1873 : Int))), (56, .bool (decide ((l4.length : Int) ≤ x1877)))]) (hp' := (g1167, Cl 40 [.int .i64 (s13.Place), .int .i64 (s13.Long), .int .i64 (s13.Limit)]) :: R) ⟨rfl, rfl, rfl, rfl, rfl, rfl, rfl, rfl, rfl, rfl, rfl, rfl, rfl, rfl, rfl, trivial⟩ (.cons_cons _ (.refl _)) ⟨rfl, rfl, (Base.Le.refl _)⟩
          ·
            rintro b1888 _ _ ⟨rfl, rfl, hle1889⟩
            have hm := hk1891
            refine c_cond _ rfl (fun hc1893 => ?_) (fun hc1893 => ?_)
            ·
              rw [if_pos hc1893] at hm
              refine c_seq ?_
              refine c_region ?_
              refine t_st rfl (st_assign rfl) ?_
              refine t_st rfl (st_assign rfl) ?_
              refine t_nil ?_
              refine x_then_normal ?_
              refine c_ret ?_
              refine x_then_ret ?_
              refine x_block_ret ?_
              refine x_then_ret ?_
              refine x_then_ret ?_
              refine x_block_ret ?_
              refine x_block_ret ?_
              refine x_then_ret ?_
              refine x_then_ret ?_
              refine x_block_ret ?_
              refine x_then_ret ?_
              have hq1894 := houtL1651 _ (Option.some.inj hm).symm
              rw [hq1894] at hk1876
              have hm := elimR hk1876
              have hq1895 := houtL1172 _ (Option.some.inj hm).symm
              rw [hq1895] at hk1637
              have hm := elimR hk1637
              obtain ⟨rfl, rfl⟩ := some2 hm
              exact retM (rs := [.tmp 10, .tmp 11]) [.slice none 0 0, .int .i64 (2)] (hle1633.trans (hle1872.trans hle1889)) (by decide) rfl ⟨rfl, ⟨rfl, trivial⟩⟩ rfl (hp' := ([] ++ R)) (.cons _ (.refl _)) ⟨none, 0, [], rfl, rfl, OS.nil⟩
            ·
              rw [if_neg (fun hh => Bool.noConfusion (hh.symm.trans hc1893))] at hm
              refine c_skip ?_
              refine x_then_normal ?_
              refine c_seq ?_
              obtain ⟨x1940, hj1941, hk1941⟩ := bindS hm
              refine c_join (fun b1938 e' hp' => [(0, .slice A1 (l4).length c2), (1, .slice A5 (l8).length c6), (2, .slice A9 (l12).length c10), (8, .pointer (some ⟨g1167, 0, none⟩)), (13, .int .i64 ((k1634 : Int))), (14, .slice A1648 (x1638).length c1649), (15, .int .i64 ((k1873 : Int))), (16, .int .i64 (x1877)), (35, .slice A5 (l8).length c6), (36, .int .i64 ((l8.length : Int))), (37, .int .i64 ((k1634 : Int))), (42, .slice A1648 (x1638).length c1649), (43, .int .i64 ((x1638.length : Int))), (44, .int .i64 ((k1873 : Int))), (71, .bool (x1940))] = e' ∧ (g1167, Cl 40 [.int .i64 (s13.Place), .int .i64 (s13.Long), .int .i64 (s13.Limit)]) :: R = hp' ∧ b1888.Le b1938) ?_ ?_
              ·
                have hm := hj1941
                by_cases hc1963 : (k1873 : Int) = 0
                ·
                  rw [if_pos hc1963] at hm
                  obtain ⟨x1964, h1965, hm⟩ := bindS hm
                  obtain ⟨x1974, h1975, hm⟩ := bindS hm
                  refine D_drawS ((g1167, Cl 40 [.int .i64 (s13.Place), .int .i64 (s13.Long), .int .i64 (s13.Limit)]) :: R) mixed ?_
                  refine D_st (Base.Le.refl _) 0 rfl (by kernel_rfl) (by kernel_rfl) (by kernel_rfl) rfl (st_move rfl) (.cons_cons _ (.refl _)) ?_
                  refine D_st (Base.Le.refl _) 1 rfl (by kernel_rfl) (by kernel_rfl) (by kernel_rfl) rfl (st_eql_t rfl rfl hc1963) (.cons_cons _ (.refl _)) ?_
                  refine D_st (Base.Le.refl _) 2 rfl (by kernel_rfl) (by kernel_rfl) (by kernel_rfl) rfl (st_move rfl) (.cons_cons _ (.refl _)) ?_
                  refine D_yes (Base.Le.refl _) 3 59 rfl (by kernel_rfl) (by kernel_rfl) (by kernel_rfl) rfl rfl rfl rfl (st_move rfl) (.cons_cons _ (.refl _)) ?_
                  refine D_yes (Base.Le.refl _) 4 59 rfl (by kernel_rfl) (by kernel_rfl) (by kernel_rfl) rfl rfl rfl rfl (st_move rfl) (.cons_cons _ (.refl _)) ?_
                  obtain ⟨j1966, hj1967, hx1968⟩ := idx_some h1965
                  obtain ⟨cs1969, hr1970, hcs1971, hA1972, hlt1973⟩ := FZ.get (sz := 6) rfl (by decide) (h3.le (hle1633.trans (hle1872.trans hle1889))) hx1968
                  obtain ⟨_, _, rfl, rfl, ⟨_, _, rfl, rfl, ⟨_, _, rfl, rfl, ⟨_, _, rfl, rfl, ⟨_, _, rfl, rfl, rfl⟩⟩⟩⟩⟩ := hr1970
                  refine D_yes (Base.Le.refl _) 5 59 rfl (by kernel_rfl) (by kernel_rfl) (by kernel_rfl) rfl rfl rfl rfl (st_index_old j1966 rfl rfl hj1967 hlt1973 hA1972 sl22) (.cons_cons _ (.refl _)) ?_
                  refine D_yes (Base.Le.refl _) 6 59 rfl (by kernel_rfl) (by kernel_rfl) (by kernel_rfl) rfl rfl rfl rfl (st_field_old rfl hA1972 fld36_0) (.cons_cons _ (.refl _)) ?_
                  refine D_yes (Base.Le.refl _) 7 59 rfl (by kernel_rfl) (by kernel_rfl) (by kernel_rfl) rfl rfl rfl rfl (st_load_old rfl one3 (hcs1971 0 _ rfl)) (.cons_cons _ (.refl _)) ?_
                  refine D_yes (Base.Le.refl _) 8 59 rfl (by kernel_rfl) (by kernel_rfl) (by kernel_rfl) rfl rfl rfl rfl (st_move rfl) (.cons_cons _ (.refl _)) ?_
                  refine D_yes (Base.Le.refl _) 9 59 rfl (by kernel_rfl) (by kernel_rfl) (by kernel_rfl) rfl rfl rfl rfl (st_move rfl) (.cons_cons _ (.refl _)) ?_
                  obtain ⟨j1976, hj1977, hx1978⟩ := idx_some h1975
                  obtain ⟨cs1979, hr1980, hcs1981, hA1982, hlt1983⟩ := FZ.get (sz := 2) rfl (by decide) (h11.le (hle1633.trans (hle1872.trans hle1889))) hx1978
                  obtain ⟨_, _, rfl, rfl, rfl⟩ := hr1980
                  refine D_yes (Base.Le.refl _) 10 59 rfl (by kernel_rfl) (by kernel_rfl) (by kernel_rfl) rfl rfl rfl rfl (st_index_old j1976 rfl rfl hj1977 hlt1983 hA1982 sl38) (.cons_cons _ (.refl _)) ?_
                  refine D_yes (Base.Le.refl _) 11 59 rfl (by kernel_rfl) (by kernel_rfl) (by kernel_rfl) rfl rfl rfl rfl (st_field_old rfl hA1982 fld47_0) (.cons_cons _ (.refl _)) ?_
                  refine D_yes (Base.Le.refl _) 12 59 rfl (by kernel_rfl) (by kernel_rfl) (by kernel_rfl) rfl rfl rfl rfl (st_load_old rfl one3 (hcs1981 0 _ rfl)) (.cons_cons _ (.refl _)) ?_
                  refine D_yes (Base.Le.refl _) 13 59 rfl (by kernel_rfl) (by kernel_rfl) (by kernel_rfl) rfl rfl rfl rfl (st_neq rfl rfl) (.cons_cons _ (.refl _)) ?_
                  refine D_st (Base.Le.refl _) 14 rfl (by kernel_rfl) (by kernel_rfl) (by kernel_rfl) rfl (st_pick_t rfl rfl) (.cons_cons _ (.refl _)) ?_
                  refine D_done (by kernel_rfl) ?_
                  obtain rfl := some1 hm
                  exact x_join (e' := [(0, .slice A1 (l4).length c2), (1, .slice A5 (l8).length c6), (2, .slice A9 (l12).length c10), (8, .pointer (some ⟨g1167, 0, none⟩)), (13, .int .i64 ((k1634 : Int))), (14, .slice A1648 (x1638).length c1649), (15, .int .i64 ((k1873 : Int))), (16, .int .i64 (x1877)), (35, .slice A5 (l8).length c6), (36, .int .i64 ((l8.length : Int))), (37, .int .i64 ((k1634 : Int))), (42, .slice A1648 (x1638).length c1649), (43, .int .i64 ((x1638.length : Int))), (44, .int .i64 ((k1873 : Int))), (71, .bool (decide (x1964.From ≠ x1974.Home)))]) (hp' := (g1167, Cl 40 [.int .i64 (s13.Place), .int .i64 (s13.Long), .int .i64 (s13.Limit)]) :: R) ⟨rfl, rfl, rfl, rfl, rfl, rfl, rfl, rfl, rfl, rfl, rfl, rfl, rfl, rfl, rfl, trivial⟩ (.cons_cons _ (.refl _)) ⟨rfl, rfl, (Base.Le.refl _)⟩
                ·
                  rw [if_neg hc1963] at hm
                  refine D_drawS ((g1167, Cl 40 [.int .i64 (s13.Place), .int .i64 (s13.Long), .int .i64 (s13.Limit)]) :: R) mixed ?_
                  refine D_st (Base.Le.refl _) 0 rfl (by kernel_rfl) (by kernel_rfl) (by kernel_rfl) rfl (st_move rfl) (.cons_cons _ (.refl _)) ?_
                  refine D_st (Base.Le.refl _) 1 rfl (by kernel_rfl) (by kernel_rfl) (by kernel_rfl) rfl (st_eql_f rfl rfl hc1963) (.cons_cons _ (.refl _)) ?_
                  refine D_st (Base.Le.refl _) 2 rfl (by kernel_rfl) (by kernel_rfl) (by kernel_rfl) rfl (st_move rfl) (.cons_cons _ (.refl _)) ?_
                  refine D_no (Base.Le.refl _) 3 59 rfl (by kernel_rfl) (by kernel_rfl) (by kernel_rfl) rfl rfl rfl rfl rfl (.cons_cons _ (.refl _)) ?_
                  refine D_no (Base.Le.refl _) 4 59 rfl (by kernel_rfl) (by kernel_rfl) (by kernel_rfl) rfl rfl rfl rfl rfl (.cons_cons _ (.refl _)) ?_
                  refine D_no (Base.Le.refl _) 5 59 rfl (by kernel_rfl) (by kernel_rfl) (by kernel_rfl) rfl rfl rfl rfl rfl (.cons_cons _ (.refl _)) ?_
                  refine D_no (Base.Le.refl _) 6 59 rfl (by kernel_rfl) (by kernel_rfl) (by kernel_rfl) rfl rfl rfl rfl rfl (.cons_cons _ (.refl _)) ?_
                  refine D_no (Base.Le.refl _) 7 59 rfl (by kernel_rfl) (by kernel_rfl) (by kernel_rfl) rfl rfl rfl rfl rfl (.cons_cons _ (.refl _)) ?_
                  refine D_no (Base.Le.refl _) 8 59 rfl (by kernel_rfl) (by kernel_rfl) (by kernel_rfl) rfl rfl rfl rfl rfl (.cons_cons _ (.refl _)) ?_
                  refine D_no (Base.Le.refl _) 9 59 rfl (by kernel_rfl) (by kernel_rfl) (by kernel_rfl) rfl rfl rfl rfl rfl (.cons_cons _ (.refl _)) ?_
                  refine D_no (Base.Le.refl _) 10 59 rfl (by kernel_rfl) (by kernel_rfl) (by kernel_rfl) rfl rfl rfl rfl rfl (.cons_cons _ (.refl _)) ?_
                  refine D_no (Base.Le.refl _) 11 59 rfl (by kernel_rfl) (by kernel_rfl) (by kernel_rfl) rfl rfl rfl rfl rfl (.cons_cons _ (.refl _)) ?_
                  refine D_no (Base.Le.refl _) 12 59 rfl (by kernel_rfl) (by kernel_rfl) (by kernel_rfl) rfl rfl rfl rfl rfl (.cons_cons _ (.refl _)) ?_
                  refine D_no (Base.Le.refl _) 13 59 rfl (by kernel_rfl) (by kernel_rfl) (by kernel_rfl) rfl rfl rfl rfl rfl (.cons_cons _ (.refl _)) ?_
                  refine D_st (Base.Le.refl _) 14 rfl (by kernel_rfl) (by kernel_rfl) (by kernel_rfl) rfl (st_pick_f rfl rfl) (.cons_cons _ (.refl _)) ?_
                  refine D_done (by kernel_rfl) ?_
                  obtain rfl := some1 hm
                  exact x_join (e' := [(0, .slice A1 (l4).length c2), (1, .slice A5 (l8).length c6), (2, .slice A9 (l12).length c10), (8, .pointer (some ⟨g1167, 0, none⟩)), (13, .int .i64 ((k1634 : Int))), (14, .slice A1648 (x1638).length c1649), (15, .int .i64 ((k1873 : Int))), (16, .int .i64 (x1877)), (35, .slice A5 (l8).length c6), (36, .int .i64 ((l8.length : Int))), (37, .int .i64 ((k1634 : Int))), (42, .slice A1648 (x1638).length c1649), (43, .int .i64 ((x1638.length : Int))), (44, .int .i64 ((k1873 : Int))), (71, .bool (false))]) (hp' := (g1167, Cl 40 [.int .i64 (s13.Place), .int .i64 (s13.Long), .int .i64 (s13.Limit)]) :: R) ⟨rfl, rfl, rfl, rfl, rfl, rfl, rfl, rfl, rfl, rfl, rfl, rfl, rfl, rfl, rfl, trivial⟩ (.cons_cons _ (.refl _)) ⟨rfl, rfl, (Base.Le.refl _)⟩
              ·
                rintro b1938 _ _ ⟨rfl, rfl, hle1939⟩
                have hm := hk1941
                refine c_cond _ rfl (fun hc1984 => ?_) (fun hc1984 => ?_)
                ·
                  rw [if_pos hc1984] at hm
                  refine c_seq ?_
                  refine c_region ?_
                  refine t_st rfl (st_assign rfl) ?_
                  refine t_st rfl (st_assign rfl) ?_
                  refine t_nil ?_
                  refine x_then_normal ?_
                  refine c_ret ?_
                  refine x_then_ret ?_
                  refine x_block_ret ?_
                  refine x_then_ret ?_
                  refine x_then_ret ?_
                  refine x_block_ret ?_
                  refine x_block_ret ?_
                  refine x_then_ret ?_
                  refine x_then_ret ?_
                  refine x_block_ret ?_
                  refine x_then_ret ?_
                  have hq1985 := houtL1651 _ (Option.some.inj hm).symm
                  rw [hq1985] at hk1876
                  have hm := elimR hk1876
                  have hq1986 := houtL1172 _ (Option.some.inj hm).symm
                  rw [hq1986] at hk1637
                  have hm := elimR hk1637
                  obtain ⟨rfl, rfl⟩ := some2 hm
                  exact retM (rs := [.tmp 10, .tmp 11]) [.slice none 0 0, .int .i64 (13)] (hle1633.trans (hle1872.trans (hle1889.trans hle1939))) (by decide) rfl ⟨rfl, ⟨rfl, trivial⟩⟩ rfl (hp' := ([] ++ R)) (.cons _ (.refl _)) ⟨none, 0, [], rfl, rfl, OS.nil⟩
                ·
                  rw [if_neg (fun hh => Bool.noConfusion (hh.symm.trans hc1984))] at hm
                  refine c_skip ?_
                  refine x_then_normal ?_
                  refine c_seq ?_
                  refine c_region ?_
                  refine t_st rfl (st_move rfl) ?_
                  refine t_st rfl (st_gtr rfl rfl) ?_
                  refine t_nil ?_
                  refine x_then_normal ?_
                  refine c_cond _ rfl (fun hc1987 => ?_) (fun hc1987 => ?_)
                  ·
                    rw [if_pos (of_decide_eq_true hc1987)] at hm
                    refine c_seq ?_
                    refine c_region ?_
                    refine t_st rfl (st_move rfl) ?_
                    refine t_st rfl (st_move rfl) ?_
                    refine t_st rfl (st_move rfl) ?_
                    obtain ⟨_, h1988, hm⟩ := bindS hm
                    have h1988 := (chk_some h1988).2
                    refine t_st rfl (st_sub rfl rfl h1988) ?_
                    obtain ⟨x1989, h1990, hm⟩ := bindS hm
                    obtain ⟨j1991, hj1992, hx1993⟩ := idx_some h1990
                    obtain ⟨cs1994, hr1995, hcs1996, hA1997, hlt1998⟩ := FZ.get (sz := 1) rfl (by decide) (h1650.le (hle1872.trans (hle1889.trans hle1939))) hx1993
                    obtain rfl := hr1995
                    refine t_st rfl (st_index_old j1991 rfl rfl hj1992 hlt1998 hA1997 sl45) ?_
                    refine t_st rfl (st_load_old rfl one3 (hcs1996 0 _ rfl)) ?_
                    obtain ⟨x1999, h2000, hm⟩ := bindS hm
                    obtain ⟨j2001, hj2002, hx2003⟩ := idx_some h2000
                    obtain ⟨cs2004, hr2005, hcs2006, hA2007, hlt2008⟩ := FZ.get (sz := 6) rfl (by decide) (h3.le (hle1633.trans (hle1872.trans (hle1889.trans hle1939)))) hx2003
                    obtain ⟨_, _, rfl, rfl, ⟨_, _, rfl, rfl, ⟨_, _, rfl, rfl, ⟨_, _, rfl, rfl, ⟨_, _, rfl, rfl, rfl⟩⟩⟩⟩⟩ := hr2005
                    refine t_st rfl (st_index_old j2001 rfl rfl hj2002 hlt2008 hA2007 sl22) ?_
                    refine t_st rfl (st_loadN_old (vs := [.int .i64 (x1999.From), .int .i64 (x1999.To), .int .i64 (x1999.Dep), .int .i64 (x1999.Arr), .int .i64 (x1999.Km), .int .i64 (x1999.Units)]) 6 rfl agg36 hA2007 rfl (fun j u hu => hcs2006 j u hu)) ?_
                    refine t_do rfl (u_alloc [.int .i64 0, .int .i64 0, .int .i64 0, .int .i64 0, .int .i64 0, .int .i64 0] zero36 rfl) ?_
                    rintro _ _ ⟨g2009, rfl, rfl⟩
                    refine t_do rfl (u_storeN (vs := [_, _, _, _, _, _]) 0 6 rfl rfl rfl siz36 rfl (by intro u hu; simp only [List.mem_cons, List.not_mem_nil, or_false] at hu; rcases hu with rfl | rfl | rfl | rfl | rfl | rfl <;> rfl) rfl (by simp)) ?_
                    rintro _ _ rfl
                    refine t_nil ?_
                    refine x_then_normal ?_
                    obtain ⟨x2054, hj2055, hk2055⟩ := bindS hm
                    refine c_join (fun b2052 e' hp' => [(0, .slice A1 (l4).length c2), (1, .slice A5 (l8).length c6), (2, .slice A9 (l12).length c10), (8, .pointer (some ⟨g1167, 0, none⟩)), (13, .int .i64 ((k1634 : Int))), (14, .slice A1648 (x1638).length c1649), (35, .slice A5 (l8).length c6), (36, .int .i64 ((l8.length : Int))), (37, .int .i64 ((k1634 : Int))), (42, .slice A1648 (x1638).length c1649), (43, .int .i64 ((x1638.length : Int))), (44, .int .i64 ((k1873 : Int))), (99, .bool (x2054))] = e' ∧ (g1167, Cl 40 [.int .i64 (s13.Place), .int .i64 (s13.Long), .int .i64 (s13.Limit)]) :: R = hp' ∧ b1938.Le b2052) ?_ ?_
                    ·
                      have hm := hj2055
                      obtain ⟨x2077, h2078, hm⟩ := bindS hm
                      by_cases hc2087 : x1999.To ≠ x2077.From
                      ·
                        rw [if_pos hc2087] at hm
                        refine D_drawS ((g2009, Cl 36 [.int .i64 (x1999.From), .int .i64 (x1999.To), .int .i64 (x1999.Dep), .int .i64 (x1999.Arr), .int .i64 (x1999.Km), .int .i64 (x1999.Units)]) :: (g1167, Cl 40 [.int .i64 (s13.Place), .int .i64 (s13.Long), .int .i64 (s13.Limit)]) :: R) mixed ?_
                        refine D_st (Base.Le.refl _) 0 rfl (by kernel_rfl) (by kernel_rfl) (by kernel_rfl) rfl (st_field rfl fld36_1) (.cons_cons _ (.cons_cons _ (.refl _))) ?_
                        refine D_st (Base.Le.refl _) 1 rfl (by kernel_rfl) (by kernel_rfl) (by kernel_rfl) rfl (st_load 0 rfl one3 rfl rfl) (.cons_cons _ (.cons_cons _ (.refl _))) ?_
                        refine D_st (Base.Le.refl _) 2 rfl (by kernel_rfl) (by kernel_rfl) (by kernel_rfl) rfl (st_move rfl) (.cons_cons _ (.cons_cons _ (.refl _))) ?_
                        refine D_st (Base.Le.refl _) 3 rfl (by kernel_rfl) (by kernel_rfl) (by kernel_rfl) rfl (st_move rfl) (.cons_cons _ (.cons_cons _ (.refl _))) ?_
                        obtain ⟨j2079, hj2080, hx2081⟩ := idx_some h2078
                        obtain ⟨cs2082, hr2083, hcs2084, hA2085, hlt2086⟩ := FZ.get (sz := 6) rfl (by decide) (h3.le (hle1633.trans (hle1872.trans (hle1889.trans hle1939)))) hx2081
                        obtain ⟨_, _, rfl, rfl, ⟨_, _, rfl, rfl, ⟨_, _, rfl, rfl, ⟨_, _, rfl, rfl, ⟨_, _, rfl, rfl, rfl⟩⟩⟩⟩⟩ := hr2083
                        refine D_st (Base.Le.refl _) 4 rfl (by kernel_rfl) (by kernel_rfl) (by kernel_rfl) rfl (st_index_old j2079 rfl rfl hj2080 hlt2086 hA2085 sl22) (.cons_cons _ (.cons_cons _ (.refl _))) ?_
                        refine D_st (Base.Le.refl _) 5 rfl (by kernel_rfl) (by kernel_rfl) (by kernel_rfl) rfl (st_field_old rfl hA2085 fld36_0) (.cons_cons _ (.cons_cons _ (.refl _))) ?_
                        refine D_st (Base.Le.refl _) 6 rfl (by kernel_rfl) (by kernel_rfl) (by kernel_rfl) rfl (st_load_old rfl one3 (hcs2084 0 _ rfl)) (.cons_cons _ (.cons_cons _ (.refl _))) ?_
                        refine D_st (Base.Le.refl _) 7 rfl (by kernel_rfl) (by kernel_rfl) (by kernel_rfl) rfl (st_neq_t rfl rfl hc2087) (.cons_cons _ (.cons_cons _ (.refl _))) ?_
                        refine D_st (Base.Le.refl _) 8 rfl (by kernel_rfl) (by kernel_rfl) (by kernel_rfl) rfl (st_move rfl) (.cons_cons _ (.cons_cons _ (.refl _))) ?_
                        refine D_no (Base.Le.refl _) 9 90 rfl (by kernel_rfl) (by kernel_rfl) (by kernel_rfl) rfl rfl rfl rfl rfl (.cons_cons _ (.cons_cons _ (.refl _))) ?_
                        refine D_no (Base.Le.refl _) 10 90 rfl (by kernel_rfl) (by kernel_rfl) (by kernel_rfl) rfl rfl rfl rfl rfl (.cons_cons _ (.cons_cons _ (.refl _))) ?_
                        refine D_no (Base.Le.refl _) 11 90 rfl (by kernel_rfl) (by kernel_rfl) (by kernel_rfl) rfl rfl rfl rfl rfl (.cons_cons _ (.cons_cons _ (.refl _))) ?_
                        refine D_no (Base.Le.refl _) 12 90 rfl (by kernel_rfl) (by kernel_rfl) (by kernel_rfl) rfl rfl rfl rfl rfl (.cons_cons _ (.cons_cons _ (.refl _))) ?_
                        refine D_no (Base.Le.refl _) 13 90 rfl (by kernel_rfl) (by kernel_rfl) (by kernel_rfl) rfl rfl rfl rfl rfl (.cons_cons _ (.cons_cons _ (.refl _))) ?_
                        refine D_no (Base.Le.refl _) 14 90 rfl (by kernel_rfl) (by kernel_rfl) (by kernel_rfl) rfl rfl rfl rfl rfl (.cons_cons _ (.cons_cons _ (.refl _))) ?_
                        refine D_no (Base.Le.refl _) 15 90 rfl (by kernel_rfl) (by kernel_rfl) (by kernel_rfl) rfl rfl rfl rfl rfl (.cons_cons _ (.cons_cons _ (.refl _))) ?_
                        refine D_no (Base.Le.refl _) 16 90 rfl (by kernel_rfl) (by kernel_rfl) (by kernel_rfl) rfl rfl rfl rfl rfl (.cons_cons _ (.cons_cons _ (.refl _))) ?_
                        refine D_st (Base.Le.refl _) 17 rfl (by kernel_rfl) (by kernel_rfl) (by kernel_rfl) rfl (st_pick_t rfl rfl) (.cons_cons _ (.cons_cons _ (.refl _))) ?_
                        refine D_done (by kernel_rfl) ?_
                        obtain rfl := some1 hm
                        refine x_pullb 1 rfl ?_
                        exact x_join (e' := [(0, .slice A1 (l4).length c2), (1, .slice A5 (l8).length c6), (2, .slice A9 (l12).length c10), (8, .pointer (some ⟨g1167, 0, none⟩)), (13, .int .i64 ((k1634 : Int))), (14, .slice A1648 (x1638).length c1649), (35, .slice A5 (l8).length c6), (36, .int .i64 ((l8.length : Int))), (37, .int .i64 ((k1634 : Int))), (42, .slice A1648 (x1638).length c1649), (43, .int .i64 ((x1638.length : Int))), (44, .int .i64 ((k1873 : Int))), (99, .bool (true))]) (hp' := (g1167, Cl 40 [.int .i64 (s13.Place), .int .i64 (s13.Long), .int .i64 (s13.Limit)]) :: R) ⟨rfl, rfl, rfl, rfl, rfl, rfl, rfl, rfl, rfl, rfl, rfl, rfl, rfl, trivial⟩ (.cons_cons _ (.cons _ (.refl _))) ⟨rfl, rfl, (Base.Le.refl _)⟩
                      ·
                        rw [if_neg hc2087] at hm
                        obtain ⟨x2088, h2089, hm⟩ := bindS hm
                        refine D_drawS ((g2009, Cl 36 [.int .i64 (x1999.From), .int .i64 (x1999.To), .int .i64 (x1999.Dep), .int .i64 (x1999.Arr), .int .i64 (x1999.Km), .int .i64 (x1999.Units)]) :: (g1167, Cl 40 [.int .i64 (s13.Place), .int .i64 (s13.Long), .int .i64 (s13.Limit)]) :: R) mixed ?_
                        refine D_st (Base.Le.refl _) 0 rfl (by kernel_rfl) (by kernel_rfl) (by kernel_rfl) rfl (st_field rfl fld36_1) (.cons_cons _ (.cons_cons _ (.refl _))) ?_
                        refine D_st (Base.Le.refl _) 1 rfl (by kernel_rfl) (by kernel_rfl) (by kernel_rfl) rfl (st_load 0 rfl one3 rfl rfl) (.cons_cons _ (.cons_cons _ (.refl _))) ?_
                        refine D_st (Base.Le.refl _) 2 rfl (by kernel_rfl) (by kernel_rfl) (by kernel_rfl) rfl (st_move rfl) (.cons_cons _ (.cons_cons _ (.refl _))) ?_
                        refine D_st (Base.Le.refl _) 3 rfl (by kernel_rfl) (by kernel_rfl) (by kernel_rfl) rfl (st_move rfl) (.cons_cons _ (.cons_cons _ (.refl _))) ?_
                        obtain ⟨j2079, hj2080, hx2081⟩ := idx_some h2078
                        obtain ⟨cs2082, hr2083, hcs2084, hA2085, hlt2086⟩ := FZ.get (sz := 6) rfl (by decide) (h3.le (hle1633.trans (hle1872.trans (hle1889.trans hle1939)))) hx2081
                        obtain ⟨_, _, rfl, rfl, ⟨_, _, rfl, rfl, ⟨_, _, rfl, rfl, ⟨_, _, rfl, rfl, ⟨_, _, rfl, rfl, rfl⟩⟩⟩⟩⟩ := hr2083
                        refine D_st (Base.Le.refl _) 4 rfl (by kernel_rfl) (by kernel_rfl) (by kernel_rfl) rfl (st_index_old j2079 rfl rfl hj2080 hlt2086 hA2085 sl22) (.cons_cons _ (.cons_cons _ (.refl _))) ?_
                        refine D_st (Base.Le.refl _) 5 rfl (by kernel_rfl) (by kernel_rfl) (by kernel_rfl) rfl (st_field_old rfl hA2085 fld36_0) (.cons_cons _ (.cons_cons _ (.refl _))) ?_
                        refine D_st (Base.Le.refl _) 6 rfl (by kernel_rfl) (by kernel_rfl) (by kernel_rfl) rfl (st_load_old rfl one3 (hcs2084 0 _ rfl)) (.cons_cons _ (.cons_cons _ (.refl _))) ?_
                        refine D_st (Base.Le.refl _) 7 rfl (by kernel_rfl) (by kernel_rfl) (by kernel_rfl) rfl (st_neq_f rfl rfl hc2087) (.cons_cons _ (.cons_cons _ (.refl _))) ?_
                        refine D_st (Base.Le.refl _) 8 rfl (by kernel_rfl) (by kernel_rfl) (by kernel_rfl) rfl (st_move rfl) (.cons_cons _ (.cons_cons _ (.refl _))) ?_
                        refine D_yes (Base.Le.refl _) 9 90 rfl (by kernel_rfl) (by kernel_rfl) (by kernel_rfl) rfl rfl rfl rfl (st_move rfl) (.cons_cons _ (.cons_cons _ (.refl _))) ?_
                        refine D_yes (Base.Le.refl _) 10 90 rfl (by kernel_rfl) (by kernel_rfl) (by kernel_rfl) rfl rfl rfl rfl (st_move rfl) (.cons_cons _ (.cons_cons _ (.refl _))) ?_
                        obtain ⟨j2090, hj2091, hx2092⟩ := idx_some h2089
                        obtain ⟨cs2093, hr2094, hcs2095, hA2096, hlt2097⟩ := FZ.get (sz := 6) rfl (by decide) (h3.le (hle1633.trans (hle1872.trans (hle1889.trans hle1939)))) hx2092
                        obtain ⟨_, _, rfl, rfl, ⟨_, _, rfl, rfl, ⟨_, _, rfl, rfl, ⟨_, _, rfl, rfl, ⟨_, _, rfl, rfl, rfl⟩⟩⟩⟩⟩ := hr2094
                        refine D_yes (Base.Le.refl _) 11 90 rfl (by kernel_rfl) (by kernel_rfl) (by kernel_rfl) rfl rfl rfl rfl (st_index_old j2090 rfl rfl hj2091 hlt2097 hA2096 sl22) (.cons_cons _ (.cons_cons _ (.refl _))) ?_
                        refine D_yes (Base.Le.refl _) 12 90 rfl (by kernel_rfl) (by kernel_rfl) (by kernel_rfl) rfl rfl rfl rfl (st_field_old rfl hA2096 fld36_2) (.cons_cons _ (.cons_cons _ (.refl _))) ?_
                        refine D_yes (Base.Le.refl _) 13 90 rfl (by kernel_rfl) (by kernel_rfl) (by kernel_rfl) rfl rfl rfl rfl (st_load_old rfl one3 (hcs2095 2 _ rfl)) (.cons_cons _ (.cons_cons _ (.refl _))) ?_
                        refine D_yes (Base.Le.refl _) 14 90 rfl (by kernel_rfl) (by kernel_rfl) (by kernel_rfl) rfl rfl rfl rfl (st_field rfl fld36_3) (.cons_cons _ (.cons_cons _ (.refl _))) ?_
                        refine D_yes (Base.Le.refl _) 15 90 rfl (by kernel_rfl) (by kernel_rfl) (by kernel_rfl) rfl rfl rfl rfl (st_load 0 rfl one3 rfl rfl) (.cons_cons _ (.cons_cons _ (.refl _))) ?_
                        refine D_yes (Base.Le.refl _) 16 90 rfl (by kernel_rfl) (by kernel_rfl) (by kernel_rfl) rfl rfl rfl rfl (st_lss rfl rfl) (.cons_cons _ (.cons_cons _ (.refl _))) ?_
                        refine D_st (Base.Le.refl _) 17 rfl (by kernel_rfl) (by kernel_rfl) (by kernel_rfl) rfl (st_pick_f rfl rfl) (.cons_cons _ (.cons_cons _ (.refl _))) ?_
                        refine D_done (by kernel_rfl) ?_
                        obtain rfl := some1 hm
                        refine x_pullb 1 rfl ?_
                        exact x_join (e' := [(0, .slice A1 (l4).length c2), (1, .slice A5 (l8).length c6), (2, .slice A9 (l12).length c10), (8, .pointer (some ⟨g1167, 0, none⟩)), (13, .int .i64 ((k1634 : Int))), (14, .slice A1648 (x1638).length c1649), (35, .slice A5 (l8).length c6), (36, .int .i64 ((l8.length : Int))), (37, .int .i64 ((k1634 : Int))), (42, .slice A1648 (x1638).length c1649), (43, .int .i64 ((x1638.length : Int))), (44, .int .i64 ((k1873 : Int))), (99, .bool (decide (x2088.Dep < x1999.Arr)))]) (hp' := (g1167, Cl 40 [.int .i64 (s13.Place), .int .i64 (s13.Long), .int .i64 (s13.Limit)]) :: R) ⟨rfl, rfl, rfl, rfl, rfl, rfl, rfl, rfl, rfl, rfl, rfl, rfl, rfl, trivial⟩ (.cons_cons _ (.cons _ (.refl _))) ⟨rfl, rfl, (Base.Le.refl _)⟩
                    ·
                      rintro b2052 _ _ ⟨rfl, rfl, hle2053⟩
                      have hm := hk2055
                      refine c_cond _ rfl (fun hc2098 => ?_) (fun hc2098 => ?_)
                      ·
                        rw [if_pos hc2098] at hm
                        refine c_seq ?_
                        refine c_region ?_
                        refine t_st rfl (st_assign rfl) ?_
                        refine t_st rfl (st_assign rfl) ?_
                        refine t_nil ?_
                        refine x_then_normal ?_
                        refine c_ret ?_
                        refine x_block_ret ?_
                        refine x_then_ret ?_
                        refine x_then_ret ?_
                        refine x_block_ret ?_
                        refine x_block_ret ?_
                        refine x_then_ret ?_
                        refine x_then_ret ?_
                        refine x_block_ret ?_
                        refine x_then_ret ?_
                        have hq2099 := houtL1651 _ (Option.some.inj hm).symm
                        rw [hq2099] at hk1876
                        have hm := elimR hk1876
                        have hq2100 := houtL1172 _ (Option.some.inj hm).symm
                        rw [hq2100] at hk1637
                        have hm := elimR hk1637
                        obtain ⟨rfl, rfl⟩ := some2 hm
                        exact retM (rs := [.tmp 10, .tmp 11]) [.slice none 0 0, .int .i64 (13)] (hle1633.trans (hle1872.trans (hle1889.trans (hle1939.trans hle2053)))) (by decide) rfl ⟨rfl, ⟨rfl, trivial⟩⟩ rfl (hp' := ([] ++ R)) (.cons _ (.refl _)) ⟨none, 0, [], rfl, rfl, OS.nil⟩
                      ·
                        rw [if_neg (fun hh => Bool.noConfusion (hh.symm.trans hc2098))] at hm
                        refine c_skip ?_
                        refine x_block_normal ?_
                        refine x_then_normal ?_
                        refine c_region ?_
                        refine t_st rfl (st_add rfl rfl (by omega)) ?_
                        refine t_st rfl (st_move rfl) ?_
                        refine t_nil ?_
                        exact x_againM () (Option.some.inj hm).symm (e' := [(0, .slice A1 (l4).length c2), (1, .slice A5 (l8).length c6), (2, .slice A9 (l12).length c10), (8, .pointer (some ⟨g1167, 0, none⟩)), (13, .int .i64 ((k1634 : Int))), (14, .slice A1648 (x1638).length c1649), (35, .slice A5 (l8).length c6), (36, .int .i64 ((l8.length : Int))), (37, .int .i64 ((k1634 : Int))), (42, .slice A1648 (x1638).length c1649), (43, .int .i64 ((x1638.length : Int))), (44, .int .i64 ((k1873 : Int) + 1))]) (hp' := (g1167, Cl 40 [.int .i64 (s13.Place), .int .i64 (s13.Long), .int .i64 (s13.Limit)]) :: R) ⟨rfl, rfl, rfl, rfl, rfl, rfl, rfl, rfl, rfl, rfl, rfl, rfl, trivial⟩ (.cons_cons _ (.refl _)) ⟨rfl, rfl, ((hle1872.trans (hle1889.trans (hle1939.trans hle2053))))⟩
                  ·
                    rw [if_neg (of_decide_eq_false hc1987)] at hm
                    refine c_skip ?_
                    refine x_block_normal ?_
                    refine x_then_normal ?_
                    refine c_region ?_
                    refine t_st rfl (st_add rfl rfl (by omega)) ?_
                    refine t_st rfl (st_move rfl) ?_
                    refine t_nil ?_
                    exact x_againM () (Option.some.inj hm).symm (e' := [(0, .slice A1 (l4).length c2), (1, .slice A5 (l8).length c6), (2, .slice A9 (l12).length c10), (8, .pointer (some ⟨g1167, 0, none⟩)), (13, .int .i64 ((k1634 : Int))), (14, .slice A1648 (x1638).length c1649), (35, .slice A5 (l8).length c6), (36, .int .i64 ((l8.length : Int))), (37, .int .i64 ((k1634 : Int))), (42, .slice A1648 (x1638).length c1649), (43, .int .i64 ((x1638.length : Int))), (44, .int .i64 ((k1873 : Int) + 1))]) (hp' := (g1167, Cl 40 [.int .i64 (s13.Place), .int .i64 (s13.Long), .int .i64 (s13.Limit)]) :: R) ⟨rfl, rfl, rfl, rfl, rfl, rfl, rfl, rfl, rfl, rfl, rfl, rfl, trivial⟩ (.cons_cons _ (.refl _)) ⟨rfl, rfl, ((hle1872.trans (hle1889.trans hle1939)))⟩
        ·
          rintro _ b1871 _ _ ⟨rfl, rfl, hle1872⟩ hq2101
          rw [hq2101] at hk1876
          have hm := elimL hk1876
          refine c_seq ?_
          refine c_region ?_
          refine t_st rfl (st_lss_f rfl rfl (by omega)) ?_
          refine t_nil ?_
          refine x_then_normal ?_
          refine c_seq ?_
          refine c_cond_f rfl ?_
          refine c_exit ?_
          refine x_then_exit ?_
          refine x_then_exit ?_
          refine x_block_out ?_
          refine x_block_normal ?_
          refine x_then_normal ?_
          refine c_region ?_
          refine t_st rfl (st_add rfl rfl (by omega)) ?_
          refine t_st rfl (st_move rfl) ?_
          refine t_nil ?_
          exact x_againM () (Option.some.inj hm).symm (e' := [(0, .slice A1 (l4).length c2), (1, .slice A5 (l8).length c6), (2, .slice A9 (l12).length c10), (8, .pointer (some ⟨g1167, 0, none⟩)), (35, .slice A5 (l8).length c6), (36, .int .i64 ((l8.length : Int))), (37, .int .i64 ((k1634 : Int) + 1))]) (hp' := (g1167, Cl 40 [.int .i64 (s13.Place), .int .i64 (s13.Long), .int .i64 (s13.Limit)]) :: R) ⟨rfl, rfl, rfl, rfl, rfl, rfl, rfl, trivial⟩ (.cons_cons _ (.refl _)) ⟨rfl, rfl, ((hle1633.trans hle1872))⟩
      ·
        rintro _ b1632 _ _ ⟨rfl, rfl, hle1633⟩ hq2102
        rw [hq2102] at hk1637
        have hm := elimL hk1637
        refine c_seq ?_
        refine c_region ?_
        refine t_st rfl (st_lss_f rfl rfl (by omega)) ?_
        refine t_nil ?_
        refine x_then_normal ?_
        refine c_seq ?_
        refine c_cond_f rfl ?_
        refine c_exit ?_
        refine x_then_exit ?_
        refine x_then_exit ?_
        refine x_block_out ?_
        refine x_then_normal ?_
        refine c_seq ?_
        refine c_region ?_
        refine t_st rfl (st_assign rfl) ?_
        refine t_nil ?_
        refine x_then_normal ?_
        refine c_seq ?_
        refine c_seq ?_
        refine c_region ?_
        refine t_st rfl (st_move rfl) ?_
        refine t_st rfl (st_len rfl sl26) ?_
        refine t_st rfl (st_move rfl) ?_
        refine t_nil ?_
        refine x_then_normal ?_
        refine c_block ?_
        have hb2104 := (FZ.bd (h7.le hle1633))
        obtain ⟨t2245, hl2246, hk2247⟩ := bindS hm
        refine c_forM (fun k2244 => fun l2243 => fun b2236 e' hp' => ∃ (A2240 : Option Addr), ∃ (c2241 : Nat), ∃ (hs2239 : Hp), [(0, .slice A1 (l4).length c2), (2, .slice A9 (l12).length c10), (8, .pointer (some ⟨g1167, 0, none⟩)), (18, .slice A2240 (l2243).length c2241), (102, .slice A5 (l8).length c6), (103, .int .i64 ((l8.length : Int))), (104, .int .i64 ((k2244 : Int)))] = e' ∧ (g1167, Cl 40 [.int .i64 (s13.Place), .int .i64 (s13.Long), .int .i64 (s13.Limit)]) :: (hs2239 ++ R) = hp' ∧ b1632.Le b2236 ∧ OS 45 (OT.fr (RT.list (RT.int .i64))) b2236.w (.slice A2240 l2243.length c2241) l2243 hs2239) hl2246 (e' := [(0, .slice A1 (l4).length c2), (2, .slice A9 (l12).length c10), (8, .pointer (some ⟨g1167, 0, none⟩)), (18, .slice none 0 0), (102, .slice A5 (l8).length c6), (103, .int .i64 ((l8.length : Int))), (104, .int .i64 0)]) (hp' := (g1167, Cl 40 [.int .i64 (s13.Place), .int .i64 (s13.Long), .int .i64 (s13.Limit)]) :: ([] ++ R)) ⟨rfl, rfl, rfl, rfl, rfl, rfl, rfl, trivial⟩ (.cons_cons _ (.refl _)) ⟨none, 0, [], rfl, rfl, (Base.Le.refl _), OS.nil⟩ ?_ ?_
        ·
          rintro k2244 l2243 b2236 _ _ oL2103 hknL2103 ⟨A2240, c2241, hs2239, rfl, rfl, hle2237, h2242⟩ hstepL2103 houtL2103
          unfold mFishref2InspectOf_L2103 at hstepL2103
          have hm := hstepL2103
          refine c_seq ?_
          refine c_region ?_
          refine t_st rfl (st_lss_t rfl rfl (by omega)) ?_
          refine t_nil ?_
          refine x_then_normal ?_
          refine c_seq ?_
          refine c_cond_t rfl ?_
          refine c_skip ?_
          refine x_then_normal ?_
          refine c_seq ?_
          refine c_block ?_
          refine c_seq ?_
          refine c_region ?_
          refine t_st rfl (st_move rfl) ?_
          obtain ⟨x2248, h2249, hm⟩ := bindS hm
          obtain ⟨j2250, hj2251, hx2252⟩ := idx_some h2249
          obtain ⟨cs2253, hr2254, hcs2255, hA2256, hlt2257⟩ := FZ.get (sz := 1) rfl (by decide) (h7.le (hle1633.trans hle2237)) hx2252
          obtain ⟨A2258, c2259, rfl, h2260⟩ := hr2254
          refine t_st rfl (st_index_old j2250 rfl rfl hj2251 hlt2257 hA2256 sl26) ?_
          refine t_st rfl (st_load_old rfl one45 (hcs2255 0 _ rfl)) ?_
          refine t_st rfl (st_assign rfl) ?_
          refine t_st rfl (st_assign rfl) ?_
          refine t_nil ?_
          refine x_then_normal ?_
          refine c_seq ?_
          obtain ⟨x2280, h2281, hm⟩ := bindS hm
          obtain ⟨⟨x2290, l2291⟩, hcl2292, hm⟩ := bindS hm
          have hm := (unc2E hm)
          refine D_drawS ((g1167, Cl 40 [.int .i64 (s13.Place), .int .i64 (s13.Long), .int .i64 (s13.Limit)]) :: (hs2239 ++ R)) mixed ?_
          refine D_st (Base.Le.refl _) 0 rfl (by kernel_rfl) (by kernel_rfl) (by kernel_rfl) rfl (st_move rfl) (.cons_cons _ (sub_app hs2239 (.refl _))) ?_
          refine D_st (Base.Le.refl _) 1 rfl (by kernel_rfl) (by kernel_rfl) (by kernel_rfl) rfl (st_move rfl) (.cons_cons _ (sub_app hs2239 (.refl _))) ?_
          refine D_st (Base.Le.refl _) 2 rfl (by kernel_rfl) (by kernel_rfl) (by kernel_rfl) rfl (st_move rfl) (.cons_cons _ (sub_app hs2239 (.refl _))) ?_
          refine D_st (Base.Le.refl _) 3 rfl (by kernel_rfl) (by kernel_rfl) (by kernel_rfl) rfl (st_move rfl) (.cons_cons _ (sub_app hs2239 (.refl _))) ?_
          obtain ⟨j2282, hj2283, hx2284⟩ := idx_some h2281
          obtain ⟨cs2285, hr2286, hcs2287, hA2288, hlt2289⟩ := FZ.get (sz := 2) rfl (by decide) (h11.le (hle1633.trans hle2237)) hx2284
          obtain ⟨_, _, rfl, rfl, rfl⟩ := hr2286
          refine D_st (Base.Le.refl _) 4 rfl (by kernel_rfl) (by kernel_rfl) (by kernel_rfl) rfl (st_index_old j2282 rfl rfl hj2283 hlt2289 hA2288 sl38) (.cons_cons _ (sub_app hs2239 (.refl _))) ?_
          refine D_st (Base.Le.refl _) 5 rfl (by kernel_rfl) (by kernel_rfl) (by kernel_rfl) rfl (st_loadN_old (vs := [.int .i64 (x2280.Home), .int .i64 (x2280.Km)]) 2 rfl agg47 hA2288 rfl (fun j u hu => hcs2287 j u hu)) (.cons_cons _ (sub_app hs2239 (.refl _))) ?_
          refine D_st (Base.Le.refl _) 6 rfl (by kernel_rfl) (by kernel_rfl) (by kernel_rfl) rfl (st_loadD (vs := [_, _, _]) 0 3 rfl agg40 rfl rfl rfl) (.cons_cons _ (sub_app hs2239 (.refl _))) ?_
          refine D_all [7] (by kernel_rfl) rfl ?_
          refine R_callGl (Base.Le.refl _) rfl rfl _ call50 rfl (cFishref2Positions _ _ l4 x2248 x2280 s13 A1 c2 A2258 c2259 (h3.le (hle1633.trans hle2237)) h2260 x2290 l2291 hcl2292) ?_ ?_
          ·
            rintro _ b2293 _ hle2294 ⟨A2295, c2296, hs2297, rfl, rfl, h2298⟩
            refine ⟨.inr (sub_skip hs2297 (.cons_cons _ (sub_app hs2239 (.refl _)))), ?_⟩
            refine d_in1 [] [_] hs2297 (hs2239 ++ R) rfl ?_
            refine D_st hle2294 8 rfl (by kernel_rfl) (by kernel_rfl) (by kernel_rfl) rfl (st_move rfl) (.cons_cons _ (sub_skip hs2297 (sub_app hs2239 (.refl _)))) ?_
            refine D_st hle2294 9 rfl (by kernel_rfl) (by kernel_rfl) (by kernel_rfl) rfl (st_extract rfl rfl) (.cons_cons _ (sub_skip hs2297 (sub_app hs2239 (.refl _)))) ?_
            refine D_st hle2294 10 rfl (by kernel_rfl) (by kernel_rfl) (by kernel_rfl) rfl (st_extract rfl rfl) (.cons_cons _ (sub_skip hs2297 (sub_app hs2239 (.refl _)))) ?_
            refine D_st hle2294 11 rfl (by kernel_rfl) (by kernel_rfl) (by kernel_rfl) rfl (st_assign rfl) (.cons_cons _ (sub_skip hs2297 (sub_app hs2239 (.refl _)))) ?_
            refine D_st hle2294 12 rfl (by kernel_rfl) (by kernel_rfl) (by kernel_rfl) rfl (st_assign rfl) (.cons_cons _ (sub_skip hs2297 (sub_app hs2239 (.refl _)))) ?_
            refine D_done (by kernel_rfl) ?_
            refine x_then_normal ?_
            refine c_seq ?_
            refine c_seq ?_
            refine c_region ?_
            refine t_st rfl (st_move rfl) ?_
            refine t_st rfl (st_not rfl) ?_
            refine t_nil ?_
            refine x_then_normal ?_
            refine c_cond _ rfl (fun hc2299 => ?_) (fun hc2299 => ?_)
            ·
              rw [if_neg (fun hh => Bool.noConfusion (hh.symm.trans (notT hc2299)))] at hm
              refine c_seq ?_
              refine c_region ?_
              refine t_st rfl (st_assign rfl) ?_
              refine t_st rfl (st_assign rfl) ?_
              refine t_nil ?_
              refine x_then_normal ?_
              refine c_ret ?_
              refine x_then_ret ?_
              refine x_block_ret ?_
              refine x_then_ret ?_
              refine x_then_ret ?_
              refine x_block_ret ?_
              refine x_then_ret ?_
              have hq2300 := houtL2103 _ (Option.some.inj hm).symm
              rw [hq2300] at hk2247
              have hm := elimR hk2247
              obtain ⟨rfl, rfl⟩ := some2 hm
              exact retM (rs := [.tmp 10, .tmp 11]) [.slice none 0 0, .int .i64 (9)] (hle1633.trans (hle2237.trans hle2294)) (by decide) rfl ⟨rfl, ⟨rfl, trivial⟩⟩ rfl (hp' := ([] ++ R)) (.cons _ (sub_skip hs2297 (sub_skip hs2239 (.refl _)))) ⟨none, 0, [], rfl, rfl, OS.nil⟩
            ·
              rw [if_pos (notF hc2299)] at hm
              refine c_skip ?_
              refine x_then_normal ?_
              refine c_region ?_
              refine t_st rfl (st_move rfl) ?_
              refine t_st rfl (st_move rfl) ?_
              refine t_do rfl (u_bslice (el := 45) [(0, .slice A2295 (l2291).length c2296)] [.slice A2295 (l2291).length c2296] rfl (fun _ => by kernel_rfl)) ?_
              rintro _ _ ⟨g2301, rfl, rfl⟩
              refine t_frz [_, _] hs2297 (hs2239 ++ R) rfl ?_
              intro b2302 hle2303 hz2304
              have h2305 := OS.frz (l := l2291) h2298 hle2303.cells hz2304
              obtain ⟨_, h2306, hm⟩ := bindS hm
              have h2306 := room_some h2306
              refine t_do rfl (u_appOS (r := (RT.list (RT.int .i64))) (l := l2243) [_, _] R [[.slice A2295 (l2291).length c2296]] [l2291] rfl (by decide) sl26 inf45 rfl rfl rfl rfl (h2242.le (hle2294.trans hle2303)) rfl (fun w ho => Rd.own (i := 0) ho rfl) ⟨(RT.list_mk h2305), trivial⟩ h2306) ?_
              rintro _ _ ⟨hs2307, rfl, h2308⟩
              obtain ⟨A2309, c2310, rfl, _⟩ := h2308.form
              refine t_st rfl (st_assign rfl) ?_
              refine t_nil ?_
              refine x_block_normal ?_
              refine x_then_normal ?_
              refine c_region ?_
              refine t_st rfl (st_add rfl rfl (by omega)) ?_
              refine t_st rfl (st_move rfl) ?_
              refine t_nil ?_
              refine x_pullb 1 rfl ?_
              exact x_againM (l2243 ++ [l2291]) (Option.some.inj hm).symm (e' := [(0, .slice A1 (l4).length c2), (2, .slice A9 (l12).length c10), (8, .pointer (some ⟨g1167, 0, none⟩)), (18, .slice A2309 (l2243 ++ [l2291]).length c2310), (102, .slice A5 (l8).length c6), (103, .int .i64 ((l8.length : Int))), (104, .int .i64 ((k2244 : Int) + 1))]) (hp' := (g1167, Cl 40 [.int .i64 (s13.Place), .int .i64 (s13.Long), .int .i64 (s13.Limit)]) :: (hs2307 ++ R)) ⟨rfl, rfl, rfl, rfl, rfl, rfl, rfl, trivial⟩ (.cons_cons _ (.cons _ (sub_app hs2307 (.refl _)))) ⟨A2309, c2310, hs2307, rfl, rfl, ((hle2237.trans (hle2294.trans hle2303))), h2308⟩
          exact R_nil
        ·
          rintro l2243 b2236 _ _ ⟨A2240, c2241, hs2239, rfl, rfl, hle2237, h2242⟩ hq2311
          rw [hq2311] at hk2247
          have hm := elimL hk2247
          refine c_seq ?_
          refine c_region ?_
          refine t_st rfl (st_lss_f rfl rfl (by omega)) ?_
          refine t_nil ?_
          refine x_then_normal ?_
          refine c_seq ?_
          refine c_cond_f rfl ?_
          refine c_exit ?_
          refine x_then_exit ?_
          refine x_then_exit ?_
          refine x_block_out ?_
          refine x_then_normal ?_
          refine c_seq ?_
          refine c_region ?_
          refine t_st rfl (st_move rfl) ?_
          refine t_st rfl (st_assign rfl) ?_
          refine t_st rfl (st_assign rfl) ?_
          refine t_nil ?_
          refine x_then_normal ?_
          refine c_ret ?_
          obtain ⟨rfl, rfl⟩ := some2 hm
          exact retM (rs := [.tmp 10, .tmp 11]) [.slice A2240 (l2243).length c2241, .int .i64 (0)] (hle1633.trans hle2237) (by decide) rfl ⟨rfl, ⟨rfl, trivial⟩⟩ rfl (hp' := (hs2239 ++ R)) (.cons _ (sub_app hs2239 (.refl _))) ⟨A2240, c2241, hs2239, rfl, rfl, h2242⟩

set_option maxRecDepth 20000 in
theorem cFishkeep2FleetInspected_1 (b : Base) (R : Hp) (l4 : (List Int)) (l8 : (List Int)) (A1 : Option Addr) (c2 : Nat) (A5 : Option Addr) (c6 : Nat) (h3 : FZ (RT.int .i64) b.w A1 c2 l4) (h7 : FZ (RT.int .i64) b.w A5 c6 l8) (x9 : Bool) (hm : mFishkeep2FleetInspected_1 l4 l8 = some x9) :
    CallsG Try.prog 22 [.slice A1 (l4).length c2, .slice A5 (l8).length c6] b (R) (fun v b' hp' => .bool (x9) = v ∧ R = hp') := by
  refine fn_enterG 10 Try.func22 rfl Try.ntmps22 rfl ?_
  unfold mFishkeep2FleetInspected_1 at hm
  refine c_seq ?_
  refine c_region ?_
  refine t_st rfl (st_assign rfl) ?_
  refine t_nil ?_
  refine x_then_normal ?_
  refine c_seq ?_
  refine c_region ?_
  refine t_st rfl (st_move rfl) ?_
  refine t_st rfl (st_len rfl sl45) ?_
  refine t_st rfl (st_move rfl) ?_
  refine t_st rfl (st_len rfl sl45) ?_
  refine t_st rfl (st_leq rfl rfl) ?_
  refine t_st rfl (st_assign rfl) ?_
  refine t_nil ?_
  refine x_then_normal ?_
  refine c_ret ?_
  obtain rfl := some1 hm
  exact retM (rs := [.tmp 4]) [.bool (decide ((l4.length : Int) ≤ (l8.length : Int)))] (Base.Le.refl _) (by decide) rfl ⟨rfl, trivial⟩ rfl (hp' := R) (.refl _) ⟨rfl, rfl⟩

end Go.Proofs.Ytajmocgpjkhjlaa
