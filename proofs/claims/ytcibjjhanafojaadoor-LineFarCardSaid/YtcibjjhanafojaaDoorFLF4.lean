/- Plain: the table of metres between stations; the law. -/
import Derived.Test.YtcibjjhanafojaaDoorFLF3
import Derived.Test.YtcibjjhanafojaaDoorFLL9
set_option linter.unusedVariables false
set_option linter.unusedSimpArgs false
namespace Go.Proofs.YtcibjjhanafojaaDoor
open Go.RowKit Go.Fp

/- ---- repeats ---- -/
theorem mul_all : ∀ n : Fin 21, mBitsMul (IntKind.wrap .u64 1) (IntKind.wrap .u64 (n.val : Int)) = some (0, (n.val : Int)) := by decide +kernel
theorem mul_small {n : Nat} (h : n ≤ 20) : mBitsMul (IntKind.wrap .u64 1) (IntKind.wrap .u64 (n : Int)) = some (0, (n : Int)) := mul_all ⟨n, by omega⟩
theorem wrap_all : ∀ n : Fin 21, IntKind.wrap .i64 (n.val : Int) = (n.val : Int) := by decide +kernel
theorem wrap_small {n : Nat} (h : n ≤ 20) : IntKind.wrap .i64 (n : Int) = (n : Int) := wrap_all ⟨n, by omega⟩
theorem take_rep (x y : Int) (a c k : Nat) (h : k ≤ a) : (List.replicate a x ++ List.replicate c y).take k = List.replicate k x := by
  rw [List.take_append_of_le_length (by rw [List.length_replicate]; exact h), List.take_replicate, Nat.min_eq_left h]
theorem drop_rep (x y : Int) (a c k : Nat) (h : a ≤ k) : (List.replicate a x ++ List.replicate c y).drop k = List.replicate (c - (k - a)) y := by
  obtain ⟨d, rfl⟩ : ∃ d, k = a + d := ⟨k - a, by omega⟩
  have := List.drop_length_add_append (l₁ := List.replicate a x) (l₂ := List.replicate c y) (i := d)
  rw [List.length_replicate] at this
  rw [this, List.drop_replicate]
  congr 1
  omega
theorem cpy_rep (x y : Int) {n a m : Nat} (ha : a ≤ n) : cpyI (List.replicate a x ++ List.replicate (n - a) y) (a : Int) (n : Int) (List.replicate m x) = List.replicate (a + min m (n - a)) x ++ List.replicate (n - (a + min m (n - a))) y := by
  unfold cpyI cpy
  rw [Int.toNat_natCast, Int.toNat_natCast, take_rep x y a (n - a) a (Nat.le_refl _), List.take_replicate, List.length_replicate, drop_rep x y a (n - a) _ (by omega)]
  rw [List.replicate_append_replicate, Nat.min_comm (n - a) m]
  congr 2
  omega
theorem repeat_eq (x : Int) {n : Nat} (h : n ≤ 20) : mSlicesRepeat [x] (n : Int) = some (List.replicate n x) := by
  unfold mSlicesRepeat
  rw [if_neg (by omega)]
  show (mBitsMul (IntKind.wrap .u64 1) (IntKind.wrap .u64 (n : Int))).bind _ = _
  rw [mul_small h, Option.bind_some]
  simp only [unc2]
  rw [if_neg (by decide), Option.bind_some, decide_eq_false (by omega), if_neg (by decide), wrap_small h, mkLen_ok (by omega) (by omega), Option.bind_some]
  have e1 : cpyN 0 ((List.replicate n (0 : Int)).length : Int) [x] = ((min 1 n : Nat) : Int) := by
    unfold cpyN
    rw [List.length_replicate, Int.toNat_natCast]
    rfl
  have e2 : cpyI (List.replicate n (0 : Int)) 0 ((List.replicate n (0 : Int)).length : Int) [x] = List.replicate (min 1 n) x ++ List.replicate (n - min 1 n) 0 := by
    have := cpy_rep x 0 (n := n) (a := 0) (m := 1) (Nat.zero_le _)
    simp only [List.replicate_zero, List.nil_append, Nat.sub_zero, Nat.zero_add] at this
    rw [List.length_replicate]
    exact this
  rw [e1, e2]
  obtain ⟨t, h1, h2⟩ := loopM_inv (step := mSlicesRepeat_L612) (fun s => ∃ a : Nat, s = ((a : Int), List.replicate a x ++ List.replicate (n - a) 0) ∧ a ≤ n ∧ (a = 0 → n = 0)) (fun t => t = List.replicate n x) (fun s => n - s.1.toNat) (fun s hs => by
    obtain ⟨a, rfl, ha, h0⟩ := hs
    unfold mSlicesRepeat_L612
    simp only [unc2]
    have hl : (List.replicate a x ++ List.replicate (n - a) (0 : Int)).length = n := by
      rw [List.length_append, List.length_replicate, List.length_replicate]
      omega
    rw [hl]
    by_cases hc : a < n
    · have hcut1 := cutS_ok (l := List.replicate a x ++ List.replicate (n - a) (0 : Int)) (a := a) (b := n) ha (by omega)
      have hcut2 := cutS_ok (l := List.replicate a x ++ List.replicate (n - a) (0 : Int)) (a := 0) (b := a) (Nat.zero_le _) (by omega)
      rw [take_rep x 0 a (n - a) a (Nat.le_refl _), List.drop_zero] at hcut2
      have hN : cpyN (a : Int) (n : Int) (List.replicate a x) = ((min a (n - a) : Nat) : Int) := by
        unfold cpyN
        rw [List.length_replicate, Int.toNat_natCast, Int.toNat_natCast]
      rw [if_pos (by omega), hcut1, Option.bind_some, show cutS (List.replicate a x ++ List.replicate (n - a) (0 : Int)) 0 (a : Int) = some (List.replicate a x) from hcut2, Option.bind_some, hN, chk_ok (by omega) (by omega), Option.bind_some, cpy_rep x 0 ha]
      refine .inl ⟨_, rfl, ⟨a + min a (n - a), ?_, by omega, by omega⟩, ?_⟩
      · rw [Int.natCast_add]
      · simp only [Int.toNat_natCast]
        omega
    · rw [if_neg (by omega)]
      have : a = n := by omega
      subst this
      exact .inr ⟨_, rfl, by simp⟩) _ ⟨min 1 n, rfl, by omega, by omega⟩
  rw [h1, h2]
  rfl

theorem cell_dist {n : ApiNet} {S : List Int} {m : Tab} (hT : TabOk n S m) (hall : ∀ y c, Way n S y c → ∃ c', mget m y = some c' ∧ c' ≤ c) {k v : Int} (h : Cell n m k v) : Dist n S k v := by
  rcases h with ⟨h1, h2⟩ | ⟨⟨y, v'⟩, h1, h2, h3, h4⟩
  · refine .inl ⟨h1, fun y c hy => ?_⟩
    obtain ⟨c', e1, _⟩ := hall y c hy
    exact h2 (y, c') ((mget_mem hT.nd).2 e1)
  · simp only at h2 h3 h4
    subst h3
    refine .inr ⟨y, (hT.way y v ((mget_mem hT.nd).1 h1)).1, h2, fun y' c' hy' hk => ?_⟩
    obtain ⟨c'', e1, e2⟩ := hall y' c' hy'
    have := h4 (y', c'') ((mget_mem hT.nd).2 e1) hk
    simp only at this
    omega
structure RowOk (n : ApiNet) (i : Nat) (row : List Int) : Prop where
  len : row.length = n.Stations.length
  self : ∀ h : i < row.length, row[i] = 0
  rest : ∃ S, Plat n (i : Int) S ∧ ∀ b (h : b < row.length), b ≠ i → Dist n S (b : Int) row[b]
theorem apart_row {n : ApiNet} (hN : NetOk n) {i : Nat} {out : List (List Int)} (hi : i < n.Stations.length) (hl : out.length = n.Stations.length) : ∃ row, mLineApart_L4636 n i out = some (out.set i row) ∧ RowOk n i row := by
  have h12 := hN.s12
  obtain ⟨S, h1, h2, h3⟩ := platforms_spec hN (i := i) (by omega)
  obtain ⟨m, h4, h5, h6⟩ := dist_spec hN h2
  obtain ⟨row, h7, h8, h9⟩ := row_spec hN (i := i) (out := out) (by omega) (m := m) (fun x hx => by
    have := way_pos hN (h5.way x.1 x.2 ((mget_mem h5.nd).1 hx)).1
    exact ⟨this.2, this.1⟩)
  have hset : idx (out.set i row) (i : Int) = some row := by
    rw [idx_lt (by rw [List.length_set]; omega), List.getElem_set_self]
  unfold mLineApart_L4636
  rw [repeat_eq (-1) (by omega), Option.bind_some, idx_lt (show i < out.length by omega), Option.bind_some, h1, Option.bind_some, h4, Option.bind_some, put_nat, h7, Option.bind_some, Sum.elim_inl, Option.bind_some, hset, Option.bind_some, idx_lt (show i < row.length by omega), Option.bind_some, put_nat, put_nat, List.set_set]
  refine ⟨row.set i 0, rfl, by rw [List.length_set]; exact h8, fun h => List.getElem_set_self .., S, h3, fun b hb hne => ?_⟩
  rw [List.getElem_set_ne (Ne.symm hne)]
  rw [List.length_set] at hb
  exact cell_dist h5 h6 (h9 b hb)
theorem apart_spec {n : ApiNet} (hN : NetOk n) (hc : mLineCheck n = some 0) : ∃ out, mLineApart n = some (0, out) ∧ out.length = n.Stations.length ∧ ∀ k (h : k < out.length), RowOk n k out[k] := by
  have h12 := hN.s12
  unfold mLineApart
  rw [hc, Option.bind_some, if_neg (by decide), mkLen_ok (by omega) (by omega), Option.bind_some, List.length_replicate]
  obtain ⟨out, h1, h2, h3⟩ := forS_inv (body := mLineApart_L4636 n) (fun k (out : List (List Int)) => out.length = n.Stations.length ∧ ∀ j (h : j < out.length), j < k → RowOk n j out[j]) n.Stations.length 0 (List.replicate n.Stations.length []) ⟨List.length_replicate, fun j _ hj => absurd hj (by omega)⟩ (fun k out _ hk ho => by
    obtain ⟨h1, h2⟩ := ho
    obtain ⟨row, g1, g2⟩ := apart_row hN (i := k) (out := out) (by omega) h1
    refine ⟨_, g1, by rw [List.length_set]; exact h1, fun j hj hjk => ?_⟩
    rw [List.length_set] at hj
    by_cases e : j = k
    · subst e
      rw [List.getElem_set_self]
      exact g2
    · rw [List.getElem_set_ne (Ne.symm e)]
      exact h2 j hj (by omega))
  rw [h1, Option.bind_some]
  exact ⟨out, rfl, h2, fun k h => h3 k h (by omega)⟩
theorem far_plain {n : ApiNet} (hS : Small n) : mFishkeep1LineFar n = some true := by
  obtain ⟨c, hc, hok⟩ := check_spec hS
  unfold mFishkeep1LineFar
  rw [awake_true, Option.bind_some, if_pos rfl]
  by_cases h0 : c = 0
  · subst h0
    have hN := hok rfl
    have h12 := hN.s12
    obtain ⟨out, h1, h2, h3⟩ := apart_spec hN hc
    rw [h1, pass2, if_neg (by decide), if_neg (by omega)]
    rcases forU (body := mFishkeep1LineFar_L418 out) (fun _ => True) (fun _ => False) out.length (fun a ha => by
      refine .inl ⟨?_, trivial⟩
      have ra := h3 a ha
      have hla := ra.len
      unfold mFishkeep1LineFar_L418
      rw [idx_lt ha, Option.bind_some, if_neg (by omega), idx_lt (show a < out[a].length by omega), Option.bind_some, ra.self (by omega), Option.bind_some, decide_eq_false (by decide), if_neg (by decide)]
      rcases forU (body := mFishkeep1LineFar_L642 a out out[a]) (fun _ => True) (fun _ => False) out[a].length (fun b hb => by
        refine .inl ⟨?_, trivial⟩
        have hb2 : b < out.length := by omega
        have rb := h3 b hb2
        have hlb := rb.len
        have hab : out[a][b] = out[b][a]'(by omega) ∧ -1 ≤ out[a][b] := by
          by_cases e : b = a
          · subst e
            exact ⟨rfl, by rw [ra.self (by omega)]; decide⟩
          · obtain ⟨S, s1, s2⟩ := ra.rest
            obtain ⟨T, t1, t2⟩ := rb.rest
            have d1 := s2 b hb e
            have d2 := t2 a (by omega) (Ne.symm e)
            refine ⟨dist_sym hN s1 t1 (by omega) (by omega) d1 d2, ?_⟩
            rcases d1 with ⟨e1, _⟩ | ⟨y, e1, _⟩
            · omega
            · have := (way_pos hN e1).1
              omega
        unfold mFishkeep1LineFar_L642
        rw [idx_lt hb, Option.bind_some, if_neg (by omega), idx_lt hb2, Option.bind_some, idx_lt (show a < out[b].length by omega), Option.bind_some, Option.bind_some, decide_eq_false (by simp [hab.1]), if_neg (by decide)]) with ⟨g1, _⟩ | ⟨_, _, hf⟩
      · rw [g1]
        rfl
      · exact hf.elim) with ⟨g1, _⟩ | ⟨_, _, hf⟩
    · rw [g1]
      rfl
    · exact hf.elim
  · unfold mLineApart
    rw [hc, Option.bind_some, if_pos h0, pass2, if_pos h0]
    rfl
end Go.Proofs.YtcibjjhanafojaaDoor
