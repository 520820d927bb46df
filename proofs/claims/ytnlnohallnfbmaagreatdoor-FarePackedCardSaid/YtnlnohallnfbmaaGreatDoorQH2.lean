/- Plain: PackOf answers whatever it is given. -/
import Derived.Test.YtnlnohallnfbmaaGreatDoorQH1
import Derived.Test.YtnlnohallnfbmaaGreatDoorQSC
import Derived.KernelRfl
set_option linter.unusedVariables false
set_option linter.unusedSimpArgs false
namespace Go.Proofs.YtnlnohallnfbmaaGreatDoor
open Go.RowKit Go.Fp

/- ---- repeats ---- -/
theorem mul_all : ∀ n : Fin 201, mBitsMul (IntKind.wrap .u64 1) (IntKind.wrap .u64 (n.val : Int)) = some (0, (n.val : Int)) := by decide +kernel
theorem mul_small {n : Nat} (h : n ≤ 200) : mBitsMul (IntKind.wrap .u64 1) (IntKind.wrap .u64 (n : Int)) = some (0, (n : Int)) := mul_all ⟨n, by omega⟩
theorem wrap_all : ∀ n : Fin 201, IntKind.wrap .i64 (n.val : Int) = (n.val : Int) := by decide +kernel
theorem wrap_small {n : Nat} (h : n ≤ 200) : IntKind.wrap .i64 (n : Int) = (n : Int) := wrap_all ⟨n, by omega⟩
theorem take_rep (x y : Int) (a c k : Nat) (h : k ≤ a) : (List.replicate a x ++ List.replicate c y).take k = List.replicate k x := by
  rw [List.take_append_of_le_length (by rw [List.length_replicate]; exact h), List.take_replicate, Nat.min_eq_left h]
theorem drop_rep (x y : Int) (a c k : Nat) (h : a ≤ k) : (List.replicate a x ++ List.replicate c y).drop k = List.replicate (c - (k - a)) y := by
  obtain ⟨d, rfl⟩ : ∃ d, k = a + d := ⟨k - a, by omega⟩
  have := List.drop_length_add_append (l₁ := List.replicate a x) (l₂ := List.replicate c y) (i := d)
  rw [List.length_replicate] at this
  rw [this, List.drop_replicate]
  congr 1
  omega
theorem cpy_rep (x y : Int) {n a m : Nat} (ha : a ≤ n) : cpyI (List.replicate a x ++ List.replicate (n - a) y) (a : Int) (n : Int) (List.replicate m x) = List.replicate (a + min m (n - a)) x ++ List.replicate (n - (a + min m (n - a))) y := by
  unfold cpyI cpy
  rw [Int.toNat_natCast, Int.toNat_natCast, take_rep x y a (n - a) a (Nat.le_refl _), List.take_replicate, List.length_replicate, drop_rep x y a (n - a) _ (by omega)]
  rw [List.replicate_append_replicate, Nat.min_comm (n - a) m]
  congr 2
  omega
theorem repeat_eq (x : Int) {n : Nat} (h : n ≤ 200) : mSlicesRepeat [x] (n : Int) = some (List.replicate n x) := by
  unfold mSlicesRepeat
  rw [if_neg (by omega)]
  show (mBitsMul (IntKind.wrap .u64 1) (IntKind.wrap .u64 (n : Int))).bind _ = _
  rw [mul_small h, Option.bind_some]
  simp only [unc2]
  rw [if_neg (by decide), Option.bind_some, decide_eq_false (by omega), if_neg (by decide), wrap_small h, mkLen_ok (by omega) (by omega), Option.bind_some]
  have e1 : cpyN 0 ((List.replicate n (0 : Int)).length : Int) [x] = ((min 1 n : Nat) : Int) := by
    unfold cpyN
    rw [List.length_replicate, Int.toNat_natCast]
    rfl
  have e2 : cpyI (List.replicate n (0 : Int)) 0 ((List.replicate n (0 : Int)).length : Int) [x] = List.replicate (min 1 n) x ++ List.replicate (n - min 1 n) 0 := by
    have := cpy_rep x 0 (n := n) (a := 0) (m := 1) (Nat.zero_le _)
    simp only [List.replicate_zero, List.nil_append, Nat.sub_zero, Nat.zero_add] at this
    rw [List.length_replicate]
    exact this
  rw [e1, e2]
  obtain ⟨t, h1, h2⟩ := loopM_inv (step := mSlicesRepeat_L612) (fun s => ∃ a : Nat, s = ((a : Int), List.replicate a x ++ List.replicate (n - a) 0) ∧ a ≤ n ∧ (a = 0 → n = 0)) (fun t => t = List.replicate n x) (fun s => n - s.1.toNat) (fun s hs => by
    obtain ⟨a, rfl, ha, h0⟩ := hs
    unfold mSlicesRepeat_L612
    simp only [unc2]
    have hl : (List.replicate a x ++ List.replicate (n - a) (0 : Int)).length = n := by
      rw [List.length_append, List.length_replicate, List.length_replicate]
      omega
    rw [hl]
    by_cases hc : a < n
    · have hcut1 := cutS_ok (l := List.replicate a x ++ List.replicate (n - a) (0 : Int)) (a := a) (b := n) ha (by omega)
      have hcut2 := cutS_ok (l := List.replicate a x ++ List.replicate (n - a) (0 : Int)) (a := 0) (b := a) (Nat.zero_le _) (by omega)
      rw [take_rep x 0 a (n - a) a (Nat.le_refl _), List.drop_zero] at hcut2
      have hN : cpyN (a : Int) (n : Int) (List.replicate a x) = ((min a (n - a) : Nat) : Int) := by
        unfold cpyN
        rw [List.length_replicate, Int.toNat_natCast, Int.toNat_natCast]
      rw [if_pos (by omega), hcut1, Option.bind_some, show cutS (List.replicate a x ++ List.replicate (n - a) (0 : Int)) 0 (a : Int) = some (List.replicate a x) from hcut2, Option.bind_some, hN, chk_ok (by omega) (by omega), Option.bind_some, cpy_rep x 0 ha]
      refine .inl ⟨_, rfl, ⟨a + min a (n - a), ?_, by omega, by omega⟩, ?_⟩
      · rw [Int.natCast_add]
      · simp only [Int.toNat_natCast]
        omega
    · rw [if_neg (by omega)]
      have : a = n := by omega
      subst this
      exact .inr ⟨_, rfl, by simp⟩) _ ⟨min 1 n, rfl, by omega, by omega⟩
  rw [h1, h2]
  rfl
/- ---- counting by an injection ---- -/
theorem inj_len {R : Nat → Nat → Prop} (hR : ∀ b b' c, R b c → R b' c → b = b') : ∀ (L1 L2 : List Nat), L1.Nodup → (∀ b ∈ L1, ∃ c ∈ L2, R b c) → L1.length ≤ L2.length
  | [], _, _, _ => Nat.zero_le _
  | b :: L1, L2, hn, h => by
    obtain ⟨hb, hn⟩ := List.nodup_cons.1 hn
    obtain ⟨c, hc, hr⟩ := h b (by simp)
    have := inj_len hR L1 (L2.erase c) hn (fun b' hb' => by
      obtain ⟨c', hc', hr'⟩ := h b' (by simp [hb'])
      have hne : c' ≠ c := fun e => by
        subst e
        exact hb (hR b b' c' hr hr' ▸ hb')
      exact ⟨c', (List.mem_erase_of_ne hne).2 hc', hr'⟩)
    rw [List.length_erase_of_mem hc] at this
    have : 0 < L2.length := List.length_pos_of_mem hc
    simp only [List.length_cons]
    omega

/- ---- PackOf ---- -/
theorem within2_spec (x a b : Int) : mFishref2Within x a b = some (decide (a ≤ x ∧ x ≤ b)) := by
  unfold mFishref2Within
  by_cases h : a ≤ x
  · rw [if_pos h]
    simp [h]
  · rw [if_neg h]
    simp [h]
structure Fit (l : List FareSpan) (seats stops : Int) : Prop where
  hn : l.length ≤ 200
  hs : 1 ≤ seats ∧ seats ≤ 80
  ht : 2 ≤ stops ∧ stops ≤ 12
  hl : ∀ s ∈ l, 0 ≤ s.From ∧ s.From < s.To ∧ s.To < stops
def OutOk (l : List FareSpan) (seats : Int) (out : List Int) : Prop := out.length = l.length ∧ ∀ x ∈ out, -1 ≤ x ∧ x < seats
theorem cond_spec {l : List FareSpan} {out : List Int} (ho : out.length = l.length) (s : FareSpan) (seat : Int) {k : Nat} (hk : k < l.length) :
    ∃ c : Bool, ((idx out (k : Int)).bind fun x36042 => if x36042 = seat then ((idx l (k : Int)).bind fun x36059 => if x36059.From < s.To then ((idx l (k : Int)).bind fun x36070 => some (decide (s.From < x36070.To))) else some false) else some false) = some c ∧ (c = true → seat ∈ out) := by
  have h1 : out[k]? = some out[k] := List.getElem?_eq_getElem (by omega)
  have h2 : l[k]? = some l[k] := List.getElem?_eq_getElem hk
  rw [idx_nat h1, idx_nat h2, Option.bind_some, Option.bind_some, Option.bind_some]
  by_cases c1 : out[k] = seat
  · rw [if_pos c1]
    have hm : seat ∈ out := c1 ▸ List.getElem_mem (by omega)
    by_cases c2 : l[k].From < s.To
    · rw [if_pos c2]
      exact ⟨_, rfl, fun _ => hm⟩
    · rw [if_neg c2]
      exact ⟨_, rfl, fun _ => hm⟩
  · rw [if_neg c1]
    exact ⟨false, rfl, fun h => by cases h⟩
theorem probe_spec {l : List FareSpan} {seats : Int} {out : List Int} (hn : l.length ≤ 200) (hs : 1 ≤ seats ∧ seats ≤ 80) (ho : OutOk l seats out) (s : FareSpan) :
    ∃ v, loopM (mFishref2PackOf_L35107 l out s) (0, 0) = some v ∧ 0 ≤ v ∧ v ≤ seats :=
  loopM_inv (step := mFishref2PackOf_L35107 l out s) (fun q => 0 ≤ q.1 ∧ q.1 ≤ seats ∧ ∃ k : Nat, q.2 = (k : Int) ∧ k ≤ l.length) (fun v => 0 ≤ v ∧ v ≤ seats) (fun q => (81 - q.1.toNat) * (l.length + 1) + (l.length - q.2.toNat)) (fun q hq => by
    obtain ⟨seat, k'⟩ := q
    obtain ⟨h1, h2, k, h3, h4⟩ := hq
    simp only at h1 h2 h3
    subst h3
    unfold mFishref2PackOf_L35107
    simp only [unc2]
    by_cases hc : (k : Int) < (l.length : Int)
    · rw [if_pos hc]
      obtain ⟨c, c1, c2⟩ := cond_spec ho.1 s seat (k := k) (by omega)
      rw [c1, Option.bind_some]
      cases c with
      | true =>
        have := (ho.2 seat (c2 rfl)).2
        rw [if_pos rfl, chk_ok (by omega) (by omega), Option.bind_some, pass2, chk_ok (by omega) (by omega), Option.bind_some]
        refine .inl ⟨_, rfl, ⟨by simp only; omega, by simp only; omega, 0, by simp, Nat.zero_le _⟩, ?_⟩
        simp only
        obtain ⟨A, hA⟩ : ∃ A : Nat, 81 - (seat + 1).toNat = A := ⟨_, rfl⟩
        rw [show 81 - seat.toNat = A + 1 by omega, hA, Nat.succ_mul]
        omega
      | false =>
        rw [if_neg (by decide), pass2, chk_ok (by omega) (by omega), Option.bind_some]
        refine .inl ⟨_, rfl, ⟨h1, h2, k + 1, by simp only; omega, by omega⟩, ?_⟩
        simp only
        omega
    · rw [if_neg hc]
      exact .inr ⟨_, rfl, h1, h2⟩) (0, 0) ⟨by omega, by omega, 0, rfl, Nat.zero_le _⟩
theorem packof_spec (l : List FareSpan) (seats stops : Int) : ∃ e r, mFishref2PackOf l seats stops = some (e, r) ∧ (e = 4 ∨ e = 2 ∨ (e ≠ 4 ∧ e ≠ 2 ∧ Fit l seats stops)) := by
  unfold mFishref2PackOf
  by_cases c1 : 200 < (l.length : Int)
  · rw [if_pos c1]
    exact ⟨4, [], rfl, .inl rfl⟩
  rw [if_neg c1, within2_spec, Option.bind_some]
  by_cases c2 : 1 ≤ seats ∧ seats ≤ 80
  case neg =>
    rw [if_neg (by simpa using c2), Option.bind_some, if_pos rfl]
    exact ⟨2, [], rfl, .inr (.inl rfl)⟩
  rw [if_pos (by simpa using c2), within2_spec, Option.bind_some, Option.bind_some]
  by_cases c3 : 2 ≤ stops ∧ stops ≤ 12
  case neg =>
    rw [decide_eq_false c3, if_pos (by decide)]
    exact ⟨2, [], rfl, .inr (.inl rfl)⟩
  rw [decide_eq_true c3, if_neg (by decide)]
  rcases forM_inv (body := mFishref2PackOf_L18076 l stops) (fun k _ => ∀ (j : Nat) (s : FareSpan), j < k → l[j]? = some s → 0 ≤ s.From ∧ s.From < s.To ∧ s.To < stops) (fun t => t = (2, [])) l.length 0 () (fun j s h => absurd h (Nat.not_lt_zero j)) (fun k _ _ hk hI => by
    have hk : k < l.length := by omega
    have hx : l[k]? = some l[k] := List.getElem?_eq_getElem hk
    unfold mFishref2PackOf_L18076
    rw [idx_nat hx, Option.bind_some]
    by_cases q1 : l[k].From < 0
    · rw [if_pos q1, Option.bind_some, if_pos rfl]
      exact .inr ⟨_, rfl, rfl⟩
    rw [if_neg q1]
    by_cases q2 : l[k].To ≤ l[k].From
    · rw [if_pos q2, Option.bind_some, if_pos rfl]
      exact .inr ⟨_, rfl, rfl⟩
    rw [if_neg q2, Option.bind_some]
    by_cases q3 : stops ≤ l[k].To
    · rw [if_pos (by simpa using q3)]
      exact .inr ⟨_, rfl, rfl⟩
    rw [if_neg (by simpa using q3)]
    refine .inl ⟨_, rfl, fun j s hj h => ?_⟩
    by_cases q : j = k
    · subst q
      rw [hx] at h
      obtain rfl := Option.some.inj h
      omega
    · exact hI j s (by omega) h) with ⟨s, f1, f2⟩ | ⟨t, f1, f2⟩
  · rw [f1, Option.bind_some]
    simp only [Sum.elim_inl]
    have hF : Fit l seats stops := ⟨by omega, c2, c3, fun s hs => by
      obtain ⟨j, hj, e⟩ := List.getElem_of_mem hs
      exact f2 j s (by omega) (by rw [List.getElem?_eq_getElem hj, e])⟩
    rw [repeat_eq (-1) (n := l.length) (by omega), Option.bind_some, chk_ok (by omega) (by omega), Option.bind_some]
    rcases forM_inv (body := mFishref2PackOf_L18137 l seats) (fun _ out => OutOk l seats out) (fun t => t = (14, [])) stops.toNat 0 (List.replicate l.length (-1)) ⟨by simp, fun x hx => by have := List.eq_of_mem_replicate hx; omega⟩ (fun k out _ hk hI => by
      unfold mFishref2PackOf_L18137
      rcases forM_inv (body := mFishref2PackOf_L30121 l seats k) (fun _ out => OutOk l seats out) (fun t => t = .inr (14, [])) l.length 0 out hI (fun j out _ hj hI => by
        have hj : j < l.length := by omega
        have hx : l[j]? = some l[j] := List.getElem?_eq_getElem hj
        unfold mFishref2PackOf_L30121
        rw [idx_nat hx, Option.bind_some]
        by_cases q1 : l[j].From ≠ (k : Int)
        · rw [if_pos q1]
          exact .inl ⟨_, rfl, hI⟩
        rw [if_neg q1]
        obtain ⟨v, p1, p2, p3⟩ := probe_spec hF.hn hF.hs hI l[j]
        rw [p1, Option.bind_some]
        by_cases q2 : seats ≤ v
        · rw [if_pos q2]
          exact .inr ⟨_, rfl, rfl⟩
        rw [if_neg q2, idx_lt (l := out) (j := j) (by rw [hI.1]; exact hj), Option.bind_some, put_nat]
        refine .inl ⟨_, rfl, by rw [List.length_set]; exact hI.1, fun x hx => ?_⟩
        rcases List.mem_or_eq_of_mem_set hx with h | h
        · exact hI.2 x h
        · omega) with ⟨s, f1, f2⟩ | ⟨t, f1, f2⟩
      · rw [f1]
        exact .inl ⟨s, rfl, f2⟩
      · rw [f1, f2]
        exact .inr ⟨_, rfl, rfl⟩) with ⟨s, g1, g2⟩ | ⟨t, g1, g2⟩
    · rw [g1]
      exact ⟨0, s, rfl, .inr (.inr ⟨by decide, by decide, hF⟩)⟩
    · rw [g1, g2]
      exact ⟨14, [], rfl, .inr (.inr ⟨by decide, by decide, hF⟩)⟩
  · rw [f1, f2]
    exact ⟨2, [], rfl, .inr (.inl rfl)⟩
end Go.Proofs.YtnlnohallnfbmaaGreatDoor
