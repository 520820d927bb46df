/- Plain: the greatest matching, and the turns that it makes. -/
import Derived.Test.YtajmocgpjkhjlaaEL3
import Derived.KernelRfl
set_option linter.unusedVariables false
set_option linter.unusedSimpArgs false
namespace Go.Proofs.Ytajmocgpjkhjlaa
open Go.RowKit Go.Fp

/- ---- repeats ---- -/
theorem mul_all : ∀ n : Fin 21, mBitsMul (IntKind.wrap .u64 1) (IntKind.wrap .u64 (n.val : Int)) = some (0, (n.val : Int)) := by decide +kernel
theorem mul_small {n : Nat} (h : n ≤ 20) : mBitsMul (IntKind.wrap .u64 1) (IntKind.wrap .u64 (n : Int)) = some (0, (n : Int)) := mul_all ⟨n, by omega⟩
theorem wrap_all : ∀ n : Fin 21, IntKind.wrap .i64 (n.val : Int) = (n.val : Int) := by decide +kernel
theorem wrap_small {n : Nat} (h : n ≤ 20) : IntKind.wrap .i64 (n : Int) = (n : Int) := wrap_all ⟨n, by omega⟩
theorem take_rep (x y : Int) (a c k : Nat) (h : k ≤ a) : (List.replicate a x ++ List.replicate c y).take k = List.replicate k x := by
  rw [List.take_append_of_le_length (by rw [List.length_replicate]; exact h), List.take_replicate, Nat.min_eq_left h]
theorem drop_rep (x y : Int) (a c k : Nat) (h : a ≤ k) : (List.replicate a x ++ List.replicate c y).drop k = List.replicate (c - (k - a)) y := by
  obtain ⟨d, rfl⟩ : ∃ d, k = a + d := ⟨k - a, by omega⟩
  have := List.drop_length_add_append (l₁ := List.replicate a x) (l₂ := List.replicate c y) (i := d)
  rw [List.length_replicate] at this
  rw [this, List.drop_replicate]
  congr 1
  omega
theorem cpy_rep (x y : Int) {n a m : Nat} (ha : a ≤ n) : cpyI (List.replicate a x ++ List.replicate (n - a) y) (a : Int) (n : Int) (List.replicate m x) = List.replicate (a + min m (n - a)) x ++ List.replicate (n - (a + min m (n - a))) y := by
  unfold cpyI cpy
  rw [Int.toNat_natCast, Int.toNat_natCast, take_rep x y a (n - a) a (Nat.le_refl _), List.take_replicate, List.length_replicate, drop_rep x y a (n - a) _ (by omega)]
  rw [List.replicate_append_replicate, Nat.min_comm (n - a) m]
  congr 2
  omega
theorem repeat_eq (x : Int) {n : Nat} (h : n ≤ 20) : mSlicesRepeat [x] (n : Int) = some (List.replicate n x) := by
  unfold mSlicesRepeat
  rw [if_neg (by omega)]
  show (mBitsMul (IntKind.wrap .u64 1) (IntKind.wrap .u64 (n : Int))).bind _ = _
  rw [mul_small h, Option.bind_some]
  simp only [unc2]
  rw [if_neg (by decide), Option.bind_some, decide_eq_false (by omega), if_neg (by decide), wrap_small h, mkLen_ok (by omega) (by omega), Option.bind_some]
  have e1 : cpyN 0 ((List.replicate n (0 : Int)).length : Int) [x] = ((min 1 n : Nat) : Int) := by
    unfold cpyN
    rw [List.length_replicate, Int.toNat_natCast]
    rfl
  have e2 : cpyI (List.replicate n (0 : Int)) 0 ((List.replicate n (0 : Int)).length : Int) [x] = List.replicate (min 1 n) x ++ List.replicate (n - min 1 n) 0 := by
    have := cpy_rep x 0 (n := n) (a := 0) (m := 1) (Nat.zero_le _)
    simp only [List.replicate_zero, List.nil_append, Nat.sub_zero, Nat.zero_add] at this
    rw [List.length_replicate]
    exact this
  rw [e1, e2]
  obtain ⟨t, h1, h2⟩ := loopM_inv (step := mSlicesRepeat_L612) (fun s => ∃ a : Nat, s = ((a : Int), List.replicate a x ++ List.replicate (n - a) 0) ∧ a ≤ n ∧ (a = 0 → n = 0)) (fun t => t = List.replicate n x) (fun s => n - s.1.toNat) (fun s hs => by
    obtain ⟨a, rfl, ha, h0⟩ := hs
    unfold mSlicesRepeat_L612
    simp only [unc2]
    have hl : (List.replicate a x ++ List.replicate (n - a) (0 : Int)).length = n := by
      rw [List.length_append, List.length_replicate, List.length_replicate]
      omega
    rw [hl]
    by_cases hc : a < n
    · have hcut1 := cutS_ok (l := List.replicate a x ++ List.replicate (n - a) (0 : Int)) (a := a) (b := n) ha (by omega)
      have hcut2 := cutS_ok (l := List.replicate a x ++ List.replicate (n - a) (0 : Int)) (a := 0) (b := a) (Nat.zero_le _) (by omega)
      rw [take_rep x 0 a (n - a) a (Nat.le_refl _), List.drop_zero] at hcut2
      have hN : cpyN (a : Int) (n : Int) (List.replicate a x) = ((min a (n - a) : Nat) : Int) := by
        unfold cpyN
        rw [List.length_replicate, Int.toNat_natCast, Int.toNat_natCast]
      rw [if_pos (by omega), hcut1, Option.bind_some, show cutS (List.replicate a x ++ List.replicate (n - a) (0 : Int)) 0 (a : Int) = some (List.replicate a x) from hcut2, Option.bind_some, hN, chk_ok (by omega) (by omega), Option.bind_some, cpy_rep x 0 ha]
      refine .inl ⟨_, rfl, ⟨a + min a (n - a), ?_, by omega, by omega⟩, ?_⟩
      · rw [Int.natCast_add]
      · simp only [Int.toNat_natCast]
        omega
    · rw [if_neg (by omega)]
      have : a = n := by omega
      subst this
      exact .inr ⟨_, rfl, by simp⟩) _ ⟨min 1 n, rfl, by omega, by omega⟩
  rw [h1, h2]
  rfl
/- ---- which may come after which ---- -/
def tk (l : List FleetTask) (i : Nat) : FleetTask := (l[i]?).getD ⟨0, 0, 0, 0, 0, 0⟩
theorem idx_tk {l : List FleetTask} {i : Nat} (h : i < l.length) : idx l (i : Int) = some (tk l i) := by
  unfold tk
  rw [idx_lt h, List.getElem?_eq_getElem h]
  rfl
theorem tk_mem {l : List FleetTask} {i : Nat} (h : i < l.length) : tk l i ∈ l := by
  unfold tk
  rw [List.getElem?_eq_getElem h]
  exact List.getElem_mem _
def Can (l : List FleetTask) (x : Int) (T : List (List Int)) (a b : Nat) : Prop := (tk l a).Arr + x + tb T (tk l a).To.toNat (tk l b).From.toNat ≤ (tk l b).Dep
theorem tbCell {T : List (List Int)} (hD : Dim T) {i j : Int} (h1 : 0 ≤ i ∧ i ≤ 11) (h2 : 0 ≤ j ∧ j ≤ 11) : ∃ r, idx T i = some r ∧ idx r j = some (tb T i.toNat j.toNat) := by
  obtain ⟨r, r1, r2, r3⟩ := hD.at (i := i.toNat) (by omega)
  refine ⟨r, ?_, ?_⟩
  · rw [show i = ((i.toNat : Nat) : Int) by omega]
    exact r1
  · rw [r3, ← idx_at (show j.toNat < r.length by omega)]
    congr 1
    omega
section
variable {l : List FleetTask} {x : Int} {T : List (List Int)}
theorem after_row (h : EmptyOk l x T) {a : Nat} (ha : a < l.length) : ∃ r, forS (mFleetMatch_L1528 l T x (tk l a)) l.length 0 ([] : List Bool) = some r ∧ r.length = l.length ∧ ∀ b, b < l.length → (r[b]? = some true ↔ Can l x T a b) := by
  obtain ⟨r, h1, h2, h3⟩ := forS_inv (body := mFleetMatch_L1528 l T x (tk l a)) (fun k (r : List Bool) => r.length = k ∧ ∀ b, b < k → (r[b]? = some true ↔ Can l x T a b)) l.length 0 [] ⟨rfl, fun b hb => absurd hb (by omega)⟩ (fun k r _ hk hi => by
    have hk' : k < l.length := by omega
    have o1 := h.turn.tasks _ (tk_mem ha)
    have o2 := h.turn.tasks _ (tk_mem hk')
    have ht := h.turn.turn
    have hn := h.n20
    have hv := h.sec.val (tk l a).To.toNat (tk l k).From.toNat (by unfold OkTask at o1; omega) (by unfold OkTask at o2; omega)
    obtain ⟨row, r1, r2⟩ := tbCell h.sec.dim (i := (tk l a).To) (j := (tk l k).From) o1.2.1 o2.1
    unfold mFleetMatch_L1528
    unfold OkTask at o1 o2
    have hl := hi.1
    rw [idx_tk hk', Option.bind_some, chk_ok (by omega) (by omega), Option.bind_some, r1, Option.bind_some, r2, Option.bind_some, chk_ok (by omega) (by omega), Option.bind_some, room_ok (by omega) (by omega), Option.bind_some]
    refine ⟨_, rfl, by simp [hl], fun b hb => ?_⟩
    by_cases e : b = k
    · subst e
      rw [List.getElem?_append_right (by omega), show b - r.length = 0 by omega]
      simp [Can]
    · rw [List.getElem?_append_left (by omega)]
      exact hi.2 b (by omega))
  rw [Nat.zero_add] at h2 h3
  exact ⟨r, h1, h2, h3⟩
theorem after_all (h : EmptyOk l x T) : ∃ A, forS (mFleetMatch_L975 l T x) l.length 0 ([] : List (List Bool)) = some A ∧ SqB l.length A ∧ ∀ a b, a < l.length → b < l.length → (Aft A a b ↔ Can l x T a b) := by
  obtain ⟨A, h1, h2, h3⟩ := forS_inv (body := mFleetMatch_L975 l T x) (fun k (A : List (List Bool)) => A.length = k ∧ ∀ a, a < k → ∃ r, A[a]? = some r ∧ r.length = l.length ∧ ∀ b, b < l.length → (r[b]? = some true ↔ Can l x T a b)) l.length 0 [] ⟨rfl, fun b hb => absurd hb (by omega)⟩ (fun k A _ hk hi => by
    have hk' : k < l.length := by omega
    obtain ⟨r, r1, r2, r3⟩ := after_row h hk'
    have hn := h.n20
    have hl := hi.1
    unfold mFleetMatch_L975
    rw [idx_tk hk', Option.bind_some, r1, Option.bind_some, room_ok (by omega) (by omega), Option.bind_some]
    refine ⟨_, rfl, by simp [hl], fun a ha => ?_⟩
    by_cases e : a = k
    · subst e
      exact ⟨r, by rw [List.getElem?_append_right (by omega), show a - A.length = 0 by omega]; rfl, r2, r3⟩
    · rw [List.getElem?_append_left (by omega)]
      exact hi.2 a (by omega))
  rw [Nat.zero_add] at h2 h3
  refine ⟨A, h1, ⟨h2, fun i hi => ?_⟩, fun a b ha hb => ?_⟩
  · obtain ⟨r, r1, r2, _⟩ := h3 i (by omega)
    rw [List.getElem?_eq_getElem hi] at r1
    injection r1 with r1
    rw [r1]; exact r2
  · obtain ⟨r, r1, r2, r3⟩ := h3 a ha
    unfold Aft
    rw [r1, ← r3 b hb]
    exact ⟨fun ⟨q, q1, q2⟩ => by injection q1 with q1; rw [q1]; exact q2, fun q => ⟨r, rfl, q⟩⟩
/-- What match makes: a matching, and a dead part that shows that none is greater. -/
structure Best (n : Nat) (E : Nat → Nat → Prop) (next prev : List Int) : Prop where
  m : MOk n E next prev
  mat : Mat n E (at_ prev)
  best : ∀ Q, Mat n E Q → (single n (at_ prev)).length ≤ (single n Q).length
theorem match_spec (h : EmptyOk l x T) : ∃ A next prev, mFleetMatch l x T = some (A, next, prev) ∧ Best l.length (Can l x T) next prev := by
  unfold mFleetMatch
  have hn := h.n20
  obtain ⟨A, a1, a2, a3⟩ := after_all h
  rw [repeat_eq _ hn, Option.bind_some, Option.bind_some, a1, Option.bind_some]
  have rep : ∀ b, b < l.length → at_ (List.replicate l.length (-1)) b = -1 := fun b hb => by
    unfold at_
    rw [List.getElem?_replicate, if_pos hb]
    rfl
  have hstart : Half l.length (Aft A) 0 (List.replicate l.length (-1)) (List.replicate l.length (-1)) := by
    refine ⟨⟨List.length_replicate, List.length_replicate, fun b hb => .inl (rep b hb), fun b hb => .inl (rep b hb)⟩, fun b b' hb _ h0 => ?_, fun b hb => ?_, fun _ => False, fun b _ h => h.elim, fun a _ h => absurd h (by omega)⟩
    · rw [rep b hb] at h0; omega
    · rw [rep b hb]; decide
  obtain ⟨⟨next, prev⟩, h1, h2⟩ := forS_inv (body := mFleetMatch_L1778 l A) (fun k s => Half l.length (Aft A) k s.1 s.2) l.length 0 (List.replicate l.length (-1), List.replicate l.length (-1)) hstart (fun k s _ hk hi => by
    obtain ⟨next, prev⟩ := s
    obtain ⟨n', p', q1, q2⟩ := match_step a2 (L := l) rfl (by omega) (show k < l.length by omega) hi
    exact ⟨(n', p'), q1, q2⟩)
  rw [h1, pass2]
  rw [Nat.zero_add] at h2
  simp only at h2
  obtain ⟨D, d1, d2⟩ := h2.dead
  have hpe : ∀ b, b < l.length → at_ prev b = -1 ∨ (0 ≤ at_ prev b ∧ at_ prev b < (l.length : Int) ∧ Can l x T (at_ prev b).toNat b) := fun b hb => by
    rcases h2.m.pe b hb with q | ⟨q1, q2, q3⟩
    · exact .inl q
    · exact .inr ⟨q1, q2, (a3 _ b (by omega) hb).1 q3⟩
  refine ⟨A, next, prev, rfl, ⟨h2.m.nl, h2.m.pl, hpe, fun a ha => ?_⟩, ⟨hpe, h2.inj⟩, fun Q hQ => ?_⟩
  · rcases h2.m.ne a ha with q | ⟨q1, q2, q3⟩
    · exact .inl q
    · exact .inr ⟨q1, q2, (a3 a _ ha (by omega)).1 q3⟩
  · refine best (E := Aft A) (D := D) ⟨fun b hb => ?_, hQ.inj⟩ d1 (fun a ha => d2 a ha ha)
    rcases hQ.edge b hb with q | ⟨q1, q2, q3⟩
    · exact .inl q
    · exact .inr ⟨q1, q2, (a3 _ b (by omega) hb).2 q3⟩
/- ---- the turns of a matching ---- -/
theorem chain_end (h : EmptyOk l x T) {next prev : List Int} (M : MOk l.length (Can l x T) next prev) {a : Nat} (ha : a < l.length) : ∃ t, loopM (mFleetCovers_L1264 next) ((a : Int), ([] : List Int)) = some t := by
  have dep : ∀ i, i < l.length → 0 ≤ (tk l i).Dep ∧ (tk l i).Dep ≤ 28800 := fun i hi => by
    have := h.turn.tasks _ (tk_mem hi)
    unfold OkTask at this
    omega
  obtain ⟨t, h1, _⟩ := loopM_inv (step := mFleetCovers_L1264 next) (fun s => (s.1 = -1 ∨ (0 ≤ s.1 ∧ s.1 < (l.length : Int))) ∧ (s.2.length : Int) + (if s.1 < 0 then 0 else 30000 - (tk l s.1.toNat).Dep) ≤ 30000) (fun _ => True) (fun s => if s.1 < 0 then 0 else (30000 - (tk l s.1.toNat).Dep).toNat) (fun s hs => by
    obtain ⟨y, t⟩ := s
    simp only at hs
    unfold mFleetCovers_L1264
    simp only [unc2]
    rcases hs.1 with e | ⟨y0, y1⟩
    · rw [if_neg (by omega)]
      exact .inr ⟨_, rfl, trivial⟩
    · obtain ⟨i, rfl⟩ : ∃ i : Nat, y = (i : Int) := ⟨y.toNat, by omega⟩
      have hi : i < l.length := by omega
      have hd := dep i hi
      have h2 := hs.2
      rw [if_neg (by omega), Int.toNat_natCast] at h2
      rw [if_pos y0, room_ok (by omega) (by omega), Option.bind_some, idx_at (by rw [M.nl]; exact hi), Option.bind_some]
      refine .inl ⟨_, rfl, ?_⟩
      simp only [List.length_append, List.length_cons, List.length_nil, Int.toNat_natCast]
      rcases M.ne i hi with e | ⟨q1, q2, q3⟩
      · rw [e]
        refine ⟨⟨.inl rfl, ?_⟩, ?_⟩
        · rw [if_pos (by decide)]
          omega
        · rw [if_pos (by decide), if_neg (by omega)]
          omega
      · have hj : (at_ next i).toNat < l.length := by omega
        have hdj := dep _ hj
        have o1 := h.turn.tasks _ (tk_mem hi)
        have o2 := h.turn.tasks _ (tk_mem hj)
        have hv := h.sec.val (tk l i).To.toNat (tk l (at_ next i).toNat).From.toNat (by unfold OkTask at o1; omega) (by unfold OkTask at o2; omega)
        have ht := h.turn.turn
        unfold Can at q3
        unfold OkTask at o1
        refine ⟨⟨.inr ⟨q1, q2⟩, ?_⟩, ?_⟩
        · rw [if_neg (by omega)]
          omega
        · rw [if_neg (by omega), if_neg (by omega)]
          omega) ((a : Int), []) ⟨.inr ⟨by simp only; omega, by simp only; omega⟩, by
            simp only [List.length_nil, Int.toNat_natCast]
            rw [if_neg (by omega)]
            have := dep a ha
            omega⟩
  exact ⟨t, h1⟩
theorem covers_spec (h : EmptyOk l x T) : ∃ out P, mFleetCovers l x T = some (0, out) ∧ out.length = (single l.length P).length ∧ Mat l.length (Can l x T) P ∧ ∀ Q, Mat l.length (Can l x T) Q → (single l.length P).length ≤ (single l.length Q).length := by
  obtain ⟨A, next, prev, m1, B⟩ := match_spec h
  unfold mFleetCovers
  rw [check_ok h, Option.bind_some, if_neg (by decide), m1, pass3]
  have hn := h.n20
  obtain ⟨out, h1, h2⟩ := forS_inv (body := mFleetCovers_L711 next prev) (fun k (out : List (List Int)) => out.length = ((List.range k).filter (fun b => decide (at_ prev b < 0))).length) l.length 0 [] rfl (fun k out _ hk hi => by
    have hk' : k < l.length := by omega
    have hf : ((List.range k).filter (fun b => decide (at_ prev b < 0))).length ≤ k := by
      have := List.length_filter_le (fun b => decide (at_ prev b < 0)) (List.range k)
      rwa [List.length_range] at this
    unfold mFleetCovers_L711
    rw [idx_at (by rw [B.m.pl]; exact hk'), Option.bind_some, List.range_succ, List.filter_append]
    by_cases h0 : 0 ≤ at_ prev k
    · rw [if_pos h0]
      refine ⟨out, rfl, ?_⟩
      rw [List.filter_cons_of_neg (by simpa using h0)]
      simpa using hi
    · rw [if_neg h0]
      obtain ⟨t, ht⟩ := chain_end h B.m hk'
      rw [ht, Option.bind_some, room_ok (by omega) (by omega), Option.bind_some]
      refine ⟨_, rfl, ?_⟩
      rw [List.filter_cons_of_pos (by simpa using h0)]
      simp [hi])
  rw [h1]
  rw [Nat.zero_add] at h2
  exact ⟨out, at_ prev, rfl, h2, B.mat, B.best⟩
end
end Go.Proofs.Ytajmocgpjkhjlaa
