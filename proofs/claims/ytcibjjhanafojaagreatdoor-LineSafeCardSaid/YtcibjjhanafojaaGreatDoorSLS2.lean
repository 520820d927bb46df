/- Plain: the needs of a route come to an end. -/
import Derived.Test.YtcibjjhanafojaaGreatDoorSLS1
set_option linter.unusedVariables false
set_option linter.unusedSimpArgs false
namespace Go.Proofs.YtcibjjhanafojaaGreatDoor
open Go.RowKit Go.Fp

theorem forS_invD {σ : Type} {body : Nat → σ → Option σ} {D : Prop} (I : Nat → σ → Prop) : ∀ (m k : Nat) (s : σ), I k s → (∀ j s, k ≤ j → j < k + m → I j s → (body j s = none ∧ D) ∨ ∃ s', body j s = some s' ∧ I (j + 1) s') → (forS body m k s = none ∧ D) ∨ ∃ s', forS body m k s = some s' ∧ I (k + m) s'
  | 0, k, s, h0, _ => .inr ⟨s, rfl, h0⟩
  | m + 1, k, s, h0, h => by
    rcases h k s (Nat.le_refl _) (by omega) h0 with ⟨h1, hd⟩ | ⟨s', h1, h2⟩
    · refine .inl ⟨?_, hd⟩
      show (body k s).bind _ = _
      rw [h1]
      rfl
    · rcases forS_invD (D := D) I m (k + 1) s' h2 (fun j t hj hj' hi => h j t (by omega) (by omega) hi) with ⟨h3, hd⟩ | ⟨s'', h3, h4⟩
      · refine .inl ⟨?_, hd⟩
        show (body k s).bind _ = _
        rw [h1]
        exact h3
      · refine .inr ⟨s'', ?_, by rw [show k + (m + 1) = k + 1 + m by omega]; exact h4⟩
        show (body k s).bind _ = _
        rw [h1]
        exact h3
/-- What the looker keeps: no more than so many needs. -/
def Few (B : Nat) : List ApiNeed × List (ApiNeed × Bool) → Prop := fun S => S.1.length ≤ B
theorem need_spec (x : ApiNeed) (a : List ByteArray) (b : List ApiSection) (c : List ApiLink) (d : List ApiSignal) (e : List ApiGate) (f t : Int) (st lap : List ApiStep) (l : List ApiNeed) (m : List (ApiNeed × Bool)) (h : l.length ≤ 1000000) :
    ∃ S, mLineLookerNeed x a b c d e f t st lap l m = some S ∧ Few (l.length + 1) S := by
  unfold mLineLookerNeed
  rw [Option.bind_some]
  split
  · exact ⟨_, rfl, Nat.le_succ _⟩
  · rw [room_ok (by omega) (by omega), Option.bind_some]
    exact ⟨_, rfl, by show (l ++ [x]).length ≤ _; simp⟩
theorem flank_total (x p : Int) (a : List ByteArray) (b : List ApiSection) (c : List ApiLink) (d : List ApiSignal) (e : List ApiGate) (f t : Int) (st lap : List ApiStep) (l : List ApiNeed) (m : List (ApiNeed × Bool)) :
    ∃ q, mLineLookerFlank x p a b c d e f t st lap l m = some q := by
  unfold mLineLookerFlank mSlicesContainsFunc_2 mSlicesIndexFunc_2
  rcases forU (body := mSlicesIndexFunc_2_L65 x p l) (fun _ => True) (fun _ => True) l.length (fun k hk => by
    unfold mSlicesIndexFunc_2_L65 mLineLookerFlank_1
    rw [idx_lt hk, Option.bind_some]
    obtain ⟨q, hq⟩ : ∃ q, (if l[k].Kind = 3 then if l[k].Place = x then some (decide (l[k].Position = p)) else some false else some false) = some q := by
      split
      · split <;> exact ⟨_, rfl⟩
      · exact ⟨_, rfl⟩
    rw [hq, Option.bind_some, Option.bind_some]
    split
    · exact .inr ⟨_, rfl, trivial⟩
    · exact .inl ⟨rfl, trivial⟩) with ⟨h1, _⟩ | ⟨v, h1, _⟩
  · rw [h1]; exact ⟨_, rfl⟩
  · rw [h1]; exact ⟨_, rfl⟩
theorem outsL_len (k i : Int) : (outsL k i).length ≤ 2 := by
  unfold outsL
  split
  · simp
  · split <;> simp
theorem look1_spec {n : ApiNet} (hN : NetOk n) (i f t : Int) (st lap : List ApiStep) : ∀ (N : Nat) (e : LineEnd) (many : Nat) (l : List ApiNeed) (m : List (ApiNeed × Bool)), many ≤ 8 → l.length + 2 ^ (9 - many) ≤ 1000000 →
    (mLineLookerLook_1 N e (many : Int) i n.Stations n.Sections n.Links n.Signals n.Gates f t st lap l m = none ∧ N + many ≤ 8) ∨ ∃ S, mLineLookerLook_1 N e (many : Int) i n.Stations n.Sections n.Links n.Signals n.Gates f t st lap l m = some S ∧ Few (l.length + 2 ^ (9 - many)) S
  | 0, e, many, l, m, hm, _ => .inl ⟨rfl, by omega⟩
  | N + 1, e, many, l, m, hm, hb => by
    have e0 : mLineJoined (⟨n.Stations, n.Sections, n.Links, n.Signals, n.Gates⟩ : ApiNet) e = some (joinR (joinL n.Links e)) := joined_eq n e
    have hpos : 1 ≤ 2 ^ (9 - many) := Nat.one_le_two_pow
    have stay : ∃ S, (some (l, m) : Option (List ApiNeed × List (ApiNeed × Bool))) = some S ∧ Few (l.length + 2 ^ (9 - many)) S := ⟨_, rfl, Nat.le_add_right _ _⟩
    have more : ∀ x, ∃ S, mLineLookerNeed x n.Stations n.Sections n.Links n.Signals n.Gates f t st lap l m = some S ∧ Few (l.length + 2 ^ (9 - many)) S := fun x => by
      obtain ⟨S, h1, h2⟩ := need_spec x n.Stations n.Sections n.Links n.Signals n.Gates f t st lap l m (by omega)
      exact ⟨S, h1, Nat.le_trans h2 (by omega)⟩
    unfold mLineLookerLook_1
    rw [e0]
    cases hj : joinL n.Links e with
    | none =>
      have e1 : (some (joinR none)).bind (unc3 fun x857 x858 x859 => some (x859, x857, x858)) = some (false, (0 : Int), (0 : Int)) := rfl
      rw [e1, pass3, if_neg (by decide), Option.bind_some, if_pos rfl]
      exact .inr stay
    | some g =>
      obtain ⟨x, hx, hg⟩ := joinL_mem hj
      have hG : Has n g := by
        rcases hg with ⟨_, h⟩ | ⟨_, h⟩
        · rw [← h]; exact (hN.ends x hx).2
        · rw [← h]; exact (hN.ends x hx).1
      have e1 : (some (joinR (some g))).bind (unc3 fun x857 x858 x859 => some (x859, x857, x858)) = some (true, g.section_, g.end_) := rfl
      rw [e1, pass3, if_pos rfl]
      obtain ⟨q, hq, hq8⟩ : ∃ q, (if (many : Int) = 8 then some true else (mLineStands st g.section_).bind fun x891 => if x891 = true then some true else (mLineStands lap g.section_).bind fun x894 => some x894) = some q ∧ (q = false → many < 8) := by
        by_cases c : (many : Int) = 8
        · rw [if_pos c]; exact ⟨true, rfl, fun h => by cases h⟩
        · rw [if_neg c, stands_eq, Option.bind_some]
          split
          · exact ⟨_, rfl, fun _ => by omega⟩
          · rw [stands_eq, Option.bind_some]
            exact ⟨_, rfl, fun _ => by omega⟩
      rw [hq, Option.bind_some]
      by_cases cq : q = true
      · rw [if_pos cq]
        exact .inr stay
      · have h8 : many < 8 := hq8 (by simpa using cq)
        have i1 := idx_sec (n := n) hG.1
        rw [if_neg cq, i1, Option.bind_some]
        -- what the cases give
        obtain ⟨o, ho, ho2⟩ : ∃ o : (Unit ⊕ (List ApiNeed × List (ApiNeed × Bool))), ((if (sec n g.section_).Kind = 2 then some (decide (0 < g.end_)) else some false).bind (fun x1029 =>
            if x1029 = true then (
              ((mLineLookerFlank g.section_ g.end_ n.Stations n.Sections n.Links n.Signals n.Gates f t st lap l m).bind fun x1065 =>
              if x1065 = true then (some (l, m)) else (
              (chk (3 - g.end_)).bind fun _ =>
              (mLineLookerNeed (⟨3, g.section_, 3 - g.end_, i⟩ : ApiNeed) n.Stations n.Sections n.Links n.Signals n.Gates f t st lap l m).bind (unc2 fun l1071 l1072 => some (l1071, l1072)))).bind (unc2 fun l1061 l1063 => some (.inr (l1061, l1063))))
            else (
              if (sec n g.section_).Kind = 1 then (
                (mLineSignal (⟨n.Stations, n.Sections, n.Links, n.Signals, n.Gates⟩ : ApiNet) (⟨g.section_, g.end_⟩ : LineEnd)).bind fun x1087 =>
                if 0 ≤ x1087 then (
                  (if x1087 ≠ f then ((mLineLookerNeed (⟨4, x1087, 0, i⟩ : ApiNeed) n.Stations n.Sections n.Links n.Signals n.Gates f t st lap l m).bind (unc2 fun l1118 l1119 => some (l1118, l1119))) else (some (l, m))).bind (unc2 fun l1113 l1115 => some (.inr (l1113, l1115))))
                else (some (.inl ())))
              else (some (.inl ()))))) = some o ∧ ∀ S, o = .inr S → Few (l.length + 2 ^ (9 - many)) S := by
          obtain ⟨d, hd⟩ : ∃ d : Bool, (if (sec n g.section_).Kind = 2 then some (decide (0 < g.end_)) else some false) = some d := by
            split <;> exact ⟨_, rfl⟩
          rw [hd, Option.bind_some]
          by_cases cd : d = true
          · rw [if_pos cd]
            obtain ⟨q2, hq2⟩ := flank_total g.section_ g.end_ n.Stations n.Sections n.Links n.Signals n.Gates f t st lap l m
            rw [hq2, Option.bind_some]
            split
            · exact ⟨_, rfl, fun S hS => by injection hS with hS; rw [← hS]; exact Nat.le_add_right _ _⟩
            · have hk := kind3 hG.2
              obtain ⟨⟨l', m'⟩, h1, h2⟩ := more (⟨3, g.section_, 3 - g.end_, i⟩ : ApiNeed)
              rw [chk_ok (by omega) (by omega), Option.bind_some, h1]
              exact ⟨_, rfl, fun S hS => by injection hS with hS; rw [← hS]; exact h2⟩
          · rw [if_neg cd]
            split
            · have e2 : mLineSignal (⟨n.Stations, n.Sections, n.Links, n.Signals, n.Gates⟩ : ApiNet) ⟨g.section_, g.end_⟩ = some (sg n g) := (signal_spec n g).1
              rw [e2, Option.bind_some]
              split
              · split
                · obtain ⟨⟨l', m'⟩, h1, h2⟩ := more (⟨4, sg n g, 0, i⟩ : ApiNeed)
                  rw [h1]
                  exact ⟨_, rfl, fun S hS => by injection hS with hS; rw [← hS]; exact h2⟩
                · exact ⟨_, rfl, fun S hS => by injection hS with hS; rw [← hS]; exact Nat.le_add_right _ _⟩
              · exact ⟨_, rfl, fun S hS => by cases hS⟩
            · exact ⟨_, rfl, fun S hS => by cases hS⟩
        rw [ho, Option.bind_some]
        rcases o with u | S
        · have e3 : mLineOuts (sec n g.section_).Kind g.end_ = some (outsL (sec n g.section_).Kind g.end_) := outs_eq _ _
          rw [Sum.elim_inl, e3, Option.bind_some]
          have ho3 := outsL_len (sec n g.section_).Kind g.end_
          have hp2 : 2 ^ (9 - many) = 2 * 2 ^ (8 - many) := by
            rw [show 9 - many = (8 - many) + 1 by omega, Nat.pow_succ]
            omega
          rcases forS_invD (body := mLineLookerLook_1_L1139 n.Stations n.Sections n.Links n.Signals n.Gates st lap (many : Int) i f t g.section_ (outsL (sec n g.section_).Kind g.end_) (mLineLookerLook_1 N)) (D := N + 1 + many ≤ 8) (fun k => Few (l.length + k * 2 ^ (8 - many))) (outsL (sec n g.section_).Kind g.end_).length 0 (l, m) (by show l.length ≤ _; omega) (fun k S _ hk hS => by
            obtain ⟨l', m'⟩ := S
            have hS : l'.length ≤ l.length + k * 2 ^ (8 - many) := hS
            have hk1 : k * 2 ^ (8 - many) + 2 ^ (8 - many) ≤ 2 * 2 ^ (8 - many) := by
              rw [← Nat.succ_mul]
              exact Nat.mul_le_mul_right _ (by omega)
            unfold mLineLookerLook_1_L1139
            simp only [unc2]
            rw [idx_lt (show k < (outsL (sec n g.section_).Kind g.end_).length by omega), Option.bind_some, chk_ok (by omega) (by omega), Option.bind_some]
            have ih := look1_spec hN i f t st lap N ⟨g.section_, (outsL (sec n g.section_).Kind g.end_)[k]⟩ (many + 1) l' m' (by omega) (by rw [show 9 - (many + 1) = 8 - many by omega]; omega)
            rw [show (((many + 1 : Nat)) : Int) = (many : Int) + 1 by push_cast; rfl] at ih
            rcases ih with ⟨h1, hd⟩ | ⟨⟨l2, m2⟩, h1, h2⟩
            · rw [h1]
              exact .inl ⟨rfl, by omega⟩
            · rw [h1]
              refine .inr ⟨_, rfl, ?_⟩
              have h2 : l2.length ≤ l'.length + 2 ^ (9 - (many + 1)) := h2
              rw [show 9 - (many + 1) = 8 - many by omega] at h2
              show l2.length ≤ l.length + (k + 1) * 2 ^ (8 - many)
              rw [Nat.succ_mul]
              omega) with ⟨h1, hd⟩ | ⟨⟨l', m'⟩, h1, h2⟩
          · rw [h1]
            exact .inl ⟨rfl, by omega⟩
          · rw [h1]
            refine .inr ⟨_, rfl, ?_⟩
            have h2 : l'.length ≤ l.length + (0 + (outsL (sec n g.section_).Kind g.end_).length) * 2 ^ (8 - many) := h2
            show l'.length ≤ _
            have := Nat.mul_le_mul_right (2 ^ (8 - many)) ho3
            rw [Nat.zero_add] at h2
            omega
        · rw [Sum.elim_inr]
          exact .inr ⟨S, rfl, ho2 S rfl⟩
theorem look_spec {n : ApiNet} (hN : NetOk n) (f t : Int) {st : List ApiStep} (lap : List ApiStep) (hst : ∀ s ∈ st, StepOk n s) {i : Nat} (hi : i < st.length) (l : List ApiNeed) (m : List (ApiNeed × Bool)) (hb : l.length + 4096 ≤ 1000000) :
    ∃ S, mLineLookerLook (i : Int) n.Stations n.Sections n.Links n.Signals n.Gates f t st lap l m = some S ∧ Few (l.length + 2048) S := by
  have hs := hst _ (List.getElem_mem hi)
  have hE := endsI_bd (sec n st[i].Section).Kind
  have i1 := idx_sec (n := n) hs.1.1
  simp only at i1
  unfold mLineLookerLook
  rw [idx_lt hi, Option.bind_some, pass3, i1, Option.bind_some, ends_eq, Option.bind_some, chk_ok (by omega) (by omega), Option.bind_some]
  obtain ⟨⟨l', m'⟩, h1, h2⟩ := forS_inv (body := mLineLookerLook_L306 n.Stations n.Sections n.Links n.Signals n.Gates st lap (i : Int) f t st[i].Section st[i].In st[i].Out) (fun k => Few (l.length + k * 512)) (endsI (sec n st[i].Section).Kind).toNat 0 (l, m) (by show l.length ≤ _; omega) (fun k S _ hk hS => by
    obtain ⟨l', m'⟩ := S
    have hS : l'.length ≤ l.length + k * 512 := hS
    have hk4 : k < 4 := by omega
    unfold mLineLookerLook_L306
    simp only [unc2]
    obtain ⟨q, hq⟩ : ∃ q, (if (k : Int) ≠ st[i].In then some (decide ((k : Int) ≠ st[i].Out)) else some false) = some q := by
      split <;> exact ⟨_, rfl⟩
    rw [hq, Option.bind_some]
    by_cases cq : q = true
    · rw [if_pos cq]
      obtain ⟨⟨l2, m2⟩, h1, h2⟩ := lim_ok (P := Few (l'.length + 512)) (f := fun N => mLineLookerLook_1 N ⟨st[i].Section, (k : Int)⟩ 0 (i : Int) n.Stations n.Sections n.Links n.Signals n.Gates f t st lap l' m') (by
        have hp : l'.length + 2 ^ (9 - 0) ≤ 1000000 := by rw [show (2 : Nat) ^ (9 - 0) = 512 from rfl]; omega
        rcases look1_spec hN (i : Int) f t st lap 9 ⟨st[i].Section, (k : Int)⟩ 0 l' m' (by omega) hp with ⟨_, h⟩ | ⟨S, h, _⟩
        · omega
        · exact ⟨9, S, h⟩) (fun N S hS => by
        have hp : l'.length + 2 ^ (9 - 0) ≤ 1000000 := by rw [show (2 : Nat) ^ (9 - 0) = 512 from rfl]; omega
        rcases look1_spec hN (i : Int) f t st lap N ⟨st[i].Section, (k : Int)⟩ 0 l' m' (by omega) hp with ⟨h, _⟩ | ⟨S', h, h2⟩
        · have h : mLineLookerLook_1 N ⟨st[i].Section, (k : Int)⟩ 0 (i : Int) n.Stations n.Sections n.Links n.Signals n.Gates f t st lap l' m' = none := h
          rw [h] at hS; cases hS
        · have h : mLineLookerLook_1 N ⟨st[i].Section, (k : Int)⟩ 0 (i : Int) n.Stations n.Sections n.Links n.Signals n.Gates f t st lap l' m' = some S' := h
          rw [h] at hS
          rw [← Option.some.inj hS]
          rw [show (2 : Nat) ^ (9 - 0) = 512 from rfl] at h2
          exact h2)
      rw [h1]
      refine ⟨_, rfl, ?_⟩
      have h2 : l2.length ≤ l'.length + 512 := h2
      show l2.length ≤ _
      omega
    · rw [if_neg cq]
      refine ⟨_, rfl, ?_⟩
      show l'.length ≤ l.length + (k + 1) * 512
      rw [Nat.succ_mul]
      exact Nat.le_trans hS (by rw [← Nat.add_assoc]; exact Nat.le_add_right _ _))
  rw [h1]
  refine ⟨_, rfl, ?_⟩
  have h2 : l'.length ≤ l.length + (0 + (endsI (sec n st[i].Section).Kind).toNat) * 512 := h2
  show l'.length ≤ _
  omega
theorem position_total {n : ApiNet} {s : ApiStep} (h : StepOk n s) : ∃ p, mLinePosition n s = some p := by
  unfold mLinePosition
  have i1 := idx_sec (n := n) h.1.1
  simp only at i1
  rw [i1, Option.bind_some]
  split <;> exact ⟨_, rfl⟩
/-- The needs of a route. -/
theorem needs_total {n : ApiNet} (hN : NetOk n) {r : ApiRoute} (h : RouteOk n r) : ∃ l, mLineNeeds n r = some l := by
  obtain ⟨lap, h1, h2, h3⟩ := overlap_spec hN h
  have hm := h.way.many
  have hp := h.way.path.step
  unfold mLineNeeds
  rw [h1, Option.bind_some, pass2]
  obtain ⟨⟨l1, m1⟩, g1, g2⟩ := forS_inv (body := mLineNeeds_L550 n r lap) (fun k => Few k) r.Steps.length 0 ([], []) (Nat.le_refl _) (fun k S _ hk hS => by
    obtain ⟨l, m⟩ := S
    have hS : l.length ≤ k := hS
    have hk : k < r.Steps.length := by omega
    obtain ⟨p, hp1⟩ := position_total (hp _ (List.getElem_mem hk))
    obtain ⟨⟨l', m'⟩, e1, e2⟩ := need_spec ⟨1, r.Steps[k].Section, p, (k : Int)⟩ n.Stations n.Sections n.Links n.Signals n.Gates r.From r.To r.Steps lap l m (by omega)
    unfold mLineNeeds_L550
    simp only [unc2]
    rw [idx_lt hk, Option.bind_some, hp1, Option.bind_some, e1]
    have e2 : l'.length ≤ l.length + 1 := e2
    exact ⟨_, rfl, by show l'.length ≤ _; omega⟩)
  have g2 : l1.length ≤ 0 + r.Steps.length := g2
  rw [g1, pass2]
  obtain ⟨⟨l2, m2⟩, f1, f2⟩ := forS_inv (body := mLineNeeds_L696 n r lap) (fun k => Few (l1.length + k)) lap.length 0 (l1, m1) (Nat.le_refl _) (fun k S _ hk hS => by
    obtain ⟨l, m⟩ := S
    have hS : l.length ≤ l1.length + k := hS
    have hk : k < lap.length := by omega
    obtain ⟨p, hp1⟩ := position_total (h3 _ (List.getElem_mem hk))
    obtain ⟨⟨l', m'⟩, e1, e2⟩ := need_spec ⟨2, lap[k].Section, p, -1⟩ n.Stations n.Sections n.Links n.Signals n.Gates r.From r.To r.Steps lap l m (by omega)
    unfold mLineNeeds_L696
    simp only [unc2]
    rw [idx_lt hk, Option.bind_some, hp1, Option.bind_some, e1]
    have e2 : l'.length ≤ l.length + 1 := e2
    exact ⟨_, rfl, by show l'.length ≤ _; omega⟩)
  have f2 : l2.length ≤ l1.length + (0 + lap.length) := f2
  rw [f1, pass2]
  obtain ⟨⟨l3, m3⟩, d1, d2⟩ := forS_inv (body := mLineNeeds_L860 n r lap) (fun k => Few (l2.length + k * 2048)) r.Steps.length 0 (l2, m2) (by show l2.length ≤ _; omega) (fun k S _ hk hS => by
    obtain ⟨l, m⟩ := S
    have hS : l.length ≤ l2.length + k * 2048 := hS
    have hk : k < r.Steps.length := by omega
    obtain ⟨⟨l', m'⟩, e1, e2⟩ := look_spec hN r.From r.To lap hp hk l m (by omega)
    unfold mLineNeeds_L860
    simp only [unc2]
    rw [e1]
    have e2 : l'.length ≤ l.length + 2048 := e2
    exact ⟨_, rfl, by show l'.length ≤ _; omega⟩)
  have d2 : l3.length ≤ l2.length + (0 + r.Steps.length) * 2048 := d2
  rw [d1, pass2]
  obtain ⟨⟨l4, m4⟩, c1, c2⟩ := need_spec ⟨5, r.From, 0, -1⟩ n.Stations n.Sections n.Links n.Signals n.Gates r.From r.To r.Steps lap l3 m3 (by omega)
  rw [c1]
  exact ⟨_, rfl⟩
end Go.Proofs.YtcibjjhanafojaaGreatDoor
