/- Plain: LineSafe. -/
import Derived.Test.YtcibjjhanafojaaGreatDoorSLT2
import Derived.Test.YtcibjjhanafojaaGreatDoorSLL9
import Derived.Test.YtcibjjhanafojaaGreatDoorSR1
set_option linter.unusedVariables false
set_option linter.unusedSimpArgs false
namespace Go.Proofs.YtcibjjhanafojaaGreatDoor
open Go.RowKit Go.Fp

theorem some_spec {n : ApiNet} {rs : List ApiRoute} (C : Rts n rs) (hr : mLineRoutes n = some (0, rs)) (a b : Int) :
    (mLineSome n [a, b] = some (0, rs) ∧ 0 ≤ a ∧ a < (rs.length : Int) ∧ 0 ≤ b ∧ b < (rs.length : Int)) ∨ (mLineSome n [a, b] = some (3, []) ∧ ¬ (0 ≤ a ∧ a < (rs.length : Int) ∧ 0 ≤ b ∧ b < (rs.length : Int))) := by
  have hm := C.many
  have one : ∀ (k : Nat) (x : Int), idx [a, b] (k : Int) = some x → mLineSome_L91 [a, b] rs k () = some (if 0 ≤ x ∧ x ≤ (rs.length : Int) - 1 then .inl () else .inr (3, [])) := fun k x hx => by
    unfold mLineSome_L91
    rw [hx, Option.bind_some, chk_ok (by omega) (by omega), Option.bind_some, within_eq, Option.bind_some]
    by_cases c : 0 ≤ x ∧ x ≤ (rs.length : Int) - 1
    · rw [decide_eq_true c, if_pos rfl, if_pos c]
    · rw [decide_eq_false c, if_neg (by decide), if_neg c]
  have e0 := one 0 a rfl
  have e1 := one 1 b rfl
  unfold mLineSome
  rw [hr, pass2, if_neg (by decide)]
  by_cases ca : 0 ≤ a ∧ a ≤ (rs.length : Int) - 1
  · rw [if_pos ca] at e0
    by_cases cb : 0 ≤ b ∧ b ≤ (rs.length : Int) - 1
    · rw [if_pos cb] at e1
      refine .inl ⟨?_, ca.1, by omega, cb.1, by omega⟩
      show ((forM (mLineSome_L91 [a, b] rs) 2 0 ()).bind fun t => Sum.elim (fun _ => some (0, rs)) (fun q => some q) t) = _
      rw [forM_succ_inl e0, forM_succ_inl e1]
      rfl
    · rw [if_neg cb] at e1
      refine .inr ⟨?_, by omega⟩
      show ((forM (mLineSome_L91 [a, b] rs) 2 0 ()).bind fun t => Sum.elim (fun _ => some (0, rs)) (fun q => some q) t) = _
      rw [forM_succ_inl e0, forM_succ_inr e1]
      rfl
  · rw [if_neg ca] at e0
    refine .inr ⟨?_, by omega⟩
    show ((forM (mLineSome_L91 [a, b] rs) 2 0 ()).bind fun t => Sum.elim (fun _ => some (0, rs)) (fun q => some q) t) = _
    rw [forM_succ_inr e0]
    rfl
theorem clash_spec {n : ApiNet} {rs : List ApiRoute} (C : Rts n rs) {a b : Nat} (ha : a < rs.length) (hb : b < rs.length) (h : mLineSome n [(a : Int), (b : Int)] = some (0, rs)) :
    mLineClash n (a : Int) (b : Int) = some (decide (a = b ∨ clash n rs a b), 0) := by
  unfold mLineClash
  rw [h, pass2, if_neg (by decide)]
  by_cases c : a = b
  · rw [if_pos (by rw [c]), Option.bind_some, decide_eq_true (Or.inl c)]
  · rw [if_neg (by omega), idx_lt ha, Option.bind_some, needs_at C ha, Option.bind_some, idx_lt hb, Option.bind_some, needs_at C hb, Option.bind_some, meet_at, Option.bind_some, Option.bind_some]
    by_cases cc : clash n rs a b
    · rw [decide_eq_true cc, decide_eq_true (Or.inr cc)]
    · rw [decide_eq_false cc, decide_eq_false (fun h => h.elim c cc)]
theorem contains_spec (l : List Int) (x : Int) : mSlicesContains_2 l x = some (decide (x ∈ l)) := by
  unfold mSlicesContains_2 mSlicesIndex_3
  rcases forU (body := mSlicesIndex_3_L39 l x) (fun k => ∀ h : k < l.length, l[k] ≠ x) (fun v : Int => 0 ≤ v ∧ x ∈ l) l.length (fun k hk => by
    unfold mSlicesIndex_3_L39
    rw [idx_lt hk, Option.bind_some]
    by_cases c : x = l[k]
    · rw [if_pos c]
      exact .inr ⟨_, rfl, by omega, by rw [c]; exact List.getElem_mem hk⟩
    · rw [if_neg c]
      exact .inl ⟨rfl, fun _ e => c e.symm⟩) with ⟨h1, h2⟩ | ⟨v, h1, h2, h3⟩
  · rw [h1]
    show some (decide ((0 : Int) ≤ -1)) = _
    rw [decide_eq_false (by decide), decide_eq_false (fun hx => by
      obtain ⟨j, hj, e⟩ := List.getElem_of_mem hx
      exact h2 j hj hj e)]
  · rw [h1]
    show some (decide (0 ≤ v)) = _
    rw [decide_eq_true h2, decide_eq_true h3]
theorem apart_of {x y : ApiNeed} (hx : 1 ≤ x.Kind ∧ x.Kind ≤ 5) (hy : 1 ≤ y.Kind ∧ y.Kind ≤ 5) (h : ¬ Meet x y) :
    ¬ (x.Kind ≤ 2 ∧ y.Kind ≤ 2 ∧ x.Place = y.Place) ∧ ¬ (x.Kind ≤ 3 ∧ y.Kind ≤ 3 ∧ x.Place = y.Place ∧ x.Position ≠ y.Position) ∧ ¬ (x.Kind = 4 ∧ y.Kind = 5 ∧ x.Place = y.Place) := by
  refine ⟨fun ⟨a, b, c⟩ => h ⟨c, .inl ⟨?_, ?_⟩⟩, fun ⟨a, b, c, d⟩ => h ⟨c, ?_⟩, fun ⟨a, b, c⟩ => h ⟨c, .inr (.inr (.inr (.inl ⟨a, b⟩)))⟩⟩
  · show x.Kind = 1 ∨ x.Kind = 2
    omega
  · show y.Kind = 1 ∨ y.Kind = 2
    omega
  · by_cases cx : x.Kind = 3
    · refine .inr (.inl ⟨cx, ?_, d⟩)
      by_cases cy : y.Kind = 3
      · exact .inl cy
      · exact .inr (show y.Kind = 1 ∨ y.Kind = 2 by omega)
    · by_cases cy : y.Kind = 3
      · exact .inr (.inr (.inl ⟨cy, .inr (show x.Kind = 1 ∨ x.Kind = 2 by omega), fun e => d e.symm⟩))
      · exact .inl ⟨show x.Kind = 1 ∨ x.Kind = 2 by omega, show y.Kind = 1 ∨ y.Kind = 2 by omega⟩
theorem if_d {α : Type} {p : Prop} [Decidable p] {a b : α} : (if decide p = true then a else b) = if p then a else b := by
  by_cases h : p
  · rw [if_pos (decide_eq_true h), if_pos h]
  · rw [if_neg (by simpa using h), if_neg h]
theorem pair_ok {x : ApiNeed} {r : ApiRow} {k : Nat} (hk : k < r.Needs.length) (hx : 1 ≤ x.Kind ∧ x.Kind ≤ 5) (hy : 1 ≤ r.Needs[k].Kind ∧ r.Needs[k].Kind ≤ 5) (h : ¬ Meet x r.Needs[k]) : mFishkeep1LineSafe_L738 x r k () = some (.inl ()) := by
  obtain ⟨h1, h2, h3⟩ := apart_of hx hy h
  have g1 : (if x.Kind ≤ 2 then (if r.Needs[k].Kind ≤ 2 then some (decide (x.Place = r.Needs[k].Place)) else some false) else some false) = some false := by
    split
    · split
      · rw [decide_eq_false (fun e => h1 ⟨‹_›, ‹_›, e⟩)]
      · rfl
    · rfl
  have g2 : (if x.Kind ≤ 3 then (if r.Needs[k].Kind ≤ 3 then (if x.Place = r.Needs[k].Place then some (decide (x.Position ≠ r.Needs[k].Position)) else some false) else some false) else some false) = some false := by
    split
    · split
      · split
        · rw [decide_eq_false (fun e => h2 ⟨‹_›, ‹_›, ‹_›, e⟩)]
        · rfl
      · rfl
    · rfl
  have g3 : (if x.Kind = 4 then (if r.Needs[k].Kind = 5 then some (decide (x.Place = r.Needs[k].Place)) else some false) else some false) = some false := by
    split
    · split
      · rw [decide_eq_false (fun e => h3 ⟨‹_›, ‹_›, e⟩)]
      · rfl
    · rfl
  unfold mFishkeep1LineSafe_L738
  rw [idx_lt hk, Option.bind_some, g1, Option.bind_some, g2, Option.bind_some, if_neg (by decide), if_neg (by decide), g3, Option.bind_some, if_neg (by decide)]
theorem safe_plain {n : ApiNet} (hS : Small n) (a b : Int) : mFishkeep1LineSafe n a b = some true := by
  obtain ⟨c, hc, hok⟩ := check_spec hS
  have bad : ∀ e : Int, e ≠ 0 → mLineSome n [a, b] = some (e, []) → mLineSome n [b, a] = some (e, []) → mFishkeep1LineSafe n a b = some true := fun e he h1 h2 => by
    unfold mFishkeep1LineSafe mLineClash
    rw [awake_true, Option.bind_some, if_pos rfl, h1, pass2, if_pos he, pass2, h2, pass2, if_pos he, pass2, if_neg (by decide), decide_eq_false (fun h => h rfl), Option.bind_some, if_neg (by decide), if_pos he]
  by_cases h0 : c = 0
  · subst h0
    have hN := hok rfl
    obtain ⟨d, rs, h1, h2, h3, h4, h5⟩ := routes_spec hN
    have hr : mLineRoutes n = some (d, rs) := by
      unfold mLineRoutes
      rw [hc, Option.bind_some, if_neg (by decide), h1, pass2]
    by_cases hd : d = 0
    · subst hd
      have C : Rts n rs := ⟨hN, h3, h5⟩
      rcases some_spec C hr a b with ⟨s1, a0, a1, b0, b1⟩ | ⟨s1, hno⟩
      · rcases some_spec C hr b a with ⟨s2, _⟩ | ⟨_, hno⟩
        · obtain ⟨a, rfl⟩ : ∃ k : Nat, a = (k : Int) := ⟨a.toNat, by omega⟩
          obtain ⟨b, rfl⟩ : ∃ k : Nat, b = (k : Int) := ⟨b.toNat, by omega⟩
          have ha : a < rs.length := by omega
          have hb : b < rs.length := by omega
          have hT := table_spec C hr
          have hsym : (b = a ∨ clash n rs b a) = (a = b ∨ clash n rs a b) := propext ⟨fun h => h.elim (fun e => .inl e.symm) (fun e => .inr (clash_sym e)), fun h => h.elim (fun e => .inl e.symm) (fun e => .inr (clash_sym e))⟩
          have e2 : mLineClash n (b : Int) (a : Int) = some (decide (a = b ∨ clash n rs a b), 0) := by
            rw [clash_spec C hb ha s2]
            congr 2
            exact decide_eq_decide.2 (by rw [hsym])
          have hmem : ∀ {i j : Nat}, i < rs.length → j < rs.length → (((j : Int) ∈ (rowF n rs i).Clashes) ↔ (i ≠ j ∧ clash n rs i j)) := fun {i j} hi hj => by
            show _ ∈ cls n rs i rs.length ↔ _
            rw [cls_mem]
            constructor
            · rintro ⟨q, _, hq, h⟩
              obtain rfl : j = q := by omega
              exact h
            · exact fun h => ⟨j, hj, rfl, h⟩
          unfold mFishkeep1LineSafe
          rw [awake_true, Option.bind_some, if_pos rfl, clash_spec C ha hb s1, pass2, e2, pass2, if_neg (by simp), decide_eq_false (fun h => h rfl), Option.bind_some, if_neg (by decide), if_neg (by decide), hT, pass2, if_neg (by decide), tab_len, if_neg (by omega), decide_eq_false (by omega), Option.bind_some, if_neg (by decide)]
          by_cases hab : a = b ∨ clash n rs a b
          · rw [if_pos (decide_eq_true hab)]
            by_cases eab : a = b
            · rw [if_pos (by rw [eab])]
              rfl
            · have hcl := hab.resolve_left eab
              rw [if_neg (by omega), tab_idx ha, Option.bind_some, contains_spec, Option.bind_some, decide_eq_true ((hmem ha hb).2 ⟨eab, hcl⟩), if_pos rfl, tab_idx hb, Option.bind_some, contains_spec, Option.bind_some, decide_eq_true ((hmem hb ha).2 ⟨fun e => eab e.symm, clash_sym hcl⟩)]
              rfl
          · rw [if_neg (by simpa using hab), tab_idx ha, Option.bind_some, contains_spec, Option.bind_some, decide_eq_false (fun h => hab (.inr ((hmem ha hb).1 h).2)), if_neg (by decide), Option.bind_some]
            rcases forU (body := mFishkeep1LineSafe_L583 (b : Int) (tab rs.length (rowF n rs)) (rowF n rs a)) (fun _ => True) (fun _ => False) (rowF n rs a).Needs.length (fun k hk => by
              have hx := kinds_at C ha _ (List.getElem_mem hk)
              have hno : ∀ y ∈ nI n rs b, ¬ Meet (rowF n rs a).Needs[k] y := fun y hy h => hab (.inr ⟨_, List.getElem_mem hk, y, hy, h⟩)
              unfold mFishkeep1LineSafe_L583
              rw [idx_lt hk, Option.bind_some, tab_idx hb, Option.bind_some]
              rcases forU (body := mFishkeep1LineSafe_L738 (rowF n rs a).Needs[k] (rowF n rs b)) (fun _ => True) (fun _ => False) (rowF n rs b).Needs.length (fun q hq => .inl ⟨pair_ok hq hx (kinds_at C hb _ (List.getElem_mem hq)) (hno _ (List.getElem_mem hq)), trivial⟩) with ⟨f1, _⟩ | ⟨_, _, hf⟩
              · rw [f1]
                exact .inl ⟨rfl, trivial⟩
              · exact hf.elim) with ⟨f1, _⟩ | ⟨_, _, hf⟩
            · rw [f1]
              rfl
            · exact hf.elim
        · exact absurd ⟨b0, b1, a0, a1⟩ hno
      · rcases some_spec C hr b a with ⟨_, a0, a1, b0, b1⟩ | ⟨s2, _⟩
        · exact absurd ⟨b0, b1, a0, a1⟩ hno
        · exact bad 3 (by decide) s1 s2
    · rcases h2 with h2 | ⟨h2, rfl⟩
      · exact absurd h2 hd
      · refine bad d hd ?_ ?_
        · unfold mLineSome
          rw [hr, pass2, if_pos hd]
        · unfold mLineSome
          rw [hr, pass2, if_pos hd]
  · have hr : mLineRoutes n = some (c, []) := by
      unfold mLineRoutes
      rw [hc, Option.bind_some, if_pos h0]
    refine bad c h0 ?_ ?_
    · unfold mLineSome
      rw [hr, pass2, if_pos h0]
    · unfold mLineSome
      rw [hr, pass2, if_pos h0]
theorem lineSafePlain (n : ApiNet) (a b : Int) (k0 : ok28 n) (k1 : ok3 a) (k2 : ok3 b) : mFishkeep1LineSafe n a b = some true := safe_plain (fun s hs => k0.1.2 s hs) a b
end Go.Proofs.YtcibjjhanafojaaGreatDoor
