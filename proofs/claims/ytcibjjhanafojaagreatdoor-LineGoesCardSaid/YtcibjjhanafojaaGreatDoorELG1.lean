/- Plain: legs; the chains from a platform to another one. -/
import Derived.Test.YtcibjjhanafojaaGreatDoorELS2
import Derived.Test.YtcibjjhanafojaaGreatDoorELL9
set_option linter.unusedVariables false
set_option linter.unusedSimpArgs false
namespace Go.Proofs.YtcibjjhanafojaaGreatDoor
open Go.RowKit Go.Fp

/-- The order of words. -/
def lexlt : List Int → List Int → Prop
  | _, [] => False
  | [], _ :: _ => True
  | a :: l, b :: m => a < b ∨ a = b ∧ lexlt l m
theorem lexlt_trans : ∀ {l m k : List Int}, lexlt l m → lexlt m k → lexlt l k
  | _, _, [], _, h => by cases ‹List Int› <;> exact h.elim
  | [], _, _ :: _, _, _ => trivial
  | a :: l, [], c :: k, h, _ => h.elim
  | a :: l, b :: m, c :: k, h, g => by
    rcases h with h | ⟨h, h2⟩
    · rcases g with g | ⟨g, g2⟩
      · exact .inl (by omega)
      · exact .inl (by omega)
    · rcases g with g | ⟨g, g2⟩
      · exact .inl (by omega)
      · exact .inr ⟨by omega, lexlt_trans h2 g2⟩
theorem lex_app {a b : Int} (h : a < b) : ∀ (l x y : List Int), lexlt (l ++ a :: x) (l ++ b :: y)
  | [], _, _ => .inl h
  | c :: l, x, y => .inr ⟨rfl, lex_app h l x y⟩
theorem lex_pre {b : Int} : ∀ (l y : List Int), lexlt l (l ++ b :: y)
  | [], _ => trivial
  | c :: l, y => .inr ⟨rfl, lex_pre l y⟩
theorem cmp_lt {x y : Int} (h : x < y) : mCmpCompare x y = some (-1) := by
  unfold mCmpCompare mCmpIsNaN
  simp [h]
theorem cmp_same (x : Int) : mCmpCompare x x = some 0 := by
  unfold mCmpCompare mCmpIsNaN
  simp
theorem compare_lt {l m : List Int} (h : lexlt l m) : ∃ v, mSlicesCompare l m = some v ∧ v < 0 := by
  unfold mSlicesCompare
  rcases forM_inv (body := mSlicesCompare_L70 l m) (fun k _ => lexlt (l.drop k) (m.drop k)) (fun v : Int => v < 0) l.length 0 () (by simpa using h) (fun k u _ hk hi => by
    have hk : k < l.length := by omega
    rw [List.drop_eq_getElem_cons hk] at hi
    by_cases hm : k < m.length
    · rw [List.drop_eq_getElem_cons hm] at hi
      unfold mSlicesCompare_L70
      rw [idx_lt hk, Option.bind_some, if_neg (by omega), idx_lt hm, Option.bind_some]
      rcases hi with hi | ⟨he, hi⟩
      · rw [cmp_lt hi, Option.bind_some, if_pos (by decide)]
        exact .inr ⟨_, rfl, by decide⟩
      · rw [he, cmp_same, Option.bind_some, if_neg (by decide)]
        exact .inl ⟨_, rfl, hi⟩
    · rw [List.drop_eq_nil_of_le (by omega : m.length ≤ k)] at hi
      exact hi.elim) with ⟨u, h1, h2⟩ | ⟨v, h1, h2⟩
  · rw [h1]
    show ∃ v, (if (l.length : Int) < (m.length : Int) then some (-1) else some 0) = some v ∧ v < 0
    have h2 : lexlt (l.drop (0 + l.length)) (m.drop (0 + l.length)) := h2
    by_cases c : (l.length : Int) < (m.length : Int)
    · rw [if_pos c]
      exact ⟨_, rfl, by decide⟩
    · rw [Nat.zero_add, List.drop_eq_nil_of_le (Nat.le_refl _), List.drop_eq_nil_of_le (by omega : m.length ≤ l.length)] at h2
      exact h2.elim
  · rw [h1]
    exact ⟨v, rfl, h2⟩
noncomputable def nd (n : ApiNet) (r : ApiRoute) : List ApiNeed := (mLineNeeds n r).getD []
theorem nd_eq {n : ApiNet} (hN : NetOk n) {r : ApiRoute} (h : RouteOk n r) : mLineNeeds n r = some (nd n r) := by
  obtain ⟨l, h1⟩ := needs_total hN h
  unfold nd
  rw [h1]
  rfl
theorem idx_map {α β : Type} {l : List α} {f : α → β} {i : Int} {x : α} (h : idx l i = some x) : idx (l.map f) i = some (f x) := by
  unfold idx at h ⊢
  split at h
  · rw [if_pos ‹_›, List.getElem?_map, h]
    rfl
  · cases h
theorem open_eq {n : ApiNet} (hN : NetOk n) (tr : Int) {rs : List ApiRoute} (h : ∀ r ∈ rs, RouteOk n r) (hl : rs.length ≤ 81) :
    mLineOpen n tr rs = some (n.Stations, n.Sections, n.Links, n.Signals, n.Gates, tr, rs, rs.map (nd n)) := by
  unfold mLineOpen
  obtain ⟨l, h1, h2⟩ := forS_inv (body := mLineOpen_L235 n rs) (fun k l => l = (rs.take k).map (nd n)) rs.length 0 [] (by simp) (fun k l _ hk hi => by
    have hk : k < rs.length := by omega
    unfold mLineOpen_L235
    rw [idx_lt hk, Option.bind_some, nd_eq hN (h _ (List.getElem_mem hk)), Option.bind_some]
    have hlen : l.length = k := by rw [hi, List.length_map, List.length_take]; omega
    rw [room_ok (by omega) (by omega), Option.bind_some]
    refine ⟨_, rfl, ?_⟩
    rw [hi, List.take_add_one, List.getElem?_eq_getElem hk, Option.toList_some, List.map_append]
    rfl)
  rw [h1, Option.bind_some, h2]
  simp
/-- A net, a platform, the routes. -/
structure Ctx (n : ApiNet) (rs : List ApiRoute) : Prop where
  net : NetOk n
  ok : ∀ r ∈ rs, RouteOk n r
  many : rs.length ≤ 81
noncomputable def addM (n : ApiNet) (tr : Int) (rs : List ApiRoute) (leg : List Int) (k : Int) : Option Int := mLineLegsAdd leg k n.Stations n.Sections n.Links n.Signals n.Gates tr rs (rs.map (nd n))
theorem add2_eq (leg : List Int) (k : Int) (a : List ByteArray) (b : List ApiSection) (c : List ApiLink) (d : List ApiSignal) (e : List ApiGate) (tr : Int) (rs : List ApiRoute) (tb : List (List ApiNeed)) : mLineLegsAdd_2 k a b c d e tr rs leg tb = mLineLegsAdd leg k a b c d e tr rs tb := rfl
def InR (rs : List ApiRoute) (k : Int) : Prop := 0 ≤ k ∧ k < (rs.length : Int)
theorem get_of {rs : List ApiRoute} {k : Int} (h : InR rs k) : ∃ r, idx rs k = some r ∧ r ∈ rs := by
  obtain ⟨r, h1, h2⟩ := idx_get h.1 h.2
  exact ⟨r, h1, List.mem_of_getElem? h2⟩
theorem add_total {n : ApiNet} {rs : List ApiRoute} (C : Ctx n rs) (tr : Int) {leg : List Int} (hleg : ∀ j ∈ leg, InR rs j) (hl : leg.length ≤ 60) (k : Int) :
    ∃ c, addM n tr rs leg k = some c ∧ (c = 0 → InR rs k) := by
  have hm := C.many
  have two : ∀ {v : Unit ⊕ Int} {t : Option (Unit ⊕ Int)}, t = some v → (t = some (.inl ()) ∧ True) ∨ ∃ v, t = some (.inr v) ∧ True := fun {v t} h => by
    rcases v with u | v
    · exact .inl ⟨h, trivial⟩
    · exact .inr ⟨v, h, trivial⟩
  unfold addM mLineLegsAdd
  rw [chk_ok (by omega) (by omega), Option.bind_some, within_eq, Option.bind_some]
  by_cases hk : 0 ≤ k ∧ k ≤ (rs.length : Int) - 1
  · have hR : InR rs k := ⟨hk.1, by omega⟩
    obtain ⟨r, h1, h2⟩ := get_of hR
    have hr := C.ok r h2
    rw [decide_eq_true hk, if_pos rfl, h1, Option.bind_some]
    have hfrom := idx_sig (n := n) hr.from_
    obtain ⟨q, hq⟩ : ∃ q, ((if (leg.length : Int) = 0 then (idx n.Signals r.From).bind fun x1099 => some (decide (x1099.Section ≠ tr)) else some false).bind (fun x1085 =>
        if x1085 = true then some x1085 else if 0 < (leg.length : Int) then (chk ((leg.length : Int) - 1)).bind fun _ => (idx leg ((leg.length : Int) - 1)).bind fun x1137 => (idx rs x1137).bind fun x1147 => some (decide (r.From ≠ x1147.To)) else some false)) = some q := by
      by_cases c0 : (leg.length : Int) = 0
      · rw [if_pos c0, hfrom, Option.bind_some, Option.bind_some]
        split
        · exact ⟨_, rfl⟩
        · rw [if_neg (by omega)]; exact ⟨_, rfl⟩
      · rw [if_neg c0, Option.bind_some, if_neg (by decide), if_pos (by omega), chk_ok (by omega) (by omega), Option.bind_some]
        have e : (leg.length : Int) - 1 = ((leg.length - 1 : Nat) : Int) := by omega
        have hlt : leg.length - 1 < leg.length := by omega
        obtain ⟨r2, g1, _⟩ := get_of (hleg _ (List.getElem_mem hlt))
        rw [e, idx_lt hlt, Option.bind_some, g1, Option.bind_some]
        exact ⟨_, rfl⟩
    rw [hq, Option.bind_some]
    by_cases cq : q = true
    · rw [if_pos cq]
      exact ⟨5, rfl, fun h => absurd h (by decide)⟩
    · rw [if_neg cq]
      have hst := hr.way.many
      have steps : ∀ k (hk : k < r.Steps.length), ∃ v, mLineLegsAdd_L1161 leg n.Stations n.Sections n.Links n.Signals n.Gates rs (rs.map (nd n)) tr r k () = some v := fun k hk => by
        unfold mLineLegsAdd_L1161
        rw [idx_lt hk, Option.bind_some]
        obtain ⟨b, hb⟩ : ∃ b, mSlicesContainsFunc_3 leg r.Steps[k].Section r.Steps[k].In r.Steps[k].Out n.Stations n.Sections n.Links n.Signals n.Gates tr rs (rs.map (nd n)) = some b := by
          unfold mSlicesContainsFunc_3 mSlicesIndexFunc_3
          rcases forU (body := mSlicesIndexFunc_3_L83 leg n.Stations n.Sections n.Links n.Signals n.Gates rs (rs.map (nd n)) r.Steps[k].Section r.Steps[k].In r.Steps[k].Out tr) (fun _ => True) (fun _ => True) leg.length (fun j hj => by
            unfold mSlicesIndexFunc_3_L83 mLineLegsAdd_1
            obtain ⟨r2, g1, _⟩ := get_of (hleg _ (List.getElem_mem hj))
            rw [idx_lt hj, Option.bind_some, g1, Option.bind_some, stands_eq, Option.bind_some, Option.bind_some]
            split
            · exact .inr ⟨_, rfl, trivial⟩
            · exact .inl ⟨rfl, trivial⟩) with ⟨f1, _⟩ | ⟨v, f1, _⟩
          · rw [f1]; exact ⟨_, rfl⟩
          · rw [f1]; exact ⟨_, rfl⟩
        rw [hb, Option.bind_some]
        split
        · rw [Option.bind_some, if_pos rfl]; exact ⟨_, rfl⟩
        · rw [Option.bind_some]
          split <;> exact ⟨_, rfl⟩
      have legs : ∀ j (hj : j < leg.length), ∃ v, mLineLegsAdd_L1243 leg (rs.map (nd n)) k j () = some v := fun j hj => by
        obtain ⟨r2, g1, _⟩ := get_of (hleg _ (List.getElem_mem hj))
        unfold mLineLegsAdd_L1243
        rw [idx_lt hj, Option.bind_some, idx_map g1, Option.bind_some]
        have inner : ∀ i (hi : i < (nd n r2).length), ∃ v, mLineLegsAdd_L1550 (rs.map (nd n)) k (nd n r2) i () = some v := fun i hi => by
          unfold mLineLegsAdd_L1550
          rw [idx_lt hi, Option.bind_some]
          split
          · rw [idx_map h1, Option.bind_some, meet_eq, Option.bind_some, Option.bind_some]
            split <;> exact ⟨_, rfl⟩
          · rw [Option.bind_some, if_neg (by decide)]
            exact ⟨_, rfl⟩
        rcases forU (body := mLineLegsAdd_L1550 (rs.map (nd n)) k (nd n r2)) (fun _ => True) (fun _ => True) (nd n r2).length (fun i hi => by
          obtain ⟨v, hv⟩ := inner i hi
          rcases v with u | v
          · exact .inl ⟨hv, trivial⟩
          · exact .inr ⟨v, hv, trivial⟩) with ⟨f1, _⟩ | ⟨v, f1, _⟩
        · rw [f1]; exact ⟨_, rfl⟩
        · rw [f1]; exact ⟨_, rfl⟩
      rcases forU (body := mLineLegsAdd_L1161 leg n.Stations n.Sections n.Links n.Signals n.Gates rs (rs.map (nd n)) tr r) (fun _ => True) (fun _ => True) r.Steps.length (fun j hj => two (steps j hj).choose_spec) with ⟨f1, _⟩ | ⟨v, f1, _⟩
      · rw [f1, Option.bind_some, Sum.elim_inl]
        rcases forU (body := mLineLegsAdd_L1243 leg (rs.map (nd n)) k) (fun _ => True) (fun _ => True) leg.length (fun j hj => two (legs j hj).choose_spec) with ⟨f2, _⟩ | ⟨v, f2, _⟩
        · rw [f2, Option.bind_some, Sum.elim_inl]
          obtain ⟨lap, o1, _⟩ := overlap_spec C.net hr
          have o1 : mLineOverlap (⟨n.Stations, n.Sections, n.Links, n.Signals, n.Gates⟩ : ApiNet) r = some lap := o1
          rw [o1, Option.bind_some, stands_eq, Option.bind_some, Option.bind_some]
          split
          · exact ⟨8, rfl, fun h => absurd h (by decide)⟩
          · exact ⟨0, rfl, fun _ => hR⟩
        · rw [f2]
          exact ⟨v, rfl, fun _ => hR⟩
      · rw [f1]
        exact ⟨v, rfl, fun _ => hR⟩
  · rw [decide_eq_false hk, if_neg (by decide)]
    exact ⟨3, rfl, fun h => absurd h (by decide)⟩
noncomputable def lastM (n : ApiNet) (tr : Int) (rs : List ApiRoute) (leg : List Int) : Option Int := mLineLegsLast_2 leg n.Stations n.Sections n.Links n.Signals n.Gates tr rs (rs.map (nd n))
theorem last2_eq (n : ApiNet) (tr : Int) (rs : List ApiRoute) (leg : List Int) : mLineLegsLast n.Stations n.Sections n.Links n.Signals n.Gates tr rs leg (rs.map (nd n)) = lastM n tr rs leg := rfl
theorem last_total {n : ApiNet} {rs : List ApiRoute} (C : Ctx n rs) (tr : Int) {leg : List Int} (hleg : ∀ j ∈ leg, InR rs j) (h0 : leg ≠ []) (hl : leg.length ≤ 60) : ∃ c, lastM n tr rs leg = some c := by
  have hpos : 0 < leg.length := List.length_pos_iff.2 h0
  have hlt : leg.length - 1 < leg.length := by omega
  unfold lastM mLineLegsLast_2
  obtain ⟨r, g1, g2⟩ := get_of (hleg _ (List.getElem_mem hlt))
  have hr := C.ok r g2
  obtain ⟨w, s, hw, _⟩ := hr.last
  have hm := hr.way.many
  have hs : r.Steps.length = w.length + 1 := by rw [hw]; simp
  rw [chk_ok (by omega) (by omega), Option.bind_some, show (leg.length : Int) - 1 = ((leg.length - 1 : Nat) : Int) by omega, idx_lt hlt, Option.bind_some, g1, Option.bind_some, chk_ok (by omega) (by omega), Option.bind_some, show (r.Steps.length : Int) - 1 = ((w.length : Nat) : Int) by omega, idx_lt (show w.length < r.Steps.length by omega), Option.bind_some]
  exact ⟨_, rfl⟩
end Go.Proofs.YtcibjjhanafojaaGreatDoor
