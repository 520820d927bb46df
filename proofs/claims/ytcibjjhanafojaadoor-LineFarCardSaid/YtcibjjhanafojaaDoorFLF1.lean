/- Plain: least sums of metres. -/
import Derived.Test.YtcibjjhanafojaaDoorFLR0
set_option linter.unusedVariables false
set_option linter.unusedSimpArgs false
namespace Go.Proofs.YtcibjjhanafojaaDoor
open Go.RowKit Go.Fp

/-- Ends that are come to from places, and the metres between. -/
inductive Way (n : ApiNet) (S : List Int) : LineEnd → Int → Prop
  | first {s i : Int} {y : LineEnd} (hs : s ∈ S) (hi : i = 0 ∨ i = 1) (hj : joinL n.Links ⟨s, i⟩ = some y) : Way n S y 0
  | more {x y : LineEnd} {c o : Int} (h : Way n S x c) (ho : o ∈ outsL (sec n x.section_).Kind x.end_) (hj : joinL n.Links ⟨x.section_, o⟩ = some y) : Way n S y (c + (sec n x.section_).Length)
theorem joined_has {n : ApiNet} (hN : NetOk n) {e f : LineEnd} (h : joinL n.Links e = some f) : Has n f := by
  obtain ⟨x, hx, h⟩ := joinL_mem h
  rcases h with ⟨_, h⟩ | ⟨_, h⟩
  · rw [← h]; exact (hN.ends x hx).2
  · rw [← h]; exact (hN.ends x hx).1
theorem sec_len {n : ApiNet} (hN : NetOk n) {e : LineEnd} (h : Has n e) : 10 ≤ (sec n e.section_).Length ∧ (sec n e.section_).Length ≤ 3000 := by
  have hsec : n.Sections[e.section_.toNat]? = some (sec n e.section_) := by
    have hh := h.1
    unfold sec
    rw [List.getElem?_eq_getElem (by have := hh.1; have := hh.2; omega)]
    rfl
  exact (hN.secs _ (List.mem_of_getElem? hsec)).len
theorem way_pos {n : ApiNet} (hN : NetOk n) {S : List Int} {y : LineEnd} {c : Int} (h : Way n S y c) : 0 ≤ c ∧ Has n y := by
  induction h with
  | first _ _ hj => exact ⟨Int.le_refl _, joined_has hN hj⟩
  | more _ _ hj ih => exact ⟨by have := sec_len hN ih.2; omega, joined_has hN hj⟩
abbrev Tab := List (LineEnd × Int)
/-- All ends that there may be. -/
def allE : List LineEnd := (List.range 240).map fun k => ⟨((k / 4 : Nat) : Int), ((k % 4 : Nat) : Int)⟩
theorem all_has {n : ApiNet} (hN : NetOk n) {e : LineEnd} (h : Has n e) : e ∈ allE := by
  have h60 := hN.n60
  obtain ⟨⟨h1, h2⟩, h3, h4⟩ := h
  have hb := (endsI_bd (sec n e.section_).Kind).2
  refine List.mem_map.2 ⟨4 * e.section_.toNat + e.end_.toNat, List.mem_range.2 (by omega), ?_⟩
  obtain ⟨s, i⟩ := e
  simp only at *
  congr 1 <;> omega
def cnt (m : Tab) : Nat := allE.countP fun e => (mget m e).isSome
def wt (m : Tab) (e : LineEnd) : Nat := match mget m e with
  | none => 1000000
  | some c => c.toNat
def pot (m : Tab) : Nat := (allE.map (wt m)).sum
theorem sum_lt {α : Type} {f g : α → Nat} : ∀ {l : List α} {a : α}, a ∈ l → (∀ x ∈ l, f x ≤ g x) → f a < g a → (l.map f).sum < (l.map g).sum
  | b :: l, a, ha, hle, hlt => by
    have le : ∀ l : List α, (∀ x ∈ l, f x ≤ g x) → (l.map f).sum ≤ (l.map g).sum := fun l => by
      induction l with
      | nil => intro _; exact Nat.le_refl _
      | cons c l ih =>
        intro h
        have h1 := ih fun x hx => h x (List.mem_cons_of_mem _ hx)
        have h2 := h c (List.mem_cons_self ..)
        simp only [List.map_cons, List.sum_cons]
        omega
    simp only [List.map_cons, List.sum_cons]
    have h2 := hle b (List.mem_cons_self ..)
    rcases List.mem_cons.1 ha with rfl | ha
    · have := le l fun x hx => hle x (List.mem_cons_of_mem _ hx)
      omega
    · have := sum_lt ha (fun x hx => hle x (List.mem_cons_of_mem _ hx)) hlt
      omega
theorem cnt_le (m : Tab) : cnt m ≤ 240 := by
  have := List.countP_le_length (p := fun e => (mget m e).isSome) (l := allE)
  have hl : allE.length = 240 := by unfold allE; rw [List.length_map, List.length_range]
  unfold cnt
  omega
theorem countP_mono {α : Type} {p q : α → Bool} (h : ∀ x, p x = true → q x = true) : ∀ l : List α, l.countP p ≤ l.countP q
  | [] => Nat.le_refl _
  | a :: l => by
    have ih := countP_mono h l
    rw [List.countP_cons, List.countP_cons]
    by_cases c : p a = true
    · rw [if_pos c, if_pos (h a c)]; omega
    · rw [if_neg c]; split <;> omega
theorem countP_lt {α : Type} {p q : α → Bool} (h : ∀ x, p x = true → q x = true) {a : α} (hp : p a = false) (hq : q a = true) : ∀ {l : List α}, a ∈ l → l.countP p < l.countP q
  | b :: l, ha => by
    rw [List.countP_cons, List.countP_cons]
    rcases List.mem_cons.1 ha with rfl | ha
    · have := countP_mono h l
      rw [if_neg (by simp [hp]), if_pos hq]
      omega
    · have := countP_lt h hp hq ha
      by_cases c : p b = true
      · rw [if_pos c, if_pos (h b c)]; omega
      · rw [if_neg c]; split <;> omega
/-- What holds of the table. -/
structure TabOk (n : ApiNet) (S : List Int) (m : Tab) : Prop where
  way : ∀ y c, mget m y = some c → Way n S y c ∧ c ≤ 3000 * (cnt m : Int)
  nd : (m.map (·.1)).Nodup
/-- No greater than before. -/
def Less (m m' : Tab) : Prop := ∀ y c, mget m y = some c → ∃ c', mget m' y = some c' ∧ c' ≤ c
theorem less_refl (m : Tab) : Less m m := fun y c h => ⟨c, h, Int.le_refl _⟩
theorem less_trans {a b c : Tab} (h : Less a b) (g : Less b c) : Less a c := fun y v hv => by
  obtain ⟨v1, h1, h2⟩ := h y v hv
  obtain ⟨v2, h3, h4⟩ := g y v1 h1
  exact ⟨v2, h3, by omega⟩
theorem reach_eq (at_ : LineEnd) (d : Int) (a : List ByteArray) (b : List ApiSection) (c : List ApiLink) (e : List ApiSignal) (f : List ApiGate) (m : Tab) (q : List LineEnd) : mLineDistances_1 at_ d a b c e f m q = mLineDistances_1_2 at_ d a b c e f m q := rfl
theorem cnt_put {m : Tab} {y : LineEnd} {d : Int} : cnt m ≤ cnt (mput m y d) ∧ (y ∈ allE → mget m y = none → cnt m < cnt (mput m y d)) := by
  have h : ∀ x, (mget m x).isSome = true → (mget (mput m y d) x).isSome = true := fun x hx => by
    by_cases e : x = y
    · subst e; rw [mget_mput_same]; rfl
    · rw [mget_mput_other m d e]; exact hx
  exact ⟨countP_mono h _, fun hy hn => countP_lt h (by rw [hn]; rfl) (by rw [mget_mput_same]; rfl) hy⟩
/-- An end is come to with d metres. -/
theorem reach_spec {n : ApiNet} (hN : NetOk n) {S : List Int} {at_ : LineEnd} {d : Int} {m : Tab} {q : List LineEnd} (hm : TabOk n S m) (hq : q.length ≤ 1000000000)
    (hd : ∀ y, joinL n.Links at_ = some y → Way n S y d ∧ (d = 0 ∨ d ≤ 3000 * (cnt m : Int) + 3000)) :
    ∃ m' q', mLineDistances_1_2 at_ d n.Stations n.Sections n.Links n.Signals n.Gates m q = some (m', q') ∧ TabOk n S m' ∧ Less m m' ∧ (∀ y, joinL n.Links at_ = some y → ∃ c, mget m' y = some c ∧ c ≤ d) ∧
      2 * pot m' + q'.length ≤ 2 * pot m + q.length ∧ q'.length ≤ q.length + 1 ∧ (∃ r, q' = q ++ r ∧ ∀ y ∈ r, joinL n.Links at_ = some y) ∧ (∀ y, mget m' y = mget m y ∨ (y ∈ q' ∧ joinL n.Links at_ = some y)) ∧ (∀ y c, mget m y = some c → c ≤ d → mget m' y = some c) := by
  have e1 : mLineJoined (⟨n.Stations, n.Sections, n.Links, n.Signals, n.Gates⟩ : ApiNet) at_ = some (joinR (joinL n.Links at_)) := joined_eq n at_
  unfold mLineDistances_1_2
  rw [e1]
  cases hj : joinL n.Links at_ with
  | none =>
    exact ⟨m, q, rfl, hm, less_refl m, fun y h => (by cases h), Nat.le_refl _, Nat.le_succ _, ⟨[], by simp, fun y hy => (List.not_mem_nil hy).elim⟩, fun y => .inl rfl, fun y c h _ => h⟩
  | some y =>
    obtain ⟨hway, hdb⟩ := hd y hj
    have hpos := way_pos hN hway
    show ∃ m' q', (some (mgetD m y 0)).bind (fun x90 => (if true = true then if mhas m y = true then some (decide (d < x90)) else some true else some false).bind (fun x97 => if x97 = true then (room 16 (q.length + 1)).bind fun _ => some (mput m y d, q ++ [y]) else some (m, q))) = some (m', q') ∧ _
    rw [Option.bind_some, if_pos rfl]
    -- it is better, or it is not
    have keep : (∃ c, mget m y = some c ∧ c ≤ d) → ∃ m' q', (some (m, q) : Option (Tab × List LineEnd)) = some (m', q') ∧ TabOk n S m' ∧ Less m m' ∧ (∀ z, some y = some z → ∃ c, mget m' z = some c ∧ c ≤ d) ∧
        2 * pot m' + q'.length ≤ 2 * pot m + q.length ∧ q'.length ≤ q.length + 1 ∧ (∃ r, q' = q ++ r ∧ ∀ z ∈ r, some y = some z) ∧ (∀ z, mget m' z = mget m z ∨ (z ∈ q' ∧ some y = some z)) ∧ (∀ z c, mget m z = some c → c ≤ d → mget m' z = some c) := fun h =>
      ⟨m, q, rfl, hm, less_refl m, fun z hz => by injection hz with hz; subst hz; exact h, Nat.le_refl _, Nat.le_succ _, ⟨[], by simp, fun y hy => (List.not_mem_nil hy).elim⟩, fun z => .inl rfl, fun z c h _ => h⟩
    have turn : (∀ c, mget m y = some c → d < c) → ∃ m' q', ((room 16 (q.length + 1)).bind fun _ => some (mput m y d, q ++ [y]) : Option (Tab × List LineEnd)) = some (m', q') ∧ TabOk n S m' ∧ Less m m' ∧ (∀ z, some y = some z → ∃ c, mget m' z = some c ∧ c ≤ d) ∧
        2 * pot m' + q'.length ≤ 2 * pot m + q.length ∧ q'.length ≤ q.length + 1 ∧ (∃ r, q' = q ++ r ∧ ∀ z ∈ r, some y = some z) ∧ (∀ z, mget m' z = mget m z ∨ (z ∈ q' ∧ some y = some z)) ∧ (∀ z c, mget m z = some c → c ≤ d → mget m' z = some c) := fun h => by
      rw [room_ok (by omega) (by omega), Option.bind_some]
      have hy := all_has hN hpos.2
      have hc := cnt_put (m := m) (y := y) (d := d)
      have hbig := cnt_le (mput m y d)
      have hd2 : d ≤ 3000 * (cnt (mput m y d) : Int) := by
        rcases hdb with h0 | h0
        · omega
        · cases hg : mget m y with
          | none => have := hc.2 hy hg; omega
          | some c =>
            have h1 := h c hg
            have h2 := (hm.way y c hg).2
            omega
      have hpot : pot (mput m y d) < pot m := by
        refine sum_lt hy (fun x _ => ?_) ?_
        · unfold wt
          by_cases e : x = y
          · subst e
            rw [mget_mput_same]
            cases hg : mget m x with
            | none => show d.toNat ≤ 1000000; omega
            | some c => have := h c hg; show d.toNat ≤ c.toNat; omega
          · rw [mget_mput_other m d e]
            exact Nat.le_refl _
        · unfold wt
          rw [mget_mput_same]
          cases hg : mget m y with
          | none => show d.toNat < 1000000; omega
          | some c => have := h c hg; show d.toNat < c.toNat; omega
      refine ⟨_, _, rfl, ⟨fun z c hz => ?_, mput_nodup m y d hm.nd⟩, fun z c hz => ?_, fun z hz => ?_, ?_, by simp, ⟨[y], rfl, fun z hz => by rw [List.mem_singleton.1 hz]⟩, fun z => ?_, fun z c hz hcd => ?_⟩
      · by_cases e : z = y
        · subst e
          rw [mget_mput_same] at hz
          obtain rfl := Option.some.inj hz
          exact ⟨hway, hd2⟩
        · rw [mget_mput_other m d e] at hz
          obtain ⟨h1, h2⟩ := hm.way z c hz
          exact ⟨h1, by omega⟩
      · by_cases e : z = y
        · subst e
          exact ⟨d, mget_mput_same .., Int.le_of_lt (h c hz)⟩
        · exact ⟨c, by rw [mget_mput_other m d e]; exact hz, Int.le_refl _⟩
      · injection hz with hz
        subst hz
        exact ⟨d, mget_mput_same .., Int.le_refl _⟩
      · rw [List.length_append, List.length_singleton]
        omega
      · by_cases e : z = y
        · subst e
          exact .inr ⟨by simp, rfl⟩
        · exact .inl (mget_mput_other m d e)
      · have e : z ≠ y := fun e => by
          subst e
          have := h c hz
          omega
        rw [mget_mput_other m d e]
        exact hz
    cases hg : mget m y with
    | none =>
      rw [if_neg (by simp [mhas, hg]), Option.bind_some, if_pos rfl]
      exact turn (fun c hc => by rw [hg] at hc; cases hc)
    | some c =>
      rw [if_pos (by simp [mhas, hg]), Option.bind_some]
      have e2 : mgetD m y 0 = c := by simp [mgetD, hg]
      rw [e2]
      by_cases hlt : d < c
      · rw [if_pos (decide_eq_true hlt)]
        exact turn (fun c' hc => by rw [hg] at hc; obtain rfl := Option.some.inj hc; exact hlt)
      · rw [if_neg (by simpa using hlt)]
        exact keep ⟨c, hg, by omega⟩
end Go.Proofs.YtcibjjhanafojaaDoor
