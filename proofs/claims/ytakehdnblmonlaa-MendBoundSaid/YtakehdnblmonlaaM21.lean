/- Plain facts that the walk of forced asks for. -/
import Derived.Test.YtakehdnblmonlaaM20
namespace Go.Proofs.Ytakehdnblmonlaa
open Go.RowKit Go.Fp

def FullP (F : List Int) : Prop := ∀ x ∈ F, x ≠ 0
def NoFull (g : Gr) (p : List Int) : Prop := ∀ (F : List Int) (sF : Sv), PickV g F → FullP F → PS g F sF → Agree p F → False
/-- What forced answers; the array of the pick is the caller's own from then on. -/
def FR (g : Gr) (p : List Int) (F R : Hp) (v : Value) (b' : Base) (hp' : Hp) : Prop :=
  (v = .tuple #[.slice none 0 0, .pointer none, .bool false] ∧ hp' = F ++ R ∧ NoFull g p) ∨
  ∃ (A' : Option Addr) (c' : Nat) (p' : List Int) (gs : Nat) (s : So) (hs : Hp), v = .tuple #[.slice A' p'.length c', .pointer (some ⟨gs, 0, none⟩), .bool true] ∧ hp' = F ++ (hs ++ R) ∧ BK A' p' hs ∧ PickV g p' ∧ SoOk b'.w gs s ∧ s.last = g.last ∧ PS g p' s.sv ∧
    ∀ (F : List Int) (sF : Sv), PickV g F → FullP F → PS g F sF → Agree p F → Agree p' F
structure FI (b : Base) (g : Gr) (p : List Int) (A : Option Addr) (cur : List Int) (hs : Hp) (gs : Nat) (s : So) : Prop where
  bk : BK A cur hs
  pv : PickV g cur
  so : SoOk b.w gs s
  la : s.last = g.last
  ps : PS g cur s.sv
  ag : ∀ (F : List Int) (sF : Sv), PickV g F → FullP F → PS g F sF → Agree p F → Agree cur F
theorem FI.le {b b' : Base} {g : Gr} {p : List Int} {A : Option Addr} {cur : List Int} {hs : Hp} {gs : Nat} {s : So} (h : FI b g p A cur hs gs s) (hle : b.Le b') : FI b' g p A cur hs gs s :=
  ⟨h.bk, h.pv, h.so.le hle, h.la, h.ps, h.ag⟩
theorem sumL_mem {α : Type} {g : α → Int} : ∀ (l : List α), (∀ x ∈ l, 0 ≤ g x) → ∀ x ∈ l, g x ≤ sumL g l
  | [], _, x, hx => by simp at hx
  | a :: r, h0, x, hx => by
    have h1 : 0 ≤ sumL g r := by
      have h2 : ∀ x ∈ r, 0 ≤ g x := fun y hy => h0 y (by simp [hy])
      clear hx h0
      induction r with
      | nil => exact Int.le_refl _
      | cons b t ih =>
        have := ih (fun y hy => h2 y (by simp [hy]))
        have := h2 b (by simp)
        simp only [sumL]
        omega
    simp only [sumL]
    rcases List.mem_cons.1 hx with rfl | hx
    · omega
    · have := sumL_mem r (fun y hy => h0 y (by simp [hy])) x hx
      have := h0 a (by simp)
      omega
theorem PS.outs_len {g : Gr} {p : List Int} {s : So} (hV : GraphV g) (h : PS g p s.sv) (hp : p.length = g.choices.l.length) : ∀ y ∈ s.outs.l, y.l.length ≤ 1450 := fun y hy => by
  obtain ⟨D, _, h2, _, h4, _⟩ := h
  have h5 := h4.2
  have h6 := sumL_mem (g := fun l : List Arc => (l.length : Int)) s.sv.outs (fun _ _ => by omega) y.l (List.mem_map.2 ⟨y, hy, rfl⟩)
  have h7 := nz_le p
  have h8 := hV.nc
  unfold tot at h5
  omega
/-- What the loop over the ways of a choice has found. -/
def NX (b : Base) (g : Gr) (s : Sv) (c : Sl (Sl Arc)) (j : Nat) (only many : Int) (nx : Option Addr) : Prop :=
  (many = 0 ∧ ∀ (k : Nat) (y : Sl Arc), k < j → c.l[k]? = some y → withF g.last.l s y.l = none) ∨
  (1 ≤ many ∧ many ≤ j ∧ ∃ (k : Nat) (y : Sl Arc) (gs : Nat) (s' : So), k < j ∧ c.l[k]? = some y ∧ only = (k : Int) + 1 ∧ nx = some ⟨gs, 0, none⟩ ∧ SoOk b.w gs s' ∧ s'.last = g.last ∧ withF g.last.l s y.l = some s'.sv ∧
    (many = 1 → ∀ (k' : Nat) (y' : Sl Arc), k' < j → k' ≠ k → c.l[k']? = some y' → withF g.last.l s y'.l = none))
theorem NX.le {b b' : Base} {g : Gr} {s : Sv} {c : Sl (Sl Arc)} {j : Nat} {only many : Int} {nx : Option Addr} (h : NX b g s c j only many nx) (hle : b.Le b') : NX b' g s c j only many nx := by
  rcases h with h | ⟨h1, h2, k, y, gs, s', q1, q2, q3, q4, q5, q6⟩
  · exact .inl h
  · exact .inr ⟨h1, h2, k, y, gs, s', q1, q2, q3, q4, q5.le hle, q6⟩
theorem NX.zero {b : Base} {g : Gr} {s : Sv} {c : Sl (Sl Arc)} : NX b g s c 0 0 0 none := .inl ⟨rfl, fun k y h => absurd h (by omega)⟩
theorem NX.bd {b : Base} {g : Gr} {s : Sv} {c : Sl (Sl Arc)} {j : Nat} {only many : Int} {nx : Option Addr} (h : NX b g s c j only many nx) : 0 ≤ many ∧ many ≤ j := by
  rcases h with ⟨h, _⟩ | ⟨h1, h2, _⟩ <;> omega
theorem NX.miss {b : Base} {g : Gr} {s : Sv} {c : Sl (Sl Arc)} {j : Nat} {only many : Int} {nx : Option Addr} {y : Sl Arc} (h : NX b g s c j only many nx) (hy : c.l[j]? = some y) (hw : withF g.last.l s y.l = none) : NX b g s c (j + 1) only many nx := by
  rcases h with ⟨h1, h2⟩ | ⟨h1, h2, k, z, gs, s', q1, q2, q3, q4, q5, q6, q7, q8⟩
  · refine .inl ⟨h1, fun k z hk hz => ?_⟩
    by_cases hkj : k = j
    · subst hkj
      rw [hy] at hz
      injection hz with hz
      subst hz
      exact hw
    · exact h2 k z (by omega) hz
  · refine .inr ⟨h1, by omega, k, z, gs, s', by omega, q2, q3, q4, q5, q6, q7, fun hm k' y' hk' hne hy' => ?_⟩
    by_cases hkj : k' = j
    · subst hkj
      rw [hy] at hy'
      injection hy' with hy'
      subst hy'
      exact hw
    · exact q8 hm k' y' (by omega) hne hy'
theorem NX.hit {b : Base} {g : Gr} {s : Sv} {c : Sl (Sl Arc)} {j : Nat} {only many : Int} {nx : Option Addr} {y : Sl Arc} {gs : Nat} {s' : So} (h : NX b g s c j only many nx) (hy : c.l[j]? = some y) (hS : SoOk b.w gs s') (hl : s'.last = g.last) (hw : withF g.last.l s y.l = some s'.sv) : NX b g s c (j + 1) ((j : Int) + 1) (many + 1) (some ⟨gs, 0, none⟩) := by
  have hbd := h.bd
  refine .inr ⟨by omega, by omega, j, y, gs, s', by omega, hy, rfl, rfl, hS, hl, hw, fun hm k' y' hk' hne hy' => ?_⟩
  rcases h with ⟨_, h2⟩ | ⟨h1, _⟩
  · exact h2 k' y' (by omega) hy'
  · omega
theorem full_at {g : Gr} {F : List Int} {i : Nat} {c : Sl (Sl Arc)} (hP : PickV g F) (hFu : FullP F) (hc : g.choices.l[i]? = some c) : ∃ (k : Nat) (y : Sl Arc), F[i]? = some ((k : Int) + 1) ∧ c.l[k]? = some y := by
  obtain ⟨x, hx⟩ := ex_get (l := F) (k := i) (by rw [hP.1]; exact lt_of_get hc)
  have h1 := hP.2 i x c hx hc
  have h2 := hFu x (mem_of_get hx)
  obtain ⟨k, hk⟩ := nat_of (show 0 ≤ x - 1 by omega)
  obtain ⟨y, hy⟩ := ex_get (l := c.l) (k := k) (by omega)
  exact ⟨k, y, by rw [hx, show x = (k : Int) + 1 by omega], hy⟩
theorem FI.none {b : Base} {g : Gr} {p : List Int} {A : Option Addr} {cur : List Int} {hs : Hp} {gs : Nat} {s : So} {i : Nat} {c : Sl (Sl Arc)} (hV : GraphV g) (h : FI b g p A cur hs gs s) (hi : cur[i]? = some 0) (hc : g.choices.l[i]? = some c) (hn : ∀ (k : Nat) (y : Sl Arc), c.l[k]? = some y → withF g.last.l s.sv y.l = none) : NoFull g p := by
  intro F sF hPF hFu hF ha
  obtain ⟨k, y, h1, h2⟩ := full_at hPF hFu hc
  obtain ⟨s', e⟩ := h.ps.can hV h.pv.1 hi hc h2 hF (h.ag F sF hPF hFu hF ha) h1
  rw [hn k y h2] at e
  cases e
theorem pickV_set {g : Gr} {cur : List Int} {i k : Nat} {c : Sl (Sl Arc)} {y : Sl Arc} (h : PickV g cur) (hc : g.choices.l[i]? = some c) (hk : c.l[k]? = some y) : PickV g (cur.set i ((k : Int) + 1)) := by
  refine ⟨by rw [List.length_set]; exact h.1, fun n x d hx hd => ?_⟩
  by_cases hn : n = i
  · subst hn
    rw [List.getElem?_set_self (by rw [h.1]; exact lt_of_get hc)] at hx
    injection hx with hx
    rw [hc] at hd
    injection hd with hd
    subst hd
    have := lt_of_get hk
    omega
  · rw [List.getElem?_set_ne (by omega)] at hx
    exact h.2 n x d hx hd
theorem FI.put {b : Base} {g : Gr} {p : List Int} {A : Option Addr} {cur : List Int} {hs hs' : Hp} {gs gs' : Nat} {s s' : So} {i k : Nat} {c : Sl (Sl Arc)} {y : Sl Arc} (hV : GraphV g) (h : FI b g p A cur hs gs s) (hi : cur[i]? = some 0) (hc : g.choices.l[i]? = some c) (hk : c.l[k]? = some y) (hw : withF g.last.l s.sv y.l = some s'.sv) (hS : SoOk b.w gs' s') (hl : s'.last = g.last)
    (hu : ∀ (k' : Nat) (y' : Sl Arc), k' ≠ k → c.l[k']? = some y' → withF g.last.l s.sv y'.l = .none) (hbk : BK A (cur.set i ((k : Int) + 1)) hs') : FI b g p A (cur.set i ((k : Int) + 1)) hs' gs' s' := by
  refine ⟨hbk, pickV_set h.pv hc hk, hS, hl, h.ps.step hV h.pv.1 hi hc hk hw, fun F sF hPF hFu hF ha => ?_⟩
  have h3 := h.ag F sF hPF hFu hF ha
  obtain ⟨k2, y2, h1, h2⟩ := full_at hPF hFu hc
  by_cases hkk : k2 = k
  · subst hkk
    exact h3.set h1
  · obtain ⟨s2, e⟩ := h.ps.can hV h.pv.1 hi hc h2 hF h3 h1
    rw [hu k2 y2 hkk h2] at e
    cases e
theorem NX.one {b : Base} {g : Gr} {s : Sv} {c : Sl (Sl Arc)} {j : Nat} {only many : Int} {nx : Option Addr} (h : NX b g s c j only many nx) (hm : many = 1) (hj : c.l.length ≤ j) : ∃ (k : Nat) (y : Sl Arc) (gs : Nat) (s' : So), c.l[k]? = some y ∧ only = (k : Int) + 1 ∧ nx = some ⟨gs, 0, none⟩ ∧ SoOk b.w gs s' ∧ s'.last = g.last ∧ withF g.last.l s y.l = some s'.sv ∧
    ∀ (k' : Nat) (y' : Sl Arc), k' ≠ k → c.l[k']? = some y' → withF g.last.l s y'.l = none := by
  rcases h with ⟨h1, _⟩ | ⟨_, _, k, y, gs, s', q1, q2, q3, q4, q5, q6, q7, q8⟩
  · omega
  · exact ⟨k, y, gs, s', q2, q3, q4, q5, q6, q7, fun k' y' hne hy' => q8 hm k' y' (by have := lt_of_get hy'; omega) hne hy'⟩
theorem NX.all {b : Base} {g : Gr} {s : Sv} {c : Sl (Sl Arc)} {j : Nat} {only many : Int} {nx : Option Addr} (h : NX b g s c j only many nx) (hm : many = 0) (hj : c.l.length ≤ j) : ∀ (k : Nat) (y : Sl Arc), c.l[k]? = some y → withF g.last.l s y.l = none := fun k y hy => by
  rcases h with ⟨_, h2⟩ | ⟨h1, _⟩
  · exact h2 k y (by have := lt_of_get hy; omega) hy
  · omega
theorem mu_again {cur cur3 : List Int} {ag ag3 : Bool} (hl : cur3.length = cur.length) (h1 : nz cur ≤ nz cur3) (h2 : ag3 = true → nz cur < nz cur3) (h3 : ag = true) : 2 * (cur3.length - nz cur3) + (if ag3 then 1 else 0) < 2 * (cur.length - nz cur) + (if ag then 1 else 0) := by
  have h4 := nz_le cur3
  have h5 := nz_le cur
  subst h3
  cases ag3 with
  | false => simp; omega
  | true =>
    have := h2 rfl
    simp
    omega


end Go.Proofs.Ytakehdnblmonlaa
