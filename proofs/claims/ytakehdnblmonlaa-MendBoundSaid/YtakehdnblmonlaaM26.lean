/- Plain facts that the walk of the closure of Best asks for. -/
import Derived.Test.YtakehdnblmonlaaM23
import Derived.Test.YtakehdnblmonlaaKG
namespace Go.Proofs.Ytakehdnblmonlaa
open Go.RowKit Go.Fp

/-- Where the variables of Best lie that its closure has. -/
structure Bl where
  gg : Nat
  gl : Nat
  go : Nat
  gp : Nat
  gb : Nat
  gt : Nat
  gf : Nat
  cp : Nat
  op : Sl Int
abbrev Bl.caps (L : Bl) : Array Value := #[.pointer (some ⟨L.gg, 0, none⟩), .pointer (some ⟨L.gl, 0, none⟩), .pointer (some ⟨L.go, 0, none⟩), .pointer (some ⟨L.gp, 0, none⟩), .pointer (some ⟨L.gb, 0, none⟩), .pointer (some ⟨L.gt, 0, none⟩), .pointer (some ⟨L.gf, 0, none⟩)]
def hb (L : Bl) (g : Gr) (Ap : Option Addr) (n : Nat) (least : Int) (vb vt : Value) : Hp :=
  [(L.gg, Cl 26 g.cells), (L.gl, Cl 3 [.int .i64 least]), (L.go, Cl 22 [L.op.val]), (L.gp, Cl 22 [.slice Ap n L.cp]), (L.gb, Cl 22 [vb]), (L.gt, Cl 22 [vt]), (L.gf, Cl 79 [.func (.func 40) #[] L.caps])]
/-- The best so far is one of a full pick. -/
def LI (b : Base) (g : Gr) (least : Int) (vt : Value) : Prop := least < 0 ∨ ∃ (F : List Int) (s : Sv) (t : Sl Int), PickV g F ∧ FullP F ∧ PS g F s ∧ vt = t.val ∧ s.T = t.l ∧ least = dl g.due.l s.T ∧ Rd b.w t.A (rows encI t.l)
theorem LI.le {b b' : Base} {g : Gr} {least : Int} {vt : Value} (h : LI b g least vt) (hle : b.Le b') : LI b' g least vt := by
  rcases h with h | ⟨F, s, t, h1, h2, h3, h4, h5, h6, h7⟩
  · exact .inl h
  · exact .inr ⟨F, s, t, h1, h2, h3, h4, h5, h6, h7.le hle⟩
def OI (cur l : List Int) (k : Nat) : Prop := ∀ (i : Nat) (x : Int), cur[i]? = some x → (x = 0 ↔ (i : Int) ∈ l.drop k)
theorem drop_get {α : Type} {l : List α} {k : Nat} {x : α} (h : l[k]? = some x) : l.drop k = x :: l.drop (k + 1) := by
  obtain ⟨hk, hx⟩ := List.getElem?_eq_some_iff.1 h
  rw [List.drop_eq_getElem_cons hk, hx]
theorem OI.zero {cur l : List Int} {k i : Nat} {x : Int} (h : OI cur l k) (hk : l[k]? = some (i : Int)) (hx : cur[i]? = some x) : x = 0 := (h i x hx).2 (by rw [drop_get hk]; simp)
theorem OI.put {cur l : List Int} {k i : Nat} {z : Int} (h : OI cur l k) (hn : l.Nodup) (hk : l[k]? = some (i : Int)) (hi : i < cur.length) (hz : z ≠ 0) : OI (cur.set i z) l (k + 1) := by
  have hd : (l.drop k).Nodup := hn.sublist (List.drop_sublist k l)
  rw [drop_get hk, List.nodup_cons] at hd
  intro j x hx
  by_cases hj : j = i
  · subst hj
    rw [List.getElem?_set_self hi] at hx
    injection hx with hx
    subst hx
    exact ⟨fun h0 => absurd h0 hz, fun h1 => absurd h1 hd.1⟩
  · rw [List.getElem?_set_ne (by omega)] at hx
    rw [h j x hx, drop_get hk, List.mem_cons]
    constructor
    · rintro (h1 | h1)
      · omega
      · exact h1
    · exact .inr
theorem OI.full {cur l : List Int} {k : Nat} (h : OI cur l k) (hk : l.length ≤ k) : FullP cur := fun x hx h0 => by
  obtain ⟨i, hi⟩ := List.mem_iff_getElem?.1 hx
  have := (h i x hi).1 h0
  rw [List.drop_eq_nil_of_le hk] at this
  simp at this
theorem set_same {l : List Int} {i : Nat} {x : Int} (h : l[i]? = some x) : l.set i x = l := by
  apply List.ext_getElem?
  intro j
  by_cases hj : j = i
  · subst hj
    rw [List.getElem?_set_self (lt_of_get h), h]
  · rw [List.getElem?_set_ne (by omega)]
/-- All full picks that agree with a pick have been heeded. -/
def Cov (g : Gr) (p : List Int) (least : Int) : Prop := ∀ (F : List Int) (sF : Sv), PickV g F → FullP F → PS g F sF → Agree p F → 0 ≤ least ∧ least ≤ dl g.due.l sF.T
theorem Cov.less {g : Gr} {p : List Int} {l l' : Int} (h : Cov g p l) (hm : 0 ≤ l → 0 ≤ l' ∧ l' ≤ l) : Cov g p l' := fun F sF h1 h2 h3 h4 => by
  have h5 := h F sF h1 h2 h3 h4
  have h6 := hm h5.1
  omega
/-- The ways up to j of choice i have been heeded. -/
def CovW (g : Gr) (cur : List Int) (i j : Nat) (least : Int) : Prop := ∀ k : Nat, k < j → Cov g (cur.set i ((k : Int) + 1)) least
theorem CovW.less {g : Gr} {cur : List Int} {i j : Nat} {l l' : Int} (h : CovW g cur i j l) (hm : 0 ≤ l → 0 ≤ l' ∧ l' ≤ l) : CovW g cur i j l' := fun k hk => (h k hk).less hm
theorem CovW.snoc {g : Gr} {cur : List Int} {i j : Nat} {l : Int} (h : CovW g cur i j l) (h' : Cov g (cur.set i ((j : Int) + 1)) l) : CovW g cur i (j + 1) l := fun k hk => by
  by_cases hkj : k = j
  · subst hkj; exact h'
  · exact h k (by omega)
theorem CovW.all {g : Gr} {cur : List Int} {i j : Nat} {l : Int} {c : Sl (Sl Arc)} (h : CovW g cur i j l) (hc : g.choices.l[i]? = some c) (hj : c.l.length ≤ j) : Cov g cur l := fun F sF h1 h2 h3 h4 => by
  obtain ⟨k, y, q1, q2⟩ := full_at h1 h2 hc
  exact h k (by have := lt_of_get q2; omega) F sF h1 h2 h3 (h4.set q1)
theorem cov_none {g : Gr} {cur : List Int} {i k : Nat} {c : Sl (Sl Arc)} {y : Sl Arc} {s : Sv} {l : Int} (hV : GraphV g) (hp : PickV g cur) (hps : PS g cur s) (hi : cur[i]? = some 0) (hc : g.choices.l[i]? = some c) (hk : c.l[k]? = some y) (hw : withF g.last.l s y.l = none) : Cov g (cur.set i ((k : Int) + 1)) l := fun F sF _ _ h3 h4 => by
  have hil := lt_of_get hi
  obtain ⟨z, hz⟩ := ex_get (l := F) (k := i) (by rw [← h4.1, List.length_set]; exact hil)
  have h5 : F[i]? = some ((k : Int) + 1) := by
    rcases h4.2 i ((k : Int) + 1) z (List.getElem?_set_self hil) hz with h6 | h6
    · omega
    · rw [hz, ← h6]
  have h6 : Agree cur F := by
    refine ⟨by rw [← h4.1, List.length_set], fun n a b ha hb => ?_⟩
    by_cases hn : n = i
    · subst hn
      rw [hi] at ha
      injection ha with ha
      exact .inl ha.symm
    · exact h4.2 n a b (by rw [List.getElem?_set_ne (by omega)]; exact ha) hb
  obtain ⟨s', e⟩ := hps.can hV hp.1 hi hc hk h3 h6 h5
  rw [hw] at e
  cases e
theorem bk_own {b : Base} {A : Option Addr} {cur : List Int} {hs : Hp} {w : World} (F R : Hp) {hp : Hp} (h : BK A cur hs) (hhp : hp = F ++ (hs ++ R)) (ho : Own b hp w) : Rd w A (rows encI cur) :=
  h.rd fun x hx => (ho.blk x.1 x.2 (by rw [hhp]; simp [hx])).2

structure BH (b : Base) (g : Gr) (L : Bl) (Ap : Option Addr) (k : Nat) (cur : List Int) (hsP : Hp) (gs : Nat) (s : So) (least : Int) (vt : Value) : Prop where
  hg : GrOk b.w g
  hO : Rd b.w L.op.A (rows encI L.op.l)
  bk : BK Ap cur hsP
  pv : PickV g cur
  so : SoOk b.w gs s
  la : s.last = g.last
  ps : PS g cur s.sv
  oi : OI cur L.op.l k
  li : LI b g least vt
def BP (L : Bl) (g : Gr) (Ap : Option Addr) (hsP fr : Hp) (least : Int) (cur : List Int) (v : Value) (b' : Base) (hp' : Hp) : Prop :=
  v = .tuple #[] ∧ ∃ (l' : Int) (vb' vt' : Value), hp' = hb L g Ap cur.length l' vb' vt' ++ (hsP ++ fr) ∧ LI b' g l' vt' ∧ (0 ≤ least → 0 ≤ l' ∧ l' ≤ least) ∧ Cov g cur l'


end Go.Proofs.Ytakehdnblmonlaa
