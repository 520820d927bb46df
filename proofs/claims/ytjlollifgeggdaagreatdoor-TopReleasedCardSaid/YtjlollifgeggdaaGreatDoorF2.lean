import Derived.Test.YtjlollifgeggdaaGreatDoorF1
import Derived.Laws.Externs
import Derived.Laws.StructEq
import Derived.Lib.Bytealg
import Derived.Laws.IdiomStrings
import Derived.MapKept
set_option linter.unusedVariables false
set_option linter.unusedSimpArgs false
set_option linter.unusedSectionVars false
namespace Go.Fp
open Go.RowKit
def idx {α : Type} (l : List α) (i : Int) : Option α := if 0 ≤ i then l[i.toNat]? else none
theorem q5G {α : Type} {l : List α} {i : Int} {x : α} (h : idx l i = some x) : ∃ j : Nat, i = (j : Int) ∧ l[j]? = some x := by
 unfold idx at h
 split at h
 ·exact ⟨i.toNat, by omega, h⟩
 ·cases h
theorem j3G {α : Type} {l : List α} {j : Nat} {x : α} (h : l[j]? = some x) : idx l (j : Int) = some x := by
 unfold idx
 rw [if_pos (by omega), Int.toNat_natCast]
 exact h
def put {α : Type} (l : List α) (i : Int) (x : α) : List α := l.set i.toNat x
theorem q0n {α : Type} (l : List α) (j : Nat) (x : α) : put l (j : Int) x = l.set j x := by simp [put]
theorem Q4 {α : Type} (l : List α) (i : Int) (x : α) : (put l i x).length = l.length := by simp [put]
def chk (x : Int) : Option Int := if -9223372036854775808 ≤ x ∧ x ≤ 9223372036854775807 then some x else none
theorem q8s {x y : Int} (h : chk x = some y) : y = x ∧ -9223372036854775808 ≤ x ∧ x ≤ 9223372036854775807 := by
 unfold chk at h
 split at h
 ·injection h with h
  exact ⟨h.symm, by assumption⟩
 ·cases h
theorem Y3 {x : Int} (h : -9223372036854775808 ≤ x) (h2 : x ≤ 9223372036854775807) : chk x = some x := by
 unfold chk
 rw [if_pos ⟨h, h2⟩]
def z3g (by_ : Nat) (i : Int) : Option Nat := if 0 ≤ i ∧ by_ * i.toNat ≤ 281474976710656 ∧ i ≤ 9223372036854775807 then some i.toNat else none
theorem q2Y {by_ : Nat} {i : Int} {m : Nat} (h : z3g by_ i = some m) : i = (m : Int) ∧ by_ * m ≤ 281474976710656 ∧ m ≤ 9223372036854775807 := by
 unfold z3g at h
 split at h
 ·injection h with h
  subst h
  omega
 ·cases h
def z1z (by_ m : Nat) : Option Unit := if m * by_ ≤ 140737488355328 ∧ m ≤ 9223372036854775807 then some () else none
theorem W9 {by_ m : Nat} {u : Unit} (h : z1z by_ m = some u) : m * by_ ≤ 140737488355328 ∧ m ≤ 9223372036854775807 := by
 unfold z1z at h
 split at h
 ·assumption
 ·cases h
def z8f {α : Type} (l : List α) (i j : Int) : Option (List α) := if 0 ≤ i ∧ i ≤ j ∧ j ≤ (l.length : Int) then some ((l.take j.toNat).drop i.toNat) else none
theorem q6B {α : Type} {l m : List α} {i j : Int} (h : z8f l i j = some m) : ∃ a b : Nat, i = (a : Int) ∧ j = (b : Int) ∧ a ≤ b ∧ b ≤ l.length ∧ m = (l.take b).drop a := by
 unfold z8f at h
 split at h
 ·injection h with h
  exact ⟨i.toNat, j.toNat, by omega, by omega, by omega, by omega, h.symm⟩
 ·cases h
def runN {σ τ : Type} (step : σ → Option (σ ⊕ τ)) : Nat → σ → Option τ
 | 0, _ => none
 | n + 1, s => match step s with
  | none => none
  | some (.inl s') => runN step n s'
  | some (.inr t) => some t
noncomputable def lim {τ : Type} (f : Nat → Option τ) : Option τ := open Classical in if h : ∃ t n, f n = some t then some h.choose else none
theorem q8g {τ : Type} {f : Nat → Option τ} {t : τ} (h : lim f = some t) : ∃ n, f n = some t := by
 unfold lim at h
 split at h
 ·rename_i hh
  injection h with h
  rw [← h]
  exact hh.choose_spec
 ·cases h
theorem z2r {τ : Type} {f : Nat → Option τ} {P : τ → Prop} (h1 : ∃ n t, f n = some t) (h2 : ∀ n t, f n = some t → P t) : ∃ t, lim f = some t ∧ P t := by
 have hh : ∃ t n, f n = some t := by obtain ⟨n, t, h⟩ := h1; exact ⟨t, n, h⟩
 refine ⟨hh.choose, by unfold lim; rw [dif_pos hh], ?_⟩
 obtain ⟨n, hn⟩ := hh.choose_spec
 exact h2 n _ hn
noncomputable def q7g {σ τ : Type} (step : σ → Option (σ ⊕ τ)) (s : σ) : Option τ := lim (fun n => runN step n s)
def forM {σ τ : Type} (body : Nat → σ → Option (σ ⊕ τ)) : Nat → Nat → σ → Option (σ ⊕ τ)
 | 0, _, s => some (.inl s)
 | m + 1, k, s => match body k s with
  | none => none
  | some (.inl s') => forM body m (k + 1) s'
  | some (.inr t) => some (.inr t)
def forS {σ : Type} (body : Nat → σ → Option σ) : Nat → Nat → σ → Option σ
 | 0, _, s => some s
 | m + 1, k, s => (body k s).bind (forS body m (k + 1))
def P3 {α β : Type} (R : α → β → Prop) : List α → List β → Prop
 | [], [] => True
 | a :: r, b :: s => R a b ∧ P3 R r s
 | _, _ => False
section
variable {α β : Type} {R S : α → β → Prop}
theorem P3.length : ∀ {l : List α} {m : List β}, P3 R l m → l.length = m.length
 | [], [], _ => rfl
 | _ :: _, _ :: _, h => by simp [P3.length h.2]
theorem P3.imp (hi : ∀ a b, R a b → S a b) : ∀ {l : List α} {m : List β}, P3 R l m → P3 S l m
 | [], [], _ => trivial
 | _ :: _, _ :: _, h => ⟨hi _ _ h.1, P3.imp hi h.2⟩
theorem P3.get : ∀ {l : List α} {m : List β}, P3 R l m → ∀ {j : Nat} {b : β}, m[j]? = some b → ∃ a, l[j]? = some a ∧ R a b
 | [], [], _, j, b, hb => by simp at hb
 | a :: r, c :: s, h, 0, b, hb => by simp at hb; subst hb; exact ⟨a, rfl, h.1⟩
 | a :: r, c :: s, h, j + 1, b, hb => by
  obtain ⟨x, h1, h2⟩ := P3.get h.2 (j := j) (b := b) (by simpa using hb)
  exact ⟨x, by simpa using h1, h2⟩
theorem P3.append : ∀ {l : List α} {m : List β}, P3 R l m → ∀ {l' : List α} {m' : List β}, P3 R l' m' → P3 R (l ++ l') (m ++ m')
 | [], [], _, _, _, h => h
 | _ :: _, _ :: _, h, _, _, h' => ⟨h.1, P3.append h.2 h'⟩
theorem P3.drop : ∀ {l : List α} {m : List β}, P3 R l m → ∀ j : Nat, P3 R (l.drop j) (m.drop j)
 | [], [], _, _ => by simp [P3]
 | _ :: _, _ :: _, h, 0 => h
 | _ :: _, _ :: _, h, j + 1 => P3.drop h.2 j
theorem P3.take : ∀ {l : List α} {m : List β}, P3 R l m → ∀ j : Nat, P3 R (l.take j) (m.take j)
 | [], [], _, _ => by simp [P3]
 | _ :: _, _ :: _, _, 0 => by simp [P3]
 | _ :: _, _ :: _, h, j + 1 => ⟨h.1, P3.take h.2 j⟩
theorem P3.rep {a : α} {b : β} (h : R a b) : ∀ n : Nat, P3 R (List.replicate n a) (List.replicate n b)
 | 0 => trivial
 | n + 1 => ⟨h, P3.rep h n⟩
end
structure RT (α : Type) where
 sz : Nat
 rep : World → List Value → α → Prop
 len : ∀ {w vs x}, rep w vs x → vs.length = sz
 one : ∀ {w vs x}, rep w vs x → ∀ u ∈ vs, u.oneCell' = true
 mono : ∀ {w w' vs x}, q1b w w' → rep w vs x → rep w' vs x
def RT.int (k : IntKind) : RT Int := ⟨1, fun _ vs x => vs = [.int k x], fun h => by rw [h]; rfl, fun h u hu => by rw [h] at hu; simp at hu; subst hu; rfl, fun _ h => h⟩
def RT.bool : RT Bool := ⟨1, fun _ vs x => vs = [.bool x], fun h => by rw [h]; rfl, fun h u hu => by rw [h] at hu; simp at hu; subst hu; rfl, fun _ h => h⟩
def RT.str : RT ByteArray := ⟨1, fun _ vs x => vs = [.string x], fun h => by rw [h]; rfl, fun h u hu => by rw [h] at hu; simp at hu; subst hu; rfl, fun _ h => h⟩
def RT.on {α β : Type} (r : RT α) (f : β → α) : RT β := ⟨r.sz, fun w vs x => r.rep w vs (f x), fun h => r.len h, fun h => r.one h, fun hk h => r.mono hk h⟩
def RT.cat {α : Type} (r s : RT α) : RT α := ⟨r.sz + s.sz, fun w vs x => ∃ a b, vs = a ++ b ∧ r.rep w a x ∧ s.rep w b x,
 fun ⟨_, _, h1, h2, h3⟩ => by rw [h1, List.length_append, r.len h2, s.len h3],
 fun ⟨_, _, h1, h2, h3⟩ u hu => by
  rw [h1, List.mem_append] at hu
  rcases hu with hu | hu
  ·exact r.one h2 u hu
  ·exact s.one h3 u hu,
 fun hk ⟨a, b, h1, h2, h3⟩ => ⟨a, b, h1, r.mono hk h2, s.mono hk h3⟩⟩
def FZ {α : Type} (r : RT α) (w : World) (A : Option Addr) (c : Nat) (l : List α) : Prop := (l.length ≤ c ∧ c ≤ 9223372036854775807) ∧ ∃ css : List (List Value), Rd w A css.flatten ∧ P3 (r.rep w) css l
theorem FZ.bd {α : Type} {r : RT α} {w : World} {A : Option Addr} {c : Nat} {l : List α} (h : FZ r w A c l) : l.length ≤ 9223372036854775807 := by have := h.1; omega
theorem q4O {α : Type} {r : RT α} {w : World} : ∀ {css : List (List Value)} {l : List α}, P3 (r.rep w) css l → css.flatten.length = l.length * r.sz
 | [], [], _ => by simp
 | c :: r', x :: s, h => by
  rw [List.flatten_cons, List.length_append, r.len h.1, q4O h.2, List.length_cons, Nat.add_mul]
  omega
theorem z6R {α : Type} {r : RT α} {w : World} : ∀ {css : List (List Value)} {l : List α}, P3 (r.rep w) css l → ∀ u ∈ css.flatten, u.oneCell' = true
 | [], [], _, u, hu => by simp at hu
 | c :: r', x :: s, h, u, hu => by
  rw [List.flatten_cons, List.mem_append] at hu
  rcases hu with hu | hu
  ·exact r.one h.1 u hu
  ·exact z6R h.2 u hu
theorem z3t {α : Type} {r : RT α} {w : World} : ∀ {css : List (List Value)} {l : List α}, P3 (r.rep w) css l → ∀ {j : Nat} {cs : List Value}, css[j]? = some cs → ∀ {i : Nat} {u : Value}, cs[i]? = some u → css.flatten[j * r.sz + i]? = some u
 | [], [], _, j, cs, hc, _, _, _ => by simp at hc
 | c :: r', x :: s, h, 0, cs, hc, i, u, hu => by
  simp at hc
  subst hc
  rw [List.flatten_cons, Nat.zero_mul, Nat.zero_add, List.getElem?_append_left (List.getElem?_eq_some_iff.1 hu).1]
  exact hu
 | c :: r', x :: s, h, j + 1, cs, hc, i, u, hu => by
  have := z3t h.2 (j := j) (cs := cs) (by simpa using hc) hu
  rw [List.flatten_cons, List.getElem?_append_right (by rw [r.len h.1, Nat.add_mul]; omega), r.len h.1, ← this]
  congr 1
  rw [Nat.add_mul]
  omega
theorem FZ.mono {α : Type} {r : RT α} {w w' : World} {A : Option Addr} {c : Nat} {l : List α} (h : FZ r w A c l) (hk : q1b w w') : FZ r w' A c l := by
 obtain ⟨hl, css, h1, h2⟩ := h
 refine ⟨hl, css, fun j u hu => ?_, h2.imp fun _ _ h => r.mono hk h⟩
 have := h1 j u hu
 cases A with
 | none => simp [q4y] at this
 | some p => exact hk _ _ this
theorem FZ.le {α : Type} {r : RT α} {b b' : k9} {A : Option Addr} {c : Nat} {l : List α} (h : FZ r b.w A c l) (hle : b.Le b') : FZ r b'.w A c l := h.mono hle.cells
theorem FZ.old {α : Type} {r : RT α} {b : k9} {hp : Hp} {w : World} {A : Option Addr} {c : Nat} {l : List α} (h : FZ r b.w A c l) (ho : Own b hp w) : FZ r w A c l := h.mono ho.keeps
theorem FZ.nil {α : Type} {r : RT α} {w : World} {A : Option Addr} : FZ r w A 0 [] := ⟨by simp, [], fun j u hu => by simp at hu, trivial⟩
theorem FZ.get {α : Type} {r : RT α} {sz : Nat} (hsz : r.sz = sz) (hp : 0 < sz) {w : World} {A : Option Addr} {c : Nat} {l : List α} (h : FZ r w A c l) {j : Nat} {x : α} (hx : l[j]? = some x) :
  ∃ cs, r.rep w cs x ∧ (∀ (i : Nat) (u : Value), cs[i]? = some u → q4y w A (j * sz + i) = some u) ∧ A.isSome = true ∧ j < l.length := by
 subst hsz
 obtain ⟨_, css, h1, h2⟩ := h
 obtain ⟨cs, hc, hr⟩ := h2.get hx
 refine ⟨cs, hr, fun i u hu => h1 _ u (z3t h2 hc hu), ?_, (List.getElem?_eq_some_iff.1 hx).1⟩
 have hlen := r.len hr
 have hlt : 0 < cs.length := by omega
 exact z7X (h1 _ _ (z3t h2 hc (Kf hlt)))
def RT.list {α : Type} (r : RT α) : RT (List α) := ⟨1, fun w vs l => ∃ A c, vs = [.slice A l.length c] ∧ FZ r w A c l, fun ⟨_, _, h, _⟩ => by rw [h]; rfl,
 fun ⟨_, _, h, _⟩ u hu => by rw [h] at hu; simp at hu; subst hu; rfl, fun hk ⟨A, c, h, hf⟩ => ⟨A, c, h, hf.mono hk⟩⟩
theorem RT.list_mk {α : Type} {r : RT α} {w : World} {A : Option Addr} {c : Nat} {l : List α} (h : FZ r w A c l) : (RT.list r).rep w [.slice A l.length c] l := ⟨A, c, rfl, h⟩
def q2z {α β γ : Type} (R : α → β → γ → Prop) : List α → List β → List γ → Prop
 | [], [], [] => True
 | a :: r, b :: s, c :: t => R a b c ∧ q2z R r s t
 | _, _, _ => False
structure OT (α : Type) where
 sz : Nat
 rep : World → List Value → α → Hp → Prop
 fz : RT α
 fsz : fz.sz = sz
 frz : ∀ {w w' vs x hs}, rep w vs x hs → q1b w w' → (∀ y ∈ hs, w'.heap[y.1]? = some y.2) → fz.rep w' vs x
 mono : ∀ {w w' vs x hs}, q1b w w' → rep w vs x hs → rep w' vs x hs
 cells : ∀ {w vs x hs}, rep w vs x hs → vs.length = sz ∧ ∀ u ∈ vs, u.oneCell' = true
def OT.fr {α : Type} (r : RT α) : OT α := ⟨r.sz, fun w vs x hs => r.rep w vs x ∧ hs = [], r, rfl, fun h hk _ => r.mono hk h.1, fun hk h => ⟨r.mono hk h.1, h.2⟩, fun h => ⟨r.len h.1, r.one h.1⟩⟩
section
variable {α β γ : Type} {R S : α → β → γ → Prop}
theorem q2z.imp (hi : ∀ a b c, R a b c → S a b c) : ∀ {l : List α} {m : List β} {q : List γ}, q2z R l m q → q2z S l m q
 | [], [], [], _ => trivial
 | _ :: _, _ :: _, _ :: _, h => ⟨hi _ _ _ h.1, q2z.imp hi h.2⟩
theorem q2z.len : ∀ {l : List α} {m : List β} {q : List γ}, q2z R l m q → l.length = m.length ∧ q.length = m.length
 | [], [], [], _ => ⟨rfl, rfl⟩
 | _ :: _, _ :: _, _ :: _, h => by simp [q2z.len h.2]
theorem q2z.get : ∀ {l : List α} {m : List β} {q : List γ}, q2z R l m q → ∀ {j : Nat} {b : β}, m[j]? = some b → ∃ a c, l[j]? = some a ∧ q[j]? = some c ∧ R a b c
 | [], [], [], _, j, b, hb => by simp at hb
 | a :: r, x :: s, c :: t, h, 0, b, hb => by simp at hb; subst hb; exact ⟨a, c, rfl, rfl, h.1⟩
 | a :: r, x :: s, c :: t, h, j + 1, b, hb => by
  obtain ⟨a', c', h1, h2, h3⟩ := q2z.get h.2 (j := j) (b := b) (by simpa using hb)
  exact ⟨a', c', by simpa using h1, by simpa using h2, h3⟩
theorem q2z.set : ∀ {l : List α} {m : List β} {q : List γ}, q2z R l m q → ∀ (j : Nat) {a : α} {b : β} {c : γ}, R a b c → q2z R (l.set j a) (m.set j b) (q.set j c)
 | [], [], [], _, _, _, _, _, _ => trivial
 | _ :: _, _ :: _, _ :: _, h, 0, _, _, _, hr => ⟨hr, h.2⟩
 | _ :: _, _ :: _, _ :: _, h, j + 1, _, _, _, hr => ⟨h.1, q2z.set h.2 j hr⟩
theorem q2z.append : ∀ {l : List α} {m : List β} {q : List γ}, q2z R l m q → ∀ {l' : List α} {m' : List β} {q' : List γ}, q2z R l' m' q' → q2z R (l ++ l') (m ++ m') (q ++ q')
 | [], [], [], _, _, _, _, h => h
 | _ :: _, _ :: _, _ :: _, h, _, _, _, h' => ⟨h.1, q2z.append h.2 h'⟩
theorem q2z.drop : ∀ {l : List α} {m : List β} {q : List γ}, q2z R l m q → ∀ j : Nat, q2z R (l.drop j) (m.drop j) (q.drop j)
 | [], [], [], _, _ => by simp [q2z]
 | _ :: _, _ :: _, _ :: _, h, 0 => h
 | _ :: _, _ :: _, _ :: _, h, j + 1 => q2z.drop h.2 j
theorem q2z.take : ∀ {l : List α} {m : List β} {q : List γ}, q2z R l m q → ∀ j : Nat, q2z R (l.take j) (m.take j) (q.take j)
 | [], [], [], _, _ => by simp [q2z]
 | _ :: _, _ :: _, _ :: _, _, 0 => by simp [q2z]
 | _ :: _, _ :: _, _ :: _, h, j + 1 => ⟨h.1, q2z.take h.2 j⟩
end
theorem q5R {α : Type} {r : RT α} {w : World} : ∀ {css : List (List Value)} {l : List α}, P3 (r.rep w) css l → q2z ((OT.fr r).rep w) css l (List.replicate l.length [])
 | [], [], _ => trivial
 | _ :: _, _ :: _, h => ⟨⟨h.1, rfl⟩, q5R h.2⟩
theorem z3I {α : Type} {r : RT α} {w : World} : ∀ {css : List (List Value)} {l : List α} {hss : List Hp}, q2z ((OT.fr r).rep w) css l hss → P3 (r.rep w) css l ∧ hss.flatten = []
 | [], [], [], _ => ⟨trivial, rfl⟩
 | _ :: _, _ :: _, _ :: _, h => by
  obtain ⟨h1, h2⟩ := z3I h.2
  exact ⟨⟨h.1.1, h1⟩, by rw [List.flatten_cons, h.1.2, h2]; rfl⟩
theorem q3G {α : Type} {o : OT α} {w : World} : ∀ {css : List (List Value)} {l : List α} {hss : List Hp}, q2z (o.rep w) css l hss → css.flatten.length = l.length * o.sz ∧ ∀ u ∈ css.flatten, u.oneCell' = true
 | [], [], [], _ => by simp
 | c :: r', x :: s, q :: t, h => by
  obtain ⟨h1, h2⟩ := q3G h.2
  have h3 := o.cells h.1
  refine ⟨by rw [List.flatten_cons, List.length_append, h3.1, h1, List.length_cons, Nat.add_mul]; omega, fun u hu => ?_⟩
  rw [List.flatten_cons, List.mem_append] at hu
  rcases hu with hu | hu
  ·exact h3.2 u hu
  ·exact h2 u hu
theorem j0s {α : Type} {o : OT α} {w w' : World} (hk : q1b w w') : ∀ {css : List (List Value)} {l : List α} {hss : List Hp}, q2z (o.rep w) css l hss → (∀ y ∈ hss.flatten, w'.heap[y.1]? = some y.2) → P3 (o.fz.rep w') css l
 | [], [], [], _, _ => trivial
 | c :: r', x :: s, q :: t, h, hb => ⟨o.frz h.1 hk (fun y hy => hb y (by rw [List.flatten_cons]; exact List.mem_append_left _ hy)), j0s hk h.2 (fun y hy => hb y (by rw [List.flatten_cons]; exact List.mem_append_right _ hy))⟩
def OS {α : Type} (el : TypeId) (o : OT α) (w : World) (v : Value) (l : List α) (hs : Hp) : Prop :=
 ∃ (css : List (List Value)) (hss : List Hp) (hq : Hp), Seg el o.sz v l.length css.flatten hq ∧ q2z (o.rep w) css l hss ∧ hs = hq ++ hss.flatten
theorem OS.mono {α : Type} {el : TypeId} {o : OT α} {w w' : World} {v : Value} {l : List α} {hs : Hp} (h : OS el o w v l hs) (hk : q1b w w') : OS el o w' v l hs := by
 obtain ⟨css, hss, hq, h1, h2, h3⟩ := h
 exact ⟨css, hss, hq, h1, h2.imp fun _ _ _ h => o.mono hk h, h3⟩
theorem OS.le {α : Type} {el : TypeId} {o : OT α} {b b' : k9} {v : Value} {l : List α} {hs : Hp} (h : OS el o b.w v l hs) (hle : b.Le b') : OS el o b'.w v l hs := h.mono hle.cells
theorem OS.form {α : Type} {el : TypeId} {o : OT α} {w : World} {v : Value} {l : List α} {hs : Hp} (h : OS el o w v l hs) : ∃ A c, v = .slice A l.length c ∧ l.length ≤ c ∧ c ≤ 9223372036854775807 := by
 obtain ⟨css, hss, hq, h1, h2, h3⟩ := h
 have hmx : maxLen = 9223372036854775807 := by decide
 rcases h1 with ⟨A, hv, h, _, _⟩ | ⟨g, cap, pr, tl, hv, _, _, _, h5, h6⟩
 ·exact ⟨A, 0, by rw [h]; exact hv, by omega, by omega⟩
 ·exact ⟨_, cap, hv, by omega, by omega⟩
theorem OS.nil {α : Type} {el : TypeId} {o : OT α} {w : World} {A : Option Addr} : OS el o w (.slice A 0 0) [] [] := ⟨[], [], [], Seg.nil, trivial, rfl⟩
theorem OS.frz {α : Type} {el : TypeId} {o : OT α} {w w' : World} {A : Option Addr} {c : Nat} {l : List α} {hs : Hp} (h : OS el o w (.slice A l.length c) l hs) (hk : q1b w w') (hb : ∀ y ∈ hs, w'.heap[y.1]? = some y.2) : FZ o.fz w' A c l := by
 obtain ⟨B, d, hv, hl⟩ := h.form
 injection hv with _ _ hv
 subst hv
 obtain ⟨css, hss, hq, h1, h2, h3⟩ := h
 subst h3
 exact ⟨hl, css, h1.rd (fun y hy => hb y (List.mem_append_left _ hy)), j0s hk h2 (fun y hy => hb y (List.mem_append_right _ hy))⟩
theorem OS.now {α : Type} {el : TypeId} {o : OT α} {b : k9} {w : World} {hp : Hp} {A : Option Addr} {c : Nat} {l : List α} {hs : Hp} (h : OS el o b.w (.slice A l.length c) l hs) (ho : Own b hp w) (hh : hs.Sublist hp) : FZ o.fz w A c l :=
 h.frz ho.keeps (fun y hy => (ho.blk y.1 y.2 (hh.subset hy)).2)
end Go.Fp
namespace Go.Fp
open Go.RowKit
section
variable {P : Program} {n : NT} {m : Nat} {dk0 : Nat × Obj → Prop} {rq : Option Nat} {w0 b : k9} {Q : Exit → Act → World → Prop} {e : Env} {hp : Hp}
def q7j (n : NT) (Inv : k9 → Env → Hp → Prop) : Act → World → Prop := fun a w => ∃ b e hp, Inv b e hp ∧ Fit n b e a ∧ Own b hp w
theorem z4I (Inv : k9 → Env → Hp → Prop) {x y : Code} (h1 : SLc P n w0 (Exit.then (q7j n Inv) Q) x e hp) (h2 : ∀ b e hp, Inv b e hp → SLc P n b Q y e hp) : SLc P n w0 Q (.seq x y) e hp := fun a w hf ho =>
 wpIn_seq (wpIn_mono (h1 a w hf ho) fun ex a' w' h => by
  cases ex with
  | normal => obtain ⟨b, e', hp', hi, hf', ho'⟩ := h; exact h2 b e' hp' hi a' w' hf' ho'
  | _ => exact h)
theorem j4s {Inv : k9 → Env → Hp → Prop} {e' : Env} {hp' : Hp} (he : Sub e' e) (hh : hp'.Sublist hp) (hi : Inv b e' hp') : SLx n b (Exit.then (q7j n Inv) Q) .normal e hp := fun _ _ hf ho => ⟨b, e', hp', hi, hf.sub he, ho.sub hh⟩
theorem j4i {σ τ : Type} {step : σ → Option (σ ⊕ τ)} (Inv : σ → k9 → Env → Hp → Prop) {c : Code} {s0 : σ} {t : τ} (hl : q7g step s0 = some t) {e' : Env} {hp' : Hp} (he : Sub e' e) (hh : hp'.Sublist hp) (h0 : Inv s0 w0 e' hp')
  (round : ∀ s b e hp o, Inv s b e hp → step s = some o → (∀ t', o = .inr t' → t' = t) → SLc P n b (Exit.then (fun a w => ∃ s', o = .inl s' ∧ q7j n (Inv s') a w) Q) c e hp) : SLc P n w0 Q (.loop c) e hp := by
 intro a w hf ho fr k cs hro hb hroom
 obtain ⟨N, hN⟩ := q8g hl
 have key : ∀ N s a w, runN step N s = some t → q7j n (Inv s) a w → ∃ ex a' w', Q ex a' w' ∧ ArrivesIn (Machine.fenced P (q6A n.rd)) P (lone (fr.atR a (.code c :: .inLoop c :: k)) cs w) fr k cs ex a' w' := by
  intro N
  induction N with
  | zero => intro s a w h; cases h
  | succ N ih =>
   intro s a w hr ⟨b, e, hp, hi, hfx, hox⟩
   unfold runN at hr
   cases hs : step s with
   | none => rw [hs] at hr; cases hr
   | some o =>
    rw [hs] at hr
    have hround := round s b e hp o hi hs (fun t' ht' => by subst ht'; simp only [Option.some.injEq] at hr; exact hr) a w hfx hox
    obtain ⟨ex, a1, w1, hq, harr⟩ := hround fr (.inLoop c :: k) cs hro hb hroom
    cases ex with
    | normal =>
     obtain ⟨s', ho', hm⟩ := hq
     subst ho'
     obtain ⟨ex2, a2, w2, hq2, harr2⟩ := ih s' a1 w1 hr hm
     exact ⟨ex2, a2, w2, hq2, .of_steps (StepsIn.trans harr (.one (fenced_calm hb hroom rfl) stepR_inLoop)) harr2⟩
    | exit id => exact ⟨_, a1, w1, hq, .pass (x := .inLoop c) rfl (fun _ _ => .inl (by simp)) harr⟩
    | goto l => exact ⟨_, a1, w1, hq, .pass (x := .inLoop c) rfl (fun _ _ => .inl (by simp)) harr⟩
    | ret => exact ⟨_, a1, w1, hq, .pass (x := .inLoop c) rfl (fun _ _ => .inl (by simp)) harr⟩
    | panic ch => exact ⟨_, a1, w1, hq, .pass (x := .inLoop c) rfl (fun _ _ => .inl (by simp)) harr⟩
    | outgrown => exact ⟨_, a1, w1, hq, .pass (x := .inLoop c) rfl (fun _ _ => .inl (by simp)) harr⟩
 obtain ⟨ex, a', w', hq, harr⟩ := key N s0 a w hN ⟨w0, e', hp', h0, hf.sub he, ho.sub hh⟩
 exact ⟨ex, a', w', hq, .of_steps (.one (fenced_calm hb hroom rfl) stepR_loop) harr⟩
theorem j0e {σ τ : Type} {body : Nat → σ → Option (σ ⊕ τ)} (Inv : Nat → σ → k9 → Env → Hp → Prop) {c : Code} {s0 : σ} {N : Nat} {t : σ ⊕ τ} (hl : forM body N 0 s0 = some t) {e' : Env} {hp' : Hp} (he : Sub e' e) (hh : hp'.Sublist hp) (h0 : Inv 0 s0 w0 e' hp')
  (round : ∀ k s b e hp o, k < N → Inv k s b e hp → body k s = some o → (∀ t', o = .inr t' → t = .inr t') → SLc P n b (Exit.then (fun a w => ∃ s', o = .inl s' ∧ q7j n (Inv (k + 1) s') a w) Q) c e hp)
  (done : ∀ s b e hp, Inv N s b e hp → t = .inl s → SLc P n b (Exit.then (fun _ _ => False) Q) c e hp) : SLc P n w0 Q (.loop c) e hp := by
 intro a w hf ho fr k cs hro hb hroom
 have key : ∀ m j s a w, forM body m j s = some t → j + m = N → q7j n (Inv j s) a w → ∃ ex a' w', Q ex a' w' ∧ ArrivesIn (Machine.fenced P (q6A n.rd)) P (lone (fr.atR a (.code c :: .inLoop c :: k)) cs w) fr k cs ex a' w' := by
  intro m
  induction m with
  | zero =>
   intro j s a w hr hj ⟨b, e, hp, hi, hfx, hox⟩
   simp only [forM, Option.some.injEq] at hr
   have hjN : j = N := by omega
   subst hjN
   obtain ⟨ex, a1, w1, hq, harr⟩ := done s b e hp hi hr.symm a w hfx hox fr (.inLoop c :: k) cs hro hb hroom
   cases ex with
   | normal => exact hq.elim
   | exit id => exact ⟨_, a1, w1, hq, .pass (x := .inLoop c) rfl (fun _ _ => .inl (by simp)) harr⟩
   | goto l => exact ⟨_, a1, w1, hq, .pass (x := .inLoop c) rfl (fun _ _ => .inl (by simp)) harr⟩
   | ret => exact ⟨_, a1, w1, hq, .pass (x := .inLoop c) rfl (fun _ _ => .inl (by simp)) harr⟩
   | panic ch => exact ⟨_, a1, w1, hq, .pass (x := .inLoop c) rfl (fun _ _ => .inl (by simp)) harr⟩
   | outgrown => exact ⟨_, a1, w1, hq, .pass (x := .inLoop c) rfl (fun _ _ => .inl (by simp)) harr⟩
  | succ m ih =>
   intro j s a w hr hj ⟨b, e, hp, hi, hfx, hox⟩
   unfold forM at hr
   cases hs : body j s with
   | none => rw [hs] at hr; cases hr
   | some o =>
    rw [hs] at hr
    have hround := round j s b e hp o (by omega) hi hs (fun t' ht' => by subst ht'; simp only [Option.some.injEq] at hr; exact hr.symm) a w hfx hox
    obtain ⟨ex, a1, w1, hq, harr⟩ := hround fr (.inLoop c :: k) cs hro hb hroom
    cases ex with
    | normal =>
     obtain ⟨s', ho', hm⟩ := hq
     subst ho'
     obtain ⟨ex2, a2, w2, hq2, harr2⟩ := ih (j + 1) s' a1 w1 hr (by omega) hm
     exact ⟨ex2, a2, w2, hq2, .of_steps (StepsIn.trans harr (.one (fenced_calm hb hroom rfl) stepR_inLoop)) harr2⟩
    | exit id => exact ⟨_, a1, w1, hq, .pass (x := .inLoop c) rfl (fun _ _ => .inl (by simp)) harr⟩
    | goto l => exact ⟨_, a1, w1, hq, .pass (x := .inLoop c) rfl (fun _ _ => .inl (by simp)) harr⟩
    | ret => exact ⟨_, a1, w1, hq, .pass (x := .inLoop c) rfl (fun _ _ => .inl (by simp)) harr⟩
    | panic ch => exact ⟨_, a1, w1, hq, .pass (x := .inLoop c) rfl (fun _ _ => .inl (by simp)) harr⟩
    | outgrown => exact ⟨_, a1, w1, hq, .pass (x := .inLoop c) rfl (fun _ _ => .inl (by simp)) harr⟩
 obtain ⟨ex, a', w', hq, harr⟩ := key N 0 s0 a w hl (by omega) ⟨w0, e', hp', h0, hf.sub he, ho.sub hh⟩
 exact ⟨ex, a', w', hq, .of_steps (.one (fenced_calm hb hroom rfl) stepR_loop) harr⟩
theorem z4u {σ : Type} {body : Nat → σ → Option σ} : ∀ (m k : Nat) (s : σ), forM (τ := Empty) (fun k s => (body k s).map .inl) m k s = (forS body m k s).map .inl
 | 0, _, _ => rfl
 | m + 1, k, s => by
  unfold forM forS
  cases h : body k s with
  | none => rfl
  | some s' => simp [z4u m (k + 1) s']
theorem j2I {σ : Type} {body : Nat → σ → Option σ} (Inv : Nat → σ → k9 → Env → Hp → Prop) {c : Code} {s0 : σ} {N : Nat} {t : σ} (hl : forS body N 0 s0 = some t) {e' : Env} {hp' : Hp} (he : Sub e' e) (hh : hp'.Sublist hp) (h0 : Inv 0 s0 w0 e' hp')
  (round : ∀ k s b e hp o, k < N → Inv k s b e hp → body k s = some o → SLc P n b (Exit.then (fun a w => q7j n (Inv (k + 1) o) a w) Q) c e hp)
  (done : ∀ b e hp, Inv N t b e hp → SLc P n b (Exit.then (fun _ _ => False) Q) c e hp) : SLc P n w0 Q (.loop c) e hp := by
 refine j0e (τ := Empty) (body := fun k s => (body k s).map .inl) (t := .inl t) Inv (by rw [z4u, hl]; rfl) he hh h0 (fun k s b e hp o hk hi hb _ => ?_) (fun s b e hp hi hs => ?_)
 ·cases hq : body k s with
  | none => rw [hq] at hb; cases hb
  | some s' =>
   rw [hq] at hb
   simp only [Option.map_some, Option.some.injEq] at hb
   subst hb
   have := round k s b e hp s' hk hi hq
   intro a w hf ho
   refine wpIn_mono (this a w hf ho) fun ex a' w' h => ?_
   cases ex with
   | normal => exact ⟨s', rfl, h⟩
   | _ => exact h
 ·injection hs with hs
  subst hs
  exact done b e hp hi
theorem j0G {Inv : k9 → Env → Hp → Prop} {e' : Env} {hp' : Hp} (he : Sub e' e) (hh : hp'.Sublist hp) (hi : Inv b e' hp') : SLx n b (Exit.then (fun a w => q7j n Inv a w) Q) .normal e hp := fun _ _ hf ho => ⟨b, e', hp', hi, hf.sub he, ho.sub hh⟩
theorem z6h {σ τ : Type} {o : σ ⊕ τ} {Inv : σ → k9 → Env → Hp → Prop} (s' : σ) {e' : Env} {hp' : Hp} (hs : o = .inl s') (he : Sub e' e) (hh : hp'.Sublist hp) (hi : Inv s' b e' hp') : SLx n b (Exit.then (fun a w => ∃ s', o = .inl s' ∧ q7j n (Inv s') a w) Q) .normal e hp := fun _ _ hf ho => ⟨s', hs, b, e', hp', hi, hf.sub he, ho.sub hh⟩
end
section
variable {P : Program} {n : NT} {m : Nat} {dk0 : Nat × Obj → Prop} {rq : Option Nat} {b : k9} {Q : Exit → Act → World → Prop} {e : Env} {hp : Hp} {ops : Array Oper}
theorem z1f (i : Nat) {x : Nat × Obj} {c : Code} (hi : hp[i]? = some x) (h : SLc P n b Q c e (x :: hp.eraseIdx i)) : SLc P n b Q c e hp := fun a w hf ho => h a w hf (ho.perm (j0Y hi))
theorem z2B (s : Nat) {v v' : Value} {c : Code} (hl : look e s = some v) (hv : v = v') (h : SLc P n b Q c ((s, v') :: e) hp) : SLc P n b Q c e hp := fun a w hf ho => h a w ⟨⟨hf.size, fun k u hk => by
 by_cases hsk : s = k
 ·subst hsk
  rw [q1L] at hk
  injection hk with hk
  rw [← hk, ← hv]
  exact hf.get s v hl
 ·rw [q1K hsk] at hk
  exact hf.get k u hk⟩, hf.defers⟩ ho
theorem j0d (i : Nat) {x : Nat × Obj} {c : Code} (hi : hp[i]? = some x) (h : ∀ b', b.Le b' → b'.w.heap[x.1]? = some x.2 → SLc P n b' Q c e (hp.eraseIdx i)) : SLc P n b Q c e hp := fun a w hf ho => by
 obtain ⟨h1, h2, h3⟩ := (show Own b ([x] ++ hp.eraseIdx i) w from ho.perm (j0Y hi)).freeze
 exact h _ h2 (h3 x (by simp)) a w (hf.le h2) h1
theorem j6d (F hs R : Hp) {c : Code} (hh : hp = F ++ (hs ++ R)) (h : ∀ b', b.Le b' → (∀ x ∈ hs, b'.w.heap[x.1]? = some x.2) → SLc P n b' Q c e (F ++ R)) : SLc P n b Q c e hp := fun a w hf ho => by
 rw [hh] at ho
 obtain ⟨h1, h2, h3⟩ := (ho.perm (H2 F hs R)).freeze
 exact h _ h2 h3 a w (hf.le h2) h1
theorem z0r (F q q' R : Hp) {l : List Oper} (hh : hp = F ++ (q ++ R)) (hs : q'.Sublist q) (h : SLo P n b ops Q l e (F ++ (q' ++ R))) : SLo P n b ops Q l e hp := fun a w hf ho => h a w hf (by
 rw [hh] at ho
 exact ho.sub (List.Sublist.append_left (List.Sublist.append_right hs R) F))
theorem j3g (i : Nat) {x : Nat × Obj} (F R : Hp) {l : List Oper} (hi : hp[i]? = some x) (hh : hp.eraseIdx i = F ++ R) (h : SLo P n b ops Q l e (F ++ ([x] ++ R))) : SLo P n b ops Q l e hp := fun a w hf ho => h a w hf (by
 have h1 := ho.perm (j0Y hi)
 rw [hh] at h1
 exact h1.perm (H2 F [x] R).symm)
theorem J3 (i : Nat) {x : Nat × Obj} {l : List Oper} (hi : hp[i]? = some x) (h : SLo P n b ops Q l e (x :: hp.eraseIdx i)) : SLo P n b ops Q l e hp := fun a w hf ho => h a w hf (ho.perm (j0Y hi))
theorem z3Q (s : Nat) {v v' : Value} {l : List Oper} (hl : look e s = some v) (hv : v = v') (h : SLo P n b ops Q l ((s, v') :: e) hp) : SLo P n b ops Q l e hp := fun a w hf ho => h a w ⟨⟨hf.size, fun k u hk => by
 by_cases hsk : s = k
 ·subst hsk
  rw [q1L] at hk
  injection hk with hk
  rw [← hk, ← hv]
  exact hf.get s v hl
 ·rw [q1K hsk] at hk
  exact hf.get k u hk⟩, hf.defers⟩ ho
theorem K9 (i : Nat) {g : Nat} {o o' : Obj} {l : List Oper} (hi : hp[i]? = some (g, o)) (hv : o = o') (h : SLo P n b ops Q l e (hp.set i (g, o'))) : SLo P n b ops Q l e hp := by
 subst hv
 have : hp.set i (g, o) = hp := by
  apply List.ext_getElem?
  intro j
  by_cases hij : i = j
  ·subst hij
   rw [List.getElem?_set_self (List.getElem?_eq_some_iff.1 hi).1, hi]
  ·rw [List.getElem?_set_ne hij]
 rw [this] at h
 exact h
theorem j4y (i : Nat) {x : Nat × Obj} {l : List Oper} (hi : hp[i]? = some x) (h : ∀ b', b.Le b' → b'.w.heap[x.1]? = some x.2 → SLo P n b' ops Q l e (hp.eraseIdx i)) : SLo P n b ops Q l e hp := fun a w hf ho => by
 obtain ⟨h1, h2, h3⟩ := (show Own b ([x] ++ hp.eraseIdx i) w from ho.perm (j0Y hi)).freeze
 exact h _ h2 (h3 x (by simp)) a w (hf.le h2) h1
theorem z8t (F hs R : Hp) {l : List Oper} (hh : hp = F ++ (hs ++ R)) (h : ∀ b', b.Le b' → (∀ x ∈ hs, b'.w.heap[x.1]? = some x.2) → SLo P n b' ops Q l e (F ++ R)) : SLo P n b ops Q l e hp := fun a w hf ho => by
 rw [hh] at ho
 obtain ⟨h1, h2, h3⟩ := (ho.perm (H2 F hs R)).freeze
 exact h _ h2 h3 a w (hf.le h2) h1
theorem j2c (F q q' R : Hp) {ex : Exit} (hh : hp = F ++ (q ++ R)) (hs : q'.Sublist q) (h : SLx n b Q ex e (F ++ (q' ++ R))) : SLx n b Q ex e hp := fun a w hf ho => h a w hf (by
 rw [hh] at ho
 exact ho.sub (List.Sublist.append_left (List.Sublist.append_right hs R) F))
theorem j2S (i : Nat) {x : Nat × Obj} (F R : Hp) {ex : Exit} (hi : hp[i]? = some x) (hh : hp.eraseIdx i = F ++ R) (h : SLx n b Q ex e (F ++ ([x] ++ R))) : SLx n b Q ex e hp := fun a w hf ho => h a w hf (by
 have h1 := ho.perm (j0Y hi)
 rw [hh] at h1
 exact h1.perm (H2 F [x] R).symm)
theorem z8l (i : Nat) {x : Nat × Obj} {ex : Exit} (hi : hp[i]? = some x) (h : SLx n b Q ex e (x :: hp.eraseIdx i)) : SLx n b Q ex e hp := fun a w hf ho => h a w hf (ho.perm (j0Y hi))
theorem z1C (F hs R : Hp) {ex : Exit} (hh : hp = F ++ (hs ++ R)) (h : ∀ b', b.Le b' → (∀ x ∈ hs, b'.w.heap[x.1]? = some x.2) → SLx n b' Q ex e (F ++ R)) : SLx n b Q ex e hp := fun a w hf ho => by
 rw [hh] at ho
 obtain ⟨h1, h2, h3⟩ := (ho.perm (H2 F hs R)).freeze
 exact h _ h2 h3 a w (hf.le h2) h1
theorem j3M (i : Nat) {x : Nat × Obj} (F R : Hp) {w0 : k9} {S : Hp} {fuel : Nat} {listed : Array Bool} (hi : hp[i]? = some x) (hh : hp.eraseIdx i = F ++ R) (h : SLA P n w0 b ops S Q fuel listed e (F ++ ([x] ++ R))) : SLA P n w0 b ops S Q fuel listed e hp := fun a w hf ho => h a w hf (by
 have h1 := ho.perm (j0Y hi)
 rw [hh] at h1
 exact h1.perm (H2 F [x] R).symm)
theorem q1a (i : Nat) {x : Nat × Obj} {w0 : k9} {S : Hp} {fuel : Nat} {listed : Array Bool} (hi : hp[i]? = some x) (h : SLA P n w0 b ops S Q fuel listed e (x :: hp.eraseIdx i)) : SLA P n w0 b ops S Q fuel listed e hp := fun a w hf ho => h a w hf (ho.perm (j0Y hi))
theorem q3S (s : Nat) {v v' : Value} {w0 : k9} {S : Hp} {fuel : Nat} {listed : Array Bool} (hl : look e s = some v) (hv : v = v') (h : SLA P n w0 b ops S Q fuel listed ((s, v') :: e) hp) : SLA P n w0 b ops S Q fuel listed e hp := fun a w hf ho => h a w ⟨⟨hf.size, fun k u hk => by
 by_cases hsk : s = k
 ·subst hsk
  rw [q1L] at hk
  injection hk with hk
  rw [← hk, ← hv]
  exact hf.get s v hl
 ·rw [q1K hsk] at hk
  exact hf.get k u hk⟩, hf.defers⟩ ho
theorem j7e (F hs R : Hp) {w0 : k9} {S : Hp} {fuel : Nat} {listed : Array Bool} (hh : hp = F ++ (hs ++ R)) (h : ∀ b', b.Le b' → (∀ x ∈ hs, b'.w.heap[x.1]? = some x.2) → SLA P n w0 b' ops S Q fuel listed e (F ++ R)) : SLA P n w0 b ops S Q fuel listed e hp := fun a w hf ho => by
 rw [hh] at ho
 obtain ⟨h1, h2, h3⟩ := (ho.perm (H2 F hs R)).freeze
 exact h _ h2 h3 a w (hf.le h2) h1
end
def j6r (P : Program) (b : k9) (e : Env) (hp : Hp) : ResultVar → Value → Prop
 | .tmp t, v => look e t = some v
 | .cell a t, v => ∃ A, look e a = some (.pointer (some A)) ∧ ∀ w, Own b hp w → (loadVar t A).run P w = .ok v w
def z3c : List Value → Value
 | [v] => v
 | vs => .tuple vs.toArray
def j6o (r : ResultVar) (tmps : Array Value) : Sem Value := match r with
 | .tmp t => pure (tmps.getD t undef)
 | .cell a t => do loadVar t (← asAddr (tmps.getD a undef))
theorem q0C {P : Program} {n : NT} {b b0 : k9} {e : Env} {hp : Hp} {a : Act} {w : World} (hf : Fit n b0 e a) (ho : Own b hp w) {r : ResultVar} {v : Value} (h : j6r P b e hp r v) : (j6o r a.tmps).run P w = .ok v w := by
 cases r with
 | tmp t =>
  have hg := hf.get t v h
  simp only [j6o, hg]
  rfl
 | cell q t =>
  obtain ⟨A, h2, h3⟩ := h
  have hg := hf.get q _ h2
  simp only [j6o, hg, asAddr, Sem.run_bind, Sem.run_pure, Result.andThen_ok, h3 w ho]
theorem q4e (fn : Func) (tmps : Array Value) : results fn tmps = (do
  let vs ← fn.results.mapM (fun r => j6o r tmps)
  pure (if h : vs.size = 1 then vs[0] else .tuple vs)) := rfl
theorem z5q {P : Program} {n : NT} {b b0 : k9} {e : Env} {hp : Hp} {a : Act} {w : World} {fn : Func} (hf : Fit n b0 e a) (ho : Own b hp w) : ∀ {rs : List ResultVar} {vs : List Value}, rs.length ≤ 5 → fn.results = rs.toArray → P3 (j6r P b e hp) rs vs → (results fn a.tmps).run P w = .ok (z3c vs) w
 | [], [], _, hr, _ => by simp [q4e, hr, z3c]
 | [_], [_], _, hr, h => by simp [q4e, hr, z3c, q0C hf ho h.1]
 | [_, _], [_, _], _, hr, h => by simp [q4e, hr, z3c, q0C hf ho h.1, q0C hf ho h.2.1]
 | [_, _, _], [_, _, _], _, hr, h => by simp [q4e, hr, z3c, q0C hf ho h.1, q0C hf ho h.2.1, q0C hf ho h.2.2.1]
 | [_, _, _, _], [_, _, _, _], _, hr, h => by simp [q4e, hr, z3c, q0C hf ho h.1, q0C hf ho h.2.1, q0C hf ho h.2.2.1, q0C hf ho h.2.2.2.1]
 | [_, _, _, _, _], [_, _, _, _, _], _, hr, h => by simp [q4e, hr, z3c, q0C hf ho h.1, q0C hf ho h.2.1, q0C hf ho h.2.2.1, q0C hf ho h.2.2.2.1, q0C hf ho h.2.2.2.2.1]
theorem q4Q {P : Program} {b : k9} {hp : Hp} (i k : Nat) {g o t t' : Nat} {cs vs r : List Value} (ht : q9Q P t k = true) (hi : hp[i]? = some (g, Cl t' cs)) (hl : vs.length = k) (hd : cs.drop o = vs ++ r) (w : World) (ho : Own b hp w) : (loadVar t ⟨g, o, none⟩).run P w = .ok (.agg vs.toArray) w := by
 have hc := run_loadCells_list (P := P) w ⟨g, o, none⟩ vs (fun j u hu => by
  rw [Addr.add_lit, ho.cell hi]
  have hj : j < vs.length := (List.getElem?_eq_some_iff.1 hu).1
  show cs[o + j]? = some u
  rw [← List.getElem?_drop, hd, List.getElem?_append_left hj]
  exact hu)
 rw [hl] at hc
 simp [loadVar, q1R ht, run_sizeOf (q8N ht), hc]
theorem j7r {P : Program} {m : Nat} {w0 b1 : k9} {e : Env} {hp : Hp} {fn : Func} {Φ : Value → k9 → Hp → Prop} {rs : List ResultVar} (vs : List Value) (hle : w0.Le b1) (hn : rs.length ≤ 5) (hr : fn.results = rs.toArray) (hv : P3 (j6r P (b1.over w0) e hp) rs vs) {v : Value} (hpk : z3c vs = v) {hp' : Hp} (hh : hp'.Sublist hp) (hΦ : Φ v (b1.over w0) hp') :
  SLx ⟨m, fun x => x ∈ w0.dk, none⟩ b1 (q9I P fn (z3N w0 Φ)) .ret e hp := fun a w hf ho =>
 z5E hf rfl ho (fun w' ho' => ⟨v, by rw [← hpk]; exact z5q hf ho' hn hr hv, v, _, hp', rfl, hle.over, ho'.sub hh, hΦ⟩) hle.dk
theorem j7P {P : Program} {m : Nat} {w0 b1 : k9} {e : Env} {hp : Hp} {fn : Func} {Φ : Value → k9 → Hp → Prop} (hle : w0.Le b1) (hr : fn.results = #[]) {hp' : Hp} (hh : hp'.Sublist hp) (hΦ : Φ (.tuple #[]) (b1.over w0) hp') : SLx ⟨m, fun x => x ∈ w0.dk, none⟩ b1 (q9I P fn (z3N w0 Φ)) .normal e hp := fun a w hf ho =>
 z5E hf rfl ho (fun w' ho' => ⟨.tuple #[], by simp [results, hr], .tuple #[], _, hp', rfl, hle.over, ho'.sub hh, hΦ⟩) hle.dk
section
variable {P : Program} {n : NT} {m : Nat} {dk0 : Nat × Obj → Prop} {rq : Option Nat} {b : k9} {Q : Exit → Act → World → Prop} {e : Env} {hp : Hp} {ops : Array Oper}
theorem z8R (h1 F R : Hp) : ((h1 ++ (F ++ R))).Perm (F ++ (h1 ++ R)) := H2 F h1 R
theorem j3t (h1 h2 F R : Hp) : ((h1 ++ (h2 ++ (F ++ R)))).Perm (F ++ (h1 ++ (h2 ++ R))) := (Ke h1 (z8R h2 F R)).trans (H2 F h1 (h2 ++ R))
theorem z8Q (h1 h2 h3 F R : Hp) : ((h1 ++ (h2 ++ (h3 ++ (F ++ R))))).Perm (F ++ (h1 ++ (h2 ++ (h3 ++ R)))) := (Ke h1 (j3t h2 h3 F R)).trans (H2 F h1 (h2 ++ (h3 ++ R)))
theorem j3s (h1 h2 h3 h4 F R : Hp) : ((h1 ++ (h2 ++ (h3 ++ (h4 ++ (F ++ R)))))).Perm (F ++ (h1 ++ (h2 ++ (h3 ++ (h4 ++ R))))) := (Ke h1 (z8Q h2 h3 h4 F R)).trans (H2 F h1 (h2 ++ (h3 ++ (h4 ++ R))))
theorem j1e (h1 h2 h3 h4 h5 F R : Hp) : ((h1 ++ (h2 ++ (h3 ++ (h4 ++ (h5 ++ (F ++ R))))))).Perm (F ++ (h1 ++ (h2 ++ (h3 ++ (h4 ++ (h5 ++ R)))))) := (Ke h1 (j3s h2 h3 h4 h5 F R)).trans (H2 F h1 (h2 ++ (h3 ++ (h4 ++ (h5 ++ R)))))
theorem z4s (h1 h2 R : Hp) : ((h2 ++ (h1 ++ R))).Perm ((h1 ++ (h2 ++ R))) := H2 h1 h2 R
theorem z7i (F h1 h2 R : Hp) {c : Code} (hh : hp = F ++ (h1 ++ (h2 ++ R))) (h : SLc P n b Q c e (F ++ (h2 ++ (h1 ++ R)))) : SLc P n b Q c e hp := fun a w hf ho => h a w hf (by rw [hh] at ho; exact ho.perm (Ke F (z4s h1 h2 R)))
theorem z4r (h1 h2 h3 R : Hp) : ((h3 ++ (h1 ++ (h2 ++ R)))).Perm ((h1 ++ (h2 ++ (h3 ++ R)))) := (H2 h1 h3 (h2 ++ R)).trans (Ke h1 (z4s h2 h3 R))
theorem q8t (F h1 h2 h3 R : Hp) {c : Code} (hh : hp = F ++ (h1 ++ (h2 ++ (h3 ++ R)))) (h : SLc P n b Q c e (F ++ (h3 ++ (h1 ++ (h2 ++ R))))) : SLc P n b Q c e hp := fun a w hf ho => h a w hf (by rw [hh] at ho; exact ho.perm (Ke F (z4r h1 h2 h3 R)))
theorem z4q (h1 h2 h3 h4 R : Hp) : ((h4 ++ (h1 ++ (h2 ++ (h3 ++ R))))).Perm ((h1 ++ (h2 ++ (h3 ++ (h4 ++ R))))) := (H2 h1 h4 (h2 ++ (h3 ++ R))).trans (Ke h1 (z4r h2 h3 h4 R))
theorem z7h (F h1 h2 h3 h4 R : Hp) {c : Code} (hh : hp = F ++ (h1 ++ (h2 ++ (h3 ++ (h4 ++ R))))) (h : SLc P n b Q c e (F ++ (h4 ++ (h1 ++ (h2 ++ (h3 ++ R)))))) : SLc P n b Q c e hp := fun a w hf ho => h a w hf (by rw [hh] at ho; exact ho.perm (Ke F (z4q h1 h2 h3 h4 R)))
theorem z4p (h1 h2 h3 h4 h5 R : Hp) : ((h5 ++ (h1 ++ (h2 ++ (h3 ++ (h4 ++ R)))))).Perm ((h1 ++ (h2 ++ (h3 ++ (h4 ++ (h5 ++ R)))))) := (H2 h1 h5 (h2 ++ (h3 ++ (h4 ++ R)))).trans (Ke h1 (z4q h2 h3 h4 h5 R))
theorem z7g (F h1 h2 h3 h4 h5 R : Hp) {c : Code} (hh : hp = F ++ (h1 ++ (h2 ++ (h3 ++ (h4 ++ (h5 ++ R)))))) (h : SLc P n b Q c e (F ++ (h5 ++ (h1 ++ (h2 ++ (h3 ++ (h4 ++ R))))))) : SLc P n b Q c e hp := fun a w hf ho => h a w hf (by rw [hh] at ho; exact ho.perm (Ke F (z4p h1 h2 h3 h4 h5 R)))
theorem z4o (h1 h2 h3 h4 h5 h6 R : Hp) : ((h6 ++ (h1 ++ (h2 ++ (h3 ++ (h4 ++ (h5 ++ R))))))).Perm ((h1 ++ (h2 ++ (h3 ++ (h4 ++ (h5 ++ (h6 ++ R))))))) := (H2 h1 h6 (h2 ++ (h3 ++ (h4 ++ (h5 ++ R))))).trans (Ke h1 (z4p h2 h3 h4 h5 h6 R))
theorem z7f (F h1 h2 h3 h4 h5 h6 R : Hp) {c : Code} (hh : hp = F ++ (h1 ++ (h2 ++ (h3 ++ (h4 ++ (h5 ++ (h6 ++ R))))))) (h : SLc P n b Q c e (F ++ (h6 ++ (h1 ++ (h2 ++ (h3 ++ (h4 ++ (h5 ++ R)))))))) : SLc P n b Q c e hp := fun a w hf ho => h a w hf (by rw [hh] at ho; exact ho.perm (Ke F (z4o h1 h2 h3 h4 h5 h6 R)))
theorem j5g (h1 h2 h3 h4 h5 h6 h7 R : Hp) : ((h7 ++ (h1 ++ (h2 ++ (h3 ++ (h4 ++ (h5 ++ (h6 ++ R)))))))).Perm ((h1 ++ (h2 ++ (h3 ++ (h4 ++ (h5 ++ (h6 ++ (h7 ++ R)))))))) := (H2 h1 h7 (h2 ++ (h3 ++ (h4 ++ (h5 ++ (h6 ++ R)))))).trans (Ke h1 (z4o h2 h3 h4 h5 h6 h7 R))
theorem q3Q (B F h1 R : Hp) {l : List Oper} (hh : hp = B ++ (F ++ (h1 ++ R))) (h : SLo P n b ops Q l e (B ++ (h1 ++ (F ++ R)))) : SLo P n b ops Q l e hp := fun a w hf ho => h a w hf (by rw [hh] at ho; exact ho.perm (Ke B (z8R h1 F R)))
theorem q3x (B F h1 R : Hp) {l : List Oper} (hh : hp = B ++ (h1 ++ (F ++ R))) (h : SLo P n b ops Q l e (B ++ (F ++ (h1 ++ R)))) : SLo P n b ops Q l e hp := fun a w hf ho => h a w hf (by rw [hh] at ho; exact ho.perm (Ke B (z8R h1 F R).symm))
theorem z6i (B F h1 h2 R : Hp) {l : List Oper} (hh : hp = B ++ (F ++ (h1 ++ (h2 ++ R)))) (h : SLo P n b ops Q l e (B ++ (h1 ++ (h2 ++ (F ++ R))))) : SLo P n b ops Q l e hp := fun a w hf ho => h a w hf (by rw [hh] at ho; exact ho.perm (Ke B (j3t h1 h2 F R)))
theorem z8s (B F h1 h2 R : Hp) {l : List Oper} (hh : hp = B ++ (h1 ++ (h2 ++ (F ++ R)))) (h : SLo P n b ops Q l e (B ++ (F ++ (h1 ++ (h2 ++ R))))) : SLo P n b ops Q l e hp := fun a w hf ho => h a w hf (by rw [hh] at ho; exact ho.perm (Ke B (j3t h1 h2 F R).symm))
theorem z0q (B F h1 h2 h3 R : Hp) {l : List Oper} (hh : hp = B ++ (F ++ (h1 ++ (h2 ++ (h3 ++ R))))) (h : SLo P n b ops Q l e (B ++ (h1 ++ (h2 ++ (h3 ++ (F ++ R)))))) : SLo P n b ops Q l e hp := fun a w hf ho => h a w hf (by rw [hh] at ho; exact ho.perm (Ke B (z8Q h1 h2 h3 F R)))
theorem z2P (B F h1 h2 h3 R : Hp) {l : List Oper} (hh : hp = B ++ (h1 ++ (h2 ++ (h3 ++ (F ++ R))))) (h : SLo P n b ops Q l e (B ++ (F ++ (h1 ++ (h2 ++ (h3 ++ R)))))) : SLo P n b ops Q l e hp := fun a w hf ho => h a w hf (by rw [hh] at ho; exact ho.perm (Ke B (z8Q h1 h2 h3 F R).symm))
theorem G7 (B F h1 h2 h3 h4 R : Hp) {l : List Oper} (hh : hp = B ++ (F ++ (h1 ++ (h2 ++ (h3 ++ (h4 ++ R)))))) (h : SLo P n b ops Q l e (B ++ (h1 ++ (h2 ++ (h3 ++ (h4 ++ (F ++ R))))))) : SLo P n b ops Q l e hp := fun a w hf ho => h a w hf (by rw [hh] at ho; exact ho.perm (Ke B (j3s h1 h2 h3 h4 F R)))
theorem q3K (B F h1 h2 h3 h4 R : Hp) {l : List Oper} (hh : hp = B ++ (h1 ++ (h2 ++ (h3 ++ (h4 ++ (F ++ R)))))) (h : SLo P n b ops Q l e (B ++ (F ++ (h1 ++ (h2 ++ (h3 ++ (h4 ++ R))))))) : SLo P n b ops Q l e hp := fun a w hf ho => h a w hf (by rw [hh] at ho; exact ho.perm (Ke B (j3s h1 h2 h3 h4 F R).symm))
theorem j2f (B F h1 h2 h3 h4 h5 R : Hp) {l : List Oper} (hh : hp = B ++ (F ++ (h1 ++ (h2 ++ (h3 ++ (h4 ++ (h5 ++ R))))))) (h : SLo P n b ops Q l e (B ++ (h1 ++ (h2 ++ (h3 ++ (h4 ++ (h5 ++ (F ++ R)))))))) : SLo P n b ops Q l e hp := fun a w hf ho => h a w hf (by rw [hh] at ho; exact ho.perm (Ke B (j1e h1 h2 h3 h4 h5 F R)))
theorem z2O (B F h1 h2 h3 h4 h5 R : Hp) {l : List Oper} (hh : hp = B ++ (h1 ++ (h2 ++ (h3 ++ (h4 ++ (h5 ++ (F ++ R))))))) (h : SLo P n b ops Q l e (B ++ (F ++ (h1 ++ (h2 ++ (h3 ++ (h4 ++ (h5 ++ R)))))))) : SLo P n b ops Q l e hp := fun a w hf ho => h a w hf (by rw [hh] at ho; exact ho.perm (Ke B (j1e h1 h2 h3 h4 h5 F R).symm))
theorem z2Q (F h1 h2 R : Hp) {l : List Oper} (hh : hp = F ++ (h1 ++ (h2 ++ R))) (h : SLo P n b ops Q l e (F ++ (h2 ++ (h1 ++ R)))) : SLo P n b ops Q l e hp := fun a w hf ho => h a w hf (by rw [hh] at ho; exact ho.perm (Ke F (z4s h1 h2 R)))
theorem q9V (F h1 h2 h3 R : Hp) {l : List Oper} (hh : hp = F ++ (h1 ++ (h2 ++ (h3 ++ R)))) (h : SLo P n b ops Q l e (F ++ (h3 ++ (h1 ++ (h2 ++ R))))) : SLo P n b ops Q l e hp := fun a w hf ho => h a w hf (by rw [hh] at ho; exact ho.perm (Ke F (z4r h1 h2 h3 R)))
theorem z6j (F h1 h2 h3 h4 R : Hp) {l : List Oper} (hh : hp = F ++ (h1 ++ (h2 ++ (h3 ++ (h4 ++ R))))) (h : SLo P n b ops Q l e (F ++ (h4 ++ (h1 ++ (h2 ++ (h3 ++ R)))))) : SLo P n b ops Q l e hp := fun a w hf ho => h a w hf (by rw [hh] at ho; exact ho.perm (Ke F (z4q h1 h2 h3 h4 R)))
theorem q5v (F h1 h2 h3 h4 h5 R : Hp) {l : List Oper} (hh : hp = F ++ (h1 ++ (h2 ++ (h3 ++ (h4 ++ (h5 ++ R)))))) (h : SLo P n b ops Q l e (F ++ (h5 ++ (h1 ++ (h2 ++ (h3 ++ (h4 ++ R))))))) : SLo P n b ops Q l e hp := fun a w hf ho => h a w hf (by rw [hh] at ho; exact ho.perm (Ke F (z4p h1 h2 h3 h4 h5 R)))
theorem j0M (F h1 h2 h3 h4 h5 h6 R : Hp) {l : List Oper} (hh : hp = F ++ (h1 ++ (h2 ++ (h3 ++ (h4 ++ (h5 ++ (h6 ++ R))))))) (h : SLo P n b ops Q l e (F ++ (h6 ++ (h1 ++ (h2 ++ (h3 ++ (h4 ++ (h5 ++ R)))))))) : SLo P n b ops Q l e hp := fun a w hf ho => h a w hf (by rw [hh] at ho; exact ho.perm (Ke F (z4o h1 h2 h3 h4 h5 h6 R)))
theorem q9U (F h1 h2 R : Hp) {ex : Exit} (hh : hp = F ++ (h1 ++ (h2 ++ R))) (h : SLx n b Q ex e (F ++ (h2 ++ (h1 ++ R)))) : SLx n b Q ex e hp := fun a w hf ho => h a w hf (by rw [hh] at ho; exact ho.perm (Ke F (z4s h1 h2 R)))
theorem q7K (F h1 h2 h3 R : Hp) {ex : Exit} (hh : hp = F ++ (h1 ++ (h2 ++ (h3 ++ R)))) (h : SLx n b Q ex e (F ++ (h3 ++ (h1 ++ (h2 ++ R))))) : SLx n b Q ex e hp := fun a w hf ho => h a w hf (by rw [hh] at ho; exact ho.perm (Ke F (z4r h1 h2 h3 R)))
theorem q7J (F h1 h2 h3 h4 R : Hp) {ex : Exit} (hh : hp = F ++ (h1 ++ (h2 ++ (h3 ++ (h4 ++ R))))) (h : SLx n b Q ex e (F ++ (h4 ++ (h1 ++ (h2 ++ (h3 ++ R)))))) : SLx n b Q ex e hp := fun a w hf ho => h a w hf (by rw [hh] at ho; exact ho.perm (Ke F (z4q h1 h2 h3 h4 R)))
theorem q9T (F h1 h2 h3 h4 h5 R : Hp) {ex : Exit} (hh : hp = F ++ (h1 ++ (h2 ++ (h3 ++ (h4 ++ (h5 ++ R)))))) (h : SLx n b Q ex e (F ++ (h5 ++ (h1 ++ (h2 ++ (h3 ++ (h4 ++ R))))))) : SLx n b Q ex e hp := fun a w hf ho => h a w hf (by rw [hh] at ho; exact ho.perm (Ke F (z4p h1 h2 h3 h4 h5 R)))
theorem z6g (F h1 h2 h3 h4 h5 h6 R : Hp) {ex : Exit} (hh : hp = F ++ (h1 ++ (h2 ++ (h3 ++ (h4 ++ (h5 ++ (h6 ++ R))))))) (h : SLx n b Q ex e (F ++ (h6 ++ (h1 ++ (h2 ++ (h3 ++ (h4 ++ (h5 ++ R)))))))) : SLx n b Q ex e hp := fun a w hf ho => h a w hf (by rw [hh] at ho; exact ho.perm (Ke F (z4o h1 h2 h3 h4 h5 h6 R)))
theorem z6T (B F h1 R : Hp) {w0 : k9} {S : Hp} {fuel : Nat} {listed : Array Bool} (hh : hp = B ++ (F ++ (h1 ++ R))) (h : SLA P n w0 b ops S Q fuel listed e (B ++ (h1 ++ (F ++ R)))) : SLA P n w0 b ops S Q fuel listed e hp := fun a w hf ho => h a w hf (by rw [hh] at ho; exact ho.perm (Ke B (z8R h1 F R)))
theorem q7h (B F h1 R : Hp) {w0 : k9} {S : Hp} {fuel : Nat} {listed : Array Bool} (hh : hp = B ++ (h1 ++ (F ++ R))) (h : SLA P n w0 b ops S Q fuel listed e (B ++ (F ++ (h1 ++ R)))) : SLA P n w0 b ops S Q fuel listed e hp := fun a w hf ho => h a w hf (by rw [hh] at ho; exact ho.perm (Ke B (z8R h1 F R).symm))
theorem j2r (B F h1 h2 h3 R : Hp) {w0 : k9} {S : Hp} {fuel : Nat} {listed : Array Bool} (hh : hp = B ++ (F ++ (h1 ++ (h2 ++ (h3 ++ R))))) (h : SLA P n w0 b ops S Q fuel listed e (B ++ (h1 ++ (h2 ++ (h3 ++ (F ++ R)))))) : SLA P n w0 b ops S Q fuel listed e hp := fun a w hf ho => h a w hf (by rw [hh] at ho; exact ho.perm (Ke B (z8Q h1 h2 h3 F R)))
theorem j5k (B F h1 h2 h3 R : Hp) {w0 : k9} {S : Hp} {fuel : Nat} {listed : Array Bool} (hh : hp = B ++ (h1 ++ (h2 ++ (h3 ++ (F ++ R))))) (h : SLA P n w0 b ops S Q fuel listed e (B ++ (F ++ (h1 ++ (h2 ++ (h3 ++ R)))))) : SLA P n w0 b ops S Q fuel listed e hp := fun a w hf ho => h a w hf (by rw [hh] at ho; exact ho.perm (Ke B (z8Q h1 h2 h3 F R).symm))
theorem z9H (B F h1 h2 h3 h4 h5 R : Hp) {w0 : k9} {S : Hp} {fuel : Nat} {listed : Array Bool} (hh : hp = B ++ (F ++ (h1 ++ (h2 ++ (h3 ++ (h4 ++ (h5 ++ R))))))) (h : SLA P n w0 b ops S Q fuel listed e (B ++ (h1 ++ (h2 ++ (h3 ++ (h4 ++ (h5 ++ (F ++ R)))))))) : SLA P n w0 b ops S Q fuel listed e hp := fun a w hf ho => h a w hf (by rw [hh] at ho; exact ho.perm (Ke B (j1e h1 h2 h3 h4 h5 F R)))
theorem j3N (B F h1 h2 h3 h4 h5 R : Hp) {w0 : k9} {S : Hp} {fuel : Nat} {listed : Array Bool} (hh : hp = B ++ (h1 ++ (h2 ++ (h3 ++ (h4 ++ (h5 ++ (F ++ R))))))) (h : SLA P n w0 b ops S Q fuel listed e (B ++ (F ++ (h1 ++ (h2 ++ (h3 ++ (h4 ++ (h5 ++ R)))))))) : SLA P n w0 b ops S Q fuel listed e hp := fun a w hf ho => h a w hf (by rw [hh] at ho; exact ho.perm (Ke B (j1e h1 h2 h3 h4 h5 F R).symm))
theorem z6V (F h1 h2 R : Hp) {w0 : k9} {S : Hp} {fuel : Nat} {listed : Array Bool} (hh : hp = F ++ (h1 ++ (h2 ++ R))) (h : SLA P n w0 b ops S Q fuel listed e (F ++ (h2 ++ (h1 ++ R)))) : SLA P n w0 b ops S Q fuel listed e hp := fun a w hf ho => h a w hf (by rw [hh] at ho; exact ho.perm (Ke F (z4s h1 h2 R)))
theorem q8q (F h1 h2 h3 R : Hp) {w0 : k9} {S : Hp} {fuel : Nat} {listed : Array Bool} (hh : hp = F ++ (h1 ++ (h2 ++ (h3 ++ R)))) (h : SLA P n w0 b ops S Q fuel listed e (F ++ (h3 ++ (h1 ++ (h2 ++ R))))) : SLA P n w0 b ops S Q fuel listed e hp := fun a w hf ho => h a w hf (by rw [hh] at ho; exact ho.perm (Ke F (z4r h1 h2 h3 R)))
theorem z3x (F h1 h2 h3 h4 R : Hp) {w0 : k9} {S : Hp} {fuel : Nat} {listed : Array Bool} (hh : hp = F ++ (h1 ++ (h2 ++ (h3 ++ (h4 ++ R))))) (h : SLA P n w0 b ops S Q fuel listed e (F ++ (h4 ++ (h1 ++ (h2 ++ (h3 ++ R)))))) : SLA P n w0 b ops S Q fuel listed e hp := fun a w hf ho => h a w hf (by rw [hh] at ho; exact ho.perm (Ke F (z4q h1 h2 h3 h4 R)))
theorem j1K (F h1 h2 h3 h4 h5 R : Hp) {w0 : k9} {S : Hp} {fuel : Nat} {listed : Array Bool} (hh : hp = F ++ (h1 ++ (h2 ++ (h3 ++ (h4 ++ (h5 ++ R)))))) (h : SLA P n w0 b ops S Q fuel listed e (F ++ (h5 ++ (h1 ++ (h2 ++ (h3 ++ (h4 ++ R))))))) : SLA P n w0 b ops S Q fuel listed e hp := fun a w hf ho => h a w hf (by rw [hh] at ho; exact ho.perm (Ke F (z4p h1 h2 h3 h4 h5 R)))
theorem z6U (F h1 h2 h3 h4 h5 h6 R : Hp) {w0 : k9} {S : Hp} {fuel : Nat} {listed : Array Bool} (hh : hp = F ++ (h1 ++ (h2 ++ (h3 ++ (h4 ++ (h5 ++ (h6 ++ R))))))) (h : SLA P n w0 b ops S Q fuel listed e (F ++ (h6 ++ (h1 ++ (h2 ++ (h3 ++ (h4 ++ (h5 ++ R)))))))) : SLA P n w0 b ops S Q fuel listed e hp := fun a w hf ho => h a w hf (by rw [hh] at ho; exact ho.perm (Ke F (z4o h1 h2 h3 h4 h5 h6 R)))
theorem j1J (F h1 h2 h3 h4 h5 h6 h7 R : Hp) {w0 : k9} {S : Hp} {fuel : Nat} {listed : Array Bool} (hh : hp = F ++ (h1 ++ (h2 ++ (h3 ++ (h4 ++ (h5 ++ (h6 ++ (h7 ++ R)))))))) (h : SLA P n w0 b ops S Q fuel listed e (F ++ (h7 ++ (h1 ++ (h2 ++ (h3 ++ (h4 ++ (h5 ++ (h6 ++ R))))))))) : SLA P n w0 b ops S Q fuel listed e hp := fun a w hf ho => h a w hf (by rw [hh] at ho; exact ho.perm (Ke F (j5g h1 h2 h3 h4 h5 h6 h7 R)))
end
theorem z2R {l m : Hp} (q : Hp) (h : l.Sublist m) : (q ++ l).Sublist (q ++ m) := List.Sublist.append_left h q
theorem q6U {l m : Hp} (q : Hp) (h : l.Sublist m) : l.Sublist (q ++ m) := h.trans (Kc q m)
theorem q6e {α β : Type} {o : Option α} {f : α → Option β} {r : β} (h : o.bind f = some r) : ∃ x, o = some x ∧ f x = some r := Option.bind_eq_some_iff.1 h
theorem G0 {α β γ : Type} {f : α → Option γ} {g : β → Option γ} {x : α} {r : γ} (h : Sum.elim f g (.inl x) = some r) : f x = some r := h
theorem V8 {α β γ : Type} {f : α → Option γ} {g : β → Option γ} {x : β} {r : γ} (h : Sum.elim f g (.inr x) = some r) : g x = some r := h
theorem z5m {α : Type} {a b : α} (h : some a = some b) : a = b := Kd h
def q0q {A1 A2 B : Type} (f : A1 → A2 → B) (p : A1 × A2) : B := f p.1 p.2
theorem V9 {A1 A2 : Type} {x1 y1 : A1} {x2 y2 : A2} (h : some (x1, x2) = some (y1, y2)) : x1 = y1 ∧ x2 = y2 := by
 have h := Kd h
 simp only [Prod.mk.injEq] at h
 exact h
theorem H0 {A1 A2 B : Type} {f : A1 → A2 → Option B} {x1 : A1} {x2 : A2} {r : B} (h : q0q f (x1, x2) = some r) : f x1 x2 = some r := h
def q5U {A1 A2 A3 B : Type} (f : A1 → A2 → A3 → B) (p : A1 × A2 × A3) : B := f p.1 p.2.1 p.2.2
theorem q7e {A1 A2 A3 : Type} {x1 y1 : A1} {x2 y2 : A2} {x3 y3 : A3} (h : some (x1, x2, x3) = some (y1, y2, y3)) : x1 = y1 ∧ x2 = y2 ∧ x3 = y3 := by
 have h := Kd h
 simp only [Prod.mk.injEq] at h
 exact h
theorem q6j {A1 A2 A3 B : Type} {f : A1 → A2 → A3 → Option B} {x1 : A1} {x2 : A2} {x3 : A3} {r : B} (h : q5U f (x1, x2, x3) = some r) : f x1 x2 x3 = some r := h
def z5b {A1 A2 A3 A4 B : Type} (f : A1 → A2 → A3 → A4 → B) (p : A1 × A2 × A3 × A4) : B := f p.1 p.2.1 p.2.2.1 p.2.2.2
theorem q9F {A1 A2 A3 A4 : Type} {x1 y1 : A1} {x2 y2 : A2} {x3 y3 : A3} {x4 y4 : A4} (h : some (x1, x2, x3, x4) = some (y1, y2, y3, y4)) : x1 = y1 ∧ x2 = y2 ∧ x3 = y3 ∧ x4 = y4 := by
 have h := Kd h
 simp only [Prod.mk.injEq] at h
 exact h
theorem z1D {A1 A2 A3 A4 B : Type} {f : A1 → A2 → A3 → A4 → Option B} {x1 : A1} {x2 : A2} {x3 : A3} {x4 : A4} {r : B} (h : z5b f (x1, x2, x3, x4) = some r) : f x1 x2 x3 x4 = some r := h
def z8e {A1 A2 A3 A4 A5 B : Type} (f : A1 → A2 → A3 → A4 → A5 → B) (p : A1 × A2 × A3 × A4 × A5) : B := f p.1 p.2.1 p.2.2.1 p.2.2.2.1 p.2.2.2.2
theorem z1F {A1 A2 A3 A4 A5 : Type} {x1 y1 : A1} {x2 y2 : A2} {x3 y3 : A3} {x4 y4 : A4} {x5 y5 : A5} (h : some (x1, x2, x3, x4, x5) = some (y1, y2, y3, y4, y5)) : x1 = y1 ∧ x2 = y2 ∧ x3 = y3 ∧ x4 = y4 ∧ x5 = y5 := by
 have h := Kd h
 simp only [Prod.mk.injEq] at h
 exact h
theorem z3P {A1 A2 A3 A4 A5 B : Type} {f : A1 → A2 → A3 → A4 → A5 → Option B} {x1 : A1} {x2 : A2} {x3 : A3} {x4 : A4} {x5 : A5} {r : B} (h : z8e f (x1, x2, x3, x4, x5) = some r) : f x1 x2 x3 x4 x5 = some r := h
def j7p {A1 A2 A3 A4 A5 A6 B : Type} (f : A1 → A2 → A3 → A4 → A5 → A6 → B) (p : A1 × A2 × A3 × A4 × A5 × A6) : B := f p.1 p.2.1 p.2.2.1 p.2.2.2.1 p.2.2.2.2.1 p.2.2.2.2.2
theorem j0U {A1 A2 A3 A4 A5 A6 : Type} {x1 y1 : A1} {x2 y2 : A2} {x3 y3 : A3} {x4 y4 : A4} {x5 y5 : A5} {x6 y6 : A6} (h : some (x1, x2, x3, x4, x5, x6) = some (y1, y2, y3, y4, y5, y6)) : x1 = y1 ∧ x2 = y2 ∧ x3 = y3 ∧ x4 = y4 ∧ x5 = y5 ∧ x6 = y6 := by
 have h := Kd h
 simp only [Prod.mk.injEq] at h
 exact h
theorem j6C {A1 A2 A3 A4 A5 A6 B : Type} {f : A1 → A2 → A3 → A4 → A5 → A6 → Option B} {x1 : A1} {x2 : A2} {x3 : A3} {x4 : A4} {x5 : A5} {x6 : A6} {r : B} (h : j7p f (x1, x2, x3, x4, x5, x6) = some r) : f x1 x2 x3 x4 x5 x6 = some r := h
def j6B {A1 A2 A3 A4 A5 A6 A7 A8 B : Type} (f : A1 → A2 → A3 → A4 → A5 → A6 → A7 → A8 → B) (p : A1 × A2 × A3 × A4 × A5 × A6 × A7 × A8) : B := f p.1 p.2.1 p.2.2.1 p.2.2.2.1 p.2.2.2.2.1 p.2.2.2.2.2.1 p.2.2.2.2.2.2.1 p.2.2.2.2.2.2.2
theorem j6I {A1 A2 A3 A4 A5 A6 A7 A8 : Type} {x1 y1 : A1} {x2 y2 : A2} {x3 y3 : A3} {x4 y4 : A4} {x5 y5 : A5} {x6 y6 : A6} {x7 y7 : A7} {x8 y8 : A8} (h : some (x1, x2, x3, x4, x5, x6, x7, x8) = some (y1, y2, y3, y4, y5, y6, y7, y8)) : x1 = y1 ∧ x2 = y2 ∧ x3 = y3 ∧ x4 = y4 ∧ x5 = y5 ∧ x6 = y6 ∧ x7 = y7 ∧ x8 = y8 := by
 have h := Kd h
 simp only [Prod.mk.injEq] at h
 exact h
theorem j6A {A1 A2 A3 A4 A5 A6 A7 A8 B : Type} {f : A1 → A2 → A3 → A4 → A5 → A6 → A7 → A8 → Option B} {x1 : A1} {x2 : A2} {x3 : A3} {x4 : A4} {x5 : A5} {x6 : A6} {x7 : A7} {x8 : A8} {r : B} (h : j6B f (x1, x2, x3, x4, x5, x6, x7, x8) = some r) : f x1 x2 x3 x4 x5 x6 x7 x8 = some r := h
def j6z {A1 A2 A3 A4 A5 A6 A7 A8 A9 B : Type} (f : A1 → A2 → A3 → A4 → A5 → A6 → A7 → A8 → A9 → B) (p : A1 × A2 × A3 × A4 × A5 × A6 × A7 × A8 × A9) : B := f p.1 p.2.1 p.2.2.1 p.2.2.2.1 p.2.2.2.2.1 p.2.2.2.2.2.1 p.2.2.2.2.2.2.1 p.2.2.2.2.2.2.2.1 p.2.2.2.2.2.2.2.2
theorem j6H {A1 A2 A3 A4 A5 A6 A7 A8 A9 : Type} {x1 y1 : A1} {x2 y2 : A2} {x3 y3 : A3} {x4 y4 : A4} {x5 y5 : A5} {x6 y6 : A6} {x7 y7 : A7} {x8 y8 : A8} {x9 y9 : A9} (h : some (x1, x2, x3, x4, x5, x6, x7, x8, x9) = some (y1, y2, y3, y4, y5, y6, y7, y8, y9)) : x1 = y1 ∧ x2 = y2 ∧ x3 = y3 ∧ x4 = y4 ∧ x5 = y5 ∧ x6 = y6 ∧ x7 = y7 ∧ x8 = y8 ∧ x9 = y9 := by
 have h := Kd h
 simp only [Prod.mk.injEq] at h
 exact h
theorem j6y {A1 A2 A3 A4 A5 A6 A7 A8 A9 B : Type} {f : A1 → A2 → A3 → A4 → A5 → A6 → A7 → A8 → A9 → Option B} {x1 : A1} {x2 : A2} {x3 : A3} {x4 : A4} {x5 : A5} {x6 : A6} {x7 : A7} {x8 : A8} {x9 : A9} {r : B} (h : j6z f (x1, x2, x3, x4, x5, x6, x7, x8, x9) = some r) : f x1 x2 x3 x4 x5 x6 x7 x8 x9 = some r := h
def j2W {A1 A2 A3 A4 A5 A6 A7 A8 A9 A10 A11 B : Type} (f : A1 → A2 → A3 → A4 → A5 → A6 → A7 → A8 → A9 → A10 → A11 → B) (p : A1 × A2 × A3 × A4 × A5 × A6 × A7 × A8 × A9 × A10 × A11) : B := f p.1 p.2.1 p.2.2.1 p.2.2.2.1 p.2.2.2.2.1 p.2.2.2.2.2.1 p.2.2.2.2.2.2.1 p.2.2.2.2.2.2.2.1 p.2.2.2.2.2.2.2.2.1 p.2.2.2.2.2.2.2.2.2.1 p.2.2.2.2.2.2.2.2.2.2
theorem j4F {A1 A2 A3 A4 A5 A6 A7 A8 A9 A10 A11 : Type} {x1 y1 : A1} {x2 y2 : A2} {x3 y3 : A3} {x4 y4 : A4} {x5 y5 : A5} {x6 y6 : A6} {x7 y7 : A7} {x8 y8 : A8} {x9 y9 : A9} {x10 y10 : A10} {x11 y11 : A11} (h : some (x1, x2, x3, x4, x5, x6, x7, x8, x9, x10, x11) = some (y1, y2, y3, y4, y5, y6, y7, y8, y9, y10, y11)) : x1 = y1 ∧ x2 = y2 ∧ x3 = y3 ∧ x4 = y4 ∧ x5 = y5 ∧ x6 = y6 ∧ x7 = y7 ∧ x8 = y8 ∧ x9 = y9 ∧ x10 = y10 ∧ x11 = y11 := by
 have h := Kd h
 simp only [Prod.mk.injEq] at h
 exact h
theorem j4u {A1 A2 A3 A4 A5 A6 A7 A8 A9 A10 A11 B : Type} {f : A1 → A2 → A3 → A4 → A5 → A6 → A7 → A8 → A9 → A10 → A11 → Option B} {x1 : A1} {x2 : A2} {x3 : A3} {x4 : A4} {x5 : A5} {x6 : A6} {x7 : A7} {x8 : A8} {x9 : A9} {x10 : A10} {x11 : A11} {r : B} (h : j2W f (x1, x2, x3, x4, x5, x6, x7, x8, x9, x10, x11) = some r) : f x1 x2 x3 x4 x5 x6 x7 x8 x9 x10 x11 = some r := h
section
variable {P : Program} {n : NT} {m : Nat} {dk0 : Nat × Obj → Prop} {rq : Option Nat} {b : k9} {Q : Exit → Act → World → Prop} {e : Env} {hp : Hp} {ty : TypeId}
theorem j3b {f : FuncId} {xs : Array Operand} {ts : Array TypeId} {Φ : Value → k9 → Hp → Prop} (vs : List Value) (hc : j1 P f = true) (hv : z5a e xs.toList = some vs) (h : ∀ w, Own b hp w → v8 P f vs (w : k9) [] Φ) :
  q5c P n b (.call { callee := .value (.func f), args := xs, argTypes := ts }) ty e hp (fun v hp' => ∃ b' hs, hs ++ hp = hp' ∧ Φ v b' hs) := ⟨fun a w hf ho d pos af g K Q hK => by
 have hargs : xs.map a.eval = vs.toArray := Array.ext' (by rw [Array.toList_map]; exact hf.evals hv)
 have hrun : (execOp a.eval ⟨d, .call { callee := .value (.func f), args := xs, argTypes := ts }, ty, pos, af, g⟩).run P w = .ok (.enter f vs.toArray) w := by
  simp only [execOp, resolve, Act.eval, Deferred.ofValue, hargs, Sem.run_bind, Sem.run_pure, Result.andThen_ok, invoke]
  simpa using q1t (P := P) hc vs.toArray w
 simp only [Oper.wp, hrun, Oper.upon]
 exact (h w ho w (Own.start w)).mono fun en w' ⟨v, b', hs, he, hle, ho', hΦ⟩ => by
  subst he
  exact hK v (hs ++ hp) w' ⟨b', hs, rfl, hΦ⟩ (ho.grow (hle.back _ _ ho'))⟩
theorem q7N {f : FuncId} {xs : Array Operand} {ts : Array TypeId} {Φ : Value → k9 → Hp → Prop} (vs : List Value) (hc : j1 P f = true) (hv : z5a e xs.toList = some vs) (h : ∀ w, Own b hp w → v8 P f vs (w : k9) [] Φ) (h0 : ∀ v b' hs, Φ v b' hs → hs = []) :
  q5c P n b (.call { callee := .value (.func f), args := xs, argTypes := ts }) ty e hp (fun v hp' => (∃ b', Φ v b' []) ∧ hp = hp') := ⟨fun a w hf ho d pos af g K Q hK => (j3b vs hc hv h).out a w hf ho d pos af g K Q (fun v hp' w' ⟨b', hs, h1, h2⟩ ho' => by
 have h3 := h0 v b' hs h2
 subst h3
 exact hK v hp' w' ⟨⟨b', h2⟩, h1⟩ ho')⟩
theorem j0J {f : FuncId} {x : Operand} {xs : Array Operand} {ts : Array TypeId} {Φ : Value → k9 → Hp → Prop} (first captured : Array Value) (vs : List Value) (hx : val e x = some (.func (.func f) first captured)) (hc : j1 P f = true) (hv : z5a e xs.toList = some vs) (h : ∀ w, Own b hp w → v8 P f (first.toList ++ vs ++ captured.toList) (w : k9) [] Φ) :
  q5c P n b (.call { callee := .value x, args := xs, argTypes := ts }) ty e hp (fun v hp' => ∃ b' hs, hs ++ hp = hp' ∧ Φ v b' hs) := ⟨fun a w hf ho d pos af g K Q hK => by
 have hargs : xs.map a.eval = vs.toArray := Array.ext' (by rw [Array.toList_map]; exact hf.evals hv)
 have hrun : (execOp a.eval ⟨d, .call { callee := .value x, args := xs, argTypes := ts }, ty, pos, af, g⟩).run P w = .ok (.enter f (first ++ vs.toArray ++ captured)) w := by
  simp only [execOp, resolve, hf.eval hx, Deferred.ofValue, hargs, Sem.run_bind, Sem.run_pure, Result.andThen_ok, invoke]
  exact q1t (P := P) hc _ w
 simp only [Oper.wp, hrun, Oper.upon]
 have h' := h w ho w (Own.start w)
 have harr : (first.toList ++ vs ++ captured.toList).toArray = first ++ vs.toArray ++ captured := by simp
 rw [harr] at h'
 exact h'.mono fun en w' ⟨v, b', hs, he, hle, ho', hΦ⟩ => by
  subst he
  exact hK v (hs ++ hp) w' ⟨b', hs, rfl, hΦ⟩ (ho.grow (hle.back _ _ ho'))⟩
theorem q0K {f : FuncId} {x : Operand} {xs : Array Operand} {ts : Array TypeId} {Φ : Value → k9 → Hp → Prop} (first captured : Array Value) (vs : List Value) (hx : val e x = some (.func (.func f) first captured)) (hc : j1 P f = true) (hv : z5a e xs.toList = some vs) (h : ∀ w, Own b hp w → v8 P f (first.toList ++ vs ++ captured.toList) (w : k9) [] Φ) (h0 : ∀ v b' hs, Φ v b' hs → hs = []) :
  q5c P n b (.call { callee := .value x, args := xs, argTypes := ts }) ty e hp (fun v hp' => (∃ b', Φ v b' []) ∧ hp = hp') := ⟨fun a w hf ho d pos af g K Q hK => (j0J first captured vs hx hc hv h).out a w hf ho d pos af g K Q (fun v hp' w' ⟨b', hs, h1, h2⟩ ho' => by
 have h3 := h0 v b' hs h2
 subst h3
 exact hK v hp' w' ⟨⟨b', h2⟩, h1⟩ ho')⟩
theorem stB {op : Op} {t c : Bool} (h : Z0 P n b op ty e hp (.bool t)) (hq : t = c) : Z0 P n b op ty e hp (.bool c) := hq ▸ h
theorem z6e (S : Hp) {id : Nat} {l : List Oper} (hm : P.follows .mixedOrders = true) (h : SLA P n b b l.toArray S Q l.length (Array.replicate l.length false) e hp) (hl : okR n.rd l = true := by rfl) : SLc P n b Q (.region id l.toArray true) e hp :=
 fun a w hf ho => wpIn_mono (wpIn_region_any hm (by
  have := h a { w with drawn := w.drawn + 1 } hf (ho.drawn _)
  have h2 := z8n hl _ _ _ _ (q7L _ _ _ _ this)
  simpa using h2)) j0B.imp
theorem z0j {w0 : k9} {S : Hp} {ops : Array Oper} {pos : String} {af : Array Edge} {d : Option Tmp} {fuel : Nat} {listed : Array Bool} {Φ : Value → k9 → Hp → Prop} (hle : w0.Le b) {i : Nat} {rs : List Nat} {f : FuncId} {xs : Array Operand} {ts : Array TypeId} (hi : ops[i]? = some ⟨d, .call { callee := .value (.func f), args := xs, argTypes := ts }, ty, pos, af, none⟩) (hd : okD d m = true)
  (vs : List Value) (hc : j1 P f = true) (hv : z5a e xs.toList = some vs) (hcall : v8 P f vs b hp Φ)
  (h : ∀ v b' hp', b.Le b' → Φ v b' hp' → (q4m .any ops (listed.setIfInBounds i true) = false ∨ S.Sublist hp') ∧ SLA P (NT.mk m dk0 rq) w0 b' ops S Q fuel (listed.setIfInBounds i true) (putE d v e) hp')
  (hs : SLR P (NT.mk m dk0 rq) w0 b ops S Q fuel listed e hp rs) : SLR P (NT.mk m dk0 rq) w0 b ops S Q fuel listed e hp (i :: rs) := fun j hj a w hf ho => by
 rcases List.mem_cons.1 hj with rfl | hj
 ·unfold wpOp
  simp only [hi]
  rw [if_pos (by simp [Region.wanted])]
  refine .inl ?_
  have hargs : xs.map a.eval = vs.toArray := Array.ext' (by rw [Array.toList_map]; exact hf.evals hv)
  have hrun : (execOp a.eval ⟨d, .call { callee := .value (.func f), args := xs, argTypes := ts }, ty, pos, af, none⟩).run P w = .ok (.enter f vs.toArray) w := by
   simp only [execOp, resolve, Act.eval, Deferred.ofValue, hargs, Sem.run_bind, Sem.run_pure, Result.andThen_ok, invoke]
   simpa using q1t (P := P) hc vs.toArray w
  simp only [Oper.wp, hrun, Oper.upon]
  exact (hcall w ho).mono fun en w' ⟨v, b', hp', he, hle', ho', hΦ⟩ => by
   subst he
   obtain ⟨h1, h2⟩ := h v b' hp' hle' hΦ
   refine ⟨⟨fun hl => ?_, ((hle.trans hle').back _ _ ho').sub (List.nil_sublist _)⟩, h2 _ _ ((hf.putE hd v).le hle') ho'⟩
   rcases h1 with h1 | h1
   ·rw [h1] at hl; cases hl
   ·exact ((hle.trans hle').back _ _ ho').sub h1
 ·exact hs j hj a w hf ho
theorem q5r {w0 : k9} {S : Hp} {ops : Array Oper} {pos : String} {af : Array Edge} {d : Option Tmp} {fuel : Nat} {listed : Array Bool} {Φ : Value → k9 → Hp → Prop} (hle : w0.Le b) {i j : Nat} {tt : Bool} {rs : List Nat} {f : FuncId} {xs : Array Operand} {ts : Array TypeId} (hi : ops[i]? = some ⟨d, .call { callee := .value (.func f), args := xs, argTypes := ts }, ty, pos, af, some (j, tt)⟩) (hd : okD d m = true) (dj : Nat) (hj : (ops[j]?).bind (·.dst) = some dj) (hl : look e dj = some (.bool tt)) (hdj : Nat.blt dj m = true)
  (vs : List Value) (hc : j1 P f = true) (hv : z5a e xs.toList = some vs) (hcall : v8 P f vs b hp Φ)
  (h : ∀ v b' hp', b.Le b' → Φ v b' hp' → (q4m .any ops (listed.setIfInBounds i true) = false ∨ S.Sublist hp') ∧ SLA P (NT.mk m dk0 rq) w0 b' ops S Q fuel (listed.setIfInBounds i true) (putE d v e) hp')
  (hs : SLR P (NT.mk m dk0 rq) w0 b ops S Q fuel listed e hp rs) : SLR P (NT.mk m dk0 rq) w0 b ops S Q fuel listed e hp (i :: rs) := fun j2 hj2 a w hf ho => by
 rcases List.mem_cons.1 hj2 with rfl | hj2
 ·unfold wpOp
  simp only [hi]
  rw [if_pos (by rw [q6i hf hj hl _ rfl hdj]; simp)]
  refine .inl ?_
  have hargs : xs.map a.eval = vs.toArray := Array.ext' (by rw [Array.toList_map]; exact hf.evals hv)
  have hrun : (execOp a.eval ⟨d, .call { callee := .value (.func f), args := xs, argTypes := ts }, ty, pos, af, some (j, tt)⟩).run P w = .ok (.enter f vs.toArray) w := by
   simp only [execOp, resolve, Act.eval, Deferred.ofValue, hargs, Sem.run_bind, Sem.run_pure, Result.andThen_ok, invoke]
   simpa using q1t (P := P) hc vs.toArray w
  simp only [Oper.wp, hrun, Oper.upon]
  exact (hcall w ho).mono fun en w' ⟨v, b', hp', he, hle', ho', hΦ⟩ => by
   subst he
   obtain ⟨h1, h2⟩ := h v b' hp' hle' hΦ
   refine ⟨⟨fun hlb => ?_, ((hle.trans hle').back _ _ ho').sub (List.nil_sublist _)⟩, h2 _ _ ((hf.putE hd v).le hle') ho'⟩
   rcases h1 with h1 | h1
   ·rw [h1] at hlb; cases hlb
   ·exact ((hle.trans hle').back _ _ ho').sub h1
 ·exact hs j2 hj2 a w hf ho
theorem q3j {w0 : k9} {S : Hp} {ops : Array Oper} {op : Op} {pos : String} {af : Array Edge} {d : Option Tmp} {fuel : Nat} {listed : Array Bool} {Ψ : Value → Hp → Prop} (hle : w0.Le b) {i j : Nat} {tt : Bool} {rs : List Nat} (hi : ops[i]? = some ⟨d, op, ty, pos, af, some (j, tt)⟩) (hd : okD d m = true) (dj : Nat) (hj : (ops[j]?).bind (·.dst) = some dj) (hl : look e dj = some (.bool tt)) (hdj : Nat.blt dj m = true) (hdo : q5c P (NT.mk m dk0 rq) b op ty e hp Ψ)
  (h : ∀ v hp', Ψ v hp' → (q4m .any ops (listed.setIfInBounds i true) = false ∨ S.Sublist hp') ∧ SLA P (NT.mk m dk0 rq) w0 b ops S Q fuel (listed.setIfInBounds i true) (putE d v e) hp')
  (hs : SLR P (NT.mk m dk0 rq) w0 b ops S Q fuel listed e hp rs) : SLR P (NT.mk m dk0 rq) w0 b ops S Q fuel listed e hp (i :: rs) := fun j2 hj2 a w hf ho => by
 rcases List.mem_cons.1 hj2 with rfl | hj2
 ·unfold wpOp
  simp only [hi]
  rw [if_pos (by rw [q6i hf hj hl _ rfl hdj]; simp)]
  refine .inl (hdo.out a w hf ho d pos af (some (j, tt)) _ _ fun v hp' w' hΨ ho' => ?_)
  obtain ⟨h1, h2⟩ := h v hp' hΨ
  refine ⟨⟨fun hlb => ?_, (hle.back _ _ ho').sub (List.nil_sublist _)⟩, h2 _ _ (hf.putE hd v) ho'⟩
  rcases h1 with h1 | h1
  ·rw [h1] at hlb; cases hlb
  ·exact (hle.back _ _ ho').sub h1
 ·exact hs j2 hj2 a w hf ho
end
end Go.Fp
namespace Go.Fp
open Go.RowKit
theorem q3g {α : Type} : ∀ {l : List (List α)} {j : Nat} {x : List α}, l[j]? = some x → l.flatten = (l.take j).flatten ++ (x ++ (l.drop (j + 1)).flatten)
  | [], j, x, h => by simp at h
  | y :: r, 0, x, h => by simp at h; subst h; simp
  | y :: r, j + 1, x, h => by
    have := q3g (l := r) (j := j) (x := x) (by simpa using h)
    simp [this]
theorem q7c {α : Type} : ∀ {l : List (List α)} {j : Nat} (x : List α), j < l.length → (l.set j x).flatten = (l.take j).flatten ++ (x ++ (l.drop (j + 1)).flatten)
  | [], j, x, h => by simp at h
  | y :: r, 0, x, h => by simp
  | y :: r, j + 1, x, h => by
    have := q7c (l := r) (j := j) x (by simpa using h)
    simp [this]
theorem q2Q {α : Type} {o : OT α} {w : World} {css : List (List Value)} {l : List α} {hss : List Hp} (h : q2z (o.rep w) css l hss) (j : Nat) (hj : j ≤ l.length) : (css.take j).flatten.length = j * o.sz := by
  have := (q3G (h.take j)).1
  rw [this, List.length_take, Nat.min_eq_left hj]
def j7Q {α : Type} (el : TypeId) (o : OT α) (w : World) (v : Value) (l : List α) (j : Nat) (hs : Hp) : Prop :=
  ∃ (css : List (List Value)) (hss : List Hp) (hq : Hp) (cs : List Value) (hsj : Hp), Seg el o.sz v l.length css.flatten hq ∧ css[j]? = some cs ∧ cs.length = o.sz ∧ hss[j]? = some hsj ∧ css.length = l.length ∧ hss.length = l.length ∧ css.flatten.length = l.length * o.sz ∧ (css.take j).flatten.length = j * o.sz ∧
    (∀ us a' hn, o.rep w us a' hn → q2z (o.rep w) (css.set j us) (l.set j a') (hss.set j hn)) ∧ hs = (hq ++ (hss.take j).flatten) ++ (hss.drop (j + 1)).flatten
section
variable {α : Type} {el : TypeId} {o : OT α} {b : k9} {A : Option Addr} {c : Nat} {l : List α} {hs : Hp}
theorem OS.get {sz : Nat} (hsz : o.sz = sz) (hpos : 0 < sz) (h : OS el o b.w (.slice A l.length c) l hs) {j : Nat} {x : α} (hx : l[j]? = some x) :
    ∃ cs hsj P1 P2, hs = P1 ++ (hsj ++ P2) ∧ o.rep b.w cs x hsj ∧ (∀ (w : World) (hp : Hp), Own b hp w → hs.Sublist hp → ∀ (i : Nat) (u : Value), cs[i]? = some u → q4y w A (j * sz + i) = some u) ∧ A.isSome = true ∧ j < l.length ∧
      (∀ b' x' hsj', b.Le b' → o.rep b'.w cs x' hsj' → OS el o b'.w (.slice A (l.set j x').length c) (l.set j x') (P1 ++ (hsj' ++ P2))) ∧ ∀ b', b.Le b' → j7Q el o b'.w (.slice A l.length c) l j (P1 ++ P2) := by
  subst hsz
  have hnow := fun (w : World) (hp : Hp) (ho : Own b hp w) (hh : hs.Sublist hp) => h.now ho hh
  obtain ⟨css, hss, hq, h1, h2, h3⟩ := h
  obtain ⟨cs, hsj, hc, hh, hr⟩ := h2.get hx
  have hjl : j < l.length := (List.getElem?_eq_some_iff.1 hx).1
  have hlc := h2.len
  refine ⟨cs, hsj, hq ++ (hss.take j).flatten, (hss.drop (j + 1)).flatten, ?_, hr, fun w hp ho hsub i u hu => ?_, ?_, hjl, fun b' x' hsj' hle hr' => ?_, fun b' hle => ?_⟩
  · rw [h3, q3g hh]; simp
  · have hrd : Rd w A css.flatten := h1.rd (fun y hy => (ho.blk y.1 y.2 (hsub.subset (by rw [h3]; exact List.mem_append_left _ hy))).2)
    refine hrd _ u ?_
    rw [q3g hc]
    have hl2 := q2Q h2 j (by omega)
    rw [List.getElem?_append_right (by omega), hl2, Nat.add_sub_cancel_left, List.getElem?_append_left (List.getElem?_eq_some_iff.1 hu).1]
    exact hu
  · exact h1.isSome (by omega)
  · refine ⟨css, hss.set j hsj', hq, by rw [List.length_set]; exact h1, ?_, ?_⟩
    · have h4 := (h2.imp fun _ _ _ h => o.mono hle.cells h).set j hr'
      rwa [show css.set j cs = css by
        apply List.ext_getElem?
        intro i
        by_cases hij : j = i
        · subst hij
          rw [List.getElem?_set_self (by omega), hc]
        · rw [List.getElem?_set_ne hij]] at h4
    · rw [q7c _ (by omega)]; simp
  · exact ⟨css, hss, hq, cs, hsj, h1, hc, (o.cells hr).1, hh, hlc.1, hlc.2, (q3G h2).1, q2Q h2 j (by omega), fun us a' hn hr' => (h2.imp fun _ _ _ h => o.mono hle.cells h).set j hr', rfl⟩
theorem z8F {pr xs tl us : List Value} {k : Nat} (hk : k + us.length ≤ xs.length) : (pr ++ xs ++ tl).take (pr.length + k) ++ us ++ (pr ++ xs ++ tl).drop (pr.length + k + us.length) = pr ++ (xs.take k ++ us ++ xs.drop (k + us.length)) ++ tl := by
  have e1 : (pr ++ xs ++ tl).take (pr.length + k) = pr ++ xs.take k := by
    rw [List.append_assoc, List.take_length_add_append, List.take_append_of_le_length (by omega)]
  have e2 : (pr ++ xs ++ tl).drop (pr.length + k + us.length) = xs.drop (k + us.length) ++ tl := by
    rw [List.append_assoc, Nat.add_assoc, List.drop_length_add_append, List.drop_append_of_le_length (by omega)]
  rw [e1, e2]
  simp
variable {P : Program} {n : NT} {m : Nat} {dk0 : Hp} {rq : Option Nat} {e : Env} {hp : Hp} {ty : TypeId}
theorem z8p {sz : Nat} (hsz : o.sz = sz) (F R : Hp) (off k : Nat) {t : TypeId} {x y : Operand} {v : Value} (us : List Value) {j : Nat} {a a' : α} (hhp : hp = F ++ (hs ++ R)) (h : OS el o b.w (.slice A l.length c) l hs) (ha : l[j]? = some a)
    (hx : val e x = some (.pointer (A.map (·.add (j * sz + off))))) (hy : val e y = some v) (hc : v.cells = us.toArray) (ht : q6d P t k = true) (hk : us.length = k) (h1 : ∀ u ∈ us, u.oneCell' = true)
    (hr : ∀ cs hsj, o.rep b.w cs a hsj → off + k ≤ sz ∧ o.rep b.w (cs.take off ++ us ++ cs.drop (off + k)) a' hsj) :
    q5c P n b (.store t x y) ty e hp (fun _ hp' => ∃ hs', hp' = F ++ (hs' ++ R) ∧ OS el o b.w (.slice A (l.set j a').length c) (l.set j a') hs') := by
  subst hsz
  obtain ⟨css, hss, hq, q1, q2, q3⟩ := h
  obtain ⟨cs, hsj, hcs, hh, hrep⟩ := q2.get ha
  have hjl : j < l.length := (List.getElem?_eq_some_iff.1 ha).1
  obtain ⟨hok, hrep'⟩ := hr cs hsj hrep
  obtain ⟨g, cap, pr, tl, hv, hq1, hl1, hl2, hmc, hcm⟩ := q1.pos (by omega)
  injection hv with e1 e2 e3
  subst e1
  subst hq1
  have hlc := q2.len
  have hcl : cs.length = o.sz := (o.cells hrep).1
  have htk := q2Q q2 j (by omega)
  have hfl := (q3G q2).1
  have hmul : (j + 1) * o.sz ≤ l.length * o.sz := Nat.mul_le_mul_right _ (by omega)
  rw [Nat.add_mul] at hmul
  have hle : j * o.sz + off + us.length ≤ css.flatten.length := by rw [hfl]; omega
  have hblk : hp[F.length]? = some (g, Cl el (pr ++ css.flatten ++ tl)) := by
    rw [hhp, q3]
    simp
  have hd := q5u (P := P) (n := n) (w0 := b) (ty := ty) (e := e) (hp := hp) F.length k (t := t) (t' := el) (x := x) (y := y) (g := g) (o := pr.length + (j * o.sz + off)) (cs := pr ++ css.flatten ++ tl) (vs := us) (v := v) (by simpa [Addr.add_lit] using hx) hy hc ht hk h1 hblk (by simp only [List.length_append]; omega)
  refine ⟨fun a w hf ho d pos af gd K Q hK => hd.out a w hf ho d pos af gd K Q (fun v' hp' w' hΨ ho' => hK v' hp' w' ?_ ho')⟩
  subst hΨ
  have hset := z8F (pr := pr) (xs := css.flatten) (tl := tl) (us := us) (k := j * o.sz + off) hle
  rw [hk] at hset
  rw [hset]
  have hflat : css.flatten.take (j * o.sz + off) ++ us ++ css.flatten.drop (j * o.sz + off + k) = (css.set j (cs.take off ++ us ++ cs.drop (off + k))).flatten := by
    rw [q7c _ (by omega), q3g hcs, ← htk]
    have h6 : cs.drop (off + k) ++ (css.drop (j + 1)).flatten = (cs ++ (css.drop (j + 1)).flatten).drop (off + k) := by
      rw [List.drop_append_of_le_length (by omega)]
    have h7 : (cs ++ (css.drop (j + 1)).flatten).take off = cs.take off := List.take_append_of_le_length (by omega)
    rw [List.take_length_add_append, h7, Nat.add_assoc, List.drop_length_add_append, ← h6]
    simp
  rw [hflat]
  refine ⟨[(g, Cl el (pr ++ (css.set j (cs.take off ++ us ++ cs.drop (off + k))).flatten ++ tl))] ++ hss.flatten, ?_, css.set j (cs.take off ++ us ++ cs.drop (off + k)), hss, _, ?_, ?_, rfl⟩
  · rw [hhp, q3]
    simp
  · have h8 := q2.set j hrep'
    have h9 := (q3G h8).1
    rw [List.length_set] at h9
    refine .inr ⟨g, cap, pr, tl, ?_, rfl, ?_, ?_, ?_, hcm⟩
    · rw [e3]
    · rw [h9, List.length_set]
    · rw [List.length_append, h9, ← hfl, ← List.length_append]
      exact hl2
    · rw [List.length_set]; exact hmc
  · have h8 := q2.set j hrep'
    rwa [show hss.set j hsj = hss by
      apply List.ext_getElem?
      intro i
      by_cases hij : j = i
      · subst hij
        rw [List.getElem?_set_self (by omega), hh]
      · rw [List.getElem?_set_ne hij]] at h8
theorem j1a {F R : Hp} (q : Hp) : ∀ {hss : List Hp} {j : Nat} {x y : Hp}, hss[j]? = some x → (F ++ ((q ++ (hss.set j y).flatten) ++ R)).Perm (F ++ ((q ++ ((hss.take j).flatten ++ (hss.drop (j + 1)).flatten)) ++ (y ++ R))) := by
  intro hss j x y h
  rw [q7c _ (List.getElem?_eq_some_iff.1 h).1]
  refine Ke F ?_
  simp only [List.append_assoc]
  refine Ke q (Ke _ ?_)
  rw [← List.append_assoc, ← List.append_assoc]
  exact List.Perm.append_right R List.perm_append_comm
theorem z0o {r : RT α} (F R : Hp) {s x : Operand} {t sz by_ : Nat} {zv v : Value} {B : Option Addr} {k d : Nat} (css' : List (List Value)) (m : List α) (hsz : r.sz = sz) (hpos : 0 < sz) (hsl : slT P t el sz = true) (hinf : (P.info? el).map (fun i => (i.zero, i.size, i.bytes)) = some (some zv, sz, by_)) (hzs : zv.cells.size = sz)
    (hx : val e s = some v) (hy : val e x = some (.slice B k d)) (hk : k = m.length) (h : OS el (OT.fr r) b.w v l hs) (hhp : hp = F ++ (hs ++ R)) (hrd : ∀ w, Own b hp w → Rd w B css'.flatten) (hall : P3 (r.rep b.w) css' m) (hroom : (l.length + k) * by_ ≤ 140737488355328 ∧ l.length + k ≤ 9223372036854775807) :
    q5c P n b (.call { callee := .builtin .append, args := #[s, x], argTypes := #[t, t] }) ty e hp (fun v' hp' => ∃ hs', hp' = F ++ (hs' ++ R) ∧ OS el (OT.fr r) b.w v' (l ++ m) hs') := by
  subst hsz
  subst hk
  obtain ⟨css, hss, hq, q1, q2, q3⟩ := h
  obtain ⟨q4, q5⟩ := z3I q2
  have hq' : hs = hq := by rw [q3, q5, List.append_nil]
  subst hq'
  have hd := j4w (P := P) (n := n) (w0 := b) (ty := ty) (e := e) (hp := hp) (by_ := by_) F hs R css'.flatten hsl hinf hzs hpos hx hy q1 hhp (q4O hall) hrd (z6R hall) hroom.2 hroom.1
  refine ⟨fun a w hf ho d pos af gd K Q hK => hd.out a w hf ho d pos af gd K Q (fun v' hp' w' hΨ ho' => hK v' hp' w' ?_ ho')⟩
  obtain ⟨hs', h1, h2⟩ := hΨ
  refine ⟨hs', h1, css ++ css', List.replicate (l ++ m).length [], hs', ?_, q5R (q4.append hall), by simp⟩
  rw [List.length_append, List.flatten_append]
  exact h2
theorem z4i (zs : List Value) (m : Nat) : (madeCells zs.toArray (m * zs.length)).toList = (List.replicate m zs).flatten := by
  induction m with
  | zero => simp [madeCells]
  | succ m ih =>
    rw [List.replicate_succ', List.flatten_append, ← ih]
    simp only [madeCells, Array.toList_map, Array.toList_range, Nat.add_mul, Nat.one_mul, List.range_add, List.map_append, List.map_map]
    congr 1
    simp only [List.flatten_cons, List.flatten_nil, List.append_nil]
    apply List.ext_getElem?
    intro i
    by_cases hi : i < zs.length
    · simp [hi, Nat.mod_eq_of_lt hi]
    · simp [hi]
theorem q0w {r : RT α} (F R : Hp) {t sz by_ : Nat} {x y : Operand} {zv : Value} (zs : List Value) (a0 : α) (m : Nat) {i : Int} (hhp : hp = F ++ R) (hi0 : i = (m : Int)) (hx : val e x = some (.int .i64 i)) (hy : val e y = some (.int .i64 i)) (hsl : slT P t el sz = true) (hinf : (P.info? el).map (fun i => (i.zero, i.size, i.bytes)) = some (some zv, sz, by_))
    (hz : zv.cells = zs.toArray) (hl : zs.length = sz) (hsz : r.sz = sz) (hpos : 0 < sz) (hr : r.rep b.w zs a0) (hb : by_ * m ≤ 281474976710656) (hm : m ≤ 9223372036854775807) :
    q5c P n b (.makeSlice t x y) ty e hp (fun v hp' => ∃ hs, hp' = F ++ (hs ++ R) ∧ OS el (OT.fr r) b.w v (List.replicate m a0) hs) := by
  subst hsz
  subst hi0
  obtain ⟨h2, _⟩ := q3U hsl
  cases hi : P.info? el with
  | none => simp [hi] at hinf
  | some inf =>
    simp only [hi, Option.map_some, Option.some.injEq, Prod.mk.injEq] at hinf
    have h := j4v (P := P) (n := n) (w0 := b) (e := e) (hp := hp) (ty := ty) m hx hy h2 hi hinf.1 (by rw [hinf.2.2]; exact hb) hm
    rw [hinf.2.1, hz, ← hl, z4i zs] at h
    refine ⟨fun a w hf ho d pos af gd K Q hK => h.out a w hf ho d pos af gd K Q (fun v' hp' w' hΨ ho' => ?_)⟩
    obtain ⟨g, h3, h4⟩ := hΨ
    subst h3
    subst h4
    rw [hhp] at ho'
    refine hK _ (F ++ ([(g, Cl el (List.replicate m zs).flatten)] ++ R)) w' ⟨_, rfl, List.replicate m zs, List.replicate (List.replicate m a0).length [], [(g, Cl el (List.replicate m zs).flatten)], ?_, q5R (P3.rep hr m), by simp⟩ (ho'.perm (H2 F [(g, Cl el (List.replicate m zs).flatten)] R).symm)
    have hfl := q4O (P3.rep hr m)
    rw [List.length_replicate] at hfl
    have hmx : maxLen = 9223372036854775807 := by decide
    refine .inr ⟨g, m, [], [], ?_, by simp, ?_, ?_, ?_, by omega, q9S.nil⟩
    · simp
    · rw [hfl, List.length_replicate]; rfl
    · rw [List.append_nil, hfl]; exact Nat.le_refl _
    · rw [List.length_replicate]; exact Nat.le_refl _
theorem OS.lit {r : RT α} {g m : Nat} {cs : List Value} (css : List (List Value)) (hf : css.flatten = cs) (h : P3 (r.rep b.w) css l) (hm : l.length = m) (hmx : m ≤ 9223372036854775807) : OS el (OT.fr r) b.w (.slice (some ⟨g, 0, none⟩) m m) l [(g, Cl el cs)] := by
  subst hm
  have hx : maxLen = 9223372036854775807 := by decide
  refine ⟨css, List.replicate l.length [], [(g, Cl el cs)], .inr ⟨g, l.length, [], [], rfl, by simp [hf], q4O h, by rw [List.append_nil]; exact Nat.le_of_eq (q4O h).symm, Nat.le_refl _, by omega, q9S.nil⟩, q5R h, by simp⟩
theorem J6 (k : Nat) {x : Operand} {t : TypeId} {A : Option Addr} {o : Nat} {vs : List Value} (hx : val e x = some (.pointer (A.map (·.add o)))) (ht : q9Q P t k = true) (hA : A.isSome = true) (hl : vs.length = k) (hv : ∀ w, Own b hp w → ∀ (j : Nat) (u : Value), vs[j]? = some u → q4y w A (o + j) = some u) :
    Z0 P n b (.load t x) ty e hp (.agg vs.toArray) := fun a w hf ho _ _ _ _ => by
  cases A with
  | none => cases hA
  | some p =>
    have hc := run_loadCells_list (P := P) w (p.add o) vs (fun j u hu => by rw [q1O]; exact hv w ho j u hu)
    rw [hl] at hc
    simp only [Option.map_some] at hx
    simp [execOp, hf.eval hx, Instr.loadAt, Instr.sureAddr, loadVar, q1R ht, Fp.run_sizeOf (q8N ht), hc]
theorem OS.len {w : World} {v : Value} (h : OS el o w v l hs) : l.length ≤ 9223372036854775807 := by
  obtain ⟨_, _, _, h1, h2⟩ := h.form
  omega
theorem OS.lc {w : World} (h : OS el o w (.slice A l.length c) l hs) : l.length ≤ c := by
  obtain ⟨_, _, hv, h1, _⟩ := h.form
  injection hv with _ _ hv
  omega
theorem j7M {t : Bool} (h : (!t) = true) : t = false := by cases t <;> simp_all
theorem j7N {t : Bool} (h : (!t) = false) : t = true := by cases t <;> simp_all
theorem z2M {i : Int} {j : Nat} (hj : i = (j : Int)) {sz : Nat} (hsz : o.sz = sz) (F R : Hp) (off k : Nat) {t : TypeId} {x y : Operand} {v : Value} (us : List Value) {a a' : α} (hhp : hp = F ++ (hs ++ R)) (h : OS el o b.w (.slice A l.length c) l hs) (ha : l[j]? = some a)
    (hx : val e x = some (.pointer (A.map (·.add (j * sz + off))))) (hy : val e y = some v) (hc : v.cells = us.toArray) (ht : q6d P t k = true) (hk : us.length = k) (h1 : ∀ u ∈ us, u.oneCell' = true)
    (hr : ∀ cs hsj, o.rep b.w cs a hsj → off + k ≤ sz ∧ o.rep b.w (cs.take off ++ us ++ cs.drop (off + k)) a' hsj) :
    q5c P n b (.store t x y) ty e hp (fun _ hp' => ∃ hs', hp' = F ++ (hs' ++ R) ∧ OS el o b.w (.slice A (put l i a').length c) (put l i a') hs') := by
  rw [hj, q0n]
  exact z8p hsz F R off k us hhp h ha hx hy hc ht hk h1 hr
theorem OS.nz {w : World} (h : OS el o w (.slice A l.length c) l hs) (hne : l ≠ []) : (A = none ↔ l = []) := by
  obtain ⟨css, hss, hq, h1, _, _⟩ := h
  have hl : 0 < l.length := List.length_pos_iff.2 hne
  have := h1.isSome hl
  exact ⟨(fun h => by rw [h] at this; cases this), fun h => absurd h hne⟩
theorem q5N {r : RT α} {f : FuncId} {R : Hp} {sz by_ : Nat} (hsz : r.sz = sz) (hpos : 0 < sz) (hcl : ∀ (A : Option Addr) (n c : Nat) (xs : List Value) (w : World), Rd w A xs → xs.length = n * sz → (n * by_ ≤ 140737488355328 ∧ n ≤ 9223372036854775807) → q5s P f [.slice A n c] w [] (fun v hp' => q9R el sz v n xs hp')) (h : FZ r b.w A c l) (hroom : l.length * by_ ≤ 140737488355328 ∧ l.length ≤ 9223372036854775807) :
 v8 P f [.slice A l.length c] b R (fun v b' hp' => ∃ (A' : Option Addr) (c' : Nat) (hs : Hp), .slice A' l.length c' = v ∧ (hs ++ R) = hp' ∧ OS el (OT.fr r) b'.w (.slice A' l.length c') l hs) := fun w ho => by
  subst hsz
  obtain ⟨_, css, h1, h2⟩ := h
  refine (q5s.frame (fun w ho => hcl A l.length c css.flatten w (h1.old ho) (q4O h2) hroom) w ho).mono fun en w' ⟨v, hp', he, ho', hs, hq, hseg⟩ => ?_
  subst he
  subst hq
  obtain ⟨A', c', hv, _⟩ := hseg.form
  subst hv
  exact ⟨_, b, _, rfl, k9.Le.refl _, ho', A', c', hs, rfl, rfl, css, List.replicate l.length [], hs, hseg.seg, q5R h2, by simp⟩
def z2S (A : Option Addr) (c j sz : Nat) : Option Addr := if c = j then A else A.map (·.add (j * sz))
theorem z0v {x : Operand} {lo hi : Option Operand} {t el sz : Nat} (j k : Nat) (hx : val e x = some (.slice A l.length c)) (hlo : (lo = none ∧ j = 0) ∨ ∃ q kd i, lo = some q ∧ val e q = some (.int kd i) ∧ i = (j : Int)) (hhi : (hi = none ∧ k = l.length) ∨ ∃ q kd i, hi = some q ∧ val e q = some (.int kd i) ∧ i = (k : Int)) (hjk : j ≤ k) (hkl : k ≤ l.length) (hlc : l.length ≤ c) (h : slT P t el sz = true) :
    Z0 P n b (.slice t x lo hi none) ty e hp (.slice (z2S A c j sz) ((l.take k).drop j).length (c - j)) := fun a w hf _ _ _ _ _ => by
  obtain ⟨h1, inf, h2, h3⟩ := q3U h
  have hlen : ((l.take k).drop j).length = k - j := by simp [Nat.min_eq_left hkl]
  rw [hlen]
  have hkc : k ≤ c := by omega
  unfold z2S
  rcases hlo with ⟨rfl, rfl⟩ | ⟨q, kd, i, rfl, hq, rfl⟩ <;> rcases hhi with ⟨rfl, rfl⟩ | ⟨q', kd', i', rfl, hq', rfl⟩
  · simp [execOp, hf.eval hx, Instr.sliceAt, run_underlying h1, Instr.slice, Instr.sliceBounds, sizeOf, typeInfo, h2]
  · simp [execOp, hf.eval hx, hf.eval hq', Instr.sliceAt, run_underlying h1, Instr.slice, Instr.sliceBounds, Instr.sliceBound, asIntOf, hkc, sizeOf, typeInfo, h2]
  · simp [execOp, hf.eval hx, hf.eval hq, Instr.sliceAt, run_underlying h1, Instr.slice, Instr.sliceBounds, Instr.sliceBound, asIntOf, hjk, sizeOf, typeInfo, h2, h3]
  · simp [execOp, hf.eval hx, hf.eval hq, hf.eval hq', Instr.sliceAt, run_underlying h1, Instr.slice, Instr.sliceBounds, Instr.sliceBound, asIntOf, hjk, hkc, sizeOf, typeInfo, h2, h3]
theorem z9L {w : World} {A : Option Addr} {c j sz i : Nat} (hc : c ≠ j) : q4y w (z2S A c j sz) i = q4y w A (j * sz + i) := by
  unfold z2S
  rw [if_neg hc]
  cases A with
  | none => rfl
  | some p => simp [q4y, q1O]
theorem FZ.sub {r : RT α} {w : World} {sz : Nat} (hsz : r.sz = sz) (h : FZ r w A c l) {j k : Nat} (hjk : j ≤ k) (hkl : k ≤ l.length) : FZ r w (z2S A c j sz) (c - j) ((l.take k).drop j) := by
  subst hsz
  obtain ⟨⟨hl, hc⟩, css, h1, h2⟩ := h
  have hlen : ((l.take k).drop j).length = k - j := by simp [Nat.min_eq_left hkl]
  refine ⟨by omega, (css.take k).drop j, fun i u hu => ?_, (h2.take k).drop j⟩
  have h3 := (h2.take k).drop j
  have hi : i < ((css.take k).drop j).flatten.length := (List.getElem?_eq_some_iff.1 hu).1
  rw [q4O h3, hlen] at hi
  have hne : c ≠ j := by
    intro hcj
    have : k - j = 0 := by omega
    rw [this] at hi
    omega
  rw [z9L hne]
  refine h1 _ u ?_
  have hsp : css.flatten = (css.take j).flatten ++ (((css.take k).drop j).flatten ++ (css.drop k).flatten) := by
    rw [← List.flatten_append, ← List.flatten_append]
    congr 1
    have e1 : (css.take k).drop j ++ css.drop k = css.drop j := by
      rw [List.drop_take]
      have : css.drop k = (css.drop j).drop (k - j) := by rw [List.drop_drop]; congr 1; omega
      rw [this, List.take_append_drop]
    rw [e1, List.take_append_drop]
  have hlj : (css.take j).flatten.length = j * r.sz := by
    rw [q4O (h2.take j), List.length_take, Nat.min_eq_left (by omega)]
  rw [hsp, List.getElem?_append_right (by omega), hlj, Nat.add_sub_cancel_left, List.getElem?_append_left (List.getElem?_eq_some_iff.1 hu).1]
  exact hu
theorem q7A {β : Type} : ∀ {a c : List (List β)}, a.Sublist c → a.flatten.Sublist c.flatten
  | _, _, .slnil => List.Sublist.refl _
  | _, _, .cons x h => (q7A h).trans (Kc x _)
  | _, _, .cons_cons x h => List.Sublist.append_left (q7A h) x
theorem j1T {w : World} {css : List (List Value)} {hss : List Hp} (h : q2z (o.rep w) css l hss) (j k : Nat) : q2z (o.rep w) ((css.take k).drop j) ((l.take k).drop j) ((hss.take k).drop j) := (h.take k).drop j
theorem OS.sub {sz : Nat} (hsz : o.sz = sz) (h : OS el o b.w (.slice A l.length c) l hs) {j k : Nat} (hjk : j ≤ k) (hkl : k ≤ l.length) (hF : j2N j := by first | exact True.intro | (show _ = 0; omega)) : ∃ hs', hs'.Sublist hs ∧ OS el o b.w (.slice (z2S A c j sz) ((l.take k).drop j).length (c - j)) ((l.take k).drop j) hs' := by
  subst hsz
  obtain ⟨css, hss, hq, h1, h2, h3⟩ := h
  have hlen : ((l.take k).drop j).length = k - j := by simp [Nat.min_eq_left hkl]
  have hsub : ((hss.take k).drop j).flatten.Sublist hss.flatten := by
    have e1 : ((hss.take k).drop j).Sublist hss := (List.drop_sublist j _).trans (List.take_sublist k _)
    exact q7A e1
  have h4 := j1T h2 j k
  rcases h1 with ⟨A', hv, hm, hx, hq0⟩ | ⟨g, cap, pr, tl, hv, hq0, hl1, hl2, hmc, hcm⟩
  · injection hv with e1 e2 e3
    subst e3
    refine ⟨[] ++ ((hss.take k).drop j).flatten, by rw [h3]; simpa using hsub.trans (Kc _ _), (css.take k).drop j, (hss.take k).drop j, [], ?_, h4, rfl⟩
    have hk0 : k = 0 := by omega
    subst hk0
    exact .inl ⟨z2S A 0 j o.sz, by simp, by simp, by simp, rfl⟩
  · injection hv with e1 e2 e3
    subst e1
    subst e3
    subst hq0
    have hsp : css.flatten = (css.take j).flatten ++ (((css.take k).drop j).flatten ++ (css.drop k).flatten) := by
      rw [← List.flatten_append, ← List.flatten_append]
      congr 1
      have e1 : (css.take k).drop j ++ css.drop k = css.drop j := by
        rw [List.drop_take]
        have : css.drop k = (css.drop j).drop (k - j) := by rw [List.drop_drop]; congr 1; omega
        rw [this, List.take_append_drop]
      rw [e1, List.take_append_drop]
    have hlj : (css.take j).flatten.length = j * o.sz := q2Q h2 j (by omega)
    have hls := (q3G h4).1
    rw [hlen] at hls
    by_cases hcj : c = j
    ·
      subst hcj
      have hkj : k = c := by omega
      subst hkj
      refine ⟨[] ++ ((hss.take k).drop k).flatten, by rw [h3]; simp, (css.take k).drop k, (hss.take k).drop k, [], ?_, h4, rfl⟩
      refine .inl ⟨z2S (some ⟨g, pr.length, none⟩) k k o.sz, ?_, by rw [hlen]; omega, ?_, rfl⟩
      · rw [hlen]; simp
      · rw [List.drop_take]; simp
    · refine ⟨[(g, Cl el (pr ++ css.flatten ++ tl))] ++ ((hss.take k).drop j).flatten, by rw [h3]; exact List.Sublist.append_left hsub _, (css.take k).drop j, (hss.take k).drop j, [(g, Cl el (pr ++ css.flatten ++ tl))], ?_, h4, rfl⟩
      refine .inr ⟨g, c - j, pr ++ (css.take j).flatten, (css.drop k).flatten ++ tl, ?_, ?_, ?_, ?_, by rw [hlen]; omega, by omega, hcm.2.sub hF (fun e => by subst e; rfl)⟩
      · unfold z2S
        rw [if_neg hcj]
        simp [Addr.add_lit, hlj]
      · rw [hsp]; simp
      · rw [hls, hlen]
      · have hl3 := (q3G h2).1
        rw [List.length_append] at hl2 ⊢
        rw [hsp] at hl2
        simp only [List.length_append] at hl2 ⊢
        rw [hlj] at hl2
        rw [Nat.sub_mul]
        omega
theorem j4k {w : World} {g : Nat} {t : TypeId} {cs : List Value} (h : w.heap[g]? = some (Cl t cs)) (i : Nat) (u : Value) (hu : cs[i]? = some u) : w.cell? ((⟨g, 0, none⟩ : Addr).add i) = some u := by
  rw [Addr.add_lit]
  simp [World.cell?, h, hu]
theorem j0o {b b' : k9} {p : Addr} {cs : List Value} (h : ∀ (i : Nat) (u : Value), cs[i]? = some u → b.w.cell? (p.add i) = some u) (hle : b.Le b') (i : Nat) (u : Value) (hu : cs[i]? = some u) : b'.w.cell? (p.add i) = some u := hle.cells _ _ (h i u hu)
theorem q4j {x : Operand} {t f off k : Nat} {p : Addr} (hx : val e x = some (.pointer (some (p.add k)))) (h : q0Q P t f off = true) : Z0 P n b (.fieldAddr t x f) ty e hp (.pointer (some (p.add (k + off)))) := fun a w hf _ _ _ _ _ => by
  obtain ⟨fs, fd, h1, h2, h3⟩ := q4U h (p.add k) w
  simp [execOp, hf.eval hx, Instr.fieldAt, run_underlying h1, h2, Instr.sureAddr, h3, q1O]
theorem z0x (k : Nat) {x : Operand} {t : TypeId} {p : Addr} {q : Nat} {vs : List Value} (hx : val e x = some (.pointer (some (p.add q)))) (ht : q9Q P t k = true) (hl : vs.length = k) (hv : ∀ (j : Nat) (u : Value), vs[j]? = some u → b.w.cell? (p.add (q + j)) = some u) :
    Z0 P n b (.load t x) ty e hp (.agg vs.toArray) := fun a w hf ho _ _ _ _ => by
  have hc := run_loadCells_list (P := P) w (p.add q) vs (fun j u hu => by rw [q1O]; exact ho.old (hv j u hu))
  rw [hl] at hc
  simp [execOp, hf.eval hx, Instr.loadAt, Instr.sureAddr, loadVar, q1R ht, Fp.run_sizeOf (q8N ht), hc]
end
end Go.Fp
namespace Go.Fp
open Go.RowKit
def j6l (s : ByteArray) (i : Int) : Option Int := if 0 ≤ i then (s[i.toNat]?).map (fun b => (b.toNat : Int)) else none
def j3p (s : ByteArray) (i j : Int) : Option ByteArray := if 0 ≤ i ∧ i ≤ j ∧ j ≤ (s.size : Int) then some (s.extract i.toNat j.toNat) else none
def sEq (s t : ByteArray) : Bool := s.toList == t.toList
def z5j (k : IntKind) (x y : Int) : Int := k.wrap (BitVec.ofInt k.bits x ^^^ BitVec.ofInt k.bits y).toNat
def j3h (P : Program) (t : TypeId) : Bool := match P.underlying t with
 | some .string => true
 | _ => false
theorem q4h {P : Program} {t : TypeId} (h : j3h P t = true) : P.underlying t = some .string := by
 unfold j3h at h
 split at h
 ·assumption
 ·cases h
def j6m (P : Program) (t : TypeId) (k : IntKind) : Bool := match P.underlying t with
 | some (.int k') => k' == k
 | _ => false
theorem z9q {P : Program} {t : TypeId} {k : IntKind} (h : j6m P t k = true) : P.underlying t = some (.int k) := by
 unfold j6m at h
 split at h
 ·rename_i k' hk
  have : k' = k := by simpa using h
  subst this
  exact hk
 ·cases h
section
variable {P : Program} {n : NT} {m : Nat} {dk0 : Hp} {rq : Option Nat} {b : k9} {e : Env} {hp : Hp} {ty : TypeId}
theorem q2b {x : Operand} {t : TypeId} {s : ByteArray} (hx : val e x = some (.string s)) (h : j3h P t = true) : Z0 P n b (.call { callee := .builtin .len, args := #[x], argTypes := #[t] }) ty e hp (.int .i64 (s.size : Int)) := fun a w hf _ _ _ _ _ => by
 simp [execOp, resolve, invoke, builtin, hf.eval hx, Builtin.len_, run_underlying (q4h h), goInt]
theorem z8x {x ix : Operand} {t : TypeId} {s : ByteArray} {k : IntKind} {i r : Int} (hx : val e x = some (.string s)) (hix : val e ix = some (.int k i)) (hi : j6l s i = some r) (h : j3h P t = true) : Z0 P n b (.index t x ix) ty e hp (.int .u8 r) := fun a w hf _ _ _ _ _ => by
 unfold j6l at hi
 split at hi
 ·rename_i h0
  cases hs : s[i.toNat]? with
  | none => rw [hs] at hi; cases hi
  | some c =>
   rw [hs] at hi
   simp only [Option.map_some, Option.some.injEq] at hi
   subst hi
   simp [execOp, hf.eval hx, hf.eval hix, Instr.index, asIntOf, run_underlying (q4h h), h0, hs]
 ·cases hi
theorem z0u {x : Operand} {lo hi : Option Operand} {t : TypeId} {s r : ByteArray} {i j : Int} (hx : val e x = some (.string s)) (hlo : (lo = none ∧ i = 0) ∨ ∃ q kd, lo = some q ∧ val e q = some (.int kd i)) (hhi : (hi = none ∧ j = (s.size : Int)) ∨ ∃ q kd, hi = some q ∧ val e q = some (.int kd j)) (hc : j3p s i j = some r) (h : j3h P t = true) :
  Z0 P n b (.slice t x lo hi none) ty e hp (.string r) := fun a w hf _ _ _ _ _ => by
 unfold j3p at hc
 split at hc
 ·rename_i h0
  obtain ⟨h1, h2, h3⟩ := h0
  injection hc with hc
  subst hc
  have h4 : 0 ≤ j := by omega
  have h5 : i.toNat ≤ j.toNat := by omega
  have h6 : j.toNat ≤ s.size := by omega
  have h7 : i ≤ (j.toNat : Int) := by omega
  rcases hlo with ⟨rfl, rfl⟩ | ⟨q, kd, rfl, hq⟩ <;> rcases hhi with ⟨rfl, rfl⟩ | ⟨q', kd', rfl, hq'⟩
  ·simp [execOp, hf.eval hx, Instr.sliceAt, run_underlying (q4h h), Instr.slice, Instr.sliceBounds]
  ·simp [execOp, hf.eval hx, hf.eval hq', Instr.sliceAt, run_underlying (q4h h), Instr.slice, Instr.sliceBounds, Instr.sliceBound, asIntOf, h4, h3]
  ·simp [execOp, hf.eval hx, hf.eval hq, Instr.sliceAt, run_underlying (q4h h), Instr.slice, Instr.sliceBounds, Instr.sliceBound, asIntOf, h1, h2]
  ·simp [execOp, hf.eval hx, hf.eval hq, hf.eval hq', Instr.sliceAt, run_underlying (q4h h), Instr.slice, Instr.sliceBounds, Instr.sliceBound, asIntOf, h1, h4, h3]
   intro hlt
   omega
 ·cases hc
theorem z0t {x y : Operand} {t u : TypeId} {s r : ByteArray} (hx : val e x = some (.string s)) (hy : val e y = some (.string r)) : Z0 P n b (.binOp .eql t x y u) ty e hp (.bool (sEq s r)) := fun a w hf _ _ _ _ _ => by
 simp only [execOp, hf.eval hx, hf.eval hy, eqGuard, binOp, Op.stringOp, sEq]
 simp
theorem j4A {x y : Operand} {t u : TypeId} {k : IntKind} {i j : Int} (hx : val e x = some (.int k i)) (hy : val e y = some (.int k j)) : Z0 P n b (.binOp .xor t x y u) ty e hp (.int k (z5j k i j)) := fun a w hf _ _ _ _ _ => by
 simp [execOp, hf.eval hx, hf.eval hy, eqGuard, binOp, Op.intBits, z5j]
end
end Go.Fp
namespace Go.Fp
open Go.RowKit
def j6p (P : Program) (t m el sz : Nat) : Bool := (match P.underlying t with
 | some (.array k x) => Nat.beq k m && Nat.beq x el
 | _ => false) && q6d P el sz
theorem j0q {P : Program} {t m el sz : Nat} (h : j6p P t m el sz = true) : P.underlying t = some (.array m el) ∧ q6d P el sz = true := by
 unfold j6p at h
 simp only [Bool.and_eq_true] at h
 obtain ⟨h1, h2⟩ := h
 split at h1
 ·rename_i k x hx
  simp only [Bool.and_eq_true] at h1
  have e1 : k = m := Nat.eq_of_beq_eq_true h1.1
  have e2 : x = el := Nat.eq_of_beq_eq_true h1.2
  subst e1; subst e2
  exact ⟨hx, h2⟩
 ·cases h1
theorem z6a (a c : Int) : (a == c) = decide (a = c) := rfl
section
variable {P : Program} {n : NT} {m : Nat} {dk0 : Hp} {rq : Option Nat} {b : k9} {e : Env} {hp : Hp} {ty : TypeId}
theorem z2V (j : Nat) {x ix : Operand} {t m el : Nat} {kd : IntKind} {i : Int} {cs : List Value} {v : Value} (hx : val e x = some (.agg cs.toArray)) (hix : val e ix = some (.int kd i)) (hj : i = (j : Int)) (hlt : j < m)
  (hv : cs[j * 1 + 0]? = some v) (ha : j6p P t m el 1 = true) (ho : q5B P el = true) : Z0 P n b (.index t x ix) ty e hp v := fun a w hf _ _ _ _ _ => by
 obtain ⟨hu, hs⟩ := j0q ha
 subst hj
 have h0 : (0 : Int) ≤ (j : Int) ∧ (j : Int) < (m : Int) := by omega
 simp only [Nat.mul_one, Nat.add_zero] at hv
 simp [execOp, hf.eval hx, hf.eval hix, Instr.index, asIntOf, run_underlying hu, hlt, part, q1Q ho, run_sizeOf hs, hv]
end
inductive q5b where
 | int (k : IntKind)
 | bool
 | str
def q5b.ok : q5b → Value → Prop
 | .int k, v => ∃ x, v = .int k x
 | .bool, v => ∃ x, v = .bool x
 | .str, v => ∃ x, v = .string x
def q4s : Value → Value → Bool
 | .int _ a, .int _ c => a == c
 | .bool a, .bool c => a == c
 | .string a, .string c => a.toList == c.toList
 | _, _ => false
def H7 : List Value → List Value → Bool
 | [], [] => true
 | a :: r, c :: s => q4s a c && H7 r s
 | _, _ => false
theorem q4Y : ∀ {a c r s : List Value}, a.length = c.length → H7 (a ++ r) (c ++ s) = (H7 a c && H7 r s)
 | [], [], _, _, _ => by simp [H7]
 | x :: a, y :: c, r, s, h => by
  have := q4Y (a := a) (c := c) (r := r) (s := s) (by simpa using h)
  simp only [List.cons_append, H7, this, Bool.and_assoc]
 | [], _ :: _, _, _, h => by simp at h
 | _ :: _, [], _, _, h => by simp at h
def q9f (f : TypeId → Option (List q5b)) : Nat → List Field → Option (List q5b)
 | _, [] => some []
 | off, fd :: r => if fd.name = "_" ∨ fd.offset ≠ off then none else match f fd.type with
  | some l => (q9f f (off + l.length) r).map (l ++ ·)
  | none => none
def q2U (P : Program) : Nat → TypeId → Option (List q5b)
 | 0, _ => none
 | d + 1, t => match P.underlying t with
  | some .bool => if q6d P t 1 then some [.bool] else none
  | some (.int k) => if q6d P t 1 then some [.int k] else none
  | some .string => if q6d P t 1 then some [.str] else none
  | some (.struct fs) => if P.stoodInHeld t then none else match q9f (q2U P d) 0 fs.toList with
   | some l => if q6d P t l.length then some l else none
   | none => none
  | some (.array m x) => match q2U P d x with
   | some l => if q6d P t (m * l.length) then some (List.replicate m l).flatten else none
   | none => none
  | _ => none
def q9B (P : Program) (t : TypeId) : Bool := match P.underlying t with
 | some (.struct _) => true
 | some (.array _ _) => true
 | _ => false
def mkV (P : Program) (t : TypeId) (xs : List Value) : Value := if q9B P t then .agg xs.toArray else xs.headD undef
theorem q9e {P : Program} {d : Nat} {t : TypeId} {L : List q5b} (h : q2U P d t = some L) : q6d P t L.length = true := by
 cases d with
 | zero => cases h
 | succ d =>
  unfold q2U at h
  split at h
  ·split at h
   ·injection h with h; subst h; assumption
   ·cases h
  ·split at h
   ·injection h with h; subst h; assumption
   ·cases h
  ·split at h
   ·injection h with h; subst h; assumption
   ·cases h
  ·split at h
   ·cases h
   ·split at h
    ·split at h
     ·injection h with h; subst h; assumption
     ·cases h
    ·cases h
  ·rename_i m x hu
   split at h
   ·rename_i l hl
    split at h
    ·rename_i hs
     injection h with h
     subst h
     have : (List.replicate m l).flatten.length = m * l.length := by simp
     rw [this]
     exact hs
    ·cases h
   ·cases h
  ·cases h
theorem z7O {P : Program} {d : Nat} {t : TypeId} {L : List q5b} (h : q2U P d t = some L) (hg : q9B P t = false) : L.length = 1 ∧ q5B P t = true := by
 cases d with
 | zero => cases h
 | succ d =>
  unfold q2U at h
  unfold q9B at hg
  split at h
  ·rename_i hu
   split at h
   ·injection h with h; subst h; exact ⟨rfl, by simp [q5B, hu]⟩
   ·cases h
  ·rename_i k hu
   split at h
   ·injection h with h; subst h; exact ⟨rfl, by simp [q5B, hu]⟩
   ·cases h
  ·rename_i hu
   split at h
   ·injection h with h; subst h; exact ⟨rfl, by simp [q5B, hu]⟩
   ·cases h
  ·rename_i fs hu
   rw [hu] at hg
   cases hg
  ·rename_i m x hu
   rw [hu] at hg
   cases hg
  ·cases h
theorem q0S {P : Program} {d : Nat} {t : TypeId} {L : List q5b} (h : q2U P d t = some L) {pr xs po : List Value} (hl : xs.length = L.length) (w : World) : (part t (pr ++ xs ++ po).toArray pr.length).run P w = .ok (mkV P t xs) w := by
 have hs := q9e h
 by_cases hg : q9B P t = true
 ·have ha : q9Q P t L.length = true := by
   unfold q9Q
   unfold q9B at hg
   rw [hs, Bool.and_true]
   split at hg <;> simp_all
  simp only [part, Sem.run_bind, q1R ha, Result.andThen_ok, run_sizeOf hs, if_true, mkV, hg]
  have : (pr ++ xs ++ po).toArray.extract pr.length (pr.length + L.length) = xs.toArray := by
   apply Array.ext'
   rw [Array.toList_extract]
   simp only [List.extract_eq_take_drop]
   rw [← hl]
   simp
  rw [this]
  rfl
 ·have hg' : q9B P t = false := by simpa using hg
  obtain ⟨h1, h2⟩ := z7O h hg'
  match xs, hl.trans h1 with
  | [x], _ =>
   simp [part, q1Q h2, mkV, hg']
theorem q4F {P : Program} : ∀ (d : Nat) (t : TypeId) (L : List q5b), q2U P d t = some L → ∀ (k : Nat) (xs ys : List Value), P3 q5b.ok L xs → P3 q5b.ok L ys → ∀ w, (Op.equalIn (d + k) t (mkV P t xs) (mkV P t ys)).run P w = .ok (H7 xs ys) w
 | 0, _, _, h, _, _, _, _, _, _ => by cases h
 | d + 1, t, L, h, k, xs, ys, hx, hy, w => by
  have hk : d + 1 + k = (d + k) + 1 := by omega
  rw [hk]
  have h' := h
  unfold q2U at h
  split at h
  ·rename_i hu
   split at h
   ·injection h with h
    subst h
    match xs, ys, hx, hy with
    | [_], [_], ⟨⟨a, rfl⟩, _⟩, ⟨⟨c, rfl⟩, _⟩ => simp [mkV, q9B, hu, H7, q4s, run_equalIn_bool' w (d + k) t a c hu]
   ·cases h
  ·rename_i q hu
   split at h
   ·injection h with h
    subst h
    match xs, ys, hx, hy with
    | [_], [_], ⟨⟨a, rfl⟩, _⟩, ⟨⟨c, rfl⟩, _⟩ => simp [mkV, q9B, hu, H7, q4s, run_equalIn_int w (d + k) t q q a c hu]
   ·cases h
  ·rename_i hu
   split at h
   ·injection h with h
    subst h
    match xs, ys, hx, hy with
    | [_], [_], ⟨⟨a, rfl⟩, _⟩, ⟨⟨c, rfl⟩, _⟩ => simp [mkV, q9B, hu, H7, q4s, run_equalIn_string w (d + k) t a c hu]
   ·cases h
  ·rename_i fs hu
   split at h
   ·cases h
   ·rename_i hst
    have hst' : P.stoodInHeld t = false := by simpa using hst
    split at h
    ·rename_i l hl
     split at h
     ·injection h with h
      subst h
      have hfo : P.fieldsOf t = fs := by simp [Program.fieldsOf, hu]
      have hm : q9B P t = true := by simp [q9B, hu]
      simp only [mkV, hm, if_true]
      rw [run_equalIn_struct w (d + k) t _ _ (by rw [hfo]; exact hu) hst', hfo]
      have key : ∀ (gs : List Field) (M : List q5b) (px py ux uy : List Value), q9f (q2U P d) px.length gs = some M → px.length = py.length → P3 q5b.ok M ux → P3 q5b.ok M uy →
        (Op.eqFields (d + k) (px ++ ux).toArray (py ++ uy).toArray gs).run P w = .ok (H7 ux uy) w := by
       intro gs
       induction gs with
       | nil =>
        intro M px py ux uy hM _ h1 h2
        injection hM with hM
        subst hM
        match ux, uy, h1, h2 with
        | [], [], _, _ => simp [Op.eqFields, H7]
       | cons f gs ih =>
        intro M px py ux uy hM hpl h1 h2
        unfold q9f at hM
        split at hM
        ·cases hM
        ·rename_i hnf
         have hn1 : f.name ≠ "_" := fun hh => hnf (.inl hh)
         have hn2 : f.offset = px.length := by
          rcases Nat.decEq f.offset px.length with hh | hh
          ·exact absurd (Or.inr hh) hnf
          ·exact hh
         split at hM
         ·rename_i lf hlf
          simp only [Option.map_eq_some_iff] at hM
          obtain ⟨M', hM', rfl⟩ := hM
          have e1 := h1.length
          have e2 := h2.length
          rw [List.length_append] at e1 e2
          have hux : ux = ux.take lf.length ++ ux.drop lf.length := (List.take_append_drop _ _).symm
          have huy : uy = uy.take lf.length ++ uy.drop lf.length := (List.take_append_drop _ _).symm
          have l1 : (ux.take lf.length).length = lf.length := by simp; omega
          have l2 : (uy.take lf.length).length = lf.length := by simp; omega
          have a1 : P3 q5b.ok lf (ux.take lf.length) := by have := h1.take lf.length; simpa using this
          have a2 : P3 q5b.ok lf (uy.take lf.length) := by have := h2.take lf.length; simpa using this
          have b1 : P3 q5b.ok M' (ux.drop lf.length) := by have := h1.drop lf.length; simpa using this
          have b2 : P3 q5b.ok M' (uy.drop lf.length) := by have := h2.drop lf.length; simpa using this
          generalize ux.take lf.length = u1 at *
          generalize ux.drop lf.length = v1 at *
          generalize uy.take lf.length = u2 at *
          generalize uy.drop lf.length = v2 at *
          subst hux
          subst huy
          have p1 := q0S (P := P) hlf (pr := px) (xs := u1) (po := v1) l1 w
          have p2 := q0S (P := P) hlf (pr := py) (xs := u2) (po := v2) l2 w
          rw [← hpl] at p2
          have p3 := q4F d f.type lf hlf k u1 u2 a1 a2 w
          have p4 := ih M' (px ++ u1) (py ++ u2) v1 v2 (by rw [List.length_append, l1]; exact hM') (by simp [hpl, l1, l2]) b1 b2
          simp only [List.append_assoc] at p1 p2 p4
          simp only [Op.eqFields, hn1, ne_eq, not_false_eq_true, if_true, Sem.run_bind, hn2, p1, p2, p3, Result.andThen_ok, Sem.run_ite]
          rw [q4Y (by omega)]
          cases hq : H7 u1 u2
          ·simp
          ·simpa using p4
         ·cases hM
      have := key fs.toList l [] [] xs ys hl rfl hx hy
      simpa using this
     ·cases h
    ·cases h
  ·rename_i m x hu
   split at h
   ·rename_i l hl
    split at h
    ·injection h with h
     subst h
     have hm : q9B P t = true := by simp [q9B, hu]
     simp only [mkV, hm, if_true]
     have hsz := q9e hl
     simp only [Op.equalIn, Sem.run_bind, run_underlying hu, Result.andThen_ok, run_sizeOf hsz]
     have key : ∀ (q i : Nat) (px py ux uy : List Value), px.length = i * l.length → py.length = i * l.length → P3 q5b.ok (List.replicate q l).flatten ux → P3 q5b.ok (List.replicate q l).flatten uy →
       Sem.run P ((forIn (List.range' i q) (none, ()) (fun (j : Nat) (r : Option Bool × Unit) => do
        let a ← part x (px ++ ux).toArray (j * l.length)
        let c ← part x (py ++ uy).toArray (j * l.length)
        let s ← Op.equalIn (d + k) x a c
        if (!s) = true then pure (ForInStep.done (some false, ())) else pure (ForInStep.yield (none, ()))) : Sem (Option Bool × Unit))) w = .ok ((if H7 ux uy = true then none else some false), ()) w := by
      intro q
      induction q with
      | zero =>
       intro i px py ux uy _ _ h1 h2
       match ux, uy, h1, h2 with
       | [], [], _, _ => simp [H7]
      | succ q ih =>
       intro i px py ux uy e1 e2 h1 h2
       rw [List.replicate_succ, List.flatten_cons] at h1 h2
       have q1 := h1.length
       have q2 := h2.length
       rw [List.length_append] at q1 q2
       have hux : ux = ux.take l.length ++ ux.drop l.length := (List.take_append_drop _ _).symm
       have huy : uy = uy.take l.length ++ uy.drop l.length := (List.take_append_drop _ _).symm
       have l1 : (ux.take l.length).length = l.length := by simp; omega
       have l2 : (uy.take l.length).length = l.length := by simp; omega
       have a1 : P3 q5b.ok l (ux.take l.length) := by have := h1.take l.length; simpa using this
       have a2 : P3 q5b.ok l (uy.take l.length) := by have := h2.take l.length; simpa using this
       have b1 : P3 q5b.ok (List.replicate q l).flatten (ux.drop l.length) := by have := h1.drop l.length; simpa using this
       have b2 : P3 q5b.ok (List.replicate q l).flatten (uy.drop l.length) := by have := h2.drop l.length; simpa using this
       generalize ux.take l.length = u1 at *
       generalize ux.drop l.length = v1 at *
       generalize uy.take l.length = u2 at *
       generalize uy.drop l.length = v2 at *
       subst hux
       subst huy
       have p1 := q0S (P := P) hl (pr := px) (xs := u1) (po := v1) l1 w
       have p2 := q0S (P := P) hl (pr := py) (xs := u2) (po := v2) l2 w
       rw [e1] at p1
       rw [e2] at p2
       have p3 := q4F d x l hl k u1 u2 a1 a2 w
       have p4 := ih (i + 1) (px ++ u1) (py ++ u2) v1 v2 (by rw [List.length_append, l1, e1, Nat.add_mul]; omega) (by rw [List.length_append, l2, e2, Nat.add_mul]; omega) b1 b2
       simp only [List.append_assoc] at p1 p2 p4
       rw [List.range'_succ, List.forIn_cons]
       rw [q4Y (by omega)]
       simp only [Sem.run_bind, p1, p2, p3, Result.andThen_ok, Sem.run_ite] at p4 ⊢
       cases hq : H7 u1 u2
       ·simp
       ·simpa using p4
     have hk2 := key m 0 [] [] xs ys (by simp) (by simp) hx hy
     simp only [List.nil_append] at hk2
     simp only [Std.Legacy.Range.forIn_eq_forIn_range', Std.Legacy.Range.size, Nat.sub_zero, Nat.add_sub_cancel, Nat.div_one]
     rw [hk2]
     cases H7 xs ys <;> simp
    ·cases h
   ·cases h
  ·cases h
section
variable {P : Program} {n : NT} {m : Nat} {dk0 : Hp} {rq : Option Nat} {b : k9} {e : Env} {hp : Hp} {ty : TypeId}
def eqT (P : Program) (t : TypeId) (L : List q5b) : Prop := q2U P 9 t = some L ∧ q9B P t = true ∧ P.eqGuardType P.depth t = false
theorem j3j {x y : Operand} {t u : TypeId} {L : List q5b} {xs ys : List Value} {p : Prop} [Decidable p] (hx : val e x = some (.agg xs.toArray)) (hy : val e y = some (.agg ys.toArray)) (ht : eqT P t L) (h1 : P3 q5b.ok L xs) (h2 : P3 q5b.ok L ys) (hp' : H7 xs ys = decide p) :
  Z0 P n b (.binOp .eql t x y u) ty e hp (.bool (decide p)) := fun a w hf _ _ _ _ _ => by
 obtain ⟨q1, q2, q3⟩ := ht
 have := q4F 9 t L q1 9991 xs ys h1 h2 w
 simp only [mkV, q2, if_true] at this
 simp only [execOp, hf.eval hx, hf.eval hy, Sem.run_bind, run_eqGuard_agg w .eql t x y _ _ q3, Result.andThen_ok, run_eql_struct, this, hp', Sem.run_pure]
theorem z3V {f : FuncId} {fn : Func} {ef : Array Value → Sem Value} {xs : Array Operand} {ts : Array TypeId} {vs : List Value} {v : Value} (hf : P.funcs[f]? = some fn) (hname : (fn.name == "runtime.NumGoroutine") = false) (hb : fn.body.isNone = true) (hn : Extern.findNext fn = none) (he : Extern.find fn = some ef)
  (hv : z5a e xs.toList = some vs) (hr : ∀ w, (ef vs.toArray).run P w = .ok v w) : Z0 P n b (.call { callee := .value (.func f), args := xs, argTypes := ts }) ty e hp v := fun a w hfit _ d pos af g => by
 have hargs : xs.map a.eval = vs.toArray := Array.ext' (by rw [Array.toList_map]; exact hfit.evals hv)
 have h0 := run_callFunc_extern hf hname hb hn he vs.toArray w
 rw [hr w] at h0
 simp only [execOp, resolve, Act.eval, Deferred.ofValue, hargs, Sem.run_bind, Sem.run_pure, Result.andThen_ok, invoke]
 simpa using h0
def j2j (s : ByteArray) (c : Int) : Int := (Lib.countByte s.data.toList c.toNat.toUInt8 : Nat)
def j2i (s : ByteArray) (c : Int) : Int := Lib.indexByte s.data.toList c.toNat.toUInt8
theorem z7w (s : ByteArray) (c : Int) (w : World) : (Extern.BytealgCount.count #[.string s, .int .u8 c]).run P w = .ok (.int .i64 (j2j s c)) w := Lib.run_countString s c w
theorem z7v (s : ByteArray) (c : Int) (w : World) : (Extern.BytealgIndexByte.indexByte #[.string s, .int .u8 c]).run P w = .ok (.int .i64 (j2i s c)) w := Lib.run_indexByteString s c w
end
end Go.Fp
namespace Go.Fp
open Go.RowKit
def q2a (s : ByteArray) : List Int := s.data.toList.map (fun b => (b.toNat : Int))
theorem q7V (s : ByteArray) : (q2a s).length = s.size := by simp [q2a]
theorem z5I (w : World) (need old : Nat) (e : TypeId) (h : need ≤ 9223372036854775807) : need ≤ grownCap w need old e ∧ grownCap w need old e ≤ 9223372036854775807 := by
 unfold grownCap
 simp only [Question.cut]
 have h2 : (2 : Nat) ^ 63 - need > 0 := by
  have : (2 : Nat) ^ 63 = 9223372036854775808 := by decide
  omega
 have := Nat.mod_lt (w.tape w.drawn (.appendCap need old e)) h2
 have h3 : (2 : Nat) ^ 63 = 9223372036854775808 := by decide
 omega
theorem j1S {w : World} {g el cap : Nat} {s : ByteArray} {fr : Nat × Nat} {tl : List Value} (hb : w.heap[g]? = some (.cells ((q2a s).map (Value.int .u8) ++ tl).toArray el fr)) (hc : s.size ≤ cap) (hm : cap ≤ 9223372036854775807) : FZ (RT.int .u8) w (some ⟨g, 0, none⟩) cap (q2a s) := by
 refine ⟨by rw [q7V]; omega, (q2a s).map (fun x => [Value.int .u8 x]), fun j u hu => ?_, ?_⟩
 ·have hf : ((q2a s).map (fun x => [Value.int .u8 x])).flatten = (q2a s).map (Value.int .u8) := by
   induction q2a s with
   | nil => rfl
   | cons a r ih => simp [ih]
  rw [hf] at hu
  have hlt := (List.getElem?_eq_some_iff.1 hu).1
  simp only [q4y, Ka, Addr.add]
  split
  ·rename_i h0
   subst h0
   simp only [World.cell?, hb, List.getElem?_toArray]
   rw [List.getElem?_append_left hlt]
   exact hu
  ·simp only [World.cell?, hb, List.getElem?_toArray, Nat.zero_add]
   rw [List.getElem?_append_left hlt]
   exact hu
 ·induction q2a s with
  | nil => trivial
  | cons a r ih => exact ⟨rfl, ih⟩
section
variable {P : Program} {n : NT} {m : Nat} {dk0 : Hp} {rq : Option Nat} {b : k9} {e : Env} {hp : Hp} {ty : TypeId}
theorem j3c {x : Operand} {t u el : TypeId} {s : ByteArray} (hx : val e x = some (.string s)) (ht : j3h P t = true) (hu : slT P u el 1 = true) (he : j6m P el .u8 = true) (hs : (s.size : Int) ≤ 9223372036854775807) :
  q5c P n b (.convert t u x) ty e hp (fun v hp' => ∃ g cap tl fr, v = .slice (some ⟨g, 0, none⟩) (q2a s).length cap ∧ hp' = (g, .cells ((q2a s).map (Value.int .u8) ++ tl).toArray el fr) :: hp ∧ s.size ≤ cap ∧ cap ≤ 9223372036854775807) := q4u fun a w hf ho => by
 obtain ⟨h1, _⟩ := q3U hu
 have hr := run_bytes_of_string (P := P) w t u el s (q4h ht) h1 (z9q he)
 have hbd := z5I w s.size 0 el (by omega)
 have hrow : bytesRow s (grownCap w s.size 0 el) = ((q2a s).map (Value.int .u8) ++ List.replicate (grownCap w s.size 0 el - s.size) (Value.int .u8 0)).toArray := by
  apply Array.ext'
  simp [bytesRow, q2a]
 refine ⟨_, w.drew.alloc (.cells (bytesRow s (grownCap w s.size 0 el)) el ((bytesRow s (grownCap w s.size 0 el)).size, (bytesRow s (grownCap w s.size 0 el)).size + 1)), _, fun d pos af g => ?_, ?_, w.heap.size, grownCap w s.size 0 el, List.replicate (grownCap w s.size 0 el - s.size) (.int .u8 0), ((bytesRow s (grownCap w s.size 0 el)).size, (bytesRow s (grownCap w s.size 0 el)).size + 1), rfl, rfl, hbd.1, hbd.2⟩
 ·simp only [execOp, hf.eval hx, Sem.run_bind, hr, Result.andThen_ok, Sem.run_pure, q7V]
 ·rw [← hrow]
  exact ho.drew.alloc _
theorem Z8 {x : Operand} {A : Option Addr} {k : Nat} (hx : val e x = some (.pointer (A.map (·.add k)))) (hA : A.isSome = true) : Z0 P n b (.nilCheck x) ty e hp (.pointer (A.map (·.add k))) := fun a w hf ho d pos af g => by
 cases A with
 | none => cases hA
 | some p => exact z2j (n := n) (w0 := b) (hp := hp) (ty := ty) (A := p.add k) hx a w hf ho d pos af g
end
end Go.Fp
namespace Go.Fp
open Go.RowKit
section
variable {κ ν : Type} [DecidableEq κ]
def J4 : List (κ × ν) → κ → Option ν
 | [], _ => none
 | (a, b) :: r, k => if a = k then some b else J4 r k
def X7 : List (κ × ν) → κ → ν → List (κ × ν)
 | [], k, v => [(k, v)]
 | (a, b) :: r, k, v => if a = k then (k, v) :: r else (a, b) :: X7 r k v
def q0D (l : List (κ × ν)) (k : κ) (z : ν) : ν := (J4 l k).getD z
def j2p (l : List (κ × ν)) (k : κ) : Bool := (J4 l k).isSome
theorem J0 (l : List (κ × ν)) (k : κ) (v : ν) : J4 (X7 l k v) k = some v := by
 induction l with
 | nil => simp [X7, J4]
 | cons p r ih =>
  obtain ⟨a, b⟩ := p
  unfold X7
  split
  ·simp [J4]
  ·rename_i h; simp [J4, h, ih]
theorem Z5 (l : List (κ × ν)) {k k' : κ} (v : ν) (hk : k' ≠ k) : J4 (X7 l k v) k' = J4 l k' := by
 induction l with
 | nil => simp [X7, J4, Ne.symm hk]
 | cons p r ih =>
  obtain ⟨a, b⟩ := p
  unfold X7
  split
  ·rename_i h; subst h; simp [J4, Ne.symm hk]
  ·simp only [J4, ih]
theorem z9c (l : List (κ × ν)) (k : κ) (v : ν) (x : κ) : x ∈ (X7 l k v).map (·.1) ↔ x = k ∨ x ∈ l.map (·.1) := by
 induction l with
 | nil => simp [X7]
 | cons p r ih =>
  obtain ⟨a, b⟩ := p
  unfold X7
  split
  ·rename_i h; subst h; simp
  ·simp only [List.map_cons, List.mem_cons, ih]
   constructor
   ·rintro (h | h | h)
    ·exact .inr (.inl h)
    ·exact .inl h
    ·exact .inr (.inr h)
   ·rintro (h | h | h)
    ·exact .inr (.inl h)
    ·exact .inl h
    ·exact .inr (.inr h)
theorem q8Z (l : List (κ × ν)) (k : κ) (v : ν) (h : (l.map (·.1)).Nodup) : ((X7 l k v).map (·.1)).Nodup := by
 induction l with
 | nil => simp [X7]
 | cons p r ih =>
  obtain ⟨a, b⟩ := p
  simp only [List.map_cons, List.nodup_cons] at h
  unfold X7
  split
  ·rename_i he; subst he; simpa using h
  ·rename_i he
   simp only [List.map_cons, List.nodup_cons]
   refine ⟨fun hm => ?_, ih h.2⟩
   rcases (z9c r k v a).1 hm with hh | hh
   ·exact he hh
   ·exact h.1 hh
def z5L : List (κ × ν) → κ → Nat → Option Nat
 | [], _, _ => none
 | (a, _) :: r, k, i => if a = k then some i else z5L r k (i + 1)
theorem q8i : ∀ (l : List (κ × ν)) (k : κ) (i : Nat), z5L l k i = none → J4 l k = none ∧ (∀ v, X7 l k v = l ++ [(k, v)]) ∧ ∀ p ∈ l, p.1 ≠ k
 | [], _, _, _ => ⟨rfl, fun _ => rfl, by simp⟩
 | (a, b) :: r, k, i, h => by
  unfold z5L at h
  split at h
  ·cases h
  ·rename_i hne
   obtain ⟨h1, h2, h3⟩ := q8i r k (i + 1) h
   refine ⟨by simp [J4, hne, h1], fun v => by simp [X7, hne, h2], fun p hp => ?_⟩
   rcases List.mem_cons.1 hp with rfl | hp
   ·exact hne
   ·exact h3 p hp
theorem q5l : ∀ (l : List (κ × ν)) (k : κ) (i q : Nat), z5L l k i = some q → i ≤ q ∧ ∃ b, l[q - i]? = some (k, b) ∧ J4 l k = some b ∧ ∀ v, X7 l k v = l.set (q - i) (k, v)
 | [], _, _, _, h => by cases h
 | (a, b) :: r, k, i, q, h => by
  unfold z5L at h
  split at h
  ·rename_i he
   injection h with h
   subst h; subst he
   exact ⟨Nat.le_refl _, b, by simp, by simp [J4], fun v => by simp [X7]⟩
  ·rename_i hne
   obtain ⟨h1, c, h2, h3, h4⟩ := q5l r k (i + 1) q h
   have e1 : q - i = (q - (i + 1)) + 1 := by omega
   refine ⟨by omega, c, by rw [e1]; simpa using h2, by simp [J4, hne, h3], fun v => ?_⟩
   rw [e1]
   simp [X7, hne, h4]
end
def VR {α : Type} (r : RT α) (ag : Bool) (w : World) (v : Value) (x : α) : Prop := match ag with
 | true => ∃ cs : List Value, v = .agg cs.toArray ∧ r.rep w cs x
 | false => r.rep w [v] x
def VO {α : Type} (o : OT α) (ag : Bool) (w : World) (v : Value) (x : α) (hs : Hp) : Prop := match ag with
 | true => ∃ cs : List Value, v = .agg cs.toArray ∧ o.rep w cs x hs
 | false => o.rep w [v] x hs
theorem VR.mono {α : Type} {r : RT α} {ag : Bool} {w w' : World} {v : Value} {x : α} (hk : q1b w w') (h : VR r ag w v x) : VR r ag w' v x := by
 cases ag with
 | true => obtain ⟨cs, h1, h2⟩ := h; exact ⟨cs, h1, r.mono hk h2⟩
 | false => exact r.mono hk h
theorem VO.mono {α : Type} {o : OT α} {ag : Bool} {w w' : World} {v : Value} {x : α} {hs : Hp} (hk : q1b w w') (h : VO o ag w v x hs) : VO o ag w' v x hs := by
 cases ag with
 | true => obtain ⟨cs, h1, h2⟩ := h; exact ⟨cs, h1, o.mono hk h2⟩
 | false => exact o.mono hk h
structure q4C {κ : Type} [DecidableEq κ] (P : Program) (kt : TypeId) (kr : RT κ) (ka : Bool) : Prop where
 lv : ∃ L, q2U P 9 kt = some L ∧ ∀ w cs a, kr.rep w cs a → P3 q5b.ok L cs
 ag : q9B P kt = ka
 eq : ∀ w w' cs ds a c, kr.rep w cs a → kr.rep w' ds c → H7 cs ds = decide (a = c)
section
variable {κ ν : Type} [DecidableEq κ] {P : Program} {kt : TypeId} {kr : RT κ} {ka : Bool}
theorem q4C.form (K : q4C P kt kr ka) {w : World} {v : Value} {x : κ} (h : VR kr ka w v x) : ∃ cs, v = mkV P kt cs ∧ kr.rep w cs x := by
 cases ka with
 | true => obtain ⟨cs, h1, h2⟩ := h; exact ⟨cs, by rw [h1]; simp [mkV, K.ag], h2⟩
 | false => exact ⟨[v], by simp [mkV, K.ag], h⟩
theorem q2C {P : Program} {em : Bool} : ∀ (d : Nat) (t : TypeId) (L : List q5b), q2U P d t = some L → ∀ (k : Nat) (xs : List Value), P3 q5b.ok L xs → ∀ w, (Instr.checkKey em (d + k) t (mkV P t xs)).run P w = .ok () w
 | 0, _, _, h, _, _, _, _ => by cases h
 | d + 1, t, L, h, k, xs, hx, w => by
  have hk : d + 1 + k = (d + k) + 1 := by omega
  rw [hk]
  unfold q2U at h
  split at h
  ·rename_i hu
   split at h
   ·injection h with h
    subst h
    match xs, hx with
    | [_], ⟨⟨a, rfl⟩, _⟩ => simp [Instr.checkKey, mkV, q9B, hu, run_underlying hu]
   ·cases h
  ·rename_i q hu
   split at h
   ·injection h with h
    subst h
    match xs, hx with
    | [_], ⟨⟨a, rfl⟩, _⟩ => simp [Instr.checkKey, mkV, q9B, hu, run_underlying hu]
   ·cases h
  ·rename_i hu
   split at h
   ·injection h with h
    subst h
    match xs, hx with
    | [_], ⟨⟨a, rfl⟩, _⟩ => simp [Instr.checkKey, mkV, q9B, hu, run_underlying hu]
   ·cases h
  ·rename_i fs hu
   split at h
   ·cases h
   ·split at h
    ·rename_i l hl
     split at h
     ·injection h with h
      subst h
      have hm : q9B P t = true := by simp [q9B, hu]
      simp only [mkV, hm, if_true, Instr.checkKey, Sem.run_bind, run_underlying hu, Result.andThen_ok]
      rw [← Array.forIn_toList]
      have key : ∀ (gs : List Field) (M : List q5b) (px ux : List Value), q9f (q2U P d) px.length gs = some M → P3 q5b.ok M ux →
        Sem.run P ((forIn gs PUnit.unit fun (f : Field) (r : PUnit) => do
         if f.name ≠ "_" then Instr.checkKey em (d + k) f.type (← part f.type (px ++ ux).toArray f.offset)
         pure (ForInStep.yield PUnit.unit) : Sem PUnit)) w = .ok PUnit.unit w := by
       intro gs
       induction gs with
       | nil => intro M px ux _ _; simp
       | cons f gs ih =>
        intro M px ux hM h1
        unfold q9f at hM
        split at hM
        ·cases hM
        ·rename_i hnf
         have hn1 : f.name ≠ "_" := fun hh => hnf (.inl hh)
         have hn2 : f.offset = px.length := by
          rcases Nat.decEq f.offset px.length with hh | hh
          ·exact absurd (Or.inr hh) hnf
          ·exact hh
         split at hM
         ·rename_i lf hlf
          simp only [Option.map_eq_some_iff] at hM
          obtain ⟨M', hM', rfl⟩ := hM
          have e1 := h1.length
          rw [List.length_append] at e1
          have hux : ux = ux.take lf.length ++ ux.drop lf.length := (List.take_append_drop _ _).symm
          have l1 : (ux.take lf.length).length = lf.length := by simp; omega
          have a1 : P3 q5b.ok lf (ux.take lf.length) := by have := h1.take lf.length; simpa using this
          have b1 : P3 q5b.ok M' (ux.drop lf.length) := by have := h1.drop lf.length; simpa using this
          generalize ux.take lf.length = u1 at *
          generalize ux.drop lf.length = v1 at *
          subst hux
          have p1 := q0S (P := P) hlf (pr := px) (xs := u1) (po := v1) l1 w
          have p3 := q2C (em := em) d f.type lf hlf k u1 a1 w
          have p4 := ih M' (px ++ u1) v1 (by rw [List.length_append, l1]; exact hM') b1
          simp only [List.append_assoc] at p1 p4
          rw [List.forIn_cons]
          simp only [hn1, ne_eq, not_false_eq_true, if_true, Sem.run_bind, hn2, p1, p3, Result.andThen_ok, Sem.run_pure]
          exact p4
         ·cases hM
      have hk3 := key fs.toList l [] xs hl hx
      simp only [List.nil_append] at hk3
      rw [hk3]
      rfl
     ·cases h
    ·cases h
  ·rename_i m x hu
   split at h
   ·rename_i l hl
    split at h
    ·injection h with h
     subst h
     have hm : q9B P t = true := by simp [q9B, hu]
     have hsz := q9e hl
     simp only [mkV, hm, if_true, Instr.checkKey, Sem.run_bind, run_underlying hu, Result.andThen_ok]
     have key : ∀ (q i : Nat) (px ux : List Value), px.length = i * l.length → P3 q5b.ok (List.replicate q l).flatten ux →
       Sem.run P ((forIn (List.range' i q) PUnit.unit fun (j : Nat) (r : PUnit) => do
        Instr.checkKey em (d + k) x (← part x (px ++ ux).toArray (j * (← sizeOf x)))
        pure (ForInStep.yield PUnit.unit) : Sem PUnit)) w = .ok PUnit.unit w := by
      intro q
      induction q with
      | zero => intro i px ux _ _; simp
      | succ q ih =>
       intro i px ux e1 h1
       rw [List.replicate_succ, List.flatten_cons] at h1
       have q1 := h1.length
       rw [List.length_append] at q1
       have hux : ux = ux.take l.length ++ ux.drop l.length := (List.take_append_drop _ _).symm
       have l1 : (ux.take l.length).length = l.length := by simp; omega
       have a1 : P3 q5b.ok l (ux.take l.length) := by have := h1.take l.length; simpa using this
       have b1 : P3 q5b.ok (List.replicate q l).flatten (ux.drop l.length) := by have := h1.drop l.length; simpa using this
       generalize ux.take l.length = u1 at *
       generalize ux.drop l.length = v1 at *
       subst hux
       have p1 := q0S (P := P) hl (pr := px) (xs := u1) (po := v1) l1 w
       rw [e1] at p1
       have p3 := q2C (em := em) d x l hl k u1 a1 w
       have p4 := ih (i + 1) (px ++ u1) v1 (by rw [List.length_append, l1, e1, Nat.add_mul]; omega) b1
       simp only [List.append_assoc] at p1 p4
       rw [List.range'_succ, List.forIn_cons]
       simp only [Sem.run_bind, run_sizeOf hsz, p1, p3, Result.andThen_ok, Sem.run_pure] at p4 ⊢
       exact p4
     have hk2 := key m 0 [] xs (by simp) hx
     simp only [List.nil_append] at hk2
     simp only [Std.Legacy.Range.forIn_eq_forIn_range', Std.Legacy.Range.size, Nat.sub_zero, Nat.add_sub_cancel, Nat.div_one]
     rw [hk2]
     rfl
    ·cases h
   ·cases h
  ·cases h
theorem q4C.check (K : q4C P kt kr ka) {w w' : World} {v : Value} {x : κ} (h : VR kr ka w v x) (em : Bool) : (Instr.checkKey em 10000 kt v).run P w' = .ok () w' := by
 obtain ⟨cs, rfl, h2⟩ := K.form h
 obtain ⟨L, h3, h4⟩ := K.lv
 exact q2C 9 kt L h3 9991 cs (h4 _ _ _ h2) w'
theorem q4C.equal (K : q4C P kt kr ka) {w w1 w2 : World} {v u : Value} {x y : κ} (h : VR kr ka w v x) (h' : VR kr ka w1 u y) : (Op.equal kt v u).run P w2 = .ok (decide (x = y)) w2 := by
 obtain ⟨cs, rfl, h2⟩ := K.form h
 obtain ⟨ds, rfl, h2'⟩ := K.form h'
 obtain ⟨L, h3, h4⟩ := K.lv
 rw [← K.eq _ _ _ _ _ _ h2 h2']
 exact q4F 9 kt L h3 9991 cs ds (h4 _ _ _ h2) (h4 _ _ _ h2') w2
theorem z1M {P : Program} {d : Nat} {t : TypeId} {L : List q5b} (h : q2U P d t = some L) (hg : q9B P t = false) : (P.underlying t = some .bool ∧ L = [.bool]) ∨ (∃ k, P.underlying t = some (.int k) ∧ L = [.int k]) ∨ (P.underlying t = some .string ∧ L = [.str]) := by
 cases d with
 | zero => cases h
 | succ d =>
  unfold q2U at h
  unfold q9B at hg
  split at h
  ·rename_i hu
   split at h
   ·injection h with h; exact .inl ⟨hu, h.symm⟩
   ·cases h
  ·rename_i k hu
   split at h
   ·injection h with h; exact .inr (.inl ⟨k, hu, h.symm⟩)
   ·cases h
  ·rename_i hu
   split at h
   ·injection h with h; exact .inr (.inr ⟨hu, h.symm⟩)
   ·cases h
  ·rename_i fs hu; rw [hu] at hg; cases hg
  ·rename_i m x hu; rw [hu] at hg; cases hg
  ·cases h
def fnd : List MapEntry → List (κ × ν) → κ → Nat → Option (Nat × Value)
 | e :: es, (a, _) :: r, k, i => if a = k then some (i, e.val) else fnd es r k (i + 1)
 | _, _, _, _ => none
theorem q7l (K : q4C P kt kr ka) {w w' : World} {key : Value} {k : κ} (hk : VR kr ka w key k) : ∀ {es : List MapEntry} {l : List (κ × ν)} (i : Nat), P3 (fun (e : MapEntry) (p : κ × ν) => VR kr ka w e.key p.1) es l → (Instr.findAsking kt key es i).run P w' = .ok (fnd es l k i) w'
 | [], [], i, _ => by simp [Instr.findAsking, fnd]
 | e :: es, (a, b) :: r, i, h => by
  have h1 := K.equal (w2 := w') hk h.1
  have h2 := q7l K (w' := w') hk (i + 1) h.2
  simp only [Instr.findAsking, Sem.run_bind, h1, Result.andThen_ok, fnd]
  by_cases he : k = a
  ·subst he; simp
  ·have : ¬ a = k := fun hh => he hh.symm
   simp only [he, this, decide_false, if_false, Bool.false_eq_true]
   exact h2
theorem q7u (K : q4C P kt kr ka) {w w' : World} {key : Value} {k : κ} (hk : VR kr ka w key k) {es : List MapEntry} {l : List (κ × ν)} (h : P3 (fun (e : MapEntry) (p : κ × ν) => VR kr ka w e.key p.1) es l) : (Instr.findKey kt key es).run P w' = .ok (fnd es l k 0) w' := by
 obtain ⟨L, h3, h4⟩ := K.lv
 have hask := q7l K (w' := w') hk 0 h
 cases ka with
 | true =>
  have hg := K.ag
  unfold q9B at hg
  have hnow : ∀ (td : TypeDesc), P.underlying kt = some td → Instr.findNow td key es 0 = some none ∧ es = [] ∨ Instr.findNow td key es 0 = none := by
   intro td htd
   cases es with
   | nil => exact .inl ⟨rfl, rfl⟩
   | cons e es =>
    right
    obtain ⟨cs, rfl, _⟩ := hk
    rw [htd] at hg
    simp only [Instr.findNow]
    cases td <;> simp_all [Instr.sameNow]
  cases hu : P.underlying kt with
  | none => rw [hu] at hg; cases hg
  | some td =>
   rcases hnow td hu with ⟨h5, h6⟩ | h5
   ·subst h6
    match l, h with
    | [], _ => simp [Instr.findKey, run_underlying hu, h5, fnd]
   ·simp [Instr.findKey, run_underlying hu, h5]
    simpa using hask
 | false =>
  have hstep : ∀ (td : TypeDesc), P.underlying kt = some td → (∀ (e : MapEntry) (p : κ × ν), VR kr false w e.key p.1 → Instr.sameNow td key e.key = some (decide (k = p.1))) → ∀ (es : List MapEntry) (l : List (κ × ν)) (i : Nat), P3 (fun (e : MapEntry) (p : κ × ν) => VR kr false w e.key p.1) es l → Instr.findNow td key es i = some (fnd es l k i) := by
   intro td _ hs es
   induction es with
   | nil => intro l i h; match l, h with | [], _ => rfl
   | cons e es ih =>
    intro l i h
    match l, h with
    | (a, b) :: r, h =>
     have h1 := hs e (a, b) h.1
     simp only at h1
     simp only [Instr.findNow, h1, fnd]
     by_cases he : k = a
     ·subst he; simp
     ·have : ¬ a = k := fun hh => he hh.symm
      simp only [he, this, decide_false, if_false]
      exact ih r (i + 1) h.2
  have hkey := h4 _ _ _ hk
  rcases z1M h3 K.ag with ⟨hu, rfl⟩ | ⟨q, hu, rfl⟩ | ⟨hu, rfl⟩
  ·obtain ⟨⟨x, rfl⟩, _⟩ := hkey
   have := hstep .bool hu (fun e p hp => by
    obtain ⟨⟨y, hy⟩, _⟩ := h4 _ _ _ hp
    have he := K.eq _ _ _ _ _ _ hk hp
    rw [hy] at he ⊢
    simp only [H7, q4s, Bool.and_true] at he
    simp [Instr.sameNow, he]) es l 0 h
   simp [Instr.findKey, run_underlying hu, this]
  ·obtain ⟨⟨x, rfl⟩, _⟩ := hkey
   have := hstep (.int q) hu (fun e p hp => by
    obtain ⟨⟨y, hy⟩, _⟩ := h4 _ _ _ hp
    have he := K.eq _ _ _ _ _ _ hk hp
    rw [hy] at he ⊢
    simp only [H7, q4s, Bool.and_true] at he
    simp only [Instr.sameNow, if_true]
    exact congrArg some he) es l 0 h
   simp [Instr.findKey, run_underlying hu, this]
  ·obtain ⟨⟨x, rfl⟩, _⟩ := hkey
   have := hstep .string hu (fun e p hp => by
    obtain ⟨⟨y, hy⟩, _⟩ := h4 _ _ _ hp
    have he := K.eq _ _ _ _ _ _ hk hp
    rw [hy] at he ⊢
    simp only [H7, q4s, Bool.and_true] at he
    simp only [Instr.sameNow, beq_toListBytes]
    exact congrArg some he) es l 0 h
   simp [Instr.findKey, run_underlying hu, this]
theorem q9w {w : World} : ∀ {es : List MapEntry} {l : List (κ × ν)} (k : κ) (i : Nat), es.length = l.length → fnd es l k i = (z5L l k i).bind fun q => (es[q - i]?).map fun e => (q, e.val)
 | [], [], _, _, _ => rfl
 | e :: es, (a, b) :: r, k, i, h => by
  unfold fnd z5L
  split
  ·simp
  ·rw [q9w (w := w) k (i + 1) (by simpa using h)]
   cases hq : z5L r k (i + 1) with
   | none => rfl
   | some q =>
    have := (q5l r k (i + 1) q hq).1
    simp only [Ka]
    rw [show q - i = (q - (i + 1)) + 1 by omega]
    simp
theorem z4j {L : q5b} {x y : Value} (hx : L.ok x) (hy : L.ok y) (h : q4s x y = true) (n : Nat) : Instr.sameBits n x y = true := by
 cases L with
 | int k => obtain ⟨a, rfl⟩ := hx; obtain ⟨c, rfl⟩ := hy; cases n <;> simpa [Instr.sameBits, q4s] using h
 | bool => obtain ⟨a, rfl⟩ := hx; obtain ⟨c, rfl⟩ := hy; cases n <;> simpa [Instr.sameBits, q4s] using h
 | str =>
  obtain ⟨a, rfl⟩ := hx; obtain ⟨c, rfl⟩ := hy
  simp only [q4s] at h
  rw [← beq_toListBytes] at h
  cases n <;> simpa [Instr.sameBits] using h
theorem z0I : ∀ {L : List q5b} {xs ys : List Value}, P3 q5b.ok L xs → P3 q5b.ok L ys → H7 xs ys = true → ∀ n, xs.length = ys.length ∧ (xs.zip ys).all (fun (x, y) => Instr.sameBits n x y) = true
 | [], [], [], _, _, _, _ => by simp
 | _ :: _, x :: xs, y :: ys, h1, h2, h, n => by
  simp only [H7, Bool.and_eq_true] at h
  obtain ⟨e1, e2⟩ := z0I h1.2 h2.2 h.2 n
  refine ⟨by simp [e1], ?_⟩
  simp only [List.zip_cons_cons, List.all_cons, Bool.and_eq_true]
  exact ⟨z4j h1.1 h2.1 h.1 n, e2⟩
theorem q4C.stays (K : q4C P kt kr ka) {w w1 w2 : World} {v u : Value} {x : κ} (h : VR kr ka w v x) (h' : VR kr ka w1 u x) : (Instr.keyThatStays v u).run P w2 = .ok u w2 := by
 obtain ⟨L, h3, h4⟩ := K.lv
 have : Instr.sameBits 10000 v u = true := by
  cases ka with
  | true =>
   obtain ⟨cs, rfl, h2⟩ := h
   obtain ⟨ds, rfl, h2'⟩ := h'
   have he := K.eq _ _ _ _ _ _ h2 h2'
   simp only [decide_true] at he
   obtain ⟨e1, e2⟩ := z0I (h4 _ _ _ h2) (h4 _ _ _ h2') he 9999
   simp only [Instr.sameBits, List.size_toArray, e1, beq_self_eq_true, Bool.true_and]
   simpa using e2
  | false =>
   have he := K.eq _ _ _ _ _ _ h h'
   have h5 := h4 _ _ _ h
   have h6 := h4 _ _ _ h'
   simp only [decide_true] at he
   match L, h5, h6 with
   | [l0], h5, h6 =>
    simp only [H7, Bool.and_true] at he
    exact z4j h5.1 h6.1 he 10000
 simp [Instr.keyThatStays, this]
def j2b (es : List MapEntry) (cl : Nat) : Prop := (∀ e ∈ es, e.born < cl) ∧ (es.map (·.born)).Nodup
theorem j0k {es : List MapEntry} {cl : Nat} (h : j2b es cl) (k v : Value) : j2b (es ++ [{ key := k, val := v, born := cl }]) (cl + 1) := by
 refine ⟨fun e he => ?_, ?_⟩
 ·rcases List.mem_append.1 he with he | he
  ·have := h.1 e he; omega
  ·rw [List.mem_singleton.1 he]; exact Nat.lt_succ_self _
 ·rw [List.map_append, List.nodup_append]
  refine ⟨h.2, List.nodup_cons.2 ⟨List.not_mem_nil, .nil⟩, fun a ha b hb e => ?_⟩
  obtain ⟨y, hy, rfl⟩ := List.mem_map.1 ha
  have hb : b = cl := by simpa using hb
  have := h.1 y hy
  omega
theorem z7k {f : MapEntry → MapEntry} (hf : ∀ e, (f e).born = e.born) : ∀ (es : List MapEntry) (q : Nat), (es.modify q f).map (·.born) = es.map (·.born)
 | [], q => by cases q <;> rfl
 | e :: es, 0 => by simp [hf]
 | e :: es, q + 1 => by simp [z7k hf es q]
theorem z5Y {es : List MapEntry} {cl : Nat} (h : j2b es cl) (k v : Value) (q : Nat) : j2b (es.modify q fun e => { e with key := k, val := v }) cl := by
 have hm := z7k (f := fun e => { e with key := k, val := v }) (fun _ => rfl) es q
 refine ⟨fun e he => ?_, by rw [hm]; exact h.2⟩
 have h1 : e.born ∈ (es.modify q fun e => { e with key := k, val := v }).map (·.born) := List.mem_map.2 ⟨e, he, rfl⟩
 rw [hm] at h1
 obtain ⟨y, hy, e1⟩ := List.mem_map.1 h1
 rw [← e1]
 exact h.1 y hy
def OM0 {κ ν : Type} (kr : RT κ) (vo : OT ν) (ka va : Bool) (w : World) (g : Nat) (l : List (κ × ν)) (hs : Hp) : Prop :=
 ∃ (es : List MapEntry) (clock : Nat) (hss : List Hp), hs = (g, .map es.toArray clock) :: hss.flatten ∧ q2z (fun (e : MapEntry) (p : κ × ν) (q : Hp) => VR kr ka w e.key p.1 ∧ VO vo va w e.val p.2 q) es l hss ∧ (l.map (·.1)).Nodup ∧ j2b es clock
def j6t {κ ν : Type} (kr : RT κ) (vo : OT ν) (ka va : Bool) (w : World) (g : Nat) (l : List (κ × ν)) (k : κ) (hs : Hp) : Prop :=
 ∃ (es : List MapEntry) (clock : Nat) (hss : List Hp), hs = (g, .map es.toArray clock) :: hss.flatten ∧ q2z (fun (e : MapEntry) (p : κ × ν) (q : Hp) => VR kr ka w e.key p.1 ∧ (p.1 ≠ k → VO vo va w e.val p.2 q) ∧ (p.1 = k → q = [])) es l hss ∧ (l.map (·.1)).Nodup ∧ j2b es clock
variable {vo : OT ν} {va : Bool} {w : World} {g : Nat} {l : List (κ × ν)} {k : κ} {hs : Hp}
theorem OM0.mono {w' : World} (hk : q1b w w') (h : OM0 kr vo ka va w g l hs) : OM0 kr vo ka va w' g l hs := by
 obtain ⟨es, cl, hss, h1, h2, h3⟩ := h
 exact ⟨es, cl, hss, h1, h2.imp (fun _ _ _ h => ⟨h.1.mono hk, h.2.mono hk⟩), h3⟩
theorem q6S {Q : MapEntry → κ × ν → Hp → Prop} {R : MapEntry → κ × ν → Prop} (hi : ∀ e p q, Q e p q → R e p) : ∀ {es : List MapEntry} {l : List (κ × ν)} {hss : List Hp}, q2z Q es l hss → P3 R es l
 | [], [], [], _ => trivial
 | _ :: _, _ :: _, _ :: _, h => ⟨hi _ _ _ h.1, q6S hi h.2⟩
theorem q8W {b : k9} {hp : Hp} {w' : World} {o : Obj} (ho : Own b hp w') (hm : (g, o) ∈ hp) : w'.heap[g]? = some o := (ho.blk g o hm).2
theorem OM0.look (K : q4C P kt kr ka) {b : k9} {et mt : TypeId} {z : Value} {key : Value} (h : OM0 kr vo ka va b.w g l hs) (hk : VR kr ka b.w key k) (hm : P.underlying mt = some (.map kt et)) (hz : (P.info? et).bind (·.zero) = some z) :
  ∃ r : Option Value, (∀ hp w', Own b hp w' → hs.Sublist hp → ∀ ok : Bool, (Instr.lookup mt (.map (some g)) key ok).run P w' = .ok (if ok then .tuple #[r.getD z, .bool (j2p l k)] else r.getD z) w') ∧
   ((r = none ∧ J4 l k = none ∧ j6t kr vo ka va b.w g l k hs) ∨ ∃ x v hsk hs', r = some v ∧ J4 l k = some x ∧ VO vo va b.w v x hsk ∧ (hs' ++ hsk).Perm hs ∧ j6t kr vo ka va b.w g l k hs') := by
 obtain ⟨es, cl, hss, h1, h2, h3⟩ := h
 have hkeys : P3 (fun (e : MapEntry) (p : κ × ν) => VR kr ka b.w e.key p.1) es l := q6S (fun _ _ _ h => h.1) h2
 have hlen := hkeys.length
 have hrun : ∀ hp w', Own b hp w' → hs.Sublist hp → ∀ (ok : Bool) (rv : Option Value) (hb : Bool), (fnd es l k 0).map (·.2) = rv → rv.isSome = hb → (Instr.lookup mt (.map (some g)) key ok).run P w' = .ok (if ok then .tuple #[rv.getD z, .bool hb] else rv.getD z) w' := by
  intro hp w' ho hsub ok rv hb hrv hhb
  have hblk := q8W ho (hsub.subset (by rw [h1]; exact List.mem_cons_self))
  have hfind := q7u (w' := w') K hk hkeys
  have hzv : (zeroValue et).run P w' = .ok z w' := by
   cases hi : P.info? et with
   | none => simp [hi] at hz
   | some i =>
    have hz' : i.zero = some z := by simpa [hi] using hz
    simp [zeroValue, typeInfo, hi, hz']
  simp only [Instr.lookup, Sem.run_bind, run_underlying hm, MapKept.run_getObj_map hblk, Result.andThen_ok, Sem.run_pure, K.check hk, hfind]
  subst hrv; subst hhb
  cases hq : fnd es l k 0 with
  | none => cases ok <;> simp [hzv]
  | some q => cases ok <;> simp
 cases hq : z5L l k 0 with
 | none =>
  obtain ⟨g1, g2, g3⟩ := q8i l k 0 hq
  have hf : fnd es l k 0 = none := by rw [q9w (w := b.w) k 0 hlen, hq]; rfl
  refine ⟨none, fun hp w' ho hsub ok => hrun hp w' ho hsub ok none (j2p l k) (by rw [hf]; rfl) (by simp [j2p, g1]), .inl ⟨rfl, g1, es, cl, hss, h1, ?_, h3⟩⟩
  have : ∀ {es : List MapEntry} {l : List (κ × ν)} {hss : List Hp}, q2z (fun (e : MapEntry) (p : κ × ν) (q : Hp) => VR kr ka b.w e.key p.1 ∧ VO vo va b.w e.val p.2 q) es l hss → (∀ p ∈ l, p.1 ≠ k) → q2z (fun (e : MapEntry) (p : κ × ν) (q : Hp) => VR kr ka b.w e.key p.1 ∧ (p.1 ≠ k → VO vo va b.w e.val p.2 q) ∧ (p.1 = k → q = [])) es l hss := by
   intro es
   induction es with
   | nil => intro l hss h _; match l, hss, h with | [], [], _ => trivial
   | cons e es ih =>
    intro l hss h hn
    match l, hss, h with
    | p :: l, q :: hss, h => exact ⟨⟨h.1.1, fun _ => h.1.2, fun hh => absurd hh (hn p (by simp))⟩, ih h.2 (fun p hp => hn p (by simp [hp]))⟩
  exact this h2 g3
 | some q =>
  obtain ⟨_, x, g1, g2, g3⟩ := q5l l k 0 q hq
  simp only [Nat.sub_zero] at g1
  obtain ⟨e, hsk, e1, e2, e3⟩ := h2.get g1
  have hf : fnd es l k 0 = some (q, e.val) := by rw [q9w (w := b.w) k 0 hlen, hq]; simp [e1]
  refine ⟨some e.val, fun hp w' ho hsub ok => hrun hp w' ho hsub ok (some e.val) (j2p l k) (by rw [hf]; rfl) (by simp [j2p, g2]), .inr ⟨x, e.val, hsk, (g, .map es.toArray cl) :: (hss.set q []).flatten, rfl, g2, e3.2, ?_, es, cl, hss.set q [], rfl, ?_, h3⟩⟩
  ·rw [h1, q7c [] (List.getElem?_eq_some_iff.1 e2).1, q3g e2]
   simp only [List.cons_append, List.nil_append]
   refine .cons _ ?_
   rw [List.append_assoc]
   exact .append_left _ (List.perm_append_comm)
  ·have hnd : ∀ (j : Nat) (p : κ × ν), l[j]? = some p → p.1 = k → j = q := by
    intro j p hj hp
    have hlt := (List.getElem?_eq_some_iff.1 hj).1
    have e4 : (l.map (·.1))[j]? = some k := by simp [hj, hp]
    have e5 : (l.map (·.1))[q]? = some k := by simp [g1]
    exact (List.getElem?_inj (by simpa using hlt) h3.1).1 (e4.trans e5.symm)
   have key : ∀ {es : List MapEntry} {l : List (κ × ν)} {hss : List Hp} (q : Nat), q2z (fun (e : MapEntry) (p : κ × ν) (q : Hp) => VR kr ka b.w e.key p.1 ∧ VO vo va b.w e.val p.2 q) es l hss → (∀ (j : Nat) (p : κ × ν), l[j]? = some p → p.1 = k → j = q) → (∃ x, l[q]? = some (k, x)) →
     q2z (fun (e : MapEntry) (p : κ × ν) (q : Hp) => VR kr ka b.w e.key p.1 ∧ (p.1 ≠ k → VO vo va b.w e.val p.2 q) ∧ (p.1 = k → q = [])) es l (hss.set q []) := by
    intro es
    induction es with
    | nil => intro l hss q h _ hx; match l, hss, h with | [], [], _ => obtain ⟨x, hx⟩ := hx; simp at hx
    | cons e es ih =>
     intro l hss q h hn hx
     match l, hss, h with
     | p :: l, r :: hss, h =>
      cases q with
      | zero =>
       obtain ⟨x, hx⟩ := hx
       simp at hx
       subst hx
       refine ⟨⟨h.1.1, fun hh => absurd rfl hh, fun _ => rfl⟩, ?_⟩
       have hh : ∀ p ∈ l, p.1 ≠ k := fun p hp he => by
        obtain ⟨j, hj⟩ := List.mem_iff_getElem?.1 hp
        have := hn (j + 1) p (by simpa using hj) he
        omega
       have : ∀ {es : List MapEntry} {l : List (κ × ν)} {hss : List Hp}, q2z (fun (e : MapEntry) (p : κ × ν) (q : Hp) => VR kr ka b.w e.key p.1 ∧ VO vo va b.w e.val p.2 q) es l hss → (∀ p ∈ l, p.1 ≠ k) → q2z (fun (e : MapEntry) (p : κ × ν) (q : Hp) => VR kr ka b.w e.key p.1 ∧ (p.1 ≠ k → VO vo va b.w e.val p.2 q) ∧ (p.1 = k → q = [])) es l hss := by
        intro es
        induction es with
        | nil => intro l hss h _; match l, hss, h with | [], [], _ => trivial
        | cons e es ih =>
         intro l hss h hn
         match l, hss, h with
         | p :: l, q :: hss, h => exact ⟨⟨h.1.1, fun _ => h.1.2, fun hh => absurd hh (hn p (by simp))⟩, ih h.2 (fun p hp => hn p (by simp [hp]))⟩
       exact this h.2 hh
      | succ q =>
       refine ⟨⟨h.1.1, fun _ => h.1.2, fun he => ?_⟩, ih q h.2 (fun j p hj hp => ?_) ?_⟩
       ·have := hn 0 p rfl he
        omega
       ·have := hn (j + 1) p (by simpa using hj) hp
        omega
       ·obtain ⟨x, hx⟩ := hx
        exact ⟨x, by simpa using hx⟩
   exact key q h2 hnd ⟨x, g1⟩
theorem OM0.lookF (K : q4C P kt kr ka) {vr : RT ν} {b : k9} {et mt : TypeId} {z : Value} {z0 : ν} {key : Value} (h : OM0 kr (OT.fr vr) ka va b.w g l hs) (hk : VR kr ka b.w key k) (hm : P.underlying mt = some (.map kt et)) (hz : (P.info? et).bind (·.zero) = some z) (hz0 : VR vr va b.w z z0) :
  ∃ v, VR vr va b.w v (q0D l k z0) ∧ ∀ hp w', Own b hp w' → hs.Sublist hp → ∀ ok : Bool, (Instr.lookup mt (.map (some g)) key ok).run P w' = .ok (if ok then .tuple #[v, .bool (j2p l k)] else v) w' := by
 obtain ⟨r, h1, h2⟩ := OM0.look K h hk hm hz
 rcases h2 with ⟨rfl, h3, _⟩ | ⟨x, v, hsk, hs', rfl, h3, h4, _⟩
 ·exact ⟨z, by simpa [q0D, h3] using hz0, h1⟩
 ·refine ⟨v, ?_, h1⟩
  simp only [q0D, h3, Option.getD_some]
  cases va with
  | true => obtain ⟨cs, q1, q2⟩ := h4; exact ⟨cs, q1, q2.1⟩
  | false => exact h4.1
theorem OM0.hole (h : OM0 kr vo ka va w g l hs) (k : κ) : ∃ hs', hs'.Sublist hs ∧ j6t kr vo ka va w g l k hs' := by
 obtain ⟨es, cl, hss, h1, h2, h3⟩ := h
 have key : ∀ {es : List MapEntry} {l : List (κ × ν)} {hss : List Hp}, q2z (fun (e : MapEntry) (p : κ × ν) (q : Hp) => VR kr ka w e.key p.1 ∧ VO vo va w e.val p.2 q) es l hss →
   ∃ hss', q2z (fun (e : MapEntry) (p : κ × ν) (q : Hp) => VR kr ka w e.key p.1 ∧ (p.1 ≠ k → VO vo va w e.val p.2 q) ∧ (p.1 = k → q = [])) es l hss' ∧ hss'.flatten.Sublist hss.flatten := by
  intro es
  induction es with
  | nil => intro l hss h; match l, hss, h with | [], [], _ => exact ⟨[], trivial, .refl _⟩
  | cons e es ih =>
   intro l hss h
   match l, hss, h with
   | p :: l, q :: hss, h =>
    obtain ⟨hss', h4, h5⟩ := ih h.2
    by_cases hp : p.1 = k
    ·exact ⟨[] :: hss', ⟨⟨h.1.1, fun hh => absurd hp hh, fun _ => rfl⟩, h4⟩, by simpa using h5.trans (Kc _ _)⟩
    ·exact ⟨q :: hss', ⟨⟨h.1.1, fun _ => h.1.2, fun hh => absurd hh hp⟩, h4⟩, by simpa using (List.Sublist.refl q).append h5⟩
 obtain ⟨hss', h4, h5⟩ := key h2
 exact ⟨(g, .map es.toArray cl) :: hss'.flatten, by rw [h1]; exact h5.cons_cons _, es, cl, hss', rfl, h4, h3⟩
theorem Own.turnMap {b : k9} {hp : Hp} {w' : World} {i : Nat} {o o' : Obj} (h : Own b hp w') (hi : hp[i]? = some (g, o)) : Own b (hp.set i (g, o')) { w' with heap := w'.heap.setIfInBounds g o' } := by
 have hlt := h.lt (List.mem_of_getElem? hi)
 refine h.turn hi rfl rfl rfl (by simp) (by simp [hlt]) (fun j hj => ?_)
 exact Array.getElem?_setIfInBounds_ne (Ne.symm hj)
theorem q8U {α : Type} (F : List α) (x y : α) (t : List α) : (F ++ x :: t).set F.length y = F ++ y :: t := by simp
theorem j0t {α β γ : Type} {R S : α → β → γ → Prop} (f : α → α) : ∀ {es : List α} {l : List β} {hss : List γ} (q : Nat) {e : α} {p p' : β} {h' : γ}, q2z R es l hss → es[q]? = some e → l[q]? = some p → S (f e) p' h' → (∀ (j : Nat) (a : α) (b : β) (c : γ), j ≠ q → es[j]? = some a → l[j]? = some b → hss[j]? = some c → R a b c → S a b c) → q2z S (es.modify q f) (l.set q p') (hss.set q h')
 | [], [], [], q, e, p, p', h', _, he, _, _, _ => by simp at he
 | a :: es, b :: l, c :: hss, 0, e, p, p', h', h, he, hp, hS, hR => by
  simp at he
  subst he
  refine ⟨by simpa using hS, ?_⟩
  have : ∀ {es : List α} {l : List β} {hss : List γ}, q2z R es l hss → (∀ (j : Nat) (a : α) (b : β) (c : γ), es[j]? = some a → l[j]? = some b → hss[j]? = some c → R a b c → S a b c) → q2z S es l hss := by
   intro es
   induction es with
   | nil => intro l hss h _; match l, hss, h with | [], [], _ => trivial
   | cons a es ih =>
    intro l hss h hR
    match l, hss, h with
    | b :: l, c :: hss, h => exact ⟨hR 0 a b c rfl rfl rfl h.1, ih h.2 (fun j x y z h1 h2 h3 h4 => hR (j + 1) x y z (by simpa using h1) (by simpa using h2) (by simpa using h3) h4)⟩
  exact this h.2 (fun j x y z h1 h2 h3 h4 => hR (j + 1) x y z (by omega) (by simpa using h1) (by simpa using h2) (by simpa using h3) h4)
 | a :: es, b :: l, c :: hss, q + 1, e, p, p', h', h, he, hp, hS, hR => by
  refine ⟨hR 0 a b c (by omega) rfl rfl rfl h.1, ?_⟩
  exact j0t f q h.2 (by simpa using he) (by simpa using hp) hS (fun j x y z hj h1 h2 h3 h4 => hR (j + 1) x y z (by omega) (by simpa using h1) (by simpa using h2) (by simpa using h3) h4)
section
variable {n : NT} {m : Nat} {dk0 : Hp} {rq : Option Nat} {b : k9} {e : Env} {hp : Hp} {ty : TypeId}
theorem j2X (K : q4C P kt kr ka) (F hn R : Hp) {et mt : TypeId} {xm xk xv : Operand} {key val_ : Value} {x : ν} (hhp : hp = F ++ (hs ++ (hn ++ R))) (h : j6t kr vo ka va b.w g l k hs) (hm : P.underlying mt = some (.map kt et))
  (h1 : val e xm = some (.map (some g))) (h2 : val e xk = some key) (h3 : val e xv = some val_) (hk : VR kr ka b.w key k) (hv : VO vo va b.w val_ x hn) (op : Op) (hop : op = .mapUpdate mt xm xk xv ∨ op = .insert mt xm xk xv) :
  q5c P n b op ty e hp (fun _ hp' => ∃ hs', hp' = F ++ (hs' ++ R) ∧ hn.Sublist hs' ∧ OM0 kr vo ka va b.w g (X7 l k x) hs') := z0T fun a w hf ho => by
 obtain ⟨es, cl, hss, g1, g2, g3⟩ := h
 have hkeys : P3 (fun (e : MapEntry) (p : κ × ν) => VR kr ka b.w e.key p.1) es l := q6S (fun _ _ _ h => h.1) g2
 have hlen := hkeys.length
 have hi : hp[F.length]? = some (g, .map es.toArray cl) := by rw [hhp, g1]; simp
 have hblk := q8W ho (List.mem_of_getElem? hi)
 have hfind := q7u (w' := w) K hk hkeys
 have hrun : ∀ (o' : Obj), (match fnd es l k 0 with | some (i, _) => o' = .map (es.toArray.modify i fun e => { e with key := key, val := val_ }) cl | none => o' = .map (es.toArray.push { key := key, val := val_, born := cl }) (cl + 1)) →
   ∀ d pos af gg, (execOp a.eval ⟨d, op, ty, pos, af, gg⟩).run P w = .ok .skip { w with heap := w.heap.setIfInBounds g o' } := by
  intro o' ho' d pos af gg
  have hu : (Instr.mapUpdate mt (.map (some g)) key val_).run P w = .ok () { w with heap := w.heap.setIfInBounds g o' } := by
   simp only [Instr.mapUpdate, Sem.run_bind, run_underlying hm, MapKept.run_getObj_map hblk, Result.andThen_ok, K.check hk, hfind]
   cases hq : fnd es l k 0 with
   | none => rw [hq] at ho'; subst ho'; simp [MapKept.run_setObj_map _ hblk]
   | some q =>
    obtain ⟨i, v0⟩ := q
    rw [hq] at ho'
    subst ho'
    have hfe := q9w (w := w) (es := es) (l := l) k 0 hlen
    rw [hq] at hfe
    cases hq2 : z5L l k 0 with
    | none => rw [hq2] at hfe; cases hfe
    | some q2 =>
     obtain ⟨_, y, c1, c2, c3⟩ := q5l l k 0 q2 hq2
     rw [hq2] at hfe
     simp only [Ka, Nat.sub_zero] at hfe c1
     obtain ⟨e0, e1, e2⟩ := hkeys.get c1
     rw [e1] at hfe
     simp only [Option.map_some, Option.some.injEq, Prod.mk.injEq] at hfe
     obtain ⟨rfl, rfl⟩ := hfe
     have hst := K.stays (w2 := w) e2 hk
     simp [e1, hst, MapKept.run_setObj_map _ hblk]
  rcases hop with rfl | rfl <;> simp [execOp, hf.eval h1, hf.eval h2, hf.eval h3, hu]
 cases hq2 : z5L l k 0 with
 | none =>
  obtain ⟨c1, c2, c3⟩ := q8i l k 0 hq2
  have hf0 : fnd es l k 0 = none := by rw [q9w (w := w) k 0 hlen, hq2]; rfl
  refine ⟨_, F ++ (((g, .map (es ++ [({ key := key, val := val_, born := cl } : MapEntry)]).toArray (cl + 1)) :: (hss ++ [hn]).flatten) ++ R), hrun _ (by rw [hf0]), ?_, _, rfl, (by simp only [List.flatten_append, List.flatten_cons, List.flatten_nil, List.append_nil]; exact (Kc _ _).trans (List.sublist_cons_self _ _)), es ++ [({ key := key, val := val_, born := cl } : MapEntry)], cl + 1, hss ++ [hn], rfl, ?_, q8Z l k x g3.1, j0k g3.2 _ _⟩
  ·have ho2 := ho.turnMap (o' := .map (es.toArray.push { key := key, val := val_, born := cl }) (cl + 1)) hi
   rw [hhp, g1] at ho2
   simp only [List.cons_append] at ho2
   rw [q8U] at ho2
   have e1 : (es ++ [({ key := key, val := val_, born := cl } : MapEntry)]).toArray = es.toArray.push { key := key, val := val_, born := cl } := by simp
   rw [e1]
   simpa [List.append_assoc] using ho2
  ·rw [c2 x]
   have key2 : ∀ {es : List MapEntry} {l : List (κ × ν)} {hss : List Hp}, q2z (fun (e : MapEntry) (p : κ × ν) (q : Hp) => VR kr ka b.w e.key p.1 ∧ (p.1 ≠ k → VO vo va b.w e.val p.2 q) ∧ (p.1 = k → q = [])) es l hss → (∀ p ∈ l, p.1 ≠ k) → q2z (fun (e : MapEntry) (p : κ × ν) (q : Hp) => VR kr ka b.w e.key p.1 ∧ VO vo va b.w e.val p.2 q) es l hss := by
    intro es
    induction es with
    | nil => intro l hss h _; match l, hss, h with | [], [], _ => trivial
    | cons e es ih =>
     intro l hss h hn
     match l, hss, h with
     | p :: l, q :: hss, h => exact ⟨⟨h.1.1, h.1.2.1 (hn p (by simp))⟩, ih h.2 (fun p hp => hn p (by simp [hp]))⟩
   exact q2z.append (key2 g2 c3) ⟨⟨hk, hv⟩, trivial⟩
 | some q =>
  obtain ⟨_, y, c1, c2, c3⟩ := q5l l k 0 q hq2
  simp only [Nat.sub_zero] at c1 c3
  obtain ⟨e0, hsk, e1, e2, e3⟩ := g2.get c1
  have hf0 : fnd es l k 0 = some (q, e0.val) := by rw [q9w (w := w) k 0 hlen, hq2]; simp [e1]
  have hskn : hsk = [] := e3.2.2 rfl
  subst hskn
  refine ⟨_, F ++ (((g, .map (es.modify q fun e => { e with key := key, val := val_ }).toArray cl) :: (hss.set q hn).flatten) ++ R), hrun _ (by rw [hf0]), ?_, _, rfl, (by rw [q7c hn (List.getElem?_eq_some_iff.1 e2).1]; exact ((Kb _ _).trans (Kc _ _)).trans (List.sublist_cons_self _ _)), es.modify q fun e => { e with key := key, val := val_ }, cl, hss.set q hn, rfl, ?_, q8Z l k x g3.1, z5Y g3.2 _ _ q⟩
  ·have ho2 := ho.turnMap (o' := .map (es.toArray.modify q fun e => { e with key := key, val := val_ }) cl) hi
   rw [hhp, g1] at ho2
   simp only [List.cons_append] at ho2
   rw [q8U] at ho2
   have e4 : (es.modify q fun e => { e with key := key, val := val_ }).toArray = es.toArray.modify q fun e => { e with key := key, val := val_ } := by
    apply Array.ext'
    simp
   rw [e4]
   have hpm := j1a (F := F) (R := R) [(g, .map (es.toArray.modify q fun e => { e with key := key, val := val_ }) cl)] (y := hn) e2
   refine (ho2.perm (hpm.trans ?_))
   rw [q3g e2]
   simp
  ·rw [c3 x]
   refine j0t (S := fun (e : MapEntry) (p : κ × ν) (q : Hp) => VR kr ka b.w e.key p.1 ∧ VO vo va b.w e.val p.2 q) (fun e => { e with key := key, val := val_ }) q g2 e1 c1 ⟨hk, hv⟩ (fun j a' b' c' hj h1 h2 h3 h4 => ?_)
   refine ⟨h4.1, h4.2.1 fun he => ?_⟩
   have hlt := (List.getElem?_eq_some_iff.1 h2).1
   have e4 : (l.map (·.1))[j]? = some k := by simp [h2, he]
   have e5 : (l.map (·.1))[q]? = some k := by simp [c1]
   exact hj ((List.getElem?_inj (by simpa using hlt) g3.1).1 (e4.trans e5.symm))
theorem q5c.less {op : Op} {hp' : Hp} {Ψ : Value → Hp → Prop} (hs : hp'.Sublist hp) (h : q5c P n b op ty e hp' Ψ) : q5c P n b op ty e hp Ψ := ⟨fun a w hf ho => h.out a w hf (ho.sub hs)⟩
theorem j0I (K : q4C P kt kr ka) (F hn R : Hp) {et mt : TypeId} {xm xk xv : Operand} {key val_ : Value} {x : ν} (hhp : hp = F ++ (hs ++ (hn ++ R))) (h : OM0 kr vo ka va b.w g l hs) (hm : P.underlying mt = some (.map kt et))
  (h1 : val e xm = some (.map (some g))) (h2 : val e xk = some key) (h3 : val e xv = some val_) (hk : VR kr ka b.w key k) (hv : VO vo va b.w val_ x hn) (op : Op) (hop : op = .mapUpdate mt xm xk xv ∨ op = .insert mt xm xk xv) :
  q5c P n b op ty e hp (fun _ hp' => ∃ hs', hp' = F ++ (hs' ++ R) ∧ hn.Sublist hs' ∧ OM0 kr vo ka va b.w g (X7 l k x) hs') := by
 obtain ⟨hs2, q1, q2⟩ := h.hole k
 refine q5c.less (hp' := F ++ (hs2 ++ (hn ++ R))) ?_ (j2X K F hn R rfl q2 hm h1 h2 h3 hk hv op hop)
 rw [hhp]
 exact (List.Sublist.refl _).append (q1.append (List.Sublist.refl _))
theorem j2Y (kr : RT κ) (vo : OT ν) (ka va : Bool) (F R : Hp) (hhp : hp = F ++ R) {mt : TypeId} : q5c P n b (.makeMap mt none) ty e hp (fun v hp' => ∃ g hs, v = .map (some g) ∧ hp' = F ++ (hs ++ R) ∧ OM0 kr vo ka va b.w g ([] : List (κ × ν)) hs) := q4u fun a w hf ho => by
 refine ⟨.map (some w.heap.size), w.alloc (.map #[] 0), F ++ ([(w.heap.size, .map #[] 0)] ++ R), fun d pos af g => ?_, ?_, w.heap.size, [(w.heap.size, .map #[] 0)], rfl, rfl, [], 0, [], rfl, trivial, by simp, by simp [j2b]⟩
 ·simp [execOp, Instr.makeMap]
 ·have := ho.alloc (.map #[] 0)
  rw [hhp] at this
  exact this.perm (by simp only [List.cons_append, List.nil_append]; exact (List.perm_middle (a := (w.heap.size, Obj.map #[] 0)) (l₁ := F) (l₂ := R)))
theorem z9p {q : IntKind} (h : q2U P 9 kt = some [.int q]) (ha : q9B P kt = false) : q4C P kt (RT.int q) false :=
 ⟨⟨_, h, fun w cs a hr => by have hr : cs = [.int q a] := hr; subst hr; exact ⟨⟨a, rfl⟩, trivial⟩⟩, ha, fun w w' cs ds a c h1 h2 => by
  have h1 : cs = [.int q a] := h1
  have h2 : ds = [.int q c] := h2
  subst h1; subst h2
  simp [H7, q4s]
  rfl⟩
theorem q6V {mt : TypeId} {xm xk : Operand} {key v : Value} {ok : Bool} (h1 : val e xm = some (.map (some g))) (h2 : val e xk = some key) (hr : ∀ w', Own b hp w' → (Instr.lookup mt (.map (some g)) key ok).run P w' = .ok v w') : Z0 P n b (.lookup mt xm xk ok) ty e hp v := fun a w hf ho _ _ _ _ => by
 simp [execOp, hf.eval h1, hf.eval h2, hr w ho]
end
theorem z9e {l l' : List (κ × ν)} (h : l.Perm l') : (l.map (·.1)).Nodup → ∀ k, J4 l k = J4 l' k := by
 induction h with
 | nil => intro _ _; rfl
 | cons x h ih =>
  intro hn k
  simp only [List.map_cons, List.nodup_cons] at hn
  obtain ⟨a, c⟩ := x
  simp only [J4, ih hn.2 k]
 | swap x y r =>
  intro hn k
  obtain ⟨a, c⟩ := x
  obtain ⟨a', c'⟩ := y
  simp only [List.map_cons, List.nodup_cons, List.mem_cons, not_or] at hn
  simp only [J4]
  by_cases e : a = k
  ·by_cases e' : a' = k
   ·exact absurd (e'.trans e.symm) hn.1.1
   ·rw [if_pos e, if_neg e', if_pos e]
  ·rw [if_neg e, if_neg e]
 | trans h1 h2 ih1 ih2 =>
  intro hn k
  rw [ih1 hn k, ih2 ((h1.map _).nodup_iff.1 hn) k]
theorem z9b {l l' : List (κ × ν)} (h : l.Perm l') : (l.map (·.1)).Nodup → ∀ k x, (X7 l k x).Perm (X7 l' k x) := by
 induction h with
 | nil => intro _ _ _; exact .refl _
 | cons x h ih =>
  intro hn k v
  simp only [List.map_cons, List.nodup_cons] at hn
  obtain ⟨a, c⟩ := x
  simp only [X7]
  by_cases e : a = k
  ·rw [if_pos e, if_pos e]; exact .cons _ h
  ·rw [if_neg e, if_neg e]; exact .cons _ (ih hn.2 k v)
 | swap x y r =>
  intro hn k v
  obtain ⟨a, c⟩ := x
  obtain ⟨a', c'⟩ := y
  simp only [List.map_cons, List.nodup_cons, List.mem_cons, not_or] at hn
  simp only [X7]
  by_cases e : a = k
  ·by_cases e' : a' = k
   ·exact absurd (e'.trans e.symm) hn.1.1
   ·simp only [if_pos e, if_neg e']; exact .swap _ _ _
  ·by_cases e' : a' = k
   ·simp only [if_neg e, if_pos e']; exact .swap _ _ _
   ·simp only [if_neg e, if_neg e']; exact .swap _ _ _
 | trans h1 h2 ih1 ih2 =>
  intro hn k v
  exact (ih1 hn k v).trans (ih2 ((h1.map _).nodup_iff.1 hn) k v)
def OM {κ ν : Type} (kr : RT κ) (vo : OT ν) (ka va : Bool) (w : World) (g : Nat) (l : List (κ × ν)) (hs : Hp) : Prop := ∃ l0 : List (κ × ν), l0.Perm l ∧ OM0 kr vo ka va w g l0 hs
theorem OM0.nd (h : OM0 kr vo ka va w g l hs) : (l.map (·.1)).Nodup := by
 obtain ⟨es, cl, hss, h1, h2, h3, h4⟩ := h
 exact h3
theorem OM.mono {w' : World} (hk : q1b w w') (h : OM kr vo ka va w g l hs) : OM kr vo ka va w' g l hs := let ⟨l0, h1, h2⟩ := h; ⟨l0, h1, h2.mono hk⟩
theorem OM.le {b b' : k9} (h : OM kr vo ka va b.w g l hs) (hle : b.Le b') : OM kr vo ka va b'.w g l hs := h.mono hle.cells
theorem OM.lookF (K : q4C P kt kr ka) {vr : RT ν} {b : k9} {et mt : TypeId} {z : Value} {z0 : ν} {key : Value} (h : OM kr (OT.fr vr) ka va b.w g l hs) (hk : VR kr ka b.w key k) (hm : P.underlying mt = some (.map kt et)) (hz : (P.info? et).bind (·.zero) = some z) (hz0 : VR vr va b.w z z0) :
  ∃ v, VR vr va b.w v (q0D l k z0) ∧ ∀ hp w', Own b hp w' → hs.Sublist hp → ∀ ok : Bool, (Instr.lookup mt (.map (some g)) key ok).run P w' = .ok (if ok then .tuple #[v, .bool (j2p l k)] else v) w' := by
 obtain ⟨l0, hp, h⟩ := h
 have e := z9e hp h.nd k
 obtain ⟨v, h1, h2⟩ := h.lookF K hk hm hz hz0
 unfold q0D at h1 ⊢
 unfold j2p at h2 ⊢
 rw [e] at h1 h2
 exact ⟨v, h1, h2⟩
section
variable {n : NT} {m : Nat} {dk0 : Hp} {rq : Option Nat} {b : k9} {e : Env} {hp : Hp} {ty : TypeId}
theorem q5c.imp {op : Op} {Ψ Φ : Value → Hp → Prop} (h : q5c P n b op ty e hp Ψ) (hi : ∀ v hp', Ψ v hp' → Φ v hp') : q5c P n b op ty e hp Φ := ⟨fun a w hf ho d pos af g K Q hK => h.out a w hf ho d pos af g K Q fun v hp' w' hΨ ho' => hK v hp' w' (hi _ _ hΨ) ho'⟩
theorem z0n (K : q4C P kt kr ka) (F hn R : Hp) {et mt : TypeId} {xm xk xv : Operand} {key val_ : Value} {x : ν} (hhp : hp = F ++ (hs ++ (hn ++ R))) (h : OM kr vo ka va b.w g l hs) (hm : P.underlying mt = some (.map kt et))
  (h1 : val e xm = some (.map (some g))) (h2 : val e xk = some key) (h3 : val e xv = some val_) (hk : VR kr ka b.w key k) (hv : VO vo va b.w val_ x hn) (op : Op) (hop : op = .mapUpdate mt xm xk xv ∨ op = .insert mt xm xk xv) :
  q5c P n b op ty e hp (fun _ hp' => ∃ hs', hp' = F ++ (hs' ++ R) ∧ hn.Sublist hs' ∧ OM kr vo ka va b.w g (X7 l k x) hs') := by
 obtain ⟨l0, hp0, h⟩ := h
 exact (j0I (n := n) (ty := ty) K F hn R hhp h hm h1 h2 h3 hk hv op hop).imp fun _ _ ⟨hs', q1, q2, q3⟩ => ⟨hs', q1, q2, _, z9b hp0 h.nd k x, q3⟩
theorem q4E (kr : RT κ) (vo : OT ν) (ka va : Bool) (F R : Hp) (hhp : hp = F ++ R) {mt : TypeId} : q5c P n b (.makeMap mt none) ty e hp (fun v hp' => ∃ g hs, v = .map (some g) ∧ hp' = F ++ (hs ++ R) ∧ OM kr vo ka va b.w g ([] : List (κ × ν)) hs) :=
 (j2Y kr vo ka va F R hhp).imp fun _ _ ⟨g, hs, h1, h2, h3⟩ => ⟨g, hs, h1, h2, [], .refl _, h3⟩
end
end
section
variable {P : Program} {n : NT} {m : Nat} {dk0 : Hp} {rq : Option Nat} {b : k9} {ops : Array Oper} {Q : Exit → Act → World → Prop} {e : Env} {hp : Hp}
end
end Go.Fp
