/- Extraction, part 1: plain words of the models (index, checked sums, loops), and what a value in memory stands for (frozen: RT; owned: OT). -/
import Derived.Test.YtckgfeglhjiflaaDoorKG
namespace Go.Fp
open Go.RowKit

/- ---- words of the models ---- -/
def idx {α : Type} (l : List α) (i : Int) : Option α := if 0 ≤ i then l[i.toNat]? else none
theorem idx_some {α : Type} {l : List α} {i : Int} {x : α} (h : idx l i = some x) : ∃ j : Nat, i = (j : Int) ∧ l[j]? = some x := by
  unfold idx at h
  split at h
  · exact ⟨i.toNat, by omega, h⟩
  · cases h
theorem idx_nat {α : Type} {l : List α} {j : Nat} {x : α} (h : l[j]? = some x) : idx l (j : Int) = some x := by
  unfold idx
  rw [if_pos (by omega), Int.toNat_natCast]
  exact h
def put {α : Type} (l : List α) (i : Int) (x : α) : List α := l.set i.toNat x
theorem put_nat {α : Type} (l : List α) (j : Nat) (x : α) : put l (j : Int) x = l.set j x := by simp [put]
theorem put_length {α : Type} (l : List α) (i : Int) (x : α) : (put l i x).length = l.length := by simp [put]
def chk (x : Int) : Option Int := if -9223372036854775808 ≤ x ∧ x ≤ 9223372036854775807 then some x else none
theorem chk_some {x y : Int} (h : chk x = some y) : y = x ∧ -9223372036854775808 ≤ x ∧ x ≤ 9223372036854775807 := by
  unfold chk at h
  split at h
  · injection h with h
    exact ⟨h.symm, by assumption⟩
  · cases h
theorem chk_ok {x : Int} (h : -9223372036854775808 ≤ x) (h2 : x ≤ 9223372036854775807) : chk x = some x := by
  unfold chk
  rw [if_pos ⟨h, h2⟩]
def ne0 (x : Int) : Option Unit := if x = 0 then none else some ()
/-- A length that make takes: 0 or more, and not beyond what memory holds ('by_' bytes each). -/
def mkLen (by_ : Nat) (i : Int) : Option Nat := if 0 ≤ i ∧ by_ * i.toNat ≤ 281474976710656 ∧ i ≤ 9223372036854775807 then some i.toNat else none
theorem mkLen_some {by_ : Nat} {i : Int} {m : Nat} (h : mkLen by_ i = some m) : i = (m : Int) ∧ by_ * m ≤ 281474976710656 ∧ m ≤ 9223372036854775807 := by
  unfold mkLen at h
  split at h
  · injection h with h
    subst h
    omega
  · cases h
/-- There is room to append: so many elements of 'by_' bytes each. -/
def room (by_ m : Nat) : Option Unit := if m * by_ ≤ 140737488355328 ∧ m ≤ 9223372036854775807 then some () else none
theorem room_some {by_ m : Nat} {u : Unit} (h : room by_ m = some u) : m * by_ ≤ 140737488355328 ∧ m ≤ 9223372036854775807 := by
  unfold room at h
  split at h
  · assumption
  · cases h
/-- Not empty. -/
def some? {α : Type} (l : List α) : Option Unit := if l.isEmpty then none else some ()
def cutS {α : Type} (l : List α) (i j : Int) : Option (List α) := if 0 ≤ i ∧ i ≤ j ∧ j ≤ (l.length : Int) then some ((l.take j.toNat).drop i.toNat) else none
theorem cutS_some {α : Type} {l m : List α} {i j : Int} (h : cutS l i j = some m) : ∃ a b : Nat, i = (a : Int) ∧ j = (b : Int) ∧ a ≤ b ∧ b ≤ l.length ∧ m = (l.take b).drop a := by
  unfold cutS at h
  split at h
  · injection h with h
    exact ⟨i.toNat, j.toNat, by omega, by omega, by omega, by omega, h.symm⟩
  · cases h
def runN {σ τ : Type} (step : σ → Option (σ ⊕ τ)) : Nat → σ → Option τ
  | 0, _ => none
  | n + 1, s => match step s with
    | none => none
    | some (.inl s') => runN step n s'
    | some (.inr t) => some t
/-- The value that some 'n' gives, if any does. -/
noncomputable def lim {τ : Type} (f : Nat → Option τ) : Option τ := open Classical in if h : ∃ t n, f n = some t then some h.choose else none
theorem lim_some {τ : Type} {f : Nat → Option τ} {t : τ} (h : lim f = some t) : ∃ n, f n = some t := by
  unfold lim at h
  split at h
  · rename_i hh
    injection h with h
    rw [← h]
    exact hh.choose_spec
  · cases h
theorem lim_ok {τ : Type} {f : Nat → Option τ} {P : τ → Prop} (h1 : ∃ n t, f n = some t) (h2 : ∀ n t, f n = some t → P t) : ∃ t, lim f = some t ∧ P t := by
  have hh : ∃ t n, f n = some t := by obtain ⟨n, t, h⟩ := h1; exact ⟨t, n, h⟩
  refine ⟨hh.choose, by unfold lim; rw [dif_pos hh], ?_⟩
  obtain ⟨n, hn⟩ := hh.choose_spec
  exact h2 n _ hn
noncomputable def loopM {σ τ : Type} (step : σ → Option (σ ⊕ τ)) (s : σ) : Option τ := lim (fun n => runN step n s)
def forM {σ τ : Type} (body : Nat → σ → Option (σ ⊕ τ)) : Nat → Nat → σ → Option (σ ⊕ τ)
  | 0, _, s => some (.inl s)
  | m + 1, k, s => match body k s with
    | none => none
    | some (.inl s') => forM body m (k + 1) s'
    | some (.inr t) => some (.inr t)

/-- As forM, where no round leaves. -/
def forS {σ : Type} (body : Nat → σ → Option σ) : Nat → Nat → σ → Option σ
  | 0, _, s => some s
  | m + 1, k, s => (body k s).bind (forS body m (k + 1))

/- ---- lists side by side ---- -/
def All2 {α β : Type} (R : α → β → Prop) : List α → List β → Prop
  | [], [] => True
  | a :: r, b :: s => R a b ∧ All2 R r s
  | _, _ => False
section
variable {α β : Type} {R S : α → β → Prop}
theorem All2.length : ∀ {l : List α} {m : List β}, All2 R l m → l.length = m.length
  | [], [], _ => rfl
  | _ :: _, _ :: _, h => by simp [All2.length h.2]
theorem All2.imp (hi : ∀ a b, R a b → S a b) : ∀ {l : List α} {m : List β}, All2 R l m → All2 S l m
  | [], [], _ => trivial
  | _ :: _, _ :: _, h => ⟨hi _ _ h.1, All2.imp hi h.2⟩
theorem All2.get : ∀ {l : List α} {m : List β}, All2 R l m → ∀ {j : Nat} {b : β}, m[j]? = some b → ∃ a, l[j]? = some a ∧ R a b
  | [], [], _, j, b, hb => by simp at hb
  | a :: r, c :: s, h, 0, b, hb => by simp at hb; subst hb; exact ⟨a, rfl, h.1⟩
  | a :: r, c :: s, h, j + 1, b, hb => by
    obtain ⟨x, h1, h2⟩ := All2.get h.2 (j := j) (b := b) (by simpa using hb)
    exact ⟨x, by simpa using h1, h2⟩
theorem All2.set : ∀ {l : List α} {m : List β}, All2 R l m → ∀ (j : Nat) {a : α} {b : β}, R a b → All2 R (l.set j a) (m.set j b)
  | [], [], _, _, _, _, _ => trivial
  | _ :: _, _ :: _, h, 0, _, _, hr => ⟨hr, h.2⟩
  | _ :: _, _ :: _, h, j + 1, _, _, hr => ⟨h.1, All2.set h.2 j hr⟩
theorem All2.append : ∀ {l : List α} {m : List β}, All2 R l m → ∀ {l' : List α} {m' : List β}, All2 R l' m' → All2 R (l ++ l') (m ++ m')
  | [], [], _, _, _, h => h
  | _ :: _, _ :: _, h, _, _, h' => ⟨h.1, All2.append h.2 h'⟩
theorem All2.drop : ∀ {l : List α} {m : List β}, All2 R l m → ∀ j : Nat, All2 R (l.drop j) (m.drop j)
  | [], [], _, _ => by simp [All2]
  | _ :: _, _ :: _, h, 0 => h
  | _ :: _, _ :: _, h, j + 1 => All2.drop h.2 j
theorem All2.take : ∀ {l : List α} {m : List β}, All2 R l m → ∀ j : Nat, All2 R (l.take j) (m.take j)
  | [], [], _, _ => by simp [All2]
  | _ :: _, _ :: _, _, 0 => by simp [All2]
  | _ :: _, _ :: _, h, j + 1 => ⟨h.1, All2.take h.2 j⟩
theorem All2.rep {a : α} {b : β} (h : R a b) : ∀ n : Nat, All2 R (List.replicate n a) (List.replicate n b)
  | 0 => trivial
  | n + 1 => ⟨h, All2.rep h n⟩
theorem All2.one {a : α} {b : β} (h : R a b) : All2 R [a] [b] := ⟨h, trivial⟩
end

/- ---- frozen: what cells stand for, by memory that nobody writes any more ---- -/
structure RT (α : Type) where
  sz : Nat
  rep : World → List Value → α → Prop
  len : ∀ {w vs x}, rep w vs x → vs.length = sz
  one : ∀ {w vs x}, rep w vs x → ∀ u ∈ vs, u.oneCell' = true
  mono : ∀ {w w' vs x}, Keeps w w' → rep w vs x → rep w' vs x
theorem RT.le {α : Type} (r : RT α) {b b' : Base} {vs : List Value} {x : α} (h : r.rep b.w vs x) (hle : b.Le b') : r.rep b'.w vs x := r.mono hle.cells h
theorem RT.old {α : Type} (r : RT α) {b : Base} {hp : Hp} {w : World} {vs : List Value} {x : α} (h : r.rep b.w vs x) (ho : Own b hp w) : r.rep w vs x := r.mono ho.keeps h
def RT.int (k : IntKind) : RT Int := ⟨1, fun _ vs x => vs = [.int k x], fun h => by rw [h]; rfl, fun h u hu => by rw [h] at hu; simp at hu; subst hu; rfl, fun _ h => h⟩
def RT.bool : RT Bool := ⟨1, fun _ vs x => vs = [.bool x], fun h => by rw [h]; rfl, fun h u hu => by rw [h] at hu; simp at hu; subst hu; rfl, fun _ h => h⟩
def RT.str : RT ByteArray := ⟨1, fun _ vs x => vs = [.string x], fun h => by rw [h]; rfl, fun h u hu => by rw [h] at hu; simp at hu; subst hu; rfl, fun _ h => h⟩
def RT.none : RT Unit := ⟨0, fun _ vs _ => vs = [], fun h => by rw [h]; rfl, fun h u hu => by rw [h] at hu; simp at hu, fun _ h => h⟩
def RT.on {α β : Type} (r : RT α) (f : β → α) : RT β := ⟨r.sz, fun w vs x => r.rep w vs (f x), fun h => r.len h, fun h => r.one h, fun hk h => r.mono hk h⟩
def RT.cat {α : Type} (r s : RT α) : RT α := ⟨r.sz + s.sz, fun w vs x => ∃ a b, vs = a ++ b ∧ r.rep w a x ∧ s.rep w b x,
  fun ⟨_, _, h1, h2, h3⟩ => by rw [h1, List.length_append, r.len h2, s.len h3],
  fun ⟨_, _, h1, h2, h3⟩ u hu => by
    rw [h1, List.mem_append] at hu
    rcases hu with hu | hu
    · exact r.one h2 u hu
    · exact s.one h3 u hu,
  fun hk ⟨a, b, h1, h2, h3⟩ => ⟨a, b, h1, r.mono hk h2, s.mono hk h3⟩⟩
/-- The memory of a slice that begins at 'A'. -/
def FZ {α : Type} (r : RT α) (w : World) (A : Option Addr) (c : Nat) (l : List α) : Prop := (l.length ≤ c ∧ c ≤ 9223372036854775807) ∧ ∃ css : List (List Value), Rd w A css.flatten ∧ All2 (r.rep w) css l
theorem FZ.bd {α : Type} {r : RT α} {w : World} {A : Option Addr} {c : Nat} {l : List α} (h : FZ r w A c l) : l.length ≤ 9223372036854775807 := by have := h.1; omega
theorem flat_len {α : Type} {r : RT α} {w : World} : ∀ {css : List (List Value)} {l : List α}, All2 (r.rep w) css l → css.flatten.length = l.length * r.sz
  | [], [], _ => by simp
  | c :: r', x :: s, h => by
    rw [List.flatten_cons, List.length_append, r.len h.1, flat_len h.2, List.length_cons, Nat.add_mul]
    omega
theorem flat_one {α : Type} {r : RT α} {w : World} : ∀ {css : List (List Value)} {l : List α}, All2 (r.rep w) css l → ∀ u ∈ css.flatten, u.oneCell' = true
  | [], [], _, u, hu => by simp at hu
  | c :: r', x :: s, h, u, hu => by
    rw [List.flatten_cons, List.mem_append] at hu
    rcases hu with hu | hu
    · exact r.one h.1 u hu
    · exact flat_one h.2 u hu
theorem flat_get {α : Type} {r : RT α} {w : World} : ∀ {css : List (List Value)} {l : List α}, All2 (r.rep w) css l → ∀ {j : Nat} {cs : List Value}, css[j]? = some cs → ∀ {i : Nat} {u : Value}, cs[i]? = some u → css.flatten[j * r.sz + i]? = some u
  | [], [], _, j, cs, hc, _, _, _ => by simp at hc
  | c :: r', x :: s, h, 0, cs, hc, i, u, hu => by
    simp at hc
    subst hc
    rw [List.flatten_cons, Nat.zero_mul, Nat.zero_add, List.getElem?_append_left (List.getElem?_eq_some_iff.1 hu).1]
    exact hu
  | c :: r', x :: s, h, j + 1, cs, hc, i, u, hu => by
    have := flat_get h.2 (j := j) (cs := cs) (by simpa using hc) hu
    rw [List.flatten_cons, List.getElem?_append_right (by rw [r.len h.1, Nat.add_mul]; omega), r.len h.1, ← this]
    congr 1
    rw [Nat.add_mul]
    omega
theorem FZ.mono {α : Type} {r : RT α} {w w' : World} {A : Option Addr} {c : Nat} {l : List α} (h : FZ r w A c l) (hk : Keeps w w') : FZ r w' A c l := by
  obtain ⟨hl, css, h1, h2⟩ := h
  refine ⟨hl, css, fun j u hu => ?_, h2.imp fun _ _ h => r.mono hk h⟩
  have := h1 j u hu
  cases A with
  | none => simp [cellO] at this
  | some p => exact hk _ _ this
theorem FZ.le {α : Type} {r : RT α} {b b' : Base} {A : Option Addr} {c : Nat} {l : List α} (h : FZ r b.w A c l) (hle : b.Le b') : FZ r b'.w A c l := h.mono hle.cells
theorem FZ.old {α : Type} {r : RT α} {b : Base} {hp : Hp} {w : World} {A : Option Addr} {c : Nat} {l : List α} (h : FZ r b.w A c l) (ho : Own b hp w) : FZ r w A c l := h.mono ho.keeps
theorem FZ.nil {α : Type} {r : RT α} {w : World} {A : Option Addr} : FZ r w A 0 [] := ⟨by simp, [], fun j u hu => by simp at hu, trivial⟩
theorem FZ.get {α : Type} {r : RT α} {sz : Nat} (hsz : r.sz = sz) (hp : 0 < sz) {w : World} {A : Option Addr} {c : Nat} {l : List α} (h : FZ r w A c l) {j : Nat} {x : α} (hx : l[j]? = some x) :
    ∃ cs, r.rep w cs x ∧ (∀ (i : Nat) (u : Value), cs[i]? = some u → cellO w A (j * sz + i) = some u) ∧ A.isSome = true ∧ j < l.length := by
  subst hsz
  obtain ⟨_, css, h1, h2⟩ := h
  obtain ⟨cs, hc, hr⟩ := h2.get hx
  refine ⟨cs, hr, fun i u hu => h1 _ u (flat_get h2 hc hu), ?_, (List.getElem?_eq_some_iff.1 hx).1⟩
  have hlen := r.len hr
  have hlt : 0 < cs.length := by omega
  exact cellO_some (h1 _ _ (flat_get h2 hc (List.getElem?_eq_getElem hlt)))
def RT.list {α : Type} (r : RT α) : RT (List α) := ⟨1, fun w vs l => ∃ A c, vs = [.slice A l.length c] ∧ FZ r w A c l, fun ⟨_, _, h, _⟩ => by rw [h]; rfl,
  fun ⟨_, _, h, _⟩ u hu => by rw [h] at hu; simp at hu; subst hu; rfl, fun hk ⟨A, c, h, hf⟩ => ⟨A, c, h, hf.mono hk⟩⟩
theorem RT.list_mk {α : Type} {r : RT α} {w : World} {A : Option Addr} {c : Nat} {l : List α} (h : FZ r w A c l) : (RT.list r).rep w [.slice A l.length c] l := ⟨A, c, rfl, h⟩
def RT.arr {α : Type} (n : Nat) (r : RT α) : RT (List α) := ⟨n * r.sz, fun w vs l => l.length = n ∧ ∃ css, vs = css.flatten ∧ All2 (r.rep w) css l,
  fun ⟨hl, _, h, h2⟩ => by rw [h, flat_len h2, hl], fun ⟨_, _, h, h2⟩ u hu => by rw [h] at hu; exact flat_one h2 u hu, fun hk ⟨hl, css, h, h2⟩ => ⟨hl, css, h, h2.imp fun _ _ h => r.mono hk h⟩⟩
/-- A pointer to a struct that is frozen, or nil. -/
def RT.ptr {α : Type} (r : RT α) : RT (Option α) := ⟨1, fun w vs x => match x with
    | .none => vs = [.pointer .none]
    | .some y => ∃ a cs, vs = [.pointer (.some a)] ∧ r.rep w cs y ∧ ∀ (i : Nat) (u : Value), cs[i]? = .some u → w.cell? (a.add i) = .some u,
  fun {w vs x} h => by
    cases x with
    | none => simp only at h; rw [h]; rfl
    | some y => obtain ⟨_, _, h, _⟩ := h; rw [h]; rfl,
  fun {w vs x} h u hu => by
    cases x with
    | none => simp only at h; rw [h] at hu; simp at hu; subst hu; rfl
    | some y => obtain ⟨_, _, h, _⟩ := h; rw [h] at hu; simp at hu; subst hu; rfl,
  fun {w w' vs x} hk h => by
    cases x with
    | none => exact h
    | some y => obtain ⟨a, cs, h, h2, h3⟩ := h; exact ⟨a, cs, h, r.mono hk h2, fun i u hu => hk _ _ (h3 i u hu)⟩⟩

/- ---- owned: cells and the blocks that hang on them ---- -/
def All3 {α β γ : Type} (R : α → β → γ → Prop) : List α → List β → List γ → Prop
  | [], [], [] => True
  | a :: r, b :: s, c :: t => R a b c ∧ All3 R r s t
  | _, _, _ => False
structure OT (α : Type) where
  sz : Nat
  rep : World → List Value → α → Hp → Prop
  fz : RT α
  fsz : fz.sz = sz
  frz : ∀ {w w' vs x hs}, rep w vs x hs → Keeps w w' → (∀ y ∈ hs, w'.heap[y.1]? = some y.2) → fz.rep w' vs x
  mono : ∀ {w w' vs x hs}, Keeps w w' → rep w vs x hs → rep w' vs x hs
  cells : ∀ {w vs x hs}, rep w vs x hs → vs.length = sz ∧ ∀ u ∈ vs, u.oneCell' = true
def OT.fr {α : Type} (r : RT α) : OT α := ⟨r.sz, fun w vs x hs => r.rep w vs x ∧ hs = [], r, rfl, fun h hk _ => r.mono hk h.1, fun hk h => ⟨r.mono hk h.1, h.2⟩, fun h => ⟨r.len h.1, r.one h.1⟩⟩
section
variable {α β γ : Type} {R S : α → β → γ → Prop}
theorem All3.imp (hi : ∀ a b c, R a b c → S a b c) : ∀ {l : List α} {m : List β} {q : List γ}, All3 R l m q → All3 S l m q
  | [], [], [], _ => trivial
  | _ :: _, _ :: _, _ :: _, h => ⟨hi _ _ _ h.1, All3.imp hi h.2⟩
theorem All3.len : ∀ {l : List α} {m : List β} {q : List γ}, All3 R l m q → l.length = m.length ∧ q.length = m.length
  | [], [], [], _ => ⟨rfl, rfl⟩
  | _ :: _, _ :: _, _ :: _, h => by simp [All3.len h.2]
theorem All3.get : ∀ {l : List α} {m : List β} {q : List γ}, All3 R l m q → ∀ {j : Nat} {b : β}, m[j]? = some b → ∃ a c, l[j]? = some a ∧ q[j]? = some c ∧ R a b c
  | [], [], [], _, j, b, hb => by simp at hb
  | a :: r, x :: s, c :: t, h, 0, b, hb => by simp at hb; subst hb; exact ⟨a, c, rfl, rfl, h.1⟩
  | a :: r, x :: s, c :: t, h, j + 1, b, hb => by
    obtain ⟨a', c', h1, h2, h3⟩ := All3.get h.2 (j := j) (b := b) (by simpa using hb)
    exact ⟨a', c', by simpa using h1, by simpa using h2, h3⟩
theorem All3.set : ∀ {l : List α} {m : List β} {q : List γ}, All3 R l m q → ∀ (j : Nat) {a : α} {b : β} {c : γ}, R a b c → All3 R (l.set j a) (m.set j b) (q.set j c)
  | [], [], [], _, _, _, _, _, _ => trivial
  | _ :: _, _ :: _, _ :: _, h, 0, _, _, _, hr => ⟨hr, h.2⟩
  | _ :: _, _ :: _, _ :: _, h, j + 1, _, _, _, hr => ⟨h.1, All3.set h.2 j hr⟩
theorem All3.append : ∀ {l : List α} {m : List β} {q : List γ}, All3 R l m q → ∀ {l' : List α} {m' : List β} {q' : List γ}, All3 R l' m' q' → All3 R (l ++ l') (m ++ m') (q ++ q')
  | [], [], [], _, _, _, _, h => h
  | _ :: _, _ :: _, _ :: _, h, _, _, _, h' => ⟨h.1, All3.append h.2 h'⟩
theorem All3.drop : ∀ {l : List α} {m : List β} {q : List γ}, All3 R l m q → ∀ j : Nat, All3 R (l.drop j) (m.drop j) (q.drop j)
  | [], [], [], _, _ => by simp [All3]
  | _ :: _, _ :: _, _ :: _, h, 0 => h
  | _ :: _, _ :: _, _ :: _, h, j + 1 => All3.drop h.2 j
theorem All3.take : ∀ {l : List α} {m : List β} {q : List γ}, All3 R l m q → ∀ j : Nat, All3 R (l.take j) (m.take j) (q.take j)
  | [], [], [], _, _ => by simp [All3]
  | _ :: _, _ :: _, _ :: _, _, 0 => by simp [All3]
  | _ :: _, _ :: _, _ :: _, h, j + 1 => ⟨h.1, All3.take h.2 j⟩
end
theorem all3_of2 {α : Type} {r : RT α} {w : World} : ∀ {css : List (List Value)} {l : List α}, All2 (r.rep w) css l → All3 ((OT.fr r).rep w) css l (List.replicate l.length [])
  | [], [], _ => trivial
  | _ :: _, _ :: _, h => ⟨⟨h.1, rfl⟩, all3_of2 h.2⟩
theorem all3_fr {α : Type} {r : RT α} {w : World} : ∀ {css : List (List Value)} {l : List α} {hss : List Hp}, All3 ((OT.fr r).rep w) css l hss → All2 (r.rep w) css l ∧ hss.flatten = []
  | [], [], [], _ => ⟨trivial, rfl⟩
  | _ :: _, _ :: _, _ :: _, h => by
    obtain ⟨h1, h2⟩ := all3_fr h.2
    exact ⟨⟨h.1.1, h1⟩, by rw [List.flatten_cons, h.1.2, h2]; rfl⟩
theorem all3_flat {α : Type} {o : OT α} {w : World} : ∀ {css : List (List Value)} {l : List α} {hss : List Hp}, All3 (o.rep w) css l hss → css.flatten.length = l.length * o.sz ∧ ∀ u ∈ css.flatten, u.oneCell' = true
  | [], [], [], _ => by simp
  | c :: r', x :: s, q :: t, h => by
    obtain ⟨h1, h2⟩ := all3_flat h.2
    have h3 := o.cells h.1
    refine ⟨by rw [List.flatten_cons, List.length_append, h3.1, h1, List.length_cons, Nat.add_mul]; omega, fun u hu => ?_⟩
    rw [List.flatten_cons, List.mem_append] at hu
    rcases hu with hu | hu
    · exact h3.2 u hu
    · exact h2 u hu
theorem all3_fz {α : Type} {o : OT α} {w w' : World} (hk : Keeps w w') : ∀ {css : List (List Value)} {l : List α} {hss : List Hp}, All3 (o.rep w) css l hss → (∀ y ∈ hss.flatten, w'.heap[y.1]? = some y.2) → All2 (o.fz.rep w') css l
  | [], [], [], _, _ => trivial
  | c :: r', x :: s, q :: t, h, hb => ⟨o.frz h.1 hk (fun y hy => hb y (by rw [List.flatten_cons]; exact List.mem_append_left _ hy)), all3_fz hk h.2 (fun y hy => hb y (by rw [List.flatten_cons]; exact List.mem_append_right _ hy))⟩
/-- A slice of the call's own. -/
def OS {α : Type} (el : TypeId) (o : OT α) (w : World) (v : Value) (l : List α) (hs : Hp) : Prop :=
  ∃ (css : List (List Value)) (hss : List Hp) (hq : Hp), Seg el o.sz v l.length css.flatten hq ∧ All3 (o.rep w) css l hss ∧ hs = hq ++ hss.flatten
theorem OS.mono {α : Type} {el : TypeId} {o : OT α} {w w' : World} {v : Value} {l : List α} {hs : Hp} (h : OS el o w v l hs) (hk : Keeps w w') : OS el o w' v l hs := by
  obtain ⟨css, hss, hq, h1, h2, h3⟩ := h
  exact ⟨css, hss, hq, h1, h2.imp fun _ _ _ h => o.mono hk h, h3⟩
theorem OS.le {α : Type} {el : TypeId} {o : OT α} {b b' : Base} {v : Value} {l : List α} {hs : Hp} (h : OS el o b.w v l hs) (hle : b.Le b') : OS el o b'.w v l hs := h.mono hle.cells
theorem OS.form {α : Type} {el : TypeId} {o : OT α} {w : World} {v : Value} {l : List α} {hs : Hp} (h : OS el o w v l hs) : ∃ A c, v = .slice A l.length c ∧ l.length ≤ c ∧ c ≤ 9223372036854775807 := by
  obtain ⟨css, hss, hq, h1, h2, h3⟩ := h
  have hmx : maxLen = 9223372036854775807 := by decide
  rcases h1 with ⟨A, hv, h, _, _⟩ | ⟨g, cap, pr, tl, hv, _, _, _, h5, h6⟩
  · exact ⟨A, 0, by rw [h]; exact hv, by omega, by omega⟩
  · exact ⟨_, cap, hv, by omega, by omega⟩
theorem OS.nil {α : Type} {el : TypeId} {o : OT α} {w : World} {A : Option Addr} : OS el o w (.slice A 0 0) [] [] := ⟨[], [], [], Seg.nil, trivial, rfl⟩
theorem OS.frz {α : Type} {el : TypeId} {o : OT α} {w w' : World} {A : Option Addr} {c : Nat} {l : List α} {hs : Hp} (h : OS el o w (.slice A l.length c) l hs) (hk : Keeps w w') (hb : ∀ y ∈ hs, w'.heap[y.1]? = some y.2) : FZ o.fz w' A c l := by
  obtain ⟨B, d, hv, hl⟩ := h.form
  injection hv with _ _ hv
  subst hv
  obtain ⟨css, hss, hq, h1, h2, h3⟩ := h
  subst h3
  exact ⟨hl, css, h1.rd (fun y hy => hb y (List.mem_append_left _ hy)), all3_fz hk h2 (fun y hy => hb y (List.mem_append_right _ hy))⟩
/-- As the memory at hand reads. -/
theorem OS.now {α : Type} {el : TypeId} {o : OT α} {b : Base} {w : World} {hp : Hp} {A : Option Addr} {c : Nat} {l : List α} {hs : Hp} (h : OS el o b.w (.slice A l.length c) l hs) (ho : Own b hp w) (hh : hs.Sublist hp) : FZ o.fz w A c l :=
  h.frz ho.keeps (fun y hy => (ho.blk y.1 y.2 (hh.subset hy)).2)
def OT.list {α : Type} (el : TypeId) (o : OT α) : OT (List α) := ⟨1, fun w vs l hs => ∃ v, vs = [v] ∧ OS el o w v l hs, RT.list o.fz, rfl,
  fun ⟨v, h1, h2⟩ hk hb => by
    obtain ⟨A, c, hv, _⟩ := h2.form
    subst hv
    exact ⟨A, c, h1, h2.frz hk hb⟩,
  fun hk ⟨v, h1, h2⟩ => ⟨v, h1, h2.mono hk⟩,
  fun ⟨v, h1, h2⟩ => by
    obtain ⟨A, c, hv, _⟩ := h2.form
    subst hv
    subst h1
    exact ⟨rfl, fun u hu => by simp at hu; subst hu; rfl⟩⟩
end Go.Fp
