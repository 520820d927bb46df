/- Structs that hold slices of themselves: what cells stand for, as a least fixed point. -/
import Derived.Test.YtiajmiigkjmakaaGreatDoorXG
set_option linter.unusedVariables false
set_option linter.unusedSimpArgs false
namespace Go.Fp
open Go.RowKit
def RLe {α : Type} (r s : RT α) : Prop := r.sz = s.sz ∧ ∀ w vs x, r.rep w vs x → s.rep w vs x
theorem RLe.refl {α : Type} (r : RT α) : RLe r r := ⟨rfl, fun _ _ _ h => h⟩
theorem RLe.trans {α : Type} {r s t : RT α} (h1 : RLe r s) (h2 : RLe s t) : RLe r t := ⟨h1.1.trans h2.1, fun w vs x h => h2.2 _ _ _ (h1.2 _ _ _ h)⟩
theorem FZ.rle {α : Type} {r s : RT α} (h : RLe r s) {w : World} {A : Option Addr} {c : Nat} {l : List α} (hf : FZ r w A c l) : FZ s w A c l := by
  obtain ⟨hl, css, h1, h2⟩ := hf
  exact ⟨hl, css, h1, h2.imp fun _ _ h' => h.2 _ _ _ h'⟩
structure Cont {α β : Type} (f : RT α → RT β) : Prop where
  mono : ∀ r s, RLe r s → RLe (f r) (f s)
  sup : ∀ (c : Nat → RT α) (s : RT α), (∀ n, RLe (c n) (c (n + 1))) → (∀ n, RLe (c n) s) → (∀ w vs x, s.rep w vs x → ∃ n, (c n).rep w vs x) → ∀ w vs x, (f s).rep w vs x → ∃ n, (f (c n)).rep w vs x
theorem chain_le {α : Type} {c : Nat → RT α} (hc : ∀ n, RLe (c n) (c (n + 1))) (m : Nat) : ∀ n, m ≤ n → RLe (c m) (c n) := by
  intro n h
  induction n with
  | zero =>
    obtain rfl : m = 0 := by omega
    exact .refl _
  | succ n ih =>
    rcases Nat.lt_or_ge m (n + 1) with h' | h'
    · exact (ih (by omega)).trans (hc n)
    · obtain rfl : m = n + 1 := by omega
      exact .refl _
theorem Cont.const {α β : Type} (t : RT β) : Cont (fun _ : RT α => t) := ⟨fun _ _ _ => .refl _, fun _ _ _ _ _ _ _ _ h => ⟨0, h⟩⟩
theorem Cont.id {α : Type} : Cont (fun r : RT α => r) := ⟨fun _ _ h => h, fun _ _ _ _ h _ _ _ h' => h _ _ _ h'⟩
theorem Cont.on {α β γ : Type} {f : RT α → RT β} (g : γ → β) (h : Cont f) : Cont (fun r => RT.on (f r) g) :=
  ⟨fun r s hl => ⟨(h.mono r s hl).1, fun w vs x h' => (h.mono r s hl).2 _ _ _ h'⟩, fun c s h1 h2 h3 w vs x h' => h.sup c s h1 h2 h3 w vs (g x) h'⟩
theorem Cont.cat {α β : Type} {f g : RT α → RT β} (h1 : Cont f) (h2 : Cont g) : Cont (fun r => RT.cat (f r) (g r)) := by
  refine ⟨fun r s hl => ⟨?_, fun w vs x h => ?_⟩, fun c s c1 c2 c3 w vs x h => ?_⟩
  · show (f r).sz + (g r).sz = (f s).sz + (g s).sz
    rw [(h1.mono r s hl).1, (h2.mono r s hl).1]
  · obtain ⟨a, b, e, p, q⟩ := h
    exact ⟨a, b, e, (h1.mono r s hl).2 _ _ _ p, (h2.mono r s hl).2 _ _ _ q⟩
  · obtain ⟨a, b, e, p, q⟩ := h
    obtain ⟨m, p⟩ := h1.sup c s c1 c2 c3 _ _ _ p
    obtain ⟨n, q⟩ := h2.sup c s c1 c2 c3 _ _ _ q
    exact ⟨m + n, a, b, e, (h1.mono _ _ (chain_le c1 m (m + n) (by omega))).2 _ _ _ p, (h2.mono _ _ (chain_le c1 n (m + n) (by omega))).2 _ _ _ q⟩
theorem all2_sup {α : Type} {c : Nat → RT α} {w : World} (hc : ∀ n, RLe (c n) (c (n + 1))) {S : List Value → α → Prop} (hs : ∀ vs x, S vs x → ∃ n, (c n).rep w vs x) :
    ∀ {css : List (List Value)} {l : List α}, All2 S css l → ∃ n, All2 ((c n).rep w) css l
  | [], [], _ => ⟨0, trivial⟩
  | a :: r, b :: s, h => by
    obtain ⟨m, hm⟩ := hs _ _ h.1
    obtain ⟨n, hn⟩ := all2_sup hc hs h.2
    exact ⟨m + n, (chain_le hc m (m + n) (by omega)).2 _ _ _ hm, hn.imp fun _ _ h' => (chain_le hc n (m + n) (by omega)).2 _ _ _ h'⟩
theorem Cont.list {α β : Type} {f : RT α → RT β} (h : Cont f) : Cont (fun r => RT.list (f r)) := by
  refine ⟨fun r s hl => ⟨rfl, fun w vs x h' => ?_⟩, fun c s c1 c2 c3 w vs x h' => ?_⟩
  · obtain ⟨A, cc, e, hf⟩ := h'
    exact ⟨A, cc, e, hf.rle (h.mono r s hl)⟩
  · obtain ⟨A, cc, e, hb, css, hr, ha⟩ := h'
    obtain ⟨n, hn⟩ := all2_sup (c := fun n => f (c n)) (fun n => h.mono _ _ (c1 n)) (fun vs y hy => h.sup c s c1 c2 c3 w vs y hy) ha
    exact ⟨n, A, cc, e, hb, css, hr, hn⟩
def RT.bot (α : Type) (k : Nat) : RT α := ⟨k, fun _ _ _ => False, fun h => h.elim, fun h => h.elim, fun _ h => h⟩
def RT.it {α : Type} (f : RT α → RT α) (k : Nat) : Nat → RT α
  | 0 => RT.bot α k
  | n + 1 => f (RT.it f k n)
theorem it_sz {α : Type} {f : RT α → RT α} {k : Nat} (hk : ∀ r, (f r).sz = k) : ∀ n, (RT.it f k n).sz = k
  | 0 => rfl
  | _ + 1 => hk _
def RT.fix {α : Type} (f : RT α → RT α) (k : Nat) (hk : ∀ r, (f r).sz = k) : RT α := ⟨k, fun w vs x => ∃ n, (RT.it f k n).rep w vs x,
  fun ⟨n, h⟩ => ((RT.it f k n).len h).trans (it_sz hk n), fun ⟨n, h⟩ => (RT.it f k n).one h, fun hm ⟨n, h⟩ => ⟨n, (RT.it f k n).mono hm h⟩⟩
theorem it_chain {α : Type} {f : RT α → RT α} {k : Nat} (hk : ∀ r, (f r).sz = k) (hc : Cont f) : ∀ n, RLe (RT.it f k n) (RT.it f k (n + 1))
  | 0 => ⟨(hk _).symm, fun _ _ _ h => h.elim⟩
  | n + 1 => hc.mono _ _ (it_chain hk hc n)
theorem it_fix {α : Type} {f : RT α → RT α} {k : Nat} (hk : ∀ r, (f r).sz = k) (n : Nat) : RLe (RT.it f k n) (RT.fix f k hk) := ⟨it_sz hk n, fun _ _ _ h => ⟨n, h⟩⟩
theorem fix_out {α : Type} {f : RT α → RT α} {k : Nat} (hk : ∀ r, (f r).sz = k) (hc : Cont f) : RLe (RT.fix f k hk) (f (RT.fix f k hk)) := ⟨(hk _).symm, fun w vs x ⟨n, h⟩ => by
  cases n with
  | zero => exact h.elim
  | succ n => exact (hc.mono _ _ (it_fix hk n)).2 _ _ _ h⟩
theorem fix_in {α : Type} {f : RT α → RT α} {k : Nat} (hk : ∀ r, (f r).sz = k) (hc : Cont f) : RLe (f (RT.fix f k hk)) (RT.fix f k hk) := ⟨hk _, fun w vs x h => by
  obtain ⟨n, h⟩ := hc.sup (RT.it f k) (RT.fix f k hk) (it_chain hk hc) (it_fix hk) (fun _ _ _ h => h) _ _ _ h
  exact ⟨n + 1, h⟩⟩
end Go.Fp
