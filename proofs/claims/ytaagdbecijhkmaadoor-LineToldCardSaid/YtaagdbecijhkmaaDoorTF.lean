/- Plain: a line of a net, read. -/
import Derived.Test.YtaagdbecijhkmaaDoorTE
set_option linter.unusedVariables false
set_option linter.unusedSimpArgs false
namespace Go.Proofs.YtaagdbecijhkmaaDoor
open Go.RowKit Go.Fp

theorem pass6 {β γ δ ε ζ η τ : Type} {A : β → γ → δ → ε → ζ → η → Option τ} {a : β} {b : γ} {c : δ} {d : ε} {e : ζ} {f : η} : unc6 A (a, b, c, d, e, f) = A a b c d e f := rfl
theorem passE {α β γ δ : Type} {A : β → γ → Option δ} {B : α → Option δ} {y : β} {z : γ} : ((some (.inl (y, z)) : Option ((β × γ) ⊕ α)).bind fun t => Sum.elim (unc2 A) B t) = A y z := rfl
theorem passL {α β δ : Type} {A : β → Option δ} {B : α → Option δ} {y : β} : ((some (.inl y) : Option (β ⊕ α)).bind fun t => Sum.elim A B t) = A y := rfl
theorem passR {α β δ : Type} {A : β → Option δ} {B : α → Option δ} {y : α} : ((some (.inr y) : Option (β ⊕ α)).bind fun t => Sum.elim A B t) = B y := rfl
theorem cut_tail (x : ByteArray) (r : List ByteArray) (h : r.length ≤ 1000) : cutS (x :: r) 1 ((x :: r).length : Int) = some r := by
  have := cutS_ok (l := x :: r) (a := 1) (b := (x :: r).length) (by simp) (Nat.le_refl _)
  rw [show ((1 : Nat) : Int) = 1 from rfl] at this
  rw [this, List.take_of_length_le (Nat.le_refl _)]
  rfl
theorem cut_last (r : List ByteArray) (x : ByteArray) (h : r.length ≤ 1000) : cutS (r ++ [x]) 0 (((r ++ [x]).length : Int) - 1) = some r := by
  have := cutS_ok (l := r ++ [x]) (a := 0) (b := r.length) (by omega) (by simp)
  rw [show (((r ++ [x]).length : Int) - 1) = ((r.length : Nat) : Int) by simp]
  rw [show ((0 : Nat) : Int) = 0 from rfl] at this
  rw [this, List.take_left]
  rfl
theorem idx_last (r : List ByteArray) (x : ByteArray) : idx (r ++ [x]) (((r ++ [x]).length : Int) - 1) = some x := by
  rw [show (((r ++ [x]).length : Int) - 1) = ((r.length : Nat) : Int) by simp]
  exact idx_nat (by simp)
/-- What is left of a line behind its kind, and behind the last word of a section. -/
noncomputable def line2 (x2322 : ByteArray) (l31 : List ByteArray) (l33 : List ApiSection) (l35 : List ApiLink) (l37 : List ApiSignal) (l39 : List ApiGate) (l2508 : List ByteArray) (x2509 : Bool) : Option (Int × (List ByteArray) × (List ApiSection) × (List ApiLink) × (List ApiSignal) × (List ApiGate)) :=
  (mLineNumbers l2508).bind (unc2 fun x2561 l2562 =>
  (some (mgetD (mput (mput (mput (mput (mput (mput ([] : (List (ByteArray × Int))) (ByteArray.mk #[112, 108, 97, 105, 110]) 4) (ByteArray.mk #[112, 111, 105, 110, 116, 115]) 4) (ByteArray.mk #[99, 114, 111, 115, 115]) 2) (ByteArray.mk #[108, 105, 110, 107]) 4) (ByteArray.mk #[115, 105, 103, 110, 97, 108]) 2) (ByteArray.mk #[103, 97, 116, 101]) 2) x2322 0)).bind fun x2594 =>
  (if x2561 = true then (
  if (mhas (mput (mput (mput (mput (mput (mput ([] : (List (ByteArray × Int))) (ByteArray.mk #[112, 108, 97, 105, 110]) 4) (ByteArray.mk #[112, 111, 105, 110, 116, 115]) 4) (ByteArray.mk #[99, 114, 111, 115, 115]) 2) (ByteArray.mk #[108, 105, 110, 107]) 4) (ByteArray.mk #[115, 105, 103, 110, 97, 108]) 2) (ByteArray.mk #[103, 97, 116, 101]) 2) x2322) = true then (
  some (decide ((l2562.length : Int) ≠ x2594)))
  else (
  some true))
  else (
  some true)).bind (fun x2601 =>
  if x2601 = true then (
  some ((-1), l31, l33, l35, l37, l39))
  else (
  (if (sEq x2322 (ByteArray.mk #[112, 108, 97, 105, 110])) = true then (
  (idx l2562 0).bind fun x3626 =>
  (idx l2562 1).bind fun x3642 =>
  (idx l2562 2).bind fun x3658 =>
  (idx l2562 3).bind fun x3674 =>
  some (.inl (1, x3626, x3642, x3658, 0, x3674)))
  else (
  if (sEq x2322 (ByteArray.mk #[112, 111, 105, 110, 116, 115])) = true then (
  (idx l2562 0).bind fun x3755 =>
  (idx l2562 1).bind fun x3771 =>
  (idx l2562 2).bind fun x3787 =>
  (idx l2562 3).bind fun x3803 =>
  some (.inl (2, x3755, x3771, x3787, x3803, 0)))
  else (
  if (sEq x2322 (ByteArray.mk #[99, 114, 111, 115, 115])) = true then (
  (idx l2562 0).bind fun x3852 =>
  (idx l2562 1).bind fun x3868 =>
  some (.inl (3, x3852, 0, x3868, 0, 0)))
  else (
  if (sEq x2322 (ByteArray.mk #[108, 105, 110, 107])) = true then (
  ((idx l2562 0).bind fun x4105 =>
  (idx l2562 1).bind fun x4121 =>
  (idx l2562 2).bind fun x4137 =>
  (idx l2562 3).bind fun x4153 =>
  (room 32 (l35.length + 1)).bind fun _ =>
  some (l35 ++ [(⟨x4105, x4121, x4137, x4153⟩ : ApiLink)])).bind (fun l4032 =>
  some (.inr (2, l31, l33, l4032, l37, l39))))
  else (
  if (sEq x2322 (ByteArray.mk #[115, 105, 103, 110, 97, 108])) = true then (
  ((idx l2562 0).bind fun x4305 =>
  (idx l2562 1).bind fun x4321 =>
  (room 16 (l37.length + 1)).bind fun _ =>
  some (l37 ++ [(⟨x4305, x4321⟩ : ApiSignal)])).bind (fun l4264 =>
  some (.inr (3, l31, l33, l35, l4264, l39))))
  else (
  if (sEq x2322 (ByteArray.mk #[103, 97, 116, 101])) = true then (
  ((idx l2562 0).bind fun x4473 =>
  (idx l2562 1).bind fun x4489 =>
  (room 16 (l39.length + 1)).bind fun _ =>
  some (l39 ++ [(⟨x4473, x4489⟩ : ApiGate)])).bind (fun l4432 =>
  some (.inr (4, l31, l33, l35, l37, l4432))))
  else (
  some (.inl (0, 0, 0, 0, 0, 0))))))))).bind fun t => Sum.elim (unc6 fun x3553 x3554 x3555 x3556 x3557 x3558 =>
  ((room 56 (l33.length + 1)).bind fun _ =>
  some (l33 ++ [(⟨x3553, x3554, x3555, x3556, x3557, x3558, x2509⟩ : ApiSection)])).bind (fun l4536 =>
  some (1, l31, l4536, l35, l37, l39))) (fun r4555 => some r4555) t)))
section
variable (S : List ByteArray) (Se : List ApiSection) (L : List ApiLink) (Si : List ApiSignal) (G : List ApiGate)
theorem eqk {a b : List UInt8} (h : a ≠ b) : sEq (bs a) (bs b) = false := by rw [sEq_bs, decide_eq_false h]
theorem eqs (a : List UInt8) : sEq (bs a) (bs a) = true := by rw [sEq_bs, decide_eq_true rfl]
theorem line_other (k : List UInt8) (r : List ByteArray) (hr : r.length ≤ 1000) (h1 : k ≠ kStation) (h2 : k ≠ kPlain) (h3 : k ≠ kPoints) (h4 : k ≠ kCross) :
    mLineLine (bs k :: r) S Se L Si G = line2 (bs k) S Se L Si G r false := by
  unfold mLineLine
  rw [show idx (bs k :: r) 0 = some (bs k) from rfl, Option.bind_some, cut_tail _ _ hr, Option.bind_some]
  rw [show (ByteArray.mk #[115, 116, 97, 116, 105, 111, 110]) = bs kStation from rfl, show sEq (bs k) (ByteArray.mk #[112, 108, 97, 105, 110]) = false from eqk h2, show sEq (bs k) (ByteArray.mk #[112, 111, 105, 110, 116, 115]) = false from eqk h3, show sEq (bs k) (ByteArray.mk #[99, 114, 111, 115, 115]) = false from eqk h4, eqk h1]
  rw [if_neg (by decide), if_neg (by decide), if_neg (by decide), Option.bind_some, if_neg (by decide), passE]
  unfold line2
  rw [show sEq (bs k) (ByteArray.mk #[112, 108, 97, 105, 110]) = false from eqk h2, show sEq (bs k) (ByteArray.mk #[112, 111, 105, 110, 116, 115]) = false from eqk h3, show sEq (bs k) (ByteArray.mk #[99, 114, 111, 115, 115]) = false from eqk h4]
theorem line_sec (k : List UInt8) (r : List ByteArray) (a : Bool) (hr : r.length ≤ 900) (hk : k = kPlain ∨ k = kPoints ∨ k = kCross) :
    mLineLine (bs k :: (r ++ [bs (ax a)])) S Se L Si G = line2 (bs k) S Se L Si G r a := by
  have h1 : k ≠ kStation := by rcases hk with rfl | rfl | rfl <;> decide
  have hb : (if (sEq (bs k) (ByteArray.mk #[112, 108, 97, 105, 110])) = true then some true else if (sEq (bs k) (ByteArray.mk #[112, 111, 105, 110, 116, 115])) = true then some true else some (sEq (bs k) (ByteArray.mk #[99, 114, 111, 115, 115]))) = some true := by
    rw [show (ByteArray.mk #[112, 108, 97, 105, 110]) = bs kPlain from rfl, show (ByteArray.mk #[112, 111, 105, 110, 116, 115]) = bs kPoints from rfl, show (ByteArray.mk #[99, 114, 111, 115, 115]) = bs kCross from rfl]
    rcases hk with rfl | rfl | rfl
    · rw [eqs, if_pos rfl]
    · rw [eqk (by decide), if_neg (by decide), eqs, if_pos rfl]
    · rw [eqk (by decide), if_neg (by decide), eqk (by decide), if_neg (by decide), eqs]
  have ha : sEq (bs (ax a)) (ByteArray.mk #[97, 120, 108, 101, 115]) = a := by
    rw [show (ByteArray.mk #[97, 120, 108, 101, 115]) = bs kAxles from rfl]
    cases a
    · exact eqk (by decide)
    · exact eqs _
  have hc : (if a = true then some false else some (!(sEq (bs (ax a)) (ByteArray.mk #[99, 105, 114, 99, 117, 105, 116])))) = some false := by
    rw [show (ByteArray.mk #[99, 105, 114, 99, 117, 105, 116]) = bs kCircuit from rfl]
    cases a
    · rw [if_neg (by decide), show ax false = kCircuit from rfl, eqs]
      rfl
    · rfl
  have hn : ((r ++ [bs (ax a)]).length : Int) = (r.length : Int) + 1 := by rw [List.length_append, List.length_singleton]; omega
  have hq : (r ++ [bs (ax a)]).length ≤ 1000 := by omega
  have hn0 : ¬ ((r ++ [bs (ax a)]).length : Int) = 0 := by omega
  have hn1 : -9223372036854775808 ≤ ((r ++ [bs (ax a)]).length : Int) - 1 := by omega
  have hn2 : ((r ++ [bs (ax a)]).length : Int) - 1 ≤ 9223372036854775807 := by omega
  unfold mLineLine
  rw [show idx (bs k :: (r ++ [bs (ax a)])) 0 = some (bs k) from rfl, Option.bind_some, cut_tail (bs k) (r ++ [bs (ax a)]) hq, Option.bind_some]
  rw [show (ByteArray.mk #[115, 116, 97, 116, 105, 111, 110]) = bs kStation from rfl, eqk h1, if_neg (by decide), hb, Option.bind_some, if_pos rfl, if_neg hn0, chk_ok hn1 hn2, Option.bind_some, idx_last, Option.bind_some, Option.bind_some, cut_last _ _ (by omega), Option.bind_some, ha, hc, Option.bind_some, if_neg (by decide), passE]
  rfl
theorem many_Plain : mgetD (mput (mput (mput (mput (mput (mput ([] : (List (ByteArray × Int))) (ByteArray.mk #[112, 108, 97, 105, 110]) 4) (ByteArray.mk #[112, 111, 105, 110, 116, 115]) 4) (ByteArray.mk #[99, 114, 111, 115, 115]) 2) (ByteArray.mk #[108, 105, 110, 107]) 4) (ByteArray.mk #[115, 105, 103, 110, 97, 108]) 2) (ByteArray.mk #[103, 97, 116, 101]) 2) (bs kPlain) 0 = 4 ∧ mhas (mput (mput (mput (mput (mput (mput ([] : (List (ByteArray × Int))) (ByteArray.mk #[112, 108, 97, 105, 110]) 4) (ByteArray.mk #[112, 111, 105, 110, 116, 115]) 4) (ByteArray.mk #[99, 114, 111, 115, 115]) 2) (ByteArray.mk #[108, 105, 110, 107]) 4) (ByteArray.mk #[115, 105, 103, 110, 97, 108]) 2) (ByteArray.mk #[103, 97, 116, 101]) 2) (bs kPlain) = true := by decide +kernel
theorem many_Points : mgetD (mput (mput (mput (mput (mput (mput ([] : (List (ByteArray × Int))) (ByteArray.mk #[112, 108, 97, 105, 110]) 4) (ByteArray.mk #[112, 111, 105, 110, 116, 115]) 4) (ByteArray.mk #[99, 114, 111, 115, 115]) 2) (ByteArray.mk #[108, 105, 110, 107]) 4) (ByteArray.mk #[115, 105, 103, 110, 97, 108]) 2) (ByteArray.mk #[103, 97, 116, 101]) 2) (bs kPoints) 0 = 4 ∧ mhas (mput (mput (mput (mput (mput (mput ([] : (List (ByteArray × Int))) (ByteArray.mk #[112, 108, 97, 105, 110]) 4) (ByteArray.mk #[112, 111, 105, 110, 116, 115]) 4) (ByteArray.mk #[99, 114, 111, 115, 115]) 2) (ByteArray.mk #[108, 105, 110, 107]) 4) (ByteArray.mk #[115, 105, 103, 110, 97, 108]) 2) (ByteArray.mk #[103, 97, 116, 101]) 2) (bs kPoints) = true := by decide +kernel
theorem many_Cross : mgetD (mput (mput (mput (mput (mput (mput ([] : (List (ByteArray × Int))) (ByteArray.mk #[112, 108, 97, 105, 110]) 4) (ByteArray.mk #[112, 111, 105, 110, 116, 115]) 4) (ByteArray.mk #[99, 114, 111, 115, 115]) 2) (ByteArray.mk #[108, 105, 110, 107]) 4) (ByteArray.mk #[115, 105, 103, 110, 97, 108]) 2) (ByteArray.mk #[103, 97, 116, 101]) 2) (bs kCross) 0 = 2 ∧ mhas (mput (mput (mput (mput (mput (mput ([] : (List (ByteArray × Int))) (ByteArray.mk #[112, 108, 97, 105, 110]) 4) (ByteArray.mk #[112, 111, 105, 110, 116, 115]) 4) (ByteArray.mk #[99, 114, 111, 115, 115]) 2) (ByteArray.mk #[108, 105, 110, 107]) 4) (ByteArray.mk #[115, 105, 103, 110, 97, 108]) 2) (ByteArray.mk #[103, 97, 116, 101]) 2) (bs kCross) = true := by decide +kernel
theorem many_Link : mgetD (mput (mput (mput (mput (mput (mput ([] : (List (ByteArray × Int))) (ByteArray.mk #[112, 108, 97, 105, 110]) 4) (ByteArray.mk #[112, 111, 105, 110, 116, 115]) 4) (ByteArray.mk #[99, 114, 111, 115, 115]) 2) (ByteArray.mk #[108, 105, 110, 107]) 4) (ByteArray.mk #[115, 105, 103, 110, 97, 108]) 2) (ByteArray.mk #[103, 97, 116, 101]) 2) (bs kLink) 0 = 4 ∧ mhas (mput (mput (mput (mput (mput (mput ([] : (List (ByteArray × Int))) (ByteArray.mk #[112, 108, 97, 105, 110]) 4) (ByteArray.mk #[112, 111, 105, 110, 116, 115]) 4) (ByteArray.mk #[99, 114, 111, 115, 115]) 2) (ByteArray.mk #[108, 105, 110, 107]) 4) (ByteArray.mk #[115, 105, 103, 110, 97, 108]) 2) (ByteArray.mk #[103, 97, 116, 101]) 2) (bs kLink) = true := by decide +kernel
theorem many_Signal : mgetD (mput (mput (mput (mput (mput (mput ([] : (List (ByteArray × Int))) (ByteArray.mk #[112, 108, 97, 105, 110]) 4) (ByteArray.mk #[112, 111, 105, 110, 116, 115]) 4) (ByteArray.mk #[99, 114, 111, 115, 115]) 2) (ByteArray.mk #[108, 105, 110, 107]) 4) (ByteArray.mk #[115, 105, 103, 110, 97, 108]) 2) (ByteArray.mk #[103, 97, 116, 101]) 2) (bs kSignal) 0 = 2 ∧ mhas (mput (mput (mput (mput (mput (mput ([] : (List (ByteArray × Int))) (ByteArray.mk #[112, 108, 97, 105, 110]) 4) (ByteArray.mk #[112, 111, 105, 110, 116, 115]) 4) (ByteArray.mk #[99, 114, 111, 115, 115]) 2) (ByteArray.mk #[108, 105, 110, 107]) 4) (ByteArray.mk #[115, 105, 103, 110, 97, 108]) 2) (ByteArray.mk #[103, 97, 116, 101]) 2) (bs kSignal) = true := by decide +kernel
theorem many_Gate : mgetD (mput (mput (mput (mput (mput (mput ([] : (List (ByteArray × Int))) (ByteArray.mk #[112, 108, 97, 105, 110]) 4) (ByteArray.mk #[112, 111, 105, 110, 116, 115]) 4) (ByteArray.mk #[99, 114, 111, 115, 115]) 2) (ByteArray.mk #[108, 105, 110, 107]) 4) (ByteArray.mk #[115, 105, 103, 110, 97, 108]) 2) (ByteArray.mk #[103, 97, 116, 101]) 2) (bs kGate) 0 = 2 ∧ mhas (mput (mput (mput (mput (mput (mput ([] : (List (ByteArray × Int))) (ByteArray.mk #[112, 108, 97, 105, 110]) 4) (ByteArray.mk #[112, 111, 105, 110, 116, 115]) 4) (ByteArray.mk #[99, 114, 111, 115, 115]) 2) (ByteArray.mk #[108, 105, 110, 107]) 4) (ByteArray.mk #[115, 105, 103, 110, 97, 108]) 2) (ByteArray.mk #[103, 97, 116, 101]) 2) (bs kGate) = true := by decide +kernel
theorem l2_Plain (ws : List ByteArray) (ax_ : Bool) (a b c d : Int) (hw : mLineNumbers ws = some (true, [a, b, c, d])) (hr : room 56 (Se.length + 1) = some ()) :
    line2 (bs kPlain) S Se L Si G ws ax_ = some (1, S, Se ++ [⟨1, a, b, c, 0, d, ax_⟩], L, Si, G) := by
  unfold line2
  rw [hw, pass2, many_Plain.1, Option.bind_some, if_pos rfl, many_Plain.2, if_pos rfl, Option.bind_some, if_neg (by simp)]
  rw [show (ByteArray.mk #[112, 108, 97, 105, 110]) = bs kPlain from rfl, (eqs kPlain : sEq (bs kPlain) (bs kPlain) = true), if_pos rfl]
  rw [show idx [a, b, c, d] 0 = some a from rfl, Option.bind_some, show idx [a, b, c, d] 1 = some b from rfl, Option.bind_some, show idx [a, b, c, d] 2 = some c from rfl, Option.bind_some, show idx [a, b, c, d] 3 = some d from rfl, Option.bind_some]
  rw [passL, pass6, hr, Option.bind_some, Option.bind_some]
theorem l2_Points (ws : List ByteArray) (ax_ : Bool) (a b c d : Int) (hw : mLineNumbers ws = some (true, [a, b, c, d])) (hr : room 56 (Se.length + 1) = some ()) :
    line2 (bs kPoints) S Se L Si G ws ax_ = some (1, S, Se ++ [⟨2, a, b, c, d, 0, ax_⟩], L, Si, G) := by
  unfold line2
  rw [hw, pass2, many_Points.1, Option.bind_some, if_pos rfl, many_Points.2, if_pos rfl, Option.bind_some, if_neg (by simp)]
  rw [show (ByteArray.mk #[112, 108, 97, 105, 110]) = bs kPlain from rfl, (eqk (by decide : kPoints ≠ kPlain) : sEq (bs kPoints) (bs kPlain) = false), if_neg Bool.false_ne_true, show (ByteArray.mk #[112, 111, 105, 110, 116, 115]) = bs kPoints from rfl, (eqs kPoints : sEq (bs kPoints) (bs kPoints) = true), if_pos rfl]
  rw [show idx [a, b, c, d] 0 = some a from rfl, Option.bind_some, show idx [a, b, c, d] 1 = some b from rfl, Option.bind_some, show idx [a, b, c, d] 2 = some c from rfl, Option.bind_some, show idx [a, b, c, d] 3 = some d from rfl, Option.bind_some]
  rw [passL, pass6, hr, Option.bind_some, Option.bind_some]
theorem l2_Cross (ws : List ByteArray) (ax_ : Bool) (a b : Int) (hw : mLineNumbers ws = some (true, [a, b])) (hr : room 56 (Se.length + 1) = some ()) :
    line2 (bs kCross) S Se L Si G ws ax_ = some (1, S, Se ++ [⟨3, a, 0, b, 0, 0, ax_⟩], L, Si, G) := by
  unfold line2
  rw [hw, pass2, many_Cross.1, Option.bind_some, if_pos rfl, many_Cross.2, if_pos rfl, Option.bind_some, if_neg (by simp)]
  rw [show (ByteArray.mk #[112, 108, 97, 105, 110]) = bs kPlain from rfl, (eqk (by decide : kCross ≠ kPlain) : sEq (bs kCross) (bs kPlain) = false), if_neg Bool.false_ne_true, show (ByteArray.mk #[112, 111, 105, 110, 116, 115]) = bs kPoints from rfl, (eqk (by decide : kCross ≠ kPoints) : sEq (bs kCross) (bs kPoints) = false), if_neg Bool.false_ne_true, show (ByteArray.mk #[99, 114, 111, 115, 115]) = bs kCross from rfl, (eqs kCross : sEq (bs kCross) (bs kCross) = true), if_pos rfl]
  rw [show idx [a, b] 0 = some a from rfl, Option.bind_some, show idx [a, b] 1 = some b from rfl, Option.bind_some]
  rw [passL, pass6, hr, Option.bind_some, Option.bind_some]
theorem l2_Link (ws : List ByteArray) (ax_ : Bool) (a b c d : Int) (hw : mLineNumbers ws = some (true, [a, b, c, d])) (hr : room 32 (L.length + 1) = some ()) :
    line2 (bs kLink) S Se L Si G ws ax_ = some (2, S, Se, L ++ [⟨a, b, c, d⟩], Si, G) := by
  unfold line2
  rw [hw, pass2, many_Link.1, Option.bind_some, if_pos rfl, many_Link.2, if_pos rfl, Option.bind_some, if_neg (by simp)]
  rw [show (ByteArray.mk #[112, 108, 97, 105, 110]) = bs kPlain from rfl, (eqk (by decide : kLink ≠ kPlain) : sEq (bs kLink) (bs kPlain) = false), if_neg Bool.false_ne_true, show (ByteArray.mk #[112, 111, 105, 110, 116, 115]) = bs kPoints from rfl, (eqk (by decide : kLink ≠ kPoints) : sEq (bs kLink) (bs kPoints) = false), if_neg Bool.false_ne_true, show (ByteArray.mk #[99, 114, 111, 115, 115]) = bs kCross from rfl, (eqk (by decide : kLink ≠ kCross) : sEq (bs kLink) (bs kCross) = false), if_neg Bool.false_ne_true, show (ByteArray.mk #[108, 105, 110, 107]) = bs kLink from rfl, (eqs kLink : sEq (bs kLink) (bs kLink) = true), if_pos rfl]
  rw [show idx [a, b, c, d] 0 = some a from rfl, Option.bind_some, show idx [a, b, c, d] 1 = some b from rfl, Option.bind_some, show idx [a, b, c, d] 2 = some c from rfl, Option.bind_some, show idx [a, b, c, d] 3 = some d from rfl, Option.bind_some]
  rw [hr, Option.bind_some, Option.bind_some, passR]
theorem l2_Signal (ws : List ByteArray) (ax_ : Bool) (a b : Int) (hw : mLineNumbers ws = some (true, [a, b])) (hr : room 16 (Si.length + 1) = some ()) :
    line2 (bs kSignal) S Se L Si G ws ax_ = some (3, S, Se, L, Si ++ [⟨a, b⟩], G) := by
  unfold line2
  rw [hw, pass2, many_Signal.1, Option.bind_some, if_pos rfl, many_Signal.2, if_pos rfl, Option.bind_some, if_neg (by simp)]
  rw [show (ByteArray.mk #[112, 108, 97, 105, 110]) = bs kPlain from rfl, (eqk (by decide : kSignal ≠ kPlain) : sEq (bs kSignal) (bs kPlain) = false), if_neg Bool.false_ne_true, show (ByteArray.mk #[112, 111, 105, 110, 116, 115]) = bs kPoints from rfl, (eqk (by decide : kSignal ≠ kPoints) : sEq (bs kSignal) (bs kPoints) = false), if_neg Bool.false_ne_true, show (ByteArray.mk #[99, 114, 111, 115, 115]) = bs kCross from rfl, (eqk (by decide : kSignal ≠ kCross) : sEq (bs kSignal) (bs kCross) = false), if_neg Bool.false_ne_true, show (ByteArray.mk #[108, 105, 110, 107]) = bs kLink from rfl, (eqk (by decide : kSignal ≠ kLink) : sEq (bs kSignal) (bs kLink) = false), if_neg Bool.false_ne_true, show (ByteArray.mk #[115, 105, 103, 110, 97, 108]) = bs kSignal from rfl, (eqs kSignal : sEq (bs kSignal) (bs kSignal) = true), if_pos rfl]
  rw [show idx [a, b] 0 = some a from rfl, Option.bind_some, show idx [a, b] 1 = some b from rfl, Option.bind_some]
  rw [hr, Option.bind_some, Option.bind_some, passR]
theorem l2_Gate (ws : List ByteArray) (ax_ : Bool) (a b : Int) (hw : mLineNumbers ws = some (true, [a, b])) (hr : room 16 (G.length + 1) = some ()) :
    line2 (bs kGate) S Se L Si G ws ax_ = some (4, S, Se, L, Si, G ++ [⟨a, b⟩]) := by
  unfold line2
  rw [hw, pass2, many_Gate.1, Option.bind_some, if_pos rfl, many_Gate.2, if_pos rfl, Option.bind_some, if_neg (by simp)]
  rw [show (ByteArray.mk #[112, 108, 97, 105, 110]) = bs kPlain from rfl, (eqk (by decide : kGate ≠ kPlain) : sEq (bs kGate) (bs kPlain) = false), if_neg Bool.false_ne_true, show (ByteArray.mk #[112, 111, 105, 110, 116, 115]) = bs kPoints from rfl, (eqk (by decide : kGate ≠ kPoints) : sEq (bs kGate) (bs kPoints) = false), if_neg Bool.false_ne_true, show (ByteArray.mk #[99, 114, 111, 115, 115]) = bs kCross from rfl, (eqk (by decide : kGate ≠ kCross) : sEq (bs kGate) (bs kCross) = false), if_neg Bool.false_ne_true, show (ByteArray.mk #[108, 105, 110, 107]) = bs kLink from rfl, (eqk (by decide : kGate ≠ kLink) : sEq (bs kGate) (bs kLink) = false), if_neg Bool.false_ne_true, show (ByteArray.mk #[115, 105, 103, 110, 97, 108]) = bs kSignal from rfl, (eqk (by decide : kGate ≠ kSignal) : sEq (bs kGate) (bs kSignal) = false), if_neg Bool.false_ne_true, show (ByteArray.mk #[103, 97, 116, 101]) = bs kGate from rfl, (eqs kGate : sEq (bs kGate) (bs kGate) = true), if_pos rfl]
  rw [show idx [a, b] 0 = some a from rfl, Option.bind_some, show idx [a, b] 1 = some b from rfl, Option.bind_some]
  rw [hr, Option.bind_some, Option.bind_some, passR]
theorem room_le {b : Nat} {k : Nat} (hb : b ≤ 100) (h : k ≤ 1000) : room b (k + 1) = some () := room_ok (by have := Nat.mul_le_mul (show k + 1 ≤ 1001 by omega) hb; omega) (by omega)
theorem rd_station {s : ByteArray} (h : NameOk s) (hS : S.length ≤ 1000) : mLineLine ((lnStation s).map bs) S Se L Si G = some (0, S ++ [s], Se, L, Si, G) := by
  have hs : bs s.data.toList = s := bs_self s
  have hne : s.data.toList ≠ [] := fun he => by
    have h1 := h.1.1
    have h2 : s.data.toList.length = 0 := by rw [he]; rfl
    rw [Array.length_toList] at h2
    have h3 : s.size = 0 := h2
    omega
  unfold mLineLine
  rw [show (lnStation s).map bs = bs kStation :: [bs s.data.toList] from rfl, show idx (bs kStation :: [bs s.data.toList]) 0 = some (bs kStation) from rfl, Option.bind_some, cut_tail _ _ (by simp), Option.bind_some]
  rw [show (ByteArray.mk #[115, 116, 97, 116, 105, 111, 110]) = bs kStation from rfl, eqs, if_pos rfl, if_neg (by simp), show idx [bs s.data.toList] 0 = some (bs s.data.toList) from rfl, Option.bind_some, show (ByteArray.mk #[]) = bs [] from rfl, eqk hne, Option.bind_some, if_neg Bool.false_ne_true, Option.bind_some, room_le (by decide) hS, Option.bind_some, Option.bind_some, hs]
theorem rd_section {s : ApiSection} (h : SecOk s) (hS : Se.length ≤ 1000) : mLineLine ((lnSection s).map bs) S Se L Si G = some (1, S, Se ++ [s], L, Si, G) := by
  have n1 : Num s.Length := ⟨by have := h.len; omega, by have := h.len; omega⟩
  have n2 : Num s.Grade := ⟨by have := h.grade; omega, by have := h.grade; omega⟩
  have n3 : Num s.Speed := ⟨by have := h.speed; omega, by have := h.speed; omega⟩
  have n4 : Num s.Slow := ⟨by have := h.slow; omega, by have := h.slow; omega⟩
  have n5 : Num s.Station := ⟨by have := h.stat; omega, by have := h.stat; omega⟩
  have hk := h.kind
  obtain ⟨k, a, b, c, d, e, f⟩ := s
  simp only at n1 n2 n3 n4 n5 hk
  unfold lnSection
  rcases hk with ⟨rfl, rfl⟩ | ⟨rfl, rfl⟩ | ⟨rfl, rfl, rfl, rfl⟩
  · rw [if_pos rfl]
    have hw := numbers_ok [a, b, c, e] (by simp only [List.mem_cons, List.not_mem_nil, or_false, forall_eq_or_imp, forall_eq]; exact ⟨n1, n2, n3, n5⟩) (by simp)
    refine (line_sec S Se L Si G kPlain ([a, b, c, e].map fun n => bs (it n)) f (by simp) (.inl rfl)).trans ?_
    exact l2_Plain S Se L Si G _ f a b c e hw (room_le (by decide) hS)
  · rw [if_neg (show ¬ (2 : Int) = 1 by decide), if_pos rfl]
    have hw := numbers_ok [a, b, c, d] (by simp only [List.mem_cons, List.not_mem_nil, or_false, forall_eq_or_imp, forall_eq]; exact ⟨n1, n2, n3, n4⟩) (by simp)
    refine (line_sec S Se L Si G kPoints ([a, b, c, d].map fun n => bs (it n)) f (by simp) (.inr (.inl rfl))).trans ?_
    exact l2_Points S Se L Si G _ f a b c d hw (room_le (by decide) hS)
  · rw [if_neg (show ¬ (3 : Int) = 1 by decide), if_neg (show ¬ (3 : Int) = 2 by decide)]
    have hw := numbers_ok [a, c] (by simp only [List.mem_cons, List.not_mem_nil, or_false, forall_eq_or_imp, forall_eq]; exact ⟨n1, n3⟩) (by simp)
    refine (line_sec S Se L Si G kCross ([a, c].map fun n => bs (it n)) f (by simp) (.inr (.inr rfl))).trans ?_
    exact l2_Cross S Se L Si G _ f a c hw (room_le (by decide) hS)
theorem rd_link {l : ApiLink} (h : LinkOk l) (hS : L.length ≤ 1000) : mLineLine ((lnLink l).map bs) S Se L Si G = some (2, S, Se, L ++ [l], Si, G) := by
  obtain ⟨a, b, c, d⟩ := l
  have hw := numbers_ok [a, b, c, d] (by simp only [List.mem_cons, List.not_mem_nil, or_false, forall_eq_or_imp, forall_eq]; exact ⟨h.a, h.ea, h.b, h.eb⟩) (by simp)
  refine (line_other S Se L Si G kLink ([a, b, c, d].map fun n => bs (it n)) (by simp) (by decide) (by decide) (by decide) (by decide)).trans ?_
  exact l2_Link S Se L Si G _ false a b c d hw (room_le (by decide) hS)
theorem rd_signal {s : ApiSignal} (h : SigOk s) (hS : Si.length ≤ 1000) : mLineLine ((lnSignal s).map bs) S Se L Si G = some (3, S, Se, L, Si ++ [s], G) := by
  obtain ⟨a, b⟩ := s
  have hw := numbers_ok [a, b] (by simp only [List.mem_cons, List.not_mem_nil, or_false, forall_eq_or_imp, forall_eq]; exact ⟨h.1, h.2⟩) (by simp)
  refine (line_other S Se L Si G kSignal ([a, b].map fun n => bs (it n)) (by simp) (by decide) (by decide) (by decide) (by decide)).trans ?_
  exact l2_Signal S Se L Si G _ false a b hw (room_le (by decide) hS)
theorem rd_gate {g : ApiGate} (h : GateOk g) (hS : G.length ≤ 1000) : mLineLine ((lnGate g).map bs) S Se L Si G = some (4, S, Se, L, Si, G ++ [g]) := by
  have hn := num_gate h
  obtain ⟨a, b⟩ := g
  have hw := numbers_ok [a, b] (by simp only [List.mem_cons, List.not_mem_nil, or_false, forall_eq_or_imp, forall_eq]; exact ⟨hn.1, hn.2⟩) (by simp)
  refine (line_other S Se L Si G kGate ([a, b].map fun n => bs (it n)) (by simp) (by decide) (by decide) (by decide) (by decide)).trans ?_
  exact l2_Gate S Se L Si G _ false a b hw (room_le (by decide) hS)
end
end Go.Proofs.YtaagdbecijhkmaaDoor
