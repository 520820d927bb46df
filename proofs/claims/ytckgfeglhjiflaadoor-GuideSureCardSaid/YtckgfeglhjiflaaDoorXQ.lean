/- Short words for printed proofs. -/
import Derived.Test.YtckgfeglhjiflaaDoorXG
set_option linter.unusedVariables false
set_option linter.unusedSimpArgs false
namespace Go.Fp
open Go.RowKit
abbrev pb (g : Nat) : Value := .pointer (some ⟨g, 0, none⟩)
abbrev iv (i : Int) : Value := .int .i64 i
abbrev bv (b : Bool) : Value := .bool b
abbrev sv {α : Type} (A : Option Addr) (l : List α) (c : Nat) : Value := .slice A l.length c
abbrev sn : Value := .slice none 0 0
abbrev rI : RT Int := RT.int .i64
abbrev OA : Type := Option Addr
theorem lr {b : Base} : b.Le b := Base.Le.refl b
theorem nT {h : Bool} (hc : h = true) (hh : (!h) = true) : False := by rw [hc] at hh; cases hh
section
variable {P : Program} {n : NT} {m : Nat} {dk0 : Nat × Obj → Prop} {rq : Option Nat} {b w0 : Base} {Q : Exit → Act → World → Prop} {e : Env} {hp : Hp}
theorem xJ {Inv : Base → Env → Hp → Prop} {e' : Env} {hp' : Hp} (hi : Inv b e' hp') (hh : hp'.Sublist hp) (he : Sub e' e := by repeat (first | exact trivial | refine ⟨rfl, ?_⟩)) : SLx n b (Exit.then (MeetI n Inv) Q) .normal e hp := x_join he hh hi
theorem xS {Inv : Base → Env → Hp → Prop} {e' : Env} {hp' : Hp} (hi : Inv b e' hp') (hh : hp'.Sublist hp) (he : Sub e' e := by repeat (first | exact trivial | refine ⟨rfl, ?_⟩)) : SLx n b (Exit.then (fun a w => MeetI n Inv a w) Q) .normal e hp := x_againS he hh hi
theorem xM {σ τ : Type} {o : σ ⊕ τ} {Inv : σ → Base → Env → Hp → Prop} {s' : σ} (hm : some (.inl s') = some o) {e' : Env} {hp' : Hp} (hi : Inv s' b e' hp') (hh : hp'.Sublist hp) (he : Sub e' e := by repeat (first | exact trivial | refine ⟨rfl, ?_⟩)) : SLx n b (Exit.then (fun a w => ∃ s', o = .inl s' ∧ MeetI n (Inv s') a w) Q) .normal e hp := x_againM s' (Option.some.inj hm).symm he hh hi
theorem cL {σ τ : Type} {step : σ → Option (σ ⊕ τ)} (Inv : σ → Base → Env → Hp → Prop) {c : Code} {s0 : σ} {t : τ} (hl : loopM step s0 = some t) {e' : Env} {hp' : Hp} (h0 : Inv s0 w0 e' hp') (hh : hp'.Sublist hp)
    (round : ∀ s b e hp o, Inv s b e hp → step s = some o → (∀ t', o = .inr t' → t' = t) → SLc P n b (Exit.then (fun a w => ∃ s', o = .inl s' ∧ MeetI n (Inv s') a w) Q) c e hp) (he : Sub e' e := by repeat (first | exact trivial | refine ⟨rfl, ?_⟩)) : SLc P n w0 Q (.loop c) e hp := c_loopM Inv hl he hh h0 round
theorem cF {σ τ : Type} {body : Nat → σ → Option (σ ⊕ τ)} (Inv : Nat → σ → Base → Env → Hp → Prop) {c : Code} {s0 : σ} {N : Nat} {t : σ ⊕ τ} (hl : forM body N 0 s0 = some t) {e' : Env} {hp' : Hp} (h0 : Inv 0 s0 w0 e' hp') (hh : hp'.Sublist hp)
    (round : ∀ k s b e hp o, k < N → Inv k s b e hp → body k s = some o → (∀ t', o = .inr t' → t = .inr t') → SLc P n b (Exit.then (fun a w => ∃ s', o = .inl s' ∧ MeetI n (Inv (k + 1) s') a w) Q) c e hp)
    (done : ∀ s b e hp, Inv N s b e hp → t = .inl s → SLc P n b (Exit.then (fun _ _ => False) Q) c e hp) (he : Sub e' e := by repeat (first | exact trivial | refine ⟨rfl, ?_⟩)) : SLc P n w0 Q (.loop c) e hp := c_forM Inv hl he hh h0 round done
theorem cS {σ : Type} {body : Nat → σ → Option σ} (Inv : Nat → σ → Base → Env → Hp → Prop) {c : Code} {s0 : σ} {N : Nat} {t : σ} (hl : forS body N 0 s0 = some t) {e' : Env} {hp' : Hp} (h0 : Inv 0 s0 w0 e' hp') (hh : hp'.Sublist hp)
    (round : ∀ k s b e hp o, k < N → Inv k s b e hp → body k s = some o → SLc P n b (Exit.then (fun a w => MeetI n (Inv (k + 1) o) a w) Q) c e hp)
    (done : ∀ b e hp, Inv N t b e hp → SLc P n b (Exit.then (fun _ _ => False) Q) c e hp) (he : Sub e' e := by repeat (first | exact trivial | refine ⟨rfl, ?_⟩)) : SLc P n w0 Q (.loop c) e hp := c_forS Inv hl he hh h0 round done
theorem rM {b1 : Base} {fn : Func} {Φ : Value → Base → Hp → Prop} {rs : List ResultVar} {vs : List Value} (hv : All2 (RVal P (b1.over w0) e hp) rs vs) {hp' : Hp} (hΦ : Φ (packV vs) (b1.over w0) hp') (hh : hp'.Sublist hp) (hle : w0.Le b1)
    (hn : rs.length ≤ 5 := by decide) (hr : fn.results = rs.toArray := by rfl) : SLx ⟨m, fun x => x ∈ w0.dk, none⟩ b1 (postM P fn (PostG w0 Φ)) .ret e hp := retM vs hle hn hr hv rfl hh hΦ
end
end Go.Fp
