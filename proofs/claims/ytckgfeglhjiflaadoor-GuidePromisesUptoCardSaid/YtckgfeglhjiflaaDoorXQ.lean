/- Short words for printed proofs. -/
import Derived.Test.YtckgfeglhjiflaaDoorXG
set_option linter.unusedVariables false
set_option linter.unusedSimpArgs false
namespace Go.Fp
open Go.RowKit
abbrev pb (g : Nat) : Value := .pointer (some ⟨g, 0, none⟩)
abbrev iv (i : Int) : Value := .int .i64 i
abbrev bv (b : Bool) : Value := .bool b
abbrev sv {α : Type} (A : Option Addr) (l : List α) (c : Nat) : Value := .slice A l.length c
abbrev sn : Value := .slice none 0 0
abbrev rI : RT Int := RT.int .i64
abbrev OA : Type := Option Addr
theorem lr {b : Base} : b.Le b := Base.Le.refl b
theorem nT {h : Bool} (hc : h = true) (hh : (!h) = true) : False := by rw [hc] at hh; cases hh
section
variable {P : Program} {n : NT} {m : Nat} {dk0 : Nat × Obj → Prop} {rq : Option Nat} {b w0 : Base} {Q : Exit → Act → World → Prop} {e : Env} {hp : Hp}
theorem rM {b1 : Base} {fn : Func} {Φ : Value → Base → Hp → Prop} {rs : List ResultVar} {vs : List Value} (hv : All2 (RVal P (b1.over w0) e hp) rs vs) {hp' : Hp} (hΦ : Φ (packV vs) (b1.over w0) hp') (hh : hp'.Sublist hp) (hle : w0.Le b1)
    (hn : rs.length ≤ 5 := by decide) (hr : fn.results = rs.toArray := by rfl) : SLx ⟨m, fun x => x ∈ w0.dk, none⟩ b1 (postM P fn (PostG w0 Φ)) .ret e hp := retM vs hle hn hr hv rfl hh hΦ
end
end Go.Fp
