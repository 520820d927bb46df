/- Plain: the middle of two numbers as the sort reckons it. -/
import Derived.Test.YtnlnohallnfbmaaGreatDoorQS4
set_option linter.unusedVariables false
set_option linter.unusedSimpArgs false
namespace Go.Proofs.YtnlnohallnfbmaaGreatDoor
open Go.RowKit Go.Fp

theorem half_eq (s : Nat) (h : s ≤ 4000000) : IntKind.wrap .i64 (shrI .u64 (IntKind.wrap .u64 (s : Int)) 1) = ((s / 2 : Nat) : Int) := by
  have e1 : IntKind.wrap .u64 (s : Int) = (s : Int) := by
    unfold IntKind.wrap
    have : (2 ^ IntKind.u64.bits : Int) = 18446744073709551616 := by decide
    simp only [this]
    have hs : IntKind.u64.signed = false := by decide
    rw [hs, if_neg (by simp)]
    omega
  rw [e1]
  unfold shrI
  have e2 : (2 : Int) ^ (min (1 : Int).toNat IntKind.u64.bits) = 2 := by decide
  rw [e2]
  have e3 : (s : Int).fdiv 2 = ((s / 2 : Nat) : Int) := by
    rw [Int.fdiv_eq_ediv_of_nonneg _ (by decide)]
    omega
  rw [e3]
  unfold IntKind.wrap
  have : (2 ^ IntKind.i64.bits : Int) = 18446744073709551616 := by decide
  have t2 : (2 ^ (IntKind.i64.bits - 1) : Int) = 9223372036854775808 := by decide
  simp only [this, t2]
  have : ((s / 2 : Nat) : Int) % 18446744073709551616 = ((s / 2 : Nat) : Int) := by omega
  rw [this, if_neg]
  simp
  omega

end Go.Proofs.YtnlnohallnfbmaaGreatDoor
