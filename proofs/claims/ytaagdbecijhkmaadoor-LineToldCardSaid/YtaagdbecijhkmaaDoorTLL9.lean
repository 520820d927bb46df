/- Plain: the package is there. -/
import Derived.Test.YtaagdbecijhkmaaDoorTLL3
import Derived.KernelRfl
set_option linter.unusedVariables false
set_option linter.unusedSimpArgs false
namespace Go.Proofs.YtaagdbecijhkmaaDoor
open Go.RowKit Go.Fp

def bx : ByteArray := ByteArray.mk #[120]
theorem split_nl : mStringsSplit bx (ByteArray.mk #[10]) = some [bx] := by
  have e : mStringsGenSplit_L419 bx (ByteArray.mk #[10]) 0 1 (bx, 0, [ByteArray.empty]) = some (.inr (bx, 0, [ByteArray.empty])) := by kernel_rfl
  have h : mStringsGenSplit bx (ByteArray.mk #[10]) 0 (-1) = (loopM (mStringsGenSplit_L419 bx (ByteArray.mk #[10]) 0 1) (bx, 0, [ByteArray.empty])).bind (unc3 fun x414 x415 l416 => (idx l416 x415).bind fun _ => (chk (x415 + 1)).bind fun _ => (cutS (put l416 x415 x414) 0 (x415 + 1)).bind fun l542 => some l542) := by kernel_rfl
  unfold mStringsSplit
  rw [h, loopM_last e]
  rfl
theorem split_sp : mStringsSplit bx (ByteArray.mk #[32]) = some [bx] := by
  have e : mStringsGenSplit_L419 bx (ByteArray.mk #[32]) 0 1 (bx, 0, [ByteArray.empty]) = some (.inr (bx, 0, [ByteArray.empty])) := by kernel_rfl
  have h : mStringsGenSplit bx (ByteArray.mk #[32]) 0 (-1) = (loopM (mStringsGenSplit_L419 bx (ByteArray.mk #[32]) 0 1) (bx, 0, [ByteArray.empty])).bind (unc3 fun x414 x415 l416 => (idx l416 x415).bind fun _ => (chk (x415 + 1)).bind fun _ => (cutS (put l416 x415 x414) 0 (x415 + 1)).bind fun l542 => some l542) := by kernel_rfl
  unfold mStringsSplit
  rw [h, loopM_last e]
  rfl
theorem lines_x : mLineLines bx = some (false, [[bx]]) := by
  have h : mLineLines bx = (mStringsSplit bx (ByteArray.mk #[10])).bind fun l147 => (forS (mLineLines_L155 l147) l147.length 0 ([] : (List (List ByteArray)))).bind (fun l239 => some (false, l239)) := by kernel_rfl
  rw [h, split_nl, Option.bind_some]
  have e : mLineLines_L155 [bx] 0 [] = some [[bx]] := by
    have h2 : mLineLines_L155 [bx] 0 [] = (mStringsSplit bx (ByteArray.mk #[32])).bind fun l259 => some [l259] := by kernel_rfl
    rw [h2, split_sp]
    rfl
  show ((mLineLines_L155 [bx] 0 []).bind fun s => some s).bind _ = _
  rw [e]
  rfl
theorem awake_true : mFishkeep1AwakeLine = some true := by
  unfold mFishkeep1AwakeLine mLineRead
  rw [if_neg (by decide), show mLineLines (ByteArray.mk #[120]) = some (false, [[bx]]) from lines_x, pass2, if_neg (by decide)]
  rfl
end Go.Proofs.YtaagdbecijhkmaaDoor
