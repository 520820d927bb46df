/- The models of the functions, as the extractor printed them. -/
import Derived.Test.YtljcafilceachaaDoorSh2
set_option linter.unusedVariables false
set_option linter.unusedSimpArgs false
namespace Go.Proofs.YtljcafilceachaaDoor
open Go.RowKit Go.Fp

structure GuardPacket where
  Kind : Int
  Session : Int
  No : Int
  Of : Int
  End : Int
  At : Int
  Speed : Int
  Sent : Int
  deriving DecidableEq
def rGuardPacket : RT GuardPacket := (RT.cat (RT.on (RT.int .i64) GuardPacket.Kind) (RT.cat (RT.on (RT.int .i64) GuardPacket.Session) (RT.cat (RT.on (RT.int .i64) GuardPacket.No) (RT.cat (RT.on (RT.int .i64) GuardPacket.Of) (RT.cat (RT.on (RT.int .i64) GuardPacket.End) (RT.cat (RT.on (RT.int .i64) GuardPacket.At) (RT.cat (RT.on (RT.int .i64) GuardPacket.Speed) (RT.on (RT.int .i64) GuardPacket.Sent))))))))

/-- internal/stringslite.IndexByte -/
noncomputable def mStringsliteIndexByte (x1 : ByteArray) (x2 : Int) : Option (Int) :=
  some (sFirst x1 x2)

/-- internal/stringslite.Index -/
noncomputable def mStringsliteIndex (x1 : ByteArray) (x2 : ByteArray) : Option (Int) :=
  (if (x2.size : Int) = 0 then (
  some true)
  else (
  some (sEq x2 x1))).bind (fun x20 =>
  if x20 = true then (
  some 0)
  else (
  if (x2.size : Int) = 1 then (
  (sIdx x2 0).bind fun x25 =>
  (mStringsliteIndexByte x1 x25).bind fun x27 =>
  some x27)
  else (
  if (x1.size : Int) ≤ (x2.size : Int) then (
  some (-1))
  else (
  none))))

/-- strings.Index -/
noncomputable def mStringsIndex (x1 : ByteArray) (x2 : ByteArray) : Option (Int) :=
  (mStringsliteIndex x1 x2).bind fun x6 =>
  some x6

noncomputable def mStringsCount_L40 (x2 : ByteArray) : (ByteArray × Int) → Option ((ByteArray × Int) ⊕ (Int)) := unc2 fun x59 x60 =>
  (mStringsIndex x59 x2).bind fun x61 =>
  if x61 = (-1) then (
  some (.inr x60))
  else (
  (chk (x60 + 1)).bind fun _ =>
  (chk (x61 + (x2.size : Int))).bind fun _ =>
  (sCut x59 (x61 + (x2.size : Int)) (x59.size : Int)).bind fun q66 =>
  some (.inl (q66, x60 + 1)))

/-- strings.Count -/
noncomputable def mStringsCount (x1 : ByteArray) (x2 : ByteArray) : Option (Int) :=
  if (x2.size : Int) = 0 then (
  none)
  else (
  if (x2.size : Int) = 1 then (
  (sIdx x2 0).bind fun x38 =>
  some (sCount x1 x38))
  else (
  loopM (mStringsCount_L40 x2) (x1, 0)))

noncomputable def mStringsGenSplit_L419 (x1 : ByteArray) (x2 : ByteArray) (x3 : Int) (x291 : Int) : (ByteArray × Int × (List ByteArray)) → Option ((ByteArray × Int × (List ByteArray)) ⊕ (ByteArray × Int × (List ByteArray))) := unc3 fun x490 x491 l492 =>
  if x491 < ((min x291 ((x1.size : Int) + 1)) - 1) then (
  (mStringsIndex x490 x2).bind fun x495 =>
  if x495 < 0 then (
  some (.inr (x490, x491, l492)))
  else (
  (chk (x495 + x3)).bind fun _ =>
  (sCut x490 0 (x495 + x3)).bind fun q499 =>
  (idx l492 x491).bind fun _ =>
  (chk (x495 + (x2.size : Int))).bind fun _ =>
  (sCut x490 (x495 + (x2.size : Int)) (x490.size : Int)).bind fun q520 =>
  (chk (x491 + 1)).bind fun _ =>
  some (.inl (q520, x491 + 1, put l492 x491 q499))))
  else (
  some (.inr (x490, x491, l492)))

/-- strings.genSplit -/
noncomputable def mStringsGenSplit (x1 : ByteArray) (x2 : ByteArray) (x3 : Int) (x4 : Int) : Option ((List ByteArray)) :=
  if x4 = 0 then (
  some [])
  else (
  if (sEq x2 (ByteArray.mk #[])) = true then (
  none)
  else (
  (if x4 < 0 then (
  (mStringsCount x1 x2).bind fun x294 =>
  (chk (x294 + 1)).bind fun _ =>
  some (x294 + 1))
  else (
  some x4)).bind (fun x291 =>
  (chk ((x1.size : Int) + 1)).bind fun _ =>
  (mkLen 16 (min x291 ((x1.size : Int) + 1))).bind fun m298 =>
  (chk ((min x291 ((x1.size : Int) + 1)) - 1)).bind fun _ =>
  (loopM (mStringsGenSplit_L419 x1 x2 x3 x291) (x1, 0, List.replicate m298 (ByteArray.empty : ByteArray))).bind (unc3 fun x414 x415 l416 =>
  (idx l416 x415).bind fun _ =>
  (chk (x415 + 1)).bind fun _ =>
  (cutS (put l416 x415 x414) 0 (x415 + 1)).bind fun l542 =>
  some l542))))

/-- strings.Split -/
noncomputable def mStringsSplit (x1 : ByteArray) (x2 : ByteArray) : Option ((List ByteArray)) :=
  (mStringsGenSplit x1 x2 0 (-1)).bind fun l17 =>
  some l17

/-- strconv.Atoi -/
noncomputable def mStrconvAtoi (x1 : ByteArray) : Option (Int × Bool) :=
  atoiM x1

/-- strconv.Itoa -/
noncomputable def mStrconvItoa (x1 : Int) : Option (ByteArray) :=
  itoaM x1

/-- internal/stringslite.HasPrefix -/
noncomputable def mStringsliteHasPrefix (x1 : ByteArray) (x2 : ByteArray) : Option (Bool) :=
  (if (x2.size : Int) ≤ (x1.size : Int) then (
  (sCut x1 0 (x2.size : Int)).bind fun q22 =>
  some (sEq q22 x2))
  else (
  some false)).bind (fun x19 =>
  some x19)

/-- internal/stringslite.TrimPrefix -/
noncomputable def mStringsliteTrimPrefix (x1 : ByteArray) (x2 : ByteArray) : Option (ByteArray) :=
  (mStringsliteHasPrefix x1 x2).bind fun x9 =>
  if x9 = true then (
  (sCut x1 (x2.size : Int) (x1.size : Int)).bind fun q12 =>
  some q12)
  else (
  some x1)

/-- strings.TrimPrefix -/
noncomputable def mStringsTrimPrefix (x1 : ByteArray) (x2 : ByteArray) : Option (ByteArray) :=
  (mStringsliteTrimPrefix x1 x2).bind fun x6 =>
  some x6

/-- fishplate/line.Number -/
noncomputable def mLineNumber (x1 : ByteArray) : Option (Int × Bool) :=
  (mStrconvAtoi x1).bind (unc2 fun x27 q28 =>
  (if q28 = true then (
  (mStrconvItoa x27).bind fun x45 =>
  if (sEq x45 x1) = true then (
  (mStringsTrimPrefix x1 (ByteArray.mk #[45])).bind fun x48 =>
  some (decide ((x48.size : Int) ≤ 9)))
  else (
  some false))
  else (
  some false)).bind (fun x42 =>
  some (x27, x42)))

noncomputable def mLineNumbers_L95 (l4 : (List ByteArray)) (k152 : Nat) : ((List Int)) → Option (((List Int)) ⊕ (Bool × (List Int))) := fun l151 =>
  (idx l4 (k152 : Int)).bind fun x156 =>
  (mLineNumber x156).bind (unc2 fun x166 x167 =>
  if x167 = true then (
  (room 8 (l151.length + 1)).bind fun _ =>
  some (.inl (l151 ++ [x166])))
  else (
  some (.inr (false, []))))

/-- fishplate/line.Numbers -/
noncomputable def mLineNumbers (l4 : (List ByteArray)) : Option (Bool × (List Int)) :=
  (forM (mLineNumbers_L95 l4) l4.length 0 ([] : (List Int))).bind fun t => Sum.elim (fun l151 =>
  some (true, l151)) (fun q => some q) t

/-- fishplate/guard.within -/
noncomputable def mGuardWithin (x1 : Int) (x2 : Int) (x3 : Int) : Option (Bool) :=
  (if x2 ≤ x1 then (
  some (decide (x1 ≤ x3)))
  else (
  some false)).bind (fun x14 =>
  some x14)

/-- (fishplate/guard.Packet).used -/
noncomputable def mGuardPacketUsed (s1 : GuardPacket) : Option (Int × Int × Int × Int × Int × Int × Int × Int) :=
  (if s1.Kind = 1 then (
  some (0, 0, s1.At, 0))
  else (
  if s1.Kind = 3 then (
  some (0, s1.End, s1.At, s1.Speed))
  else (
  (if s1.Kind = 4 then (
  some (decide (s1.Kind = 4)))
  else (
  some (decide (s1.Kind = 5)))).bind (fun x68 =>
  if x68 = true then (
  some (0, s1.End, 0, 0))
  else (
  if s1.Kind = 7 then (
  some (s1.Of, s1.End, 0, 0))
  else (
  if s1.Kind = 8 then (
  some (s1.Of, 0, 0, 0))
  else (
  some (0, 0, 0, 0)))))))).bind (unc4 fun x58 x59 x60 x61 =>
  some (s1.Kind, s1.Session, s1.No, x58, x59, x60, x61, s1.Sent))

/-- (fishplate/guard.Packet).check -/
noncomputable def mGuardPacketCheck (s1 : GuardPacket) : Option (Int) :=
  (mGuardWithin s1.Kind 1 8).bind fun x110 =>
  if x110 = true then (
  ((mGuardWithin s1.Session 1 1000000).bind fun x137 =>
  if x137 = true then (
  (mGuardWithin s1.No 1 1000000).bind fun x140 =>
  if x140 = true then (
  (mGuardWithin s1.Of 0 1000000).bind fun x143 =>
  if x143 = true then (
  (mGuardWithin s1.End 0 20000000).bind fun x146 =>
  if x146 = true then (
  (mGuardWithin s1.At 0 20000000).bind fun x149 =>
  if x149 = true then (
  (mGuardWithin s1.Speed 0 6000).bind fun x152 =>
  if x152 = true then (
  (mGuardWithin s1.Sent 0 28800).bind fun x155 =>
  some (!x155))
  else (
  some true))
  else (
  some true))
  else (
  some true))
  else (
  some true))
  else (
  some true))
  else (
  some true)).bind (fun x135 =>
  if x135 = true then (
  some 2)
  else (
  ((mGuardPacketUsed s1).bind (unc8 fun x201 x202 x203 x204 x205 x206 x207 x208 =>
  if s1.Kind = x201 ∧ s1.Session = x202 ∧ s1.No = x203 ∧ s1.Of = x204 ∧ s1.End = x205 ∧ s1.At = x206 ∧ s1.Speed = x207 ∧ s1.Sent = x208 then (
  if s1.Of = 0 then (
  some (decide (7 ≤ s1.Kind)))
  else (
  some false))
  else (
  some true))).bind (fun x186 =>
  if x186 = true then (
  some 1)
  else (
  some 0)))))
  else (
  some 15)

/-- fishplate/guard.Unpack -/
noncomputable def mGuardUnpack (x1 : ByteArray) : Option (Int × Int × Int × Int × Int × Int × Int × Int × Int) :=
  (mStringsSplit x1 (ByteArray.mk #[32])).bind fun l568 =>
  (mLineNumbers l568).bind (unc2 fun x576 l577 =>
  (if x576 = true then (
  some (decide ((l577.length : Int) ≠ 8)))
  else (
  some true)).bind (fun x588 =>
  if x588 = true then (
  some (0, 0, 0, 0, 0, 0, 0, 0, 10))
  else (
  ((idx l577 0).bind fun x991 =>
  (idx l577 1).bind fun x1007 =>
  (idx l577 2).bind fun x1023 =>
  (idx l577 3).bind fun x1039 =>
  (idx l577 4).bind fun x1055 =>
  (idx l577 5).bind fun x1071 =>
  (idx l577 6).bind fun x1087 =>
  (idx l577 7).bind fun x1103 =>
  some (x991, x1007, x1023, x1039, x1055, x1071, x1087, x1103)).bind (unc8 fun x853 x854 x855 x856 x857 x858 x859 x860 =>
  (mGuardPacketCheck (⟨x853, x854, x855, x856, x857, x858, x859, x860⟩ : GuardPacket)).bind fun x1120 =>
  if x1120 ≠ 0 then (
  some (0, 0, 0, 0, 0, 0, 0, 0, x1120))
  else (
  some (x853, x854, x855, x856, x857, x858, x859, x860, 0))))))

/-- fishplate/fishkeep1.awakeGuard -/
noncomputable def mFishkeep1AwakeGuard : Option (Bool) :=
  (mGuardUnpack (ByteArray.mk #[])).bind (unc9 fun _ _ _ _ _ _ _ _ x23 =>
  some (decide (x23 ≠ 0)))

/-- strings.Join -/
noncomputable def mStringsJoin (l4 : (List ByteArray)) (x5 : ByteArray) : Option (ByteArray) :=
  joinM l4 x5

noncomputable def mGuardPack_L84 (s1 : GuardPacket) (k134 : Nat) : ((List ByteArray)) → Option ((List ByteArray)) := fun l133 =>
  (idx [s1.Kind, s1.Session, s1.No, s1.Of, s1.End, s1.At, s1.Speed, s1.Sent] (k134 : Int)).bind fun x137 =>
  (mStrconvItoa x137).bind fun x146 =>
  (room 16 (l133.length + 1)).bind fun _ =>
  some (l133 ++ [x146])

/-- fishplate/guard.Pack -/
noncomputable def mGuardPack (s1 : GuardPacket) : Option (ByteArray × Int) :=
  (mGuardPacketCheck s1).bind fun x81 =>
  if x81 ≠ 0 then (
  some ((ByteArray.mk #[]), x81))
  else (
  (forS (mGuardPack_L84 s1) 8 0 ([] : (List ByteArray))).bind (fun l133 =>
  (mStringsJoin l133 (ByteArray.mk #[32])).bind fun x154 =>
  some (x154, 0)))

/-- fishplate/fishkeep1.GuardTold -/
noncomputable def mFishkeep1GuardTold (s1 : GuardPacket) : Option (Bool) :=
  (mFishkeep1AwakeGuard).bind fun x31 =>
  if x31 = true then (
  (mGuardPack s1).bind (unc2 fun x34 x35 =>
  if x35 ≠ 0 then (
  some (sEq x34 (ByteArray.mk #[])))
  else (
  (mGuardUnpack x34).bind (unc9 fun x38 x39 x40 x41 x42 x43 x44 x45 x46 =>
  (if x46 = 0 then (
  some (decide (x38 = s1.Kind ∧ x39 = s1.Session ∧ x40 = s1.No ∧ x41 = s1.Of ∧ x42 = s1.End ∧ x43 = s1.At ∧ x44 = s1.Speed ∧ x45 = s1.Sent)))
  else (
  some false)).bind (fun x54 =>
  some x54)))))
  else (
  some false)

end Go.Proofs.YtljcafilceachaaDoor
