/- The models of the functions, as the extractor printed them. -/
import Derived.Test.YtljcafilceachaaDoorXC
set_option linter.unusedVariables false
set_option linter.unusedSimpArgs false
namespace Go.Proofs.YtljcafilceachaaDoor
open Go.RowKit Go.Fp

structure GuardTelegram where
  Link : Int
  Section : Int
  Away : Int
  deriving DecidableEq
def rGuardTelegram : RT GuardTelegram := (RT.cat (RT.on (RT.int .i64) GuardTelegram.Link) (RT.cat (RT.on (RT.int .i64) GuardTelegram.Section) (RT.on (RT.int .i64) GuardTelegram.Away)))
structure GuardPacket where
  Kind : Int
  Session : Int
  No : Int
  Of : Int
  End : Int
  At : Int
  Speed : Int
  Sent : Int
  deriving DecidableEq
def rGuardPacket : RT GuardPacket := (RT.cat (RT.on (RT.int .i64) GuardPacket.Kind) (RT.cat (RT.on (RT.int .i64) GuardPacket.Session) (RT.cat (RT.on (RT.int .i64) GuardPacket.No) (RT.cat (RT.on (RT.int .i64) GuardPacket.Of) (RT.cat (RT.on (RT.int .i64) GuardPacket.End) (RT.cat (RT.on (RT.int .i64) GuardPacket.At) (RT.cat (RT.on (RT.int .i64) GuardPacket.Speed) (RT.on (RT.int .i64) GuardPacket.Sent))))))))

/-- internal/stringslite.IndexByte -/
noncomputable def mStringsliteIndexByte (x1 : ByteArray) (x2 : Int) : Option (Int) :=
  some (sFirst x1 x2)

/-- internal/stringslite.Index -/
noncomputable def mStringsliteIndex (x1 : ByteArray) (x2 : ByteArray) : Option (Int) :=
  (if (x2.size : Int) = 0 then (
  some true)
  else (
  some (sEq x2 x1))).bind (fun x20 =>
  if x20 = true then (
  some 0)
  else (
  if (x2.size : Int) = 1 then (
  (sIdx x2 0).bind fun x25 =>
  (mStringsliteIndexByte x1 x25).bind fun x27 =>
  some x27)
  else (
  if (x1.size : Int) ≤ (x2.size : Int) then (
  some (-1))
  else (
  none))))

/-- strings.Index -/
noncomputable def mStringsIndex (x1 : ByteArray) (x2 : ByteArray) : Option (Int) :=
  (mStringsliteIndex x1 x2).bind fun x6 =>
  some x6

noncomputable def mStringsCount_L40 (x2 : ByteArray) : (ByteArray × Int) → Option ((ByteArray × Int) ⊕ (Int)) := unc2 fun x59 x60 =>
  (mStringsIndex x59 x2).bind fun x61 =>
  if x61 = (-1) then (
  some (.inr x60))
  else (
  (chk (x60 + 1)).bind fun _ =>
  (chk (x61 + (x2.size : Int))).bind fun _ =>
  (sCut x59 (x61 + (x2.size : Int)) (x59.size : Int)).bind fun q66 =>
  some (.inl (q66, x60 + 1)))

/-- strings.Count -/
noncomputable def mStringsCount (x1 : ByteArray) (x2 : ByteArray) : Option (Int) :=
  if (x2.size : Int) = 0 then (
  none)
  else (
  if (x2.size : Int) = 1 then (
  (sIdx x2 0).bind fun x38 =>
  some (sCount x1 x38))
  else (
  loopM (mStringsCount_L40 x2) (x1, 0)))

noncomputable def mStringsGenSplit_L419 (x1 : ByteArray) (x2 : ByteArray) (x3 : Int) (x291 : Int) : (ByteArray × Int × (List ByteArray)) → Option ((ByteArray × Int × (List ByteArray)) ⊕ (ByteArray × Int × (List ByteArray))) := unc3 fun x490 x491 l492 =>
  if x491 < ((min x291 ((x1.size : Int) + 1)) - 1) then (
  (mStringsIndex x490 x2).bind fun x495 =>
  if x495 < 0 then (
  some (.inr (x490, x491, l492)))
  else (
  (chk (x495 + x3)).bind fun _ =>
  (sCut x490 0 (x495 + x3)).bind fun q499 =>
  (idx l492 x491).bind fun _ =>
  (chk (x495 + (x2.size : Int))).bind fun _ =>
  (sCut x490 (x495 + (x2.size : Int)) (x490.size : Int)).bind fun q520 =>
  (chk (x491 + 1)).bind fun _ =>
  some (.inl (q520, x491 + 1, put l492 x491 q499))))
  else (
  some (.inr (x490, x491, l492)))

/-- strings.genSplit -/
noncomputable def mStringsGenSplit (x1 : ByteArray) (x2 : ByteArray) (x3 : Int) (x4 : Int) : Option ((List ByteArray)) :=
  if x4 = 0 then (
  some [])
  else (
  if (sEq x2 (ByteArray.mk #[])) = true then (
  none)
  else (
  (if x4 < 0 then (
  (mStringsCount x1 x2).bind fun x294 =>
  (chk (x294 + 1)).bind fun _ =>
  some (x294 + 1))
  else (
  some x4)).bind (fun x291 =>
  (chk ((x1.size : Int) + 1)).bind fun _ =>
  (mkLen 16 (min x291 ((x1.size : Int) + 1))).bind fun m298 =>
  (chk ((min x291 ((x1.size : Int) + 1)) - 1)).bind fun _ =>
  (loopM (mStringsGenSplit_L419 x1 x2 x3 x291) (x1, 0, List.replicate m298 (ByteArray.empty : ByteArray))).bind (unc3 fun x414 x415 l416 =>
  (idx l416 x415).bind fun _ =>
  (chk (x415 + 1)).bind fun _ =>
  (cutS (put l416 x415 x414) 0 (x415 + 1)).bind fun l542 =>
  some l542))))

/-- strings.Split -/
noncomputable def mStringsSplit (x1 : ByteArray) (x2 : ByteArray) : Option ((List ByteArray)) :=
  (mStringsGenSplit x1 x2 0 (-1)).bind fun l17 =>
  some l17

/-- strconv.Atoi -/
noncomputable def mStrconvAtoi (x1 : ByteArray) : Option (Int × Bool) :=
  atoiM x1

/-- fishplate/line.Number -/
noncomputable def mLineNumber (x1 : ByteArray) : Option (Int) :=
  (mStrconvAtoi x1).bind (unc2 fun x15 q16 =>
  (if q16 = true then (
  none)
  else (
  some ())).bind (fun _ =>
  some x15))

noncomputable def mLineNumbers_L45 (l4 : (List ByteArray)) (k61 : Nat) : (Unit) → Option ((Unit) ⊕ ((List Int) × Bool)) := fun _ =>
  (idx l4 (k61 : Int)).bind fun x65 =>
  (mLineNumber x65).bind fun _ =>
  some (.inr ([], false))

/-- fishplate/line.Numbers -/
noncomputable def mLineNumbers (l4 : (List ByteArray)) : Option ((List Int) × Bool) :=
  (forM (mLineNumbers_L45 l4) l4.length 0 ()).bind fun t => Sum.elim (fun _ =>
  some ([], true)) (fun q => some q) t

/-- fishplate/guard.within -/
noncomputable def mGuardWithin (x1 : Int) (x2 : Int) (x3 : Int) : Option (Bool) :=
  (if x2 ≤ x1 then (
  some (decide (x1 ≤ x3)))
  else (
  some false)).bind (fun x14 =>
  some x14)

/-- (fishplate/guard.Packet).used -/
noncomputable def mGuardPacketUsed (s1 : GuardPacket) : Option (Int × Int × Int × Int × Int × Int × Int × Int) :=
  (if s1.Kind = 1 then (
  some (0, 0, s1.At, 0))
  else (
  if s1.Kind = 3 then (
  some (0, s1.End, s1.At, s1.Speed))
  else (
  (if s1.Kind = 4 then (
  some (decide (s1.Kind = 4)))
  else (
  some (decide (s1.Kind = 5)))).bind (fun x68 =>
  if x68 = true then (
  some (0, s1.End, 0, 0))
  else (
  if s1.Kind = 7 then (
  some (s1.Of, s1.End, 0, 0))
  else (
  if s1.Kind = 8 then (
  some (s1.Of, 0, 0, 0))
  else (
  some (0, 0, 0, 0)))))))).bind (unc4 fun x58 x59 x60 x61 =>
  some (s1.Kind, s1.Session, s1.No, x58, x59, x60, x61, s1.Sent))

/-- (fishplate/guard.Packet).check -/
noncomputable def mGuardPacketCheck (s1 : GuardPacket) : Option (Int) :=
  (mGuardWithin s1.Kind 1 8).bind fun x110 =>
  if x110 = true then (
  ((mGuardWithin s1.Session 1 1000000).bind fun x137 =>
  if x137 = true then (
  (mGuardWithin s1.No 1 1000000).bind fun x140 =>
  if x140 = true then (
  (mGuardWithin s1.Of 0 1000000).bind fun x143 =>
  if x143 = true then (
  (mGuardWithin s1.End 0 20000000).bind fun x146 =>
  if x146 = true then (
  (mGuardWithin s1.At 0 20000000).bind fun x149 =>
  if x149 = true then (
  (mGuardWithin s1.Speed 0 6000).bind fun x152 =>
  if x152 = true then (
  (mGuardWithin s1.Sent 0 28800).bind fun x155 =>
  some (!x155))
  else (
  some true))
  else (
  some true))
  else (
  some true))
  else (
  some true))
  else (
  some true))
  else (
  some true)).bind (fun x135 =>
  if x135 = true then (
  some 2)
  else (
  ((mGuardPacketUsed s1).bind (unc8 fun x201 x202 x203 x204 x205 x206 x207 x208 =>
  if s1.Kind = x201 ∧ s1.Session = x202 ∧ s1.No = x203 ∧ s1.Of = x204 ∧ s1.End = x205 ∧ s1.At = x206 ∧ s1.Speed = x207 ∧ s1.Sent = x208 then (
  if s1.Of = 0 then (
  some (decide (7 ≤ s1.Kind)))
  else (
  some false))
  else (
  some true))).bind (fun x186 =>
  if x186 = true then (
  some 1)
  else (
  some 0)))))
  else (
  some 15)

/-- fishplate/guard.Unpack -/
noncomputable def mGuardUnpack (x1 : ByteArray) : Option (Int × Int × Int × Int × Int × Int × Int × Int × Int) :=
  (mStringsSplit x1 (ByteArray.mk #[32])).bind fun l380 =>
  (mLineNumbers l380).bind (unc2 fun l392 x393 =>
  (if x393 = true then (
  some (decide ((l392.length : Int) ≠ 8)))
  else (
  some true)).bind (fun x404 =>
  if x404 = true then (
  some (0, 0, 0, 0, 0, 0, 0, 0, 10))
  else (
  ((idx l392 0).bind fun x663 =>
  (idx l392 1).bind fun x673 =>
  (idx l392 2).bind fun x683 =>
  (idx l392 3).bind fun x693 =>
  (idx l392 4).bind fun x703 =>
  (idx l392 5).bind fun x713 =>
  (idx l392 6).bind fun x723 =>
  (idx l392 7).bind fun x733 =>
  some (x663, x673, x683, x693, x703, x713, x723, x733)).bind (unc8 fun x573 x574 x575 x576 x577 x578 x579 x580 =>
  (mGuardPacketCheck (⟨x573, x574, x575, x576, x577, x578, x579, x580⟩ : GuardPacket)).bind fun x744 =>
  if x744 ≠ 0 then (
  some (0, 0, 0, 0, 0, 0, 0, 0, x744))
  else (
  some (x573, x574, x575, x576, x577, x578, x579, x580, 0))))))

/-- fishplate/fishkeep1.awakeGuard -/
noncomputable def mFishkeep1AwakeGuard : Option (Bool) :=
  (mGuardUnpack (ByteArray.mk #[])).bind (unc9 fun _ _ _ _ _ _ _ _ x23 =>
  some (decide (x23 ≠ 0)))

/-- (fishplate/guard.Telegram).check -/
noncomputable def mGuardTelegramCheck (s1 : GuardTelegram) : Option (Int) :=
  ((mGuardWithin s1.Link 0 89).bind fun x38 =>
  if x38 = true then (
  (mGuardWithin s1.Section 0 59).bind fun x41 =>
  if x41 = true then (
  (mGuardWithin s1.Away 0 60000).bind fun x44 =>
  some (!x44))
  else (
  some true))
  else (
  some true)).bind (fun x36 =>
  if x36 = true then (
  some 2)
  else (
  some 0))

noncomputable def mGuardSum_L160  (_k169 : Nat) : (Int) → Option (Int) := fun x168 =>
  (shN 1).bind fun _ =>
  if (andI .u16 x168 32768) ≠ 0 then (
  some (xorI .u16 (shlI .u16 x168 1) 4129))
  else (
  some (shlI .u16 x168 1))

noncomputable def mGuardSum_L90 (l4 : (List Int)) (k146 : Nat) : (Int) → Option (Int) := fun x145 =>
  (idx l4 (k146 : Int)).bind fun x149 =>
  (shN 8).bind fun _ =>
  (forS mGuardSum_L160 8 0 (xorI .u16 x145 (shlI .u16 (IntKind.wrap .u16 x149) 8))).bind (fun x168 =>
  some x168)

/-- fishplate/guard.Sum -/
noncomputable def mGuardSum (l4 : (List Int)) : Option (Int) :=
  (forS (mGuardSum_L90 l4) l4.length 0 65535).bind (fun x145 =>
  some (IntKind.wrap .i64 x145))

/-- fishplate/guard.Write -/
noncomputable def mGuardWrite (s1 : GuardTelegram) : Option (Int × (List Int)) :=
  (mGuardTelegramCheck s1).bind fun x28 =>
  if x28 ≠ 0 then (
  some (x28, []))
  else (
  (shN 8).bind fun _ =>
  (shN 8).bind fun _ =>
  (mGuardSum [82, IntKind.wrap .u8 (shrI .i64 s1.Link 8), IntKind.wrap .u8 s1.Link, IntKind.wrap .u8 s1.Section, IntKind.wrap .u8 (shrI .i64 s1.Away 8), IntKind.wrap .u8 s1.Away]).bind fun x34 =>
  (shN 8).bind fun _ =>
  (room 1 (([] : List Int).length + 8)).bind fun _ =>
  some (0, [82, IntKind.wrap .u8 (shrI .i64 s1.Link 8), IntKind.wrap .u8 s1.Link, IntKind.wrap .u8 s1.Section, IntKind.wrap .u8 (shrI .i64 s1.Away 8), IntKind.wrap .u8 s1.Away, IntKind.wrap .u8 (shrI .i64 x34 8), IntKind.wrap .u8 x34]))

/-- fishplate/guard.Read -/
noncomputable def mGuardRead (l4 : (List Int)) : Option (Int × Int × Int × Int) :=
  if (l4.length : Int) ≠ 8 then (
  some (0, 0, 0, 1))
  else (
  (cutS l4 0 6).bind fun l361 =>
  (mGuardSum l361).bind fun x376 =>
  (idx l4 6).bind fun x378 =>
  (shN 8).bind fun _ =>
  (idx l4 7).bind fun x389 =>
  if x376 ≠ (orI .i64 (shlI .i64 (IntKind.wrap .i64 x378) 8) (IntKind.wrap .i64 x389)) then (
  some (0, 0, 0, 11))
  else (
  (idx l4 0).bind fun x400 =>
  if x400 ≠ 82 then (
  some (0, 0, 0, 1))
  else (
  ((idx l4 1).bind fun x577 =>
  (shN 8).bind fun _ =>
  (idx l4 2).bind fun x588 =>
  (idx l4 3).bind fun x598 =>
  (idx l4 4).bind fun x608 =>
  (shN 8).bind fun _ =>
  (idx l4 5).bind fun x619 =>
  some (orI .i64 (shlI .i64 (IntKind.wrap .i64 x577) 8) (IntKind.wrap .i64 x588), IntKind.wrap .i64 x598, orI .i64 (shlI .i64 (IntKind.wrap .i64 x608) 8) (IntKind.wrap .i64 x619))).bind (unc3 fun x520 x521 x522 =>
  (mGuardTelegramCheck (⟨x520, x521, x522⟩ : GuardTelegram)).bind fun x630 =>
  if x630 ≠ 0 then (
  some (0, 0, 0, x630))
  else (
  some (x520, x521, x522, 0))))))

/-- slices.Clone[[]byte,byte] -/
noncomputable def mSlicesClone (l4 : (List Int)) : Option ((List Int)) :=
  (room 1 l4.length).bind fun _ => some l4

noncomputable def mSlicesIndex_L39 (l4 : (List Int)) (x5 : Int) (k54 : Nat) : (Unit) → Option ((Unit) ⊕ (Int)) := fun _ =>
  (idx l4 (k54 : Int)).bind fun x58 =>
  if x5 = x58 then (
  some (.inr (k54 : Int)))
  else (
  some (.inl ()))

/-- slices.Index[[]int,int] -/
noncomputable def mSlicesIndex (l4 : (List Int)) (x5 : Int) : Option (Int) :=
  (forM (mSlicesIndex_L39 l4 x5) l4.length 0 ()).bind fun t => Sum.elim (fun _ =>
  some (-1)) (fun q => some q) t

/-- slices.Contains[[]int,int] -/
noncomputable def mSlicesContains (l4 : (List Int)) (x5 : Int) : Option (Bool) :=
  (mSlicesIndex l4 x5).bind fun x9 =>
  some (decide (0 ≤ x9))

noncomputable def mFishkeep1GuardFlips_L520 (l5 : (List Int)) (k794 : Nat) : ((List Int)) → Option (((List Int)) ⊕ (Bool)) := fun l793 =>
  (idx l5 (k794 : Int)).bind fun x798 =>
  (if x798 < 0 then (
  some true)
  else (
  if 64 ≤ x798 then (
  some true)
  else (
  (cutS l5 0 (k794 : Int)).bind fun l833 =>
  (mSlicesContains l833 x798).bind fun x848 =>
  some x848))).bind (fun x829 =>
  if x829 = true then (
  some (.inr true))
  else (
  (ne0 8).bind fun _ =>
  (chk (Int.tdiv x798 8)).bind fun _ =>
  (idx l793 (Int.tdiv x798 8)).bind fun x892 =>
  (ne0 8).bind fun _ =>
  (shN (Int.tmod x798 8)).bind fun _ =>
  (idx l793 (Int.tdiv x798 8)).bind fun _ =>
  some (.inl (put l793 (Int.tdiv x798 8) (xorI .u8 x892 (shlI .u8 1 (Int.tmod x798 8)))))))

/-- fishplate/fishkeep1.GuardFlips -/
noncomputable def mFishkeep1GuardFlips (s1 : GuardTelegram) (l5 : (List Int)) : Option (Bool) :=
  (mFishkeep1AwakeGuard).bind fun x478 =>
  if x478 = true then (
  (mGuardWrite s1).bind (unc2 fun x481 l482 =>
  if x481 ≠ 0 then (
  some (decide ((l482.length : Int) = 0)))
  else (
  (mGuardRead l482).bind (unc4 fun x495 x496 x497 x498 =>
  (if x498 ≠ 0 then (
  some true)
  else (
  if x495 = s1.Link ∧ x496 = s1.Section ∧ x497 = s1.Away then (
  some (decide ((l482.length : Int) ≠ 8)))
  else (
  some true))).bind (fun x507 =>
  if x507 = true then (
  some false)
  else (
  (mSlicesClone l482).bind fun l512 =>
  (forM (mFishkeep1GuardFlips_L520 l5) l5.length 0 l512).bind fun t => Sum.elim (fun l793 =>
  (if (l5.length : Int) < 1 then (
  some true)
  else (
  some (decide (3 < (l5.length : Int))))).bind (fun x932 =>
  if x932 = true then (
  some true)
  else (
  (mGuardRead l793).bind (unc4 fun _ _ _ x943 =>
  some (decide (x943 = 11)))))) (fun q => some q) t))))))
  else (
  some false)

end Go.Proofs.YtljcafilceachaaDoor
