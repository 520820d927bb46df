/- The models of the functions, as the extractor printed them. -/
import Derived.Test.YtbggpdpcndpaoaaDoorSh2
import Derived.Test.YtbggpdpcndpaoaaDoorXU
import Derived.Test.YtbggpdpcndpaoaaDoorXV
set_option linter.unusedVariables false
set_option linter.unusedSimpArgs false
namespace Go.Proofs.YtbggpdpcndpaoaaDoor
open Go.RowKit Go.Fp

structure Fishkeep1Act where
  Kind : Int
  Wait : Int
  A : Int
  B : Int
  C : Int
  deriving DecidableEq
def rFishkeep1Act : RT Fishkeep1Act := (RT.cat (RT.on (RT.int .i64) Fishkeep1Act.Kind) (RT.cat (RT.on (RT.int .i64) Fishkeep1Act.Wait) (RT.cat (RT.on (RT.int .i64) Fishkeep1Act.A) (RT.cat (RT.on (RT.int .i64) Fishkeep1Act.B) (RT.on (RT.int .i64) Fishkeep1Act.C)))))
structure GuardPacket where
  Kind : Int
  Session : Int
  No : Int
  Of : Int
  End : Int
  At : Int
  Speed : Int
  Sent : Int
  deriving DecidableEq
def rGuardPacket : RT GuardPacket := (RT.cat (RT.on (RT.int .i64) GuardPacket.Kind) (RT.cat (RT.on (RT.int .i64) GuardPacket.Session) (RT.cat (RT.on (RT.int .i64) GuardPacket.No) (RT.cat (RT.on (RT.int .i64) GuardPacket.Of) (RT.cat (RT.on (RT.int .i64) GuardPacket.End) (RT.cat (RT.on (RT.int .i64) GuardPacket.At) (RT.cat (RT.on (RT.int .i64) GuardPacket.Speed) (RT.on (RT.int .i64) GuardPacket.Sent))))))))
structure GuardAsk where
  no : Int
  end_ : Int
  grant : Bool
  deriving DecidableEq
def rGuardAsk : RT GuardAsk := (RT.cat (RT.on (RT.int .i64) GuardAsk.no) (RT.cat (RT.on (RT.int .i64) GuardAsk.end_) (RT.on RT.bool GuardAsk.grant)))
structure GuardCentre where
  session : Int
  last : Int
  no : Int
  heard : Int
  reserved : Int
  asks : (List GuardAsk)
  known : (List Int)
def rGuardCentre : RT GuardCentre := (RT.cat (RT.on (RT.int .i64) GuardCentre.session) (RT.cat (RT.on (RT.int .i64) GuardCentre.last) (RT.cat (RT.on (RT.int .i64) GuardCentre.no) (RT.cat (RT.on (RT.int .i64) GuardCentre.heard) (RT.cat (RT.on (RT.int .i64) GuardCentre.reserved) (RT.cat (RT.on (RT.list rGuardAsk) GuardCentre.asks) (RT.on (RT.arr 4 (RT.int .i64)) GuardCentre.known)))))))
structure GuardStand where
  high : Int
  way : Int
  deriving DecidableEq
def rGuardStand : RT GuardStand := (RT.cat (RT.on (RT.int .i64) GuardStand.high) (RT.on (RT.int .i64) GuardStand.way))

/-- internal/stringslite.IndexByte -/
noncomputable def mStringsliteIndexByte (x1 : ByteArray) (x2 : Int) : Option (Int) :=
  some (sFirst x1 x2)

/-- internal/stringslite.Index -/
noncomputable def mStringsliteIndex (x1 : ByteArray) (x2 : ByteArray) : Option (Int) :=
  (if (x2.size : Int) = 0 then (
  some true)
  else (
  some (sEq x2 x1))).bind (fun x20 =>
  if x20 = true then (
  some 0)
  else (
  if (x2.size : Int) = 1 then (
  (sIdx x2 0).bind fun x25 =>
  (mStringsliteIndexByte x1 x25).bind fun x27 =>
  some x27)
  else (
  if (x1.size : Int) ≤ (x2.size : Int) then (
  some (-1))
  else (
  none))))

/-- strings.Index -/
noncomputable def mStringsIndex (x1 : ByteArray) (x2 : ByteArray) : Option (Int) :=
  (mStringsliteIndex x1 x2).bind fun x6 =>
  some x6

noncomputable def mStringsCount_L40 (x2 : ByteArray) : (ByteArray × Int) → Option ((ByteArray × Int) ⊕ (Int)) := unc2 fun x59 x60 =>
  (mStringsIndex x59 x2).bind fun x61 =>
  if x61 = (-1) then (
  some (.inr x60))
  else (
  (chk (x60 + 1)).bind fun _ =>
  (chk (x61 + (x2.size : Int))).bind fun _ =>
  (sCut x59 (x61 + (x2.size : Int)) (x59.size : Int)).bind fun q66 =>
  some (.inl (q66, x60 + 1)))

/-- strings.Count -/
noncomputable def mStringsCount (x1 : ByteArray) (x2 : ByteArray) : Option (Int) :=
  if (x2.size : Int) = 0 then (
  none)
  else (
  if (x2.size : Int) = 1 then (
  (sIdx x2 0).bind fun x38 =>
  some (sCount x1 x38))
  else (
  loopM (mStringsCount_L40 x2) (x1, 0)))

noncomputable def mStringsGenSplit_L419 (x1 : ByteArray) (x2 : ByteArray) (x3 : Int) (x291 : Int) : (ByteArray × Int × (List ByteArray)) → Option ((ByteArray × Int × (List ByteArray)) ⊕ (ByteArray × Int × (List ByteArray))) := unc3 fun x490 x491 l492 =>
  if x491 < ((min x291 ((x1.size : Int) + 1)) - 1) then (
  (mStringsIndex x490 x2).bind fun x495 =>
  if x495 < 0 then (
  some (.inr (x490, x491, l492)))
  else (
  (chk (x495 + x3)).bind fun _ =>
  (sCut x490 0 (x495 + x3)).bind fun q499 =>
  (idx l492 x491).bind fun _ =>
  (chk (x495 + (x2.size : Int))).bind fun _ =>
  (sCut x490 (x495 + (x2.size : Int)) (x490.size : Int)).bind fun q520 =>
  (chk (x491 + 1)).bind fun _ =>
  some (.inl (q520, x491 + 1, put l492 x491 q499))))
  else (
  some (.inr (x490, x491, l492)))

/-- strings.genSplit -/
noncomputable def mStringsGenSplit (x1 : ByteArray) (x2 : ByteArray) (x3 : Int) (x4 : Int) : Option ((List ByteArray)) :=
  if x4 = 0 then (
  some [])
  else (
  if (sEq x2 (ByteArray.mk #[])) = true then (
  none)
  else (
  (if x4 < 0 then (
  (mStringsCount x1 x2).bind fun x294 =>
  (chk (x294 + 1)).bind fun _ =>
  some (x294 + 1))
  else (
  some x4)).bind (fun x291 =>
  (chk ((x1.size : Int) + 1)).bind fun _ =>
  (mkLen 16 (min x291 ((x1.size : Int) + 1))).bind fun m298 =>
  (chk ((min x291 ((x1.size : Int) + 1)) - 1)).bind fun _ =>
  (loopM (mStringsGenSplit_L419 x1 x2 x3 x291) (x1, 0, List.replicate m298 (ByteArray.empty : ByteArray))).bind (unc3 fun x414 x415 l416 =>
  (idx l416 x415).bind fun _ =>
  (chk (x415 + 1)).bind fun _ =>
  (cutS (put l416 x415 x414) 0 (x415 + 1)).bind fun l542 =>
  some l542))))

/-- strings.Split -/
noncomputable def mStringsSplit (x1 : ByteArray) (x2 : ByteArray) : Option ((List ByteArray)) :=
  (mStringsGenSplit x1 x2 0 (-1)).bind fun l17 =>
  some l17

/-- strconv.Atoi -/
noncomputable def mStrconvAtoi (x1 : ByteArray) : Option (Int × Bool) :=
  atoiM x1

/-- strconv.Itoa -/
noncomputable def mStrconvItoa (x1 : Int) : Option (ByteArray) :=
  itoaM x1

/-- internal/stringslite.HasPrefix -/
noncomputable def mStringsliteHasPrefix (x1 : ByteArray) (x2 : ByteArray) : Option (Bool) :=
  (if (x2.size : Int) ≤ (x1.size : Int) then (
  (sCut x1 0 (x2.size : Int)).bind fun q22 =>
  some (sEq q22 x2))
  else (
  some false)).bind (fun x19 =>
  some x19)

/-- internal/stringslite.TrimPrefix -/
noncomputable def mStringsliteTrimPrefix (x1 : ByteArray) (x2 : ByteArray) : Option (ByteArray) :=
  (mStringsliteHasPrefix x1 x2).bind fun x9 =>
  if x9 = true then (
  (sCut x1 (x2.size : Int) (x1.size : Int)).bind fun q12 =>
  some q12)
  else (
  some x1)

/-- strings.TrimPrefix -/
noncomputable def mStringsTrimPrefix (x1 : ByteArray) (x2 : ByteArray) : Option (ByteArray) :=
  (mStringsliteTrimPrefix x1 x2).bind fun x6 =>
  some x6

/-- fishplate/line.Number -/
noncomputable def mLineNumber (x1 : ByteArray) : Option (Int × Bool) :=
  (mStrconvAtoi x1).bind (unc2 fun x27 q28 =>
  (if q28 = true then (
  (mStrconvItoa x27).bind fun x45 =>
  if (sEq x45 x1) = true then (
  (mStringsTrimPrefix x1 (ByteArray.mk #[45])).bind fun x48 =>
  some (decide ((x48.size : Int) ≤ 9)))
  else (
  some false))
  else (
  some false)).bind (fun x42 =>
  some (x27, x42)))

noncomputable def mLineNumbers_L95 (l4 : (List ByteArray)) (k152 : Nat) : ((List Int)) → Option (((List Int)) ⊕ (Bool × (List Int))) := fun l151 =>
  (idx l4 (k152 : Int)).bind fun x156 =>
  (mLineNumber x156).bind (unc2 fun x166 x167 =>
  if x167 = true then (
  (room 8 (l151.length + 1)).bind fun _ =>
  some (.inl (l151 ++ [x166])))
  else (
  some (.inr (false, []))))

/-- fishplate/line.Numbers -/
noncomputable def mLineNumbers (l4 : (List ByteArray)) : Option (Bool × (List Int)) :=
  (forM (mLineNumbers_L95 l4) l4.length 0 ([] : (List Int))).bind fun t => Sum.elim (fun l151 =>
  some (true, l151)) (fun q => some q) t

/-- fishplate/guard.within -/
noncomputable def mGuardWithin (x1 : Int) (x2 : Int) (x3 : Int) : Option (Bool) :=
  (if x2 ≤ x1 then (
  some (decide (x1 ≤ x3)))
  else (
  some false)).bind (fun x14 =>
  some x14)

/-- (fishplate/guard.Packet).used -/
noncomputable def mGuardPacketUsed (s1 : GuardPacket) : Option (Int × Int × Int × Int × Int × Int × Int × Int) :=
  (if s1.Kind = 1 then (
  some (0, 0, s1.At, 0))
  else (
  if s1.Kind = 3 then (
  some (0, s1.End, s1.At, s1.Speed))
  else (
  (if s1.Kind = 4 then (
  some (decide (s1.Kind = 4)))
  else (
  some (decide (s1.Kind = 5)))).bind (fun x68 =>
  if x68 = true then (
  some (0, s1.End, 0, 0))
  else (
  if s1.Kind = 7 then (
  some (s1.Of, s1.End, 0, 0))
  else (
  if s1.Kind = 8 then (
  some (s1.Of, 0, 0, 0))
  else (
  some (0, 0, 0, 0)))))))).bind (unc4 fun x58 x59 x60 x61 =>
  some (s1.Kind, s1.Session, s1.No, x58, x59, x60, x61, s1.Sent))

/-- (fishplate/guard.Packet).check -/
noncomputable def mGuardPacketCheck (s1 : GuardPacket) : Option (Int) :=
  (mGuardWithin s1.Kind 1 8).bind fun x110 =>
  if x110 = true then (
  ((mGuardWithin s1.Session 1 1000000).bind fun x137 =>
  if x137 = true then (
  (mGuardWithin s1.No 1 1000000).bind fun x140 =>
  if x140 = true then (
  (mGuardWithin s1.Of 0 1000000).bind fun x143 =>
  if x143 = true then (
  (mGuardWithin s1.End 0 20000000).bind fun x146 =>
  if x146 = true then (
  (mGuardWithin s1.At 0 20000000).bind fun x149 =>
  if x149 = true then (
  (mGuardWithin s1.Speed 0 6000).bind fun x152 =>
  if x152 = true then (
  (mGuardWithin s1.Sent 0 28800).bind fun x155 =>
  some (!x155))
  else (
  some true))
  else (
  some true))
  else (
  some true))
  else (
  some true))
  else (
  some true))
  else (
  some true)).bind (fun x135 =>
  if x135 = true then (
  some 2)
  else (
  ((mGuardPacketUsed s1).bind (unc8 fun x201 x202 x203 x204 x205 x206 x207 x208 =>
  if s1.Kind = x201 ∧ s1.Session = x202 ∧ s1.No = x203 ∧ s1.Of = x204 ∧ s1.End = x205 ∧ s1.At = x206 ∧ s1.Speed = x207 ∧ s1.Sent = x208 then (
  if s1.Of = 0 then (
  some (decide (7 ≤ s1.Kind)))
  else (
  some false))
  else (
  some true))).bind (fun x186 =>
  if x186 = true then (
  some 1)
  else (
  some 0)))))
  else (
  some 15)

/-- fishplate/guard.Unpack -/
noncomputable def mGuardUnpack (x1 : ByteArray) : Option (Int × Int × Int × Int × Int × Int × Int × Int × Int) :=
  (mStringsSplit x1 (ByteArray.mk #[32])).bind fun l568 =>
  (mLineNumbers l568).bind (unc2 fun x576 l577 =>
  (if x576 = true then (
  some (decide ((l577.length : Int) ≠ 8)))
  else (
  some true)).bind (fun x588 =>
  if x588 = true then (
  some (0, 0, 0, 0, 0, 0, 0, 0, 10))
  else (
  ((idx l577 0).bind fun x991 =>
  (idx l577 1).bind fun x1007 =>
  (idx l577 2).bind fun x1023 =>
  (idx l577 3).bind fun x1039 =>
  (idx l577 4).bind fun x1055 =>
  (idx l577 5).bind fun x1071 =>
  (idx l577 6).bind fun x1087 =>
  (idx l577 7).bind fun x1103 =>
  some (x991, x1007, x1023, x1039, x1055, x1071, x1087, x1103)).bind (unc8 fun x853 x854 x855 x856 x857 x858 x859 x860 =>
  (mGuardPacketCheck (⟨x853, x854, x855, x856, x857, x858, x859, x860⟩ : GuardPacket)).bind fun x1120 =>
  if x1120 ≠ 0 then (
  some (0, 0, 0, 0, 0, 0, 0, 0, x1120))
  else (
  some (x853, x854, x855, x856, x857, x858, x859, x860, 0))))))

/-- fishplate/fishkeep1.awakeGuard -/
noncomputable def mFishkeep1AwakeGuard : Option (Bool) :=
  (mGuardUnpack (ByteArray.mk #[])).bind (unc9 fun _ _ _ _ _ _ _ _ x23 =>
  some (decide (x23 ≠ 0)))

/-- fishplate/guard.NewUnit -/
noncomputable def mGuardNewUnit : Option (Int × Int × Int × Int × Int) :=
  some (0, 0, 0, 0, 0)

/-- fishplate/guard.NewCentre -/
noncomputable def mGuardNewCentre : Option (Int × Int × Int × Int × Int × Int × Int × Int × Int × (List GuardAsk)) :=
  some (0, 0, 0, 0, 0, 0, 0, 0, 0, [])

/-- (*fishplate/guard.Unit).Session -/
noncomputable def mGuardUnitSession (x2 : Int) (_x3 : Int) (_x4 : Int) (_x5 : Int) (_x6 : Int) : Option (Int) :=
  some x2

/-- (*fishplate/guard.Unit).End -/
noncomputable def mGuardUnitEnd (_x2 : Int) (x3 : Int) (_x4 : Int) (_x5 : Int) (_x6 : Int) : Option (Int) :=
  some x3

/-- (*fishplate/guard.Unit).Begin -/
noncomputable def mGuardUnitBegin (x2 : Int) (x3 : Int) (x4 : Int) (x5 : Int) (x6 : Int) (x7 : Int) (x8 : Int) : Option (Int × Int × Int × Int × Int × Int × Int × Int × Int × Int × Int × Int × Int × Int) :=
  ((mGuardWithin x2 0 28800).bind fun x51 =>
  if x51 = true then (
  (mGuardWithin x3 0 20000000).bind fun x54 =>
  some (!x54))
  else (
  some true)).bind (fun x49 =>
  if x49 = true then (
  some (0, 0, 0, 0, 0, 0, 0, 0, 2, x4, x5, x6, x7, x8))
  else (
  if 1000000 ≤ x4 then (
  some (0, 0, 0, 0, 0, 0, 0, 0, 4, x4, x5, x6, x7, x8))
  else (
  (chk (x4 + 1)).bind fun _ =>
  some (1, x4 + 1, 1, 0, 0, x3, 0, x2, 0, x4 + 1, x3, 1, 0, x2))))

/-- (*fishplate/guard.Unit).Say -/
noncomputable def mGuardUnitSay (x2 : Int) (x3 : Int) (x4 : Int) (x5 : Int) (x6 : Int) (x7 : Int) (_x8 : Int) (_x9 : Int) : Option (Int × Int × Int × Int × Int × Int × Int × Int × Int × Int) :=
  if x5 = 0 then (
  some (0, 0, 0, 0, 0, 0, 0, 0, 7, x7))
  else (
  ((mGuardWithin x2 0 28800).bind fun x59 =>
  if x59 = true then (
  (mGuardWithin x3 0 20000000).bind fun x62 =>
  if x62 = true then (
  (mGuardWithin x4 0 6000).bind fun x65 =>
  some (!x65))
  else (
  some true))
  else (
  some true)).bind (fun x57 =>
  if x57 = true then (
  some (0, 0, 0, 0, 0, 0, 0, 0, 2, x7))
  else (
  if 1000000 ≤ x7 then (
  some (0, 0, 0, 0, 0, 0, 0, 0, 4, x7))
  else (
  (chk (x7 + 1)).bind fun _ =>
  some (3, x5, x7 + 1, 0, x6, x3, x4, x2, 0, x7 + 1)))))

/-- fishplate/guard.fresh -/
noncomputable def mGuardFresh (s1 : GuardPacket) (x2 : Int) : Option (Bool) :=
  ((mGuardPacketCheck s1).bind fun x41 =>
  if x41 = 0 then (
  (mGuardWithin x2 0 28800).bind fun x44 =>
  if x44 = true then (
  (chk (x2 - s1.Sent)).bind fun _ =>
  (mGuardWithin (x2 - s1.Sent) 0 10).bind fun x48 =>
  some x48)
  else (
  some false))
  else (
  some false)).bind (fun x39 =>
  some x39)

/-- (*fishplate/guard.Unit).welcome -/
noncomputable def mGuardUnitWelcome (_s2 : GuardPacket) (_s3 : GuardStand) (_x4 : Int) (_x5 : Int) (_x6 : Int) (_x7 : Int) (_x8 : Int) : Option (Int × Int × Int × Int × Int × Int × Int × Int) :=
  some (0, 0, 0, 0, 0, 0, 0, 0)

/-- (*fishplate/guard.Unit).grant -/
noncomputable def mGuardUnitGrant (s2 : GuardPacket) (_s3 : GuardStand) (_x4 : Int) (x5 : Int) (_x6 : Int) (_x7 : Int) (_x8 : Int) : Option (Int × Int × Int × Int × Int × Int × Int × Int × Int) :=
  some (0, 0, 0, 0, 0, 0, 0, 0, max x5 s2.End)

/-- (*fishplate/guard.Unit).short -/
noncomputable def mGuardUnitShort (s2 : GuardPacket) (s3 : GuardStand) (_x4 : Int) (x5 : Int) (_x6 : Int) (_x7 : Int) (_x8 : Int) : Option (Int × Int × Int × Int × Int × Int × Int × Int × Int) :=
  (chk (s3.high + s3.way)).bind fun _ =>
  if s2.End < (s3.high + s3.way) then (
  some (8, 0, 0, s2.No, 0, 0, 0, 0, x5))
  else (
  some (7, 0, 0, s2.No, min x5 s2.End, 0, 0, 0, min x5 s2.End))

/-- (*fishplate/guard.Unit).stop -/
noncomputable def mGuardUnitStop (s2 : GuardPacket) (s3 : GuardStand) (_x4 : Int) (x5 : Int) (_x6 : Int) (_x7 : Int) (_x8 : Int) : Option (Int × Int × Int × Int × Int × Int × Int × Int × Int) :=
  (chk (s3.high + s3.way)).bind fun _ =>
  some (7, 0, 0, s2.No, min x5 (s3.high + s3.way), 0, 0, 0, min x5 (s3.high + s3.way))

/-- (*fishplate/guard.Unit).Hear -/
noncomputable def mGuardUnitHear (s2 : GuardPacket) (x3 : Int) (x4 : Int) (x5 : Int) (x6 : Int) (x7 : Int) (x8 : Int) (x9 : Int) (x10 : Int) : Option (Int × Int × Int × Int × Int × Int × Int × Int × Bool × Int × Int × Int × Int) :=
  if s2.Kind = (2 : Int) then (
  ((mGuardFresh s2 x3).bind fun x399 =>
  if x399 = true then (
  if s2.Session ≠ x6 then (
  some true)
  else (
  if s2.No ≤ x9 then (
  some true)
  else (
  (mGuardWithin x4 0 20000000).bind fun x404 =>
  if x404 = true then (
  (mGuardWithin x5 0 20000000).bind fun x407 =>
  some (!x407))
  else (
  some true))))
  else (
  some true)).bind (fun x387 =>
  if x387 = true then (
  some (0, 0, 0, 0, 0, 0, 0, 0, false, x7, x8, x9, x10))
  else (
  (if s2.Kind = 5 then (
  some (decide (1000000 ≤ x8)))
  else (
  if s2.Kind = 6 then (
  some (decide (1000000 ≤ x8)))
  else (
  some false))).bind (fun x414 =>
  if x414 = true then (
  some (0, 0, 0, 0, 0, 0, 0, 0, false, x7, x8, x9, x10))
  else (
  (mGuardUnitWelcome s2 (⟨x4, x5⟩ : GuardStand) x6 x7 x8 s2.No x3).bind (unc8 fun x419 x420 x421 x422 x423 x424 x425 x426 =>
  if x419 = 0 ∧ x420 = 0 ∧ x421 = 0 ∧ x422 = 0 ∧ x423 = 0 ∧ x424 = 0 ∧ x425 = 0 ∧ x426 = 0 then (
  some (0, 0, 0, 0, 0, 0, 0, 0, false, x7, x8, s2.No, x3))
  else (
  (chk (x8 + 1)).bind fun _ =>
  (some ()).bind (fun _ =>
  some (x419, x6, x8 + 1, x422, x423, x424, x425, x3, true, x7, x8 + 1, s2.No, x3)))))))))
  else (
  if s2.Kind = (4 : Int) then (
  ((mGuardFresh s2 x3).bind fun x472 =>
  if x472 = true then (
  if s2.Session ≠ x6 then (
  some true)
  else (
  if s2.No ≤ x9 then (
  some true)
  else (
  (mGuardWithin x4 0 20000000).bind fun x477 =>
  if x477 = true then (
  (mGuardWithin x5 0 20000000).bind fun x480 =>
  some (!x480))
  else (
  some true))))
  else (
  some true)).bind (fun x460 =>
  if x460 = true then (
  some (0, 0, 0, 0, 0, 0, 0, 0, false, x7, x8, x9, x10))
  else (
  (if s2.Kind = 5 then (
  some (decide (1000000 ≤ x8)))
  else (
  if s2.Kind = 6 then (
  some (decide (1000000 ≤ x8)))
  else (
  some false))).bind (fun x487 =>
  if x487 = true then (
  some (0, 0, 0, 0, 0, 0, 0, 0, false, x7, x8, x9, x10))
  else (
  (mGuardUnitGrant s2 (⟨x4, x5⟩ : GuardStand) x6 x7 x8 s2.No x3).bind (unc9 fun x492 x493 x494 x495 x496 x497 x498 x499 x500 =>
  if x492 = 0 ∧ x493 = 0 ∧ x494 = 0 ∧ x495 = 0 ∧ x496 = 0 ∧ x497 = 0 ∧ x498 = 0 ∧ x499 = 0 then (
  some (0, 0, 0, 0, 0, 0, 0, 0, false, x500, x8, s2.No, x3))
  else (
  (chk (x8 + 1)).bind fun _ =>
  (some ()).bind (fun _ =>
  some (x492, x6, x8 + 1, x495, x496, x497, x498, x3, true, x500, x8 + 1, s2.No, x3)))))))))
  else (
  if s2.Kind = (5 : Int) then (
  ((mGuardFresh s2 x3).bind fun x546 =>
  if x546 = true then (
  if s2.Session ≠ x6 then (
  some true)
  else (
  if s2.No ≤ x9 then (
  some true)
  else (
  (mGuardWithin x4 0 20000000).bind fun x551 =>
  if x551 = true then (
  (mGuardWithin x5 0 20000000).bind fun x554 =>
  some (!x554))
  else (
  some true))))
  else (
  some true)).bind (fun x534 =>
  if x534 = true then (
  some (0, 0, 0, 0, 0, 0, 0, 0, false, x7, x8, x9, x10))
  else (
  (if s2.Kind = 5 then (
  some (decide (1000000 ≤ x8)))
  else (
  if s2.Kind = 6 then (
  some (decide (1000000 ≤ x8)))
  else (
  some false))).bind (fun x561 =>
  if x561 = true then (
  some (0, 0, 0, 0, 0, 0, 0, 0, false, x7, x8, x9, x10))
  else (
  (mGuardUnitShort s2 (⟨x4, x5⟩ : GuardStand) x6 x7 x8 s2.No x3).bind (unc9 fun x566 x567 x568 x569 x570 x571 x572 x573 x574 =>
  if x566 = 0 ∧ x567 = 0 ∧ x568 = 0 ∧ x569 = 0 ∧ x570 = 0 ∧ x571 = 0 ∧ x572 = 0 ∧ x573 = 0 then (
  some (0, 0, 0, 0, 0, 0, 0, 0, false, x574, x8, s2.No, x3))
  else (
  (chk (x8 + 1)).bind fun _ =>
  (some ()).bind (fun _ =>
  some (x566, x6, x8 + 1, x569, x570, x571, x572, x3, true, x574, x8 + 1, s2.No, x3)))))))))
  else (
  if s2.Kind = (6 : Int) then (
  ((mGuardFresh s2 x3).bind fun x620 =>
  if x620 = true then (
  if s2.Session ≠ x6 then (
  some true)
  else (
  if s2.No ≤ x9 then (
  some true)
  else (
  (mGuardWithin x4 0 20000000).bind fun x625 =>
  if x625 = true then (
  (mGuardWithin x5 0 20000000).bind fun x628 =>
  some (!x628))
  else (
  some true))))
  else (
  some true)).bind (fun x608 =>
  if x608 = true then (
  some (0, 0, 0, 0, 0, 0, 0, 0, false, x7, x8, x9, x10))
  else (
  (if s2.Kind = 5 then (
  some (decide (1000000 ≤ x8)))
  else (
  if s2.Kind = 6 then (
  some (decide (1000000 ≤ x8)))
  else (
  some false))).bind (fun x635 =>
  if x635 = true then (
  some (0, 0, 0, 0, 0, 0, 0, 0, false, x7, x8, x9, x10))
  else (
  (mGuardUnitStop s2 (⟨x4, x5⟩ : GuardStand) x6 x7 x8 s2.No x3).bind (unc9 fun x640 x641 x642 x643 x644 x645 x646 x647 x648 =>
  if x640 = 0 ∧ x641 = 0 ∧ x642 = 0 ∧ x643 = 0 ∧ x644 = 0 ∧ x645 = 0 ∧ x646 = 0 ∧ x647 = 0 then (
  some (0, 0, 0, 0, 0, 0, 0, 0, false, x648, x8, s2.No, x3))
  else (
  (chk (x8 + 1)).bind fun _ =>
  (some ()).bind (fun _ =>
  some (x640, x6, x8 + 1, x643, x644, x645, x646, x3, true, x648, x8 + 1, s2.No, x3)))))))))
  else (
  (some ()).bind (fun _ =>
  some (0, 0, 0, 0, 0, 0, 0, 0, false, x7, x8, x9, x10))))))

/-- (*fishplate/guard.Centre).Reserved -/
noncomputable def mGuardCentreReserved_2 (_x7 : Int) (_x8 : Int) (_x9 : Int) (_x10 : Int) (x11 : Int) (_x12 : Int) (_x13 : Int) (_x14 : Int) (_x15 : Int) (_l16 : (List GuardAsk)) : Option (Int) :=
  some x11

/-- (*fishplate/guard.Centre).Hand -/
noncomputable def mGuardCentreHand (x2 : Int) (x3 : Int) (x4 : Int) (x5 : Int) (x6 : Int) (l10 : (List GuardAsk)) (x11 : Int) (x12 : Int) (x13 : Int) (x14 : Int) : Option (Int × Int × Int × Int × Int × Int × Int × Int × Int × Int × Int × Int × Int × (List GuardAsk) × (List GuardAsk)) :=
  (room 24 (([] : List GuardAsk).length + l10.length)).bind fun _ =>
  (if x2 ≠ 0 then (
  (chk (x4 + 1000)).bind fun _ =>
  some (x4 + 1000, 0, 0, 0, 0, []))
  else (
  some (x4, x2, x4, x5, x6, l10))).bind (unc6 fun x79 x80 x81 x82 x83 l87 =>
  some (x2, x3, x79, x5, x6, x11, x12, x13, x14, x80, x81, x82, x83, l87, l10))

/-- (*fishplate/guard.Centre).send -/
noncomputable def mGuardCentreSend_2 (x7 : Int) (x8 : Int) (x9 : Int) (x10 : Int) (_x11 : Int) (x12 : Int) (_x13 : Int) (_x14 : Int) (_x15 : Int) (_x16 : Int) (_x17 : Int) (_x18 : Int) (l19 : (List GuardAsk)) : Option (Int × Int × Int × Int × Int × Int × Int × Int × Int × Int × (List GuardAsk)) :=
  if x10 = 0 then (
  some (0, 0, 0, 0, 0, 0, 0, 0, 7, x12, l19))
  else (
  ((mGuardWithin x8 0 28800).bind fun x100 =>
  if x100 = true then (
  (mGuardWithin x9 0 20000000).bind fun x103 =>
  some (!x103))
  else (
  some true)).bind (fun x98 =>
  if x98 = true then (
  some (0, 0, 0, 0, 0, 0, 0, 0, 2, x12, l19))
  else (
  if 1000000 ≤ x12 then (
  some (0, 0, 0, 0, 0, 0, 0, 0, 4, x12, l19))
  else (
  (chk (x12 + 1)).bind fun _ =>
  ((room 24 (l19.length + 1)).bind fun _ =>
  some (l19 ++ [(⟨x12 + 1, x9, decide (x7 = 4)⟩ : GuardAsk)])).bind (fun l129 =>
  some (x7, x10, x12 + 1, 0, x9, 0, 0, x8, 0, x12 + 1, l129))))))

/-- (*fishplate/guard.Centre).Grant -/
noncomputable def mGuardCentreGrant_2 (x7 : Int) (x8 : Int) (x9 : Int) (x10 : Int) (x11 : Int) (x12 : Int) (x13 : Int) (x14 : Int) (x15 : Int) (x16 : Int) (x17 : Int) (l18 : (List GuardAsk)) : Option (Int × Int × Int × Int × Int × Int × Int × Int × Int × Int × Int × (List GuardAsk)) :=
  (mGuardCentreSend_2 4 x7 x8 x9 x10 x11 x12 x13 x14 x15 x16 x17 l18).bind (unc11 fun x63 x64 x65 x66 x67 x68 x69 x70 x71 x72 l73 =>
  (if x71 = 0 then (
  some (max x13 x8))
  else (
  some x13)).bind (fun x85 =>
  some (x63, x64, x65, x66, x67, x68, x69, x70, x71, x72, x85, l73)))

/-- (*fishplate/guard.Centre).Short -/
noncomputable def mGuardCentreShort_2 (x7 : Int) (x8 : Int) (x9 : Int) (x10 : Int) (x11 : Int) (x12 : Int) (x13 : Int) (x14 : Int) (x15 : Int) (x16 : Int) (x17 : Int) (l18 : (List GuardAsk)) : Option (Int × Int × Int × Int × Int × Int × Int × Int × Int × Int × (List GuardAsk)) :=
  (mGuardCentreSend_2 5 x7 x8 x9 x10 x11 x12 x13 x14 x15 x16 x17 l18).bind (unc11 fun x55 x56 x57 x58 x59 x60 x61 x62 x63 x64 l65 =>
  some (x55, x56, x57, x58, x59, x60, x61, x62, x63, x64, l65))

/-- (*fishplate/guard.Centre).Stop -/
noncomputable def mGuardCentreStop_2 (x7 : Int) (x8 : Int) (x9 : Int) (x10 : Int) (x11 : Int) (x12 : Int) (x13 : Int) (x14 : Int) (x15 : Int) (x16 : Int) (l17 : (List GuardAsk)) : Option (Int × Int × Int × Int × Int × Int × Int × Int × Int × Int × (List GuardAsk)) :=
  (mGuardCentreSend_2 6 x7 0 x8 x9 x10 x11 x12 x13 x14 x15 x16 l17).bind (unc11 fun x54 x55 x56 x57 x58 x59 x60 x61 x62 x63 l64 =>
  some (x54, x55, x56, x57, x58, x59, x60, x61, x62, x63, l64))

/-- fishplate/fishkeep1.asked -/
noncomputable def mFishkeep1Asked_2 (x7 : Int) (x8 : Int) (x9 : Int) (x10 : Int) (x11 : Int) (x12 : Int) (x13 : Int) (x14 : Int) (x15 : Int) (x16 : Int) (x17 : Int) (x18 : Int) (l19 : (List GuardAsk)) : Option (Int × Int × Int × Int × Int × Int × Int × Int × Bool × Int × Int × (List GuardAsk)) :=
  (if x7 = 2 then (
  (mGuardCentreGrant_2 x8 x9 x10 x11 x12 x13 x14 x15 x16 x17 x18 l19).bind (unc12 fun x253 x254 x255 x256 x257 x258 x259 x260 x261 x262 x263 l264 =>
  some (x261, x253, x254, x255, x256, x257, x258, x259, x260, x262, x263, l264)))
  else (
  if x7 = 3 then (
  (mGuardCentreShort_2 x8 x9 x10 x11 x12 x13 x14 x15 x16 x17 x18 l19).bind (unc11 fun x273 x274 x275 x276 x277 x278 x279 x280 x281 x282 l283 =>
  some (x281, x273, x274, x275, x276, x277, x278, x279, x280, x282, x14, l283)))
  else (
  (mGuardCentreStop_2 x8 x10 x11 x12 x13 x14 x15 x16 x17 x18 l19).bind (unc11 fun x291 x292 x293 x294 x295 x296 x297 x298 x299 x300 l301 =>
  some (x299, x291, x292, x293, x294, x295, x296, x297, x298, x300, x14, l301))))).bind (unc12 fun x239 x240 x241 x242 x243 x244 x245 x246 x247 x248 x249 l250 =>
  some (x240, x241, x242, x243, x244, x245, x246, x247, decide (x239 = 0), x248, x249, l250))

noncomputable def mGuardCentreAgree_2_L178 (s2 : GuardPacket) (l11 : (List GuardAsk)) (k283 : Nat) : (Bool × Int × (List GuardAsk)) → Option (Bool × Int × (List GuardAsk)) := unc3 fun x280 x281 l282 =>
  (idx l11 (k283 : Int)).bind fun x286 =>
  (if x286.no = s2.Of then (
  some (!x286.grant))
  else (
  some false)).bind (fun x300 =>
  if x300 = true then (
  some (true, x281, l282))
  else (
  ((if x286.grant = true then (
  some (decide (s2.Of < x286.no)))
  else (
  some false)).bind (fun x318 =>
  if x318 = true then (
  some (max x281 x286.end_))
  else (
  some x281))).bind (fun x313 =>
  (room 24 (l282.length + 1)).bind fun _ =>
  some (x280, x313, l282 ++ [x286]))))

/-- (*fishplate/guard.Centre).agree -/
noncomputable def mGuardCentreAgree_2 (s2 : GuardPacket) (_x3 : Int) (_x4 : Int) (_x5 : Int) (_x6 : Int) (x7 : Int) (l11 : (List GuardAsk)) (_x12 : Int) (_x13 : Int) (_x14 : Int) (_x15 : Int) : Option (Int × (List GuardAsk)) :=
  (forS (mGuardCentreAgree_2_L178 s2 l11) l11.length 0 ((false, s2.End, []) : Bool × Int × (List GuardAsk))).bind (unc3 fun x280 x281 l282 =>
  if x280 = true then (
  some (x281, l282))
  else (
  some (x7, l11)))

/-- (*fishplate/guard.Centre).Hear -/
noncomputable def mGuardCentreHear_2 (s2 : GuardPacket) (x3 : Int) (x4 : Int) (x5 : Int) (x6 : Int) (x7 : Int) (x8 : Int) (l12 : (List GuardAsk)) (x13 : Int) (x14 : Int) (x15 : Int) (x16 : Int) : Option (Int × Int × Int × Int × Int × Int × Int × Int × Bool × Int × Int × Int × Int × Int × (List GuardAsk) × Int × Int × Int × Int) :=
  (mGuardFresh s2 x3).bind fun x105 =>
  if x105 = true then (
  if s2.Kind = 1 then (
  if s2.Session ≤ x5 then (
  some (0, 0, 0, 0, 0, 0, 0, 0, false, x4, x5, x6, x7, x8, l12, x13, x14, x15, x16))
  else (
  some (2, s2.Session, 1, 0, 0, 0, 0, x3, true, s2.Session, s2.Session, 1, s2.No, s2.At, [], s2.At, 0, s2.At, s2.Sent)))
  else (
  (if x4 = 0 then (
  some true)
  else (
  if s2.Session ≠ x4 then (
  some true)
  else (
  if s2.No ≤ x7 then (
  some true)
  else (
  if s2.Kind ≠ 3 then (
  if s2.Kind ≠ 7 then (
  some (decide (s2.Kind ≠ 8)))
  else (
  some false))
  else (
  some false))))).bind (fun x122 =>
  if x122 = true then (
  some (0, 0, 0, 0, 0, 0, 0, 0, false, x4, x5, x6, x7, x8, l12, x13, x14, x15, x16))
  else (
  (if s2.Kind = 3 then (
  some (x8, l12, s2.At, s2.Speed, s2.End, s2.Sent))
  else (
  if s2.Kind = 7 then (
  (mGuardCentreAgree_2 s2 x4 x5 x6 s2.No x8 l12 x13 x14 x15 x16).bind (unc2 fun x160 l161 =>
  some (x160, l161, x13, x14, x15, x16)))
  else (
  some (x8, l12, x13, x14, x15, x16)))).bind (unc6 fun x148 l152 x153 x154 x155 x156 =>
  some (0, 0, 0, 0, 0, 0, 0, 0, false, x4, x5, x6, s2.No, x148, l152, x153, x154, x155, x156))))))
  else (
  some (0, 0, 0, 0, 0, 0, 0, 0, false, x4, x5, x6, x7, x8, l12, x13, x14, x15, x16))

noncomputable def mGuardCentreAgree_3_L196 (s7 : GuardPacket) (l17 : (List GuardAsk)) (k313 : Nat) : (Bool × Int × (List GuardAsk)) → Option (Bool × Int × (List GuardAsk)) := unc3 fun x310 x311 l312 =>
  (idx l17 (k313 : Int)).bind fun x316 =>
  (if x316.no = s7.Of then (
  some (!x316.grant))
  else (
  some false)).bind (fun x336 =>
  if x336 = true then (
  some (true, x311, l312))
  else (
  ((if x316.grant = true then (
  some (decide (s7.Of < x316.no)))
  else (
  some false)).bind (fun x354 =>
  if x354 = true then (
  some (max x311 x316.end_))
  else (
  some x311))).bind (fun x349 =>
  (room 24 (l312.length + 1)).bind fun _ =>
  some (x310, x349, l312 ++ [x316]))))

/-- (*fishplate/guard.Centre).agree -/
noncomputable def mGuardCentreAgree_3 (s7 : GuardPacket) (_x8 : Int) (_x9 : Int) (_x10 : Int) (_x11 : Int) (x12 : Int) (_x13 : Int) (_x14 : Int) (_x15 : Int) (_x16 : Int) (l17 : (List GuardAsk)) : Option (Int × (List GuardAsk)) :=
  (forS (mGuardCentreAgree_3_L196 s7 l17) l17.length 0 ((false, s7.End, []) : Bool × Int × (List GuardAsk))).bind (unc3 fun x310 x311 l312 =>
  if x310 = true then (
  some (x311, l312))
  else (
  some (x12, l17)))

/-- (*fishplate/guard.Centre).Hear -/
noncomputable def mGuardCentreHear_3 (s7 : GuardPacket) (x8 : Int) (x9 : Int) (x10 : Int) (x11 : Int) (x12 : Int) (x13 : Int) (x14 : Int) (x15 : Int) (x16 : Int) (x17 : Int) (l18 : (List GuardAsk)) : Option (Int × Int × Int × Int × Int × Int × Int × Int × Bool × Int × Int × Int × Int × Int × Int × Int × Int × Int × (List GuardAsk)) :=
  (mGuardFresh s7 x8).bind fun x113 =>
  if x113 = true then (
  if s7.Kind = 1 then (
  if s7.Session ≤ x10 then (
  some (0, 0, 0, 0, 0, 0, 0, 0, false, x9, x10, x11, x12, x13, x14, x15, x16, x17, l18))
  else (
  some (2, s7.Session, 1, 0, 0, 0, 0, x8, true, s7.Session, s7.Session, 1, s7.No, s7.At, s7.At, 0, s7.At, s7.Sent, [])))
  else (
  (if x9 = 0 then (
  some true)
  else (
  if s7.Session ≠ x9 then (
  some true)
  else (
  if s7.No ≤ x12 then (
  some true)
  else (
  if s7.Kind ≠ 3 then (
  if s7.Kind ≠ 7 then (
  some (decide (s7.Kind ≠ 8)))
  else (
  some false))
  else (
  some false))))).bind (fun x130 =>
  if x130 = true then (
  some (0, 0, 0, 0, 0, 0, 0, 0, false, x9, x10, x11, x12, x13, x14, x15, x16, x17, l18))
  else (
  (if s7.Kind = 3 then (
  some (x13, s7.At, s7.Speed, s7.End, s7.Sent, l18))
  else (
  if s7.Kind = 7 then (
  (mGuardCentreAgree_3 s7 x9 x10 x11 s7.No x13 x14 x15 x16 x17 l18).bind (unc2 fun x171 l172 =>
  some (x171, x14, x15, x16, x17, l172)))
  else (
  some (x13, x14, x15, x16, x17, l18)))).bind (unc6 fun x162 x163 x164 x165 x166 l167 =>
  some (0, 0, 0, 0, 0, 0, 0, 0, false, x9, x10, x11, s7.No, x162, x163, x164, x165, x166, l167))))))
  else (
  some (0, 0, 0, 0, 0, 0, 0, 0, false, x9, x10, x11, x12, x13, x14, x15, x16, x17, l18))

/-- fishplate/fishkeep1.comes -/
noncomputable def mFishkeep1Comes_2 (s13 : Fishkeep1Act) (s14 : GuardPacket) (x15 : Int) (x16 : Int) (x17 : Int) (x18 : Int) (x19 : Int) (x20 : Int) (x21 : Int) (x22 : Int) (x23 : Int) (x24 : Int) (x25 : Int) (x26 : Int) (x27 : Int) (x28 : Int) (x29 : Int) (l30 : (List GuardCentre)) (l31 : (List GuardAsk)) : Option (Int × Int × Int × Int × Int × Int × Int × Int × Bool × Int × Int × Int × Int × Int × Int × Int × Int × Int × Int × Int × Int × Int × (List GuardCentre) × (List GuardAsk)) :=
  if s13.Kind = 5 then (
  (mGuardUnitHear s14 x15 s13.C s13.B x16 x17 x18 x19 x20).bind (unc13 fun x235 x236 x237 x238 x239 x240 x241 x242 x243 x244 x245 x246 x247 =>
  some (x235, x236, x237, x238, x239, x240, x241, x242, x243, x244, x245, x246, x247, x21, x22, x23, x24, x25, x26, x27, x28, x29, l30, l31)))
  else (
  (if s13.Kind = 8 then (
  if 0 < (l30.length : Int) then (
  some (decide (s14.Kind ≠ 1)))
  else (
  some false))
  else (
  some false)).bind (fun x317 =>
  if x317 = true then (
  (ne0 (l30.length : Int)).bind fun _ =>
  (idx l30 (Int.tmod s13.B (l30.length : Int))).bind fun x323 =>
  (mGuardCentreHear_2 s14 x15 x323.session x323.last x323.no x323.heard x323.reserved x323.asks (x323.known.getD 0 0) (x323.known.getD 1 0) (x323.known.getD 2 0) (x323.known.getD 3 0)).bind (unc19 fun x346 x347 x348 x349 x350 x351 x352 x353 x354 x355 x356 x357 x358 x359 l360 x361 x362 x363 x364 =>
  some (x346, x347, x348, x349, x350, x351, x352, x353, x354, x17, x18, x19, x20, x21, x22, x23, x24, x25, x26, x27, x28, x29, put l30 (Int.tmod s13.B (l30.length : Int)) (⟨x355, x356, x357, x358, x359, l360, [x361, x362, x363, x364]⟩ : GuardCentre), l31)))
  else (
  (mGuardCentreHear_3 s14 x15 x21 x22 x23 x24 x25 x26 x27 x28 x29 l31).bind (unc19 fun x374 x375 x376 x377 x378 x379 x380 x381 x382 x383 x384 x385 x386 x387 x388 x389 x390 x391 l392 =>
  some (x374, x375, x376, x377, x378, x379, x380, x381, x382, x17, x18, x19, x20, x383, x384, x385, x386, x387, x388, x389, x390, x391, l30, l392)))))

noncomputable def mFishkeep1GuardRadio_L1861 (l1846 : (List Fishkeep1Act)) (k3049 : Nat) : (Int × Int × Int × Int × Int × Int × Int × Int × Int × Int × Int × Int × Int × Int × Int × (List GuardCentre) × (List GuardPacket) × (List GuardAsk)) → Option ((Int × Int × Int × Int × Int × Int × Int × Int × Int × Int × Int × Int × Int × Int × Int × (List GuardCentre) × (List GuardPacket) × (List GuardAsk)) ⊕ (Bool)) := unc18 fun x3031 x3032 x3033 x3034 x3035 x3036 x3037 x3038 x3039 x3040 x3041 x3042 x3043 x3044 x3045 l3046 l3047 l3048 =>
  (idx l1846 (k3049 : Int)).bind fun x3053 =>
  (if x3053.Wait < 0 then (
  some true)
  else (
  if 100 < x3053.Wait then (
  some true)
  else (
  if x3053.A < 0 then (
  some true)
  else (
  if 1073741824 < x3053.A then (
  some true)
  else (
  if x3053.B < 0 then (
  some true)
  else (
  if 1073741824 < x3053.B then (
  some true)
  else (
  if x3053.C < 0 then (
  some true)
  else (
  some (decide (1073741824 < x3053.C)))))))))).bind (fun x3073 =>
  if x3073 = true then (
  some (.inr true))
  else (
  (chk (x3031 + x3053.Wait)).bind fun _ =>
  if x3053.Kind = 0 then (
  ((mGuardUnitSession x3032 x3033 x3034 x3035 x3036).bind fun x3106 =>
  if 0 < x3106 then (
  (mGuardUnitEnd x3032 x3033 x3034 x3035 x3036).bind fun x3116 =>
  (chk (x3116 - x3053.A)).bind fun _ =>
  some (max (x3116 - x3053.A) 0))
  else (
  some x3053.A)).bind (fun x3104 =>
  (mGuardUnitBegin (x3031 + x3053.Wait) x3104 x3032 x3033 x3034 x3035 x3036).bind (unc14 fun x3121 x3122 x3123 x3124 x3125 x3126 x3127 x3128 x3129 x3130 x3131 x3132 x3133 x3134 =>
  (if x3129 = 0 then (
  (room 64 (l3047.length + 1)).bind fun _ =>
  some (l3047 ++ [(⟨x3121, x3122, x3123, x3124, x3125, x3126, x3127, x3128⟩ : GuardPacket)]))
  else (
  some l3047)).bind (fun l3153 =>
  ((mGuardCentreReserved_2 x3037 x3038 x3039 x3040 x3041 x3042 x3043 x3044 x3045 l3048).bind fun x3179 =>
  if 0 < x3179 then (
  (mGuardUnitEnd x3130 x3131 x3132 x3133 x3134).bind fun x3184 =>
  (mGuardCentreReserved_2 x3037 x3038 x3039 x3040 x3041 x3042 x3043 x3044 x3045 l3048).bind fun x3188 =>
  some (decide (x3188 < x3184)))
  else (
  some false)).bind (fun x3177 =>
  if x3177 = true then (
  some (.inr false))
  else (
  some (.inl (x3031 + x3053.Wait, x3130, x3131, x3132, x3133, x3134, x3037, x3038, x3039, x3040, x3041, x3042, x3043, x3044, x3045, l3046, l3153, l3048))))))))
  else (
  if x3053.Kind = 1 then (
  (mGuardUnitSay (x3031 + x3053.Wait) x3053.A 0 x3032 x3033 x3034 x3035 x3036).bind (unc10 fun x3195 x3196 x3197 x3198 x3199 x3200 x3201 x3202 x3203 x3204 =>
  (if x3203 = 0 then (
  (room 64 (l3047.length + 1)).bind fun _ =>
  some (l3047 ++ [(⟨x3195, x3196, x3197, x3198, x3199, x3200, x3201, x3202⟩ : GuardPacket)]))
  else (
  some l3047)).bind (fun l3223 =>
  ((mGuardCentreReserved_2 x3037 x3038 x3039 x3040 x3041 x3042 x3043 x3044 x3045 l3048).bind fun x3249 =>
  if 0 < x3249 then (
  (mGuardUnitEnd x3032 x3033 x3204 x3035 x3036).bind fun x3254 =>
  (mGuardCentreReserved_2 x3037 x3038 x3039 x3040 x3041 x3042 x3043 x3044 x3045 l3048).bind fun x3258 =>
  some (decide (x3258 < x3254)))
  else (
  some false)).bind (fun x3247 =>
  if x3247 = true then (
  some (.inr false))
  else (
  some (.inl (x3031 + x3053.Wait, x3032, x3033, x3204, x3035, x3036, x3037, x3038, x3039, x3040, x3041, x3042, x3043, x3044, x3045, l3046, l3223, l3048)))))))
  else (
  (if x3053.Kind = 2 then (
  some (decide (x3053.Kind = 2)))
  else (
  if x3053.Kind = 3 then (
  some (decide (x3053.Kind = 3)))
  else (
  some (decide (x3053.Kind = 4))))).bind (fun x3268 =>
  if x3268 = true then (
  (mFishkeep1Asked_2 x3053.Kind (x3031 + x3053.Wait) x3053.A x3037 x3038 x3039 x3040 x3041 x3042 x3043 x3044 x3045 l3048).bind (unc12 fun x3273 x3274 x3275 x3276 x3277 x3278 x3279 x3280 x3281 x3282 x3283 l3284 =>
  (if x3281 = true then (
  (room 64 (l3047.length + 1)).bind fun _ =>
  some (l3047 ++ [(⟨x3273, x3274, x3275, x3276, x3277, x3278, x3279, x3280⟩ : GuardPacket)]))
  else (
  some l3047)).bind (fun l3306 =>
  ((mGuardCentreReserved_2 x3037 x3038 x3282 x3040 x3283 x3042 x3043 x3044 x3045 l3284).bind fun x3332 =>
  if 0 < x3332 then (
  (mGuardUnitEnd x3032 x3033 x3034 x3035 x3036).bind fun x3337 =>
  (mGuardCentreReserved_2 x3037 x3038 x3282 x3040 x3283 x3042 x3043 x3044 x3045 l3284).bind fun x3341 =>
  some (decide (x3341 < x3337)))
  else (
  some false)).bind (fun x3330 =>
  if x3330 = true then (
  some (.inr false))
  else (
  some (.inl (x3031 + x3053.Wait, x3032, x3033, x3034, x3035, x3036, x3037, x3038, x3282, x3040, x3283, x3042, x3043, x3044, x3045, l3046, l3306, l3284)))))))
  else (
  (if x3053.Kind = 5 then (
  some (decide (x3053.Kind = 5)))
  else (
  if x3053.Kind = 6 then (
  some (decide (x3053.Kind = 6)))
  else (
  some (decide (x3053.Kind = 8))))).bind (fun x3351 =>
  if x3351 = true then (
  if (l3047.length : Int) = 0 then (
  some (.inl (x3031 + x3053.Wait, x3032, x3033, x3034, x3035, x3036, x3037, x3038, x3039, x3040, x3041, x3042, x3043, x3044, x3045, l3046, l3047, l3048)))
  else (
  (ne0 (l3047.length : Int)).bind fun _ =>
  (idx l3047 (Int.tmod x3053.A (l3047.length : Int))).bind fun x3409 =>
  (mFishkeep1Comes_2 x3053 x3409 (x3031 + x3053.Wait) x3032 x3033 x3034 x3035 x3036 x3037 x3038 x3039 x3040 x3041 x3042 x3043 x3044 x3045 l3046 l3048).bind (unc24 fun x3425 x3426 x3427 x3428 x3429 x3430 x3431 x3432 x3433 x3434 x3435 x3436 x3437 x3438 x3439 x3440 x3441 x3442 x3443 x3444 x3445 x3446 l3447 l3448 =>
  (if x3433 = true then (
  (room 64 (l3047.length + 1)).bind fun _ =>
  some (l3047 ++ [(⟨x3425, x3426, x3427, x3428, x3429, x3430, x3431, x3432⟩ : GuardPacket)]))
  else (
  some l3047)).bind (fun l3473 =>
  ((mGuardCentreReserved_2 x3438 x3439 x3440 x3441 x3442 x3443 x3444 x3445 x3446 l3448).bind fun x3499 =>
  if 0 < x3499 then (
  (mGuardUnitEnd x3032 x3434 x3435 x3436 x3437).bind fun x3504 =>
  (mGuardCentreReserved_2 x3438 x3439 x3440 x3441 x3442 x3443 x3444 x3445 x3446 l3448).bind fun x3508 =>
  some (decide (x3508 < x3504)))
  else (
  some false)).bind (fun x3497 =>
  if x3497 = true then (
  some (.inr false))
  else (
  some (.inl (x3031 + x3053.Wait, x3032, x3434, x3435, x3436, x3437, x3438, x3439, x3440, x3441, x3442, x3443, x3444, x3445, x3446, l3447, l3473, l3448))))))))
  else (
  if x3053.Kind = 7 then (
  (room 8 (l3046.length + 1)).bind fun _ =>
  (mGuardCentreHand x3037 x3038 x3039 x3040 x3041 l3048 x3042 x3043 x3044 x3045).bind (unc15 fun x3525 x3526 x3527 x3528 x3529 x3530 x3531 x3532 x3533 x3534 x3535 x3536 x3537 l3538 l3539 =>
  (some ()).bind (fun _ =>
  ((mGuardCentreReserved_2 x3525 x3526 x3527 x3528 x3529 x3530 x3531 x3532 x3533 l3539).bind fun x3573 =>
  if 0 < x3573 then (
  (mGuardUnitEnd x3032 x3033 x3034 x3035 x3036).bind fun x3578 =>
  (mGuardCentreReserved_2 x3525 x3526 x3527 x3528 x3529 x3530 x3531 x3532 x3533 l3539).bind fun x3582 =>
  some (decide (x3582 < x3578)))
  else (
  some false)).bind (fun x3571 =>
  if x3571 = true then (
  some (.inr false))
  else (
  some (.inl (x3031 + x3053.Wait, x3032, x3033, x3034, x3035, x3036, x3525, x3526, x3527, x3528, x3529, x3530, x3531, x3532, x3533, l3046 ++ [(⟨x3534, x3038, x3535, x3536, x3537, l3538, [x3042, x3043, x3044, x3045]⟩ : GuardCentre)], l3047, l3539)))))))
  else (
  (some ()).bind (fun _ =>
  ((mGuardCentreReserved_2 x3037 x3038 x3039 x3040 x3041 x3042 x3043 x3044 x3045 l3048).bind fun x3608 =>
  if 0 < x3608 then (
  (mGuardUnitEnd x3032 x3033 x3034 x3035 x3036).bind fun x3613 =>
  (mGuardCentreReserved_2 x3037 x3038 x3039 x3040 x3041 x3042 x3043 x3044 x3045 l3048).bind fun x3617 =>
  some (decide (x3617 < x3613)))
  else (
  some false)).bind (fun x3606 =>
  if x3606 = true then (
  some (.inr false))
  else (
  some (.inl (x3031 + x3053.Wait, x3032, x3033, x3034, x3035, x3036, x3037, x3038, x3039, x3040, x3041, x3042, x3043, x3044, x3045, l3046, l3047, l3048))))))))))))))

/-- fishplate/fishkeep1.GuardRadio -/
noncomputable def mFishkeep1GuardRadio (l4 : (List Fishkeep1Act)) : Option (Bool) :=
  (mFishkeep1AwakeGuard).bind fun x1815 =>
  if x1815 = true then (
  (mGuardNewUnit).bind (unc5 fun x1818 x1819 x1820 x1821 x1822 =>
  (mGuardNewCentre).bind (unc10 fun x1827 x1828 x1829 x1830 x1831 x1832 x1833 x1834 x1835 l1836 =>
  (cutS l4 0 (min (l4.length : Int) 400)).bind fun l1846 =>
  (forM (mFishkeep1GuardRadio_L1861 l1846) l1846.length 0 ((0, x1818, x1819, x1820, x1821, x1822, x1827, x1828, x1829, x1830, x1831, x1832, x1833, x1834, x1835, [], [], l1836) : Int × Int × Int × Int × Int × Int × Int × Int × Int × Int × Int × Int × Int × Int × Int × (List GuardCentre) × (List GuardPacket) × (List GuardAsk))).bind fun t => Sum.elim (unc18 fun _ _ _ _ _ _ _ _ _ _ _ _ _ _ _ _ _ _ =>
  some true) (fun q => some q) t)))
  else (
  some false)

end Go.Proofs.YtbggpdpcndpaoaaDoor
