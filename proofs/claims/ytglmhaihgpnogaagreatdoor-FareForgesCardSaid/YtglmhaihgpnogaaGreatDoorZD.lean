/- The models of the functions, as the extractor printed them. -/
import Derived.Test.YtglmhaihgpnogaaGreatDoorSh2
import Derived.Test.YtglmhaihgpnogaaGreatDoorXM
import Derived.Test.YtglmhaihgpnogaaGreatDoorXY
set_option linter.unusedVariables false
set_option linter.unusedSimpArgs false
namespace Go.Proofs.YtglmhaihgpnogaaGreatDoor
open Go.RowKit Go.Fp

structure FareTicket where
  No : Int
  Day : Int
  Start : Int
  End : Int
  Price : Int
  Zones : (List Int)
def rFareTicket : RT FareTicket := (RT.cat (RT.on (RT.int .i64) FareTicket.No) (RT.cat (RT.on (RT.int .i64) FareTicket.Day) (RT.cat (RT.on (RT.int .i64) FareTicket.Start) (RT.cat (RT.on (RT.int .i64) FareTicket.End) (RT.cat (RT.on (RT.int .i64) FareTicket.Price) (RT.on (RT.list (RT.int .i64)) FareTicket.Zones))))))
structure FareBand where
  Upto : Int
  Price : Int
  deriving DecidableEq
def rFareBand : RT FareBand := (RT.cat (RT.on (RT.int .i64) FareBand.Upto) (RT.on (RT.int .i64) FareBand.Price))
structure FareCond where
  Kind : Int
  A : Int
  B : Int
  Kids : Unit
def rFareCond : RT FareCond := (RT.cat (RT.on (RT.int .i64) FareCond.Kind) (RT.cat (RT.on (RT.int .i64) FareCond.A) (RT.cat (RT.on (RT.int .i64) FareCond.B) (RT.on RT.nilK FareCond.Kids))))
structure FareRule where
  If : FareCond
  Do : Int
  N : Int
  Stop : Bool
def rFareRule : RT FareRule := (RT.cat (RT.on rFareCond FareRule.If) (RT.cat (RT.on (RT.int .i64) FareRule.Do) (RT.cat (RT.on (RT.int .i64) FareRule.N) (RT.on RT.bool FareRule.Stop))))
structure FareTariff where
  ByKm : Bool
  Bands : (List FareBand)
  Round : Int
  Rules : (List FareRule)
def rFareTariff : RT FareTariff := (RT.cat (RT.on RT.bool FareTariff.ByKm) (RT.cat (RT.on (RT.list rFareBand) FareTariff.Bands) (RT.cat (RT.on (RT.int .i64) FareTariff.Round) (RT.on (RT.list rFareRule) FareTariff.Rules))))
structure FareTrip where
  Day : Int
  At : Int
  Km : Int
  Age : Int
  Card : Bool
  Zones : (List Int)
def rFareTrip : RT FareTrip := (RT.cat (RT.on (RT.int .i64) FareTrip.Day) (RT.cat (RT.on (RT.int .i64) FareTrip.At) (RT.cat (RT.on (RT.int .i64) FareTrip.Km) (RT.cat (RT.on (RT.int .i64) FareTrip.Age) (RT.cat (RT.on RT.bool FareTrip.Card) (RT.on (RT.list (RT.int .i64)) FareTrip.Zones))))))
structure FareKey where
  N : Int
  E : Int
  D : Int
  deriving DecidableEq
def rFareKey : RT FareKey := (RT.cat (RT.on (RT.int .i64) FareKey.N) (RT.cat (RT.on (RT.int .i64) FareKey.E) (RT.on (RT.int .i64) FareKey.D)))

/-- fishplate/fishkeep2.awakeFare -/
noncomputable def mFishkeep2AwakeFare : Option (Unit) :=
  some ()

/-- fishplate/fare.within -/
noncomputable def mFareWithin (x1 : Int) (x2 : Int) (x3 : Int) : Option (Bool) :=
  (if x2 ≤ x1 then (
  some (decide (x1 ≤ x3)))
  else (
  some false)).bind (fun x14 =>
  some x14)

noncomputable def mFarePrime_L74 (x1 : Int) : (Int) → Option ((Int) ⊕ ((Unit) ⊕ (Bool))) := fun x88 =>
  (chk (x88 * x88)).bind fun _ =>
  if (x88 * x88) ≤ x1 then (
  (ne0 x88).bind fun _ =>
  if (Int.tmod x1 x88) = 0 then (
  some (.inr (.inr false)))
  else (
  (chk (x88 + 1)).bind fun _ =>
  some (.inl (x88 + 1))))
  else (
  some (.inr (.inl ())))

/-- fishplate/fare.prime -/
noncomputable def mFarePrime (x1 : Int) : Option (Bool) :=
  (loopM (mFarePrime_L74 x1) 2).bind fun t => Sum.elim (fun _ =>
  some (decide (1 < x1))) (fun r96 => some r96) t

noncomputable def mFareInverse_L117  : (Int × Int × Int × Int) → Option ((Int × Int × Int × Int) ⊕ (Int × Int)) := unc4 fun x138 x139 x140 x141 =>
  if 0 < x139 then (
  (ne0 x139).bind fun _ =>
  (chk (Int.tdiv x138 x139)).bind fun _ =>
  (chk ((Int.tdiv x138 x139) * x139)).bind fun _ =>
  (chk (x138 - ((Int.tdiv x138 x139) * x139))).bind fun _ =>
  (chk ((Int.tdiv x138 x139) * x141)).bind fun _ =>
  (chk (x140 - ((Int.tdiv x138 x139) * x141))).bind fun _ =>
  some (.inl (x139, x138 - ((Int.tdiv x138 x139) * x139), x141, x140 - ((Int.tdiv x138 x139) * x141))))
  else (
  some (.inr (x138, x140)))

/-- fishplate/fare.inverse -/
noncomputable def mFareInverse (x1 : Int) (x2 : Int) : Option (Int × Bool) :=
  (ne0 x2).bind fun _ =>
  (loopM mFareInverse_L117 (Int.tmod x1 x2, x2, 1, 0)).bind (unc2 fun x114 x115 =>
  if x114 ≠ 1 then (
  some (0, false))
  else (
  (ne0 x2).bind fun _ =>
  (chk ((Int.tmod x115 x2) + x2)).bind fun _ =>
  (ne0 x2).bind fun _ =>
  some (Int.tmod ((Int.tmod x115 x2) + x2) x2, true)))

/-- fishplate/fare.MakeKey -/
noncomputable def mFareMakeKey (x1 : Int) (x2 : Int) (x3 : Int) : Option (Int × Int × Int × Int) :=
  ((mFareWithin x1 1009 32749).bind fun x68 =>
  if x68 = true then (
  (mFareWithin x2 1009 32749).bind fun x71 =>
  if x71 = true then (
  (mFareWithin x3 3 32749).bind fun x74 =>
  some (!x74))
  else (
  some true))
  else (
  some true)).bind (fun x66 =>
  if x66 = true then (
  some (0, 0, 0, 2))
  else (
  ((mFarePrime x1).bind fun x87 =>
  if x87 = true then (
  (mFarePrime x2).bind fun x90 =>
  if x90 = true then (
  some (decide (x1 = x2)))
  else (
  some true))
  else (
  some true)).bind (fun x85 =>
  if x85 = true then (
  some (0, 0, 0, 1))
  else (
  (chk (x1 - 1)).bind fun _ =>
  (chk (x2 - 1)).bind fun _ =>
  (chk ((x1 - 1) * (x2 - 1))).bind fun _ =>
  (mFareInverse x3 ((x1 - 1) * (x2 - 1))).bind (unc2 fun x97 x98 =>
  if x98 = true then (
  (chk (x1 * x2)).bind fun _ =>
  some (x1 * x2, x3, x97, 0))
  else (
  some (0, 0, 0, 1)))))))

noncomputable def mFareCondSize_L94 (rcmFareCondSize : (FareCond) → Option (Int × Int)) (k131 : Nat) : (Int × Int) → Option (Int × Int) := unc2 fun x129 x130 =>
  (idx ([] : List FareCond) (k131 : Int)).bind fun x134 =>
  (rcmFareCondSize x134).bind (unc2 fun x145 x146 =>
  (chk (x129 + x145)).bind fun _ =>
  some (x129 + x145, max x130 x146))

/-- (fishplate/fare.Cond).size -/
noncomputable def mFareCondSize : Nat → (FareCond) → Option (Int × Int)
  | 0 => fun _ => none
  | N + 1 => fun _ =>
  (forS (mFareCondSize_L94 (mFareCondSize N)) 0 0 (1, 0)).bind (unc2 fun x129 x130 =>
  (chk (x130 + 1)).bind fun _ =>
  some (x129, x130 + 1))

/-- fishplate/fare.numbers -/
noncomputable def mFareNumbers (x1 : Int) : Option (Int) :=
  (if x1 = 2 then (
  some (decide (x1 = 2)))
  else (
  if x1 = 3 then (
  some (decide (x1 = 3)))
  else (
  if x1 = 4 then (
  some (decide (x1 = 4)))
  else (
  some (decide (x1 = 5)))))).bind (fun x28 =>
  if x28 = true then (
  some 2)
  else (
  (if x1 = 6 then (
  some (decide (x1 = 6)))
  else (
  if x1 = 7 then (
  some (decide (x1 = 7)))
  else (
  some (decide (x1 = 8))))).bind (fun x38 =>
  if x38 = true then (
  some 1)
  else (
  some 0))))

noncomputable def mFareCondNode_L284 (rcmFareCondNode : (FareCond) → Option (Int)) (k301 : Nat) : (Unit) → Option ((Unit) ⊕ (Int)) := fun _ =>
  (idx ([] : List FareCond) (k301 : Int)).bind fun x305 =>
  (rcmFareCondNode x305).bind fun x316 =>
  if x316 ≠ 0 then (
  some (.inr x316))
  else (
  some (.inl ()))

/-- (fishplate/fare.Cond).node -/
noncomputable def mFareCondNode : Nat → (FareCond) → Option (Int)
  | 0 => fun _ => none
  | N + 1 => fun s1 =>
  (mFareNumbers s1.Kind).bind fun x214 =>
  (mFareWithin s1.Kind 0 11).bind fun x216 =>
  if x216 = true then (
  ((mFareWithin s1.A 0 28800).bind fun x228 =>
  if x228 = true then (
  (mFareWithin s1.B 0 28800).bind fun x231 =>
  some (!x231))
  else (
  some true)).bind (fun x226 =>
  if x226 = true then (
  some 2)
  else (
  (if x214 < 1 then (
  if s1.A ≠ 0 then (
  some true)
  else (
  if x214 < 2 then (
  if s1.B ≠ 0 then (
  some true)
  else (
  if x214 = 2 then (
  some (decide (s1.B < s1.A)))
  else (
  some false)))
  else (
  if x214 = 2 then (
  some (decide (s1.B < s1.A)))
  else (
  some false))))
  else (
  if x214 < 2 then (
  if s1.B ≠ 0 then (
  some true)
  else (
  if x214 = 2 then (
  some (decide (s1.B < s1.A)))
  else (
  some false)))
  else (
  if x214 = 2 then (
  some (decide (s1.B < s1.A)))
  else (
  some false)))).bind (fun x246 =>
  if x246 = true then (
  some 1)
  else (
  (if s1.Kind = 9 then (
  if (0 : Int) ≠ (1 : Int) then (
  some true)
  else (
  if 9 < s1.Kind then (
  if (0 : Int) < (2 : Int) then (
  some true)
  else (
  if s1.Kind < 9 then (
  some (decide ((0 : Int) < (0 : Int))))
  else (
  some false)))
  else (
  if s1.Kind < 9 then (
  some (decide ((0 : Int) < (0 : Int))))
  else (
  some false))))
  else (
  if 9 < s1.Kind then (
  if (0 : Int) < (2 : Int) then (
  some true)
  else (
  if s1.Kind < 9 then (
  some (decide ((0 : Int) < (0 : Int))))
  else (
  some false)))
  else (
  if s1.Kind < 9 then (
  some (decide ((0 : Int) < (0 : Int))))
  else (
  some false)))).bind (fun x271 =>
  if x271 = true then (
  some 1)
  else (
  (forM (mFareCondNode_L284 (mFareCondNode N)) 0 0 ()).bind fun t => Sum.elim (fun _ =>
  some 0) (fun q => some q) t)))))))
  else (
  some 15)

/-- (fishplate/fare.Cond).check -/
noncomputable def mFareCondCheck (s1 : FareCond) : Option (Int) :=
  (lim (fun N => mFareCondSize N s1)).bind (unc2 fun x17 x18 =>
  (if 40 < x17 then (
  some true)
  else (
  some (decide (6 < x18)))).bind (fun x23 =>
  if x23 = true then (
  some 4)
  else (
  (lim (fun N => mFareCondNode N s1)).bind fun x27 =>
  some x27)))

noncomputable def mFareCheckTariff_L633 (s1 : FareTariff) (k663 : Nat) : (Unit) → Option ((Unit) ⊕ (Int)) := fun _ =>
  (idx s1.Rules (k663 : Int)).bind fun x667 =>
  (mFareCondCheck x667.If).bind fun x678 =>
  if x678 ≠ 0 then (
  some (.inr x678))
  else (
  (if x667.Do = 1 then (
  some 200)
  else (
  some 100000)).bind (fun x685 =>
  (mFareWithin x667.Do 1 6).bind fun x688 =>
  if x688 = true then (
  (mFareWithin x667.N 0 x685).bind fun x692 =>
  if x692 = true then (
  some (.inl ()))
  else (
  some (.inr 2)))
  else (
  some (.inr 15))))

noncomputable def mFareCheckTariff_L365 (s1 : FareTariff) (k496 : Nat) : (Unit) → Option ((Unit) ⊕ (Int)) := fun _ =>
  (idx s1.Bands (k496 : Int)).bind fun x500 =>
  ((mFareWithin x500.Upto 1 1000).bind fun x520 =>
  if x520 = true then (
  (mFareWithin x500.Price 0 100000).bind fun x523 =>
  some (!x523))
  else (
  some true)).bind (fun x518 =>
  if x518 = true then (
  some (.inr 2))
  else (
  (if 0 < (k496 : Int) then (
  (chk ((k496 : Int) - 1)).bind fun _ =>
  (idx s1.Bands ((k496 : Int) - 1)).bind fun x605 =>
  if x500.Upto ≤ x605.Upto then (
  some true)
  else (
  (chk ((k496 : Int) - 1)).bind fun _ =>
  (idx s1.Bands ((k496 : Int) - 1)).bind fun x617 =>
  some (decide (x500.Price < x617.Price))))
  else (
  some false)).bind (fun x577 =>
  if x577 = true then (
  some (.inr 1))
  else (
  some (.inl ())))))

/-- fishplate/fare.CheckTariff -/
noncomputable def mFareCheckTariff (s1 : FareTariff) : Option (Int) :=
  ((mFareWithin (s1.Bands.length : Int) 1 8).bind fun x361 =>
  if x361 = true then (
  some (decide (20 < (s1.Rules.length : Int))))
  else (
  some true)).bind (fun x359 =>
  if x359 = true then (
  some 4)
  else (
  (forM (mFareCheckTariff_L365 s1) s1.Bands.length 0 ()).bind fun t => Sum.elim (fun _ =>
  (mFareWithin s1.Round 1 100).bind fun x630 =>
  if x630 = true then (
  (forM (mFareCheckTariff_L633 s1) s1.Rules.length 0 ()).bind fun t => Sum.elim (fun _ =>
  some 0) (fun q => some q) t)
  else (
  some 2)) (fun q => some q) t))

noncomputable def mFareCheckZones_L154 (l4 : (List Int)) (x5 : Bool) (k226 : Nat) : (Unit) → Option ((Unit) ⊕ (Int)) := fun _ =>
  (idx l4 (k226 : Int)).bind fun x230 =>
  (mFareWithin x230 0 19).bind fun x240 =>
  if x240 = true then (
  (if 0 < (k226 : Int) then (
  (chk ((k226 : Int) - 1)).bind fun _ =>
  (idx l4 ((k226 : Int) - 1)).bind fun x275 =>
  if x230 = x275 then (
  some true)
  else (
  if x5 = true then (
  (chk ((k226 : Int) - 1)).bind fun _ =>
  (idx l4 ((k226 : Int) - 1)).bind fun x288 =>
  some (decide (x230 < x288)))
  else (
  some false)))
  else (
  some false)).bind (fun x271 =>
  if x271 = true then (
  some (.inr 1))
  else (
  some (.inl ()))))
  else (
  some (.inr 2))

/-- fishplate/fare.checkZones -/
noncomputable def mFareCheckZones (l4 : (List Int)) (x5 : Bool) : Option (Int) :=
  (forM (mFareCheckZones_L154 l4 x5) l4.length 0 ()).bind fun t => Sum.elim (fun _ =>
  some 0) (fun q => some q) t

/-- fishplate/fare.CheckTrip -/
noncomputable def mFareCheckTrip (s1 : FareTrip) : Option (Int) :=
  ((mFareWithin s1.Day 0 6).bind fun x55 =>
  if x55 = true then (
  (mFareWithin s1.At 0 28800).bind fun x58 =>
  if x58 = true then (
  (mFareWithin s1.Km 0 1000).bind fun x61 =>
  if x61 = true then (
  (mFareWithin s1.Age 0 120).bind fun x64 =>
  some (!x64))
  else (
  some true))
  else (
  some true))
  else (
  some true)).bind (fun x53 =>
  if x53 = true then (
  some 2)
  else (
  (mFareWithin (s1.Zones.length : Int) 1 10).bind fun x67 =>
  if x67 = true then (
  (mFareCheckZones s1.Zones false).bind fun x70 =>
  some x70)
  else (
  some 4)))

/-- (fishplate/fare.Tariff).price-1 -/
noncomputable def mFareTariffPrice_1 (s2 : FareBand) (x3 : Int) : Option (Bool) :=
  some (decide (x3 ≤ s2.Upto))

noncomputable def mSlicesIndexFunc_L48 (l5 : (List FareBand)) (x6 : Int) (k67 : Nat) : (Unit) → Option ((Unit) ⊕ (Int)) := fun _ =>
  (idx l5 (k67 : Int)).bind fun x71 =>
  (mFareTariffPrice_1 x71 x6).bind fun x81 =>
  if x81 = true then (
  some (.inr (k67 : Int)))
  else (
  some (.inl ()))

/-- slices.IndexFunc[[]fishplate/fare.Band,fishplate/fare.Band] -/
noncomputable def mSlicesIndexFunc (l5 : (List FareBand)) (x6 : Int) : Option (Int) :=
  (forM (mSlicesIndexFunc_L48 l5 x6) l5.length 0 ()).bind fun t => Sum.elim (fun _ =>
  some (-1)) (fun q => some q) t

/-- (fishplate/fare.Cond).holds-1 -/
noncomputable def mFareCondHolds_1 (x7 : Int) (_x8 : Int) (x9 : Int) (x10 : Int) (_l11 : (List FareCond)) : Option (Bool) :=
  (mFareWithin x7 x9 x10).bind fun x16 =>
  some x16

noncomputable def mSlicesIndex_L39 (l4 : (List Int)) (x5 : Int) (k54 : Nat) : (Unit) → Option ((Unit) ⊕ (Int)) := fun _ =>
  (idx l4 (k54 : Int)).bind fun x58 =>
  if x5 = x58 then (
  some (.inr (k54 : Int)))
  else (
  some (.inl ()))

/-- slices.Index[[]int,int] -/
noncomputable def mSlicesIndex (l4 : (List Int)) (x5 : Int) : Option (Int) :=
  (forM (mSlicesIndex_L39 l4 x5) l4.length 0 ()).bind fun t => Sum.elim (fun _ =>
  some (-1)) (fun q => some q) t

/-- slices.Contains[[]int,int] -/
noncomputable def mSlicesContains (l4 : (List Int)) (x5 : Int) : Option (Bool) :=
  (mSlicesIndex l4 x5).bind fun x9 =>
  some (decide (0 ≤ x9))

/-- (fishplate/fare.Cond).holds-2 -/
noncomputable def mFareCondHolds_2_5 (rcmFareCondHolds : (FareCond) → (FareTrip) → Option (Bool)) (s2 : FareCond) (x3 : Int) (x4 : Int) (x5 : Int) (x6 : Int) (x7 : Bool) (l11 : (List Int)) : Option (Bool) :=
  (rcmFareCondHolds s2 (⟨x3, x4, x5, x6, x7, l11⟩ : FareTrip)).bind fun x17 =>
  some (!x17)

noncomputable def mSlicesIndexFunc_2_L56 (l5 : (List FareCond)) (x6 : Int) (x7 : Int) (x8 : Int) (x9 : Int) (l14 : (List Int)) (x10 : Bool) (rcmFareCondHolds : (FareCond) → (FareTrip) → Option (Bool)) (k75 : Nat) : (Unit) → Option ((Unit) ⊕ (Int)) := fun _ =>
  (idx l5 (k75 : Int)).bind fun x79 =>
  (mFareCondHolds_2_5 rcmFareCondHolds x79 x6 x7 x8 x9 x10 l14).bind fun x89 =>
  if x89 = true then (
  some (.inr (k75 : Int)))
  else (
  some (.inl ()))

/-- slices.IndexFunc[[]fishplate/fare.Cond,fishplate/fare.Cond] -/
noncomputable def mSlicesIndexFunc_2 (rcmFareCondHolds : (FareCond) → (FareTrip) → Option (Bool)) (l5 : (List FareCond)) (x6 : Int) (x7 : Int) (x8 : Int) (x9 : Int) (x10 : Bool) (l14 : (List Int)) : Option (Int) :=
  (forM (mSlicesIndexFunc_2_L56 l5 x6 x7 x8 x9 l14 x10 rcmFareCondHolds) l5.length 0 ()).bind fun t => Sum.elim (fun _ =>
  some (-1)) (fun q => some q) t

/-- slices.ContainsFunc[[]fishplate/fare.Cond,fishplate/fare.Cond] -/
noncomputable def mSlicesContainsFunc (rcmFareCondHolds : (FareCond) → (FareTrip) → Option (Bool)) (l5 : (List FareCond)) (x6 : Int) (x7 : Int) (x8 : Int) (x9 : Int) (x10 : Bool) (l14 : (List Int)) : Option (Bool) :=
  (mSlicesIndexFunc_2 rcmFareCondHolds l5 x6 x7 x8 x9 x10 l14).bind fun x20 =>
  some (decide (0 ≤ x20))

/-- (fishplate/fare.Cond).holds-3 -/
noncomputable def mFareCondHolds_3_5 (rcmFareCondHolds : (FareCond) → (FareTrip) → Option (Bool)) (s2 : FareCond) (x3 : Int) (x4 : Int) (x5 : Int) (x6 : Int) (x7 : Bool) (l11 : (List Int)) : Option (Bool) :=
  (rcmFareCondHolds s2 (⟨x3, x4, x5, x6, x7, l11⟩ : FareTrip)).bind fun x17 =>
  some x17

noncomputable def mSlicesIndexFunc_3_L56 (l5 : (List FareCond)) (x6 : Int) (x7 : Int) (x8 : Int) (x9 : Int) (l14 : (List Int)) (x10 : Bool) (rcmFareCondHolds : (FareCond) → (FareTrip) → Option (Bool)) (k75 : Nat) : (Unit) → Option ((Unit) ⊕ (Int)) := fun _ =>
  (idx l5 (k75 : Int)).bind fun x79 =>
  (mFareCondHolds_3_5 rcmFareCondHolds x79 x6 x7 x8 x9 x10 l14).bind fun x89 =>
  if x89 = true then (
  some (.inr (k75 : Int)))
  else (
  some (.inl ()))

/-- slices.IndexFunc[[]fishplate/fare.Cond,fishplate/fare.Cond] -/
noncomputable def mSlicesIndexFunc_3 (rcmFareCondHolds : (FareCond) → (FareTrip) → Option (Bool)) (l5 : (List FareCond)) (x6 : Int) (x7 : Int) (x8 : Int) (x9 : Int) (x10 : Bool) (l14 : (List Int)) : Option (Int) :=
  (forM (mSlicesIndexFunc_3_L56 l5 x6 x7 x8 x9 l14 x10 rcmFareCondHolds) l5.length 0 ()).bind fun t => Sum.elim (fun _ =>
  some (-1)) (fun q => some q) t

/-- slices.ContainsFunc[[]fishplate/fare.Cond,fishplate/fare.Cond] -/
noncomputable def mSlicesContainsFunc_2 (rcmFareCondHolds : (FareCond) → (FareTrip) → Option (Bool)) (l5 : (List FareCond)) (x6 : Int) (x7 : Int) (x8 : Int) (x9 : Int) (x10 : Bool) (l14 : (List Int)) : Option (Bool) :=
  (mSlicesIndexFunc_3 rcmFareCondHolds l5 x6 x7 x8 x9 x10 l14).bind fun x20 =>
  some (decide (0 ≤ x20))

/-- (fishplate/fare.Cond).holds -/
noncomputable def mFareCondHolds : Nat → (FareCond) → (FareTrip) → Option (Bool)
  | 0 => fun _ _ => none
  | N + 1 => fun s1 s2 =>
  if s1.Kind = 1 then (
  some s2.Card)
  else (
  if s1.Kind = 2 then (
  (mFareCondHolds_1 s2.Age s1.Kind s1.A s1.B []).bind fun x208 =>
  some x208)
  else (
  if s1.Kind = 3 then (
  (mFareCondHolds_1 s2.At s1.Kind s1.A s1.B []).bind fun x213 =>
  some x213)
  else (
  if s1.Kind = 4 then (
  (mFareCondHolds_1 s2.Km s1.Kind s1.A s1.B []).bind fun x218 =>
  some x218)
  else (
  if s1.Kind = 5 then (
  (mFareCondHolds_1 (s2.Zones.length : Int) s1.Kind s1.A s1.B []).bind fun x223 =>
  some x223)
  else (
  if s1.Kind = 6 then (
  (mSlicesContains s2.Zones s1.A).bind fun x228 =>
  some x228)
  else (
  if s1.Kind = 7 then (
  (idx s2.Zones 0).bind fun x241 =>
  some (decide (x241 = s1.A)))
  else (
  if s1.Kind = 8 then (
  (chk ((s2.Zones.length : Int) - 1)).bind fun _ =>
  (idx s2.Zones ((s2.Zones.length : Int) - 1)).bind fun x264 =>
  some (decide (x264 = s1.A)))
  else (
  if s1.Kind = 9 then (
  (idx ([] : List FareCond) 0).bind fun x287 =>
  ((mFareCondHolds N) x287 s2).bind fun x297 =>
  some (!x297))
  else (
  if s1.Kind = 10 then (
  (mSlicesContainsFunc (mFareCondHolds N) [] s2.Day s2.At s2.Km s2.Age s2.Card s2.Zones).bind fun x300 =>
  some (!x300))
  else (
  if s1.Kind = 11 then (
  (mSlicesContainsFunc_2 (mFareCondHolds N) [] s2.Day s2.At s2.Km s2.Age s2.Card s2.Zones).bind fun x305 =>
  some x305)
  else (
  some true)))))))))))

/-- (fishplate/fare.Rule).change -/
noncomputable def mFareRuleChange (s1 : FareRule) (x2 : Int) : Option (Int) :=
  if s1.Do = 1 then (
  (chk (x2 * s1.N)).bind fun _ =>
  (ne0 100).bind fun _ =>
  (chk (Int.tdiv (x2 * s1.N) 100)).bind fun _ =>
  some (min 100000 (Int.tdiv (x2 * s1.N) 100)))
  else (
  if s1.Do = 2 then (
  (chk (x2 - s1.N)).bind fun _ =>
  some (max 0 (x2 - s1.N)))
  else (
  if s1.Do = 3 then (
  (chk (x2 + s1.N)).bind fun _ =>
  some (min 100000 (x2 + s1.N)))
  else (
  if s1.Do = 4 then (
  some s1.N)
  else (
  if s1.Do = 5 then (
  some (min x2 s1.N))
  else (
  some (max x2 s1.N))))))

noncomputable def mFareTariffPrice_L393 (s1 : FareTariff) (s8 : FareTrip) (k458 : Nat) : (Int × (List Int)) → Option ((Int × (List Int)) ⊕ (Int × (List Int))) := unc2 fun x456 l457 =>
  (idx s1.Rules (k458 : Int)).bind fun x462 =>
  (lim (fun N => mFareCondHolds N x462.If s8)).bind fun x473 =>
  if x473 = true then (
  (room 8 (l457.length + 1)).bind fun _ =>
  (mFareRuleChange x462 x456).bind fun x482 =>
  if x462.Stop = true then (
  some (.inr (x482, l457 ++ [(k458 : Int)])))
  else (
  some (.inl (x482, l457 ++ [(k458 : Int)]))))
  else (
  some (.inl (x456, l457)))

/-- (fishplate/fare.Tariff).price -/
noncomputable def mFareTariffPrice (s1 : FareTariff) (s8 : FareTrip) : Option (Int × (List Int)) :=
  (if s1.ByKm = true then (
  some s8.Km)
  else (
  some (s8.Zones.length : Int))).bind (fun x264 =>
  (mSlicesIndexFunc s1.Bands x264).bind fun x267 =>
  (if x267 < 0 then (
  (chk ((s1.Bands.length : Int) - 1)).bind fun _ =>
  some ((s1.Bands.length : Int) - 1))
  else (
  some x267)).bind (fun x275 =>
  (idx s1.Bands x275).bind fun x279 =>
  ((forM (mFareTariffPrice_L393 s1 s8) s1.Rules.length 0 ((x279.Price, []) : Int × (List Int))).bind fun t => Sum.elim (unc2 fun x456 l457 =>
  some (x456, l457)) (fun q => some q) t).bind (unc2 fun x390 l391 =>
  (chk (x390 + s1.Round)).bind fun _ =>
  (chk ((x390 + s1.Round) - 1)).bind fun _ =>
  (ne0 s1.Round).bind fun _ =>
  (chk (Int.tdiv ((x390 + s1.Round) - 1) s1.Round)).bind fun _ =>
  (chk ((Int.tdiv ((x390 + s1.Round) - 1) s1.Round) * s1.Round)).bind fun _ =>
  some ((Int.tdiv ((x390 + s1.Round) - 1) s1.Round) * s1.Round, l391))))

/-- fishplate/fare.Price -/
noncomputable def mFarePrice (s1 : FareTariff) (s8 : FareTrip) : Option (Int × Int × (List Int)) :=
  (mFareCheckTariff s1).bind fun x39 =>
  if x39 ≠ 0 then (
  some (0, x39, []))
  else (
  (mFareCheckTrip s8).bind fun x42 =>
  if x42 ≠ 0 then (
  some (0, x42, []))
  else (
  (mFareTariffPrice s1 s8).bind (unc2 fun x45 l46 =>
  some (x45, 0, l46))))

/-- fishplate/fishkeep2.fares -/
noncomputable def mFishkeep2Fares : Option (Bool) :=
  (mFarePrice (⟨false, [(⟨3, 500⟩ : FareBand)], 1, [(⟨(⟨1, 0, 0, ()⟩ : FareCond), 2, 7, false⟩ : FareRule)]⟩ : FareTariff) (⟨0, 0, 0, 0, true, [1]⟩ : FareTrip)).bind (unc3 fun x38 x39 _ =>
  (if x39 = 0 then (
  some (decide (x38 = 493)))
  else (
  some false)).bind (fun x51 =>
  some x51))

/-- (fishplate/fare.Key).check -/
noncomputable def mFareKeyCheck (s1 : FareKey) (x2 : Bool) : Option (Int) :=
  ((mFareWithin s1.N 1018081 1072497001).bind fun x45 =>
  if x45 = true then (
  (mFareWithin s1.E 3 32749).bind fun x48 =>
  if x48 = true then (
  if x2 = true then (
  (chk (s1.N - 1)).bind fun _ =>
  (mFareWithin s1.D 1 (s1.N - 1)).bind fun x53 =>
  some (!x53))
  else (
  some false))
  else (
  some true))
  else (
  some true)).bind (fun x43 =>
  if x43 = true then (
  some 2)
  else (
  some 0))

/-- (fishplate/fare.Ticket).check -/
noncomputable def mFareTicketCheck (s1 : FareTicket) : Option (Int) :=
  ((mFareWithin s1.No 0 999999).bind fun x65 =>
  if x65 = true then (
  (mFareWithin s1.Day 0 6).bind fun x68 =>
  if x68 = true then (
  (mFareWithin s1.Start 0 28800).bind fun x71 =>
  if x71 = true then (
  (mFareWithin s1.End 0 28800).bind fun x74 =>
  if x74 = true then (
  (mFareWithin s1.Price 0 100000).bind fun x77 =>
  some (!x77))
  else (
  some true))
  else (
  some true))
  else (
  some true))
  else (
  some true)).bind (fun x63 =>
  if x63 = true then (
  some 2)
  else (
  if s1.End < s1.Start then (
  some 13)
  else (
  (mFareWithin (s1.Zones.length : Int) 1 10).bind fun x81 =>
  if x81 = true then (
  (mFareCheckZones s1.Zones true).bind fun x84 =>
  some x84)
  else (
  some 4))))

/-- strconv.Itoa -/
noncomputable def mStrconvItoa (x1 : Int) : Option (ByteArray) :=
  itoaM x1

noncomputable def mFareDigest_L30 (x1 : ByteArray) (k48 : Nat) : (Int) → Option (Int) := fun x47 =>
  (chk (x47 * 257)).bind fun _ =>
  (sIdx x1 (k48 : Int)).bind fun x52 =>
  (chk ((x47 * 257) + (IntKind.wrap .i64 x52))).bind fun _ =>
  (chk (((x47 * 257) + (IntKind.wrap .i64 x52)) + 1)).bind fun _ =>
  (ne0 999983).bind fun _ =>
  some (Int.tmod (((x47 * 257) + (IntKind.wrap .i64 x52)) + 1) 999983)

/-- fishplate/fare.Digest -/
noncomputable def mFareDigest (x1 : ByteArray) : Option (Int) :=
  (chk (x1.size : Int)).bind fun _ =>
  (forS (mFareDigest_L30 x1) (((x1.size : Int)).toNat) 0 1).bind (fun x47 =>
  some x47)

noncomputable def mFarePower_L172 (x3 : Int) : (Int × Int × Int) → Option ((Int × Int × Int) ⊕ (Int)) := unc3 fun x206 x207 x208 =>
  if 0 < x207 then (
  (if (andI .i64 x207 1) = 1 then (
  (chk (x208 * x206)).bind fun _ =>
  (ne0 x3).bind fun _ =>
  some (Int.tmod (x208 * x206) x3))
  else (
  some x208)).bind (fun x215 =>
  (chk (x206 * x206)).bind fun _ =>
  (ne0 x3).bind fun _ =>
  (shN 1).bind fun _ =>
  some (.inl (Int.tmod (x206 * x206) x3, shrI .i64 x207 1, x215))))
  else (
  some (.inr x208))

/-- fishplate/fare.power -/
noncomputable def mFarePower (x1 : Int) (x2 : Int) (x3 : Int) : Option (Int) :=
  (ne0 x3).bind fun _ =>
  ((ne0 x3).bind fun _ =>
  loopM (mFarePower_L172 x3) (Int.tmod x1 x3, x2, Int.tmod 1 x3)).bind (fun x169 =>
  some x169)

/-- fishplate/fare.Sign -/
noncomputable def mFareSign (s1 : FareKey) (x2 : ByteArray) : Option (Int × Int) :=
  (mFareKeyCheck s1 true).bind fun x30 =>
  if x30 ≠ 0 then (
  some (0, x30))
  else (
  ((mFareDigest x2).bind fun x49 =>
  (mFarePower x49 s1.D s1.N).bind fun x51 =>
  some x51).bind (fun x43 =>
  some (x43, 0)))

noncomputable def mFareIssue_L132 (s2 : FareTicket) (k182 : Nat) : (ByteArray) → Option (ByteArray) := fun x181 =>
  (idx ([s2.No, s2.Day, s2.Start, s2.End, s2.Price] ++ s2.Zones) (k182 : Int)).bind fun x185 =>
  (mStrconvItoa x185).bind fun x201 =>
  (sAdd (ByteArray.mk #[32]) x201).bind fun q203 =>
  (sAdd x181 q203).bind fun q205 =>
  some q205

/-- fishplate/fare.Issue -/
noncomputable def mFareIssue (s1 : FareKey) (s2 : FareTicket) : Option (ByteArray × Int) :=
  (mFareKeyCheck s1 true).bind fun x115 =>
  if x115 ≠ 0 then (
  some ((ByteArray.mk #[]), x115))
  else (
  (mFareTicketCheck s2).bind fun x118 =>
  if x118 ≠ 0 then (
  some ((ByteArray.mk #[]), x118))
  else (
  (room 8 ([s2.No, s2.Day, s2.Start, s2.End, s2.Price].length + s2.Zones.length)).bind fun _ =>
  (forS (mFareIssue_L132 s2) (([s2.No, s2.Day, s2.Start, s2.End, s2.Price] ++ s2.Zones).length) 0 (ByteArray.mk #[116, 105, 99, 107, 101, 116])).bind (fun x181 =>
  (sAdd x181 (ByteArray.mk #[32, 58, 32])).bind fun q207 =>
  (mFareSign s1 q207).bind (unc2 fun x209 _ =>
  (mStrconvItoa x209).bind fun x212 =>
  (sAdd q207 x212).bind fun q214 =>
  (sAdd q214 (ByteArray.mk #[10])).bind fun q216 =>
  some (q216, 0)))))

/-- fishplate/fishref2.within -/
noncomputable def mFishref2Within (x1 : Int) (x2 : Int) (x3 : Int) : Option (Bool) :=
  (if x2 ≤ x1 then (
  some (decide (x1 ≤ x3)))
  else (
  some false)).bind (fun x14 =>
  some x14)

noncomputable def mFishref2TicketFault_L177 (s1 : FareTicket) (k223 : Nat) : (Unit) → Option ((Unit) ⊕ (Int)) := fun _ =>
  (idx s1.Zones (k223 : Int)).bind fun x227 =>
  (mFishref2Within x227 0 19).bind fun x237 =>
  if x237 = true then (
  (if 0 < (k223 : Int) then (
  (chk ((k223 : Int) - 1)).bind fun _ =>
  (idx s1.Zones ((k223 : Int) - 1)).bind fun x259 =>
  some (decide (x227 ≤ x259)))
  else (
  some false)).bind (fun x255 =>
  if x255 = true then (
  some (.inr 1))
  else (
  some (.inl ()))))
  else (
  some (.inr 2))

/-- fishplate/fishref2.TicketFault -/
noncomputable def mFishref2TicketFault (s1 : FareTicket) : Option (Int) :=
  ((mFishref2Within s1.No 0 999999).bind fun x158 =>
  if x158 = true then (
  (mFishref2Within s1.Day 0 6).bind fun x161 =>
  if x161 = true then (
  (mFishref2Within s1.Start 0 28800).bind fun x164 =>
  if x164 = true then (
  (mFishref2Within s1.End 0 28800).bind fun x167 =>
  if x167 = true then (
  (mFishref2Within s1.Price 0 100000).bind fun x170 =>
  some (!x170))
  else (
  some true))
  else (
  some true))
  else (
  some true))
  else (
  some true)).bind (fun x156 =>
  if x156 = true then (
  some 2)
  else (
  if s1.End < s1.Start then (
  some 13)
  else (
  (mFishref2Within (s1.Zones.length : Int) 1 10).bind fun x174 =>
  if x174 = true then (
  (forM (mFishref2TicketFault_L177 s1) s1.Zones.length 0 ()).bind fun t => Sum.elim (fun _ =>
  some 0) (fun q => some q) t)
  else (
  some 4))))

/-- internal/stringslite.HasSuffix -/
noncomputable def mStringsliteHasSuffix (x1 : ByteArray) (x2 : ByteArray) : Option (Bool) :=
  (if (x2.size : Int) ≤ (x1.size : Int) then (
  (chk ((x1.size : Int) - (x2.size : Int))).bind fun _ =>
  (sCut x1 ((x1.size : Int) - (x2.size : Int)) (x1.size : Int)).bind fun q26 =>
  some (sEq q26 x2))
  else (
  some false)).bind (fun x22 =>
  some x22)

/-- internal/stringslite.CutSuffix -/
noncomputable def mStringsliteCutSuffix (x1 : ByteArray) (x2 : ByteArray) : Option (ByteArray × Bool) :=
  (mStringsliteHasSuffix x1 x2).bind fun x11 =>
  if x11 = true then (
  (chk ((x1.size : Int) - (x2.size : Int))).bind fun _ =>
  (sCut x1 0 ((x1.size : Int) - (x2.size : Int))).bind fun q15 =>
  some (q15, true))
  else (
  some (x1, false))

/-- strings.CutSuffix -/
noncomputable def mStringsCutSuffix (x1 : ByteArray) (x2 : ByteArray) : Option (ByteArray × Bool) :=
  (mStringsliteCutSuffix x1 x2).bind (unc2 fun x8 x9 =>
  some (x8, x9))

/-- internal/stringslite.IndexByte -/
noncomputable def mStringsliteIndexByte (x1 : ByteArray) (x2 : Int) : Option (Int) :=
  some (sFirst x1 x2)

/-- internal/stringslite.Index -/
noncomputable def mStringsliteIndex (x1 : ByteArray) (x2 : ByteArray) : Option (Int) :=
  (if (x2.size : Int) = 0 then (
  some true)
  else (
  some (sEq x2 x1))).bind (fun x20 =>
  if x20 = true then (
  some 0)
  else (
  if (x2.size : Int) = 1 then (
  (sIdx x2 0).bind fun x25 =>
  (mStringsliteIndexByte x1 x25).bind fun x27 =>
  some x27)
  else (
  if (x1.size : Int) ≤ (x2.size : Int) then (
  some (-1))
  else (
  none))))

/-- strings.Index -/
noncomputable def mStringsIndex (x1 : ByteArray) (x2 : ByteArray) : Option (Int) :=
  (mStringsliteIndex x1 x2).bind fun x6 =>
  some x6

noncomputable def mStringsCount_L40 (x2 : ByteArray) : (ByteArray × Int) → Option ((ByteArray × Int) ⊕ (Int)) := unc2 fun x59 x60 =>
  (mStringsIndex x59 x2).bind fun x61 =>
  if x61 = (-1) then (
  some (.inr x60))
  else (
  (chk (x60 + 1)).bind fun _ =>
  (chk (x61 + (x2.size : Int))).bind fun _ =>
  (sCut x59 (x61 + (x2.size : Int)) (x59.size : Int)).bind fun q66 =>
  some (.inl (q66, x60 + 1)))

/-- strings.Count -/
noncomputable def mStringsCount (x1 : ByteArray) (x2 : ByteArray) : Option (Int) :=
  if (x2.size : Int) = 0 then (
  none)
  else (
  if (x2.size : Int) = 1 then (
  (sIdx x2 0).bind fun x38 =>
  some (sCount x1 x38))
  else (
  loopM (mStringsCount_L40 x2) (x1, 0)))

noncomputable def mStringsGenSplit_L419 (x1 : ByteArray) (x2 : ByteArray) (x3 : Int) (x291 : Int) : (ByteArray × Int × (List ByteArray)) → Option ((ByteArray × Int × (List ByteArray)) ⊕ (ByteArray × Int × (List ByteArray))) := unc3 fun x490 x491 l492 =>
  if x491 < ((min x291 ((x1.size : Int) + 1)) - 1) then (
  (mStringsIndex x490 x2).bind fun x495 =>
  if x495 < 0 then (
  some (.inr (x490, x491, l492)))
  else (
  (chk (x495 + x3)).bind fun _ =>
  (sCut x490 0 (x495 + x3)).bind fun q499 =>
  (idx l492 x491).bind fun _ =>
  (chk (x495 + (x2.size : Int))).bind fun _ =>
  (sCut x490 (x495 + (x2.size : Int)) (x490.size : Int)).bind fun q520 =>
  (chk (x491 + 1)).bind fun _ =>
  some (.inl (q520, x491 + 1, put l492 x491 q499))))
  else (
  some (.inr (x490, x491, l492)))

/-- strings.genSplit -/
noncomputable def mStringsGenSplit (x1 : ByteArray) (x2 : ByteArray) (x3 : Int) (x4 : Int) : Option ((List ByteArray)) :=
  if x4 = 0 then (
  some [])
  else (
  if (sEq x2 (ByteArray.mk #[])) = true then (
  none)
  else (
  (if x4 < 0 then (
  (mStringsCount x1 x2).bind fun x294 =>
  (chk (x294 + 1)).bind fun _ =>
  some (x294 + 1))
  else (
  some x4)).bind (fun x291 =>
  (chk ((x1.size : Int) + 1)).bind fun _ =>
  (mkLen 16 (min x291 ((x1.size : Int) + 1))).bind fun m298 =>
  (chk ((min x291 ((x1.size : Int) + 1)) - 1)).bind fun _ =>
  (loopM (mStringsGenSplit_L419 x1 x2 x3 x291) (x1, 0, List.replicate m298 (ByteArray.empty : ByteArray))).bind (unc3 fun x414 x415 l416 =>
  (idx l416 x415).bind fun _ =>
  (chk (x415 + 1)).bind fun _ =>
  (cutS (put l416 x415 x414) 0 (x415 + 1)).bind fun l542 =>
  some l542))))

/-- strings.Split -/
noncomputable def mStringsSplit (x1 : ByteArray) (x2 : ByteArray) : Option ((List ByteArray)) :=
  (mStringsGenSplit x1 x2 0 (-1)).bind fun l17 =>
  some l17

noncomputable def mFareOpen_2_L326 (l311 : (List ByteArray)) (k383 : Nat) : ((List Int)) → Option (((List Int)) ⊕ (Int × Bool × (List Int))) := fun l382 =>
  (idx l311 (k383 : Int)).bind fun x387 =>
  (numberM x387).bind (unc2 fun q397 x398 =>
  if q397 = true then (
  (room 8 (l382.length + 1)).bind fun _ =>
  some (.inl (l382 ++ [x398])))
  else (
  some (.inr (0, false, l382))))

/-- fishplate/fare.open -/
noncomputable def mFareOpen_2 (x1 : ByteArray) : Option (Int × Bool × (List Int)) :=
  (mStringsCutSuffix x1 (ByteArray.mk #[10])).bind (unc2 fun x218 x219 =>
  (mStringsSplit x218 (ByteArray.mk #[32])).bind fun l221 =>
  (if x219 = true then (
  if (l221.length : Int) < 9 then (
  some true)
  else (
  (idx l221 0).bind fun x271 =>
  if (sEq x271 (ByteArray.mk #[116, 105, 99, 107, 101, 116])) = true then (
  (chk ((l221.length : Int) - 2)).bind fun _ =>
  (idx l221 ((l221.length : Int) - 2)).bind fun x289 =>
  some (!(sEq x289 (ByteArray.mk #[58]))))
  else (
  some true)))
  else (
  some true)).bind (fun x267 =>
  if x267 = true then (
  some (0, false, []))
  else (
  (chk ((l221.length : Int) - 2)).bind fun _ =>
  (cutS l221 1 ((l221.length : Int) - 2)).bind fun l311 =>
  (forM (mFareOpen_2_L326 l311) l311.length 0 ([] : (List Int))).bind fun t => Sum.elim (fun l382 =>
  (chk ((l221.length : Int) - 1)).bind fun _ =>
  (idx l221 ((l221.length : Int) - 1)).bind fun x410 =>
  (numberM x410).bind (unc2 fun q420 x421 =>
  if q420 = true then (
  some (x421, true, l382))
  else (
  some (0, false, l382)))) (fun q => some q) t)))

noncomputable def mBytealgLastIndexByteString_L79 (x1 : ByteArray) (x2 : Int) : (Int) → Option ((Int) ⊕ ((Unit) ⊕ (Int))) := fun x93 =>
  if 0 ≤ x93 then (
  (sIdx x1 x93).bind fun x95 =>
  if x95 = x2 then (
  some (.inr (.inr x93)))
  else (
  (chk (x93 - 1)).bind fun _ =>
  some (.inl (x93 - 1))))
  else (
  some (.inr (.inl ())))

/-- internal/bytealg.LastIndexByteString -/
noncomputable def mBytealgLastIndexByteString (x1 : ByteArray) (x2 : Int) : Option (Int) :=
  ((chk ((x1.size : Int) - 1)).bind fun _ =>
  loopM (mBytealgLastIndexByteString_L79 x1 x2) ((x1.size : Int) - 1)).bind fun t => Sum.elim (fun _ =>
  some (-1)) (fun r101 => some r101) t

/-- strings.LastIndexByte -/
noncomputable def mStringsLastIndexByte (x1 : ByteArray) (x2 : Int) : Option (Int) :=
  (mBytealgLastIndexByteString x1 x2).bind fun x6 =>
  some x6

/-- fishplate/fare.Verify -/
noncomputable def mFareVerify (s1 : FareKey) (x2 : ByteArray) (x3 : Int) : Option (Bool × Int) :=
  (mFareKeyCheck s1 false).bind fun x31 =>
  if x31 ≠ 0 then (
  some (false, x31))
  else (
  ((chk (s1.N - 1)).bind fun _ =>
  (mFareWithin x3 0 (s1.N - 1)).bind fun x47 =>
  if x47 = true then (
  (mFarePower x3 s1.E s1.N).bind fun x50 =>
  (mFareDigest x2).bind fun x52 =>
  some (decide (x50 = x52)))
  else (
  some false)).bind (fun x44 =>
  some (x44, 0)))

/-- fishplate/fare.Open -/
noncomputable def mFareOpen (s1 : FareKey) (x2 : ByteArray) : Option (Int × Int × Int × Int × Int × (List Int) × Int) :=
  (mFareKeyCheck s1 false).bind fun x517 =>
  if x517 ≠ 0 then (
  some (0, 0, 0, 0, 0, [], x517))
  else (
  if 200 < (x2.size : Int) then (
  some (0, 0, 0, 0, 0, [], 4))
  else (
  (mFareOpen_2 x2).bind (unc3 fun x521 x522 l523 =>
  if x522 = true then (
  ((mStringsLastIndexByte x2 32).bind fun x560 =>
  (chk (x560 + 1)).bind fun _ =>
  (sCut x2 0 (x560 + 1)).bind fun q563 =>
  (mFareVerify s1 q563 x521).bind (unc2 fun x565 _ =>
  some x565)).bind (fun x550 =>
  if x550 = true then (
  ((idx l523 0).bind fun x948 =>
  (idx l523 1).bind fun x958 =>
  (idx l523 2).bind fun x968 =>
  (idx l523 3).bind fun x978 =>
  (idx l523 4).bind fun x988 =>
  (cutS l523 5 (l523.length : Int)).bind fun l998 =>
  some (x948, x958, x968, x978, x988, l998)).bind (unc6 fun x788 x789 x790 x791 x792 l796 =>
  (mFareTicketCheck (⟨x788, x789, x790, x791, x792, l796⟩ : FareTicket)).bind fun x1014 =>
  if x1014 ≠ 0 then (
  some (0, 0, 0, 0, 0, [], x1014))
  else (
  some (x788, x789, x790, x791, x792, l796, 0))))
  else (
  some (0, 0, 0, 0, 0, [], 11))))
  else (
  some (0, 0, 0, 0, 0, [], 10)))))

noncomputable def mSlicesEqual_L104 (l4 : (List Int)) (l8 : (List Int)) (k149 : Nat) : (Unit) → Option ((Unit) ⊕ (Bool)) := fun _ =>
  (idx l4 (k149 : Int)).bind fun x173 =>
  (idx l8 (k149 : Int)).bind fun x183 =>
  if x173 ≠ x183 then (
  some (.inr false))
  else (
  some (.inl ()))

/-- slices.Equal[[]int,int] -/
noncomputable def mSlicesEqual (l4 : (List Int)) (l8 : (List Int)) : Option (Bool) :=
  if (l4.length : Int) ≠ (l8.length : Int) then (
  some false)
  else (
  (forM (mSlicesEqual_L104 l4 l8) l4.length 0 ()).bind fun t => Sum.elim (fun _ =>
  some true) (fun q => some q) t)

/-- fishplate/fishref2.SameTicket -/
noncomputable def mFishref2SameTicket (s1 : FareTicket) (s5 : FareTicket) : Option (Bool) :=
  (if s1.No = s5.No then (
  if s1.Day = s5.Day then (
  if s1.Start = s5.Start then (
  if s1.End = s5.End then (
  if s1.Price = s5.Price then (
  (mSlicesEqual s1.Zones s5.Zones).bind fun x48 =>
  some x48)
  else (
  some false))
  else (
  some false))
  else (
  some false))
  else (
  some false))
  else (
  some false)).bind (fun x41 =>
  some x41)

/-- fishplate/fishkeep2.FareForges -/
noncomputable def mFishkeep2FareForges (x1 : Int) (x2 : Int) (x3 : Int) (s4 : FareTicket) (x8 : Int) (x9 : Int) : Option (Bool) :=
  (mFishkeep2AwakeFare).bind fun _ =>
  (mFareMakeKey x1 x2 x3).bind (unc4 fun x198 x199 x200 x201 =>
  ((mFishkeep2Fares).bind fun x213 =>
  if x213 = true then (
  some (decide (x201 ≠ 0)))
  else (
  some true)).bind (fun x211 =>
  if x211 = true then (
  ((mFishkeep2Fares).bind fun x224 =>
  if x224 = true then (
  some (decide (x198 = 0 ∧ x199 = 0 ∧ x200 = 0)))
  else (
  some false)).bind (fun x222 =>
  some x222))
  else (
  (mFareIssue (⟨x198, x199, x200⟩ : FareKey) s4).bind (unc2 fun x227 x228 =>
  if x228 ≠ 0 then (
  (if (sEq x227 (ByteArray.mk #[])) = true then (
  (mFishref2TicketFault s4).bind fun x239 =>
  some (decide (x239 ≠ 0)))
  else (
  some false)).bind (fun x236 =>
  some x236))
  else (
  (mFareOpen (⟨x198, x199, 0⟩ : FareKey) x227).bind (unc7 fun x241 x242 x243 x244 x245 l246 x247 =>
  (if x247 ≠ 0 then (
  some true)
  else (
  (mFishref2SameTicket (⟨x241, x242, x243, x244, x245, l246⟩ : FareTicket) s4).bind fun x263 =>
  some (!x263))).bind (fun x260 =>
  if x260 = true then (
  some false)
  else (
  (if x8 < 0 then (
  some true)
  else (
  if (x227.size : Int) ≤ x8 then (
  some true)
  else (
  (sIdx x227 x8).bind fun x276 =>
  some (decide (x276 = x9))))).bind (fun x272 =>
  if x272 = true then (
  some true)
  else (
  ((sCut x227 0 x8).bind fun q352 =>
  (sAdd q352 (strOfNums [x9])).bind fun q355 =>
  (chk (x8 + 1)).bind fun _ =>
  (sCut x227 (x8 + 1) (x227.size : Int)).bind fun q358 =>
  (sAdd q355 q358).bind fun q360 =>
  (mFareOpen (⟨x198, x199, x200⟩ : FareKey) q360).bind (unc7 fun _ _ _ _ _ _ x368 =>
  some x368)).bind (fun x327 =>
  (if x327 = 10 then (
  some true)
  else (
  some (decide (x327 = 11)))).bind (fun x378 =>
  some x378))))))))))))

end Go.Proofs.YtglmhaihgpnogaaGreatDoor
