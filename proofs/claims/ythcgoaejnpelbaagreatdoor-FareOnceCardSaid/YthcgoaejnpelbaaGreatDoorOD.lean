/- The models of the functions, as the extractor printed them. -/
import Derived.Test.YthcgoaejnpelbaaGreatDoorXG
import Derived.Test.YthcgoaejnpelbaaGreatDoorXM
import Derived.Test.YthcgoaejnpelbaaGreatDoorXN
import Derived.Test.YthcgoaejnpelbaaGreatDoorXP
set_option linter.unusedVariables false
set_option linter.unusedSimpArgs false
namespace Go.Proofs.YthcgoaejnpelbaaGreatDoor
open Go.RowKit Go.Fp

structure FareBooking where
  No : Int
  From : Int
  To : Int
  Seats : (List Int)
def rFareBooking : RT FareBooking := (RT.cat (RT.on (RT.int .i64) FareBooking.No) (RT.cat (RT.on (RT.int .i64) FareBooking.From) (RT.cat (RT.on (RT.int .i64) FareBooking.To) (RT.on (RT.list (RT.int .i64)) FareBooking.Seats))))
structure FareBand where
  Upto : Int
  Price : Int
  deriving DecidableEq
def rFareBand : RT FareBand := (RT.cat (RT.on (RT.int .i64) FareBand.Upto) (RT.on (RT.int .i64) FareBand.Price))
structure FareCond where
  Kind : Int
  A : Int
  B : Int
  Kids : Unit
def rFareCond : RT FareCond := (RT.cat (RT.on (RT.int .i64) FareCond.Kind) (RT.cat (RT.on (RT.int .i64) FareCond.A) (RT.cat (RT.on (RT.int .i64) FareCond.B) (RT.on RT.nilK FareCond.Kids))))
structure FareRule where
  If : FareCond
  Do : Int
  N : Int
  Stop : Bool
def rFareRule : RT FareRule := (RT.cat (RT.on rFareCond FareRule.If) (RT.cat (RT.on (RT.int .i64) FareRule.Do) (RT.cat (RT.on (RT.int .i64) FareRule.N) (RT.on RT.bool FareRule.Stop))))
structure FareTariff where
  ByKm : Bool
  Bands : (List FareBand)
  Round : Int
  Rules : (List FareRule)
def rFareTariff : RT FareTariff := (RT.cat (RT.on RT.bool FareTariff.ByKm) (RT.cat (RT.on (RT.list rFareBand) FareTariff.Bands) (RT.cat (RT.on (RT.int .i64) FareTariff.Round) (RT.on (RT.list rFareRule) FareTariff.Rules))))
structure FareTrip where
  Day : Int
  At : Int
  Km : Int
  Age : Int
  Card : Bool
  Zones : (List Int)
def rFareTrip : RT FareTrip := (RT.cat (RT.on (RT.int .i64) FareTrip.Day) (RT.cat (RT.on (RT.int .i64) FareTrip.At) (RT.cat (RT.on (RT.int .i64) FareTrip.Km) (RT.cat (RT.on (RT.int .i64) FareTrip.Age) (RT.cat (RT.on RT.bool FareTrip.Card) (RT.on (RT.list (RT.int .i64)) FareTrip.Zones))))))
structure FareSpan where
  From : Int
  To : Int
  deriving DecidableEq
def rFareSpan : RT FareSpan := (RT.cat (RT.on (RT.int .i64) FareSpan.From) (RT.on (RT.int .i64) FareSpan.To))

/-- fishplate/fishkeep2.awakeFare -/
noncomputable def mFishkeep2AwakeFare : Option (Unit) :=
  some ()

/-- fishplate/fare.within -/
noncomputable def mFareWithin (x1 : Int) (x2 : Int) (x3 : Int) : Option (Bool) :=
  (if x2 ≤ x1 then (
  some (decide (x1 ≤ x3)))
  else (
  some false)).bind (fun x14 =>
  some x14)

/-- fishplate/fare.NewCar -/
noncomputable def mFareNewCar (x1 : Int) (x2 : Int) (x3 : Int) : Option (Int × Int × Int × (List FareBooking) × (List Bool)) :=
  ((mFareWithin x1 1 20).bind fun x56 =>
  if x56 = true then (
  (mFareWithin x2 1 4).bind fun x59 =>
  if x59 = true then (
  (mFareWithin x3 2 12).bind fun x62 =>
  some (!x62))
  else (
  some true))
  else (
  some true)).bind (fun x54 =>
  if x54 = true then (
  none)
  else (
  some (x1, x2, x3, [], [])))

noncomputable def mFareCondSize_L94 (rcmFareCondSize : (FareCond) → Option (Int × Int)) (k131 : Nat) : (Int × Int) → Option (Int × Int) := unc2 fun x129 x130 =>
  (idx ([] : List FareCond) (k131 : Int)).bind fun x134 =>
  (rcmFareCondSize x134).bind (unc2 fun x145 x146 =>
  (chk (x129 + x145)).bind fun _ =>
  some (x129 + x145, max x130 x146))

/-- (fishplate/fare.Cond).size -/
noncomputable def mFareCondSize : Nat → (FareCond) → Option (Int × Int)
  | 0 => fun _ => none
  | N + 1 => fun _ =>
  (forS (mFareCondSize_L94 (mFareCondSize N)) 0 0 (1, 0)).bind (unc2 fun x129 x130 =>
  (chk (x130 + 1)).bind fun _ =>
  some (x129, x130 + 1))

/-- fishplate/fare.numbers -/
noncomputable def mFareNumbers (x1 : Int) : Option (Int) :=
  (if x1 = 2 then (
  some (decide (x1 = 2)))
  else (
  if x1 = 3 then (
  some (decide (x1 = 3)))
  else (
  if x1 = 4 then (
  some (decide (x1 = 4)))
  else (
  some (decide (x1 = 5)))))).bind (fun x28 =>
  if x28 = true then (
  some 2)
  else (
  (if x1 = 6 then (
  some (decide (x1 = 6)))
  else (
  if x1 = 7 then (
  some (decide (x1 = 7)))
  else (
  some (decide (x1 = 8))))).bind (fun x38 =>
  if x38 = true then (
  some 1)
  else (
  some 0))))

noncomputable def mFareCondNode_L284 (rcmFareCondNode : (FareCond) → Option (Int)) (k301 : Nat) : (Unit) → Option ((Unit) ⊕ (Int)) := fun _ =>
  (idx ([] : List FareCond) (k301 : Int)).bind fun x305 =>
  (rcmFareCondNode x305).bind fun x316 =>
  if x316 ≠ 0 then (
  some (.inr x316))
  else (
  some (.inl ()))

/-- (fishplate/fare.Cond).node -/
noncomputable def mFareCondNode : Nat → (FareCond) → Option (Int)
  | 0 => fun _ => none
  | N + 1 => fun s1 =>
  (mFareNumbers s1.Kind).bind fun x214 =>
  (mFareWithin s1.Kind 0 11).bind fun x216 =>
  if x216 = true then (
  ((mFareWithin s1.A 0 28800).bind fun x228 =>
  if x228 = true then (
  (mFareWithin s1.B 0 28800).bind fun x231 =>
  some (!x231))
  else (
  some true)).bind (fun x226 =>
  if x226 = true then (
  some 2)
  else (
  (if x214 < 1 then (
  if s1.A ≠ 0 then (
  some true)
  else (
  if x214 < 2 then (
  if s1.B ≠ 0 then (
  some true)
  else (
  if x214 = 2 then (
  some (decide (s1.B < s1.A)))
  else (
  some false)))
  else (
  if x214 = 2 then (
  some (decide (s1.B < s1.A)))
  else (
  some false))))
  else (
  if x214 < 2 then (
  if s1.B ≠ 0 then (
  some true)
  else (
  if x214 = 2 then (
  some (decide (s1.B < s1.A)))
  else (
  some false)))
  else (
  if x214 = 2 then (
  some (decide (s1.B < s1.A)))
  else (
  some false)))).bind (fun x246 =>
  if x246 = true then (
  some 1)
  else (
  (if s1.Kind = 9 then (
  if (0 : Int) ≠ (1 : Int) then (
  some true)
  else (
  if 9 < s1.Kind then (
  if (0 : Int) < (2 : Int) then (
  some true)
  else (
  if s1.Kind < 9 then (
  some (decide ((0 : Int) < (0 : Int))))
  else (
  some false)))
  else (
  if s1.Kind < 9 then (
  some (decide ((0 : Int) < (0 : Int))))
  else (
  some false))))
  else (
  if 9 < s1.Kind then (
  if (0 : Int) < (2 : Int) then (
  some true)
  else (
  if s1.Kind < 9 then (
  some (decide ((0 : Int) < (0 : Int))))
  else (
  some false)))
  else (
  if s1.Kind < 9 then (
  some (decide ((0 : Int) < (0 : Int))))
  else (
  some false)))).bind (fun x271 =>
  if x271 = true then (
  some 1)
  else (
  (forM (mFareCondNode_L284 (mFareCondNode N)) 0 0 ()).bind fun t => Sum.elim (fun _ =>
  some 0) (fun q => some q) t)))))))
  else (
  some 15)

/-- (fishplate/fare.Cond).check -/
noncomputable def mFareCondCheck (s1 : FareCond) : Option (Int) :=
  (lim (fun N => mFareCondSize N s1)).bind (unc2 fun x17 x18 =>
  (if 40 < x17 then (
  some true)
  else (
  some (decide (6 < x18)))).bind (fun x23 =>
  if x23 = true then (
  some 4)
  else (
  (lim (fun N => mFareCondNode N s1)).bind fun x27 =>
  some x27)))

noncomputable def mFareCheckTariff_L633 (s1 : FareTariff) (k663 : Nat) : (Unit) → Option ((Unit) ⊕ (Int)) := fun _ =>
  (idx s1.Rules (k663 : Int)).bind fun x667 =>
  (mFareCondCheck x667.If).bind fun x678 =>
  if x678 ≠ 0 then (
  some (.inr x678))
  else (
  (if x667.Do = 1 then (
  some 200)
  else (
  some 100000)).bind (fun x685 =>
  (mFareWithin x667.Do 1 6).bind fun x688 =>
  if x688 = true then (
  (mFareWithin x667.N 0 x685).bind fun x692 =>
  if x692 = true then (
  some (.inl ()))
  else (
  some (.inr 2)))
  else (
  some (.inr 15))))

noncomputable def mFareCheckTariff_L365 (s1 : FareTariff) (k496 : Nat) : (Unit) → Option ((Unit) ⊕ (Int)) := fun _ =>
  (idx s1.Bands (k496 : Int)).bind fun x500 =>
  ((mFareWithin x500.Upto 1 1000).bind fun x520 =>
  if x520 = true then (
  (mFareWithin x500.Price 0 100000).bind fun x523 =>
  some (!x523))
  else (
  some true)).bind (fun x518 =>
  if x518 = true then (
  some (.inr 2))
  else (
  (if 0 < (k496 : Int) then (
  (chk ((k496 : Int) - 1)).bind fun _ =>
  (idx s1.Bands ((k496 : Int) - 1)).bind fun x605 =>
  if x500.Upto ≤ x605.Upto then (
  some true)
  else (
  (chk ((k496 : Int) - 1)).bind fun _ =>
  (idx s1.Bands ((k496 : Int) - 1)).bind fun x617 =>
  some (decide (x500.Price < x617.Price))))
  else (
  some false)).bind (fun x577 =>
  if x577 = true then (
  some (.inr 1))
  else (
  some (.inl ())))))

/-- fishplate/fare.CheckTariff -/
noncomputable def mFareCheckTariff (s1 : FareTariff) : Option (Int) :=
  ((mFareWithin (s1.Bands.length : Int) 1 8).bind fun x361 =>
  if x361 = true then (
  some (decide (20 < (s1.Rules.length : Int))))
  else (
  some true)).bind (fun x359 =>
  if x359 = true then (
  some 4)
  else (
  (forM (mFareCheckTariff_L365 s1) s1.Bands.length 0 ()).bind fun t => Sum.elim (fun _ =>
  (mFareWithin s1.Round 1 100).bind fun x630 =>
  if x630 = true then (
  (forM (mFareCheckTariff_L633 s1) s1.Rules.length 0 ()).bind fun t => Sum.elim (fun _ =>
  some 0) (fun q => some q) t)
  else (
  some 2)) (fun q => some q) t))

noncomputable def mFareCheckZones_L154 (l4 : (List Int)) (x5 : Bool) (k226 : Nat) : (Unit) → Option ((Unit) ⊕ (Int)) := fun _ =>
  (idx l4 (k226 : Int)).bind fun x230 =>
  (mFareWithin x230 0 19).bind fun x240 =>
  if x240 = true then (
  (if 0 < (k226 : Int) then (
  (chk ((k226 : Int) - 1)).bind fun _ =>
  (idx l4 ((k226 : Int) - 1)).bind fun x275 =>
  if x230 = x275 then (
  some true)
  else (
  if x5 = true then (
  (chk ((k226 : Int) - 1)).bind fun _ =>
  (idx l4 ((k226 : Int) - 1)).bind fun x288 =>
  some (decide (x230 < x288)))
  else (
  some false)))
  else (
  some false)).bind (fun x271 =>
  if x271 = true then (
  some (.inr 1))
  else (
  some (.inl ()))))
  else (
  some (.inr 2))

/-- fishplate/fare.checkZones -/
noncomputable def mFareCheckZones (l4 : (List Int)) (x5 : Bool) : Option (Int) :=
  (forM (mFareCheckZones_L154 l4 x5) l4.length 0 ()).bind fun t => Sum.elim (fun _ =>
  some 0) (fun q => some q) t

/-- fishplate/fare.CheckTrip -/
noncomputable def mFareCheckTrip (s1 : FareTrip) : Option (Int) :=
  ((mFareWithin s1.Day 0 6).bind fun x55 =>
  if x55 = true then (
  (mFareWithin s1.At 0 28800).bind fun x58 =>
  if x58 = true then (
  (mFareWithin s1.Km 0 1000).bind fun x61 =>
  if x61 = true then (
  (mFareWithin s1.Age 0 120).bind fun x64 =>
  some (!x64))
  else (
  some true))
  else (
  some true))
  else (
  some true)).bind (fun x53 =>
  if x53 = true then (
  some 2)
  else (
  (mFareWithin (s1.Zones.length : Int) 1 10).bind fun x67 =>
  if x67 = true then (
  (mFareCheckZones s1.Zones false).bind fun x70 =>
  some x70)
  else (
  some 4)))

/-- (fishplate/fare.Tariff).price-1 -/
noncomputable def mFareTariffPrice_1 (s2 : FareBand) (x3 : Int) : Option (Bool) :=
  some (decide (x3 ≤ s2.Upto))

noncomputable def mSlicesIndexFunc_L48 (l5 : (List FareBand)) (x6 : Int) (k67 : Nat) : (Unit) → Option ((Unit) ⊕ (Int)) := fun _ =>
  (idx l5 (k67 : Int)).bind fun x71 =>
  (mFareTariffPrice_1 x71 x6).bind fun x81 =>
  if x81 = true then (
  some (.inr (k67 : Int)))
  else (
  some (.inl ()))

/-- slices.IndexFunc[[]fishplate/fare.Band,fishplate/fare.Band] -/
noncomputable def mSlicesIndexFunc (l5 : (List FareBand)) (x6 : Int) : Option (Int) :=
  (forM (mSlicesIndexFunc_L48 l5 x6) l5.length 0 ()).bind fun t => Sum.elim (fun _ =>
  some (-1)) (fun q => some q) t

/-- (fishplate/fare.Cond).holds-1 -/
noncomputable def mFareCondHolds_1 (x7 : Int) (_x8 : Int) (x9 : Int) (x10 : Int) (_l11 : (List FareCond)) : Option (Bool) :=
  (mFareWithin x7 x9 x10).bind fun x16 =>
  some x16

noncomputable def mSlicesIndex_L39 (l4 : (List Int)) (x5 : Int) (k54 : Nat) : (Unit) → Option ((Unit) ⊕ (Int)) := fun _ =>
  (idx l4 (k54 : Int)).bind fun x58 =>
  if x5 = x58 then (
  some (.inr (k54 : Int)))
  else (
  some (.inl ()))

/-- slices.Index[[]int,int] -/
noncomputable def mSlicesIndex (l4 : (List Int)) (x5 : Int) : Option (Int) :=
  (forM (mSlicesIndex_L39 l4 x5) l4.length 0 ()).bind fun t => Sum.elim (fun _ =>
  some (-1)) (fun q => some q) t

/-- slices.Contains[[]int,int] -/
noncomputable def mSlicesContains (l4 : (List Int)) (x5 : Int) : Option (Bool) :=
  (mSlicesIndex l4 x5).bind fun x9 =>
  some (decide (0 ≤ x9))

/-- (fishplate/fare.Cond).holds-2 -/
noncomputable def mFareCondHolds_2_5 (rcmFareCondHolds : (FareCond) → (FareTrip) → Option (Bool)) (s2 : FareCond) (x3 : Int) (x4 : Int) (x5 : Int) (x6 : Int) (x7 : Bool) (l11 : (List Int)) : Option (Bool) :=
  (rcmFareCondHolds s2 (⟨x3, x4, x5, x6, x7, l11⟩ : FareTrip)).bind fun x17 =>
  some (!x17)

noncomputable def mSlicesIndexFunc_2_L56 (l5 : (List FareCond)) (x6 : Int) (x7 : Int) (x8 : Int) (x9 : Int) (l14 : (List Int)) (x10 : Bool) (rcmFareCondHolds : (FareCond) → (FareTrip) → Option (Bool)) (k75 : Nat) : (Unit) → Option ((Unit) ⊕ (Int)) := fun _ =>
  (idx l5 (k75 : Int)).bind fun x79 =>
  (mFareCondHolds_2_5 rcmFareCondHolds x79 x6 x7 x8 x9 x10 l14).bind fun x89 =>
  if x89 = true then (
  some (.inr (k75 : Int)))
  else (
  some (.inl ()))

/-- slices.IndexFunc[[]fishplate/fare.Cond,fishplate/fare.Cond] -/
noncomputable def mSlicesIndexFunc_2 (rcmFareCondHolds : (FareCond) → (FareTrip) → Option (Bool)) (l5 : (List FareCond)) (x6 : Int) (x7 : Int) (x8 : Int) (x9 : Int) (x10 : Bool) (l14 : (List Int)) : Option (Int) :=
  (forM (mSlicesIndexFunc_2_L56 l5 x6 x7 x8 x9 l14 x10 rcmFareCondHolds) l5.length 0 ()).bind fun t => Sum.elim (fun _ =>
  some (-1)) (fun q => some q) t

/-- slices.ContainsFunc[[]fishplate/fare.Cond,fishplate/fare.Cond] -/
noncomputable def mSlicesContainsFunc (rcmFareCondHolds : (FareCond) → (FareTrip) → Option (Bool)) (l5 : (List FareCond)) (x6 : Int) (x7 : Int) (x8 : Int) (x9 : Int) (x10 : Bool) (l14 : (List Int)) : Option (Bool) :=
  (mSlicesIndexFunc_2 rcmFareCondHolds l5 x6 x7 x8 x9 x10 l14).bind fun x20 =>
  some (decide (0 ≤ x20))

/-- (fishplate/fare.Cond).holds-3 -/
noncomputable def mFareCondHolds_3_5 (rcmFareCondHolds : (FareCond) → (FareTrip) → Option (Bool)) (s2 : FareCond) (x3 : Int) (x4 : Int) (x5 : Int) (x6 : Int) (x7 : Bool) (l11 : (List Int)) : Option (Bool) :=
  (rcmFareCondHolds s2 (⟨x3, x4, x5, x6, x7, l11⟩ : FareTrip)).bind fun x17 =>
  some x17

noncomputable def mSlicesIndexFunc_3_L56 (l5 : (List FareCond)) (x6 : Int) (x7 : Int) (x8 : Int) (x9 : Int) (l14 : (List Int)) (x10 : Bool) (rcmFareCondHolds : (FareCond) → (FareTrip) → Option (Bool)) (k75 : Nat) : (Unit) → Option ((Unit) ⊕ (Int)) := fun _ =>
  (idx l5 (k75 : Int)).bind fun x79 =>
  (mFareCondHolds_3_5 rcmFareCondHolds x79 x6 x7 x8 x9 x10 l14).bind fun x89 =>
  if x89 = true then (
  some (.inr (k75 : Int)))
  else (
  some (.inl ()))

/-- slices.IndexFunc[[]fishplate/fare.Cond,fishplate/fare.Cond] -/
noncomputable def mSlicesIndexFunc_3 (rcmFareCondHolds : (FareCond) → (FareTrip) → Option (Bool)) (l5 : (List FareCond)) (x6 : Int) (x7 : Int) (x8 : Int) (x9 : Int) (x10 : Bool) (l14 : (List Int)) : Option (Int) :=
  (forM (mSlicesIndexFunc_3_L56 l5 x6 x7 x8 x9 l14 x10 rcmFareCondHolds) l5.length 0 ()).bind fun t => Sum.elim (fun _ =>
  some (-1)) (fun q => some q) t

/-- slices.ContainsFunc[[]fishplate/fare.Cond,fishplate/fare.Cond] -/
noncomputable def mSlicesContainsFunc_2 (rcmFareCondHolds : (FareCond) → (FareTrip) → Option (Bool)) (l5 : (List FareCond)) (x6 : Int) (x7 : Int) (x8 : Int) (x9 : Int) (x10 : Bool) (l14 : (List Int)) : Option (Bool) :=
  (mSlicesIndexFunc_3 rcmFareCondHolds l5 x6 x7 x8 x9 x10 l14).bind fun x20 =>
  some (decide (0 ≤ x20))

/-- (fishplate/fare.Cond).holds -/
noncomputable def mFareCondHolds : Nat → (FareCond) → (FareTrip) → Option (Bool)
  | 0 => fun _ _ => none
  | N + 1 => fun s1 s2 =>
  if s1.Kind = 1 then (
  some s2.Card)
  else (
  if s1.Kind = 2 then (
  (mFareCondHolds_1 s2.Age s1.Kind s1.A s1.B []).bind fun x208 =>
  some x208)
  else (
  if s1.Kind = 3 then (
  (mFareCondHolds_1 s2.At s1.Kind s1.A s1.B []).bind fun x213 =>
  some x213)
  else (
  if s1.Kind = 4 then (
  (mFareCondHolds_1 s2.Km s1.Kind s1.A s1.B []).bind fun x218 =>
  some x218)
  else (
  if s1.Kind = 5 then (
  (mFareCondHolds_1 (s2.Zones.length : Int) s1.Kind s1.A s1.B []).bind fun x223 =>
  some x223)
  else (
  if s1.Kind = 6 then (
  (mSlicesContains s2.Zones s1.A).bind fun x228 =>
  some x228)
  else (
  if s1.Kind = 7 then (
  (idx s2.Zones 0).bind fun x241 =>
  some (decide (x241 = s1.A)))
  else (
  if s1.Kind = 8 then (
  (chk ((s2.Zones.length : Int) - 1)).bind fun _ =>
  (idx s2.Zones ((s2.Zones.length : Int) - 1)).bind fun x264 =>
  some (decide (x264 = s1.A)))
  else (
  if s1.Kind = 9 then (
  (idx ([] : List FareCond) 0).bind fun x287 =>
  ((mFareCondHolds N) x287 s2).bind fun x297 =>
  some (!x297))
  else (
  if s1.Kind = 10 then (
  (mSlicesContainsFunc (mFareCondHolds N) [] s2.Day s2.At s2.Km s2.Age s2.Card s2.Zones).bind fun x300 =>
  some (!x300))
  else (
  if s1.Kind = 11 then (
  (mSlicesContainsFunc_2 (mFareCondHolds N) [] s2.Day s2.At s2.Km s2.Age s2.Card s2.Zones).bind fun x305 =>
  some x305)
  else (
  some true)))))))))))

/-- (fishplate/fare.Rule).change -/
noncomputable def mFareRuleChange (s1 : FareRule) (x2 : Int) : Option (Int) :=
  if s1.Do = 1 then (
  (chk (x2 * s1.N)).bind fun _ =>
  (ne0 100).bind fun _ =>
  (chk (Int.tdiv (x2 * s1.N) 100)).bind fun _ =>
  some (min 100000 (Int.tdiv (x2 * s1.N) 100)))
  else (
  if s1.Do = 2 then (
  (chk (x2 - s1.N)).bind fun _ =>
  some (max 0 (x2 - s1.N)))
  else (
  if s1.Do = 3 then (
  (chk (x2 + s1.N)).bind fun _ =>
  some (min 100000 (x2 + s1.N)))
  else (
  if s1.Do = 4 then (
  some s1.N)
  else (
  if s1.Do = 5 then (
  some (min x2 s1.N))
  else (
  some (max x2 s1.N))))))

noncomputable def mFareTariffPrice_L393 (s1 : FareTariff) (s8 : FareTrip) (k458 : Nat) : (Int × (List Int)) → Option ((Int × (List Int)) ⊕ (Int × (List Int))) := unc2 fun x456 l457 =>
  (idx s1.Rules (k458 : Int)).bind fun x462 =>
  (lim (fun N => mFareCondHolds N x462.If s8)).bind fun x473 =>
  if x473 = true then (
  (room 8 (l457.length + 1)).bind fun _ =>
  (mFareRuleChange x462 x456).bind fun x482 =>
  if x462.Stop = true then (
  some (.inr (x482, l457 ++ [(k458 : Int)])))
  else (
  some (.inl (x482, l457 ++ [(k458 : Int)]))))
  else (
  some (.inl (x456, l457)))

/-- (fishplate/fare.Tariff).price -/
noncomputable def mFareTariffPrice (s1 : FareTariff) (s8 : FareTrip) : Option (Int × (List Int)) :=
  (if s1.ByKm = true then (
  some s8.Km)
  else (
  some (s8.Zones.length : Int))).bind (fun x264 =>
  (mSlicesIndexFunc s1.Bands x264).bind fun x267 =>
  (if x267 < 0 then (
  (chk ((s1.Bands.length : Int) - 1)).bind fun _ =>
  some ((s1.Bands.length : Int) - 1))
  else (
  some x267)).bind (fun x275 =>
  (idx s1.Bands x275).bind fun x279 =>
  ((forM (mFareTariffPrice_L393 s1 s8) s1.Rules.length 0 ((x279.Price, []) : Int × (List Int))).bind fun t => Sum.elim (unc2 fun x456 l457 =>
  some (x456, l457)) (fun q => some q) t).bind (unc2 fun x390 l391 =>
  (chk (x390 + s1.Round)).bind fun _ =>
  (chk ((x390 + s1.Round) - 1)).bind fun _ =>
  (ne0 s1.Round).bind fun _ =>
  (chk (Int.tdiv ((x390 + s1.Round) - 1) s1.Round)).bind fun _ =>
  (chk ((Int.tdiv ((x390 + s1.Round) - 1) s1.Round) * s1.Round)).bind fun _ =>
  some ((Int.tdiv ((x390 + s1.Round) - 1) s1.Round) * s1.Round, l391))))

/-- fishplate/fare.Price -/
noncomputable def mFarePrice (s1 : FareTariff) (s8 : FareTrip) : Option (Int × Int × (List Int)) :=
  (mFareCheckTariff s1).bind fun x39 =>
  if x39 ≠ 0 then (
  some (0, x39, []))
  else (
  (mFareCheckTrip s8).bind fun x42 =>
  if x42 ≠ 0 then (
  some (0, x42, []))
  else (
  (mFareTariffPrice s1 s8).bind (unc2 fun x45 l46 =>
  some (x45, 0, l46))))

/-- fishplate/fishkeep2.fares -/
noncomputable def mFishkeep2Fares : Option (Bool) :=
  (mFarePrice (⟨false, [(⟨3, 500⟩ : FareBand)], 1, [(⟨(⟨1, 0, 0, ()⟩ : FareCond), 2, 7, false⟩ : FareRule)]⟩ : FareTariff) (⟨0, 0, 0, 0, true, [1]⟩ : FareTrip)).bind (unc3 fun x38 x39 _ =>
  (if x39 = 0 then (
  some (decide (x38 = 493)))
  else (
  some false)).bind (fun x51 =>
  some x51))

/-- (*fishplate/fare.Car).Cancel -/
noncomputable def mFareCarCancel (x12 : Int) (_x13 : Int) (_x14 : Int) (_x15 : Int) (l16 : (List FareBooking)) (l18 : (List Bool)) : Option (Int × (List Bool)) :=
  ((chk ((l16.length : Int) - 1)).bind fun _ =>
  (mFareWithin x12 0 ((l16.length : Int) - 1)).bind fun x115 =>
  if x115 = true then (
  (idx l18 x12).bind fun x118 =>
  some x118)
  else (
  some true)).bind (fun x112 =>
  if x112 = true then (
  some (9, l18))
  else (
  (idx l18 x12).bind fun _ =>
  some (0, put l18 x12 true)))

/-- fishplate/fare.span -/
noncomputable def mFareSpan (x1 : Int) (x2 : Int) (x3 : Int) : Option (Bool) :=
  (if 0 ≤ x1 then (
  if x1 < x2 then (
  some (decide (x2 < x3)))
  else (
  some false))
  else (
  some false)).bind (fun x17 =>
  some x17)

noncomputable def mFareCarOf_L253 (l16 : (List FareBooking)) (l18 : (List Bool)) (x12 : Int) (k408 : Nat) : ((List FareBooking)) → Option ((List FareBooking)) := fun l407 =>
  (idx l16 (k408 : Int)).bind fun x411 =>
  ((idx l18 (k408 : Int)).bind fun x454 =>
  if x454 = true then (
  some false)
  else (
  (mSlicesContains x411.Seats x12).bind fun x471 =>
  some x471)).bind (fun x452 =>
  if x452 = true then (
  (room 48 (l407.length + 1)).bind fun _ =>
  some (l407 ++ [x411]))
  else (
  some l407))

/-- (*fishplate/fare.Car).of -/
noncomputable def mFareCarOf (x12 : Int) (_x13 : Int) (_x14 : Int) (_x15 : Int) (l16 : (List FareBooking)) (l18 : (List Bool)) : Option ((List FareBooking)) :=
  (forS (mFareCarOf_L253 l16 l18 x12) l16.length 0 ([] : (List FareBooking))).bind (fun l407 =>
  some l407)

/-- (*fishplate/fare.Car).free-1 -/
noncomputable def mFareCarFree_1 (s3 : FareBooking) (x7 : Int) (x8 : Int) : Option (Bool) :=
  (if s3.From < x7 then (
  some (decide (x8 < s3.To)))
  else (
  some false)).bind (fun x21 =>
  some x21)

noncomputable def mSlicesIndexFunc_4_L70 (x8 : Int) (x9 : Int) (l10 : (List FareBooking)) (k98 : Nat) : (Unit) → Option ((Unit) ⊕ (Int)) := fun _ =>
  (idx l10 (k98 : Int)).bind fun x102 =>
  (mFareCarFree_1 x102 x8 x9).bind fun x121 =>
  if x121 = true then (
  some (.inr (k98 : Int)))
  else (
  some (.inl ()))

/-- slices.IndexFunc[[]fishplate/fare.Booking,fishplate/fare.Booking] -/
noncomputable def mSlicesIndexFunc_4 (x8 : Int) (x9 : Int) (l10 : (List FareBooking)) : Option (Int) :=
  (forM (mSlicesIndexFunc_4_L70 x8 x9 l10) l10.length 0 ()).bind fun t => Sum.elim (fun _ =>
  some (-1)) (fun q => some q) t

/-- slices.ContainsFunc[[]fishplate/fare.Booking,fishplate/fare.Booking] -/
noncomputable def mSlicesContainsFunc_3 (x8 : Int) (x9 : Int) (l10 : (List FareBooking)) : Option (Bool) :=
  (mSlicesIndexFunc_4 x8 x9 l10).bind fun x16 =>
  some (decide (0 ≤ x16))

noncomputable def mFareCarFree_2_L112 (l17 : (List FareBooking)) (l19 : (List Bool)) (x12 : Int) (x13 : Int) (x14 : Int) (x15 : Int) (x16 : Int) (k167 : Nat) : ((List Int)) → Option ((List Int)) := fun l166 =>
  (mFareCarOf (k167 : Int) x14 x15 x16 l17 l19).bind fun l170 =>
  (mSlicesContainsFunc_3 x13 x12 l170).bind fun x178 =>
  if x178 = true then (
  some l166)
  else (
  (room 8 (l166.length + 1)).bind fun _ =>
  some (l166 ++ [(k167 : Int)]))

/-- (*fishplate/fare.Car).free -/
noncomputable def mFareCarFree_2 (x12 : Int) (x13 : Int) (x14 : Int) (x15 : Int) (x16 : Int) (l17 : (List FareBooking)) (l19 : (List Bool)) : Option ((List Int)) :=
  (chk (x14 * x15)).bind fun _ =>
  (chk (x14 * x15)).bind fun _ =>
  (forS (mFareCarFree_2_L112 l17 l19 x12 x13 x14 x15 x16) ((x14 * x15).toNat) 0 ([] : (List Int))).bind (fun l166 =>
  some l166)

/-- (*fishplate/fare.Car).Free -/
noncomputable def mFareCarFree (x12 : Int) (x13 : Int) (x14 : Int) (x15 : Int) (x16 : Int) (l17 : (List FareBooking)) (l19 : (List Bool)) : Option (Int × (List Int)) :=
  (mFareSpan x12 x13 x16).bind fun x39 =>
  if x39 = true then (
  (mFareCarFree_2 x12 x13 x14 x15 x16 l17 l19).bind fun l42 =>
  some (0, l42))
  else (
  some (2, []))

/-- slices.Clone[[]int,int] -/
noncomputable def mSlicesClone (l4 : (List Int)) : Option ((List Int)) :=
  (room 8 l4.length).bind fun _ => some l4

noncomputable def mFareCarGap_L136 (x13 : Int) (x14 : Int) (l128 : (List FareBooking)) (k198 : Nat) : (Int × Int) → Option (Int × Int) := unc2 fun x196 x197 =>
  (idx l128 (k198 : Int)).bind fun x201 =>
  (if x201.To ≤ x13 then (
  some (max x196 x201.To))
  else (
  some x196)).bind (fun x224 =>
  if x14 ≤ x201.From then (
  some (x224, min x197 x201.From))
  else (
  some (x224, x197)))

/-- (*fishplate/fare.Car).gap -/
noncomputable def mFareCarGap (x12 : Int) (x13 : Int) (x14 : Int) (x15 : Int) (x16 : Int) (x17 : Int) (l18 : (List FareBooking)) (l20 : (List Bool)) : Option (Int) :=
  (chk (x17 - 1)).bind fun _ =>
  (mFareCarOf x12 x15 x16 x17 l18 l20).bind fun l128 =>
  (forS (mFareCarGap_L136 x13 x14 l128) l128.length 0 (0, x17 - 1)).bind (unc2 fun x196 x197 =>
  (chk (x197 - x196)).bind fun _ =>
  some (x197 - x196))

/-- cmp.isNaN[int] -/
noncomputable def mCmpIsNaN (x1 : Int) : Option (Bool) :=
  some (decide (x1 ≠ x1))

/-- cmp.Compare[int] -/
noncomputable def mCmpCompare (x1 : Int) (x2 : Int) : Option (Int) :=
  (mCmpIsNaN x1).bind fun x13 =>
  (mCmpIsNaN x2).bind fun x15 =>
  if x13 = true then (
  if x15 = true then (
  some 0)
  else (
  some (-1)))
  else (
  if x15 = true then (
  some 1)
  else (
  if x1 < x2 then (
  some (-1))
  else (
  if x2 < x1 then (
  some 1)
  else (
  some 0))))

/-- (*fishplate/fare.Car).choose-1 -/
noncomputable def mFareCarChoose_1 (x15 : Int) (x16 : Int) (x17 : Int) (x18 : Int) (x19 : Int) (x20 : Int) (x21 : Int) (l22 : (List FareBooking)) (l24 : (List Bool)) : Option (Int) :=
  ((mFareCarGap x15 x17 x18 x19 x20 x21 l22 l24).bind fun x105 =>
  (mFareCarGap x16 x17 x18 x19 x20 x21 l22 l24).bind fun x109 =>
  (mCmpCompare x105 x109).bind fun x113 =>
  some x113).bind (fun x93 =>
  some x93)

noncomputable def mSlicesInsertionSortCmpFunc_L10127 (l28 : (List FareBooking)) (l30 : (List Bool)) (x20 : Int) (x22 : Int) (x23 : Int) (x24 : Int) (x25 : Int) (x26 : Int) : (Int × (List Int)) → Option ((Int × (List Int)) ⊕ ((List Int))) := unc2 fun x10735 l10736 =>
  (if x20 < x10735 then (
  (idx l10736 x10735).bind fun x10857 =>
  (chk (x10735 - 1)).bind fun _ =>
  (idx l10736 (x10735 - 1)).bind fun x10874 =>
  (mFareCarChoose_1 x10857 x10874 x22 x23 x24 x25 x26 l28 l30).bind fun x10890 =>
  some (decide (x10890 < 0)))
  else (
  some false)).bind (fun x10816 =>
  if x10816 = true then (
  (chk (x10735 - 1)).bind fun _ =>
  (chk (x10735 - 1)).bind fun _ =>
  (idx l10736 (x10735 - 1)).bind fun x10967 =>
  (idx l10736 x10735).bind fun x10983 =>
  (idx l10736 x10735).bind fun _ =>
  (idx (put l10736 x10735 x10967) (x10735 - 1)).bind fun _ =>
  (chk (x10735 - 1)).bind fun _ =>
  some (.inl (x10735 - 1, put (put l10736 x10735 x10967) (x10735 - 1) x10983)))
  else (
  some (.inr l10736)))

noncomputable def mSlicesInsertionSortCmpFunc_L5538 (l28 : (List FareBooking)) (l30 : (List Bool)) (x20 : Int) (x21 : Int) (x22 : Int) (x23 : Int) (x24 : Int) (x25 : Int) (x26 : Int) : (Int × (List Int)) → Option ((Int × (List Int)) ⊕ ((List Int))) := unc2 fun x9206 l9207 =>
  if x9206 < x21 then (
  (loopM (mSlicesInsertionSortCmpFunc_L10127 l28 l30 x20 x22 x23 x24 x25 x26) (x9206, l9207)).bind (fun l10124 =>
  (chk (x9206 + 1)).bind fun _ =>
  some (.inl (x9206 + 1, l10124))))
  else (
  some (.inr l9207))

/-- slices.insertionSortCmpFunc[int] -/
noncomputable def mSlicesInsertionSortCmpFunc (x20 : Int) (x21 : Int) (x22 : Int) (x23 : Int) (x24 : Int) (x25 : Int) (x26 : Int) (l27 : (List Int)) (l28 : (List FareBooking)) (l30 : (List Bool)) : Option ((List Int)) :=
  (chk (x20 + 1)).bind fun _ =>
  loopM (mSlicesInsertionSortCmpFunc_L5538 l28 l30 x20 x21 x22 x23 x24 x25 x26) (x20 + 1, l27)

noncomputable def mSlicesSwapRangeCmpFunc_L491 (x20 : Int) (x21 : Int) (x22 : Int) : (Int × (List Int)) → Option ((Int × (List Int)) ⊕ ((List Int))) := unc2 fun x795 l796 =>
  if x795 < x22 then (
  (chk (x20 + x795)).bind fun _ =>
  (chk (x21 + x795)).bind fun _ =>
  (chk (x21 + x795)).bind fun _ =>
  (idx l796 (x21 + x795)).bind fun x874 =>
  (chk (x20 + x795)).bind fun _ =>
  (idx l796 (x20 + x795)).bind fun x891 =>
  (idx l796 (x20 + x795)).bind fun _ =>
  (idx (put l796 (x20 + x795) x874) (x21 + x795)).bind fun _ =>
  (chk (x795 + 1)).bind fun _ =>
  some (.inl (x795 + 1, put (put l796 (x20 + x795) x874) (x21 + x795) x891)))
  else (
  some (.inr l796))

/-- slices.swapRangeCmpFunc[int] -/
noncomputable def mSlicesSwapRangeCmpFunc (x20 : Int) (x21 : Int) (x22 : Int) (_x23 : Int) (_x24 : Int) (_x25 : Int) (_x26 : Int) (_x27 : Int) (l28 : (List Int)) (_l29 : (List FareBooking)) (_l31 : (List Bool)) : Option ((List Int)) :=
  loopM (mSlicesSwapRangeCmpFunc_L491 x20 x21 x22) (0, l28)

noncomputable def mSlicesRotateCmpFunc_L317 (l29 : (List FareBooking)) (l31 : (List Bool)) (x21 : Int) (x23 : Int) (x24 : Int) (x25 : Int) (x26 : Int) (x27 : Int) : (Int × Int × (List Int)) → Option ((Int × Int × (List Int)) ⊕ (Int × (List Int))) := unc3 fun x374 x375 l376 =>
  if x374 ≠ x375 then (
  if x375 < x374 then (
  (chk (x21 - x374)).bind fun _ =>
  (mSlicesSwapRangeCmpFunc (x21 - x374) x21 x375 x23 x24 x25 x26 x27 l376 l29 l31).bind fun l381 =>
  (chk (x374 - x375)).bind fun _ =>
  some (.inl (x374 - x375, x375, l381)))
  else (
  (chk (x21 - x374)).bind fun _ =>
  (chk (x21 + x375)).bind fun _ =>
  (chk ((x21 + x375) - x374)).bind fun _ =>
  (mSlicesSwapRangeCmpFunc (x21 - x374) ((x21 + x375) - x374) x374 x23 x24 x25 x26 x27 l376 l29 l31).bind fun l392 =>
  (chk (x375 - x374)).bind fun _ =>
  some (.inl (x374, x375 - x374, l392))))
  else (
  some (.inr (x374, l376)))

/-- slices.rotateCmpFunc[int] -/
noncomputable def mSlicesRotateCmpFunc (x20 : Int) (x21 : Int) (x22 : Int) (x23 : Int) (x24 : Int) (x25 : Int) (x26 : Int) (x27 : Int) (l28 : (List Int)) (l29 : (List FareBooking)) (l31 : (List Bool)) : Option ((List Int)) :=
  (chk (x21 - x20)).bind fun _ =>
  (chk (x22 - x21)).bind fun _ =>
  (loopM (mSlicesRotateCmpFunc_L317 l29 l31 x21 x23 x24 x25 x26 x27) (x21 - x20, x22 - x21, l28)).bind (unc2 fun x313 l314 =>
  (chk (x21 - x313)).bind fun _ =>
  (mSlicesSwapRangeCmpFunc (x21 - x313) x21 x313 x23 x24 x25 x26 x27 l314 l29 l31).bind fun l401 =>
  some l401)

noncomputable def mSlicesSymMergeCmpFunc_L6945 (l28 : (List Int)) (l29 : (List FareBooking)) (l31 : (List Bool)) (x20 : Int) (x23 : Int) (x24 : Int) (x25 : Int) (x26 : Int) (x27 : Int) : (Int × Int) → Option ((Int × Int) ⊕ (Int)) := unc2 fun x7104 x7105 =>
  if x7104 < x7105 then (
  (chk (x7104 + x7105)).bind fun _ =>
  (shN 1).bind fun _ =>
  (idx l28 (IntKind.wrap .i64 (shrI .u64 (IntKind.wrap .u64 (x7104 + x7105)) 1))).bind fun x7145 =>
  (idx l28 x20).bind fun x7161 =>
  (mFareCarChoose_1 x7145 x7161 x23 x24 x25 x26 x27 l29 l31).bind fun x7177 =>
  if x7177 < 0 then (
  (chk ((IntKind.wrap .i64 (shrI .u64 (IntKind.wrap .u64 (x7104 + x7105)) 1)) + 1)).bind fun _ =>
  some (.inl ((IntKind.wrap .i64 (shrI .u64 (IntKind.wrap .u64 (x7104 + x7105)) 1)) + 1, x7105)))
  else (
  some (.inl (x7104, IntKind.wrap .i64 (shrI .u64 (IntKind.wrap .u64 (x7104 + x7105)) 1)))))
  else (
  some (.inr x7104))

noncomputable def mSlicesSymMergeCmpFunc_L7635 (x6943 : Int) : (Int × (List Int)) → Option ((Int × (List Int)) ⊕ ((List Int))) := unc2 fun x7933 l7934 =>
  (chk (x6943 - 1)).bind fun _ =>
  if x7933 < (x6943 - 1) then (
  (chk (x7933 + 1)).bind fun _ =>
  (chk (x7933 + 1)).bind fun _ =>
  (idx l7934 (x7933 + 1)).bind fun x8010 =>
  (idx l7934 x7933).bind fun x8026 =>
  (idx l7934 x7933).bind fun _ =>
  (idx (put l7934 x7933 x8010) (x7933 + 1)).bind fun _ =>
  (chk (x7933 + 1)).bind fun _ =>
  some (.inl (x7933 + 1, put (put l7934 x7933 x8010) (x7933 + 1) x8026)))
  else (
  some (.inr l7934))

noncomputable def mSlicesSymMergeCmpFunc_L8323 (l28 : (List Int)) (l29 : (List FareBooking)) (l31 : (List Bool)) (x21 : Int) (x23 : Int) (x24 : Int) (x25 : Int) (x26 : Int) (x27 : Int) : (Int × Int) → Option ((Int × Int) ⊕ (Int)) := unc2 fun x8482 x8483 =>
  if x8482 < x8483 then (
  (chk (x8482 + x8483)).bind fun _ =>
  (shN 1).bind fun _ =>
  (idx l28 x21).bind fun x8523 =>
  (idx l28 (IntKind.wrap .i64 (shrI .u64 (IntKind.wrap .u64 (x8482 + x8483)) 1))).bind fun x8539 =>
  (mFareCarChoose_1 x8523 x8539 x23 x24 x25 x26 x27 l29 l31).bind fun x8555 =>
  if x8555 < 0 then (
  some (.inl (x8482, IntKind.wrap .i64 (shrI .u64 (IntKind.wrap .u64 (x8482 + x8483)) 1))))
  else (
  (chk ((IntKind.wrap .i64 (shrI .u64 (IntKind.wrap .u64 (x8482 + x8483)) 1)) + 1)).bind fun _ =>
  some (.inl ((IntKind.wrap .i64 (shrI .u64 (IntKind.wrap .u64 (x8482 + x8483)) 1)) + 1, x8483))))
  else (
  some (.inr x8482))

noncomputable def mSlicesSymMergeCmpFunc_L9010 (x8321 : Int) : (Int × (List Int)) → Option ((Int × (List Int)) ⊕ ((List Int))) := unc2 fun x9306 l9307 =>
  if x8321 < x9306 then (
  (chk (x9306 - 1)).bind fun _ =>
  (chk (x9306 - 1)).bind fun _ =>
  (idx l9307 (x9306 - 1)).bind fun x9382 =>
  (idx l9307 x9306).bind fun x9398 =>
  (idx l9307 x9306).bind fun _ =>
  (idx (put l9307 x9306 x9382) (x9306 - 1)).bind fun _ =>
  (chk (x9306 - 1)).bind fun _ =>
  some (.inl (x9306 - 1, put (put l9307 x9306 x9382) (x9306 - 1) x9398)))
  else (
  some (.inr l9307))

noncomputable def mSlicesSymMergeCmpFunc_L9712 (l28 : (List Int)) (l29 : (List FareBooking)) (l31 : (List Bool)) (x20 : Int) (x21 : Int) (x22 : Int) (x23 : Int) (x24 : Int) (x25 : Int) (x26 : Int) (x27 : Int) : (Int × Int) → Option ((Int × Int) ⊕ (Int)) := unc2 fun x9875 x9876 =>
  if x9875 < x9876 then (
  (chk (x9875 + x9876)).bind fun _ =>
  (shN 1).bind fun _ =>
  (chk ((((IntKind.wrap .i64 (shrI .u64 (IntKind.wrap .u64 (x20 + x22)) 1)) + x21) - 1) - (IntKind.wrap .i64 (shrI .u64 (IntKind.wrap .u64 (x9875 + x9876)) 1)))).bind fun _ =>
  (idx l28 ((((IntKind.wrap .i64 (shrI .u64 (IntKind.wrap .u64 (x20 + x22)) 1)) + x21) - 1) - (IntKind.wrap .i64 (shrI .u64 (IntKind.wrap .u64 (x9875 + x9876)) 1)))).bind fun x9918 =>
  (idx l28 (IntKind.wrap .i64 (shrI .u64 (IntKind.wrap .u64 (x9875 + x9876)) 1))).bind fun x9934 =>
  (mFareCarChoose_1 x9918 x9934 x23 x24 x25 x26 x27 l29 l31).bind fun x9950 =>
  if x9950 < 0 then (
  some (.inl (x9875, IntKind.wrap .i64 (shrI .u64 (IntKind.wrap .u64 (x9875 + x9876)) 1))))
  else (
  (chk ((IntKind.wrap .i64 (shrI .u64 (IntKind.wrap .u64 (x9875 + x9876)) 1)) + 1)).bind fun _ =>
  some (.inl ((IntKind.wrap .i64 (shrI .u64 (IntKind.wrap .u64 (x9875 + x9876)) 1)) + 1, x9876))))
  else (
  some (.inr x9875))

/-- slices.symMergeCmpFunc[int] -/
noncomputable def mSlicesSymMergeCmpFunc : Nat → (Int) → (Int) → (Int) → (Int) → (Int) → (Int) → (Int) → (Int) → ((List Int)) → ((List FareBooking)) → ((List Bool)) → Option ((List Int))
  | 0 => fun _ _ _ _ _ _ _ _ _ _ _ => none
  | N + 1 => fun x20 x21 x22 x23 x24 x25 x26 x27 l28 l29 l31 =>
  (chk (x21 - x20)).bind fun _ =>
  if (x21 - x20) = 1 then (
  (loopM (mSlicesSymMergeCmpFunc_L6945 l28 l29 l31 x20 x23 x24 x25 x26 x27) (x21, x22)).bind (fun x6943 =>
  (loopM (mSlicesSymMergeCmpFunc_L7635 x6943) (x20, l28)).bind (fun l7632 =>
  some l7632)))
  else (
  (chk (x22 - x21)).bind fun _ =>
  if (x22 - x21) = 1 then (
  (loopM (mSlicesSymMergeCmpFunc_L8323 l28 l29 l31 x21 x23 x24 x25 x26 x27) (x20, x21)).bind (fun x8321 =>
  (loopM (mSlicesSymMergeCmpFunc_L9010 x8321) (x21, l28)).bind (fun l9007 =>
  some l9007)))
  else (
  (chk (x20 + x22)).bind fun _ =>
  (shN 1).bind fun _ =>
  (chk ((IntKind.wrap .i64 (shrI .u64 (IntKind.wrap .u64 (x20 + x22)) 1)) + x21)).bind fun _ =>
  (if (IntKind.wrap .i64 (shrI .u64 (IntKind.wrap .u64 (x20 + x22)) 1)) < x21 then (
  (chk (((IntKind.wrap .i64 (shrI .u64 (IntKind.wrap .u64 (x20 + x22)) 1)) + x21) - x22)).bind fun _ =>
  some (((IntKind.wrap .i64 (shrI .u64 (IntKind.wrap .u64 (x20 + x22)) 1)) + x21) - x22, IntKind.wrap .i64 (shrI .u64 (IntKind.wrap .u64 (x20 + x22)) 1)))
  else (
  some (x20, x21))).bind (unc2 fun x9458 x9459 =>
  (chk (((IntKind.wrap .i64 (shrI .u64 (IntKind.wrap .u64 (x20 + x22)) 1)) + x21) - 1)).bind fun _ =>
  (loopM (mSlicesSymMergeCmpFunc_L9712 l28 l29 l31 x20 x21 x22 x23 x24 x25 x26 x27) (x9458, x9459)).bind (fun x9710 =>
  (chk (((IntKind.wrap .i64 (shrI .u64 (IntKind.wrap .u64 (x20 + x22)) 1)) + x21) - x9710)).bind fun _ =>
  ((if x9710 < x21 then (
  some (decide (x21 < (((IntKind.wrap .i64 (shrI .u64 (IntKind.wrap .u64 (x20 + x22)) 1)) + x21) - x9710))))
  else (
  some false)).bind (fun x9982 =>
  if x9982 = true then (
  (mSlicesRotateCmpFunc x9710 x21 (((IntKind.wrap .i64 (shrI .u64 (IntKind.wrap .u64 (x20 + x22)) 1)) + x21) - x9710) x23 x24 x25 x26 x27 l28 l29 l31).bind fun l9986 =>
  some l9986)
  else (
  some l28))).bind (fun l9976 =>
  ((if x20 < x9710 then (
  some (decide (x9710 < (IntKind.wrap .i64 (shrI .u64 (IntKind.wrap .u64 (x20 + x22)) 1)))))
  else (
  some false)).bind (fun x10018 =>
  if x10018 = true then (
  ((mSlicesSymMergeCmpFunc N) x20 x9710 (IntKind.wrap .i64 (shrI .u64 (IntKind.wrap .u64 (x20 + x22)) 1)) x23 x24 x25 x26 x27 l9976 l29 l31).bind fun l10022 =>
  some l10022)
  else (
  some l9976))).bind (fun l10012 =>
  (if (IntKind.wrap .i64 (shrI .u64 (IntKind.wrap .u64 (x20 + x22)) 1)) < (((IntKind.wrap .i64 (shrI .u64 (IntKind.wrap .u64 (x20 + x22)) 1)) + x21) - x9710) then (
  some (decide ((((IntKind.wrap .i64 (shrI .u64 (IntKind.wrap .u64 (x20 + x22)) 1)) + x21) - x9710) < x22)))
  else (
  some false)).bind (fun x10032 =>
  if x10032 = true then (
  ((mSlicesSymMergeCmpFunc N) (IntKind.wrap .i64 (shrI .u64 (IntKind.wrap .u64 (x20 + x22)) 1)) (((IntKind.wrap .i64 (shrI .u64 (IntKind.wrap .u64 (x20 + x22)) 1)) + x21) - x9710) x22 x23 x24 x25 x26 x27 l10012 l29 l31).bind fun l10036 =>
  some l10036)
  else (
  some l10012))))))))

noncomputable def mSlicesStableCmpFunc_L622 (l27 : (List FareBooking)) (l29 : (List Bool)) (x20 : Int) (x21 : Int) (x22 : Int) (x23 : Int) (x24 : Int) (x25 : Int) : (Int × Int × (List Int)) → Option ((Int × Int × (List Int)) ⊕ (Int × (List Int))) := unc3 fun x653 x654 l655 =>
  if x654 ≤ x20 then (
  (mSlicesInsertionSortCmpFunc x653 x654 x21 x22 x23 x24 x25 l655 l27 l29).bind fun l658 =>
  (chk (x654 + 20)).bind fun _ =>
  some (.inl (x654, x654 + 20, l658)))
  else (
  some (.inr (x653, l655)))

noncomputable def mSlicesStableCmpFunc_L1025 (l27 : (List FareBooking)) (l29 : (List Bool)) (x20 : Int) (x21 : Int) (x22 : Int) (x23 : Int) (x24 : Int) (x25 : Int) (x961 : Int) : (Int × Int × (List Int)) → Option ((Int × Int × (List Int)) ⊕ (Int × (List Int))) := unc3 fun x1060 x1061 l1062 =>
  if x1061 ≤ x20 then (
  (chk (x1060 + x961)).bind fun _ =>
  (lim (fun N => mSlicesSymMergeCmpFunc N x1060 (x1060 + x961) x1061 x21 x22 x23 x24 x25 l1062 l27 l29)).bind fun l1066 =>
  (chk (2 * x961)).bind fun _ =>
  (chk (x1061 + (2 * x961))).bind fun _ =>
  some (.inl (x1061, x1061 + (2 * x961), l1066)))
  else (
  some (.inr (x1060, l1062)))

noncomputable def mSlicesStableCmpFunc_L673 (l27 : (List FareBooking)) (l29 : (List Bool)) (x20 : Int) (x21 : Int) (x22 : Int) (x23 : Int) (x24 : Int) (x25 : Int) : (Int × (List Int)) → Option ((Int × (List Int)) ⊕ ((List Int))) := unc2 fun x961 l962 =>
  if x961 < x20 then (
  (chk (2 * x961)).bind fun _ =>
  (loopM (mSlicesStableCmpFunc_L1025 l27 l29 x20 x21 x22 x23 x24 x25 x961) (0, 2 * x961, l962)).bind (unc2 fun x1021 l1022 =>
  ((chk (x1021 + x961)).bind fun _ =>
  if (x1021 + x961) < x20 then (
  (lim (fun N => mSlicesSymMergeCmpFunc N x1021 (x1021 + x961) x20 x21 x22 x23 x24 x25 l1022 l27 l29)).bind fun l1094 =>
  some l1094)
  else (
  some l1022)).bind (fun l1089 =>
  (chk (x961 * 2)).bind fun _ =>
  some (.inl (x961 * 2, l1089)))))
  else (
  some (.inr l962))

/-- slices.stableCmpFunc[int] -/
noncomputable def mSlicesStableCmpFunc (x20 : Int) (x21 : Int) (x22 : Int) (x23 : Int) (x24 : Int) (x25 : Int) (l26 : (List Int)) (l27 : (List FareBooking)) (l29 : (List Bool)) : Option ((List Int)) :=
  (loopM (mSlicesStableCmpFunc_L622 l27 l29 x20 x21 x22 x23 x24 x25) (0, 20, l26)).bind (unc2 fun x618 l619 =>
  (mSlicesInsertionSortCmpFunc x618 x20 x21 x22 x23 x24 x25 l619 l27 l29).bind fun l666 =>
  loopM (mSlicesStableCmpFunc_L673 l27 l29 x20 x21 x22 x23 x24 x25) (20, l666))

/-- slices.SortStableFunc[[]int,int] -/
noncomputable def mSlicesSortStableFunc (x20 : Int) (x21 : Int) (x22 : Int) (x23 : Int) (x24 : Int) (l25 : (List Int)) (l26 : (List FareBooking)) (l28 : (List Bool)) : Option ((List Int)) :=
  (mSlicesStableCmpFunc (l25.length : Int) x20 x21 x22 x23 x24 l25 l26 l28).bind fun l42 =>
  some l42

/-- math/bits.Len64 -/
noncomputable def mBitsLen64 (x1 : Int) : Option (Int) :=
  (if 4294967296 ≤ x1 then (
  (shN 32).bind fun _ =>
  some (shrI .u64 x1 32, 32))
  else (
  some (x1, 0))).bind (unc2 fun x41 x42 =>
  (if 65536 ≤ x41 then (
  (shN 16).bind fun _ =>
  (chk (x42 + 16)).bind fun _ =>
  some (shrI .u64 x41 16, x42 + 16))
  else (
  some (x41, x42))).bind (unc2 fun x51 x52 =>
  (if 256 ≤ x51 then (
  (shN 8).bind fun _ =>
  (chk (x52 + 8)).bind fun _ =>
  some (shrI .u64 x51 8, x52 + 8))
  else (
  some (x51, x52))).bind (unc2 fun x62 x63 =>
  (sIdx (ByteArray.mk (List.toArray (List.append (List.append ([0, 1, 2, 2, 3, 3, 3, 3, 4, 4, 4, 4, 4, 4, 4, 4, 5, 5, 5, 5, 5, 5, 5, 5, 5, 5, 5, 5, 5, 5, 5, 5, 6, 6, 6, 6, 6, 6, 6, 6, 6, 6, 6, 6, 6, 6, 6, 6, 6, 6, 6, 6, 6, 6, 6, 6, 6, 6, 6, 6, 6, 6, 6, 6] : List UInt8) ([7, 7, 7, 7, 7, 7, 7, 7, 7, 7, 7, 7, 7, 7, 7, 7, 7, 7, 7, 7, 7, 7, 7, 7, 7, 7, 7, 7, 7, 7, 7, 7, 7, 7, 7, 7, 7, 7, 7, 7, 7, 7, 7, 7, 7, 7, 7, 7, 7, 7, 7, 7, 7, 7, 7, 7, 7, 7, 7, 7, 7, 7, 7, 7] : List UInt8)) (List.append ([8, 8, 8, 8, 8, 8, 8, 8, 8, 8, 8, 8, 8, 8, 8, 8, 8, 8, 8, 8, 8, 8, 8, 8, 8, 8, 8, 8, 8, 8, 8, 8, 8, 8, 8, 8, 8, 8, 8, 8, 8, 8, 8, 8, 8, 8, 8, 8, 8, 8, 8, 8, 8, 8, 8, 8, 8, 8, 8, 8, 8, 8, 8, 8] : List UInt8) ([8, 8, 8, 8, 8, 8, 8, 8, 8, 8, 8, 8, 8, 8, 8, 8, 8, 8, 8, 8, 8, 8, 8, 8, 8, 8, 8, 8, 8, 8, 8, 8, 8, 8, 8, 8, 8, 8, 8, 8, 8, 8, 8, 8, 8, 8, 8, 8, 8, 8, 8, 8, 8, 8, 8, 8, 8, 8, 8, 8, 8, 8, 8, 8] : List UInt8))))) (IntKind.wrap .u8 x62)).bind fun x68 =>
  (chk (x63 + (IntKind.wrap .i64 x68))).bind fun _ =>
  some (x63 + (IntKind.wrap .i64 x68)))))

/-- math/bits.Len -/
noncomputable def mBitsLen (x1 : Int) : Option (Int) :=
  (mBitsLen64 x1).bind fun x5 =>
  some x5

/-- cmp.Less[int] -/
noncomputable def mCmpLess (x1 : Int) (x2 : Int) : Option (Bool) :=
  ((mCmpIsNaN x1).bind fun x30 =>
  if x30 = true then (
  (mCmpIsNaN x2).bind fun x33 =>
  if x33 = true then (
  some (decide (x1 < x2)))
  else (
  some true))
  else (
  some (decide (x1 < x2)))).bind (fun x28 =>
  some x28)

noncomputable def mSlicesInsertionSortOrdered_L9840 (x6 : Int) : (Int × (List Int)) → Option ((Int × (List Int)) ⊕ ((List Int))) := unc2 fun x10432 l10433 =>
  (if x6 < x10432 then (
  (idx l10433 x10432).bind fun x10548 =>
  (chk (x10432 - 1)).bind fun _ =>
  (idx l10433 (x10432 - 1)).bind fun x10565 =>
  (mCmpLess x10548 x10565).bind fun x10581 =>
  some x10581)
  else (
  some false)).bind (fun x10509 =>
  if x10509 = true then (
  (chk (x10432 - 1)).bind fun _ =>
  (chk (x10432 - 1)).bind fun _ =>
  (idx l10433 (x10432 - 1)).bind fun x10656 =>
  (idx l10433 x10432).bind fun x10672 =>
  (idx l10433 x10432).bind fun _ =>
  (idx (put l10433 x10432 x10656) (x10432 - 1)).bind fun _ =>
  (chk (x10432 - 1)).bind fun _ =>
  some (.inl (x10432 - 1, put (put l10433 x10432 x10656) (x10432 - 1) x10672)))
  else (
  some (.inr l10433)))

noncomputable def mSlicesInsertionSortOrdered_L5371 (x6 : Int) (x7 : Int) : (Int × (List Int)) → Option ((Int × (List Int)) ⊕ ((List Int))) := unc2 fun x8943 l8944 =>
  if x8943 < x7 then (
  (loopM (mSlicesInsertionSortOrdered_L9840 x6) (x8943, l8944)).bind (fun l9837 =>
  (chk (x8943 + 1)).bind fun _ =>
  some (.inl (x8943 + 1, l9837))))
  else (
  some (.inr l8944))

/-- slices.insertionSortOrdered[int] -/
noncomputable def mSlicesInsertionSortOrdered (x6 : Int) (x7 : Int) (l8 : (List Int)) : Option ((List Int)) :=
  (chk (x6 + 1)).bind fun _ =>
  loopM (mSlicesInsertionSortOrdered_L5371 x6 x7) (x6 + 1, l8)

noncomputable def mSlicesPdqsortOrdered_L36 (l9 : (List Int)) (x6 : Int) (x7 : Int) : (Unit) → Option ((Unit) ⊕ ((List Int))) := fun _ =>
  (chk (x7 - x6)).bind fun _ =>
  if (x7 - x6) ≤ 12 then (
  (mSlicesInsertionSortOrdered x6 x7 l9).bind fun l50 =>
  some (.inr l50))
  else (
  none)

/-- slices.pdqsortOrdered[int] -/
noncomputable def mSlicesPdqsortOrdered (x6 : Int) (x7 : Int) (_x8 : Int) (l9 : (List Int)) : Option ((List Int)) :=
  loopM (mSlicesPdqsortOrdered_L36 l9 x6 x7) ()

/-- slices.Sort[[]int,int] -/
noncomputable def mSlicesSort (l6 : (List Int)) : Option ((List Int)) :=
  (mBitsLen (IntKind.wrap .u64 (l6.length : Int))).bind fun x21 =>
  (mSlicesPdqsortOrdered 0 (l6.length : Int) x21 l6).bind fun l23 =>
  some l23

noncomputable def mFareCarChoose_L978 (x19 : Int) (l873 : (List (List Int))) (k1122 : Nat) : (Int) → Option (Int) := fun x1121 =>
  (idx l873 (k1122 : Int)).bind fun x1125 =>
  (if x19 ≤ (x1125.length : Int) then (
  if x1121 < 0 then (
  some true)
  else (
  (idx l873 x1121).bind fun x1173 =>
  some (decide ((x1125.length : Int) < (x1173.length : Int)))))
  else (
  some false)).bind (fun x1169 =>
  if x1169 = true then (
  some (k1122 : Int))
  else (
  some x1121))

noncomputable def mFareCarChoose_L661 (l23 : (List Int)) (x21 : Int) (k875 : Nat) : ((List (List Int))) → Option ((List (List Int))) := fun l873 =>
  (idx l23 (k875 : Int)).bind fun x878 =>
  (ne0 x21).bind fun _ =>
  (chk (Int.tdiv x878 x21)).bind fun _ =>
  (ne0 x21).bind fun _ =>
  (chk (Int.tdiv x878 x21)).bind fun _ =>
  (idx l873 (Int.tdiv x878 x21)).bind fun x940 =>
  (room 8 (x940.length + 1)).bind fun _ =>
  (idx l873 (Int.tdiv x878 x21)).bind fun _ =>
  some (put l873 (Int.tdiv x878 x21) (x940 ++ [x878]))

/-- (*fishplate/fare.Car).choose -/
noncomputable def mFareCarChoose (x17 : Int) (x18 : Int) (x19 : Int) (x20 : Int) (x21 : Int) (x22 : Int) (l23 : (List Int)) (l24 : (List FareBooking)) (l26 : (List Bool)) : Option ((List Int)) :=
  (mkLen 24 x20).bind fun m655 =>
  (forS (mFareCarChoose_L661 l23 x21) l23.length 0 (List.replicate m655 (([] : List Int) : (List Int)) : (List (List Int)))).bind (fun l873 =>
  (forS (mFareCarChoose_L978 x19 l873) l873.length 0 (-1)).bind (fun x1121 =>
  if 0 ≤ x1121 then (
  (idx l873 x1121).bind fun x1199 =>
  (cutS x1199 0 x19).bind fun l1212 =>
  (mSlicesClone l1212).bind fun l1227 =>
  some l1227)
  else (
  (mSlicesClone l23).bind fun l1235 =>
  (mSlicesSortStableFunc x17 x18 x20 x21 x22 l1235 l24 l26).bind fun l1243 =>
  (cutS l1243 0 x19).bind fun l1250 =>
  (mSlicesSort l1250).bind fun l1263 =>
  some l1263)))

/-- (*fishplate/fare.Car).Book -/
noncomputable def mFareCarBook (x12 : Int) (x13 : Int) (x14 : Int) (x15 : Int) (x16 : Int) (x17 : Int) (l18 : (List FareBooking)) (l20 : (List Bool)) : Option (Int × Int × Int × Int × (List Int) × (List FareBooking) × (List Bool)) :=
  ((mFareSpan x12 x13 x17).bind fun x214 =>
  if x214 = true then (
  (mFareWithin x14 1 8).bind fun x217 =>
  some (!x217))
  else (
  some true)).bind (fun x212 =>
  if x212 = true then (
  some (0, 0, 0, 2, [], l18, l20))
  else (
  (mFareCarFree_2 x12 x13 x15 x16 x17 l18 l20).bind fun l222 =>
  if (l222.length : Int) < x14 then (
  some (0, 0, 0, 14, [], l18, l20))
  else (
  ((mFareCarChoose x12 x13 x14 x15 x16 x17 l222 l18 l20).bind fun l270 =>
  some l270).bind (fun l259 =>
  ((room 48 (l18.length + 1)).bind fun _ =>
  (room 1 (l20.length + 1)).bind fun _ =>
  some (l259, l18 ++ [(⟨(l18.length : Int), x12, x13, l259⟩ : FareBooking)], l20 ++ [false])).bind (unc3 fun l323 l324 l326 =>
  (mSlicesClone l323).bind fun l358 =>
  some ((l18.length : Int), x12, x13, 0, l358, l324, l326))))))

noncomputable def mFareCarBookings_L210 (l15 : (List FareBooking)) (l17 : (List Bool)) (k337 : Nat) : ((List FareBooking)) → Option ((List FareBooking)) := fun l336 =>
  (idx l15 (k337 : Int)).bind fun x340 =>
  (idx l17 (k337 : Int)).bind fun x360 =>
  if x360 = true then (
  some l336)
  else (
  (mSlicesClone x340.Seats).bind fun l377 =>
  (room 48 (l336.length + 1)).bind fun _ =>
  some (l336 ++ [(⟨x340.No, x340.From, x340.To, l377⟩ : FareBooking)]))

/-- (*fishplate/fare.Car).Bookings -/
noncomputable def mFareCarBookings (_x12 : Int) (_x13 : Int) (_x14 : Int) (l15 : (List FareBooking)) (l17 : (List Bool)) : Option ((List FareBooking)) :=
  (forS (mFareCarBookings_L210 l15 l17) l15.length 0 ([] : (List FareBooking))).bind (fun l336 =>
  some l336)

/-- fishplate/fishkeep2.FareOnce-1 -/
noncomputable def mFishkeep2FareOnce_1 (x2 : Int) (_x3 : Int) (_x4 : Int) (_x5 : Int) (l9 : (List Int)) : Option (Bool) :=
  (mSlicesContains l9 x2).bind fun x13 =>
  some x13

noncomputable def mSlicesIndexFunc_5_L54 (l5 : (List Int)) (x6 : Int) (x7 : Int) (x8 : Int) (l12 : (List Int)) (k73 : Nat) : (Unit) → Option ((Unit) ⊕ (Int)) := fun _ =>
  (idx l5 (k73 : Int)).bind fun x77 =>
  (mFishkeep2FareOnce_1 x77 x6 x7 x8 l12).bind fun x87 =>
  if x87 = true then (
  some (.inr (k73 : Int)))
  else (
  some (.inl ()))

/-- slices.IndexFunc[[]int,int] -/
noncomputable def mSlicesIndexFunc_5 (l5 : (List Int)) (x6 : Int) (x7 : Int) (x8 : Int) (l12 : (List Int)) : Option (Int) :=
  (forM (mSlicesIndexFunc_5_L54 l5 x6 x7 x8 l12) l5.length 0 ()).bind fun t => Sum.elim (fun _ =>
  some (-1)) (fun q => some q) t

/-- slices.ContainsFunc[[]int,int] -/
noncomputable def mSlicesContainsFunc_4 (l5 : (List Int)) (x6 : Int) (x7 : Int) (x8 : Int) (l12 : (List Int)) : Option (Bool) :=
  (mSlicesIndexFunc_5 l5 x6 x7 x8 l12).bind fun x18 =>
  some (decide (0 ≤ x18))

/-- fishplate/fare.Pack-1 -/
noncomputable def mFarePack_1 (x2 : Int) (x3 : Int) (l7 : (List FareSpan)) : Option (Int) :=
  (idx l7 x2).bind fun x75 =>
  (idx l7 x3).bind fun x85 =>
  (mCmpCompare x75.From x85.From).bind fun x95 =>
  some x95

noncomputable def mSlicesInsertionSortCmpFunc_2_L10109 (x7 : Int) (l12 : (List FareSpan)) : (Int × (List Int)) → Option ((Int × (List Int)) ⊕ ((List Int))) := unc2 fun x10717 l10718 =>
  (if x7 < x10717 then (
  (idx l10718 x10717).bind fun x10839 =>
  (chk (x10717 - 1)).bind fun _ =>
  (idx l10718 (x10717 - 1)).bind fun x10856 =>
  (mFarePack_1 x10839 x10856 l12).bind fun x10872 =>
  some (decide (x10872 < 0)))
  else (
  some false)).bind (fun x10798 =>
  if x10798 = true then (
  (chk (x10717 - 1)).bind fun _ =>
  (chk (x10717 - 1)).bind fun _ =>
  (idx l10718 (x10717 - 1)).bind fun x10949 =>
  (idx l10718 x10717).bind fun x10965 =>
  (idx l10718 x10717).bind fun _ =>
  (idx (put l10718 x10717 x10949) (x10717 - 1)).bind fun _ =>
  (chk (x10717 - 1)).bind fun _ =>
  some (.inl (x10717 - 1, put (put l10718 x10717 x10949) (x10717 - 1) x10965)))
  else (
  some (.inr l10718)))

noncomputable def mSlicesInsertionSortCmpFunc_2_L5520 (x7 : Int) (x8 : Int) (l12 : (List FareSpan)) : (Int × (List Int)) → Option ((Int × (List Int)) ⊕ ((List Int))) := unc2 fun x9188 l9189 =>
  if x9188 < x8 then (
  (loopM (mSlicesInsertionSortCmpFunc_2_L10109 x7 l12) (x9188, l9189)).bind (fun l10106 =>
  (chk (x9188 + 1)).bind fun _ =>
  some (.inl (x9188 + 1, l10106))))
  else (
  some (.inr l9189))

/-- slices.insertionSortCmpFunc[int] -/
noncomputable def mSlicesInsertionSortCmpFunc_2 (x7 : Int) (x8 : Int) (l12 : (List FareSpan)) (l13 : (List Int)) : Option ((List Int)) :=
  (chk (x7 + 1)).bind fun _ =>
  loopM (mSlicesInsertionSortCmpFunc_2_L5520 x7 x8 l12) (x7 + 1, l13)

noncomputable def mSlicesSwapRangeCmpFunc_2_L473 (x7 : Int) (x8 : Int) (x9 : Int) : (Int × (List Int)) → Option ((Int × (List Int)) ⊕ ((List Int))) := unc2 fun x777 l778 =>
  if x777 < x9 then (
  (chk (x7 + x777)).bind fun _ =>
  (chk (x8 + x777)).bind fun _ =>
  (chk (x8 + x777)).bind fun _ =>
  (idx l778 (x8 + x777)).bind fun x856 =>
  (chk (x7 + x777)).bind fun _ =>
  (idx l778 (x7 + x777)).bind fun x873 =>
  (idx l778 (x7 + x777)).bind fun _ =>
  (idx (put l778 (x7 + x777) x856) (x8 + x777)).bind fun _ =>
  (chk (x777 + 1)).bind fun _ =>
  some (.inl (x777 + 1, put (put l778 (x7 + x777) x856) (x8 + x777) x873)))
  else (
  some (.inr l778))

/-- slices.swapRangeCmpFunc[int] -/
noncomputable def mSlicesSwapRangeCmpFunc_2 (x7 : Int) (x8 : Int) (x9 : Int) (_l13 : (List FareSpan)) (l14 : (List Int)) : Option ((List Int)) :=
  loopM (mSlicesSwapRangeCmpFunc_2_L473 x7 x8 x9) (0, l14)

noncomputable def mSlicesRotateCmpFunc_2_L299 (x8 : Int) (l13 : (List FareSpan)) : (Int × Int × (List Int)) → Option ((Int × Int × (List Int)) ⊕ (Int × (List Int))) := unc3 fun x356 x357 l358 =>
  if x356 ≠ x357 then (
  if x357 < x356 then (
  (chk (x8 - x356)).bind fun _ =>
  (mSlicesSwapRangeCmpFunc_2 (x8 - x356) x8 x357 l13 l358).bind fun l363 =>
  (chk (x356 - x357)).bind fun _ =>
  some (.inl (x356 - x357, x357, l363)))
  else (
  (chk (x8 - x356)).bind fun _ =>
  (chk (x8 + x357)).bind fun _ =>
  (chk ((x8 + x357) - x356)).bind fun _ =>
  (mSlicesSwapRangeCmpFunc_2 (x8 - x356) ((x8 + x357) - x356) x356 l13 l358).bind fun l374 =>
  (chk (x357 - x356)).bind fun _ =>
  some (.inl (x356, x357 - x356, l374))))
  else (
  some (.inr (x356, l358)))

/-- slices.rotateCmpFunc[int] -/
noncomputable def mSlicesRotateCmpFunc_2 (x7 : Int) (x8 : Int) (x9 : Int) (l13 : (List FareSpan)) (l14 : (List Int)) : Option ((List Int)) :=
  (chk (x8 - x7)).bind fun _ =>
  (chk (x9 - x8)).bind fun _ =>
  (loopM (mSlicesRotateCmpFunc_2_L299 x8 l13) (x8 - x7, x9 - x8, l14)).bind (unc2 fun x295 l296 =>
  (chk (x8 - x295)).bind fun _ =>
  (mSlicesSwapRangeCmpFunc_2 (x8 - x295) x8 x295 l13 l296).bind fun l383 =>
  some l383)

noncomputable def mSlicesSymMergeCmpFunc_2_L6927 (x7 : Int) (l13 : (List FareSpan)) (l14 : (List Int)) : (Int × Int) → Option ((Int × Int) ⊕ (Int)) := unc2 fun x7086 x7087 =>
  if x7086 < x7087 then (
  (chk (x7086 + x7087)).bind fun _ =>
  (shN 1).bind fun _ =>
  (idx l14 (IntKind.wrap .i64 (shrI .u64 (IntKind.wrap .u64 (x7086 + x7087)) 1))).bind fun x7127 =>
  (idx l14 x7).bind fun x7143 =>
  (mFarePack_1 x7127 x7143 l13).bind fun x7159 =>
  if x7159 < 0 then (
  (chk ((IntKind.wrap .i64 (shrI .u64 (IntKind.wrap .u64 (x7086 + x7087)) 1)) + 1)).bind fun _ =>
  some (.inl ((IntKind.wrap .i64 (shrI .u64 (IntKind.wrap .u64 (x7086 + x7087)) 1)) + 1, x7087)))
  else (
  some (.inl (x7086, IntKind.wrap .i64 (shrI .u64 (IntKind.wrap .u64 (x7086 + x7087)) 1)))))
  else (
  some (.inr x7086))

noncomputable def mSlicesSymMergeCmpFunc_2_L7617 (x6925 : Int) : (Int × (List Int)) → Option ((Int × (List Int)) ⊕ ((List Int))) := unc2 fun x7915 l7916 =>
  (chk (x6925 - 1)).bind fun _ =>
  if x7915 < (x6925 - 1) then (
  (chk (x7915 + 1)).bind fun _ =>
  (chk (x7915 + 1)).bind fun _ =>
  (idx l7916 (x7915 + 1)).bind fun x7992 =>
  (idx l7916 x7915).bind fun x8008 =>
  (idx l7916 x7915).bind fun _ =>
  (idx (put l7916 x7915 x7992) (x7915 + 1)).bind fun _ =>
  (chk (x7915 + 1)).bind fun _ =>
  some (.inl (x7915 + 1, put (put l7916 x7915 x7992) (x7915 + 1) x8008)))
  else (
  some (.inr l7916))

noncomputable def mSlicesSymMergeCmpFunc_2_L8305 (x8 : Int) (l13 : (List FareSpan)) (l14 : (List Int)) : (Int × Int) → Option ((Int × Int) ⊕ (Int)) := unc2 fun x8464 x8465 =>
  if x8464 < x8465 then (
  (chk (x8464 + x8465)).bind fun _ =>
  (shN 1).bind fun _ =>
  (idx l14 x8).bind fun x8505 =>
  (idx l14 (IntKind.wrap .i64 (shrI .u64 (IntKind.wrap .u64 (x8464 + x8465)) 1))).bind fun x8521 =>
  (mFarePack_1 x8505 x8521 l13).bind fun x8537 =>
  if x8537 < 0 then (
  some (.inl (x8464, IntKind.wrap .i64 (shrI .u64 (IntKind.wrap .u64 (x8464 + x8465)) 1))))
  else (
  (chk ((IntKind.wrap .i64 (shrI .u64 (IntKind.wrap .u64 (x8464 + x8465)) 1)) + 1)).bind fun _ =>
  some (.inl ((IntKind.wrap .i64 (shrI .u64 (IntKind.wrap .u64 (x8464 + x8465)) 1)) + 1, x8465))))
  else (
  some (.inr x8464))

noncomputable def mSlicesSymMergeCmpFunc_2_L8992 (x8303 : Int) : (Int × (List Int)) → Option ((Int × (List Int)) ⊕ ((List Int))) := unc2 fun x9288 l9289 =>
  if x8303 < x9288 then (
  (chk (x9288 - 1)).bind fun _ =>
  (chk (x9288 - 1)).bind fun _ =>
  (idx l9289 (x9288 - 1)).bind fun x9364 =>
  (idx l9289 x9288).bind fun x9380 =>
  (idx l9289 x9288).bind fun _ =>
  (idx (put l9289 x9288 x9364) (x9288 - 1)).bind fun _ =>
  (chk (x9288 - 1)).bind fun _ =>
  some (.inl (x9288 - 1, put (put l9289 x9288 x9364) (x9288 - 1) x9380)))
  else (
  some (.inr l9289))

noncomputable def mSlicesSymMergeCmpFunc_2_L9694 (x7 : Int) (x8 : Int) (x9 : Int) (l13 : (List FareSpan)) (l14 : (List Int)) : (Int × Int) → Option ((Int × Int) ⊕ (Int)) := unc2 fun x9857 x9858 =>
  if x9857 < x9858 then (
  (chk (x9857 + x9858)).bind fun _ =>
  (shN 1).bind fun _ =>
  (chk ((((IntKind.wrap .i64 (shrI .u64 (IntKind.wrap .u64 (x7 + x9)) 1)) + x8) - 1) - (IntKind.wrap .i64 (shrI .u64 (IntKind.wrap .u64 (x9857 + x9858)) 1)))).bind fun _ =>
  (idx l14 ((((IntKind.wrap .i64 (shrI .u64 (IntKind.wrap .u64 (x7 + x9)) 1)) + x8) - 1) - (IntKind.wrap .i64 (shrI .u64 (IntKind.wrap .u64 (x9857 + x9858)) 1)))).bind fun x9900 =>
  (idx l14 (IntKind.wrap .i64 (shrI .u64 (IntKind.wrap .u64 (x9857 + x9858)) 1))).bind fun x9916 =>
  (mFarePack_1 x9900 x9916 l13).bind fun x9932 =>
  if x9932 < 0 then (
  some (.inl (x9857, IntKind.wrap .i64 (shrI .u64 (IntKind.wrap .u64 (x9857 + x9858)) 1))))
  else (
  (chk ((IntKind.wrap .i64 (shrI .u64 (IntKind.wrap .u64 (x9857 + x9858)) 1)) + 1)).bind fun _ =>
  some (.inl ((IntKind.wrap .i64 (shrI .u64 (IntKind.wrap .u64 (x9857 + x9858)) 1)) + 1, x9858))))
  else (
  some (.inr x9857))

/-- slices.symMergeCmpFunc[int] -/
noncomputable def mSlicesSymMergeCmpFunc_2 : Nat → (Int) → (Int) → (Int) → ((List FareSpan)) → ((List Int)) → Option ((List Int))
  | 0 => fun _ _ _ _ _ => none
  | N + 1 => fun x7 x8 x9 l13 l14 =>
  (chk (x8 - x7)).bind fun _ =>
  if (x8 - x7) = 1 then (
  (loopM (mSlicesSymMergeCmpFunc_2_L6927 x7 l13 l14) (x8, x9)).bind (fun x6925 =>
  (loopM (mSlicesSymMergeCmpFunc_2_L7617 x6925) (x7, l14)).bind (fun l7614 =>
  some l7614)))
  else (
  (chk (x9 - x8)).bind fun _ =>
  if (x9 - x8) = 1 then (
  (loopM (mSlicesSymMergeCmpFunc_2_L8305 x8 l13 l14) (x7, x8)).bind (fun x8303 =>
  (loopM (mSlicesSymMergeCmpFunc_2_L8992 x8303) (x8, l14)).bind (fun l8989 =>
  some l8989)))
  else (
  (chk (x7 + x9)).bind fun _ =>
  (shN 1).bind fun _ =>
  (chk ((IntKind.wrap .i64 (shrI .u64 (IntKind.wrap .u64 (x7 + x9)) 1)) + x8)).bind fun _ =>
  (if (IntKind.wrap .i64 (shrI .u64 (IntKind.wrap .u64 (x7 + x9)) 1)) < x8 then (
  (chk (((IntKind.wrap .i64 (shrI .u64 (IntKind.wrap .u64 (x7 + x9)) 1)) + x8) - x9)).bind fun _ =>
  some (((IntKind.wrap .i64 (shrI .u64 (IntKind.wrap .u64 (x7 + x9)) 1)) + x8) - x9, IntKind.wrap .i64 (shrI .u64 (IntKind.wrap .u64 (x7 + x9)) 1)))
  else (
  some (x7, x8))).bind (unc2 fun x9440 x9441 =>
  (chk (((IntKind.wrap .i64 (shrI .u64 (IntKind.wrap .u64 (x7 + x9)) 1)) + x8) - 1)).bind fun _ =>
  (loopM (mSlicesSymMergeCmpFunc_2_L9694 x7 x8 x9 l13 l14) (x9440, x9441)).bind (fun x9692 =>
  (chk (((IntKind.wrap .i64 (shrI .u64 (IntKind.wrap .u64 (x7 + x9)) 1)) + x8) - x9692)).bind fun _ =>
  ((if x9692 < x8 then (
  some (decide (x8 < (((IntKind.wrap .i64 (shrI .u64 (IntKind.wrap .u64 (x7 + x9)) 1)) + x8) - x9692))))
  else (
  some false)).bind (fun x9964 =>
  if x9964 = true then (
  (mSlicesRotateCmpFunc_2 x9692 x8 (((IntKind.wrap .i64 (shrI .u64 (IntKind.wrap .u64 (x7 + x9)) 1)) + x8) - x9692) l13 l14).bind fun l9968 =>
  some l9968)
  else (
  some l14))).bind (fun l9958 =>
  ((if x7 < x9692 then (
  some (decide (x9692 < (IntKind.wrap .i64 (shrI .u64 (IntKind.wrap .u64 (x7 + x9)) 1)))))
  else (
  some false)).bind (fun x10000 =>
  if x10000 = true then (
  ((mSlicesSymMergeCmpFunc_2 N) x7 x9692 (IntKind.wrap .i64 (shrI .u64 (IntKind.wrap .u64 (x7 + x9)) 1)) l13 l9958).bind fun l10004 =>
  some l10004)
  else (
  some l9958))).bind (fun l9994 =>
  (if (IntKind.wrap .i64 (shrI .u64 (IntKind.wrap .u64 (x7 + x9)) 1)) < (((IntKind.wrap .i64 (shrI .u64 (IntKind.wrap .u64 (x7 + x9)) 1)) + x8) - x9692) then (
  some (decide ((((IntKind.wrap .i64 (shrI .u64 (IntKind.wrap .u64 (x7 + x9)) 1)) + x8) - x9692) < x9)))
  else (
  some false)).bind (fun x10014 =>
  if x10014 = true then (
  ((mSlicesSymMergeCmpFunc_2 N) (IntKind.wrap .i64 (shrI .u64 (IntKind.wrap .u64 (x7 + x9)) 1)) (((IntKind.wrap .i64 (shrI .u64 (IntKind.wrap .u64 (x7 + x9)) 1)) + x8) - x9692) x9 l13 l9994).bind fun l10018 =>
  some l10018)
  else (
  some l9994))))))))

noncomputable def mSlicesStableCmpFunc_2_L604 (x7 : Int) (l11 : (List FareSpan)) : (Int × Int × (List Int)) → Option ((Int × Int × (List Int)) ⊕ (Int × (List Int))) := unc3 fun x635 x636 l637 =>
  if x636 ≤ x7 then (
  (mSlicesInsertionSortCmpFunc_2 x635 x636 l11 l637).bind fun l640 =>
  (chk (x636 + 20)).bind fun _ =>
  some (.inl (x636, x636 + 20, l640)))
  else (
  some (.inr (x635, l637)))

noncomputable def mSlicesStableCmpFunc_2_L1007 (x7 : Int) (l11 : (List FareSpan)) (x943 : Int) : (Int × Int × (List Int)) → Option ((Int × Int × (List Int)) ⊕ (Int × (List Int))) := unc3 fun x1042 x1043 l1044 =>
  if x1043 ≤ x7 then (
  (chk (x1042 + x943)).bind fun _ =>
  (lim (fun N => mSlicesSymMergeCmpFunc_2 N x1042 (x1042 + x943) x1043 l11 l1044)).bind fun l1048 =>
  (chk (2 * x943)).bind fun _ =>
  (chk (x1043 + (2 * x943))).bind fun _ =>
  some (.inl (x1043, x1043 + (2 * x943), l1048)))
  else (
  some (.inr (x1042, l1044)))

noncomputable def mSlicesStableCmpFunc_2_L655 (x7 : Int) (l11 : (List FareSpan)) : (Int × (List Int)) → Option ((Int × (List Int)) ⊕ ((List Int))) := unc2 fun x943 l944 =>
  if x943 < x7 then (
  (chk (2 * x943)).bind fun _ =>
  (loopM (mSlicesStableCmpFunc_2_L1007 x7 l11 x943) (0, 2 * x943, l944)).bind (unc2 fun x1003 l1004 =>
  ((chk (x1003 + x943)).bind fun _ =>
  if (x1003 + x943) < x7 then (
  (lim (fun N => mSlicesSymMergeCmpFunc_2 N x1003 (x1003 + x943) x7 l11 l1004)).bind fun l1076 =>
  some l1076)
  else (
  some l1004)).bind (fun l1071 =>
  (chk (x943 * 2)).bind fun _ =>
  some (.inl (x943 * 2, l1071)))))
  else (
  some (.inr l944))

/-- slices.stableCmpFunc[int] -/
noncomputable def mSlicesStableCmpFunc_2 (x7 : Int) (l11 : (List FareSpan)) (l12 : (List Int)) : Option ((List Int)) :=
  (loopM (mSlicesStableCmpFunc_2_L604 x7 l11) (0, 20, l12)).bind (unc2 fun x600 l601 =>
  (mSlicesInsertionSortCmpFunc_2 x600 x7 l11 l601).bind fun l648 =>
  loopM (mSlicesStableCmpFunc_2_L655 x7 l11) (20, l648))

/-- slices.SortStableFunc[[]int,int] -/
noncomputable def mSlicesSortStableFunc_2 (l10 : (List FareSpan)) (l11 : (List Int)) : Option ((List Int)) :=
  (mSlicesStableCmpFunc_2 (l11.length : Int) l10 l11).bind fun l24 =>
  some l24

/-- fishplate/fare.Pack-2 -/
noncomputable def mFarePack_2 (x3 : Int) (l7 : (List FareSpan)) (x8 : Int) : Option (Bool) :=
  (idx l7 x8).bind fun x20 =>
  some (decide (x3 ≤ x20.From))

noncomputable def mSlicesIndexFunc_6_L67 (l11 : (List FareSpan)) (l13 : (List Int)) (x12 : Int) (k92 : Nat) : (Unit) → Option ((Unit) ⊕ (Int)) := fun _ =>
  (idx l13 (k92 : Int)).bind fun x96 =>
  (mFarePack_2 x96 l11 x12).bind fun x112 =>
  if x112 = true then (
  some (.inr (k92 : Int)))
  else (
  some (.inl ()))

/-- slices.IndexFunc[[]int,int] -/
noncomputable def mSlicesIndexFunc_6 (l11 : (List FareSpan)) (x12 : Int) (l13 : (List Int)) : Option (Int) :=
  (forM (mSlicesIndexFunc_6_L67 l11 l13 x12) l13.length 0 ()).bind fun t => Sum.elim (fun _ =>
  some (-1)) (fun q => some q) t

noncomputable def mFarePack_L702 (l4 : (List FareSpan)) (l683 : (List Int)) (k954 : Nat) : ((List Int) × (List Int)) → Option (((List Int) × (List Int)) ⊕ (Int × (List Int))) := unc2 fun l950 l952 =>
  (idx l683 (k954 : Int)).bind fun x958 =>
  (mSlicesIndexFunc_6 l4 x958 l950).bind fun x975 =>
  if x975 < 0 then (
  some (.inr (14, [])))
  else (
  (idx l4 x958).bind fun x1027 =>
  (idx l950 x975).bind fun _ =>
  (idx l952 x958).bind fun _ =>
  some (.inl (put l950 x975 x1027.To, put l952 x958 x975)))

noncomputable def mFarePack_L567 (l4 : (List FareSpan)) (x6 : Int) (k645 : Nat) : ((List Int)) → Option (((List Int)) ⊕ (Int × (List Int))) := fun l643 =>
  (idx l4 (k645 : Int)).bind fun x649 =>
  (mFareSpan x649.From x649.To x6).bind fun x660 =>
  if x660 = true then (
  (idx l643 (k645 : Int)).bind fun _ =>
  some (.inl (put l643 (k645 : Int) (k645 : Int))))
  else (
  some (.inr (2, [])))

/-- fishplate/fare.Pack -/
noncomputable def mFarePack (l4 : (List FareSpan)) (x5 : Int) (x6 : Int) : Option (Int × (List Int)) :=
  if 200 < (l4.length : Int) then (
  some (4, []))
  else (
  ((mFareWithin x5 1 80).bind fun x555 =>
  if x555 = true then (
  (mFareWithin x6 2 12).bind fun x558 =>
  some (!x558))
  else (
  some true)).bind (fun x553 =>
  if x553 = true then (
  some (2, []))
  else (
  (mkLen 8 (l4.length : Int)).bind fun m561 =>
  (forM (mFarePack_L567 l4 x6) l4.length 0 (List.replicate m561 (0 : Int))).bind fun t => Sum.elim (fun l643 =>
  (mSlicesSortStableFunc_2 l4 l643).bind fun l683 =>
  (mkLen 8 x5).bind fun m690 =>
  (mkLen 8 (l4.length : Int)).bind fun m696 =>
  (forM (mFarePack_L702 l4 l683) l683.length 0 (List.replicate m690 (0 : Int), List.replicate m696 (0 : Int))).bind fun t => Sum.elim (unc2 fun _ l952 =>
  some (0, l952)) (fun q => some q) t) (fun q => some q) t)))

noncomputable def mFishkeep2FareOnce_L4136 (l4081 : (List Int)) (l4093 : (List Int)) (k4203 : Nat) : (Unit) → Option ((Unit) ⊕ (((List Int) × (List FareBooking) × (List Bool)) ⊕ (((List FareBooking) × (List Bool)) ⊕ (Bool)))) := fun _ =>
  (idx l4093 (k4203 : Int)).bind fun x4207 =>
  ((mSlicesContains l4081 x4207).bind fun x4248 =>
  if x4248 = true then (
  if 0 < (k4203 : Int) then (
  (chk ((k4203 : Int) - 1)).bind fun _ =>
  (idx l4093 ((k4203 : Int) - 1)).bind fun x4253 =>
  some (decide (x4207 ≤ x4253)))
  else (
  some false))
  else (
  some true)).bind (fun x4246 =>
  if x4246 = true then (
  some (.inr (.inr (.inr false))))
  else (
  some (.inl ())))

noncomputable def mFishkeep2FareOnce_L3347 (x2385 : Int) (x2386 : Int) (x2387 : Int) : ((List Int) × (List FareBooking) × (List Bool)) → Option (((List Int) × (List FareBooking) × (List Bool)) ⊕ (((List FareBooking) × (List Bool)) ⊕ (Bool))) := unc3 fun l3969 l3970 l3972 =>
  if 4 ≤ (l3969.length : Int) then (
  (idx l3969 0).bind fun x4015 =>
  (idx l3969 1).bind fun x4025 =>
  (idx l3969 2).bind fun x4035 =>
  (idx l3969 3).bind fun x4045 =>
  (cutS l3969 4 (l3969.length : Int)).bind fun l4055 =>
  if x4015 = 0 then (
  (mFareCarCancel x4025 x2385 x2386 x2387 l3970 l3972).bind (unc2 fun _ l4072 =>
  some (.inl (l4055, l3970, l4072))))
  else (
  (mFareCarFree x4025 x4035 x2385 x2386 x2387 l3970 l3972).bind (unc2 fun x4080 l4081 =>
  (mFareCarBook x4025 x4035 x4045 x2385 x2386 x2387 l3970 l3972).bind (unc7 fun _ _ _ x4092 l4093 l4094 l4095 =>
  (if x4080 ≠ 0 then (
  some true)
  else (
  if x4045 < 1 then (
  some true)
  else (
  some (decide (8 < x4045))))).bind (fun x4118 =>
  if x4118 = true then (
  if x4092 ≠ 2 then (
  some (.inr (.inr false)))
  else (
  some (.inl (l4055, l4094, l4095))))
  else (
  if (l4081.length : Int) < x4045 then (
  if x4092 ≠ 14 then (
  some (.inr (.inr false)))
  else (
  some (.inl (l4055, l4094, l4095))))
  else (
  (if x4092 ≠ 0 then (
  some true)
  else (
  some (decide ((l4093.length : Int) ≠ x4045)))).bind (fun x4131 =>
  if x4131 = true then (
  some (.inr (.inr false)))
  else (
  (forM (mFishkeep2FareOnce_L4136 l4081 l4093) l4093.length 0 ()).bind fun t => Sum.elim (fun _ =>
  some (.inl (l4055, l4094, l4095))) (fun q => some q) t)))))))))
  else (
  some (.inr (.inl (l3970, l3972))))

noncomputable def mFishkeep2FareOnce_L4709 (x4607 : FareBooking) (_k4737 : Nat) : ((List FareSpan)) → Option ((List FareSpan)) := fun l4736 =>
  (room 16 (l4736.length + 1)).bind fun _ =>
  some (l4736 ++ [(⟨x4607.From, x4607.To⟩ : FareSpan)])

noncomputable def mFishkeep2FareOnce_L4636 (l4621 : (List FareBooking)) (x4607 : FareBooking) (k4671 : Nat) : (Unit) → Option ((Unit) ⊕ (((List FareBooking) × (List FareBooking) × (List FareSpan)) ⊕ (Bool))) := fun _ =>
  (idx l4621 (k4671 : Int)).bind fun x4675 =>
  (if x4607.From < x4675.To then (
  if x4675.From < x4607.To then (
  (mSlicesContainsFunc_4 x4607.Seats x4675.No x4675.From x4675.To x4675.Seats).bind fun x4701 =>
  some x4701)
  else (
  some false))
  else (
  some false)).bind (fun x4697 =>
  if x4697 = true then (
  some (.inr (.inr false)))
  else (
  some (.inl ())))

noncomputable def mFishkeep2FareOnce_L4282  (k4603 : Nat) : ((List FareBooking) × (List FareBooking) × (List FareSpan)) → Option (((List FareBooking) × (List FareBooking) × (List FareSpan)) ⊕ (Bool)) := unc3 fun l4597 l4601 l4602 =>
  (idx l4601 (k4603 : Int)).bind fun x4607 =>
  (cutS l4597 0 (k4603 : Int)).bind fun l4621 =>
  (forM (mFishkeep2FareOnce_L4636 l4621 x4607) l4621.length 0 ()).bind fun t => Sum.elim (fun _ =>
  (forS (mFishkeep2FareOnce_L4709 x4607) x4607.Seats.length 0 l4602).bind (fun l4736 =>
  some (.inl (l4597, l4601, l4736)))) (fun q => some q) t

/-- fishplate/fishkeep2.FareOnce -/
noncomputable def mFishkeep2FareOnce (x1 : Int) (x2 : Int) (x3 : Int) (l7 : (List Int)) : Option (Bool) :=
  (mFishkeep2AwakeFare).bind fun _ =>
  (mFareNewCar x1 x2 x3).bind (unc5 fun x2385 x2386 x2387 l2388 l2389 =>
  (mFishkeep2Fares).bind fun x2404 =>
  if x2404 = true then (
  if (0 : Int) ≠ (0 : Int) then (
  some false)
  else (
  (loopM (mFishkeep2FareOnce_L3347 x2385 x2386 x2387) (l7, l2388, l2389)).bind fun t => Sum.elim (unc2 fun l3341 l3343 =>
  (mFareCarBookings x2385 x2386 x2387 l3341 l3343).bind fun l4274 =>
  (forM mFishkeep2FareOnce_L4282 l4274.length 0 ((l4274, l4274, []) : (List FareBooking) × (List FareBooking) × (List FareSpan))).bind fun t => Sum.elim (unc3 fun _ _ l4602 =>
  if 200 < (l4602.length : Int) then (
  some true)
  else (
  (chk (x1 * x2)).bind fun _ =>
  (mFarePack l4602 (x1 * x2) x3).bind (unc2 fun x4749 _ =>
  some (decide (x4749 = 0))))) (fun q => some q) t) (fun r4758 => some r4758) t))
  else (
  some false))

end Go.Proofs.YthcgoaejnpelbaaGreatDoor
