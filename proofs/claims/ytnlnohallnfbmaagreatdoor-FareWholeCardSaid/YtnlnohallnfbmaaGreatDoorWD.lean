/- The models of the functions, as the extractor printed them. -/
import Derived.Test.YtnlnohallnfbmaaGreatDoorXG
import Derived.Test.YtnlnohallnfbmaaGreatDoorXM
set_option linter.unusedVariables false
set_option linter.unusedSimpArgs false
namespace Go.Proofs.YtnlnohallnfbmaaGreatDoor
open Go.RowKit Go.Fp

structure FareBand where
  Upto : Int
  Price : Int
  deriving DecidableEq
def rFareBand : RT FareBand := (RT.cat (RT.on (RT.int .i64) FareBand.Upto) (RT.on (RT.int .i64) FareBand.Price))
structure FareCond where
  Kind : Int
  A : Int
  B : Int
  Kids : Unit
def rFareCond : RT FareCond := (RT.cat (RT.on (RT.int .i64) FareCond.Kind) (RT.cat (RT.on (RT.int .i64) FareCond.A) (RT.cat (RT.on (RT.int .i64) FareCond.B) (RT.on RT.nilK FareCond.Kids))))
structure FareRule where
  If : FareCond
  Do : Int
  N : Int
  Stop : Bool
def rFareRule : RT FareRule := (RT.cat (RT.on rFareCond FareRule.If) (RT.cat (RT.on (RT.int .i64) FareRule.Do) (RT.cat (RT.on (RT.int .i64) FareRule.N) (RT.on RT.bool FareRule.Stop))))
structure FareTariff where
  ByKm : Bool
  Bands : (List FareBand)
  Round : Int
  Rules : (List FareRule)
def rFareTariff : RT FareTariff := (RT.cat (RT.on RT.bool FareTariff.ByKm) (RT.cat (RT.on (RT.list rFareBand) FareTariff.Bands) (RT.cat (RT.on (RT.int .i64) FareTariff.Round) (RT.on (RT.list rFareRule) FareTariff.Rules))))
structure FareTrip where
  Day : Int
  At : Int
  Km : Int
  Age : Int
  Card : Bool
  Zones : (List Int)
def rFareTrip : RT FareTrip := (RT.cat (RT.on (RT.int .i64) FareTrip.Day) (RT.cat (RT.on (RT.int .i64) FareTrip.At) (RT.cat (RT.on (RT.int .i64) FareTrip.Km) (RT.cat (RT.on (RT.int .i64) FareTrip.Age) (RT.cat (RT.on RT.bool FareTrip.Card) (RT.on (RT.list (RT.int .i64)) FareTrip.Zones))))))

/-- fishplate/fishkeep2.awakeFare -/
noncomputable def mFishkeep2AwakeFare : Option (Unit) :=
  some ()

/-- fishplate/fare.within -/
noncomputable def mFareWithin (x1 : Int) (x2 : Int) (x3 : Int) : Option (Bool) :=
  (if x2 ≤ x1 then (
  some (decide (x1 ≤ x3)))
  else (
  some false)).bind (fun x14 =>
  some x14)

noncomputable def mFareCondSize_L94 (rcmFareCondSize : (FareCond) → Option (Int × Int)) (k131 : Nat) : (Int × Int) → Option (Int × Int) := unc2 fun x129 x130 =>
  (idx ([] : List FareCond) (k131 : Int)).bind fun x134 =>
  (rcmFareCondSize x134).bind (unc2 fun x145 x146 =>
  (chk (x129 + x145)).bind fun _ =>
  some (x129 + x145, max x130 x146))

/-- (fishplate/fare.Cond).size -/
noncomputable def mFareCondSize : Nat → (FareCond) → Option (Int × Int)
  | 0 => fun _ => none
  | N + 1 => fun _ =>
  (forS (mFareCondSize_L94 (mFareCondSize N)) 0 0 (1, 0)).bind (unc2 fun x129 x130 =>
  (chk (x130 + 1)).bind fun _ =>
  some (x129, x130 + 1))

/-- fishplate/fare.numbers -/
noncomputable def mFareNumbers (x1 : Int) : Option (Int) :=
  (if x1 = 2 then (
  some (decide (x1 = 2)))
  else (
  if x1 = 3 then (
  some (decide (x1 = 3)))
  else (
  if x1 = 4 then (
  some (decide (x1 = 4)))
  else (
  some (decide (x1 = 5)))))).bind (fun x28 =>
  if x28 = true then (
  some 2)
  else (
  (if x1 = 6 then (
  some (decide (x1 = 6)))
  else (
  if x1 = 7 then (
  some (decide (x1 = 7)))
  else (
  some (decide (x1 = 8))))).bind (fun x38 =>
  if x38 = true then (
  some 1)
  else (
  some 0))))

noncomputable def mFareCondNode_L284 (rcmFareCondNode : (FareCond) → Option (Int)) (k301 : Nat) : (Unit) → Option ((Unit) ⊕ (Int)) := fun _ =>
  (idx ([] : List FareCond) (k301 : Int)).bind fun x305 =>
  (rcmFareCondNode x305).bind fun x316 =>
  if x316 ≠ 0 then (
  some (.inr x316))
  else (
  some (.inl ()))

/-- (fishplate/fare.Cond).node -/
noncomputable def mFareCondNode : Nat → (FareCond) → Option (Int)
  | 0 => fun _ => none
  | N + 1 => fun s1 =>
  (mFareNumbers s1.Kind).bind fun x214 =>
  (mFareWithin s1.Kind 0 11).bind fun x216 =>
  if x216 = true then (
  ((mFareWithin s1.A 0 28800).bind fun x228 =>
  if x228 = true then (
  (mFareWithin s1.B 0 28800).bind fun x231 =>
  some (!x231))
  else (
  some true)).bind (fun x226 =>
  if x226 = true then (
  some 2)
  else (
  (if x214 < 1 then (
  if s1.A ≠ 0 then (
  some true)
  else (
  if x214 < 2 then (
  if s1.B ≠ 0 then (
  some true)
  else (
  if x214 = 2 then (
  some (decide (s1.B < s1.A)))
  else (
  some false)))
  else (
  if x214 = 2 then (
  some (decide (s1.B < s1.A)))
  else (
  some false))))
  else (
  if x214 < 2 then (
  if s1.B ≠ 0 then (
  some true)
  else (
  if x214 = 2 then (
  some (decide (s1.B < s1.A)))
  else (
  some false)))
  else (
  if x214 = 2 then (
  some (decide (s1.B < s1.A)))
  else (
  some false)))).bind (fun x246 =>
  if x246 = true then (
  some 1)
  else (
  (if s1.Kind = 9 then (
  if (0 : Int) ≠ (1 : Int) then (
  some true)
  else (
  if 9 < s1.Kind then (
  if (0 : Int) < (2 : Int) then (
  some true)
  else (
  if s1.Kind < 9 then (
  some (decide ((0 : Int) < (0 : Int))))
  else (
  some false)))
  else (
  if s1.Kind < 9 then (
  some (decide ((0 : Int) < (0 : Int))))
  else (
  some false))))
  else (
  if 9 < s1.Kind then (
  if (0 : Int) < (2 : Int) then (
  some true)
  else (
  if s1.Kind < 9 then (
  some (decide ((0 : Int) < (0 : Int))))
  else (
  some false)))
  else (
  if s1.Kind < 9 then (
  some (decide ((0 : Int) < (0 : Int))))
  else (
  some false)))).bind (fun x271 =>
  if x271 = true then (
  some 1)
  else (
  (forM (mFareCondNode_L284 (mFareCondNode N)) 0 0 ()).bind fun t => Sum.elim (fun _ =>
  some 0) (fun q => some q) t)))))))
  else (
  some 15)

/-- (fishplate/fare.Cond).check -/
noncomputable def mFareCondCheck (s1 : FareCond) : Option (Int) :=
  (lim (fun N => mFareCondSize N s1)).bind (unc2 fun x17 x18 =>
  (if 40 < x17 then (
  some true)
  else (
  some (decide (6 < x18)))).bind (fun x23 =>
  if x23 = true then (
  some 4)
  else (
  (lim (fun N => mFareCondNode N s1)).bind fun x27 =>
  some x27)))

noncomputable def mFareCheckTariff_L633 (s1 : FareTariff) (k663 : Nat) : (Unit) → Option ((Unit) ⊕ (Int)) := fun _ =>
  (idx s1.Rules (k663 : Int)).bind fun x667 =>
  (mFareCondCheck x667.If).bind fun x678 =>
  if x678 ≠ 0 then (
  some (.inr x678))
  else (
  (if x667.Do = 1 then (
  some 200)
  else (
  some 100000)).bind (fun x685 =>
  (mFareWithin x667.Do 1 6).bind fun x688 =>
  if x688 = true then (
  (mFareWithin x667.N 0 x685).bind fun x692 =>
  if x692 = true then (
  some (.inl ()))
  else (
  some (.inr 2)))
  else (
  some (.inr 15))))

noncomputable def mFareCheckTariff_L365 (s1 : FareTariff) (k496 : Nat) : (Unit) → Option ((Unit) ⊕ (Int)) := fun _ =>
  (idx s1.Bands (k496 : Int)).bind fun x500 =>
  ((mFareWithin x500.Upto 1 1000).bind fun x520 =>
  if x520 = true then (
  (mFareWithin x500.Price 0 100000).bind fun x523 =>
  some (!x523))
  else (
  some true)).bind (fun x518 =>
  if x518 = true then (
  some (.inr 2))
  else (
  (if 0 < (k496 : Int) then (
  (chk ((k496 : Int) - 1)).bind fun _ =>
  (idx s1.Bands ((k496 : Int) - 1)).bind fun x605 =>
  if x500.Upto ≤ x605.Upto then (
  some true)
  else (
  (chk ((k496 : Int) - 1)).bind fun _ =>
  (idx s1.Bands ((k496 : Int) - 1)).bind fun x617 =>
  some (decide (x500.Price < x617.Price))))
  else (
  some false)).bind (fun x577 =>
  if x577 = true then (
  some (.inr 1))
  else (
  some (.inl ())))))

/-- fishplate/fare.CheckTariff -/
noncomputable def mFareCheckTariff (s1 : FareTariff) : Option (Int) :=
  ((mFareWithin (s1.Bands.length : Int) 1 8).bind fun x361 =>
  if x361 = true then (
  some (decide (20 < (s1.Rules.length : Int))))
  else (
  some true)).bind (fun x359 =>
  if x359 = true then (
  some 4)
  else (
  (forM (mFareCheckTariff_L365 s1) s1.Bands.length 0 ()).bind fun t => Sum.elim (fun _ =>
  (mFareWithin s1.Round 1 100).bind fun x630 =>
  if x630 = true then (
  (forM (mFareCheckTariff_L633 s1) s1.Rules.length 0 ()).bind fun t => Sum.elim (fun _ =>
  some 0) (fun q => some q) t)
  else (
  some 2)) (fun q => some q) t))

noncomputable def mFareCheckZones_L154 (l4 : (List Int)) (x5 : Bool) (k226 : Nat) : (Unit) → Option ((Unit) ⊕ (Int)) := fun _ =>
  (idx l4 (k226 : Int)).bind fun x230 =>
  (mFareWithin x230 0 19).bind fun x240 =>
  if x240 = true then (
  (if 0 < (k226 : Int) then (
  (chk ((k226 : Int) - 1)).bind fun _ =>
  (idx l4 ((k226 : Int) - 1)).bind fun x275 =>
  if x230 = x275 then (
  some true)
  else (
  if x5 = true then (
  (chk ((k226 : Int) - 1)).bind fun _ =>
  (idx l4 ((k226 : Int) - 1)).bind fun x288 =>
  some (decide (x230 < x288)))
  else (
  some false)))
  else (
  some false)).bind (fun x271 =>
  if x271 = true then (
  some (.inr 1))
  else (
  some (.inl ()))))
  else (
  some (.inr 2))

/-- fishplate/fare.checkZones -/
noncomputable def mFareCheckZones (l4 : (List Int)) (x5 : Bool) : Option (Int) :=
  (forM (mFareCheckZones_L154 l4 x5) l4.length 0 ()).bind fun t => Sum.elim (fun _ =>
  some 0) (fun q => some q) t

/-- fishplate/fare.CheckTrip -/
noncomputable def mFareCheckTrip (s1 : FareTrip) : Option (Int) :=
  ((mFareWithin s1.Day 0 6).bind fun x55 =>
  if x55 = true then (
  (mFareWithin s1.At 0 28800).bind fun x58 =>
  if x58 = true then (
  (mFareWithin s1.Km 0 1000).bind fun x61 =>
  if x61 = true then (
  (mFareWithin s1.Age 0 120).bind fun x64 =>
  some (!x64))
  else (
  some true))
  else (
  some true))
  else (
  some true)).bind (fun x53 =>
  if x53 = true then (
  some 2)
  else (
  (mFareWithin (s1.Zones.length : Int) 1 10).bind fun x67 =>
  if x67 = true then (
  (mFareCheckZones s1.Zones false).bind fun x70 =>
  some x70)
  else (
  some 4)))

/-- (fishplate/fare.Tariff).price-1 -/
noncomputable def mFareTariffPrice_1 (s2 : FareBand) (x3 : Int) : Option (Bool) :=
  some (decide (x3 ≤ s2.Upto))

noncomputable def mSlicesIndexFunc_L48 (l5 : (List FareBand)) (x6 : Int) (k67 : Nat) : (Unit) → Option ((Unit) ⊕ (Int)) := fun _ =>
  (idx l5 (k67 : Int)).bind fun x71 =>
  (mFareTariffPrice_1 x71 x6).bind fun x81 =>
  if x81 = true then (
  some (.inr (k67 : Int)))
  else (
  some (.inl ()))

/-- slices.IndexFunc[[]fishplate/fare.Band,fishplate/fare.Band] -/
noncomputable def mSlicesIndexFunc (l5 : (List FareBand)) (x6 : Int) : Option (Int) :=
  (forM (mSlicesIndexFunc_L48 l5 x6) l5.length 0 ()).bind fun t => Sum.elim (fun _ =>
  some (-1)) (fun q => some q) t

/-- (fishplate/fare.Cond).holds-1 -/
noncomputable def mFareCondHolds_1 (x7 : Int) (_x8 : Int) (x9 : Int) (x10 : Int) (_l11 : (List FareCond)) : Option (Bool) :=
  (mFareWithin x7 x9 x10).bind fun x16 =>
  some x16

noncomputable def mSlicesIndex_L39 (l4 : (List Int)) (x5 : Int) (k54 : Nat) : (Unit) → Option ((Unit) ⊕ (Int)) := fun _ =>
  (idx l4 (k54 : Int)).bind fun x58 =>
  if x5 = x58 then (
  some (.inr (k54 : Int)))
  else (
  some (.inl ()))

/-- slices.Index[[]int,int] -/
noncomputable def mSlicesIndex (l4 : (List Int)) (x5 : Int) : Option (Int) :=
  (forM (mSlicesIndex_L39 l4 x5) l4.length 0 ()).bind fun t => Sum.elim (fun _ =>
  some (-1)) (fun q => some q) t

/-- slices.Contains[[]int,int] -/
noncomputable def mSlicesContains (l4 : (List Int)) (x5 : Int) : Option (Bool) :=
  (mSlicesIndex l4 x5).bind fun x9 =>
  some (decide (0 ≤ x9))

/-- (fishplate/fare.Cond).holds-2 -/
noncomputable def mFareCondHolds_2_5 (rcmFareCondHolds : (FareCond) → (FareTrip) → Option (Bool)) (s2 : FareCond) (x3 : Int) (x4 : Int) (x5 : Int) (x6 : Int) (x7 : Bool) (l11 : (List Int)) : Option (Bool) :=
  (rcmFareCondHolds s2 (⟨x3, x4, x5, x6, x7, l11⟩ : FareTrip)).bind fun x17 =>
  some (!x17)

noncomputable def mSlicesIndexFunc_2_L56 (l5 : (List FareCond)) (x6 : Int) (x7 : Int) (x8 : Int) (x9 : Int) (l14 : (List Int)) (x10 : Bool) (rcmFareCondHolds : (FareCond) → (FareTrip) → Option (Bool)) (k75 : Nat) : (Unit) → Option ((Unit) ⊕ (Int)) := fun _ =>
  (idx l5 (k75 : Int)).bind fun x79 =>
  (mFareCondHolds_2_5 rcmFareCondHolds x79 x6 x7 x8 x9 x10 l14).bind fun x89 =>
  if x89 = true then (
  some (.inr (k75 : Int)))
  else (
  some (.inl ()))

/-- slices.IndexFunc[[]fishplate/fare.Cond,fishplate/fare.Cond] -/
noncomputable def mSlicesIndexFunc_2 (rcmFareCondHolds : (FareCond) → (FareTrip) → Option (Bool)) (l5 : (List FareCond)) (x6 : Int) (x7 : Int) (x8 : Int) (x9 : Int) (x10 : Bool) (l14 : (List Int)) : Option (Int) :=
  (forM (mSlicesIndexFunc_2_L56 l5 x6 x7 x8 x9 l14 x10 rcmFareCondHolds) l5.length 0 ()).bind fun t => Sum.elim (fun _ =>
  some (-1)) (fun q => some q) t

/-- slices.ContainsFunc[[]fishplate/fare.Cond,fishplate/fare.Cond] -/
noncomputable def mSlicesContainsFunc (rcmFareCondHolds : (FareCond) → (FareTrip) → Option (Bool)) (l5 : (List FareCond)) (x6 : Int) (x7 : Int) (x8 : Int) (x9 : Int) (x10 : Bool) (l14 : (List Int)) : Option (Bool) :=
  (mSlicesIndexFunc_2 rcmFareCondHolds l5 x6 x7 x8 x9 x10 l14).bind fun x20 =>
  some (decide (0 ≤ x20))

/-- (fishplate/fare.Cond).holds-3 -/
noncomputable def mFareCondHolds_3_5 (rcmFareCondHolds : (FareCond) → (FareTrip) → Option (Bool)) (s2 : FareCond) (x3 : Int) (x4 : Int) (x5 : Int) (x6 : Int) (x7 : Bool) (l11 : (List Int)) : Option (Bool) :=
  (rcmFareCondHolds s2 (⟨x3, x4, x5, x6, x7, l11⟩ : FareTrip)).bind fun x17 =>
  some x17

noncomputable def mSlicesIndexFunc_3_L56 (l5 : (List FareCond)) (x6 : Int) (x7 : Int) (x8 : Int) (x9 : Int) (l14 : (List Int)) (x10 : Bool) (rcmFareCondHolds : (FareCond) → (FareTrip) → Option (Bool)) (k75 : Nat) : (Unit) → Option ((Unit) ⊕ (Int)) := fun _ =>
  (idx l5 (k75 : Int)).bind fun x79 =>
  (mFareCondHolds_3_5 rcmFareCondHolds x79 x6 x7 x8 x9 x10 l14).bind fun x89 =>
  if x89 = true then (
  some (.inr (k75 : Int)))
  else (
  some (.inl ()))

/-- slices.IndexFunc[[]fishplate/fare.Cond,fishplate/fare.Cond] -/
noncomputable def mSlicesIndexFunc_3 (rcmFareCondHolds : (FareCond) → (FareTrip) → Option (Bool)) (l5 : (List FareCond)) (x6 : Int) (x7 : Int) (x8 : Int) (x9 : Int) (x10 : Bool) (l14 : (List Int)) : Option (Int) :=
  (forM (mSlicesIndexFunc_3_L56 l5 x6 x7 x8 x9 l14 x10 rcmFareCondHolds) l5.length 0 ()).bind fun t => Sum.elim (fun _ =>
  some (-1)) (fun q => some q) t

/-- slices.ContainsFunc[[]fishplate/fare.Cond,fishplate/fare.Cond] -/
noncomputable def mSlicesContainsFunc_2 (rcmFareCondHolds : (FareCond) → (FareTrip) → Option (Bool)) (l5 : (List FareCond)) (x6 : Int) (x7 : Int) (x8 : Int) (x9 : Int) (x10 : Bool) (l14 : (List Int)) : Option (Bool) :=
  (mSlicesIndexFunc_3 rcmFareCondHolds l5 x6 x7 x8 x9 x10 l14).bind fun x20 =>
  some (decide (0 ≤ x20))

/-- (fishplate/fare.Cond).holds -/
noncomputable def mFareCondHolds : Nat → (FareCond) → (FareTrip) → Option (Bool)
  | 0 => fun _ _ => none
  | N + 1 => fun s1 s2 =>
  if s1.Kind = 1 then (
  some s2.Card)
  else (
  if s1.Kind = 2 then (
  (mFareCondHolds_1 s2.Age s1.Kind s1.A s1.B []).bind fun x208 =>
  some x208)
  else (
  if s1.Kind = 3 then (
  (mFareCondHolds_1 s2.At s1.Kind s1.A s1.B []).bind fun x213 =>
  some x213)
  else (
  if s1.Kind = 4 then (
  (mFareCondHolds_1 s2.Km s1.Kind s1.A s1.B []).bind fun x218 =>
  some x218)
  else (
  if s1.Kind = 5 then (
  (mFareCondHolds_1 (s2.Zones.length : Int) s1.Kind s1.A s1.B []).bind fun x223 =>
  some x223)
  else (
  if s1.Kind = 6 then (
  (mSlicesContains s2.Zones s1.A).bind fun x228 =>
  some x228)
  else (
  if s1.Kind = 7 then (
  (idx s2.Zones 0).bind fun x241 =>
  some (decide (x241 = s1.A)))
  else (
  if s1.Kind = 8 then (
  (chk ((s2.Zones.length : Int) - 1)).bind fun _ =>
  (idx s2.Zones ((s2.Zones.length : Int) - 1)).bind fun x264 =>
  some (decide (x264 = s1.A)))
  else (
  if s1.Kind = 9 then (
  (idx ([] : List FareCond) 0).bind fun x287 =>
  ((mFareCondHolds N) x287 s2).bind fun x297 =>
  some (!x297))
  else (
  if s1.Kind = 10 then (
  (mSlicesContainsFunc (mFareCondHolds N) [] s2.Day s2.At s2.Km s2.Age s2.Card s2.Zones).bind fun x300 =>
  some (!x300))
  else (
  if s1.Kind = 11 then (
  (mSlicesContainsFunc_2 (mFareCondHolds N) [] s2.Day s2.At s2.Km s2.Age s2.Card s2.Zones).bind fun x305 =>
  some x305)
  else (
  some true)))))))))))

/-- (fishplate/fare.Rule).change -/
noncomputable def mFareRuleChange (s1 : FareRule) (x2 : Int) : Option (Int) :=
  if s1.Do = 1 then (
  (chk (x2 * s1.N)).bind fun _ =>
  (ne0 100).bind fun _ =>
  (chk (Int.tdiv (x2 * s1.N) 100)).bind fun _ =>
  some (min 100000 (Int.tdiv (x2 * s1.N) 100)))
  else (
  if s1.Do = 2 then (
  (chk (x2 - s1.N)).bind fun _ =>
  some (max 0 (x2 - s1.N)))
  else (
  if s1.Do = 3 then (
  (chk (x2 + s1.N)).bind fun _ =>
  some (min 100000 (x2 + s1.N)))
  else (
  if s1.Do = 4 then (
  some s1.N)
  else (
  if s1.Do = 5 then (
  some (min x2 s1.N))
  else (
  some (max x2 s1.N))))))

noncomputable def mFareTariffPrice_L393 (s1 : FareTariff) (s8 : FareTrip) (k458 : Nat) : (Int × (List Int)) → Option ((Int × (List Int)) ⊕ (Int × (List Int))) := unc2 fun x456 l457 =>
  (idx s1.Rules (k458 : Int)).bind fun x462 =>
  (lim (fun N => mFareCondHolds N x462.If s8)).bind fun x473 =>
  if x473 = true then (
  (room 8 (l457.length + 1)).bind fun _ =>
  (mFareRuleChange x462 x456).bind fun x482 =>
  if x462.Stop = true then (
  some (.inr (x482, l457 ++ [(k458 : Int)])))
  else (
  some (.inl (x482, l457 ++ [(k458 : Int)]))))
  else (
  some (.inl (x456, l457)))

/-- (fishplate/fare.Tariff).price -/
noncomputable def mFareTariffPrice (s1 : FareTariff) (s8 : FareTrip) : Option (Int × (List Int)) :=
  (if s1.ByKm = true then (
  some s8.Km)
  else (
  some (s8.Zones.length : Int))).bind (fun x264 =>
  (mSlicesIndexFunc s1.Bands x264).bind fun x267 =>
  (if x267 < 0 then (
  (chk ((s1.Bands.length : Int) - 1)).bind fun _ =>
  some ((s1.Bands.length : Int) - 1))
  else (
  some x267)).bind (fun x275 =>
  (idx s1.Bands x275).bind fun x279 =>
  ((forM (mFareTariffPrice_L393 s1 s8) s1.Rules.length 0 ((x279.Price, []) : Int × (List Int))).bind fun t => Sum.elim (unc2 fun x456 l457 =>
  some (x456, l457)) (fun q => some q) t).bind (unc2 fun x390 l391 =>
  (chk (x390 + s1.Round)).bind fun _ =>
  (chk ((x390 + s1.Round) - 1)).bind fun _ =>
  (ne0 s1.Round).bind fun _ =>
  (chk (Int.tdiv ((x390 + s1.Round) - 1) s1.Round)).bind fun _ =>
  (chk ((Int.tdiv ((x390 + s1.Round) - 1) s1.Round) * s1.Round)).bind fun _ =>
  some ((Int.tdiv ((x390 + s1.Round) - 1) s1.Round) * s1.Round, l391))))

/-- fishplate/fare.Price -/
noncomputable def mFarePrice (s1 : FareTariff) (s8 : FareTrip) : Option (Int × Int × (List Int)) :=
  (mFareCheckTariff s1).bind fun x39 =>
  if x39 ≠ 0 then (
  some (0, x39, []))
  else (
  (mFareCheckTrip s8).bind fun x42 =>
  if x42 ≠ 0 then (
  some (0, x42, []))
  else (
  (mFareTariffPrice s1 s8).bind (unc2 fun x45 l46 =>
  some (x45, 0, l46))))

/-- fishplate/fishkeep2.fares -/
noncomputable def mFishkeep2Fares : Option (Bool) :=
  (mFarePrice (⟨false, [(⟨3, 500⟩ : FareBand)], 1, [(⟨(⟨1, 0, 0, ()⟩ : FareCond), 2, 7, false⟩ : FareRule)]⟩ : FareTariff) (⟨0, 0, 0, 0, true, [1]⟩ : FareTrip)).bind (unc3 fun x38 x39 _ =>
  (if x39 = 0 then (
  some (decide (x38 = 493)))
  else (
  some false)).bind (fun x51 =>
  some x51))

/-- fishplate/fishref2.within -/
noncomputable def mFishref2Within (x1 : Int) (x2 : Int) (x3 : Int) : Option (Bool) :=
  (if x2 ≤ x1 then (
  some (decide (x1 ≤ x3)))
  else (
  some false)).bind (fun x14 =>
  some x14)

noncomputable def mFishref2SharesFault_L74 (l5 : (List Int)) (k108 : Nat) : (Int) → Option ((Int) ⊕ (Int)) := fun x107 =>
  (idx l5 (k108 : Int)).bind fun x112 =>
  (mFishref2Within x112 0 10000).bind fun x122 =>
  if x122 = true then (
  (chk (x107 + x112)).bind fun _ =>
  some (.inl (x107 + x112)))
  else (
  some (.inr 2))

/-- fishplate/fishref2.SharesFault -/
noncomputable def mFishref2SharesFault (x1 : Int) (l5 : (List Int)) : Option (Int) :=
  (mFishref2Within x1 0 100000).bind fun x68 =>
  if x68 = true then (
  (mFishref2Within (l5.length : Int) 1 6).bind fun x71 =>
  if x71 = true then (
  (forM (mFishref2SharesFault_L74 l5) l5.length 0 0).bind fun t => Sum.elim (fun x107 =>
  if x107 = 0 then (
  some 1)
  else (
  some 0)) (fun q => some q) t)
  else (
  some 4))
  else (
  some 2)

/-- cmp.isNaN[int] -/
noncomputable def mCmpIsNaN (x1 : Int) : Option (Bool) :=
  some (decide (x1 ≠ x1))

/-- cmp.Compare[int] -/
noncomputable def mCmpCompare (x1 : Int) (x2 : Int) : Option (Int) :=
  (mCmpIsNaN x1).bind fun x13 =>
  (mCmpIsNaN x2).bind fun x15 =>
  if x13 = true then (
  if x15 = true then (
  some 0)
  else (
  some (-1)))
  else (
  if x15 = true then (
  some 1)
  else (
  if x1 < x2 then (
  some (-1))
  else (
  if x2 < x1 then (
  some 1)
  else (
  some 0))))

/-- fishplate/fare.Shares-1 -/
noncomputable def mFareShares_1 (x4 : Int) (x5 : Int) (x6 : Int) (l10 : (List Int)) (x11 : Int) : Option (Int) :=
  (idx l10 x5).bind fun x91 =>
  (chk (x6 * x91)).bind fun _ =>
  (ne0 x11).bind fun _ =>
  (idx l10 x4).bind fun x103 =>
  (chk (x6 * x103)).bind fun _ =>
  (ne0 x11).bind fun _ =>
  (mCmpCompare (Int.tmod (x6 * x91) x11) (Int.tmod (x6 * x103) x11)).bind fun x115 =>
  some x115

noncomputable def mSlicesInsertionSortCmpFunc_L10146 (x9 : Int) (l15 : (List Int)) (x11 : Int) (x16 : Int) : (Int × (List Int)) → Option ((Int × (List Int)) ⊕ ((List Int))) := unc2 fun x10756 l10757 =>
  (if x9 < x10756 then (
  (idx l10757 x10756).bind fun x10878 =>
  (chk (x10756 - 1)).bind fun _ =>
  (idx l10757 (x10756 - 1)).bind fun x10895 =>
  (mFareShares_1 x10878 x10895 x11 l15 x16).bind fun x10911 =>
  some (decide (x10911 < 0)))
  else (
  some false)).bind (fun x10837 =>
  if x10837 = true then (
  (chk (x10756 - 1)).bind fun _ =>
  (chk (x10756 - 1)).bind fun _ =>
  (idx l10757 (x10756 - 1)).bind fun x10988 =>
  (idx l10757 x10756).bind fun x11004 =>
  (idx l10757 x10756).bind fun _ =>
  (idx (put l10757 x10756 x10988) (x10756 - 1)).bind fun _ =>
  (chk (x10756 - 1)).bind fun _ =>
  some (.inl (x10756 - 1, put (put l10757 x10756 x10988) (x10756 - 1) x11004)))
  else (
  some (.inr l10757)))

noncomputable def mSlicesInsertionSortCmpFunc_L5542 (x9 : Int) (l15 : (List Int)) (x10 : Int) (x11 : Int) (x16 : Int) : (Int × (List Int)) → Option ((Int × (List Int)) ⊕ ((List Int))) := unc2 fun x9222 l9223 =>
  if x9222 < x10 then (
  (loopM (mSlicesInsertionSortCmpFunc_L10146 x9 l15 x11 x16) (x9222, l9223)).bind (fun l10143 =>
  (chk (x9222 + 1)).bind fun _ =>
  some (.inl (x9222 + 1, l10143))))
  else (
  some (.inr l9223))

/-- slices.insertionSortCmpFunc[int] -/
noncomputable def mSlicesInsertionSortCmpFunc (x9 : Int) (x10 : Int) (x11 : Int) (l15 : (List Int)) (x16 : Int) (l17 : (List Int)) : Option ((List Int)) :=
  (chk (x9 + 1)).bind fun _ =>
  loopM (mSlicesInsertionSortCmpFunc_L5542 x9 l15 x10 x11 x16) (x9 + 1, l17)

noncomputable def mSlicesSwapRangeCmpFunc_L480 (x9 : Int) (x10 : Int) (x11 : Int) : (Int × (List Int)) → Option ((Int × (List Int)) ⊕ ((List Int))) := unc2 fun x786 l787 =>
  if x786 < x11 then (
  (chk (x9 + x786)).bind fun _ =>
  (chk (x10 + x786)).bind fun _ =>
  (chk (x10 + x786)).bind fun _ =>
  (idx l787 (x10 + x786)).bind fun x865 =>
  (chk (x9 + x786)).bind fun _ =>
  (idx l787 (x9 + x786)).bind fun x882 =>
  (idx l787 (x9 + x786)).bind fun _ =>
  (idx (put l787 (x9 + x786) x865) (x10 + x786)).bind fun _ =>
  (chk (x786 + 1)).bind fun _ =>
  some (.inl (x786 + 1, put (put l787 (x9 + x786) x865) (x10 + x786) x882)))
  else (
  some (.inr l787))

/-- slices.swapRangeCmpFunc[int] -/
noncomputable def mSlicesSwapRangeCmpFunc (x9 : Int) (x10 : Int) (x11 : Int) (_x12 : Int) (_l16 : (List Int)) (_x17 : Int) (l18 : (List Int)) : Option ((List Int)) :=
  loopM (mSlicesSwapRangeCmpFunc_L480 x9 x10 x11) (0, l18)

noncomputable def mSlicesRotateCmpFunc_L303 (l16 : (List Int)) (x10 : Int) (x12 : Int) (x17 : Int) : (Int × Int × (List Int)) → Option ((Int × Int × (List Int)) ⊕ (Int × (List Int))) := unc3 fun x360 x361 l362 =>
  if x360 ≠ x361 then (
  if x361 < x360 then (
  (chk (x10 - x360)).bind fun _ =>
  (mSlicesSwapRangeCmpFunc (x10 - x360) x10 x361 x12 l16 x17 l362).bind fun l367 =>
  (chk (x360 - x361)).bind fun _ =>
  some (.inl (x360 - x361, x361, l367)))
  else (
  (chk (x10 - x360)).bind fun _ =>
  (chk (x10 + x361)).bind fun _ =>
  (chk ((x10 + x361) - x360)).bind fun _ =>
  (mSlicesSwapRangeCmpFunc (x10 - x360) ((x10 + x361) - x360) x360 x12 l16 x17 l362).bind fun l378 =>
  (chk (x361 - x360)).bind fun _ =>
  some (.inl (x360, x361 - x360, l378))))
  else (
  some (.inr (x360, l362)))

/-- slices.rotateCmpFunc[int] -/
noncomputable def mSlicesRotateCmpFunc (x9 : Int) (x10 : Int) (x11 : Int) (x12 : Int) (l16 : (List Int)) (x17 : Int) (l18 : (List Int)) : Option ((List Int)) :=
  (chk (x10 - x9)).bind fun _ =>
  (chk (x11 - x10)).bind fun _ =>
  (loopM (mSlicesRotateCmpFunc_L303 l16 x10 x12 x17) (x10 - x9, x11 - x10, l18)).bind (unc2 fun x299 l300 =>
  (chk (x10 - x299)).bind fun _ =>
  (mSlicesSwapRangeCmpFunc (x10 - x299) x10 x299 x12 l16 x17 l300).bind fun l387 =>
  some l387)

noncomputable def mSlicesSymMergeCmpFunc_L6955 (x9 : Int) (l16 : (List Int)) (l18 : (List Int)) (x12 : Int) (x17 : Int) : (Int × Int) → Option ((Int × Int) ⊕ (Int)) := unc2 fun x7114 x7115 =>
  if x7114 < x7115 then (
  (chk (x7114 + x7115)).bind fun _ =>
  (shN 1).bind fun _ =>
  (idx l18 (IntKind.wrap .i64 (shrI .u64 (IntKind.wrap .u64 (x7114 + x7115)) 1))).bind fun x7155 =>
  (idx l18 x9).bind fun x7171 =>
  (mFareShares_1 x7155 x7171 x12 l16 x17).bind fun x7187 =>
  if x7187 < 0 then (
  (chk ((IntKind.wrap .i64 (shrI .u64 (IntKind.wrap .u64 (x7114 + x7115)) 1)) + 1)).bind fun _ =>
  some (.inl ((IntKind.wrap .i64 (shrI .u64 (IntKind.wrap .u64 (x7114 + x7115)) 1)) + 1, x7115)))
  else (
  some (.inl (x7114, IntKind.wrap .i64 (shrI .u64 (IntKind.wrap .u64 (x7114 + x7115)) 1)))))
  else (
  some (.inr x7114))

noncomputable def mSlicesSymMergeCmpFunc_L7648 (x6953 : Int) : (Int × (List Int)) → Option ((Int × (List Int)) ⊕ ((List Int))) := unc2 fun x7948 l7949 =>
  (chk (x6953 - 1)).bind fun _ =>
  if x7948 < (x6953 - 1) then (
  (chk (x7948 + 1)).bind fun _ =>
  (chk (x7948 + 1)).bind fun _ =>
  (idx l7949 (x7948 + 1)).bind fun x8025 =>
  (idx l7949 x7948).bind fun x8041 =>
  (idx l7949 x7948).bind fun _ =>
  (idx (put l7949 x7948 x8025) (x7948 + 1)).bind fun _ =>
  (chk (x7948 + 1)).bind fun _ =>
  some (.inl (x7948 + 1, put (put l7949 x7948 x8025) (x7948 + 1) x8041)))
  else (
  some (.inr l7949))

noncomputable def mSlicesSymMergeCmpFunc_L8339 (l16 : (List Int)) (l18 : (List Int)) (x10 : Int) (x12 : Int) (x17 : Int) : (Int × Int) → Option ((Int × Int) ⊕ (Int)) := unc2 fun x8498 x8499 =>
  if x8498 < x8499 then (
  (chk (x8498 + x8499)).bind fun _ =>
  (shN 1).bind fun _ =>
  (idx l18 x10).bind fun x8539 =>
  (idx l18 (IntKind.wrap .i64 (shrI .u64 (IntKind.wrap .u64 (x8498 + x8499)) 1))).bind fun x8555 =>
  (mFareShares_1 x8539 x8555 x12 l16 x17).bind fun x8571 =>
  if x8571 < 0 then (
  some (.inl (x8498, IntKind.wrap .i64 (shrI .u64 (IntKind.wrap .u64 (x8498 + x8499)) 1))))
  else (
  (chk ((IntKind.wrap .i64 (shrI .u64 (IntKind.wrap .u64 (x8498 + x8499)) 1)) + 1)).bind fun _ =>
  some (.inl ((IntKind.wrap .i64 (shrI .u64 (IntKind.wrap .u64 (x8498 + x8499)) 1)) + 1, x8499))))
  else (
  some (.inr x8498))

noncomputable def mSlicesSymMergeCmpFunc_L9029 (x8337 : Int) : (Int × (List Int)) → Option ((Int × (List Int)) ⊕ ((List Int))) := unc2 fun x9327 l9328 =>
  if x8337 < x9327 then (
  (chk (x9327 - 1)).bind fun _ =>
  (chk (x9327 - 1)).bind fun _ =>
  (idx l9328 (x9327 - 1)).bind fun x9403 =>
  (idx l9328 x9327).bind fun x9419 =>
  (idx l9328 x9327).bind fun _ =>
  (idx (put l9328 x9327 x9403) (x9327 - 1)).bind fun _ =>
  (chk (x9327 - 1)).bind fun _ =>
  some (.inl (x9327 - 1, put (put l9328 x9327 x9403) (x9327 - 1) x9419)))
  else (
  some (.inr l9328))

noncomputable def mSlicesSymMergeCmpFunc_L9734 (x9 : Int) (l16 : (List Int)) (l18 : (List Int)) (x10 : Int) (x11 : Int) (x12 : Int) (x17 : Int) : (Int × Int) → Option ((Int × Int) ⊕ (Int)) := unc2 fun x9897 x9898 =>
  if x9897 < x9898 then (
  (chk (x9897 + x9898)).bind fun _ =>
  (shN 1).bind fun _ =>
  (chk ((((IntKind.wrap .i64 (shrI .u64 (IntKind.wrap .u64 (x9 + x11)) 1)) + x10) - 1) - (IntKind.wrap .i64 (shrI .u64 (IntKind.wrap .u64 (x9897 + x9898)) 1)))).bind fun _ =>
  (idx l18 ((((IntKind.wrap .i64 (shrI .u64 (IntKind.wrap .u64 (x9 + x11)) 1)) + x10) - 1) - (IntKind.wrap .i64 (shrI .u64 (IntKind.wrap .u64 (x9897 + x9898)) 1)))).bind fun x9940 =>
  (idx l18 (IntKind.wrap .i64 (shrI .u64 (IntKind.wrap .u64 (x9897 + x9898)) 1))).bind fun x9956 =>
  (mFareShares_1 x9940 x9956 x12 l16 x17).bind fun x9972 =>
  if x9972 < 0 then (
  some (.inl (x9897, IntKind.wrap .i64 (shrI .u64 (IntKind.wrap .u64 (x9897 + x9898)) 1))))
  else (
  (chk ((IntKind.wrap .i64 (shrI .u64 (IntKind.wrap .u64 (x9897 + x9898)) 1)) + 1)).bind fun _ =>
  some (.inl ((IntKind.wrap .i64 (shrI .u64 (IntKind.wrap .u64 (x9897 + x9898)) 1)) + 1, x9898))))
  else (
  some (.inr x9897))

/-- slices.symMergeCmpFunc[int] -/
noncomputable def mSlicesSymMergeCmpFunc : Nat → (Int) → (Int) → (Int) → (Int) → ((List Int)) → (Int) → ((List Int)) → Option ((List Int))
  | 0 => fun _ _ _ _ _ _ _ => none
  | N + 1 => fun x9 x10 x11 x12 l16 x17 l18 =>
  (chk (x10 - x9)).bind fun _ =>
  if (x10 - x9) = 1 then (
  (loopM (mSlicesSymMergeCmpFunc_L6955 x9 l16 l18 x12 x17) (x10, x11)).bind (fun x6953 =>
  (loopM (mSlicesSymMergeCmpFunc_L7648 x6953) (x9, l18)).bind (fun l7645 =>
  some l7645)))
  else (
  (chk (x11 - x10)).bind fun _ =>
  if (x11 - x10) = 1 then (
  (loopM (mSlicesSymMergeCmpFunc_L8339 l16 l18 x10 x12 x17) (x9, x10)).bind (fun x8337 =>
  (loopM (mSlicesSymMergeCmpFunc_L9029 x8337) (x10, l18)).bind (fun l9026 =>
  some l9026)))
  else (
  (chk (x9 + x11)).bind fun _ =>
  (shN 1).bind fun _ =>
  (chk ((IntKind.wrap .i64 (shrI .u64 (IntKind.wrap .u64 (x9 + x11)) 1)) + x10)).bind fun _ =>
  (if (IntKind.wrap .i64 (shrI .u64 (IntKind.wrap .u64 (x9 + x11)) 1)) < x10 then (
  (chk (((IntKind.wrap .i64 (shrI .u64 (IntKind.wrap .u64 (x9 + x11)) 1)) + x10) - x11)).bind fun _ =>
  some (((IntKind.wrap .i64 (shrI .u64 (IntKind.wrap .u64 (x9 + x11)) 1)) + x10) - x11, IntKind.wrap .i64 (shrI .u64 (IntKind.wrap .u64 (x9 + x11)) 1)))
  else (
  some (x9, x10))).bind (unc2 fun x9480 x9481 =>
  (chk (((IntKind.wrap .i64 (shrI .u64 (IntKind.wrap .u64 (x9 + x11)) 1)) + x10) - 1)).bind fun _ =>
  (loopM (mSlicesSymMergeCmpFunc_L9734 x9 l16 l18 x10 x11 x12 x17) (x9480, x9481)).bind (fun x9732 =>
  (chk (((IntKind.wrap .i64 (shrI .u64 (IntKind.wrap .u64 (x9 + x11)) 1)) + x10) - x9732)).bind fun _ =>
  ((if x9732 < x10 then (
  some (decide (x10 < (((IntKind.wrap .i64 (shrI .u64 (IntKind.wrap .u64 (x9 + x11)) 1)) + x10) - x9732))))
  else (
  some false)).bind (fun x10004 =>
  if x10004 = true then (
  (mSlicesRotateCmpFunc x9732 x10 (((IntKind.wrap .i64 (shrI .u64 (IntKind.wrap .u64 (x9 + x11)) 1)) + x10) - x9732) x12 l16 x17 l18).bind fun l10008 =>
  some l10008)
  else (
  some l18))).bind (fun l9998 =>
  ((if x9 < x9732 then (
  some (decide (x9732 < (IntKind.wrap .i64 (shrI .u64 (IntKind.wrap .u64 (x9 + x11)) 1)))))
  else (
  some false)).bind (fun x10040 =>
  if x10040 = true then (
  ((mSlicesSymMergeCmpFunc N) x9 x9732 (IntKind.wrap .i64 (shrI .u64 (IntKind.wrap .u64 (x9 + x11)) 1)) x12 l16 x17 l9998).bind fun l10044 =>
  some l10044)
  else (
  some l9998))).bind (fun l10034 =>
  (if (IntKind.wrap .i64 (shrI .u64 (IntKind.wrap .u64 (x9 + x11)) 1)) < (((IntKind.wrap .i64 (shrI .u64 (IntKind.wrap .u64 (x9 + x11)) 1)) + x10) - x9732) then (
  some (decide ((((IntKind.wrap .i64 (shrI .u64 (IntKind.wrap .u64 (x9 + x11)) 1)) + x10) - x9732) < x11)))
  else (
  some false)).bind (fun x10054 =>
  if x10054 = true then (
  ((mSlicesSymMergeCmpFunc N) (IntKind.wrap .i64 (shrI .u64 (IntKind.wrap .u64 (x9 + x11)) 1)) (((IntKind.wrap .i64 (shrI .u64 (IntKind.wrap .u64 (x9 + x11)) 1)) + x10) - x9732) x11 x12 l16 x17 l10034).bind fun l10058 =>
  some l10058)
  else (
  some l10034))))))))

noncomputable def mSlicesStableCmpFunc_L608 (x9 : Int) (l14 : (List Int)) (x10 : Int) (x15 : Int) : (Int × Int × (List Int)) → Option ((Int × Int × (List Int)) ⊕ (Int × (List Int))) := unc3 fun x639 x640 l641 =>
  if x640 ≤ x9 then (
  (mSlicesInsertionSortCmpFunc x639 x640 x10 l14 x15 l641).bind fun l644 =>
  (chk (x640 + 20)).bind fun _ =>
  some (.inl (x640, x640 + 20, l644)))
  else (
  some (.inr (x639, l641)))

noncomputable def mSlicesStableCmpFunc_L1011 (x9 : Int) (l14 : (List Int)) (x10 : Int) (x15 : Int) (x947 : Int) : (Int × Int × (List Int)) → Option ((Int × Int × (List Int)) ⊕ (Int × (List Int))) := unc3 fun x1046 x1047 l1048 =>
  if x1047 ≤ x9 then (
  (chk (x1046 + x947)).bind fun _ =>
  (lim (fun N => mSlicesSymMergeCmpFunc N x1046 (x1046 + x947) x1047 x10 l14 x15 l1048)).bind fun l1052 =>
  (chk (2 * x947)).bind fun _ =>
  (chk (x1047 + (2 * x947))).bind fun _ =>
  some (.inl (x1047, x1047 + (2 * x947), l1052)))
  else (
  some (.inr (x1046, l1048)))

noncomputable def mSlicesStableCmpFunc_L659 (x9 : Int) (l14 : (List Int)) (x10 : Int) (x15 : Int) : (Int × (List Int)) → Option ((Int × (List Int)) ⊕ ((List Int))) := unc2 fun x947 l948 =>
  if x947 < x9 then (
  (chk (2 * x947)).bind fun _ =>
  (loopM (mSlicesStableCmpFunc_L1011 x9 l14 x10 x15 x947) (0, 2 * x947, l948)).bind (unc2 fun x1007 l1008 =>
  ((chk (x1007 + x947)).bind fun _ =>
  if (x1007 + x947) < x9 then (
  (lim (fun N => mSlicesSymMergeCmpFunc N x1007 (x1007 + x947) x9 x10 l14 x15 l1008)).bind fun l1080 =>
  some l1080)
  else (
  some l1008)).bind (fun l1075 =>
  (chk (x947 * 2)).bind fun _ =>
  some (.inl (x947 * 2, l1075)))))
  else (
  some (.inr l948))

/-- slices.stableCmpFunc[int] -/
noncomputable def mSlicesStableCmpFunc (x9 : Int) (x10 : Int) (l14 : (List Int)) (x15 : Int) (l16 : (List Int)) : Option ((List Int)) :=
  (loopM (mSlicesStableCmpFunc_L608 x9 l14 x10 x15) (0, 20, l16)).bind (unc2 fun x604 l605 =>
  (mSlicesInsertionSortCmpFunc x604 x9 x10 l14 x15 l605).bind fun l652 =>
  loopM (mSlicesStableCmpFunc_L659 x9 l14 x10 x15) (20, l652))

/-- slices.SortStableFunc[[]int,int] -/
noncomputable def mSlicesSortStableFunc (x9 : Int) (l13 : (List Int)) (x14 : Int) (l15 : (List Int)) : Option ((List Int)) :=
  (mSlicesStableCmpFunc (l15.length : Int) x9 l13 x14 l15).bind fun l28 =>
  some l28

noncomputable def mFareShares_L669 (l654 : (List Int)) (k775 : Nat) : ((List Int)) → Option ((List Int)) := fun l774 =>
  (idx l654 (k775 : Int)).bind fun x778 =>
  (idx l774 x778).bind fun x788 =>
  (chk (x788 + 1)).bind fun _ =>
  (idx l774 x778).bind fun _ =>
  some (put l774 x778 (x788 + 1))

noncomputable def mFareShares_L482 (l5 : (List Int)) (x1 : Int) (x460 : Int) (k598 : Nat) : (Int × (List Int) × (List Int)) → Option (Int × (List Int) × (List Int)) := unc3 fun x595 l596 l597 =>
  (idx l5 (k598 : Int)).bind fun x601 =>
  (chk (x1 * x601)).bind fun _ =>
  (ne0 x460).bind fun _ =>
  (chk (Int.tdiv (x1 * x601) x460)).bind fun _ =>
  (room 8 (l596.length + 1)).bind fun _ =>
  (idx (l596 ++ [Int.tdiv (x1 * x601) x460]) (k598 : Int)).bind fun x620 =>
  (chk (x595 - x620)).bind fun _ =>
  (room 8 (l597.length + 1)).bind fun _ =>
  some (x595 - x620, l596 ++ [Int.tdiv (x1 * x601) x460], l597 ++ [(k598 : Int)])

noncomputable def mFareShares_L427 (l5 : (List Int)) (k461 : Nat) : (Int) → Option ((Int) ⊕ (Int × (List Int))) := fun x460 =>
  (idx l5 (k461 : Int)).bind fun x465 =>
  (mFareWithin x465 0 10000).bind fun x475 =>
  if x475 = true then (
  (chk (x460 + x465)).bind fun _ =>
  some (.inl (x460 + x465)))
  else (
  some (.inr (2, [])))

/-- fishplate/fare.Shares -/
noncomputable def mFareShares (x1 : Int) (l5 : (List Int)) : Option (Int × (List Int)) :=
  (mFareWithin x1 0 100000).bind fun x420 =>
  if x420 = true then (
  (mFareWithin (l5.length : Int) 1 6).bind fun x423 =>
  if x423 = true then (
  (forM (mFareShares_L427 l5) l5.length 0 0).bind fun t => Sum.elim (fun x460 =>
  if x460 = 0 then (
  some (1, []))
  else (
  (forS (mFareShares_L482 l5 x1 x460) l5.length 0 ((x1, [], []) : Int × (List Int) × (List Int))).bind (unc3 fun x595 l596 l597 =>
  (mSlicesSortStableFunc x1 l5 x460 l597).bind fun l643 =>
  (cutS l643 0 x595).bind fun l654 =>
  (forS (mFareShares_L669 l654) l654.length 0 l596).bind (fun l774 =>
  some (0, l774))))) (fun q => some q) t)
  else (
  some (4, [])))
  else (
  some (2, []))

noncomputable def mFishkeep2FareWhole_L389 (l5 : (List Int)) (x1 : Int) (l332 : (List Int)) (x374 : Int) (k555 : Nat) : (Int) → Option ((Int) ⊕ (Bool)) := fun x554 =>
  (idx l332 (k555 : Int)).bind fun x559 =>
  (chk (x554 + x559)).bind fun _ =>
  (if x559 < 0 then (
  some true)
  else (
  if x1 < x559 then (
  some true)
  else (
  (chk (x559 * x374)).bind fun _ =>
  (idx l5 (k555 : Int)).bind fun x612 =>
  (chk (x1 * x612)).bind fun _ =>
  (chk ((x559 * x374) - (x1 * x612))).bind fun _ =>
  if x374 ≤ ((x559 * x374) - (x1 * x612)) then (
  some true)
  else (
  (idx l5 (k555 : Int)).bind fun x625 =>
  (chk (x1 * x625)).bind fun _ =>
  (chk (x559 * x374)).bind fun _ =>
  (chk ((x1 * x625) - (x559 * x374))).bind fun _ =>
  some (decide (x374 ≤ ((x1 * x625) - (x559 * x374)))))))).bind (fun x607 =>
  if x607 = true then (
  some (.inr false))
  else (
  some (.inl (x554 + x559))))

noncomputable def mFishkeep2FareWhole_L347 (l5 : (List Int)) (k375 : Nat) : (Int) → Option (Int) := fun x374 =>
  (idx l5 (k375 : Int)).bind fun x378 =>
  (chk (x374 + x378)).bind fun _ =>
  some (x374 + x378)

/-- fishplate/fishkeep2.FareWhole -/
noncomputable def mFishkeep2FareWhole (x1 : Int) (l5 : (List Int)) : Option (Bool) :=
  (mFishkeep2AwakeFare).bind fun _ =>
  (mFishkeep2Fares).bind fun x325 =>
  if x325 = true then (
  (mFishref2SharesFault x1 l5).bind fun x328 =>
  if x328 ≠ 0 then (
  some true)
  else (
  (mFareShares x1 l5).bind (unc2 fun x331 l332 =>
  (if x331 ≠ 0 then (
  some true)
  else (
  some (decide ((l332.length : Int) ≠ (l5.length : Int))))).bind (fun x343 =>
  if x343 = true then (
  some false)
  else (
  (forS (mFishkeep2FareWhole_L347 l5) l5.length 0 0).bind (fun x374 =>
  (forM (mFishkeep2FareWhole_L389 l5 x1 l332 x374) l332.length 0 0).bind fun t => Sum.elim (fun x554 =>
  some (decide (x554 = x1))) (fun q => some q) t))))))
  else (
  some false)

end Go.Proofs.YtnlnohallnfbmaaGreatDoor
