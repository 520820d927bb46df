/- The models of the functions, as the extractor printed them. -/
import Derived.Test.YtnlnohallnfbmaaGreatDoorXG
import Derived.Test.YtnlnohallnfbmaaGreatDoorXM
set_option linter.unusedVariables false
set_option linter.unusedSimpArgs false
namespace Go.Proofs.YtnlnohallnfbmaaGreatDoor
open Go.RowKit Go.Fp

structure FareSpan where
  From : Int
  To : Int
  deriving DecidableEq
def rFareSpan : RT FareSpan := (RT.cat (RT.on (RT.int .i64) FareSpan.From) (RT.on (RT.int .i64) FareSpan.To))
structure FareBand where
  Upto : Int
  Price : Int
  deriving DecidableEq
def rFareBand : RT FareBand := (RT.cat (RT.on (RT.int .i64) FareBand.Upto) (RT.on (RT.int .i64) FareBand.Price))
structure FareCond where
  Kind : Int
  A : Int
  B : Int
  Kids : Unit
def rFareCond : RT FareCond := (RT.cat (RT.on (RT.int .i64) FareCond.Kind) (RT.cat (RT.on (RT.int .i64) FareCond.A) (RT.cat (RT.on (RT.int .i64) FareCond.B) (RT.on RT.nilK FareCond.Kids))))
structure FareRule where
  If : FareCond
  Do : Int
  N : Int
  Stop : Bool
def rFareRule : RT FareRule := (RT.cat (RT.on rFareCond FareRule.If) (RT.cat (RT.on (RT.int .i64) FareRule.Do) (RT.cat (RT.on (RT.int .i64) FareRule.N) (RT.on RT.bool FareRule.Stop))))
structure FareTariff where
  ByKm : Bool
  Bands : (List FareBand)
  Round : Int
  Rules : (List FareRule)
def rFareTariff : RT FareTariff := (RT.cat (RT.on RT.bool FareTariff.ByKm) (RT.cat (RT.on (RT.list rFareBand) FareTariff.Bands) (RT.cat (RT.on (RT.int .i64) FareTariff.Round) (RT.on (RT.list rFareRule) FareTariff.Rules))))
structure FareTrip where
  Day : Int
  At : Int
  Km : Int
  Age : Int
  Card : Bool
  Zones : (List Int)
def rFareTrip : RT FareTrip := (RT.cat (RT.on (RT.int .i64) FareTrip.Day) (RT.cat (RT.on (RT.int .i64) FareTrip.At) (RT.cat (RT.on (RT.int .i64) FareTrip.Km) (RT.cat (RT.on (RT.int .i64) FareTrip.Age) (RT.cat (RT.on RT.bool FareTrip.Card) (RT.on (RT.list (RT.int .i64)) FareTrip.Zones))))))

/-- fishplate/fishkeep2.awakeFare -/
noncomputable def mFishkeep2AwakeFare : Option (Unit) :=
  some ()

/-- fishplate/fare.within -/
noncomputable def mFareWithin (x1 : Int) (x2 : Int) (x3 : Int) : Option (Bool) :=
  (if x2 ≤ x1 then (
  some (decide (x1 ≤ x3)))
  else (
  some false)).bind (fun x14 =>
  some x14)

noncomputable def mFareCondSize_L94 (rcmFareCondSize : (FareCond) → Option (Int × Int)) (k131 : Nat) : (Int × Int) → Option (Int × Int) := unc2 fun x129 x130 =>
  (idx ([] : List FareCond) (k131 : Int)).bind fun x134 =>
  (rcmFareCondSize x134).bind (unc2 fun x145 x146 =>
  (chk (x129 + x145)).bind fun _ =>
  some (x129 + x145, max x130 x146))

/-- (fishplate/fare.Cond).size -/
noncomputable def mFareCondSize : Nat → (FareCond) → Option (Int × Int)
  | 0 => fun _ => none
  | N + 1 => fun _ =>
  (forS (mFareCondSize_L94 (mFareCondSize N)) 0 0 (1, 0)).bind (unc2 fun x129 x130 =>
  (chk (x130 + 1)).bind fun _ =>
  some (x129, x130 + 1))

/-- fishplate/fare.numbers -/
noncomputable def mFareNumbers (x1 : Int) : Option (Int) :=
  (if x1 = 2 then (
  some (decide (x1 = 2)))
  else (
  if x1 = 3 then (
  some (decide (x1 = 3)))
  else (
  if x1 = 4 then (
  some (decide (x1 = 4)))
  else (
  some (decide (x1 = 5)))))).bind (fun x28 =>
  if x28 = true then (
  some 2)
  else (
  (if x1 = 6 then (
  some (decide (x1 = 6)))
  else (
  if x1 = 7 then (
  some (decide (x1 = 7)))
  else (
  some (decide (x1 = 8))))).bind (fun x38 =>
  if x38 = true then (
  some 1)
  else (
  some 0))))

noncomputable def mFareCondNode_L284 (rcmFareCondNode : (FareCond) → Option (Int)) (k301 : Nat) : (Unit) → Option ((Unit) ⊕ (Int)) := fun _ =>
  (idx ([] : List FareCond) (k301 : Int)).bind fun x305 =>
  (rcmFareCondNode x305).bind fun x316 =>
  if x316 ≠ 0 then (
  some (.inr x316))
  else (
  some (.inl ()))

/-- (fishplate/fare.Cond).node -/
noncomputable def mFareCondNode : Nat → (FareCond) → Option (Int)
  | 0 => fun _ => none
  | N + 1 => fun s1 =>
  (mFareNumbers s1.Kind).bind fun x214 =>
  (mFareWithin s1.Kind 0 11).bind fun x216 =>
  if x216 = true then (
  ((mFareWithin s1.A 0 28800).bind fun x228 =>
  if x228 = true then (
  (mFareWithin s1.B 0 28800).bind fun x231 =>
  some (!x231))
  else (
  some true)).bind (fun x226 =>
  if x226 = true then (
  some 2)
  else (
  (if x214 < 1 then (
  if s1.A ≠ 0 then (
  some true)
  else (
  if x214 < 2 then (
  if s1.B ≠ 0 then (
  some true)
  else (
  if x214 = 2 then (
  some (decide (s1.B < s1.A)))
  else (
  some false)))
  else (
  if x214 = 2 then (
  some (decide (s1.B < s1.A)))
  else (
  some false))))
  else (
  if x214 < 2 then (
  if s1.B ≠ 0 then (
  some true)
  else (
  if x214 = 2 then (
  some (decide (s1.B < s1.A)))
  else (
  some false)))
  else (
  if x214 = 2 then (
  some (decide (s1.B < s1.A)))
  else (
  some false)))).bind (fun x246 =>
  if x246 = true then (
  some 1)
  else (
  (if s1.Kind = 9 then (
  if (0 : Int) ≠ (1 : Int) then (
  some true)
  else (
  if 9 < s1.Kind then (
  if (0 : Int) < (2 : Int) then (
  some true)
  else (
  if s1.Kind < 9 then (
  some (decide ((0 : Int) < (0 : Int))))
  else (
  some false)))
  else (
  if s1.Kind < 9 then (
  some (decide ((0 : Int) < (0 : Int))))
  else (
  some false))))
  else (
  if 9 < s1.Kind then (
  if (0 : Int) < (2 : Int) then (
  some true)
  else (
  if s1.Kind < 9 then (
  some (decide ((0 : Int) < (0 : Int))))
  else (
  some false)))
  else (
  if s1.Kind < 9 then (
  some (decide ((0 : Int) < (0 : Int))))
  else (
  some false)))).bind (fun x271 =>
  if x271 = true then (
  some 1)
  else (
  (forM (mFareCondNode_L284 (mFareCondNode N)) 0 0 ()).bind fun t => Sum.elim (fun _ =>
  some 0) (fun q => some q) t)))))))
  else (
  some 15)

/-- (fishplate/fare.Cond).check -/
noncomputable def mFareCondCheck (s1 : FareCond) : Option (Int) :=
  (lim (fun N => mFareCondSize N s1)).bind (unc2 fun x17 x18 =>
  (if 40 < x17 then (
  some true)
  else (
  some (decide (6 < x18)))).bind (fun x23 =>
  if x23 = true then (
  some 4)
  else (
  (lim (fun N => mFareCondNode N s1)).bind fun x27 =>
  some x27)))

noncomputable def mFareCheckTariff_L633 (s1 : FareTariff) (k663 : Nat) : (Unit) → Option ((Unit) ⊕ (Int)) := fun _ =>
  (idx s1.Rules (k663 : Int)).bind fun x667 =>
  (mFareCondCheck x667.If).bind fun x678 =>
  if x678 ≠ 0 then (
  some (.inr x678))
  else (
  (if x667.Do = 1 then (
  some 200)
  else (
  some 100000)).bind (fun x685 =>
  (mFareWithin x667.Do 1 6).bind fun x688 =>
  if x688 = true then (
  (mFareWithin x667.N 0 x685).bind fun x692 =>
  if x692 = true then (
  some (.inl ()))
  else (
  some (.inr 2)))
  else (
  some (.inr 15))))

noncomputable def mFareCheckTariff_L365 (s1 : FareTariff) (k496 : Nat) : (Unit) → Option ((Unit) ⊕ (Int)) := fun _ =>
  (idx s1.Bands (k496 : Int)).bind fun x500 =>
  ((mFareWithin x500.Upto 1 1000).bind fun x520 =>
  if x520 = true then (
  (mFareWithin x500.Price 0 100000).bind fun x523 =>
  some (!x523))
  else (
  some true)).bind (fun x518 =>
  if x518 = true then (
  some (.inr 2))
  else (
  (if 0 < (k496 : Int) then (
  (chk ((k496 : Int) - 1)).bind fun _ =>
  (idx s1.Bands ((k496 : Int) - 1)).bind fun x605 =>
  if x500.Upto ≤ x605.Upto then (
  some true)
  else (
  (chk ((k496 : Int) - 1)).bind fun _ =>
  (idx s1.Bands ((k496 : Int) - 1)).bind fun x617 =>
  some (decide (x500.Price < x617.Price))))
  else (
  some false)).bind (fun x577 =>
  if x577 = true then (
  some (.inr 1))
  else (
  some (.inl ())))))

/-- fishplate/fare.CheckTariff -/
noncomputable def mFareCheckTariff (s1 : FareTariff) : Option (Int) :=
  ((mFareWithin (s1.Bands.length : Int) 1 8).bind fun x361 =>
  if x361 = true then (
  some (decide (20 < (s1.Rules.length : Int))))
  else (
  some true)).bind (fun x359 =>
  if x359 = true then (
  some 4)
  else (
  (forM (mFareCheckTariff_L365 s1) s1.Bands.length 0 ()).bind fun t => Sum.elim (fun _ =>
  (mFareWithin s1.Round 1 100).bind fun x630 =>
  if x630 = true then (
  (forM (mFareCheckTariff_L633 s1) s1.Rules.length 0 ()).bind fun t => Sum.elim (fun _ =>
  some 0) (fun q => some q) t)
  else (
  some 2)) (fun q => some q) t))

noncomputable def mFareCheckZones_L154 (l4 : (List Int)) (x5 : Bool) (k226 : Nat) : (Unit) → Option ((Unit) ⊕ (Int)) := fun _ =>
  (idx l4 (k226 : Int)).bind fun x230 =>
  (mFareWithin x230 0 19).bind fun x240 =>
  if x240 = true then (
  (if 0 < (k226 : Int) then (
  (chk ((k226 : Int) - 1)).bind fun _ =>
  (idx l4 ((k226 : Int) - 1)).bind fun x275 =>
  if x230 = x275 then (
  some true)
  else (
  if x5 = true then (
  (chk ((k226 : Int) - 1)).bind fun _ =>
  (idx l4 ((k226 : Int) - 1)).bind fun x288 =>
  some (decide (x230 < x288)))
  else (
  some false)))
  else (
  some false)).bind (fun x271 =>
  if x271 = true then (
  some (.inr 1))
  else (
  some (.inl ()))))
  else (
  some (.inr 2))

/-- fishplate/fare.checkZones -/
noncomputable def mFareCheckZones (l4 : (List Int)) (x5 : Bool) : Option (Int) :=
  (forM (mFareCheckZones_L154 l4 x5) l4.length 0 ()).bind fun t => Sum.elim (fun _ =>
  some 0) (fun q => some q) t

/-- fishplate/fare.CheckTrip -/
noncomputable def mFareCheckTrip (s1 : FareTrip) : Option (Int) :=
  ((mFareWithin s1.Day 0 6).bind fun x55 =>
  if x55 = true then (
  (mFareWithin s1.At 0 28800).bind fun x58 =>
  if x58 = true then (
  (mFareWithin s1.Km 0 1000).bind fun x61 =>
  if x61 = true then (
  (mFareWithin s1.Age 0 120).bind fun x64 =>
  some (!x64))
  else (
  some true))
  else (
  some true))
  else (
  some true)).bind (fun x53 =>
  if x53 = true then (
  some 2)
  else (
  (mFareWithin (s1.Zones.length : Int) 1 10).bind fun x67 =>
  if x67 = true then (
  (mFareCheckZones s1.Zones false).bind fun x70 =>
  some x70)
  else (
  some 4)))

/-- (fishplate/fare.Tariff).price-1 -/
noncomputable def mFareTariffPrice_1 (s2 : FareBand) (x3 : Int) : Option (Bool) :=
  some (decide (x3 ≤ s2.Upto))

noncomputable def mSlicesIndexFunc_L48 (l5 : (List FareBand)) (x6 : Int) (k67 : Nat) : (Unit) → Option ((Unit) ⊕ (Int)) := fun _ =>
  (idx l5 (k67 : Int)).bind fun x71 =>
  (mFareTariffPrice_1 x71 x6).bind fun x81 =>
  if x81 = true then (
  some (.inr (k67 : Int)))
  else (
  some (.inl ()))

/-- slices.IndexFunc[[]fishplate/fare.Band,fishplate/fare.Band] -/
noncomputable def mSlicesIndexFunc (l5 : (List FareBand)) (x6 : Int) : Option (Int) :=
  (forM (mSlicesIndexFunc_L48 l5 x6) l5.length 0 ()).bind fun t => Sum.elim (fun _ =>
  some (-1)) (fun q => some q) t

/-- (fishplate/fare.Cond).holds-1 -/
noncomputable def mFareCondHolds_1 (x7 : Int) (_x8 : Int) (x9 : Int) (x10 : Int) (_l11 : (List FareCond)) : Option (Bool) :=
  (mFareWithin x7 x9 x10).bind fun x16 =>
  some x16

noncomputable def mSlicesIndex_L39 (l4 : (List Int)) (x5 : Int) (k54 : Nat) : (Unit) → Option ((Unit) ⊕ (Int)) := fun _ =>
  (idx l4 (k54 : Int)).bind fun x58 =>
  if x5 = x58 then (
  some (.inr (k54 : Int)))
  else (
  some (.inl ()))

/-- slices.Index[[]int,int] -/
noncomputable def mSlicesIndex (l4 : (List Int)) (x5 : Int) : Option (Int) :=
  (forM (mSlicesIndex_L39 l4 x5) l4.length 0 ()).bind fun t => Sum.elim (fun _ =>
  some (-1)) (fun q => some q) t

/-- slices.Contains[[]int,int] -/
noncomputable def mSlicesContains (l4 : (List Int)) (x5 : Int) : Option (Bool) :=
  (mSlicesIndex l4 x5).bind fun x9 =>
  some (decide (0 ≤ x9))

/-- (fishplate/fare.Cond).holds-2 -/
noncomputable def mFareCondHolds_2_5 (rcmFareCondHolds : (FareCond) → (FareTrip) → Option (Bool)) (s2 : FareCond) (x3 : Int) (x4 : Int) (x5 : Int) (x6 : Int) (x7 : Bool) (l11 : (List Int)) : Option (Bool) :=
  (rcmFareCondHolds s2 (⟨x3, x4, x5, x6, x7, l11⟩ : FareTrip)).bind fun x17 =>
  some (!x17)

noncomputable def mSlicesIndexFunc_2_L56 (l5 : (List FareCond)) (x6 : Int) (x7 : Int) (x8 : Int) (x9 : Int) (l14 : (List Int)) (x10 : Bool) (rcmFareCondHolds : (FareCond) → (FareTrip) → Option (Bool)) (k75 : Nat) : (Unit) → Option ((Unit) ⊕ (Int)) := fun _ =>
  (idx l5 (k75 : Int)).bind fun x79 =>
  (mFareCondHolds_2_5 rcmFareCondHolds x79 x6 x7 x8 x9 x10 l14).bind fun x89 =>
  if x89 = true then (
  some (.inr (k75 : Int)))
  else (
  some (.inl ()))

/-- slices.IndexFunc[[]fishplate/fare.Cond,fishplate/fare.Cond] -/
noncomputable def mSlicesIndexFunc_2 (rcmFareCondHolds : (FareCond) → (FareTrip) → Option (Bool)) (l5 : (List FareCond)) (x6 : Int) (x7 : Int) (x8 : Int) (x9 : Int) (x10 : Bool) (l14 : (List Int)) : Option (Int) :=
  (forM (mSlicesIndexFunc_2_L56 l5 x6 x7 x8 x9 l14 x10 rcmFareCondHolds) l5.length 0 ()).bind fun t => Sum.elim (fun _ =>
  some (-1)) (fun q => some q) t

/-- slices.ContainsFunc[[]fishplate/fare.Cond,fishplate/fare.Cond] -/
noncomputable def mSlicesContainsFunc (rcmFareCondHolds : (FareCond) → (FareTrip) → Option (Bool)) (l5 : (List FareCond)) (x6 : Int) (x7 : Int) (x8 : Int) (x9 : Int) (x10 : Bool) (l14 : (List Int)) : Option (Bool) :=
  (mSlicesIndexFunc_2 rcmFareCondHolds l5 x6 x7 x8 x9 x10 l14).bind fun x20 =>
  some (decide (0 ≤ x20))

/-- (fishplate/fare.Cond).holds-3 -/
noncomputable def mFareCondHolds_3_5 (rcmFareCondHolds : (FareCond) → (FareTrip) → Option (Bool)) (s2 : FareCond) (x3 : Int) (x4 : Int) (x5 : Int) (x6 : Int) (x7 : Bool) (l11 : (List Int)) : Option (Bool) :=
  (rcmFareCondHolds s2 (⟨x3, x4, x5, x6, x7, l11⟩ : FareTrip)).bind fun x17 =>
  some x17

noncomputable def mSlicesIndexFunc_3_L56 (l5 : (List FareCond)) (x6 : Int) (x7 : Int) (x8 : Int) (x9 : Int) (l14 : (List Int)) (x10 : Bool) (rcmFareCondHolds : (FareCond) → (FareTrip) → Option (Bool)) (k75 : Nat) : (Unit) → Option ((Unit) ⊕ (Int)) := fun _ =>
  (idx l5 (k75 : Int)).bind fun x79 =>
  (mFareCondHolds_3_5 rcmFareCondHolds x79 x6 x7 x8 x9 x10 l14).bind fun x89 =>
  if x89 = true then (
  some (.inr (k75 : Int)))
  else (
  some (.inl ()))

/-- slices.IndexFunc[[]fishplate/fare.Cond,fishplate/fare.Cond] -/
noncomputable def mSlicesIndexFunc_3 (rcmFareCondHolds : (FareCond) → (FareTrip) → Option (Bool)) (l5 : (List FareCond)) (x6 : Int) (x7 : Int) (x8 : Int) (x9 : Int) (x10 : Bool) (l14 : (List Int)) : Option (Int) :=
  (forM (mSlicesIndexFunc_3_L56 l5 x6 x7 x8 x9 l14 x10 rcmFareCondHolds) l5.length 0 ()).bind fun t => Sum.elim (fun _ =>
  some (-1)) (fun q => some q) t

/-- slices.ContainsFunc[[]fishplate/fare.Cond,fishplate/fare.Cond] -/
noncomputable def mSlicesContainsFunc_2 (rcmFareCondHolds : (FareCond) → (FareTrip) → Option (Bool)) (l5 : (List FareCond)) (x6 : Int) (x7 : Int) (x8 : Int) (x9 : Int) (x10 : Bool) (l14 : (List Int)) : Option (Bool) :=
  (mSlicesIndexFunc_3 rcmFareCondHolds l5 x6 x7 x8 x9 x10 l14).bind fun x20 =>
  some (decide (0 ≤ x20))

/-- (fishplate/fare.Cond).holds -/
noncomputable def mFareCondHolds : Nat → (FareCond) → (FareTrip) → Option (Bool)
  | 0 => fun _ _ => none
  | N + 1 => fun s1 s2 =>
  if s1.Kind = 1 then (
  some s2.Card)
  else (
  if s1.Kind = 2 then (
  (mFareCondHolds_1 s2.Age s1.Kind s1.A s1.B []).bind fun x208 =>
  some x208)
  else (
  if s1.Kind = 3 then (
  (mFareCondHolds_1 s2.At s1.Kind s1.A s1.B []).bind fun x213 =>
  some x213)
  else (
  if s1.Kind = 4 then (
  (mFareCondHolds_1 s2.Km s1.Kind s1.A s1.B []).bind fun x218 =>
  some x218)
  else (
  if s1.Kind = 5 then (
  (mFareCondHolds_1 (s2.Zones.length : Int) s1.Kind s1.A s1.B []).bind fun x223 =>
  some x223)
  else (
  if s1.Kind = 6 then (
  (mSlicesContains s2.Zones s1.A).bind fun x228 =>
  some x228)
  else (
  if s1.Kind = 7 then (
  (idx s2.Zones 0).bind fun x241 =>
  some (decide (x241 = s1.A)))
  else (
  if s1.Kind = 8 then (
  (chk ((s2.Zones.length : Int) - 1)).bind fun _ =>
  (idx s2.Zones ((s2.Zones.length : Int) - 1)).bind fun x264 =>
  some (decide (x264 = s1.A)))
  else (
  if s1.Kind = 9 then (
  (idx ([] : List FareCond) 0).bind fun x287 =>
  ((mFareCondHolds N) x287 s2).bind fun x297 =>
  some (!x297))
  else (
  if s1.Kind = 10 then (
  (mSlicesContainsFunc (mFareCondHolds N) [] s2.Day s2.At s2.Km s2.Age s2.Card s2.Zones).bind fun x300 =>
  some (!x300))
  else (
  if s1.Kind = 11 then (
  (mSlicesContainsFunc_2 (mFareCondHolds N) [] s2.Day s2.At s2.Km s2.Age s2.Card s2.Zones).bind fun x305 =>
  some x305)
  else (
  some true)))))))))))

/-- (fishplate/fare.Rule).change -/
noncomputable def mFareRuleChange (s1 : FareRule) (x2 : Int) : Option (Int) :=
  if s1.Do = 1 then (
  (chk (x2 * s1.N)).bind fun _ =>
  (ne0 100).bind fun _ =>
  (chk (Int.tdiv (x2 * s1.N) 100)).bind fun _ =>
  some (min 100000 (Int.tdiv (x2 * s1.N) 100)))
  else (
  if s1.Do = 2 then (
  (chk (x2 - s1.N)).bind fun _ =>
  some (max 0 (x2 - s1.N)))
  else (
  if s1.Do = 3 then (
  (chk (x2 + s1.N)).bind fun _ =>
  some (min 100000 (x2 + s1.N)))
  else (
  if s1.Do = 4 then (
  some s1.N)
  else (
  if s1.Do = 5 then (
  some (min x2 s1.N))
  else (
  some (max x2 s1.N))))))

noncomputable def mFareTariffPrice_L393 (s1 : FareTariff) (s8 : FareTrip) (k458 : Nat) : (Int × (List Int)) → Option ((Int × (List Int)) ⊕ (Int × (List Int))) := unc2 fun x456 l457 =>
  (idx s1.Rules (k458 : Int)).bind fun x462 =>
  (lim (fun N => mFareCondHolds N x462.If s8)).bind fun x473 =>
  if x473 = true then (
  (room 8 (l457.length + 1)).bind fun _ =>
  (mFareRuleChange x462 x456).bind fun x482 =>
  if x462.Stop = true then (
  some (.inr (x482, l457 ++ [(k458 : Int)])))
  else (
  some (.inl (x482, l457 ++ [(k458 : Int)]))))
  else (
  some (.inl (x456, l457)))

/-- (fishplate/fare.Tariff).price -/
noncomputable def mFareTariffPrice (s1 : FareTariff) (s8 : FareTrip) : Option (Int × (List Int)) :=
  (if s1.ByKm = true then (
  some s8.Km)
  else (
  some (s8.Zones.length : Int))).bind (fun x264 =>
  (mSlicesIndexFunc s1.Bands x264).bind fun x267 =>
  (if x267 < 0 then (
  (chk ((s1.Bands.length : Int) - 1)).bind fun _ =>
  some ((s1.Bands.length : Int) - 1))
  else (
  some x267)).bind (fun x275 =>
  (idx s1.Bands x275).bind fun x279 =>
  ((forM (mFareTariffPrice_L393 s1 s8) s1.Rules.length 0 ((x279.Price, []) : Int × (List Int))).bind fun t => Sum.elim (unc2 fun x456 l457 =>
  some (x456, l457)) (fun q => some q) t).bind (unc2 fun x390 l391 =>
  (chk (x390 + s1.Round)).bind fun _ =>
  (chk ((x390 + s1.Round) - 1)).bind fun _ =>
  (ne0 s1.Round).bind fun _ =>
  (chk (Int.tdiv ((x390 + s1.Round) - 1) s1.Round)).bind fun _ =>
  (chk ((Int.tdiv ((x390 + s1.Round) - 1) s1.Round) * s1.Round)).bind fun _ =>
  some ((Int.tdiv ((x390 + s1.Round) - 1) s1.Round) * s1.Round, l391))))

/-- fishplate/fare.Price -/
noncomputable def mFarePrice (s1 : FareTariff) (s8 : FareTrip) : Option (Int × Int × (List Int)) :=
  (mFareCheckTariff s1).bind fun x39 =>
  if x39 ≠ 0 then (
  some (0, x39, []))
  else (
  (mFareCheckTrip s8).bind fun x42 =>
  if x42 ≠ 0 then (
  some (0, x42, []))
  else (
  (mFareTariffPrice s1 s8).bind (unc2 fun x45 l46 =>
  some (x45, 0, l46))))

/-- fishplate/fishkeep2.fares -/
noncomputable def mFishkeep2Fares : Option (Bool) :=
  (mFarePrice (⟨false, [(⟨3, 500⟩ : FareBand)], 1, [(⟨(⟨1, 0, 0, ()⟩ : FareCond), 2, 7, false⟩ : FareRule)]⟩ : FareTariff) (⟨0, 0, 0, 0, true, [1]⟩ : FareTrip)).bind (unc3 fun x38 x39 _ =>
  (if x39 = 0 then (
  some (decide (x38 = 493)))
  else (
  some false)).bind (fun x51 =>
  some x51))

/-- fishplate/fishref2.within -/
noncomputable def mFishref2Within (x1 : Int) (x2 : Int) (x3 : Int) : Option (Bool) :=
  (if x2 ≤ x1 then (
  some (decide (x1 ≤ x3)))
  else (
  some false)).bind (fun x14 =>
  some x14)

/-- math/bits.Mul64 -/
noncomputable def mBitsMul64 (x1 : Int) (x2 : Int) : Option (Int × Int) :=
  (shN 32).bind fun _ =>
  (shN 32).bind fun _ =>
  (shN 32).bind fun _ =>
  (shN 32).bind fun _ =>
  (shN 32).bind fun _ =>
  some (IntKind.wrap .u64 ((IntKind.wrap .u64 ((IntKind.wrap .u64 ((shrI .u64 x1 32) * (shrI .u64 x2 32))) + (shrI .u64 (IntKind.wrap .u64 ((IntKind.wrap .u64 ((shrI .u64 x1 32) * (andI .u64 x2 4294967295))) + (shrI .u64 (IntKind.wrap .u64 ((andI .u64 x1 4294967295) * (andI .u64 x2 4294967295))) 32))) 32))) + (shrI .u64 (IntKind.wrap .u64 ((andI .u64 (IntKind.wrap .u64 ((IntKind.wrap .u64 ((shrI .u64 x1 32) * (andI .u64 x2 4294967295))) + (shrI .u64 (IntKind.wrap .u64 ((andI .u64 x1 4294967295) * (andI .u64 x2 4294967295))) 32))) 4294967295) + (IntKind.wrap .u64 ((andI .u64 x1 4294967295) * (shrI .u64 x2 32))))) 32)), IntKind.wrap .u64 (x1 * x2))

/-- math/bits.Mul -/
noncomputable def mBitsMul (x1 : Int) (x2 : Int) : Option (Int × Int) :=
  (mBitsMul64 x1 x2).bind (unc2 fun x8 x9 =>
  some (x8, x9))

noncomputable def mSlicesRepeat_L612  : (Int × (List Int)) → Option ((Int × (List Int)) ⊕ ((List Int))) := unc2 fun x734 l735 =>
  if x734 < (l735.length : Int) then (
  (cutS l735 x734 (l735.length : Int)).bind fun _ =>
  (cutS l735 0 x734).bind fun l775 =>
  (chk (x734 + (cpyN x734 (l735.length : Int) l775))).bind fun _ =>
  some (.inl (x734 + (cpyN x734 (l735.length : Int) l775), cpyI l735 x734 (l735.length : Int) l775)))
  else (
  some (.inr l735))

/-- slices.Repeat[[]int,int] -/
noncomputable def mSlicesRepeat (l4 : (List Int)) (x5 : Int) : Option ((List Int)) :=
  if x5 < 0 then (
  none)
  else (
  (mBitsMul (IntKind.wrap .u64 (l4.length : Int)) (IntKind.wrap .u64 x5)).bind (unc2 fun x403 x404 =>
  (if 0 < x403 then (
  some true)
  else (
  some (decide (9223372036854775807 < x404)))).bind (fun x409 =>
  if x409 = true then (
  none)
  else (
  (mkLen 8 (IntKind.wrap .i64 x404)).bind fun m413 =>
  (loopM mSlicesRepeat_L612 (cpyN 0 ((List.replicate m413 (0 : Int)).length : Int) l4, cpyI (List.replicate m413 (0 : Int)) 0 ((List.replicate m413 (0 : Int)).length : Int) l4)).bind (fun l609 =>
  some l609)))))

noncomputable def mFishref2PackOf_L35107 (l4 : (List FareSpan)) (l34110 : (List Int)) (x34115 : FareSpan) : (Int × Int) → Option ((Int × Int) ⊕ (Int)) := unc2 fun x35758 x35759 =>
  if x35759 < (l4.length : Int) then (
  (((idx l34110 x35759).bind fun x36042 =>
  if x36042 = x35758 then (
  (idx l4 x35759).bind fun x36059 =>
  if x36059.From < x34115.To then (
  (idx l4 x35759).bind fun x36070 =>
  some (decide (x34115.From < x36070.To)))
  else (
  some false))
  else (
  some false)).bind (fun x36002 =>
  if x36002 = true then (
  (chk (x35758 + 1)).bind fun _ =>
  some (x35758 + 1, (-1)))
  else (
  some (x35758, x35759)))).bind (unc2 fun x35921 x35922 =>
  (chk (x35922 + 1)).bind fun _ =>
  some (.inl (x35921, x35922 + 1))))
  else (
  some (.inr x35758))

noncomputable def mFishref2PackOf_L30121 (l4 : (List FareSpan)) (x5 : Int) (k30117 : Nat) (k34111 : Nat) : ((List Int)) → Option (((List Int)) ⊕ (((List Int)) ⊕ (Int × (List Int)))) := fun l34110 =>
  (idx l4 (k34111 : Int)).bind fun x34115 =>
  if x34115.From ≠ (k30117 : Int) then (
  some (.inl l34110))
  else (
  (loopM (mFishref2PackOf_L35107 l4 l34110 x34115) (0, 0)).bind (fun x35105 =>
  if x5 ≤ x35105 then (
  some (.inr (.inr (14, []))))
  else (
  (idx l34110 (k34111 : Int)).bind fun _ =>
  some (.inl (put l34110 (k34111 : Int) x35105)))))

noncomputable def mFishref2PackOf_L18137 (l4 : (List FareSpan)) (x5 : Int) (k30117 : Nat) : ((List Int)) → Option (((List Int)) ⊕ (Int × (List Int))) := fun l30116 =>
  (forM (mFishref2PackOf_L30121 l4 x5 k30117) l4.length 0 l30116).bind fun t => Sum.elim (fun l34110 =>
  some (.inl l34110)) (fun q => some q) t

noncomputable def mFishref2PackOf_L18076 (l4 : (List FareSpan)) (x6 : Int) (k18100 : Nat) : (Unit) → Option ((Unit) ⊕ (Int × (List Int))) := fun _ =>
  (idx l4 (k18100 : Int)).bind fun x18104 =>
  (if x18104.From < 0 then (
  some true)
  else (
  if x18104.To ≤ x18104.From then (
  some true)
  else (
  some (decide (x6 ≤ x18104.To))))).bind (fun x18119 =>
  if x18119 = true then (
  some (.inr (2, [])))
  else (
  some (.inl ())))

/-- fishplate/fishref2.PackOf -/
noncomputable def mFishref2PackOf (l4 : (List FareSpan)) (x5 : Int) (x6 : Int) : Option (Int × (List Int)) :=
  if 200 < (l4.length : Int) then (
  some (4, []))
  else (
  ((mFishref2Within x5 1 80).bind fun x18070 =>
  if x18070 = true then (
  (mFishref2Within x6 2 12).bind fun x18073 =>
  some (!x18073))
  else (
  some true)).bind (fun x18068 =>
  if x18068 = true then (
  some (2, []))
  else (
  (forM (mFishref2PackOf_L18076 l4 x6) l4.length 0 ()).bind fun t => Sum.elim (fun _ =>
  (mSlicesRepeat [(-1)] (l4.length : Int)).bind fun l18129 =>
  (chk x6).bind fun _ =>
  (forM (mFishref2PackOf_L18137 l4 x5) ((x6).toNat) 0 l18129).bind fun t => Sum.elim (fun l30116 =>
  some (0, l30116)) (fun q => some q) t) (fun q => some q) t)))

/-- fishplate/fare.span -/
noncomputable def mFareSpan (x1 : Int) (x2 : Int) (x3 : Int) : Option (Bool) :=
  (if 0 ≤ x1 then (
  if x1 < x2 then (
  some (decide (x2 < x3)))
  else (
  some false))
  else (
  some false)).bind (fun x17 =>
  some x17)

/-- cmp.isNaN[int] -/
noncomputable def mCmpIsNaN (x1 : Int) : Option (Bool) :=
  some (decide (x1 ≠ x1))

/-- cmp.Compare[int] -/
noncomputable def mCmpCompare (x1 : Int) (x2 : Int) : Option (Int) :=
  (mCmpIsNaN x1).bind fun x13 =>
  (mCmpIsNaN x2).bind fun x15 =>
  if x13 = true then (
  if x15 = true then (
  some 0)
  else (
  some (-1)))
  else (
  if x15 = true then (
  some 1)
  else (
  if x1 < x2 then (
  some (-1))
  else (
  if x2 < x1 then (
  some 1)
  else (
  some 0))))

/-- fishplate/fare.Pack-1 -/
noncomputable def mFarePack_1 (x2 : Int) (x3 : Int) (l7 : (List FareSpan)) : Option (Int) :=
  (idx l7 x2).bind fun x75 =>
  (idx l7 x3).bind fun x85 =>
  (mCmpCompare x75.From x85.From).bind fun x95 =>
  some x95

noncomputable def mSlicesInsertionSortCmpFunc_L10142 (x7 : Int) (l12 : (List FareSpan)) : (Int × (List Int)) → Option ((Int × (List Int)) ⊕ ((List Int))) := unc2 fun x10752 l10753 =>
  (if x7 < x10752 then (
  (idx l10753 x10752).bind fun x10874 =>
  (chk (x10752 - 1)).bind fun _ =>
  (idx l10753 (x10752 - 1)).bind fun x10891 =>
  (mFarePack_1 x10874 x10891 l12).bind fun x10907 =>
  some (decide (x10907 < 0)))
  else (
  some false)).bind (fun x10833 =>
  if x10833 = true then (
  (chk (x10752 - 1)).bind fun _ =>
  (chk (x10752 - 1)).bind fun _ =>
  (idx l10753 (x10752 - 1)).bind fun x10984 =>
  (idx l10753 x10752).bind fun x11000 =>
  (idx l10753 x10752).bind fun _ =>
  (idx (put l10753 x10752 x10984) (x10752 - 1)).bind fun _ =>
  (chk (x10752 - 1)).bind fun _ =>
  some (.inl (x10752 - 1, put (put l10753 x10752 x10984) (x10752 - 1) x11000)))
  else (
  some (.inr l10753)))

noncomputable def mSlicesInsertionSortCmpFunc_L5538 (x7 : Int) (x8 : Int) (l12 : (List FareSpan)) : (Int × (List Int)) → Option ((Int × (List Int)) ⊕ ((List Int))) := unc2 fun x9218 l9219 =>
  if x9218 < x8 then (
  (loopM (mSlicesInsertionSortCmpFunc_L10142 x7 l12) (x9218, l9219)).bind (fun l10139 =>
  (chk (x9218 + 1)).bind fun _ =>
  some (.inl (x9218 + 1, l10139))))
  else (
  some (.inr l9219))

/-- slices.insertionSortCmpFunc[int] -/
noncomputable def mSlicesInsertionSortCmpFunc (x7 : Int) (x8 : Int) (l12 : (List FareSpan)) (l13 : (List Int)) : Option ((List Int)) :=
  (chk (x7 + 1)).bind fun _ =>
  loopM (mSlicesInsertionSortCmpFunc_L5538 x7 x8 l12) (x7 + 1, l13)

noncomputable def mSlicesSwapRangeCmpFunc_L476 (x7 : Int) (x8 : Int) (x9 : Int) : (Int × (List Int)) → Option ((Int × (List Int)) ⊕ ((List Int))) := unc2 fun x782 l783 =>
  if x782 < x9 then (
  (chk (x7 + x782)).bind fun _ =>
  (chk (x8 + x782)).bind fun _ =>
  (chk (x8 + x782)).bind fun _ =>
  (idx l783 (x8 + x782)).bind fun x861 =>
  (chk (x7 + x782)).bind fun _ =>
  (idx l783 (x7 + x782)).bind fun x878 =>
  (idx l783 (x7 + x782)).bind fun _ =>
  (idx (put l783 (x7 + x782) x861) (x8 + x782)).bind fun _ =>
  (chk (x782 + 1)).bind fun _ =>
  some (.inl (x782 + 1, put (put l783 (x7 + x782) x861) (x8 + x782) x878)))
  else (
  some (.inr l783))

/-- slices.swapRangeCmpFunc[int] -/
noncomputable def mSlicesSwapRangeCmpFunc (x7 : Int) (x8 : Int) (x9 : Int) (_l13 : (List FareSpan)) (l14 : (List Int)) : Option ((List Int)) :=
  loopM (mSlicesSwapRangeCmpFunc_L476 x7 x8 x9) (0, l14)

noncomputable def mSlicesRotateCmpFunc_L299 (x8 : Int) (l13 : (List FareSpan)) : (Int × Int × (List Int)) → Option ((Int × Int × (List Int)) ⊕ (Int × (List Int))) := unc3 fun x356 x357 l358 =>
  if x356 ≠ x357 then (
  if x357 < x356 then (
  (chk (x8 - x356)).bind fun _ =>
  (mSlicesSwapRangeCmpFunc (x8 - x356) x8 x357 l13 l358).bind fun l363 =>
  (chk (x356 - x357)).bind fun _ =>
  some (.inl (x356 - x357, x357, l363)))
  else (
  (chk (x8 - x356)).bind fun _ =>
  (chk (x8 + x357)).bind fun _ =>
  (chk ((x8 + x357) - x356)).bind fun _ =>
  (mSlicesSwapRangeCmpFunc (x8 - x356) ((x8 + x357) - x356) x356 l13 l358).bind fun l374 =>
  (chk (x357 - x356)).bind fun _ =>
  some (.inl (x356, x357 - x356, l374))))
  else (
  some (.inr (x356, l358)))

/-- slices.rotateCmpFunc[int] -/
noncomputable def mSlicesRotateCmpFunc (x7 : Int) (x8 : Int) (x9 : Int) (l13 : (List FareSpan)) (l14 : (List Int)) : Option ((List Int)) :=
  (chk (x8 - x7)).bind fun _ =>
  (chk (x9 - x8)).bind fun _ =>
  (loopM (mSlicesRotateCmpFunc_L299 x8 l13) (x8 - x7, x9 - x8, l14)).bind (unc2 fun x295 l296 =>
  (chk (x8 - x295)).bind fun _ =>
  (mSlicesSwapRangeCmpFunc (x8 - x295) x8 x295 l13 l296).bind fun l383 =>
  some l383)

noncomputable def mSlicesSymMergeCmpFunc_L6951 (x7 : Int) (l13 : (List FareSpan)) (l14 : (List Int)) : (Int × Int) → Option ((Int × Int) ⊕ (Int)) := unc2 fun x7110 x7111 =>
  if x7110 < x7111 then (
  (chk (x7110 + x7111)).bind fun _ =>
  (shN 1).bind fun _ =>
  (idx l14 (IntKind.wrap .i64 (shrI .u64 (IntKind.wrap .u64 (x7110 + x7111)) 1))).bind fun x7151 =>
  (idx l14 x7).bind fun x7167 =>
  (mFarePack_1 x7151 x7167 l13).bind fun x7183 =>
  if x7183 < 0 then (
  (chk ((IntKind.wrap .i64 (shrI .u64 (IntKind.wrap .u64 (x7110 + x7111)) 1)) + 1)).bind fun _ =>
  some (.inl ((IntKind.wrap .i64 (shrI .u64 (IntKind.wrap .u64 (x7110 + x7111)) 1)) + 1, x7111)))
  else (
  some (.inl (x7110, IntKind.wrap .i64 (shrI .u64 (IntKind.wrap .u64 (x7110 + x7111)) 1)))))
  else (
  some (.inr x7110))

noncomputable def mSlicesSymMergeCmpFunc_L7644 (x6949 : Int) : (Int × (List Int)) → Option ((Int × (List Int)) ⊕ ((List Int))) := unc2 fun x7944 l7945 =>
  (chk (x6949 - 1)).bind fun _ =>
  if x7944 < (x6949 - 1) then (
  (chk (x7944 + 1)).bind fun _ =>
  (chk (x7944 + 1)).bind fun _ =>
  (idx l7945 (x7944 + 1)).bind fun x8021 =>
  (idx l7945 x7944).bind fun x8037 =>
  (idx l7945 x7944).bind fun _ =>
  (idx (put l7945 x7944 x8021) (x7944 + 1)).bind fun _ =>
  (chk (x7944 + 1)).bind fun _ =>
  some (.inl (x7944 + 1, put (put l7945 x7944 x8021) (x7944 + 1) x8037)))
  else (
  some (.inr l7945))

noncomputable def mSlicesSymMergeCmpFunc_L8335 (x8 : Int) (l13 : (List FareSpan)) (l14 : (List Int)) : (Int × Int) → Option ((Int × Int) ⊕ (Int)) := unc2 fun x8494 x8495 =>
  if x8494 < x8495 then (
  (chk (x8494 + x8495)).bind fun _ =>
  (shN 1).bind fun _ =>
  (idx l14 x8).bind fun x8535 =>
  (idx l14 (IntKind.wrap .i64 (shrI .u64 (IntKind.wrap .u64 (x8494 + x8495)) 1))).bind fun x8551 =>
  (mFarePack_1 x8535 x8551 l13).bind fun x8567 =>
  if x8567 < 0 then (
  some (.inl (x8494, IntKind.wrap .i64 (shrI .u64 (IntKind.wrap .u64 (x8494 + x8495)) 1))))
  else (
  (chk ((IntKind.wrap .i64 (shrI .u64 (IntKind.wrap .u64 (x8494 + x8495)) 1)) + 1)).bind fun _ =>
  some (.inl ((IntKind.wrap .i64 (shrI .u64 (IntKind.wrap .u64 (x8494 + x8495)) 1)) + 1, x8495))))
  else (
  some (.inr x8494))

noncomputable def mSlicesSymMergeCmpFunc_L9025 (x8333 : Int) : (Int × (List Int)) → Option ((Int × (List Int)) ⊕ ((List Int))) := unc2 fun x9323 l9324 =>
  if x8333 < x9323 then (
  (chk (x9323 - 1)).bind fun _ =>
  (chk (x9323 - 1)).bind fun _ =>
  (idx l9324 (x9323 - 1)).bind fun x9399 =>
  (idx l9324 x9323).bind fun x9415 =>
  (idx l9324 x9323).bind fun _ =>
  (idx (put l9324 x9323 x9399) (x9323 - 1)).bind fun _ =>
  (chk (x9323 - 1)).bind fun _ =>
  some (.inl (x9323 - 1, put (put l9324 x9323 x9399) (x9323 - 1) x9415)))
  else (
  some (.inr l9324))

noncomputable def mSlicesSymMergeCmpFunc_L9730 (x7 : Int) (x8 : Int) (x9 : Int) (l13 : (List FareSpan)) (l14 : (List Int)) : (Int × Int) → Option ((Int × Int) ⊕ (Int)) := unc2 fun x9893 x9894 =>
  if x9893 < x9894 then (
  (chk (x9893 + x9894)).bind fun _ =>
  (shN 1).bind fun _ =>
  (chk ((((IntKind.wrap .i64 (shrI .u64 (IntKind.wrap .u64 (x7 + x9)) 1)) + x8) - 1) - (IntKind.wrap .i64 (shrI .u64 (IntKind.wrap .u64 (x9893 + x9894)) 1)))).bind fun _ =>
  (idx l14 ((((IntKind.wrap .i64 (shrI .u64 (IntKind.wrap .u64 (x7 + x9)) 1)) + x8) - 1) - (IntKind.wrap .i64 (shrI .u64 (IntKind.wrap .u64 (x9893 + x9894)) 1)))).bind fun x9936 =>
  (idx l14 (IntKind.wrap .i64 (shrI .u64 (IntKind.wrap .u64 (x9893 + x9894)) 1))).bind fun x9952 =>
  (mFarePack_1 x9936 x9952 l13).bind fun x9968 =>
  if x9968 < 0 then (
  some (.inl (x9893, IntKind.wrap .i64 (shrI .u64 (IntKind.wrap .u64 (x9893 + x9894)) 1))))
  else (
  (chk ((IntKind.wrap .i64 (shrI .u64 (IntKind.wrap .u64 (x9893 + x9894)) 1)) + 1)).bind fun _ =>
  some (.inl ((IntKind.wrap .i64 (shrI .u64 (IntKind.wrap .u64 (x9893 + x9894)) 1)) + 1, x9894))))
  else (
  some (.inr x9893))

/-- slices.symMergeCmpFunc[int] -/
noncomputable def mSlicesSymMergeCmpFunc : Nat → (Int) → (Int) → (Int) → ((List FareSpan)) → ((List Int)) → Option ((List Int))
  | 0 => fun _ _ _ _ _ => none
  | N + 1 => fun x7 x8 x9 l13 l14 =>
  (chk (x8 - x7)).bind fun _ =>
  if (x8 - x7) = 1 then (
  (loopM (mSlicesSymMergeCmpFunc_L6951 x7 l13 l14) (x8, x9)).bind (fun x6949 =>
  (loopM (mSlicesSymMergeCmpFunc_L7644 x6949) (x7, l14)).bind (fun l7641 =>
  some l7641)))
  else (
  (chk (x9 - x8)).bind fun _ =>
  if (x9 - x8) = 1 then (
  (loopM (mSlicesSymMergeCmpFunc_L8335 x8 l13 l14) (x7, x8)).bind (fun x8333 =>
  (loopM (mSlicesSymMergeCmpFunc_L9025 x8333) (x8, l14)).bind (fun l9022 =>
  some l9022)))
  else (
  (chk (x7 + x9)).bind fun _ =>
  (shN 1).bind fun _ =>
  (chk ((IntKind.wrap .i64 (shrI .u64 (IntKind.wrap .u64 (x7 + x9)) 1)) + x8)).bind fun _ =>
  (if (IntKind.wrap .i64 (shrI .u64 (IntKind.wrap .u64 (x7 + x9)) 1)) < x8 then (
  (chk (((IntKind.wrap .i64 (shrI .u64 (IntKind.wrap .u64 (x7 + x9)) 1)) + x8) - x9)).bind fun _ =>
  some (((IntKind.wrap .i64 (shrI .u64 (IntKind.wrap .u64 (x7 + x9)) 1)) + x8) - x9, IntKind.wrap .i64 (shrI .u64 (IntKind.wrap .u64 (x7 + x9)) 1)))
  else (
  some (x7, x8))).bind (unc2 fun x9476 x9477 =>
  (chk (((IntKind.wrap .i64 (shrI .u64 (IntKind.wrap .u64 (x7 + x9)) 1)) + x8) - 1)).bind fun _ =>
  (loopM (mSlicesSymMergeCmpFunc_L9730 x7 x8 x9 l13 l14) (x9476, x9477)).bind (fun x9728 =>
  (chk (((IntKind.wrap .i64 (shrI .u64 (IntKind.wrap .u64 (x7 + x9)) 1)) + x8) - x9728)).bind fun _ =>
  ((if x9728 < x8 then (
  some (decide (x8 < (((IntKind.wrap .i64 (shrI .u64 (IntKind.wrap .u64 (x7 + x9)) 1)) + x8) - x9728))))
  else (
  some false)).bind (fun x10000 =>
  if x10000 = true then (
  (mSlicesRotateCmpFunc x9728 x8 (((IntKind.wrap .i64 (shrI .u64 (IntKind.wrap .u64 (x7 + x9)) 1)) + x8) - x9728) l13 l14).bind fun l10004 =>
  some l10004)
  else (
  some l14))).bind (fun l9994 =>
  ((if x7 < x9728 then (
  some (decide (x9728 < (IntKind.wrap .i64 (shrI .u64 (IntKind.wrap .u64 (x7 + x9)) 1)))))
  else (
  some false)).bind (fun x10036 =>
  if x10036 = true then (
  ((mSlicesSymMergeCmpFunc N) x7 x9728 (IntKind.wrap .i64 (shrI .u64 (IntKind.wrap .u64 (x7 + x9)) 1)) l13 l9994).bind fun l10040 =>
  some l10040)
  else (
  some l9994))).bind (fun l10030 =>
  (if (IntKind.wrap .i64 (shrI .u64 (IntKind.wrap .u64 (x7 + x9)) 1)) < (((IntKind.wrap .i64 (shrI .u64 (IntKind.wrap .u64 (x7 + x9)) 1)) + x8) - x9728) then (
  some (decide ((((IntKind.wrap .i64 (shrI .u64 (IntKind.wrap .u64 (x7 + x9)) 1)) + x8) - x9728) < x9)))
  else (
  some false)).bind (fun x10050 =>
  if x10050 = true then (
  ((mSlicesSymMergeCmpFunc N) (IntKind.wrap .i64 (shrI .u64 (IntKind.wrap .u64 (x7 + x9)) 1)) (((IntKind.wrap .i64 (shrI .u64 (IntKind.wrap .u64 (x7 + x9)) 1)) + x8) - x9728) x9 l13 l10030).bind fun l10054 =>
  some l10054)
  else (
  some l10030))))))))

noncomputable def mSlicesStableCmpFunc_L604 (x7 : Int) (l11 : (List FareSpan)) : (Int × Int × (List Int)) → Option ((Int × Int × (List Int)) ⊕ (Int × (List Int))) := unc3 fun x635 x636 l637 =>
  if x636 ≤ x7 then (
  (mSlicesInsertionSortCmpFunc x635 x636 l11 l637).bind fun l640 =>
  (chk (x636 + 20)).bind fun _ =>
  some (.inl (x636, x636 + 20, l640)))
  else (
  some (.inr (x635, l637)))

noncomputable def mSlicesStableCmpFunc_L1007 (x7 : Int) (l11 : (List FareSpan)) (x943 : Int) : (Int × Int × (List Int)) → Option ((Int × Int × (List Int)) ⊕ (Int × (List Int))) := unc3 fun x1042 x1043 l1044 =>
  if x1043 ≤ x7 then (
  (chk (x1042 + x943)).bind fun _ =>
  (lim (fun N => mSlicesSymMergeCmpFunc N x1042 (x1042 + x943) x1043 l11 l1044)).bind fun l1048 =>
  (chk (2 * x943)).bind fun _ =>
  (chk (x1043 + (2 * x943))).bind fun _ =>
  some (.inl (x1043, x1043 + (2 * x943), l1048)))
  else (
  some (.inr (x1042, l1044)))

noncomputable def mSlicesStableCmpFunc_L655 (x7 : Int) (l11 : (List FareSpan)) : (Int × (List Int)) → Option ((Int × (List Int)) ⊕ ((List Int))) := unc2 fun x943 l944 =>
  if x943 < x7 then (
  (chk (2 * x943)).bind fun _ =>
  (loopM (mSlicesStableCmpFunc_L1007 x7 l11 x943) (0, 2 * x943, l944)).bind (unc2 fun x1003 l1004 =>
  ((chk (x1003 + x943)).bind fun _ =>
  if (x1003 + x943) < x7 then (
  (lim (fun N => mSlicesSymMergeCmpFunc N x1003 (x1003 + x943) x7 l11 l1004)).bind fun l1076 =>
  some l1076)
  else (
  some l1004)).bind (fun l1071 =>
  (chk (x943 * 2)).bind fun _ =>
  some (.inl (x943 * 2, l1071)))))
  else (
  some (.inr l944))

/-- slices.stableCmpFunc[int] -/
noncomputable def mSlicesStableCmpFunc (x7 : Int) (l11 : (List FareSpan)) (l12 : (List Int)) : Option ((List Int)) :=
  (loopM (mSlicesStableCmpFunc_L604 x7 l11) (0, 20, l12)).bind (unc2 fun x600 l601 =>
  (mSlicesInsertionSortCmpFunc x600 x7 l11 l601).bind fun l648 =>
  loopM (mSlicesStableCmpFunc_L655 x7 l11) (20, l648))

/-- slices.SortStableFunc[[]int,int] -/
noncomputable def mSlicesSortStableFunc (l10 : (List FareSpan)) (l11 : (List Int)) : Option ((List Int)) :=
  (mSlicesStableCmpFunc (l11.length : Int) l10 l11).bind fun l24 =>
  some l24

/-- fishplate/fare.Pack-2 -/
noncomputable def mFarePack_2 (x3 : Int) (l7 : (List FareSpan)) (x8 : Int) : Option (Bool) :=
  (idx l7 x8).bind fun x20 =>
  some (decide (x3 ≤ x20.From))

noncomputable def mSlicesIndexFunc_4_L67 (l11 : (List FareSpan)) (l13 : (List Int)) (x12 : Int) (k92 : Nat) : (Unit) → Option ((Unit) ⊕ (Int)) := fun _ =>
  (idx l13 (k92 : Int)).bind fun x96 =>
  (mFarePack_2 x96 l11 x12).bind fun x112 =>
  if x112 = true then (
  some (.inr (k92 : Int)))
  else (
  some (.inl ()))

/-- slices.IndexFunc[[]int,int] -/
noncomputable def mSlicesIndexFunc_4 (l11 : (List FareSpan)) (x12 : Int) (l13 : (List Int)) : Option (Int) :=
  (forM (mSlicesIndexFunc_4_L67 l11 l13 x12) l13.length 0 ()).bind fun t => Sum.elim (fun _ =>
  some (-1)) (fun q => some q) t

noncomputable def mFarePack_L702 (l4 : (List FareSpan)) (l683 : (List Int)) (k954 : Nat) : ((List Int) × (List Int)) → Option (((List Int) × (List Int)) ⊕ (Int × (List Int))) := unc2 fun l950 l952 =>
  (idx l683 (k954 : Int)).bind fun x958 =>
  (mSlicesIndexFunc_4 l4 x958 l950).bind fun x975 =>
  if x975 < 0 then (
  some (.inr (14, [])))
  else (
  (idx l4 x958).bind fun x1027 =>
  (idx l950 x975).bind fun _ =>
  (idx l952 x958).bind fun _ =>
  some (.inl (put l950 x975 x1027.To, put l952 x958 x975)))

noncomputable def mFarePack_L567 (l4 : (List FareSpan)) (x6 : Int) (k645 : Nat) : ((List Int)) → Option (((List Int)) ⊕ (Int × (List Int))) := fun l643 =>
  (idx l4 (k645 : Int)).bind fun x649 =>
  (mFareSpan x649.From x649.To x6).bind fun x660 =>
  if x660 = true then (
  (idx l643 (k645 : Int)).bind fun _ =>
  some (.inl (put l643 (k645 : Int) (k645 : Int))))
  else (
  some (.inr (2, [])))

/-- fishplate/fare.Pack -/
noncomputable def mFarePack (l4 : (List FareSpan)) (x5 : Int) (x6 : Int) : Option (Int × (List Int)) :=
  if 200 < (l4.length : Int) then (
  some (4, []))
  else (
  ((mFareWithin x5 1 80).bind fun x555 =>
  if x555 = true then (
  (mFareWithin x6 2 12).bind fun x558 =>
  some (!x558))
  else (
  some true)).bind (fun x553 =>
  if x553 = true then (
  some (2, []))
  else (
  (mkLen 8 (l4.length : Int)).bind fun m561 =>
  (forM (mFarePack_L567 l4 x6) l4.length 0 (List.replicate m561 (0 : Int))).bind fun t => Sum.elim (fun l643 =>
  (mSlicesSortStableFunc l4 l643).bind fun l683 =>
  (mkLen 8 x5).bind fun m690 =>
  (mkLen 8 (l4.length : Int)).bind fun m696 =>
  (forM (mFarePack_L702 l4 l683) l683.length 0 (List.replicate m690 (0 : Int), List.replicate m696 (0 : Int))).bind fun t => Sum.elim (unc2 fun _ l952 =>
  some (0, l952)) (fun q => some q) t) (fun q => some q) t)))

noncomputable def mSlicesMax_L165 (l4 : (List Int)) : (Int × Int) → Option ((Int × Int) ⊕ (Int)) := unc2 fun x194 x195 =>
  if x195 < (l4.length : Int) then (
  (idx l4 x195).bind fun x197 =>
  (chk (x195 + 1)).bind fun _ =>
  some (.inl (max x194 x197, x195 + 1)))
  else (
  some (.inr x194))

/-- slices.Max[[]int,int] -/
noncomputable def mSlicesMax (l4 : (List Int)) : Option (Int) :=
  if (l4.length : Int) < 1 then (
  none)
  else (
  (idx l4 0).bind fun x108 =>
  (loopM (mSlicesMax_L165 l4) (x108, 1)).bind (fun x163 =>
  some x163))

noncomputable def mFishkeep2FarePacked_L1118 (l4 : (List FareSpan)) (k1115 : Nat) (k1162 : Nat) : (Int) → Option (Int) := fun x1161 =>
  (idx l4 (k1162 : Int)).bind fun x1165 =>
  (if x1165.From ≤ (k1115 : Int) then (
  some (decide ((k1115 : Int) < x1165.To)))
  else (
  some false)).bind (fun x1179 =>
  if x1179 = true then (
  (chk (x1161 + 1)).bind fun _ =>
  some (x1161 + 1))
  else (
  some x1161))

noncomputable def mFishkeep2FarePacked_L1590 (k1560 : Nat) (l1185 : (List Int)) (l1575 : (List FareSpan)) (x1564 : FareSpan) (k1746 : Nat) : (Unit) → Option ((Unit) ⊕ ((Unit) ⊕ (Bool))) := fun _ =>
  (idx l1575 (k1746 : Int)).bind fun x1750 =>
  ((idx l1185 (k1560 : Int)).bind fun x1867 =>
  (idx l1185 (k1746 : Int)).bind fun x1883 =>
  if x1867 = x1883 then (
  if x1564.From < x1750.To then (
  some (decide (x1750.From < x1564.To)))
  else (
  some false))
  else (
  some false)).bind (fun x1831 =>
  if x1831 = true then (
  some (.inr (.inr false)))
  else (
  some (.inl ())))

noncomputable def mFishkeep2FarePacked_L1217 (l4 : (List FareSpan)) (l1185 : (List Int)) (k1560 : Nat) : (Unit) → Option ((Unit) ⊕ (Bool)) := fun _ =>
  (idx l4 (k1560 : Int)).bind fun x1564 =>
  (cutS l4 0 (k1560 : Int)).bind fun l1575 =>
  (forM (mFishkeep2FarePacked_L1590 k1560 l1185 l1575 x1564) l1575.length 0 ()).bind fun t => Sum.elim (fun _ =>
  some (.inl ())) (fun q => some q) t

noncomputable def mFishkeep2FarePacked_L977 (l4 : (List FareSpan)) (k1115 : Nat) : (Int) → Option (Int) := fun x1114 =>
  (forS (mFishkeep2FarePacked_L1118 l4 k1115) l4.length 0 0).bind (fun x1161 =>
  some (max x1114 x1161))

/-- fishplate/fishkeep2.FarePacked -/
noncomputable def mFishkeep2FarePacked (l4 : (List FareSpan)) (x5 : Int) (x6 : Int) : Option (Bool) :=
  (mFishkeep2AwakeFare).bind fun _ =>
  (mFishkeep2Fares).bind fun x958 =>
  if x958 = true then (
  (mFishref2PackOf l4 x5 x6).bind (unc2 fun x961 _ =>
  (if x961 = 4 then (
  some true)
  else (
  some (decide (x961 = 2)))).bind (fun x973 =>
  if x973 = true then (
  some true)
  else (
  (chk x6).bind fun _ =>
  (forS (mFishkeep2FarePacked_L977 l4) ((x6).toNat) 0 0).bind (fun x1114 =>
  (mFarePack l4 x5 x6).bind (unc2 fun x1184 l1185 =>
  if x5 < x1114 then (
  (if x1184 = 14 then (
  some (decide ((l1185.length : Int) = 0)))
  else (
  some false)).bind (fun x1197 =>
  some x1197))
  else (
  (if x1184 ≠ 0 then (
  some true)
  else (
  if (l1185.length : Int) ≠ (l4.length : Int) then (
  some true)
  else (
  if 0 < (l4.length : Int) then (
  (mSlicesMax l1185).bind fun x1213 =>
  (chk (x1114 - 1)).bind fun _ =>
  some (decide (x1213 ≠ (x1114 - 1))))
  else (
  some false)))).bind (fun x1208 =>
  if x1208 = true then (
  some false)
  else (
  (forM (mFishkeep2FarePacked_L1217 l4 l1185) l4.length 0 ()).bind fun t => Sum.elim (fun _ =>
  some true) (fun q => some q) t)))))))))
  else (
  some false)

end Go.Proofs.YtnlnohallnfbmaaGreatDoor
