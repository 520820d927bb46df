/- The models of the functions, as the extractor printed them. -/
import Derived.Test.YtiajmiigkjmakaaGreatDoorXG
import Derived.Test.YtiajmiigkjmakaaGreatDoorXR
set_option linter.unusedVariables false
set_option linter.unusedSimpArgs false
namespace Go.Proofs.YtiajmiigkjmakaaGreatDoor
open Go.RowKit Go.Fp

structure FareBand where
  Upto : Int
  Price : Int
  deriving DecidableEq
def rFareBand : RT FareBand := (RT.cat (RT.on (RT.int .i64) FareBand.Upto) (RT.on (RT.int .i64) FareBand.Price))
structure FareCond where
  Kind : Int
  A : Int
  B : Int
  Kids : (List FareCond)
def fFareCond (r : RT FareCond) : RT FareCond := (RT.cat (RT.on (RT.int .i64) FareCond.Kind) (RT.cat (RT.on (RT.int .i64) FareCond.A) (RT.cat (RT.on (RT.int .i64) FareCond.B) (RT.on (RT.list r) FareCond.Kids))))
theorem fFareCond_sz (r : RT FareCond) : (fFareCond r).sz = 4 := rfl
theorem fFareCond_c : Cont fFareCond := (.cat (.on _ (.const _)) (.cat (.on _ (.const _)) (.cat (.on _ (.const _)) (.on _ (.list .id)))))
def rFareCond : RT FareCond := fFareCond (RT.fix fFareCond 4 fFareCond_sz)
theorem rFareCond_in {w : World} {A : Option Addr} {c : Nat} {l : List FareCond} (h : FZ (RT.fix fFareCond 4 fFareCond_sz) w A c l) : FZ rFareCond w A c l := h.rle (fix_out fFareCond_sz fFareCond_c)
theorem rFareCond_out {w : World} {A : Option Addr} {c : Nat} {l : List FareCond} (h : FZ rFareCond w A c l) : FZ (RT.fix fFareCond 4 fFareCond_sz) w A c l := h.rle (fix_in fFareCond_sz fFareCond_c)
structure FareRule where
  If : FareCond
  Do : Int
  N : Int
  Stop : Bool
def rFareRule : RT FareRule := (RT.cat (RT.on rFareCond FareRule.If) (RT.cat (RT.on (RT.int .i64) FareRule.Do) (RT.cat (RT.on (RT.int .i64) FareRule.N) (RT.on RT.bool FareRule.Stop))))
structure FareTariff where
  ByKm : Bool
  Bands : (List FareBand)
  Round : Int
  Rules : (List FareRule)
def rFareTariff : RT FareTariff := (RT.cat (RT.on RT.bool FareTariff.ByKm) (RT.cat (RT.on (RT.list rFareBand) FareTariff.Bands) (RT.cat (RT.on (RT.int .i64) FareTariff.Round) (RT.on (RT.list rFareRule) FareTariff.Rules))))
structure FareTrip where
  Day : Int
  At : Int
  Km : Int
  Age : Int
  Card : Bool
  Zones : (List Int)
def rFareTrip : RT FareTrip := (RT.cat (RT.on (RT.int .i64) FareTrip.Day) (RT.cat (RT.on (RT.int .i64) FareTrip.At) (RT.cat (RT.on (RT.int .i64) FareTrip.Km) (RT.cat (RT.on (RT.int .i64) FareTrip.Age) (RT.cat (RT.on RT.bool FareTrip.Card) (RT.on (RT.list (RT.int .i64)) FareTrip.Zones))))))
structure FarePass where
  Days : Int
  Price : Int
  Zones : (List Int)
def rFarePass : RT FarePass := (RT.cat (RT.on (RT.int .i64) FarePass.Days) (RT.cat (RT.on (RT.int .i64) FarePass.Price) (RT.on (RT.list (RT.int .i64)) FarePass.Zones)))
structure FareBuy where
  Day : Int
  Pass : Int
  deriving DecidableEq
def rFareBuy : RT FareBuy := (RT.cat (RT.on (RT.int .i64) FareBuy.Day) (RT.on (RT.int .i64) FareBuy.Pass))

/-- fishplate/fishkeep2.awakeFare -/
noncomputable def mFishkeep2AwakeFare : Option (Unit) :=
  some ()

/-- fishplate/fare.within -/
noncomputable def mFareWithin (x1 : Int) (x2 : Int) (x3 : Int) : Option (Bool) :=
  (if x2 ≤ x1 then (
  some (decide (x1 ≤ x3)))
  else (
  some false)).bind (fun x14 =>
  some x14)

noncomputable def mFareCondSize_L114 (s1 : FareCond) (rcmFareCondSize : (FareCond) → Option (Int × Int)) (k158 : Nat) : (Int × Int) → Option (Int × Int) := unc2 fun x156 x157 =>
  (idx s1.Kids (k158 : Int)).bind fun x161 =>
  (rcmFareCondSize x161).bind (unc2 fun x175 x176 =>
  (chk (x156 + x175)).bind fun _ =>
  some (x156 + x175, max x157 x176))

/-- (fishplate/fare.Cond).size -/
noncomputable def mFareCondSize : Nat → (FareCond) → Option (Int × Int)
  | 0 => fun _ => none
  | N + 1 => fun s1 =>
  (forS (mFareCondSize_L114 s1 (mFareCondSize N)) s1.Kids.length 0 (1, 0)).bind (unc2 fun x156 x157 =>
  (chk (x157 + 1)).bind fun _ =>
  some (x156, x157 + 1))

/-- fishplate/fare.numbers -/
noncomputable def mFareNumbers (x1 : Int) : Option (Int) :=
  (if x1 = 2 then (
  some (decide (x1 = 2)))
  else (
  if x1 = 3 then (
  some (decide (x1 = 3)))
  else (
  if x1 = 4 then (
  some (decide (x1 = 4)))
  else (
  some (decide (x1 = 5)))))).bind (fun x28 =>
  if x28 = true then (
  some 2)
  else (
  (if x1 = 6 then (
  some (decide (x1 = 6)))
  else (
  if x1 = 7 then (
  some (decide (x1 = 7)))
  else (
  some (decide (x1 = 8))))).bind (fun x38 =>
  if x38 = true then (
  some 1)
  else (
  some 0))))

noncomputable def mFareCondNode_L301 (s1 : FareCond) (rcmFareCondNode : (FareCond) → Option (Int)) (k322 : Nat) : (Unit) → Option ((Unit) ⊕ (Int)) := fun _ =>
  (idx s1.Kids (k322 : Int)).bind fun x326 =>
  (rcmFareCondNode x326).bind fun x340 =>
  if x340 ≠ 0 then (
  some (.inr x340))
  else (
  some (.inl ()))

/-- (fishplate/fare.Cond).node -/
noncomputable def mFareCondNode : Nat → (FareCond) → Option (Int)
  | 0 => fun _ => none
  | N + 1 => fun s1 =>
  (mFareNumbers s1.Kind).bind fun x231 =>
  (mFareWithin s1.Kind 0 11).bind fun x233 =>
  if x233 = true then (
  ((mFareWithin s1.A 0 28800).bind fun x245 =>
  if x245 = true then (
  (mFareWithin s1.B 0 28800).bind fun x248 =>
  some (!x248))
  else (
  some true)).bind (fun x243 =>
  if x243 = true then (
  some 2)
  else (
  (if x231 < 1 then (
  if s1.A ≠ 0 then (
  some true)
  else (
  if x231 < 2 then (
  if s1.B ≠ 0 then (
  some true)
  else (
  if x231 = 2 then (
  some (decide (s1.B < s1.A)))
  else (
  some false)))
  else (
  if x231 = 2 then (
  some (decide (s1.B < s1.A)))
  else (
  some false))))
  else (
  if x231 < 2 then (
  if s1.B ≠ 0 then (
  some true)
  else (
  if x231 = 2 then (
  some (decide (s1.B < s1.A)))
  else (
  some false)))
  else (
  if x231 = 2 then (
  some (decide (s1.B < s1.A)))
  else (
  some false)))).bind (fun x263 =>
  if x263 = true then (
  some 1)
  else (
  (if s1.Kind = 9 then (
  if (s1.Kids.length : Int) ≠ 1 then (
  some true)
  else (
  if 9 < s1.Kind then (
  if (s1.Kids.length : Int) < 2 then (
  some true)
  else (
  if s1.Kind < 9 then (
  some (decide (0 < (s1.Kids.length : Int))))
  else (
  some false)))
  else (
  if s1.Kind < 9 then (
  some (decide (0 < (s1.Kids.length : Int))))
  else (
  some false))))
  else (
  if 9 < s1.Kind then (
  if (s1.Kids.length : Int) < 2 then (
  some true)
  else (
  if s1.Kind < 9 then (
  some (decide (0 < (s1.Kids.length : Int))))
  else (
  some false)))
  else (
  if s1.Kind < 9 then (
  some (decide (0 < (s1.Kids.length : Int))))
  else (
  some false)))).bind (fun x288 =>
  if x288 = true then (
  some 1)
  else (
  (forM (mFareCondNode_L301 s1 (mFareCondNode N)) s1.Kids.length 0 ()).bind fun t => Sum.elim (fun _ =>
  some 0) (fun q => some q) t)))))))
  else (
  some 15)

/-- (fishplate/fare.Cond).check -/
noncomputable def mFareCondCheck (s1 : FareCond) : Option (Int) :=
  (lim (fun N => mFareCondSize N s1)).bind (unc2 fun x20 x21 =>
  (if 40 < x20 then (
  some true)
  else (
  some (decide (6 < x21)))).bind (fun x26 =>
  if x26 = true then (
  some 4)
  else (
  (lim (fun N => mFareCondNode N s1)).bind fun x30 =>
  some x30)))

noncomputable def mFareCheckTariff_L639 (s1 : FareTariff) (k672 : Nat) : (Unit) → Option ((Unit) ⊕ (Int)) := fun _ =>
  (idx s1.Rules (k672 : Int)).bind fun x676 =>
  (mFareCondCheck x676.If).bind fun x690 =>
  if x690 ≠ 0 then (
  some (.inr x690))
  else (
  (if x676.Do = 1 then (
  some 200)
  else (
  some 100000)).bind (fun x697 =>
  (mFareWithin x676.Do 1 6).bind fun x700 =>
  if x700 = true then (
  (mFareWithin x676.N 0 x697).bind fun x704 =>
  if x704 = true then (
  some (.inl ()))
  else (
  some (.inr 2)))
  else (
  some (.inr 15))))

noncomputable def mFareCheckTariff_L371 (s1 : FareTariff) (k502 : Nat) : (Unit) → Option ((Unit) ⊕ (Int)) := fun _ =>
  (idx s1.Bands (k502 : Int)).bind fun x506 =>
  ((mFareWithin x506.Upto 1 1000).bind fun x526 =>
  if x526 = true then (
  (mFareWithin x506.Price 0 100000).bind fun x529 =>
  some (!x529))
  else (
  some true)).bind (fun x524 =>
  if x524 = true then (
  some (.inr 2))
  else (
  (if 0 < (k502 : Int) then (
  (chk ((k502 : Int) - 1)).bind fun _ =>
  (idx s1.Bands ((k502 : Int) - 1)).bind fun x611 =>
  if x506.Upto ≤ x611.Upto then (
  some true)
  else (
  (chk ((k502 : Int) - 1)).bind fun _ =>
  (idx s1.Bands ((k502 : Int) - 1)).bind fun x623 =>
  some (decide (x506.Price < x623.Price))))
  else (
  some false)).bind (fun x583 =>
  if x583 = true then (
  some (.inr 1))
  else (
  some (.inl ())))))

/-- fishplate/fare.CheckTariff -/
noncomputable def mFareCheckTariff (s1 : FareTariff) : Option (Int) :=
  ((mFareWithin (s1.Bands.length : Int) 1 8).bind fun x367 =>
  if x367 = true then (
  some (decide (20 < (s1.Rules.length : Int))))
  else (
  some true)).bind (fun x365 =>
  if x365 = true then (
  some 4)
  else (
  (forM (mFareCheckTariff_L371 s1) s1.Bands.length 0 ()).bind fun t => Sum.elim (fun _ =>
  (mFareWithin s1.Round 1 100).bind fun x636 =>
  if x636 = true then (
  (forM (mFareCheckTariff_L639 s1) s1.Rules.length 0 ()).bind fun t => Sum.elim (fun _ =>
  some 0) (fun q => some q) t)
  else (
  some 2)) (fun q => some q) t))

noncomputable def mFareCheckZones_L154 (l4 : (List Int)) (x5 : Bool) (k226 : Nat) : (Unit) → Option ((Unit) ⊕ (Int)) := fun _ =>
  (idx l4 (k226 : Int)).bind fun x230 =>
  (mFareWithin x230 0 19).bind fun x240 =>
  if x240 = true then (
  (if 0 < (k226 : Int) then (
  (chk ((k226 : Int) - 1)).bind fun _ =>
  (idx l4 ((k226 : Int) - 1)).bind fun x275 =>
  if x230 = x275 then (
  some true)
  else (
  if x5 = true then (
  (chk ((k226 : Int) - 1)).bind fun _ =>
  (idx l4 ((k226 : Int) - 1)).bind fun x288 =>
  some (decide (x230 < x288)))
  else (
  some false)))
  else (
  some false)).bind (fun x271 =>
  if x271 = true then (
  some (.inr 1))
  else (
  some (.inl ()))))
  else (
  some (.inr 2))

/-- fishplate/fare.checkZones -/
noncomputable def mFareCheckZones (l4 : (List Int)) (x5 : Bool) : Option (Int) :=
  (forM (mFareCheckZones_L154 l4 x5) l4.length 0 ()).bind fun t => Sum.elim (fun _ =>
  some 0) (fun q => some q) t

/-- fishplate/fare.CheckTrip -/
noncomputable def mFareCheckTrip (s1 : FareTrip) : Option (Int) :=
  ((mFareWithin s1.Day 0 6).bind fun x55 =>
  if x55 = true then (
  (mFareWithin s1.At 0 28800).bind fun x58 =>
  if x58 = true then (
  (mFareWithin s1.Km 0 1000).bind fun x61 =>
  if x61 = true then (
  (mFareWithin s1.Age 0 120).bind fun x64 =>
  some (!x64))
  else (
  some true))
  else (
  some true))
  else (
  some true)).bind (fun x53 =>
  if x53 = true then (
  some 2)
  else (
  (mFareWithin (s1.Zones.length : Int) 1 10).bind fun x67 =>
  if x67 = true then (
  (mFareCheckZones s1.Zones false).bind fun x70 =>
  some x70)
  else (
  some 4)))

/-- (fishplate/fare.Tariff).price-1 -/
noncomputable def mFareTariffPrice_1 (s2 : FareBand) (x3 : Int) : Option (Bool) :=
  some (decide (x3 ≤ s2.Upto))

noncomputable def mSlicesIndexFunc_L48 (l5 : (List FareBand)) (x6 : Int) (k67 : Nat) : (Unit) → Option ((Unit) ⊕ (Int)) := fun _ =>
  (idx l5 (k67 : Int)).bind fun x71 =>
  (mFareTariffPrice_1 x71 x6).bind fun x81 =>
  if x81 = true then (
  some (.inr (k67 : Int)))
  else (
  some (.inl ()))

/-- slices.IndexFunc[[]fishplate/fare.Band,fishplate/fare.Band] -/
noncomputable def mSlicesIndexFunc (l5 : (List FareBand)) (x6 : Int) : Option (Int) :=
  (forM (mSlicesIndexFunc_L48 l5 x6) l5.length 0 ()).bind fun t => Sum.elim (fun _ =>
  some (-1)) (fun q => some q) t

/-- (fishplate/fare.Cond).holds-1 -/
noncomputable def mFareCondHolds_1 (x2 : Int) (_x3 : Int) (x4 : Int) (x5 : Int) (_l9 : (List FareCond)) : Option (Bool) :=
  (mFareWithin x2 x4 x5).bind fun x13 =>
  some x13

noncomputable def mSlicesIndex_L39 (l4 : (List Int)) (x5 : Int) (k54 : Nat) : (Unit) → Option ((Unit) ⊕ (Int)) := fun _ =>
  (idx l4 (k54 : Int)).bind fun x58 =>
  if x5 = x58 then (
  some (.inr (k54 : Int)))
  else (
  some (.inl ()))

/-- slices.Index[[]int,int] -/
noncomputable def mSlicesIndex (l4 : (List Int)) (x5 : Int) : Option (Int) :=
  (forM (mSlicesIndex_L39 l4 x5) l4.length 0 ()).bind fun t => Sum.elim (fun _ =>
  some (-1)) (fun q => some q) t

/-- slices.Contains[[]int,int] -/
noncomputable def mSlicesContains (l4 : (List Int)) (x5 : Int) : Option (Bool) :=
  (mSlicesIndex l4 x5).bind fun x9 =>
  some (decide (0 ≤ x9))

/-- (fishplate/fare.Cond).holds-2 -/
noncomputable def mFareCondHolds_2_5 (rcmFareCondHolds : (FareCond) → (FareTrip) → Option (Bool)) (s2 : FareCond) (x6 : Int) (x7 : Int) (x8 : Int) (x9 : Int) (x10 : Bool) (l14 : (List Int)) : Option (Bool) :=
  (rcmFareCondHolds s2 (⟨x6, x7, x8, x9, x10, l14⟩ : FareTrip)).bind fun x20 =>
  some (!x20)

noncomputable def mSlicesIndexFunc_2_L62 (l5 : (List FareCond)) (x6 : Int) (x7 : Int) (x8 : Int) (x9 : Int) (l14 : (List Int)) (x10 : Bool) (rcmFareCondHolds : (FareCond) → (FareTrip) → Option (Bool)) (k84 : Nat) : (Unit) → Option ((Unit) ⊕ (Int)) := fun _ =>
  (idx l5 (k84 : Int)).bind fun x88 =>
  (mFareCondHolds_2_5 rcmFareCondHolds x88 x6 x7 x8 x9 x10 l14).bind fun x101 =>
  if x101 = true then (
  some (.inr (k84 : Int)))
  else (
  some (.inl ()))

/-- slices.IndexFunc[[]fishplate/fare.Cond,fishplate/fare.Cond] -/
noncomputable def mSlicesIndexFunc_2 (rcmFareCondHolds : (FareCond) → (FareTrip) → Option (Bool)) (l5 : (List FareCond)) (x6 : Int) (x7 : Int) (x8 : Int) (x9 : Int) (x10 : Bool) (l14 : (List Int)) : Option (Int) :=
  (forM (mSlicesIndexFunc_2_L62 l5 x6 x7 x8 x9 l14 x10 rcmFareCondHolds) l5.length 0 ()).bind fun t => Sum.elim (fun _ =>
  some (-1)) (fun q => some q) t

/-- slices.ContainsFunc[[]fishplate/fare.Cond,fishplate/fare.Cond] -/
noncomputable def mSlicesContainsFunc (rcmFareCondHolds : (FareCond) → (FareTrip) → Option (Bool)) (l5 : (List FareCond)) (x6 : Int) (x7 : Int) (x8 : Int) (x9 : Int) (x10 : Bool) (l14 : (List Int)) : Option (Bool) :=
  (mSlicesIndexFunc_2 rcmFareCondHolds l5 x6 x7 x8 x9 x10 l14).bind fun x20 =>
  some (decide (0 ≤ x20))

/-- (fishplate/fare.Cond).holds-3 -/
noncomputable def mFareCondHolds_3_5 (rcmFareCondHolds : (FareCond) → (FareTrip) → Option (Bool)) (s2 : FareCond) (x6 : Int) (x7 : Int) (x8 : Int) (x9 : Int) (x10 : Bool) (l14 : (List Int)) : Option (Bool) :=
  (rcmFareCondHolds s2 (⟨x6, x7, x8, x9, x10, l14⟩ : FareTrip)).bind fun x20 =>
  some x20

noncomputable def mSlicesIndexFunc_3_L62 (l5 : (List FareCond)) (x6 : Int) (x7 : Int) (x8 : Int) (x9 : Int) (l14 : (List Int)) (x10 : Bool) (rcmFareCondHolds : (FareCond) → (FareTrip) → Option (Bool)) (k84 : Nat) : (Unit) → Option ((Unit) ⊕ (Int)) := fun _ =>
  (idx l5 (k84 : Int)).bind fun x88 =>
  (mFareCondHolds_3_5 rcmFareCondHolds x88 x6 x7 x8 x9 x10 l14).bind fun x101 =>
  if x101 = true then (
  some (.inr (k84 : Int)))
  else (
  some (.inl ()))

/-- slices.IndexFunc[[]fishplate/fare.Cond,fishplate/fare.Cond] -/
noncomputable def mSlicesIndexFunc_3 (rcmFareCondHolds : (FareCond) → (FareTrip) → Option (Bool)) (l5 : (List FareCond)) (x6 : Int) (x7 : Int) (x8 : Int) (x9 : Int) (x10 : Bool) (l14 : (List Int)) : Option (Int) :=
  (forM (mSlicesIndexFunc_3_L62 l5 x6 x7 x8 x9 l14 x10 rcmFareCondHolds) l5.length 0 ()).bind fun t => Sum.elim (fun _ =>
  some (-1)) (fun q => some q) t

/-- slices.ContainsFunc[[]fishplate/fare.Cond,fishplate/fare.Cond] -/
noncomputable def mSlicesContainsFunc_2 (rcmFareCondHolds : (FareCond) → (FareTrip) → Option (Bool)) (l5 : (List FareCond)) (x6 : Int) (x7 : Int) (x8 : Int) (x9 : Int) (x10 : Bool) (l14 : (List Int)) : Option (Bool) :=
  (mSlicesIndexFunc_3 rcmFareCondHolds l5 x6 x7 x8 x9 x10 l14).bind fun x20 =>
  some (decide (0 ≤ x20))

/-- (fishplate/fare.Cond).holds -/
noncomputable def mFareCondHolds : Nat → (FareCond) → (FareTrip) → Option (Bool)
  | 0 => fun _ _ => none
  | N + 1 => fun s1 s5 =>
  if s1.Kind = 1 then (
  some s5.Card)
  else (
  if s1.Kind = 2 then (
  (mFareCondHolds_1 s5.Age s1.Kind s1.A s1.B s1.Kids).bind fun x220 =>
  some x220)
  else (
  if s1.Kind = 3 then (
  (mFareCondHolds_1 s5.At s1.Kind s1.A s1.B s1.Kids).bind fun x225 =>
  some x225)
  else (
  if s1.Kind = 4 then (
  (mFareCondHolds_1 s5.Km s1.Kind s1.A s1.B s1.Kids).bind fun x230 =>
  some x230)
  else (
  if s1.Kind = 5 then (
  (mFareCondHolds_1 (s5.Zones.length : Int) s1.Kind s1.A s1.B s1.Kids).bind fun x235 =>
  some x235)
  else (
  if s1.Kind = 6 then (
  (mSlicesContains s5.Zones s1.A).bind fun x240 =>
  some x240)
  else (
  if s1.Kind = 7 then (
  (idx s5.Zones 0).bind fun x253 =>
  some (decide (x253 = s1.A)))
  else (
  if s1.Kind = 8 then (
  (chk ((s5.Zones.length : Int) - 1)).bind fun _ =>
  (idx s5.Zones ((s5.Zones.length : Int) - 1)).bind fun x276 =>
  some (decide (x276 = s1.A)))
  else (
  if s1.Kind = 9 then (
  (idx s1.Kids 0).bind fun x302 =>
  ((mFareCondHolds N) x302 s5).bind fun x315 =>
  some (!x315))
  else (
  if s1.Kind = 10 then (
  (mSlicesContainsFunc (mFareCondHolds N) s1.Kids s5.Day s5.At s5.Km s5.Age s5.Card s5.Zones).bind fun x318 =>
  some (!x318))
  else (
  if s1.Kind = 11 then (
  (mSlicesContainsFunc_2 (mFareCondHolds N) s1.Kids s5.Day s5.At s5.Km s5.Age s5.Card s5.Zones).bind fun x323 =>
  some x323)
  else (
  some true)))))))))))

/-- (fishplate/fare.Rule).change -/
noncomputable def mFareRuleChange (s1 : FareRule) (x5 : Int) : Option (Int) :=
  if s1.Do = 1 then (
  (chk (x5 * s1.N)).bind fun _ =>
  (ne0 100).bind fun _ =>
  (chk (Int.tdiv (x5 * s1.N) 100)).bind fun _ =>
  some (min 100000 (Int.tdiv (x5 * s1.N) 100)))
  else (
  if s1.Do = 2 then (
  (chk (x5 - s1.N)).bind fun _ =>
  some (max 0 (x5 - s1.N)))
  else (
  if s1.Do = 3 then (
  (chk (x5 + s1.N)).bind fun _ =>
  some (min 100000 (x5 + s1.N)))
  else (
  if s1.Do = 4 then (
  some s1.N)
  else (
  if s1.Do = 5 then (
  some (min x5 s1.N))
  else (
  some (max x5 s1.N))))))

noncomputable def mFareTariffPrice_L420 (s1 : FareTariff) (s8 : FareTrip) (k491 : Nat) : (Int × (List Int)) → Option ((Int × (List Int)) ⊕ (Int × (List Int))) := unc2 fun x489 l490 =>
  (idx s1.Rules (k491 : Int)).bind fun x495 =>
  (lim (fun N => mFareCondHolds N x495.If s8)).bind fun x509 =>
  if x509 = true then (
  (room 8 (l490.length + 1)).bind fun _ =>
  (mFareRuleChange x495 x489).bind fun x518 =>
  if x495.Stop = true then (
  some (.inr (x518, l490 ++ [(k491 : Int)])))
  else (
  some (.inl (x518, l490 ++ [(k491 : Int)]))))
  else (
  some (.inl (x489, l490)))

/-- (fishplate/fare.Tariff).price -/
noncomputable def mFareTariffPrice (s1 : FareTariff) (s8 : FareTrip) : Option (Int × (List Int)) :=
  (if s1.ByKm = true then (
  some s8.Km)
  else (
  some (s8.Zones.length : Int))).bind (fun x282 =>
  (mSlicesIndexFunc s1.Bands x282).bind fun x285 =>
  (if x285 < 0 then (
  (chk ((s1.Bands.length : Int) - 1)).bind fun _ =>
  some ((s1.Bands.length : Int) - 1))
  else (
  some x285)).bind (fun x293 =>
  (idx s1.Bands x293).bind fun x297 =>
  ((forM (mFareTariffPrice_L420 s1 s8) s1.Rules.length 0 ((x297.Price, []) : Int × (List Int))).bind fun t => Sum.elim (unc2 fun x489 l490 =>
  some (x489, l490)) (fun q => some q) t).bind (unc2 fun x417 l418 =>
  (chk (x417 + s1.Round)).bind fun _ =>
  (chk ((x417 + s1.Round) - 1)).bind fun _ =>
  (ne0 s1.Round).bind fun _ =>
  (chk (Int.tdiv ((x417 + s1.Round) - 1) s1.Round)).bind fun _ =>
  (chk ((Int.tdiv ((x417 + s1.Round) - 1) s1.Round) * s1.Round)).bind fun _ =>
  some ((Int.tdiv ((x417 + s1.Round) - 1) s1.Round) * s1.Round, l418))))

/-- fishplate/fare.Price -/
noncomputable def mFarePrice (s1 : FareTariff) (s8 : FareTrip) : Option (Int × Int × (List Int)) :=
  (mFareCheckTariff s1).bind fun x39 =>
  if x39 ≠ 0 then (
  some (0, x39, []))
  else (
  (mFareCheckTrip s8).bind fun x42 =>
  if x42 ≠ 0 then (
  some (0, x42, []))
  else (
  (mFareTariffPrice s1 s8).bind (unc2 fun x45 l46 =>
  some (x45, 0, l46))))

/-- fishplate/fishkeep2.fares -/
noncomputable def mFishkeep2Fares : Option (Bool) :=
  (mFarePrice (⟨false, [(⟨3, 500⟩ : FareBand)], 1, [(⟨(⟨1, 0, 0, []⟩ : FareCond), 2, 7, false⟩ : FareRule)]⟩ : FareTariff) (⟨0, 0, 0, 0, true, [1]⟩ : FareTrip)).bind (unc3 fun x38 x39 _ =>
  (if x39 = 0 then (
  some (decide (x38 = 493)))
  else (
  some false)).bind (fun x51 =>
  some x51))

/-- fishplate/fishref2.within -/
noncomputable def mFishref2Within (x1 : Int) (x2 : Int) (x3 : Int) : Option (Bool) :=
  (if x2 ≤ x1 then (
  some (decide (x1 ≤ x3)))
  else (
  some false)).bind (fun x14 =>
  some x14)

noncomputable def mFishref2Shape_L331 (s2 : FareCond) (rcmFishref2Shape : (FareCond) → (Int) → Option (Int × Int)) (k379 : Nat) : (Int × Int) → Option ((Int × Int) ⊕ (Int × Int)) := unc2 fun x377 x378 =>
  (idx s2.Kids (k379 : Int)).bind fun x383 =>
  (rcmFishref2Shape x383 x378).bind (unc2 fun x397 x398 =>
  if x398 < 0 then (
  some (.inr (max x377 x397, x398)))
  else (
  some (.inl (max x377 x397, x398))))

/-- fishplate/fishref2.shape -/
noncomputable def mFishref2Shape : Nat → (FareCond) → (Int) → Option (Int × Int)
  | 0 => fun _ _ => none
  | N + 1 => fun s2 x6 =>
  (chk (x6 - 1)).bind fun _ =>
  if (x6 - 1) < 0 then (
  some (1, x6 - 1))
  else (
  ((forM (mFishref2Shape_L331 s2 (mFishref2Shape N)) s2.Kids.length 0 (0, x6 - 1)).bind fun t => Sum.elim (unc2 fun x377 x378 =>
  some (x377, x378)) (fun q => some q) t).bind (unc2 fun x328 x329 =>
  (chk (x328 + 1)).bind fun _ =>
  some (x328 + 1, x329)))

/-- fishplate/fishref2.numbersOf -/
noncomputable def mFishref2NumbersOf (x1 : Int) : Option (Int) :=
  (if x1 = 2 then (
  some (decide (x1 = 2)))
  else (
  if x1 = 3 then (
  some (decide (x1 = 3)))
  else (
  if x1 = 4 then (
  some (decide (x1 = 4)))
  else (
  some (decide (x1 = 5)))))).bind (fun x28 =>
  if x28 = true then (
  some 2)
  else (
  (if x1 = 6 then (
  some (decide (x1 = 6)))
  else (
  if x1 = 7 then (
  some (decide (x1 = 7)))
  else (
  some (decide (x1 = 8))))).bind (fun x38 =>
  if x38 = true then (
  some 1)
  else (
  some 0))))

noncomputable def mFishref2NodeFault_L318 (s1 : FareCond) (rcmFishref2NodeFault : (FareCond) → Option (Int)) (k339 : Nat) : (Unit) → Option ((Unit) ⊕ (Int)) := fun _ =>
  (idx s1.Kids (k339 : Int)).bind fun x343 =>
  (rcmFishref2NodeFault x343).bind fun x357 =>
  if x357 ≠ 0 then (
  some (.inr x357))
  else (
  some (.inl ()))

/-- fishplate/fishref2.nodeFault -/
noncomputable def mFishref2NodeFault : Nat → (FareCond) → Option (Int)
  | 0 => fun _ => none
  | N + 1 => fun s1 =>
  (mFishref2Within s1.Kind 0 11).bind fun x243 =>
  if x243 = true then (
  ((mFishref2Within s1.A 0 28800).bind fun x255 =>
  if x255 = true then (
  (mFishref2Within s1.B 0 28800).bind fun x258 =>
  some (!x258))
  else (
  some true)).bind (fun x253 =>
  if x253 = true then (
  some 2)
  else (
  (mFishref2NumbersOf s1.Kind).bind fun x261 =>
  (if x261 < 1 then (
  if s1.A ≠ 0 then (
  some true)
  else (
  if x261 < 2 then (
  if s1.B ≠ 0 then (
  some true)
  else (
  if x261 = 2 then (
  some (decide (s1.B < s1.A)))
  else (
  some false)))
  else (
  if x261 = 2 then (
  some (decide (s1.B < s1.A)))
  else (
  some false))))
  else (
  if x261 < 2 then (
  if s1.B ≠ 0 then (
  some true)
  else (
  if x261 = 2 then (
  some (decide (s1.B < s1.A)))
  else (
  some false)))
  else (
  if x261 = 2 then (
  some (decide (s1.B < s1.A)))
  else (
  some false)))).bind (fun x275 =>
  if x275 = true then (
  some 1)
  else (
  (if s1.Kind = 9 then (
  if (s1.Kids.length : Int) ≠ 1 then (
  some (.inr 1))
  else (
  some (.inl ())))
  else (
  (if s1.Kind = 10 then (
  some (decide (s1.Kind = 10)))
  else (
  some (decide (s1.Kind = 11)))).bind (fun x309 =>
  if x309 = true then (
  if (s1.Kids.length : Int) < 2 then (
  some (.inr 1))
  else (
  some (.inl ())))
  else (
  if 0 < (s1.Kids.length : Int) then (
  some (.inr 1))
  else (
  some (.inl ())))))).bind fun t => Sum.elim (fun _ =>
  (forM (mFishref2NodeFault_L318 s1 (mFishref2NodeFault N)) s1.Kids.length 0 ()).bind fun t => Sum.elim (fun _ =>
  some 0) (fun q => some q) t) (fun r362 => some r362) t)))))
  else (
  some 15)

/-- fishplate/fishref2.CondFault -/
noncomputable def mFishref2CondFault (s1 : FareCond) : Option (Int) :=
  (lim (fun N => mFishref2Shape N s1 40)).bind (unc2 fun x24 x25 =>
  (if x25 < 0 then (
  some true)
  else (
  some (decide (6 < x24)))).bind (fun x32 =>
  if x32 = true then (
  some 4)
  else (
  (lim (fun N => mFishref2NodeFault N s1)).bind fun x36 =>
  some x36)))

noncomputable def mFishref2TariffFault_L639 (s1 : FareTariff) (k672 : Nat) : (Unit) → Option ((Unit) ⊕ (Int)) := fun _ =>
  (idx s1.Rules (k672 : Int)).bind fun x676 =>
  (mFishref2CondFault x676.If).bind fun x690 =>
  if x690 ≠ 0 then (
  some (.inr x690))
  else (
  (mFishref2Within x676.Do 1 6).bind fun x694 =>
  if x694 = true then (
  (if x676.Do = 1 then (
  some 200)
  else (
  some 100000)).bind (fun x701 =>
  (mFishref2Within x676.N 0 x701).bind fun x704 =>
  if x704 = true then (
  some (.inl ()))
  else (
  some (.inr 2))))
  else (
  some (.inr 15)))

noncomputable def mFishref2TariffFault_L371 (s1 : FareTariff) (k502 : Nat) : (Unit) → Option ((Unit) ⊕ (Int)) := fun _ =>
  (idx s1.Bands (k502 : Int)).bind fun x506 =>
  ((mFishref2Within x506.Upto 1 1000).bind fun x526 =>
  if x526 = true then (
  (mFishref2Within x506.Price 0 100000).bind fun x529 =>
  some (!x529))
  else (
  some true)).bind (fun x524 =>
  if x524 = true then (
  some (.inr 2))
  else (
  (if 0 < (k502 : Int) then (
  (chk ((k502 : Int) - 1)).bind fun _ =>
  (idx s1.Bands ((k502 : Int) - 1)).bind fun x611 =>
  if x506.Upto ≤ x611.Upto then (
  some true)
  else (
  (chk ((k502 : Int) - 1)).bind fun _ =>
  (idx s1.Bands ((k502 : Int) - 1)).bind fun x623 =>
  some (decide (x506.Price < x623.Price))))
  else (
  some false)).bind (fun x583 =>
  if x583 = true then (
  some (.inr 1))
  else (
  some (.inl ())))))

/-- fishplate/fishref2.TariffFault -/
noncomputable def mFishref2TariffFault (s1 : FareTariff) : Option (Int) :=
  ((mFishref2Within (s1.Bands.length : Int) 1 8).bind fun x367 =>
  if x367 = true then (
  some (decide (20 < (s1.Rules.length : Int))))
  else (
  some true)).bind (fun x365 =>
  if x365 = true then (
  some 4)
  else (
  (forM (mFishref2TariffFault_L371 s1) s1.Bands.length 0 ()).bind fun t => Sum.elim (fun _ =>
  (mFishref2Within s1.Round 1 100).bind fun x636 =>
  if x636 = true then (
  (forM (mFishref2TariffFault_L639 s1) s1.Rules.length 0 ()).bind fun t => Sum.elim (fun _ =>
  some 0) (fun q => some q) t)
  else (
  some 2)) (fun q => some q) t))

noncomputable def mFishref2TripFault_L163 (s1 : FareTrip) (k209 : Nat) : (Unit) → Option ((Unit) ⊕ (Int)) := fun _ =>
  (idx s1.Zones (k209 : Int)).bind fun x213 =>
  (mFishref2Within x213 0 19).bind fun x223 =>
  if x223 = true then (
  (if 0 < (k209 : Int) then (
  (chk ((k209 : Int) - 1)).bind fun _ =>
  (idx s1.Zones ((k209 : Int) - 1)).bind fun x245 =>
  some (decide (x213 = x245)))
  else (
  some false)).bind (fun x241 =>
  if x241 = true then (
  some (.inr 1))
  else (
  some (.inl ()))))
  else (
  some (.inr 2))

/-- fishplate/fishref2.TripFault -/
noncomputable def mFishref2TripFault (s1 : FareTrip) : Option (Int) :=
  ((mFishref2Within s1.Day 0 6).bind fun x148 =>
  if x148 = true then (
  (mFishref2Within s1.At 0 28800).bind fun x151 =>
  if x151 = true then (
  (mFishref2Within s1.Km 0 1000).bind fun x154 =>
  if x154 = true then (
  (mFishref2Within s1.Age 0 120).bind fun x157 =>
  some (!x157))
  else (
  some true))
  else (
  some true))
  else (
  some true)).bind (fun x146 =>
  if x146 = true then (
  some 2)
  else (
  (mFishref2Within (s1.Zones.length : Int) 1 10).bind fun x160 =>
  if x160 = true then (
  (forM (mFishref2TripFault_L163 s1) s1.Zones.length 0 ()).bind fun t => Sum.elim (fun _ =>
  some 0) (fun q => some q) t)
  else (
  some 4)))

noncomputable def mFishref2CheapestFault_L545 (x515 : FarePass) (k591 : Nat) : (Unit) → Option ((Unit) ⊕ ((Unit) ⊕ (Int))) := fun _ =>
  (idx x515.Zones (k591 : Int)).bind fun x595 =>
  (mFishref2Within x595 0 19).bind fun x605 =>
  if x605 = true then (
  (if 0 < (k591 : Int) then (
  (chk ((k591 : Int) - 1)).bind fun _ =>
  (idx x515.Zones ((k591 : Int) - 1)).bind fun x628 =>
  some (decide (x595 ≤ x628)))
  else (
  some false)).bind (fun x624 =>
  if x624 = true then (
  some (.inr (.inr 1)))
  else (
  some (.inl ()))))
  else (
  some (.inr (.inr 2)))

noncomputable def mFishref2CheapestFault_L385 (l15 : (List FarePass)) (k511 : Nat) : (Unit) → Option ((Unit) ⊕ (Int)) := fun _ =>
  (idx l15 (k511 : Int)).bind fun x515 =>
  ((mFishref2Within x515.Days 1 7).bind fun x538 =>
  if x538 = true then (
  (mFishref2Within x515.Price 0 100000).bind fun x541 =>
  some (!x541))
  else (
  some true)).bind (fun x536 =>
  if x536 = true then (
  some (.inr 2))
  else (
  (forM (mFishref2CheapestFault_L545 x515) x515.Zones.length 0 ()).bind fun t => Sum.elim (fun _ =>
  some (.inl ())) (fun q => some q) t))

noncomputable def mFishref2CheapestFault_L341 (l11 : (List FareTrip)) (k362 : Nat) : (Unit) → Option ((Unit) ⊕ (Int)) := fun _ =>
  (idx l11 (k362 : Int)).bind fun x366 =>
  (mFishref2TripFault x366).bind fun x380 =>
  if x380 ≠ 0 then (
  some (.inr x380))
  else (
  some (.inl ()))

/-- fishplate/fishref2.CheapestFault -/
noncomputable def mFishref2CheapestFault (s1 : FareTariff) (l11 : (List FareTrip)) (l15 : (List FarePass)) : Option (Int) :=
  (mFishref2TariffFault s1).bind fun x331 =>
  if x331 ≠ 0 then (
  some x331)
  else (
  (if 12 < (l11.length : Int) then (
  some true)
  else (
  some (decide (2 < (l15.length : Int))))).bind (fun x337 =>
  if x337 = true then (
  some 4)
  else (
  (forM (mFishref2CheapestFault_L341 l11) l11.length 0 ()).bind fun t => Sum.elim (fun _ =>
  (forM (mFishref2CheapestFault_L385 l15) l15.length 0 ()).bind fun t => Sum.elim (fun _ =>
  some 0) (fun q => some q) t) (fun q => some q) t)))

/-- (fishplate/fare.Pass).covers-1 -/
noncomputable def mFarePassCovers_1 (x2 : Int) (_x3 : Int) (_x4 : Int) (l8 : (List Int)) : Option (Bool) :=
  (mSlicesContains l8 x2).bind fun x12 =>
  some (!x12)

noncomputable def mSlicesIndexFunc_5_L53 (l5 : (List Int)) (x6 : Int) (x7 : Int) (l11 : (List Int)) (k72 : Nat) : (Unit) → Option ((Unit) ⊕ (Int)) := fun _ =>
  (idx l5 (k72 : Int)).bind fun x76 =>
  (mFarePassCovers_1 x76 x6 x7 l11).bind fun x86 =>
  if x86 = true then (
  some (.inr (k72 : Int)))
  else (
  some (.inl ()))

/-- slices.IndexFunc[[]int,int] -/
noncomputable def mSlicesIndexFunc_5 (l5 : (List Int)) (x6 : Int) (x7 : Int) (l11 : (List Int)) : Option (Int) :=
  (forM (mSlicesIndexFunc_5_L53 l5 x6 x7 l11) l5.length 0 ()).bind fun t => Sum.elim (fun _ =>
  some (-1)) (fun q => some q) t

/-- slices.ContainsFunc[[]int,int] -/
noncomputable def mSlicesContainsFunc_4 (l5 : (List Int)) (x6 : Int) (x7 : Int) (l11 : (List Int)) : Option (Bool) :=
  (mSlicesIndexFunc_5 l5 x6 x7 l11).bind fun x17 =>
  some (decide (0 ≤ x17))

/-- (fishplate/fare.Pass).covers -/
noncomputable def mFarePassCovers (s1 : FarePass) (x5 : Int) (s6 : FareTrip) : Option (Bool) :=
  ((chk (x5 + s1.Days)).bind fun _ =>
  (chk ((x5 + s1.Days) - 1)).bind fun _ =>
  (mFareWithin s6.Day x5 ((x5 + s1.Days) - 1)).bind fun x52 =>
  if x52 = true then (
  (mSlicesContainsFunc_4 s6.Zones s1.Days s1.Price s1.Zones).bind fun x55 =>
  some (!x55))
  else (
  some false)).bind (fun x48 =>
  some x48)

/-- fishplate/fare.Cheapest-1 -/
noncomputable def mFareCheapest_1 (s3 : FareBuy) (l7 : (List FarePass)) (x8 : Int) (x9 : Int) (x10 : Int) (x11 : Int) (x12 : Bool) (l16 : (List Int)) : Option (Bool) :=
  (idx l7 s3.Pass).bind fun x65 =>
  (mFarePassCovers x65 s3.Day (⟨x8, x9, x10, x11, x12, l16⟩ : FareTrip)).bind fun x78 =>
  some x78

noncomputable def mSlicesIndexFunc_4_L75 (l11 : (List FarePass)) (l20 : (List Int)) (l21 : (List FareBuy)) (x12 : Int) (x13 : Int) (x14 : Int) (x15 : Int) (x16 : Bool) (k100 : Nat) : (Unit) → Option ((Unit) ⊕ (Int)) := fun _ =>
  (idx l21 (k100 : Int)).bind fun x104 =>
  (mFareCheapest_1 x104 l11 x12 x13 x14 x15 x16 l20).bind fun x120 =>
  if x120 = true then (
  some (.inr (k100 : Int)))
  else (
  some (.inl ()))

/-- slices.IndexFunc[[]fishplate/fare.Buy,fishplate/fare.Buy] -/
noncomputable def mSlicesIndexFunc_4 (l11 : (List FarePass)) (x12 : Int) (x13 : Int) (x14 : Int) (x15 : Int) (x16 : Bool) (l20 : (List Int)) (l21 : (List FareBuy)) : Option (Int) :=
  (forM (mSlicesIndexFunc_4_L75 l11 l20 l21 x12 x13 x14 x15 x16) l21.length 0 ()).bind fun t => Sum.elim (fun _ =>
  some (-1)) (fun q => some q) t

/-- slices.ContainsFunc[[]fishplate/fare.Buy,fishplate/fare.Buy] -/
noncomputable def mSlicesContainsFunc_3 (l11 : (List FarePass)) (x12 : Int) (x13 : Int) (x14 : Int) (x15 : Int) (x16 : Bool) (l20 : (List Int)) (l21 : (List FareBuy)) : Option (Bool) :=
  (mSlicesIndexFunc_4 l11 x12 x13 x14 x15 x16 l20 l21).bind fun x27 =>
  some (decide (0 ≤ x27))

/-- cmp.isNaN[int] -/
noncomputable def mCmpIsNaN (x1 : Int) : Option (Bool) :=
  some (decide (x1 ≠ x1))

/-- cmp.Compare[int] -/
noncomputable def mCmpCompare (x1 : Int) (x2 : Int) : Option (Int) :=
  (mCmpIsNaN x1).bind fun x13 =>
  (mCmpIsNaN x2).bind fun x15 =>
  if x13 = true then (
  if x15 = true then (
  some 0)
  else (
  some (-1)))
  else (
  if x15 = true then (
  some 1)
  else (
  if x1 < x2 then (
  some (-1))
  else (
  if x2 < x1 then (
  some 1)
  else (
  some 0))))

noncomputable def mCmpOr_L38 (l4 : (List Int)) (k53 : Nat) : (Unit) → Option ((Unit) ⊕ (Int)) := fun _ =>
  (idx l4 (k53 : Int)).bind fun x57 =>
  if x57 ≠ 0 then (
  some (.inr x57))
  else (
  some (.inl ()))

/-- cmp.Or[int] -/
noncomputable def mCmpOr (l4 : (List Int)) : Option (Int) :=
  (forM (mCmpOr_L38 l4) l4.length 0 ()).bind fun t => Sum.elim (fun _ =>
  some 0) (fun q => some q) t

/-- fishplate/fare.compareBuys -/
noncomputable def mFareCompareBuys (s1 : FareBuy) (s2 : FareBuy) : Option (Int) :=
  ((mCmpCompare s1.Day s2.Day).bind fun x79 =>
  (mCmpCompare s1.Pass s2.Pass).bind fun x81 =>
  (mCmpOr [x79, x81]).bind fun x86 =>
  some x86).bind (fun x68 =>
  some x68)

noncomputable def mSlicesCompareFunc_L74 (l4 : (List FareBuy)) (l8 : (List FareBuy)) (k104 : Nat) : (Unit) → Option ((Unit) ⊕ (Int)) := fun _ =>
  (idx l4 (k104 : Int)).bind fun x108 =>
  if (l8.length : Int) ≤ (k104 : Int) then (
  some (.inr 1))
  else (
  (idx l8 (k104 : Int)).bind fun x121 =>
  (mFareCompareBuys x108 x121).bind fun x132 =>
  if x132 ≠ 0 then (
  some (.inr x132))
  else (
  some (.inl ())))

/-- slices.CompareFunc[[]fishplate/fare.Buy,[]fishplate/fare.Buy,fishplate/fare.Buy,fishplate/fare.Buy] -/
noncomputable def mSlicesCompareFunc (l4 : (List FareBuy)) (l8 : (List FareBuy)) : Option (Int) :=
  (forM (mSlicesCompareFunc_L74 l4 l8) l4.length 0 ()).bind fun t => Sum.elim (fun _ =>
  if (l4.length : Int) < (l8.length : Int) then (
  some (-1))
  else (
  some 0)) (fun q => some q) t

noncomputable def mFareCheapest_L2316 (l11 : (List FareTrip)) (l15 : (List FarePass)) (l1335 : (List Int)) (l2190 : (List FareBuy)) (k2394 : Nat) : (Int) → Option (Int) := fun x2393 =>
  (idx l11 (k2394 : Int)).bind fun x2397 =>
  (mSlicesContainsFunc_3 l15 x2397.Day x2397.At x2397.Km x2397.Age x2397.Card x2397.Zones l2190).bind fun x2411 =>
  if x2411 = true then (
  some x2393)
  else (
  (idx l1335 (k2394 : Int)).bind fun x2416 =>
  (chk (x2393 + x2416)).bind fun _ =>
  some (x2393 + x2416))

noncomputable def mFareCheapest_L2214 (l15 : (List FarePass)) (l2190 : (List FareBuy)) (k2282 : Nat) : (Int) → Option (Int) := fun x2281 =>
  (idx l2190 (k2282 : Int)).bind fun x2285 =>
  (idx l15 x2285.Pass).bind fun x2302 =>
  (chk (x2281 + x2302.Price)).bind fun _ =>
  some (x2281 + x2302.Price)

noncomputable def mFareCheapest_L2133 (l15 : (List FarePass)) (k2129 : Nat) (k2191 : Nat) : ((List FareBuy)) → Option ((List FareBuy)) := fun l2190 =>
  (shN (k2191 : Int)).bind fun _ =>
  if (andI .i64 (shrI .i64 (k2129 : Int) (k2191 : Int)) 1) = 1 then (
  (ne0 (l15.length : Int)).bind fun _ =>
  (chk (Int.tdiv (k2191 : Int) (l15.length : Int))).bind fun _ =>
  (ne0 (l15.length : Int)).bind fun _ =>
  (room 16 (l2190.length + 1)).bind fun _ =>
  some (l2190 ++ [(⟨Int.tdiv (k2191 : Int) (l15.length : Int), Int.tmod (k2191 : Int) (l15.length : Int)⟩ : FareBuy)]))
  else (
  some l2190)

noncomputable def mFareCheapest_L1451 (l11 : (List FareTrip)) (l15 : (List FarePass)) (l1335 : (List Int)) (k2129 : Nat) : (Int × (List FareBuy)) → Option (Int × (List FareBuy)) := unc2 fun x2127 l2128 =>
  (chk (7 * (l15.length : Int))).bind fun _ =>
  (chk (7 * (l15.length : Int))).bind fun _ =>
  (forS (mFareCheapest_L2133 l15 k2129) ((7 * (l15.length : Int)).toNat) 0 ([] : (List FareBuy))).bind (fun l2190 =>
  (forS (mFareCheapest_L2214 l15 l2190) l2190.length 0 0).bind (fun x2281 =>
  (forS (mFareCheapest_L2316 l11 l15 l1335 l2190) l11.length 0 x2281).bind (fun x2393 =>
  (if x2127 < 0 then (
  some true)
  else (
  (mCmpCompare x2393 x2127).bind fun x2450 =>
  (mCmpCompare (l2190.length : Int) (l2128.length : Int)).bind fun x2452 =>
  (mSlicesCompareFunc l2190 l2128).bind fun x2454 =>
  (mCmpOr [x2450, x2452, x2454]).bind fun x2459 =>
  some (decide (x2459 < 0)))).bind (fun x2447 =>
  if x2447 = true then (
  some (x2393, l2190))
  else (
  some (x2127, l2128))))))

noncomputable def mFareCheapest_L1374 (l15 : (List FarePass)) (k1410 : Nat) : (Unit) → Option ((Unit) ⊕ (Int × Int × (List FareBuy))) := fun _ =>
  (idx l15 (k1410 : Int)).bind fun x1414 =>
  ((mFareWithin x1414.Days 1 7).bind fun x1437 =>
  if x1437 = true then (
  (mFareWithin x1414.Price 0 100000).bind fun x1440 =>
  some (!x1440))
  else (
  some true)).bind (fun x1435 =>
  if x1435 = true then (
  some (.inr (0, 2, [])))
  else (
  (mFareCheckZones x1414.Zones true).bind fun x1444 =>
  if x1444 ≠ 0 then (
  some (.inr (0, x1444, [])))
  else (
  some (.inl ()))))

noncomputable def mFareCheapest_L1255 (s1 : FareTariff) (l11 : (List FareTrip)) (k1336 : Nat) : ((List Int)) → Option (((List Int)) ⊕ (Int × Int × (List FareBuy))) := fun l1335 =>
  (idx l11 (k1336 : Int)).bind fun x1340 =>
  (mFareCheckTrip x1340).bind fun x1354 =>
  if x1354 ≠ 0 then (
  some (.inr (0, x1354, [])))
  else (
  (mFareTariffPrice s1 x1340).bind (unc2 fun x1358 _ =>
  (room 8 (l1335.length + 1)).bind fun _ =>
  some (.inl (l1335 ++ [x1358]))))

/-- fishplate/fare.Cheapest -/
noncomputable def mFareCheapest (s1 : FareTariff) (l11 : (List FareTrip)) (l15 : (List FarePass)) : Option (Int × Int × (List FareBuy)) :=
  (mFareCheckTariff s1).bind fun x1245 =>
  if x1245 ≠ 0 then (
  some (0, x1245, []))
  else (
  (if 12 < (l11.length : Int) then (
  some true)
  else (
  some (decide (2 < (l15.length : Int))))).bind (fun x1251 =>
  if x1251 = true then (
  some (0, 4, []))
  else (
  (forM (mFareCheapest_L1255 s1 l11) l11.length 0 ([] : (List Int))).bind fun t => Sum.elim (fun l1335 =>
  (forM (mFareCheapest_L1374 l15) l15.length 0 ()).bind fun t => Sum.elim (fun _ =>
  (chk (7 * (l15.length : Int))).bind fun _ =>
  (shN (7 * (l15.length : Int))).bind fun _ =>
  (chk (shlI .i64 1 (7 * (l15.length : Int)))).bind fun _ =>
  (forS (mFareCheapest_L1451 l11 l15 l1335) ((shlI .i64 1 (7 * (l15.length : Int))).toNat) 0 (((-1), []) : Int × (List FareBuy))).bind (unc2 fun x2127 l2128 =>
  some (x2127, 0, l2128))) (fun q => some q) t) (fun q => some q) t)))

noncomputable def mFishkeep2FareLess_L242 (s1 : FareTariff) (l11 : (List FareTrip)) (k300 : Nat) : (Int) → Option ((Int) ⊕ (Bool)) := fun x299 =>
  (idx l11 (k300 : Int)).bind fun x304 =>
  (mFarePrice s1 x304).bind (unc3 fun x318 x319 _ =>
  if x319 ≠ 0 then (
  some (.inr false))
  else (
  (chk (x299 + x318)).bind fun _ =>
  some (.inl (x299 + x318))))

/-- fishplate/fishkeep2.FareLess -/
noncomputable def mFishkeep2FareLess (s1 : FareTariff) (l11 : (List FareTrip)) (s12 : FarePass) (s16 : FarePass) : Option (Bool) :=
  (mFishkeep2AwakeFare).bind fun _ =>
  (mFishkeep2Fares).bind fun x197 =>
  if x197 = true then (
  (mFishref2CheapestFault s1 l11 [s12, s16]).bind fun x203 =>
  if x203 ≠ 0 then (
  some true)
  else (
  (mFareCheapest s1 l11 []).bind (unc3 fun x206 x207 _ =>
  (mFareCheapest s1 l11 [s12]).bind (unc3 fun x219 x220 _ =>
  (mFareCheapest s1 l11 [s12, s16]).bind (unc3 fun x232 x233 _ =>
  (forM (mFishkeep2FareLess_L242 s1 l11) l11.length 0 0).bind fun t => Sum.elim (fun x299 =>
  (ne0 2).bind fun _ =>
  (chk (Int.tdiv s12.Price 2)).bind fun _ =>
  (mFareCheapest s1 l11 [(⟨s12.Days, Int.tdiv s12.Price 2, s12.Zones⟩ : FarePass)]).bind (unc3 fun x337 x338 _ =>
  (if x207 = 0 then (
  if x220 = 0 then (
  if x233 = 0 then (
  if x338 = 0 then (
  if x206 = x299 then (
  if x219 ≤ x206 then (
  if x232 ≤ x219 then (
  some (decide (x337 ≤ x219)))
  else (
  some false))
  else (
  some false))
  else (
  some false))
  else (
  some false))
  else (
  some false))
  else (
  some false))
  else (
  some false)).bind (fun x356 =>
  some x356))) (fun q => some q) t)))))
  else (
  some false)

end Go.Proofs.YtiajmiigkjmakaaGreatDoor
