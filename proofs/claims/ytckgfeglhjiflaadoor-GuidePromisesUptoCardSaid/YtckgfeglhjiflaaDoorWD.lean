/- The models of the functions, as the extractor printed them. -/
import Derived.Test.YtckgfeglhjiflaaDoorXI
import Derived.Test.YtckgfeglhjiflaaDoorXL
import Derived.Test.YtckgfeglhjiflaaDoorXP
import Derived.Test.YtckgfeglhjiflaaDoorXS
import Derived.Test.YtckgfeglhjiflaaDoorXZ
import Derived.Test.YtckgfeglhjiflaaDoorXK
set_option linter.unusedVariables false
set_option linter.unusedSimpArgs false
namespace Go.Proofs.YtckgfeglhjiflaaDoor
open Go.RowKit Go.Fp

structure ApiStop where
  Station : Int
  Track : Int
  Arr : Int
  Dep : Int
  deriving DecidableEq
def rApiStop : RT ApiStop := (RT.cat (RT.on (RT.int .i64) ApiStop.Station) (RT.cat (RT.on (RT.int .i64) ApiStop.Track) (RT.cat (RT.on (RT.int .i64) ApiStop.Arr) (RT.on (RT.int .i64) ApiStop.Dep))))
structure ApiTrain where
  No : Int
  Stock : Int
  Stops : (List ApiStop)
  Legs : (List (List Int))
def rApiTrain : RT ApiTrain := (RT.cat (RT.on (RT.int .i64) ApiTrain.No) (RT.cat (RT.on (RT.int .i64) ApiTrain.Stock) (RT.cat (RT.on (RT.list rApiStop) ApiTrain.Stops) (RT.on (RT.list (RT.list (RT.int .i64))) ApiTrain.Legs))))
structure ApiDay where
  Trains : (List ApiTrain)
  Turns : (List (List Int))
def rApiDay : RT ApiDay := (RT.cat (RT.on (RT.list rApiTrain) ApiDay.Trains) (RT.on (RT.list (RT.list (RT.int .i64))) ApiDay.Turns))
structure GuideRide where
  Train : Int
  On : Int
  Off : Int
  deriving DecidableEq
def rGuideRide : RT GuideRide := (RT.cat (RT.on (RT.int .i64) GuideRide.Train) (RT.cat (RT.on (RT.int .i64) GuideRide.On) (RT.on (RT.int .i64) GuideRide.Off)))
structure GuideJourney where
  Rides : (List GuideRide)
def rGuideJourney : RT GuideJourney := (RT.on (RT.list rGuideRide) GuideJourney.Rides)
structure GuideNet where
  Day : ApiDay
  least : Int
def rGuideNet : RT GuideNet := (RT.cat (RT.on rApiDay GuideNet.Day) (RT.on (RT.int .i64) GuideNet.least))
structure GuidePromise where
  From : Int
  To : Int
  Dep : Int
  Arr : Int
  State : Int
  Journey : GuideJourney
def rGuidePromise : RT GuidePromise := (RT.cat (RT.on (RT.int .i64) GuidePromise.From) (RT.cat (RT.on (RT.int .i64) GuidePromise.To) (RT.cat (RT.on (RT.int .i64) GuidePromise.Dep) (RT.cat (RT.on (RT.int .i64) GuidePromise.Arr) (RT.cat (RT.on (RT.int .i64) GuidePromise.State) (RT.on rGuideJourney GuidePromise.Journey))))))
structure GuidePromise0 where
  Promise : GuidePromise
  over : (List Bool)
  arrived : (List Int)
  ends : (List Int)
  station : Int
  when : Int
def rGuidePromise0 : RT GuidePromise0 := (RT.cat (RT.on rGuidePromise GuidePromise0.Promise) (RT.cat (RT.on (RT.list RT.bool) GuidePromise0.over) (RT.cat (RT.on (RT.list (RT.int .i64)) GuidePromise0.arrived) (RT.cat (RT.on (RT.list (RT.int .i64)) GuidePromise0.ends) (RT.cat (RT.on (RT.int .i64) GuidePromise0.station) (RT.on (RT.int .i64) GuidePromise0.when))))))
def oGuidePromise0 : OT GuidePromise0 := (OT.catR (RT.on rGuidePromise GuidePromise0.Promise) (OT.both (OT.on (OT.list 4 (OT.fr RT.bool)) GuidePromise0.over) (OT.both (OT.on (OT.list 3 (OT.fr (RT.int .i64))) GuidePromise0.arrived) (OT.catL (OT.on (OT.list 3 (OT.fr (RT.int .i64))) GuidePromise0.ends) (RT.cat (RT.on (RT.int .i64) GuidePromise0.station) (RT.on (RT.int .i64) GuidePromise0.when))))))
structure GuideMessage where
  At : Int
  Promise : Int
  Ride : Int
  Kind : Int
  Value : Int
  deriving DecidableEq
def rGuideMessage : RT GuideMessage := (RT.cat (RT.on (RT.int .i64) GuideMessage.At) (RT.cat (RT.on (RT.int .i64) GuideMessage.Promise) (RT.cat (RT.on (RT.int .i64) GuideMessage.Ride) (RT.cat (RT.on (RT.int .i64) GuideMessage.Kind) (RT.on (RT.int .i64) GuideMessage.Value)))))
structure GuidePoint where
  Dep : Int
  Arr : Int
  Rides : Int
  deriving DecidableEq
def rGuidePoint : RT GuidePoint := (RT.cat (RT.on (RT.int .i64) GuidePoint.Dep) (RT.cat (RT.on (RT.int .i64) GuidePoint.Arr) (RT.on (RT.int .i64) GuidePoint.Rides)))
structure GuidePlace where
  train : Int
  off : Int
  deriving DecidableEq
def rGuidePlace : RT GuidePlace := (RT.cat (RT.on (RT.int .i64) GuidePlace.train) (RT.on (RT.int .i64) GuidePlace.off))

noncomputable def mPlanForm_L460 (a : ApiTrain) (c : Nat) : (Unit) → Option ((Unit) ⊕ ((Unit) ⊕ (Int))) := fun _ =>
 (idx a.Legs (c : Int)).bind fun d =>
 if 4 < (d.length : Int) then (
 some (.inr (.inr 4)))
 else (
 some (.inl ()))

noncomputable def mPlanForm_L419 (a : ApiTrain) (c : Nat) : (Unit) → Option ((Unit) ⊕ ((Unit) ⊕ (Int))) := fun _ =>
 (idx a.Legs (c : Int)).bind fun d =>
 if (d.length : Int) = 0 then (
 some (.inr (.inr 1)))
 else (
 some (.inl ()))

noncomputable def mPlanForm_L500 (c : ApiDay) (d : Nat) : (Unit) → Option ((Unit) ⊕ (Int)) := fun _ =>
 (idx c.Turns (d : Int)).bind fun a =>
 if (a.length : Int) = 0 then (
 some (.inr 1))
 else (
 if 12 < (a.length : Int) then (
 some (.inr 4))
 else (
 some (.inl ())))

noncomputable def mPlanForm_L283 (c : ApiDay) (d : Nat) : (Unit) → Option ((Unit) ⊕ (Int)) := fun _ =>
 (idx c.Trains (d : Int)).bind fun a =>
 (if (a.Stops.length : Int) = 0 then (
 some true)
 else (
 (chk ((a.Stops.length : Int) - 1)).bind fun _ =>
 some (decide ((a.Legs.length : Int) ≠ ((a.Stops.length : Int) - 1))))).bind (fun e =>
 if e = true then (
 some (.inr 1))
 else (
 (forM (mPlanForm_L419 a) a.Legs.length 0 ()).bind fun t => Sum.elim (fun _ =>
 if 8 < (a.Stops.length : Int) then (
 some (.inr 4))
 else (
 (forM (mPlanForm_L460 a) a.Legs.length 0 ()).bind fun t => Sum.elim (fun _ =>
 some (.inl ())) (fun q => some q) t)) (fun q => some q) t))

noncomputable def mPlanForm (a : ApiDay) : Option (Int) :=
 (if 12 < (a.Trains.length : Int) then (
 some true)
 else (
 some (decide (8 < (a.Turns.length : Int))))).bind (fun c =>
 if c = true then (
 some 4)
 else (
 (forM (mPlanForm_L283 a) a.Trains.length 0 ()).bind fun t => Sum.elim (fun _ =>
 (forM (mPlanForm_L500 a) a.Turns.length 0 ()).bind fun t => Sum.elim (fun _ =>
 some 0) (fun q => some q) t) (fun q => some q) t))

noncomputable def mPlanWithin (a c d : Int) : Option (Bool) :=
 (if c ≤ a then (
 some (decide (a ≤ d)))
 else (
 some false)).bind (fun e =>
 some e)

noncomputable def mStrconvItoa (a : Int) : Option (ByteArray) :=
 itoaM a

noncomputable def mPlanSentence_L66 (a : List Int) (c : Nat) : (ByteArray) → Option (ByteArray) := fun d =>
 (idx a (c : Int)).bind fun e =>
 (mStrconvItoa e).bind fun f =>
 (sAdd (ByteArray.mk #[32]) f).bind fun g =>
 (sAdd d g).bind fun h =>
 some h

noncomputable def mPlanSentence (c : ByteArray) (a : List Int) : Option (ByteArray) :=
 (forS (mPlanSentence_L66 a) a.length 0 c).bind (fun d =>
 (sAdd d (ByteArray.mk #[10])).bind fun e =>
 some e)

noncomputable def mStringsBuilderWriteString (a c : ByteArray) : Option (Int × ByteArray) :=
 bWrite c a

noncomputable def mPlanText_1_L96 (a : List Int) (c : Nat) : (Bool) → Option (Bool) := fun d =>
 (idx a (c : Int)).bind fun e =>
 if d = true then (
 (mPlanWithin e 0 999999).bind fun f =>
 some f)
 else (
 some false)

noncomputable def mPlanText_1 (c : ByteArray) (d : Bool) (a : List Int) (e : ByteArray) : Option (Bool × ByteArray) :=
 (forS (mPlanText_1_L96 a) a.length 0 d).bind (fun f =>
 (mPlanSentence c a).bind fun g =>
 (mStringsBuilderWriteString g e).bind (unc2 fun _ h =>
 some (f, h)))

noncomputable def mPlanText_1_2_L75 (a : List Int) (c : Nat) : (Bool) → Option (Bool) := fun d =>
 (idx a (c : Int)).bind fun e =>
 if d = true then (
 (mPlanWithin e 0 999999).bind fun f =>
 some f)
 else (
 some false)

noncomputable def mPlanText_1_2 (c : ByteArray) (a : List Int) (d : Bool) (e : ByteArray) : Option (Bool × ByteArray) :=
 (forS (mPlanText_1_2_L75 a) a.length 0 d).bind (fun f =>
 (mPlanSentence c a).bind fun g =>
 (mStringsBuilderWriteString g e).bind (unc2 fun _ h =>
 some (f, h)))

noncomputable def mStringsBuilderString (a : ByteArray) : Option (ByteArray) :=
 some a

noncomputable def mPlanText_L1169 (a : ApiTrain) (c : Nat) : (Bool × ByteArray) → Option (Bool × ByteArray) := unc2 fun d e =>
 (idx a.Legs (c : Int)).bind fun f =>
 (mPlanText_1_2 (ByteArray.mk #[108, 101, 103]) f d e).bind (unc2 fun g h =>
 some (g, h))

noncomputable def mPlanText_L1089 (c : ApiTrain) (d : Nat) : (Bool × ByteArray) → Option (Bool × ByteArray) := unc2 fun e f =>
 (idx c.Stops (d : Int)).bind fun a =>
 (mPlanText_1 (ByteArray.mk #[115, 116, 111, 112]) e [a.Station, a.Track, a.Arr, a.Dep] f).bind (unc2 fun g h =>
 some (g, h))

noncomputable def mPlanText_L1246 (a : ApiDay) (c : Nat) : (Bool × ByteArray) → Option (Bool × ByteArray) := unc2 fun d e =>
 (idx a.Turns (c : Int)).bind fun f =>
 (mPlanText_1_2 (ByteArray.mk #[116, 117, 114, 110]) f d e).bind (unc2 fun g h =>
 some (g, h))

noncomputable def mPlanText_L677 (c : ApiDay) (d : Nat) : (Bool × ByteArray) → Option (Bool × ByteArray) := unc2 fun e f =>
 (idx c.Trains (d : Int)).bind fun a =>
 (mPlanText_1 (ByteArray.mk #[116, 114, 97, 105, 110]) e [a.No, a.Stock] f).bind (unc2 fun g h =>
 (forS (mPlanText_L1089 a) a.Stops.length 0 (g, h)).bind (unc2 fun i j =>
 (forS (mPlanText_L1169 a) a.Legs.length 0 (i, j)).bind (unc2 fun k l =>
 some (k, l))))

noncomputable def mPlanText (a : ApiDay) : Option (ByteArray × Int) :=
 (mPlanForm a).bind fun c =>
 if c ≠ 0 then (
 some ((ByteArray.mk #[]), c))
 else (
 (forS (mPlanText_L677 a) a.Trains.length 0 (true, ByteArray.empty)).bind (unc2 fun d e =>
 (forS (mPlanText_L1246 a) a.Turns.length 0 (d, e)).bind (unc2 fun f g =>
 if f = true then (
 (mStringsBuilderString g).bind fun h =>
 some (h, 0))
 else (
 some ((ByteArray.mk #[]), 2)))))

noncomputable def mGuideWithin (a c d : Int) : Option (Bool) :=
 (if c ≤ a then (
 some (decide (a ≤ d)))
 else (
 some false)).bind (fun e =>
 some e)

noncomputable def mGuideCheck_L1189 (d : ApiTrain) (c : Nat) : (Unit) → Option ((Unit) ⊕ (((List (Int × Bool))) ⊕ (Int))) := fun _ =>
 (idx d.Stops (c : Int)).bind fun a =>
 ((mGuideWithin a.Station 0 11).bind fun e =>
 if e = true then (
 (mGuideWithin a.Arr 0 28800).bind fun f =>
 if f = true then (
 (mGuideWithin a.Dep 0 28800).bind fun g =>
 some (!g))
 else (
 some true))
 else (
 some true)).bind (fun h =>
 if h = true then (
 some (.inr (.inr 2)))
 else (
 (if a.Dep < a.Arr then (
 some true)
 else (
 if 0 < (c : Int) then (
 (chk ((c : Int) - 1)).bind fun _ =>
 (idx d.Stops ((c : Int) - 1)).bind fun i =>
 some (decide (a.Arr ≤ i.Dep)))
 else (
 some false))).bind (fun j =>
 if j = true then (
 some (.inr (.inr 5)))
 else (
 some (.inl ())))))

noncomputable def mGuideCheck_L703 (d : ApiDay) (e : Nat) : ((List (Int × Bool))) → Option (((List (Int × Bool))) ⊕ (Int)) := fun c =>
 (idx d.Trains (e : Int)).bind fun a =>
 (mGuideWithin a.No 1 9999).bind fun f =>
 if f = true then (
 (some (mgetD c a.No false)).bind fun g =>
 if g = true then (
 some (.inr 6))
 else (
 if (a.Stops.length : Int) < 2 then (
 some (.inr 1))
 else (
 (forM (mGuideCheck_L1189 a) a.Stops.length 0 ()).bind fun t => Sum.elim (fun _ =>
 some (.inl (mput c a.No true))) (fun q => some q) t)))
 else (
 some (.inr 2))

noncomputable def mGuideCheck (a : ApiDay) : Option (Int) :=
 (mPlanText a).bind (unc2 fun _ c =>
 if c ≠ 0 then (
 some c)
 else (
 (forM (mGuideCheck_L703 a) a.Trains.length 0 (([] : List (Int × Bool)) : List (Int × Bool))).bind fun t => Sum.elim (fun _ =>
 some 0) (fun q => some q) t))

noncomputable def mGuideCheckLeast (c : ApiDay) (d : Int) : Option (Int) :=
 (mGuideCheck c).bind fun a =>
 if a ≠ 0 then (
 some a)
 else (
 (mGuideWithin d 0 28800).bind fun e =>
 if e = true then (
 some 0)
 else (
 some 2))

noncomputable def mGuideNetOn (d : GuideNet) (c : GuideRide) : Option (Int × Int × Int × Int) :=
 (idx d.Day.Trains c.Train).bind fun e =>
 (idx e.Stops c.On).bind fun a =>
 some (a.Station, a.Track, a.Arr, a.Dep)

noncomputable def mGuideNetOff (d : GuideNet) (c : GuideRide) : Option (Int × Int × Int × Int) :=
 (idx d.Day.Trains c.Train).bind fun e =>
 (idx e.Stops c.Off).bind fun a =>
 some (a.Station, a.Track, a.Arr, a.Dep)

noncomputable def mGuideNetJourney_L428 (a : GuideNet) (g : GuideJourney) (i : Bool) (d : Nat) : (Unit) → Option ((Unit) ⊕ (Int)) := fun _ =>
 (idx g.Rides (d : Int)).bind fun c =>
 (chk ((a.Day.Trains.length : Int) - 1)).bind fun _ =>
 (mGuideWithin c.Train 0 ((a.Day.Trains.length : Int) - 1)).bind fun j =>
 if j = true then (
 (idx a.Day.Trains c.Train).bind fun e =>
 (chk ((e.Stops.length : Int) - 1)).bind fun _ =>
 ((mGuideWithin c.On 0 ((e.Stops.length : Int) - 1)).bind fun k =>
 if k = true then (
 (mGuideWithin c.Off 0 ((e.Stops.length : Int) - 1)).bind fun l =>
 some (!l))
 else (
 some true)).bind (fun m =>
 if m = true then (
 some (.inr 3))
 else (
 if c.Off ≤ c.On then (
 some (.inr 1))
 else (
 if (d : Int) = 0 then (
 some (.inl ()))
 else (
 (chk ((d : Int) - 1)).bind fun _ =>
 (idx g.Rides ((d : Int) - 1)).bind fun f =>
 (if c.Train = f.Train then (
 some true)
 else (
 (mGuideNetOn a c).bind (unc4 fun n _ _ _ =>
 (mGuideNetOff a f).bind (unc4 fun o _ _ _ =>
 some (decide (n ≠ o)))))).bind (fun p =>
 if p = true then (
 some (.inr 1))
 else (
 (if i = true then (
 (mGuideNetOn a c).bind (unc4 fun _ _ _ q =>
 (mGuideNetOff a f).bind (unc4 fun _ _ h _ =>
 (chk (h + a.least)).bind fun _ =>
 some (decide (q < (h + a.least))))))
 else (
 some false)).bind (fun r =>
 if r = true then (
 some (.inr 13))
 else (
 some (.inl ()))))))))))
 else (
 some (.inr 3))

noncomputable def mGuideNetJourney (c : GuideNet) (a : GuideJourney) (d : Bool) : Option (Int) :=
 (mGuideWithin (a.Rides.length : Int) 1 4).bind fun e =>
 if e = true then (
 (forM (mGuideNetJourney_L428 c a d) a.Rides.length 0 ()).bind fun t => Sum.elim (fun _ =>
 some 0) (fun q => some q) t)
 else (
 some 4)

noncomputable def mGuideCheckJourney (a : ApiDay) (e : GuideJourney) (c : Int) : Option (Int) :=
 (mGuideCheckLeast a c).bind fun d =>
 if d ≠ 0 then (
 some d)
 else (
 (mGuideNetJourney (⟨a, c⟩ : GuideNet) e true).bind fun f =>
 some f)

noncomputable def mFishkeep2AwakeGuide : Option (Bool) :=
 (mGuideCheckJourney (⟨[], []⟩ : ApiDay) (⟨[]⟩ : GuideJourney) (-1)).bind fun a =>
 some (decide (a ≠ 0))

noncomputable def mSlicesClone (a : List ApiTrain) : Option ((List ApiTrain)) :=
 (room 64 a.length).bind fun _ => some a

noncomputable def mSlicesClone_2 (a : List (List Int)) : Option ((List (List Int))) :=
 (room 24 a.length).bind fun _ => some a

noncomputable def mSlicesClone_3 (a : List ApiStop) : Option ((List ApiStop)) :=
 (room 32 a.length).bind fun _ => some a

noncomputable def mSlicesClone_4 (a : List Int) : Option ((List Int)) :=
 (room 8 a.length).bind fun _ => some a

noncomputable def mGuideOwn_L2969 (a : Nat) : ((List (List Int))) → Option ((List (List Int))) := fun c =>
 (idx c (a : Int)).bind fun d =>
 (mSlicesClone_4 d).bind fun e =>
 (idx c (a : Int)).bind fun _ =>
 some (put c (a : Int) e)

noncomputable def mGuideOwn_L3327 (a : Nat) : ((List (List Int))) → Option ((List (List Int))) := fun c =>
 (idx c (a : Int)).bind fun d =>
 (mSlicesClone_4 d).bind fun e =>
 (idx c (a : Int)).bind fun _ =>
 some (put c (a : Int) e)

noncomputable def mGuideOwn_L1931 (c : Nat) : ((List ApiTrain)) → Option ((List ApiTrain)) := fun d =>
 (idx d (c : Int)).bind fun a =>
 ((mSlicesClone_3 a.Stops).bind fun f =>
 (mSlicesClone_2 a.Legs).bind fun g =>
 some (f, g)).bind (unc2 fun h e =>
 (forS mGuideOwn_L2969 e.length 0 e).bind (fun i =>
 some (put d (c : Int) (⟨a.No, a.Stock, h, i⟩ : ApiTrain))))

noncomputable def mGuideOwn (a : ApiDay) : Option ((List ApiTrain) × (List (List Int))) :=
 ((mSlicesClone a.Trains).bind fun e =>
 (mSlicesClone_2 a.Turns).bind fun f =>
 some (e, f)).bind (unc2 fun c d =>
 (forS mGuideOwn_L1931 c.length 0 c).bind (fun g =>
 (forS mGuideOwn_L3327 d.length 0 d).bind (fun h =>
 some (g, h))))

noncomputable def mGuideNewDesk (a : ApiDay) (c : Int) : Option ((List ApiTrain) × (List (List Int)) × Int × Int × (List GuidePromise0) × (List GuideMessage)) :=
 (mGuideCheckLeast a c).bind fun d =>
 if d ≠ 0 then (
 none)
 else (
 (mGuideOwn a).bind (unc2 fun e f =>
 some (e, f, c, 0, [], [])))

noncomputable def mGuideCheck_2_L92 (a : List Int) (c : Nat) : (Unit) → Option ((Unit) ⊕ (Int)) := fun _ =>
 (idx a (c : Int)).bind fun d =>
 (mGuideWithin d 0 28800).bind fun e =>
 if e = true then (
 some (.inl ()))
 else (
 some (.inr 2))

noncomputable def mGuideCheck_2 (f : ApiDay) (g a c : Int) (d : List Int) : Option (Int) :=
 (mGuideCheckLeast f g).bind fun e =>
 if e ≠ 0 then (
 some e)
 else (
 ((mGuideWithin a 0 11).bind fun h =>
 if h = true then (
 (mGuideWithin c 0 11).bind fun i =>
 some (!i))
 else (
 some true)).bind (fun j =>
 if j = true then (
 some 3)
 else (
 if a = c then (
 some 1)
 else (
 (forM (mGuideCheck_2_L92 d) d.length 0 ()).bind fun t => Sum.elim (fun _ =>
 some 0) (fun q => some q) t))))

def offsG (t on n off : Nat) : List GuideRide := (List.range' off (n - off)).map fun (k : Nat) => ⟨(t : Int), (on : Int), (k : Int)⟩

def ridesS (t n : Nat) (sta at_ : Int) : List ApiStop → Nat → List GuideRide
  | [], _ => []
  | s :: r, on => (if s.Station ≠ sta ∨ s.Dep < at_ then [] else offsG t on n (on + 1)) ++ ridesS t n sta at_ r (on + 1)

def ridesL (sta at_ nt : Int) : List ApiTrain → Nat → List GuideRide
  | [], _ => []
  | x :: r, t => (if (t : Int) = nt then [] else ridesS t x.Stops.length sta at_ x.Stops 0) ++ ridesL sta at_ nt r (t + 1)

noncomputable def mGuideNetRides (a : GuideNet) (c d e : Int) : Option ((List GuideRide)) :=
 some (ridesL c d e a.Day.Trains 0)

noncomputable def mGuideNetBehind (a : GuideNet) (c : GuideRide) : Option ((List GuideRide)) :=
 (mGuideNetOff a c).bind (unc4 fun e _ d _ =>
 (chk (d + a.least)).bind fun _ =>
 (mGuideNetRides a e (d + a.least) c.Train).bind fun f =>
 some f)

noncomputable def mSlicesAppendSeq_L63 (c : GuideRide) : ((List GuideRide)) → Option (((List GuideRide)) ⊕ ((List GuideRide))) := fun a =>
 (room 24 (a.length + 1)).bind fun _ =>
 some (.inl (a ++ [c]))

noncomputable def mSlicesAppendSeq (a c : List GuideRide) : Option ((List GuideRide)) :=
 (forL mSlicesAppendSeq_L63 a c).bind fun t => Sum.elim (fun d =>
 some d) (fun q => some q) t

noncomputable def mGuideNetEnds_L1300 (e : GuideNet) (f : List GuideRide) (g : Nat) : ((List GuideRide) × (List (GuidePlace × Bool))) → Option ((List GuideRide) × (List (GuidePlace × Bool))) := unc2 fun d c =>
 (idx f (g : Int)).bind fun a =>
 (some (mgetD c (⟨a.Train, a.Off⟩ : GuidePlace) false)).bind fun h =>
 if h = true then (
 some (d, c))
 else (
 (mGuideNetBehind e a).bind fun i =>
 (mSlicesAppendSeq i d).bind fun j =>
 some (j, mput c (⟨a.Train, a.Off⟩ : GuidePlace) true))

noncomputable def mGuideNetEnds_L1115 (e : GuideNet) (f : List GuideRide) (g : Nat) : ((List GuideRide) × (List (GuidePlace × Bool))) → Option ((List GuideRide) × (List (GuidePlace × Bool))) := unc2 fun d c =>
 (idx f (g : Int)).bind fun a =>
 (some (mgetD c (⟨a.Train, a.Off⟩ : GuidePlace) false)).bind fun h =>
 if h = true then (
 some (d, c))
 else (
 (mGuideNetBehind e a).bind fun i =>
 (mSlicesAppendSeq i d).bind fun j =>
 some (j, mput c (⟨a.Train, a.Off⟩ : GuidePlace) true))

noncomputable def mGuideNetEnds_L930 (e : GuideNet) (f : List GuideRide) (g : Nat) : ((List GuideRide) × (List (GuidePlace × Bool))) → Option ((List GuideRide) × (List (GuidePlace × Bool))) := unc2 fun d c =>
 (idx f (g : Int)).bind fun a =>
 (some (mgetD c (⟨a.Train, a.Off⟩ : GuidePlace) false)).bind fun h =>
 if h = true then (
 some (d, c))
 else (
 (mGuideNetBehind e a).bind fun i =>
 (mSlicesAppendSeq i d).bind fun j =>
 some (j, mput c (⟨a.Train, a.Off⟩ : GuidePlace) true))

noncomputable def mGuideNetEnds_L763 (e : GuideNet) (f : List GuideRide) (g : Nat) : ((List GuideRide) × (List (GuidePlace × Bool))) → Option ((List GuideRide) × (List (GuidePlace × Bool))) := unc2 fun d c =>
 (idx f (g : Int)).bind fun a =>
 (some (mgetD c (⟨a.Train, a.Off⟩ : GuidePlace) false)).bind fun h =>
 if h = true then (
 some (d, c))
 else (
 (mGuideNetBehind e a).bind fun i =>
 (mSlicesAppendSeq i d).bind fun j =>
 some (j, mput c (⟨a.Train, a.Off⟩ : GuidePlace) true))

noncomputable def mGuideNetEnds (a : GuideNet) (c : List GuideRide) : Option ((List (GuidePlace × Bool)) × (List (GuidePlace × Bool)) × (List (GuidePlace × Bool)) × (List (GuidePlace × Bool))) :=
 (forS (mGuideNetEnds_L763 a c) c.length 0 (([], ([] : List (GuidePlace × Bool))) : (List GuideRide) × (List (GuidePlace × Bool)))).bind (unc2 fun d g =>
 (chk (0 + 1)).bind fun _ =>
 (forS (mGuideNetEnds_L930 a d) d.length 0 (([], ([] : List (GuidePlace × Bool))) : (List GuideRide) × (List (GuidePlace × Bool)))).bind (unc2 fun e h =>
 (chk (1 + 1)).bind fun _ =>
 (forS (mGuideNetEnds_L1115 a e) e.length 0 (([], ([] : List (GuidePlace × Bool))) : (List GuideRide) × (List (GuidePlace × Bool)))).bind (unc2 fun f i =>
 (chk (2 + 1)).bind fun _ =>
 (forS (mGuideNetEnds_L1300 a f) f.length 0 (([], ([] : List (GuidePlace × Bool))) : (List GuideRide) × (List (GuidePlace × Bool)))).bind (unc2 fun _ j =>
 (chk (3 + 1)).bind fun _ =>
 some (g, h, i, j)))))

noncomputable def mBitsLen64 (a : Int) : Option (Int) :=
 (if 4294967296 ≤ a then (
 (shN 32).bind fun _ =>
 some (shrI .u64 a 32, 32))
 else (
 some (a, 0))).bind (unc2 fun c d =>
 (if 65536 ≤ c then (
 (shN 16).bind fun _ =>
 (chk (d + 16)).bind fun _ =>
 some (shrI .u64 c 16, d + 16))
 else (
 some (c, d))).bind (unc2 fun e f =>
 (if 256 ≤ e then (
 (shN 8).bind fun _ =>
 (chk (f + 8)).bind fun _ =>
 some (shrI .u64 e 8, f + 8))
 else (
 some (e, f))).bind (unc2 fun i g =>
 (sIdx (ByteArray.mk (List.toArray (List.append (List.append ([0, 1, 2, 2, 3, 3, 3, 3, 4, 4, 4, 4, 4, 4, 4, 4, 5, 5, 5, 5, 5, 5, 5, 5, 5, 5, 5, 5, 5, 5, 5, 5, 6, 6, 6, 6, 6, 6, 6, 6, 6, 6, 6, 6, 6, 6, 6, 6, 6, 6, 6, 6, 6, 6, 6, 6, 6, 6, 6, 6, 6, 6, 6, 6] : List UInt8) ([7, 7, 7, 7, 7, 7, 7, 7, 7, 7, 7, 7, 7, 7, 7, 7, 7, 7, 7, 7, 7, 7, 7, 7, 7, 7, 7, 7, 7, 7, 7, 7, 7, 7, 7, 7, 7, 7, 7, 7, 7, 7, 7, 7, 7, 7, 7, 7, 7, 7, 7, 7, 7, 7, 7, 7, 7, 7, 7, 7, 7, 7, 7, 7] : List UInt8)) (List.append ([8, 8, 8, 8, 8, 8, 8, 8, 8, 8, 8, 8, 8, 8, 8, 8, 8, 8, 8, 8, 8, 8, 8, 8, 8, 8, 8, 8, 8, 8, 8, 8, 8, 8, 8, 8, 8, 8, 8, 8, 8, 8, 8, 8, 8, 8, 8, 8, 8, 8, 8, 8, 8, 8, 8, 8, 8, 8, 8, 8, 8, 8, 8, 8] : List UInt8) ([8, 8, 8, 8, 8, 8, 8, 8, 8, 8, 8, 8, 8, 8, 8, 8, 8, 8, 8, 8, 8, 8, 8, 8, 8, 8, 8, 8, 8, 8, 8, 8, 8, 8, 8, 8, 8, 8, 8, 8, 8, 8, 8, 8, 8, 8, 8, 8, 8, 8, 8, 8, 8, 8, 8, 8, 8, 8, 8, 8, 8, 8, 8, 8] : List UInt8))))) (IntKind.wrap .u8 i)).bind fun h =>
 (chk (g + (IntKind.wrap .i64 h))).bind fun _ =>
 some (g + (IntKind.wrap .i64 h)))))

noncomputable def mBitsLen (a : Int) : Option (Int) :=
 (mBitsLen64 a).bind fun c =>
 some c

noncomputable def mCmpIsNaN (a : Int) : Option (Bool) :=
 some (decide (a ≠ a))

noncomputable def mCmpCompare (a c : Int) : Option (Int) :=
 (mCmpIsNaN a).bind fun e =>
 (mCmpIsNaN c).bind fun d =>
 if e = true then (
 if d = true then (
 some 0)
 else (
 some (-1)))
 else (
 if d = true then (
 some 1)
 else (
 if a < c then (
 some (-1))
 else (
 if c < a then (
 some 1)
 else (
 some 0))))

noncomputable def mCmpOr_L38 (c : List Int) (d : Nat) : (Unit) → Option ((Unit) ⊕ (Int)) := fun _ =>
 (idx c (d : Int)).bind fun a =>
 if a ≠ 0 then (
 some (.inr a))
 else (
 some (.inl ()))

noncomputable def mCmpOr (a : List Int) : Option (Int) :=
 (forM (mCmpOr_L38 a) a.length 0 ()).bind fun t => Sum.elim (fun _ =>
 some 0) (fun q => some q) t

noncomputable def mGuideComparePoints (a c : GuidePoint) : Option (Int) :=
 ((mCmpCompare a.Dep c.Dep).bind fun d =>
 (mCmpCompare a.Arr c.Arr).bind fun e =>
 (mCmpCompare a.Rides c.Rides).bind fun f =>
 (mCmpOr [d, e, f]).bind fun g =>
 some g).bind (fun h =>
 some h)

noncomputable def mSlicesInsertionSortCmpFunc_L9840 (e : Int) : (Int × (List GuidePoint)) → Option ((Int × (List GuidePoint)) ⊕ ((List GuidePoint))) := unc2 fun a c =>
 (if e < a then (
 (idx c a).bind fun f =>
 (chk (a - 1)).bind fun _ =>
 (idx c (a - 1)).bind fun g =>
 (mGuideComparePoints f g).bind fun h =>
 some (decide (h < 0)))
 else (
 some false)).bind (fun i =>
 if i = true then (
 (chk (a - 1)).bind fun _ =>
 (chk (a - 1)).bind fun _ =>
 (idx c (a - 1)).bind fun d =>
 (idx c a).bind fun j =>
 (idx c a).bind fun _ =>
 (idx (put c a d) (a - 1)).bind fun _ =>
 (chk (a - 1)).bind fun _ =>
 some (.inl (a - 1, put (put c a d) (a - 1) j)))
 else (
 some (.inr c)))

noncomputable def mSlicesInsertionSortCmpFunc_L5371 (d e : Int) : (Int × (List GuidePoint)) → Option ((Int × (List GuidePoint)) ⊕ ((List GuidePoint))) := unc2 fun a c =>
 if a < e then (
 (loopM (mSlicesInsertionSortCmpFunc_L9840 d) (a, c)).bind (fun f =>
 (chk (a + 1)).bind fun _ =>
 some (.inl (a + 1, f))))
 else (
 some (.inr c))

noncomputable def mSlicesInsertionSortCmpFunc (a c : Int) (d : List GuidePoint) : Option ((List GuidePoint)) :=
 (chk (a + 1)).bind fun _ =>
 loopM (mSlicesInsertionSortCmpFunc_L5371 a c) (a + 1, d)

noncomputable def mSlicesPdqsortCmpFunc_L36 (d : List GuidePoint) (a c : Int) : (Unit) → Option ((Unit) ⊕ ((List GuidePoint))) := fun _ =>
 (chk (c - a)).bind fun _ =>
 if (c - a) ≤ 12 then (
 (mSlicesInsertionSortCmpFunc a c d).bind fun e =>
 some (.inr e))
 else (
 none)

noncomputable def mSlicesPdqsortCmpFunc (a c _ : Int) (d : List GuidePoint) : Option ((List GuidePoint)) :=
 loopM (mSlicesPdqsortCmpFunc_L36 d a c) ()

noncomputable def mSlicesSortFunc (a : List GuidePoint) : Option ((List GuidePoint)) :=
 (mBitsLen (IntKind.wrap .u64 (a.length : Int))).bind fun c =>
 (mSlicesPdqsortCmpFunc 0 (a.length : Int) c a).bind fun d =>
 some d

noncomputable def mGuideNetPoints_L48340 (h : GuideNet) (i : Int) (c : (Int × (List GuideRide))) (g : GuidePlace × Bool) : ((List (GuidePoint × Bool)) × (List GuidePoint)) → Option (((List (GuidePoint × Bool)) × (List GuidePoint)) ⊕ ((List (GuidePoint × Bool)) × (List GuidePoint))) := unc2 fun d e =>
 ((idx h.Day.Trains g.1.train).bind fun j =>
 (idx j.Stops g.1.off).bind fun a =>
 some (a.Station, a.Track, a.Arr, a.Dep)).bind (unc4 fun k _ f _ =>
 (chk (0 + 1)).bind fun _ =>
 (if k = i then (
 (some (mgetD d (⟨c.1, f, 0 + 1⟩ : GuidePoint) false)).bind fun l =>
 some (!l))
 else (
 some false)).bind (fun m =>
 if m = true then (
 (room 24 (e.length + 1)).bind fun _ =>
 some (.inl (mput d (⟨c.1, f, 0 + 1⟩ : GuidePoint) true, e ++ [(⟨c.1, f, 0 + 1⟩ : GuidePoint)])))
 else (
 some (.inl (d, e)))))

noncomputable def mGuideNetPoints_L49402 (h : GuideNet) (i : Int) (c : (Int × (List GuideRide))) (g : GuidePlace × Bool) : ((List (GuidePoint × Bool)) × (List GuidePoint)) → Option (((List (GuidePoint × Bool)) × (List GuidePoint)) ⊕ ((List (GuidePoint × Bool)) × (List GuidePoint))) := unc2 fun d e =>
 ((idx h.Day.Trains g.1.train).bind fun j =>
 (idx j.Stops g.1.off).bind fun a =>
 some (a.Station, a.Track, a.Arr, a.Dep)).bind (unc4 fun k _ f _ =>
 (chk (1 + 1)).bind fun _ =>
 (if k = i then (
 (some (mgetD d (⟨c.1, f, 1 + 1⟩ : GuidePoint) false)).bind fun l =>
 some (!l))
 else (
 some false)).bind (fun m =>
 if m = true then (
 (room 24 (e.length + 1)).bind fun _ =>
 some (.inl (mput d (⟨c.1, f, 1 + 1⟩ : GuidePoint) true, e ++ [(⟨c.1, f, 1 + 1⟩ : GuidePoint)])))
 else (
 some (.inl (d, e)))))

noncomputable def mGuideNetPoints_L50464 (h : GuideNet) (i : Int) (c : (Int × (List GuideRide))) (g : GuidePlace × Bool) : ((List (GuidePoint × Bool)) × (List GuidePoint)) → Option (((List (GuidePoint × Bool)) × (List GuidePoint)) ⊕ ((List (GuidePoint × Bool)) × (List GuidePoint))) := unc2 fun d e =>
 ((idx h.Day.Trains g.1.train).bind fun j =>
 (idx j.Stops g.1.off).bind fun a =>
 some (a.Station, a.Track, a.Arr, a.Dep)).bind (unc4 fun k _ f _ =>
 (chk (2 + 1)).bind fun _ =>
 (if k = i then (
 (some (mgetD d (⟨c.1, f, 2 + 1⟩ : GuidePoint) false)).bind fun l =>
 some (!l))
 else (
 some false)).bind (fun m =>
 if m = true then (
 (room 24 (e.length + 1)).bind fun _ =>
 some (.inl (mput d (⟨c.1, f, 2 + 1⟩ : GuidePoint) true, e ++ [(⟨c.1, f, 2 + 1⟩ : GuidePoint)])))
 else (
 some (.inl (d, e)))))

noncomputable def mGuideNetPoints_L51526 (h : GuideNet) (i : Int) (c : (Int × (List GuideRide))) (g : GuidePlace × Bool) : ((List (GuidePoint × Bool)) × (List GuidePoint)) → Option (((List (GuidePoint × Bool)) × (List GuidePoint)) ⊕ ((List (GuidePoint × Bool)) × (List GuidePoint))) := unc2 fun d e =>
 ((idx h.Day.Trains g.1.train).bind fun j =>
 (idx j.Stops g.1.off).bind fun a =>
 some (a.Station, a.Track, a.Arr, a.Dep)).bind (unc4 fun k _ f _ =>
 (chk (3 + 1)).bind fun _ =>
 (if k = i then (
 (some (mgetD d (⟨c.1, f, 3 + 1⟩ : GuidePoint) false)).bind fun l =>
 some (!l))
 else (
 some false)).bind (fun m =>
 if m = true then (
 (room 24 (e.length + 1)).bind fun _ =>
 some (.inl (mput d (⟨c.1, f, 3 + 1⟩ : GuidePoint) true, e ++ [(⟨c.1, f, 3 + 1⟩ : GuidePoint)])))
 else (
 some (.inl (d, e)))))

noncomputable def mGuideNetPoints_L39155 (a : GuideNet) (d : Int) (c : Int × (List GuideRide)) : ((List (GuidePoint × Bool)) × (List GuidePoint)) → Option (((List (GuidePoint × Bool)) × (List GuidePoint)) ⊕ ((List GuidePoint))) := unc2 fun e f =>
 (mGuideNetEnds a c.2).bind (unc4 fun g h i j =>
 ((ordM (fun p => forL (mGuideNetPoints_L48340 a d c) p (e, f)) g).bind fun t => Sum.elim (unc2 fun k l =>
 some (k, l)) (fun q => some q) t).bind (unc2 fun m n =>
 (chk (0 + 1)).bind fun _ =>
 ((ordM (fun p => forL (mGuideNetPoints_L49402 a d c) p (m, n)) h).bind fun t => Sum.elim (unc2 fun o r =>
 some (o, r)) (fun q => some q) t).bind (unc2 fun s u =>
 (chk (1 + 1)).bind fun _ =>
 ((ordM (fun p => forL (mGuideNetPoints_L50464 a d c) p (s, u)) i).bind fun t => Sum.elim (unc2 fun v w =>
 some (v, w)) (fun q => some q) t).bind (unc2 fun x y =>
 (chk (2 + 1)).bind fun _ =>
 ((ordM (fun p => forL (mGuideNetPoints_L51526 a d c) p (x, y)) j).bind fun t => Sum.elim (unc2 fun z A =>
 some (z, A)) (fun q => some q) t).bind (unc2 fun B C =>
 (chk (3 + 1)).bind fun _ =>
 some (.inl (B, C)))))))

noncomputable def mGuideNetPoints_L26047 (e : GuideNet) (d : GuideRide) : ((List (Int × (List GuideRide)))) → Option (((List (Int × (List GuideRide)))) ⊕ ((List GuidePoint))) := fun a =>
 (mGuideNetOn e d).bind (unc4 fun _ _ _ c =>
 (room 24 ((mgetD a c []).length + 1)).bind fun _ =>
 some (.inl (mput a c ((mgetD a c []) ++ [d]))))

noncomputable def mGuideNetPoints (a : GuideNet) (c d : Int) : Option ((List GuidePoint)) :=
 (mGuideNetRides a c 0 (-1)).bind fun e =>
 (forL (mGuideNetPoints_L26047 a) e (([] : List (Int × (List GuideRide))) : List (Int × (List GuideRide)))).bind fun t => Sum.elim (fun f =>
 ((ordM (fun p => forL (mGuideNetPoints_L39155 a d) p ((([] : List (GuidePoint × Bool)), []) : (List (GuidePoint × Bool)) × (List GuidePoint))) f).bind fun t => Sum.elim (unc2 fun _ g =>
 some g) (fun q => some q) t).bind (fun h =>
 (mSlicesSortFunc h).bind fun i =>
 some i)) (fun q => some q) t

noncomputable def mGuideNetEarliest_1 (a : GuidePoint) (c : Int) : Option (Bool) :=
 some (decide (a.Dep < c))

noncomputable def mSlicesIndexFunc_L62 (c : List GuidePoint) (d : Int) (a : Nat) : (Unit) → Option ((Unit) ⊕ (Int)) := fun _ =>
 (idx c (a : Int)).bind fun e =>
 (mGuideNetEarliest_1 e d).bind fun f =>
 if f = true then (
 some (.inr (a : Int)))
 else (
 some (.inl ()))

noncomputable def mSlicesIndexFunc (c : Int) (a : List GuidePoint) : Option (Int) :=
 (forM (mSlicesIndexFunc_L62 a c) a.length 0 ()).bind fun t => Sum.elim (fun _ =>
 some (-1)) (fun q => some q) t

noncomputable def mSlicesDeleteFunc_L962 (f : Int) : (Int × Int × (List GuidePoint)) → Option ((Int × Int × (List GuidePoint)) ⊕ (Int × (List GuidePoint))) := unc3 fun a d c =>
 if d < (c.length : Int) then (
 ((idx c d).bind fun e =>
 (mGuideNetEarliest_1 e f).bind fun g =>
 if g = true then (
 some (a, c))
 else (
 (idx c a).bind fun _ =>
 (chk (a + 1)).bind fun _ =>
 some (a + 1, put c a e))).bind (unc2 fun h i =>
 (chk (d + 1)).bind fun _ =>
 some (.inl (h, d + 1, i))))
 else (
 some (.inr (a, c)))

noncomputable def mSlicesDeleteFunc (f : Int) (c : List GuidePoint) : Option ((List GuidePoint)) :=
 (mSlicesIndexFunc f c).bind fun a =>
 if a = (-1) then (
 some c)
 else (
 ((chk (a + 1)).bind fun _ =>
 loopM (mSlicesDeleteFunc_L962 f) (a, a + 1, c)).bind (unc2 fun d e =>
 (cutS e d (e.length : Int)).bind fun _ =>
 (cutS (clrM e d ((⟨0, 0, 0⟩ : GuidePoint) : GuidePoint)) 0 d).bind fun g =>
 some g))

noncomputable def mGuideNetEarliest_2 (a c : GuidePoint) : Option (Int) :=
 ((mCmpCompare a.Arr c.Arr).bind fun d =>
 (mCmpCompare a.Rides c.Rides).bind fun e =>
 (mCmpCompare c.Dep a.Dep).bind fun f =>
 (mCmpOr [d, e, f]).bind fun g =>
 some g).bind (fun h =>
 some h)

noncomputable def mSlicesMinFunc_L781 (c : List GuidePoint) : (Int × Int × Int × Int) → Option ((Int × Int × Int × Int) ⊕ (Int × Int × Int)) := unc4 fun a d e f =>
 if a < (c.length : Int) then (
 ((idx c a).bind fun h =>
 (mGuideNetEarliest_2 h (⟨d, e, f⟩ : GuidePoint)).bind fun i =>
 if i < 0 then (
 (idx c a).bind fun g =>
 some (g.Dep, g.Arr, g.Rides))
 else (
 some (d, e, f))).bind (unc3 fun j k l =>
 (chk (a + 1)).bind fun _ =>
 some (.inl (a + 1, j, k, l))))
 else (
 some (.inr (d, e, f)))

noncomputable def mSlicesMinFunc (a : List GuidePoint) : Option (Int × Int × Int) :=
 if (a.length : Int) < 1 then (
 none)
 else (
 (idx a 0).bind fun c =>
 (loopM (mSlicesMinFunc_L781 a) (1, c.Dep, c.Arr, c.Rides)).bind (unc3 fun d e f =>
 some (d, e, f)))

noncomputable def mSlicesClone_5 (a : List GuideRide) : Option ((List GuideRide)) :=
 (room 24 a.length).bind fun _ => some a

noncomputable def mGuideNetLeastOf_1_L704 (e : List ApiTrain) (f : List (List Int)) (g : List GuideRide) (h i j k l : Int) (rcmGuideNetLeastOf_1 : ((List ApiTrain)) → ((List (List Int))) → (Int) → (Int) → (Int) → (Int) → (Int) → ((List GuideRide)) → ((List ((List Int) × Bool))) → Option ((List GuideRide) × (List ((List Int) × Bool)))) (m : GuideRide) : ((List ((List Int) × Bool))) → Option (((List ((List Int) × Bool))) ⊕ ((List GuideRide) × (List ((List Int) × Bool)))) := fun n =>
 ((mSlicesClone_5 g).bind fun a =>
 (room 24 (a.length + 1)).bind fun _ =>
 (rcmGuideNetLeastOf_1 e f h i j k l (a ++ [m]) n).bind (unc2 fun o p =>
 some (o, p))).bind (unc2 fun c d =>
 if c.isEmpty = true then (
 some (.inl d))
 else (
 some (.inr (c, d))))

noncomputable def mGuideNetLeastOf_1 : Nat → ((List ApiTrain)) → ((List (List Int))) → (Int) → (Int) → (Int) → (Int) → (Int) → ((List GuideRide)) → ((List ((List Int) × Bool))) → Option ((List GuideRide) × (List ((List Int) × Bool)))
 | 0 => fun _ _ _ _ _ _ _ _ _ => none
 | N + 1 => fun f g h l i d j a e =>
 (chk ((a.length : Int) - 1)).bind fun _ =>
 (idx a ((a.length : Int) - 1)).bind fun c =>
 (mGuideNetOff (⟨(⟨f, g⟩ : ApiDay), h⟩ : GuideNet) c).bind (unc4 fun m _ k _ =>
 (chk (d - (a.length : Int))).bind fun _ =>
 if (d - (a.length : Int)) = 0 then (
 (if m = j then (
 some (decide (k = i)))
 else (
 some false)).bind (fun n =>
 if n = true then (
 some (a, e))
 else (
 some ([], e))))
 else (
 ((some (mgetD e [c.Train, c.Off, d - (a.length : Int)] false)).bind fun o =>
 if o = true then (
 some true)
 else (
 some (decide (i < k)))).bind (fun p =>
 if p = true then (
 some ([], e))
 else (
 (mGuideNetBehind (⟨(⟨f, g⟩ : ApiDay), h⟩ : GuideNet) c).bind fun r =>
 (forL (mGuideNetLeastOf_1_L704 f g a h l i d j (mGuideNetLeastOf_1 N)) r e).bind fun t => Sum.elim (fun s =>
 some ([], mput s [c.Train, c.Off, d - (a.length : Int)] true)) (fun q => some q) t))))

noncomputable def mGuideNetLeastOf_L166 (a : GuideNet) (g : Int) (c : GuidePoint) (d : GuideRide) : ((List ((List Int) × Bool))) → Option (((List ((List Int) × Bool))) ⊕ ((List GuideRide))) := fun e =>
 (mGuideNetOn a d).bind (unc4 fun _ _ _ h =>
 if h ≠ c.Dep then (
 some (.inl e))
 else (
 (lim (fun N => mGuideNetLeastOf_1 N a.Day.Trains a.Day.Turns a.least c.Dep c.Arr c.Rides g [d] e)).bind (unc2 fun f i =>
 if f.isEmpty = true then (
 some (.inl i))
 else (
 some (.inr f)))))

noncomputable def mGuideNetLeastOf (a : GuideNet) (d e : Int) (c : GuidePoint) : Option ((List GuideRide)) :=
 (mGuideNetRides a d c.Dep (-1)).bind fun f =>
 (forL (mGuideNetLeastOf_L166 a e c) f (([] : List ((List Int) × Bool)) : List ((List Int) × Bool))).bind fun t => Sum.elim (fun _ =>
 some []) (fun q => some q) t

noncomputable def mGuideNetEarliest (a : GuideNet) (c f d : Int) : Option (Bool × (List GuideRide)) :=
 (mGuideNetPoints a c d).bind fun g =>
 (mSlicesDeleteFunc f g).bind fun e =>
 if (e.length : Int) = 0 then (
 some (false, []))
 else (
 (mSlicesMinFunc e).bind (unc3 fun h i j =>
 (mGuideNetLeastOf a c d (⟨h, i, j⟩ : GuidePoint)).bind fun k =>
 some (true, k)))

noncomputable def mGuideEarliest (a : ApiDay) (c d e f : Int) : Option (Int × (List GuideRide)) :=
 (mGuideCheck_2 a f c e [d]).bind fun g =>
 if g ≠ 0 then (
 some (g, []))
 else (
 (mGuideNetEarliest (⟨a, f⟩ : GuideNet) c d e).bind (unc2 fun h i =>
 if h = true then (
 some (0, i))
 else (
 some (9, []))))

noncomputable def mSlicesEqual_L104 (e f : List GuideRide) (d : Nat) : (Unit) → Option ((Unit) ⊕ (Bool)) := fun _ =>
 (idx e (d : Int)).bind fun a =>
 (idx f (d : Int)).bind fun c =>
 if a.Train = c.Train ∧ a.On = c.On ∧ a.Off = c.Off then (
 some (.inl ()))
 else (
 some (.inr false))

noncomputable def mSlicesEqual (a c : List GuideRide) : Option (Bool) :=
 if (a.length : Int) ≠ (c.length : Int) then (
 some false)
 else (
 (forM (mSlicesEqual_L104 a c) a.length 0 ()).bind fun t => Sum.elim (fun _ =>
 some true) (fun q => some q) t)

noncomputable def mFishkeep2Guides : Option (Bool) :=
 (mGuideEarliest (⟨[(⟨1, 0, [(⟨0, 0, 5, 5⟩ : ApiStop), (⟨1, 0, 9, 9⟩ : ApiStop)], [[0]]⟩ : ApiTrain)], []⟩ : ApiDay) 0 0 1 0).bind (unc2 fun a c =>
 (if a = 0 then (
 (mSlicesEqual c [(⟨0, 0, 1⟩ : GuideRide)]).bind fun d =>
 some d)
 else (
 some false)).bind (fun e =>
 some e))

noncomputable def mSlicesIndex_L39 (c : List Bool) (d : Bool) (a : Nat) : (Unit) → Option ((Unit) ⊕ (Int)) := fun _ =>
 (idx c (a : Int)).bind fun e =>
 if (decide (d = e)) = true then (
 some (.inr (a : Int)))
 else (
 some (.inl ()))

noncomputable def mSlicesIndex (a : List Bool) (c : Bool) : Option (Int) :=
 (forM (mSlicesIndex_L39 a c) a.length 0 ()).bind fun t => Sum.elim (fun _ =>
 some (-1)) (fun q => some q) t

noncomputable def mGuideDeskPromises_2_L207 (d : List GuidePromise0) (e : Nat) : ((List GuidePromise)) → Option ((List GuidePromise)) := fun c =>
 (idx d (e : Int)).bind fun a =>
 (mSlicesClone_5 a.Promise.Journey.Rides).bind fun f =>
 (room 64 (c.length + 1)).bind fun _ =>
 some (c ++ [(⟨a.Promise.From, a.Promise.To, a.Promise.Dep, a.Promise.Arr, a.Promise.State, (⟨f⟩ : GuideJourney)⟩ : GuidePromise)])

noncomputable def mGuideDeskPromises_2 (_ : List ApiTrain) (_ : List (List Int)) (_ _ : Int) (a : List GuidePromise0) (_ : List GuideMessage) : Option ((List GuidePromise)) :=
 (forS (mGuideDeskPromises_2_L207 a) a.length 0 ([] : List GuidePromise)).bind (fun c =>
 some c)

noncomputable def mFishkeep2Honest_L783 (d : List GuideMessage) (e : Int) (f g : Nat) : (Int) → Option ((Int) ⊕ ((Unit) ⊕ (Bool))) := fun c =>
 (idx d (g : Int)).bind fun a =>
 if a.At ≠ e then (
 some (.inr (.inr false)))
 else (
 (if a.Promise = (f : Int) then (
 if a.Kind = 1 then (
 some true)
 else (
 some (decide (a.Kind = 2))))
 else (
 some false)).bind (fun h =>
 if h = true then (
 (chk (c + 1)).bind fun _ =>
 some (.inl (c + 1)))
 else (
 some (.inl c))))

noncomputable def mFishkeep2Honest_L517 (c g : List GuidePromise) (e : List GuideMessage) (h : Int) (a : Nat) : (Unit) → Option ((Unit) ⊕ (Bool)) := fun _ =>
 (idx g (a : Int)).bind fun d =>
 (forM (mFishkeep2Honest_L783 e h a) e.length 0 0).bind fun t => Sum.elim (fun f =>
 (if d.State = 2 then (
 (idx c (a : Int)).bind fun i =>
 some (decide (i.State ≠ 2)))
 else (
 some false)).bind (fun j =>
 (if (decide (j ≠ (decide (f = 1)))) = true then (
 some true)
 else (
 if 1 < f then (
 some true)
 else (
 (idx c (a : Int)).bind fun k =>
 if d.Dep ≠ k.Dep then (
 some true)
 else (
 (idx c (a : Int)).bind fun l =>
 some (decide (d.Arr ≠ l.Arr)))))).bind (fun m =>
 if m = true then (
 some (.inr false))
 else (
 some (.inl ()))))) (fun q => some q) t

noncomputable def mFishkeep2Honest (c a : List GuidePromise) (d : List GuideMessage) (e : Int) : Option (Bool) :=
 if (c.length : Int) ≠ (a.length : Int) then (
 some false)
 else (
 (forM (mFishkeep2Honest_L517 c a d e) a.length 0 ()).bind fun t => Sum.elim (fun _ =>
 some true) (fun q => some q) t)

noncomputable def mFishref2Within (a c d : Int) : Option (Bool) :=
 (if c ≤ a then (
 some (decide (a ≤ d)))
 else (
 some false)).bind (fun e =>
 some e)

noncomputable def mFishref2JourneyFault_L599 (f : ApiDay) (h : GuideJourney) (i : Int) (k : Bool) (c : Nat) : (Unit) → Option ((Unit) ⊕ (Int)) := fun _ =>
 (idx h.Rides (c : Int)).bind fun a =>
 (if a.Train < 0 then (
 some true)
 else (
 some (decide ((f.Trains.length : Int) ≤ a.Train)))).bind (fun l =>
 if l = true then (
 some (.inr 3))
 else (
 (idx f.Trains a.Train).bind fun d =>
 (if a.On < 0 then (
 some true)
 else (
 if (d.Stops.length : Int) ≤ a.On then (
 some true)
 else (
 if a.Off < 0 then (
 some true)
 else (
 some (decide ((d.Stops.length : Int) ≤ a.Off)))))).bind (fun m =>
 if m = true then (
 some (.inr 3))
 else (
 if a.Off ≤ a.On then (
 some (.inr 1))
 else (
 if (c : Int) = 0 then (
 some (.inl ()))
 else (
 (chk ((c : Int) - 1)).bind fun _ =>
 (idx h.Rides ((c : Int) - 1)).bind fun g =>
 ((idx f.Trains g.Train).bind fun n =>
 (idx n.Stops g.Off).bind fun e =>
 some (e.Station, e.Track, e.Arr, e.Dep)).bind (unc4 fun o _ j _ =>
 (if g.Train = a.Train then (
 some true)
 else (
 (idx d.Stops a.On).bind fun p =>
 some (decide (p.Station ≠ o)))).bind (fun q =>
 if q = true then (
 some (.inr 1))
 else (
 (if k = true then (
 (idx d.Stops a.On).bind fun r =>
 (chk (j + i)).bind fun _ =>
 some (decide (r.Dep < (j + i))))
 else (
 some false)).bind (fun s =>
 if s = true then (
 some (.inr 13))
 else (
 some (.inl ()))))))))))))

noncomputable def mFishref2JourneyFault (d : ApiDay) (a : GuideJourney) (c : Int) (e : Bool) : Option (Int) :=
 (mFishref2Within c 0 28800).bind fun f =>
 if f = true then (
 (mFishref2Within (a.Rides.length : Int) 1 4).bind fun g =>
 if g = true then (
 (forM (mFishref2JourneyFault_L599 d a c e) a.Rides.length 0 ()).bind fun t => Sum.elim (fun _ =>
 some 0) (fun q => some q) t)
 else (
 some 4))
 else (
 some 2)

noncomputable def mFishref2Leaves (c : ApiDay) (d : GuideJourney) : Option (Int) :=
 (idx d.Rides 0).bind fun a =>
 (idx c.Trains a.Train).bind fun e =>
 (idx e.Stops a.On).bind fun f =>
 some f.Dep

noncomputable def mSlicesClone_6 (a : List GuideMessage) : Option ((List GuideMessage)) :=
 (room 40 a.length).bind fun _ => some a

noncomputable def mGuideDeskMessages (_ : List ApiTrain) (_ : List (List Int)) (_ _ : Int) (_ : List GuidePromise0) (a : List GuideMessage) : Option ((List GuideMessage)) :=
 (mSlicesClone_6 a).bind fun c =>
 some c

noncomputable def mSlicesEqual_2_L104 (e f : List GuideMessage) (d : Nat) : (Unit) → Option ((Unit) ⊕ (Bool)) := fun _ =>
 (idx e (d : Int)).bind fun a =>
 (idx f (d : Int)).bind fun c =>
 if a.At = c.At ∧ a.Promise = c.Promise ∧ a.Ride = c.Ride ∧ a.Kind = c.Kind ∧ a.Value = c.Value then (
 some (.inl ()))
 else (
 some (.inr false))

noncomputable def mSlicesEqual_2 (a c : List GuideMessage) : Option (Bool) :=
 if (a.length : Int) ≠ (c.length : Int) then (
 some false)
 else (
 (forM (mSlicesEqual_2_L104 a c) a.length 0 ()).bind fun t => Sum.elim (fun _ =>
 some true) (fun q => some q) t)

noncomputable def mFishkeep2Stands (d : ApiDay) (c : GuidePromise) (_ : Int) : Option (Bool) :=
 (chk ((c.Journey.Rides.length : Int) - 1)).bind fun _ =>
 (idx c.Journey.Rides ((c.Journey.Rides.length : Int) - 1)).bind fun a =>
 (if 0 ≤ a.Train then (
 if a.Train < (d.Trains.length : Int) then (
 if 0 ≤ a.On then (
 if a.On < a.Off then (
 (idx d.Trains a.Train).bind fun e =>
 if a.Off < (e.Stops.length : Int) then (
 (idx d.Trains a.Train).bind fun f =>
 (idx f.Stops a.Off).bind fun g =>
 some (decide (g.Station = c.To)))
 else (
 some false))
 else (
 some false))
 else (
 some false))
 else (
 some false))
 else (
 some false)).bind (fun h =>
 some h)

noncomputable def mGuideDeskFind_1_2 (a : ApiStop) (c d e : Int) (f : List ApiTrain) (g : List (List Int)) (h _ : Int) (_ : List GuideMessage) : Option (Bool) :=
 (mGuideNetOn (⟨(⟨f, g⟩ : ApiDay), h⟩ : GuideNet) (⟨c, d, e⟩ : GuideRide)).bind (unc4 fun i _ _ _ =>
 some (decide (a.Station = i)))

noncomputable def mSlicesIndexFunc_4_L69 (c : List ApiStop) (d : List ApiTrain) (e : List (List Int)) (f : List GuideMessage) (g h i j k : Int) (a : Nat) : (Unit) → Option ((Unit) ⊕ (Int)) := fun _ =>
 (idx c (a : Int)).bind fun l =>
 (mGuideDeskFind_1_2 l g h i d e j k f).bind fun m =>
 if m = true then (
 some (.inr (a : Int)))
 else (
 some (.inl ()))

noncomputable def mSlicesIndexFunc_4 (a : List ApiStop) (c d e : Int) (f : List ApiTrain) (g : List (List Int)) (h i : Int) (j : List GuideMessage) : Option (Int) :=
 (forM (mSlicesIndexFunc_4_L69 a f g j c d e h i) a.length 0 ()).bind fun t => Sum.elim (fun _ =>
 some (-1)) (fun q => some q) t

noncomputable def mGuideDeskFind_2_2 (a : ApiStop) (c d e : Int) (f : List ApiTrain) (g : List (List Int)) (h _ : Int) (_ : List GuideMessage) : Option (Bool) :=
 (mGuideNetOff (⟨(⟨f, g⟩ : ApiDay), h⟩ : GuideNet) (⟨c, d, e⟩ : GuideRide)).bind (unc4 fun i _ _ _ =>
 some (decide (a.Station = i)))

noncomputable def mSlicesIndexFunc_5_L69 (c : List ApiStop) (d : List ApiTrain) (e : List (List Int)) (f : List GuideMessage) (g h i j k : Int) (a : Nat) : (Unit) → Option ((Unit) ⊕ (Int)) := fun _ =>
 (idx c (a : Int)).bind fun l =>
 (mGuideDeskFind_2_2 l g h i d e j k f).bind fun m =>
 if m = true then (
 some (.inr (a : Int)))
 else (
 some (.inl ()))

noncomputable def mSlicesIndexFunc_5 (a : List ApiStop) (c d e : Int) (f : List ApiTrain) (g : List (List Int)) (h i : Int) (j : List GuideMessage) : Option (Int) :=
 (forM (mSlicesIndexFunc_5_L69 a f g j c d e h i) a.length 0 ()).bind fun t => Sum.elim (fun _ =>
 some (-1)) (fun q => some q) t

noncomputable def mGuideDeskFind_3 (n : ApiDay) (a : GuideRide) (e : List ApiTrain) (g : List (List Int)) (h i : Int) (j : List (Int × Int)) (k : List GuideMessage) : Option (Int × Int × Int × Bool) :=
 (idx e a.Train).bind fun l =>
 (some (mgetD j l.No 0)).bind fun m =>
 if (mhas j l.No) = true then (
 (idx n.Trains m).bind fun d =>
 (chk ((d.Stops.length : Int) - 1)).bind fun _ =>
 (cutS d.Stops 0 ((d.Stops.length : Int) - 1)).bind fun o =>
 (mSlicesIndexFunc_4 o a.Train a.On a.Off e g h i k).bind fun c =>
 if c < 0 then (
 some (0, 0, 0, false))
 else (
 (chk (c + 1)).bind fun _ =>
 (cutS d.Stops (c + 1) (d.Stops.length : Int)).bind fun p =>
 (mSlicesIndexFunc_5 p a.Train a.On a.Off e g h i k).bind fun f =>
 (chk (c + 1)).bind fun _ =>
 (chk ((c + 1) + f)).bind fun _ =>
 some (m, c, (c + 1) + f, decide (0 ≤ f))))
 else (
 some (0, 0, 0, false))

noncomputable def mGuideDeskLook_2_L912 (k : List ApiTrain) (l : List (List Int)) (m : List GuideRide) (n : List (Int × Int)) (o : List Bool) (p : List GuideMessage) (i : List Bool) (q : List Int) (g : GuideNet) (h r : Int) (a : Nat) : ((List GuideRide)) → Option (((List GuideRide)) ⊕ (Int × Int × (List GuideRide))) := fun c =>
 (idx m (a : Int)).bind fun s =>
 (idx i (a : Int)).bind fun t =>
 if t = true then (
 some (.inl c))
 else (
 (mGuideDeskFind_3 g.Day s k l h r n p).bind (unc4 fun d e f u =>
 if u = true then (
 (idx c (a : Int)).bind fun _ =>
 ((idx o (a : Int)).bind fun v =>
 if v = true then (
 some true)
 else (
 some (decide ((a : Int) = 0)))).bind (fun w =>
 if w = true then (
 some (.inl (put c (a : Int) (⟨d, e, f⟩ : GuideRide))))
 else (
 (chk ((a : Int) - 1)).bind fun _ =>
 (idx q ((a : Int) - 1)).bind fun x =>
 ((chk ((a : Int) - 1)).bind fun _ =>
 (idx i ((a : Int) - 1)).bind fun y =>
 if y = true then (
 some x)
 else (
 (chk ((a : Int) - 1)).bind fun _ =>
 (idx (put c (a : Int) (⟨d, e, f⟩ : GuideRide)) ((a : Int) - 1)).bind fun z =>
 (mGuideNetOff g z).bind (unc4 fun _ _ A _ =>
 some A))).bind (fun j =>
 (mGuideNetOn g (⟨d, e, f⟩ : GuideRide)).bind (unc4 fun _ _ _ B =>
 (chk (j + h)).bind fun _ =>
 if B < (j + h) then (
 some (.inr ((a : Int), 2, [])))
 else (
 some (.inl (put c (a : Int) (⟨d, e, f⟩ : GuideRide)))))))))
 else (
 some (.inr ((a : Int), 1, [])))))

noncomputable def mGuideDeskLook_2 (c : GuideNet) (d : List ApiTrain) (e : List (List Int)) (f g _ _ _ _ _ : Int) (a : List GuideRide) (_ _ : Int) (h : List (Int × Int)) (i : List Bool) (j : List GuideMessage) (k : List Bool) (l _ : List Int) : Option (Int × Int × (List GuideRide)) :=
 (mSlicesClone_5 a).bind fun m =>
 (forM (mGuideDeskLook_2_L912 d e a h i j k l c f g) a.length 0 m).bind fun t => Sum.elim (fun n =>
 some ((-1), 0, n)) (fun q => some q) t

noncomputable def mGuideDeskLeave_2_L710 (c : Int) (d : List ApiStop) (e : Nat) : (Unit) → Option ((Unit) ⊕ ((Unit) ⊕ (Int × Int × Int))) := fun _ =>
 (idx d (e : Int)).bind fun a =>
 if c ≤ a.Arr then (
 (some ()).bind (fun _ =>
 some (.inr (.inr (2, a.Station, a.Arr)))))
 else (
 some (.inl ()))

noncomputable def mGuideDeskLeave_2_L753 (c : List Bool) (d : List Int) (a : Nat) : (Int) → Option (Int) := fun e =>
 (idx c (a : Int)).bind fun f =>
 if f = true then (
 (idx d (a : Int)).bind fun g =>
 some g)
 else (
 some e)

noncomputable def mGuideDeskLeave_2 (k : ApiDay) (a : Int) (c : List ApiTrain) (l : List (List Int)) (m _ n _ _ _ _ : Int) (o : List GuideRide) (_ _ : Int) (d : List (Int × Int)) (p : List Bool) (_ : List GuideMessage) (e : List Bool) (_ r : List Int) : Option (Int × Int × Int) :=
 (mSlicesIndex p true).bind fun f =>
 if 0 ≤ f then (
 (idx o f).bind fun g =>
 ((mGuideNetOn (⟨(⟨c, l⟩ : ApiDay), m⟩ : GuideNet) g).bind (unc4 fun s _ _ _ =>
 some s)).bind (fun u =>
 ((idx c g.Train).bind fun h =>
 (some (mgetD d h.No 0)).bind fun v =>
 if (mhas d h.No) = true then (
 (idx k.Trains v).bind fun i =>
 (cutS i.Stops 1 (i.Stops.length : Int)).bind fun j =>
 (forM (mGuideDeskLeave_2_L710 a j) j.length 0 ()).bind fun t => Sum.elim (fun _ =>
 some (.inl ())) (fun q => some q) t)
 else (
 some (.inl ()))).bind fun t => Sum.elim (fun _ =>
 some (2, u, a)) (fun w => some w) t))
 else (
 (forS (mGuideDeskLeave_2_L753 e r) e.length 0 n).bind (fun x =>
 some (2, x, a)))

noncomputable def mGuideDeskPass_2_L2302 (e : List ApiTrain) (f : List (List Int)) (g : GuideNet) (h i j : Int) (k l : List Bool) (m : List GuideRide) (n : GuidePromise0) (a : Nat) : ((List GuideMessage)) → Option ((List GuideMessage)) := fun c =>
 (idx n.Promise.Journey.Rides (a : Int)).bind fun o =>
 ((idx l (a : Int)).bind fun p =>
 if p = true then (
 some true)
 else (
 (idx k (a : Int)).bind fun q =>
 some q)).bind (fun r =>
 if r = true then (
 some c)
 else (
 (idx m (a : Int)).bind fun s =>
 (mGuideNetOn g s).bind (unc4 fun _ d _ _ =>
 (mGuideNetOn (⟨(⟨e, f⟩ : ApiDay), j⟩ : GuideNet) o).bind (unc4 fun _ t _ _ =>
 if d ≠ t then (
 (room 40 (c.length + 1)).bind fun _ =>
 some (c ++ [(⟨i, h, (a : Int), 4, d⟩ : GuideMessage)]))
 else (
 some c)))))

noncomputable def mGuideDeskPass_2_L1533 (g : List ApiTrain) (h : List (List Int)) (i j : Int) (m : GuidePromise0) (a : Nat) : ((List Bool) × (List Bool) × (List Int) × (List Int)) → Option ((List Bool) × (List Bool) × (List Int) × (List Int)) := unc4 fun d c e f =>
 (idx m.Promise.Journey.Rides (a : Int)).bind fun k =>
 (idx c (a : Int)).bind fun n =>
 if n = true then (
 some (d, c, e, f))
 else (
 (mGuideNetOff (⟨(⟨g, h⟩ : ApiDay), j⟩ : GuideNet) k).bind (unc4 fun o _ l _ =>
 if l ≤ i then (
 (idx c (a : Int)).bind fun _ =>
 (idx e (a : Int)).bind fun _ =>
 (idx f (a : Int)).bind fun _ =>
 some (d, put c (a : Int) true, put e (a : Int) l, put f (a : Int) o))
 else (
 (mGuideNetOn (⟨(⟨g, h⟩ : ApiDay), j⟩ : GuideNet) k).bind (unc4 fun _ _ _ p =>
 (idx d (a : Int)).bind fun _ =>
 some (put d (a : Int) (decide (p ≤ i)), c, e, f)))))

noncomputable def mGuideDeskPass_2 (d : Int) (l : GuideNet) (f : Int) (g : List ApiTrain) (h : List (List Int)) (i p : Int) (q : List (Int × Int)) (m : List GuidePromise0) (r : List GuideMessage) : Option ((List GuideMessage) × (List GuidePromise0)) :=
 (idx m d).bind fun a =>
 (mkLen 1 (a.over.length : Int)).bind fun u =>
 (forS (mGuideDeskPass_2_L1533 g h f i a) a.Promise.Journey.Rides.length 0 (List.replicate u (false : Bool), a.over, a.arrived, a.ends)).bind (unc4 fun n c j k =>
 (chk ((c.length : Int) - 1)).bind fun _ =>
 (idx c ((c.length : Int) - 1)).bind fun v =>
 if v = true then (
 some ([], put m d (⟨(⟨a.Promise.From, a.Promise.To, a.Promise.Dep, a.Promise.Arr, 3, a.Promise.Journey⟩ : GuidePromise), c, j, k, a.station, a.when⟩ : GuidePromise0)))
 else (
 (mGuideDeskLook_2 l g h i p a.Promise.From a.Promise.To a.Promise.Dep a.Promise.Arr a.Promise.State a.Promise.Journey.Rides a.station a.when q n r c j k).bind (unc3 fun s w e =>
 if 0 ≤ s then (
 (mGuideDeskLeave_2 l.Day f g h i p a.Promise.From a.Promise.To a.Promise.Dep a.Promise.Arr a.Promise.State a.Promise.Journey.Rides a.station a.when q n r c j k).bind (unc3 fun x y z =>
 some ([(⟨f, d, s, w, 0⟩ : GuideMessage)], put m d (⟨(⟨a.Promise.From, a.Promise.To, a.Promise.Dep, a.Promise.Arr, x, a.Promise.Journey⟩ : GuidePromise), c, j, k, y, z⟩ : GuidePromise0))))
 else (
 (forS (mGuideDeskPass_2_L2302 g h l d f i n c e a) a.Promise.Journey.Rides.length 0 ([] : List GuideMessage)).bind (fun o =>
 (chk ((e.length : Int) - 1)).bind fun _ =>
 ((idx e ((e.length : Int) - 1)).bind fun A =>
 (mGuideNetOff l A).bind (unc4 fun _ _ t _ =>
 (idx a.Promise.Journey.Rides ((e.length : Int) - 1)).bind fun B =>
 (mGuideNetOff (⟨(⟨g, h⟩ : ApiDay), i⟩ : GuideNet) B).bind (unc4 fun _ _ C _ =>
 if C < t then (
 (room 40 (o.length + 1)).bind fun _ =>
 some (o ++ [(⟨f, d, (e.length : Int) - 1, 3, t⟩ : GuideMessage)]))
 else (
 some o)))).bind (fun D =>
 some (D, put m d (⟨(⟨a.Promise.From, a.Promise.To, a.Promise.Dep, a.Promise.Arr, a.Promise.State, (⟨e⟩ : GuideJourney)⟩ : GuidePromise), c, j, k, a.station, a.when⟩ : GuidePromise0))))))))

noncomputable def mGuideDeskNews_2_L548 (h : List ApiTrain) (i : List (List Int)) (j : List GuideMessage) (d e : Int) (k : List ApiTrain) (l : List (List Int)) (m : List (Int × Int)) (f : Nat) : ((List GuideMessage) × (List GuidePromise0)) → Option ((List GuideMessage) × (List GuidePromise0)) := unc2 fun a c =>
 (idx c (f : Int)).bind fun n =>
 if n.Promise.State = 1 then (
 (mGuideDeskPass_2 (f : Int) (⟨(⟨k, l⟩ : ApiDay), e⟩ : GuideNet) d h i e d m c j).bind (unc2 fun g o =>
 (room 40 (a.length + g.length)).bind fun _ =>
 some (a ++ g, o)))
 else (
 some (a, c))

noncomputable def mGuideDeskNews_2_L473 (c : List ApiTrain) (a : Nat) : ((List (Int × Int))) → Option ((List (Int × Int))) := fun d =>
 (idx c (a : Int)).bind fun e =>
 some (mput d e.No (a : Int))

noncomputable def mGuideDeskNews_2 (j : ApiDay) (d : Int) (e : List ApiTrain) (f : List (List Int)) (m g : Int) (c : List GuidePromise0) (a : List GuideMessage) : Option (Int × (List ApiTrain) × (List (List Int)) × Int × (List GuideMessage) × (List GuidePromise0) × (List GuideMessage)) :=
 (mGuideCheck j).bind fun k =>
 if k ≠ 0 then (
 some (k, e, f, g, [], c, a))
 else (
 if d < g then (
 some (5, e, f, g, [], c, a))
 else (
 if 28800 < d then (
 some (2, e, f, g, [], c, a))
 else (
 ((mGuideOwn j).bind (unc2 fun n o =>
 some (n, o))).bind (unc2 fun h l =>
 (forS (mGuideDeskNews_2_L473 h) h.length 0 (([] : List (Int × Int)) : List (Int × Int))).bind (fun p =>
 (forS (mGuideDeskNews_2_L548 e f a d m h l p) c.length 0 (([], c) : (List GuideMessage) × (List GuidePromise0))).bind (unc2 fun i q =>
 (room 40 (a.length + i.length)).bind fun _ =>
 some (0, h, l, d, i, q, a ++ i)))))))

noncomputable def mGuideDeskSell_2 (a : GuideJourney) (e : Int) (f : List ApiTrain) (g : List (List Int)) (h d : Int) (c : List GuidePromise0) (_ : List GuideMessage) : Option (Int × Int × Int × (List GuidePromise0)) :=
 (mGuideNetJourney (⟨(⟨f, g⟩ : ApiDay), h⟩ : GuideNet) a true).bind fun l =>
 if l ≠ 0 then (
 some (0, l, d, c))
 else (
 ((idx a.Rides 0).bind fun i =>
 (chk ((a.Rides.length : Int) - 1)).bind fun _ =>
 (idx a.Rides ((a.Rides.length : Int) - 1)).bind fun j =>
 some (i.Train, i.On, i.Off, j.Train, j.On, j.Off)).bind (unc6 fun m n o q r s =>
 (mGuideNetOn (⟨(⟨f, g⟩ : ApiDay), h⟩ : GuideNet) (⟨m, n, o⟩ : GuideRide)).bind (unc4 fun _ _ _ p =>
 if 100 ≤ (c.length : Int) then (
 some (0, 4, d, c))
 else (
 if e < d then (
 some (0, 5, d, c))
 else (
 if 28800 < e then (
 some (0, 2, d, c))
 else (
 if p < e then (
 some (0, 13, d, c))
 else (
 ((mkLen 1 (a.Rides.length : Int)).bind fun t =>
 (mkLen 8 (a.Rides.length : Int)).bind fun u =>
 (mkLen 8 (a.Rides.length : Int)).bind fun v =>
 some (List.replicate t (false : Bool), List.replicate u (0 : Int), List.replicate v (0 : Int))).bind (unc3 fun w x y =>
 ((mGuideNetOn (⟨(⟨f, g⟩ : ApiDay), h⟩ : GuideNet) (⟨m, n, o⟩ : GuideRide)).bind (unc4 fun z _ _ _ =>
 (mGuideNetOff (⟨(⟨f, g⟩ : ApiDay), h⟩ : GuideNet) (⟨q, r, s⟩ : GuideRide)).bind (unc4 fun A _ B _ =>
 (mSlicesClone_5 a.Rides).bind fun C =>
 some (z, A, B, C)))).bind (unc4 fun D E F G =>
 ((room 152 (c.length + 1)).bind fun _ =>
 some (c ++ [(⟨(⟨D, E, p, F, 1, (⟨G⟩ : GuideJourney)⟩ : GuidePromise), w, x, y, 0, 0⟩ : GuidePromise0)])).bind (fun k =>
 (chk ((k.length : Int) - 1)).bind fun _ =>
 some ((k.length : Int) - 1, 0, e, k)))))))))))

noncomputable def mFishkeep2GuidePromises_L9570 (c : Int) (d : List ApiTrain) (e : List (List Int)) (f : List GuidePromise) (g : Nat) : (Unit) → Option ((Unit) ⊕ (((List Int) × Int × (List ApiTrain) × (List (List Int)) × Int × (List ApiTrain) × (List (List Int)) × (List GuideMessage) × (List GuidePromise0) × (List GuideMessage)) ⊕ ((Unit) ⊕ (Bool)))) := fun _ =>
 (idx f (g : Int)).bind fun a =>
 (if a.State = 1 then (
 (mFishkeep2Stands (⟨d, e⟩ : ApiDay) a c).bind fun h =>
 some (!h))
 else (
 some false)).bind (fun i =>
 if i = true then (
 some (.inr (.inr (.inr false))))
 else (
 some (.inl ())))

noncomputable def mFishkeep2GuidePromises_L7255 (D : Int) (w : List ApiDay) (l : List GuideJourney) (c : Int) : ((List Int) × Int × (List ApiTrain) × (List (List Int)) × Int × (List ApiTrain) × (List (List Int)) × (List GuideMessage) × (List GuidePromise0) × (List GuideMessage)) → Option (((List Int) × Int × (List ApiTrain) × (List (List Int)) × Int × (List ApiTrain) × (List (List Int)) × (List GuideMessage) × (List GuidePromise0) × (List GuideMessage)) ⊕ ((Unit) ⊕ (Bool))) := unc10 fun e d f g m h i j n k =>
 if 3 ≤ (e.length : Int) then (
 (idx e 0).bind fun E =>
 (idx e 1).bind fun a =>
 (idx e 2).bind fun o =>
 (cutS e 3 (e.length : Int)).bind fun S =>
 (mGuideDeskPromises_2 f g c m n k).bind fun T =>
 ((if E = 1 then (
 if 0 ≤ a then (
 some (decide (a < (w.length : Int))))
 else (
 some false))
 else (
 some false)).bind (fun U =>
 if U = true then (
 (idx w a).bind fun V =>
 (mGuideDeskNews_2 V o f g c m n k).bind (unc7 fun W x y z A B C =>
 if W ≠ 0 then (
 some (.inl (d, x, y, z, h, i, j, B, C)))
 else (
 (idx w a).bind fun F =>
 (room 40 (j.length + A.length)).bind fun _ =>
 (mGuideDeskPromises_2 x y c z B C).bind fun X =>
 (mFishkeep2Honest T X A o).bind fun Y =>
 if Y = true then (
 some (.inl (d, x, y, z, F.Trains, F.Turns, j ++ A, B, C)))
 else (
 some (.inr (.inr (.inr false)))))))
 else (
 (if E ≠ 1 then (
 if 0 ≤ a then (
 some (decide (a < (l.length : Int))))
 else (
 some false))
 else (
 some false)).bind (fun Z =>
 if Z = true then (
 (idx l a).bind fun aa =>
 (mGuideDeskSell_2 aa o f g c m n k).bind (unc4 fun ab ac G H =>
 if ac ≠ 0 then (
 some (.inl (d, f, g, G, h, i, j, H, k)))
 else (
 (if ab ≠ d then (
 some true)
 else (
 (idx l a).bind fun ad =>
 (mFishref2JourneyFault (⟨h, i⟩ : ApiDay) ad D true).bind fun ae =>
 if ae ≠ 0 then (
 some true)
 else (
 (idx l a).bind fun af =>
 (mFishref2Leaves (⟨h, i⟩ : ApiDay) af).bind fun ag =>
 some (decide (ag < o))))).bind (fun ah =>
 if ah = true then (
 some (.inr (.inr (.inr false))))
 else (
 (chk (d + 1)).bind fun _ =>
 some (.inl (d + 1, f, g, G, h, i, j, H, k)))))))
 else (
 some (.inl (d, f, g, m, h, i, j, n, k))))))).bind fun t => Sum.elim (unc9 fun I p r s J K L u v =>
 ((mGuideDeskPromises_2 p r c s u v).bind fun ai =>
 if (ai.length : Int) ≠ I then (
 some true)
 else (
 (mGuideDeskMessages p r c s u v).bind fun aj =>
 (mSlicesEqual_2 aj L).bind fun ak =>
 some (!ak))).bind (fun al =>
 if al = true then (
 some (.inr (.inr false)))
 else (
 (mGuideDeskPromises_2 p r c s u v).bind fun O =>
 (forM (mFishkeep2GuidePromises_L9570 D J K O) O.length 0 ()).bind fun t => Sum.elim (fun _ =>
 some (.inl (S, I, p, r, s, J, K, L, u, v))) (fun q => some q) t))) (fun am => some am) t)
 else (
 some (.inr (.inl ())))

noncomputable def mFishkeep2GuidePromises (a : ApiDay) (c : Int) (d : List ApiDay) (e : List GuideJourney) (f : List Int) : Option (Bool) :=
 (mFishkeep2AwakeGuide).bind fun g =>
 if g = true then (
 (mGuideNewDesk a c).bind (unc6 fun h i j k l m =>
 (mFishkeep2Guides).bind fun n =>
 if n = true then (
 if (0 : Int) ≠ (0 : Int) then (
 some false)
 else (
 (loopM (mFishkeep2GuidePromises_L7255 c d e j) ((f, 0, h, i, k, a.Trains, a.Turns, [], l, m) : (List Int) × Int × (List ApiTrain) × (List (List Int)) × Int × (List ApiTrain) × (List (List Int)) × (List GuideMessage) × (List GuidePromise0) × (List GuideMessage))).bind fun t => Sum.elim (fun _ =>
 some true) (fun o => some o) t))
 else (
 some false)))
 else (
 some false)

end Go.Proofs.YtckgfeglhjiflaaDoor
