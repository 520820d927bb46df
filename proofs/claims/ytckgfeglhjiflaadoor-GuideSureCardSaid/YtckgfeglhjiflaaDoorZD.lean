/- The models of the functions, as the extractor printed them. -/
import Derived.Test.YtckgfeglhjiflaaDoorXI
import Derived.Test.YtckgfeglhjiflaaDoorXL
import Derived.Test.YtckgfeglhjiflaaDoorXS
import Derived.Test.YtckgfeglhjiflaaDoorXZ
set_option linter.unusedVariables false
set_option linter.unusedSimpArgs false
namespace Go.Proofs.YtckgfeglhjiflaaDoor
open Go.RowKit Go.Fp

structure ApiStop where
  Station : Int
  Track : Int
  Arr : Int
  Dep : Int
  deriving DecidableEq
def rApiStop : RT ApiStop := (RT.cat (RT.on (RT.int .i64) ApiStop.Station) (RT.cat (RT.on (RT.int .i64) ApiStop.Track) (RT.cat (RT.on (RT.int .i64) ApiStop.Arr) (RT.on (RT.int .i64) ApiStop.Dep))))
structure ApiTrain where
  No : Int
  Stock : Int
  Stops : (List ApiStop)
  Legs : (List (List Int))
def rApiTrain : RT ApiTrain := (RT.cat (RT.on (RT.int .i64) ApiTrain.No) (RT.cat (RT.on (RT.int .i64) ApiTrain.Stock) (RT.cat (RT.on (RT.list rApiStop) ApiTrain.Stops) (RT.on (RT.list (RT.list (RT.int .i64))) ApiTrain.Legs))))
structure ApiDay where
  Trains : (List ApiTrain)
  Turns : (List (List Int))
def rApiDay : RT ApiDay := (RT.cat (RT.on (RT.list rApiTrain) ApiDay.Trains) (RT.on (RT.list (RT.list (RT.int .i64))) ApiDay.Turns))
structure GuideOdds where
  Train : Int
  Late : (List Int)
  Weight : (List Int)
def rGuideOdds : RT GuideOdds := (RT.cat (RT.on (RT.int .i64) GuideOdds.Train) (RT.cat (RT.on (RT.list (RT.int .i64)) GuideOdds.Late) (RT.on (RT.list (RT.int .i64)) GuideOdds.Weight)))
structure GuideRide where
  Train : Int
  On : Int
  Off : Int
  deriving DecidableEq
def rGuideRide : RT GuideRide := (RT.cat (RT.on (RT.int .i64) GuideRide.Train) (RT.cat (RT.on (RT.int .i64) GuideRide.On) (RT.on (RT.int .i64) GuideRide.Off)))
structure GuideJourney where
  Rides : (List GuideRide)
def rGuideJourney : RT GuideJourney := (RT.on (RT.list rGuideRide) GuideJourney.Rides)
structure GuideNet where
  Day : ApiDay
  least : Int
def rGuideNet : RT GuideNet := (RT.cat (RT.on rApiDay GuideNet.Day) (RT.on (RT.int .i64) GuideNet.least))
structure GuidePoint where
  Dep : Int
  Arr : Int
  Rides : Int
  deriving DecidableEq
def rGuidePoint : RT GuidePoint := (RT.cat (RT.on (RT.int .i64) GuidePoint.Dep) (RT.cat (RT.on (RT.int .i64) GuidePoint.Arr) (RT.on (RT.int .i64) GuidePoint.Rides)))
structure GuidePlace where
  train : Int
  off : Int
  deriving DecidableEq
def rGuidePlace : RT GuidePlace := (RT.cat (RT.on (RT.int .i64) GuidePlace.train) (RT.on (RT.int .i64) GuidePlace.off))
structure GuideCases where
  holds : Int
  all : Int
  late : Int
  deriving DecidableEq
def rGuideCases : RT GuideCases := (RT.cat (RT.on (RT.int .i64) GuideCases.holds) (RT.cat (RT.on (RT.int .i64) GuideCases.all) (RT.on (RT.int .i64) GuideCases.late)))

noncomputable def mPlanForm_L460 (a : ApiTrain) (c : Nat) : (Unit) → Option ((Unit) ⊕ ((Unit) ⊕ (Int))) := fun _ =>
 (idx a.Legs (c : Int)).bind fun d =>
 if 4 < (d.length : Int) then (
 some (.inr (.inr 4)))
 else (
 some (.inl ()))

noncomputable def mPlanForm_L419 (a : ApiTrain) (c : Nat) : (Unit) → Option ((Unit) ⊕ ((Unit) ⊕ (Int))) := fun _ =>
 (idx a.Legs (c : Int)).bind fun d =>
 if (d.length : Int) = 0 then (
 some (.inr (.inr 1)))
 else (
 some (.inl ()))

noncomputable def mPlanForm_L500 (c : ApiDay) (d : Nat) : (Unit) → Option ((Unit) ⊕ (Int)) := fun _ =>
 (idx c.Turns (d : Int)).bind fun a =>
 if (a.length : Int) = 0 then (
 some (.inr 1))
 else (
 if 12 < (a.length : Int) then (
 some (.inr 4))
 else (
 some (.inl ())))

noncomputable def mPlanForm_L283 (c : ApiDay) (d : Nat) : (Unit) → Option ((Unit) ⊕ (Int)) := fun _ =>
 (idx c.Trains (d : Int)).bind fun a =>
 (if (a.Stops.length : Int) = 0 then (
 some true)
 else (
 (chk ((a.Stops.length : Int) - 1)).bind fun _ =>
 some (decide ((a.Legs.length : Int) ≠ ((a.Stops.length : Int) - 1))))).bind (fun e =>
 if e = true then (
 some (.inr 1))
 else (
 (forM (mPlanForm_L419 a) a.Legs.length 0 ()).bind fun t => Sum.elim (fun _ =>
 if 8 < (a.Stops.length : Int) then (
 some (.inr 4))
 else (
 (forM (mPlanForm_L460 a) a.Legs.length 0 ()).bind fun t => Sum.elim (fun _ =>
 some (.inl ())) (fun q => some q) t)) (fun q => some q) t))

noncomputable def mPlanForm (a : ApiDay) : Option (Int) :=
 (if 12 < (a.Trains.length : Int) then (
 some true)
 else (
 some (decide (8 < (a.Turns.length : Int))))).bind (fun c =>
 if c = true then (
 some 4)
 else (
 (forM (mPlanForm_L283 a) a.Trains.length 0 ()).bind fun t => Sum.elim (fun _ =>
 (forM (mPlanForm_L500 a) a.Turns.length 0 ()).bind fun t => Sum.elim (fun _ =>
 some 0) (fun q => some q) t) (fun q => some q) t))

noncomputable def mPlanWithin (a c d : Int) : Option (Bool) :=
 (if c ≤ a then (
 some (decide (a ≤ d)))
 else (
 some false)).bind (fun e =>
 some e)

noncomputable def mStrconvItoa (a : Int) : Option (ByteArray) :=
 itoaM a

noncomputable def mPlanSentence_L66 (a : List Int) (c : Nat) : (ByteArray) → Option (ByteArray) := fun d =>
 (idx a (c : Int)).bind fun e =>
 (mStrconvItoa e).bind fun f =>
 (sAdd (ByteArray.mk #[32]) f).bind fun g =>
 (sAdd d g).bind fun h =>
 some h

noncomputable def mPlanSentence (c : ByteArray) (a : List Int) : Option (ByteArray) :=
 (forS (mPlanSentence_L66 a) a.length 0 c).bind (fun d =>
 (sAdd d (ByteArray.mk #[10])).bind fun e =>
 some e)

noncomputable def mStringsBuilderWriteString (a c : ByteArray) : Option (Int × ByteArray) :=
 bWrite c a

noncomputable def mPlanText_1_L96 (a : List Int) (c : Nat) : (Bool) → Option (Bool) := fun d =>
 (idx a (c : Int)).bind fun e =>
 if d = true then (
 (mPlanWithin e 0 999999).bind fun f =>
 some f)
 else (
 some false)

noncomputable def mPlanText_1 (c : ByteArray) (d : Bool) (a : List Int) (e : ByteArray) : Option (Bool × ByteArray) :=
 (forS (mPlanText_1_L96 a) a.length 0 d).bind (fun f =>
 (mPlanSentence c a).bind fun g =>
 (mStringsBuilderWriteString g e).bind (unc2 fun _ h =>
 some (f, h)))

noncomputable def mPlanText_1_2_L75 (a : List Int) (c : Nat) : (Bool) → Option (Bool) := fun d =>
 (idx a (c : Int)).bind fun e =>
 if d = true then (
 (mPlanWithin e 0 999999).bind fun f =>
 some f)
 else (
 some false)

noncomputable def mPlanText_1_2 (c : ByteArray) (a : List Int) (d : Bool) (e : ByteArray) : Option (Bool × ByteArray) :=
 (forS (mPlanText_1_2_L75 a) a.length 0 d).bind (fun f =>
 (mPlanSentence c a).bind fun g =>
 (mStringsBuilderWriteString g e).bind (unc2 fun _ h =>
 some (f, h)))

noncomputable def mStringsBuilderString (a : ByteArray) : Option (ByteArray) :=
 some a

noncomputable def mPlanText_L1169 (a : ApiTrain) (c : Nat) : (Bool × ByteArray) → Option (Bool × ByteArray) := unc2 fun d e =>
 (idx a.Legs (c : Int)).bind fun f =>
 (mPlanText_1_2 (ByteArray.mk #[108, 101, 103]) f d e).bind (unc2 fun g h =>
 some (g, h))

noncomputable def mPlanText_L1089 (c : ApiTrain) (d : Nat) : (Bool × ByteArray) → Option (Bool × ByteArray) := unc2 fun e f =>
 (idx c.Stops (d : Int)).bind fun a =>
 (mPlanText_1 (ByteArray.mk #[115, 116, 111, 112]) e [a.Station, a.Track, a.Arr, a.Dep] f).bind (unc2 fun g h =>
 some (g, h))

noncomputable def mPlanText_L1246 (a : ApiDay) (c : Nat) : (Bool × ByteArray) → Option (Bool × ByteArray) := unc2 fun d e =>
 (idx a.Turns (c : Int)).bind fun f =>
 (mPlanText_1_2 (ByteArray.mk #[116, 117, 114, 110]) f d e).bind (unc2 fun g h =>
 some (g, h))

noncomputable def mPlanText_L677 (c : ApiDay) (d : Nat) : (Bool × ByteArray) → Option (Bool × ByteArray) := unc2 fun e f =>
 (idx c.Trains (d : Int)).bind fun a =>
 (mPlanText_1 (ByteArray.mk #[116, 114, 97, 105, 110]) e [a.No, a.Stock] f).bind (unc2 fun g h =>
 (forS (mPlanText_L1089 a) a.Stops.length 0 (g, h)).bind (unc2 fun i j =>
 (forS (mPlanText_L1169 a) a.Legs.length 0 (i, j)).bind (unc2 fun k l =>
 some (k, l))))

noncomputable def mPlanText (a : ApiDay) : Option (ByteArray × Int) :=
 (mPlanForm a).bind fun c =>
 if c ≠ 0 then (
 some ((ByteArray.mk #[]), c))
 else (
 (forS (mPlanText_L677 a) a.Trains.length 0 (true, ByteArray.empty)).bind (unc2 fun d e =>
 (forS (mPlanText_L1246 a) a.Turns.length 0 (d, e)).bind (unc2 fun f g =>
 if f = true then (
 (mStringsBuilderString g).bind fun h =>
 some (h, 0))
 else (
 some ((ByteArray.mk #[]), 2)))))

noncomputable def mGuideWithin (a c d : Int) : Option (Bool) :=
 (if c ≤ a then (
 some (decide (a ≤ d)))
 else (
 some false)).bind (fun e =>
 some e)

noncomputable def mGuideCheck_L1189 (d : ApiTrain) (c : Nat) : (Unit) → Option ((Unit) ⊕ (((List (Int × Bool))) ⊕ (Int))) := fun _ =>
 (idx d.Stops (c : Int)).bind fun a =>
 ((mGuideWithin a.Station 0 11).bind fun e =>
 if e = true then (
 (mGuideWithin a.Arr 0 28800).bind fun f =>
 if f = true then (
 (mGuideWithin a.Dep 0 28800).bind fun g =>
 some (!g))
 else (
 some true))
 else (
 some true)).bind (fun h =>
 if h = true then (
 some (.inr (.inr 2)))
 else (
 (if a.Dep < a.Arr then (
 some true)
 else (
 if 0 < (c : Int) then (
 (chk ((c : Int) - 1)).bind fun _ =>
 (idx d.Stops ((c : Int) - 1)).bind fun i =>
 some (decide (a.Arr ≤ i.Dep)))
 else (
 some false))).bind (fun j =>
 if j = true then (
 some (.inr (.inr 5)))
 else (
 some (.inl ())))))

noncomputable def mGuideCheck_L703 (d : ApiDay) (e : Nat) : ((List (Int × Bool))) → Option (((List (Int × Bool))) ⊕ (Int)) := fun c =>
 (idx d.Trains (e : Int)).bind fun a =>
 (mGuideWithin a.No 1 9999).bind fun f =>
 if f = true then (
 (some (mgetD c a.No false)).bind fun g =>
 if g = true then (
 some (.inr 6))
 else (
 if (a.Stops.length : Int) < 2 then (
 some (.inr 1))
 else (
 (forM (mGuideCheck_L1189 a) a.Stops.length 0 ()).bind fun t => Sum.elim (fun _ =>
 some (.inl (mput c a.No true))) (fun q => some q) t)))
 else (
 some (.inr 2))

noncomputable def mGuideCheck (a : ApiDay) : Option (Int) :=
 (mPlanText a).bind (unc2 fun _ c =>
 if c ≠ 0 then (
 some c)
 else (
 (forM (mGuideCheck_L703 a) a.Trains.length 0 (([] : List (Int × Bool)) : List (Int × Bool))).bind fun t => Sum.elim (fun _ =>
 some 0) (fun q => some q) t))

noncomputable def mGuideCheckLeast (c : ApiDay) (d : Int) : Option (Int) :=
 (mGuideCheck c).bind fun a =>
 if a ≠ 0 then (
 some a)
 else (
 (mGuideWithin d 0 28800).bind fun e =>
 if e = true then (
 some 0)
 else (
 some 2))

noncomputable def mGuideNetOn (d : GuideNet) (c : GuideRide) : Option (Int × Int × Int × Int) :=
 (idx d.Day.Trains c.Train).bind fun e =>
 (idx e.Stops c.On).bind fun a =>
 some (a.Station, a.Track, a.Arr, a.Dep)

noncomputable def mGuideNetOff (d : GuideNet) (c : GuideRide) : Option (Int × Int × Int × Int) :=
 (idx d.Day.Trains c.Train).bind fun e =>
 (idx e.Stops c.Off).bind fun a =>
 some (a.Station, a.Track, a.Arr, a.Dep)

noncomputable def mGuideNetJourney_L428 (a : GuideNet) (g : GuideJourney) (i : Bool) (d : Nat) : (Unit) → Option ((Unit) ⊕ (Int)) := fun _ =>
 (idx g.Rides (d : Int)).bind fun c =>
 (chk ((a.Day.Trains.length : Int) - 1)).bind fun _ =>
 (mGuideWithin c.Train 0 ((a.Day.Trains.length : Int) - 1)).bind fun j =>
 if j = true then (
 (idx a.Day.Trains c.Train).bind fun e =>
 (chk ((e.Stops.length : Int) - 1)).bind fun _ =>
 ((mGuideWithin c.On 0 ((e.Stops.length : Int) - 1)).bind fun k =>
 if k = true then (
 (mGuideWithin c.Off 0 ((e.Stops.length : Int) - 1)).bind fun l =>
 some (!l))
 else (
 some true)).bind (fun m =>
 if m = true then (
 some (.inr 3))
 else (
 if c.Off ≤ c.On then (
 some (.inr 1))
 else (
 if (d : Int) = 0 then (
 some (.inl ()))
 else (
 (chk ((d : Int) - 1)).bind fun _ =>
 (idx g.Rides ((d : Int) - 1)).bind fun f =>
 (if c.Train = f.Train then (
 some true)
 else (
 (mGuideNetOn a c).bind (unc4 fun n _ _ _ =>
 (mGuideNetOff a f).bind (unc4 fun o _ _ _ =>
 some (decide (n ≠ o)))))).bind (fun p =>
 if p = true then (
 some (.inr 1))
 else (
 (if i = true then (
 (mGuideNetOn a c).bind (unc4 fun _ _ _ q =>
 (mGuideNetOff a f).bind (unc4 fun _ _ h _ =>
 (chk (h + a.least)).bind fun _ =>
 some (decide (q < (h + a.least))))))
 else (
 some false)).bind (fun r =>
 if r = true then (
 some (.inr 13))
 else (
 some (.inl ()))))))))))
 else (
 some (.inr 3))

noncomputable def mGuideNetJourney (c : GuideNet) (a : GuideJourney) (d : Bool) : Option (Int) :=
 (mGuideWithin (a.Rides.length : Int) 1 4).bind fun e =>
 if e = true then (
 (forM (mGuideNetJourney_L428 c a d) a.Rides.length 0 ()).bind fun t => Sum.elim (fun _ =>
 some 0) (fun q => some q) t)
 else (
 some 4)

noncomputable def mGuideCheckJourney (a : ApiDay) (e : GuideJourney) (c : Int) : Option (Int) :=
 (mGuideCheckLeast a c).bind fun d =>
 if d ≠ 0 then (
 some d)
 else (
 (mGuideNetJourney (⟨a, c⟩ : GuideNet) e true).bind fun f =>
 some f)

noncomputable def mFishkeep2AwakeGuide : Option (Bool) :=
 (mGuideCheckJourney (⟨[], []⟩ : ApiDay) (⟨[]⟩ : GuideJourney) (-1)).bind fun a =>
 some (decide (a ≠ 0))

noncomputable def mGuideCheck_2_L92 (a : List Int) (c : Nat) : (Unit) → Option ((Unit) ⊕ (Int)) := fun _ =>
 (idx a (c : Int)).bind fun d =>
 (mGuideWithin d 0 28800).bind fun e =>
 if e = true then (
 some (.inl ()))
 else (
 some (.inr 2))

noncomputable def mGuideCheck_2 (f : ApiDay) (g a c : Int) (d : List Int) : Option (Int) :=
 (mGuideCheckLeast f g).bind fun e =>
 if e ≠ 0 then (
 some e)
 else (
 ((mGuideWithin a 0 11).bind fun h =>
 if h = true then (
 (mGuideWithin c 0 11).bind fun i =>
 some (!i))
 else (
 some true)).bind (fun j =>
 if j = true then (
 some 3)
 else (
 if a = c then (
 some 1)
 else (
 (forM (mGuideCheck_2_L92 d) d.length 0 ()).bind fun t => Sum.elim (fun _ =>
 some 0) (fun q => some q) t))))

def offsG (t on n off : Nat) : List GuideRide := (List.range' off (n - off)).map fun (k : Nat) => ⟨(t : Int), (on : Int), (k : Int)⟩

def ridesS (t n : Nat) (sta at_ : Int) : List ApiStop → Nat → List GuideRide
  | [], _ => []
  | s :: r, on => (if s.Station ≠ sta ∨ s.Dep < at_ then [] else offsG t on n (on + 1)) ++ ridesS t n sta at_ r (on + 1)

def ridesL (sta at_ nt : Int) : List ApiTrain → Nat → List GuideRide
  | [], _ => []
  | x :: r, t => (if (t : Int) = nt then [] else ridesS t x.Stops.length sta at_ x.Stops 0) ++ ridesL sta at_ nt r (t + 1)

noncomputable def mGuideNetRides (a : GuideNet) (c d e : Int) : Option ((List GuideRide)) :=
 some (ridesL c d e a.Day.Trains 0)

noncomputable def mGuideNetBehind (a : GuideNet) (c : GuideRide) : Option ((List GuideRide)) :=
 (mGuideNetOff a c).bind (unc4 fun e _ d _ =>
 (chk (d + a.least)).bind fun _ =>
 (mGuideNetRides a e (d + a.least) c.Train).bind fun f =>
 some f)

noncomputable def mSlicesAppendSeq_L63 (c : GuideRide) : ((List GuideRide)) → Option (((List GuideRide)) ⊕ ((List GuideRide))) := fun a =>
 (room 24 (a.length + 1)).bind fun _ =>
 some (.inl (a ++ [c]))

noncomputable def mSlicesAppendSeq (a c : List GuideRide) : Option ((List GuideRide)) :=
 (forL mSlicesAppendSeq_L63 a c).bind fun t => Sum.elim (fun d =>
 some d) (fun q => some q) t

noncomputable def mGuideNetEnds_L1300 (e : GuideNet) (f : List GuideRide) (g : Nat) : ((List GuideRide) × (List (GuidePlace × Bool))) → Option ((List GuideRide) × (List (GuidePlace × Bool))) := unc2 fun d c =>
 (idx f (g : Int)).bind fun a =>
 (some (mgetD c (⟨a.Train, a.Off⟩ : GuidePlace) false)).bind fun h =>
 if h = true then (
 some (d, c))
 else (
 (mGuideNetBehind e a).bind fun i =>
 (mSlicesAppendSeq i d).bind fun j =>
 some (j, mput c (⟨a.Train, a.Off⟩ : GuidePlace) true))

noncomputable def mGuideNetEnds_L1115 (e : GuideNet) (f : List GuideRide) (g : Nat) : ((List GuideRide) × (List (GuidePlace × Bool))) → Option ((List GuideRide) × (List (GuidePlace × Bool))) := unc2 fun d c =>
 (idx f (g : Int)).bind fun a =>
 (some (mgetD c (⟨a.Train, a.Off⟩ : GuidePlace) false)).bind fun h =>
 if h = true then (
 some (d, c))
 else (
 (mGuideNetBehind e a).bind fun i =>
 (mSlicesAppendSeq i d).bind fun j =>
 some (j, mput c (⟨a.Train, a.Off⟩ : GuidePlace) true))

noncomputable def mGuideNetEnds_L930 (e : GuideNet) (f : List GuideRide) (g : Nat) : ((List GuideRide) × (List (GuidePlace × Bool))) → Option ((List GuideRide) × (List (GuidePlace × Bool))) := unc2 fun d c =>
 (idx f (g : Int)).bind fun a =>
 (some (mgetD c (⟨a.Train, a.Off⟩ : GuidePlace) false)).bind fun h =>
 if h = true then (
 some (d, c))
 else (
 (mGuideNetBehind e a).bind fun i =>
 (mSlicesAppendSeq i d).bind fun j =>
 some (j, mput c (⟨a.Train, a.Off⟩ : GuidePlace) true))

noncomputable def mGuideNetEnds_L763 (e : GuideNet) (f : List GuideRide) (g : Nat) : ((List GuideRide) × (List (GuidePlace × Bool))) → Option ((List GuideRide) × (List (GuidePlace × Bool))) := unc2 fun d c =>
 (idx f (g : Int)).bind fun a =>
 (some (mgetD c (⟨a.Train, a.Off⟩ : GuidePlace) false)).bind fun h =>
 if h = true then (
 some (d, c))
 else (
 (mGuideNetBehind e a).bind fun i =>
 (mSlicesAppendSeq i d).bind fun j =>
 some (j, mput c (⟨a.Train, a.Off⟩ : GuidePlace) true))

noncomputable def mGuideNetEnds (a : GuideNet) (c : List GuideRide) : Option ((List (GuidePlace × Bool)) × (List (GuidePlace × Bool)) × (List (GuidePlace × Bool)) × (List (GuidePlace × Bool))) :=
 (forS (mGuideNetEnds_L763 a c) c.length 0 (([], ([] : List (GuidePlace × Bool))) : (List GuideRide) × (List (GuidePlace × Bool)))).bind (unc2 fun d g =>
 (chk (0 + 1)).bind fun _ =>
 (forS (mGuideNetEnds_L930 a d) d.length 0 (([], ([] : List (GuidePlace × Bool))) : (List GuideRide) × (List (GuidePlace × Bool)))).bind (unc2 fun e h =>
 (chk (1 + 1)).bind fun _ =>
 (forS (mGuideNetEnds_L1115 a e) e.length 0 (([], ([] : List (GuidePlace × Bool))) : (List GuideRide) × (List (GuidePlace × Bool)))).bind (unc2 fun f i =>
 (chk (2 + 1)).bind fun _ =>
 (forS (mGuideNetEnds_L1300 a f) f.length 0 (([], ([] : List (GuidePlace × Bool))) : (List GuideRide) × (List (GuidePlace × Bool)))).bind (unc2 fun _ j =>
 (chk (3 + 1)).bind fun _ =>
 some (g, h, i, j)))))

noncomputable def mBitsLen64 (a : Int) : Option (Int) :=
 (if 4294967296 ≤ a then (
 (shN 32).bind fun _ =>
 some (shrI .u64 a 32, 32))
 else (
 some (a, 0))).bind (unc2 fun c d =>
 (if 65536 ≤ c then (
 (shN 16).bind fun _ =>
 (chk (d + 16)).bind fun _ =>
 some (shrI .u64 c 16, d + 16))
 else (
 some (c, d))).bind (unc2 fun e f =>
 (if 256 ≤ e then (
 (shN 8).bind fun _ =>
 (chk (f + 8)).bind fun _ =>
 some (shrI .u64 e 8, f + 8))
 else (
 some (e, f))).bind (unc2 fun i g =>
 (sIdx (ByteArray.mk (List.toArray (List.append (List.append ([0, 1, 2, 2, 3, 3, 3, 3, 4, 4, 4, 4, 4, 4, 4, 4, 5, 5, 5, 5, 5, 5, 5, 5, 5, 5, 5, 5, 5, 5, 5, 5, 6, 6, 6, 6, 6, 6, 6, 6, 6, 6, 6, 6, 6, 6, 6, 6, 6, 6, 6, 6, 6, 6, 6, 6, 6, 6, 6, 6, 6, 6, 6, 6] : List UInt8) ([7, 7, 7, 7, 7, 7, 7, 7, 7, 7, 7, 7, 7, 7, 7, 7, 7, 7, 7, 7, 7, 7, 7, 7, 7, 7, 7, 7, 7, 7, 7, 7, 7, 7, 7, 7, 7, 7, 7, 7, 7, 7, 7, 7, 7, 7, 7, 7, 7, 7, 7, 7, 7, 7, 7, 7, 7, 7, 7, 7, 7, 7, 7, 7] : List UInt8)) (List.append ([8, 8, 8, 8, 8, 8, 8, 8, 8, 8, 8, 8, 8, 8, 8, 8, 8, 8, 8, 8, 8, 8, 8, 8, 8, 8, 8, 8, 8, 8, 8, 8, 8, 8, 8, 8, 8, 8, 8, 8, 8, 8, 8, 8, 8, 8, 8, 8, 8, 8, 8, 8, 8, 8, 8, 8, 8, 8, 8, 8, 8, 8, 8, 8] : List UInt8) ([8, 8, 8, 8, 8, 8, 8, 8, 8, 8, 8, 8, 8, 8, 8, 8, 8, 8, 8, 8, 8, 8, 8, 8, 8, 8, 8, 8, 8, 8, 8, 8, 8, 8, 8, 8, 8, 8, 8, 8, 8, 8, 8, 8, 8, 8, 8, 8, 8, 8, 8, 8, 8, 8, 8, 8, 8, 8, 8, 8, 8, 8, 8, 8] : List UInt8))))) (IntKind.wrap .u8 i)).bind fun h =>
 (chk (g + (IntKind.wrap .i64 h))).bind fun _ =>
 some (g + (IntKind.wrap .i64 h)))))

noncomputable def mBitsLen (a : Int) : Option (Int) :=
 (mBitsLen64 a).bind fun c =>
 some c

noncomputable def mCmpIsNaN (a : Int) : Option (Bool) :=
 some (decide (a ≠ a))

noncomputable def mCmpCompare (a c : Int) : Option (Int) :=
 (mCmpIsNaN a).bind fun e =>
 (mCmpIsNaN c).bind fun d =>
 if e = true then (
 if d = true then (
 some 0)
 else (
 some (-1)))
 else (
 if d = true then (
 some 1)
 else (
 if a < c then (
 some (-1))
 else (
 if c < a then (
 some 1)
 else (
 some 0))))

noncomputable def mCmpOr_L38 (c : List Int) (d : Nat) : (Unit) → Option ((Unit) ⊕ (Int)) := fun _ =>
 (idx c (d : Int)).bind fun a =>
 if a ≠ 0 then (
 some (.inr a))
 else (
 some (.inl ()))

noncomputable def mCmpOr (a : List Int) : Option (Int) :=
 (forM (mCmpOr_L38 a) a.length 0 ()).bind fun t => Sum.elim (fun _ =>
 some 0) (fun q => some q) t

noncomputable def mGuideComparePoints (a c : GuidePoint) : Option (Int) :=
 ((mCmpCompare a.Dep c.Dep).bind fun d =>
 (mCmpCompare a.Arr c.Arr).bind fun e =>
 (mCmpCompare a.Rides c.Rides).bind fun f =>
 (mCmpOr [d, e, f]).bind fun g =>
 some g).bind (fun h =>
 some h)

noncomputable def mSlicesInsertionSortCmpFunc_L9840 (e : Int) : (Int × (List GuidePoint)) → Option ((Int × (List GuidePoint)) ⊕ ((List GuidePoint))) := unc2 fun a c =>
 (if e < a then (
 (idx c a).bind fun f =>
 (chk (a - 1)).bind fun _ =>
 (idx c (a - 1)).bind fun g =>
 (mGuideComparePoints f g).bind fun h =>
 some (decide (h < 0)))
 else (
 some false)).bind (fun i =>
 if i = true then (
 (chk (a - 1)).bind fun _ =>
 (chk (a - 1)).bind fun _ =>
 (idx c (a - 1)).bind fun d =>
 (idx c a).bind fun j =>
 (idx c a).bind fun _ =>
 (idx (put c a d) (a - 1)).bind fun _ =>
 (chk (a - 1)).bind fun _ =>
 some (.inl (a - 1, put (put c a d) (a - 1) j)))
 else (
 some (.inr c)))

noncomputable def mSlicesInsertionSortCmpFunc_L5371 (d e : Int) : (Int × (List GuidePoint)) → Option ((Int × (List GuidePoint)) ⊕ ((List GuidePoint))) := unc2 fun a c =>
 if a < e then (
 (loopM (mSlicesInsertionSortCmpFunc_L9840 d) (a, c)).bind (fun f =>
 (chk (a + 1)).bind fun _ =>
 some (.inl (a + 1, f))))
 else (
 some (.inr c))

noncomputable def mSlicesInsertionSortCmpFunc (a c : Int) (d : List GuidePoint) : Option ((List GuidePoint)) :=
 (chk (a + 1)).bind fun _ =>
 loopM (mSlicesInsertionSortCmpFunc_L5371 a c) (a + 1, d)

noncomputable def mSlicesPdqsortCmpFunc_L36 (d : List GuidePoint) (a c : Int) : (Unit) → Option ((Unit) ⊕ ((List GuidePoint))) := fun _ =>
 (chk (c - a)).bind fun _ =>
 if (c - a) ≤ 12 then (
 (mSlicesInsertionSortCmpFunc a c d).bind fun e =>
 some (.inr e))
 else (
 none)

noncomputable def mSlicesPdqsortCmpFunc (a c _ : Int) (d : List GuidePoint) : Option ((List GuidePoint)) :=
 loopM (mSlicesPdqsortCmpFunc_L36 d a c) ()

noncomputable def mSlicesSortFunc (a : List GuidePoint) : Option ((List GuidePoint)) :=
 (mBitsLen (IntKind.wrap .u64 (a.length : Int))).bind fun c =>
 (mSlicesPdqsortCmpFunc 0 (a.length : Int) c a).bind fun d =>
 some d

noncomputable def mGuideNetPoints_L48340 (h : GuideNet) (i : Int) (c : (Int × (List GuideRide))) (g : GuidePlace × Bool) : ((List (GuidePoint × Bool)) × (List GuidePoint)) → Option (((List (GuidePoint × Bool)) × (List GuidePoint)) ⊕ ((List (GuidePoint × Bool)) × (List GuidePoint))) := unc2 fun d e =>
 ((idx h.Day.Trains g.1.train).bind fun j =>
 (idx j.Stops g.1.off).bind fun a =>
 some (a.Station, a.Track, a.Arr, a.Dep)).bind (unc4 fun k _ f _ =>
 (chk (0 + 1)).bind fun _ =>
 (if k = i then (
 (some (mgetD d (⟨c.1, f, 0 + 1⟩ : GuidePoint) false)).bind fun l =>
 some (!l))
 else (
 some false)).bind (fun m =>
 if m = true then (
 (room 24 (e.length + 1)).bind fun _ =>
 some (.inl (mput d (⟨c.1, f, 0 + 1⟩ : GuidePoint) true, e ++ [(⟨c.1, f, 0 + 1⟩ : GuidePoint)])))
 else (
 some (.inl (d, e)))))

noncomputable def mGuideNetPoints_L49402 (h : GuideNet) (i : Int) (c : (Int × (List GuideRide))) (g : GuidePlace × Bool) : ((List (GuidePoint × Bool)) × (List GuidePoint)) → Option (((List (GuidePoint × Bool)) × (List GuidePoint)) ⊕ ((List (GuidePoint × Bool)) × (List GuidePoint))) := unc2 fun d e =>
 ((idx h.Day.Trains g.1.train).bind fun j =>
 (idx j.Stops g.1.off).bind fun a =>
 some (a.Station, a.Track, a.Arr, a.Dep)).bind (unc4 fun k _ f _ =>
 (chk (1 + 1)).bind fun _ =>
 (if k = i then (
 (some (mgetD d (⟨c.1, f, 1 + 1⟩ : GuidePoint) false)).bind fun l =>
 some (!l))
 else (
 some false)).bind (fun m =>
 if m = true then (
 (room 24 (e.length + 1)).bind fun _ =>
 some (.inl (mput d (⟨c.1, f, 1 + 1⟩ : GuidePoint) true, e ++ [(⟨c.1, f, 1 + 1⟩ : GuidePoint)])))
 else (
 some (.inl (d, e)))))

noncomputable def mGuideNetPoints_L50464 (h : GuideNet) (i : Int) (c : (Int × (List GuideRide))) (g : GuidePlace × Bool) : ((List (GuidePoint × Bool)) × (List GuidePoint)) → Option (((List (GuidePoint × Bool)) × (List GuidePoint)) ⊕ ((List (GuidePoint × Bool)) × (List GuidePoint))) := unc2 fun d e =>
 ((idx h.Day.Trains g.1.train).bind fun j =>
 (idx j.Stops g.1.off).bind fun a =>
 some (a.Station, a.Track, a.Arr, a.Dep)).bind (unc4 fun k _ f _ =>
 (chk (2 + 1)).bind fun _ =>
 (if k = i then (
 (some (mgetD d (⟨c.1, f, 2 + 1⟩ : GuidePoint) false)).bind fun l =>
 some (!l))
 else (
 some false)).bind (fun m =>
 if m = true then (
 (room 24 (e.length + 1)).bind fun _ =>
 some (.inl (mput d (⟨c.1, f, 2 + 1⟩ : GuidePoint) true, e ++ [(⟨c.1, f, 2 + 1⟩ : GuidePoint)])))
 else (
 some (.inl (d, e)))))

noncomputable def mGuideNetPoints_L51526 (h : GuideNet) (i : Int) (c : (Int × (List GuideRide))) (g : GuidePlace × Bool) : ((List (GuidePoint × Bool)) × (List GuidePoint)) → Option (((List (GuidePoint × Bool)) × (List GuidePoint)) ⊕ ((List (GuidePoint × Bool)) × (List GuidePoint))) := unc2 fun d e =>
 ((idx h.Day.Trains g.1.train).bind fun j =>
 (idx j.Stops g.1.off).bind fun a =>
 some (a.Station, a.Track, a.Arr, a.Dep)).bind (unc4 fun k _ f _ =>
 (chk (3 + 1)).bind fun _ =>
 (if k = i then (
 (some (mgetD d (⟨c.1, f, 3 + 1⟩ : GuidePoint) false)).bind fun l =>
 some (!l))
 else (
 some false)).bind (fun m =>
 if m = true then (
 (room 24 (e.length + 1)).bind fun _ =>
 some (.inl (mput d (⟨c.1, f, 3 + 1⟩ : GuidePoint) true, e ++ [(⟨c.1, f, 3 + 1⟩ : GuidePoint)])))
 else (
 some (.inl (d, e)))))

noncomputable def mGuideNetPoints_L39155 (a : GuideNet) (d : Int) (c : Int × (List GuideRide)) : ((List (GuidePoint × Bool)) × (List GuidePoint)) → Option (((List (GuidePoint × Bool)) × (List GuidePoint)) ⊕ ((List GuidePoint))) := unc2 fun e f =>
 (mGuideNetEnds a c.2).bind (unc4 fun g h i j =>
 ((ordM (fun p => forL (mGuideNetPoints_L48340 a d c) p (e, f)) g).bind fun t => Sum.elim (unc2 fun k l =>
 some (k, l)) (fun q => some q) t).bind (unc2 fun m n =>
 (chk (0 + 1)).bind fun _ =>
 ((ordM (fun p => forL (mGuideNetPoints_L49402 a d c) p (m, n)) h).bind fun t => Sum.elim (unc2 fun o r =>
 some (o, r)) (fun q => some q) t).bind (unc2 fun s u =>
 (chk (1 + 1)).bind fun _ =>
 ((ordM (fun p => forL (mGuideNetPoints_L50464 a d c) p (s, u)) i).bind fun t => Sum.elim (unc2 fun v w =>
 some (v, w)) (fun q => some q) t).bind (unc2 fun x y =>
 (chk (2 + 1)).bind fun _ =>
 ((ordM (fun p => forL (mGuideNetPoints_L51526 a d c) p (x, y)) j).bind fun t => Sum.elim (unc2 fun z A =>
 some (z, A)) (fun q => some q) t).bind (unc2 fun B C =>
 (chk (3 + 1)).bind fun _ =>
 some (.inl (B, C)))))))

noncomputable def mGuideNetPoints_L26047 (e : GuideNet) (d : GuideRide) : ((List (Int × (List GuideRide)))) → Option (((List (Int × (List GuideRide)))) ⊕ ((List GuidePoint))) := fun a =>
 (mGuideNetOn e d).bind (unc4 fun _ _ _ c =>
 (room 24 ((mgetD a c []).length + 1)).bind fun _ =>
 some (.inl (mput a c ((mgetD a c []) ++ [d]))))

noncomputable def mGuideNetPoints (a : GuideNet) (c d : Int) : Option ((List GuidePoint)) :=
 (mGuideNetRides a c 0 (-1)).bind fun e =>
 (forL (mGuideNetPoints_L26047 a) e (([] : List (Int × (List GuideRide))) : List (Int × (List GuideRide)))).bind fun t => Sum.elim (fun f =>
 ((ordM (fun p => forL (mGuideNetPoints_L39155 a d) p ((([] : List (GuidePoint × Bool)), []) : (List (GuidePoint × Bool)) × (List GuidePoint))) f).bind fun t => Sum.elim (unc2 fun _ g =>
 some g) (fun q => some q) t).bind (fun h =>
 (mSlicesSortFunc h).bind fun i =>
 some i)) (fun q => some q) t

noncomputable def mGuideNetEarliest_1 (a : GuidePoint) (c : Int) : Option (Bool) :=
 some (decide (a.Dep < c))

noncomputable def mSlicesIndexFunc_L62 (c : List GuidePoint) (d : Int) (a : Nat) : (Unit) → Option ((Unit) ⊕ (Int)) := fun _ =>
 (idx c (a : Int)).bind fun e =>
 (mGuideNetEarliest_1 e d).bind fun f =>
 if f = true then (
 some (.inr (a : Int)))
 else (
 some (.inl ()))

noncomputable def mSlicesIndexFunc (c : Int) (a : List GuidePoint) : Option (Int) :=
 (forM (mSlicesIndexFunc_L62 a c) a.length 0 ()).bind fun t => Sum.elim (fun _ =>
 some (-1)) (fun q => some q) t

noncomputable def mSlicesDeleteFunc_L962 (f : Int) : (Int × Int × (List GuidePoint)) → Option ((Int × Int × (List GuidePoint)) ⊕ (Int × (List GuidePoint))) := unc3 fun a d c =>
 if d < (c.length : Int) then (
 ((idx c d).bind fun e =>
 (mGuideNetEarliest_1 e f).bind fun g =>
 if g = true then (
 some (a, c))
 else (
 (idx c a).bind fun _ =>
 (chk (a + 1)).bind fun _ =>
 some (a + 1, put c a e))).bind (unc2 fun h i =>
 (chk (d + 1)).bind fun _ =>
 some (.inl (h, d + 1, i))))
 else (
 some (.inr (a, c)))

noncomputable def mSlicesDeleteFunc (f : Int) (c : List GuidePoint) : Option ((List GuidePoint)) :=
 (mSlicesIndexFunc f c).bind fun a =>
 if a = (-1) then (
 some c)
 else (
 ((chk (a + 1)).bind fun _ =>
 loopM (mSlicesDeleteFunc_L962 f) (a, a + 1, c)).bind (unc2 fun d e =>
 (cutS e d (e.length : Int)).bind fun _ =>
 (cutS (clrM e d ((⟨0, 0, 0⟩ : GuidePoint) : GuidePoint)) 0 d).bind fun g =>
 some g))

noncomputable def mGuideNetEarliest_2 (a c : GuidePoint) : Option (Int) :=
 ((mCmpCompare a.Arr c.Arr).bind fun d =>
 (mCmpCompare a.Rides c.Rides).bind fun e =>
 (mCmpCompare c.Dep a.Dep).bind fun f =>
 (mCmpOr [d, e, f]).bind fun g =>
 some g).bind (fun h =>
 some h)

noncomputable def mSlicesMinFunc_L781 (c : List GuidePoint) : (Int × Int × Int × Int) → Option ((Int × Int × Int × Int) ⊕ (Int × Int × Int)) := unc4 fun a d e f =>
 if a < (c.length : Int) then (
 ((idx c a).bind fun h =>
 (mGuideNetEarliest_2 h (⟨d, e, f⟩ : GuidePoint)).bind fun i =>
 if i < 0 then (
 (idx c a).bind fun g =>
 some (g.Dep, g.Arr, g.Rides))
 else (
 some (d, e, f))).bind (unc3 fun j k l =>
 (chk (a + 1)).bind fun _ =>
 some (.inl (a + 1, j, k, l))))
 else (
 some (.inr (d, e, f)))

noncomputable def mSlicesMinFunc (a : List GuidePoint) : Option (Int × Int × Int) :=
 if (a.length : Int) < 1 then (
 none)
 else (
 (idx a 0).bind fun c =>
 (loopM (mSlicesMinFunc_L781 a) (1, c.Dep, c.Arr, c.Rides)).bind (unc3 fun d e f =>
 some (d, e, f)))

noncomputable def mSlicesClone (a : List GuideRide) : Option ((List GuideRide)) :=
 (room 24 a.length).bind fun _ => some a

noncomputable def mGuideNetLeastOf_1_L704 (e : List ApiTrain) (f : List (List Int)) (g : List GuideRide) (h i j k l : Int) (rcmGuideNetLeastOf_1 : ((List ApiTrain)) → ((List (List Int))) → (Int) → (Int) → (Int) → (Int) → (Int) → ((List GuideRide)) → ((List ((List Int) × Bool))) → Option ((List GuideRide) × (List ((List Int) × Bool)))) (m : GuideRide) : ((List ((List Int) × Bool))) → Option (((List ((List Int) × Bool))) ⊕ ((List GuideRide) × (List ((List Int) × Bool)))) := fun n =>
 ((mSlicesClone g).bind fun a =>
 (room 24 (a.length + 1)).bind fun _ =>
 (rcmGuideNetLeastOf_1 e f h i j k l (a ++ [m]) n).bind (unc2 fun o p =>
 some (o, p))).bind (unc2 fun c d =>
 if c.isEmpty = true then (
 some (.inl d))
 else (
 some (.inr (c, d))))

noncomputable def mGuideNetLeastOf_1 : Nat → ((List ApiTrain)) → ((List (List Int))) → (Int) → (Int) → (Int) → (Int) → (Int) → ((List GuideRide)) → ((List ((List Int) × Bool))) → Option ((List GuideRide) × (List ((List Int) × Bool)))
 | 0 => fun _ _ _ _ _ _ _ _ _ => none
 | N + 1 => fun f g h l i d j a e =>
 (chk ((a.length : Int) - 1)).bind fun _ =>
 (idx a ((a.length : Int) - 1)).bind fun c =>
 (mGuideNetOff (⟨(⟨f, g⟩ : ApiDay), h⟩ : GuideNet) c).bind (unc4 fun m _ k _ =>
 (chk (d - (a.length : Int))).bind fun _ =>
 if (d - (a.length : Int)) = 0 then (
 (if m = j then (
 some (decide (k = i)))
 else (
 some false)).bind (fun n =>
 if n = true then (
 some (a, e))
 else (
 some ([], e))))
 else (
 ((some (mgetD e [c.Train, c.Off, d - (a.length : Int)] false)).bind fun o =>
 if o = true then (
 some true)
 else (
 some (decide (i < k)))).bind (fun p =>
 if p = true then (
 some ([], e))
 else (
 (mGuideNetBehind (⟨(⟨f, g⟩ : ApiDay), h⟩ : GuideNet) c).bind fun r =>
 (forL (mGuideNetLeastOf_1_L704 f g a h l i d j (mGuideNetLeastOf_1 N)) r e).bind fun t => Sum.elim (fun s =>
 some ([], mput s [c.Train, c.Off, d - (a.length : Int)] true)) (fun q => some q) t))))

noncomputable def mGuideNetLeastOf_L166 (a : GuideNet) (g : Int) (c : GuidePoint) (d : GuideRide) : ((List ((List Int) × Bool))) → Option (((List ((List Int) × Bool))) ⊕ ((List GuideRide))) := fun e =>
 (mGuideNetOn a d).bind (unc4 fun _ _ _ h =>
 if h ≠ c.Dep then (
 some (.inl e))
 else (
 (lim (fun N => mGuideNetLeastOf_1 N a.Day.Trains a.Day.Turns a.least c.Dep c.Arr c.Rides g [d] e)).bind (unc2 fun f i =>
 if f.isEmpty = true then (
 some (.inl i))
 else (
 some (.inr f)))))

noncomputable def mGuideNetLeastOf (a : GuideNet) (d e : Int) (c : GuidePoint) : Option ((List GuideRide)) :=
 (mGuideNetRides a d c.Dep (-1)).bind fun f =>
 (forL (mGuideNetLeastOf_L166 a e c) f (([] : List ((List Int) × Bool)) : List ((List Int) × Bool))).bind fun t => Sum.elim (fun _ =>
 some []) (fun q => some q) t

noncomputable def mGuideNetEarliest (a : GuideNet) (c f d : Int) : Option (Bool × (List GuideRide)) :=
 (mGuideNetPoints a c d).bind fun g =>
 (mSlicesDeleteFunc f g).bind fun e =>
 if (e.length : Int) = 0 then (
 some (false, []))
 else (
 (mSlicesMinFunc e).bind (unc3 fun h i j =>
 (mGuideNetLeastOf a c d (⟨h, i, j⟩ : GuidePoint)).bind fun k =>
 some (true, k)))

noncomputable def mGuideEarliest (a : ApiDay) (c d e f : Int) : Option (Int × (List GuideRide)) :=
 (mGuideCheck_2 a f c e [d]).bind fun g =>
 if g ≠ 0 then (
 some (g, []))
 else (
 (mGuideNetEarliest (⟨a, f⟩ : GuideNet) c d e).bind (unc2 fun h i =>
 if h = true then (
 some (0, i))
 else (
 some (9, []))))

noncomputable def mSlicesEqual_L104 (e f : List GuideRide) (d : Nat) : (Unit) → Option ((Unit) ⊕ (Bool)) := fun _ =>
 (idx e (d : Int)).bind fun a =>
 (idx f (d : Int)).bind fun c =>
 if a.Train = c.Train ∧ a.On = c.On ∧ a.Off = c.Off then (
 some (.inl ()))
 else (
 some (.inr false))

noncomputable def mSlicesEqual (a c : List GuideRide) : Option (Bool) :=
 if (a.length : Int) ≠ (c.length : Int) then (
 some false)
 else (
 (forM (mSlicesEqual_L104 a c) a.length 0 ()).bind fun t => Sum.elim (fun _ =>
 some true) (fun q => some q) t)

noncomputable def mFishkeep2Guides : Option (Bool) :=
 (mGuideEarliest (⟨[(⟨1, 0, [(⟨0, 0, 5, 5⟩ : ApiStop), (⟨1, 0, 9, 9⟩ : ApiStop)], [[0]]⟩ : ApiTrain)], []⟩ : ApiDay) 0 0 1 0).bind (unc2 fun a c =>
 (if a = 0 then (
 (mSlicesEqual c [(⟨0, 0, 1⟩ : GuideRide)]).bind fun d =>
 some d)
 else (
 some false)).bind (fun e =>
 some e))

noncomputable def mGuideCheckOdds_1 (a : GuideOdds) (c : Int) (_ _ : List Int) : Option (Bool) :=
 some (decide (a.Train = c))

noncomputable def mSlicesIndexFunc_2_L68 (c : List GuideOdds) (d : Int) (e f : List Int) (a : Nat) : (Unit) → Option ((Unit) ⊕ (Int)) := fun _ =>
 (idx c (a : Int)).bind fun g =>
 (mGuideCheckOdds_1 g d e f).bind fun h =>
 if h = true then (
 some (.inr (a : Int)))
 else (
 some (.inl ()))

noncomputable def mSlicesIndexFunc_2 (a : List GuideOdds) (c : Int) (d e : List Int) : Option (Int) :=
 (forM (mSlicesIndexFunc_2_L68 a c d e) a.length 0 ()).bind fun t => Sum.elim (fun _ =>
 some (-1)) (fun q => some q) t

noncomputable def mSlicesContainsFunc (a : List GuideOdds) (c : Int) (d e : List Int) : Option (Bool) :=
 (mSlicesIndexFunc_2 a c d e).bind fun f =>
 some (decide (0 ≤ f))

noncomputable def mGuideCheckOdds_L697 (c : GuideOdds) (a : Nat) : (Unit) → Option ((Unit) ⊕ ((Unit) ⊕ (Int))) := fun _ =>
 (idx c.Late (a : Int)).bind fun d =>
 ((mGuideWithin d 0 28800).bind fun e =>
 if e = true then (
 (idx c.Weight (a : Int)).bind fun f =>
 (mGuideWithin f 1 10).bind fun g =>
 some (!g))
 else (
 some true)).bind (fun h =>
 if h = true then (
 some (.inr (.inr 2)))
 else (
 (if 0 < (a : Int) then (
 (chk ((a : Int) - 1)).bind fun _ =>
 (idx c.Late ((a : Int) - 1)).bind fun i =>
 some (decide (d ≤ i)))
 else (
 some false)).bind (fun j =>
 if j = true then (
 some (.inr (.inr 5)))
 else (
 some (.inl ())))))

noncomputable def mGuideCheckOdds_L438 (c : ApiDay) (d : List GuideOdds) (e : Nat) : (Unit) → Option ((Unit) ⊕ (Int)) := fun _ =>
 (idx d (e : Int)).bind fun a =>
 (chk ((c.Trains.length : Int) - 1)).bind fun _ =>
 (mGuideWithin a.Train 0 ((c.Trains.length : Int) - 1)).bind fun f =>
 if f = true then (
 (cutS d 0 (e : Int)).bind fun g =>
 (mSlicesContainsFunc g a.Train a.Late a.Weight).bind fun h =>
 if h = true then (
 some (.inr 6))
 else (
 if (a.Late.length : Int) ≠ (a.Weight.length : Int) then (
 some (.inr 1))
 else (
 (mGuideWithin (a.Late.length : Int) 1 6).bind fun i =>
 if i = true then (
 (forM (mGuideCheckOdds_L697 a) a.Late.length 0 ()).bind fun t => Sum.elim (fun _ =>
 some (.inl ())) (fun q => some q) t)
 else (
 some (.inr 4)))))
 else (
 some (.inr 3))

noncomputable def mGuideCheckOdds (c : ApiDay) (a : List GuideOdds) : Option (Int) :=
 if 12 < (a.length : Int) then (
 some 4)
 else (
 (forM (mGuideCheckOdds_L438 c a) a.length 0 ()).bind fun t => Sum.elim (fun _ =>
 some 0) (fun q => some q) t)

noncomputable def mSlicesIndex_L39 (c : List Int) (d : Int) (a : Nat) : (Unit) → Option ((Unit) ⊕ (Int)) := fun _ =>
 (idx c (a : Int)).bind fun e =>
 if d = e then (
 some (.inr (a : Int)))
 else (
 some (.inl ()))

noncomputable def mSlicesIndex (a : List Int) (c : Int) : Option (Int) :=
 (forM (mSlicesIndex_L39 a c) a.length 0 ()).bind fun t => Sum.elim (fun _ =>
 some (-1)) (fun q => some q) t

noncomputable def mSlicesContains (a : List Int) (c : Int) : Option (Bool) :=
 (mSlicesIndex a c).bind fun d =>
 some (decide (0 ≤ d))

noncomputable def mGuideNetCount_1_1 (a : GuideOdds) (c : Int) (d : List Int) : Option (Bool) :=
 (idx d c).bind fun e =>
 some (decide (a.Train = e))

noncomputable def mSlicesIndexFunc_3_L67 (c : List GuideOdds) (d : List Int) (e : Int) (a : Nat) : (Unit) → Option ((Unit) ⊕ (Int)) := fun _ =>
 (idx c (a : Int)).bind fun f =>
 (mGuideNetCount_1_1 f e d).bind fun g =>
 if g = true then (
 some (.inr (a : Int)))
 else (
 some (.inl ()))

noncomputable def mSlicesIndexFunc_3 (a : List GuideOdds) (c : Int) (d : List Int) : Option (Int) :=
 (forM (mSlicesIndexFunc_3_L67 a d c) a.length 0 ()).bind fun t => Sum.elim (fun _ =>
 some (-1)) (fun q => some q) t

noncomputable def mGuideNetCount_1_L2113 (c : List GuideOdds) (h : List GuideRide) (i : List ApiTrain) (j : List (List Int)) (d : List Int) (a e k l : Int) (m : GuideOdds) (rcmGuideNetCount_1 : (Int) → (Int) → ((List GuideOdds)) → (Int) → (Int) → (Int) → ((List GuideRide)) → ((List ApiTrain)) → ((List (List Int))) → (Int) → ((List Int)) → ((List (Int × Int))) → Option (Int × Int × Int × (List (Int × Int)))) (f : Nat) : (Int × Int × Int × (List (Int × Int))) → Option (Int × Int × Int × (List (Int × Int))) := unc4 fun n o p q =>
 (idx m.Late (f : Int)).bind fun r =>
 (idx d a).bind fun s =>
 (chk (a + 1)).bind fun _ =>
 (idx c l).bind fun t =>
 (idx t.Weight (f : Int)).bind fun g =>
 (chk (e * g)).bind fun _ =>
 (rcmGuideNetCount_1 (a + 1) (e * g) c n o p h i j k d (mput q s r)).bind (unc4 fun u v w x =>
 some (u, v, w, x))

noncomputable def mGuideNetCount_1_L2501 (g : List GuideRide) (h : List ApiTrain) (i : List (List Int)) (d : List (Int × Int)) (n o p q a : Int) (c : Nat) : (Unit) → Option ((Unit) ⊕ (Int × Int × Int × (List (Int × Int)))) := fun _ =>
 (idx g (c : Int)).bind fun j =>
 if 0 < (c : Int) then (
 (chk ((c : Int) - 1)).bind fun _ =>
 (idx g ((c : Int) - 1)).bind fun k =>
 ((mGuideNetOff (⟨(⟨h, i⟩ : ApiDay), a⟩ : GuideNet) k).bind (unc4 fun _ _ e _ =>
 (some (mgetD d k.Train 0)).bind fun f =>
 (chk (e + f)).bind fun _ =>
 (chk ((e + f) + a)).bind fun _ =>
 (mGuideNetOn (⟨(⟨h, i⟩ : ApiDay), a⟩ : GuideNet) j).bind (unc4 fun _ _ _ l =>
 (some (mgetD d j.Train 0)).bind fun m =>
 (chk (l + m)).bind fun _ =>
 some (decide ((l + m) < ((e + f) + a)))))).bind (fun r =>
 if r = true then (
 some (.inr (o, p + n, q, d)))
 else (
 some (.inl ()))))
 else (
 some (.inl ()))

noncomputable def mGuideNetCount_1 : Nat → (Int) → (Int) → ((List GuideOdds)) → (Int) → (Int) → (Int) → ((List GuideRide)) → ((List ApiTrain)) → ((List (List Int))) → (Int) → ((List Int)) → ((List (Int × Int))) → Option (Int × Int × Int × (List (Int × Int)))
 | 0 => fun _ _ _ _ _ _ _ _ _ _ _ _ => none
 | N + 1 => fun d a i e f g c k l m j h =>
 if d < (j.length : Int) then (
 (mSlicesIndexFunc_3 i d j).bind fun n =>
 if n < 0 then (
 (chk (d + 1)).bind fun _ =>
 ((mGuideNetCount_1 N) (d + 1) a i e f g c k l m j h).bind (unc4 fun r s u v =>
 some (r, s, u, v)))
 else (
 (idx i n).bind fun p =>
 (forS (mGuideNetCount_1_L2113 i c k l j d a m n p (mGuideNetCount_1 N)) p.Late.length 0 (e, f, g, h)).bind (unc4 fun w x y z =>
 some (w, x, y, z))))
 else (
 (chk (f + a)).bind fun _ =>
 (forM (mGuideNetCount_1_L2501 c k l h a e f g m) c.length 0 ()).bind fun t => Sum.elim (fun _ =>
 (chk (e + a)).bind fun _ =>
 (chk ((c.length : Int) - 1)).bind fun _ =>
 (idx c ((c.length : Int) - 1)).bind fun A =>
 (some (mgetD h A.Train 0)).bind fun o =>
 (chk (a * o)).bind fun _ =>
 (chk (g + (a * o))).bind fun _ =>
 some (e + a, f + a, g + (a * o), h)) (fun q => some q) t)

noncomputable def mGuideNetCount_L124 (d : GuideJourney) (e : Nat) : ((List Int)) → Option ((List Int)) := fun a =>
 (idx d.Rides (e : Int)).bind fun c =>
 (mSlicesContains a c.Train).bind fun f =>
 if f = true then (
 some a)
 else (
 (room 8 (a.length + 1)).bind fun _ =>
 some (a ++ [c.Train]))

noncomputable def mGuideNetCount (a : GuideNet) (c : GuideJourney) (d : List GuideOdds) : Option (Int × Int × Int) :=
 (forS (mGuideNetCount_L124 c) c.Rides.length 0 ([] : List Int)).bind (fun e =>
 (lim (fun N => mGuideNetCount_1 N 0 1 d 0 0 0 c.Rides a.Day.Trains a.Day.Turns a.least e ([] : List (Int × Int)))).bind (unc4 fun f g h _ =>
 some (f, g, h)))

noncomputable def mGuideSurest_1 (c : List GuideRide) (d : GuideCases) (a : List GuideRide) (j k _ : Int) (e : List ApiTrain) (f : List (List Int)) (g : Int) : Option (Int) :=
 if a.isEmpty = true then (
 some 1)
 else (
 ((chk ((c.length : Int) - 1)).bind fun _ =>
 (idx c ((c.length : Int) - 1)).bind fun h =>
 (chk ((a.length : Int) - 1)).bind fun _ =>
 (idx a ((a.length : Int) - 1)).bind fun i =>
 some (h.Train, h.On, h.Off, i.Train, i.On, i.Off)).bind (unc6 fun l m n o p q =>
 ((chk (d.holds * k)).bind fun _ =>
 (chk (j * d.all)).bind fun _ =>
 (mCmpCompare (d.holds * k) (j * d.all)).bind fun r =>
 (mGuideNetOff (⟨(⟨e, f⟩ : ApiDay), g⟩ : GuideNet) (⟨o, p, q⟩ : GuideRide)).bind (unc4 fun _ _ s _ =>
 (mGuideNetOff (⟨(⟨e, f⟩ : ApiDay), g⟩ : GuideNet) (⟨l, m, n⟩ : GuideRide)).bind (unc4 fun _ _ t _ =>
 (mCmpCompare s t).bind fun u =>
 (mCmpCompare (a.length : Int) (c.length : Int)).bind fun v =>
 (idx c 0).bind fun w =>
 (mGuideNetOn (⟨(⟨e, f⟩ : ApiDay), g⟩ : GuideNet) w).bind (unc4 fun _ _ _ x =>
 (idx a 0).bind fun y =>
 (mGuideNetOn (⟨(⟨e, f⟩ : ApiDay), g⟩ : GuideNet) y).bind (unc4 fun _ _ _ z =>
 (mCmpCompare x z).bind fun A =>
 (mCmpOr [r, u, v, A]).bind fun B =>
 some B))))).bind (fun C =>
 some C)))

noncomputable def mGuideSurest_2_L829 (c : List GuideRide) (d : List ApiTrain) (e : List (List Int)) (f : List GuideOdds) (g h i : Int) (rcmGuideSurest_2 : ((List GuideRide)) → ((List ApiTrain)) → ((List (List Int))) → (Int) → (Int) → ((List GuideOdds)) → ((List GuideRide)) → (Int) → (Int) → (Int) → (Int) → Option ((List GuideRide) × Int × Int × Int)) (j : GuideRide) : ((List GuideRide) × Int × Int × Int) → Option (((List GuideRide) × Int × Int × Int) ⊕ ((List GuideRide) × Int × Int × Int)) := unc4 fun k l m n =>
 (mSlicesClone c).bind fun a =>
 (room 24 (a.length + 1)).bind fun _ =>
 (rcmGuideSurest_2 (a ++ [j]) d e g h f k l m n i).bind (unc4 fun o p q r =>
 some (.inl (o, p, q, r)))

noncomputable def mGuideSurest_2 : Nat → ((List GuideRide)) → ((List ApiTrain)) → ((List (List Int))) → (Int) → (Int) → ((List GuideOdds)) → ((List GuideRide)) → (Int) → (Int) → (Int) → (Int) → Option ((List GuideRide) × Int × Int × Int)
 | 0 => fun _ _ _ _ _ _ _ _ _ _ _ => none
 | N + 1 => fun a c d e m n h f g i o =>
 (chk ((a.length : Int) - 1)).bind fun _ =>
 (idx a ((a.length : Int) - 1)).bind fun l =>
 (mGuideNetOff (⟨(⟨c, d⟩ : ApiDay), e⟩ : GuideNet) l).bind (unc4 fun _ _ w _ =>
 if m < w then (
 some (h, f, g, i))
 else (
 (mGuideNetCount (⟨(⟨c, d⟩ : ApiDay), e⟩ : GuideNet) (⟨a⟩ : GuideJourney) n).bind (unc3 fun j k p =>
 (if h.isEmpty = true then (
 some false)
 else (
 (chk (j * g)).bind fun _ =>
 (chk (f * k)).bind fun _ =>
 some (decide ((j * g) < (f * k))))).bind (fun x =>
 if x = true then (
 some (h, f, g, i))
 else (
 (((mGuideNetOff (⟨(⟨c, d⟩ : ApiDay), e⟩ : GuideNet) l).bind (unc4 fun y _ _ _ =>
 if y = o then (
 (mGuideSurest_1 a (⟨j, k, p⟩ : GuideCases) h f g i c d e).bind fun z =>
 some (decide (0 < z)))
 else (
 some false))).bind (fun A =>
 if A = true then (
 some (a, j, k, p))
 else (
 some (h, f, g, i)))).bind (unc4 fun r s u v =>
 if (a.length : Int) = 4 then (
 some (r, s, u, v))
 else (
 (mGuideNetBehind (⟨(⟨c, d⟩ : ApiDay), e⟩ : GuideNet) l).bind fun B =>
 (forL (mGuideSurest_2_L829 a c d n e m o (mGuideSurest_2 N)) B (r, s, u, v)).bind fun t => Sum.elim (unc4 fun C D E F =>
 some (C, D, E, F)) (fun q => some q) t)))))))

noncomputable def mGuideSurest_L162 (a : ApiDay) (c : List GuideOdds) (d e f : Int) (g : GuideRide) : ((List GuideRide) × Int × Int × Int) → Option (((List GuideRide) × Int × Int × Int) ⊕ ((List GuideRide) × Int)) := unc4 fun h i j k =>
 (lim (fun N => mGuideSurest_2 N [g] a.Trains a.Turns f e c h i j k d)).bind (unc4 fun l m n o =>
 some (.inl (l, m, n, o)))

noncomputable def mGuideSurest (a : ApiDay) (d e f g c : Int) (h : List GuideOdds) : Option ((List GuideRide) × Int) :=
 (mGuideCheck_2 a c d f [e, g]).bind fun i =>
 if i ≠ 0 then (
 some ([], i))
 else (
 (mGuideCheckOdds a h).bind fun j =>
 if j ≠ 0 then (
 some ([], j))
 else (
 (mGuideNetRides (⟨a, c⟩ : GuideNet) d e (-1)).bind fun l =>
 (forL (mGuideSurest_L162 a h f g c) l (([], 0, 0, 0) : (List GuideRide) × Int × Int × Int)).bind fun t => Sum.elim (unc4 fun k _ _ _ =>
 if k.isEmpty = true then (
 some ([], 9))
 else (
 some (k, 0))) (fun q => some q) t))

noncomputable def mGuideCheckOften (a : ApiDay) (f : GuideJourney) (c : Int) (g : List GuideOdds) : Option (Int) :=
 (mGuideCheckLeast a c).bind fun d =>
 if d ≠ 0 then (
 some d)
 else (
 (mGuideNetJourney (⟨a, c⟩ : GuideNet) f false).bind fun e =>
 if e ≠ 0 then (
 some e)
 else (
 (mGuideCheckOdds a g).bind fun h =>
 some h))

noncomputable def mGuideLowest_L69  : (Int × Int) → Option ((Int × Int) ⊕ (Int)) := unc2 fun c a =>
 if 0 < a then (
 (ne0 a).bind fun _ =>
 some (.inl (a, Int.tmod c a)))
 else (
 some (.inr c))

noncomputable def mGuideLowest (c d : Int) : Option (Int × Int) :=
 (loopM mGuideLowest_L69 (c, d)).bind (fun a =>
 (ne0 a).bind fun _ =>
 (chk (Int.tdiv c a)).bind fun _ =>
 (ne0 a).bind fun _ =>
 (chk (Int.tdiv d a)).bind fun _ =>
 some (Int.tdiv c a, Int.tdiv d a))

noncomputable def mGuideChance (a : ApiDay) (c : GuideJourney) (d : Int) (e : List GuideOdds) : Option (Int × Int × Int) :=
 (mGuideCheckOften a c d e).bind fun f =>
 if f ≠ 0 then (
 some (0, 0, f))
 else (
 (mGuideNetCount (⟨a, d⟩ : GuideNet) c e).bind (unc3 fun g h _ =>
 (mGuideLowest g h).bind (unc2 fun i j =>
 some (i, j, 0))))

noncomputable def mGuideAll_1_L2200 (q : List GuideRide) (f : List ApiTrain) (g : List (List Int)) (j h k : Int) (rcmGuideAll_1 : ((List GuideRide)) → ((List GuideRide)) → (Int) → ((List ApiTrain)) → ((List (List Int))) → (Int) → (Int) → ((List GuideJourney)) → ((List ((List Int) × Bool))) → Option (Bool × (List GuideJourney) × (List ((List Int) × Bool)))) (a : GuideRide) : (Bool × (List GuideJourney) × (List ((List Int) × Bool))) → Option ((Bool × (List GuideJourney) × (List ((List Int) × Bool))) ⊕ (Bool × (List GuideJourney) × (List ((List Int) × Bool)))) := unc3 fun r c d =>
 if (c.length : Int) = j then (
 some (.inr (true, c, d)))
 else (
 ((mSlicesClone q).bind fun l =>
 (room 24 (l.length + 1)).bind fun _ =>
 some (l ++ [a])).bind (fun i =>
 ((mGuideNetOff (⟨(⟨f, g⟩ : ApiDay), h⟩ : GuideNet) a).bind (unc4 fun s _ _ _ =>
 if s = k then (
 (room 24 (c.length + 1)).bind fun _ =>
 some (i, true, c ++ [(⟨i⟩ : GuideJourney)]))
 else (
 some (i, r, c)))).bind (unc3 fun e m n =>
 (if (e.length : Int) = 4 then (
 some true)
 else (
 (some (mgetD d [a.Train, a.Off, (e.length : Int)] false)).bind fun t =>
 some t)).bind (fun u =>
 if u = true then (
 some (.inl (m, n, d)))
 else (
 ((mGuideNetBehind (⟨(⟨f, g⟩ : ApiDay), h⟩ : GuideNet) a).bind fun v =>
 (rcmGuideAll_1 e v j f g h k n d).bind (unc3 fun w x y =>
 some (w, x, y))).bind (unc3 fun z o p =>
 if z = true then (
 some (.inl (true, o, p)))
 else (
 some (.inl (m, o, mput p [a.Train, a.Off, (e.length : Int)] true)))))))))

noncomputable def mGuideAll_1 : Nat → ((List GuideRide)) → ((List GuideRide)) → (Int) → ((List ApiTrain)) → ((List (List Int))) → (Int) → (Int) → ((List GuideJourney)) → ((List ((List Int) × Bool))) → Option (Bool × (List GuideJourney) × (List ((List Int) × Bool)))
 | 0 => fun _ _ _ _ _ _ _ _ _ => none
 | N + 1 => fun a c d e f g h i j =>
 (forL (mGuideAll_1_L2200 a e f d g h (mGuideAll_1 N)) c (false, i, j)).bind fun t => Sum.elim (unc3 fun k l m =>
 some (k, l, m)) (fun q => some q) t

noncomputable def mGuideAll (a : ApiDay) (d e c f : Int) : Option (Int × (List GuideJourney)) :=
 (mGuideCheck_2 a c d e []).bind fun g =>
 if g ≠ 0 then (
 some (g, []))
 else (
 (mGuideWithin f 0 200).bind fun h =>
 if h = true then (
 ((mGuideNetRides (⟨a, c⟩ : GuideNet) d 0 (-1)).bind fun i =>
 (lim (fun N => mGuideAll_1 N [] i f a.Trains a.Turns c e [] ([] : List ((List Int) × Bool)))).bind (unc3 fun _ j _ =>
 some j)).bind (fun k =>
 some (0, k)))
 else (
 some (2, [])))

noncomputable def mFishref2Within (a c d : Int) : Option (Bool) :=
 (if c ≤ a then (
 some (decide (a ≤ d)))
 else (
 some false)).bind (fun e =>
 some e)

noncomputable def mFishref2JourneyFault_L599 (f : ApiDay) (h : GuideJourney) (i : Int) (k : Bool) (c : Nat) : (Unit) → Option ((Unit) ⊕ (Int)) := fun _ =>
 (idx h.Rides (c : Int)).bind fun a =>
 (if a.Train < 0 then (
 some true)
 else (
 some (decide ((f.Trains.length : Int) ≤ a.Train)))).bind (fun l =>
 if l = true then (
 some (.inr 3))
 else (
 (idx f.Trains a.Train).bind fun d =>
 (if a.On < 0 then (
 some true)
 else (
 if (d.Stops.length : Int) ≤ a.On then (
 some true)
 else (
 if a.Off < 0 then (
 some true)
 else (
 some (decide ((d.Stops.length : Int) ≤ a.Off)))))).bind (fun m =>
 if m = true then (
 some (.inr 3))
 else (
 if a.Off ≤ a.On then (
 some (.inr 1))
 else (
 if (c : Int) = 0 then (
 some (.inl ()))
 else (
 (chk ((c : Int) - 1)).bind fun _ =>
 (idx h.Rides ((c : Int) - 1)).bind fun g =>
 ((idx f.Trains g.Train).bind fun n =>
 (idx n.Stops g.Off).bind fun e =>
 some (e.Station, e.Track, e.Arr, e.Dep)).bind (unc4 fun o _ j _ =>
 (if g.Train = a.Train then (
 some true)
 else (
 (idx d.Stops a.On).bind fun p =>
 some (decide (p.Station ≠ o)))).bind (fun q =>
 if q = true then (
 some (.inr 1))
 else (
 (if k = true then (
 (idx d.Stops a.On).bind fun r =>
 (chk (j + i)).bind fun _ =>
 some (decide (r.Dep < (j + i))))
 else (
 some false)).bind (fun s =>
 if s = true then (
 some (.inr 13))
 else (
 some (.inl ()))))))))))))

noncomputable def mFishref2JourneyFault (d : ApiDay) (a : GuideJourney) (c : Int) (e : Bool) : Option (Int) :=
 (mFishref2Within c 0 28800).bind fun f =>
 if f = true then (
 (mFishref2Within (a.Rides.length : Int) 1 4).bind fun g =>
 if g = true then (
 (forM (mFishref2JourneyFault_L599 d a c e) a.Rides.length 0 ()).bind fun t => Sum.elim (fun _ =>
 some 0) (fun q => some q) t)
 else (
 some 4))
 else (
 some 2)

noncomputable def mFishref2Leaves (c : ApiDay) (d : GuideJourney) : Option (Int) :=
 (idx d.Rides 0).bind fun a =>
 (idx c.Trains a.Train).bind fun e =>
 (idx e.Stops a.On).bind fun f =>
 some f.Dep

noncomputable def mFishref2Arrives (d : ApiDay) (a : GuideJourney) : Option (Int) :=
 (chk ((a.Rides.length : Int) - 1)).bind fun _ =>
 (idx a.Rides ((a.Rides.length : Int) - 1)).bind fun c =>
 (idx d.Trains c.Train).bind fun e =>
 (idx e.Stops c.Off).bind fun f =>
 some f.Arr

noncomputable def mFishkeep2GuideSure_L261 (a : ApiDay) (i : Int) (j : List GuideOdds) (k d : Int) (l : List GuideJourney) (e f : Int) (m : Nat) : (Unit) → Option ((Unit) ⊕ (Bool)) := fun _ =>
 (idx l (m : Int)).bind fun c =>
 (mFishref2JourneyFault a c d true).bind fun n =>
 if n ≠ 0 then (
 some (.inr false))
 else (
 ((mFishref2Leaves a c).bind fun o =>
 if o < i then (
 some true)
 else (
 (mFishref2Arrives a c).bind fun p =>
 some (decide (k < p)))).bind (fun q =>
 if q = true then (
 some (.inl ()))
 else (
 (mGuideChance a c d j).bind (unc3 fun g h r =>
 (if r ≠ 0 then (
 some true)
 else (
 (chk (g * f)).bind fun _ =>
 (chk (e * h)).bind fun _ =>
 some (decide ((e * h) < (g * f))))).bind (fun s =>
 if s = true then (
 some (.inr false))
 else (
 some (.inl ())))))))

noncomputable def mFishkeep2GuideSure (a : ApiDay) (h i j k c : Int) (e : List GuideOdds) : Option (Bool) :=
 (mFishkeep2AwakeGuide).bind fun m =>
 if m = true then (
 (mFishkeep2Guides).bind fun n =>
 if n = true then (
 (mGuideSurest a h i j k c e).bind (unc2 fun d o =>
 if o ≠ 0 then (
 some (decide ((d.length : Int) = 0)))
 else (
 (mGuideChance a (⟨d⟩ : GuideJourney) c e).bind (unc3 fun f g p =>
 (if p ≠ 0 then (
 some true)
 else (
 if g < 1 then (
 some true)
 else (
 if f < 0 then (
 some true)
 else (
 if g < f then (
 some true)
 else (
 (mGuideCheckJourney a (⟨d⟩ : GuideJourney) c).bind fun r =>
 some (decide (r ≠ 0))))))).bind (fun s =>
 if s = true then (
 some false)
 else (
 (mGuideChance a (⟨d⟩ : GuideJourney) c []).bind (unc3 fun u v w =>
 (if w ≠ 0 then (
 some true)
 else (
 if u ≠ 1 then (
 some true)
 else (
 some (decide (v ≠ 1))))).bind (fun x =>
 if x = true then (
 some false)
 else (
 (mGuideAll a h j c 200).bind (unc2 fun y l =>
 if y ≠ 0 then (
 some false)
 else (
 (forM (mFishkeep2GuideSure_L261 a i e k c l f g) l.length 0 ()).bind fun t => Sum.elim (fun _ =>
 some true) (fun q => some q) t)))))))))))
 else (
 some false))
 else (
 some false)

end Go.Proofs.YtckgfeglhjiflaaDoor
