/- The models of the functions, as the extractor printed them. -/
import Derived.Test.YtckgfeglhjiflaaDoorXI
import Derived.Test.YtckgfeglhjiflaaDoorXL
import Derived.Test.YtckgfeglhjiflaaDoorXS
import Derived.Test.YtckgfeglhjiflaaDoorXZ
import Derived.Test.YtckgfeglhjiflaaDoorX0
set_option linter.unusedVariables false
set_option linter.unusedSimpArgs false
namespace Go.Proofs.YtckgfeglhjiflaaDoor
open Go.RowKit Go.Fp

structure ApiStop where
  Station : Int
  Track : Int
  Arr : Int
  Dep : Int
  deriving DecidableEq
def rApiStop : RT ApiStop := (RT.cat (RT.on (RT.int .i64) ApiStop.Station) (RT.cat (RT.on (RT.int .i64) ApiStop.Track) (RT.cat (RT.on (RT.int .i64) ApiStop.Arr) (RT.on (RT.int .i64) ApiStop.Dep))))
structure ApiTrain where
  No : Int
  Stock : Int
  Stops : (List ApiStop)
  Legs : (List (List Int))
def rApiTrain : RT ApiTrain := (RT.cat (RT.on (RT.int .i64) ApiTrain.No) (RT.cat (RT.on (RT.int .i64) ApiTrain.Stock) (RT.cat (RT.on (RT.list rApiStop) ApiTrain.Stops) (RT.on (RT.list (RT.list (RT.int .i64))) ApiTrain.Legs))))
structure ApiDay where
  Trains : (List ApiTrain)
  Turns : (List (List Int))
def rApiDay : RT ApiDay := (RT.cat (RT.on (RT.list rApiTrain) ApiDay.Trains) (RT.on (RT.list (RT.list (RT.int .i64))) ApiDay.Turns))
structure GuideRide where
  Train : Int
  On : Int
  Off : Int
  deriving DecidableEq
def rGuideRide : RT GuideRide := (RT.cat (RT.on (RT.int .i64) GuideRide.Train) (RT.cat (RT.on (RT.int .i64) GuideRide.On) (RT.on (RT.int .i64) GuideRide.Off)))
structure GuideJourney where
  Rides : (List GuideRide)
def rGuideJourney : RT GuideJourney := (RT.on (RT.list rGuideRide) GuideJourney.Rides)
structure GuideNet where
  Day : ApiDay
  least : Int
def rGuideNet : RT GuideNet := (RT.cat (RT.on rApiDay GuideNet.Day) (RT.on (RT.int .i64) GuideNet.least))
structure GuidePoint where
  Dep : Int
  Arr : Int
  Rides : Int
  deriving DecidableEq
def rGuidePoint : RT GuidePoint := (RT.cat (RT.on (RT.int .i64) GuidePoint.Dep) (RT.cat (RT.on (RT.int .i64) GuidePoint.Arr) (RT.on (RT.int .i64) GuidePoint.Rides)))
structure GuidePlace where
  train : Int
  off : Int
  deriving DecidableEq
def rGuidePlace : RT GuidePlace := (RT.cat (RT.on (RT.int .i64) GuidePlace.train) (RT.on (RT.int .i64) GuidePlace.off))
def kGuidePoint (x : GuidePoint) : List Int := [x.Dep, x.Arr, x.Rides]

noncomputable def mPlanForm_L460 (a : ApiTrain) (c : Nat) : (Unit) → Option ((Unit) ⊕ ((Unit) ⊕ (Int))) := fun _ =>
 (idx a.Legs (c : Int)).bind fun d =>
 if 4 < (d.length : Int) then (
 some (.inr (.inr 4)))
 else (
 some (.inl ()))

noncomputable def mPlanForm_L419 (a : ApiTrain) (c : Nat) : (Unit) → Option ((Unit) ⊕ ((Unit) ⊕ (Int))) := fun _ =>
 (idx a.Legs (c : Int)).bind fun d =>
 if (d.length : Int) = 0 then (
 some (.inr (.inr 1)))
 else (
 some (.inl ()))

noncomputable def mPlanForm_L500 (c : ApiDay) (d : Nat) : (Unit) → Option ((Unit) ⊕ (Int)) := fun _ =>
 (idx c.Turns (d : Int)).bind fun a =>
 if (a.length : Int) = 0 then (
 some (.inr 1))
 else (
 if 12 < (a.length : Int) then (
 some (.inr 4))
 else (
 some (.inl ())))

noncomputable def mPlanForm_L283 (c : ApiDay) (d : Nat) : (Unit) → Option ((Unit) ⊕ (Int)) := fun _ =>
 (idx c.Trains (d : Int)).bind fun a =>
 (if (a.Stops.length : Int) = 0 then (
 some true)
 else (
 (chk ((a.Stops.length : Int) - 1)).bind fun _ =>
 some (decide ((a.Legs.length : Int) ≠ ((a.Stops.length : Int) - 1))))).bind (fun e =>
 if e = true then (
 some (.inr 1))
 else (
 (forM (mPlanForm_L419 a) a.Legs.length 0 ()).bind fun t => Sum.elim (fun _ =>
 if 8 < (a.Stops.length : Int) then (
 some (.inr 4))
 else (
 (forM (mPlanForm_L460 a) a.Legs.length 0 ()).bind fun t => Sum.elim (fun _ =>
 some (.inl ())) (fun q => some q) t)) (fun q => some q) t))

noncomputable def mPlanForm (a : ApiDay) : Option (Int) :=
 (if 12 < (a.Trains.length : Int) then (
 some true)
 else (
 some (decide (8 < (a.Turns.length : Int))))).bind (fun c =>
 if c = true then (
 some 4)
 else (
 (forM (mPlanForm_L283 a) a.Trains.length 0 ()).bind fun t => Sum.elim (fun _ =>
 (forM (mPlanForm_L500 a) a.Turns.length 0 ()).bind fun t => Sum.elim (fun _ =>
 some 0) (fun q => some q) t) (fun q => some q) t))

noncomputable def mPlanWithin (a c d : Int) : Option (Bool) :=
 (if c ≤ a then (
 some (decide (a ≤ d)))
 else (
 some false)).bind (fun e =>
 some e)

noncomputable def mStrconvItoa (a : Int) : Option (ByteArray) :=
 itoaM a

noncomputable def mPlanSentence_L66 (a : List Int) (c : Nat) : (ByteArray) → Option (ByteArray) := fun d =>
 (idx a (c : Int)).bind fun e =>
 (mStrconvItoa e).bind fun f =>
 (sAdd (ByteArray.mk #[32]) f).bind fun g =>
 (sAdd d g).bind fun h =>
 some h

noncomputable def mPlanSentence (c : ByteArray) (a : List Int) : Option (ByteArray) :=
 (forS (mPlanSentence_L66 a) a.length 0 c).bind (fun d =>
 (sAdd d (ByteArray.mk #[10])).bind fun e =>
 some e)

noncomputable def mStringsBuilderWriteString (a c : ByteArray) : Option (Int × ByteArray) :=
 bWrite c a

noncomputable def mPlanText_1_L96 (a : List Int) (c : Nat) : (Bool) → Option (Bool) := fun d =>
 (idx a (c : Int)).bind fun e =>
 if d = true then (
 (mPlanWithin e 0 999999).bind fun f =>
 some f)
 else (
 some false)

noncomputable def mPlanText_1 (c : ByteArray) (d : Bool) (a : List Int) (e : ByteArray) : Option (Bool × ByteArray) :=
 (forS (mPlanText_1_L96 a) a.length 0 d).bind (fun f =>
 (mPlanSentence c a).bind fun g =>
 (mStringsBuilderWriteString g e).bind (unc2 fun _ h =>
 some (f, h)))

noncomputable def mPlanText_1_2_L75 (a : List Int) (c : Nat) : (Bool) → Option (Bool) := fun d =>
 (idx a (c : Int)).bind fun e =>
 if d = true then (
 (mPlanWithin e 0 999999).bind fun f =>
 some f)
 else (
 some false)

noncomputable def mPlanText_1_2 (c : ByteArray) (a : List Int) (d : Bool) (e : ByteArray) : Option (Bool × ByteArray) :=
 (forS (mPlanText_1_2_L75 a) a.length 0 d).bind (fun f =>
 (mPlanSentence c a).bind fun g =>
 (mStringsBuilderWriteString g e).bind (unc2 fun _ h =>
 some (f, h)))

noncomputable def mStringsBuilderString (a : ByteArray) : Option (ByteArray) :=
 some a

noncomputable def mPlanText_L1169 (a : ApiTrain) (c : Nat) : (Bool × ByteArray) → Option (Bool × ByteArray) := unc2 fun d e =>
 (idx a.Legs (c : Int)).bind fun f =>
 (mPlanText_1_2 (ByteArray.mk #[108, 101, 103]) f d e).bind (unc2 fun g h =>
 some (g, h))

noncomputable def mPlanText_L1089 (c : ApiTrain) (d : Nat) : (Bool × ByteArray) → Option (Bool × ByteArray) := unc2 fun e f =>
 (idx c.Stops (d : Int)).bind fun a =>
 (mPlanText_1 (ByteArray.mk #[115, 116, 111, 112]) e [a.Station, a.Track, a.Arr, a.Dep] f).bind (unc2 fun g h =>
 some (g, h))

noncomputable def mPlanText_L1246 (a : ApiDay) (c : Nat) : (Bool × ByteArray) → Option (Bool × ByteArray) := unc2 fun d e =>
 (idx a.Turns (c : Int)).bind fun f =>
 (mPlanText_1_2 (ByteArray.mk #[116, 117, 114, 110]) f d e).bind (unc2 fun g h =>
 some (g, h))

noncomputable def mPlanText_L677 (c : ApiDay) (d : Nat) : (Bool × ByteArray) → Option (Bool × ByteArray) := unc2 fun e f =>
 (idx c.Trains (d : Int)).bind fun a =>
 (mPlanText_1 (ByteArray.mk #[116, 114, 97, 105, 110]) e [a.No, a.Stock] f).bind (unc2 fun g h =>
 (forS (mPlanText_L1089 a) a.Stops.length 0 (g, h)).bind (unc2 fun i j =>
 (forS (mPlanText_L1169 a) a.Legs.length 0 (i, j)).bind (unc2 fun k l =>
 some (k, l))))

noncomputable def mPlanText (a : ApiDay) : Option (ByteArray × Int) :=
 (mPlanForm a).bind fun c =>
 if c ≠ 0 then (
 some ((ByteArray.mk #[]), c))
 else (
 (forS (mPlanText_L677 a) a.Trains.length 0 (true, ByteArray.empty)).bind (unc2 fun d e =>
 (forS (mPlanText_L1246 a) a.Turns.length 0 (d, e)).bind (unc2 fun f g =>
 if f = true then (
 (mStringsBuilderString g).bind fun h =>
 some (h, 0))
 else (
 some ((ByteArray.mk #[]), 2)))))

noncomputable def mGuideWithin (a c d : Int) : Option (Bool) :=
 (if c ≤ a then (
 some (decide (a ≤ d)))
 else (
 some false)).bind (fun e =>
 some e)

noncomputable def mGuideCheck_L1189 (d : ApiTrain) (c : Nat) : (Unit) → Option ((Unit) ⊕ (((List (Int × Bool))) ⊕ (Int))) := fun _ =>
 (idx d.Stops (c : Int)).bind fun a =>
 ((mGuideWithin a.Station 0 11).bind fun e =>
 if e = true then (
 (mGuideWithin a.Arr 0 28800).bind fun f =>
 if f = true then (
 (mGuideWithin a.Dep 0 28800).bind fun g =>
 some (!g))
 else (
 some true))
 else (
 some true)).bind (fun h =>
 if h = true then (
 some (.inr (.inr 2)))
 else (
 (if a.Dep < a.Arr then (
 some true)
 else (
 if 0 < (c : Int) then (
 (chk ((c : Int) - 1)).bind fun _ =>
 (idx d.Stops ((c : Int) - 1)).bind fun i =>
 some (decide (a.Arr ≤ i.Dep)))
 else (
 some false))).bind (fun j =>
 if j = true then (
 some (.inr (.inr 5)))
 else (
 some (.inl ())))))

noncomputable def mGuideCheck_L703 (d : ApiDay) (e : Nat) : ((List (Int × Bool))) → Option (((List (Int × Bool))) ⊕ (Int)) := fun c =>
 (idx d.Trains (e : Int)).bind fun a =>
 (mGuideWithin a.No 1 9999).bind fun f =>
 if f = true then (
 (some (mgetD c a.No false)).bind fun g =>
 if g = true then (
 some (.inr 6))
 else (
 if (a.Stops.length : Int) < 2 then (
 some (.inr 1))
 else (
 (forM (mGuideCheck_L1189 a) a.Stops.length 0 ()).bind fun t => Sum.elim (fun _ =>
 some (.inl (mput c a.No true))) (fun q => some q) t)))
 else (
 some (.inr 2))

noncomputable def mGuideCheck (a : ApiDay) : Option (Int) :=
 (mPlanText a).bind (unc2 fun _ c =>
 if c ≠ 0 then (
 some c)
 else (
 (forM (mGuideCheck_L703 a) a.Trains.length 0 (([] : List (Int × Bool)) : List (Int × Bool))).bind fun t => Sum.elim (fun _ =>
 some 0) (fun q => some q) t))

noncomputable def mGuideCheckLeast (c : ApiDay) (d : Int) : Option (Int) :=
 (mGuideCheck c).bind fun a =>
 if a ≠ 0 then (
 some a)
 else (
 (mGuideWithin d 0 28800).bind fun e =>
 if e = true then (
 some 0)
 else (
 some 2))

noncomputable def mGuideNetOn (d : GuideNet) (c : GuideRide) : Option (Int × Int × Int × Int) :=
 (idx d.Day.Trains c.Train).bind fun e =>
 (idx e.Stops c.On).bind fun a =>
 some (a.Station, a.Track, a.Arr, a.Dep)

noncomputable def mGuideNetOff (d : GuideNet) (c : GuideRide) : Option (Int × Int × Int × Int) :=
 (idx d.Day.Trains c.Train).bind fun e =>
 (idx e.Stops c.Off).bind fun a =>
 some (a.Station, a.Track, a.Arr, a.Dep)

noncomputable def mGuideNetJourney_L428 (a : GuideNet) (g : GuideJourney) (i : Bool) (d : Nat) : (Unit) → Option ((Unit) ⊕ (Int)) := fun _ =>
 (idx g.Rides (d : Int)).bind fun c =>
 (chk ((a.Day.Trains.length : Int) - 1)).bind fun _ =>
 (mGuideWithin c.Train 0 ((a.Day.Trains.length : Int) - 1)).bind fun j =>
 if j = true then (
 (idx a.Day.Trains c.Train).bind fun e =>
 (chk ((e.Stops.length : Int) - 1)).bind fun _ =>
 ((mGuideWithin c.On 0 ((e.Stops.length : Int) - 1)).bind fun k =>
 if k = true then (
 (mGuideWithin c.Off 0 ((e.Stops.length : Int) - 1)).bind fun l =>
 some (!l))
 else (
 some true)).bind (fun m =>
 if m = true then (
 some (.inr 3))
 else (
 if c.Off ≤ c.On then (
 some (.inr 1))
 else (
 if (d : Int) = 0 then (
 some (.inl ()))
 else (
 (chk ((d : Int) - 1)).bind fun _ =>
 (idx g.Rides ((d : Int) - 1)).bind fun f =>
 (if c.Train = f.Train then (
 some true)
 else (
 (mGuideNetOn a c).bind (unc4 fun n _ _ _ =>
 (mGuideNetOff a f).bind (unc4 fun o _ _ _ =>
 some (decide (n ≠ o)))))).bind (fun p =>
 if p = true then (
 some (.inr 1))
 else (
 (if i = true then (
 (mGuideNetOn a c).bind (unc4 fun _ _ _ q =>
 (mGuideNetOff a f).bind (unc4 fun _ _ h _ =>
 (chk (h + a.least)).bind fun _ =>
 some (decide (q < (h + a.least))))))
 else (
 some false)).bind (fun r =>
 if r = true then (
 some (.inr 13))
 else (
 some (.inl ()))))))))))
 else (
 some (.inr 3))

noncomputable def mGuideNetJourney (c : GuideNet) (a : GuideJourney) (d : Bool) : Option (Int) :=
 (mGuideWithin (a.Rides.length : Int) 1 4).bind fun e =>
 if e = true then (
 (forM (mGuideNetJourney_L428 c a d) a.Rides.length 0 ()).bind fun t => Sum.elim (fun _ =>
 some 0) (fun q => some q) t)
 else (
 some 4)

noncomputable def mGuideCheckJourney (a : ApiDay) (e : GuideJourney) (c : Int) : Option (Int) :=
 (mGuideCheckLeast a c).bind fun d =>
 if d ≠ 0 then (
 some d)
 else (
 (mGuideNetJourney (⟨a, c⟩ : GuideNet) e true).bind fun f =>
 some f)

noncomputable def mFishkeep2AwakeGuide : Option (Bool) :=
 (mGuideCheckJourney (⟨[], []⟩ : ApiDay) (⟨[]⟩ : GuideJourney) (-1)).bind fun a =>
 some (decide (a ≠ 0))

noncomputable def mGuideCheck_2_L92 (a : List Int) (c : Nat) : (Unit) → Option ((Unit) ⊕ (Int)) := fun _ =>
 (idx a (c : Int)).bind fun d =>
 (mGuideWithin d 0 28800).bind fun e =>
 if e = true then (
 some (.inl ()))
 else (
 some (.inr 2))

noncomputable def mGuideCheck_2 (f : ApiDay) (g a c : Int) (d : List Int) : Option (Int) :=
 (mGuideCheckLeast f g).bind fun e =>
 if e ≠ 0 then (
 some e)
 else (
 ((mGuideWithin a 0 11).bind fun h =>
 if h = true then (
 (mGuideWithin c 0 11).bind fun i =>
 some (!i))
 else (
 some true)).bind (fun j =>
 if j = true then (
 some 3)
 else (
 if a = c then (
 some 1)
 else (
 (forM (mGuideCheck_2_L92 d) d.length 0 ()).bind fun t => Sum.elim (fun _ =>
 some 0) (fun q => some q) t))))

def offsG (t on n off : Nat) : List GuideRide := (List.range' off (n - off)).map fun (k : Nat) => ⟨(t : Int), (on : Int), (k : Int)⟩

def ridesS (t n : Nat) (sta at_ : Int) : List ApiStop → Nat → List GuideRide
  | [], _ => []
  | s :: r, on => (if s.Station ≠ sta ∨ s.Dep < at_ then [] else offsG t on n (on + 1)) ++ ridesS t n sta at_ r (on + 1)

def ridesL (sta at_ nt : Int) : List ApiTrain → Nat → List GuideRide
  | [], _ => []
  | x :: r, t => (if (t : Int) = nt then [] else ridesS t x.Stops.length sta at_ x.Stops 0) ++ ridesL sta at_ nt r (t + 1)

noncomputable def mGuideNetRides (a : GuideNet) (c d e : Int) : Option ((List GuideRide)) :=
 some (ridesL c d e a.Day.Trains 0)

noncomputable def mGuideNetBehind (a : GuideNet) (c : GuideRide) : Option ((List GuideRide)) :=
 (mGuideNetOff a c).bind (unc4 fun e _ d _ =>
 (chk (d + a.least)).bind fun _ =>
 (mGuideNetRides a e (d + a.least) c.Train).bind fun f =>
 some f)

noncomputable def mSlicesAppendSeq_L63 (c : GuideRide) : ((List GuideRide)) → Option (((List GuideRide)) ⊕ ((List GuideRide))) := fun a =>
 (room 24 (a.length + 1)).bind fun _ =>
 some (.inl (a ++ [c]))

noncomputable def mSlicesAppendSeq (a c : List GuideRide) : Option ((List GuideRide)) :=
 (forL mSlicesAppendSeq_L63 a c).bind fun t => Sum.elim (fun d =>
 some d) (fun q => some q) t

noncomputable def mGuideNetEnds_L1300 (e : GuideNet) (f : List GuideRide) (g : Nat) : ((List GuideRide) × (List (GuidePlace × Bool))) → Option ((List GuideRide) × (List (GuidePlace × Bool))) := unc2 fun d c =>
 (idx f (g : Int)).bind fun a =>
 (some (mgetD c (⟨a.Train, a.Off⟩ : GuidePlace) false)).bind fun h =>
 if h = true then (
 some (d, c))
 else (
 (mGuideNetBehind e a).bind fun i =>
 (mSlicesAppendSeq i d).bind fun j =>
 some (j, mput c (⟨a.Train, a.Off⟩ : GuidePlace) true))

noncomputable def mGuideNetEnds_L1115 (e : GuideNet) (f : List GuideRide) (g : Nat) : ((List GuideRide) × (List (GuidePlace × Bool))) → Option ((List GuideRide) × (List (GuidePlace × Bool))) := unc2 fun d c =>
 (idx f (g : Int)).bind fun a =>
 (some (mgetD c (⟨a.Train, a.Off⟩ : GuidePlace) false)).bind fun h =>
 if h = true then (
 some (d, c))
 else (
 (mGuideNetBehind e a).bind fun i =>
 (mSlicesAppendSeq i d).bind fun j =>
 some (j, mput c (⟨a.Train, a.Off⟩ : GuidePlace) true))

noncomputable def mGuideNetEnds_L930 (e : GuideNet) (f : List GuideRide) (g : Nat) : ((List GuideRide) × (List (GuidePlace × Bool))) → Option ((List GuideRide) × (List (GuidePlace × Bool))) := unc2 fun d c =>
 (idx f (g : Int)).bind fun a =>
 (some (mgetD c (⟨a.Train, a.Off⟩ : GuidePlace) false)).bind fun h =>
 if h = true then (
 some (d, c))
 else (
 (mGuideNetBehind e a).bind fun i =>
 (mSlicesAppendSeq i d).bind fun j =>
 some (j, mput c (⟨a.Train, a.Off⟩ : GuidePlace) true))

noncomputable def mGuideNetEnds_L763 (e : GuideNet) (f : List GuideRide) (g : Nat) : ((List GuideRide) × (List (GuidePlace × Bool))) → Option ((List GuideRide) × (List (GuidePlace × Bool))) := unc2 fun d c =>
 (idx f (g : Int)).bind fun a =>
 (some (mgetD c (⟨a.Train, a.Off⟩ : GuidePlace) false)).bind fun h =>
 if h = true then (
 some (d, c))
 else (
 (mGuideNetBehind e a).bind fun i =>
 (mSlicesAppendSeq i d).bind fun j =>
 some (j, mput c (⟨a.Train, a.Off⟩ : GuidePlace) true))

noncomputable def mGuideNetEnds (a : GuideNet) (c : List GuideRide) : Option ((List (GuidePlace × Bool)) × (List (GuidePlace × Bool)) × (List (GuidePlace × Bool)) × (List (GuidePlace × Bool))) :=
 (forS (mGuideNetEnds_L763 a c) c.length 0 (([], ([] : List (GuidePlace × Bool))) : (List GuideRide) × (List (GuidePlace × Bool)))).bind (unc2 fun d g =>
 (chk (0 + 1)).bind fun _ =>
 (forS (mGuideNetEnds_L930 a d) d.length 0 (([], ([] : List (GuidePlace × Bool))) : (List GuideRide) × (List (GuidePlace × Bool)))).bind (unc2 fun e h =>
 (chk (1 + 1)).bind fun _ =>
 (forS (mGuideNetEnds_L1115 a e) e.length 0 (([], ([] : List (GuidePlace × Bool))) : (List GuideRide) × (List (GuidePlace × Bool)))).bind (unc2 fun f i =>
 (chk (2 + 1)).bind fun _ =>
 (forS (mGuideNetEnds_L1300 a f) f.length 0 (([], ([] : List (GuidePlace × Bool))) : (List GuideRide) × (List (GuidePlace × Bool)))).bind (unc2 fun _ j =>
 (chk (3 + 1)).bind fun _ =>
 some (g, h, i, j)))))

noncomputable def mBitsLen64 (a : Int) : Option (Int) :=
 (if 4294967296 ≤ a then (
 (shN 32).bind fun _ =>
 some (shrI .u64 a 32, 32))
 else (
 some (a, 0))).bind (unc2 fun c d =>
 (if 65536 ≤ c then (
 (shN 16).bind fun _ =>
 (chk (d + 16)).bind fun _ =>
 some (shrI .u64 c 16, d + 16))
 else (
 some (c, d))).bind (unc2 fun e f =>
 (if 256 ≤ e then (
 (shN 8).bind fun _ =>
 (chk (f + 8)).bind fun _ =>
 some (shrI .u64 e 8, f + 8))
 else (
 some (e, f))).bind (unc2 fun i g =>
 (sIdx (ByteArray.mk (List.toArray (List.append (List.append ([0, 1, 2, 2, 3, 3, 3, 3, 4, 4, 4, 4, 4, 4, 4, 4, 5, 5, 5, 5, 5, 5, 5, 5, 5, 5, 5, 5, 5, 5, 5, 5, 6, 6, 6, 6, 6, 6, 6, 6, 6, 6, 6, 6, 6, 6, 6, 6, 6, 6, 6, 6, 6, 6, 6, 6, 6, 6, 6, 6, 6, 6, 6, 6] : List UInt8) ([7, 7, 7, 7, 7, 7, 7, 7, 7, 7, 7, 7, 7, 7, 7, 7, 7, 7, 7, 7, 7, 7, 7, 7, 7, 7, 7, 7, 7, 7, 7, 7, 7, 7, 7, 7, 7, 7, 7, 7, 7, 7, 7, 7, 7, 7, 7, 7, 7, 7, 7, 7, 7, 7, 7, 7, 7, 7, 7, 7, 7, 7, 7, 7] : List UInt8)) (List.append ([8, 8, 8, 8, 8, 8, 8, 8, 8, 8, 8, 8, 8, 8, 8, 8, 8, 8, 8, 8, 8, 8, 8, 8, 8, 8, 8, 8, 8, 8, 8, 8, 8, 8, 8, 8, 8, 8, 8, 8, 8, 8, 8, 8, 8, 8, 8, 8, 8, 8, 8, 8, 8, 8, 8, 8, 8, 8, 8, 8, 8, 8, 8, 8] : List UInt8) ([8, 8, 8, 8, 8, 8, 8, 8, 8, 8, 8, 8, 8, 8, 8, 8, 8, 8, 8, 8, 8, 8, 8, 8, 8, 8, 8, 8, 8, 8, 8, 8, 8, 8, 8, 8, 8, 8, 8, 8, 8, 8, 8, 8, 8, 8, 8, 8, 8, 8, 8, 8, 8, 8, 8, 8, 8, 8, 8, 8, 8, 8, 8, 8] : List UInt8))))) (IntKind.wrap .u8 i)).bind fun h =>
 (chk (g + (IntKind.wrap .i64 h))).bind fun _ =>
 some (g + (IntKind.wrap .i64 h)))))

noncomputable def mBitsLen (a : Int) : Option (Int) :=
 (mBitsLen64 a).bind fun c =>
 some c

noncomputable def mCmpIsNaN (a : Int) : Option (Bool) :=
 some (decide (a ≠ a))

noncomputable def mCmpCompare (a c : Int) : Option (Int) :=
 (mCmpIsNaN a).bind fun e =>
 (mCmpIsNaN c).bind fun d =>
 if e = true then (
 if d = true then (
 some 0)
 else (
 some (-1)))
 else (
 if d = true then (
 some 1)
 else (
 if a < c then (
 some (-1))
 else (
 if c < a then (
 some 1)
 else (
 some 0))))

noncomputable def mCmpOr_L38 (c : List Int) (d : Nat) : (Unit) → Option ((Unit) ⊕ (Int)) := fun _ =>
 (idx c (d : Int)).bind fun a =>
 if a ≠ 0 then (
 some (.inr a))
 else (
 some (.inl ()))

noncomputable def mCmpOr (a : List Int) : Option (Int) :=
 (forM (mCmpOr_L38 a) a.length 0 ()).bind fun t => Sum.elim (fun _ =>
 some 0) (fun q => some q) t

noncomputable def mGuideComparePoints (a c : GuidePoint) : Option (Int) :=
 ((mCmpCompare a.Dep c.Dep).bind fun d =>
 (mCmpCompare a.Arr c.Arr).bind fun e =>
 (mCmpCompare a.Rides c.Rides).bind fun f =>
 (mCmpOr [d, e, f]).bind fun g =>
 some g).bind (fun h =>
 some h)

noncomputable def mSlicesInsertionSortCmpFunc_L9840 (e : Int) : (Int × (List GuidePoint)) → Option ((Int × (List GuidePoint)) ⊕ ((List GuidePoint))) := unc2 fun a c =>
 (if e < a then (
 (idx c a).bind fun f =>
 (chk (a - 1)).bind fun _ =>
 (idx c (a - 1)).bind fun g =>
 (mGuideComparePoints f g).bind fun h =>
 some (decide (h < 0)))
 else (
 some false)).bind (fun i =>
 if i = true then (
 (chk (a - 1)).bind fun _ =>
 (chk (a - 1)).bind fun _ =>
 (idx c (a - 1)).bind fun d =>
 (idx c a).bind fun j =>
 (idx c a).bind fun _ =>
 (idx (put c a d) (a - 1)).bind fun _ =>
 (chk (a - 1)).bind fun _ =>
 some (.inl (a - 1, put (put c a d) (a - 1) j)))
 else (
 some (.inr c)))

noncomputable def mSlicesInsertionSortCmpFunc_L5371 (d e : Int) : (Int × (List GuidePoint)) → Option ((Int × (List GuidePoint)) ⊕ ((List GuidePoint))) := unc2 fun a c =>
 if a < e then (
 (loopM (mSlicesInsertionSortCmpFunc_L9840 d) (a, c)).bind (fun f =>
 (chk (a + 1)).bind fun _ =>
 some (.inl (a + 1, f))))
 else (
 some (.inr c))

noncomputable def mSlicesInsertionSortCmpFunc (a c : Int) (d : List GuidePoint) : Option ((List GuidePoint)) :=
 (chk (a + 1)).bind fun _ =>
 loopM (mSlicesInsertionSortCmpFunc_L5371 a c) (a + 1, d)

noncomputable def mSlicesSiftDownCmpFunc_L2130 (f c : Int) : (Int × (List GuidePoint)) → Option ((Int × (List GuidePoint)) ⊕ ((List GuidePoint))) := unc2 fun a d =>
 (chk (2 * a)).bind fun _ =>
 (chk ((2 * a) + 1)).bind fun _ =>
 if f ≤ ((2 * a) + 1) then (
 some (.inr d))
 else (
 (((chk (((2 * a) + 1) + 1)).bind fun _ =>
 if (((2 * a) + 1) + 1) < f then (
 (chk (c + ((2 * a) + 1))).bind fun _ =>
 (idx d (c + ((2 * a) + 1))).bind fun h =>
 (chk (c + ((2 * a) + 1))).bind fun _ =>
 (chk ((c + ((2 * a) + 1)) + 1)).bind fun _ =>
 (idx d ((c + ((2 * a) + 1)) + 1)).bind fun i =>
 (mGuideComparePoints h i).bind fun j =>
 some (decide (j < 0)))
 else (
 some false)).bind (fun k =>
 if k = true then (
 (chk (((2 * a) + 1) + 1)).bind fun _ =>
 some (((2 * a) + 1) + 1))
 else (
 some ((2 * a) + 1)))).bind (fun e =>
 (chk (c + a)).bind fun _ =>
 (idx d (c + a)).bind fun l =>
 (chk (c + e)).bind fun _ =>
 (idx d (c + e)).bind fun m =>
 (mGuideComparePoints l m).bind fun n =>
 if n < 0 then (
 ((chk (c + a)).bind fun _ =>
 (chk (c + e)).bind fun _ =>
 (chk (c + e)).bind fun _ =>
 (idx d (c + e)).bind fun g =>
 (chk (c + a)).bind fun _ =>
 (idx d (c + a)).bind fun o =>
 (idx d (c + a)).bind fun _ =>
 (idx (put d (c + a) g) (c + e)).bind fun _ =>
 some (put (put d (c + a) g) (c + e) o)).bind (fun p =>
 some (.inl (e, p))))
 else (
 some (.inr d))))

noncomputable def mSlicesSiftDownCmpFunc (a c d : Int) (e : List GuidePoint) : Option ((List GuidePoint)) :=
 loopM (mSlicesSiftDownCmpFunc_L2130 c d) (a, e)

noncomputable def mSlicesHeapSortCmpFunc_L1077 (c e : Int) : (Int × (List GuidePoint)) → Option ((Int × (List GuidePoint)) ⊕ ((List GuidePoint))) := unc2 fun a d =>
 if 0 ≤ a then (
 (mSlicesSiftDownCmpFunc a (e - c) c d).bind fun f =>
 (chk (a - 1)).bind fun _ =>
 some (.inl (a - 1, f)))
 else (
 some (.inr d))

noncomputable def mSlicesHeapSortCmpFunc_L1120 (a : Int) : (Int × (List GuidePoint)) → Option ((Int × (List GuidePoint)) ⊕ ((List GuidePoint))) := unc2 fun c d =>
 if 0 ≤ c then (
 ((chk (a + c)).bind fun _ =>
 (chk (a + c)).bind fun _ =>
 (idx d (a + c)).bind fun e =>
 (idx d a).bind fun f =>
 (idx d a).bind fun _ =>
 (idx (put d a e) (a + c)).bind fun _ =>
 some (put (put d a e) (a + c) f)).bind (fun g =>
 (mSlicesSiftDownCmpFunc 0 c a g).bind fun h =>
 (chk (c - 1)).bind fun _ =>
 some (.inl (c - 1, h))))
 else (
 some (.inr d))

noncomputable def mSlicesHeapSortCmpFunc (a c : Int) (d : List GuidePoint) : Option ((List GuidePoint)) :=
 (chk (c - a)).bind fun _ =>
 ((chk ((c - a) - 1)).bind fun _ =>
 (ne0 2).bind fun _ =>
 (chk (Int.tdiv ((c - a) - 1) 2)).bind fun _ =>
 loopM (mSlicesHeapSortCmpFunc_L1077 a c) (Int.tdiv ((c - a) - 1) 2, d)).bind (fun e =>
 (chk ((c - a) - 1)).bind fun _ =>
 loopM (mSlicesHeapSortCmpFunc_L1120 a) ((c - a) - 1, e))

noncomputable def mSlicesOrder2CmpFunc (e : List GuidePoint) (a c d : Int) : Option (Int × Int × Int) :=
 (idx e c).bind fun f =>
 (idx e a).bind fun g =>
 (mGuideComparePoints f g).bind fun h =>
 if h < 0 then (
 (chk (d + 1)).bind fun _ =>
 some (c, a, d + 1))
 else (
 some (a, c, d))

noncomputable def mSlicesMedianCmpFunc (a : List GuidePoint) (c d e f : Int) : Option (Int × Int) :=
 (mSlicesOrder2CmpFunc a c d f).bind (unc3 fun g h i =>
 (mSlicesOrder2CmpFunc a h e i).bind (unc3 fun j _ k =>
 (mSlicesOrder2CmpFunc a g j k).bind (unc3 fun _ l m =>
 some (l, m))))

noncomputable def mSlicesMedianAdjacentCmpFunc (c : List GuidePoint) (a d : Int) : Option (Int × Int) :=
 (chk (a - 1)).bind fun _ =>
 (chk (a + 1)).bind fun _ =>
 (mSlicesMedianCmpFunc c (a - 1) a (a + 1) d).bind (unc2 fun e f =>
 some (e, f))

noncomputable def mSlicesChoosePivotCmpFunc (d : List GuidePoint) (a c : Int) : Option (Int × Int) :=
 (chk (c - a)).bind fun _ =>
 (ne0 4).bind fun _ =>
 (chk (Int.tdiv (c - a) 4)).bind fun _ =>
 (chk ((Int.tdiv (c - a) 4) * 1)).bind fun _ =>
 (chk (a + ((Int.tdiv (c - a) 4) * 1))).bind fun _ =>
 (ne0 4).bind fun _ =>
 (chk (Int.tdiv (c - a) 4)).bind fun _ =>
 (chk ((Int.tdiv (c - a) 4) * 2)).bind fun _ =>
 (chk (a + ((Int.tdiv (c - a) 4) * 2))).bind fun _ =>
 (ne0 4).bind fun _ =>
 (chk (Int.tdiv (c - a) 4)).bind fun _ =>
 (chk ((Int.tdiv (c - a) 4) * 3)).bind fun _ =>
 (chk (a + ((Int.tdiv (c - a) 4) * 3))).bind fun _ =>
 (if 8 ≤ (c - a) then (
 (if 50 ≤ (c - a) then (
 (mSlicesMedianAdjacentCmpFunc d (a + ((Int.tdiv (c - a) 4) * 1)) 0).bind (unc2 fun g h =>
 (mSlicesMedianAdjacentCmpFunc d (a + ((Int.tdiv (c - a) 4) * 2)) h).bind (unc2 fun i j =>
 (mSlicesMedianAdjacentCmpFunc d (a + ((Int.tdiv (c - a) 4) * 3)) j).bind (unc2 fun k l =>
 some (g, i, k, l)))))
 else (
 some (a + ((Int.tdiv (c - a) 4) * 1), a + ((Int.tdiv (c - a) 4) * 2), a + ((Int.tdiv (c - a) 4) * 3), 0))).bind (unc4 fun m n o p =>
 (mSlicesMedianCmpFunc d m n o p).bind (unc2 fun q r =>
 some (q, r))))
 else (
 some (a + ((Int.tdiv (c - a) 4) * 2), 0))).bind (unc2 fun e f =>
 if f = 0 then (
 some (e, 1))
 else (
 if f = 12 then (
 some (e, 2))
 else (
 some (e, 0))))

noncomputable def mSlicesReverseRangeCmpFunc_L882  : (Int × Int × (List GuidePoint)) → Option ((Int × Int × (List GuidePoint)) ⊕ ((List GuidePoint))) := unc3 fun a c d =>
 if a < c then (
 ((idx d c).bind fun e =>
 (idx d a).bind fun f =>
 (idx d a).bind fun _ =>
 (idx (put d a e) c).bind fun _ =>
 some (put (put d a e) c f)).bind (fun g =>
 (chk (a + 1)).bind fun _ =>
 (chk (c - 1)).bind fun _ =>
 some (.inl (a + 1, c - 1, g))))
 else (
 some (.inr d))

noncomputable def mSlicesReverseRangeCmpFunc (c a : Int) (d : List GuidePoint) : Option ((List GuidePoint)) :=
 (chk (a - 1)).bind fun _ =>
 loopM mSlicesReverseRangeCmpFunc_L882 (c, a - 1, d)

noncomputable def mSlicesPartialInsertionSortCmpFunc_L73965 (d : Int) (c : List GuidePoint) : (Int) → Option ((Int) ⊕ (Int)) := fun a =>
 (if a < d then (
 (idx c a).bind fun e =>
 (chk (a - 1)).bind fun _ =>
 (idx c (a - 1)).bind fun f =>
 (mGuideComparePoints e f).bind fun g =>
 some (!(decide (g < 0))))
 else (
 some false)).bind (fun h =>
 if h = true then (
 (chk (a + 1)).bind fun _ =>
 some (.inl (a + 1)))
 else (
 some (.inr a)))

noncomputable def mSlicesPartialInsertionSortCmpFunc_L75385  : (Int × (List GuidePoint)) → Option ((Int × (List GuidePoint)) ⊕ ((List GuidePoint))) := unc2 fun a c =>
 if 1 ≤ a then (
 (idx c a).bind fun e =>
 (chk (a - 1)).bind fun _ =>
 (idx c (a - 1)).bind fun f =>
 (mGuideComparePoints e f).bind fun g =>
 if g < 0 then (
 (chk (a - 1)).bind fun _ =>
 (chk (a - 1)).bind fun _ =>
 (idx c (a - 1)).bind fun d =>
 (idx c a).bind fun h =>
 (idx c a).bind fun _ =>
 (idx (put c a d) (a - 1)).bind fun _ =>
 (chk (a - 1)).bind fun _ =>
 some (.inl (a - 1, put (put c a d) (a - 1) h)))
 else (
 some (.inr c)))
 else (
 some (.inr c))

noncomputable def mSlicesPartialInsertionSortCmpFunc_L76042 (f d : Int) : (Int × (List GuidePoint)) → Option ((Int × (List GuidePoint)) ⊕ ((Int × (List GuidePoint)) ⊕ ((Int × Int × (List GuidePoint)) ⊕ (((List GuidePoint)) ⊕ (Bool × (List GuidePoint)))))) := unc2 fun a c =>
 if a < f then (
 (idx c a).bind fun g =>
 (chk (a - 1)).bind fun _ =>
 (idx c (a - 1)).bind fun h =>
 (mGuideComparePoints g h).bind fun i =>
 if i < 0 then (
 (chk (a - 1)).bind fun _ =>
 (chk (a - 1)).bind fun _ =>
 (idx c (a - 1)).bind fun e =>
 (idx c a).bind fun j =>
 (idx c a).bind fun _ =>
 (idx (put c a e) (a - 1)).bind fun _ =>
 (chk (a + 1)).bind fun _ =>
 some (.inl (a + 1, put (put c a e) (a - 1) j)))
 else (
 some (.inr (.inl (d, c)))))
 else (
 some (.inr (.inl (d, c))))

noncomputable def mSlicesPartialInsertionSortCmpFunc_L57530 (e d : Int) : (Int × Int × (List GuidePoint)) → Option ((Int × Int × (List GuidePoint)) ⊕ (((List GuidePoint)) ⊕ (Bool × (List GuidePoint)))) := unc3 fun j f c =>
 if f < 5 then (
 ((loopM (mSlicesPartialInsertionSortCmpFunc_L73965 d c) j).bind (fun a =>
 if a = d then (
 some (.inr (.inr (.inr (true, c)))))
 else (
 (chk (d - e)).bind fun _ =>
 if (d - e) < 50 then (
 some (.inr (.inr (.inr (false, c)))))
 else (
 ((chk (a - 1)).bind fun _ =>
 (chk (a - 1)).bind fun _ =>
 (idx c (a - 1)).bind fun g =>
 (idx c a).bind fun k =>
 (idx c a).bind fun _ =>
 (idx (put c a g) (a - 1)).bind fun _ =>
 some (put (put c a g) (a - 1) k)).bind (fun h =>
 ((chk (a - e)).bind fun _ =>
 if 2 ≤ (a - e) then (
 (chk (a - 1)).bind fun _ =>
 loopM mSlicesPartialInsertionSortCmpFunc_L75385 (a - 1, h))
 else (
 some h)).bind (fun i =>
 (chk (d - a)).bind fun _ =>
 if 2 ≤ (d - a) then (
 (chk (a + 1)).bind fun _ =>
 loopM (mSlicesPartialInsertionSortCmpFunc_L76042 d a) (a + 1, i))
 else (
 some (.inl (a, i))))))))).bind fun t => Sum.elim (unc2 fun l m =>
 (chk (f + 1)).bind fun _ =>
 some (.inl (l, f + 1, m))) (fun n => some n) t)
 else (
 some (.inr (.inl c)))

noncomputable def mSlicesPartialInsertionSortCmpFunc (a c : Int) (d : List GuidePoint) : Option (Bool × (List GuidePoint)) :=
 (chk (a + 1)).bind fun _ =>
 (loopM (mSlicesPartialInsertionSortCmpFunc_L57530 a c) (a + 1, 0, d)).bind fun t => Sum.elim (fun e =>
 some (false, e)) (fun f => some f) t

noncomputable def mSlicesPartitionEqualCmpFunc_L23806 (d : Int) (c : List GuidePoint) (e : Int) : (Int) → Option ((Int) ⊕ (Int)) := fun a =>
 (if a ≤ e then (
 (idx c d).bind fun f =>
 (idx c a).bind fun g =>
 (mGuideComparePoints f g).bind fun h =>
 some (!(decide (h < 0))))
 else (
 some false)).bind (fun i =>
 if i = true then (
 (chk (a + 1)).bind fun _ =>
 some (.inl (a + 1)))
 else (
 some (.inr a)))

noncomputable def mSlicesPartitionEqualCmpFunc_L24696 (d : Int) (c : List GuidePoint) (e : Int) : (Int) → Option ((Int) ⊕ (Int)) := fun a =>
 (if e ≤ a then (
 (idx c d).bind fun f =>
 (idx c a).bind fun g =>
 (mGuideComparePoints f g).bind fun h =>
 some (decide (h < 0)))
 else (
 some false)).bind (fun i =>
 if i = true then (
 (chk (a - 1)).bind fun _ =>
 some (.inl (a - 1)))
 else (
 some (.inr a)))

noncomputable def mSlicesPartitionEqualCmpFunc_L19216 (e : Int) : (Int × Int × (List GuidePoint)) → Option ((Int × Int × (List GuidePoint)) ⊕ (Int × (List GuidePoint))) := unc3 fun h f c =>
 (loopM (mSlicesPartitionEqualCmpFunc_L23806 e c f) h).bind (fun a =>
 (loopM (mSlicesPartitionEqualCmpFunc_L24696 e c a) f).bind (fun d =>
 if d < a then (
 some (.inr (a, c)))
 else (
 ((idx c d).bind fun g =>
 (idx c a).bind fun i =>
 (idx c a).bind fun _ =>
 (idx (put c a g) d).bind fun _ =>
 some (put (put c a g) d i)).bind (fun j =>
 (chk (a + 1)).bind fun _ =>
 (chk (d - 1)).bind fun _ =>
 some (.inl (a + 1, d - 1, j))))))

noncomputable def mSlicesPartitionEqualCmpFunc (a e d : Int) (c : List GuidePoint) : Option (Int × (List GuidePoint)) :=
 ((idx c d).bind fun f =>
 (idx c a).bind fun g =>
 (idx c a).bind fun _ =>
 (idx (put c a f) d).bind fun _ =>
 some (put (put c a f) d g)).bind (fun h =>
 (chk (a + 1)).bind fun _ =>
 (chk (e - 1)).bind fun _ =>
 (loopM (mSlicesPartitionEqualCmpFunc_L19216 a) (a + 1, e - 1, h)).bind (unc2 fun i j =>
 some (i, j)))

noncomputable def mSlicesPartitionCmpFunc_L16072 (d e : Int) (c : List GuidePoint) : (Int) → Option ((Int) ⊕ (Int)) := fun a =>
 (if a ≤ (e - 1) then (
 (idx c a).bind fun f =>
 (idx c d).bind fun g =>
 (mGuideComparePoints f g).bind fun h =>
 some (decide (h < 0)))
 else (
 some false)).bind (fun i =>
 if i = true then (
 (chk (a + 1)).bind fun _ =>
 some (.inl (a + 1)))
 else (
 some (.inr a)))

noncomputable def mSlicesPartitionCmpFunc_L16962 (d : Int) (c : List GuidePoint) (e : Int) : (Int) → Option ((Int) ⊕ (Int)) := fun a =>
 (if e ≤ a then (
 (idx c a).bind fun f =>
 (idx c d).bind fun g =>
 (mGuideComparePoints f g).bind fun h =>
 some (!(decide (h < 0))))
 else (
 some false)).bind (fun i =>
 if i = true then (
 (chk (a - 1)).bind fun _ =>
 some (.inl (a - 1)))
 else (
 some (.inr a)))

noncomputable def mSlicesPartitionCmpFunc_L28773 (d : Int) (c : List GuidePoint) (e : Int) : (Int) → Option ((Int) ⊕ (Int)) := fun a =>
 (if a ≤ e then (
 (idx c a).bind fun f =>
 (idx c d).bind fun g =>
 (mGuideComparePoints f g).bind fun h =>
 some (decide (h < 0)))
 else (
 some false)).bind (fun i =>
 if i = true then (
 (chk (a + 1)).bind fun _ =>
 some (.inl (a + 1)))
 else (
 some (.inr a)))

noncomputable def mSlicesPartitionCmpFunc_L29663 (d : Int) (c : List GuidePoint) (e : Int) : (Int) → Option ((Int) ⊕ (Int)) := fun a =>
 (if e ≤ a then (
 (idx c a).bind fun f =>
 (idx c d).bind fun g =>
 (mGuideComparePoints f g).bind fun h =>
 some (!(decide (h < 0))))
 else (
 some false)).bind (fun i =>
 if i = true then (
 (chk (a - 1)).bind fun _ =>
 some (.inl (a - 1)))
 else (
 some (.inr a)))

noncomputable def mSlicesPartitionCmpFunc_L24183 (e : Int) : (Int × Int × (List GuidePoint)) → Option ((Int × Int × (List GuidePoint)) ⊕ (Int × (List GuidePoint))) := unc3 fun h f a =>
 (loopM (mSlicesPartitionCmpFunc_L28773 e a f) h).bind (fun c =>
 (loopM (mSlicesPartitionCmpFunc_L29663 e a c) f).bind (fun d =>
 if d < c then (
 some (.inr (d, a)))
 else (
 ((idx a d).bind fun g =>
 (idx a c).bind fun i =>
 (idx a c).bind fun _ =>
 (idx (put a c g) d).bind fun _ =>
 some (put (put a c g) d i)).bind (fun j =>
 (chk (c + 1)).bind fun _ =>
 (chk (d - 1)).bind fun _ =>
 some (.inl (c + 1, d - 1, j))))))

noncomputable def mSlicesPartitionCmpFunc (a i j : Int) (f : List GuidePoint) : Option (Int × Bool × (List GuidePoint)) :=
 ((idx f j).bind fun k =>
 (idx f a).bind fun o =>
 (idx f a).bind fun _ =>
 (idx (put f a k) j).bind fun _ =>
 some (put (put f a k) j o)).bind (fun c =>
 (chk (a + 1)).bind fun _ =>
 (chk (i - 1)).bind fun _ =>
 (loopM (mSlicesPartitionCmpFunc_L16072 a i c) (a + 1)).bind (fun e =>
 (loopM (mSlicesPartitionCmpFunc_L16962 a c e) (i - 1)).bind (fun d =>
 if d < e then (
 ((idx c a).bind fun l =>
 (idx c d).bind fun p =>
 (idx c d).bind fun _ =>
 (idx (put c d l) a).bind fun _ =>
 some (put (put c d l) a p)).bind (fun q =>
 some (d, true, q)))
 else (
 ((idx c d).bind fun m =>
 (idx c e).bind fun r =>
 (idx c e).bind fun _ =>
 (idx (put c e m) d).bind fun _ =>
 some (put (put c e m) d r)).bind (fun s =>
 (chk (e + 1)).bind fun _ =>
 (chk (d - 1)).bind fun _ =>
 (loopM (mSlicesPartitionCmpFunc_L24183 a) (e + 1, d - 1, s)).bind (unc2 fun g h =>
 ((idx h a).bind fun n =>
 (idx h g).bind fun t =>
 (idx h g).bind fun _ =>
 (idx (put h g n) a).bind fun _ =>
 some (put (put h g n) a t)).bind (fun u =>
 some (g, false, u))))))))

noncomputable def mSlicesNextPowerOfTwo (c : Int) : Option (Int) :=
 (mBitsLen (IntKind.wrap .u64 c)).bind fun a =>
 (shN a).bind fun _ =>
 some (shlI .u64 1 a)

noncomputable def mSlicesXorshiftNext (a : Int) : Option (Int × Int) :=
 (shN 13).bind fun _ =>
 (shN 7).bind fun _ =>
 (shN 17).bind fun _ =>
 some (xorI .u64 (xorI .u64 (xorI .u64 a (shlI .u64 a 13)) (shrI .u64 (xorI .u64 a (shlI .u64 a 13)) 7)) (shlI .u64 (xorI .u64 (xorI .u64 a (shlI .u64 a 13)) (shrI .u64 (xorI .u64 a (shlI .u64 a 13)) 7)) 17), xorI .u64 (xorI .u64 (xorI .u64 a (shlI .u64 a 13)) (shrI .u64 (xorI .u64 a (shlI .u64 a 13)) 7)) (shlI .u64 (xorI .u64 (xorI .u64 a (shlI .u64 a 13)) (shrI .u64 (xorI .u64 a (shlI .u64 a 13)) 7)) 17))

noncomputable def mSlicesBreakPatternsCmpFunc_L531 (a c g : Int) : (Int × Int × (List GuidePoint)) → Option ((Int × Int × (List GuidePoint)) ⊕ ((List GuidePoint))) := unc3 fun d j e =>
 (ne0 4).bind fun _ =>
 (chk (Int.tdiv (c - a) 4)).bind fun _ =>
 (chk ((Int.tdiv (c - a) 4) * 2)).bind fun _ =>
 (chk (a + ((Int.tdiv (c - a) 4) * 2))).bind fun _ =>
 (chk ((a + ((Int.tdiv (c - a) 4) * 2)) + 1)).bind fun _ =>
 if d ≤ ((a + ((Int.tdiv (c - a) 4) * 2)) + 1) then (
 (mSlicesXorshiftNext j).bind (unc2 fun h k =>
 (if (c - a) ≤ (IntKind.wrap .i64 (andI .u64 h (IntKind.wrap .u64 (g - 1)))) then (
 (chk ((IntKind.wrap .i64 (andI .u64 h (IntKind.wrap .u64 (g - 1)))) - (c - a))).bind fun _ =>
 some ((IntKind.wrap .i64 (andI .u64 h (IntKind.wrap .u64 (g - 1)))) - (c - a)))
 else (
 some (IntKind.wrap .i64 (andI .u64 h (IntKind.wrap .u64 (g - 1)))))).bind (fun f =>
 (chk (a + f)).bind fun _ =>
 (chk (a + f)).bind fun _ =>
 (idx e (a + f)).bind fun i =>
 (idx e d).bind fun l =>
 (idx e d).bind fun _ =>
 (idx (put e d i) (a + f)).bind fun _ =>
 (chk (d + 1)).bind fun _ =>
 some (.inl (d + 1, k, put (put e d i) (a + f) l)))))
 else (
 some (.inr e))

noncomputable def mSlicesBreakPatternsCmpFunc (a c : Int) (d : List GuidePoint) : Option ((List GuidePoint)) :=
 (chk (c - a)).bind fun _ =>
 if 8 ≤ (c - a) then (
 (mSlicesNextPowerOfTwo (c - a)).bind fun e =>
 (ne0 4).bind fun _ =>
 (chk (Int.tdiv (c - a) 4)).bind fun _ =>
 (chk ((Int.tdiv (c - a) 4) * 2)).bind fun _ =>
 (chk (a + ((Int.tdiv (c - a) 4) * 2))).bind fun _ =>
 (chk ((a + ((Int.tdiv (c - a) 4) * 2)) - 1)).bind fun _ =>
 loopM (mSlicesBreakPatternsCmpFunc_L531 a c e) ((a + ((Int.tdiv (c - a) 4) * 2)) - 1, IntKind.wrap .u64 (c - a), d))
 else (
 some d)

noncomputable def mSlicesPdqsortCmpFunc_L2079 (rcmSlicesPdqsortCmpFunc : (Int) → (Int) → (Int) → ((List GuidePoint)) → Option ((List GuidePoint))) : (Int × Int × Int × Bool × Bool × (List GuidePoint)) → Option ((Int × Int × Int × Bool × Bool × (List GuidePoint)) ⊕ ((List GuidePoint))) := unc6 fun a c f j m g =>
 (chk (c - a)).bind fun _ =>
 if (c - a) ≤ 12 then (
 (mSlicesInsertionSortCmpFunc a c g).bind fun s =>
 some (.inr s))
 else (
 if f = 0 then (
 (mSlicesHeapSortCmpFunc a c g).bind fun u =>
 some (.inr u))
 else (
 (if j = true then (
 some (f, g))
 else (
 (mSlicesBreakPatternsCmpFunc a c g).bind fun v =>
 (chk (f - 1)).bind fun _ =>
 some (f - 1, v))).bind (unc2 fun e k =>
 (mSlicesChoosePivotCmpFunc k a c).bind (unc2 fun h n =>
 (if n = 2 then (
 (mSlicesReverseRangeCmpFunc a c k).bind fun w =>
 (chk (c - 1)).bind fun _ =>
 (chk (h - a)).bind fun _ =>
 (chk ((c - 1) - (h - a))).bind fun _ =>
 some ((c - 1) - (h - a), 1, w))
 else (
 some (h, n, k))).bind (unc3 fun l x o =>
 ((if j = true then (
 if m = true then (
 some (decide (x = 1)))
 else (
 some false))
 else (
 some false)).bind (fun y =>
 if y = true then (
 (mSlicesPartialInsertionSortCmpFunc a c o).bind (unc2 fun z p =>
 if z = true then (
 some (.inr (.inr p)))
 else (
 some (.inl p))))
 else (
 some (.inl o)))).bind fun t => Sum.elim (fun i =>
 (if 0 < a then (
 (chk (a - 1)).bind fun _ =>
 (idx i (a - 1)).bind fun A =>
 (idx i l).bind fun B =>
 (mGuideComparePoints A B).bind fun C =>
 some (!(decide (C < 0))))
 else (
 some false)).bind (fun D =>
 if D = true then (
 (mSlicesPartitionEqualCmpFunc a c l i).bind (unc2 fun E F =>
 some (.inl (E, c, e, j, m, F))))
 else (
 (mSlicesPartitionCmpFunc a c l i).bind (unc3 fun d q r =>
 (chk (d - a)).bind fun _ =>
 (chk (c - d)).bind fun _ =>
 (ne0 8).bind fun _ =>
 (chk (Int.tdiv (c - a) 8)).bind fun _ =>
 if (d - a) < (c - d) then (
 (rcmSlicesPdqsortCmpFunc a d e r).bind fun G =>
 (chk (d + 1)).bind fun _ =>
 some (.inl (d + 1, c, e, decide ((Int.tdiv (c - a) 8) ≤ (d - a)), q, G)))
 else (
 (chk (d + 1)).bind fun _ =>
 (rcmSlicesPdqsortCmpFunc (d + 1) c e r).bind fun H =>
 some (.inl (a, d, e, decide ((Int.tdiv (c - a) 8) ≤ (c - d)), q, H))))))) (fun I => some I) t)))))

noncomputable def mSlicesPdqsortCmpFunc : Nat → (Int) → (Int) → (Int) → ((List GuidePoint)) → Option ((List GuidePoint))
 | 0 => fun _ _ _ _ => none
 | N + 1 => fun a c d e =>
 loopM (mSlicesPdqsortCmpFunc_L2079 (mSlicesPdqsortCmpFunc N)) (a, c, d, true, true, e)

noncomputable def mSlicesSortFunc (a : List GuidePoint) : Option ((List GuidePoint)) :=
 (mBitsLen (IntKind.wrap .u64 (a.length : Int))).bind fun c =>
 (lim (fun N => mSlicesPdqsortCmpFunc N 0 (a.length : Int) c a)).bind fun d =>
 some d

noncomputable def mGuideNetPoints_L48611 (h : GuideNet) (i : Int) (c : (Int × (List GuideRide))) (g : GuidePlace × Bool) : ((List (GuidePoint × Bool)) × (List GuidePoint)) → Option (((List (GuidePoint × Bool)) × (List GuidePoint)) ⊕ ((List (GuidePoint × Bool)) × (List GuidePoint))) := unc2 fun d e =>
 ((idx h.Day.Trains g.1.train).bind fun j =>
 (idx j.Stops g.1.off).bind fun a =>
 some (a.Station, a.Track, a.Arr, a.Dep)).bind (unc4 fun k _ f _ =>
 (chk (0 + 1)).bind fun _ =>
 (if k = i then (
 (some (mgetD d (⟨c.1, f, 0 + 1⟩ : GuidePoint) false)).bind fun l =>
 some (!l))
 else (
 some false)).bind (fun m =>
 if m = true then (
 (room 24 (e.length + 1)).bind fun _ =>
 some (.inl (canB (fun p => kGuidePoint p.1) (mput d (⟨c.1, f, 0 + 1⟩ : GuidePoint) true), insB kGuidePoint (⟨c.1, f, 0 + 1⟩ : GuidePoint) e)))
 else (
 some (.inl (d, e)))))

noncomputable def mGuideNetPoints_L49679 (h : GuideNet) (i : Int) (c : (Int × (List GuideRide))) (g : GuidePlace × Bool) : ((List (GuidePoint × Bool)) × (List GuidePoint)) → Option (((List (GuidePoint × Bool)) × (List GuidePoint)) ⊕ ((List (GuidePoint × Bool)) × (List GuidePoint))) := unc2 fun d e =>
 ((idx h.Day.Trains g.1.train).bind fun j =>
 (idx j.Stops g.1.off).bind fun a =>
 some (a.Station, a.Track, a.Arr, a.Dep)).bind (unc4 fun k _ f _ =>
 (chk (1 + 1)).bind fun _ =>
 (if k = i then (
 (some (mgetD d (⟨c.1, f, 1 + 1⟩ : GuidePoint) false)).bind fun l =>
 some (!l))
 else (
 some false)).bind (fun m =>
 if m = true then (
 (room 24 (e.length + 1)).bind fun _ =>
 some (.inl (canB (fun p => kGuidePoint p.1) (mput d (⟨c.1, f, 1 + 1⟩ : GuidePoint) true), insB kGuidePoint (⟨c.1, f, 1 + 1⟩ : GuidePoint) e)))
 else (
 some (.inl (d, e)))))

noncomputable def mGuideNetPoints_L50747 (h : GuideNet) (i : Int) (c : (Int × (List GuideRide))) (g : GuidePlace × Bool) : ((List (GuidePoint × Bool)) × (List GuidePoint)) → Option (((List (GuidePoint × Bool)) × (List GuidePoint)) ⊕ ((List (GuidePoint × Bool)) × (List GuidePoint))) := unc2 fun d e =>
 ((idx h.Day.Trains g.1.train).bind fun j =>
 (idx j.Stops g.1.off).bind fun a =>
 some (a.Station, a.Track, a.Arr, a.Dep)).bind (unc4 fun k _ f _ =>
 (chk (2 + 1)).bind fun _ =>
 (if k = i then (
 (some (mgetD d (⟨c.1, f, 2 + 1⟩ : GuidePoint) false)).bind fun l =>
 some (!l))
 else (
 some false)).bind (fun m =>
 if m = true then (
 (room 24 (e.length + 1)).bind fun _ =>
 some (.inl (canB (fun p => kGuidePoint p.1) (mput d (⟨c.1, f, 2 + 1⟩ : GuidePoint) true), insB kGuidePoint (⟨c.1, f, 2 + 1⟩ : GuidePoint) e)))
 else (
 some (.inl (d, e)))))

noncomputable def mGuideNetPoints_L51815 (h : GuideNet) (i : Int) (c : (Int × (List GuideRide))) (g : GuidePlace × Bool) : ((List (GuidePoint × Bool)) × (List GuidePoint)) → Option (((List (GuidePoint × Bool)) × (List GuidePoint)) ⊕ ((List (GuidePoint × Bool)) × (List GuidePoint))) := unc2 fun d e =>
 ((idx h.Day.Trains g.1.train).bind fun j =>
 (idx j.Stops g.1.off).bind fun a =>
 some (a.Station, a.Track, a.Arr, a.Dep)).bind (unc4 fun k _ f _ =>
 (chk (3 + 1)).bind fun _ =>
 (if k = i then (
 (some (mgetD d (⟨c.1, f, 3 + 1⟩ : GuidePoint) false)).bind fun l =>
 some (!l))
 else (
 some false)).bind (fun m =>
 if m = true then (
 (room 24 (e.length + 1)).bind fun _ =>
 some (.inl (canB (fun p => kGuidePoint p.1) (mput d (⟨c.1, f, 3 + 1⟩ : GuidePoint) true), insB kGuidePoint (⟨c.1, f, 3 + 1⟩ : GuidePoint) e)))
 else (
 some (.inl (d, e)))))

noncomputable def mGuideNetPoints_L39375 (a : GuideNet) (d : Int) (c : Int × (List GuideRide)) : ((List (GuidePoint × Bool)) × (List GuidePoint)) → Option (((List (GuidePoint × Bool)) × (List GuidePoint)) ⊕ ((List GuidePoint))) := unc2 fun e f =>
 (mGuideNetEnds a c.2).bind (unc4 fun g h i j =>
 ((ordM (fun p => forL (mGuideNetPoints_L48611 a d c) p (e, f)) g).bind fun t => Sum.elim (unc2 fun k l =>
 some (k, l)) (fun q => some q) t).bind (unc2 fun m n =>
 (chk (0 + 1)).bind fun _ =>
 ((ordM (fun p => forL (mGuideNetPoints_L49679 a d c) p (m, n)) h).bind fun t => Sum.elim (unc2 fun o r =>
 some (o, r)) (fun q => some q) t).bind (unc2 fun s u =>
 (chk (1 + 1)).bind fun _ =>
 ((ordM (fun p => forL (mGuideNetPoints_L50747 a d c) p (s, u)) i).bind fun t => Sum.elim (unc2 fun v w =>
 some (v, w)) (fun q => some q) t).bind (unc2 fun x y =>
 (chk (2 + 1)).bind fun _ =>
 ((ordM (fun p => forL (mGuideNetPoints_L51815 a d c) p (x, y)) j).bind fun t => Sum.elim (unc2 fun z A =>
 some (z, A)) (fun q => some q) t).bind (unc2 fun B C =>
 (chk (3 + 1)).bind fun _ =>
 some (.inl (B, C)))))))

noncomputable def mGuideNetPoints_L26195 (e : GuideNet) (d : GuideRide) : ((List (Int × (List GuideRide)))) → Option (((List (Int × (List GuideRide)))) ⊕ ((List GuidePoint))) := fun a =>
 (mGuideNetOn e d).bind (unc4 fun _ _ _ c =>
 (room 24 ((mgetD a c []).length + 1)).bind fun _ =>
 some (.inl (mput a c ((mgetD a c []) ++ [d]))))

noncomputable def mGuideNetPoints (a : GuideNet) (c d : Int) : Option ((List GuidePoint)) :=
 (mGuideNetRides a c 0 (-1)).bind fun e =>
 (forL (mGuideNetPoints_L26195 a) e (([] : List (Int × (List GuideRide))) : List (Int × (List GuideRide)))).bind fun t => Sum.elim (fun f =>
 ((ordM (fun p => forL (mGuideNetPoints_L39375 a d) p ((([] : List (GuidePoint × Bool)), []) : (List (GuidePoint × Bool)) × (List GuidePoint))) f).bind fun t => Sum.elim (unc2 fun _ g =>
 some g) (fun q => some q) t).bind (fun h =>
 ordM (fun i =>
 (mSlicesSortFunc i).bind fun j =>
 some (canB kGuidePoint j)) h)) (fun q => some q) t

noncomputable def mGuideNetEarliest_1 (a : GuidePoint) (c : Int) : Option (Bool) :=
 some (decide (a.Dep < c))

noncomputable def mSlicesIndexFunc_L62 (c : List GuidePoint) (d : Int) (a : Nat) : (Unit) → Option ((Unit) ⊕ (Int)) := fun _ =>
 (idx c (a : Int)).bind fun e =>
 (mGuideNetEarliest_1 e d).bind fun f =>
 if f = true then (
 some (.inr (a : Int)))
 else (
 some (.inl ()))

noncomputable def mSlicesIndexFunc (c : Int) (a : List GuidePoint) : Option (Int) :=
 (forM (mSlicesIndexFunc_L62 a c) a.length 0 ()).bind fun t => Sum.elim (fun _ =>
 some (-1)) (fun q => some q) t

noncomputable def mSlicesDeleteFunc_L962 (f : Int) : (Int × Int × (List GuidePoint)) → Option ((Int × Int × (List GuidePoint)) ⊕ (Int × (List GuidePoint))) := unc3 fun a d c =>
 if d < (c.length : Int) then (
 ((idx c d).bind fun e =>
 (mGuideNetEarliest_1 e f).bind fun g =>
 if g = true then (
 some (a, c))
 else (
 (idx c a).bind fun _ =>
 (chk (a + 1)).bind fun _ =>
 some (a + 1, put c a e))).bind (unc2 fun h i =>
 (chk (d + 1)).bind fun _ =>
 some (.inl (h, d + 1, i))))
 else (
 some (.inr (a, c)))

noncomputable def mSlicesDeleteFunc (f : Int) (c : List GuidePoint) : Option ((List GuidePoint)) :=
 (mSlicesIndexFunc f c).bind fun a =>
 if a = (-1) then (
 some c)
 else (
 ((chk (a + 1)).bind fun _ =>
 loopM (mSlicesDeleteFunc_L962 f) (a, a + 1, c)).bind (unc2 fun d e =>
 (cutS e d (e.length : Int)).bind fun _ =>
 (cutS (clrM e d ((⟨0, 0, 0⟩ : GuidePoint) : GuidePoint)) 0 d).bind fun g =>
 some g))

noncomputable def mGuideNetEarliest_2 (a c : GuidePoint) : Option (Int) :=
 ((mCmpCompare a.Arr c.Arr).bind fun d =>
 (mCmpCompare a.Rides c.Rides).bind fun e =>
 (mCmpCompare c.Dep a.Dep).bind fun f =>
 (mCmpOr [d, e, f]).bind fun g =>
 some g).bind (fun h =>
 some h)

noncomputable def mSlicesMinFunc_L781 (c : List GuidePoint) : (Int × Int × Int × Int) → Option ((Int × Int × Int × Int) ⊕ (Int × Int × Int)) := unc4 fun a d e f =>
 if a < (c.length : Int) then (
 ((idx c a).bind fun h =>
 (mGuideNetEarliest_2 h (⟨d, e, f⟩ : GuidePoint)).bind fun i =>
 if i < 0 then (
 (idx c a).bind fun g =>
 some (g.Dep, g.Arr, g.Rides))
 else (
 some (d, e, f))).bind (unc3 fun j k l =>
 (chk (a + 1)).bind fun _ =>
 some (.inl (a + 1, j, k, l))))
 else (
 some (.inr (d, e, f)))

noncomputable def mSlicesMinFunc (a : List GuidePoint) : Option (Int × Int × Int) :=
 if (a.length : Int) < 1 then (
 none)
 else (
 (idx a 0).bind fun c =>
 (loopM (mSlicesMinFunc_L781 a) (1, c.Dep, c.Arr, c.Rides)).bind (unc3 fun d e f =>
 some (d, e, f)))

noncomputable def mSlicesClone (a : List GuideRide) : Option ((List GuideRide)) :=
 (room 24 a.length).bind fun _ => some a

noncomputable def mGuideNetLeastOf_1_L704 (e : List ApiTrain) (f : List (List Int)) (g : List GuideRide) (h i j k l : Int) (rcmGuideNetLeastOf_1 : ((List ApiTrain)) → ((List (List Int))) → (Int) → (Int) → (Int) → (Int) → (Int) → ((List GuideRide)) → ((List ((List Int) × Bool))) → Option ((List GuideRide) × (List ((List Int) × Bool)))) (m : GuideRide) : ((List ((List Int) × Bool))) → Option (((List ((List Int) × Bool))) ⊕ ((List GuideRide) × (List ((List Int) × Bool)))) := fun n =>
 ((mSlicesClone g).bind fun a =>
 (room 24 (a.length + 1)).bind fun _ =>
 (rcmGuideNetLeastOf_1 e f h i j k l (a ++ [m]) n).bind (unc2 fun o p =>
 some (o, p))).bind (unc2 fun c d =>
 if c.isEmpty = true then (
 some (.inl d))
 else (
 some (.inr (c, d))))

noncomputable def mGuideNetLeastOf_1 : Nat → ((List ApiTrain)) → ((List (List Int))) → (Int) → (Int) → (Int) → (Int) → (Int) → ((List GuideRide)) → ((List ((List Int) × Bool))) → Option ((List GuideRide) × (List ((List Int) × Bool)))
 | 0 => fun _ _ _ _ _ _ _ _ _ => none
 | N + 1 => fun f g h l i d j a e =>
 (chk ((a.length : Int) - 1)).bind fun _ =>
 (idx a ((a.length : Int) - 1)).bind fun c =>
 (mGuideNetOff (⟨(⟨f, g⟩ : ApiDay), h⟩ : GuideNet) c).bind (unc4 fun m _ k _ =>
 (chk (d - (a.length : Int))).bind fun _ =>
 if (d - (a.length : Int)) = 0 then (
 (if m = j then (
 some (decide (k = i)))
 else (
 some false)).bind (fun n =>
 if n = true then (
 some (a, e))
 else (
 some ([], e))))
 else (
 ((some (mgetD e [c.Train, c.Off, d - (a.length : Int)] false)).bind fun o =>
 if o = true then (
 some true)
 else (
 some (decide (i < k)))).bind (fun p =>
 if p = true then (
 some ([], e))
 else (
 (mGuideNetBehind (⟨(⟨f, g⟩ : ApiDay), h⟩ : GuideNet) c).bind fun r =>
 (forL (mGuideNetLeastOf_1_L704 f g a h l i d j (mGuideNetLeastOf_1 N)) r e).bind fun t => Sum.elim (fun s =>
 some ([], mput s [c.Train, c.Off, d - (a.length : Int)] true)) (fun q => some q) t))))

noncomputable def mGuideNetLeastOf_L166 (a : GuideNet) (g : Int) (c : GuidePoint) (d : GuideRide) : ((List ((List Int) × Bool))) → Option (((List ((List Int) × Bool))) ⊕ ((List GuideRide))) := fun e =>
 (mGuideNetOn a d).bind (unc4 fun _ _ _ h =>
 if h ≠ c.Dep then (
 some (.inl e))
 else (
 (lim (fun N => mGuideNetLeastOf_1 N a.Day.Trains a.Day.Turns a.least c.Dep c.Arr c.Rides g [d] e)).bind (unc2 fun f i =>
 if f.isEmpty = true then (
 some (.inl i))
 else (
 some (.inr f)))))

noncomputable def mGuideNetLeastOf (a : GuideNet) (d e : Int) (c : GuidePoint) : Option ((List GuideRide)) :=
 (mGuideNetRides a d c.Dep (-1)).bind fun f =>
 (forL (mGuideNetLeastOf_L166 a e c) f (([] : List ((List Int) × Bool)) : List ((List Int) × Bool))).bind fun t => Sum.elim (fun _ =>
 some []) (fun q => some q) t

noncomputable def mGuideNetEarliest (a : GuideNet) (c f d : Int) : Option (Bool × (List GuideRide)) :=
 (mGuideNetPoints a c d).bind fun g =>
 ordM (fun h =>
 (mSlicesDeleteFunc f h).bind fun e =>
 if (e.length : Int) = 0 then (
 some (false, []))
 else (
 (mSlicesMinFunc e).bind (unc3 fun i j k =>
 (mGuideNetLeastOf a c d (⟨i, j, k⟩ : GuidePoint)).bind fun l =>
 some (true, l)))) g

noncomputable def mGuideEarliest (a : ApiDay) (c d e f : Int) : Option (Int × (List GuideRide)) :=
 (mGuideCheck_2 a f c e [d]).bind fun g =>
 if g ≠ 0 then (
 some (g, []))
 else (
 (mGuideNetEarliest (⟨a, f⟩ : GuideNet) c d e).bind (unc2 fun h i =>
 if h = true then (
 some (0, i))
 else (
 some (9, []))))

noncomputable def mSlicesEqual_L104 (e f : List GuideRide) (d : Nat) : (Unit) → Option ((Unit) ⊕ (Bool)) := fun _ =>
 (idx e (d : Int)).bind fun a =>
 (idx f (d : Int)).bind fun c =>
 if a.Train = c.Train ∧ a.On = c.On ∧ a.Off = c.Off then (
 some (.inl ()))
 else (
 some (.inr false))

noncomputable def mSlicesEqual (a c : List GuideRide) : Option (Bool) :=
 if (a.length : Int) ≠ (c.length : Int) then (
 some false)
 else (
 (forM (mSlicesEqual_L104 a c) a.length 0 ()).bind fun t => Sum.elim (fun _ =>
 some true) (fun q => some q) t)

noncomputable def mFishkeep2Guides : Option (Bool) :=
 (mGuideEarliest (⟨[(⟨1, 0, [(⟨0, 0, 5, 5⟩ : ApiStop), (⟨1, 0, 9, 9⟩ : ApiStop)], [[0]]⟩ : ApiTrain)], []⟩ : ApiDay) 0 0 1 0).bind (unc2 fun a c =>
 (if a = 0 then (
 (mSlicesEqual c [(⟨0, 0, 1⟩ : GuideRide)]).bind fun d =>
 some d)
 else (
 some false)).bind (fun e =>
 some e))

noncomputable def mSlicesClone_2 (a : List ApiTrain) : Option ((List ApiTrain)) :=
 (room 64 a.length).bind fun _ => some a

noncomputable def mFishref2NumbersIn_L760 (d : ApiTrain) (e : Nat) : ((List (List Int))) → Option ((List (List Int))) := fun c =>
 (idx d.Stops (e : Int)).bind fun a =>
 (room 24 (c.length + 1)).bind fun _ =>
 some (c ++ [[a.Station, a.Track, a.Arr, a.Dep]])

noncomputable def mFishref2NumbersIn_L443 (e : ApiDay) (f : Nat) : ((List (List Int))) → Option ((List (List Int))) := fun c =>
 (idx e.Trains (f : Int)).bind fun a =>
 (room 24 (c.length + 1)).bind fun _ =>
 (forS (mFishref2NumbersIn_L760 a) a.Stops.length 0 (c ++ [[a.No, a.Stock]])).bind (fun d =>
 (room 24 (d.length + a.Legs.length)).bind fun _ =>
 some (d ++ a.Legs))

noncomputable def mFishref2NumbersIn (a : ApiDay) : Option ((List (List Int))) :=
 (forS (mFishref2NumbersIn_L443 a) a.Trains.length 0 ([] : List (List Int))).bind (fun c =>
 (room 24 (c.length + a.Turns.length)).bind fun _ =>
 some (c ++ a.Turns))

noncomputable def mFishref2Within (a c d : Int) : Option (Bool) :=
 (if c ≤ a then (
 some (decide (a ≤ d)))
 else (
 some false)).bind (fun e =>
 some e)

noncomputable def mFishref2TextFault_L587 (a : ApiTrain) (c : Nat) : (Unit) → Option ((Unit) ⊕ ((Unit) ⊕ (Int))) := fun _ =>
 (idx a.Legs (c : Int)).bind fun d =>
 if 4 < (d.length : Int) then (
 some (.inr (.inr 4)))
 else (
 some (.inl ()))

noncomputable def mFishref2TextFault_L546 (a : ApiTrain) (c : Nat) : (Unit) → Option ((Unit) ⊕ ((Unit) ⊕ (Int))) := fun _ =>
 (idx a.Legs (c : Int)).bind fun d =>
 if (d.length : Int) = 0 then (
 some (.inr (.inr 1)))
 else (
 some (.inl ()))

noncomputable def mFishref2TextFault_L757 (a : List Int) (c : Nat) : (Unit) → Option ((Unit) ⊕ ((Unit) ⊕ (Int))) := fun _ =>
 (idx a (c : Int)).bind fun d =>
 (mFishref2Within d 0 999999).bind fun e =>
 if e = true then (
 some (.inl ()))
 else (
 some (.inr (.inr 2)))

noncomputable def mFishref2TextFault_L676 (c : List (List Int)) (d : Nat) : (Unit) → Option ((Unit) ⊕ (Int)) := fun _ =>
 (idx c (d : Int)).bind fun a =>
 (forM (mFishref2TextFault_L757 a) a.length 0 ()).bind fun t => Sum.elim (fun _ =>
 some (.inl ())) (fun q => some q) t

noncomputable def mFishref2TextFault_L627 (c : ApiDay) (d : Nat) : (Unit) → Option ((Unit) ⊕ (Int)) := fun _ =>
 (idx c.Turns (d : Int)).bind fun a =>
 if (a.length : Int) = 0 then (
 some (.inr 1))
 else (
 if 12 < (a.length : Int) then (
 some (.inr 4))
 else (
 some (.inl ())))

noncomputable def mFishref2TextFault_L410 (c : ApiDay) (d : Nat) : (Unit) → Option ((Unit) ⊕ (Int)) := fun _ =>
 (idx c.Trains (d : Int)).bind fun a =>
 (if (a.Stops.length : Int) = 0 then (
 some true)
 else (
 (chk ((a.Stops.length : Int) - 1)).bind fun _ =>
 some (decide ((a.Legs.length : Int) ≠ ((a.Stops.length : Int) - 1))))).bind (fun e =>
 if e = true then (
 some (.inr 1))
 else (
 (forM (mFishref2TextFault_L546 a) a.Legs.length 0 ()).bind fun t => Sum.elim (fun _ =>
 if 8 < (a.Stops.length : Int) then (
 some (.inr 4))
 else (
 (forM (mFishref2TextFault_L587 a) a.Legs.length 0 ()).bind fun t => Sum.elim (fun _ =>
 some (.inl ())) (fun q => some q) t)) (fun q => some q) t))

noncomputable def mFishref2TextFault (a : ApiDay) : Option (Int) :=
 (if 12 < (a.Trains.length : Int) then (
 some true)
 else (
 some (decide (8 < (a.Turns.length : Int))))).bind (fun d =>
 if d = true then (
 some 4)
 else (
 (forM (mFishref2TextFault_L410 a) a.Trains.length 0 ()).bind fun t => Sum.elim (fun _ =>
 (forM (mFishref2TextFault_L627 a) a.Turns.length 0 ()).bind fun t => Sum.elim (fun _ =>
 (mFishref2NumbersIn a).bind fun c =>
 (forM (mFishref2TextFault_L676 c) c.length 0 ()).bind fun t => Sum.elim (fun _ =>
 some 0) (fun q => some q) t) (fun q => some q) t) (fun q => some q) t))

noncomputable def mFishref2GuideFault_L931 (d : ApiTrain) (c : Nat) : (Unit) → Option ((Unit) ⊕ ((Unit) ⊕ (Int))) := fun _ =>
 (idx d.Stops (c : Int)).bind fun a =>
 ((mFishref2Within a.Station 0 11).bind fun e =>
 if e = true then (
 (mFishref2Within a.Arr 0 28800).bind fun f =>
 if f = true then (
 (mFishref2Within a.Dep 0 28800).bind fun g =>
 some (!g))
 else (
 some true))
 else (
 some true)).bind (fun h =>
 if h = true then (
 some (.inr (.inr 2)))
 else (
 (if a.Dep < a.Arr then (
 some true)
 else (
 if 0 < (c : Int) then (
 (chk ((c : Int) - 1)).bind fun _ =>
 (idx d.Stops ((c : Int) - 1)).bind fun i =>
 some (decide (a.Arr ≤ i.Dep)))
 else (
 some false))).bind (fun j =>
 if j = true then (
 some (.inr (.inr 5)))
 else (
 some (.inl ())))))

noncomputable def mFishref2GuideFault_L882 (a : List ApiTrain) (c : ApiTrain) (d : Nat) : (Unit) → Option ((Unit) ⊕ ((Unit) ⊕ (Int))) := fun _ =>
 (idx a (d : Int)).bind fun e =>
 if e.No = c.No then (
 some (.inr (.inr 6)))
 else (
 some (.inl ()))

noncomputable def mFishref2GuideFault_L570 (c : ApiDay) (d : Nat) : (Unit) → Option ((Unit) ⊕ (Int)) := fun _ =>
 (idx c.Trains (d : Int)).bind fun a =>
 (mFishref2Within a.No 1 9999).bind fun f =>
 if f = true then (
 (cutS c.Trains 0 (d : Int)).bind fun e =>
 (forM (mFishref2GuideFault_L882 e a) e.length 0 ()).bind fun t => Sum.elim (fun _ =>
 if (a.Stops.length : Int) < 2 then (
 some (.inr 1))
 else (
 (forM (mFishref2GuideFault_L931 a) a.Stops.length 0 ()).bind fun t => Sum.elim (fun _ =>
 some (.inl ())) (fun q => some q) t)) (fun q => some q) t)
 else (
 some (.inr 2))

noncomputable def mFishref2GuideFault (a : ApiDay) : Option (Int) :=
 (mFishref2TextFault a).bind fun c =>
 if c ≠ 0 then (
 some c)
 else (
 (forM (mFishref2GuideFault_L570 a) a.Trains.length 0 ()).bind fun t => Sum.elim (fun _ =>
 some 0) (fun q => some q) t)

noncomputable def mFishref2SearchFault (e a c f : Int) (d g : Bool) : Option (Int) :=
 (mFishref2Within e 0 28800).bind fun h =>
 if h = true then (
 ((mFishref2Within a 0 11).bind fun i =>
 if i = true then (
 if d = true then (
 (mFishref2Within c 0 11).bind fun j =>
 some (!j))
 else (
 some false))
 else (
 some true)).bind (fun k =>
 if k = true then (
 some 3)
 else (
 (if d = true then (
 some (decide (a = c)))
 else (
 some false)).bind (fun l =>
 if l = true then (
 some 1)
 else (
 (if g = true then (
 (mFishref2Within f 0 28800).bind fun m =>
 some (!m))
 else (
 some false)).bind (fun n =>
 if n = true then (
 some 2)
 else (
 some 0)))))))
 else (
 some 2)

noncomputable def mFishref2JourneyFault_L599 (f : ApiDay) (h : GuideJourney) (i : Int) (k : Bool) (c : Nat) : (Unit) → Option ((Unit) ⊕ (Int)) := fun _ =>
 (idx h.Rides (c : Int)).bind fun a =>
 (if a.Train < 0 then (
 some true)
 else (
 some (decide ((f.Trains.length : Int) ≤ a.Train)))).bind (fun l =>
 if l = true then (
 some (.inr 3))
 else (
 (idx f.Trains a.Train).bind fun d =>
 (if a.On < 0 then (
 some true)
 else (
 if (d.Stops.length : Int) ≤ a.On then (
 some true)
 else (
 if a.Off < 0 then (
 some true)
 else (
 some (decide ((d.Stops.length : Int) ≤ a.Off)))))).bind (fun m =>
 if m = true then (
 some (.inr 3))
 else (
 if a.Off ≤ a.On then (
 some (.inr 1))
 else (
 if (c : Int) = 0 then (
 some (.inl ()))
 else (
 (chk ((c : Int) - 1)).bind fun _ =>
 (idx h.Rides ((c : Int) - 1)).bind fun g =>
 ((idx f.Trains g.Train).bind fun n =>
 (idx n.Stops g.Off).bind fun e =>
 some (e.Station, e.Track, e.Arr, e.Dep)).bind (unc4 fun o _ j _ =>
 (if g.Train = a.Train then (
 some true)
 else (
 (idx d.Stops a.On).bind fun p =>
 some (decide (p.Station ≠ o)))).bind (fun q =>
 if q = true then (
 some (.inr 1))
 else (
 (if k = true then (
 (idx d.Stops a.On).bind fun r =>
 (chk (j + i)).bind fun _ =>
 some (decide (r.Dep < (j + i))))
 else (
 some false)).bind (fun s =>
 if s = true then (
 some (.inr 13))
 else (
 some (.inl ()))))))))))))

noncomputable def mFishref2JourneyFault (d : ApiDay) (a : GuideJourney) (c : Int) (e : Bool) : Option (Int) :=
 (mFishref2Within c 0 28800).bind fun f =>
 if f = true then (
 (mFishref2Within (a.Rides.length : Int) 1 4).bind fun g =>
 if g = true then (
 (forM (mFishref2JourneyFault_L599 d a c e) a.Rides.length 0 ()).bind fun t => Sum.elim (fun _ =>
 some 0) (fun q => some q) t)
 else (
 some 4))
 else (
 some 2)

noncomputable def mFishref2Arrives (d : ApiDay) (a : GuideJourney) : Option (Int) :=
 (chk ((a.Rides.length : Int) - 1)).bind fun _ =>
 (idx a.Rides ((a.Rides.length : Int) - 1)).bind fun c =>
 (idx d.Trains c.Train).bind fun e =>
 (idx e.Stops c.Off).bind fun f =>
 some f.Arr

noncomputable def mBitsMul64 (a c : Int) : Option (Int × Int) :=
 (shN 32).bind fun _ =>
 (shN 32).bind fun _ =>
 (shN 32).bind fun _ =>
 (shN 32).bind fun _ =>
 (shN 32).bind fun _ =>
 some (IntKind.wrap .u64 ((IntKind.wrap .u64 ((IntKind.wrap .u64 ((shrI .u64 a 32) * (shrI .u64 c 32))) + (shrI .u64 (IntKind.wrap .u64 ((IntKind.wrap .u64 ((shrI .u64 a 32) * (andI .u64 c 4294967295))) + (shrI .u64 (IntKind.wrap .u64 ((andI .u64 a 4294967295) * (andI .u64 c 4294967295))) 32))) 32))) + (shrI .u64 (IntKind.wrap .u64 ((andI .u64 (IntKind.wrap .u64 ((IntKind.wrap .u64 ((shrI .u64 a 32) * (andI .u64 c 4294967295))) + (shrI .u64 (IntKind.wrap .u64 ((andI .u64 a 4294967295) * (andI .u64 c 4294967295))) 32))) 4294967295) + (IntKind.wrap .u64 ((andI .u64 a 4294967295) * (shrI .u64 c 32))))) 32)), IntKind.wrap .u64 (a * c))

noncomputable def mBitsMul (a c : Int) : Option (Int × Int) :=
 (mBitsMul64 a c).bind (unc2 fun d e =>
 some (d, e))

noncomputable def mSlicesRepeat_L612  : (Int × (List Int)) → Option ((Int × (List Int)) ⊕ ((List Int))) := unc2 fun c a =>
 if c < (a.length : Int) then (
 (cutS a c (a.length : Int)).bind fun _ =>
 (cutS a 0 c).bind fun d =>
 (chk (c + (cpyN c (a.length : Int) d))).bind fun _ =>
 some (.inl (c + (cpyN c (a.length : Int) d), cpyI a c (a.length : Int) d)))
 else (
 some (.inr a))

noncomputable def mSlicesRepeat (a : List Int) (d : Int) : Option ((List Int)) :=
 if d < 0 then (
 none)
 else (
 (mBitsMul (IntKind.wrap .u64 (a.length : Int)) (IntKind.wrap .u64 d)).bind (unc2 fun f e =>
 (if 0 < f then (
 some true)
 else (
 some (decide (9223372036854775807 < e)))).bind (fun g =>
 if g = true then (
 none)
 else (
 (mkLen 8 (IntKind.wrap .i64 e)).bind fun c =>
 (loopM mSlicesRepeat_L612 (cpyN 0 ((List.replicate c (0 : Int)).length : Int) a, cpyI (List.replicate c (0 : Int)) 0 ((List.replicate c (0 : Int)).length : Int) a)).bind (fun h =>
 some h)))))

noncomputable def mSlicesCollect (a : List GuideRide) : Option ((List GuideRide)) :=
 (mSlicesAppendSeq a []).bind fun c =>
 some c

noncomputable def mGuideReach_L8493 (g : ApiDay) (e : GuidePlace × Bool) : ((List Int)) → Option (((List Int)) ⊕ ((List Int))) := fun a =>
 ((idx g.Trains e.1.train).bind fun h =>
 (idx h.Stops e.1.off).bind fun c =>
 some (c.Station, c.Track, c.Arr, c.Dep)).bind (unc4 fun d _ f _ =>
 ((idx a d).bind fun i =>
 if i < 0 then (
 some true)
 else (
 (idx a d).bind fun j =>
 some (decide (f < j)))).bind (fun k =>
 if k = true then (
 (idx a d).bind fun _ =>
 some (.inl (put a d f)))
 else (
 some (.inl a))))

noncomputable def mGuideReach_L10285 (g : ApiDay) (e : GuidePlace × Bool) : ((List Int)) → Option (((List Int)) ⊕ ((List Int))) := fun a =>
 ((idx g.Trains e.1.train).bind fun h =>
 (idx h.Stops e.1.off).bind fun c =>
 some (c.Station, c.Track, c.Arr, c.Dep)).bind (unc4 fun d _ f _ =>
 ((idx a d).bind fun i =>
 if i < 0 then (
 some true)
 else (
 (idx a d).bind fun j =>
 some (decide (f < j)))).bind (fun k =>
 if k = true then (
 (idx a d).bind fun _ =>
 some (.inl (put a d f)))
 else (
 some (.inl a))))

noncomputable def mGuideReach_L12077 (g : ApiDay) (e : GuidePlace × Bool) : ((List Int)) → Option (((List Int)) ⊕ ((List Int))) := fun a =>
 ((idx g.Trains e.1.train).bind fun h =>
 (idx h.Stops e.1.off).bind fun c =>
 some (c.Station, c.Track, c.Arr, c.Dep)).bind (unc4 fun d _ f _ =>
 ((idx a d).bind fun i =>
 if i < 0 then (
 some true)
 else (
 (idx a d).bind fun j =>
 some (decide (f < j)))).bind (fun k =>
 if k = true then (
 (idx a d).bind fun _ =>
 some (.inl (put a d f)))
 else (
 some (.inl a))))

noncomputable def mGuideReach_L13869 (g : ApiDay) (e : GuidePlace × Bool) : ((List Int)) → Option (((List Int)) ⊕ ((List Int))) := fun a =>
 ((idx g.Trains e.1.train).bind fun h =>
 (idx h.Stops e.1.off).bind fun c =>
 some (c.Station, c.Track, c.Arr, c.Dep)).bind (unc4 fun d _ f _ =>
 ((idx a d).bind fun i =>
 if i < 0 then (
 some true)
 else (
 (idx a d).bind fun j =>
 some (decide (f < j)))).bind (fun k =>
 if k = true then (
 (idx a d).bind fun _ =>
 some (.inl (put a d f)))
 else (
 some (.inl a))))

noncomputable def mGuideReach (a : ApiDay) (c d e : Int) : Option (Int × (List Int)) :=
 (mGuideCheckLeast a e).bind fun f =>
 if f ≠ 0 then (
 some (f, []))
 else (
 (mGuideWithin c 0 11).bind fun h =>
 if h = true then (
 (mGuideWithin d 0 28800).bind fun i =>
 if i = true then (
 (mSlicesRepeat [(-1)] 12).bind fun j =>
 ((mGuideNetRides (⟨a, e⟩ : GuideNet) c d (-1)).bind fun k =>
 (mSlicesCollect k).bind fun l =>
 (mGuideNetEnds (⟨a, e⟩ : GuideNet) l).bind (unc4 fun m n o r =>
 some (m, n, o, r))).bind (unc4 fun s u v w =>
 ((ordM (fun p => forL (mGuideReach_L8493 a) p j) s).bind fun t => Sum.elim (fun x =>
 some x) (fun q => some q) t).bind (fun y =>
 (chk (0 + 1)).bind fun _ =>
 ((ordM (fun p => forL (mGuideReach_L10285 a) p y) u).bind fun t => Sum.elim (fun z =>
 some z) (fun q => some q) t).bind (fun A =>
 (chk (1 + 1)).bind fun _ =>
 ((ordM (fun p => forL (mGuideReach_L12077 a) p A) v).bind fun t => Sum.elim (fun B =>
 some B) (fun q => some q) t).bind (fun C =>
 (chk (2 + 1)).bind fun _ =>
 ((ordM (fun p => forL (mGuideReach_L13869 a) p C) w).bind fun t => Sum.elim (fun D =>
 some D) (fun q => some q) t).bind (fun g =>
 (chk (3 + 1)).bind fun _ =>
 (idx g c).bind fun _ =>
 some (0, put g c d)))))))
 else (
 some (2, [])))
 else (
 some (3, [])))

noncomputable def mGuideProfile_1 (a : GuidePoint) (c d e : Int) : Option (Bool) :=
 (if a.Dep = c ∧ a.Arr = d ∧ a.Rides = e then (
 some false)
 else (
 if c ≤ a.Dep then (
 if a.Arr ≤ d then (
 some (decide (a.Rides ≤ e)))
 else (
 some false))
 else (
 some false))).bind (fun f =>
 some f)

noncomputable def mSlicesIndexFunc_2_L64 (c d e : Int) (f : List GuidePoint) (a : Nat) : (Unit) → Option ((Unit) ⊕ (Int)) := fun _ =>
 (idx f (a : Int)).bind fun g =>
 (mGuideProfile_1 g c d e).bind fun h =>
 if h = true then (
 some (.inr (a : Int)))
 else (
 some (.inl ()))

noncomputable def mSlicesIndexFunc_2 (c d e : Int) (a : List GuidePoint) : Option (Int) :=
 (forM (mSlicesIndexFunc_2_L64 c d e a) a.length 0 ()).bind fun t => Sum.elim (fun _ =>
 some (-1)) (fun q => some q) t

noncomputable def mSlicesContainsFunc (a c d : Int) (e : List GuidePoint) : Option (Bool) :=
 (mSlicesIndexFunc_2 a c d e).bind fun f =>
 some (decide (0 ≤ f))

noncomputable def mGuideProfile_L154 (d : List GuidePoint) (e : Nat) : ((List GuidePoint)) → Option ((List GuidePoint)) := fun c =>
 (idx d (e : Int)).bind fun a =>
 (mSlicesContainsFunc a.Dep a.Arr a.Rides d).bind fun f =>
 if f = true then (
 some c)
 else (
 (room 24 (c.length + 1)).bind fun _ =>
 some (c ++ [a]))

noncomputable def mGuideProfile (a : ApiDay) (c d e : Int) : Option (Int × (List GuidePoint)) :=
 (mGuideCheck_2 a e c d []).bind fun f =>
 if f ≠ 0 then (
 some (f, []))
 else (
 (mGuideNetPoints (⟨a, e⟩ : GuideNet) c d).bind fun h =>
 ordM (fun g =>
 (forS (mGuideProfile_L154 g) g.length 0 ([] : List GuidePoint)).bind (fun i =>
 some (0, canB kGuidePoint i))) h)

noncomputable def mFishkeep2GuideMore_L989 (d : Int) (e : List GuidePoint) (f : Nat) : (Int) → Option (Int) := fun a =>
 (idx e (f : Int)).bind fun c =>
 (if d ≤ c.Dep then (
 if a < 0 then (
 some true)
 else (
 some (decide (c.Arr < a))))
 else (
 some false)).bind (fun g =>
 if g = true then (
 some c.Arr)
 else (
 some a))

noncomputable def mFishkeep2GuideMore (a : ApiDay) (n : ApiTrain) (e c f d : Int) : Option (Bool) :=
 (mFishkeep2AwakeGuide).bind fun o =>
 if o = true then (
 (mFishkeep2Guides).bind fun p =>
 if p = true then (
 ((mSlicesClone_2 a.Trains).bind fun k =>
 (room 64 (k.length + 1)).bind fun _ =>
 some (k ++ [n])).bind (fun h =>
 ((mFishref2GuideFault (⟨a.Trains, []⟩ : ApiDay)).bind fun q =>
 if q ≠ 0 then (
 some true)
 else (
 (mFishref2GuideFault (⟨h, []⟩ : ApiDay)).bind fun r =>
 if r ≠ 0 then (
 some true)
 else (
 (mFishref2SearchFault d e c f true true).bind fun s =>
 some (decide (s ≠ 0))))).bind (fun t =>
 if t = true then (
 some true)
 else (
 (mGuideEarliest (⟨a.Trains, []⟩ : ApiDay) e f c d).bind (unc2 fun i j =>
 (mGuideEarliest (⟨h, []⟩ : ApiDay) e f c d).bind (unc2 fun u l =>
 (if i = 0 then (
 if u ≠ 0 then (
 some true)
 else (
 (mFishref2JourneyFault (⟨a.Trains, []⟩ : ApiDay) (⟨j⟩ : GuideJourney) d true).bind fun v =>
 if v ≠ 0 then (
 some true)
 else (
 (mFishref2JourneyFault (⟨h, []⟩ : ApiDay) (⟨l⟩ : GuideJourney) d true).bind fun w =>
 if w ≠ 0 then (
 some true)
 else (
 (mFishref2Arrives (⟨h, []⟩ : ApiDay) (⟨l⟩ : GuideJourney)).bind fun x =>
 (mFishref2Arrives (⟨a.Trains, []⟩ : ApiDay) (⟨j⟩ : GuideJourney)).bind fun y =>
 some (decide (y < x))))))
 else (
 some false)).bind (fun z =>
 if z = true then (
 some false)
 else (
 (mGuideReach (⟨a.Trains, []⟩ : ApiDay) e f d).bind (unc2 fun A g =>
 (if A ≠ 0 then (
 some true)
 else (
 if (g.length : Int) ≠ 12 then (
 some true)
 else (
 if i = 0 then (
 (idx g c).bind fun B =>
 (mFishref2Arrives (⟨a.Trains, []⟩ : ApiDay) (⟨j⟩ : GuideJourney)).bind fun C =>
 if B ≠ C then (
 some true)
 else (
 if i ≠ 0 then (
 (idx g c).bind fun D =>
 some (decide (D ≠ (-1))))
 else (
 some false)))
 else (
 if i ≠ 0 then (
 (idx g c).bind fun E =>
 some (decide (E ≠ (-1))))
 else (
 some false))))).bind (fun F =>
 if F = true then (
 some false)
 else (
 (mGuideProfile (⟨a.Trains, []⟩ : ApiDay) e c d).bind (unc2 fun G H =>
 if G ≠ 0 then (
 some false)
 else (
 ordM (fun m =>
 (forS (mFishkeep2GuideMore_L989 f m) m.length 0 (-1)).bind (fun I =>
 (idx g c).bind fun J =>
 some (decide (I = J)))) H)))))))))))))
 else (
 some false))
 else (
 some false)

end Go.Proofs.YtckgfeglhjiflaaDoor
