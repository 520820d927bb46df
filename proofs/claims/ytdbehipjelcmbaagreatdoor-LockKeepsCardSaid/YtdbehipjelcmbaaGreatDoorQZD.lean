import Derived.Test.YtdbehipjelcmbaaGreatDoorF3
import Derived.Test.YtdbehipjelcmbaaGreatDoorQXZ
set_option linter.unusedVariables false
set_option linter.unusedSimpArgs false
set_option linter.unusedSectionVars false
namespace Go.Proofs.YtdbehipjelcmbaaGreatDoor
open Go.RowKit Go.Fp
structure ApiSection where
  Kind : Int
  Length : Int
  Grade : Int
  Speed : Int
  Slow : Int
  Station : Int
  Axles : Bool
  deriving DecidableEq
def rApiSection : RT ApiSection := (RT.cat (RT.on (RT.int .i64) ApiSection.Kind) (RT.cat (RT.on (RT.int .i64) ApiSection.Length) (RT.cat (RT.on (RT.int .i64) ApiSection.Grade) (RT.cat (RT.on (RT.int .i64) ApiSection.Speed) (RT.cat (RT.on (RT.int .i64) ApiSection.Slow) (RT.cat (RT.on (RT.int .i64) ApiSection.Station) (RT.on RT.bool ApiSection.Axles)))))))
structure ApiLink where
  A : Int
  EndA : Int
  B : Int
  EndB : Int
  deriving DecidableEq
def rApiLink : RT ApiLink := (RT.cat (RT.on (RT.int .i64) ApiLink.A) (RT.cat (RT.on (RT.int .i64) ApiLink.EndA) (RT.cat (RT.on (RT.int .i64) ApiLink.B) (RT.on (RT.int .i64) ApiLink.EndB))))
structure ApiSignal where
  Section : Int
  End : Int
  deriving DecidableEq
def rApiSignal : RT ApiSignal := (RT.cat (RT.on (RT.int .i64) ApiSignal.Section) (RT.on (RT.int .i64) ApiSignal.End))
structure ApiGate where
  Section : Int
  Close : Int
  deriving DecidableEq
def rApiGate : RT ApiGate := (RT.cat (RT.on (RT.int .i64) ApiGate.Section) (RT.on (RT.int .i64) ApiGate.Close))
structure ApiNet where
  Stations : (List ByteArray)
  Sections : (List ApiSection)
  Links : (List ApiLink)
  Signals : (List ApiSignal)
  Gates : (List ApiGate)
def rApiNet : RT ApiNet := (RT.cat (RT.on (RT.list RT.str) ApiNet.Stations) (RT.cat (RT.on (RT.list rApiSection) ApiNet.Sections) (RT.cat (RT.on (RT.list rApiLink) ApiNet.Links) (RT.cat (RT.on (RT.list rApiSignal) ApiNet.Signals) (RT.on (RT.list rApiGate) ApiNet.Gates)))))
structure Fishkeep1Call where
  Kind : Int
  A : Int
  B : Int
  C : Int
  deriving DecidableEq
def rFishkeep1Call : RT Fishkeep1Call := (RT.cat (RT.on (RT.int .i64) Fishkeep1Call.Kind) (RT.cat (RT.on (RT.int .i64) Fishkeep1Call.A) (RT.cat (RT.on (RT.int .i64) Fishkeep1Call.B) (RT.on (RT.int .i64) Fishkeep1Call.C))))
structure LineEnd where
  section_ : Int
  end_ : Int
  deriving DecidableEq
def z2a : RT LineEnd := (RT.cat (RT.on (RT.int .i64) LineEnd.section_) (RT.on (RT.int .i64) LineEnd.end_))
structure ApiStep where
  Section : Int
  In : Int
  Out : Int
  deriving DecidableEq
def w6 : RT ApiStep := (RT.cat (RT.on (RT.int .i64) ApiStep.Section) (RT.cat (RT.on (RT.int .i64) ApiStep.In) (RT.on (RT.int .i64) ApiStep.Out)))
structure ApiRoute where
  From : Int
  To : Int
  Steps : (List ApiStep)
def j3 : RT ApiRoute := (RT.cat (RT.on (RT.int .i64) ApiRoute.From) (RT.cat (RT.on (RT.int .i64) ApiRoute.To) (RT.on (RT.list w6) ApiRoute.Steps)))
structure LockBody where
  axles : Int
  disturbed : Bool
  position : Int
  moving : Int
  failed : Bool
  deriving DecidableEq
def z7 : RT LockBody := (RT.cat (RT.on (RT.int .i64) LockBody.axles) (RT.cat (RT.on RT.bool LockBody.disturbed) (RT.cat (RT.on (RT.int .i64) LockBody.position) (RT.cat (RT.on (RT.int .i64) LockBody.moving) (RT.on RT.bool LockBody.failed)))))
structure LockGate where
  left : Int
  wanted : Bool
  failed : Bool
  deriving DecidableEq
def z8 : RT LockGate := (RT.cat (RT.on (RT.int .i64) LockGate.left) (RT.cat (RT.on RT.bool LockGate.wanted) (RT.on RT.bool LockGate.failed)))
structure ApiNeed where
  Kind : Int
  Place : Int
  Position : Int
  At : Int
  deriving DecidableEq
def z4 : RT ApiNeed := (RT.cat (RT.on (RT.int .i64) ApiNeed.Kind) (RT.cat (RT.on (RT.int .i64) ApiNeed.Place) (RT.cat (RT.on (RT.int .i64) ApiNeed.Position) (RT.on (RT.int .i64) ApiNeed.At))))
structure LockLocked where
  Route : ApiRoute
  needs : (List ApiNeed)
  seen : (List Bool)
  gone : (List Bool)
  laps : Bool
  sight : Bool
  leave : Int
  clock : Int
  number : Int
def j1u : RT LockLocked := (RT.cat (RT.on j3 LockLocked.Route) (RT.cat (RT.on (RT.list z4) LockLocked.needs) (RT.cat (RT.on (RT.list RT.bool) LockLocked.seen) (RT.cat (RT.on (RT.list RT.bool) LockLocked.gone) (RT.cat (RT.on RT.bool LockLocked.laps) (RT.cat (RT.on RT.bool LockLocked.sight) (RT.cat (RT.on (RT.int .i64) LockLocked.leave) (RT.cat (RT.on (RT.int .i64) LockLocked.clock) (RT.on (RT.int .i64) LockLocked.number)))))))))
def q9 (w : World) (cs : List Value) (x : LockLocked) (hs : Hp) : Prop := ∃ (A1 : Option Addr) (c1 : Nat) (A2 : Option Addr) (c2 : Nat) (A3 : Option Addr) (c3 : Nat) (hs3 : Hp) (A4 : Option Addr) (c4 : Nat) (hs4 : Hp), cs = [.int .i64 x.Route.From, .int .i64 x.Route.To, .slice A1 x.Route.Steps.length c1, .slice A2 x.needs.length c2, .slice A3 x.seen.length c3, .slice A4 x.gone.length c4, .bool x.laps, .bool x.sight, .int .i64 x.leave, .int .i64 x.clock, .int .i64 x.number] ∧ FZ w6 w A1 c1 x.Route.Steps ∧ FZ z4 w A2 c2 x.needs ∧ OS 4 (OT.fr RT.bool) w (.slice A3 x.seen.length c3) x.seen hs3 ∧ OS 4 (OT.fr RT.bool) w (.slice A4 x.gone.length c4) x.gone hs4 ∧ hs = hs3 ++ hs4
theorem Q1 : KM q9 := ⟨fun hk ⟨A1, c1, A2, c2, A3, c3, hs3, A4, c4, hs4, h0, f0, f1, f2, f3, h1⟩ => ⟨A1, c1, A2, c2, A3, c3, hs3, A4, c4, hs4, h0, f0.mono hk, f1.mono hk, f2.mono hk, f3.mono hk, h1⟩⟩
abbrev LK : Type := List (Int × (Option Int))
abbrev LA : Type := List (Int × LockLocked)
noncomputable def q0R (a c : ByteArray) : Option (Bool) :=
 (if (c.size : Int) ≤ (a.size : Int) then (
 (chk ((a.size : Int) - (c.size : Int))).bind fun _ =>
 (j1t a ((a.size : Int) - (c.size : Int)) (a.size : Int)).bind fun d =>
 some (sEq d c))
 else (
 some false)).bind (fun e =>
 some e)
noncomputable def q0S (a c : ByteArray) : Option (ByteArray × Bool) :=
 (q0R a c).bind fun d =>
 if d = true then (
 (chk ((a.size : Int) - (c.size : Int))).bind fun _ =>
 (j1t a 0 ((a.size : Int) - (c.size : Int))).bind fun e =>
 some (e, true))
 else (
 some (a, false))
noncomputable def q2C (a c : ByteArray) : Option (ByteArray × Bool) :=
 (q0S a c).bind (K1 fun d e =>
 some (d, e))
noncomputable def q0Q (a : ByteArray) (c : Int) : Option (Int) :=
 some (j0v a c)
noncomputable def q2B (c a : ByteArray) : Option (Int) :=
 (if (a.size : Int) = 0 then (
 some true)
 else (
 some (sEq a c))).bind (fun d =>
 if d = true then (
 some 0)
 else (
 if (a.size : Int) = 1 then (
 (j4E a 0).bind fun e =>
 (q0Q c e).bind fun f =>
 some f)
 else (
 if (c.size : Int) ≤ (a.size : Int) then (
 some (-1))
 else (
 none))))
noncomputable def q3u (a c : ByteArray) : Option (Int) :=
 (q2B a c).bind fun d =>
 some d
noncomputable def q4L (a : ByteArray) : (ByteArray × Int) → Option ((ByteArray × Int) ⊕ (Int)) := K1 fun c d =>
 (q3u c a).bind fun e =>
 if e = (-1) then (
 some (.inr d))
 else (
 (chk (d + 1)).bind fun _ =>
 (chk (e + (a.size : Int))).bind fun _ =>
 (j1t c (e + (a.size : Int)) (c.size : Int)).bind fun f =>
 some (.inl (f, d + 1)))
noncomputable def q4Y (c a : ByteArray) : Option (Int) :=
 if (a.size : Int) = 0 then (
 none)
 else (
 if (a.size : Int) = 1 then (
 (j4E a 0).bind fun d =>
 some (j0w c d))
 else (
 q7i (q4L a) (c, 0)))
noncomputable def Z0 (h f : ByteArray) (g i : Int) : (ByteArray × Int × (List ByteArray)) → Option ((ByteArray × Int × (List ByteArray)) ⊕ (ByteArray × Int × (List ByteArray))) := q4G fun c a e =>
 if a < ((min i ((h.size : Int) + 1)) - 1) then (
 (q3u c f).bind fun d =>
 if d < 0 then (
 some (.inr (c, a, e)))
 else (
 (chk (d + g)).bind fun _ =>
 (j1t c 0 (d + g)).bind fun j =>
 (idx e a).bind fun _ =>
 (chk (d + (f.size : Int))).bind fun _ =>
 (j1t c (d + (f.size : Int)) (c.size : Int)).bind fun k =>
 (chk (a + 1)).bind fun _ =>
 some (.inl (k, a + 1, put e a j))))
 else (
 some (.inr (c, a, e)))
noncomputable def q0n (a d : ByteArray) (i e : Int) : Option ((List ByteArray)) :=
 if e = 0 then (
 some [])
 else (
 if (sEq d (ByteArray.mk #[])) = true then (
 none)
 else (
 (if e < 0 then (
 (q4Y a d).bind fun g =>
 (chk (g + 1)).bind fun _ =>
 some (g + 1))
 else (
 some e)).bind (fun f =>
 (chk ((a.size : Int) + 1)).bind fun _ =>
 (z0H 16 (min f ((a.size : Int) + 1))).bind fun j =>
 (chk ((min f ((a.size : Int) + 1)) - 1)).bind fun _ =>
 (q7i (Z0 a d i f) (a, 0, List.replicate j (ByteArray.empty : ByteArray))).bind (q4G fun k c h =>
 (idx h c).bind fun _ =>
 (chk (c + 1)).bind fun _ =>
 (z6w (put h c k) 0 (c + 1)).bind fun l =>
 some l))))
noncomputable def J8 (a c : ByteArray) : Option ((List ByteArray)) :=
 (q0n a c 0 (-1)).bind fun d =>
 some d
noncomputable def P0 (c : List ByteArray) (d : Nat) : ((List (List ByteArray))) → Option ((List (List ByteArray))) := fun a =>
 (idx c (d : Int)).bind fun e =>
 (J8 e (ByteArray.mk #[32])).bind fun f =>
 (z0G 24 (a.length + 1)).bind fun _ =>
 some (a ++ [f])
noncomputable def q3F (a : ByteArray) : Option (Bool × (List (List ByteArray))) :=
 if (sEq a (ByteArray.mk #[])) = true then (
 some (true, []))
 else (
 (q2C a (ByteArray.mk #[10])).bind (K1 fun d e =>
 (J8 d (ByteArray.mk #[10])).bind fun c =>
 (q4M (P0 c) c.length 0 ([] : List (List ByteArray))).bind (fun f =>
 some (e, f))))
noncomputable def q3y (c : ByteArray) (d : Nat) : (Unit) → Option ((Unit) ⊕ (Bool)) := fun _ =>
 (idx (q1s c) (d : Int)).bind fun a =>
 (if a < 97 then (
 some true)
 else (
 some (decide (122 < a)))).bind (fun e =>
 if e = true then (
 some (.inr false))
 else (
 some (.inl ())))
noncomputable def q5I (a : ByteArray) : Option (Bool) :=
 (chk (a.size : Int)).bind fun _ =>
 (forM (q3y a) ((q1s a).length) 0 ()).bind fun t => Sum.elim (fun _ =>
 (if 1 ≤ (a.size : Int) then (
 some (decide ((a.size : Int) ≤ 12)))
 else (
 some false)).bind (fun c =>
 some c)) (fun q => some q) t
noncomputable def q1J (c : List ByteArray) (d : ByteArray) (a : Nat) : (Unit) → Option ((Unit) ⊕ (Int)) := fun _ =>
 (idx c (a : Int)).bind fun e =>
 if (sEq d e) = true then (
 some (.inr (a : Int)))
 else (
 some (.inl ()))
noncomputable def q4n (a : List ByteArray) (c : ByteArray) : Option (Int) :=
 (forM (q1J a c) a.length 0 ()).bind fun t => Sum.elim (fun _ =>
 some (-1)) (fun q => some q) t
noncomputable def q0T (a : List ByteArray) (c : ByteArray) : Option (Bool) :=
 (q4n a c).bind fun d =>
 some (decide (0 ≤ d))
noncomputable def q3O (a : Int) : Option (Int) :=
 if a = 1 then (
 some 2)
 else (
 if a = 2 then (
 some 3)
 else (
 if a = 3 then (
 some 4)
 else (
 some 0)))
noncomputable def Q8 (a c d : Int) : Option (Bool) :=
 (if c ≤ a then (
 some (decide (a ≤ d)))
 else (
 some false)).bind (fun e =>
 some e)
noncomputable def P4 (a : ApiSection) (c : Int) : Option (Int) :=
 (q3O a.Kind).bind fun d =>
 if d = 0 then (
 some 1)
 else (
 ((Q8 a.Length 10 3000).bind fun e =>
 if e = true then (
 (Q8 a.Grade (-40) 40).bind fun f =>
 if f = true then (
 (Q8 a.Speed 300 6000).bind fun g =>
 some (!g))
 else (
 some true))
 else (
 some true)).bind (fun h =>
 if h = true then (
 some 2)
 else (
 (if a.Kind = 2 then (
 (Q8 a.Slow 300 a.Speed).bind fun i =>
 if i = true then (
 if a.Kind = 1 then (
 (Q8 a.Station 0 c).bind fun j =>
 some (!j))
 else (
 some false))
 else (
 some true))
 else (
 if a.Kind = 1 then (
 (Q8 a.Station 0 c).bind fun k =>
 some (!k))
 else (
 some false))).bind (fun l =>
 if l = true then (
 some 2)
 else (
 (if a.Slow ≠ 0 then (
 if a.Kind = 2 then (
 if a.Station ≠ 0 then (
 if a.Kind = 1 then (
 if a.Grade ≠ 0 then (
 some (decide (a.Kind = 3)))
 else (
 some false))
 else (
 some true))
 else (
 if a.Grade ≠ 0 then (
 some (decide (a.Kind = 3)))
 else (
 some false)))
 else (
 some true))
 else (
 if a.Station ≠ 0 then (
 if a.Kind = 1 then (
 if a.Grade ≠ 0 then (
 some (decide (a.Kind = 3)))
 else (
 some false))
 else (
 some true))
 else (
 if a.Grade ≠ 0 then (
 some (decide (a.Kind = 3)))
 else (
 some false)))).bind (fun m =>
 if m = true then (
 some 1)
 else (
 some 0)))))))
noncomputable def q5a (a : ApiNet) (c : LineEnd) : Option (Bool) :=
 ((chk ((a.Sections.length : Int) - 1)).bind fun _ =>
 (Q8 c.section_ 0 ((a.Sections.length : Int) - 1)).bind fun e =>
 if e = true then (
 (idx a.Sections c.section_).bind fun f =>
 (q3O f.Kind).bind fun d =>
 (chk (d - 1)).bind fun _ =>
 (Q8 c.end_ 0 (d - 1)).bind fun g =>
 some g)
 else (
 some false)).bind (fun h =>
 some h)
noncomputable def q5J (a : Int) : Option (Bool) :=
 some (decide (a ≠ a))
noncomputable def J1 (a c : Int) : Option (Int) :=
 (q5J a).bind fun e =>
 (q5J c).bind fun d =>
 if e = true then (
 if d = true then (
 some 0)
 else (
 some (-1)))
 else (
 if d = true then (
 some 1)
 else (
 if a < c then (
 some (-1))
 else (
 if c < a then (
 some 1)
 else (
 some 0))))
noncomputable def q6n (c : List Int) (d : Nat) : (Unit) → Option ((Unit) ⊕ (Int)) := fun _ =>
 (idx c (d : Int)).bind fun a =>
 if a ≠ 0 then (
 some (.inr a))
 else (
 some (.inl ()))
noncomputable def q7h (a : List Int) : Option (Int) :=
 (forM (q6n a) a.length 0 ()).bind fun t => Sum.elim (fun _ =>
 some 0) (fun q => some q) t
noncomputable def F5 (c : ApiNet) (d : Nat) : ((List (LineEnd × Bool))) → Option (((List (LineEnd × Bool))) ⊕ (Int)) := fun e =>
 (idx c.Links (d : Int)).bind fun a =>
 (some ()).bind (fun _ =>
 ((q5a c (⟨a.A, a.EndA⟩ : LineEnd)).bind fun g =>
 if g = true then (
 (q5a c (⟨a.B, a.EndB⟩ : LineEnd)).bind fun h =>
 some (!h))
 else (
 some true)).bind (fun i =>
 if i = true then (
 some (.inr 3))
 else (
 if a.A = a.B then (
 some (.inr 1))
 else (
 if a.B < a.A then (
 some (.inr 5))
 else (
 (if 0 < (d : Int) then (
 (chk ((d : Int) - 1)).bind fun _ =>
 (idx c.Links ((d : Int) - 1)).bind fun f =>
 ((J1 f.A a.A).bind fun j =>
 (J1 f.EndA a.EndA).bind fun k =>
 (q7h [j, k]).bind fun l =>
 some (decide (0 ≤ l))).bind (fun m =>
 if m = true then (
 some (.inr (.inr 5)))
 else (
 some (.inl ()))))
 else (
 some (.inl ()))).bind fun t => Sum.elim (fun _ =>
 ((some (P8 e (⟨a.A, a.EndA⟩ : LineEnd) false)).bind fun n =>
 if n = true then (
 some true)
 else (
 (some (P8 e (⟨a.B, a.EndB⟩ : LineEnd) false)).bind fun o =>
 some o)).bind (fun p =>
 if p = true then (
 some (.inr 6))
 else (
 some (.inl (F2 (F2 e (⟨a.A, a.EndA⟩ : LineEnd) true) (⟨a.B, a.EndB⟩ : LineEnd) true))))) (fun q => some q) t)))))
noncomputable def q1a (a : ApiNet) : Option (Int) :=
 (forM (F5 a) a.Links.length 0 (([] : List (LineEnd × Bool)) : List (LineEnd × Bool))).bind fun t => Sum.elim (fun _ =>
 some 0) (fun q => some q) t
noncomputable def q0Z (d : ApiNet) (c : LineEnd) (e : Nat) : (Unit) → Option ((Unit) ⊕ (Int × Int × Bool)) := fun _ =>
 (idx d.Links (e : Int)).bind fun a =>
 (if a.A = c.section_ then (
 some (decide (a.EndA = c.end_)))
 else (
 some false)).bind (fun f =>
 if f = true then (
 some (.inr (a.B, a.EndB, true)))
 else (
 (if a.B = c.section_ then (
 some (decide (a.EndB = c.end_)))
 else (
 some false)).bind (fun g =>
 if g = true then (
 some (.inr (a.A, a.EndA, true)))
 else (
 some (.inl ())))))
noncomputable def W0 (a : ApiNet) (c : LineEnd) : Option (Int × Int × Bool) :=
 (forM (q0Z a c) a.Links.length 0 ()).bind fun t => Sum.elim (fun _ =>
 some (0, 0, false)) (fun q => some q) t
noncomputable def X9 (c : ApiNet) (d : Nat) : (Unit) → Option ((Unit) ⊕ (Int)) := fun _ =>
 (idx c.Signals (d : Int)).bind fun a =>
 (q5a c (⟨a.Section, a.End⟩ : LineEnd)).bind fun f =>
 if f = true then (
 (W0 c (⟨a.Section, a.End⟩ : LineEnd)).bind (q4G fun _ _ g =>
 (if g = true then (
 (idx c.Sections a.Section).bind fun h =>
 some (decide (h.Kind ≠ 1)))
 else (
 some true)).bind (fun i =>
 if i = true then (
 some (.inr 1))
 else (
 if 0 < (d : Int) then (
 (chk ((d : Int) - 1)).bind fun _ =>
 (idx c.Signals ((d : Int) - 1)).bind fun e =>
 ((J1 e.Section a.Section).bind fun j =>
 (J1 e.End a.End).bind fun k =>
 (q7h [j, k]).bind fun l =>
 some (decide (0 ≤ l))).bind (fun m =>
 if m = true then (
 some (.inr 5))
 else (
 some (.inl ()))))
 else (
 some (.inl ()))))))
 else (
 some (.inr 3))
noncomputable def P3 (a : ApiNet) : Option (Int) :=
 (forM (X9 a) a.Signals.length 0 ()).bind fun t => Sum.elim (fun _ =>
 some 0) (fun q => some q) t
noncomputable def F6 (a : ApiNet) (c : Nat) : (Unit) → Option ((Unit) ⊕ (Int)) := fun _ =>
 (idx a.Gates (c : Int)).bind fun d =>
 (chk ((a.Sections.length : Int) - 1)).bind fun _ =>
 (Q8 d.Section 0 ((a.Sections.length : Int) - 1)).bind fun e =>
 if e = true then (
 (idx a.Sections d.Section).bind fun f =>
 if f.Kind ≠ 1 then (
 some (.inr 1))
 else (
 (Q8 d.Close 1 12).bind fun g =>
 if g = true then (
 (if 0 < (c : Int) then (
 (chk ((c : Int) - 1)).bind fun _ =>
 (idx a.Gates ((c : Int) - 1)).bind fun h =>
 some (decide (d.Section ≤ h.Section)))
 else (
 some false)).bind (fun i =>
 if i = true then (
 some (.inr 5))
 else (
 some (.inl ()))))
 else (
 some (.inr 2))))
 else (
 some (.inr 3))
noncomputable def q1b (a : ApiNet) : Option (Int) :=
 (forM (F6 a) a.Gates.length 0 ()).bind fun t => Sum.elim (fun _ =>
 some 0) (fun q => some q) t
noncomputable def q2o (a : ApiNet) (c : Nat) : (Unit) → Option ((Unit) ⊕ (Int)) := fun _ =>
 if (c : Int) = (0 : Int) then (
 (q1a a).bind fun d =>
 if d ≠ 0 then (
 some (.inr d))
 else (
 some (.inl ())))
 else (
 if (c : Int) = (1 : Int) then (
 (P3 a).bind fun e =>
 if e ≠ 0 then (
 some (.inr e))
 else (
 some (.inl ())))
 else (
 if (c : Int) = (2 : Int) then (
 (q1b a).bind fun f =>
 if f ≠ 0 then (
 some (.inr f))
 else (
 some (.inl ())))
 else (
 none)))
noncomputable def q2p (a : ApiNet) (d : Nat) : (Unit) → Option ((Unit) ⊕ (Int)) := fun _ =>
 (idx a.Sections (d : Int)).bind fun e =>
 (P4 e (a.Stations.length : Int)).bind fun c =>
 if c ≠ 0 then (
 some (.inr c))
 else (
 some (.inl ()))
noncomputable def q2q (a : ApiNet) (c : Nat) : (Unit) → Option ((Unit) ⊕ (Int)) := fun _ =>
 (idx a.Stations (c : Int)).bind fun d =>
 (q5I d).bind fun e =>
 if e = true then (
 (z6w a.Stations 0 (c : Int)).bind fun f =>
 (q0T f d).bind fun g =>
 if g = true then (
 some (.inr 6))
 else (
 some (.inl ())))
 else (
 some (.inr 1))
noncomputable def Y4 (a : ApiNet) : Option (Int) :=
 if (a.Sections.length : Int) = 0 then (
 some 1)
 else (
 (if 12 < (a.Stations.length : Int) then (
 some true)
 else (
 if 60 < (a.Sections.length : Int) then (
 some true)
 else (
 if 90 < (a.Links.length : Int) then (
 some true)
 else (
 if 40 < (a.Signals.length : Int) then (
 some true)
 else (
 some (decide (8 < (a.Gates.length : Int)))))))).bind (fun c =>
 if c = true then (
 some 4)
 else (
 (forM (q2q a) a.Stations.length 0 ()).bind fun t => Sum.elim (fun _ =>
 (forM (q2p a) a.Sections.length 0 ()).bind fun t => Sum.elim (fun _ =>
 (forM (q2o a) 3 0 ()).bind fun t => Sum.elim (fun _ =>
 some 0) (fun q => some q) t) (fun q => some q) t) (fun q => some q) t)))
noncomputable def q6z (a : List (List ByteArray)) (c : Nat) : (Unit) → Option ((Unit) ⊕ ((List ByteArray) × (List ApiSection) × (List ApiLink) × (List ApiSignal) × (List ApiGate) × Int)) := fun _ =>
 (idx a (c : Int)).bind fun _ =>
 none
noncomputable def q7g (a : ByteArray) : Option ((List ByteArray) × (List ApiSection) × (List ApiLink) × (List ApiSignal) × (List ApiGate) × Int) :=
 if 20000 < (a.size : Int) then (
 some ([], [], [], [], [], 4))
 else (
 (q3F a).bind (K1 fun e c =>
 if e = true then (
 (forM (q6z c) c.length 0 ()).bind fun t => Sum.elim (fun _ =>
 (Y4 (⟨[], [], [], [], []⟩ : ApiNet)).bind fun d =>
 if d ≠ 0 then (
 some ([], [], [], [], [], d))
 else (
 some ([], [], [], [], [], 0))) (fun q => some q) t)
 else (
 some ([], [], [], [], [], 10))))
noncomputable def J7 : Option (Bool) :=
 (q7g (ByteArray.mk #[120])).bind (j5A fun _ _ _ _ _ a =>
 some (decide (a ≠ 0)))
noncomputable def q1G (a c : Int) : Option ((List Int)) :=
 (if a = 2 then (
 some (decide (c = 0)))
 else (
 some false)).bind (fun d =>
 if d = true then (
 some [1, 2])
 else (
 if a = 2 then (
 some [0])
 else (
 some [z4V .i64 c 1])))
noncomputable def q0t (a : ApiNet) (c : LineEnd) : Option ((List ApiStep)) :=
 (W0 a c).bind (q4G fun x y q => if q = true then (idx a.Sections x).bind fun p => (q1G p.Kind y).bind fun o => some (o.map fun k => (⟨x, y, k⟩ : ApiStep)) else some [])
noncomputable def q3x (a : ApiStep) (c : Int) : Option (Bool) :=
 some (decide (a.Section = c))
noncomputable def F3 (c : List ApiStep) (d : Int) (a : Nat) : (Unit) → Option ((Unit) ⊕ (Int)) := fun _ =>
 (idx c (a : Int)).bind fun e =>
 (q3x e d).bind fun f =>
 if f = true then (
 some (.inr (a : Int)))
 else (
 some (.inl ()))
noncomputable def q1K (a : List ApiStep) (c : Int) : Option (Int) :=
 (forM (F3 a c) a.length 0 ()).bind fun t => Sum.elim (fun _ =>
 some (-1)) (fun q => some q) t
noncomputable def q0c (a : List ApiStep) (c : Int) : Option (Bool) :=
 (q1K a c).bind fun d =>
 some (decide (0 ≤ d))
noncomputable def Z9 (a : List ApiStep) (c : Int) : Option (Bool) :=
 (q0c a c).bind fun d =>
 some d
noncomputable def Y3 (_ : List ByteArray) (_ : List ApiSection) (_ : List ApiLink) (_ : List ApiSignal) (_ : List ApiGate) (a : Int) (c : Bool) (_ : List ApiRoute) : Option (Int × Bool) :=
 (chk (a + 1)).bind fun _ =>
 if c = true then (
 some (a + 1, true))
 else (
 some (a + 1, decide (80 < (a + 1))))
noncomputable def q2V (a : List ApiStep) : Option ((List ApiStep)) :=
 (z0G 24 a.length).bind fun _ => some a
noncomputable def q0D (e : List ApiSignal) (a : ApiSignal) (c : Nat) : (Unit) → Option ((Unit) ⊕ (Int)) := fun _ =>
 (idx e (c : Int)).bind fun d =>
 if a.Section = d.Section ∧ a.End = d.End then (
 some (.inr (c : Int)))
 else (
 some (.inl ()))
noncomputable def q2L (a : List ApiSignal) (c : ApiSignal) : Option (Int) :=
 (forM (q0D a c) a.length 0 ()).bind fun t => Sum.elim (fun _ =>
 some (-1)) (fun q => some q) t
noncomputable def H8 (c : ApiNet) (a : LineEnd) : Option (Int) :=
 (q2L c.Signals (⟨a.section_, a.end_⟩ : ApiSignal)).bind fun d =>
 some d
noncomputable def w7 (l : Int) (m : List ApiStep) (d : List ByteArray) (e : List ApiSection) (f : List ApiLink) (g : List ApiSignal) (h : List ApiGate) (q : Int) (rcmLineFinderGrow : (Int) → ((List ApiStep)) → (LineEnd) → ((List ByteArray)) → ((List ApiSection)) → ((List ApiLink)) → ((List ApiSignal)) → ((List ApiGate)) → (Int) → (Bool) → ((List ApiRoute)) → Option (Int × Bool × (List ApiRoute))) (a : ApiStep) : (Int × Bool × (List ApiRoute)) → Option ((Int × Bool × (List ApiRoute)) ⊕ (Int × Bool × (List ApiRoute))) := q4G fun i j c =>
 if j = true then (
 some (.inr (i, j, c)))
 else (
 (if a.Section = q then (
 some true)
 else (
 (Z9 m a.Section).bind fun r =>
 some r)).bind (fun s =>
 if s = true then (
 (Y3 d e f g h i j c).bind (K1 fun t u =>
 some (.inr (t, u, c))))
 else (
 ((q2V m).bind fun n =>
 (z0G 24 (n.length + 1)).bind fun _ =>
 some (n ++ [a])).bind (fun k =>
 if 16 < (k.length : Int) then (
 some (.inr (i, true, c)))
 else (
 (H8 (⟨d, e, f, g, h⟩ : ApiNet) (⟨a.Section, a.Out⟩ : LineEnd)).bind fun o =>
 ((W0 (⟨d, e, f, g, h⟩ : ApiNet) (⟨a.Section, a.Out⟩ : LineEnd)).bind (q4G fun _ _ v =>
 some v)).bind (fun w =>
 (if w = true then (
 some (decide (o < 0)))
 else (
 some false)).bind (fun x =>
 if x = true then (
 (rcmLineFinderGrow l k (⟨a.Section, a.Out⟩ : LineEnd) d e f g h i j c).bind (q4G fun y z A =>
 some (.inl (y, z, A))))
 else (
 ((z0G 40 (c.length + 1)).bind fun _ =>
 some (c ++ [(⟨l, o, k⟩ : ApiRoute)])).bind (fun p =>
 (Y3 d e f g h i j p).bind (K1 fun B C =>
 some (.inl (B, C, p))))))))))))
noncomputable def k7 : Nat → (Int) → ((List ApiStep)) → (LineEnd) → ((List ByteArray)) → ((List ApiSection)) → ((List ApiLink)) → ((List ApiSignal)) → ((List ApiGate)) → (Int) → (Bool) → ((List ApiRoute)) → Option (Int × Bool × (List ApiRoute))
 | 0 => fun _ _ _ _ _ _ _ _ _ _ _ => none
 | N + 1 => fun c h i d e f a g j k l =>
 ((idx a c).bind fun m =>
 some m.Section).bind (fun n =>
 (q0t (⟨d, e, f, a, g⟩ : ApiNet) i).bind fun o =>
 (q4f (w7 c h d e f a g n (k7 N)) o (j, k, l)).bind fun t => Sum.elim (q4G fun p r s =>
 some (p, r, s)) (fun q => some q) t)
noncomputable def q0J (a : ApiNet) (c : Nat) : (Int × Bool × (List ApiRoute)) → Option (Int × Bool × (List ApiRoute)) := q4G fun e f g =>
 (idx a.Signals (c : Int)).bind fun d =>
 (lim (fun N => k7 N (c : Int) [] (⟨d.Section, d.End⟩ : LineEnd) a.Stations a.Sections a.Links a.Signals a.Gates e f g)).bind (q4G fun h i j =>
 some (h, i, j))
noncomputable def q2m (a : ApiNet) : Option (Int × (List ApiRoute)) :=
 (q4M (q0J a) a.Signals.length 0 ((0, false, []) : Int × Bool × (List ApiRoute))).bind (q4G fun _ c d =>
 if c = true then (
 some (4, []))
 else (
 some (0, d)))
noncomputable def G8 (a : ApiNet) : Option (Int × (List ApiRoute)) :=
 (Y4 a).bind fun c =>
 if c ≠ 0 then (
 some (c, []))
 else (
 (q2m a).bind (K1 fun d e =>
 some (d, e)))
noncomputable def q2R (a : List ByteArray) : Option ((List ByteArray)) :=
 (z0G 16 a.length).bind fun _ => some a
noncomputable def q2Q (a : List ApiSection) : Option ((List ApiSection)) :=
 (z0G 56 a.length).bind fun _ => some a
noncomputable def q2P (a : List ApiLink) : Option ((List ApiLink)) :=
 (z0G 32 a.length).bind fun _ => some a
noncomputable def q2O (a : List ApiSignal) : Option ((List ApiSignal)) :=
 (z0G 16 a.length).bind fun _ => some a
noncomputable def q2N (a : List ApiGate) : Option ((List ApiGate)) :=
 (z0G 16 a.length).bind fun _ => some a
noncomputable def q7f (a : ApiNet) : Option ((List ByteArray) × (List ApiSection) × (List ApiLink) × (List ApiSignal) × (List ApiGate)) :=
 ((q2R a.Stations).bind fun c =>
 (q2Q a.Sections).bind fun d =>
 (q2P a.Links).bind fun e =>
 (q2O a.Signals).bind fun f =>
 (q2N a.Gates).bind fun g =>
 some (c, d, e, f, g)).bind (j1d fun h i j k l =>
 some (h, i, j, k, l))
noncomputable def q4Z (c : List Int) (a : List ApiRoute) (d : Nat) : (Unit) → Option ((Unit) ⊕ (Int × (List ApiRoute))) := fun _ =>
 (idx c (d : Int)).bind fun e =>
 (chk ((a.length : Int) - 1)).bind fun _ =>
 (Q8 e 0 ((a.length : Int) - 1)).bind fun f =>
 if f = true then (
 some (.inl ()))
 else (
 some (.inr (3, [])))
noncomputable def q5H (e : ApiNet) (a : List Int) : Option (Int × (List ApiRoute)) :=
 (G8 e).bind (K1 fun c d =>
 if c ≠ 0 then (
 some (c, []))
 else (
 (forM (q4Z a d) a.length 0 ()).bind fun t => Sum.elim (fun _ =>
 some (0, d)) (fun q => some q) t))
noncomputable def q2n (a : ApiStep) : (Unit) → Option ((Unit) ⊕ (Int × Int × Int × Bool)) := fun _ =>
 some (.inr (a.Section, a.In, a.Out, true))
noncomputable def q0K (d : ApiNet) (f : ApiRoute) : (Int × Int × Int × (List ApiStep)) → Option ((Int × Int × Int × (List ApiStep)) ⊕ ((List ApiStep))) := z4Y fun e i j c =>
 if e < 50 then (
 ((q0t d (⟨i, j⟩ : LineEnd)).bind fun k =>
 (q4f q2n k ()).bind fun t => Sum.elim (fun _ =>
 some (0, 0, 0, false)) (fun q => some q) t).bind (z4Y fun a l g m =>
 (if m = true then (
 (Z9 f.Steps a).bind fun n =>
 if n = true then (
 some true)
 else (
 (Z9 c a).bind fun o =>
 if o = true then (
 some true)
 else (
 (idx d.Signals f.From).bind fun p =>
 some (decide (a = p.Section)))))
 else (
 some true)).bind (fun r =>
 if r = true then (
 some (.inr c))
 else (
 (z0G 24 (c.length + 1)).bind fun _ =>
 (idx d.Sections a).bind fun h =>
 (chk (e + h.Length)).bind fun _ =>
 some (.inl (e + h.Length, a, g, c ++ [(⟨a, l, g⟩ : ApiStep)]))))))
 else (
 some (.inr c))
noncomputable def q3c (c : ApiNet) (a : ApiRoute) : Option ((List ApiStep)) :=
 if a.To < 0 then (
 some [])
 else (
 ((idx c.Signals a.To).bind fun d =>
 (idx c.Signals a.To).bind fun e =>
 some (d.Section, e.End)).bind (K1 fun f g =>
 (q7i (q0K c a) ((0, f, g, []) : Int × Int × Int × (List ApiStep))).bind (fun h =>
 some h)))
noncomputable def G6 (c : ApiNet) (a : ApiStep) : Option (Int) :=
 (idx c.Sections a.Section).bind fun d =>
 if d.Kind = 2 then (
 some (max a.In a.Out))
 else (
 some 0)
noncomputable def v9 (a : ApiNeed) (_ : List ByteArray) (_ : List ApiSection) (_ : List ApiLink) (_ : List ApiSignal) (_ : List ApiGate) (_ _ : Int) (_ _ : List ApiStep) (c : List ApiNeed) (d : List (ApiNeed × Bool)) : Option ((List ApiNeed) × (List (ApiNeed × Bool))) :=
 (some (P8 d a false)).bind fun e =>
 if e = true then (
 some (c, d))
 else (
 (z0G 32 (c.length + 1)).bind fun _ =>
 some (c ++ [a], F2 d a true))
noncomputable def q0L (a : ApiNeed) (c d : Int) : Option (Bool) :=
 (if a.Kind = 3 then (
 if a.Place = c then (
 some (decide (a.Position = d)))
 else (
 some false))
 else (
 some false)).bind (fun e =>
 some e)
noncomputable def X7 (c d : Int) (e : List ApiNeed) (a : Nat) : (Unit) → Option ((Unit) ⊕ (Int)) := fun _ =>
 (idx e (a : Int)).bind fun f =>
 (q0L f c d).bind fun g =>
 if g = true then (
 some (.inr (a : Int)))
 else (
 some (.inl ()))
noncomputable def q0E (c d : Int) (a : List ApiNeed) : Option (Int) :=
 (forM (X7 c d a) a.length 0 ()).bind fun t => Sum.elim (fun _ =>
 some (-1)) (fun q => some q) t
noncomputable def Y8 (a c : Int) (d : List ApiNeed) : Option (Bool) :=
 (q0E a c d).bind fun e =>
 some (decide (0 ≤ e))
noncomputable def Y2 (a c : Int) (_ : List ByteArray) (_ : List ApiSection) (_ : List ApiLink) (_ : List ApiSignal) (_ : List ApiGate) (_ _ : Int) (_ _ : List ApiStep) (d : List ApiNeed) (_ : List (ApiNeed × Bool)) : Option (Bool) :=
 (Y8 a c d).bind fun e =>
 some e
noncomputable def J0 (c : List ByteArray) (d : List ApiSection) (e : List ApiLink) (f : List ApiSignal) (g : List ApiGate) (h i : List ApiStep) (a j k l m : Int) (n : List Int) (rcmLineLookerLook_1 : (LineEnd) → (Int) → (Int) → ((List ByteArray)) → ((List ApiSection)) → ((List ApiLink)) → ((List ApiSignal)) → ((List ApiGate)) → (Int) → (Int) → ((List ApiStep)) → ((List ApiStep)) → ((List ApiNeed)) → ((List (ApiNeed × Bool))) → Option ((List ApiNeed) × (List (ApiNeed × Bool)))) (o : Nat) : ((List ApiNeed) × (List (ApiNeed × Bool))) → Option ((List ApiNeed) × (List (ApiNeed × Bool))) := K1 fun p q =>
 (idx n (o : Int)).bind fun r =>
 (chk (a + 1)).bind fun _ =>
 (rcmLineLookerLook_1 (⟨m, r⟩ : LineEnd) (a + 1) j c d e f g k l h i p q).bind (K1 fun s t =>
 some (s, t))
noncomputable def v6 : Nat → (LineEnd) → (Int) → (Int) → ((List ByteArray)) → ((List ApiSection)) → ((List ApiLink)) → ((List ApiSignal)) → ((List ApiGate)) → (Int) → (Int) → ((List ApiStep)) → ((List ApiStep)) → ((List ApiNeed)) → ((List (ApiNeed × Bool))) → Option ((List ApiNeed) × (List (ApiNeed × Bool)))
 | 0 => fun _ _ _ _ _ _ _ _ _ _ _ _ _ _ => none
 | N + 1 => fun u r o f a g h i k n l m c d =>
 ((W0 (⟨f, a, g, h, i⟩ : ApiNet) u).bind (q4G fun v w x =>
 some (x, v, w))).bind (q4G fun y e j =>
 (if y = true then (
 if r = 8 then (
 some true)
 else (
 (Z9 l e).bind fun z =>
 if z = true then (
 some true)
 else (
 (Z9 m e).bind fun A =>
 some A)))
 else (
 some true)).bind (fun B =>
 if B = true then (
 some (c, d))
 else (
 (idx a e).bind fun p =>
 ((if p.Kind = 2 then (
 some (decide (0 < j)))
 else (
 some false)).bind (fun C =>
 if C = true then (
 ((Y2 e j f a g h i k n l m c d).bind fun D =>
 if D = true then (
 some (c, d))
 else (
 (chk (3 - j)).bind fun _ =>
 (v9 (⟨3, e, 3 - j, o⟩ : ApiNeed) f a g h i k n l m c d).bind (K1 fun E F =>
 some (E, F)))).bind (K1 fun G H =>
 some (.inr (G, H))))
 else (
 if p.Kind = 1 then (
 (H8 (⟨f, a, g, h, i⟩ : ApiNet) (⟨e, j⟩ : LineEnd)).bind fun q =>
 if 0 ≤ q then (
 (if q ≠ k then (
 (v9 (⟨4, q, 0, o⟩ : ApiNeed) f a g h i k n l m c d).bind (K1 fun I J =>
 some (I, J)))
 else (
 some (c, d))).bind (K1 fun K L =>
 some (.inr (K, L))))
 else (
 some (.inl ())))
 else (
 some (.inl ()))))).bind fun t => Sum.elim (fun _ =>
 (q1G p.Kind j).bind fun s =>
 (q4M (J0 f a g h i l m r o k n e s (v6 N)) s.length 0 (c, d)).bind (K1 fun O S =>
 some (O, S))) (fun T => some T) t)))
noncomputable def W9 (e : List ByteArray) (f : List ApiSection) (g : List ApiLink) (h : List ApiSignal) (i : List ApiGate) (j k : List ApiStep) (l m n o p q : Int) (a : Nat) : ((List ApiNeed) × (List (ApiNeed × Bool))) → Option ((List ApiNeed) × (List (ApiNeed × Bool))) := K1 fun c d =>
 (if (a : Int) ≠ p then (
 some (decide ((a : Int) ≠ q)))
 else (
 some false)).bind (fun r =>
 if r = true then (
 (lim (fun N => v6 N (⟨o, (a : Int)⟩ : LineEnd) 0 l e f g h i m n j k c d)).bind (K1 fun s t =>
 some (s, t)))
 else (
 some (c, d)))
noncomputable def H9 (c : Int) (h : List ByteArray) (d : List ApiSection) (i : List ApiLink) (j : List ApiSignal) (k : List ApiGate) (l m : Int) (e n : List ApiStep) (o : List ApiNeed) (p : List (ApiNeed × Bool)) : Option ((List ApiNeed) × (List (ApiNeed × Bool))) :=
 ((idx e c).bind fun a =>
 some (a.Section, a.In, a.Out)).bind (q4G fun f q r =>
 (idx d f).bind fun s =>
 (q3O s.Kind).bind fun g =>
 (chk g).bind fun _ =>
 (q4M (W9 h d i j k e n c l m f q r) ((g).toNat) 0 (o, p)).bind (K1 fun t u =>
 some (t, u)))
noncomputable def H3 (a : ApiNet) (c : ApiRoute) (d : List ApiStep) (e : Nat) : ((List ApiNeed) × (List (ApiNeed × Bool))) → Option ((List ApiNeed) × (List (ApiNeed × Bool))) := K1 fun f g =>
 (H9 (e : Int) a.Stations a.Sections a.Links a.Signals a.Gates c.From c.To c.Steps d f g).bind (K1 fun h i =>
 some (h, i))
noncomputable def H4 (a : ApiNet) (c : ApiRoute) (d : List ApiStep) (f : Nat) : ((List ApiNeed) × (List (ApiNeed × Bool))) → Option ((List ApiNeed) × (List (ApiNeed × Bool))) := K1 fun g h =>
 (idx d (f : Int)).bind fun e =>
 (G6 a e).bind fun i =>
 (v9 (⟨2, e.Section, i, (-1)⟩ : ApiNeed) a.Stations a.Sections a.Links a.Signals a.Gates c.From c.To c.Steps d g h).bind (K1 fun j k =>
 some (j, k))
noncomputable def H5 (a : ApiNet) (c : ApiRoute) (f : List ApiStep) (d : Nat) : ((List ApiNeed) × (List (ApiNeed × Bool))) → Option ((List ApiNeed) × (List (ApiNeed × Bool))) := K1 fun g h =>
 (idx c.Steps (d : Int)).bind fun e =>
 (G6 a e).bind fun i =>
 (v9 (⟨1, e.Section, i, (d : Int)⟩ : ApiNeed) a.Stations a.Sections a.Links a.Signals a.Gates c.From c.To c.Steps f g h).bind (K1 fun j k =>
 some (j, k))
noncomputable def K6 (c : ApiNet) (a : ApiRoute) : Option ((List ApiNeed)) :=
 ((q3c c a).bind fun e =>
 some (e, ([] : List (ApiNeed × Bool)))).bind (K1 fun d f =>
 (q4M (H5 c a d) a.Steps.length 0 (([], f) : (List ApiNeed) × (List (ApiNeed × Bool)))).bind (K1 fun g h =>
 (q4M (H4 c a d) d.length 0 (g, h)).bind (K1 fun i j =>
 (q4M (H3 c a d) a.Steps.length 0 (i, j)).bind (K1 fun k l =>
 (v9 (⟨5, a.From, 0, (-1)⟩ : ApiNeed) c.Stations c.Sections c.Links c.Signals c.Gates a.From a.To a.Steps d k l).bind (K1 fun m _ =>
 some m)))))
noncomputable def q6m (a : ApiNet) (c : Int) : Option (Int × (List ApiNeed)) :=
 (q5H a [c]).bind (K1 fun d e =>
 if d ≠ 0 then (
 some (d, []))
 else (
 (idx e c).bind fun f =>
 (K6 a f).bind fun g =>
 some (0, g)))
noncomputable def q3v (c : ApiNet) (d : Nat) : ((List (List ApiNeed))) → Option ((List (List ApiNeed))) := fun a =>
 (q6m c (d : Int)).bind (K1 fun _ e =>
 (z0G 24 (a.length + 1)).bind fun _ =>
 some (a ++ [e]))
noncomputable def q3w (c : Nat) : ((List LockBody)) → Option ((List LockBody)) := fun d =>
 (idx d (c : Int)).bind fun a =>
 some (put d (c : Int) (⟨a.axles, a.disturbed, 1, a.moving, a.failed⟩ : LockBody))
noncomputable def mLockNew (a : ApiNet) : Option ((List ByteArray) × (List ApiSection) × (List ApiLink) × (List ApiSignal) × (List ApiGate) × (List ApiRoute) × (List (List ApiNeed)) × (List LockBody) × (List LockGate) × LK × LA) :=
 (Y4 a).bind fun e =>
 if e ≠ 0 then (
 none)
 else (
 (G8 a).bind (K1 fun f c =>
 if f ≠ 0 then (
 none)
 else (
 ((q7f a).bind (j1d fun g h i j k =>
 (z0H 40 (a.Sections.length : Int)).bind fun l =>
 (z0H 16 (a.Gates.length : Int)).bind fun m =>
 some (g, h, i, j, k, List.replicate l ((⟨0, false, 0, 0, false⟩ : LockBody) : LockBody), List.replicate m ((⟨0, false, false⟩ : LockGate) : LockGate), ([] : LK), ([] : LA)))).bind (j4Q fun n o p q r d s t u =>
 (q4M q3w d.length 0 d).bind (fun v =>
 (q4M (q3v a) c.length 0 ([] : List (List ApiNeed))).bind (fun w =>
 some (n, o, p, q, r, c, w, v, s, t, u)))))))
noncomputable def V9 (a : Int) (_ : List ByteArray) (_ : List ApiSection) (_ : List ApiLink) (_ : List ApiSignal) (_ : List ApiGate) (_ : List ApiRoute) (_ : List (List ApiNeed)) (c : List LockBody) (_ : List LockGate) (_ : LK) (_ : LA) : Option (Bool) :=
 (if 0 ≤ a then (
 some (decide (a < (c.length : Int))))
 else (
 some false)).bind (fun d =>
 some d)
noncomputable def q3N (d c : Int) (h : List ByteArray) (i : List ApiSection) (j : List ApiLink) (k : List ApiSignal) (l : List ApiGate) (m : List ApiRoute) (n : List (List ApiNeed)) (a : List LockBody) (o : List LockGate) (p : LK) (q : LA) : Option (Int × (List LockBody)) :=
 (V9 d h i j k l m n a o p q).bind fun r =>
 if r = true then (
 (if c < 0 then (
 some true)
 else (
 some (decide (400 < c)))).bind (fun s =>
 if s = true then (
 some (2, a))
 else (
 (idx a d).bind fun f =>
 (chk (f.axles + c)).bind fun _ =>
 if 400 < (f.axles + c) then (
 some (4, a))
 else (
 (idx a d).bind fun g =>
 (chk (g.axles + c)).bind fun _ =>
 (idx a d).bind fun e =>
 some (0, put a d (⟨g.axles + c, e.disturbed, e.position, e.moving, e.failed⟩ : LockBody))))))
 else (
 some (3, a))
noncomputable def q0r (a : ApiLink) (c d : Int) : Option (Bool) :=
 (if a.A = c then (
 if a.B = d then (
 some true)
 else (
 if a.A = d then (
 some (decide (a.B = c)))
 else (
 some false)))
 else (
 if a.A = d then (
 some (decide (a.B = c)))
 else (
 some false))).bind (fun e =>
 some e)
noncomputable def q0C (c : List ApiLink) (d e : Int) (a : Nat) : (Unit) → Option ((Unit) ⊕ (Int)) := fun _ =>
 (idx c (a : Int)).bind fun f =>
 (q0r f d e).bind fun g =>
 if g = true then (
 some (.inr (a : Int)))
 else (
 some (.inl ()))
noncomputable def q2f (a : List ApiLink) (c d : Int) : Option (Int) :=
 (forM (q0C a c d) a.length 0 ()).bind fun t => Sum.elim (fun _ =>
 some (-1)) (fun q => some q) t
noncomputable def Y7 (a : List ApiLink) (c d : Int) : Option (Bool) :=
 (q2f a c d).bind fun e =>
 some (decide (0 ≤ e))
noncomputable def q1C (a c : Int) (_ : List ByteArray) (_ : List ApiSection) (d : List ApiLink) (_ : List ApiSignal) (_ : List ApiGate) (_ : List ApiRoute) (_ : List (List ApiNeed)) (_ : List LockBody) (_ : List LockGate) (_ : LK) (_ : LA) : Option (Bool) :=
 (Y7 d a c).bind fun e =>
 some e
noncomputable def q0G (f e : Int) (g : LockLocked) (c : Nat) : (LA) → Option (LA) := fun d =>
 (idx g.Route.Steps (c : Int)).bind fun h =>
 if h.Section = f then (
 (Q7 d e).bind fun a =>
 (idx a.gone (c : Int)).bind fun i =>
 if i = true then (
 some d)
 else (
 (idx a.seen (c : Int)).bind fun _ =>
 if (c : Int) = 0 then (
 some (F2 d e (⟨a.Route, a.needs, put a.seen (c : Int) true, a.gone, a.laps, a.sight, 0, a.clock, a.number⟩ : LockLocked)))
 else (
 some (F2 d e (⟨a.Route, a.needs, put a.seen (c : Int) true, a.gone, a.laps, a.sight, a.leave, a.clock, a.number⟩ : LockLocked)))))
 else (
 some d)
noncomputable def V4 (e : Int) (f : Int × (Option Int)) : (LA) → Option ((LA) ⊕ (Int × (List LockBody) × LK × LA)) := fun a =>
 (f.2).bind fun c =>
 (Q7 a c).bind fun d =>
 (q4M (q0G e c d) d.Route.Steps.length 0 a).bind (fun g =>
 some (.inl g))
noncomputable def q4p (f e : Int) (g : LockLocked) (c : Nat) : (LA) → Option (LA) := fun d =>
 (idx g.Route.Steps (c : Int)).bind fun h =>
 if h.Section = f then (
 (Q7 d e).bind fun a =>
 (idx a.gone (c : Int)).bind fun i =>
 if i = true then (
 some d)
 else (
 (idx a.seen (c : Int)).bind fun _ =>
 if (c : Int) = 0 then (
 some (F2 d e (⟨a.Route, a.needs, put a.seen (c : Int) true, a.gone, a.laps, a.sight, 0, a.clock, a.number⟩ : LockLocked)))
 else (
 some (F2 d e (⟨a.Route, a.needs, put a.seen (c : Int) true, a.gone, a.laps, a.sight, a.leave, a.clock, a.number⟩ : LockLocked)))))
 else (
 some d)
noncomputable def q2l (e : Int) (f : Int × (Option Int)) : (LA) → Option ((LA) ⊕ (Int × (List LockBody) × LK × LA)) := fun a =>
 (f.2).bind fun c =>
 (Q7 a c).bind fun d =>
 (q4M (q4p e c d) d.Route.Steps.length 0 a).bind (fun g =>
 some (.inl g))
noncomputable def q2X (e h f : Int) (m : List ByteArray) (l : List ApiSection) (n : List ApiLink) (o : List ApiSignal) (r : List ApiGate) (s : List ApiRoute) (u : List (List ApiNeed)) (c : List LockBody) (v : List LockGate) (d : LK) (g : LA) : Option (Int × (List LockBody) × LK × LA) :=
 (V9 e m l n o r s u c v d g).bind fun x =>
 if x = true then (
 (V9 h m l n o r s u c v d g).bind fun y =>
 if y = true then (
 (q1C e h m l n o r s u c v d g).bind fun z =>
 if z = true then (
 if f < 1 then (
 some (2, c, d, g))
 else (
 if 400 < f then (
 some (2, c, d, g))
 else (
 (idx c e).bind fun a =>
 (idx c h).bind fun w =>
 (chk (w.axles + f)).bind fun _ =>
 if 400 < (w.axles + f) then (
 some (4, c, d, g))
 else (
 if f ≤ a.axles then (
 (chk (a.axles - f)).bind fun _ =>
 (idx (put c e (⟨a.axles - f, a.disturbed, a.position, a.moving, a.failed⟩ : LockBody)) h).bind fun j =>
 (chk (j.axles + f)).bind fun _ =>
 (z3U (fun p => q4f (V4 h) p g) d).bind fun t => Sum.elim (fun A =>
 some (0, put (put c e (⟨a.axles - f, a.disturbed, a.position, a.moving, a.failed⟩ : LockBody)) h (⟨j.axles + f, j.disturbed, j.position, j.moving, j.failed⟩ : LockBody), d, A)) (fun q => some q) t)
 else (
 (idx l e).bind fun B =>
 if B.Axles = true then (
 (idx (put c e (⟨0, a.disturbed, a.position, a.moving, a.failed⟩ : LockBody)) e).bind fun i =>
 (idx (put (put c e (⟨0, a.disturbed, a.position, a.moving, a.failed⟩ : LockBody)) e (⟨i.axles, true, i.position, i.moving, i.failed⟩ : LockBody)) h).bind fun k =>
 (chk (k.axles + f)).bind fun _ =>
 (z3U (fun p => q4f (q2l h) p g) d).bind fun t => Sum.elim (fun C =>
 some (0, put (put (put c e (⟨0, a.disturbed, a.position, a.moving, a.failed⟩ : LockBody)) e (⟨i.axles, true, i.position, i.moving, i.failed⟩ : LockBody)) h (⟨k.axles + f, k.disturbed, k.position, k.moving, k.failed⟩ : LockBody), d, C)) (fun q => some q) t)
 else (
 some (7, c, d, g)))))))
 else (
 some (1, c, d, g)))
 else (
 some (3, c, d, g)))
 else (
 some (3, c, d, g))
noncomputable def q0W (c : Int) (e : List ByteArray) (f : List ApiSection) (g : List ApiLink) (h : List ApiSignal) (i : List ApiGate) (j : List ApiRoute) (k : List (List ApiNeed)) (a : List LockBody) (l : List LockGate) (m : LK) (n : LA) : Option (Int × (List LockBody)) :=
 (V9 c e f g h i j k a l m n).bind fun o =>
 if o = true then (
 (idx a c).bind fun p =>
 if p.disturbed = true then (
 some (7, a))
 else (
 (idx a c).bind fun d =>
 some (0, put a c (⟨d.axles, true, d.position, d.moving, d.failed⟩ : LockBody))))
 else (
 some (3, a))
noncomputable def q2h (c : Int) (g : List ByteArray) (f : List ApiSection) (h : List ApiLink) (i : List ApiSignal) (j : List ApiGate) (k : List ApiRoute) (l : List (List ApiNeed)) (d : List LockBody) (m : List LockGate) (n : LK) (o : LA) : Option (Int × (List LockBody)) :=
 (V9 c g f h i j k l d m n o).bind fun p =>
 if p = true then (
 (idx d c).bind fun q =>
 if q.disturbed = true then (
 (idx d c).bind fun a =>
 ((idx f c).bind fun r =>
 if r.Axles = true then (
 (idx (put d c (⟨a.axles, false, a.position, a.moving, a.failed⟩ : LockBody)) c).bind fun e =>
 some (put (put d c (⟨a.axles, false, a.position, a.moving, a.failed⟩ : LockBody)) c (⟨0, e.disturbed, e.position, e.moving, e.failed⟩ : LockBody)))
 else (
 some (put d c (⟨a.axles, false, a.position, a.moving, a.failed⟩ : LockBody)))).bind (fun s =>
 some (0, s)))
 else (
 some (7, d)))
 else (
 some (3, d))
noncomputable def K5 (a : Int) (d : List ByteArray) (c : List ApiSection) (e : List ApiLink) (f : List ApiSignal) (g : List ApiGate) (h : List ApiRoute) (i : List (List ApiNeed)) (j : List LockBody) (k : List LockGate) (l : LK) (m : LA) : Option (Bool) :=
 ((V9 a d c e f g h i j k l m).bind fun n =>
 if n = true then (
 (idx c a).bind fun o =>
 some (decide (o.Kind = 2)))
 else (
 some false)).bind (fun p =>
 some p)
noncomputable def k9 (a : LockBody) : Option (Bool) :=
 (if 0 < a.axles then (
 some true)
 else (
 some a.disturbed)).bind (fun c =>
 some c)
noncomputable def q0o (a : (Option Int)) (c : ApiNeed) (d : LA) : Option (Bool) :=
 if c.Kind = 2 then (
 (a).bind fun e =>
 (Q7 d e).bind fun f =>
 some f.laps)
 else (
 if c.Kind = 5 then (
 (a).bind fun g =>
 (Q7 d g).bind fun h =>
 (idx h.seen 0).bind fun i =>
 some (!i))
 else (
 (a).bind fun j =>
 (Q7 d j).bind fun k =>
 (idx k.gone c.At).bind fun l =>
 some (!l)))
noncomputable def F4 (d : LA) (e : Int) (f : LockLocked) (g : Nat) : ((List ApiNeed)) → Option ((List ApiNeed)) := fun a =>
 (idx f.needs (g : Int)).bind fun c =>
 (q0o (some e) c d).bind fun h =>
 if h = true then (
 (z0G 32 (a.length + 1)).bind fun _ =>
 some (a ++ [c]))
 else (
 some a)
noncomputable def V0 (e : (Option Int)) (a : LA) : Option ((List ApiNeed)) :=
 (e).bind fun c =>
 (Q7 a c).bind fun d =>
 (q4M (F4 a c d) d.needs.length 0 ([] : List ApiNeed)).bind (fun f =>
 some f)
noncomputable def q0e (c : LK) (d : Int) (e : List ApiNeed) (f : Nat) : (Unit) → Option ((Unit) ⊕ ((Unit) ⊕ ((LK) ⊕ (Bool × LK)))) := fun _ =>
 (idx e (f : Int)).bind fun a =>
 (if a.Place = d then (
 if a.Kind = 1 then (
 some true)
 else (
 if a.Kind = 2 then (
 some true)
 else (
 some (decide (a.Kind = 3)))))
 else (
 some false)).bind (fun g =>
 if g = true then (
 some (.inr (.inr (.inr (true, c)))))
 else (
 some (.inl ())))
noncomputable def K2 (c : LK) (d : LA) (e : Int) (f : Int × (Option Int)) : (Unit) → Option ((Unit) ⊕ ((LK) ⊕ (Bool × LK))) := fun _ =>
 (V0 f.2 d).bind fun a =>
 (forM (q0e c e a) a.length 0 ()).bind fun t => Sum.elim (fun _ =>
 some (.inl ())) (fun q => some q) t
noncomputable def V5 (c : Int) (_ : List ByteArray) (_ : List ApiSection) (_ : List ApiLink) (_ : List ApiSignal) (_ : List ApiGate) (_ : List ApiRoute) (_ : List (List ApiNeed)) (_ : List LockBody) (_ : List LockGate) (a : LK) (d : LA) : Option (Bool × LK) :=
 ((z3U (fun p => q4f (K2 a d c) p ()) a).bind fun t => Sum.elim (fun _ =>
 some (.inl a)) (fun q => some q) t).bind fun t => Sum.elim (fun e =>
 some (false, e)) (fun f => some f) t
noncomputable def q2W (e f : Int) (g : List ByteArray) (h : List ApiSection) (i : List ApiLink) (j : List ApiSignal) (k : List ApiGate) (l : List ApiRoute) (m : List (List ApiNeed)) (a : List LockBody) (n : List LockGate) (c : LK) (o : LA) : Option (Int × (List LockBody) × LK) :=
 (K5 e g h i j k l m a n c o).bind fun q =>
 if q = true then (
 (idx a e).bind fun d =>
 (if f ≠ 1 then (
 some (decide (f ≠ 2)))
 else (
 some false)).bind (fun r =>
 if r = true then (
 some (2, a, c))
 else (
 if d.failed = true then (
 some (12, a, c))
 else (
 if 0 < d.moving then (
 some (7, a, c))
 else (
 if d.position = f then (
 some (0, a, c))
 else (
 ((k9 d).bind fun s =>
 if s = true then (
 some (true, c))
 else (
 (V5 e g h i j k l m a n c o).bind (K1 fun t u =>
 some (t, u)))).bind (K1 fun v p =>
 if v = true then (
 some (7, a, p))
 else (
 some (0, put a e (⟨d.axles, d.disturbed, d.position, 5, d.failed⟩ : LockBody), p)))))))))
 else (
 some (3, a, c))
noncomputable def q3b (c : Int) (e : List ByteArray) (f : List ApiSection) (g : List ApiLink) (h : List ApiSignal) (i : List ApiGate) (j : List ApiRoute) (k : List (List ApiNeed)) (a : List LockBody) (l : List LockGate) (m : LK) (n : LA) : Option (Int × (List LockBody)) :=
 (K5 c e f g h i j k a l m n).bind fun o =>
 if o = true then (
 (idx a c).bind fun p =>
 if p.failed = true then (
 some (7, a))
 else (
 (idx a c).bind fun d =>
 some (0, put a c (⟨d.axles, d.disturbed, d.position, d.moving, true⟩ : LockBody))))
 else (
 some (3, a))
noncomputable def q2Y (c : Int) (e : List ByteArray) (f : List ApiSection) (g : List ApiLink) (h : List ApiSignal) (i : List ApiGate) (j : List ApiRoute) (k : List (List ApiNeed)) (a : List LockBody) (l : List LockGate) (m : LK) (n : LA) : Option (Int × (List LockBody)) :=
 (K5 c e f g h i j k a l m n).bind fun o =>
 if o = true then (
 (idx a c).bind fun p =>
 if p.failed = true then (
 (idx a c).bind fun d =>
 some (0, put a c (⟨d.axles, d.disturbed, d.position, d.moving, false⟩ : LockBody)))
 else (
 some (7, a)))
 else (
 some (3, a))
noncomputable def q0s (c : Int) (_ : List ByteArray) (_ : List ApiSection) (_ : List ApiLink) (_ : List ApiSignal) (_ : List ApiGate) (_ : List ApiRoute) (_ : List (List ApiNeed)) (_ : List LockBody) (a : List LockGate) (_ : LK) (_ : LA) : Option (Int × (List LockGate)) :=
 (if c < 0 then (
 some true)
 else (
 some (decide ((a.length : Int) ≤ c)))).bind (fun e =>
 if e = true then (
 some (3, a))
 else (
 (idx a c).bind fun f =>
 if f.failed = true then (
 some (7, a))
 else (
 (idx a c).bind fun d =>
 some (0, put a c (⟨d.left, d.wanted, true⟩ : LockGate)))))
noncomputable def q0q (a : Int) (_ : List ByteArray) (_ : List ApiSection) (_ : List ApiLink) (_ : List ApiSignal) (f : List ApiGate) (_ : List ApiRoute) (_ : List (List ApiNeed)) (_ : List LockBody) (c : List LockGate) (_ : LK) (_ : LA) : Option (Int × (List LockGate)) :=
 (if a < 0 then (
 some true)
 else (
 some (decide ((c.length : Int) ≤ a)))).bind (fun g =>
 if g = true then (
 some (3, c))
 else (
 (idx c a).bind fun h =>
 if h.failed = true then (
 (idx c a).bind fun d =>
 ((idx (put c a (⟨d.left, d.wanted, false⟩ : LockGate)) a).bind fun e =>
 if e.wanted = true then (
 (idx f a).bind fun i =>
 some (put (put c a (⟨d.left, d.wanted, false⟩ : LockGate)) a (⟨i.Close, e.wanted, e.failed⟩ : LockGate)))
 else (
 some (put c a (⟨d.left, d.wanted, false⟩ : LockGate)))).bind (fun j =>
 some (0, j)))
 else (
 some (7, c))))
noncomputable def J4 (a : Int) (_ : List ByteArray) (_ : List ApiSection) (_ : List ApiLink) (_ : List ApiSignal) (_ : List ApiGate) (c : List ApiRoute) (_ : List (List ApiNeed)) (_ : List LockBody) (_ : List LockGate) (_ : LK) (_ : LA) : Option (Bool) :=
 (if 0 ≤ a then (
 some (decide (a < (c.length : Int))))
 else (
 some false)).bind (fun d =>
 some d)
noncomputable def q2M (a : List ApiNeed) : Option ((List ApiNeed)) :=
 (z0G 32 a.length).bind fun _ => some a
noncomputable def q1B (a : ApiNeed) : Option (Bool) :=
 some (decide (a.Kind = 2))
noncomputable def X1 (c : List ApiNeed) (a : Nat) : (Unit) → Option ((Unit) ⊕ (Int)) := fun _ =>
 (idx c (a : Int)).bind fun d =>
 (q1B d).bind fun e =>
 if e = true then (
 some (.inr (a : Int)))
 else (
 some (.inl ()))
noncomputable def V3 (a : List ApiNeed) : Option (Int) :=
 (forM (X1 a) a.length 0 ()).bind fun t => Sum.elim (fun _ =>
 some (-1)) (fun q => some q) t
noncomputable def X8  : (Int × Int × (List ApiNeed)) → Option ((Int × Int × (List ApiNeed)) ⊕ (Int × (List ApiNeed))) := q4G fun a d c =>
 if d < (c.length : Int) then (
 ((idx c d).bind fun e =>
 (q1B e).bind fun f =>
 if f = true then (
 some (a, c))
 else (
 (idx c a).bind fun _ =>
 (chk (a + 1)).bind fun _ =>
 some (a + 1, put c a e))).bind (K1 fun g h =>
 (chk (d + 1)).bind fun _ =>
 some (.inl (g, d + 1, h))))
 else (
 some (.inr (a, c)))
noncomputable def H1 (c : List ApiNeed) : Option ((List ApiNeed)) :=
 (V3 c).bind fun a =>
 if a = (-1) then (
 some c)
 else (
 ((chk (a + 1)).bind fun _ =>
 q7i X8 (a, a + 1, c)).bind (K1 fun d e =>
 (z6w e d (e.length : Int)).bind fun _ =>
 (z6w (j0d e d ((⟨0, 0, 0, 0⟩ : ApiNeed) : ApiNeed)) 0 d).bind fun f =>
 some f))
noncomputable def q0Y (a : ApiNeed) : Option (Bool) :=
 (if a.Kind = 1 then (
 some true)
 else (
 some (decide (a.Kind = 2)))).bind (fun c =>
 some c)
noncomputable def K8 (c a : ApiNeed) : Option (Bool) :=
 (if c.Kind = 3 then (
 if a.Kind = 3 then (
 some (decide (c.Position ≠ a.Position)))
 else (
 (q0Y a).bind fun d =>
 if d = true then (
 some (decide (c.Position ≠ a.Position)))
 else (
 some false)))
 else (
 some false)).bind (fun e =>
 some e)
noncomputable def K7 (a c : ApiNeed) : Option (Bool) :=
 (if a.Kind = 4 then (
 some (decide (c.Kind = 5)))
 else (
 some false)).bind (fun d =>
 some d)
noncomputable def q2D (a c : ApiNeed) : Option (Bool) :=
 if a.Place ≠ c.Place then (
 some false)
 else (
 ((q0Y a).bind fun d =>
 if d = true then (
 (q0Y c).bind fun e =>
 if e = true then (
 some true)
 else (
 (K8 a c).bind fun f =>
 if f = true then (
 some true)
 else (
 (K8 c a).bind fun g =>
 if g = true then (
 some true)
 else (
 (K7 a c).bind fun h =>
 if h = true then (
 some true)
 else (
 (K7 c a).bind fun i =>
 some i)))))
 else (
 (K8 a c).bind fun j =>
 if j = true then (
 some true)
 else (
 (K8 c a).bind fun k =>
 if k = true then (
 some true)
 else (
 (K7 a c).bind fun l =>
 if l = true then (
 some true)
 else (
 (K7 c a).bind fun m =>
 some m))))).bind (fun n =>
 some n))
noncomputable def q1p (a : ApiNeed) (c d e f : Int) : Option (Bool) :=
 (q2D a (⟨c, d, e, f⟩ : ApiNeed)).bind fun g =>
 some g
noncomputable def q0B (c d e : Int) (f : List ApiNeed) (g : Int) (a : Nat) : (Unit) → Option ((Unit) ⊕ (Int)) := fun _ =>
 (idx f (a : Int)).bind fun h =>
 (q1p h c d e g).bind fun i =>
 if i = true then (
 some (.inr (a : Int)))
 else (
 some (.inl ()))
noncomputable def q2e (c d e f : Int) (a : List ApiNeed) : Option (Int) :=
 (forM (q0B c d e a f) a.length 0 ()).bind fun t => Sum.elim (fun _ =>
 some (-1)) (fun q => some q) t
noncomputable def Y6 (a c d e : Int) (f : List ApiNeed) : Option (Bool) :=
 (q2e a c d e f).bind fun g =>
 some (decide (0 ≤ g))
noncomputable def Z1 (e : List ApiRoute) (f : List ApiNeed) (g : LK) (h : LA) (i : Int) (j : List ApiNeed) (k : Nat) : ((Option Int)) → Option (((Option Int)) ⊕ ((Unit) ⊕ ((LK) ⊕ (Bool × LK)))) := fun l =>
 (idx j (k : Int)).bind fun a =>
 ((l).bind fun c =>
 (Q7 h c).bind fun m =>
 if a.Kind = 2 then (
 (idx e i).bind fun n =>
 some ((some c), decide (m.Route.To = n.From)))
 else (
 some ((some c), false))).bind (K1 fun d o =>
 if o = true then (
 some (.inl d))
 else (
 (Y6 a.Kind a.Place a.Position a.At f).bind fun p =>
 if p = true then (
 some (.inr (.inr (.inr (true, g)))))
 else (
 some (.inl d))))
noncomputable def G5 (e : List ApiRoute) (f : List ApiNeed) (g : LK) (a : LA) (h : Int) (c : Int × (Option Int)) : (Unit) → Option ((Unit) ⊕ ((LK) ⊕ (Bool × LK))) := fun _ =>
 (V0 c.2 a).bind fun d =>
 (forM (Z1 e f g a h d) d.length 0 c.2).bind fun t => Sum.elim (fun _ =>
 some (.inl ())) (fun q => some q) t
noncomputable def q0X (c : Int) (_ : List ByteArray) (_ : List ApiSection) (_ : List ApiLink) (_ : List ApiSignal) (_ : List ApiGate) (d : List ApiRoute) (_ : List (List ApiNeed)) (e : List ApiNeed) (_ : List LockBody) (_ : List LockGate) (a : LK) (f : LA) : Option (Bool × LK) :=
 ((z3U (fun p => q4f (G5 d e a f c) p ()) a).bind fun t => Sum.elim (fun _ =>
 some (.inl a)) (fun q => some q) t).bind fun t => Sum.elim (fun g =>
 some (false, g)) (fun h => some h) t
noncomputable def q1Q (e : LK) (a : LA) (f c : Int) (g : LockLocked) (d : Nat) : (Unit) → Option ((Unit) ⊕ ((Unit) ⊕ ((LK) ⊕ (Int × LK)))) := fun _ =>
 (idx g.Route.Steps (d : Int)).bind fun h =>
 (if h.Section = f then (
 (Q7 a c).bind fun i =>
 (idx i.gone (d : Int)).bind fun j =>
 some (!j))
 else (
 some false)).bind (fun k =>
 if k = true then (
 (Q7 a c).bind fun l =>
 some (.inr (.inr (.inr (l.number, e)))))
 else (
 some (.inl ())))
noncomputable def H7 (e : LK) (a : LA) (f : Int) (g : Int × (Option Int)) : (Unit) → Option ((Unit) ⊕ ((LK) ⊕ (Int × LK))) := fun _ =>
 (g.2).bind fun c =>
 (Q7 a c).bind fun d =>
 (forM (q1Q e a f c d) d.Route.Steps.length 0 ()).bind fun t => Sum.elim (fun _ =>
 some (.inl ())) (fun q => some q) t
noncomputable def q1o (c : Int) (_ : List ByteArray) (_ : List ApiSection) (_ : List ApiLink) (_ : List ApiSignal) (_ : List ApiGate) (_ : List ApiRoute) (_ : List (List ApiNeed)) (_ : List LockBody) (_ : List LockGate) (a : LK) (d : LA) : Option (Int × LK) :=
 ((z3U (fun p => q4f (H7 a d c) p ()) a).bind fun t => Sum.elim (fun _ =>
 some (.inl a)) (fun q => some q) t).bind fun t => Sum.elim (fun e =>
 some ((-1), e)) (fun f => some f) t
noncomputable def q1n (j : List ByteArray) (k : List ApiSection) (l : List ApiLink) (m : List ApiSignal) (h : List ApiGate) (n : List ApiRoute) (o : List (List ApiNeed)) (p : List LockBody) (q : LA) (c : Nat) : ((List LockGate) × LK) → Option ((List LockGate) × LK) := K1 fun d r =>
 (idx h (c : Int)).bind fun f =>
 (idx d (c : Int)).bind fun a =>
 (q1o f.Section j k l m h n o p d r q).bind (K1 fun e g =>
 if 0 ≤ e then (
 if a.wanted = true then (
 some (put d (c : Int) (⟨a.left, decide (0 ≤ e), a.failed⟩ : LockGate), g))
 else (
 (idx (put d (c : Int) (⟨f.Close, a.wanted, a.failed⟩ : LockGate)) (c : Int)).bind fun i =>
 some (put (put d (c : Int) (⟨f.Close, a.wanted, a.failed⟩ : LockGate)) (c : Int) (⟨i.left, decide (0 ≤ e), i.failed⟩ : LockGate), g)))
 else (
 some (put d (c : Int) (⟨a.left, decide (0 ≤ e), a.failed⟩ : LockGate), g)))
noncomputable def P9 (c : List ByteArray) (d : List ApiSection) (e : List ApiLink) (f : List ApiSignal) (a : List ApiGate) (g : List ApiRoute) (h : List (List ApiNeed)) (i : List LockBody) (j : List LockGate) (k : LK) (l : LA) : Option ((List LockGate) × LK) :=
 (q4M (q1n c d e f a g h i l) a.length 0 (j, k)).bind (K1 fun m n =>
 some (m, n))
noncomputable def q0I (e : ApiRoute) (f : Int × (Option Int)) : (LA) → Option ((LA) ⊕ (LK × LA)) := fun c =>
 (f.2).bind fun d =>
 (Q7 c d).bind fun a =>
 if a.Route.To = e.From then (
 some (.inl (F2 c d (⟨a.Route, a.needs, a.seen, a.gone, false, a.sight, a.leave, a.clock, a.number⟩ : LockLocked))))
 else (
 some (.inl c))
noncomputable def G1 (e : List ApiNeed) (f : Nat) : ((List LockBody)) → Option ((List LockBody)) := fun c =>
 (idx e (f : Int)).bind fun d =>
 if d.Position = 0 then (
 some c)
 else (
 (idx c d.Place).bind fun a =>
 (if a.position ≠ d.Position then (
 some (decide (a.moving = 0)))
 else (
 some false)).bind (fun g =>
 if g = true then (
 some (put c d.Place (⟨a.axles, a.disturbed, a.position, 5, a.failed⟩ : LockBody)))
 else (
 some c)))
noncomputable def G2 (c : List LockBody) (d : List LockGate) (e : LA) (f : Bool) (g : List ApiNeed) (h : LK) (i : Nat) : (Unit) → Option ((Unit) ⊕ (Int × (List LockBody) × (List LockGate) × LK × LA)) := fun _ =>
 (idx g (i : Int)).bind fun a =>
 (if f = true then (
 some false)
 else (
 if a.Kind = 1 then (
 (idx c a.Place).bind fun j =>
 (k9 j).bind fun k =>
 some k)
 else (
 if a.Kind = 2 then (
 (idx c a.Place).bind fun l =>
 (k9 l).bind fun m =>
 some m)
 else (
 some false)))).bind (fun n =>
 if n = true then (
 some (.inr (7, c, d, h, e)))
 else (
 some (.inl ())))
noncomputable def G3 (f : List LockBody) (g : List LockGate) (h : LA) (i : List ApiNeed) (j : LK) (k : Nat) : (Unit) → Option ((Unit) ⊕ (Int × (List LockBody) × (List LockGate) × LK × LA)) := fun _ =>
 (idx i (k : Int)).bind fun a =>
 if a.Position = 0 then (
 some (.inl ()))
 else (
 ((idx f a.Place).bind fun c =>
 some (c.axles, c.disturbed, c.position, c.moving, c.failed)).bind (j1d fun l m d e n =>
 ((k9 (⟨l, m, d, e, n⟩ : LockBody)).bind fun o =>
 if o = true then (
 if d ≠ a.Position then (
 some true)
 else (
 if 0 < e then (
 some true)
 else (
 if 0 < e then (
 some (decide (d = a.Position)))
 else (
 some false))))
 else (
 if 0 < e then (
 some (decide (d = a.Position)))
 else (
 some false))).bind (fun p =>
 if p = true then (
 some (.inr (7, f, g, j, h)))
 else (
 some (.inl ())))))
noncomputable def G4 (a : List LockBody) (d : List LockGate) (e : LA) (f : List ApiNeed) (g : LK) (h : Nat) : (Unit) → Option ((Unit) ⊕ (Int × (List LockBody) × (List LockGate) × LK × LA)) := fun _ =>
 (idx f (h : Int)).bind fun c =>
 (if 0 < c.Position then (
 (idx a c.Place).bind fun i =>
 some i.failed)
 else (
 some false)).bind (fun j =>
 if j = true then (
 some (.inr (12, a, d, g, e)))
 else (
 some (.inl ())))
noncomputable def q2Z (a : Int) (i : Bool) (m : List ByteArray) (n : List ApiSection) (o : List ApiLink) (r : List ApiSignal) (s : List ApiGate) (j : List ApiRoute) (k : List (List ApiNeed)) (c : List LockBody) (d : List LockGate) (h : LK) (e : LA) : Option (Int × (List LockBody) × (List LockGate) × LK × LA) :=
 (J4 a m n o r s j k c d h e).bind fun z =>
 if z = true then (
 (some (P8 h a none)).bind fun A =>
 if A.isNone = true then (
 (idx k a).bind fun B =>
 (q2M B).bind fun u =>
 (if i = true then (
 (H1 u).bind fun C =>
 some C)
 else (
 some u)).bind (fun f =>
 (q0X a m n o r s j k f c d h e).bind (K1 fun D g =>
 if D = true then (
 some (8, c, d, g, e))
 else (
 (forM (G4 c d e f g) f.length 0 ()).bind fun t => Sum.elim (fun _ =>
 (forM (G3 c d e f g) f.length 0 ()).bind fun t => Sum.elim (fun _ =>
 (forM (G2 c d e i f g) f.length 0 ()).bind fun t => Sum.elim (fun _ =>
 (idx j a).bind fun l =>
 ((z3U (fun p => q4f (q0I l) p e) g).bind fun t => Sum.elim (fun E =>
 some (g, E)) (fun q => some q) t).bind (K1 fun v F =>
 ((z0H 1 (l.Steps.length : Int)).bind fun G =>
 (z0H 1 (l.Steps.length : Int)).bind fun H =>
 (z2Y v a).bind fun _ =>
 some (f, F2 v a (some a), F2 F a (⟨l, f, List.replicate G (false : Bool), List.replicate H (false : Bool), !i, i, 0, 0, a⟩ : LockLocked))).bind (q4G fun w I x =>
 (q4M (G1 w) w.length 0 c).bind (fun y =>
 (P9 m n o r s j k y d I x).bind (K1 fun J K =>
 some (0, y, J, K, x)))))) (fun q => some q) t) (fun q => some q) t) (fun q => some q) t))))
 else (
 some (6, c, d, h, e)))
 else (
 some (3, c, d, h, e))
noncomputable def q1E (f : Int) (k : List ByteArray) (l : List ApiSection) (m : List ApiLink) (g : List ApiSignal) (n : List ApiGate) (o : List ApiRoute) (p : List (List ApiNeed)) (h : List LockBody) (e : List LockGate) (d : LK) (c : LA) : Option (Int × (List LockGate) × LK × LA) :=
 (J4 f k l m g n o p h e d c).bind fun t =>
 if t = true then (
 (some (P8 d f none)).bind fun i =>
 (if i.isNone = true then (
 some (i, true))
 else (
 (i).bind fun j =>
 (Q7 c j).bind fun q =>
 (idx q.seen 0).bind fun u =>
 if u = true then (
 some ((some j), true))
 else (
 some ((some j), decide (0 < q.leave))))).bind (K1 fun v w =>
 if w = true then (
 some (7, e, d, c))
 else (
 ((v).bind fun r =>
 (Q7 c r).bind fun a =>
 (idx g a.Route.From).bind fun x =>
 (idx h x.Section).bind fun y =>
 (k9 y).bind fun z =>
 if z = true then (
 some (d, F2 c r (⟨a.Route, a.needs, a.seen, a.gone, a.laps, a.sight, 90, a.clock, a.number⟩ : LockLocked)))
 else (
 some (z3V d f, c))).bind (K1 fun A s =>
 (P9 k l m g n o p h e A s).bind (K1 fun B C =>
 some (0, B, C, s))))))
 else (
 some (3, e, d, c))
noncomputable def q3M (_ : LK) (_ : LA) : Option (Unit) :=
 some ()
noncomputable def q0b (a : LK) (_ : LA) : Option ((List Int)) :=
 z1W a
noncomputable def q0H (c : LK) (d : List Int) (e : Nat) : ((List (Option Int))) → Option ((List (Option Int))) := fun a =>
 (idx d (e : Int)).bind fun f =>
 (some (P8 c f none)).bind fun g =>
 (z0G 8 (a.length + 1)).bind fun _ =>
 some (a ++ [g])
noncomputable def G0 (_ : List ByteArray) (_ : List ApiSection) (_ : List ApiLink) (_ : List ApiSignal) (_ : List ApiGate) (_ : List ApiRoute) (_ : List (List ApiNeed)) (_ : List LockBody) (_ : List LockGate) (a : LK) (c : LA) : Option ((List (Option Int))) :=
 (q3M a c).bind fun _ =>
 (q0b a c).bind fun d =>
 (q4M (q0H a d) d.length 0 ([] : List (Option Int))).bind (fun e =>
 some e)
noncomputable def Y9 (g : List LockBody) (h : LK) (e : Int) (i : LockLocked) (c : Nat) : (LA) → Option ((LA) ⊕ (LA × LK)) := fun d =>
 (idx i.Route.Steps (c : Int)).bind fun j =>
 (Q7 d e).bind fun k =>
 (idx k.gone (c : Int)).bind fun l =>
 if l = true then (
 some (.inl d))
 else (
 ((Q7 d e).bind fun f =>
 (idx f.seen (c : Int)).bind fun m =>
 if m = true then (
 (idx g j.Section).bind fun n =>
 (k9 n).bind fun o =>
 if o = true then (
 some true)
 else (
 (chk ((c : Int) + 1)).bind fun _ =>
 if ((c : Int) + 1) < (f.Route.Steps.length : Int) then (
 (chk ((c : Int) + 1)).bind fun _ =>
 (idx f.seen ((c : Int) + 1)).bind fun p =>
 some (!p))
 else (
 some false)))
 else (
 some true)).bind (fun q =>
 if q = true then (
 some (.inr (d, h)))
 else (
 (Q7 d e).bind fun a =>
 (idx a.gone (c : Int)).bind fun _ =>
 some (.inl (F2 d e (⟨a.Route, a.needs, a.seen, put a.gone (c : Int) true, a.laps, a.sight, a.leave, a.clock, a.number⟩ : LockLocked))))))
noncomputable def q0U (g : (Option Int)) (_ : List ByteArray) (_ : List ApiSection) (_ : List ApiLink) (_ : List ApiSignal) (_ : List ApiGate) (_ : List ApiRoute) (_ : List (List ApiNeed)) (c : LA) (h : List LockBody) (_ : List LockGate) (d : LK) : Option (LA × LK) :=
 (g).bind fun a =>
 (Q7 c a).bind fun e =>
 (forM (Y9 h d a e) e.Route.Steps.length 0 c).bind fun t => Sum.elim (fun f =>
 (Q7 f a).bind fun i =>
 some (f, z3V d i.number)) (fun q => some q) t
noncomputable def W4 (a : List ByteArray) (c : List ApiSection) (d : List ApiLink) (e : List ApiSignal) (f : List ApiGate) (g : List ApiRoute) (h : List (List ApiNeed)) (i : List LockBody) (j : List LockGate) (k : List (Option Int)) (l : Nat) : (LK × LA) → Option (LK × LA) := K1 fun m n =>
 (idx k (l : Int)).bind fun o =>
 (q0U o a c d e f g h n i j m).bind (K1 fun p q =>
 some (q, p))
noncomputable def W5 (g : List (Option Int)) (h : Nat) : (LA) → Option (LA) := fun c =>
 (idx g (h : Int)).bind fun i =>
 ((i).bind fun e =>
 (Q7 c e).bind fun d =>
 (chk ((d.seen.length : Int) - 1)).bind fun _ =>
 (idx d.seen ((d.seen.length : Int) - 1)).bind fun j =>
 if j = true then (
 some ((some e), d.laps))
 else (
 some ((some e), false))).bind (K1 fun k l =>
 if l = true then (
 (k).bind fun f =>
 (Q7 c f).bind fun a =>
 (chk (a.clock + 1)).bind fun _ =>
 if (a.clock + 1) = 60 then (
 some (F2 c f (⟨a.Route, a.needs, a.seen, a.gone, false, a.sight, a.leave, a.clock + 1, a.number⟩ : LockLocked)))
 else (
 some (F2 c f (⟨a.Route, a.needs, a.seen, a.gone, a.laps, a.sight, a.leave, a.clock + 1, a.number⟩ : LockLocked))))
 else (
 some c))
noncomputable def W6 (f : List (Option Int)) (g : Nat) : (LK × LA) → Option (LK × LA) := K1 fun d c =>
 (idx f (g : Int)).bind fun h =>
 (h).bind fun e =>
 (Q7 c e).bind fun a =>
 if a.leave = 0 then (
 some (d, c))
 else (
 (chk (a.leave - 1)).bind fun _ =>
 if (a.leave - 1) = 0 then (
 some (z3V d a.number, F2 c e (⟨a.Route, a.needs, a.seen, a.gone, a.laps, a.sight, a.leave - 1, a.clock, a.number⟩ : LockLocked)))
 else (
 some (d, F2 c e (⟨a.Route, a.needs, a.seen, a.gone, a.laps, a.sight, a.leave - 1, a.clock, a.number⟩ : LockLocked))))
noncomputable def W7 (d : Nat) : ((List LockGate)) → Option ((List LockGate)) := fun c =>
 (idx c (d : Int)).bind fun a =>
 (if a.wanted = true then (
 if 0 < a.left then (
 some (!a.failed))
 else (
 some false))
 else (
 some false)).bind (fun e =>
 if e = true then (
 (chk (a.left - 1)).bind fun _ =>
 some (put c (d : Int) (⟨a.left - 1, a.wanted, a.failed⟩ : LockGate)))
 else (
 some c))
noncomputable def W8 (d : Nat) : ((List LockBody)) → Option ((List LockBody)) := fun e =>
 (idx e (d : Int)).bind fun a =>
 (if a.moving = 0 then (
 some true)
 else (
 some a.failed)).bind (fun f =>
 if f = true then (
 some e)
 else (
 (chk (a.moving - 1)).bind fun _ =>
 (idx (put e (d : Int) (⟨a.axles, a.disturbed, a.position, a.moving - 1, a.failed⟩ : LockBody)) (d : Int)).bind fun c =>
 if c.moving = 0 then (
 (chk (3 - c.position)).bind fun _ =>
 some (put (put e (d : Int) (⟨a.axles, a.disturbed, a.position, a.moving - 1, a.failed⟩ : LockBody)) (d : Int) (⟨c.axles, c.disturbed, 3 - c.position, c.moving, c.failed⟩ : LockBody)))
 else (
 some (put e (d : Int) (⟨a.axles, a.disturbed, a.position, a.moving - 1, a.failed⟩ : LockBody)))))
noncomputable def q1A (c : List ByteArray) (d : List ApiSection) (e : List ApiLink) (f : List ApiSignal) (g : List ApiGate) (h : List ApiRoute) (i : List (List ApiNeed)) (l : List LockBody) (m : List LockGate) (n : LK) (o : LA) : Option ((List LockBody) × (List LockGate) × LK × LA) :=
 (q4M W8 l.length 0 l).bind (fun a =>
 (q4M W7 m.length 0 m).bind (fun j =>
 (G0 c d e f g h i a j n o).bind fun p =>
 (q4M (W6 p) p.length 0 (n, o)).bind (K1 fun k q =>
 (G0 c d e f g h i a j k q).bind fun r =>
 (q4M (W5 r) r.length 0 q).bind (fun s =>
 (G0 c d e f g h i a j k s).bind fun t =>
 (q4M (W4 c d e f g h i a j t) t.length 0 (k, s)).bind (K1 fun v u =>
 (P9 c d e f g h i a j v u).bind (K1 fun w x =>
 some (a, w, x, u)))))))
noncomputable def q3d (a : Fishkeep1Call) (g : List ByteArray) (h : List ApiSection) (i : List ApiLink) (j : List ApiSignal) (k : List ApiGate) (l : List ApiRoute) (m : List (List ApiNeed)) (f : List LockBody) (d : List LockGate) (e : LK) (c : LA) : Option (Int × (List LockBody) × (List LockGate) × LK × LA) :=
 (if a.Kind = 0 then (
 (q3N a.A a.B g h i j k l m f d e c).bind (K1 fun n o =>
 some (.inr (n, o, d, e, c))))
 else (
 if a.Kind = 1 then (
 (q2X a.A a.B a.C g h i j k l m f d e c).bind (z4Y fun p q r s =>
 some (.inr (p, q, d, r, s))))
 else (
 if a.Kind = 2 then (
 (q0W a.A g h i j k l m f d e c).bind (K1 fun u v =>
 some (.inr (u, v, d, e, c))))
 else (
 if a.Kind = 3 then (
 (q2h a.A g h i j k l m f d e c).bind (K1 fun w x =>
 some (.inr (w, x, d, e, c))))
 else (
 if a.Kind = 4 then (
 (q2W a.A a.B g h i j k l m f d e c).bind (q4G fun y z A =>
 some (.inr (y, z, d, A, c))))
 else (
 if a.Kind = 5 then (
 (q3b a.A g h i j k l m f d e c).bind (K1 fun B C =>
 some (.inr (B, C, d, e, c))))
 else (
 if a.Kind = 6 then (
 (q2Y a.A g h i j k l m f d e c).bind (K1 fun D E =>
 some (.inr (D, E, d, e, c))))
 else (
 if a.Kind = 7 then (
 (q0s a.A g h i j k l m f d e c).bind (K1 fun F G =>
 some (.inr (F, f, G, e, c))))
 else (
 if a.Kind = 8 then (
 (q0q a.A g h i j k l m f d e c).bind (K1 fun H I =>
 some (.inr (H, f, I, e, c))))
 else (
 (if a.Kind = 9 then (
 some (decide (a.Kind = 9)))
 else (
 some (decide (a.Kind = 10)))).bind (fun J =>
 if J = true then (
 (q2Z a.A (decide (a.Kind = 10)) g h i j k l m f d e c).bind (j1d fun K L O S T =>
 some (.inr (K, L, O, S, T))))
 else (
 if a.Kind = 11 then (
 (q1E a.A g h i j k l m f d e c).bind (z4Y fun U V W X =>
 some (.inr (U, f, V, W, X))))
 else (
 if a.Kind = 12 then (
 (q1A g h i j k l m f d e c).bind (z4Y fun Y Z aa ab =>
 some (.inl (Y, Z, aa, ab))))
 else (
 some (.inl (f, d, e, c)))))))))))))))).bind fun t => Sum.elim (z4Y fun ac ad ae af =>
 some (0, ac, ad, ae, af)) (fun ag => some ag) t
noncomputable def q0y (_ : List ByteArray) (_ : List ApiSection) (_ : List ApiLink) (_ : List ApiSignal) (_ : List ApiGate) (_ : List ApiRoute) (_ : List (List ApiNeed)) (_ : List LockBody) (_ : List LockGate) (a : LK) (c : LA) : Option ((List Int)) :=
 (q3M a c).bind fun _ =>
 (q0b a c).bind fun d =>
 some d
noncomputable def q3a (a : Int) (f : List ByteArray) (g : List ApiSection) (h : List ApiLink) (i : List ApiSignal) (j : List ApiGate) (k : List ApiRoute) (l : List (List ApiNeed)) (m : List LockBody) (n : List LockGate) (c : LK) (d : LA) : Option (Int × (List ApiNeed)) :=
 (J4 a f g h i j k l m n c d).bind fun o =>
 if o = true then (
 (some (P8 c a none)).bind fun e =>
 if e.isNone = true then (
 some (0, []))
 else (
 (V0 e d).bind fun p =>
 some (0, p)))
 else (
 some (3, []))
noncomputable def q2b (c : List Int) (d : Int) (a : Nat) : (Unit) → Option ((Unit) ⊕ (Int)) := fun _ =>
 (idx c (a : Int)).bind fun e =>
 if d = e then (
 some (.inr (a : Int)))
 else (
 some (.inl ()))
noncomputable def q4D (a : List Int) (c : Int) : Option (Int) :=
 (forM (q2b a c) a.length 0 ()).bind fun t => Sum.elim (fun _ =>
 some (-1)) (fun q => some q) t
noncomputable def H2 (a : List Int) (c : Int) : Option (Bool) :=
 (q4D a c).bind fun d =>
 some (decide (0 ≤ d))
noncomputable def q0i (e : List ByteArray) (f : List ApiSection) (g : List ApiLink) (h : List ApiSignal) (i : List ApiGate) (j : List ApiRoute) (k : List (List ApiNeed)) (l : List LockBody) (m : List LockGate) (n : LK) (o : LA) (p : List Int) (a : Nat) : ((List (List ApiNeed))) → Option (((List (List ApiNeed))) ⊕ (Bool × (List (List ApiNeed)))) := fun c =>
 (q3a (a : Int) e f g h i j k l m n o).bind (K1 fun q d =>
 (if q ≠ 0 then (
 some true)
 else (
 if 0 < (d.length : Int) then (
 (H2 p (a : Int)).bind fun r =>
 some (!r))
 else (
 some false))).bind (fun s =>
 if s = true then (
 some (.inr (false, [])))
 else (
 (idx c (a : Int)).bind fun _ =>
 some (.inl (put c (a : Int) d)))))
noncomputable def q1I (a : Int) (c : List ByteArray) (d : List ApiSection) (e : List ApiLink) (f : List ApiSignal) (g : List ApiGate) (h : List ApiRoute) (i : List (List ApiNeed)) (j : List LockBody) (k : List LockGate) (l : LK) (m : LA) : Option (Bool × (List (List ApiNeed))) :=
 (z0H 24 a).bind fun n =>
 (q0y c d e f g h i j k l m).bind fun o =>
 (chk a).bind fun _ =>
 (forM (q0i c d e f g h i j k l m o) ((a).toNat) 0 (List.replicate n (([] : List ApiNeed) : List ApiNeed) : List (List ApiNeed))).bind fun t => Sum.elim (fun p =>
 some (true, p)) (fun q => some q) t
noncomputable def q1c (a : List ApiNeed) (c : ApiNeed) (d : Nat) : (Unit) → Option ((Unit) ⊕ ((Unit) ⊕ ((Unit) ⊕ ((Unit) ⊕ (Bool))))) := fun _ =>
 (idx a (d : Int)).bind fun e =>
 (q2D c e).bind fun f =>
 if f = true then (
 some (.inr (.inr (.inr (.inr false)))))
 else (
 some (.inl ()))
noncomputable def q1d (c a : List ApiNeed) (d : Nat) : (Unit) → Option ((Unit) ⊕ ((Unit) ⊕ ((Unit) ⊕ (Bool)))) := fun _ =>
 (idx c (d : Int)).bind fun e =>
 (forM (q1c a e) a.length 0 ()).bind fun t => Sum.elim (fun _ =>
 some (.inl ())) (fun q => some q) t
noncomputable def q1w (c : List (List ApiNeed)) (a : List ApiNeed) (d : Nat) : (Unit) → Option ((Unit) ⊕ ((Unit) ⊕ (Bool))) := fun _ =>
 (idx c (d : Int)).bind fun e =>
 (forM (q1d a e) a.length 0 ()).bind fun t => Sum.elim (fun _ =>
 some (.inl ())) (fun q => some q) t
noncomputable def q1x (a : List (List ApiNeed)) (c : Nat) : (Unit) → Option ((Unit) ⊕ (Bool)) := fun _ =>
 (idx a (c : Int)).bind fun e =>
 (z6w a 0 (c : Int)).bind fun d =>
 (forM (q1w d e) d.length 0 ()).bind fun t => Sum.elim (fun _ =>
 some (.inl ())) (fun q => some q) t
noncomputable def q1e (a : List (List ApiNeed)) : Option (Bool) :=
 (forM (q1x a) a.length 0 ()).bind fun t => Sum.elim (fun _ =>
 some true) (fun q => some q) t
noncomputable def q1q (a : LockBody) : Option (Bool) :=
 (if a.moving = 0 then (
 some (!a.failed))
 else (
 some false)).bind (fun c =>
 some c)
noncomputable def q2j (a : ApiStep) (c _ : Int) : Option (Bool) :=
 some (decide (a.Section = c))
noncomputable def q0A (c : List ApiStep) (d e : Int) (a : Nat) : (Unit) → Option ((Unit) ⊕ (Int)) := fun _ =>
 (idx c (a : Int)).bind fun f =>
 (q2j f d e).bind fun g =>
 if g = true then (
 some (.inr (a : Int)))
 else (
 some (.inl ()))
noncomputable def q2d (a : List ApiStep) (c d : Int) : Option (Int) :=
 (forM (q0A a c d) a.length 0 ()).bind fun t => Sum.elim (fun _ =>
 some (-1)) (fun q => some q) t
noncomputable def Y5 (a : List ApiStep) (c d : Int) : Option (Bool) :=
 (q2d a c d).bind fun e =>
 some (decide (0 ≤ e))
noncomputable def F9 (a : LockGate) : Option (Bool) :=
 (if a.wanted = true then (
 if a.left = 0 then (
 some (!a.failed))
 else (
 some false))
 else (
 some false)).bind (fun c =>
 some c)
noncomputable def q2i (a : ApiStep) (_ : List ByteArray) (_ : List ApiSection) (_ : List ApiLink) (_ : List ApiSignal) (_ : List ApiGate) (_ : List ApiRoute) (_ : List (List ApiNeed)) (c : List LockBody) (_ : List LockGate) (_ : LK) (_ : LA) : Option (Bool) :=
 (idx c a.Section).bind fun d =>
 (k9 d).bind fun e =>
 some e
noncomputable def q0z (c : List ApiStep) (d : List ByteArray) (e : List ApiSection) (f : List ApiLink) (g : List ApiSignal) (h : List ApiGate) (i : List ApiRoute) (j : List (List ApiNeed)) (k : List LockBody) (l : List LockGate) (m : LK) (n : LA) (a : Nat) : (Unit) → Option ((Unit) ⊕ (Int)) := fun _ =>
 (idx c (a : Int)).bind fun o =>
 (q2i o d e f g h i j k l m n).bind fun p =>
 if p = true then (
 some (.inr (a : Int)))
 else (
 some (.inl ()))
noncomputable def q2c (a : List ApiStep) (c : List ByteArray) (d : List ApiSection) (e : List ApiLink) (f : List ApiSignal) (g : List ApiGate) (h : List ApiRoute) (i : List (List ApiNeed)) (j : List LockBody) (k : List LockGate) (l : LK) (m : LA) : Option (Int) :=
 (forM (q0z a c d e f g h i j k l m) a.length 0 ()).bind fun t => Sum.elim (fun _ =>
 some (-1)) (fun q => some q) t
noncomputable def J9 (a : List ApiStep) (c : List ByteArray) (d : List ApiSection) (e : List ApiLink) (f : List ApiSignal) (g : List ApiGate) (h : List ApiRoute) (i : List (List ApiNeed)) (j : List LockBody) (k : List LockGate) (l : LK) (m : LA) : Option (Bool) :=
 (q2c a c d e f g h i j k l m).bind fun n =>
 some (decide (0 ≤ n))
noncomputable def q0d (e : List ApiGate) (f : LA) (g : List LockGate) (a : Nat) : ((Option Int)) → Option (((Option Int)) ⊕ (Bool)) := fun h =>
 (idx e (a : Int)).bind fun c =>
 (h).bind fun d =>
 (Q7 f d).bind fun i =>
 (Y5 i.Route.Steps c.Section c.Close).bind fun j =>
 (if j = true then (
 (idx g (a : Int)).bind fun k =>
 (F9 k).bind fun l =>
 some (!l))
 else (
 some false)).bind (fun m =>
 if m = true then (
 some (.inr false))
 else (
 some (.inl (some d))))
noncomputable def q0F (c : List LockBody) (d : List ApiNeed) (e : Nat) : (Unit) → Option ((Unit) ⊕ (Bool)) := fun _ =>
 (idx d (e : Int)).bind fun a =>
 (if 0 < a.Position then (
 (idx c a.Place).bind fun f =>
 (q1q f).bind fun g =>
 if g = true then (
 (idx c a.Place).bind fun h =>
 some (decide (h.position ≠ a.Position)))
 else (
 some true))
 else (
 some false)).bind (fun i =>
 if i = true then (
 some (.inr false))
 else (
 some (.inl ())))
noncomputable def q2k (d : (Option Int)) (i : List ByteArray) (j : List ApiSection) (k : List ApiLink) (l : List ApiSignal) (c : List ApiGate) (m : List ApiRoute) (n : List (List ApiNeed)) (a : LA) (e : List LockBody) (f : List LockGate) (o : LK) : Option (Bool) :=
 (V0 d a).bind fun g =>
 (forM (q0F e g) g.length 0 ()).bind fun t => Sum.elim (fun _ =>
 (forM (q0d c a f) c.length 0 d).bind fun t => Sum.elim (fun p =>
 ((p).bind fun r =>
 (Q7 a r).bind fun h =>
 if h.sight = true then (
 some true)
 else (
 (J9 h.Route.Steps i j k l c m n e f o a).bind fun s =>
 some (!s))).bind (fun u =>
 some u)) (fun q => some q) t) (fun q => some q) t
noncomputable def v7 (f : List ByteArray) (g : List ApiSection) (h : List ApiLink) (i : List ApiSignal) (j : List ApiGate) (k : List ApiRoute) (l : List (List ApiNeed)) (d : List Int) (m : List LockBody) (n : List LockGate) (o : LK) (c : LA) (p : Int) (t : List (Option Int)) (rcmLockBoxAspect_2 : (Int) → ((List ByteArray)) → ((List ApiSection)) → ((List ApiLink)) → ((List ApiSignal)) → ((List ApiGate)) → ((List ApiRoute)) → ((List (List ApiNeed))) → ((List Int)) → ((List LockBody)) → ((List LockGate)) → (LK) → (LA) → Option (Int × (List Int))) (u : Nat) : (Unit) → Option ((Unit) ⊕ (Int × (List Int))) := fun _ =>
 (idx t (u : Int)).bind fun v =>
 ((v).bind fun a =>
 (Q7 c a).bind fun e =>
 if e.Route.From ≠ p then (
 some ((some a), true))
 else (
 (idx e.seen 0).bind fun w =>
 if w = true then (
 some ((some a), true))
 else (
 if 0 < e.leave then (
 some ((some a), true))
 else (
 (q2k (some a) f g h i j k l c m n o).bind fun x =>
 some ((some a), !x))))).bind (K1 fun y z =>
 if z = true then (
 some (.inl ()))
 else (
 (y).bind fun q =>
 (Q7 c q).bind fun A =>
 if A.sight = true then (
 some (.inr (1, d)))
 else (
 ((Q7 c q).bind fun r =>
 if 0 ≤ r.Route.To then (
 (z0G 8 (d.length + 1)).bind fun _ =>
 (rcmLockBoxAspect_2 r.Route.To f g h i j k l (d ++ [p]) m n o c).bind (K1 fun B C =>
 some (decide (B ≠ 0), C)))
 else (
 some (false, d))).bind (K1 fun D s =>
 if D = true then (
 some (.inr (3, s)))
 else (
 some (.inr (2, s)))))))
noncomputable def v4 : Nat → (Int) → ((List ByteArray)) → ((List ApiSection)) → ((List ApiLink)) → ((List ApiSignal)) → ((List ApiGate)) → ((List ApiRoute)) → ((List (List ApiNeed))) → ((List Int)) → ((List LockBody)) → ((List LockGate)) → (LK) → (LA) → Option (Int × (List Int))
 | 0 => fun _ _ _ _ _ _ _ _ _ _ _ _ _ => none
 | N + 1 => fun c d e f g h i j a k l m n =>
 (H2 a c).bind fun p =>
 if p = true then (
 some (0, a))
 else (
 (G0 d e f g h i j k l m n).bind fun o =>
 (forM (v7 d e f g h i j a k l m n c o (v4 N)) o.length 0 ()).bind fun t => Sum.elim (fun _ =>
 some (0, a)) (fun q => some q) t)
noncomputable def q1F (a : Int) (d : List ByteArray) (e : List ApiSection) (f : List ApiLink) (c : List ApiSignal) (g : List ApiGate) (h : List ApiRoute) (i : List (List ApiNeed)) (j : List LockBody) (k : List LockGate) (l : LK) (m : LA) : Option (Int × Int) :=
 (if a < 0 then (
 some true)
 else (
 some (decide ((c.length : Int) ≤ a)))).bind (fun n =>
 if n = true then (
 some (0, 3))
 else (
 (lim (fun N => v4 N a d e f c g h i ([] : List Int) j k l m)).bind (K1 fun o _ =>
 some (o, 0))))
noncomputable def q4o (a : Int) (f : List ByteArray) (g : List ApiSection) (h : List ApiLink) (i : List ApiSignal) (j : List ApiGate) (k : List ApiRoute) (l : List (List ApiNeed)) (m : List LockBody) (n : List LockGate) (c : LK) (d : LA) : Option (Bool × Int) :=
 (J4 a f g h i j k l m n c d).bind fun o =>
 if o = true then (
 (some (P8 c a none)).bind fun e =>
 (if e.isNone = true then (
 some false)
 else (
 (e).bind fun p =>
 (Q7 d p).bind fun q =>
 (idx q.seen 0).bind fun r =>
 some r)).bind (fun s =>
 some (s, 0)))
 else (
 some (false, 3))
noncomputable def q0V (c : Int) (d : List ByteArray) (e : List ApiSection) (f : List ApiLink) (g : List ApiSignal) (h : List ApiGate) (i : List ApiRoute) (j : List (List ApiNeed)) (k : List LockBody) (l : List LockGate) (a : LK) (m : LA) : Option (Int × Int × LK) :=
 (V9 c d e f g h i j k l a m).bind fun n =>
 if n = true then (
 (q1o c d e f g h i j k l a m).bind (K1 fun o p =>
 some (o, 0, p)))
 else (
 some (0, 3, a))
noncomputable def q2g (a : Int) (d : List ByteArray) (e : List ApiSection) (f : List ApiLink) (g : List ApiSignal) (h : List ApiGate) (i : List ApiRoute) (j : List (List ApiNeed)) (c : List LockBody) (k : List LockGate) (l : LK) (m : LA) : Option (Bool × Int) :=
 (V9 a d e f g h i j c k l m).bind fun n =>
 if n = true then (
 (idx c a).bind fun o =>
 (k9 o).bind fun p =>
 some (p, 0))
 else (
 some (false, 3))
noncomputable def q0h (c : List ApiNeed) (d e : Int) (f : Nat) : (Unit) → Option ((Unit) ⊕ (Bool)) := fun _ =>
 (idx c (f : Int)).bind fun a =>
 (if a.Kind = 1 then (
 if a.Place = d then (
 some (decide (a.At = e)))
 else (
 some false))
 else (
 some false)).bind (fun g =>
 if g = true then (
 some (.inr true))
 else (
 some (.inl ())))
noncomputable def J6 (a : List ApiNeed) (c d : Int) : Option (Bool) :=
 (forM (q0h a c d) a.length 0 ()).bind fun t => Sum.elim (fun _ =>
 some false) (fun q => some q) t
noncomputable def q1D (a : Int) (_ : List ByteArray) (_ : List ApiSection) (_ : List ApiLink) (_ : List ApiSignal) (_ : List ApiGate) (_ : List ApiRoute) (_ : List (List ApiNeed)) (_ : List LockBody) (c : List LockGate) (_ : LK) (_ : LA) : Option (Bool × Int) :=
 (if a < 0 then (
 some true)
 else (
 some (decide ((c.length : Int) ≤ a)))).bind (fun d =>
 if d = true then (
 some (false, 3))
 else (
 (idx c a).bind fun e =>
 (F9 e).bind fun f =>
 some (f, 0)))
noncomputable def q0p (a : Int) (e : List ByteArray) (f : List ApiSection) (g : List ApiLink) (h : List ApiSignal) (i : List ApiGate) (j : List ApiRoute) (k : List (List ApiNeed)) (c : List LockBody) (l : List LockGate) (m : LK) (n : LA) : Option (Int × Bool × Int) :=
 (K5 a e f g h i j k c l m n).bind fun o =>
 if o = true then (
 (idx c a).bind fun d =>
 (q1q d).bind fun p =>
 some (d.position, p, 0))
 else (
 some (0, false, 3))
noncomputable def q0g (d : List ByteArray) (e : List ApiSection) (f : List ApiLink) (g : List ApiSignal) (h : List ApiGate) (i : List ApiRoute) (j : List (List ApiNeed)) (k : List LockBody) (l : List LockGate) (m : LA) (n : ApiNet) (a : LK) (o : ApiStep) (c : Nat) : (Unit) → Option ((Unit) ⊕ ((LK) ⊕ (Bool × LK))) := fun _ =>
 (idx n.Gates (c : Int)).bind fun p =>
 (q1D (c : Int) d e f g h i j k l a m).bind (K1 fun q r =>
 (if p.Section = o.Section then (
 if q = true then (
 some (decide (r ≠ 0)))
 else (
 some true))
 else (
 some false)).bind (fun s =>
 if s = true then (
 some (.inr (.inr (false, a))))
 else (
 some (.inl ()))))
noncomputable def q0f (d : List ApiNeed) (e : List ByteArray) (f : List ApiSection) (g : List ApiLink) (h : List ApiSignal) (i : List ApiGate) (j : List ApiRoute) (k : List (List ApiNeed)) (l : List LockBody) (m : List LockGate) (n : LA) (c : LK) (o : Nat) : (Unit) → Option ((Unit) ⊕ (Bool × LK)) := fun _ =>
 (idx d (o : Int)).bind fun a =>
 if a.Position = 0 then (
 some (.inl ()))
 else (
 (q0p a.Place e f g h i j k l m c n).bind (q4G fun p q r =>
 (if r ≠ 0 then (
 some true)
 else (
 if p ≠ a.Position then (
 some true)
 else (
 some (!q)))).bind (fun s =>
 if s = true then (
 some (.inr (false, c)))
 else (
 some (.inl ())))))
noncomputable def K3 (o : List ApiNeed) (d : List ByteArray) (e : List ApiSection) (f : List ApiLink) (g : List ApiSignal) (h : List ApiGate) (i : List ApiRoute) (j : List (List ApiNeed)) (k : List LockBody) (l : List LockGate) (m : LA) (p : ApiNet) (r : ApiRoute) (s : Int) (u : Bool) (n : Nat) : (LK) → Option ((LK) ⊕ (Bool × LK)) := fun v =>
 (idx r.Steps (n : Int)).bind fun a =>
 (q0V a.Section d e f g h i j k l v m).bind (q4G fun w x c =>
 (q2g a.Section d e f g h i j k l c m).bind (K1 fun y z =>
 (if x ≠ 0 then (
 some true)
 else (
 if z ≠ 0 then (
 some true)
 else (
 if w ≠ s then (
 some true)
 else (
 if y = true then (
 if u = true then (
 (J6 o a.Section (n : Int)).bind fun A =>
 some (!A))
 else (
 some true))
 else (
 (J6 o a.Section (n : Int)).bind fun B =>
 some (!B)))))).bind (fun C =>
 if C = true then (
 some (.inr (false, c)))
 else (
 (forM (q0g d e f g h i j k l m p c a) p.Gates.length 0 ()).bind fun t => Sum.elim (fun _ =>
 some (.inl c)) (fun q => some q) t))))
noncomputable def G7 (o : ApiNet) (c : ApiRoute) (a : List ApiNeed) (p : Int) (r : Bool) (d : List ByteArray) (e : List ApiSection) (f : List ApiLink) (g : List ApiSignal) (h : List ApiGate) (i : List ApiRoute) (j : List (List ApiNeed)) (k : List LockBody) (l : List LockGate) (s : LK) (m : LA) : Option (Bool × LK) :=
 (forM (K3 a d e f g h i j k l m o c p r) c.Steps.length 0 s).bind fun t => Sum.elim (fun n =>
 (forM (q0f a d e f g h i j k l m n) a.length 0 ()).bind fun t => Sum.elim (fun _ =>
 some (true, n)) (fun q => some q) t) (fun q => some q) t
noncomputable def q1R (d : List ByteArray) (e : List ApiSection) (f : List ApiLink) (g : List ApiSignal) (h : List ApiGate) (i : List ApiRoute) (j : List (List ApiNeed)) (c : List ApiRoute) (o : List (List ApiNeed)) (k : List LockBody) (l : List LockGate) (m : LK) (n : LA) (p : ApiNet) (q : Int) (r : List Int) (s : Int) (t : Nat) : (Unit) → Option ((Unit) ⊕ (Bool × LK)) := fun _ =>
 (idx r (t : Int)).bind fun a =>
 (q4o a d e f g h i j k l m n).bind (K1 fun u v =>
 (if v = 0 then (
 if u = true then (
 some false)
 else (
 if 0 ≤ a then (
 if a < (c.length : Int) then (
 (idx c a).bind fun w =>
 some (decide (w.From = q)))
 else (
 some false))
 else (
 some false)))
 else (
 some false)).bind (fun x =>
 if x = true then (
 (idx c a).bind fun y =>
 (idx o a).bind fun z =>
 (G7 p y z a (decide (s = 1)) d e f g h i j k l m n).bind (K1 fun A B =>
 some (.inr (A, B))))
 else (
 some (.inl ()))))
noncomputable def q1H (p : ApiNet) (m : Int) (c : List ByteArray) (d : List ApiSection) (e : List ApiLink) (f : List ApiSignal) (g : List ApiGate) (h : List ApiRoute) (i : List (List ApiNeed)) (r : List ApiRoute) (s : List (List ApiNeed)) (j : List LockBody) (k : List LockGate) (a : LK) (l : LA) : Option (Bool × LK) :=
 (q1F m c d e f g h i j k a l).bind (K1 fun n u =>
 if u ≠ 0 then (
 some (false, a))
 else (
 if n = 0 then (
 some (true, a))
 else (
 (q0y c d e f g h i j k a l).bind fun o =>
 (forM (q1R c d e f g h i r s j k a l p m o n) o.length 0 ()).bind fun t => Sum.elim (fun _ =>
 some (false, a)) (fun q => some q) t)))
noncomputable def V6 (a : ApiNet) (c : List ByteArray) (d : List ApiSection) (e : List ApiLink) (f : List ApiSignal) (g : List ApiGate) (h : List ApiRoute) (i : List (List ApiNeed)) (j : List ApiRoute) (k : List LockBody) (l : List LockGate) (m : LA) (n : List (List ApiNeed)) (o : Nat) : (LK) → Option ((LK) ⊕ (((List LockBody) × (List LockGate) × LK × LA) ⊕ (Bool))) := fun p =>
 (q1H a (o : Int) c d e f g h i j n k l p m).bind (K1 fun q r =>
 if q = true then (
 some (.inl r))
 else (
 some (.inr (.inr false))))
noncomputable def Z2 (l : ApiNet) (a : List ByteArray) (c : List ApiSection) (d : List ApiLink) (e : List ApiSignal) (f : List ApiGate) (g : List ApiRoute) (h : List (List ApiNeed)) (m : List ApiRoute) (p : List Fishkeep1Call) (r : Nat) : ((List LockBody) × (List LockGate) × LK × LA) → Option (((List LockBody) × (List LockGate) × LK × LA) ⊕ (Bool)) := z4Y fun s u v w =>
 (idx p (r : Int)).bind fun x =>
 (q3d x a c d e f g h s u v w).bind (j1d fun _ i j n k =>
 (q1I (m.length : Int) a c d e f g h i j n k).bind (K1 fun y o =>
 (if y = true then (
 (q1e o).bind fun z =>
 some (!z))
 else (
 some true)).bind (fun A =>
 if A = true then (
 some (.inr false))
 else (
 (forM (V6 l a c d e f g h m i j k o) l.Signals.length 0 n).bind fun t => Sum.elim (fun B =>
 some (.inl (i, j, B, k))) (fun q => some q) t))))
noncomputable def mFishkeep1LockKeeps (a : ApiNet) (c : List Fishkeep1Call) : Option (Bool) :=
 (J7).bind fun e =>
 if e = true then (
 (mLockNew a).bind (j1e fun f g h i j k l m n o p =>
 if (0 : Int) ≠ (0 : Int) then (
 some false)
 else (
 (G8 a).bind (K1 fun r s =>
 if r ≠ 0 then (
 some false)
 else (
 (z6w c 0 (min (c.length : Int) 200)).bind fun d =>
 (forM (Z2 a f g h i j k l s d) d.length 0 (m, n, o, p)).bind fun t => Sum.elim (z4Y fun _ _ _ _ =>
 some true) (fun q => some q) t)))))
 else (
 some false)
end Go.Proofs.YtdbehipjelcmbaaGreatDoor
