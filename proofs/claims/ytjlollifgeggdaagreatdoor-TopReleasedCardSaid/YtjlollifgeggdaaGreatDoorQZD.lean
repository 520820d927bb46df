import Derived.Test.YtjlollifgeggdaaGreatDoorF3
import Derived.Test.YtjlollifgeggdaaGreatDoorQXZ
set_option linter.unusedVariables false
set_option linter.unusedSimpArgs false
set_option linter.unusedSectionVars false
namespace Go.Proofs.YtjlollifgeggdaaGreatDoor
open Go.RowKit Go.Fp
structure j0 where
  Kind : Int
  Length : Int
  Grade : Int
  Speed : Int
  Slow : Int
  Station : Int
  Axles : Bool
  deriving DecidableEq
def j4 : RT j0 := (RT.cat (RT.on (RT.int .i64) j0.Kind) (RT.cat (RT.on (RT.int .i64) j0.Length) (RT.cat (RT.on (RT.int .i64) j0.Grade) (RT.cat (RT.on (RT.int .i64) j0.Speed) (RT.cat (RT.on (RT.int .i64) j0.Slow) (RT.cat (RT.on (RT.int .i64) j0.Station) (RT.on RT.bool j0.Axles)))))))
structure j9 where
  A : Int
  EndA : Int
  B : Int
  EndB : Int
  deriving DecidableEq
def Q0 : RT j9 := (RT.cat (RT.on (RT.int .i64) j9.A) (RT.cat (RT.on (RT.int .i64) j9.EndA) (RT.cat (RT.on (RT.int .i64) j9.B) (RT.on (RT.int .i64) j9.EndB))))
structure j5 where
  Section : Int
  End : Int
  deriving DecidableEq
def j6 : RT j5 := (RT.cat (RT.on (RT.int .i64) j5.Section) (RT.on (RT.int .i64) j5.End))
structure Q2 where
  Section : Int
  Close : Int
  deriving DecidableEq
def Q1 : RT Q2 := (RT.cat (RT.on (RT.int .i64) Q2.Section) (RT.on (RT.int .i64) Q2.Close))
structure j3 where
  Stations : (List ByteArray)
  Sections : (List j0)
  Links : (List j9)
  Signals : (List j5)
  Gates : (List Q2)
def z5t : RT j3 := (RT.cat (RT.on (RT.list RT.str) j3.Stations) (RT.cat (RT.on (RT.list j4) j3.Sections) (RT.cat (RT.on (RT.list Q0) j3.Links) (RT.cat (RT.on (RT.list j6) j3.Signals) (RT.on (RT.list Q1) j3.Gates)))))
structure v7 where
  section_ : Int
  end_ : Int
  deriving DecidableEq
def z3a : RT v7 := (RT.cat (RT.on (RT.int .i64) v7.section_) (RT.on (RT.int .i64) v7.end_))
structure v6 where
  Section : Int
  In : Int
  Out : Int
  deriving DecidableEq
def J1 : RT v6 := (RT.cat (RT.on (RT.int .i64) v6.Section) (RT.cat (RT.on (RT.int .i64) v6.In) (RT.on (RT.int .i64) v6.Out)))
structure z7 where
  From : Int
  To : Int
  Steps : (List v6)
def Z3 : RT z7 := (RT.cat (RT.on (RT.int .i64) z7.From) (RT.cat (RT.on (RT.int .i64) z7.To) (RT.on (RT.list J1) z7.Steps)))
structure q8 where
  Kind : Int
  Place : Int
  Position : Int
  At : Int
  deriving DecidableEq
def j7 : RT q8 := (RT.cat (RT.on (RT.int .i64) q8.Kind) (RT.cat (RT.on (RT.int .i64) q8.Place) (RT.cat (RT.on (RT.int .i64) q8.Position) (RT.on (RT.int .i64) q8.At))))
structure q9 where
  axles : Int
  disturbed : Bool
  position : Int
  moving : Int
  failed : Bool
  deriving DecidableEq
def Q5 : RT q9 := (RT.cat (RT.on (RT.int .i64) q9.axles) (RT.cat (RT.on RT.bool q9.disturbed) (RT.cat (RT.on (RT.int .i64) q9.position) (RT.cat (RT.on (RT.int .i64) q9.moving) (RT.on RT.bool q9.failed)))))
structure z8 where
  left : Int
  wanted : Bool
  failed : Bool
  deriving DecidableEq
def Q7 : RT z8 := (RT.cat (RT.on (RT.int .i64) z8.left) (RT.cat (RT.on RT.bool z8.wanted) (RT.on RT.bool z8.failed)))
structure z6 where
  Route : z7
  needs : (List q8)
  seen : (List Bool)
  gone : (List Bool)
  laps : Bool
  sight : Bool
  leave : Int
  clock : Int
  number : Int
def j8 (w : World) (cs : List Value) (x : z6) (hs : Hp) : Prop := ∃ (A1 : Option Addr) (c1 : Nat) (A2 : Option Addr) (c2 : Nat) (A3 : Option Addr) (c3 : Nat) (hs3 : Hp) (A4 : Option Addr) (c4 : Nat) (hs4 : Hp), cs = [.int .i64 x.Route.From, .int .i64 x.Route.To, .slice A1 x.Route.Steps.length c1, .slice A2 x.needs.length c2, .slice A3 x.seen.length c3, .slice A4 x.gone.length c4, .bool x.laps, .bool x.sight, .int .i64 x.leave, .int .i64 x.clock, .int .i64 x.number] ∧ FZ J1 w A1 c1 x.Route.Steps ∧ FZ j7 w A2 c2 x.needs ∧ OS 4 (OT.fr RT.bool) w (.slice A3 x.seen.length c3) x.seen hs3 ∧ OS 4 (OT.fr RT.bool) w (.slice A4 x.gone.length c4) x.gone hs4 ∧ hs = hs3 ++ hs4
theorem J8 : KM j8 := ⟨fun hk ⟨A1, c1, A2, c2, A3, c3, hs3, A4, c4, hs4, h0, f0, f1, f2, f3, h1⟩ => ⟨A1, c1, A2, c2, A3, c3, hs3, A4, c4, hs4, h0, f0.mono hk, f1.mono hk, f2.mono hk, f3.mono hk, h1⟩⟩
abbrev LK : Type := List (Int × (Option Int))
abbrev LA : Type := List (Int × z6)
noncomputable def q1w (a c : ByteArray) : Option (Bool) :=
 (if (c.size : Int) ≤ (a.size : Int) then (
 (chk ((a.size : Int) - (c.size : Int))).bind fun _ =>
 (j3p a ((a.size : Int) - (c.size : Int)) (a.size : Int)).bind fun d =>
 some (sEq d c))
 else (
 some false)).bind (fun e =>
 some e)
noncomputable def q1x (a c : ByteArray) : Option (ByteArray × Bool) :=
 (q1w a c).bind fun d =>
 if d = true then (
 (chk ((a.size : Int) - (c.size : Int))).bind fun _ =>
 (j3p a 0 ((a.size : Int) - (c.size : Int))).bind fun e =>
 some (e, true))
 else (
 some (a, false))
noncomputable def q3a (a c : ByteArray) : Option (ByteArray × Bool) :=
 (q1x a c).bind (q0q fun d e =>
 some (d, e))
noncomputable def q1v (a : ByteArray) (c : Int) : Option (Int) :=
 some (j2i a c)
noncomputable def q2Z (c a : ByteArray) : Option (Int) :=
 (if (a.size : Int) = 0 then (
 some true)
 else (
 some (sEq a c))).bind (fun d =>
 if d = true then (
 some 0)
 else (
 if (a.size : Int) = 1 then (
 (j6l a 0).bind fun e =>
 (q1v c e).bind fun f =>
 some f)
 else (
 if (c.size : Int) ≤ (a.size : Int) then (
 some (-1))
 else (
 none))))
noncomputable def q3V (a c : ByteArray) : Option (Int) :=
 (q2Z a c).bind fun d =>
 some d
noncomputable def q5h (a : ByteArray) : (ByteArray × Int) → Option ((ByteArray × Int) ⊕ (Int)) := q0q fun c d =>
 (q3V c a).bind fun e =>
 if e = (-1) then (
 some (.inr d))
 else (
 (chk (d + 1)).bind fun _ =>
 (chk (e + (a.size : Int))).bind fun _ =>
 (j3p c (e + (a.size : Int)) (c.size : Int)).bind fun f =>
 some (.inl (f, d + 1)))
noncomputable def q5D (c a : ByteArray) : Option (Int) :=
 if (a.size : Int) = 0 then (
 none)
 else (
 if (a.size : Int) = 1 then (
 (j6l a 0).bind fun d =>
 some (j2j c d))
 else (
 q7g (q5h a) (c, 0)))
noncomputable def K7 (h f : ByteArray) (g i : Int) : (ByteArray × Int × (List ByteArray)) → Option ((ByteArray × Int × (List ByteArray)) ⊕ (ByteArray × Int × (List ByteArray))) := q5U fun c a e =>
 if a < ((min i ((h.size : Int) + 1)) - 1) then (
 (q3V c f).bind fun d =>
 if d < 0 then (
 some (.inr (c, a, e)))
 else (
 (chk (d + g)).bind fun _ =>
 (j3p c 0 (d + g)).bind fun j =>
 (idx e a).bind fun _ =>
 (chk (d + (f.size : Int))).bind fun _ =>
 (j3p c (d + (f.size : Int)) (c.size : Int)).bind fun k =>
 (chk (a + 1)).bind fun _ =>
 some (.inl (k, a + 1, put e a j))))
 else (
 some (.inr (c, a, e)))
noncomputable def q0M (a d : ByteArray) (i e : Int) : Option ((List ByteArray)) :=
 if e = 0 then (
 some [])
 else (
 if (sEq d (ByteArray.mk #[])) = true then (
 none)
 else (
 (if e < 0 then (
 (q5D a d).bind fun g =>
 (chk (g + 1)).bind fun _ =>
 some (g + 1))
 else (
 some e)).bind (fun f =>
 (chk ((a.size : Int) + 1)).bind fun _ =>
 (z3g 16 (min f ((a.size : Int) + 1))).bind fun j =>
 (chk ((min f ((a.size : Int) + 1)) - 1)).bind fun _ =>
 (q7g (K7 a d i f) (a, 0, List.replicate j (ByteArray.empty : ByteArray))).bind (q5U fun k c h =>
 (idx h c).bind fun _ =>
 (chk (c + 1)).bind fun _ =>
 (z8f (put h c k) 0 (c + 1)).bind fun l =>
 some l))))
noncomputable def Y4 (a c : ByteArray) : Option ((List ByteArray)) :=
 (q0M a c 0 (-1)).bind fun d =>
 some d
noncomputable def q0x (c : List ByteArray) (d : Nat) : ((List (List ByteArray))) → Option ((List (List ByteArray))) := fun a =>
 (idx c (d : Int)).bind fun e =>
 (Y4 e (ByteArray.mk #[32])).bind fun f =>
 (z1z 24 (a.length + 1)).bind fun _ =>
 some (a ++ [f])
noncomputable def q4g (a : ByteArray) : Option (Bool × (List (List ByteArray))) :=
 if (sEq a (ByteArray.mk #[])) = true then (
 some (true, []))
 else (
 (q3a a (ByteArray.mk #[10])).bind (q0q fun d e =>
 (Y4 d (ByteArray.mk #[10])).bind fun c =>
 (forS (q0x c) c.length 0 ([] : List (List ByteArray))).bind (fun f =>
 some (e, f))))
noncomputable def q3Z (c : ByteArray) (d : Nat) : (Unit) → Option ((Unit) ⊕ (Bool)) := fun _ =>
 (idx (q2a c) (d : Int)).bind fun a =>
 (if a < 97 then (
 some true)
 else (
 some (decide (122 < a)))).bind (fun e =>
 if e = true then (
 some (.inr false))
 else (
 some (.inl ())))
noncomputable def q6v (a : ByteArray) : Option (Bool) :=
 (chk (a.size : Int)).bind fun _ =>
 (forM (q3Z a) ((q2a a).length) 0 ()).bind fun t => Sum.elim (fun _ =>
 (if 1 ≤ (a.size : Int) then (
 some (decide ((a.size : Int) ≤ 12)))
 else (
 some false)).bind (fun c =>
 some c)) (fun q => some q) t
noncomputable def q2g (c : List ByteArray) (d : ByteArray) (a : Nat) : (Unit) → Option ((Unit) ⊕ (Int)) := fun _ =>
 (idx c (a : Int)).bind fun e =>
 if (sEq d e) = true then (
 some (.inr (a : Int)))
 else (
 some (.inl ()))
noncomputable def q4H (a : List ByteArray) (c : ByteArray) : Option (Int) :=
 (forM (q2g a c) a.length 0 ()).bind fun t => Sum.elim (fun _ =>
 some (-1)) (fun q => some q) t
noncomputable def q1y (a : List ByteArray) (c : ByteArray) : Option (Bool) :=
 (q4H a c).bind fun d =>
 some (decide (0 ≤ d))
noncomputable def q4q (a : Int) : Option (Int) :=
 if a = 1 then (
 some 2)
 else (
 if a = 2 then (
 some 3)
 else (
 if a = 3 then (
 some 4)
 else (
 some 0)))
noncomputable def V6 (a c d : Int) : Option (Bool) :=
 (if c ≤ a then (
 some (decide (a ≤ d)))
 else (
 some false)).bind (fun e =>
 some e)
noncomputable def q0z (a : j0) (c : Int) : Option (Int) :=
 (q4q a.Kind).bind fun d =>
 if d = 0 then (
 some 1)
 else (
 ((V6 a.Length 10 3000).bind fun e =>
 if e = true then (
 (V6 a.Grade (-40) 40).bind fun f =>
 if f = true then (
 (V6 a.Speed 300 6000).bind fun g =>
 some (!g))
 else (
 some true))
 else (
 some true)).bind (fun h =>
 if h = true then (
 some 2)
 else (
 (if a.Kind = 2 then (
 (V6 a.Slow 300 a.Speed).bind fun i =>
 if i = true then (
 if a.Kind = 1 then (
 (V6 a.Station 0 c).bind fun j =>
 some (!j))
 else (
 some false))
 else (
 some true))
 else (
 if a.Kind = 1 then (
 (V6 a.Station 0 c).bind fun k =>
 some (!k))
 else (
 some false))).bind (fun l =>
 if l = true then (
 some 2)
 else (
 (if a.Slow ≠ 0 then (
 if a.Kind = 2 then (
 if a.Station ≠ 0 then (
 if a.Kind = 1 then (
 if a.Grade ≠ 0 then (
 some (decide (a.Kind = 3)))
 else (
 some false))
 else (
 some true))
 else (
 if a.Grade ≠ 0 then (
 some (decide (a.Kind = 3)))
 else (
 some false)))
 else (
 some true))
 else (
 if a.Station ≠ 0 then (
 if a.Kind = 1 then (
 if a.Grade ≠ 0 then (
 some (decide (a.Kind = 3)))
 else (
 some false))
 else (
 some true))
 else (
 if a.Grade ≠ 0 then (
 some (decide (a.Kind = 3)))
 else (
 some false)))).bind (fun m =>
 if m = true then (
 some 1)
 else (
 some 0)))))))
noncomputable def q5F (a : j3) (c : v7) : Option (Bool) :=
 ((chk ((a.Sections.length : Int) - 1)).bind fun _ =>
 (V6 c.section_ 0 ((a.Sections.length : Int) - 1)).bind fun e =>
 if e = true then (
 (idx a.Sections c.section_).bind fun f =>
 (q4q f.Kind).bind fun d =>
 (chk (d - 1)).bind fun _ =>
 (V6 c.end_ 0 (d - 1)).bind fun g =>
 some g)
 else (
 some false)).bind (fun h =>
 some h)
noncomputable def q6x (a : Int) : Option (Bool) :=
 some (decide (a ≠ a))
noncomputable def H5 (a c : Int) : Option (Int) :=
 (q6x a).bind fun e =>
 (q6x c).bind fun d =>
 if e = true then (
 if d = true then (
 some 0)
 else (
 some (-1)))
 else (
 if d = true then (
 some 1)
 else (
 if a < c then (
 some (-1))
 else (
 if c < a then (
 some 1)
 else (
 some 0))))
noncomputable def q6Z (c : List Int) (d : Nat) : (Unit) → Option ((Unit) ⊕ (Int)) := fun _ =>
 (idx c (d : Int)).bind fun a =>
 if a ≠ 0 then (
 some (.inr a))
 else (
 some (.inl ()))
noncomputable def q8f (a : List Int) : Option (Int) :=
 (forM (q6Z a) a.length 0 ()).bind fun t => Sum.elim (fun _ =>
 some 0) (fun q => some q) t
noncomputable def q0u (c : j3) (d : Nat) : ((List (v7 × Bool))) → Option (((List (v7 × Bool))) ⊕ (Int)) := fun e =>
 (idx c.Links (d : Int)).bind fun a =>
 (some ()).bind (fun _ =>
 ((q5F c (⟨a.A, a.EndA⟩ : v7)).bind fun g =>
 if g = true then (
 (q5F c (⟨a.B, a.EndB⟩ : v7)).bind fun h =>
 some (!h))
 else (
 some true)).bind (fun i =>
 if i = true then (
 some (.inr 3))
 else (
 if a.A = a.B then (
 some (.inr 1))
 else (
 if a.B < a.A then (
 some (.inr 5))
 else (
 (if 0 < (d : Int) then (
 (chk ((d : Int) - 1)).bind fun _ =>
 (idx c.Links ((d : Int) - 1)).bind fun f =>
 ((H5 f.A a.A).bind fun j =>
 (H5 f.EndA a.EndA).bind fun k =>
 (q8f [j, k]).bind fun l =>
 some (decide (0 ≤ l))).bind (fun m =>
 if m = true then (
 some (.inr (.inr 5)))
 else (
 some (.inl ()))))
 else (
 some (.inl ()))).bind fun t => Sum.elim (fun _ =>
 ((some (q0D e (⟨a.A, a.EndA⟩ : v7) false)).bind fun n =>
 if n = true then (
 some true)
 else (
 (some (q0D e (⟨a.B, a.EndB⟩ : v7) false)).bind fun o =>
 some o)).bind (fun p =>
 if p = true then (
 some (.inr 6))
 else (
 some (.inl (X7 (X7 e (⟨a.A, a.EndA⟩ : v7) true) (⟨a.B, a.EndB⟩ : v7) true))))) (fun q => some q) t)))))
noncomputable def q1J (a : j3) : Option (Int) :=
 (forM (q0u a) a.Links.length 0 (([] : List (v7 × Bool)) : List (v7 × Bool))).bind fun t => Sum.elim (fun _ =>
 some 0) (fun q => some q) t
noncomputable def q1G (d : j3) (c : v7) (e : Nat) : (Unit) → Option ((Unit) ⊕ (Int × Int × Bool)) := fun _ =>
 (idx d.Links (e : Int)).bind fun a =>
 (if a.A = c.section_ then (
 some (decide (a.EndA = c.end_)))
 else (
 some false)).bind (fun f =>
 if f = true then (
 some (.inr (a.B, a.EndB, true)))
 else (
 (if a.B = c.section_ then (
 some (decide (a.EndB = c.end_)))
 else (
 some false)).bind (fun g =>
 if g = true then (
 some (.inr (a.A, a.EndA, true)))
 else (
 some (.inl ())))))
noncomputable def Y1 (a : j3) (c : v7) : Option (Int × Int × Bool) :=
 (forM (q1G a c) a.Links.length 0 ()).bind fun t => Sum.elim (fun _ =>
 some (0, 0, false)) (fun q => some q) t
noncomputable def V2 (c : j3) (d : Nat) : (Unit) → Option ((Unit) ⊕ (Int)) := fun _ =>
 (idx c.Signals (d : Int)).bind fun a =>
 (q5F c (⟨a.Section, a.End⟩ : v7)).bind fun f =>
 if f = true then (
 (Y1 c (⟨a.Section, a.End⟩ : v7)).bind (q5U fun _ _ g =>
 (if g = true then (
 (idx c.Sections a.Section).bind fun h =>
 some (decide (h.Kind ≠ 1)))
 else (
 some true)).bind (fun i =>
 if i = true then (
 some (.inr 1))
 else (
 if 0 < (d : Int) then (
 (chk ((d : Int) - 1)).bind fun _ =>
 (idx c.Signals ((d : Int) - 1)).bind fun e =>
 ((H5 e.Section a.Section).bind fun j =>
 (H5 e.End a.End).bind fun k =>
 (q8f [j, k]).bind fun l =>
 some (decide (0 ≤ l))).bind (fun m =>
 if m = true then (
 some (.inr 5))
 else (
 some (.inl ()))))
 else (
 some (.inl ()))))))
 else (
 some (.inr 3))
noncomputable def Y2 (a : j3) : Option (Int) :=
 (forM (V2 a) a.Signals.length 0 ()).bind fun t => Sum.elim (fun _ =>
 some 0) (fun q => some q) t
noncomputable def W7 (a : j3) (c : Nat) : (Unit) → Option ((Unit) ⊕ (Int)) := fun _ =>
 (idx a.Gates (c : Int)).bind fun d =>
 (chk ((a.Sections.length : Int) - 1)).bind fun _ =>
 (V6 d.Section 0 ((a.Sections.length : Int) - 1)).bind fun e =>
 if e = true then (
 (idx a.Sections d.Section).bind fun f =>
 if f.Kind ≠ 1 then (
 some (.inr 1))
 else (
 (V6 d.Close 1 12).bind fun g =>
 if g = true then (
 (if 0 < (c : Int) then (
 (chk ((c : Int) - 1)).bind fun _ =>
 (idx a.Gates ((c : Int) - 1)).bind fun h =>
 some (decide (d.Section ≤ h.Section)))
 else (
 some false)).bind (fun i =>
 if i = true then (
 some (.inr 5))
 else (
 some (.inl ()))))
 else (
 some (.inr 2))))
 else (
 some (.inr 3))
noncomputable def F6 (a : j3) : Option (Int) :=
 (forM (W7 a) a.Gates.length 0 ()).bind fun t => Sum.elim (fun _ =>
 some 0) (fun q => some q) t
noncomputable def q0y (a : j3) (c : Nat) : (Unit) → Option ((Unit) ⊕ (Int)) := fun _ =>
 if (c : Int) = (0 : Int) then (
 (q1J a).bind fun d =>
 if d ≠ 0 then (
 some (.inr d))
 else (
 some (.inl ())))
 else (
 if (c : Int) = (1 : Int) then (
 (Y2 a).bind fun e =>
 if e ≠ 0 then (
 some (.inr e))
 else (
 some (.inl ())))
 else (
 if (c : Int) = (2 : Int) then (
 (F6 a).bind fun f =>
 if f ≠ 0 then (
 some (.inr f))
 else (
 some (.inl ())))
 else (
 none)))
noncomputable def q1H (a : j3) (d : Nat) : (Unit) → Option ((Unit) ⊕ (Int)) := fun _ =>
 (idx a.Sections (d : Int)).bind fun e =>
 (q0z e (a.Stations.length : Int)).bind fun c =>
 if c ≠ 0 then (
 some (.inr c))
 else (
 some (.inl ()))
noncomputable def q1I (a : j3) (c : Nat) : (Unit) → Option ((Unit) ⊕ (Int)) := fun _ =>
 (idx a.Stations (c : Int)).bind fun d =>
 (q6v d).bind fun e =>
 if e = true then (
 (z8f a.Stations 0 (c : Int)).bind fun f =>
 (q1y f d).bind fun g =>
 if g = true then (
 some (.inr 6))
 else (
 some (.inl ())))
 else (
 some (.inr 1))
noncomputable def J5 (a : j3) : Option (Int) :=
 if (a.Sections.length : Int) = 0 then (
 some 1)
 else (
 (if 12 < (a.Stations.length : Int) then (
 some true)
 else (
 if 60 < (a.Sections.length : Int) then (
 some true)
 else (
 if 90 < (a.Links.length : Int) then (
 some true)
 else (
 if 40 < (a.Signals.length : Int) then (
 some true)
 else (
 some (decide (8 < (a.Gates.length : Int)))))))).bind (fun c =>
 if c = true then (
 some 4)
 else (
 (forM (q1I a) a.Stations.length 0 ()).bind fun t => Sum.elim (fun _ =>
 (forM (q1H a) a.Sections.length 0 ()).bind fun t => Sum.elim (fun _ =>
 (forM (q0y a) 3 0 ()).bind fun t => Sum.elim (fun _ =>
 some 0) (fun q => some q) t) (fun q => some q) t) (fun q => some q) t)))
noncomputable def q7n (a : List (List ByteArray)) (c : Nat) : (Unit) → Option ((Unit) ⊕ ((List ByteArray) × (List j0) × (List j9) × (List j5) × (List Q2) × Int)) := fun _ =>
 (idx a (c : Int)).bind fun _ =>
 none
noncomputable def q8e (a : ByteArray) : Option ((List ByteArray) × (List j0) × (List j9) × (List j5) × (List Q2) × Int) :=
 if 20000 < (a.size : Int) then (
 some ([], [], [], [], [], 4))
 else (
 (q4g a).bind (q0q fun e c =>
 if e = true then (
 (forM (q7n c) c.length 0 ()).bind fun t => Sum.elim (fun _ =>
 (J5 (⟨[], [], [], [], []⟩ : j3)).bind fun d =>
 if d ≠ 0 then (
 some ([], [], [], [], [], d))
 else (
 some ([], [], [], [], [], 0))) (fun q => some q) t)
 else (
 some ([], [], [], [], [], 10))))
noncomputable def q0A : Option (Bool) :=
 (q8e (ByteArray.mk #[120])).bind (j7p fun _ _ _ _ _ a =>
 some (decide (a ≠ 0)))
noncomputable def q2f (a c : Int) : Option ((List Int)) :=
 (if a = 2 then (
 some (decide (c = 0)))
 else (
 some false)).bind (fun d =>
 if d = true then (
 some [1, 2])
 else (
 if a = 2 then (
 some [0])
 else (
 some [z5j .i64 c 1])))
noncomputable def q0P (a : j3) (c : v7) : Option ((List v6)) :=
 (Y1 a c).bind (q5U fun x y q => if q = true then (idx a.Sections x).bind fun p => (q2f p.Kind y).bind fun o => some (o.map fun k => (⟨x, y, k⟩ : v6)) else some [])
noncomputable def q3Y (a : v6) (c : Int) : Option (Bool) :=
 some (decide (a.Section = c))
noncomputable def q0s (c : List v6) (d : Int) (a : Nat) : (Unit) → Option ((Unit) ⊕ (Int)) := fun _ =>
 (idx c (a : Int)).bind fun e =>
 (q3Y e d).bind fun f =>
 if f = true then (
 some (.inr (a : Int)))
 else (
 some (.inl ()))
noncomputable def q2h (a : List v6) (c : Int) : Option (Int) :=
 (forM (q0s a c) a.length 0 ()).bind fun t => Sum.elim (fun _ =>
 some (-1)) (fun q => some q) t
noncomputable def q0F (a : List v6) (c : Int) : Option (Bool) :=
 (q2h a c).bind fun d =>
 some (decide (0 ≤ d))
noncomputable def W6 (a : List v6) (c : Int) : Option (Bool) :=
 (q0F a c).bind fun d =>
 some d
noncomputable def P9 (_ : List ByteArray) (_ : List j0) (_ : List j9) (_ : List j5) (_ : List Q2) (a : Int) (c : Bool) (_ : List z7) : Option (Int × Bool) :=
 (chk (a + 1)).bind fun _ =>
 if c = true then (
 some (a + 1, true))
 else (
 some (a + 1, decide (80 < (a + 1))))
noncomputable def q3B (a : List v6) : Option ((List v6)) :=
 (z1z 24 a.length).bind fun _ => some a
noncomputable def q1c (e : List j5) (a : j5) (c : Nat) : (Unit) → Option ((Unit) ⊕ (Int)) := fun _ =>
 (idx e (c : Int)).bind fun d =>
 if a.Section = d.Section ∧ a.End = d.End then (
 some (.inr (c : Int)))
 else (
 some (.inl ()))
noncomputable def q3l (a : List j5) (c : j5) : Option (Int) :=
 (forM (q1c a c) a.length 0 ()).bind fun t => Sum.elim (fun _ =>
 some (-1)) (fun q => some q) t
noncomputable def F1 (c : j3) (a : v7) : Option (Int) :=
 (q3l c.Signals (⟨a.section_, a.end_⟩ : j5)).bind fun d =>
 some d
noncomputable def J2 (l : Int) (m : List v6) (d : List ByteArray) (e : List j0) (f : List j9) (g : List j5) (h : List Q2) (q : Int) (rcmLineFinderGrow : (Int) → ((List v6)) → (v7) → ((List ByteArray)) → ((List j0)) → ((List j9)) → ((List j5)) → ((List Q2)) → (Int) → (Bool) → ((List z7)) → Option (Int × Bool × (List z7))) (a : v6) : (Int × Bool × (List z7)) → Option ((Int × Bool × (List z7)) ⊕ (Int × Bool × (List z7))) := q5U fun i j c =>
 if j = true then (
 some (.inr (i, j, c)))
 else (
 (if a.Section = q then (
 some true)
 else (
 (W6 m a.Section).bind fun r =>
 some r)).bind (fun s =>
 if s = true then (
 (P9 d e f g h i j c).bind (q0q fun t u =>
 some (.inr (t, u, c))))
 else (
 ((q3B m).bind fun n =>
 (z1z 24 (n.length + 1)).bind fun _ =>
 some (n ++ [a])).bind (fun k =>
 if 16 < (k.length : Int) then (
 some (.inr (i, true, c)))
 else (
 (F1 (⟨d, e, f, g, h⟩ : j3) (⟨a.Section, a.Out⟩ : v7)).bind fun o =>
 ((Y1 (⟨d, e, f, g, h⟩ : j3) (⟨a.Section, a.Out⟩ : v7)).bind (q5U fun _ _ v =>
 some v)).bind (fun w =>
 (if w = true then (
 some (decide (o < 0)))
 else (
 some false)).bind (fun x =>
 if x = true then (
 (rcmLineFinderGrow l k (⟨a.Section, a.Out⟩ : v7) d e f g h i j c).bind (q5U fun y z A =>
 some (.inl (y, z, A))))
 else (
 ((z1z 40 (c.length + 1)).bind fun _ =>
 some (c ++ [(⟨l, o, k⟩ : z7)])).bind (fun p =>
 (P9 d e f g h i j p).bind (q0q fun B C =>
 some (.inl (B, C, p))))))))))))
noncomputable def J7 : Nat → (Int) → ((List v6)) → (v7) → ((List ByteArray)) → ((List j0)) → ((List j9)) → ((List j5)) → ((List Q2)) → (Int) → (Bool) → ((List z7)) → Option (Int × Bool × (List z7))
 | 0 => fun _ _ _ _ _ _ _ _ _ _ _ => none
 | N + 1 => fun c h i d e f a g j k l =>
 ((idx a c).bind fun m =>
 some m.Section).bind (fun n =>
 (q0P (⟨d, e, f, a, g⟩ : j3) i).bind fun o =>
 (q4L (J2 c h d e f a g n (J7 N)) o (j, k, l)).bind fun t => Sum.elim (q5U fun p r s =>
 some (p, r, s)) (fun q => some q) t)
noncomputable def q1l (a : j3) (c : Nat) : (Int × Bool × (List z7)) → Option (Int × Bool × (List z7)) := q5U fun e f g =>
 (idx a.Signals (c : Int)).bind fun d =>
 (lim (fun N => J7 N (c : Int) [] (⟨d.Section, d.End⟩ : v7) a.Stations a.Sections a.Links a.Signals a.Gates e f g)).bind (q5U fun h i j =>
 some (h, i, j))
noncomputable def q2L (a : j3) : Option (Int × (List z7)) :=
 (forS (q1l a) a.Signals.length 0 ((0, false, []) : Int × Bool × (List z7))).bind (q5U fun _ c d =>
 if c = true then (
 some (4, []))
 else (
 some (0, d)))
noncomputable def H3 (a : j3) : Option (Int × (List z7)) :=
 (J5 a).bind fun c =>
 if c ≠ 0 then (
 some (c, []))
 else (
 (q2L a).bind (q0q fun d e =>
 some (d, e)))
noncomputable def q1X (a : j3) (c : Int) : Option (Bool) :=
 ((chk ((a.Sections.length : Int) - 1)).bind fun _ =>
 (V6 c 0 ((a.Sections.length : Int) - 1)).bind fun d =>
 if d = true then (
 (idx a.Sections c).bind fun e =>
 some (decide (e.Station ≠ 0)))
 else (
 some false)).bind (fun f =>
 some f)
noncomputable def q2M (a : v6) : (Unit) → Option ((Unit) ⊕ (Int × Int × Int × Bool)) := fun _ =>
 some (.inr (a.Section, a.In, a.Out, true))
noncomputable def q0l (d : j3) (f : z7) : (Int × Int × Int × (List v6)) → Option ((Int × Int × Int × (List v6)) ⊕ ((List v6))) := z5b fun e i j c =>
 if e < 50 then (
 ((q0P d (⟨i, j⟩ : v7)).bind fun k =>
 (q4L q2M k ()).bind fun t => Sum.elim (fun _ =>
 some (0, 0, 0, false)) (fun q => some q) t).bind (z5b fun a l g m =>
 (if m = true then (
 (W6 f.Steps a).bind fun n =>
 if n = true then (
 some true)
 else (
 (W6 c a).bind fun o =>
 if o = true then (
 some true)
 else (
 (idx d.Signals f.From).bind fun p =>
 some (decide (a = p.Section)))))
 else (
 some true)).bind (fun r =>
 if r = true then (
 some (.inr c))
 else (
 (z1z 24 (c.length + 1)).bind fun _ =>
 (idx d.Sections a).bind fun h =>
 (chk (e + h.Length)).bind fun _ =>
 some (.inl (e + h.Length, a, g, c ++ [(⟨a, l, g⟩ : v6)]))))))
 else (
 some (.inr c))
noncomputable def H9 (c : j3) (a : z7) : Option ((List v6)) :=
 if a.To < 0 then (
 some [])
 else (
 ((idx c.Signals a.To).bind fun d =>
 (idx c.Signals a.To).bind fun e =>
 some (d.Section, e.End)).bind (q0q fun f g =>
 (q7g (q0l c a) ((0, f, g, []) : Int × Int × Int × (List v6))).bind (fun h =>
 some h)))
noncomputable def K3 (c : j3) (a : v6) : Option (Int) :=
 (idx c.Sections a.Section).bind fun d =>
 if d.Kind = 2 then (
 some (max a.In a.Out))
 else (
 some 0)
noncomputable def Z6 (a : q8) (_ : List ByteArray) (_ : List j0) (_ : List j9) (_ : List j5) (_ : List Q2) (_ _ : Int) (_ _ : List v6) (c : List q8) (d : List (q8 × Bool)) : Option ((List q8) × (List (q8 × Bool))) :=
 (some (q0D d a false)).bind fun e =>
 if e = true then (
 some (c, d))
 else (
 (z1z 32 (c.length + 1)).bind fun _ =>
 some (c ++ [a], X7 d a true))
noncomputable def q0m (a : q8) (c d : Int) : Option (Bool) :=
 (if a.Kind = 3 then (
 if a.Place = c then (
 some (decide (a.Position = d)))
 else (
 some false))
 else (
 some false)).bind (fun e =>
 some e)
noncomputable def X8 (c d : Int) (e : List q8) (a : Nat) : (Unit) → Option ((Unit) ⊕ (Int)) := fun _ =>
 (idx e (a : Int)).bind fun f =>
 (q0m f c d).bind fun g =>
 if g = true then (
 some (.inr (a : Int)))
 else (
 some (.inl ()))
noncomputable def q0a (c d : Int) (a : List q8) : Option (Int) :=
 (forM (X8 c d a) a.length 0 ()).bind fun t => Sum.elim (fun _ =>
 some (-1)) (fun q => some q) t
noncomputable def Y6 (a c : Int) (d : List q8) : Option (Bool) :=
 (q0a a c d).bind fun e =>
 some (decide (0 ≤ e))
noncomputable def X0 (a c : Int) (_ : List ByteArray) (_ : List j0) (_ : List j9) (_ : List j5) (_ : List Q2) (_ _ : Int) (_ _ : List v6) (d : List q8) (_ : List (q8 × Bool)) : Option (Bool) :=
 (Y6 a c d).bind fun e =>
 some e
noncomputable def W0 (c : List ByteArray) (d : List j0) (e : List j9) (f : List j5) (g : List Q2) (h i : List v6) (a j k l m : Int) (n : List Int) (rcmLineLookerLook_1 : (v7) → (Int) → (Int) → ((List ByteArray)) → ((List j0)) → ((List j9)) → ((List j5)) → ((List Q2)) → (Int) → (Int) → ((List v6)) → ((List v6)) → ((List q8)) → ((List (q8 × Bool))) → Option ((List q8) × (List (q8 × Bool)))) (o : Nat) : ((List q8) × (List (q8 × Bool))) → Option ((List q8) × (List (q8 × Bool))) := q0q fun p q =>
 (idx n (o : Int)).bind fun r =>
 (chk (a + 1)).bind fun _ =>
 (rcmLineLookerLook_1 (⟨m, r⟩ : v7) (a + 1) j c d e f g k l h i p q).bind (q0q fun s t =>
 some (s, t))
noncomputable def Z4 : Nat → (v7) → (Int) → (Int) → ((List ByteArray)) → ((List j0)) → ((List j9)) → ((List j5)) → ((List Q2)) → (Int) → (Int) → ((List v6)) → ((List v6)) → ((List q8)) → ((List (q8 × Bool))) → Option ((List q8) × (List (q8 × Bool)))
 | 0 => fun _ _ _ _ _ _ _ _ _ _ _ _ _ _ => none
 | N + 1 => fun u r o f a g h i k n l m c d =>
 ((Y1 (⟨f, a, g, h, i⟩ : j3) u).bind (q5U fun v w x =>
 some (x, v, w))).bind (q5U fun y e j =>
 (if y = true then (
 if r = 8 then (
 some true)
 else (
 (W6 l e).bind fun z =>
 if z = true then (
 some true)
 else (
 (W6 m e).bind fun A =>
 some A)))
 else (
 some true)).bind (fun B =>
 if B = true then (
 some (c, d))
 else (
 (idx a e).bind fun p =>
 ((if p.Kind = 2 then (
 some (decide (0 < j)))
 else (
 some false)).bind (fun C =>
 if C = true then (
 ((X0 e j f a g h i k n l m c d).bind fun D =>
 if D = true then (
 some (c, d))
 else (
 (chk (3 - j)).bind fun _ =>
 (Z6 (⟨3, e, 3 - j, o⟩ : q8) f a g h i k n l m c d).bind (q0q fun E F =>
 some (E, F)))).bind (q0q fun G H =>
 some (.inr (G, H))))
 else (
 if p.Kind = 1 then (
 (F1 (⟨f, a, g, h, i⟩ : j3) (⟨e, j⟩ : v7)).bind fun q =>
 if 0 ≤ q then (
 (if q ≠ k then (
 (Z6 (⟨4, q, 0, o⟩ : q8) f a g h i k n l m c d).bind (q0q fun I J =>
 some (I, J)))
 else (
 some (c, d))).bind (q0q fun K L =>
 some (.inr (K, L))))
 else (
 some (.inl ())))
 else (
 some (.inl ()))))).bind fun t => Sum.elim (fun _ =>
 (q2f p.Kind j).bind fun s =>
 (forS (W0 f a g h i l m r o k n e s (Z4 N)) s.length 0 (c, d)).bind (q0q fun O S =>
 some (O, S))) (fun T => some T) t)))
noncomputable def V1 (e : List ByteArray) (f : List j0) (g : List j9) (h : List j5) (i : List Q2) (j k : List v6) (l m n o p q : Int) (a : Nat) : ((List q8) × (List (q8 × Bool))) → Option ((List q8) × (List (q8 × Bool))) := q0q fun c d =>
 (if (a : Int) ≠ p then (
 some (decide ((a : Int) ≠ q)))
 else (
 some false)).bind (fun r =>
 if r = true then (
 (lim (fun N => Z4 N (⟨o, (a : Int)⟩ : v7) 0 l e f g h i m n j k c d)).bind (q0q fun s t =>
 some (s, t)))
 else (
 some (c, d)))
noncomputable def H4 (c : Int) (h : List ByteArray) (d : List j0) (i : List j9) (j : List j5) (k : List Q2) (l m : Int) (e n : List v6) (o : List q8) (p : List (q8 × Bool)) : Option ((List q8) × (List (q8 × Bool))) :=
 ((idx e c).bind fun a =>
 some (a.Section, a.In, a.Out)).bind (q5U fun f q r =>
 (idx d f).bind fun s =>
 (q4q s.Kind).bind fun g =>
 (chk g).bind fun _ =>
 (forS (V1 h d i j k e n c l m f q r) ((g).toNat) 0 (o, p)).bind (q0q fun t u =>
 some (t, u)))
noncomputable def F3 (a : j3) (c : z7) (d : List v6) (e : Nat) : ((List q8) × (List (q8 × Bool))) → Option ((List q8) × (List (q8 × Bool))) := q0q fun f g =>
 (H4 (e : Int) a.Stations a.Sections a.Links a.Signals a.Gates c.From c.To c.Steps d f g).bind (q0q fun h i =>
 some (h, i))
noncomputable def F4 (a : j3) (c : z7) (d : List v6) (f : Nat) : ((List q8) × (List (q8 × Bool))) → Option ((List q8) × (List (q8 × Bool))) := q0q fun g h =>
 (idx d (f : Int)).bind fun e =>
 (K3 a e).bind fun i =>
 (Z6 (⟨2, e.Section, i, (-1)⟩ : q8) a.Stations a.Sections a.Links a.Signals a.Gates c.From c.To c.Steps d g h).bind (q0q fun j k =>
 some (j, k))
noncomputable def F5 (a : j3) (c : z7) (f : List v6) (d : Nat) : ((List q8) × (List (q8 × Bool))) → Option ((List q8) × (List (q8 × Bool))) := q0q fun g h =>
 (idx c.Steps (d : Int)).bind fun e =>
 (K3 a e).bind fun i =>
 (Z6 (⟨1, e.Section, i, (d : Int)⟩ : q8) a.Stations a.Sections a.Links a.Signals a.Gates c.From c.To c.Steps f g h).bind (q0q fun j k =>
 some (j, k))
noncomputable def Y0 (c : j3) (a : z7) : Option ((List q8)) :=
 ((H9 c a).bind fun e =>
 some (e, ([] : List (q8 × Bool)))).bind (q0q fun d f =>
 (forS (F5 c a d) a.Steps.length 0 (([], f) : (List q8) × (List (q8 × Bool)))).bind (q0q fun g h =>
 (forS (F4 c a d) d.length 0 (g, h)).bind (q0q fun i j =>
 (forS (F3 c a d) a.Steps.length 0 (i, j)).bind (q0q fun k l =>
 (Z6 (⟨5, a.From, 0, (-1)⟩ : q8) c.Stations c.Sections c.Links c.Signals c.Gates a.From a.To a.Steps d k l).bind (q0q fun m _ =>
 some m)))))
noncomputable def q3t (c : j3) (d : List z7) (e : Nat) : ((List (List q8))) → Option ((List (List q8))) := fun a =>
 (idx d (e : Int)).bind fun f =>
 (Y0 c f).bind fun g =>
 (z1z 24 (a.length + 1)).bind fun _ =>
 some (a ++ [g])
noncomputable def q6u (a : j3) (d : Int) (c : List z7) : Option ((List ByteArray) × (List j0) × (List j9) × (List j5) × (List Q2) × Int × (List z7) × (List (List q8))) :=
 (forS (q3t a c) c.length 0 ([] : List (List q8))).bind (fun e =>
 some (a.Stations, a.Sections, a.Links, a.Signals, a.Gates, d, c, e))
noncomputable def q3u (a c _ _ : Int) (_ : List ByteArray) (_ : List j0) (_ : List j9) (_ : List j5) (_ : List Q2) (_ : Int) (d : List z7) (_ : List (List q8)) : Option (Bool) :=
 (idx d a).bind fun e =>
 (W6 e.Steps c).bind fun f =>
 some f
noncomputable def q0Y (c : List Int) (d : List ByteArray) (e : List j0) (f : List j9) (g : List j5) (h : List Q2) (i : List z7) (j : List (List q8)) (k l m n : Int) (a : Nat) : (Unit) → Option ((Unit) ⊕ (Int)) := fun _ =>
 (idx c (a : Int)).bind fun o =>
 (q3u o k l m d e f g h n i j).bind fun p =>
 if p = true then (
 some (.inr (a : Int)))
 else (
 some (.inl ()))
noncomputable def q2I (a : List Int) (c d e : Int) (f : List ByteArray) (g : List j0) (h : List j9) (i : List j5) (j : List Q2) (k : Int) (l : List z7) (m : List (List q8)) : Option (Int) :=
 (forM (q0Y a f g h i j l m c d e k) a.length 0 ()).bind fun t => Sum.elim (fun _ =>
 some (-1)) (fun q => some q) t
noncomputable def q0g (a : List Int) (c d e : Int) (f : List ByteArray) (g : List j0) (h : List j9) (i : List j5) (j : List Q2) (k : Int) (l : List z7) (m : List (List q8)) : Option (Bool) :=
 (q2I a c d e f g h i j k l m).bind fun n =>
 some (decide (0 ≤ n))
noncomputable def q1F (a : q8) : Option (Bool) :=
 (if a.Kind = 1 then (
 some true)
 else (
 some (decide (a.Kind = 2)))).bind (fun c =>
 some c)
noncomputable def G5 (c a : q8) : Option (Bool) :=
 (if c.Kind = 3 then (
 if a.Kind = 3 then (
 some (decide (c.Position ≠ a.Position)))
 else (
 (q1F a).bind fun d =>
 if d = true then (
 some (decide (c.Position ≠ a.Position)))
 else (
 some false)))
 else (
 some false)).bind (fun e =>
 some e)
noncomputable def G4 (a c : q8) : Option (Bool) :=
 (if a.Kind = 4 then (
 some (decide (c.Kind = 5)))
 else (
 some false)).bind (fun d =>
 some d)
noncomputable def q2x (a c : q8) : Option (Bool) :=
 if a.Place ≠ c.Place then (
 some false)
 else (
 ((q1F a).bind fun d =>
 if d = true then (
 (q1F c).bind fun e =>
 if e = true then (
 some true)
 else (
 (G5 a c).bind fun f =>
 if f = true then (
 some true)
 else (
 (G5 c a).bind fun g =>
 if g = true then (
 some true)
 else (
 (G4 a c).bind fun h =>
 if h = true then (
 some true)
 else (
 (G4 c a).bind fun i =>
 some i)))))
 else (
 (G5 a c).bind fun j =>
 if j = true then (
 some true)
 else (
 (G5 c a).bind fun k =>
 if k = true then (
 some true)
 else (
 (G4 a c).bind fun l =>
 if l = true then (
 some true)
 else (
 (G4 c a).bind fun m =>
 some m))))).bind (fun n =>
 some n))
noncomputable def q4a (a : q8) (c d e f : Int) : Option (Bool) :=
 (q2x (⟨c, d, e, f⟩ : q8) a).bind fun g =>
 some g
noncomputable def q0W (c : List q8) (d e f g : Int) (a : Nat) : (Unit) → Option ((Unit) ⊕ (Int)) := fun _ =>
 (idx c (a : Int)).bind fun h =>
 (q4a h d e f g).bind fun i =>
 if i = true then (
 some (.inr (a : Int)))
 else (
 some (.inl ()))
noncomputable def q1d (a : List q8) (c d e f : Int) : Option (Int) :=
 (forM (q0W a c d e f) a.length 0 ()).bind fun t => Sum.elim (fun _ =>
 some (-1)) (fun q => some q) t
noncomputable def q0e (a : List q8) (c d e f : Int) : Option (Bool) :=
 (q1d a c d e f).bind fun g =>
 some (decide (0 ≤ g))
noncomputable def q4p (a : q8) (c : List q8) : Option (Bool) :=
 (q0e c a.Kind a.Place a.Position a.At).bind fun d =>
 some d
noncomputable def q0X (c d : List q8) (a : Nat) : (Unit) → Option ((Unit) ⊕ (Int)) := fun _ =>
 (idx c (a : Int)).bind fun e =>
 (q4p e d).bind fun f =>
 if f = true then (
 some (.inr (a : Int)))
 else (
 some (.inl ()))
noncomputable def q1e (a c : List q8) : Option (Int) :=
 (forM (q0X a c) a.length 0 ()).bind fun t => Sum.elim (fun _ =>
 some (-1)) (fun q => some q) t
noncomputable def q0f (a c : List q8) : Option (Bool) :=
 (q1e a c).bind fun d =>
 some (decide (0 ≤ d))
noncomputable def q6w (a c : List q8) : Option (Bool) :=
 (q0f a c).bind fun d =>
 some d
noncomputable def q1m (c : List (List q8)) (d : Int) (e : List q8) (f : Nat) : (Unit) → Option ((Unit) ⊕ ((Unit) ⊕ (Int))) := fun _ =>
 (idx e (f : Int)).bind fun a =>
 (if a.Kind ≠ 2 then (
 (idx c d).bind fun g =>
 (q6w [a] g).bind fun h =>
 some h)
 else (
 some false)).bind (fun i =>
 if i = true then (
 some (.inr (.inr 8)))
 else (
 some (.inl ())))
noncomputable def q1n (d : List Int) (a : List (List q8)) (e : Int) (f : Nat) : (Unit) → Option ((Unit) ⊕ (Int)) := fun _ =>
 (idx d (f : Int)).bind fun g =>
 (idx a g).bind fun c =>
 (forM (q1m a e c) c.length 0 ()).bind fun t => Sum.elim (fun _ =>
 some (.inl ())) (fun q => some q) t
noncomputable def q1o (d : List Int) (e : List ByteArray) (f : List j0) (g : List j9) (h : List j5) (i : List Q2) (j : List z7) (k : List (List q8)) (c : Int) (l : z7) (m : Nat) : (Unit) → Option ((Unit) ⊕ (Int)) := fun _ =>
 (idx l.Steps (m : Int)).bind fun a =>
 (if a.Section = c then (
 some true)
 else (
 (q0g d a.Section a.In a.Out e f g h i c j k).bind fun n =>
 some n)).bind (fun o =>
 if o = true then (
 some (.inr 6))
 else (
 some (.inl ())))
noncomputable def q3D (a : List Int) (e : Int) (h : List ByteArray) (i : List j0) (j : List j9) (f : List j5) (k : List Q2) (g : Int) (c : List z7) (l : List (List q8)) : Option (Int) :=
 (chk ((c.length : Int) - 1)).bind fun _ =>
 (V6 e 0 ((c.length : Int) - 1)).bind fun n =>
 if n = true then (
 (idx c e).bind fun d =>
 ((if (a.length : Int) = 0 then (
 (idx f d.From).bind fun o =>
 some (decide (o.Section ≠ g)))
 else (
 some false)).bind (fun m =>
 if m = true then (
 some m)
 else (
 if 0 < (a.length : Int) then (
 (chk ((a.length : Int) - 1)).bind fun _ =>
 (idx a ((a.length : Int) - 1)).bind fun p =>
 (idx c p).bind fun r =>
 some (decide (d.From ≠ r.To)))
 else (
 some false)))).bind (fun s =>
 if s = true then (
 some 5)
 else (
 (forM (q1o a h i j f k c l g d) d.Steps.length 0 ()).bind fun t => Sum.elim (fun _ =>
 (forM (q1n a l e) a.length 0 ()).bind fun t => Sum.elim (fun _ =>
 ((H9 (⟨h, i, j, f, k⟩ : j3) d).bind fun u =>
 (W6 u g).bind fun v =>
 some v).bind (fun w =>
 if w = true then (
 some 8)
 else (
 some 0))) (fun q => some q) t) (fun q => some q) t)))
 else (
 some 3)
noncomputable def q4b (a : List Int) (_ : List ByteArray) (_ : List j0) (_ : List j9) (_ : List j5) (_ : List Q2) (_ : Int) (d : List z7) (_ : List (List q8)) : Option (Int) :=
 (chk ((a.length : Int) - 1)).bind fun _ =>
 (idx a ((a.length : Int) - 1)).bind fun e =>
 (idx d e).bind fun c =>
 (chk ((c.Steps.length : Int) - 1)).bind fun _ =>
 (idx c.Steps ((c.Steps.length : Int) - 1)).bind fun f =>
 some f.Section
noncomputable def q1p (a : List Int) (e : List ByteArray) (f : List j0) (g : List j9) (h : List j5) (i : List Q2) (j : List z7) (k : List (List q8)) (l : Int) (c : Nat) : (Unit) → Option ((Unit) ⊕ (Int)) := fun _ =>
 (idx a (c : Int)).bind fun m =>
 (z8f a 0 (c : Int)).bind fun n =>
 (q3D n m e f g h i l j k).bind fun d =>
 if d ≠ 0 then (
 some (.inr d))
 else (
 some (.inl ()))
noncomputable def q2N (c : j3) (d : Int) (a : List Int) : Option (Int) :=
 (H3 c).bind (q0q fun e n =>
 if e ≠ 0 then (
 some e)
 else (
 (q1X c d).bind fun o =>
 if o = true then (
 if 4 < (a.length : Int) then (
 some 4)
 else (
 if (a.length : Int) = 0 then (
 some 1)
 else (
 (q6u c d n).bind (j6B fun f g h i j k l m =>
 (forM (q1p a f g h i j l m k) a.length 0 ()).bind fun t => Sum.elim (fun _ =>
 ((q4b a f g h i j k l m).bind fun p =>
 (q1X c p).bind fun r =>
 some (!r)).bind (fun s =>
 if s = true then (
 some 5)
 else (
 some 0))) (fun q => some q) t))))
 else (
 some 3)))
noncomputable def q3r (a : List ByteArray) : Option ((List ByteArray)) :=
 (z1z 16 a.length).bind fun _ => some a
noncomputable def q3q (a : List j0) : Option ((List j0)) :=
 (z1z 56 a.length).bind fun _ => some a
noncomputable def q3p (a : List j9) : Option ((List j9)) :=
 (z1z 32 a.length).bind fun _ => some a
noncomputable def q3o (a : List j5) : Option ((List j5)) :=
 (z1z 16 a.length).bind fun _ => some a
noncomputable def q3n (a : List Q2) : Option ((List Q2)) :=
 (z1z 16 a.length).bind fun _ => some a
noncomputable def q8c (a : j3) : Option ((List ByteArray) × (List j0) × (List j9) × (List j5) × (List Q2)) :=
 ((q3r a.Stations).bind fun c =>
 (q3q a.Sections).bind fun d =>
 (q3p a.Links).bind fun e =>
 (q3o a.Signals).bind fun f =>
 (q3n a.Gates).bind fun g =>
 some (c, d, e, f, g)).bind (z8e fun h i j k l =>
 some (h, i, j, k, l))
noncomputable def q5E (c : List Int) (a : List z7) (d : Nat) : (Unit) → Option ((Unit) ⊕ (Int × (List z7))) := fun _ =>
 (idx c (d : Int)).bind fun e =>
 (chk ((a.length : Int) - 1)).bind fun _ =>
 (V6 e 0 ((a.length : Int) - 1)).bind fun f =>
 if f = true then (
 some (.inl ()))
 else (
 some (.inr (3, [])))
noncomputable def q6t (e : j3) (a : List Int) : Option (Int × (List z7)) :=
 (H3 e).bind (q0q fun c d =>
 if c ≠ 0 then (
 some (c, []))
 else (
 (forM (q5E a d) a.length 0 ()).bind fun t => Sum.elim (fun _ =>
 some (0, d)) (fun q => some q) t))
noncomputable def q4K (a : j3) (c : Int) : Option (Int × (List q8)) :=
 (q6t a [c]).bind (q0q fun d e =>
 if d ≠ 0 then (
 some (d, []))
 else (
 (idx e c).bind fun f =>
 (Y0 a f).bind fun g =>
 some (0, g)))
noncomputable def q3W (c : j3) (d : Nat) : ((List (List q8))) → Option ((List (List q8))) := fun a =>
 (q4K c (d : Int)).bind (q0q fun _ e =>
 (z1z 24 (a.length + 1)).bind fun _ =>
 some (a ++ [e]))
noncomputable def q3X (c : Nat) : ((List q9)) → Option ((List q9)) := fun d =>
 (idx d (c : Int)).bind fun a =>
 some (put d (c : Int) (⟨a.axles, a.disturbed, 1, a.moving, a.failed⟩ : q9))
noncomputable def q8d (a : j3) : Option ((List ByteArray) × (List j0) × (List j9) × (List j5) × (List Q2) × (List z7) × (List (List q8)) × (List q9) × (List z8) × LK × LA) :=
 (J5 a).bind fun e =>
 if e ≠ 0 then (
 none)
 else (
 (H3 a).bind (q0q fun f c =>
 if f ≠ 0 then (
 none)
 else (
 ((q8c a).bind (z8e fun g h i j k =>
 (z3g 40 (a.Sections.length : Int)).bind fun l =>
 (z3g 16 (a.Gates.length : Int)).bind fun m =>
 some (g, h, i, j, k, List.replicate l ((⟨0, false, 0, 0, false⟩ : q9) : q9), List.replicate m ((⟨0, false, false⟩ : z8) : z8), ([] : LK), ([] : LA)))).bind (j6z fun n o p q r d s t u =>
 (forS q3X d.length 0 d).bind (fun v =>
 (forS (q3W a) c.length 0 ([] : List (List q8))).bind (fun w =>
 some (n, o, p, q, r, c, w, v, s, t, u)))))))
noncomputable def q1D (a : Int) (_ : List ByteArray) (_ : List j0) (_ : List j9) (_ : List j5) (_ : List Q2) (_ : List z7) (_ : List (List q8)) (c : List q9) (_ : List z8) (_ : LK) (_ : LA) : Option (Bool) :=
 (if 0 ≤ a then (
 some (decide (a < (c.length : Int))))
 else (
 some false)).bind (fun d =>
 some d)
noncomputable def q4o (d c : Int) (h : List ByteArray) (i : List j0) (j : List j9) (k : List j5) (l : List Q2) (m : List z7) (n : List (List q8)) (a : List q9) (o : List z8) (p : LK) (q : LA) : Option (Int × (List q9)) :=
 (q1D d h i j k l m n a o p q).bind fun r =>
 if r = true then (
 (if c < 0 then (
 some true)
 else (
 some (decide (400 < c)))).bind (fun s =>
 if s = true then (
 some (2, a))
 else (
 (idx a d).bind fun f =>
 (chk (f.axles + c)).bind fun _ =>
 if 400 < (f.axles + c) then (
 some (4, a))
 else (
 (idx a d).bind fun g =>
 (chk (g.axles + c)).bind fun _ =>
 (idx a d).bind fun e =>
 some (0, put a d (⟨g.axles + c, e.disturbed, e.position, e.moving, e.failed⟩ : q9))))))
 else (
 some (3, a))
noncomputable def P8 (a : Int) (_ : List ByteArray) (_ : List j0) (_ : List j9) (_ : List j5) (_ : List Q2) (c : List z7) (_ : List (List q8)) (_ : List q9) (_ : List z8) (_ : LK) (_ : LA) : Option (Bool) :=
 (if 0 ≤ a then (
 some (decide (a < (c.length : Int))))
 else (
 some false)).bind (fun d =>
 some d)
noncomputable def q3m (a : List q8) : Option ((List q8)) :=
 (z1z 32 a.length).bind fun _ => some a
noncomputable def q3s (a : q8) : Option (Bool) :=
 some (decide (a.Kind = 2))
noncomputable def q2S (c : List q8) (a : Nat) : (Unit) → Option ((Unit) ⊕ (Int)) := fun _ =>
 (idx c (a : Int)).bind fun d =>
 (q3s d).bind fun e =>
 if e = true then (
 some (.inr (a : Int)))
 else (
 some (.inl ()))
noncomputable def q2H (a : List q8) : Option (Int) :=
 (forM (q2S a) a.length 0 ()).bind fun t => Sum.elim (fun _ =>
 some (-1)) (fun q => some q) t
noncomputable def q2T  : (Int × Int × (List q8)) → Option ((Int × Int × (List q8)) ⊕ (Int × (List q8))) := q5U fun a d c =>
 if d < (c.length : Int) then (
 ((idx c d).bind fun e =>
 (q3s e).bind fun f =>
 if f = true then (
 some (a, c))
 else (
 (idx c a).bind fun _ =>
 (chk (a + 1)).bind fun _ =>
 some (a + 1, put c a e))).bind (q0q fun g h =>
 (chk (d + 1)).bind fun _ =>
 some (.inl (g, d + 1, h))))
 else (
 some (.inr (a, c)))
noncomputable def q3c (c : List q8) : Option ((List q8)) :=
 (q2H c).bind fun a =>
 if a = (-1) then (
 some c)
 else (
 ((chk (a + 1)).bind fun _ =>
 q7g q2T (a, a + 1, c)).bind (q0q fun d e =>
 (z8f e d (e.length : Int)).bind fun _ =>
 (z8f (j3P e d ((⟨0, 0, 0, 0⟩ : q8) : q8)) 0 d).bind fun f =>
 some f))
noncomputable def q0N (a : (Option Int)) (c : q8) (d : LA) : Option (Bool) :=
 if c.Kind = 2 then (
 (a).bind fun e =>
 (J4 d e).bind fun f =>
 some f.laps)
 else (
 if c.Kind = 5 then (
 (a).bind fun g =>
 (J4 d g).bind fun h =>
 (idx h.seen 0).bind fun i =>
 some (!i))
 else (
 (a).bind fun j =>
 (J4 d j).bind fun k =>
 (idx k.gone c.At).bind fun l =>
 some (!l)))
noncomputable def q0t (d : LA) (e : Int) (f : z6) (g : Nat) : ((List q8)) → Option ((List q8)) := fun a =>
 (idx f.needs (g : Int)).bind fun c =>
 (q0N (some e) c d).bind fun h =>
 if h = true then (
 (z1z 32 (a.length + 1)).bind fun _ =>
 some (a ++ [c]))
 else (
 some a)
noncomputable def G8 (e : (Option Int)) (a : LA) : Option ((List q8)) :=
 (e).bind fun c =>
 (J4 a c).bind fun d =>
 (forS (q0t a c d) d.needs.length 0 ([] : List q8)).bind (fun f =>
 some f)
noncomputable def q1W (a : q8) (c d e f : Int) : Option (Bool) :=
 (q2x a (⟨c, d, e, f⟩ : q8)).bind fun g =>
 some g
noncomputable def q0V (c d e : Int) (f : List q8) (g : Int) (a : Nat) : (Unit) → Option ((Unit) ⊕ (Int)) := fun _ =>
 (idx f (a : Int)).bind fun h =>
 (q1W h c d e g).bind fun i =>
 if i = true then (
 some (.inr (a : Int)))
 else (
 some (.inl ()))
noncomputable def q2G (c d e f : Int) (a : List q8) : Option (Int) :=
 (forM (q0V c d e a f) a.length 0 ()).bind fun t => Sum.elim (fun _ =>
 some (-1)) (fun q => some q) t
noncomputable def q0d (a c d e : Int) (f : List q8) : Option (Bool) :=
 (q2G a c d e f).bind fun g =>
 some (decide (0 ≤ g))
noncomputable def K8 (e : List z7) (f : List q8) (g : LK) (h : LA) (i : Int) (j : List q8) (k : Nat) : ((Option Int)) → Option (((Option Int)) ⊕ ((Unit) ⊕ ((LK) ⊕ (Bool × LK)))) := fun l =>
 (idx j (k : Int)).bind fun a =>
 ((l).bind fun c =>
 (J4 h c).bind fun m =>
 if a.Kind = 2 then (
 (idx e i).bind fun n =>
 some ((some c), decide (m.Route.To = n.From)))
 else (
 some ((some c), false))).bind (q0q fun d o =>
 if o = true then (
 some (.inl d))
 else (
 (q0d a.Kind a.Place a.Position a.At f).bind fun p =>
 if p = true then (
 some (.inr (.inr (.inr (true, g)))))
 else (
 some (.inl d))))
noncomputable def q0k (e : List z7) (f : List q8) (g : LK) (a : LA) (h : Int) (c : Int × (Option Int)) : (Unit) → Option ((Unit) ⊕ ((LK) ⊕ (Bool × LK))) := fun _ =>
 (G8 c.2 a).bind fun d =>
 (forM (K8 e f g a h d) d.length 0 c.2).bind fun t => Sum.elim (fun _ =>
 some (.inl ())) (fun q => some q) t
noncomputable def q1E (c : Int) (_ : List ByteArray) (_ : List j0) (_ : List j9) (_ : List j5) (_ : List Q2) (d : List z7) (_ : List (List q8)) (e : List q8) (_ : List q9) (_ : List z8) (a : LK) (f : LA) : Option (Bool × LK) :=
 ((z5w (fun p => q4L (q0k d e a f c) p ()) a).bind fun t => Sum.elim (fun _ =>
 some (.inl a)) (fun q => some q) t).bind fun t => Sum.elim (fun g =>
 some (false, g)) (fun h => some h) t
noncomputable def H1 (a : q9) : Option (Bool) :=
 (if 0 < a.axles then (
 some true)
 else (
 some a.disturbed)).bind (fun c =>
 some c)
noncomputable def q2q (e : LK) (a : LA) (f c : Int) (g : z6) (d : Nat) : (Unit) → Option ((Unit) ⊕ ((Unit) ⊕ ((LK) ⊕ (Int × LK)))) := fun _ =>
 (idx g.Route.Steps (d : Int)).bind fun h =>
 (if h.Section = f then (
 (J4 a c).bind fun i =>
 (idx i.gone (d : Int)).bind fun j =>
 some (!j))
 else (
 some false)).bind (fun k =>
 if k = true then (
 (J4 a c).bind fun l =>
 some (.inr (.inr (.inr (l.number, e)))))
 else (
 some (.inl ())))
noncomputable def F0 (e : LK) (a : LA) (f : Int) (g : Int × (Option Int)) : (Unit) → Option ((Unit) ⊕ ((LK) ⊕ (Int × LK))) := fun _ =>
 (g.2).bind fun c =>
 (J4 a c).bind fun d =>
 (forM (q2q e a f c d) d.Route.Steps.length 0 ()).bind fun t => Sum.elim (fun _ =>
 some (.inl ())) (fun q => some q) t
noncomputable def q1V (c : Int) (_ : List ByteArray) (_ : List j0) (_ : List j9) (_ : List j5) (_ : List Q2) (_ : List z7) (_ : List (List q8)) (_ : List q9) (_ : List z8) (a : LK) (d : LA) : Option (Int × LK) :=
 ((z5w (fun p => q4L (F0 a d c) p ()) a).bind fun t => Sum.elim (fun _ =>
 some (.inl a)) (fun q => some q) t).bind fun t => Sum.elim (fun e =>
 some ((-1), e)) (fun f => some f) t
noncomputable def q1U (j : List ByteArray) (k : List j0) (l : List j9) (m : List j5) (h : List Q2) (n : List z7) (o : List (List q8)) (p : List q9) (q : LA) (c : Nat) : ((List z8) × LK) → Option ((List z8) × LK) := q0q fun d r =>
 (idx h (c : Int)).bind fun f =>
 (idx d (c : Int)).bind fun a =>
 (q1V f.Section j k l m h n o p d r q).bind (q0q fun e g =>
 if 0 ≤ e then (
 if a.wanted = true then (
 some (put d (c : Int) (⟨a.left, decide (0 ≤ e), a.failed⟩ : z8), g))
 else (
 (idx (put d (c : Int) (⟨f.Close, a.wanted, a.failed⟩ : z8)) (c : Int)).bind fun i =>
 some (put (put d (c : Int) (⟨f.Close, a.wanted, a.failed⟩ : z8)) (c : Int) (⟨i.left, decide (0 ≤ e), i.failed⟩ : z8), g)))
 else (
 some (put d (c : Int) (⟨a.left, decide (0 ≤ e), a.failed⟩ : z8), g)))
noncomputable def q1A (c : List ByteArray) (d : List j0) (e : List j9) (f : List j5) (a : List Q2) (g : List z7) (h : List (List q8)) (i : List q9) (j : List z8) (k : LK) (l : LA) : Option ((List z8) × LK) :=
 (forS (q1U c d e f a g h i l) a.length 0 (j, k)).bind (q0q fun m n =>
 some (m, n))
noncomputable def q1h (e : z7) (f : Int × (Option Int)) : (LA) → Option ((LA) ⊕ (LK × LA)) := fun c =>
 (f.2).bind fun d =>
 (J4 c d).bind fun a =>
 if a.Route.To = e.From then (
 some (.inl (X7 c d (⟨a.Route, a.needs, a.seen, a.gone, false, a.sight, a.leave, a.clock, a.number⟩ : z6))))
 else (
 some (.inl c))
noncomputable def q0j (e : List q8) (f : Nat) : ((List q9)) → Option ((List q9)) := fun c =>
 (idx e (f : Int)).bind fun d =>
 if d.Position = 0 then (
 some c)
 else (
 (idx c d.Place).bind fun a =>
 (if a.position ≠ d.Position then (
 some (decide (a.moving = 0)))
 else (
 some false)).bind (fun g =>
 if g = true then (
 some (put c d.Place (⟨a.axles, a.disturbed, a.position, 5, a.failed⟩ : q9)))
 else (
 some c)))
noncomputable def q1i (c : List q9) (d : List z8) (e : LA) (f : Bool) (g : List q8) (h : LK) (i : Nat) : (Unit) → Option ((Unit) ⊕ (Int × (List q9) × (List z8) × LK × LA)) := fun _ =>
 (idx g (i : Int)).bind fun a =>
 (if f = true then (
 some false)
 else (
 if a.Kind = 1 then (
 (idx c a.Place).bind fun j =>
 (H1 j).bind fun k =>
 some k)
 else (
 if a.Kind = 2 then (
 (idx c a.Place).bind fun l =>
 (H1 l).bind fun m =>
 some m)
 else (
 some false)))).bind (fun n =>
 if n = true then (
 some (.inr (7, c, d, h, e)))
 else (
 some (.inl ())))
noncomputable def q1j (f : List q9) (g : List z8) (h : LA) (i : List q8) (j : LK) (k : Nat) : (Unit) → Option ((Unit) ⊕ (Int × (List q9) × (List z8) × LK × LA)) := fun _ =>
 (idx i (k : Int)).bind fun a =>
 if a.Position = 0 then (
 some (.inl ()))
 else (
 ((idx f a.Place).bind fun c =>
 some (c.axles, c.disturbed, c.position, c.moving, c.failed)).bind (z8e fun l m d e n =>
 ((H1 (⟨l, m, d, e, n⟩ : q9)).bind fun o =>
 if o = true then (
 if d ≠ a.Position then (
 some true)
 else (
 if 0 < e then (
 some true)
 else (
 if 0 < e then (
 some (decide (d = a.Position)))
 else (
 some false))))
 else (
 if 0 < e then (
 some (decide (d = a.Position)))
 else (
 some false))).bind (fun p =>
 if p = true then (
 some (.inr (7, f, g, j, h)))
 else (
 some (.inl ())))))
noncomputable def q1k (a : List q9) (d : List z8) (e : LA) (f : List q8) (g : LK) (h : Nat) : (Unit) → Option ((Unit) ⊕ (Int × (List q9) × (List z8) × LK × LA)) := fun _ =>
 (idx f (h : Int)).bind fun c =>
 (if 0 < c.Position then (
 (idx a c.Place).bind fun i =>
 some i.failed)
 else (
 some false)).bind (fun j =>
 if j = true then (
 some (.inr (12, a, d, g, e)))
 else (
 some (.inl ())))
noncomputable def q2w (a : Int) (i : Bool) (m : List ByteArray) (n : List j0) (o : List j9) (r : List j5) (s : List Q2) (j : List z7) (k : List (List q8)) (c : List q9) (d : List z8) (h : LK) (e : LA) : Option (Int × (List q9) × (List z8) × LK × LA) :=
 (P8 a m n o r s j k c d h e).bind fun z =>
 if z = true then (
 (some (q0D h a none)).bind fun A =>
 if A.isNone = true then (
 (idx k a).bind fun B =>
 (q3m B).bind fun u =>
 (if i = true then (
 (q3c u).bind fun C =>
 some C)
 else (
 some u)).bind (fun f =>
 (q1E a m n o r s j k f c d h e).bind (q0q fun D g =>
 if D = true then (
 some (8, c, d, g, e))
 else (
 (forM (q1k c d e f g) f.length 0 ()).bind fun t => Sum.elim (fun _ =>
 (forM (q1j c d e f g) f.length 0 ()).bind fun t => Sum.elim (fun _ =>
 (forM (q1i c d e i f g) f.length 0 ()).bind fun t => Sum.elim (fun _ =>
 (idx j a).bind fun l =>
 ((z5w (fun p => q4L (q1h l) p e) g).bind fun t => Sum.elim (fun E =>
 some (g, E)) (fun q => some q) t).bind (q0q fun v F =>
 ((z3g 1 (l.Steps.length : Int)).bind fun G =>
 (z3g 1 (l.Steps.length : Int)).bind fun H =>
 (z4f v a).bind fun _ =>
 some (f, X7 v a (some a), X7 F a (⟨l, f, List.replicate G (false : Bool), List.replicate H (false : Bool), !i, i, 0, 0, a⟩ : z6))).bind (q5U fun w I x =>
 (forS (q0j w) w.length 0 c).bind (fun y =>
 (q1A m n o r s j k y d I x).bind (q0q fun J K =>
 some (0, y, J, K, x)))))) (fun q => some q) t) (fun q => some q) t) (fun q => some q) t))))
 else (
 some (6, c, d, h, e)))
 else (
 some (3, c, d, h, e))
noncomputable def q5i (_ : LK) (_ : LA) : Option (Unit) :=
 some ()
noncomputable def q1S (a : LK) (_ : LA) : Option ((List Int)) :=
 z2W a
noncomputable def q1g (c : LK) (d : List Int) (e : Nat) : ((List (Option Int))) → Option ((List (Option Int))) := fun a =>
 (idx d (e : Int)).bind fun f =>
 (some (q0D c f none)).bind fun g =>
 (z1z 8 (a.length + 1)).bind fun _ =>
 some (a ++ [g])
noncomputable def q0i (_ : List ByteArray) (_ : List j0) (_ : List j9) (_ : List j5) (_ : List Q2) (_ : List z7) (_ : List (List q8)) (_ : List q9) (_ : List z8) (a : LK) (c : LA) : Option ((List (Option Int))) :=
 (q5i a c).bind fun _ =>
 (q1S a c).bind fun d =>
 (forS (q1g a d) d.length 0 ([] : List (Option Int))).bind (fun e =>
 some e)
noncomputable def V5 (g : List q9) (h : LK) (e : Int) (i : z6) (c : Nat) : (LA) → Option ((LA) ⊕ (LA × LK)) := fun d =>
 (idx i.Route.Steps (c : Int)).bind fun j =>
 (J4 d e).bind fun k =>
 (idx k.gone (c : Int)).bind fun l =>
 if l = true then (
 some (.inl d))
 else (
 ((J4 d e).bind fun f =>
 (idx f.seen (c : Int)).bind fun m =>
 if m = true then (
 (idx g j.Section).bind fun n =>
 (H1 n).bind fun o =>
 if o = true then (
 some true)
 else (
 (chk ((c : Int) + 1)).bind fun _ =>
 if ((c : Int) + 1) < (f.Route.Steps.length : Int) then (
 (chk ((c : Int) + 1)).bind fun _ =>
 (idx f.seen ((c : Int) + 1)).bind fun p =>
 some (!p))
 else (
 some false)))
 else (
 some true)).bind (fun q =>
 if q = true then (
 some (.inr (d, h)))
 else (
 (J4 d e).bind fun a =>
 (idx a.gone (c : Int)).bind fun _ =>
 some (.inl (X7 d e (⟨a.Route, a.needs, a.seen, put a.gone (c : Int) true, a.laps, a.sight, a.leave, a.clock, a.number⟩ : z6))))))
noncomputable def G9 (g : (Option Int)) (_ : List ByteArray) (_ : List j0) (_ : List j9) (_ : List j5) (_ : List Q2) (_ : List z7) (_ : List (List q8)) (c : LA) (h : List q9) (_ : List z8) (d : LK) : Option (LA × LK) :=
 (g).bind fun a =>
 (J4 c a).bind fun e =>
 (forM (V5 h d a e) e.Route.Steps.length 0 c).bind fun t => Sum.elim (fun f =>
 (J4 f a).bind fun i =>
 some (f, z0b d i.number)) (fun q => some q) t
noncomputable def G1 (a : List ByteArray) (c : List j0) (d : List j9) (e : List j5) (f : List Q2) (g : List z7) (h : List (List q8)) (i : List q9) (j : List z8) (k : List (Option Int)) (l : Nat) : (LK × LA) → Option (LK × LA) := q0q fun m n =>
 (idx k (l : Int)).bind fun o =>
 (G9 o a c d e f g h n i j m).bind (q0q fun p q =>
 some (q, p))
noncomputable def V0 (g : List (Option Int)) (h : Nat) : (LA) → Option (LA) := fun c =>
 (idx g (h : Int)).bind fun i =>
 ((i).bind fun e =>
 (J4 c e).bind fun d =>
 (chk ((d.seen.length : Int) - 1)).bind fun _ =>
 (idx d.seen ((d.seen.length : Int) - 1)).bind fun j =>
 if j = true then (
 some ((some e), d.laps))
 else (
 some ((some e), false))).bind (q0q fun k l =>
 if l = true then (
 (k).bind fun f =>
 (J4 c f).bind fun a =>
 (chk (a.clock + 1)).bind fun _ =>
 if (a.clock + 1) = 60 then (
 some (X7 c f (⟨a.Route, a.needs, a.seen, a.gone, false, a.sight, a.leave, a.clock + 1, a.number⟩ : z6)))
 else (
 some (X7 c f (⟨a.Route, a.needs, a.seen, a.gone, a.laps, a.sight, a.leave, a.clock + 1, a.number⟩ : z6))))
 else (
 some c))
noncomputable def G2 (f : List (Option Int)) (g : Nat) : (LK × LA) → Option (LK × LA) := q0q fun d c =>
 (idx f (g : Int)).bind fun h =>
 (h).bind fun e =>
 (J4 c e).bind fun a =>
 if a.leave = 0 then (
 some (d, c))
 else (
 (chk (a.leave - 1)).bind fun _ =>
 if (a.leave - 1) = 0 then (
 some (z0b d a.number, X7 c e (⟨a.Route, a.needs, a.seen, a.gone, a.laps, a.sight, a.leave - 1, a.clock, a.number⟩ : z6)))
 else (
 some (d, X7 c e (⟨a.Route, a.needs, a.seen, a.gone, a.laps, a.sight, a.leave - 1, a.clock, a.number⟩ : z6))))
noncomputable def W4 (d : Nat) : ((List z8)) → Option ((List z8)) := fun c =>
 (idx c (d : Int)).bind fun a =>
 (if a.wanted = true then (
 if 0 < a.left then (
 some (!a.failed))
 else (
 some false))
 else (
 some false)).bind (fun e =>
 if e = true then (
 (chk (a.left - 1)).bind fun _ =>
 some (put c (d : Int) (⟨a.left - 1, a.wanted, a.failed⟩ : z8)))
 else (
 some c))
noncomputable def W5 (d : Nat) : ((List q9)) → Option ((List q9)) := fun e =>
 (idx e (d : Int)).bind fun a =>
 (if a.moving = 0 then (
 some true)
 else (
 some a.failed)).bind (fun f =>
 if f = true then (
 some e)
 else (
 (chk (a.moving - 1)).bind fun _ =>
 (idx (put e (d : Int) (⟨a.axles, a.disturbed, a.position, a.moving - 1, a.failed⟩ : q9)) (d : Int)).bind fun c =>
 if c.moving = 0 then (
 (chk (3 - c.position)).bind fun _ =>
 some (put (put e (d : Int) (⟨a.axles, a.disturbed, a.position, a.moving - 1, a.failed⟩ : q9)) (d : Int) (⟨c.axles, c.disturbed, 3 - c.position, c.moving, c.failed⟩ : q9)))
 else (
 some (put e (d : Int) (⟨a.axles, a.disturbed, a.position, a.moving - 1, a.failed⟩ : q9)))))
noncomputable def Y5 (c : List ByteArray) (d : List j0) (e : List j9) (f : List j5) (g : List Q2) (h : List z7) (i : List (List q8)) (l : List q9) (m : List z8) (n : LK) (o : LA) : Option ((List q9) × (List z8) × LK × LA) :=
 (forS W5 l.length 0 l).bind (fun a =>
 (forS W4 m.length 0 m).bind (fun j =>
 (q0i c d e f g h i a j n o).bind fun p =>
 (forS (G2 p) p.length 0 (n, o)).bind (q0q fun k q =>
 (q0i c d e f g h i a j k q).bind fun r =>
 (forS (V0 r) r.length 0 q).bind (fun s =>
 (q0i c d e f g h i a j k s).bind fun t =>
 (forS (G1 c d e f g h i a j t) t.length 0 (k, s)).bind (q0q fun v u =>
 (q1A c d e f g h i a j v u).bind (q0q fun w x =>
 some (a, w, x, u)))))))
noncomputable def q2D (c : List Int) (d : Int) (a : Nat) : (Unit) → Option ((Unit) ⊕ (Int)) := fun _ =>
 (idx c (a : Int)).bind fun e =>
 if d = e then (
 some (.inr (a : Int)))
 else (
 some (.inl ()))
noncomputable def q4W (a : List Int) (c : Int) : Option (Int) :=
 (forM (q2D a c) a.length 0 ()).bind fun t => Sum.elim (fun _ =>
 some (-1)) (fun q => some q) t
noncomputable def q1T (a : List Int) (c : Int) : Option (Bool) :=
 (q4W a c).bind fun d =>
 some (decide (0 ≤ d))
noncomputable def q2K (a : q9) : Option (Bool) :=
 (if a.moving = 0 then (
 some (!a.failed))
 else (
 some false)).bind (fun c =>
 some c)
noncomputable def q2J (a : v6) (c _ : Int) : Option (Bool) :=
 some (decide (a.Section = c))
noncomputable def q0U (c : List v6) (d e : Int) (a : Nat) : (Unit) → Option ((Unit) ⊕ (Int)) := fun _ =>
 (idx c (a : Int)).bind fun f =>
 (q2J f d e).bind fun g =>
 if g = true then (
 some (.inr (a : Int)))
 else (
 some (.inl ()))
noncomputable def q2F (a : List v6) (c d : Int) : Option (Int) :=
 (forM (q0U a c d) a.length 0 ()).bind fun t => Sum.elim (fun _ =>
 some (-1)) (fun q => some q) t
noncomputable def q0c (a : List v6) (c d : Int) : Option (Bool) :=
 (q2F a c d).bind fun e =>
 some (decide (0 ≤ e))
noncomputable def q1z (a : z8) : Option (Bool) :=
 (if a.wanted = true then (
 if a.left = 0 then (
 some (!a.failed))
 else (
 some false))
 else (
 some false)).bind (fun c =>
 some c)
noncomputable def q1B (a : v6) (_ : List ByteArray) (_ : List j0) (_ : List j9) (_ : List j5) (_ : List Q2) (_ : List z7) (_ : List (List q8)) (c : List q9) (_ : List z8) (_ : LK) (_ : LA) : Option (Bool) :=
 (idx c a.Section).bind fun d =>
 (H1 d).bind fun e =>
 some e
noncomputable def F8 (c : List v6) (d : List ByteArray) (e : List j0) (f : List j9) (g : List j5) (h : List Q2) (i : List z7) (j : List (List q8)) (k : List q9) (l : List z8) (m : LK) (n : LA) (a : Nat) : (Unit) → Option ((Unit) ⊕ (Int)) := fun _ =>
 (idx c (a : Int)).bind fun o =>
 (q1B o d e f g h i j k l m n).bind fun p =>
 if p = true then (
 some (.inr (a : Int)))
 else (
 some (.inl ()))
noncomputable def q2E (a : List v6) (c : List ByteArray) (d : List j0) (e : List j9) (f : List j5) (g : List Q2) (h : List z7) (i : List (List q8)) (j : List q9) (k : List z8) (l : LK) (m : LA) : Option (Int) :=
 (forM (F8 a c d e f g h i j k l m) a.length 0 ()).bind fun t => Sum.elim (fun _ =>
 some (-1)) (fun q => some q) t
noncomputable def V4 (a : List v6) (c : List ByteArray) (d : List j0) (e : List j9) (f : List j5) (g : List Q2) (h : List z7) (i : List (List q8)) (j : List q9) (k : List z8) (l : LK) (m : LA) : Option (Bool) :=
 (q2E a c d e f g h i j k l m).bind fun n =>
 some (decide (0 ≤ n))
noncomputable def K4 (e : List Q2) (f : LA) (g : List z8) (a : Nat) : ((Option Int)) → Option (((Option Int)) ⊕ (Bool)) := fun h =>
 (idx e (a : Int)).bind fun c =>
 (h).bind fun d =>
 (J4 f d).bind fun i =>
 (q0c i.Route.Steps c.Section c.Close).bind fun j =>
 (if j = true then (
 (idx g (a : Int)).bind fun k =>
 (q1z k).bind fun l =>
 some (!l))
 else (
 some false)).bind (fun m =>
 if m = true then (
 some (.inr false))
 else (
 some (.inl (some d))))
noncomputable def Y8 (c : List q9) (d : List q8) (e : Nat) : (Unit) → Option ((Unit) ⊕ (Bool)) := fun _ =>
 (idx d (e : Int)).bind fun a =>
 (if 0 < a.Position then (
 (idx c a.Place).bind fun f =>
 (q2K f).bind fun g =>
 if g = true then (
 (idx c a.Place).bind fun h =>
 some (decide (h.position ≠ a.Position)))
 else (
 some true))
 else (
 some false)).bind (fun i =>
 if i = true then (
 some (.inr false))
 else (
 some (.inl ())))
noncomputable def q0G (d : (Option Int)) (i : List ByteArray) (j : List j0) (k : List j9) (l : List j5) (c : List Q2) (m : List z7) (n : List (List q8)) (a : LA) (e : List q9) (f : List z8) (o : LK) : Option (Bool) :=
 (G8 d a).bind fun g =>
 (forM (Y8 e g) g.length 0 ()).bind fun t => Sum.elim (fun _ =>
 (forM (K4 c a f) c.length 0 d).bind fun t => Sum.elim (fun p =>
 ((p).bind fun r =>
 (J4 a r).bind fun h =>
 if h.sight = true then (
 some true)
 else (
 (V4 h.Route.Steps i j k l c m n e f o a).bind fun s =>
 some (!s))).bind (fun u =>
 some u)) (fun q => some q) t) (fun q => some q) t
noncomputable def Z1 (f : List ByteArray) (g : List j0) (h : List j9) (i : List j5) (j : List Q2) (k : List z7) (l : List (List q8)) (d : List Int) (m : List q9) (n : List z8) (o : LK) (c : LA) (p : Int) (t : List (Option Int)) (rcmLockBoxAspect_2 : (Int) → ((List ByteArray)) → ((List j0)) → ((List j9)) → ((List j5)) → ((List Q2)) → ((List z7)) → ((List (List q8))) → ((List Int)) → ((List q9)) → ((List z8)) → (LK) → (LA) → Option (Int × (List Int))) (u : Nat) : (Unit) → Option ((Unit) ⊕ (Int × (List Int))) := fun _ =>
 (idx t (u : Int)).bind fun v =>
 ((v).bind fun a =>
 (J4 c a).bind fun e =>
 if e.Route.From ≠ p then (
 some ((some a), true))
 else (
 (idx e.seen 0).bind fun w =>
 if w = true then (
 some ((some a), true))
 else (
 if 0 < e.leave then (
 some ((some a), true))
 else (
 (q0G (some a) f g h i j k l c m n o).bind fun x =>
 some ((some a), !x))))).bind (q0q fun y z =>
 if z = true then (
 some (.inl ()))
 else (
 (y).bind fun q =>
 (J4 c q).bind fun A =>
 if A.sight = true then (
 some (.inr (1, d)))
 else (
 ((J4 c q).bind fun r =>
 if 0 ≤ r.Route.To then (
 (z1z 8 (d.length + 1)).bind fun _ =>
 (rcmLockBoxAspect_2 r.Route.To f g h i j k l (d ++ [p]) m n o c).bind (q0q fun B C =>
 some (decide (B ≠ 0), C)))
 else (
 some (false, d))).bind (q0q fun D s =>
 if D = true then (
 some (.inr (3, s)))
 else (
 some (.inr (2, s)))))))
noncomputable def Z2 : Nat → (Int) → ((List ByteArray)) → ((List j0)) → ((List j9)) → ((List j5)) → ((List Q2)) → ((List z7)) → ((List (List q8))) → ((List Int)) → ((List q9)) → ((List z8)) → (LK) → (LA) → Option (Int × (List Int))
 | 0 => fun _ _ _ _ _ _ _ _ _ _ _ _ _ => none
 | N + 1 => fun c d e f g h i j a k l m n =>
 (q1T a c).bind fun p =>
 if p = true then (
 some (0, a))
 else (
 (q0i d e f g h i j k l m n).bind fun o =>
 (forM (Z1 d e f g h i j a k l m n c o (Z2 N)) o.length 0 ()).bind fun t => Sum.elim (fun _ =>
 some (0, a)) (fun q => some q) t)
noncomputable def G3 (a : Int) (d : List ByteArray) (e : List j0) (f : List j9) (c : List j5) (g : List Q2) (h : List z7) (i : List (List q8)) (j : List q9) (k : List z8) (l : LK) (m : LA) : Option (Int × Int) :=
 (if a < 0 then (
 some true)
 else (
 some (decide ((c.length : Int) ≤ a)))).bind (fun n =>
 if n = true then (
 some (0, 3))
 else (
 (lim (fun N => Z2 N a d e f c g h i ([] : List Int) j k l m)).bind (q0q fun o _ =>
 some (o, 0))))
noncomputable def q0O (a : j9) (c d : Int) : Option (Bool) :=
 (if a.A = c then (
 if a.B = d then (
 some true)
 else (
 if a.A = d then (
 some (decide (a.B = c)))
 else (
 some false)))
 else (
 if a.A = d then (
 some (decide (a.B = c)))
 else (
 some false))).bind (fun e =>
 some e)
noncomputable def q0E (c : List j9) (d e : Int) (a : Nat) : (Unit) → Option ((Unit) ⊕ (Int)) := fun _ =>
 (idx c (a : Int)).bind fun f =>
 (q0O f d e).bind fun g =>
 if g = true then (
 some (.inr (a : Int)))
 else (
 some (.inl ()))
noncomputable def q2p (a : List j9) (c d : Int) : Option (Int) :=
 (forM (q0E a c d) a.length 0 ()).bind fun t => Sum.elim (fun _ =>
 some (-1)) (fun q => some q) t
noncomputable def q0b (a : List j9) (c d : Int) : Option (Bool) :=
 (q2p a c d).bind fun e =>
 some (decide (0 ≤ e))
noncomputable def q2e (a c : Int) (_ : List ByteArray) (_ : List j0) (d : List j9) (_ : List j5) (_ : List Q2) (_ : List z7) (_ : List (List q8)) (_ : List q9) (_ : List z8) (_ : LK) (_ : LA) : Option (Bool) :=
 (q0b d a c).bind fun e =>
 some e
noncomputable def q1f (f e : Int) (g : z6) (c : Nat) : (LA) → Option (LA) := fun d =>
 (idx g.Route.Steps (c : Int)).bind fun h =>
 if h.Section = f then (
 (J4 d e).bind fun a =>
 (idx a.gone (c : Int)).bind fun i =>
 if i = true then (
 some d)
 else (
 (idx a.seen (c : Int)).bind fun _ =>
 if (c : Int) = 0 then (
 some (X7 d e (⟨a.Route, a.needs, put a.seen (c : Int) true, a.gone, a.laps, a.sight, 0, a.clock, a.number⟩ : z6)))
 else (
 some (X7 d e (⟨a.Route, a.needs, put a.seen (c : Int) true, a.gone, a.laps, a.sight, a.leave, a.clock, a.number⟩ : z6)))))
 else (
 some d)
noncomputable def q0h (e : Int) (f : Int × (Option Int)) : (LA) → Option ((LA) ⊕ (Int × (List q9) × LK × LA)) := fun a =>
 (f.2).bind fun c =>
 (J4 a c).bind fun d =>
 (forS (q1f e c d) d.Route.Steps.length 0 a).bind (fun g =>
 some (.inl g))
noncomputable def q4I (f e : Int) (g : z6) (c : Nat) : (LA) → Option (LA) := fun d =>
 (idx g.Route.Steps (c : Int)).bind fun h =>
 if h.Section = f then (
 (J4 d e).bind fun a =>
 (idx a.gone (c : Int)).bind fun i =>
 if i = true then (
 some d)
 else (
 (idx a.seen (c : Int)).bind fun _ =>
 if (c : Int) = 0 then (
 some (X7 d e (⟨a.Route, a.needs, put a.seen (c : Int) true, a.gone, a.laps, a.sight, 0, a.clock, a.number⟩ : z6)))
 else (
 some (X7 d e (⟨a.Route, a.needs, put a.seen (c : Int) true, a.gone, a.laps, a.sight, a.leave, a.clock, a.number⟩ : z6)))))
 else (
 some d)
noncomputable def q4J (e : Int) (f : Int × (Option Int)) : (LA) → Option ((LA) ⊕ (Int × (List q9) × LK × LA)) := fun a =>
 (f.2).bind fun c =>
 (J4 a c).bind fun d =>
 (forS (q4I e c d) d.Route.Steps.length 0 a).bind (fun g =>
 some (.inl g))
noncomputable def q2v (e h f : Int) (m : List ByteArray) (l : List j0) (n : List j9) (o : List j5) (r : List Q2) (s : List z7) (u : List (List q8)) (c : List q9) (v : List z8) (d : LK) (g : LA) : Option (Int × (List q9) × LK × LA) :=
 (q1D e m l n o r s u c v d g).bind fun x =>
 if x = true then (
 (q1D h m l n o r s u c v d g).bind fun y =>
 if y = true then (
 (q2e e h m l n o r s u c v d g).bind fun z =>
 if z = true then (
 if f < 1 then (
 some (2, c, d, g))
 else (
 if 400 < f then (
 some (2, c, d, g))
 else (
 (idx c e).bind fun a =>
 (idx c h).bind fun w =>
 (chk (w.axles + f)).bind fun _ =>
 if 400 < (w.axles + f) then (
 some (4, c, d, g))
 else (
 if f ≤ a.axles then (
 (chk (a.axles - f)).bind fun _ =>
 (idx (put c e (⟨a.axles - f, a.disturbed, a.position, a.moving, a.failed⟩ : q9)) h).bind fun j =>
 (chk (j.axles + f)).bind fun _ =>
 (z5w (fun p => q4L (q0h h) p g) d).bind fun t => Sum.elim (fun A =>
 some (0, put (put c e (⟨a.axles - f, a.disturbed, a.position, a.moving, a.failed⟩ : q9)) h (⟨j.axles + f, j.disturbed, j.position, j.moving, j.failed⟩ : q9), d, A)) (fun q => some q) t)
 else (
 (idx l e).bind fun B =>
 if B.Axles = true then (
 (idx (put c e (⟨0, a.disturbed, a.position, a.moving, a.failed⟩ : q9)) e).bind fun i =>
 (idx (put (put c e (⟨0, a.disturbed, a.position, a.moving, a.failed⟩ : q9)) e (⟨i.axles, true, i.position, i.moving, i.failed⟩ : q9)) h).bind fun k =>
 (chk (k.axles + f)).bind fun _ =>
 (z5w (fun p => q4L (q4J h) p g) d).bind fun t => Sum.elim (fun C =>
 some (0, put (put (put c e (⟨0, a.disturbed, a.position, a.moving, a.failed⟩ : q9)) e (⟨i.axles, true, i.position, i.moving, i.failed⟩ : q9)) h (⟨k.axles + f, k.disturbed, k.position, k.moving, k.failed⟩ : q9), d, C)) (fun q => some q) t)
 else (
 some (7, c, d, g)))))))
 else (
 some (1, c, d, g)))
 else (
 some (3, c, d, g)))
 else (
 some (3, c, d, g))
noncomputable def q1C (c : Int) (d : List ByteArray) (e : List j0) (f : List j9) (g : List j5) (h : List Q2) (i : List z7) (j : List (List q8)) (k : List q9) (l : List z8) (a : LK) (m : LA) : Option (Int × Int × LK) :=
 (q1D c d e f g h i j k l a m).bind fun n =>
 if n = true then (
 (q1V c d e f g h i j k l a m).bind (q0q fun o p =>
 some (o, 0, p)))
 else (
 some (0, 3, a))
noncomputable def q0T (_ : List ByteArray) (_ : List j0) (_ : List j9) (_ : List j5) (_ : List Q2) (_ : List z7) (_ : List (List q8)) (_ : List q9) (_ : List z8) (a : LK) (c : LA) : Option ((List Int)) :=
 (q5i a c).bind fun _ =>
 (q1S a c).bind fun d =>
 some d
noncomputable def q3b (c d : List Int) (a : Nat) : (Unit) → Option ((Unit) ⊕ (Bool)) := fun _ =>
 (idx c (a : Int)).bind fun e =>
 (idx d (a : Int)).bind fun f =>
 if e ≠ f then (
 some (.inr false))
 else (
 some (.inl ()))
noncomputable def q2u (a c : List Int) : Option (Bool) :=
 if (a.length : Int) ≠ (c.length : Int) then (
 some false)
 else (
 (forM (q3b a c) a.length 0 ()).bind fun t => Sum.elim (fun _ =>
 some true) (fun q => some q) t)
noncomputable def q3C (a : Int) (f : List ByteArray) (g : List j0) (h : List j9) (i : List j5) (j : List Q2) (k : List z7) (l : List (List q8)) (m : List q9) (n : List z8) (c : LK) (d : LA) : Option (Int × (List q8)) :=
 (P8 a f g h i j k l m n c d).bind fun o =>
 if o = true then (
 (some (q0D c a none)).bind fun e =>
 if e.isNone = true then (
 some (0, []))
 else (
 (G8 e d).bind fun p =>
 some (0, p)))
 else (
 some (3, []))
noncomputable def J9 (o : Int) (a : List ByteArray) (c : List j0) (d : List j9) (e : List j5) (f : List Q2) (g : List z7) (h : List (List q8)) (p : z7) (q : Nat) : (Int × (List q9) × (List z8) × LK × LA) → Option ((Int × (List q9) × (List z8) × LK × LA) ⊕ ((Int × (List q9) × (List z8) × LK × LA) ⊕ (Bool))) := z8e fun i r j s t =>
 (idx p.Steps (q : Int)).bind fun k =>
 (q2v i k.Section o a c d e f g h r j s t).bind (z5b fun u v w x =>
 if u ≠ 0 then (
 some (.inr (.inr false)))
 else (
 (Y5 a c d e f g h v j w x).bind (z5b fun l m y n =>
 (q1C i a c d e f g h l m y n).bind (q5U fun z A B =>
 (if A ≠ 0 then (
 some true)
 else (
 some (decide (0 ≤ z)))).bind (fun C =>
 if C = true then (
 some (.inr (.inr false)))
 else (
 some (.inl (k.Section, l, m, B, n))))))))
noncomputable def K1 (a : List ByteArray) (c : List j0) (d : List j9) (e : List j5) (f : List Q2) (g : List z7) (h : List (List q8)) (_ : Nat) : ((List q9) × (List z8) × LK × LA) → Option ((List q9) × (List z8) × LK × LA) := z5b fun i j k l =>
 (Y5 a c d e f g h i j k l).bind (z5b fun m n o p =>
 some (m, n, o, p))
noncomputable def K0 (a : List ByteArray) (c : List j0) (d : List j9) (e : List j5) (f : List Q2) (g : List z7) (h : List (List q8)) (_ : Nat) : ((List q9) × (List z8) × LK × LA) → Option ((List q9) × (List z8) × LK × LA) := z5b fun i j k l =>
 (Y5 a c d e f g h i j k l).bind (z5b fun m n o p =>
 some (m, n, o, p))
noncomputable def K2 (v : List Int) (w : Int) (j : List z7) (a : List ByteArray) (c : List j0) (d : List j9) (e : List j5) (f : List Q2) (g : List z7) (h : List (List q8)) (x : Nat) : (Int × (List q9) × (List z8) × LK × LA) → Option ((Int × (List q9) × (List z8) × LK × LA) ⊕ (Bool)) := z8e fun y z A B C =>
 (idx v (x : Int)).bind fun i =>
 (q2w i false a c d e f g h z A B C).bind (z8e fun D E F G H =>
 if D ≠ 0 then (
 some (.inr false))
 else (
 (forS (K1 a c d e f g h) 15 0 (E, F, G, H)).bind (z5b fun k l m n =>
 (idx j i).bind fun I =>
 (G3 I.From a c d e f g h k l m n).bind (q0q fun J K =>
 (if K ≠ 0 then (
 some true)
 else (
 some (decide (J = 0)))).bind (fun L =>
 if L = true then (
 some (.inr false))
 else (
 (idx j i).bind fun o =>
 (forM (J9 w a c d e f g h o) o.Steps.length 0 (y, k, l, m, n)).bind fun t => Sum.elim (z8e fun O p r s u =>
 (q0T a c d e f g h p r s u).bind fun S =>
 (q2u S [i]).bind fun T =>
 if T = true then (
 some (.inl (O, p, r, s, u)))
 else (
 some (.inr false))) (fun q => some q) t))))))
noncomputable def V7 (k : j3) (l : Int) (a : List Int) (j : Int) : Option (Bool) :=
 (q0A).bind fun y =>
 if y = true then (
 (H3 k).bind (q0q fun z A =>
 (if z ≠ 0 then (
 some true)
 else (
 (q2N k l a).bind fun B =>
 if B ≠ 0 then (
 some true)
 else (
 if j < 1 then (
 some true)
 else (
 some (decide (400 < j)))))).bind (fun C =>
 if C = true then (
 some true)
 else (
 (q8d k).bind (j2W fun c d e f g h i n o p r =>
 (if (0 : Int) ≠ (0 : Int) then (
 some (true, n))
 else (
 (q4o l j c d e f g h i n o p r).bind (q0q fun D E =>
 some (decide (D ≠ 0), E)))).bind (q0q fun F G =>
 if F = true then (
 some false)
 else (
 (forM (K2 a j A c d e f g h i) a.length 0 (l, G, o, p, r)).bind fun t => Sum.elim (z8e fun H I J K L =>
 (forS (K0 c d e f g h i) 60 0 (I, J, K, L)).bind (z5b fun s u v w =>
 (chk ((a.length : Int) - 1)).bind fun _ =>
 (idx a ((a.length : Int) - 1)).bind fun x =>
 (q3C x c d e f g h i s u v w).bind (q0q fun O m =>
 (if O = 0 then (
 (q0T c d e f g h i s u v w).bind fun S =>
 (q2u S [x]).bind fun T =>
 if T = true then (
 if (m.length : Int) = 1 then (
 (idx m 0).bind fun U =>
 if U.Kind = 1 then (
 (idx m 0).bind fun V =>
 some (decide (V.Place = H)))
 else (
 some false))
 else (
 some false))
 else (
 some false))
 else (
 some false)).bind (fun W =>
 some W)))) (fun q => some q) t)))))))
 else (
 some false)
end Go.Proofs.YtjlollifgeggdaaGreatDoor
