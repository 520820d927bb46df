import Derived.Test.YtdbehipjelcmbaaGreatDoorF3
import Derived.Test.YtdbehipjelcmbaaGreatDoorQXZ
set_option linter.unusedVariables false
set_option linter.unusedSimpArgs false
set_option linter.unusedSectionVars false
namespace Go.Proofs.YtdbehipjelcmbaaGreatDoor
open Go.RowKit Go.Fp
structure z7 where
  Kind : Int
  Length : Int
  Grade : Int
  Speed : Int
  Slow : Int
  Station : Int
  Axles : Bool
  deriving DecidableEq
def j3 : RT z7 := (RT.cat (RT.on (RT.int .i64) z7.Kind) (RT.cat (RT.on (RT.int .i64) z7.Length) (RT.cat (RT.on (RT.int .i64) z7.Grade) (RT.cat (RT.on (RT.int .i64) z7.Speed) (RT.cat (RT.on (RT.int .i64) z7.Slow) (RT.cat (RT.on (RT.int .i64) z7.Station) (RT.on RT.bool z7.Axles)))))))
structure w5 where
  A : Int
  EndA : Int
  B : Int
  EndB : Int
  deriving DecidableEq
def w6 : RT w5 := (RT.cat (RT.on (RT.int .i64) w5.A) (RT.cat (RT.on (RT.int .i64) w5.EndA) (RT.cat (RT.on (RT.int .i64) w5.B) (RT.on (RT.int .i64) w5.EndB))))
structure j7 where
  Section : Int
  End : Int
  deriving DecidableEq
def j6 : RT j7 := (RT.cat (RT.on (RT.int .i64) j7.Section) (RT.on (RT.int .i64) j7.End))
structure Q1 where
  Section : Int
  Close : Int
  deriving DecidableEq
def w7 : RT Q1 := (RT.cat (RT.on (RT.int .i64) Q1.Section) (RT.on (RT.int .i64) Q1.Close))
structure v6 where
  Stations : (List ByteArray)
  Sections : (List z7)
  Links : (List w5)
  Signals : (List j7)
  Gates : (List Q1)
def z5m : RT v6 := (RT.cat (RT.on (RT.list RT.str) v6.Stations) (RT.cat (RT.on (RT.list j3) v6.Sections) (RT.cat (RT.on (RT.list w6) v6.Links) (RT.cat (RT.on (RT.list j6) v6.Signals) (RT.on (RT.list w7) v6.Gates)))))
structure J1 where
  Kind : Int
  A : Int
  B : Int
  C : Int
  deriving DecidableEq
def q0U : RT J1 := (RT.cat (RT.on (RT.int .i64) J1.Kind) (RT.cat (RT.on (RT.int .i64) J1.A) (RT.cat (RT.on (RT.int .i64) J1.B) (RT.on (RT.int .i64) J1.C))))
structure Q0 where
  section_ : Int
  end_ : Int
  deriving DecidableEq
def z3b : RT Q0 := (RT.cat (RT.on (RT.int .i64) Q0.section_) (RT.on (RT.int .i64) Q0.end_))
structure Q2 where
  Section : Int
  In : Int
  Out : Int
  deriving DecidableEq
def J2 : RT Q2 := (RT.cat (RT.on (RT.int .i64) Q2.Section) (RT.cat (RT.on (RT.int .i64) Q2.In) (RT.on (RT.int .i64) Q2.Out)))
structure j1 where
  From : Int
  To : Int
  Steps : (List Q2)
def Q3 : RT j1 := (RT.cat (RT.on (RT.int .i64) j1.From) (RT.cat (RT.on (RT.int .i64) j1.To) (RT.on (RT.list J2) j1.Steps)))
structure q8 where
  axles : Int
  disturbed : Bool
  position : Int
  moving : Int
  failed : Bool
  deriving DecidableEq
def j9 : RT q8 := (RT.cat (RT.on (RT.int .i64) q8.axles) (RT.cat (RT.on RT.bool q8.disturbed) (RT.cat (RT.on (RT.int .i64) q8.position) (RT.cat (RT.on (RT.int .i64) q8.moving) (RT.on RT.bool q8.failed)))))
structure z6 where
  left : Int
  wanted : Bool
  failed : Bool
  deriving DecidableEq
def v8 : RT z6 := (RT.cat (RT.on (RT.int .i64) z6.left) (RT.cat (RT.on RT.bool z6.wanted) (RT.on RT.bool z6.failed)))
structure q9 where
  Kind : Int
  Place : Int
  Position : Int
  At : Int
  deriving DecidableEq
def j8 : RT q9 := (RT.cat (RT.on (RT.int .i64) q9.Kind) (RT.cat (RT.on (RT.int .i64) q9.Place) (RT.cat (RT.on (RT.int .i64) q9.Position) (RT.on (RT.int .i64) q9.At))))
structure j0 where
  Route : j1
  needs : (List q9)
  seen : (List Bool)
  gone : (List Bool)
  laps : Bool
  sight : Bool
  leave : Int
  clock : Int
  number : Int
def z8 (w : World) (cs : List Value) (x : j0) (hs : Hp) : Prop := ∃ (A1 : Option Addr) (c1 : Nat) (A2 : Option Addr) (c2 : Nat) (A3 : Option Addr) (c3 : Nat) (hs3 : Hp) (A4 : Option Addr) (c4 : Nat) (hs4 : Hp), cs = [.int .i64 x.Route.From, .int .i64 x.Route.To, .slice A1 x.Route.Steps.length c1, .slice A2 x.needs.length c2, .slice A3 x.seen.length c3, .slice A4 x.gone.length c4, .bool x.laps, .bool x.sight, .int .i64 x.leave, .int .i64 x.clock, .int .i64 x.number] ∧ FZ J2 w A1 c1 x.Route.Steps ∧ FZ j8 w A2 c2 x.needs ∧ OS 4 (OT.fr RT.bool) w (.slice A3 x.seen.length c3) x.seen hs3 ∧ OS 4 (OT.fr RT.bool) w (.slice A4 x.gone.length c4) x.gone hs4 ∧ hs = hs3 ++ hs4
theorem Z1 : KM z8 := ⟨fun hk ⟨A1, c1, A2, c2, A3, c3, hs3, A4, c4, hs4, h0, f0, f1, f2, f3, h1⟩ => ⟨A1, c1, A2, c2, A3, c3, hs3, A4, c4, hs4, h0, f0.mono hk, f1.mono hk, f2.mono hk, f3.mono hk, h1⟩⟩
abbrev LK : Type := List (Int × (Option Int))
abbrev LA : Type := List (Int × j0)
noncomputable def q1u (a c : ByteArray) : Option (Bool) :=
 (if (c.size : Int) ≤ (a.size : Int) then (
 (chk ((a.size : Int) - (c.size : Int))).bind fun _ =>
 (j2Y a ((a.size : Int) - (c.size : Int)) (a.size : Int)).bind fun d =>
 some (sEq d c))
 else (
 some false)).bind (fun e =>
 some e)
noncomputable def q1v (a c : ByteArray) : Option (ByteArray × Bool) :=
 (q1u a c).bind fun d =>
 if d = true then (
 (chk ((a.size : Int) - (c.size : Int))).bind fun _ =>
 (j2Y a 0 ((a.size : Int) - (c.size : Int))).bind fun e =>
 some (e, true))
 else (
 some (a, false))
noncomputable def q3h (a c : ByteArray) : Option (ByteArray × Bool) :=
 (q1v a c).bind (K5 fun d e =>
 some (d, e))
noncomputable def q1t (a : ByteArray) (c : Int) : Option (Int) :=
 some (j1N a c)
noncomputable def q3g (c a : ByteArray) : Option (Int) :=
 (if (a.size : Int) = 0 then (
 some true)
 else (
 some (sEq a c))).bind (fun d =>
 if d = true then (
 some 0)
 else (
 if (a.size : Int) = 1 then (
 (j6l a 0).bind fun e =>
 (q1t c e).bind fun f =>
 some f)
 else (
 if (c.size : Int) ≤ (a.size : Int) then (
 some (-1))
 else (
 none))))
noncomputable def q4f (a c : ByteArray) : Option (Int) :=
 (q3g a c).bind fun d =>
 some d
noncomputable def q5w (a : ByteArray) : (ByteArray × Int) → Option ((ByteArray × Int) ⊕ (Int)) := K5 fun c d =>
 (q4f c a).bind fun e =>
 if e = (-1) then (
 some (.inr d))
 else (
 (chk (d + 1)).bind fun _ =>
 (chk (e + (a.size : Int))).bind fun _ =>
 (j2Y c (e + (a.size : Int)) (c.size : Int)).bind fun f =>
 some (.inl (f, d + 1)))
noncomputable def q5P (c a : ByteArray) : Option (Int) :=
 if (a.size : Int) = 0 then (
 none)
 else (
 if (a.size : Int) = 1 then (
 (j6l a 0).bind fun d =>
 some (j1O c d))
 else (
 q8i (q5w a) (c, 0)))
noncomputable def W3 (h f : ByteArray) (g i : Int) : (ByteArray × Int × (List ByteArray)) → Option ((ByteArray × Int × (List ByteArray)) ⊕ (ByteArray × Int × (List ByteArray))) := q4L fun c a e =>
 if a < ((min i ((h.size : Int) + 1)) - 1) then (
 (q4f c f).bind fun d =>
 if d < 0 then (
 some (.inr (c, a, e)))
 else (
 (chk (d + g)).bind fun _ =>
 (j2Y c 0 (d + g)).bind fun j =>
 (idx e a).bind fun _ =>
 (chk (d + (f.size : Int))).bind fun _ =>
 (j2Y c (d + (f.size : Int)) (c.size : Int)).bind fun k =>
 (chk (a + 1)).bind fun _ =>
 some (.inl (k, a + 1, put e a j))))
 else (
 some (.inr (c, a, e)))
noncomputable def q0M (a d : ByteArray) (i e : Int) : Option ((List ByteArray)) :=
 if e = 0 then (
 some [])
 else (
 if (sEq d (ByteArray.mk #[])) = true then (
 none)
 else (
 (if e < 0 then (
 (q5P a d).bind fun g =>
 (chk (g + 1)).bind fun _ =>
 some (g + 1))
 else (
 some e)).bind (fun f =>
 (chk ((a.size : Int) + 1)).bind fun _ =>
 (z0N 16 (min f ((a.size : Int) + 1))).bind fun j =>
 (chk ((min f ((a.size : Int) + 1)) - 1)).bind fun _ =>
 (q8i (W3 a d i f) (a, 0, List.replicate j (ByteArray.empty : ByteArray))).bind (q4L fun k c h =>
 (idx h c).bind fun _ =>
 (chk (c + 1)).bind fun _ =>
 (z7X (put h c k) 0 (c + 1)).bind fun l =>
 some l))))
noncomputable def K8 (a c : ByteArray) : Option ((List ByteArray)) :=
 (q0M a c 0 (-1)).bind fun d =>
 some d
noncomputable def q0y (c : List ByteArray) (d : Nat) : ((List (List ByteArray))) → Option ((List (List ByteArray))) := fun a =>
 (idx c (d : Int)).bind fun e =>
 (K8 e (ByteArray.mk #[32])).bind fun f =>
 (z1E 24 (a.length + 1)).bind fun _ =>
 some (a ++ [f])
noncomputable def q4r (a : ByteArray) : Option (Bool × (List (List ByteArray))) :=
 if (sEq a (ByteArray.mk #[])) = true then (
 some (true, []))
 else (
 (q3h a (ByteArray.mk #[10])).bind (K5 fun d e =>
 (K8 d (ByteArray.mk #[10])).bind fun c =>
 (q5z (q0y c) c.length 0 ([] : List (List ByteArray))).bind (fun f =>
 some (e, f))))
noncomputable def q4j (c : ByteArray) (d : Nat) : (Unit) → Option ((Unit) ⊕ (Bool)) := fun _ =>
 (idx (q1X c) (d : Int)).bind fun a =>
 (if a < 97 then (
 some true)
 else (
 some (decide (122 < a)))).bind (fun e =>
 if e = true then (
 some (.inr false))
 else (
 some (.inl ())))
noncomputable def q6w (a : ByteArray) : Option (Bool) :=
 (chk (a.size : Int)).bind fun _ =>
 (forM (q4j a) ((q1X a).length) 0 ()).bind fun t => Sum.elim (fun _ =>
 (if 1 ≤ (a.size : Int) then (
 some (decide ((a.size : Int) ≤ 12)))
 else (
 some false)).bind (fun c =>
 some c)) (fun q => some q) t
noncomputable def q2i (c : List ByteArray) (d : ByteArray) (a : Nat) : (Unit) → Option ((Unit) ⊕ (Int)) := fun _ =>
 (idx c (a : Int)).bind fun e =>
 if (sEq d e) = true then (
 some (.inr (a : Int)))
 else (
 some (.inl ()))
noncomputable def q4W (a : List ByteArray) (c : ByteArray) : Option (Int) :=
 (forM (q2i a c) a.length 0 ()).bind fun t => Sum.elim (fun _ =>
 some (-1)) (fun q => some q) t
noncomputable def q1w (a : List ByteArray) (c : ByteArray) : Option (Bool) :=
 (q4W a c).bind fun d =>
 some (decide (0 ≤ d))
noncomputable def q4A (a : Int) : Option (Int) :=
 if a = 1 then (
 some 2)
 else (
 if a = 2 then (
 some 3)
 else (
 if a = 3 then (
 some 4)
 else (
 some 0)))
noncomputable def V9 (a c d : Int) : Option (Bool) :=
 (if c ≤ a then (
 some (decide (a ≤ d)))
 else (
 some false)).bind (fun e =>
 some e)
noncomputable def q0A (a : z7) (c : Int) : Option (Int) :=
 (q4A a.Kind).bind fun d =>
 if d = 0 then (
 some 1)
 else (
 ((V9 a.Length 10 3000).bind fun e =>
 if e = true then (
 (V9 a.Grade (-40) 40).bind fun f =>
 if f = true then (
 (V9 a.Speed 300 6000).bind fun g =>
 some (!g))
 else (
 some true))
 else (
 some true)).bind (fun h =>
 if h = true then (
 some 2)
 else (
 (if a.Kind = 2 then (
 (V9 a.Slow 300 a.Speed).bind fun i =>
 if i = true then (
 if a.Kind = 1 then (
 (V9 a.Station 0 c).bind fun j =>
 some (!j))
 else (
 some false))
 else (
 some true))
 else (
 if a.Kind = 1 then (
 (V9 a.Station 0 c).bind fun k =>
 some (!k))
 else (
 some false))).bind (fun l =>
 if l = true then (
 some 2)
 else (
 (if a.Slow ≠ 0 then (
 if a.Kind = 2 then (
 if a.Station ≠ 0 then (
 if a.Kind = 1 then (
 if a.Grade ≠ 0 then (
 some (decide (a.Kind = 3)))
 else (
 some false))
 else (
 some true))
 else (
 if a.Grade ≠ 0 then (
 some (decide (a.Kind = 3)))
 else (
 some false)))
 else (
 some true))
 else (
 if a.Station ≠ 0 then (
 if a.Kind = 1 then (
 if a.Grade ≠ 0 then (
 some (decide (a.Kind = 3)))
 else (
 some false))
 else (
 some true))
 else (
 if a.Grade ≠ 0 then (
 some (decide (a.Kind = 3)))
 else (
 some false)))).bind (fun m =>
 if m = true then (
 some 1)
 else (
 some 0)))))))
noncomputable def q5R (a : v6) (c : Q0) : Option (Bool) :=
 ((chk ((a.Sections.length : Int) - 1)).bind fun _ =>
 (V9 c.section_ 0 ((a.Sections.length : Int) - 1)).bind fun e =>
 if e = true then (
 (idx a.Sections c.section_).bind fun f =>
 (q4A f.Kind).bind fun d =>
 (chk (d - 1)).bind fun _ =>
 (V9 c.end_ 0 (d - 1)).bind fun g =>
 some g)
 else (
 some false)).bind (fun h =>
 some h)
noncomputable def q6x (a : Int) : Option (Bool) :=
 some (decide (a ≠ a))
noncomputable def K0 (a c : Int) : Option (Int) :=
 (q6x a).bind fun e =>
 (q6x c).bind fun d =>
 if e = true then (
 if d = true then (
 some 0)
 else (
 some (-1)))
 else (
 if d = true then (
 some 1)
 else (
 if a < c then (
 some (-1))
 else (
 if c < a then (
 some 1)
 else (
 some 0))))
noncomputable def q7c (c : List Int) (d : Nat) : (Unit) → Option ((Unit) ⊕ (Int)) := fun _ =>
 (idx c (d : Int)).bind fun a =>
 if a ≠ 0 then (
 some (.inr a))
 else (
 some (.inl ()))
noncomputable def q8h (a : List Int) : Option (Int) :=
 (forM (q7c a) a.length 0 ()).bind fun t => Sum.elim (fun _ =>
 some 0) (fun q => some q) t
noncomputable def q0r (c : v6) (d : Nat) : ((List (Q0 × Bool))) → Option (((List (Q0 × Bool))) ⊕ (Int)) := fun e =>
 (idx c.Links (d : Int)).bind fun a =>
 (some ()).bind (fun _ =>
 ((q5R c (⟨a.A, a.EndA⟩ : Q0)).bind fun g =>
 if g = true then (
 (q5R c (⟨a.B, a.EndB⟩ : Q0)).bind fun h =>
 some (!h))
 else (
 some true)).bind (fun i =>
 if i = true then (
 some (.inr 3))
 else (
 if a.A = a.B then (
 some (.inr 1))
 else (
 if a.B < a.A then (
 some (.inr 5))
 else (
 (if 0 < (d : Int) then (
 (chk ((d : Int) - 1)).bind fun _ =>
 (idx c.Links ((d : Int) - 1)).bind fun f =>
 ((K0 f.A a.A).bind fun j =>
 (K0 f.EndA a.EndA).bind fun k =>
 (q8h [j, k]).bind fun l =>
 some (decide (0 ≤ l))).bind (fun m =>
 if m = true then (
 some (.inr (.inr 5)))
 else (
 some (.inl ()))))
 else (
 some (.inl ()))).bind fun t => Sum.elim (fun _ =>
 ((some (q2a e (⟨a.A, a.EndA⟩ : Q0) false)).bind fun n =>
 if n = true then (
 some true)
 else (
 (some (q2a e (⟨a.B, a.EndB⟩ : Q0) false)).bind fun o =>
 some o)).bind (fun p =>
 if p = true then (
 some (.inr 6))
 else (
 some (.inl (G1 (G1 e (⟨a.A, a.EndA⟩ : Q0) true) (⟨a.B, a.EndB⟩ : Q0) true))))) (fun q => some q) t)))))
noncomputable def q1C (a : v6) : Option (Int) :=
 (forM (q0r a) a.Links.length 0 (([] : List (Q0 × Bool)) : List (Q0 × Bool))).bind fun t => Sum.elim (fun _ =>
 some 0) (fun q => some q) t
noncomputable def q1B (d : v6) (c : Q0) (e : Nat) : (Unit) → Option ((Unit) ⊕ (Int × Int × Bool)) := fun _ =>
 (idx d.Links (e : Int)).bind fun a =>
 (if a.A = c.section_ then (
 some (decide (a.EndA = c.end_)))
 else (
 some false)).bind (fun f =>
 if f = true then (
 some (.inr (a.B, a.EndB, true)))
 else (
 (if a.B = c.section_ then (
 some (decide (a.EndB = c.end_)))
 else (
 some false)).bind (fun g =>
 if g = true then (
 some (.inr (a.A, a.EndA, true)))
 else (
 some (.inl ())))))
noncomputable def X8 (a : v6) (c : Q0) : Option (Int × Int × Bool) :=
 (forM (q1B a c) a.Links.length 0 ()).bind fun t => Sum.elim (fun _ =>
 some (0, 0, false)) (fun q => some q) t
noncomputable def F8 (c : v6) (d : Nat) : (Unit) → Option ((Unit) ⊕ (Int)) := fun _ =>
 (idx c.Signals (d : Int)).bind fun a =>
 (q5R c (⟨a.Section, a.End⟩ : Q0)).bind fun f =>
 if f = true then (
 (X8 c (⟨a.Section, a.End⟩ : Q0)).bind (q4L fun _ _ g =>
 (if g = true then (
 (idx c.Sections a.Section).bind fun h =>
 some (decide (h.Kind ≠ 1)))
 else (
 some true)).bind (fun i =>
 if i = true then (
 some (.inr 1))
 else (
 if 0 < (d : Int) then (
 (chk ((d : Int) - 1)).bind fun _ =>
 (idx c.Signals ((d : Int) - 1)).bind fun e =>
 ((K0 e.Section a.Section).bind fun j =>
 (K0 e.End a.End).bind fun k =>
 (q8h [j, k]).bind fun l =>
 some (decide (0 ≤ l))).bind (fun m =>
 if m = true then (
 some (.inr 5))
 else (
 some (.inl ()))))
 else (
 some (.inl ()))))))
 else (
 some (.inr 3))
noncomputable def q0z (a : v6) : Option (Int) :=
 (forM (F8 a) a.Signals.length 0 ()).bind fun t => Sum.elim (fun _ =>
 some 0) (fun q => some q) t
noncomputable def q0s (a : v6) (c : Nat) : (Unit) → Option ((Unit) ⊕ (Int)) := fun _ =>
 (idx a.Gates (c : Int)).bind fun d =>
 (chk ((a.Sections.length : Int) - 1)).bind fun _ =>
 (V9 d.Section 0 ((a.Sections.length : Int) - 1)).bind fun e =>
 if e = true then (
 (idx a.Sections d.Section).bind fun f =>
 if f.Kind ≠ 1 then (
 some (.inr 1))
 else (
 (V9 d.Close 1 12).bind fun g =>
 if g = true then (
 (if 0 < (c : Int) then (
 (chk ((c : Int) - 1)).bind fun _ =>
 (idx a.Gates ((c : Int) - 1)).bind fun h =>
 some (decide (d.Section ≤ h.Section)))
 else (
 some false)).bind (fun i =>
 if i = true then (
 some (.inr 5))
 else (
 some (.inl ()))))
 else (
 some (.inr 2))))
 else (
 some (.inr 3))
noncomputable def q1D (a : v6) : Option (Int) :=
 (forM (q0s a) a.Gates.length 0 ()).bind fun t => Sum.elim (fun _ =>
 some 0) (fun q => some q) t
noncomputable def q2Q (a : v6) (c : Nat) : (Unit) → Option ((Unit) ⊕ (Int)) := fun _ =>
 if (c : Int) = (0 : Int) then (
 (q1C a).bind fun d =>
 if d ≠ 0 then (
 some (.inr d))
 else (
 some (.inl ())))
 else (
 if (c : Int) = (1 : Int) then (
 (q0z a).bind fun e =>
 if e ≠ 0 then (
 some (.inr e))
 else (
 some (.inl ())))
 else (
 if (c : Int) = (2 : Int) then (
 (q1D a).bind fun f =>
 if f ≠ 0 then (
 some (.inr f))
 else (
 some (.inl ())))
 else (
 none)))
noncomputable def q2R (a : v6) (d : Nat) : (Unit) → Option ((Unit) ⊕ (Int)) := fun _ =>
 (idx a.Sections (d : Int)).bind fun e =>
 (q0A e (a.Stations.length : Int)).bind fun c =>
 if c ≠ 0 then (
 some (.inr c))
 else (
 some (.inl ()))
noncomputable def q2S (a : v6) (c : Nat) : (Unit) → Option ((Unit) ⊕ (Int)) := fun _ =>
 (idx a.Stations (c : Int)).bind fun d =>
 (q6w d).bind fun e =>
 if e = true then (
 (z7X a.Stations 0 (c : Int)).bind fun f =>
 (q1w f d).bind fun g =>
 if g = true then (
 some (.inr 6))
 else (
 some (.inl ())))
 else (
 some (.inr 1))
noncomputable def P6 (a : v6) : Option (Int) :=
 if (a.Sections.length : Int) = 0 then (
 some 1)
 else (
 (if 12 < (a.Stations.length : Int) then (
 some true)
 else (
 if 60 < (a.Sections.length : Int) then (
 some true)
 else (
 if 90 < (a.Links.length : Int) then (
 some true)
 else (
 if 40 < (a.Signals.length : Int) then (
 some true)
 else (
 some (decide (8 < (a.Gates.length : Int)))))))).bind (fun c =>
 if c = true then (
 some 4)
 else (
 (forM (q2S a) a.Stations.length 0 ()).bind fun t => Sum.elim (fun _ =>
 (forM (q2R a) a.Sections.length 0 ()).bind fun t => Sum.elim (fun _ =>
 (forM (q2Q a) 3 0 ()).bind fun t => Sum.elim (fun _ =>
 some 0) (fun q => some q) t) (fun q => some q) t) (fun q => some q) t)))
noncomputable def q7o (a : List (List ByteArray)) (c : Nat) : (Unit) → Option ((Unit) ⊕ ((List ByteArray) × (List z7) × (List w5) × (List j7) × (List Q1) × Int)) := fun _ =>
 (idx a (c : Int)).bind fun _ =>
 none
noncomputable def q8g (a : ByteArray) : Option ((List ByteArray) × (List z7) × (List w5) × (List j7) × (List Q1) × Int) :=
 if 20000 < (a.size : Int) then (
 some ([], [], [], [], [], 4))
 else (
 (q4r a).bind (K5 fun e c =>
 if e = true then (
 (forM (q7o c) c.length 0 ()).bind fun t => Sum.elim (fun _ =>
 (P6 (⟨[], [], [], [], []⟩ : v6)).bind fun d =>
 if d ≠ 0 then (
 some ([], [], [], [], [], d))
 else (
 some ([], [], [], [], [], 0))) (fun q => some q) t)
 else (
 some ([], [], [], [], [], 10))))
noncomputable def K4 : Option (Bool) :=
 (q8g (ByteArray.mk #[120])).bind (j7o fun _ _ _ _ _ a =>
 some (decide (a ≠ 0)))
noncomputable def q2h (a c : Int) : Option ((List Int)) :=
 (if a = 2 then (
 some (decide (c = 0)))
 else (
 some false)).bind (fun d =>
 if d = true then (
 some [1, 2])
 else (
 if a = 2 then (
 some [0])
 else (
 some [z5Z .i64 c 1])))
noncomputable def q0R (a : v6) (c : Q0) : Option ((List Q2)) :=
 (X8 a c).bind (q4L fun x y q => if q = true then (idx a.Sections x).bind fun p => (q2h p.Kind y).bind fun o => some (o.map fun k => (⟨x, y, k⟩ : Q2)) else some [])
noncomputable def q4i (a : Q2) (c : Int) : Option (Bool) :=
 some (decide (a.Section = c))
noncomputable def q0p (c : List Q2) (d : Int) (a : Nat) : (Unit) → Option ((Unit) ⊕ (Int)) := fun _ =>
 (idx c (a : Int)).bind fun e =>
 (q4i e d).bind fun f =>
 if f = true then (
 some (.inr (a : Int)))
 else (
 some (.inl ()))
noncomputable def q2j (a : List Q2) (c : Int) : Option (Int) :=
 (forM (q0p a c) a.length 0 ()).bind fun t => Sum.elim (fun _ =>
 some (-1)) (fun q => some q) t
noncomputable def q0F (a : List Q2) (c : Int) : Option (Bool) :=
 (q2j a c).bind fun d =>
 some (decide (0 ≤ d))
noncomputable def W8 (a : List Q2) (c : Int) : Option (Bool) :=
 (q0F a c).bind fun d =>
 some d
noncomputable def P5 (_ : List ByteArray) (_ : List z7) (_ : List w5) (_ : List j7) (_ : List Q1) (a : Int) (c : Bool) (_ : List j1) : Option (Int × Bool) :=
 (chk (a + 1)).bind fun _ =>
 if c = true then (
 some (a + 1, true))
 else (
 some (a + 1, decide (80 < (a + 1))))
noncomputable def q3C (a : List Q2) : Option ((List Q2)) :=
 (z1E 24 a.length).bind fun _ => some a
noncomputable def q1e (e : List j7) (a : j7) (c : Nat) : (Unit) → Option ((Unit) ⊕ (Int)) := fun _ =>
 (idx e (c : Int)).bind fun d =>
 if a.Section = d.Section ∧ a.End = d.End then (
 some (.inr (c : Int)))
 else (
 some (.inl ()))
noncomputable def q3p (a : List j7) (c : j7) : Option (Int) :=
 (forM (q1e a c) a.length 0 ()).bind fun t => Sum.elim (fun _ =>
 some (-1)) (fun q => some q) t
noncomputable def F3 (c : v6) (a : Q0) : Option (Int) :=
 (q3p c.Signals (⟨a.section_, a.end_⟩ : j7)).bind fun d =>
 some d
noncomputable def J0 (l : Int) (m : List Q2) (d : List ByteArray) (e : List z7) (f : List w5) (g : List j7) (h : List Q1) (q : Int) (rcmLineFinderGrow : (Int) → ((List Q2)) → (Q0) → ((List ByteArray)) → ((List z7)) → ((List w5)) → ((List j7)) → ((List Q1)) → (Int) → (Bool) → ((List j1)) → Option (Int × Bool × (List j1))) (a : Q2) : (Int × Bool × (List j1)) → Option ((Int × Bool × (List j1)) ⊕ (Int × Bool × (List j1))) := q4L fun i j c =>
 if j = true then (
 some (.inr (i, j, c)))
 else (
 (if a.Section = q then (
 some true)
 else (
 (W8 m a.Section).bind fun r =>
 some r)).bind (fun s =>
 if s = true then (
 (P5 d e f g h i j c).bind (K5 fun t u =>
 some (.inr (t, u, c))))
 else (
 ((q3C m).bind fun n =>
 (z1E 24 (n.length + 1)).bind fun _ =>
 some (n ++ [a])).bind (fun k =>
 if 16 < (k.length : Int) then (
 some (.inr (i, true, c)))
 else (
 (F3 (⟨d, e, f, g, h⟩ : v6) (⟨a.Section, a.Out⟩ : Q0)).bind fun o =>
 ((X8 (⟨d, e, f, g, h⟩ : v6) (⟨a.Section, a.Out⟩ : Q0)).bind (q4L fun _ _ v =>
 some v)).bind (fun w =>
 (if w = true then (
 some (decide (o < 0)))
 else (
 some false)).bind (fun x =>
 if x = true then (
 (rcmLineFinderGrow l k (⟨a.Section, a.Out⟩ : Q0) d e f g h i j c).bind (q4L fun y z A =>
 some (.inl (y, z, A))))
 else (
 ((z1E 40 (c.length + 1)).bind fun _ =>
 some (c ++ [(⟨l, o, k⟩ : j1)])).bind (fun p =>
 (P5 d e f g h i j p).bind (K5 fun B C =>
 some (.inl (B, C, p))))))))))))
noncomputable def J3 : Nat → (Int) → ((List Q2)) → (Q0) → ((List ByteArray)) → ((List z7)) → ((List w5)) → ((List j7)) → ((List Q1)) → (Int) → (Bool) → ((List j1)) → Option (Int × Bool × (List j1))
 | 0 => fun _ _ _ _ _ _ _ _ _ _ _ => none
 | N + 1 => fun c h i d e f a g j k l =>
 ((idx a c).bind fun m =>
 some m.Section).bind (fun n =>
 (q0R (⟨d, e, f, a, g⟩ : v6) i).bind fun o =>
 (q4k (J0 c h d e f a g n (J3 N)) o (j, k, l)).bind fun t => Sum.elim (q4L fun p r s =>
 some (p, r, s)) (fun q => some q) t)
noncomputable def q1k (a : v6) (c : Nat) : (Int × Bool × (List j1)) → Option (Int × Bool × (List j1)) := q4L fun e f g =>
 (idx a.Signals (c : Int)).bind fun d =>
 (lim (fun N => J3 N (c : Int) [] (⟨d.Section, d.End⟩ : Q0) a.Stations a.Sections a.Links a.Signals a.Gates e f g)).bind (q4L fun h i j =>
 some (h, i, j))
noncomputable def q2O (a : v6) : Option (Int × (List j1)) :=
 (q5z (q1k a) a.Signals.length 0 ((0, false, []) : Int × Bool × (List j1))).bind (q4L fun _ c d =>
 if c = true then (
 some (4, []))
 else (
 some (0, d)))
noncomputable def q0H (a : v6) : Option (Int × (List j1)) :=
 (P6 a).bind fun c =>
 if c ≠ 0 then (
 some (c, []))
 else (
 (q2O a).bind (K5 fun d e =>
 some (d, e)))
noncomputable def q3v (a : List ByteArray) : Option ((List ByteArray)) :=
 (z1E 16 a.length).bind fun _ => some a
noncomputable def q3u (a : List z7) : Option ((List z7)) :=
 (z1E 56 a.length).bind fun _ => some a
noncomputable def q3t (a : List w5) : Option ((List w5)) :=
 (z1E 32 a.length).bind fun _ => some a
noncomputable def q3s (a : List j7) : Option ((List j7)) :=
 (z1E 16 a.length).bind fun _ => some a
noncomputable def q3r (a : List Q1) : Option ((List Q1)) :=
 (z1E 16 a.length).bind fun _ => some a
noncomputable def q8f (a : v6) : Option ((List ByteArray) × (List z7) × (List w5) × (List j7) × (List Q1)) :=
 ((q3v a.Stations).bind fun c =>
 (q3u a.Sections).bind fun d =>
 (q3t a.Links).bind fun e =>
 (q3s a.Signals).bind fun f =>
 (q3r a.Gates).bind fun g =>
 some (c, d, e, f, g)).bind (j1H fun h i j k l =>
 some (h, i, j, k, l))
noncomputable def q5Q (c : List Int) (a : List j1) (d : Nat) : (Unit) → Option ((Unit) ⊕ (Int × (List j1))) := fun _ =>
 (idx c (d : Int)).bind fun e =>
 (chk ((a.length : Int) - 1)).bind fun _ =>
 (V9 e 0 ((a.length : Int) - 1)).bind fun f =>
 if f = true then (
 some (.inl ()))
 else (
 some (.inr (3, [])))
noncomputable def q6v (e : v6) (a : List Int) : Option (Int × (List j1)) :=
 (q0H e).bind (K5 fun c d =>
 if c ≠ 0 then (
 some (c, []))
 else (
 (forM (q5Q a d) a.length 0 ()).bind fun t => Sum.elim (fun _ =>
 some (0, d)) (fun q => some q) t))
noncomputable def q2P (a : Q2) : (Unit) → Option ((Unit) ⊕ (Int × Int × Int × Bool)) := fun _ =>
 some (.inr (a.Section, a.In, a.Out, true))
noncomputable def q1l (d : v6) (f : j1) : (Int × Int × Int × (List Q2)) → Option ((Int × Int × Int × (List Q2)) ⊕ ((List Q2))) := z6c fun e i j c =>
 if e < 50 then (
 ((q0R d (⟨i, j⟩ : Q0)).bind fun k =>
 (q4k q2P k ()).bind fun t => Sum.elim (fun _ =>
 some (0, 0, 0, false)) (fun q => some q) t).bind (z6c fun a l g m =>
 (if m = true then (
 (W8 f.Steps a).bind fun n =>
 if n = true then (
 some true)
 else (
 (W8 c a).bind fun o =>
 if o = true then (
 some true)
 else (
 (idx d.Signals f.From).bind fun p =>
 some (decide (a = p.Section)))))
 else (
 some true)).bind (fun r =>
 if r = true then (
 some (.inr c))
 else (
 (z1E 24 (c.length + 1)).bind fun _ =>
 (idx d.Sections a).bind fun h =>
 (chk (e + h.Length)).bind fun _ =>
 some (.inl (e + h.Length, a, g, c ++ [(⟨a, l, g⟩ : Q2)]))))))
 else (
 some (.inr c))
noncomputable def q3J (c : v6) (a : j1) : Option ((List Q2)) :=
 if a.To < 0 then (
 some [])
 else (
 ((idx c.Signals a.To).bind fun d =>
 (idx c.Signals a.To).bind fun e =>
 some (d.Section, e.End)).bind (K5 fun f g =>
 (q8i (q1l c a) ((0, f, g, []) : Int × Int × Int × (List Q2))).bind (fun h =>
 some h)))
noncomputable def q0j (c : v6) (a : Q2) : Option (Int) :=
 (idx c.Sections a.Section).bind fun d =>
 if d.Kind = 2 then (
 some (max a.In a.Out))
 else (
 some 0)
noncomputable def Z8 (a : q9) (_ : List ByteArray) (_ : List z7) (_ : List w5) (_ : List j7) (_ : List Q1) (_ _ : Int) (_ _ : List Q2) (c : List q9) (d : List (q9 × Bool)) : Option ((List q9) × (List (q9 × Bool))) :=
 (some (q2a d a false)).bind fun e =>
 if e = true then (
 some (c, d))
 else (
 (z1E 32 (c.length + 1)).bind fun _ =>
 some (c ++ [a], G1 d a true))
noncomputable def q1m (a : q9) (c d : Int) : Option (Bool) :=
 (if a.Kind = 3 then (
 if a.Place = c then (
 some (decide (a.Position = d)))
 else (
 some false))
 else (
 some false)).bind (fun e =>
 some e)
noncomputable def F6 (c d : Int) (e : List q9) (a : Nat) : (Unit) → Option ((Unit) ⊕ (Int)) := fun _ =>
 (idx e (a : Int)).bind fun f =>
 (q1m f c d).bind fun g =>
 if g = true then (
 some (.inr (a : Int)))
 else (
 some (.inl ()))
noncomputable def q1f (c d : Int) (a : List q9) : Option (Int) :=
 (forM (F6 c d a) a.length 0 ()).bind fun t => Sum.elim (fun _ =>
 some (-1)) (fun q => some q) t
noncomputable def q0b (a c : Int) (d : List q9) : Option (Bool) :=
 (q1f a c d).bind fun e =>
 some (decide (0 ≤ e))
noncomputable def P4 (a c : Int) (_ : List ByteArray) (_ : List z7) (_ : List w5) (_ : List j7) (_ : List Q1) (_ _ : Int) (_ _ : List Q2) (d : List q9) (_ : List (q9 × Bool)) : Option (Bool) :=
 (q0b a c d).bind fun e =>
 some e
noncomputable def W9 (c : List ByteArray) (d : List z7) (e : List w5) (f : List j7) (g : List Q1) (h i : List Q2) (a j k l m : Int) (n : List Int) (rcmLineLookerLook_1 : (Q0) → (Int) → (Int) → ((List ByteArray)) → ((List z7)) → ((List w5)) → ((List j7)) → ((List Q1)) → (Int) → (Int) → ((List Q2)) → ((List Q2)) → ((List q9)) → ((List (q9 × Bool))) → Option ((List q9) × (List (q9 × Bool)))) (o : Nat) : ((List q9) × (List (q9 × Bool))) → Option ((List q9) × (List (q9 × Bool))) := K5 fun p q =>
 (idx n (o : Int)).bind fun r =>
 (chk (a + 1)).bind fun _ =>
 (rcmLineLookerLook_1 (⟨m, r⟩ : Q0) (a + 1) j c d e f g k l h i p q).bind (K5 fun s t =>
 some (s, t))
noncomputable def Z5 : Nat → (Q0) → (Int) → (Int) → ((List ByteArray)) → ((List z7)) → ((List w5)) → ((List j7)) → ((List Q1)) → (Int) → (Int) → ((List Q2)) → ((List Q2)) → ((List q9)) → ((List (q9 × Bool))) → Option ((List q9) × (List (q9 × Bool)))
 | 0 => fun _ _ _ _ _ _ _ _ _ _ _ _ _ _ => none
 | N + 1 => fun u r o f a g h i k n l m c d =>
 ((X8 (⟨f, a, g, h, i⟩ : v6) u).bind (q4L fun v w x =>
 some (x, v, w))).bind (q4L fun y e j =>
 (if y = true then (
 if r = 8 then (
 some true)
 else (
 (W8 l e).bind fun z =>
 if z = true then (
 some true)
 else (
 (W8 m e).bind fun A =>
 some A)))
 else (
 some true)).bind (fun B =>
 if B = true then (
 some (c, d))
 else (
 (idx a e).bind fun p =>
 ((if p.Kind = 2 then (
 some (decide (0 < j)))
 else (
 some false)).bind (fun C =>
 if C = true then (
 ((P4 e j f a g h i k n l m c d).bind fun D =>
 if D = true then (
 some (c, d))
 else (
 (chk (3 - j)).bind fun _ =>
 (Z8 (⟨3, e, 3 - j, o⟩ : q9) f a g h i k n l m c d).bind (K5 fun E F =>
 some (E, F)))).bind (K5 fun G H =>
 some (.inr (G, H))))
 else (
 if p.Kind = 1 then (
 (F3 (⟨f, a, g, h, i⟩ : v6) (⟨e, j⟩ : Q0)).bind fun q =>
 if 0 ≤ q then (
 (if q ≠ k then (
 (Z8 (⟨4, q, 0, o⟩ : q9) f a g h i k n l m c d).bind (K5 fun I J =>
 some (I, J)))
 else (
 some (c, d))).bind (K5 fun K L =>
 some (.inr (K, L))))
 else (
 some (.inl ())))
 else (
 some (.inl ()))))).bind fun t => Sum.elim (fun _ =>
 (q2h p.Kind j).bind fun s =>
 (q5z (W9 f a g h i l m r o k n e s (Z5 N)) s.length 0 (c, d)).bind (K5 fun O S =>
 some (O, S))) (fun T => some T) t)))
noncomputable def Y6 (e : List ByteArray) (f : List z7) (g : List w5) (h : List j7) (i : List Q1) (j k : List Q2) (l m n o p q : Int) (a : Nat) : ((List q9) × (List (q9 × Bool))) → Option ((List q9) × (List (q9 × Bool))) := K5 fun c d =>
 (if (a : Int) ≠ p then (
 some (decide ((a : Int) ≠ q)))
 else (
 some false)).bind (fun r =>
 if r = true then (
 (lim (fun N => Z5 N (⟨o, (a : Int)⟩ : Q0) 0 l e f g h i m n j k c d)).bind (K5 fun s t =>
 some (s, t)))
 else (
 some (c, d)))
noncomputable def F4 (c : Int) (h : List ByteArray) (d : List z7) (i : List w5) (j : List j7) (k : List Q1) (l m : Int) (e n : List Q2) (o : List q9) (p : List (q9 × Bool)) : Option ((List q9) × (List (q9 × Bool))) :=
 ((idx e c).bind fun a =>
 some (a.Section, a.In, a.Out)).bind (q4L fun f q r =>
 (idx d f).bind fun s =>
 (q4A s.Kind).bind fun g =>
 (chk g).bind fun _ =>
 (q5z (Y6 h d i j k e n c l m f q r) ((g).toNat) 0 (o, p)).bind (K5 fun t u =>
 some (t, u)))
noncomputable def G7 (a : v6) (c : j1) (d : List Q2) (e : Nat) : ((List q9) × (List (q9 × Bool))) → Option ((List q9) × (List (q9 × Bool))) := K5 fun f g =>
 (F4 (e : Int) a.Stations a.Sections a.Links a.Signals a.Gates c.From c.To c.Steps d f g).bind (K5 fun h i =>
 some (h, i))
noncomputable def G8 (a : v6) (c : j1) (d : List Q2) (f : Nat) : ((List q9) × (List (q9 × Bool))) → Option ((List q9) × (List (q9 × Bool))) := K5 fun g h =>
 (idx d (f : Int)).bind fun e =>
 (q0j a e).bind fun i =>
 (Z8 (⟨2, e.Section, i, (-1)⟩ : q9) a.Stations a.Sections a.Links a.Signals a.Gates c.From c.To c.Steps d g h).bind (K5 fun j k =>
 some (j, k))
noncomputable def G9 (a : v6) (c : j1) (f : List Q2) (d : Nat) : ((List q9) × (List (q9 × Bool))) → Option ((List q9) × (List (q9 × Bool))) := K5 fun g h =>
 (idx c.Steps (d : Int)).bind fun e =>
 (q0j a e).bind fun i =>
 (Z8 (⟨1, e.Section, i, (d : Int)⟩ : q9) a.Stations a.Sections a.Links a.Signals a.Gates c.From c.To c.Steps f g h).bind (K5 fun j k =>
 some (j, k))
noncomputable def G3 (c : v6) (a : j1) : Option ((List q9)) :=
 ((q3J c a).bind fun e =>
 some (e, ([] : List (q9 × Bool)))).bind (K5 fun d f =>
 (q5z (G9 c a d) a.Steps.length 0 (([], f) : (List q9) × (List (q9 × Bool)))).bind (K5 fun g h =>
 (q5z (G8 c a d) d.length 0 (g, h)).bind (K5 fun i j =>
 (q5z (G7 c a d) a.Steps.length 0 (i, j)).bind (K5 fun k l =>
 (Z8 (⟨5, a.From, 0, (-1)⟩ : q9) c.Stations c.Sections c.Links c.Signals c.Gates a.From a.To a.Steps d k l).bind (K5 fun m _ =>
 some m)))))
noncomputable def q7b (a : v6) (c : Int) : Option (Int × (List q9)) :=
 (q6v a [c]).bind (K5 fun d e =>
 if d ≠ 0 then (
 some (d, []))
 else (
 (idx e c).bind fun f =>
 (G3 a f).bind fun g =>
 some (0, g)))
noncomputable def q4g (c : v6) (d : Nat) : ((List (List q9))) → Option ((List (List q9))) := fun a =>
 (q7b c (d : Int)).bind (K5 fun _ e =>
 (z1E 24 (a.length + 1)).bind fun _ =>
 some (a ++ [e]))
noncomputable def q4h (c : Nat) : ((List q8)) → Option ((List q8)) := fun d =>
 (idx d (c : Int)).bind fun a =>
 some (put d (c : Int) (⟨a.axles, a.disturbed, 1, a.moving, a.failed⟩ : q8))
noncomputable def mLockNew (a : v6) : Option ((List ByteArray) × (List z7) × (List w5) × (List j7) × (List Q1) × (List j1) × (List (List q9)) × (List q8) × (List z6) × LK × LA) :=
 (P6 a).bind fun e =>
 if e ≠ 0 then (
 none)
 else (
 (q0H a).bind (K5 fun f c =>
 if f ≠ 0 then (
 none)
 else (
 ((q8f a).bind (j1H fun g h i j k =>
 (z0N 40 (a.Sections.length : Int)).bind fun l =>
 (z0N 16 (a.Gates.length : Int)).bind fun m =>
 some (g, h, i, j, k, List.replicate l ((⟨0, false, 0, 0, false⟩ : q8) : q8), List.replicate m ((⟨0, false, false⟩ : z6) : z6), ([] : LK), ([] : LA)))).bind (j6x fun n o p q r d s t u =>
 (q5z q4h d.length 0 d).bind (fun v =>
 (q5z (q4g a) c.length 0 ([] : List (List q9))).bind (fun w =>
 some (n, o, p, q, r, c, w, v, s, t, u)))))))
noncomputable def q2c (a : List Bool) : Option ((List Bool)) :=
 (z1E 1 a.length).bind fun _ => some a
noncomputable def H8 (c : LA) (d : Int × (Option Int)) : (LK × LA) → Option ((LK × LA) ⊕ (LK × LK × LA)) := K5 fun e h =>
 (d.2).bind fun f =>
 (V4 c f).bind fun a =>
 ((V4 c f).bind fun g =>
 (q2c g.seen).bind fun i =>
 (q2c g.gone).bind fun j =>
 some (i, j)).bind (K5 fun k l =>
 (q9B e a.number).bind fun _ =>
 some (.inl (q6g (G1 e d.1 (some a.number)), q6g (G1 h a.number (⟨a.Route, a.needs, k, l, a.laps, a.sight, a.leave, a.clock, a.number⟩ : j0)))))
noncomputable def q3I (e : List ByteArray) (f : List z7) (g : List w5) (h : List j7) (i : List Q1) (j : List j1) (k : List (List q9)) (a : List q8) (c : List z6) (d : LK) (l : LA) : Option ((List ByteArray) × (List z7) × (List w5) × (List j7) × (List Q1) × (List j1) × (List (List q9)) × LK × (List q8) × (List z6) × LK × LA) :=
 ((z0N 40 (a.length : Int)).bind fun m =>
 (z0N 16 (c.length : Int)).bind fun n =>
 some (List.replicate m ((⟨0, false, 0, 0, false⟩ : q8) : q8), List.replicate n ((⟨0, false, false⟩ : z6) : z6), ([] : LK), ([] : LA))).bind (z6c fun o r s u =>
 ((z3U (fun p => q4k (H8 l) p (s, u)) d).bind fun t => Sum.elim (K5 fun v w =>
 some (d, v, w)) (fun q => some q) t).bind (q4L fun x y z =>
 some (e, f, g, h, i, j, k, x, z1R o a, z1R r c, y, z)))
noncomputable def X7 (a : Int) (_ : List ByteArray) (_ : List z7) (_ : List w5) (_ : List j7) (_ : List Q1) (_ : List j1) (_ : List (List q9)) (c : List q8) (_ : List z6) (_ : LK) (_ : LA) : Option (Bool) :=
 (if 0 ≤ a then (
 some (decide (a < (c.length : Int))))
 else (
 some false)).bind (fun d =>
 some d)
noncomputable def q4z (d c : Int) (h : List ByteArray) (i : List z7) (j : List w5) (k : List j7) (l : List Q1) (m : List j1) (n : List (List q9)) (a : List q8) (o : List z6) (p : LK) (q : LA) : Option (Int × (List q8)) :=
 (X7 d h i j k l m n a o p q).bind fun r =>
 if r = true then (
 (if c < 0 then (
 some true)
 else (
 some (decide (400 < c)))).bind (fun s =>
 if s = true then (
 some (2, a))
 else (
 (idx a d).bind fun f =>
 (chk (f.axles + c)).bind fun _ =>
 if 400 < (f.axles + c) then (
 some (4, a))
 else (
 (idx a d).bind fun g =>
 (chk (g.axles + c)).bind fun _ =>
 (idx a d).bind fun e =>
 some (0, put a d (⟨g.axles + c, e.disturbed, e.position, e.moving, e.failed⟩ : q8))))))
 else (
 some (3, a))
noncomputable def q0P (a : w5) (c d : Int) : Option (Bool) :=
 (if a.A = c then (
 if a.B = d then (
 some true)
 else (
 if a.A = d then (
 some (decide (a.B = c)))
 else (
 some false)))
 else (
 if a.A = d then (
 some (decide (a.B = c)))
 else (
 some false))).bind (fun e =>
 some e)
noncomputable def q1a (c : List w5) (d e : Int) (a : Nat) : (Unit) → Option ((Unit) ⊕ (Int)) := fun _ =>
 (idx c (a : Int)).bind fun f =>
 (q0P f d e).bind fun g =>
 if g = true then (
 some (.inr (a : Int)))
 else (
 some (.inl ()))
noncomputable def q2J (a : List w5) (c d : Int) : Option (Int) :=
 (forM (q1a a c d) a.length 0 ()).bind fun t => Sum.elim (fun _ =>
 some (-1)) (fun q => some q) t
noncomputable def q0a (a : List w5) (c d : Int) : Option (Bool) :=
 (q2J a c d).bind fun e =>
 some (decide (0 ≤ e))
noncomputable def q2f (a c : Int) (_ : List ByteArray) (_ : List z7) (d : List w5) (_ : List j7) (_ : List Q1) (_ : List j1) (_ : List (List q9)) (_ : List q8) (_ : List z6) (_ : LK) (_ : LA) : Option (Bool) :=
 (q0a d a c).bind fun e =>
 some e
noncomputable def q1h (f e : Int) (g : j0) (c : Nat) : (LA) → Option (LA) := fun d =>
 (idx g.Route.Steps (c : Int)).bind fun h =>
 if h.Section = f then (
 (V4 d e).bind fun a =>
 (idx a.gone (c : Int)).bind fun i =>
 if i = true then (
 some d)
 else (
 (idx a.seen (c : Int)).bind fun _ =>
 if (c : Int) = 0 then (
 some (G1 d e (⟨a.Route, a.needs, put a.seen (c : Int) true, a.gone, a.laps, a.sight, 0, a.clock, a.number⟩ : j0)))
 else (
 some (G1 d e (⟨a.Route, a.needs, put a.seen (c : Int) true, a.gone, a.laps, a.sight, a.leave, a.clock, a.number⟩ : j0)))))
 else (
 some d)
noncomputable def H6 (e : Int) (f : Int × (Option Int)) : (LA) → Option ((LA) ⊕ (Int × (List q8) × LK × LA)) := fun a =>
 (f.2).bind fun c =>
 (V4 a c).bind fun d =>
 (q5z (q1h e c d) d.Route.Steps.length 0 a).bind (fun g =>
 some (.inl g))
noncomputable def q4X (f e : Int) (g : j0) (c : Nat) : (LA) → Option (LA) := fun d =>
 (idx g.Route.Steps (c : Int)).bind fun h =>
 if h.Section = f then (
 (V4 d e).bind fun a =>
 (idx a.gone (c : Int)).bind fun i =>
 if i = true then (
 some d)
 else (
 (idx a.seen (c : Int)).bind fun _ =>
 if (c : Int) = 0 then (
 some (G1 d e (⟨a.Route, a.needs, put a.seen (c : Int) true, a.gone, a.laps, a.sight, 0, a.clock, a.number⟩ : j0)))
 else (
 some (G1 d e (⟨a.Route, a.needs, put a.seen (c : Int) true, a.gone, a.laps, a.sight, a.leave, a.clock, a.number⟩ : j0)))))
 else (
 some d)
noncomputable def q2N (e : Int) (f : Int × (Option Int)) : (LA) → Option ((LA) ⊕ (Int × (List q8) × LK × LA)) := fun a =>
 (f.2).bind fun c =>
 (V4 a c).bind fun d =>
 (q5z (q4X e c d) d.Route.Steps.length 0 a).bind (fun g =>
 some (.inl g))
noncomputable def q3E (e h f : Int) (m : List ByteArray) (l : List z7) (n : List w5) (o : List j7) (r : List Q1) (s : List j1) (u : List (List q9)) (c : List q8) (v : List z6) (d : LK) (g : LA) : Option (Int × (List q8) × LK × LA) :=
 (X7 e m l n o r s u c v d g).bind fun x =>
 if x = true then (
 (X7 h m l n o r s u c v d g).bind fun y =>
 if y = true then (
 (q2f e h m l n o r s u c v d g).bind fun z =>
 if z = true then (
 if f < 1 then (
 some (2, c, d, g))
 else (
 if 400 < f then (
 some (2, c, d, g))
 else (
 (idx c e).bind fun a =>
 (idx c h).bind fun w =>
 (chk (w.axles + f)).bind fun _ =>
 if 400 < (w.axles + f) then (
 some (4, c, d, g))
 else (
 if f ≤ a.axles then (
 (chk (a.axles - f)).bind fun _ =>
 (idx (put c e (⟨a.axles - f, a.disturbed, a.position, a.moving, a.failed⟩ : q8)) h).bind fun j =>
 (chk (j.axles + f)).bind fun _ =>
 (z3U (fun p => q4k (H6 h) p g) d).bind fun t => Sum.elim (fun A =>
 some (0, put (put c e (⟨a.axles - f, a.disturbed, a.position, a.moving, a.failed⟩ : q8)) h (⟨j.axles + f, j.disturbed, j.position, j.moving, j.failed⟩ : q8), d, A)) (fun q => some q) t)
 else (
 (idx l e).bind fun B =>
 if B.Axles = true then (
 (idx (put c e (⟨0, a.disturbed, a.position, a.moving, a.failed⟩ : q8)) e).bind fun i =>
 (idx (put (put c e (⟨0, a.disturbed, a.position, a.moving, a.failed⟩ : q8)) e (⟨i.axles, true, i.position, i.moving, i.failed⟩ : q8)) h).bind fun k =>
 (chk (k.axles + f)).bind fun _ =>
 (z3U (fun p => q4k (q2N h) p g) d).bind fun t => Sum.elim (fun C =>
 some (0, put (put (put c e (⟨0, a.disturbed, a.position, a.moving, a.failed⟩ : q8)) e (⟨i.axles, true, i.position, i.moving, i.failed⟩ : q8)) h (⟨k.axles + f, k.disturbed, k.position, k.moving, k.failed⟩ : q8), d, C)) (fun q => some q) t)
 else (
 some (7, c, d, g)))))))
 else (
 some (1, c, d, g)))
 else (
 some (3, c, d, g)))
 else (
 some (3, c, d, g))
noncomputable def q1y (c : Int) (e : List ByteArray) (f : List z7) (g : List w5) (h : List j7) (i : List Q1) (j : List j1) (k : List (List q9)) (a : List q8) (l : List z6) (m : LK) (n : LA) : Option (Int × (List q8)) :=
 (X7 c e f g h i j k a l m n).bind fun o =>
 if o = true then (
 (idx a c).bind fun p =>
 if p.disturbed = true then (
 some (7, a))
 else (
 (idx a c).bind fun d =>
 some (0, put a c (⟨d.axles, true, d.position, d.moving, d.failed⟩ : q8))))
 else (
 some (3, a))
noncomputable def q2K (c : Int) (g : List ByteArray) (f : List z7) (h : List w5) (i : List j7) (j : List Q1) (k : List j1) (l : List (List q9)) (d : List q8) (m : List z6) (n : LK) (o : LA) : Option (Int × (List q8)) :=
 (X7 c g f h i j k l d m n o).bind fun p =>
 if p = true then (
 (idx d c).bind fun q =>
 if q.disturbed = true then (
 (idx d c).bind fun a =>
 ((idx f c).bind fun r =>
 if r.Axles = true then (
 (idx (put d c (⟨a.axles, false, a.position, a.moving, a.failed⟩ : q8)) c).bind fun e =>
 some (put (put d c (⟨a.axles, false, a.position, a.moving, a.failed⟩ : q8)) c (⟨0, e.disturbed, e.position, e.moving, e.failed⟩ : q8)))
 else (
 some (put d c (⟨a.axles, false, a.position, a.moving, a.failed⟩ : q8)))).bind (fun s =>
 some (0, s)))
 else (
 some (7, d)))
 else (
 some (3, d))
noncomputable def G2 (a : Int) (d : List ByteArray) (c : List z7) (e : List w5) (f : List j7) (g : List Q1) (h : List j1) (i : List (List q9)) (j : List q8) (k : List z6) (l : LK) (m : LA) : Option (Bool) :=
 ((X7 a d c e f g h i j k l m).bind fun n =>
 if n = true then (
 (idx c a).bind fun o =>
 some (decide (o.Kind = 2)))
 else (
 some false)).bind (fun p =>
 some p)
noncomputable def J5 (a : q8) : Option (Bool) :=
 (if 0 < a.axles then (
 some true)
 else (
 some a.disturbed)).bind (fun c =>
 some c)
noncomputable def q0N (a : (Option Int)) (c : q9) (d : LA) : Option (Bool) :=
 if c.Kind = 2 then (
 (a).bind fun e =>
 (V4 d e).bind fun f =>
 some f.laps)
 else (
 if c.Kind = 5 then (
 (a).bind fun g =>
 (V4 d g).bind fun h =>
 (idx h.seen 0).bind fun i =>
 some (!i))
 else (
 (a).bind fun j =>
 (V4 d j).bind fun k =>
 (idx k.gone c.At).bind fun l =>
 some (!l)))
noncomputable def q0q (d : LA) (e : Int) (f : j0) (g : Nat) : ((List q9)) → Option ((List q9)) := fun a =>
 (idx f.needs (g : Int)).bind fun c =>
 (q0N (some e) c d).bind fun h =>
 if h = true then (
 (z1E 32 (a.length + 1)).bind fun _ =>
 some (a ++ [c]))
 else (
 some a)
noncomputable def H1 (e : (Option Int)) (a : LA) : Option ((List q9)) :=
 (e).bind fun c =>
 (V4 a c).bind fun d =>
 (q5z (q0q a c d) d.needs.length 0 ([] : List q9)).bind (fun f =>
 some f)
noncomputable def q0G (c : LK) (d : Int) (e : List q9) (f : Nat) : (Unit) → Option ((Unit) ⊕ ((Unit) ⊕ ((LK) ⊕ (Bool × LK)))) := fun _ =>
 (idx e (f : Int)).bind fun a =>
 (if a.Place = d then (
 if a.Kind = 1 then (
 some true)
 else (
 if a.Kind = 2 then (
 some true)
 else (
 some (decide (a.Kind = 3)))))
 else (
 some false)).bind (fun g =>
 if g = true then (
 some (.inr (.inr (.inr (true, c)))))
 else (
 some (.inl ())))
noncomputable def Y9 (c : LK) (d : LA) (e : Int) (f : Int × (Option Int)) : (Unit) → Option ((Unit) ⊕ ((LK) ⊕ (Bool × LK))) := fun _ =>
 (H1 f.2 d).bind fun a =>
 (forM (q0G c e a) a.length 0 ()).bind fun t => Sum.elim (fun _ =>
 some (.inl ())) (fun q => some q) t
noncomputable def H7 (c : Int) (_ : List ByteArray) (_ : List z7) (_ : List w5) (_ : List j7) (_ : List Q1) (_ : List j1) (_ : List (List q9)) (_ : List q8) (_ : List z6) (a : LK) (d : LA) : Option (Bool × LK) :=
 ((z3U (fun p => q4k (Y9 a d c) p ()) a).bind fun t => Sum.elim (fun _ =>
 some (.inl a)) (fun q => some q) t).bind fun t => Sum.elim (fun e =>
 some (false, e)) (fun f => some f) t
noncomputable def q3D (e f : Int) (g : List ByteArray) (h : List z7) (i : List w5) (j : List j7) (k : List Q1) (l : List j1) (m : List (List q9)) (a : List q8) (n : List z6) (c : LK) (o : LA) : Option (Int × (List q8) × LK) :=
 (G2 e g h i j k l m a n c o).bind fun q =>
 if q = true then (
 (idx a e).bind fun d =>
 (if f ≠ 1 then (
 some (decide (f ≠ 2)))
 else (
 some false)).bind (fun r =>
 if r = true then (
 some (2, a, c))
 else (
 if d.failed = true then (
 some (12, a, c))
 else (
 if 0 < d.moving then (
 some (7, a, c))
 else (
 if d.position = f then (
 some (0, a, c))
 else (
 ((J5 d).bind fun s =>
 if s = true then (
 some (true, c))
 else (
 (H7 e g h i j k l m a n c o).bind (K5 fun t u =>
 some (t, u)))).bind (K5 fun v p =>
 if v = true then (
 some (7, a, p))
 else (
 some (0, put a e (⟨d.axles, d.disturbed, d.position, 5, d.failed⟩ : q8), p)))))))))
 else (
 some (3, a, c))
noncomputable def q3H (c : Int) (e : List ByteArray) (f : List z7) (g : List w5) (h : List j7) (i : List Q1) (j : List j1) (k : List (List q9)) (a : List q8) (l : List z6) (m : LK) (n : LA) : Option (Int × (List q8)) :=
 (G2 c e f g h i j k a l m n).bind fun o =>
 if o = true then (
 (idx a c).bind fun p =>
 if p.failed = true then (
 some (7, a))
 else (
 (idx a c).bind fun d =>
 some (0, put a c (⟨d.axles, d.disturbed, d.position, d.moving, true⟩ : q8))))
 else (
 some (3, a))
noncomputable def q3F (c : Int) (e : List ByteArray) (f : List z7) (g : List w5) (h : List j7) (i : List Q1) (j : List j1) (k : List (List q9)) (a : List q8) (l : List z6) (m : LK) (n : LA) : Option (Int × (List q8)) :=
 (G2 c e f g h i j k a l m n).bind fun o =>
 if o = true then (
 (idx a c).bind fun p =>
 if p.failed = true then (
 (idx a c).bind fun d =>
 some (0, put a c (⟨d.axles, d.disturbed, d.position, d.moving, false⟩ : q8)))
 else (
 some (7, a)))
 else (
 some (3, a))
noncomputable def q0Q (c : Int) (_ : List ByteArray) (_ : List z7) (_ : List w5) (_ : List j7) (_ : List Q1) (_ : List j1) (_ : List (List q9)) (_ : List q8) (a : List z6) (_ : LK) (_ : LA) : Option (Int × (List z6)) :=
 (if c < 0 then (
 some true)
 else (
 some (decide ((a.length : Int) ≤ c)))).bind (fun e =>
 if e = true then (
 some (3, a))
 else (
 (idx a c).bind fun f =>
 if f.failed = true then (
 some (7, a))
 else (
 (idx a c).bind fun d =>
 some (0, put a c (⟨d.left, d.wanted, true⟩ : z6)))))
noncomputable def q0O (a : Int) (_ : List ByteArray) (_ : List z7) (_ : List w5) (_ : List j7) (f : List Q1) (_ : List j1) (_ : List (List q9)) (_ : List q8) (c : List z6) (_ : LK) (_ : LA) : Option (Int × (List z6)) :=
 (if a < 0 then (
 some true)
 else (
 some (decide ((c.length : Int) ≤ a)))).bind (fun g =>
 if g = true then (
 some (3, c))
 else (
 (idx c a).bind fun h =>
 if h.failed = true then (
 (idx c a).bind fun d =>
 ((idx (put c a (⟨d.left, d.wanted, false⟩ : z6)) a).bind fun e =>
 if e.wanted = true then (
 (idx f a).bind fun i =>
 some (put (put c a (⟨d.left, d.wanted, false⟩ : z6)) a (⟨i.Close, e.wanted, e.failed⟩ : z6)))
 else (
 some (put c a (⟨d.left, d.wanted, false⟩ : z6)))).bind (fun j =>
 some (0, j)))
 else (
 some (7, c))))
noncomputable def K1 (a : Int) (_ : List ByteArray) (_ : List z7) (_ : List w5) (_ : List j7) (_ : List Q1) (c : List j1) (_ : List (List q9)) (_ : List q8) (_ : List z6) (_ : LK) (_ : LA) : Option (Bool) :=
 (if 0 ≤ a then (
 some (decide (a < (c.length : Int))))
 else (
 some false)).bind (fun d =>
 some d)
noncomputable def q3q (a : List q9) : Option ((List q9)) :=
 (z1E 32 a.length).bind fun _ => some a
noncomputable def q2e (a : q9) : Option (Bool) :=
 some (decide (a.Kind = 2))
noncomputable def F5 (c : List q9) (a : Nat) : (Unit) → Option ((Unit) ⊕ (Int)) := fun _ =>
 (idx c (a : Int)).bind fun d =>
 (q2e d).bind fun e =>
 if e = true then (
 some (.inr (a : Int)))
 else (
 some (.inl ()))
noncomputable def H5 (a : List q9) : Option (Int) :=
 (forM (F5 a) a.length 0 ()).bind fun t => Sum.elim (fun _ =>
 some (-1)) (fun q => some q) t
noncomputable def F7  : (Int × Int × (List q9)) → Option ((Int × Int × (List q9)) ⊕ (Int × (List q9))) := q4L fun a d c =>
 if d < (c.length : Int) then (
 ((idx c d).bind fun e =>
 (q2e e).bind fun f =>
 if f = true then (
 some (a, c))
 else (
 (idx c a).bind fun _ =>
 (chk (a + 1)).bind fun _ =>
 some (a + 1, put c a e))).bind (K5 fun g h =>
 (chk (d + 1)).bind fun _ =>
 some (.inl (g, d + 1, h))))
 else (
 some (.inr (a, c)))
noncomputable def G6 (c : List q9) : Option ((List q9)) :=
 (H5 c).bind fun a =>
 if a = (-1) then (
 some c)
 else (
 ((chk (a + 1)).bind fun _ =>
 q8i F7 (a, a + 1, c)).bind (K5 fun d e =>
 (z7X e d (e.length : Int)).bind fun _ =>
 (z7X (j1r e d ((⟨0, 0, 0, 0⟩ : q9) : q9)) 0 d).bind fun f =>
 some f))
noncomputable def q1A (a : q9) : Option (Bool) :=
 (if a.Kind = 1 then (
 some true)
 else (
 some (decide (a.Kind = 2)))).bind (fun c =>
 some c)
noncomputable def G5 (c a : q9) : Option (Bool) :=
 (if c.Kind = 3 then (
 if a.Kind = 3 then (
 some (decide (c.Position ≠ a.Position)))
 else (
 (q1A a).bind fun d =>
 if d = true then (
 some (decide (c.Position ≠ a.Position)))
 else (
 some false)))
 else (
 some false)).bind (fun e =>
 some e)
noncomputable def G4 (a c : q9) : Option (Bool) :=
 (if a.Kind = 4 then (
 some (decide (c.Kind = 5)))
 else (
 some false)).bind (fun d =>
 some d)
noncomputable def q4q (a c : q9) : Option (Bool) :=
 if a.Place ≠ c.Place then (
 some false)
 else (
 ((q1A a).bind fun d =>
 if d = true then (
 (q1A c).bind fun e =>
 if e = true then (
 some true)
 else (
 (G5 a c).bind fun f =>
 if f = true then (
 some true)
 else (
 (G5 c a).bind fun g =>
 if g = true then (
 some true)
 else (
 (G4 a c).bind fun h =>
 if h = true then (
 some true)
 else (
 (G4 c a).bind fun i =>
 some i)))))
 else (
 (G5 a c).bind fun j =>
 if j = true then (
 some true)
 else (
 (G5 c a).bind fun k =>
 if k = true then (
 some true)
 else (
 (G4 a c).bind fun l =>
 if l = true then (
 some true)
 else (
 (G4 c a).bind fun m =>
 some m))))).bind (fun n =>
 some n))
noncomputable def q1T (a : q9) (c d e f : Int) : Option (Bool) :=
 (q4q a (⟨c, d, e, f⟩ : q9)).bind fun g =>
 some g
noncomputable def q0Z (c d e : Int) (f : List q9) (g : Int) (a : Nat) : (Unit) → Option ((Unit) ⊕ (Int)) := fun _ =>
 (idx f (a : Int)).bind fun h =>
 (q1T h c d e g).bind fun i =>
 if i = true then (
 some (.inr (a : Int)))
 else (
 some (.inl ()))
noncomputable def q2I (c d e f : Int) (a : List q9) : Option (Int) :=
 (forM (q0Z c d e a f) a.length 0 ()).bind fun t => Sum.elim (fun _ =>
 some (-1)) (fun q => some q) t
noncomputable def P9 (a c d e : Int) (f : List q9) : Option (Bool) :=
 (q2I a c d e f).bind fun g =>
 some (decide (0 ≤ g))
noncomputable def W4 (e : List j1) (f : List q9) (g : LK) (h : LA) (i : Int) (j : List q9) (k : Nat) : ((Option Int)) → Option (((Option Int)) ⊕ ((Unit) ⊕ ((LK) ⊕ (Bool × LK)))) := fun l =>
 (idx j (k : Int)).bind fun a =>
 ((l).bind fun c =>
 (V4 h c).bind fun m =>
 if a.Kind = 2 then (
 (idx e i).bind fun n =>
 some ((some c), decide (m.Route.To = n.From)))
 else (
 some ((some c), false))).bind (K5 fun d o =>
 if o = true then (
 some (.inl d))
 else (
 (P9 a.Kind a.Place a.Position a.At f).bind fun p =>
 if p = true then (
 some (.inr (.inr (.inr (true, g)))))
 else (
 some (.inl d))))
noncomputable def q0i (e : List j1) (f : List q9) (g : LK) (a : LA) (h : Int) (c : Int × (Option Int)) : (Unit) → Option ((Unit) ⊕ ((LK) ⊕ (Bool × LK))) := fun _ =>
 (H1 c.2 a).bind fun d =>
 (forM (W4 e f g a h d) d.length 0 c.2).bind fun t => Sum.elim (fun _ =>
 some (.inl ())) (fun q => some q) t
noncomputable def q1z (c : Int) (_ : List ByteArray) (_ : List z7) (_ : List w5) (_ : List j7) (_ : List Q1) (d : List j1) (_ : List (List q9)) (e : List q9) (_ : List q8) (_ : List z6) (a : LK) (f : LA) : Option (Bool × LK) :=
 ((z3U (fun p => q4k (q0i d e a f c) p ()) a).bind fun t => Sum.elim (fun _ =>
 some (.inl a)) (fun q => some q) t).bind fun t => Sum.elim (fun g =>
 some (false, g)) (fun h => some h) t
noncomputable def q2r (e : LK) (a : LA) (f c : Int) (g : j0) (d : Nat) : (Unit) → Option ((Unit) ⊕ ((Unit) ⊕ ((LK) ⊕ (Int × LK)))) := fun _ =>
 (idx g.Route.Steps (d : Int)).bind fun h =>
 (if h.Section = f then (
 (V4 a c).bind fun i =>
 (idx i.gone (d : Int)).bind fun j =>
 some (!j))
 else (
 some false)).bind (fun k =>
 if k = true then (
 (V4 a c).bind fun l =>
 some (.inr (.inr (.inr (l.number, e)))))
 else (
 some (.inl ())))
noncomputable def F2 (e : LK) (a : LA) (f : Int) (g : Int × (Option Int)) : (Unit) → Option ((Unit) ⊕ ((LK) ⊕ (Int × LK))) := fun _ =>
 (g.2).bind fun c =>
 (V4 a c).bind fun d =>
 (forM (q2r e a f c d) d.Route.Steps.length 0 ()).bind fun t => Sum.elim (fun _ =>
 some (.inl ())) (fun q => some q) t
noncomputable def q1S (c : Int) (_ : List ByteArray) (_ : List z7) (_ : List w5) (_ : List j7) (_ : List Q1) (_ : List j1) (_ : List (List q9)) (_ : List q8) (_ : List z6) (a : LK) (d : LA) : Option (Int × LK) :=
 ((z3U (fun p => q4k (F2 a d c) p ()) a).bind fun t => Sum.elim (fun _ =>
 some (.inl a)) (fun q => some q) t).bind fun t => Sum.elim (fun e =>
 some ((-1), e)) (fun f => some f) t
noncomputable def q1Q (j : List ByteArray) (k : List z7) (l : List w5) (m : List j7) (h : List Q1) (n : List j1) (o : List (List q9)) (p : List q8) (q : LA) (c : Nat) : ((List z6) × LK) → Option ((List z6) × LK) := K5 fun d r =>
 (idx h (c : Int)).bind fun f =>
 (idx d (c : Int)).bind fun a =>
 (q1S f.Section j k l m h n o p d r q).bind (K5 fun e g =>
 if 0 ≤ e then (
 if a.wanted = true then (
 some (put d (c : Int) (⟨a.left, decide (0 ≤ e), a.failed⟩ : z6), g))
 else (
 (idx (put d (c : Int) (⟨f.Close, a.wanted, a.failed⟩ : z6)) (c : Int)).bind fun i =>
 some (put (put d (c : Int) (⟨f.Close, a.wanted, a.failed⟩ : z6)) (c : Int) (⟨i.left, decide (0 ≤ e), i.failed⟩ : z6), g)))
 else (
 some (put d (c : Int) (⟨a.left, decide (0 ≤ e), a.failed⟩ : z6), g)))
noncomputable def q0C (c : List ByteArray) (d : List z7) (e : List w5) (f : List j7) (a : List Q1) (g : List j1) (h : List (List q9)) (i : List q8) (j : List z6) (k : LK) (l : LA) : Option ((List z6) × LK) :=
 (q5z (q1Q c d e f a g h i l) a.length 0 (j, k)).bind (K5 fun m n =>
 some (m, n))
noncomputable def q1j (e : j1) (f : Int × (Option Int)) : (LA) → Option ((LA) ⊕ (LK × LA)) := fun c =>
 (f.2).bind fun d =>
 (V4 c d).bind fun a =>
 if a.Route.To = e.From then (
 some (.inl (G1 c d (⟨a.Route, a.needs, a.seen, a.gone, false, a.sight, a.leave, a.clock, a.number⟩ : j0))))
 else (
 some (.inl c))
noncomputable def q0e (e : List q9) (f : Nat) : ((List q8)) → Option ((List q8)) := fun c =>
 (idx e (f : Int)).bind fun d =>
 if d.Position = 0 then (
 some c)
 else (
 (idx c d.Place).bind fun a =>
 (if a.position ≠ d.Position then (
 some (decide (a.moving = 0)))
 else (
 some false)).bind (fun g =>
 if g = true then (
 some (put c d.Place (⟨a.axles, a.disturbed, a.position, 5, a.failed⟩ : q8)))
 else (
 some c)))
noncomputable def q0f (c : List q8) (d : List z6) (e : LA) (f : Bool) (g : List q9) (h : LK) (i : Nat) : (Unit) → Option ((Unit) ⊕ (Int × (List q8) × (List z6) × LK × LA)) := fun _ =>
 (idx g (i : Int)).bind fun a =>
 (if f = true then (
 some false)
 else (
 if a.Kind = 1 then (
 (idx c a.Place).bind fun j =>
 (J5 j).bind fun k =>
 some k)
 else (
 if a.Kind = 2 then (
 (idx c a.Place).bind fun l =>
 (J5 l).bind fun m =>
 some m)
 else (
 some false)))).bind (fun n =>
 if n = true then (
 some (.inr (7, c, d, h, e)))
 else (
 some (.inl ())))
noncomputable def q0g (f : List q8) (g : List z6) (h : LA) (i : List q9) (j : LK) (k : Nat) : (Unit) → Option ((Unit) ⊕ (Int × (List q8) × (List z6) × LK × LA)) := fun _ =>
 (idx i (k : Int)).bind fun a =>
 if a.Position = 0 then (
 some (.inl ()))
 else (
 ((idx f a.Place).bind fun c =>
 some (c.axles, c.disturbed, c.position, c.moving, c.failed)).bind (j1H fun l m d e n =>
 ((J5 (⟨l, m, d, e, n⟩ : q8)).bind fun o =>
 if o = true then (
 if d ≠ a.Position then (
 some true)
 else (
 if 0 < e then (
 some true)
 else (
 if 0 < e then (
 some (decide (d = a.Position)))
 else (
 some false))))
 else (
 if 0 < e then (
 some (decide (d = a.Position)))
 else (
 some false))).bind (fun p =>
 if p = true then (
 some (.inr (7, f, g, j, h)))
 else (
 some (.inl ())))))
noncomputable def q0h (a : List q8) (d : List z6) (e : LA) (f : List q9) (g : LK) (h : Nat) : (Unit) → Option ((Unit) ⊕ (Int × (List q8) × (List z6) × LK × LA)) := fun _ =>
 (idx f (h : Int)).bind fun c =>
 (if 0 < c.Position then (
 (idx a c.Place).bind fun i =>
 some i.failed)
 else (
 some false)).bind (fun j =>
 if j = true then (
 some (.inr (12, a, d, g, e)))
 else (
 some (.inl ())))
noncomputable def q3G (a : Int) (i : Bool) (m : List ByteArray) (n : List z7) (o : List w5) (r : List j7) (s : List Q1) (j : List j1) (k : List (List q9)) (c : List q8) (d : List z6) (h : LK) (e : LA) : Option (Int × (List q8) × (List z6) × LK × LA) :=
 (K1 a m n o r s j k c d h e).bind fun z =>
 if z = true then (
 (some (q2a h a none)).bind fun A =>
 if A.isNone = true then (
 (idx k a).bind fun B =>
 (q3q B).bind fun u =>
 (if i = true then (
 (G6 u).bind fun C =>
 some C)
 else (
 some u)).bind (fun f =>
 (q1z a m n o r s j k f c d h e).bind (K5 fun D g =>
 if D = true then (
 some (8, c, d, g, e))
 else (
 (forM (q0h c d e f g) f.length 0 ()).bind fun t => Sum.elim (fun _ =>
 (forM (q0g c d e f g) f.length 0 ()).bind fun t => Sum.elim (fun _ =>
 (forM (q0f c d e i f g) f.length 0 ()).bind fun t => Sum.elim (fun _ =>
 (idx j a).bind fun l =>
 ((z3U (fun p => q4k (q1j l) p e) g).bind fun t => Sum.elim (fun E =>
 some (g, E)) (fun q => some q) t).bind (K5 fun v F =>
 ((z0N 1 (l.Steps.length : Int)).bind fun G =>
 (z0N 1 (l.Steps.length : Int)).bind fun H =>
 (q9B v a).bind fun _ =>
 some (f, G1 v a (some a), G1 F a (⟨l, f, List.replicate G (false : Bool), List.replicate H (false : Bool), !i, i, 0, 0, a⟩ : j0))).bind (q4L fun w I x =>
 (q5z (q0e w) w.length 0 c).bind (fun y =>
 (q0C m n o r s j k y d I x).bind (K5 fun J K =>
 some (0, y, J, K, x)))))) (fun q => some q) t) (fun q => some q) t) (fun q => some q) t))))
 else (
 some (6, c, d, h, e)))
 else (
 some (3, c, d, h, e))
noncomputable def q2g (f : Int) (k : List ByteArray) (l : List z7) (m : List w5) (g : List j7) (n : List Q1) (o : List j1) (p : List (List q9)) (h : List q8) (e : List z6) (d : LK) (c : LA) : Option (Int × (List z6) × LK × LA) :=
 (K1 f k l m g n o p h e d c).bind fun t =>
 if t = true then (
 (some (q2a d f none)).bind fun i =>
 (if i.isNone = true then (
 some (i, true))
 else (
 (i).bind fun j =>
 (V4 c j).bind fun q =>
 (idx q.seen 0).bind fun u =>
 if u = true then (
 some ((some j), true))
 else (
 some ((some j), decide (0 < q.leave))))).bind (K5 fun v w =>
 if w = true then (
 some (7, e, d, c))
 else (
 ((v).bind fun r =>
 (V4 c r).bind fun a =>
 (idx g a.Route.From).bind fun x =>
 (idx h x.Section).bind fun y =>
 (J5 y).bind fun z =>
 if z = true then (
 some (d, G1 c r (⟨a.Route, a.needs, a.seen, a.gone, a.laps, a.sight, 90, a.clock, a.number⟩ : j0)))
 else (
 some (z1N d f, c))).bind (K5 fun A s =>
 (q0C k l m g n o p h e A s).bind (K5 fun B C =>
 some (0, B, C, s))))))
 else (
 some (3, e, d, c))
noncomputable def q5x (_ : LK) (_ : LA) : Option (Unit) :=
 some ()
noncomputable def q1O (a : LK) (_ : LA) : Option ((List Int)) :=
 z2U a
noncomputable def q1i (c : LK) (d : List Int) (e : Nat) : ((List (Option Int))) → Option ((List (Option Int))) := fun a =>
 (idx d (e : Int)).bind fun f =>
 (some (q2a c f none)).bind fun g =>
 (z1E 8 (a.length + 1)).bind fun _ =>
 some (a ++ [g])
noncomputable def q0d (_ : List ByteArray) (_ : List z7) (_ : List w5) (_ : List j7) (_ : List Q1) (_ : List j1) (_ : List (List q9)) (_ : List q8) (_ : List z6) (a : LK) (c : LA) : Option ((List (Option Int))) :=
 (q5x a c).bind fun _ =>
 (q1O a c).bind fun d =>
 (q5z (q1i a d) d.length 0 ([] : List (Option Int))).bind (fun e =>
 some e)
noncomputable def q0c (g : List q8) (h : LK) (e : Int) (i : j0) (c : Nat) : (LA) → Option ((LA) ⊕ (LA × LK)) := fun d =>
 (idx i.Route.Steps (c : Int)).bind fun j =>
 (V4 d e).bind fun k =>
 (idx k.gone (c : Int)).bind fun l =>
 if l = true then (
 some (.inl d))
 else (
 ((V4 d e).bind fun f =>
 (idx f.seen (c : Int)).bind fun m =>
 if m = true then (
 (idx g j.Section).bind fun n =>
 (J5 n).bind fun o =>
 if o = true then (
 some true)
 else (
 (chk ((c : Int) + 1)).bind fun _ =>
 if ((c : Int) + 1) < (f.Route.Steps.length : Int) then (
 (chk ((c : Int) + 1)).bind fun _ =>
 (idx f.seen ((c : Int) + 1)).bind fun p =>
 some (!p))
 else (
 some false)))
 else (
 some true)).bind (fun q =>
 if q = true then (
 some (.inr (d, h)))
 else (
 (V4 d e).bind fun a =>
 (idx a.gone (c : Int)).bind fun _ =>
 some (.inl (G1 d e (⟨a.Route, a.needs, a.seen, put a.gone (c : Int) true, a.laps, a.sight, a.leave, a.clock, a.number⟩ : j0))))))
noncomputable def q1x (g : (Option Int)) (_ : List ByteArray) (_ : List z7) (_ : List w5) (_ : List j7) (_ : List Q1) (_ : List j1) (_ : List (List q9)) (c : LA) (h : List q8) (_ : List z6) (d : LK) : Option (LA × LK) :=
 (g).bind fun a =>
 (V4 c a).bind fun e =>
 (forM (q0c h d a e) e.Route.Steps.length 0 c).bind fun t => Sum.elim (fun f =>
 (V4 f a).bind fun i =>
 some (f, z1N d i.number)) (fun q => some q) t
noncomputable def Y1 (a : List ByteArray) (c : List z7) (d : List w5) (e : List j7) (f : List Q1) (g : List j1) (h : List (List q9)) (i : List q8) (j : List z6) (k : List (Option Int)) (l : Nat) : (LK × LA) → Option (LK × LA) := K5 fun m n =>
 (idx k (l : Int)).bind fun o =>
 (q1x o a c d e f g h n i j m).bind (K5 fun p q =>
 some (q, p))
noncomputable def Y2 (g : List (Option Int)) (h : Nat) : (LA) → Option (LA) := fun c =>
 (idx g (h : Int)).bind fun i =>
 ((i).bind fun e =>
 (V4 c e).bind fun d =>
 (chk ((d.seen.length : Int) - 1)).bind fun _ =>
 (idx d.seen ((d.seen.length : Int) - 1)).bind fun j =>
 if j = true then (
 some ((some e), d.laps))
 else (
 some ((some e), false))).bind (K5 fun k l =>
 if l = true then (
 (k).bind fun f =>
 (V4 c f).bind fun a =>
 (chk (a.clock + 1)).bind fun _ =>
 if (a.clock + 1) = 60 then (
 some (G1 c f (⟨a.Route, a.needs, a.seen, a.gone, false, a.sight, a.leave, a.clock + 1, a.number⟩ : j0)))
 else (
 some (G1 c f (⟨a.Route, a.needs, a.seen, a.gone, a.laps, a.sight, a.leave, a.clock + 1, a.number⟩ : j0))))
 else (
 some c))
noncomputable def Y3 (f : List (Option Int)) (g : Nat) : (LK × LA) → Option (LK × LA) := K5 fun d c =>
 (idx f (g : Int)).bind fun h =>
 (h).bind fun e =>
 (V4 c e).bind fun a =>
 if a.leave = 0 then (
 some (d, c))
 else (
 (chk (a.leave - 1)).bind fun _ =>
 if (a.leave - 1) = 0 then (
 some (z1N d a.number, G1 c e (⟨a.Route, a.needs, a.seen, a.gone, a.laps, a.sight, a.leave - 1, a.clock, a.number⟩ : j0)))
 else (
 some (d, G1 c e (⟨a.Route, a.needs, a.seen, a.gone, a.laps, a.sight, a.leave - 1, a.clock, a.number⟩ : j0))))
noncomputable def Y4 (d : Nat) : ((List z6)) → Option ((List z6)) := fun c =>
 (idx c (d : Int)).bind fun a =>
 (if a.wanted = true then (
 if 0 < a.left then (
 some (!a.failed))
 else (
 some false))
 else (
 some false)).bind (fun e =>
 if e = true then (
 (chk (a.left - 1)).bind fun _ =>
 some (put c (d : Int) (⟨a.left - 1, a.wanted, a.failed⟩ : z6)))
 else (
 some c))
noncomputable def Y5 (d : Nat) : ((List q8)) → Option ((List q8)) := fun e =>
 (idx e (d : Int)).bind fun a =>
 (if a.moving = 0 then (
 some true)
 else (
 some a.failed)).bind (fun f =>
 if f = true then (
 some e)
 else (
 (chk (a.moving - 1)).bind fun _ =>
 (idx (put e (d : Int) (⟨a.axles, a.disturbed, a.position, a.moving - 1, a.failed⟩ : q8)) (d : Int)).bind fun c =>
 if c.moving = 0 then (
 (chk (3 - c.position)).bind fun _ =>
 some (put (put e (d : Int) (⟨a.axles, a.disturbed, a.position, a.moving - 1, a.failed⟩ : q8)) (d : Int) (⟨c.axles, c.disturbed, 3 - c.position, c.moving, c.failed⟩ : q8)))
 else (
 some (put e (d : Int) (⟨a.axles, a.disturbed, a.position, a.moving - 1, a.failed⟩ : q8)))))
noncomputable def q2d (c : List ByteArray) (d : List z7) (e : List w5) (f : List j7) (g : List Q1) (h : List j1) (i : List (List q9)) (l : List q8) (m : List z6) (n : LK) (o : LA) : Option ((List q8) × (List z6) × LK × LA) :=
 (q5z Y5 l.length 0 l).bind (fun a =>
 (q5z Y4 m.length 0 m).bind (fun j =>
 (q0d c d e f g h i a j n o).bind fun p =>
 (q5z (Y3 p) p.length 0 (n, o)).bind (K5 fun k q =>
 (q0d c d e f g h i a j k q).bind fun r =>
 (q5z (Y2 r) r.length 0 q).bind (fun s =>
 (q0d c d e f g h i a j k s).bind fun t =>
 (q5z (Y1 c d e f g h i a j t) t.length 0 (k, s)).bind (K5 fun v u =>
 (q0C c d e f g h i a j v u).bind (K5 fun w x =>
 some (a, w, x, u)))))))
noncomputable def q3K (a : J1) (g : List ByteArray) (h : List z7) (i : List w5) (j : List j7) (k : List Q1) (l : List j1) (m : List (List q9)) (f : List q8) (d : List z6) (e : LK) (c : LA) : Option (Int × (List q8) × (List z6) × LK × LA) :=
 (if a.Kind = 0 then (
 (q4z a.A a.B g h i j k l m f d e c).bind (K5 fun n o =>
 some (.inr (n, o, d, e, c))))
 else (
 if a.Kind = 1 then (
 (q3E a.A a.B a.C g h i j k l m f d e c).bind (z6c fun p q r s =>
 some (.inr (p, q, d, r, s))))
 else (
 if a.Kind = 2 then (
 (q1y a.A g h i j k l m f d e c).bind (K5 fun u v =>
 some (.inr (u, v, d, e, c))))
 else (
 if a.Kind = 3 then (
 (q2K a.A g h i j k l m f d e c).bind (K5 fun w x =>
 some (.inr (w, x, d, e, c))))
 else (
 if a.Kind = 4 then (
 (q3D a.A a.B g h i j k l m f d e c).bind (q4L fun y z A =>
 some (.inr (y, z, d, A, c))))
 else (
 if a.Kind = 5 then (
 (q3H a.A g h i j k l m f d e c).bind (K5 fun B C =>
 some (.inr (B, C, d, e, c))))
 else (
 if a.Kind = 6 then (
 (q3F a.A g h i j k l m f d e c).bind (K5 fun D E =>
 some (.inr (D, E, d, e, c))))
 else (
 if a.Kind = 7 then (
 (q0Q a.A g h i j k l m f d e c).bind (K5 fun F G =>
 some (.inr (F, f, G, e, c))))
 else (
 if a.Kind = 8 then (
 (q0O a.A g h i j k l m f d e c).bind (K5 fun H I =>
 some (.inr (H, f, I, e, c))))
 else (
 (if a.Kind = 9 then (
 some (decide (a.Kind = 9)))
 else (
 some (decide (a.Kind = 10)))).bind (fun J =>
 if J = true then (
 (q3G a.A (decide (a.Kind = 10)) g h i j k l m f d e c).bind (j1H fun K L O S T =>
 some (.inr (K, L, O, S, T))))
 else (
 if a.Kind = 11 then (
 (q2g a.A g h i j k l m f d e c).bind (z6c fun U V W X =>
 some (.inr (U, f, V, W, X))))
 else (
 if a.Kind = 12 then (
 (q2d g h i j k l m f d e c).bind (z6c fun Y Z aa ab =>
 some (.inl (Y, Z, aa, ab))))
 else (
 some (.inl (f, d, e, c)))))))))))))))).bind fun t => Sum.elim (z6c fun ac ad ae af =>
 some (0, ac, ad, ae, af)) (fun ag => some ag) t
noncomputable def q1R (a : Int) (d : List ByteArray) (e : List z7) (f : List w5) (g : List j7) (h : List Q1) (i : List j1) (j : List (List q9)) (c : List q8) (k : List z6) (l : LK) (m : LA) : Option (Bool × Int) :=
 (X7 a d e f g h i j c k l m).bind fun n =>
 if n = true then (
 (idx c a).bind fun o =>
 (J5 o).bind fun p =>
 some (p, 0))
 else (
 some (false, 3))
noncomputable def H2 (c : Int) (d : List ByteArray) (e : List z7) (f : List w5) (g : List j7) (h : List Q1) (i : List j1) (j : List (List q9)) (k : List q8) (l : List z6) (a : LK) (m : LA) : Option (Int × Int × LK) :=
 (X7 c d e f g h i j k l a m).bind fun n =>
 if n = true then (
 (q1S c d e f g h i j k l a m).bind (K5 fun o p =>
 some (o, 0, p)))
 else (
 some (0, 3, a))
noncomputable def q1U (a : q8) : Option (Bool) :=
 (if a.moving = 0 then (
 some (!a.failed))
 else (
 some false)).bind (fun c =>
 some c)
noncomputable def X1 (a : Int) (e : List ByteArray) (f : List z7) (g : List w5) (h : List j7) (i : List Q1) (j : List j1) (k : List (List q9)) (c : List q8) (l : List z6) (m : LK) (n : LA) : Option (Int × Bool × Int) :=
 (G2 a e f g h i j k c l m n).bind fun o =>
 if o = true then (
 (idx c a).bind fun d =>
 (q1U d).bind fun p =>
 some (d.position, p, 0))
 else (
 some (0, false, 3))
noncomputable def q2F (c : List Int) (d : Int) (a : Nat) : (Unit) → Option ((Unit) ⊕ (Int)) := fun _ =>
 (idx c (a : Int)).bind fun e =>
 if d = e then (
 some (.inr (a : Int)))
 else (
 some (.inl ()))
noncomputable def q5o (a : List Int) (c : Int) : Option (Int) :=
 (forM (q2F a c) a.length 0 ()).bind fun t => Sum.elim (fun _ =>
 some (-1)) (fun q => some q) t
noncomputable def q1P (a : List Int) (c : Int) : Option (Bool) :=
 (q5o a c).bind fun d =>
 some (decide (0 ≤ d))
noncomputable def q2M (a : Q2) (c _ : Int) : Option (Bool) :=
 some (decide (a.Section = c))
noncomputable def q0Y (c : List Q2) (d e : Int) (a : Nat) : (Unit) → Option ((Unit) ⊕ (Int)) := fun _ =>
 (idx c (a : Int)).bind fun f =>
 (q2M f d e).bind fun g =>
 if g = true then (
 some (.inr (a : Int)))
 else (
 some (.inl ()))
noncomputable def q2H (a : List Q2) (c d : Int) : Option (Int) :=
 (forM (q0Y a c d) a.length 0 ()).bind fun t => Sum.elim (fun _ =>
 some (-1)) (fun q => some q) t
noncomputable def P8 (a : List Q2) (c d : Int) : Option (Bool) :=
 (q2H a c d).bind fun e =>
 some (decide (0 ≤ e))
noncomputable def q0x (a : z6) : Option (Bool) :=
 (if a.wanted = true then (
 if a.left = 0 then (
 some (!a.failed))
 else (
 some false))
 else (
 some false)).bind (fun c =>
 some c)
noncomputable def q2L (a : Q2) (_ : List ByteArray) (_ : List z7) (_ : List w5) (_ : List j7) (_ : List Q1) (_ : List j1) (_ : List (List q9)) (c : List q8) (_ : List z6) (_ : LK) (_ : LA) : Option (Bool) :=
 (idx c a.Section).bind fun d =>
 (J5 d).bind fun e =>
 some e
noncomputable def q0X (c : List Q2) (d : List ByteArray) (e : List z7) (f : List w5) (g : List j7) (h : List Q1) (i : List j1) (j : List (List q9)) (k : List q8) (l : List z6) (m : LK) (n : LA) (a : Nat) : (Unit) → Option ((Unit) ⊕ (Int)) := fun _ =>
 (idx c (a : Int)).bind fun o =>
 (q2L o d e f g h i j k l m n).bind fun p =>
 if p = true then (
 some (.inr (a : Int)))
 else (
 some (.inl ()))
noncomputable def q2G (a : List Q2) (c : List ByteArray) (d : List z7) (e : List w5) (f : List j7) (g : List Q1) (h : List j1) (i : List (List q9)) (j : List q8) (k : List z6) (l : LK) (m : LA) : Option (Int) :=
 (forM (q0X a c d e f g h i j k l m) a.length 0 ()).bind fun t => Sum.elim (fun _ =>
 some (-1)) (fun q => some q) t
noncomputable def H0 (a : List Q2) (c : List ByteArray) (d : List z7) (e : List w5) (f : List j7) (g : List Q1) (h : List j1) (i : List (List q9)) (j : List q8) (k : List z6) (l : LK) (m : LA) : Option (Bool) :=
 (q2G a c d e f g h i j k l m).bind fun n =>
 some (decide (0 ≤ n))
noncomputable def V2 (e : List Q1) (f : LA) (g : List z6) (a : Nat) : ((Option Int)) → Option (((Option Int)) ⊕ (Bool)) := fun h =>
 (idx e (a : Int)).bind fun c =>
 (h).bind fun d =>
 (V4 f d).bind fun i =>
 (P8 i.Route.Steps c.Section c.Close).bind fun j =>
 (if j = true then (
 (idx g (a : Int)).bind fun k =>
 (q0x k).bind fun l =>
 some (!l))
 else (
 some false)).bind (fun m =>
 if m = true then (
 some (.inr false))
 else (
 some (.inl (some d))))
noncomputable def q1g (c : List q8) (d : List q9) (e : Nat) : (Unit) → Option ((Unit) ⊕ (Bool)) := fun _ =>
 (idx d (e : Int)).bind fun a =>
 (if 0 < a.Position then (
 (idx c a.Place).bind fun f =>
 (q1U f).bind fun g =>
 if g = true then (
 (idx c a.Place).bind fun h =>
 some (decide (h.position ≠ a.Position)))
 else (
 some true))
 else (
 some false)).bind (fun i =>
 if i = true then (
 some (.inr false))
 else (
 some (.inl ())))
noncomputable def Y8 (d : (Option Int)) (i : List ByteArray) (j : List z7) (k : List w5) (l : List j7) (c : List Q1) (m : List j1) (n : List (List q9)) (a : LA) (e : List q8) (f : List z6) (o : LK) : Option (Bool) :=
 (H1 d a).bind fun g =>
 (forM (q1g e g) g.length 0 ()).bind fun t => Sum.elim (fun _ =>
 (forM (V2 c a f) c.length 0 d).bind fun t => Sum.elim (fun p =>
 ((p).bind fun r =>
 (V4 a r).bind fun h =>
 if h.sight = true then (
 some true)
 else (
 (H0 h.Route.Steps i j k l c m n e f o a).bind fun s =>
 some (!s))).bind (fun u =>
 some u)) (fun q => some q) t) (fun q => some q) t
noncomputable def Z0 (f : List ByteArray) (g : List z7) (h : List w5) (i : List j7) (j : List Q1) (k : List j1) (l : List (List q9)) (d : List Int) (m : List q8) (n : List z6) (o : LK) (c : LA) (p : Int) (t : List (Option Int)) (rcmLockBoxAspect_2 : (Int) → ((List ByteArray)) → ((List z7)) → ((List w5)) → ((List j7)) → ((List Q1)) → ((List j1)) → ((List (List q9))) → ((List Int)) → ((List q8)) → ((List z6)) → (LK) → (LA) → Option (Int × (List Int))) (u : Nat) : (Unit) → Option ((Unit) ⊕ (Int × (List Int))) := fun _ =>
 (idx t (u : Int)).bind fun v =>
 ((v).bind fun a =>
 (V4 c a).bind fun e =>
 if e.Route.From ≠ p then (
 some ((some a), true))
 else (
 (idx e.seen 0).bind fun w =>
 if w = true then (
 some ((some a), true))
 else (
 if 0 < e.leave then (
 some ((some a), true))
 else (
 (Y8 (some a) f g h i j k l c m n o).bind fun x =>
 some ((some a), !x))))).bind (K5 fun y z =>
 if z = true then (
 some (.inl ()))
 else (
 (y).bind fun q =>
 (V4 c q).bind fun A =>
 if A.sight = true then (
 some (.inr (1, d)))
 else (
 ((V4 c q).bind fun r =>
 if 0 ≤ r.Route.To then (
 (z1E 8 (d.length + 1)).bind fun _ =>
 (rcmLockBoxAspect_2 r.Route.To f g h i j k l (d ++ [p]) m n o c).bind (K5 fun B C =>
 some (decide (B ≠ 0), C)))
 else (
 some (false, d))).bind (K5 fun D s =>
 if D = true then (
 some (.inr (3, s)))
 else (
 some (.inr (2, s)))))))
noncomputable def Q6 : Nat → (Int) → ((List ByteArray)) → ((List z7)) → ((List w5)) → ((List j7)) → ((List Q1)) → ((List j1)) → ((List (List q9))) → ((List Int)) → ((List q8)) → ((List z6)) → (LK) → (LA) → Option (Int × (List Int))
 | 0 => fun _ _ _ _ _ _ _ _ _ _ _ _ _ => none
 | N + 1 => fun c d e f g h i j a k l m n =>
 (q1P a c).bind fun p =>
 if p = true then (
 some (0, a))
 else (
 (q0d d e f g h i j k l m n).bind fun o =>
 (forM (Z0 d e f g h i j a k l m n c o (Q6 N)) o.length 0 ()).bind fun t => Sum.elim (fun _ =>
 some (0, a)) (fun q => some q) t)
noncomputable def K9 (a : Int) (d : List ByteArray) (e : List z7) (f : List w5) (c : List j7) (g : List Q1) (h : List j1) (i : List (List q9)) (j : List q8) (k : List z6) (l : LK) (m : LA) : Option (Int × Int) :=
 (if a < 0 then (
 some true)
 else (
 some (decide ((c.length : Int) ≤ a)))).bind (fun n =>
 if n = true then (
 some (0, 3))
 else (
 (lim (fun N => Q6 N a d e f c g h i ([] : List Int) j k l m)).bind (K5 fun o _ =>
 some (o, 0))))
noncomputable def q0V (a : Int) (_ : List ByteArray) (_ : List z7) (_ : List w5) (_ : List j7) (_ : List Q1) (_ : List j1) (_ : List (List q9)) (_ : List q8) (c : List z6) (_ : LK) (_ : LA) : Option (Bool × Int) :=
 (if a < 0 then (
 some true)
 else (
 some (decide ((c.length : Int) ≤ a)))).bind (fun d =>
 if d = true then (
 some (false, 3))
 else (
 (idx c a).bind fun e =>
 (q0x e).bind fun f =>
 some (f, 0)))
noncomputable def q0l (_ : List ByteArray) (_ : List z7) (_ : List w5) (_ : List j7) (_ : List Q1) (_ : List j1) (_ : List (List q9)) (_ : List q8) (_ : List z6) (a : LK) (c : LA) : Option ((List Int)) :=
 (q5x a c).bind fun _ =>
 (q1O a c).bind fun d =>
 some d
noncomputable def q2y (a : Int) (f : List ByteArray) (g : List z7) (h : List w5) (i : List j7) (j : List Q1) (k : List j1) (l : List (List q9)) (m : List q8) (n : List z6) (c : LK) (d : LA) : Option (Int × (List q9)) :=
 (K1 a f g h i j k l m n c d).bind fun o =>
 if o = true then (
 (some (q2a c a none)).bind fun e =>
 if e.isNone = true then (
 some (0, []))
 else (
 (H1 e d).bind fun p =>
 some (0, p)))
 else (
 some (3, []))
noncomputable def q2x (a : Int) (f : List ByteArray) (g : List z7) (h : List w5) (i : List j7) (j : List Q1) (k : List j1) (l : List (List q9)) (m : List q8) (n : List z6) (c : LK) (d : LA) : Option (Bool × Int) :=
 (K1 a f g h i j k l m n c d).bind fun o =>
 if o = true then (
 (some (q2a c a none)).bind fun e =>
 (if e.isNone = true then (
 some false)
 else (
 (e).bind fun p =>
 (V4 d p).bind fun q =>
 (idx q.seen 0).bind fun r =>
 some r)).bind (fun s =>
 some (s, 0)))
 else (
 some (false, 3))
noncomputable def q3i (e f : List q9) (d : Nat) : (Unit) → Option ((Unit) ⊕ (Bool)) := fun _ =>
 (idx e (d : Int)).bind fun a =>
 (idx f (d : Int)).bind fun c =>
 if a.Kind = c.Kind ∧ a.Place = c.Place ∧ a.Position = c.Position ∧ a.At = c.At then (
 some (.inl ()))
 else (
 some (.inr false))
noncomputable def q3B (a c : List q9) : Option (Bool) :=
 if (a.length : Int) ≠ (c.length : Int) then (
 some false)
 else (
 (forM (q3i a c) a.length 0 ()).bind fun t => Sum.elim (fun _ =>
 some true) (fun q => some q) t)
noncomputable def q2q (c d : List Int) (a : Nat) : (Unit) → Option ((Unit) ⊕ (Bool)) := fun _ =>
 (idx c (a : Int)).bind fun e =>
 (idx d (a : Int)).bind fun f =>
 if e ≠ f then (
 some (.inr false))
 else (
 some (.inl ()))
noncomputable def q2b (a c : List Int) : Option (Bool) :=
 if (a.length : Int) ≠ (c.length : Int) then (
 some false)
 else (
 (forM (q2q a c) a.length 0 ()).bind fun t => Sum.elim (fun _ =>
 some true) (fun q => some q) t)
noncomputable def q0t (e : List ByteArray) (f : List z7) (g : List w5) (h : List j7) (i : List Q1) (j : List j1) (k : List (List q9)) (l : List ByteArray) (m : List z7) (n : List w5) (o : List j7) (p : List Q1) (q : List j1) (r : List (List q9)) (s : List q8) (t : List z6) (u : LA) (v : List q8) (w : List z6) (x : LA) (c d : LK) (y : List Int) (z : Nat) : (Unit) → Option ((Unit) ⊕ (Bool × LK × LK)) := fun _ =>
 (idx y (z : Int)).bind fun a =>
 (q2y a e f g h i j k s t c u).bind (K5 fun _ A =>
 (q2y a l m n o p q r v w d x).bind (K5 fun _ B =>
 (q2x a e f g h i j k s t c u).bind (K5 fun C _ =>
 (q2x a l m n o p q r v w d x).bind (K5 fun D _ =>
 ((q3B A B).bind fun E =>
 if E = true then (
 some (decide (C ≠ D)))
 else (
 some true)).bind (fun F =>
 if F = true then (
 some (.inr (false, c, d)))
 else (
 some (.inl ())))))))
noncomputable def q0u (e : List ByteArray) (f : List z7) (g : List w5) (h : List j7) (i : List Q1) (j : List j1) (k : List (List q9)) (l : List ByteArray) (m : List z7) (n : List w5) (o : List j7) (p : List Q1) (q : List j1) (r : List (List q9)) (s : List q8) (t : List z6) (u : LA) (v : List q8) (w : List z6) (x : LA) (a c : LK) (d : Nat) : (Unit) → Option ((Unit) ⊕ (Bool × LK × LK)) := fun _ =>
 (q0V (d : Int) e f g h i j k s t a u).bind (K5 fun y _ =>
 (q0V (d : Int) l m n o p q r v w c x).bind (K5 fun z _ =>
 if (decide (y ≠ z)) = true then (
 some (.inr (false, a, c)))
 else (
 some (.inl ()))))
noncomputable def q0v (e : List ByteArray) (f : List z7) (g : List w5) (h : List j7) (i : List Q1) (j : List j1) (k : List (List q9)) (l : List ByteArray) (m : List z7) (n : List w5) (o : List j7) (p : List Q1) (q : List j1) (r : List (List q9)) (s : List q8) (t : List z6) (u : LA) (v : List q8) (w : List z6) (x : LA) (a c : LK) (d : Nat) : (Unit) → Option ((Unit) ⊕ (Bool × LK × LK)) := fun _ =>
 (K9 (d : Int) e f g h i j k s t a u).bind (K5 fun y _ =>
 (K9 (d : Int) l m n o p q r v w c x).bind (K5 fun z _ =>
 if y ≠ z then (
 some (.inr (false, a, c)))
 else (
 some (.inl ()))))
noncomputable def Y7 (c : List ByteArray) (d : List z7) (e : List w5) (f : List j7) (g : List Q1) (h : List j1) (i : List (List q9)) (j : List ByteArray) (k : List z7) (l : List w5) (m : List j7) (n : List Q1) (o : List j1) (p : List (List q9)) (q : List q8) (r : List z6) (s : LA) (t : List q8) (u : List z6) (v : LA) (a : Nat) : (LK × LK) → Option ((LK × LK) ⊕ (Bool × LK × LK)) := K5 fun y z =>
 (q1R (a : Int) c d e f g h i q r y s).bind (K5 fun A _ =>
 (q1R (a : Int) j k l m n o p t u z v).bind (K5 fun B _ =>
 (H2 (a : Int) c d e f g h i q r y s).bind (q4L fun C _ w =>
 (H2 (a : Int) j k l m n o p t u z v).bind (q4L fun D _ x =>
 (X1 (a : Int) c d e f g h i q r w s).bind (q4L fun E F _ =>
 (X1 (a : Int) j k l m n o p t u x v).bind (q4L fun G H _ =>
 (if (decide (A ≠ B)) = true then (
 some true)
 else (
 if C ≠ D then (
 some true)
 else (
 if E ≠ G then (
 some true)
 else (
 some (decide (F ≠ H)))))).bind (fun I =>
 if I = true then (
 some (.inr (false, w, x)))
 else (
 some (.inl (w, x))))))))))
noncomputable def q1E (z : v6) (a : List ByteArray) (c : List z7) (d : List w5) (e : List j7) (f : List Q1) (g : List j1) (h : List (List q9)) (m : List ByteArray) (n : List z7) (o : List w5) (p : List j7) (r : List Q1) (s : List j1) (u : List (List q9)) (i : List q8) (j : List z6) (B : LK) (k : LA) (v : List q8) (w : List z6) (C : LK) (x : LA) : Option (Bool × LK × LK) :=
 (forM (Y7 a c d e f g h m n o p r s u i j k v w x) z.Sections.length 0 (B, C)).bind fun t => Sum.elim (K5 fun l y =>
 (forM (q0v a c d e f g h m n o p r s u i j k v w x l y) z.Signals.length 0 ()).bind fun t => Sum.elim (fun _ =>
 (forM (q0u a c d e f g h m n o p r s u i j k v w x l y) z.Gates.length 0 ()).bind fun t => Sum.elim (fun _ =>
 (q0l a c d e f g h i j l k).bind fun A =>
 (forM (q0t a c d e f g h m n o p r s u i j k v w x l y A) A.length 0 ()).bind fun t => Sum.elim (fun _ =>
 (q0l a c d e f g h i j l k).bind fun D =>
 (q0l m n o p r s u v w y x).bind fun E =>
 (q2b D E).bind fun F =>
 some (F, l, y)) (fun q => some q) t) (fun q => some q) t) (fun q => some q) t) (fun q => some q) t
noncomputable def V3 (p : v6) (a : List ByteArray) (c : List z7) (d : List w5) (e : List j7) (f : List Q1) (g : List j1) (h : List (List q9)) (q : List J1) (r : Nat) : ((List q8) × (List z6) × LK × LA) → Option (((List q8) × (List z6) × LK × LA) ⊕ (Bool)) := z6c fun l m s n =>
 (idx q (r : Int)).bind fun t =>
 (q3I a c d e f g h l m s n).bind (j2E fun u v w x y z A B C D E F =>
 ((q3K t a c d e f g h l m B n).bind (j1H fun G i j o k =>
 if G ≠ 0 then (
 (q1E p u v w x y z A a c d e f g h C D E F i j o k).bind (q4L fun H _ I =>
 some (!H, i, j, I, k)))
 else (
 some (false, i, j, o, k)))).bind (j1H fun J K L O S =>
 if J = true then (
 some (.inr false))
 else (
 some (.inl (K, L, O, S)))))
noncomputable def mFishkeep1LockRefuses (a : v6) (c : List J1) : Option (Bool) :=
 (K4).bind fun e =>
 if e = true then (
 (mLockNew a).bind (j2F fun f g h i j k l m n o p =>
 if (0 : Int) ≠ (0 : Int) then (
 some true)
 else (
 (z7X c 0 (min (c.length : Int) 200)).bind fun d =>
 (forM (V3 a f g h i j k l d) d.length 0 (m, n, o, p)).bind fun t => Sum.elim (z6c fun _ _ _ _ =>
 some true) (fun q => some q) t)))
 else (
 some false)
end Go.Proofs.YtdbehipjelcmbaaGreatDoor
