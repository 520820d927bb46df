import Derived.Test.YtjlollifgeggdaaGreatDoorF3
import Derived.Test.YtjlollifgeggdaaGreatDoorQXZ
set_option linter.unusedVariables false
set_option linter.unusedSimpArgs false
set_option linter.unusedSectionVars false
namespace Go.Proofs.YtjlollifgeggdaaGreatDoor
open Go.RowKit Go.Fp
structure j3 where
  Kind : Int
  Length : Int
  Grade : Int
  Speed : Int
  Slow : Int
  Station : Int
  Axles : Bool
  deriving DecidableEq
def j5 : RT j3 := (RT.cat (RT.on (RT.int .i64) j3.Kind) (RT.cat (RT.on (RT.int .i64) j3.Length) (RT.cat (RT.on (RT.int .i64) j3.Grade) (RT.cat (RT.on (RT.int .i64) j3.Speed) (RT.cat (RT.on (RT.int .i64) j3.Slow) (RT.cat (RT.on (RT.int .i64) j3.Station) (RT.on RT.bool j3.Axles)))))))
structure k8 where
  A : Int
  EndA : Int
  B : Int
  EndB : Int
  deriving DecidableEq
def w9 : RT k8 := (RT.cat (RT.on (RT.int .i64) k8.A) (RT.cat (RT.on (RT.int .i64) k8.EndA) (RT.cat (RT.on (RT.int .i64) k8.B) (RT.on (RT.int .i64) k8.EndB))))
structure j7 where
  Section : Int
  End : Int
  deriving DecidableEq
def j6 : RT j7 := (RT.cat (RT.on (RT.int .i64) j7.Section) (RT.on (RT.int .i64) j7.End))
structure Q1 where
  Section : Int
  Close : Int
  deriving DecidableEq
def k7 : RT Q1 := (RT.cat (RT.on (RT.int .i64) Q1.Section) (RT.on (RT.int .i64) Q1.Close))
structure j1 where
  Stations : (List ByteArray)
  Sections : (List j3)
  Links : (List k8)
  Signals : (List j7)
  Gates : (List Q1)
def z2t : RT j1 := (RT.cat (RT.on (RT.list RT.str) j1.Stations) (RT.cat (RT.on (RT.list j5) j1.Sections) (RT.cat (RT.on (RT.list w9) j1.Links) (RT.cat (RT.on (RT.list j6) j1.Signals) (RT.on (RT.list k7) j1.Gates)))))
structure j8 where
  section_ : Int
  end_ : Int
  deriving DecidableEq
def z0s : RT j8 := (RT.cat (RT.on (RT.int .i64) j8.section_) (RT.on (RT.int .i64) j8.end_))
structure w7 where
  Section : Int
  In : Int
  Out : Int
  deriving DecidableEq
def Z3 : RT w7 := (RT.cat (RT.on (RT.int .i64) w7.Section) (RT.cat (RT.on (RT.int .i64) w7.In) (RT.on (RT.int .i64) w7.Out)))
structure z8 where
  From : Int
  To : Int
  Steps : (List w7)
def Z9 : RT z8 := (RT.cat (RT.on (RT.int .i64) z8.From) (RT.cat (RT.on (RT.int .i64) z8.To) (RT.on (RT.list Z3) z8.Steps)))
structure q8 where
  Kind : Int
  Place : Int
  Position : Int
  At : Int
  deriving DecidableEq
def j4 : RT q8 := (RT.cat (RT.on (RT.int .i64) q8.Kind) (RT.cat (RT.on (RT.int .i64) q8.Place) (RT.cat (RT.on (RT.int .i64) q8.Position) (RT.on (RT.int .i64) q8.At))))
structure W7 where
  Needs : (List q8)
  Clashes : (List Int)
structure q9 where
  axles : Int
  disturbed : Bool
  position : Int
  moving : Int
  failed : Bool
  deriving DecidableEq
def Q5 : RT q9 := (RT.cat (RT.on (RT.int .i64) q9.axles) (RT.cat (RT.on RT.bool q9.disturbed) (RT.cat (RT.on (RT.int .i64) q9.position) (RT.cat (RT.on (RT.int .i64) q9.moving) (RT.on RT.bool q9.failed)))))
structure z6 where
  left : Int
  wanted : Bool
  failed : Bool
  deriving DecidableEq
def Q4 : RT z6 := (RT.cat (RT.on (RT.int .i64) z6.left) (RT.cat (RT.on RT.bool z6.wanted) (RT.on RT.bool z6.failed)))
structure z7 where
  Route : z8
  needs : (List q8)
  seen : (List Bool)
  gone : (List Bool)
  laps : Bool
  sight : Bool
  leave : Int
  clock : Int
  number : Int
def j9 (w : World) (cs : List Value) (x : z7) (hs : Hp) : Prop := ∃ (A1 : Option Addr) (c1 : Nat) (A2 : Option Addr) (c2 : Nat) (A3 : Option Addr) (c3 : Nat) (hs3 : Hp) (A4 : Option Addr) (c4 : Nat) (hs4 : Hp), cs = [.int .i64 x.Route.From, .int .i64 x.Route.To, .slice A1 x.Route.Steps.length c1, .slice A2 x.needs.length c2, .slice A3 x.seen.length c3, .slice A4 x.gone.length c4, .bool x.laps, .bool x.sight, .int .i64 x.leave, .int .i64 x.clock, .int .i64 x.number] ∧ FZ Z3 w A1 c1 x.Route.Steps ∧ FZ j4 w A2 c2 x.needs ∧ OS 4 (OT.fr RT.bool) w (.slice A3 x.seen.length c3) x.seen hs3 ∧ OS 4 (OT.fr RT.bool) w (.slice A4 x.gone.length c4) x.gone hs4 ∧ hs = hs3 ++ hs4
theorem Z4 : KM j9 := ⟨fun hk ⟨A1, c1, A2, c2, A3, c3, hs3, A4, c4, hs4, h0, f0, f1, f2, f3, h1⟩ => ⟨A1, c1, A2, c2, A3, c3, hs3, A4, c4, hs4, h0, f0.mono hk, f1.mono hk, f2.mono hk, f3.mono hk, h1⟩⟩
abbrev LK : Type := List (Int × (Option Int))
abbrev LA : Type := List (Int × z7)
noncomputable def q0v (a c : ByteArray) : Option (Bool) :=
 (if (c.size : Int) ≤ (a.size : Int) then (
 (chk ((a.size : Int) - (c.size : Int))).bind fun _ =>
 (z9R a ((a.size : Int) - (c.size : Int)) (a.size : Int)).bind fun d =>
 some (sEq d c))
 else (
 some false)).bind (fun e =>
 some e)
noncomputable def q0w (a c : ByteArray) : Option (ByteArray × Bool) :=
 (q0v a c).bind fun d =>
 if d = true then (
 (chk ((a.size : Int) - (c.size : Int))).bind fun _ =>
 (z9R a 0 ((a.size : Int) - (c.size : Int))).bind fun e =>
 some (e, true))
 else (
 some (a, false))
noncomputable def q1W (a c : ByteArray) : Option (ByteArray × Bool) :=
 (q0w a c).bind (F7 fun d e =>
 some (d, e))
noncomputable def q0u (a : ByteArray) (c : Int) : Option (Int) :=
 some (z8N a c)
noncomputable def q1V (c a : ByteArray) : Option (Int) :=
 (if (a.size : Int) = 0 then (
 some true)
 else (
 some (sEq a c))).bind (fun d =>
 if d = true then (
 some 0)
 else (
 if (a.size : Int) = 1 then (
 (j2L a 0).bind fun e =>
 (q0u c e).bind fun f =>
 some f)
 else (
 if (c.size : Int) ≤ (a.size : Int) then (
 some (-1))
 else (
 none))))
noncomputable def q2A (a c : ByteArray) : Option (Int) :=
 (q1V a c).bind fun d =>
 some d
noncomputable def q3F (a : ByteArray) : (ByteArray × Int) → Option ((ByteArray × Int) ⊕ (Int)) := F7 fun c d =>
 (q2A c a).bind fun e =>
 if e = (-1) then (
 some (.inr d))
 else (
 (chk (d + 1)).bind fun _ =>
 (chk (e + (a.size : Int))).bind fun _ =>
 (z9R c (e + (a.size : Int)) (c.size : Int)).bind fun f =>
 some (.inl (f, d + 1)))
noncomputable def q3Y (c a : ByteArray) : Option (Int) :=
 if (a.size : Int) = 0 then (
 none)
 else (
 if (a.size : Int) = 1 then (
 (j2L a 0).bind fun d =>
 some (z8O c d))
 else (
 q6e (q3F a) (c, 0)))
noncomputable def J5 (h f : ByteArray) (g i : Int) : (ByteArray × Int × (List ByteArray)) → Option ((ByteArray × Int × (List ByteArray)) ⊕ (ByteArray × Int × (List ByteArray))) := q4t fun c a e =>
 if a < ((min i ((h.size : Int) + 1)) - 1) then (
 (q2A c f).bind fun d =>
 if d < 0 then (
 some (.inr (c, a, e)))
 else (
 (chk (d + g)).bind fun _ =>
 (z9R c 0 (d + g)).bind fun j =>
 (idx e a).bind fun _ =>
 (chk (d + (f.size : Int))).bind fun _ =>
 (z9R c (d + (f.size : Int)) (c.size : Int)).bind fun k =>
 (chk (a + 1)).bind fun _ =>
 some (.inl (k, a + 1, put e a j))))
 else (
 some (.inr (c, a, e)))
noncomputable def F9 (a d : ByteArray) (i e : Int) : Option ((List ByteArray)) :=
 if e = 0 then (
 some [])
 else (
 if (sEq d (ByteArray.mk #[])) = true then (
 none)
 else (
 (if e < 0 then (
 (q3Y a d).bind fun g =>
 (chk (g + 1)).bind fun _ =>
 some (g + 1))
 else (
 some e)).bind (fun f =>
 (chk ((a.size : Int) + 1)).bind fun _ =>
 (q8o 16 (min f ((a.size : Int) + 1))).bind fun j =>
 (chk ((min f ((a.size : Int) + 1)) - 1)).bind fun _ =>
 (q6e (J5 a d i f) (a, 0, List.replicate j (ByteArray.empty : ByteArray))).bind (q4t fun k c h =>
 (idx h c).bind fun _ =>
 (chk (c + 1)).bind fun _ =>
 (z5g (put h c k) 0 (c + 1)).bind fun l =>
 some l))))
noncomputable def V9 (a c : ByteArray) : Option ((List ByteArray)) :=
 (F9 a c 0 (-1)).bind fun d =>
 some d
noncomputable def G2 (c : List ByteArray) (d : Nat) : ((List (List ByteArray))) → Option ((List (List ByteArray))) := fun a =>
 (idx c (d : Int)).bind fun e =>
 (V9 e (ByteArray.mk #[32])).bind fun f =>
 (q9e 24 (a.length + 1)).bind fun _ =>
 some (a ++ [f])
noncomputable def q2J (a : ByteArray) : Option (Bool × (List (List ByteArray))) :=
 if (sEq a (ByteArray.mk #[])) = true then (
 some (true, []))
 else (
 (q1W a (ByteArray.mk #[10])).bind (F7 fun d e =>
 (V9 d (ByteArray.mk #[10])).bind fun c =>
 (q2K (G2 c) c.length 0 ([] : List (List ByteArray))).bind (fun f =>
 some (e, f))))
noncomputable def q2E (c : ByteArray) (d : Nat) : (Unit) → Option ((Unit) ⊕ (Bool)) := fun _ =>
 (idx (q0W c) (d : Int)).bind fun a =>
 (if a < 97 then (
 some true)
 else (
 some (decide (122 < a)))).bind (fun e =>
 if e = true then (
 some (.inr false))
 else (
 some (.inl ())))
noncomputable def q4F (a : ByteArray) : Option (Bool) :=
 (chk (a.size : Int)).bind fun _ =>
 (forM (q2E a) ((q0W a).length) 0 ()).bind fun t => Sum.elim (fun _ =>
 (if 1 ≤ (a.size : Int) then (
 some (decide ((a.size : Int) ≤ 12)))
 else (
 some false)).bind (fun c =>
 some c)) (fun q => some q) t
noncomputable def q1i (c : List ByteArray) (d : ByteArray) (a : Nat) : (Unit) → Option ((Unit) ⊕ (Int)) := fun _ =>
 (idx c (a : Int)).bind fun e =>
 if (sEq d e) = true then (
 some (.inr (a : Int)))
 else (
 some (.inl ()))
noncomputable def q3i (a : List ByteArray) (c : ByteArray) : Option (Int) :=
 (forM (q1i a c) a.length 0 ()).bind fun t => Sum.elim (fun _ =>
 some (-1)) (fun q => some q) t
noncomputable def q0x (a : List ByteArray) (c : ByteArray) : Option (Bool) :=
 (q3i a c).bind fun d =>
 some (decide (0 ≤ d))
noncomputable def q2S (a : Int) : Option (Int) :=
 if a = 1 then (
 some 2)
 else (
 if a = 2 then (
 some 3)
 else (
 if a = 3 then (
 some 4)
 else (
 some 0)))
noncomputable def J3 (a c d : Int) : Option (Bool) :=
 (if c ≤ a then (
 some (decide (a ≤ d)))
 else (
 some false)).bind (fun e =>
 some e)
noncomputable def G4 (a : j3) (c : Int) : Option (Int) :=
 (q2S a.Kind).bind fun d =>
 if d = 0 then (
 some 1)
 else (
 ((J3 a.Length 10 3000).bind fun e =>
 if e = true then (
 (J3 a.Grade (-40) 40).bind fun f =>
 if f = true then (
 (J3 a.Speed 300 6000).bind fun g =>
 some (!g))
 else (
 some true))
 else (
 some true)).bind (fun h =>
 if h = true then (
 some 2)
 else (
 (if a.Kind = 2 then (
 (J3 a.Slow 300 a.Speed).bind fun i =>
 if i = true then (
 if a.Kind = 1 then (
 (J3 a.Station 0 c).bind fun j =>
 some (!j))
 else (
 some false))
 else (
 some true))
 else (
 if a.Kind = 1 then (
 (J3 a.Station 0 c).bind fun k =>
 some (!k))
 else (
 some false))).bind (fun l =>
 if l = true then (
 some 2)
 else (
 (if a.Slow ≠ 0 then (
 if a.Kind = 2 then (
 if a.Station ≠ 0 then (
 if a.Kind = 1 then (
 if a.Grade ≠ 0 then (
 some (decide (a.Kind = 3)))
 else (
 some false))
 else (
 some true))
 else (
 if a.Grade ≠ 0 then (
 some (decide (a.Kind = 3)))
 else (
 some false)))
 else (
 some true))
 else (
 if a.Station ≠ 0 then (
 if a.Kind = 1 then (
 if a.Grade ≠ 0 then (
 some (decide (a.Kind = 3)))
 else (
 some false))
 else (
 some true))
 else (
 if a.Grade ≠ 0 then (
 some (decide (a.Kind = 3)))
 else (
 some false)))).bind (fun m =>
 if m = true then (
 some 1)
 else (
 some 0)))))))
noncomputable def q4a (a : j1) (c : j8) : Option (Bool) :=
 ((chk ((a.Sections.length : Int) - 1)).bind fun _ =>
 (J3 c.section_ 0 ((a.Sections.length : Int) - 1)).bind fun e =>
 if e = true then (
 (idx a.Sections c.section_).bind fun f =>
 (q2S f.Kind).bind fun d =>
 (chk (d - 1)).bind fun _ =>
 (J3 c.end_ 0 (d - 1)).bind fun g =>
 some g)
 else (
 some false)).bind (fun h =>
 some h)
noncomputable def q4G (a : Int) : Option (Bool) :=
 some (decide (a ≠ a))
noncomputable def V3 (a c : Int) : Option (Int) :=
 (q4G a).bind fun e =>
 (q4G c).bind fun d =>
 if e = true then (
 if d = true then (
 some 0)
 else (
 some (-1)))
 else (
 if d = true then (
 some 1)
 else (
 if a < c then (
 some (-1))
 else (
 if c < a then (
 some 1)
 else (
 some 0))))
noncomputable def q5f (c : List Int) (d : Nat) : (Unit) → Option ((Unit) ⊕ (Int)) := fun _ =>
 (idx c (d : Int)).bind fun a =>
 if a ≠ 0 then (
 some (.inr a))
 else (
 some (.inl ()))
noncomputable def q6d (a : List Int) : Option (Int) :=
 (forM (q5f a) a.length 0 ()).bind fun t => Sum.elim (fun _ =>
 some 0) (fun q => some q) t
noncomputable def p5 (c : j1) (d : Nat) : ((List (j8 × Bool))) → Option (((List (j8 × Bool))) ⊕ (Int)) := fun e =>
 (idx c.Links (d : Int)).bind fun a =>
 (some ()).bind (fun _ =>
 ((q4a c (⟨a.A, a.EndA⟩ : j8)).bind fun g =>
 if g = true then (
 (q4a c (⟨a.B, a.EndB⟩ : j8)).bind fun h =>
 some (!h))
 else (
 some true)).bind (fun i =>
 if i = true then (
 some (.inr 3))
 else (
 if a.A = a.B then (
 some (.inr 1))
 else (
 if a.B < a.A then (
 some (.inr 5))
 else (
 (if 0 < (d : Int) then (
 (chk ((d : Int) - 1)).bind fun _ =>
 (idx c.Links ((d : Int) - 1)).bind fun f =>
 ((V3 f.A a.A).bind fun j =>
 (V3 f.EndA a.EndA).bind fun k =>
 (q6d [j, k]).bind fun l =>
 some (decide (0 ≤ l))).bind (fun m =>
 if m = true then (
 some (.inr (.inr 5)))
 else (
 some (.inl ()))))
 else (
 some (.inl ()))).bind fun t => Sum.elim (fun _ =>
 ((some (q1e e (⟨a.A, a.EndA⟩ : j8) false)).bind fun n =>
 if n = true then (
 some true)
 else (
 (some (q1e e (⟨a.B, a.EndB⟩ : j8) false)).bind fun o =>
 some o)).bind (fun p =>
 if p = true then (
 some (.inr 6))
 else (
 some (.inl (V7 (V7 e (⟨a.A, a.EndA⟩ : j8) true) (⟨a.B, a.EndB⟩ : j8) true))))) (fun q => some q) t)))))
noncomputable def q0C (a : j1) : Option (Int) :=
 (forM (p5 a) a.Links.length 0 (([] : List (j8 × Bool)) : List (j8 × Bool))).bind fun t => Sum.elim (fun _ =>
 some 0) (fun q => some q) t
noncomputable def q0B (d : j1) (c : j8) (e : Nat) : (Unit) → Option ((Unit) ⊕ (Int × Int × Bool)) := fun _ =>
 (idx d.Links (e : Int)).bind fun a =>
 (if a.A = c.section_ then (
 some (decide (a.EndA = c.end_)))
 else (
 some false)).bind (fun f =>
 if f = true then (
 some (.inr (a.B, a.EndB, true)))
 else (
 (if a.B = c.section_ then (
 some (decide (a.EndB = c.end_)))
 else (
 some false)).bind (fun g =>
 if g = true then (
 some (.inr (a.A, a.EndA, true)))
 else (
 some (.inl ())))))
noncomputable def W8 (a : j1) (c : j8) : Option (Int × Int × Bool) :=
 (forM (q0B a c) a.Links.length 0 ()).bind fun t => Sum.elim (fun _ =>
 some (0, 0, false)) (fun q => some q) t
noncomputable def H8 (c : j1) (d : Nat) : (Unit) → Option ((Unit) ⊕ (Int)) := fun _ =>
 (idx c.Signals (d : Int)).bind fun a =>
 (q4a c (⟨a.Section, a.End⟩ : j8)).bind fun f =>
 if f = true then (
 (W8 c (⟨a.Section, a.End⟩ : j8)).bind (q4t fun _ _ g =>
 (if g = true then (
 (idx c.Sections a.Section).bind fun h =>
 some (decide (h.Kind ≠ 1)))
 else (
 some true)).bind (fun i =>
 if i = true then (
 some (.inr 1))
 else (
 if 0 < (d : Int) then (
 (chk ((d : Int) - 1)).bind fun _ =>
 (idx c.Signals ((d : Int) - 1)).bind fun e =>
 ((V3 e.Section a.Section).bind fun j =>
 (V3 e.End a.End).bind fun k =>
 (q6d [j, k]).bind fun l =>
 some (decide (0 ≤ l))).bind (fun m =>
 if m = true then (
 some (.inr 5))
 else (
 some (.inl ()))))
 else (
 some (.inl ()))))))
 else (
 some (.inr 3))
noncomputable def G3 (a : j1) : Option (Int) :=
 (forM (H8 a) a.Signals.length 0 ()).bind fun t => Sum.elim (fun _ =>
 some 0) (fun q => some q) t
noncomputable def p6 (a : j1) (c : Nat) : (Unit) → Option ((Unit) ⊕ (Int)) := fun _ =>
 (idx a.Gates (c : Int)).bind fun d =>
 (chk ((a.Sections.length : Int) - 1)).bind fun _ =>
 (J3 d.Section 0 ((a.Sections.length : Int) - 1)).bind fun e =>
 if e = true then (
 (idx a.Sections d.Section).bind fun f =>
 if f.Kind ≠ 1 then (
 some (.inr 1))
 else (
 (J3 d.Close 1 12).bind fun g =>
 if g = true then (
 (if 0 < (c : Int) then (
 (chk ((c : Int) - 1)).bind fun _ =>
 (idx a.Gates ((c : Int) - 1)).bind fun h =>
 some (decide (d.Section ≤ h.Section)))
 else (
 some false)).bind (fun i =>
 if i = true then (
 some (.inr 5))
 else (
 some (.inl ()))))
 else (
 some (.inr 2))))
 else (
 some (.inr 3))
noncomputable def q0D (a : j1) : Option (Int) :=
 (forM (p6 a) a.Gates.length 0 ()).bind fun t => Sum.elim (fun _ =>
 some 0) (fun q => some q) t
noncomputable def q1E (a : j1) (c : Nat) : (Unit) → Option ((Unit) ⊕ (Int)) := fun _ =>
 if (c : Int) = (0 : Int) then (
 (q0C a).bind fun d =>
 if d ≠ 0 then (
 some (.inr d))
 else (
 some (.inl ())))
 else (
 if (c : Int) = (1 : Int) then (
 (G3 a).bind fun e =>
 if e ≠ 0 then (
 some (.inr e))
 else (
 some (.inl ())))
 else (
 if (c : Int) = (2 : Int) then (
 (q0D a).bind fun f =>
 if f ≠ 0 then (
 some (.inr f))
 else (
 some (.inl ())))
 else (
 none)))
noncomputable def q1F (a : j1) (d : Nat) : (Unit) → Option ((Unit) ⊕ (Int)) := fun _ =>
 (idx a.Sections (d : Int)).bind fun e =>
 (G4 e (a.Stations.length : Int)).bind fun c =>
 if c ≠ 0 then (
 some (.inr c))
 else (
 some (.inl ()))
noncomputable def q1G (a : j1) (c : Nat) : (Unit) → Option ((Unit) ⊕ (Int)) := fun _ =>
 (idx a.Stations (c : Int)).bind fun d =>
 (q4F d).bind fun e =>
 if e = true then (
 (z5g a.Stations 0 (c : Int)).bind fun f =>
 (q0x f d).bind fun g =>
 if g = true then (
 some (.inr 6))
 else (
 some (.inl ())))
 else (
 some (.inr 1))
noncomputable def X8 (a : j1) : Option (Int) :=
 if (a.Sections.length : Int) = 0 then (
 some 1)
 else (
 (if 12 < (a.Stations.length : Int) then (
 some true)
 else (
 if 60 < (a.Sections.length : Int) then (
 some true)
 else (
 if 90 < (a.Links.length : Int) then (
 some true)
 else (
 if 40 < (a.Signals.length : Int) then (
 some true)
 else (
 some (decide (8 < (a.Gates.length : Int)))))))).bind (fun c =>
 if c = true then (
 some 4)
 else (
 (forM (q1G a) a.Stations.length 0 ()).bind fun t => Sum.elim (fun _ =>
 (forM (q1F a) a.Sections.length 0 ()).bind fun t => Sum.elim (fun _ =>
 (forM (q1E a) 3 0 ()).bind fun t => Sum.elim (fun _ =>
 some 0) (fun q => some q) t) (fun q => some q) t) (fun q => some q) t)))
noncomputable def q5o (a : List (List ByteArray)) (c : Nat) : (Unit) → Option ((Unit) ⊕ ((List ByteArray) × (List j3) × (List k8) × (List j7) × (List Q1) × Int)) := fun _ =>
 (idx a (c : Int)).bind fun _ =>
 none
noncomputable def q6c (a : ByteArray) : Option ((List ByteArray) × (List j3) × (List k8) × (List j7) × (List Q1) × Int) :=
 if 20000 < (a.size : Int) then (
 some ([], [], [], [], [], 4))
 else (
 (q2J a).bind (F7 fun e c =>
 if e = true then (
 (forM (q5o c) c.length 0 ()).bind fun t => Sum.elim (fun _ =>
 (X8 (⟨[], [], [], [], []⟩ : j1)).bind fun d =>
 if d ≠ 0 then (
 some ([], [], [], [], [], d))
 else (
 some ([], [], [], [], [], 0))) (fun q => some q) t)
 else (
 some ([], [], [], [], [], 10))))
noncomputable def G5 : Option (Bool) :=
 (q6c (ByteArray.mk #[120])).bind (j2K fun _ _ _ _ _ a =>
 some (decide (a ≠ 0)))
noncomputable def q1g (a c : Int) : Option ((List Int)) :=
 (if a = 2 then (
 some (decide (c = 0)))
 else (
 some false)).bind (fun d =>
 if d = true then (
 some [1, 2])
 else (
 if a = 2 then (
 some [0])
 else (
 some [z3c .i64 c 1])))
noncomputable def P3 (a : j1) (c : j8) : Option ((List w7)) :=
 (W8 a c).bind (q4t fun x y q => if q = true then (idx a.Sections x).bind fun p => (q1g p.Kind y).bind fun o => some (o.map fun k => (⟨x, y, k⟩ : w7)) else some [])
noncomputable def q2D (a : w7) (c : Int) : Option (Bool) :=
 some (decide (a.Section = c))
noncomputable def Y8 (c : List w7) (d : Int) (a : Nat) : (Unit) → Option ((Unit) ⊕ (Int)) := fun _ =>
 (idx c (a : Int)).bind fun e =>
 (q2D e d).bind fun f =>
 if f = true then (
 some (.inr (a : Int)))
 else (
 some (.inl ()))
noncomputable def q1j (a : List w7) (c : Int) : Option (Int) :=
 (forM (Y8 a c) a.length 0 ()).bind fun t => Sum.elim (fun _ =>
 some (-1)) (fun q => some q) t
noncomputable def F2 (a : List w7) (c : Int) : Option (Bool) :=
 (q1j a c).bind fun d =>
 some (decide (0 ≤ d))
noncomputable def V0 (a : List w7) (c : Int) : Option (Bool) :=
 (F2 a c).bind fun d =>
 some d
noncomputable def X7 (_ : List ByteArray) (_ : List j3) (_ : List k8) (_ : List j7) (_ : List Q1) (a : Int) (c : Bool) (_ : List z8) : Option (Int × Bool) :=
 (chk (a + 1)).bind fun _ =>
 if c = true then (
 some (a + 1, true))
 else (
 some (a + 1, decide (80 < (a + 1))))
noncomputable def q2o (a : List w7) : Option ((List w7)) :=
 (q9e 24 a.length).bind fun _ => some a
noncomputable def q0f (e : List j7) (a : j7) (c : Nat) : (Unit) → Option ((Unit) ⊕ (Int)) := fun _ =>
 (idx e (c : Int)).bind fun d =>
 if a.Section = d.Section ∧ a.End = d.End then (
 some (.inr (c : Int)))
 else (
 some (.inl ()))
noncomputable def q2c (a : List j7) (c : j7) : Option (Int) :=
 (forM (q0f a c) a.length 0 ()).bind fun t => Sum.elim (fun _ =>
 some (-1)) (fun q => some q) t
noncomputable def H3 (c : j1) (a : j8) : Option (Int) :=
 (q2c c.Signals (⟨a.section_, a.end_⟩ : j7)).bind fun d =>
 some d
noncomputable def Z0 (l : Int) (m : List w7) (d : List ByteArray) (e : List j3) (f : List k8) (g : List j7) (h : List Q1) (q : Int) (rcmLineFinderGrow : (Int) → ((List w7)) → (j8) → ((List ByteArray)) → ((List j3)) → ((List k8)) → ((List j7)) → ((List Q1)) → (Int) → (Bool) → ((List z8)) → Option (Int × Bool × (List z8))) (a : w7) : (Int × Bool × (List z8)) → Option ((Int × Bool × (List z8)) ⊕ (Int × Bool × (List z8))) := q4t fun i j c =>
 if j = true then (
 some (.inr (i, j, c)))
 else (
 (if a.Section = q then (
 some true)
 else (
 (V0 m a.Section).bind fun r =>
 some r)).bind (fun s =>
 if s = true then (
 (X7 d e f g h i j c).bind (F7 fun t u =>
 some (.inr (t, u, c))))
 else (
 ((q2o m).bind fun n =>
 (q9e 24 (n.length + 1)).bind fun _ =>
 some (n ++ [a])).bind (fun k =>
 if 16 < (k.length : Int) then (
 some (.inr (i, true, c)))
 else (
 (H3 (⟨d, e, f, g, h⟩ : j1) (⟨a.Section, a.Out⟩ : j8)).bind fun o =>
 ((W8 (⟨d, e, f, g, h⟩ : j1) (⟨a.Section, a.Out⟩ : j8)).bind (q4t fun _ _ v =>
 some v)).bind (fun w =>
 (if w = true then (
 some (decide (o < 0)))
 else (
 some false)).bind (fun x =>
 if x = true then (
 (rcmLineFinderGrow l k (⟨a.Section, a.Out⟩ : j8) d e f g h i j c).bind (q4t fun y z A =>
 some (.inl (y, z, A))))
 else (
 ((q9e 40 (c.length + 1)).bind fun _ =>
 some (c ++ [(⟨l, o, k⟩ : z8)])).bind (fun p =>
 (X7 d e f g h i j p).bind (F7 fun B C =>
 some (.inl (B, C, p))))))))))))
noncomputable def Z2 : Nat → (Int) → ((List w7)) → (j8) → ((List ByteArray)) → ((List j3)) → ((List k8)) → ((List j7)) → ((List Q1)) → (Int) → (Bool) → ((List z8)) → Option (Int × Bool × (List z8))
 | 0 => fun _ _ _ _ _ _ _ _ _ _ _ => none
 | N + 1 => fun c h i d e f a g j k l =>
 ((idx a c).bind fun m =>
 some m.Section).bind (fun n =>
 (P3 (⟨d, e, f, a, g⟩ : j1) i).bind fun o =>
 (q3K (Z0 c h d e f a g n (Z2 N)) o (j, k, l)).bind fun t => Sum.elim (q4t fun p r s =>
 some (p, r, s)) (fun q => some q) t)
noncomputable def q0o (a : j1) (c : Nat) : (Int × Bool × (List z8)) → Option (Int × Bool × (List z8)) := q4t fun e f g =>
 (idx a.Signals (c : Int)).bind fun d =>
 (lim (fun N => Z2 N (c : Int) [] (⟨d.Section, d.End⟩ : j8) a.Stations a.Sections a.Links a.Signals a.Gates e f g)).bind (q4t fun h i j =>
 some (h, i, j))
noncomputable def q1C (a : j1) : Option (Int × (List z8)) :=
 (q2K (q0o a) a.Signals.length 0 ((0, false, []) : Int × Bool × (List z8))).bind (q4t fun _ c d =>
 if c = true then (
 some (4, []))
 else (
 some (0, d)))
noncomputable def V1 (a : j1) : Option (Int × (List z8)) :=
 (X8 a).bind fun c =>
 if c ≠ 0 then (
 some (c, []))
 else (
 (q1C a).bind (F7 fun d e =>
 some (d, e)))
noncomputable def q1D (a : w7) : (Unit) → Option ((Unit) ⊕ (Int × Int × Int × Bool)) := fun _ =>
 some (.inr (a.Section, a.In, a.Out, true))
noncomputable def q0p (d : j1) (f : z8) : (Int × Int × Int × (List w7)) → Option ((Int × Int × Int × (List w7)) ⊕ ((List w7))) := z7k fun e i j c =>
 if e < 50 then (
 ((P3 d (⟨i, j⟩ : j8)).bind fun k =>
 (q3K q1D k ()).bind fun t => Sum.elim (fun _ =>
 some (0, 0, 0, false)) (fun q => some q) t).bind (z7k fun a l g m =>
 (if m = true then (
 (V0 f.Steps a).bind fun n =>
 if n = true then (
 some true)
 else (
 (V0 c a).bind fun o =>
 if o = true then (
 some true)
 else (
 (idx d.Signals f.From).bind fun p =>
 some (decide (a = p.Section)))))
 else (
 some true)).bind (fun r =>
 if r = true then (
 some (.inr c))
 else (
 (q9e 24 (c.length + 1)).bind fun _ =>
 (idx d.Sections a).bind fun h =>
 (chk (e + h.Length)).bind fun _ =>
 some (.inl (e + h.Length, a, g, c ++ [(⟨a, l, g⟩ : w7)]))))))
 else (
 some (.inr c))
noncomputable def q2q (c : j1) (a : z8) : Option ((List w7)) :=
 if a.To < 0 then (
 some [])
 else (
 ((idx c.Signals a.To).bind fun d =>
 (idx c.Signals a.To).bind fun e =>
 some (d.Section, e.End)).bind (F7 fun f g =>
 (q6e (q0p c a) ((0, f, g, []) : Int × Int × Int × (List w7))).bind (fun h =>
 some h)))
noncomputable def Y5 (c : j1) (a : w7) : Option (Int) :=
 (idx c.Sections a.Section).bind fun d =>
 if d.Kind = 2 then (
 some (max a.In a.Out))
 else (
 some 0)
noncomputable def Q9 (a : q8) (_ : List ByteArray) (_ : List j3) (_ : List k8) (_ : List j7) (_ : List Q1) (_ _ : Int) (_ _ : List w7) (c : List q8) (d : List (q8 × Bool)) : Option ((List q8) × (List (q8 × Bool))) :=
 (some (q1e d a false)).bind fun e =>
 if e = true then (
 some (c, d))
 else (
 (q9e 32 (c.length + 1)).bind fun _ =>
 some (c ++ [a], V7 d a true))
noncomputable def q0q (a : q8) (c d : Int) : Option (Bool) :=
 (if a.Kind = 3 then (
 if a.Place = c then (
 some (decide (a.Position = d)))
 else (
 some false))
 else (
 some false)).bind (fun e =>
 some e)
noncomputable def H7 (c d : Int) (e : List q8) (a : Nat) : (Unit) → Option ((Unit) ⊕ (Int)) := fun _ =>
 (idx e (a : Int)).bind fun f =>
 (q0q f c d).bind fun g =>
 if g = true then (
 some (.inr (a : Int)))
 else (
 some (.inl ()))
noncomputable def q0i (c d : Int) (a : List q8) : Option (Int) :=
 (forM (H7 c d a) a.length 0 ()).bind fun t => Sum.elim (fun _ =>
 some (-1)) (fun q => some q) t
noncomputable def Y2 (a c : Int) (d : List q8) : Option (Bool) :=
 (q0i a c d).bind fun e =>
 some (decide (0 ≤ e))
noncomputable def X1 (a c : Int) (_ : List ByteArray) (_ : List j3) (_ : List k8) (_ : List j7) (_ : List Q1) (_ _ : Int) (_ _ : List w7) (d : List q8) (_ : List (q8 × Bool)) : Option (Bool) :=
 (Y2 a c d).bind fun e =>
 some e
noncomputable def V2 (c : List ByteArray) (d : List j3) (e : List k8) (f : List j7) (g : List Q1) (h i : List w7) (a j k l m : Int) (n : List Int) (rcmLineLookerLook_1 : (j8) → (Int) → (Int) → ((List ByteArray)) → ((List j3)) → ((List k8)) → ((List j7)) → ((List Q1)) → (Int) → (Int) → ((List w7)) → ((List w7)) → ((List q8)) → ((List (q8 × Bool))) → Option ((List q8) × (List (q8 × Bool)))) (o : Nat) : ((List q8) × (List (q8 × Bool))) → Option ((List q8) × (List (q8 × Bool))) := F7 fun p q =>
 (idx n (o : Int)).bind fun r =>
 (chk (a + 1)).bind fun _ =>
 (rcmLineLookerLook_1 (⟨m, r⟩ : j8) (a + 1) j c d e f g k l h i p q).bind (F7 fun s t =>
 some (s, t))
noncomputable def Q8 : Nat → (j8) → (Int) → (Int) → ((List ByteArray)) → ((List j3)) → ((List k8)) → ((List j7)) → ((List Q1)) → (Int) → (Int) → ((List w7)) → ((List w7)) → ((List q8)) → ((List (q8 × Bool))) → Option ((List q8) × (List (q8 × Bool)))
 | 0 => fun _ _ _ _ _ _ _ _ _ _ _ _ _ _ => none
 | N + 1 => fun u r o f a g h i k n l m c d =>
 ((W8 (⟨f, a, g, h, i⟩ : j1) u).bind (q4t fun v w x =>
 some (x, v, w))).bind (q4t fun y e j =>
 (if y = true then (
 if r = 8 then (
 some true)
 else (
 (V0 l e).bind fun z =>
 if z = true then (
 some true)
 else (
 (V0 m e).bind fun A =>
 some A)))
 else (
 some true)).bind (fun B =>
 if B = true then (
 some (c, d))
 else (
 (idx a e).bind fun p =>
 ((if p.Kind = 2 then (
 some (decide (0 < j)))
 else (
 some false)).bind (fun C =>
 if C = true then (
 ((X1 e j f a g h i k n l m c d).bind fun D =>
 if D = true then (
 some (c, d))
 else (
 (chk (3 - j)).bind fun _ =>
 (Q9 (⟨3, e, 3 - j, o⟩ : q8) f a g h i k n l m c d).bind (F7 fun E F =>
 some (E, F)))).bind (F7 fun G H =>
 some (.inr (G, H))))
 else (
 if p.Kind = 1 then (
 (H3 (⟨f, a, g, h, i⟩ : j1) (⟨e, j⟩ : j8)).bind fun q =>
 if 0 ≤ q then (
 (if q ≠ k then (
 (Q9 (⟨4, q, 0, o⟩ : q8) f a g h i k n l m c d).bind (F7 fun I J =>
 some (I, J)))
 else (
 some (c, d))).bind (F7 fun K L =>
 some (.inr (K, L))))
 else (
 some (.inl ())))
 else (
 some (.inl ()))))).bind fun t => Sum.elim (fun _ =>
 (q1g p.Kind j).bind fun s =>
 (q2K (V2 f a g h i l m r o k n e s (Q8 N)) s.length 0 (c, d)).bind (F7 fun O S =>
 some (O, S))) (fun T => some T) t)))
noncomputable def K3 (e : List ByteArray) (f : List j3) (g : List k8) (h : List j7) (i : List Q1) (j k : List w7) (l m n o p q : Int) (a : Nat) : ((List q8) × (List (q8 × Bool))) → Option ((List q8) × (List (q8 × Bool))) := F7 fun c d =>
 (if (a : Int) ≠ p then (
 some (decide ((a : Int) ≠ q)))
 else (
 some false)).bind (fun r =>
 if r = true then (
 (lim (fun N => Q8 N (⟨o, (a : Int)⟩ : j8) 0 l e f g h i m n j k c d)).bind (F7 fun s t =>
 some (s, t)))
 else (
 some (c, d)))
noncomputable def H4 (c : Int) (h : List ByteArray) (d : List j3) (i : List k8) (j : List j7) (k : List Q1) (l m : Int) (e n : List w7) (o : List q8) (p : List (q8 × Bool)) : Option ((List q8) × (List (q8 × Bool))) :=
 ((idx e c).bind fun a =>
 some (a.Section, a.In, a.Out)).bind (q4t fun f q r =>
 (idx d f).bind fun s =>
 (q2S s.Kind).bind fun g =>
 (chk g).bind fun _ =>
 (q2K (K3 h d i j k e n c l m f q r) ((g).toNat) 0 (o, p)).bind (F7 fun t u =>
 some (t, u)))
noncomputable def p8 (a : j1) (c : z8) (d : List w7) (e : Nat) : ((List q8) × (List (q8 × Bool))) → Option ((List q8) × (List (q8 × Bool))) := F7 fun f g =>
 (H4 (e : Int) a.Stations a.Sections a.Links a.Signals a.Gates c.From c.To c.Steps d f g).bind (F7 fun h i =>
 some (h, i))
noncomputable def p9 (a : j1) (c : z8) (d : List w7) (f : Nat) : ((List q8) × (List (q8 × Bool))) → Option ((List q8) × (List (q8 × Bool))) := F7 fun g h =>
 (idx d (f : Int)).bind fun e =>
 (Y5 a e).bind fun i =>
 (Q9 (⟨2, e.Section, i, (-1)⟩ : q8) a.Stations a.Sections a.Links a.Signals a.Gates c.From c.To c.Steps d g h).bind (F7 fun j k =>
 some (j, k))
noncomputable def G0 (a : j1) (c : z8) (f : List w7) (d : Nat) : ((List q8) × (List (q8 × Bool))) → Option ((List q8) × (List (q8 × Bool))) := F7 fun g h =>
 (idx c.Steps (d : Int)).bind fun e =>
 (Y5 a e).bind fun i =>
 (Q9 (⟨1, e.Section, i, (d : Int)⟩ : q8) a.Stations a.Sections a.Links a.Signals a.Gates c.From c.To c.Steps f g h).bind (F7 fun j k =>
 some (j, k))
noncomputable def G1 (c : j1) (a : z8) : Option ((List q8)) :=
 ((q2q c a).bind fun e =>
 some (e, ([] : List (q8 × Bool)))).bind (F7 fun d f =>
 (q2K (G0 c a d) a.Steps.length 0 (([], f) : (List q8) × (List (q8 × Bool)))).bind (F7 fun g h =>
 (q2K (p9 c a d) d.length 0 (g, h)).bind (F7 fun i j =>
 (q2K (p8 c a d) a.Steps.length 0 (i, j)).bind (F7 fun k l =>
 (Q9 (⟨5, a.From, 0, (-1)⟩ : q8) c.Stations c.Sections c.Links c.Signals c.Gates a.From a.To a.Steps d k l).bind (F7 fun m _ =>
 some m)))))
noncomputable def q0A (a : q8) : Option (Bool) :=
 (if a.Kind = 1 then (
 some true)
 else (
 some (decide (a.Kind = 2)))).bind (fun c =>
 some c)
noncomputable def K6 (c a : q8) : Option (Bool) :=
 (if c.Kind = 3 then (
 if a.Kind = 3 then (
 some (decide (c.Position ≠ a.Position)))
 else (
 (q0A a).bind fun d =>
 if d = true then (
 some (decide (c.Position ≠ a.Position)))
 else (
 some false)))
 else (
 some false)).bind (fun e =>
 some e)
noncomputable def K5 (a c : q8) : Option (Bool) :=
 (if a.Kind = 4 then (
 some (decide (c.Kind = 5)))
 else (
 some false)).bind (fun d =>
 some d)
noncomputable def q0U (a c : q8) : Option (Bool) :=
 if a.Place ≠ c.Place then (
 some false)
 else (
 ((q0A a).bind fun d =>
 if d = true then (
 (q0A c).bind fun e =>
 if e = true then (
 some true)
 else (
 (K6 a c).bind fun f =>
 if f = true then (
 some true)
 else (
 (K6 c a).bind fun g =>
 if g = true then (
 some true)
 else (
 (K5 a c).bind fun h =>
 if h = true then (
 some true)
 else (
 (K5 c a).bind fun i =>
 some i)))))
 else (
 (K6 a c).bind fun j =>
 if j = true then (
 some true)
 else (
 (K6 c a).bind fun k =>
 if k = true then (
 some true)
 else (
 (K5 a c).bind fun l =>
 if l = true then (
 some true)
 else (
 (K5 c a).bind fun m =>
 some m))))).bind (fun n =>
 some n))
noncomputable def q2F (a : q8) (c d e f : Int) : Option (Bool) :=
 (q0U (⟨c, d, e, f⟩ : q8) a).bind fun g =>
 some g
noncomputable def q0b (c : List q8) (d e f g : Int) (a : Nat) : (Unit) → Option ((Unit) ⊕ (Int)) := fun _ =>
 (idx c (a : Int)).bind fun h =>
 (q2F h d e f g).bind fun i =>
 if i = true then (
 some (.inr (a : Int)))
 else (
 some (.inl ()))
noncomputable def q0g (a : List q8) (c d e f : Int) : Option (Int) :=
 (forM (q0b a c d e f) a.length 0 ()).bind fun t => Sum.elim (fun _ =>
 some (-1)) (fun q => some q) t
noncomputable def Y0 (a : List q8) (c d e f : Int) : Option (Bool) :=
 (q0g a c d e f).bind fun g =>
 some (decide (0 ≤ g))
noncomputable def q2R (a : q8) (c : List q8) : Option (Bool) :=
 (Y0 c a.Kind a.Place a.Position a.At).bind fun d =>
 some d
noncomputable def q0c (c d : List q8) (a : Nat) : (Unit) → Option ((Unit) ⊕ (Int)) := fun _ =>
 (idx c (a : Int)).bind fun e =>
 (q2R e d).bind fun f =>
 if f = true then (
 some (.inr (a : Int)))
 else (
 some (.inl ()))
noncomputable def q0h (a c : List q8) : Option (Int) :=
 (forM (q0c a c) a.length 0 ()).bind fun t => Sum.elim (fun _ =>
 some (-1)) (fun q => some q) t
noncomputable def Y1 (a c : List q8) : Option (Bool) :=
 (q0h a c).bind fun d =>
 some (decide (0 ≤ d))
noncomputable def q3I (a c : List q8) : Option (Bool) :=
 (Y1 a c).bind fun d =>
 some d
noncomputable def P4 (c d : Nat) : ((List W7)) → Option ((List W7)) := fun a =>
 (if (c : Int) ≠ (d : Int) then (
 (idx a (c : Int)).bind fun f =>
 (idx a (d : Int)).bind fun g =>
 (q3I f.Needs g.Needs).bind fun h =>
 some h)
 else (
 some false)).bind (fun i =>
 if i = true then (
 (idx a (c : Int)).bind fun e =>
 (q9e 8 (e.Clashes.length + 1)).bind fun _ =>
 (idx a (c : Int)).bind fun _ =>
 some (put a (c : Int) (⟨e.Needs, e.Clashes ++ [(d : Int)]⟩ : W7)))
 else (
 some a))
noncomputable def q1k (c : Nat) : ((List W7)) → Option ((List W7)) := fun a =>
 (q2K (P4 c) a.length 0 a).bind (fun d =>
 some d)
noncomputable def q1l (d : j1) (e : List z8) (a : Nat) : ((List W7)) → Option ((List W7)) := fun c =>
 (idx e (a : Int)).bind fun f =>
 (G1 d f).bind fun g =>
 (idx c (a : Int)).bind fun h =>
 some (put c (a : Int) (⟨g, h.Clashes⟩ : W7))
noncomputable def q3H (c : j1) : Option (Int × (List W7)) :=
 (V1 c).bind (F7 fun d a =>
 if d ≠ 0 then (
 some (d, []))
 else (
 (q8o 48 (a.length : Int)).bind fun f =>
 (q2K (q1l c a) a.length 0 (List.replicate f ((⟨([] : List q8), ([] : List Int)⟩ : W7) : W7) : List W7)).bind (fun e =>
 (q2K q1k e.length 0 e).bind (fun g =>
 some (0, g)))))
noncomputable def q2h (a : List ByteArray) : Option ((List ByteArray)) :=
 (q9e 16 a.length).bind fun _ => some a
noncomputable def q2g (a : List j3) : Option ((List j3)) :=
 (q9e 56 a.length).bind fun _ => some a
noncomputable def q2f (a : List k8) : Option ((List k8)) :=
 (q9e 32 a.length).bind fun _ => some a
noncomputable def q2e (a : List j7) : Option ((List j7)) :=
 (q9e 16 a.length).bind fun _ => some a
noncomputable def q2d (a : List Q1) : Option ((List Q1)) :=
 (q9e 16 a.length).bind fun _ => some a
noncomputable def q6a (a : j1) : Option ((List ByteArray) × (List j3) × (List k8) × (List j7) × (List Q1)) :=
 ((q2h a.Stations).bind fun c =>
 (q2g a.Sections).bind fun d =>
 (q2f a.Links).bind fun e =>
 (q2e a.Signals).bind fun f =>
 (q2d a.Gates).bind fun g =>
 some (c, d, e, f, g)).bind (z8G fun h i j k l =>
 some (h, i, j, k, l))
noncomputable def q3Z (c : List Int) (a : List z8) (d : Nat) : (Unit) → Option ((Unit) ⊕ (Int × (List z8))) := fun _ =>
 (idx c (d : Int)).bind fun e =>
 (chk ((a.length : Int) - 1)).bind fun _ =>
 (J3 e 0 ((a.length : Int) - 1)).bind fun f =>
 if f = true then (
 some (.inl ()))
 else (
 some (.inr (3, [])))
noncomputable def q4E (e : j1) (a : List Int) : Option (Int × (List z8)) :=
 (V1 e).bind (F7 fun c d =>
 if c ≠ 0 then (
 some (c, []))
 else (
 (forM (q3Z a d) a.length 0 ()).bind fun t => Sum.elim (fun _ =>
 some (0, d)) (fun q => some q) t))
noncomputable def q3j (a : j1) (c : Int) : Option (Int × (List q8)) :=
 (q4E a [c]).bind (F7 fun d e =>
 if d ≠ 0 then (
 some (d, []))
 else (
 (idx e c).bind fun f =>
 (G1 a f).bind fun g =>
 some (0, g)))
noncomputable def q2B (c : j1) (d : Nat) : ((List (List q8))) → Option ((List (List q8))) := fun a =>
 (q3j c (d : Int)).bind (F7 fun _ e =>
 (q9e 24 (a.length + 1)).bind fun _ =>
 some (a ++ [e]))
noncomputable def q2C (c : Nat) : ((List q9)) → Option ((List q9)) := fun d =>
 (idx d (c : Int)).bind fun a =>
 some (put d (c : Int) (⟨a.axles, a.disturbed, 1, a.moving, a.failed⟩ : q9))
noncomputable def q6b (a : j1) : Option ((List ByteArray) × (List j3) × (List k8) × (List j7) × (List Q1) × (List z8) × (List (List q8)) × (List q9) × (List z6) × LK × LA) :=
 (X8 a).bind fun e =>
 if e ≠ 0 then (
 none)
 else (
 (V1 a).bind (F7 fun f c =>
 if f ≠ 0 then (
 none)
 else (
 ((q6a a).bind (z8G fun g h i j k =>
 (q8o 40 (a.Sections.length : Int)).bind fun l =>
 (q8o 16 (a.Gates.length : Int)).bind fun m =>
 some (g, h, i, j, k, List.replicate l ((⟨0, false, 0, 0, false⟩ : q9) : q9), List.replicate m ((⟨0, false, false⟩ : z6) : z6), ([] : LK), ([] : LA)))).bind (j2Z fun n o p q r d s t u =>
 (q2K q2C d.length 0 d).bind (fun v =>
 (q2K (q2B a) c.length 0 ([] : List (List q8))).bind (fun w =>
 some (n, o, p, q, r, c, w, v, s, t, u)))))))
noncomputable def X0 (a : Int) (_ : List ByteArray) (_ : List j3) (_ : List k8) (_ : List j7) (_ : List Q1) (c : List z8) (_ : List (List q8)) (_ : List q9) (_ : List z6) (_ : LK) (_ : LA) : Option (Bool) :=
 (if 0 ≤ a then (
 some (decide (a < (c.length : Int))))
 else (
 some false)).bind (fun d =>
 some d)
noncomputable def q1f (a : List q8) : Option ((List q8)) :=
 (q9e 32 a.length).bind fun _ => some a
noncomputable def q2j (a : q8) : Option (Bool) :=
 some (decide (a.Kind = 2))
noncomputable def q1M (c : List q8) (a : Nat) : (Unit) → Option ((Unit) ⊕ (Int)) := fun _ =>
 (idx c (a : Int)).bind fun d =>
 (q2j d).bind fun e =>
 if e = true then (
 some (.inr (a : Int)))
 else (
 some (.inl ()))
noncomputable def q1A (a : List q8) : Option (Int) :=
 (forM (q1M a) a.length 0 ()).bind fun t => Sum.elim (fun _ =>
 some (-1)) (fun q => some q) t
noncomputable def q1N  : (Int × Int × (List q8)) → Option ((Int × Int × (List q8)) ⊕ (Int × (List q8))) := q4t fun a d c =>
 if d < (c.length : Int) then (
 ((idx c d).bind fun e =>
 (q2j e).bind fun f =>
 if f = true then (
 some (a, c))
 else (
 (idx c a).bind fun _ =>
 (chk (a + 1)).bind fun _ =>
 some (a + 1, put c a e))).bind (F7 fun g h =>
 (chk (d + 1)).bind fun _ =>
 some (.inl (g, d + 1, h))))
 else (
 some (.inr (a, c)))
noncomputable def q1Y (c : List q8) : Option ((List q8)) :=
 (q1A c).bind fun a =>
 if a = (-1) then (
 some c)
 else (
 ((chk (a + 1)).bind fun _ =>
 q6e q1N (a, a + 1, c)).bind (F7 fun d e =>
 (z5g e d (e.length : Int)).bind fun _ =>
 (z5g (j0s e d ((⟨0, 0, 0, 0⟩ : q8) : q8)) 0 d).bind fun f =>
 some f))
noncomputable def P0 (a : (Option Int)) (c : q8) (d : LA) : Option (Bool) :=
 if c.Kind = 2 then (
 (a).bind fun e =>
 (Z7 d e).bind fun f =>
 some f.laps)
 else (
 if c.Kind = 5 then (
 (a).bind fun g =>
 (Z7 d g).bind fun h =>
 (idx h.seen 0).bind fun i =>
 some (!i))
 else (
 (a).bind fun j =>
 (Z7 d j).bind fun k =>
 (idx k.gone c.At).bind fun l =>
 some (!l)))
noncomputable def Y9 (d : LA) (e : Int) (f : z7) (g : Nat) : ((List q8)) → Option ((List q8)) := fun a =>
 (idx f.needs (g : Int)).bind fun c =>
 (P0 (some e) c d).bind fun h =>
 if h = true then (
 (q9e 32 (a.length + 1)).bind fun _ =>
 some (a ++ [c]))
 else (
 some a)
noncomputable def p7 (e : (Option Int)) (a : LA) : Option ((List q8)) :=
 (e).bind fun c =>
 (Z7 a c).bind fun d =>
 (q2K (Y9 a c d) d.needs.length 0 ([] : List q8)).bind (fun f =>
 some f)
noncomputable def q0T (a : q8) (c d e f : Int) : Option (Bool) :=
 (q0U a (⟨c, d, e, f⟩ : q8)).bind fun g =>
 some g
noncomputable def q0a (c d e : Int) (f : List q8) (g : Int) (a : Nat) : (Unit) → Option ((Unit) ⊕ (Int)) := fun _ =>
 (idx f (a : Int)).bind fun h =>
 (q0T h c d e g).bind fun i =>
 if i = true then (
 some (.inr (a : Int)))
 else (
 some (.inl ()))
noncomputable def q1z (c d e f : Int) (a : List q8) : Option (Int) :=
 (forM (q0a c d e a f) a.length 0 ()).bind fun t => Sum.elim (fun _ =>
 some (-1)) (fun q => some q) t
noncomputable def X9 (a c d e : Int) (f : List q8) : Option (Bool) :=
 (q1z a c d e f).bind fun g =>
 some (decide (0 ≤ g))
noncomputable def J6 (e : List z8) (f : List q8) (g : LK) (h : LA) (i : Int) (j : List q8) (k : Nat) : ((Option Int)) → Option (((Option Int)) ⊕ ((Unit) ⊕ ((LK) ⊕ (Bool × LK)))) := fun l =>
 (idx j (k : Int)).bind fun a =>
 ((l).bind fun c =>
 (Z7 h c).bind fun m =>
 if a.Kind = 2 then (
 (idx e i).bind fun n =>
 some ((some c), decide (m.Route.To = n.From)))
 else (
 some ((some c), false))).bind (F7 fun d o =>
 if o = true then (
 some (.inl d))
 else (
 (X9 a.Kind a.Place a.Position a.At f).bind fun p =>
 if p = true then (
 some (.inr (.inr (.inr (true, g)))))
 else (
 some (.inl d))))
noncomputable def Y4 (e : List z8) (f : List q8) (g : LK) (a : LA) (h : Int) (c : Int × (Option Int)) : (Unit) → Option ((Unit) ⊕ ((LK) ⊕ (Bool × LK))) := fun _ =>
 (p7 c.2 a).bind fun d =>
 (forM (J6 e f g a h d) d.length 0 c.2).bind fun t => Sum.elim (fun _ =>
 some (.inl ())) (fun q => some q) t
noncomputable def q0z (c : Int) (_ : List ByteArray) (_ : List j3) (_ : List k8) (_ : List j7) (_ : List Q1) (d : List z8) (_ : List (List q8)) (e : List q8) (_ : List q9) (_ : List z6) (a : LK) (f : LA) : Option (Bool × LK) :=
 ((z5e (fun p => q3K (Y4 d e a f c) p ()) a).bind fun t => Sum.elim (fun _ =>
 some (.inl a)) (fun q => some q) t).bind fun t => Sum.elim (fun g =>
 some (false, g)) (fun h => some h) t
noncomputable def W0 (a : q9) : Option (Bool) :=
 (if 0 < a.axles then (
 some true)
 else (
 some a.disturbed)).bind (fun c =>
 some c)
noncomputable def q1p (e : LK) (a : LA) (f c : Int) (g : z7) (d : Nat) : (Unit) → Option ((Unit) ⊕ ((Unit) ⊕ ((LK) ⊕ (Int × LK)))) := fun _ =>
 (idx g.Route.Steps (d : Int)).bind fun h =>
 (if h.Section = f then (
 (Z7 a c).bind fun i =>
 (idx i.gone (d : Int)).bind fun j =>
 some (!j))
 else (
 some false)).bind (fun k =>
 if k = true then (
 (Z7 a c).bind fun l =>
 some (.inr (.inr (.inr (l.number, e)))))
 else (
 some (.inl ())))
noncomputable def H2 (e : LK) (a : LA) (f : Int) (g : Int × (Option Int)) : (Unit) → Option ((Unit) ⊕ ((LK) ⊕ (Int × LK))) := fun _ =>
 (g.2).bind fun c =>
 (Z7 a c).bind fun d =>
 (forM (q1p e a f c d) d.Route.Steps.length 0 ()).bind fun t => Sum.elim (fun _ =>
 some (.inl ())) (fun q => some q) t
noncomputable def q1B (c : Int) (_ : List ByteArray) (_ : List j3) (_ : List k8) (_ : List j7) (_ : List Q1) (_ : List z8) (_ : List (List q8)) (_ : List q9) (_ : List z6) (a : LK) (d : LA) : Option (Int × LK) :=
 ((z5e (fun p => q3K (H2 a d c) p ()) a).bind fun t => Sum.elim (fun _ =>
 some (.inl a)) (fun q => some q) t).bind fun t => Sum.elim (fun e =>
 some ((-1), e)) (fun f => some f) t
noncomputable def q0S (j : List ByteArray) (k : List j3) (l : List k8) (m : List j7) (h : List Q1) (n : List z8) (o : List (List q8)) (p : List q9) (q : LA) (c : Nat) : ((List z6) × LK) → Option ((List z6) × LK) := F7 fun d r =>
 (idx h (c : Int)).bind fun f =>
 (idx d (c : Int)).bind fun a =>
 (q1B f.Section j k l m h n o p d r q).bind (F7 fun e g =>
 if 0 ≤ e then (
 if a.wanted = true then (
 some (put d (c : Int) (⟨a.left, decide (0 ≤ e), a.failed⟩ : z6), g))
 else (
 (idx (put d (c : Int) (⟨f.Close, a.wanted, a.failed⟩ : z6)) (c : Int)).bind fun i =>
 some (put (put d (c : Int) (⟨f.Close, a.wanted, a.failed⟩ : z6)) (c : Int) (⟨i.left, decide (0 ≤ e), i.failed⟩ : z6), g)))
 else (
 some (put d (c : Int) (⟨a.left, decide (0 ≤ e), a.failed⟩ : z6), g)))
noncomputable def q0y (c : List ByteArray) (d : List j3) (e : List k8) (f : List j7) (a : List Q1) (g : List z8) (h : List (List q8)) (i : List q9) (j : List z6) (k : LK) (l : LA) : Option ((List z6) × LK) :=
 (q2K (q0S c d e f a g h i l) a.length 0 (j, k)).bind (F7 fun m n =>
 some (m, n))
noncomputable def q0k (e : z8) (f : Int × (Option Int)) : (LA) → Option ((LA) ⊕ (LK × LA)) := fun c =>
 (f.2).bind fun d =>
 (Z7 c d).bind fun a =>
 if a.Route.To = e.From then (
 some (.inl (V7 c d (⟨a.Route, a.needs, a.seen, a.gone, false, a.sight, a.leave, a.clock, a.number⟩ : z7))))
 else (
 some (.inl c))
noncomputable def Y3 (e : List q8) (f : Nat) : ((List q9)) → Option ((List q9)) := fun c =>
 (idx e (f : Int)).bind fun d =>
 if d.Position = 0 then (
 some c)
 else (
 (idx c d.Place).bind fun a =>
 (if a.position ≠ d.Position then (
 some (decide (a.moving = 0)))
 else (
 some false)).bind (fun g =>
 if g = true then (
 some (put c d.Place (⟨a.axles, a.disturbed, a.position, 5, a.failed⟩ : q9)))
 else (
 some c)))
noncomputable def q0l (c : List q9) (d : List z6) (e : LA) (f : Bool) (g : List q8) (h : LK) (i : Nat) : (Unit) → Option ((Unit) ⊕ (Int × (List q9) × (List z6) × LK × LA)) := fun _ =>
 (idx g (i : Int)).bind fun a =>
 (if f = true then (
 some false)
 else (
 if a.Kind = 1 then (
 (idx c a.Place).bind fun j =>
 (W0 j).bind fun k =>
 some k)
 else (
 if a.Kind = 2 then (
 (idx c a.Place).bind fun l =>
 (W0 l).bind fun m =>
 some m)
 else (
 some false)))).bind (fun n =>
 if n = true then (
 some (.inr (7, c, d, h, e)))
 else (
 some (.inl ())))
noncomputable def q0m (f : List q9) (g : List z6) (h : LA) (i : List q8) (j : LK) (k : Nat) : (Unit) → Option ((Unit) ⊕ (Int × (List q9) × (List z6) × LK × LA)) := fun _ =>
 (idx i (k : Int)).bind fun a =>
 if a.Position = 0 then (
 some (.inl ()))
 else (
 ((idx f a.Place).bind fun c =>
 some (c.axles, c.disturbed, c.position, c.moving, c.failed)).bind (z8G fun l m d e n =>
 ((W0 (⟨l, m, d, e, n⟩ : q9)).bind fun o =>
 if o = true then (
 if d ≠ a.Position then (
 some true)
 else (
 if 0 < e then (
 some true)
 else (
 if 0 < e then (
 some (decide (d = a.Position)))
 else (
 some false))))
 else (
 if 0 < e then (
 some (decide (d = a.Position)))
 else (
 some false))).bind (fun p =>
 if p = true then (
 some (.inr (7, f, g, j, h)))
 else (
 some (.inl ())))))
noncomputable def q0n (a : List q9) (d : List z6) (e : LA) (f : List q8) (g : LK) (h : Nat) : (Unit) → Option ((Unit) ⊕ (Int × (List q9) × (List z6) × LK × LA)) := fun _ =>
 (idx f (h : Int)).bind fun c =>
 (if 0 < c.Position then (
 (idx a c.Place).bind fun i =>
 some i.failed)
 else (
 some false)).bind (fun j =>
 if j = true then (
 some (.inr (12, a, d, g, e)))
 else (
 some (.inl ())))
noncomputable def G8 (a : Int) (i : Bool) (m : List ByteArray) (n : List j3) (o : List k8) (r : List j7) (s : List Q1) (j : List z8) (k : List (List q8)) (c : List q9) (d : List z6) (h : LK) (e : LA) : Option (Int × (List q9) × (List z6) × LK × LA) :=
 (X0 a m n o r s j k c d h e).bind fun z =>
 if z = true then (
 (some (q1e h a none)).bind fun A =>
 if A.isNone = true then (
 (idx k a).bind fun B =>
 (q1f B).bind fun u =>
 (if i = true then (
 (q1Y u).bind fun C =>
 some C)
 else (
 some u)).bind (fun f =>
 (q0z a m n o r s j k f c d h e).bind (F7 fun D g =>
 if D = true then (
 some (8, c, d, g, e))
 else (
 (forM (q0n c d e f g) f.length 0 ()).bind fun t => Sum.elim (fun _ =>
 (forM (q0m c d e f g) f.length 0 ()).bind fun t => Sum.elim (fun _ =>
 (forM (q0l c d e i f g) f.length 0 ()).bind fun t => Sum.elim (fun _ =>
 (idx j a).bind fun l =>
 ((z5e (fun p => q3K (q0k l) p e) g).bind fun t => Sum.elim (fun E =>
 some (g, E)) (fun q => some q) t).bind (F7 fun v F =>
 ((q8o 1 (l.Steps.length : Int)).bind fun G =>
 (q8o 1 (l.Steps.length : Int)).bind fun H =>
 (z1q v a).bind fun _ =>
 some (f, V7 v a (some a), V7 F a (⟨l, f, List.replicate G (false : Bool), List.replicate H (false : Bool), !i, i, 0, 0, a⟩ : z7))).bind (q4t fun w I x =>
 (q2K (Y3 w) w.length 0 c).bind (fun y =>
 (q0y m n o r s j k y d I x).bind (F7 fun J K =>
 some (0, y, J, K, x)))))) (fun q => some q) t) (fun q => some q) t) (fun q => some q) t))))
 else (
 some (6, c, d, h, e)))
 else (
 some (3, c, d, h, e))
noncomputable def q3G (_ : LK) (_ : LA) : Option (Unit) :=
 some ()
noncomputable def q0R (a : LK) (_ : LA) : Option ((List Int)) :=
 z0n a
noncomputable def q0j (c : LK) (d : List Int) (e : Nat) : ((List (Option Int))) → Option ((List (Option Int))) := fun a =>
 (idx d (e : Int)).bind fun f =>
 (some (q1e c f none)).bind fun g =>
 (q9e 8 (a.length + 1)).bind fun _ =>
 some (a ++ [g])
noncomputable def F3 (_ : List ByteArray) (_ : List j3) (_ : List k8) (_ : List j7) (_ : List Q1) (_ : List z8) (_ : List (List q8)) (_ : List q9) (_ : List z6) (a : LK) (c : LA) : Option ((List (Option Int))) :=
 (q3G a c).bind fun _ =>
 (q0R a c).bind fun d =>
 (q2K (q0j a d) d.length 0 ([] : List (Option Int))).bind (fun e =>
 some e)
noncomputable def Z8 (g : List q9) (h : LK) (e : Int) (i : z7) (c : Nat) : (LA) → Option ((LA) ⊕ (LA × LK)) := fun d =>
 (idx i.Route.Steps (c : Int)).bind fun j =>
 (Z7 d e).bind fun k =>
 (idx k.gone (c : Int)).bind fun l =>
 if l = true then (
 some (.inl d))
 else (
 ((Z7 d e).bind fun f =>
 (idx f.seen (c : Int)).bind fun m =>
 if m = true then (
 (idx g j.Section).bind fun n =>
 (W0 n).bind fun o =>
 if o = true then (
 some true)
 else (
 (chk ((c : Int) + 1)).bind fun _ =>
 if ((c : Int) + 1) < (f.Route.Steps.length : Int) then (
 (chk ((c : Int) + 1)).bind fun _ =>
 (idx f.seen ((c : Int) + 1)).bind fun p =>
 some (!p))
 else (
 some false)))
 else (
 some true)).bind (fun q =>
 if q = true then (
 some (.inr (d, h)))
 else (
 (Z7 d e).bind fun a =>
 (idx a.gone (c : Int)).bind fun _ =>
 some (.inl (V7 d e (⟨a.Route, a.needs, a.seen, put a.gone (c : Int) true, a.laps, a.sight, a.leave, a.clock, a.number⟩ : z7))))))
noncomputable def H1 (g : (Option Int)) (_ : List ByteArray) (_ : List j3) (_ : List k8) (_ : List j7) (_ : List Q1) (_ : List z8) (_ : List (List q8)) (c : LA) (h : List q9) (_ : List z6) (d : LK) : Option (LA × LK) :=
 (g).bind fun a =>
 (Z7 c a).bind fun e =>
 (forM (Z8 h d a e) e.Route.Steps.length 0 c).bind fun t => Sum.elim (fun f =>
 (Z7 f a).bind fun i =>
 some (f, q7L d i.number)) (fun q => some q) t
noncomputable def K1 (a : List ByteArray) (c : List j3) (d : List k8) (e : List j7) (f : List Q1) (g : List z8) (h : List (List q8)) (i : List q9) (j : List z6) (k : List (Option Int)) (l : Nat) : (LK × LA) → Option (LK × LA) := F7 fun m n =>
 (idx k (l : Int)).bind fun o =>
 (H1 o a c d e f g h n i j m).bind (F7 fun p q =>
 some (q, p))
noncomputable def Z5 (g : List (Option Int)) (h : Nat) : (LA) → Option (LA) := fun c =>
 (idx g (h : Int)).bind fun i =>
 ((i).bind fun e =>
 (Z7 c e).bind fun d =>
 (chk ((d.seen.length : Int) - 1)).bind fun _ =>
 (idx d.seen ((d.seen.length : Int) - 1)).bind fun j =>
 if j = true then (
 some ((some e), d.laps))
 else (
 some ((some e), false))).bind (F7 fun k l =>
 if l = true then (
 (k).bind fun f =>
 (Z7 c f).bind fun a =>
 (chk (a.clock + 1)).bind fun _ =>
 if (a.clock + 1) = 60 then (
 some (V7 c f (⟨a.Route, a.needs, a.seen, a.gone, false, a.sight, a.leave, a.clock + 1, a.number⟩ : z7)))
 else (
 some (V7 c f (⟨a.Route, a.needs, a.seen, a.gone, a.laps, a.sight, a.leave, a.clock + 1, a.number⟩ : z7))))
 else (
 some c))
noncomputable def K2 (f : List (Option Int)) (g : Nat) : (LK × LA) → Option (LK × LA) := F7 fun d c =>
 (idx f (g : Int)).bind fun h =>
 (h).bind fun e =>
 (Z7 c e).bind fun a =>
 if a.leave = 0 then (
 some (d, c))
 else (
 (chk (a.leave - 1)).bind fun _ =>
 if (a.leave - 1) = 0 then (
 some (q7L d a.number, V7 c e (⟨a.Route, a.needs, a.seen, a.gone, a.laps, a.sight, a.leave - 1, a.clock, a.number⟩ : z7)))
 else (
 some (d, V7 c e (⟨a.Route, a.needs, a.seen, a.gone, a.laps, a.sight, a.leave - 1, a.clock, a.number⟩ : z7))))
noncomputable def J0 (d : Nat) : ((List z6)) → Option ((List z6)) := fun c =>
 (idx c (d : Int)).bind fun a =>
 (if a.wanted = true then (
 if 0 < a.left then (
 some (!a.failed))
 else (
 some false))
 else (
 some false)).bind (fun e =>
 if e = true then (
 (chk (a.left - 1)).bind fun _ =>
 some (put c (d : Int) (⟨a.left - 1, a.wanted, a.failed⟩ : z6)))
 else (
 some c))
noncomputable def J1 (d : Nat) : ((List q9)) → Option ((List q9)) := fun e =>
 (idx e (d : Int)).bind fun a =>
 (if a.moving = 0 then (
 some true)
 else (
 some a.failed)).bind (fun f =>
 if f = true then (
 some e)
 else (
 (chk (a.moving - 1)).bind fun _ =>
 (idx (put e (d : Int) (⟨a.axles, a.disturbed, a.position, a.moving - 1, a.failed⟩ : q9)) (d : Int)).bind fun c =>
 if c.moving = 0 then (
 (chk (3 - c.position)).bind fun _ =>
 some (put (put e (d : Int) (⟨a.axles, a.disturbed, a.position, a.moving - 1, a.failed⟩ : q9)) (d : Int) (⟨c.axles, c.disturbed, 3 - c.position, c.moving, c.failed⟩ : q9)))
 else (
 some (put e (d : Int) (⟨a.axles, a.disturbed, a.position, a.moving - 1, a.failed⟩ : q9)))))
noncomputable def P6 (c : List ByteArray) (d : List j3) (e : List k8) (f : List j7) (g : List Q1) (h : List z8) (i : List (List q8)) (l : List q9) (m : List z6) (n : LK) (o : LA) : Option ((List q9) × (List z6) × LK × LA) :=
 (q2K J1 l.length 0 l).bind (fun a =>
 (q2K J0 m.length 0 m).bind (fun j =>
 (F3 c d e f g h i a j n o).bind fun p =>
 (q2K (K2 p) p.length 0 (n, o)).bind (F7 fun k q =>
 (F3 c d e f g h i a j k q).bind fun r =>
 (q2K (Z5 r) r.length 0 q).bind (fun s =>
 (F3 c d e f g h i a j k s).bind fun t =>
 (q2K (K1 c d e f g h i a j t) t.length 0 (k, s)).bind (F7 fun v u =>
 (q0y c d e f g h i a j v u).bind (F7 fun w x =>
 some (a, w, x, u)))))))
noncomputable def q1y (c : List Int) (d : Int) (a : Nat) : (Unit) → Option ((Unit) ⊕ (Int)) := fun _ =>
 (idx c (a : Int)).bind fun e =>
 if d = e then (
 some (.inr (a : Int)))
 else (
 some (.inl ()))
noncomputable def q3w (a : List Int) (c : Int) : Option (Int) :=
 (forM (q1y a c) a.length 0 ()).bind fun t => Sum.elim (fun _ =>
 some (-1)) (fun q => some q) t
noncomputable def K7 (a : List Int) (c : Int) : Option (Bool) :=
 (q3w a c).bind fun d =>
 some (decide (0 ≤ d))
noncomputable def q2i (_ : List ByteArray) (_ : List j3) (_ : List k8) (_ : List j7) (_ : List Q1) (_ : List z8) (_ : List (List q8)) (_ : List q9) (_ : List z6) (a : LK) (c : LA) : Option ((List Int)) :=
 (q3G a c).bind fun _ =>
 (q0R a c).bind fun d =>
 some d
noncomputable def q2p (a : Int) (f : List ByteArray) (g : List j3) (h : List k8) (i : List j7) (j : List Q1) (k : List z8) (l : List (List q8)) (m : List q9) (n : List z6) (c : LK) (d : LA) : Option (Int × (List q8)) :=
 (X0 a f g h i j k l m n c d).bind fun o =>
 if o = true then (
 (some (q1e c a none)).bind fun e =>
 if e.isNone = true then (
 some (0, []))
 else (
 (p7 e d).bind fun p =>
 some (0, p)))
 else (
 some (3, []))
noncomputable def F4 (e : List ByteArray) (f : List j3) (g : List k8) (h : List j7) (i : List Q1) (j : List z8) (k : List (List q8)) (l : List q9) (m : List z6) (n : LK) (o : LA) (p : List Int) (a : Nat) : ((List (List q8))) → Option (((List (List q8))) ⊕ (Bool × (List (List q8)))) := fun c =>
 (q2p (a : Int) e f g h i j k l m n o).bind (F7 fun q d =>
 (if q ≠ 0 then (
 some true)
 else (
 if 0 < (d.length : Int) then (
 (K7 p (a : Int)).bind fun r =>
 some (!r))
 else (
 some false))).bind (fun s =>
 if s = true then (
 some (.inr (false, [])))
 else (
 (idx c (a : Int)).bind fun _ =>
 some (.inl (put c (a : Int) d)))))
noncomputable def q1h (a : Int) (c : List ByteArray) (d : List j3) (e : List k8) (f : List j7) (g : List Q1) (h : List z8) (i : List (List q8)) (j : List q9) (k : List z6) (l : LK) (m : LA) : Option (Bool × (List (List q8))) :=
 (q8o 24 a).bind fun n =>
 (q2i c d e f g h i j k l m).bind fun o =>
 (chk a).bind fun _ =>
 (forM (F4 c d e f g h i j k l m o) ((a).toNat) 0 (List.replicate n (([] : List q8) : List q8) : List (List q8))).bind fun t => Sum.elim (fun p =>
 some (true, p)) (fun q => some q) t
noncomputable def q0E (a : List q8) (c : q8) (d : Nat) : (Unit) → Option ((Unit) ⊕ ((Unit) ⊕ ((Unit) ⊕ ((Unit) ⊕ (Bool))))) := fun _ =>
 (idx a (d : Int)).bind fun e =>
 (q0U c e).bind fun f =>
 if f = true then (
 some (.inr (.inr (.inr (.inr false)))))
 else (
 some (.inl ()))
noncomputable def q0F (c a : List q8) (d : Nat) : (Unit) → Option ((Unit) ⊕ ((Unit) ⊕ ((Unit) ⊕ (Bool)))) := fun _ =>
 (idx c (d : Int)).bind fun e =>
 (forM (q0E a e) a.length 0 ()).bind fun t => Sum.elim (fun _ =>
 some (.inl ())) (fun q => some q) t
noncomputable def q0Z (c : List (List q8)) (a : List q8) (d : Nat) : (Unit) → Option ((Unit) ⊕ ((Unit) ⊕ (Bool))) := fun _ =>
 (idx c (d : Int)).bind fun e =>
 (forM (q0F a e) a.length 0 ()).bind fun t => Sum.elim (fun _ =>
 some (.inl ())) (fun q => some q) t
noncomputable def q1a (a : List (List q8)) (c : Nat) : (Unit) → Option ((Unit) ⊕ (Bool)) := fun _ =>
 (idx a (c : Int)).bind fun e =>
 (z5g a 0 (c : Int)).bind fun d =>
 (forM (q0Z d e) d.length 0 ()).bind fun t => Sum.elim (fun _ =>
 some (.inl ())) (fun q => some q) t
noncomputable def q0G (a : List (List q8)) : Option (Bool) :=
 (forM (q1a a) a.length 0 ()).bind fun t => Sum.elim (fun _ =>
 some true) (fun q => some q) t
noncomputable def q1X (e f : List q8) (d : Nat) : (Unit) → Option ((Unit) ⊕ (Bool)) := fun _ =>
 (idx e (d : Int)).bind fun a =>
 (idx f (d : Int)).bind fun c =>
 if a.Kind = c.Kind ∧ a.Place = c.Place ∧ a.Position = c.Position ∧ a.At = c.At then (
 some (.inl ()))
 else (
 some (.inr false))
noncomputable def q1t (a c : List q8) : Option (Bool) :=
 if (a.length : Int) ≠ (c.length : Int) then (
 some false)
 else (
 (forM (q1X a c) a.length 0 ()).bind fun t => Sum.elim (fun _ =>
 some true) (fun q => some q) t)
noncomputable def H9 (a : List ByteArray) (c : List j3) (d : List k8) (e : List j7) (f : List Q1) (g : List z8) (h : List (List q8)) (_ : Nat) : ((List q9) × (List z6) × LK × LA) → Option ((List q9) × (List z6) × LK × LA) := z7k fun i j k l =>
 (P6 a c d e f g h i j k l).bind (z7k fun m n o p =>
 some (m, n, o, p))
noncomputable def V5 (r : j1) (a c : Int) : Option (Bool) :=
 (G5).bind fun y =>
 if y = true then (
 (V1 r).bind (F7 fun z d =>
 (if z ≠ 0 then (
 some true)
 else (
 if a < 0 then (
 some true)
 else (
 if (d.length : Int) ≤ a then (
 some true)
 else (
 if c < 0 then (
 some true)
 else (
 if (d.length : Int) ≤ c then (
 some true)
 else (
 some (decide (a = c)))))))).bind (fun A =>
 if A = true then (
 some true)
 else (
 ((idx d a).bind fun s =>
 (idx d c).bind fun t =>
 some (s.From, s.To, s.Steps, t.From, t.To, t.Steps)).bind (j2K fun v w _ B e _ =>
 (if 0 ≤ w then (
 if w = B then (
 some true)
 else (
 if 0 ≤ e then (
 some (decide (e = v)))
 else (
 some false)))
 else (
 if 0 ≤ e then (
 some (decide (e = v)))
 else (
 some false))).bind (fun C =>
 if C = true then (
 some true)
 else (
 (q3H r).bind (F7 fun D f =>
 (q6b r).bind (z9x fun g h i j k l m n o p q =>
 (if D ≠ 0 then (
 some (true, n, o, p, q))
 else (
 if (0 : Int) ≠ (0 : Int) then (
 some (true, n, o, p, q))
 else (
 if (f.length : Int) ≠ (d.length : Int) then (
 some (true, n, o, p, q))
 else (
 (G8 a false g h i j k l m n o p q).bind (z8G fun E F G H I =>
 some (decide (E ≠ 0), F, G, H, I)))))).bind (z8G fun J K L O S =>
 if J = true then (
 some false)
 else (
 (q2K (H9 g h i j k l m) 15 0 (K, L, O, S)).bind (z7k fun T U V W =>
 (G8 c false g h i j k l m T U V W).bind (z8G fun x X Y Z aa =>
 (idx f a).bind fun ab =>
 (K7 ab.Clashes c).bind fun ac =>
 if ac = true then (
 some (decide (x = 8)))
 else (
 if x ≠ 0 then (
 some false)
 else (
 (q1h (d.length : Int) g h i j k l m X Y Z aa).bind (F7 fun ad u =>
 (if ad = true then (
 (q0G u).bind fun ae =>
 if ae = true then (
 (idx u a).bind fun af =>
 (idx f a).bind fun ag =>
 (q1t af ag.Needs).bind fun ah =>
 if ah = true then (
 (idx u c).bind fun ai =>
 (idx f c).bind fun aj =>
 (q1t ai aj.Needs).bind fun ak =>
 some ak)
 else (
 some false))
 else (
 some false))
 else (
 some false)).bind (fun al =>
 some al)))))))))))))))))
 else (
 some false)
end Go.Proofs.YtjlollifgeggdaaGreatDoor
