import Derived.Test.YtjlollifgeggdaaGreatDoorF1
import Derived.ProofKit
import Derived.Deep.Slices
import Derived.Deep.Fields
import Derived.Test.YtjlollifgeggdaaGreatDoorF2
import Derived.ChangeSame
import Derived.SizedLaws
import Derived.Test.YtjlollifgeggdaaGreatDoorF5
import Derived.Test.YtjlollifgeggdaaGreatDoorRows
set_option linter.unusedVariables false
set_option linter.unusedSimpArgs false
set_option linter.unusedSectionVars false
namespace Go.Fp
open Go.RowKit Go.ChangeShapes Go.WideShapes Go.Deep
theorem z2F {α : Type} {Q : Nat → α → Prop} : ∀ n : Nat, (∀ i, i < n → ∃ a, Q i a) → ∃ l : List α, l.length = n ∧ ∀ i a, l[i]? = some a → Q i a
 | 0, _ => ⟨[], rfl, fun i a h => by simp at h⟩
 | n + 1, h => by
  obtain ⟨l, hl, hq⟩ := z2F n (fun i hi => h i (by omega))
  obtain ⟨a, ha⟩ := h n (by omega)
  refine ⟨l ++ [a], by simp [hl], fun i b hb => ?_⟩
  by_cases hi : i < l.length
  ·rw [List.getElem?_append_left hi] at hb
   exact hq i b hb
  ·rw [List.getElem?_append_right (by omega)] at hb
   cases hk : i - l.length with
   | zero =>
    rw [hk] at hb
    simp at hb
    subst hb
    rw [show i = n by omega]
    exact ha
   | succ k =>
    rw [hk] at hb
    simp at hb
section
variable {H : Type} {enc : TypeId × Value → H} {P : Program} {w : World} {base : Nat} {spare : Nat → Bool} {held : Bool}
end
theorem q7O {H : Type} {enc : TypeId × Value → H} {P : Program} (hl : laidOutB P = true) {W W' : World} {sp : Nat → Bool} (hb : Below W.heap.size W W') :
  ∀ (ts : List TypeId) (vs : List Value) (ds : List (DataW H)) (ps : List MemPlace), ts.all (fun t => P.readableRec t && decide (t < P.types.size)) = true → DataW.TrodAll enc P W 0 (fun _ => true) true ts vs ds ps → (∀ x ∈ ps, x.block < W.heap.size) → (∀ x ∈ ps, sp x.block = true) → DataW.TrodAll enc P W' 0 sp true ts vs ds ps
 | [], vs, ds, ps, _, h, _, _ => by
  obtain ⟨rfl, rfl, rfl⟩ := trodAll_nil h
  exact trodAll_mk0
 | t :: ts, vs, ds, ps, hr, h, hlt, hsp => by
  obtain ⟨v, vs', d, ds', p, q, rfl, rfl, rfl, h1, h2⟩ := trodAll_cons h
  simp only [List.all_cons, Bool.and_eq_true, decide_eq_true_eq] at hr
  exact ⟨p, q, WideElems.Trod_stays hl hr.1.1 hr.1.2 h1 (fun x hx => hb.same (hlt x (List.mem_append_left _ hx))) (fun x hx => hsp x (List.mem_append_left _ hx)),
   q7O hl hb ts vs' ds' q (by simpa using hr.2) h2 (fun x hx => hlt x (List.mem_append_right _ hx)) (fun x hx => hsp x (List.mem_append_right _ hx)), rfl⟩
theorem z8J {H : Type} {enc : TypeId × Value → H} {P : Program} {f : Func} {s : ChangeSpec} {apart fresh handsOn again : Bool} {W W' : World} {args : Array Value} {ds : List (DataW H)} {before : List MemPlace} {tb : TypeId}
  (hl : laidOutB P = true) (hts : f.params.toList.all (fun t => P.readableRec t && decide (t < P.types.size)) = true) (hvs : s.vars = []) (hrt : f.resultTypes = #[tb]) (htb : P.underlying tb = some .bool)
  (hW : DataW.Whole enc P f.params.toList s.vars apart W args.toList ds [] before) (hfn : s.fn H (ds ++ []) = { results := [.lit (.bool true)], args := ds }) (hb : Below W.heap.size W W') :
  s.post enc P f apart fresh handsOn again W args (.bool true) W' := by
 have hlt : ∀ p ∈ before, p.block < W.heap.size := fun p hp => hW.lt p hp
 have hold : ∀ p ∈ before, (fun b => decide (b < W.heap.size)) p.block = true := fun p hp => by simpa using hlt p hp
 have hW2 := hW
 obtain ⟨pa, pv, hA, hV, hps, hz, hn⟩ := hW2
 rw [hvs] at hV
 obtain ⟨_, rfl⟩ := trodVars_none hV
 have hres : ∀ (b : Nat) (sp : Nat → Bool) (hd : Bool), DataW.TrodAll enc P W' b sp hd f.resultTypes.toList ((Value.bool true).resultList f.resultTypes.size) (s.fn H (ds ++ [])).results [] := fun b sp hd => by
  rw [hfn, hrt]
  exact trodAll_mk1 (shut_bool htb true)
 have hargs : ∀ sp : Nat → Bool, (∀ p ∈ before, sp p.block = true) → DataW.TrodAll enc P W' 0 sp true f.params.toList args.toList (s.fn H (ds ++ [])).args pa := fun sp hsp => by
  rw [hfn]
  exact q7O hl hb _ _ _ _ hts hA (fun x hx => hlt x (by rw [hps]; simpa using hx)) (fun x hx => hsp x (by rw [hps]; simpa using hx))
 have hvars : ∀ sp : Nat → Bool, DataW.TrodVars enc P W' sp s.vars (s.fn H (ds ++ [])).vars [] := fun sp => by
  rw [hfn, hvs]
  rfl
 refine ⟨ds, [], before, [], pa, [], hW, hres _ _ _, hargs _ hold, hvars _, World.keptBut_mono (fun p hp => ⟨hp, ?_⟩) (hb.frame (· ∈ before)), fun _ => ?_⟩
 ·rw [hps, List.mem_append] at hp
  exact Or.inr hp
 ·refine ⟨ok_one hrt rfl (okWide_bool_mk htb true), _, _, ([] ++ pa) ++ [], ⟨[] ++ pa, [], trodAll_append (hargs _ (fun _ _ => rfl)) (hres _ _ _), hvars _, rfl, ?_, ?_⟩, ?_⟩
  ·intro b off hp
   have hin : MemPlace.cell b off ∈ before := by rw [hps]; simpa using hp
   rw [hb.frozen (hlt _ hin)]
   exact hz b off hin
  ·intro ha
   have := hn ha
   rw [hps] at this
   simpa using this
  ·intro p hp _
   rw [hps]
   simpa using hp
theorem z8N (W : World) : Own (W : k9) [] W := Own.start W
theorem j0n {W W' : World} {b' : k9} (hle : k9.Le (W : k9) b') (ho : Own b' [] W') : Below W.heap.size W W' := (hle.back _ _ ho).below
end Go.Fp
namespace Go.Fp
open Go.RowKit Go.ChangeShapes Go.WideShapes Go.Deep
def q5a {α : Type} (P : Program) (t : TypeId) (r : RT α) (R : α → Prop) : Prop :=
 ∀ (H : Type) (enc : TypeId × Value → H) (w : World) (base : Nat) (spare : Nat → Bool) (held : Bool) (n : Nat) (cs : List Value) (y : DataW H × List MemPlace), DataW.trod enc P w base spare held n t cs = some y → ∃ x, r.rep w cs x ∧ R x
section
variable {P : Program} {t e : TypeId}
theorem z8V {k : IntKind} (h : P.underlying t = some (.int k)) : q5a P t (RT.int k) (fun x => (Lit.int k x).wf = true) := fun H enc w base spare held n cs y hy => by
 obtain ⟨x, h1, _, h2⟩ := DataW.trod_int h hy
 exact ⟨x, h1, h2⟩
theorem j5e {x : Int} (h : (Lit.int .i64 x).wf = true) : -9223372036854775808 ≤ x ∧ x ≤ 9223372036854775807 := by
 have h1 : IntKind.i64.min = -9223372036854775808 := by decide
 have h2 : IntKind.i64.max = 9223372036854775807 := by decide
 simp only [Lit.wf, Bool.and_eq_true, decide_eq_true_eq, h1, h2] at h
 exact h
theorem z8U (h : P.underlying t = some .string) : q5a P t RT.str (fun s => s.size ≤ 9223372036854775807) := fun H enc w base spare held n cs y hy => by
 obtain ⟨s, h1, _, h2⟩ := DataW.trod_string h hy
 have hmx : maxLen = 9223372036854775807 := by decide
 exact ⟨s, h1, by omega⟩
theorem z7E (h : P.underlying t = some .bool) : q5a P t RT.bool (fun _ => True) := fun H enc w base spare held n cs y hy => by
 obtain ⟨s, h1, _⟩ := DataW.trod_bool h hy
 exact ⟨s, h1, trivial⟩
theorem q4v {β : Type} (cs : List β) (o s : Nat) : cs.drop o = (cs.drop o).take s ++ cs.drop (o + s) := by
 rw [← List.drop_drop, List.take_append_drop]
theorem z7s {H : Type} {enc : TypeId × Value → H} {w : World} {base : Nat} {spare : Nat → Bool} {held : Bool} {n : Nat} {a : Option Addr} {m c : Nat} {d : DataW H} {pl : List MemPlace} {ts : List TypeId} {ds : List (DataW H)} {j : Nat} (hu : P.underlying t = some (.slice e)) (h : DataW.trod enc P w base spare held n t [.slice a m c] = some (d, pl))
  (hz : (DataW.weightsEach P ts ds).all (· ≤ reachBytes) = true) (ht : ts[j]? = some t) (hd : ds[j]? = some d) : m * P.bytesOf e ≤ 140737488351232 := by
 rcases open_slice hu h with ⟨h1, _⟩ | ⟨a', len, cap, q, n', D, Pl, h1, _, hl, hm, hmm, hx, _⟩
 ·injection h1 with h1 _
  injection h1 with _ h1 _
  subst h1
  omega
 ·injection h1 with h1 _
  injection h1 with _ h1 _
  subst h1
  injection hx with hx _
  subst hx
  have h2 := sized_slice hz ht hd hu
  simp only [List.length_map, List.length_range] at h2
  have h3 : reachBytes = 140737488351232 := by decide
  have h4 : m * P.bytesOf e ≤ (m + (q - m)) * P.bytesOf e := Nat.mul_le_mul_right _ (by omega)
  omega
theorem q4f {α : Type} {r : RT α} {R : α → Prop} (ht : P.underlying t = some (.slice e)) (hc : P.cellsOf e = r.sz) (he : q5a P e r R) : q5a P t (RT.list r) (fun l => l.length ≤ 9223372036854775807 ∧ ∀ a ∈ l, R a) := fun H enc w base spare held n cs y hy => by
 have hmx : maxLen = 9223372036854775807 := by decide
 rcases open_slice ht hy with ⟨rfl, _⟩ | ⟨a, len, cap, m, n, D, Pl, rfl, _, hl, hm, hmm, _, hi⟩
 ·exact ⟨[], ⟨none, 0, rfl, FZ.nil⟩, by simp, fun _ h => by simp at h⟩
 ·have hle : len ≤ m := by rw [hmm]; split <;> omega
  obtain ⟨l, hll, hlq⟩ := z2F (α := List Value × α) (Q := fun i q => r.rep w q.1 q.2 ∧ R q.2 ∧ ∀ (k : Nat) (u : Value), q.1[k]? = some u → w.cell? (a.add (i * r.sz + k)) = some u) len (fun i hil => by
   obtain ⟨cs', h1, h2⟩ := hi i (by omega)
   obtain ⟨x, hr, hR⟩ := he H enc w base spare held _ _ _ h2
   refine ⟨(cs', x), hr, hR, fun k u hu => ?_⟩
   obtain ⟨_, h3, h4⟩ := World.cells?_some h1
   rw [hc] at h3 h4
   have hk : k < r.sz := by rw [← r.len hr]; exact (List.getElem?_eq_some_iff.1 hu).1
   have := h4 k hk
   rw [q1O] at this
   rw [this]
   exact hu)
  have hall : P3 (r.rep w) (l.map (·.1)) (l.map (·.2)) := by
   have : ∀ q : List (List Value × α), (∀ p ∈ q, r.rep w p.1 p.2) → P3 (r.rep w) (q.map (·.1)) (q.map (·.2)) := fun q => by
    induction q with
    | nil => intro _; trivial
    | cons p s ih => intro h; exact ⟨h p (by simp), ih (fun z hz => h z (by simp [hz]))⟩
   refine this l fun p hp => ?_
   obtain ⟨i, hi⟩ := List.mem_iff_getElem?.1 hp
   exact (hlq i p hi).1
  refine ⟨l.map (·.2), ⟨some a, cap, by simp [hll], ⟨by simp [hll]; omega, l.map (·.1), ?_, hall⟩⟩, by simp [hll]; omega, fun b hb => ?_⟩
  ·have key : ∀ (q : List (List Value × α)) (c : Nat → Option Value), (∀ (i : Nat) (p : List Value × α), q[i]? = some p → p.1.length = r.sz ∧ ∀ (k : Nat) (u : Value), p.1[k]? = some u → c (i * r.sz + k) = some u) → ∀ (j : Nat) (u : Value), (q.map (·.1)).flatten[j]? = some u → c j = some u := fun q => by
    induction q with
    | nil => intro c _ j u h; simp at h
    | cons p s ih =>
     intro c h j u hu
     have h0 := h 0 p rfl
     simp only [List.map_cons, List.flatten_cons] at hu
     by_cases hj : j < p.1.length
     ·rw [List.getElem?_append_left hj] at hu
      have := h0.2 j u hu
      simpa using this
     ·rw [List.getElem?_append_right (by omega)] at hu
      have := ih (fun k => c (r.sz + k)) (fun i p' hp' => ⟨(h (i + 1) p' (by simpa using hp')).1, fun k u hk => by
       have := (h (i + 1) p' (by simpa using hp')).2 k u hk
       show c (r.sz + (i * r.sz + k)) = some u
       rw [← this, Nat.add_mul]
       congr 1
       omega⟩) (j - p.1.length) u hu
      rw [← this]
      show c j = c (r.sz + (j - p.1.length))
      congr 1
      omega
   exact fun j u hu => key l (fun k => w.cell? (a.add k)) (fun i p hp => ⟨r.len (hlq i p hp).1, (hlq i p hp).2.2⟩) j u hu
  ·obtain ⟨p, hp, rfl⟩ := List.mem_map.1 hb
   obtain ⟨i, hi⟩ := List.mem_iff_getElem?.1 hp
   exact (hlq i p hi).2.1
theorem z7D {α : Type} {r : RT α} {R S : α → Prop} (h : q5a P t r R) (hi : ∀ x, R x → S x) : q5a P t r S := fun H enc w base spare held n cs y hy => by
 obtain ⟨x, h1, h2⟩ := h H enc w base spare held n cs y hy
 exact ⟨x, h1, hi x h2⟩
end
end Go.Fp
namespace Go.Proofs.YtjlollifgeggdaaGreatDoor
open Go.RowKit Go.Fp
open Go.ChangeShapes Go.WideShapes Go.ChangeAt Go.Deep
theorem j7C : ownKnob Tryz.prog.godebug = none := by kernel_rfl
theorem j6U : laidOutB Tryz.prog = true := by kernel_rfl
def ok9 (s : ByteArray) : Prop := s.size ≤ 9223372036854775807
theorem op9 : q5a Tryz.prog 9 RT.str ok9 := z8U Tryz.underlying9
def j7x (l : List ByteArray) : Prop := l.length ≤ 9223372036854775807 ∧ ∀ a ∈ l, ok9 a
theorem j7J : q5a Tryz.prog 22 (RT.list RT.str) j7x := q4f Tryz.underlying22 (by kernel_rfl) op9
def ok3 (x : Int) : Prop := -9223372036854775808 ≤ x ∧ x ≤ 9223372036854775807
theorem op3 : q5a Tryz.prog 3 (RT.int .i64) ok3 := z7D (z8V Tryz.underlying3) (fun _ h => j5e h)
def ok4 (_ : Bool) : Prop := True
theorem op4 : q5a Tryz.prog 4 RT.bool ok4 := z7E Tryz.underlying4
def j4Q (x : j0) : Prop := ok3 x.Kind ∧ ok3 x.Length ∧ ok3 x.Grade ∧ ok3 x.Speed ∧ ok3 x.Slow ∧ ok3 x.Station ∧ ok4 x.Axles
theorem j6R : q5a Tryz.prog 108 j4 j4Q := fun H enc w base spare held n cs y h => by
 obtain ⟨xs, n', _, _, hl, hlen, hf⟩ := DataW.trod_struct Tryz.underlying108 h
 have hlen : xs.length = 7 := hlen
 have f0 : DataW.trod enc Tryz.prog w base spare held n' 3 ((cs.drop 0).take (Tryz.prog.cellsOf 3)) = xs[0]? := hf 0 _ rfl
 rw [show Tryz.prog.cellsOf 3 = 1 by kernel_rfl, Kf (by omega : 0 < xs.length)] at f0
 obtain ⟨x0, r0, k0⟩ := op3 _ _ _ _ _ _ _ _ _ f0
 have f1 : DataW.trod enc Tryz.prog w base spare held n' 3 ((cs.drop 1).take (Tryz.prog.cellsOf 3)) = xs[1]? := hf 1 _ rfl
 rw [show Tryz.prog.cellsOf 3 = 1 by kernel_rfl, Kf (by omega : 1 < xs.length)] at f1
 obtain ⟨x1, r1, k1⟩ := op3 _ _ _ _ _ _ _ _ _ f1
 have f2 : DataW.trod enc Tryz.prog w base spare held n' 3 ((cs.drop 2).take (Tryz.prog.cellsOf 3)) = xs[2]? := hf 2 _ rfl
 rw [show Tryz.prog.cellsOf 3 = 1 by kernel_rfl, Kf (by omega : 2 < xs.length)] at f2
 obtain ⟨x2, r2, k2⟩ := op3 _ _ _ _ _ _ _ _ _ f2
 have f3 : DataW.trod enc Tryz.prog w base spare held n' 3 ((cs.drop 3).take (Tryz.prog.cellsOf 3)) = xs[3]? := hf 3 _ rfl
 rw [show Tryz.prog.cellsOf 3 = 1 by kernel_rfl, Kf (by omega : 3 < xs.length)] at f3
 obtain ⟨x3, r3, k3⟩ := op3 _ _ _ _ _ _ _ _ _ f3
 have f4 : DataW.trod enc Tryz.prog w base spare held n' 3 ((cs.drop 4).take (Tryz.prog.cellsOf 3)) = xs[4]? := hf 4 _ rfl
 rw [show Tryz.prog.cellsOf 3 = 1 by kernel_rfl, Kf (by omega : 4 < xs.length)] at f4
 obtain ⟨x4, r4, k4⟩ := op3 _ _ _ _ _ _ _ _ _ f4
 have f5 : DataW.trod enc Tryz.prog w base spare held n' 3 ((cs.drop 5).take (Tryz.prog.cellsOf 3)) = xs[5]? := hf 5 _ rfl
 rw [show Tryz.prog.cellsOf 3 = 1 by kernel_rfl, Kf (by omega : 5 < xs.length)] at f5
 obtain ⟨x5, r5, k5⟩ := op3 _ _ _ _ _ _ _ _ _ f5
 have f6 : DataW.trod enc Tryz.prog w base spare held n' 4 ((cs.drop 6).take (Tryz.prog.cellsOf 4)) = xs[6]? := hf 6 _ rfl
 rw [show Tryz.prog.cellsOf 4 = 1 by kernel_rfl, Kf (by omega : 6 < xs.length)] at f6
 obtain ⟨x6, r6, k6⟩ := op4 _ _ _ _ _ _ _ _ _ f6
 rw [show Tryz.prog.cellsOf 108 = 7 by kernel_rfl] at hl
 rw [List.take_of_length_le (by simp; omega)] at r6
 exact ⟨⟨x0, x1, x2, x3, x4, x5, x6⟩, (show j4.rep w (cs.drop 0) _ from ⟨(cs.drop 0).take 1, cs.drop 1, q4v cs 0 1, r0, ⟨(cs.drop 1).take 1, cs.drop 2, q4v cs 1 1, r1, ⟨(cs.drop 2).take 1, cs.drop 3, q4v cs 2 1, r2, ⟨(cs.drop 3).take 1, cs.drop 4, q4v cs 3 1, r3, ⟨(cs.drop 4).take 1, cs.drop 5, q4v cs 4 1, r4, ⟨(cs.drop 5).take 1, cs.drop 6, q4v cs 5 1, r5, r6⟩⟩⟩⟩⟩⟩), k0, k1, k2, k3, k4, k5, k6⟩
def j7w (l : List j0) : Prop := l.length ≤ 9223372036854775807 ∧ ∀ a ∈ l, j4Q a
theorem j7I : q5a Tryz.prog 23 (RT.list j4) j7w := q4f Tryz.underlying23 (by kernel_rfl) j6R
def j4O (x : j9) : Prop := ok3 x.A ∧ ok3 x.EndA ∧ ok3 x.B ∧ ok3 x.EndB
theorem j6P : q5a Tryz.prog 145 Q0 j4O := fun H enc w base spare held n cs y h => by
 obtain ⟨xs, n', _, _, hl, hlen, hf⟩ := DataW.trod_struct Tryz.underlying145 h
 have hlen : xs.length = 4 := hlen
 have f0 : DataW.trod enc Tryz.prog w base spare held n' 3 ((cs.drop 0).take (Tryz.prog.cellsOf 3)) = xs[0]? := hf 0 _ rfl
 rw [show Tryz.prog.cellsOf 3 = 1 by kernel_rfl, Kf (by omega : 0 < xs.length)] at f0
 obtain ⟨x0, r0, k0⟩ := op3 _ _ _ _ _ _ _ _ _ f0
 have f1 : DataW.trod enc Tryz.prog w base spare held n' 3 ((cs.drop 1).take (Tryz.prog.cellsOf 3)) = xs[1]? := hf 1 _ rfl
 rw [show Tryz.prog.cellsOf 3 = 1 by kernel_rfl, Kf (by omega : 1 < xs.length)] at f1
 obtain ⟨x1, r1, k1⟩ := op3 _ _ _ _ _ _ _ _ _ f1
 have f2 : DataW.trod enc Tryz.prog w base spare held n' 3 ((cs.drop 2).take (Tryz.prog.cellsOf 3)) = xs[2]? := hf 2 _ rfl
 rw [show Tryz.prog.cellsOf 3 = 1 by kernel_rfl, Kf (by omega : 2 < xs.length)] at f2
 obtain ⟨x2, r2, k2⟩ := op3 _ _ _ _ _ _ _ _ _ f2
 have f3 : DataW.trod enc Tryz.prog w base spare held n' 3 ((cs.drop 3).take (Tryz.prog.cellsOf 3)) = xs[3]? := hf 3 _ rfl
 rw [show Tryz.prog.cellsOf 3 = 1 by kernel_rfl, Kf (by omega : 3 < xs.length)] at f3
 obtain ⟨x3, r3, k3⟩ := op3 _ _ _ _ _ _ _ _ _ f3
 rw [show Tryz.prog.cellsOf 145 = 4 by kernel_rfl] at hl
 rw [List.take_of_length_le (by simp; omega)] at r3
 exact ⟨⟨x0, x1, x2, x3⟩, (show Q0.rep w (cs.drop 0) _ from ⟨(cs.drop 0).take 1, cs.drop 1, q4v cs 0 1, r0, ⟨(cs.drop 1).take 1, cs.drop 2, q4v cs 1 1, r1, ⟨(cs.drop 2).take 1, cs.drop 3, q4v cs 2 1, r2, r3⟩⟩⟩), k0, k1, k2, k3⟩
def j7v (l : List j9) : Prop := l.length ≤ 9223372036854775807 ∧ ∀ a ∈ l, j4O a
theorem j7H : q5a Tryz.prog 24 (RT.list Q0) j7v := q4f Tryz.underlying24 (by kernel_rfl) j6P
def j4P (x : j5) : Prop := ok3 x.Section ∧ ok3 x.End
theorem j6Q : q5a Tryz.prog 128 j6 j4P := fun H enc w base spare held n cs y h => by
 obtain ⟨xs, n', _, _, hl, hlen, hf⟩ := DataW.trod_struct Tryz.underlying128 h
 have hlen : xs.length = 2 := hlen
 have f0 : DataW.trod enc Tryz.prog w base spare held n' 3 ((cs.drop 0).take (Tryz.prog.cellsOf 3)) = xs[0]? := hf 0 _ rfl
 rw [show Tryz.prog.cellsOf 3 = 1 by kernel_rfl, Kf (by omega : 0 < xs.length)] at f0
 obtain ⟨x0, r0, k0⟩ := op3 _ _ _ _ _ _ _ _ _ f0
 have f1 : DataW.trod enc Tryz.prog w base spare held n' 3 ((cs.drop 1).take (Tryz.prog.cellsOf 3)) = xs[1]? := hf 1 _ rfl
 rw [show Tryz.prog.cellsOf 3 = 1 by kernel_rfl, Kf (by omega : 1 < xs.length)] at f1
 obtain ⟨x1, r1, k1⟩ := op3 _ _ _ _ _ _ _ _ _ f1
 rw [show Tryz.prog.cellsOf 128 = 2 by kernel_rfl] at hl
 rw [List.take_of_length_le (by simp; omega)] at r1
 exact ⟨⟨x0, x1⟩, (show j6.rep w (cs.drop 0) _ from ⟨(cs.drop 0).take 1, cs.drop 1, q4v cs 0 1, r0, r1⟩), k0, k1⟩
def j7u (l : List j5) : Prop := l.length ≤ 9223372036854775807 ∧ ∀ a ∈ l, j4P a
theorem j7G : q5a Tryz.prog 25 (RT.list j6) j7u := q4f Tryz.underlying25 (by kernel_rfl) j6Q
def j4N (x : Q2) : Prop := ok3 x.Section ∧ ok3 x.Close
theorem j6O : q5a Tryz.prog 149 Q1 j4N := fun H enc w base spare held n cs y h => by
 obtain ⟨xs, n', _, _, hl, hlen, hf⟩ := DataW.trod_struct Tryz.underlying149 h
 have hlen : xs.length = 2 := hlen
 have f0 : DataW.trod enc Tryz.prog w base spare held n' 3 ((cs.drop 0).take (Tryz.prog.cellsOf 3)) = xs[0]? := hf 0 _ rfl
 rw [show Tryz.prog.cellsOf 3 = 1 by kernel_rfl, Kf (by omega : 0 < xs.length)] at f0
 obtain ⟨x0, r0, k0⟩ := op3 _ _ _ _ _ _ _ _ _ f0
 have f1 : DataW.trod enc Tryz.prog w base spare held n' 3 ((cs.drop 1).take (Tryz.prog.cellsOf 3)) = xs[1]? := hf 1 _ rfl
 rw [show Tryz.prog.cellsOf 3 = 1 by kernel_rfl, Kf (by omega : 1 < xs.length)] at f1
 obtain ⟨x1, r1, k1⟩ := op3 _ _ _ _ _ _ _ _ _ f1
 rw [show Tryz.prog.cellsOf 149 = 2 by kernel_rfl] at hl
 rw [List.take_of_length_le (by simp; omega)] at r1
 exact ⟨⟨x0, x1⟩, (show Q1.rep w (cs.drop 0) _ from ⟨(cs.drop 0).take 1, cs.drop 1, q4v cs 0 1, r0, r1⟩), k0, k1⟩
def j7t (l : List Q2) : Prop := l.length ≤ 9223372036854775807 ∧ ∀ a ∈ l, j4N a
theorem j7F : q5a Tryz.prog 26 (RT.list Q1) j7t := q4f Tryz.underlying26 (by kernel_rfl) j6O
def j7s (x : j3) : Prop := j7x x.Stations ∧ j7w x.Sections ∧ j7v x.Links ∧ j7u x.Signals ∧ j7t x.Gates
theorem j7E : q5a Tryz.prog 28 z5t j7s := fun H enc w base spare held n cs y h => by
 obtain ⟨xs, n', _, _, hl, hlen, hf⟩ := DataW.trod_struct Tryz.underlying28 h
 have hlen : xs.length = 5 := hlen
 have f0 : DataW.trod enc Tryz.prog w base spare held n' 22 ((cs.drop 0).take (Tryz.prog.cellsOf 22)) = xs[0]? := hf 0 _ rfl
 rw [show Tryz.prog.cellsOf 22 = 1 by kernel_rfl, Kf (by omega : 0 < xs.length)] at f0
 obtain ⟨x0, r0, k0⟩ := j7J _ _ _ _ _ _ _ _ _ f0
 have f1 : DataW.trod enc Tryz.prog w base spare held n' 23 ((cs.drop 1).take (Tryz.prog.cellsOf 23)) = xs[1]? := hf 1 _ rfl
 rw [show Tryz.prog.cellsOf 23 = 1 by kernel_rfl, Kf (by omega : 1 < xs.length)] at f1
 obtain ⟨x1, r1, k1⟩ := j7I _ _ _ _ _ _ _ _ _ f1
 have f2 : DataW.trod enc Tryz.prog w base spare held n' 24 ((cs.drop 2).take (Tryz.prog.cellsOf 24)) = xs[2]? := hf 2 _ rfl
 rw [show Tryz.prog.cellsOf 24 = 1 by kernel_rfl, Kf (by omega : 2 < xs.length)] at f2
 obtain ⟨x2, r2, k2⟩ := j7H _ _ _ _ _ _ _ _ _ f2
 have f3 : DataW.trod enc Tryz.prog w base spare held n' 25 ((cs.drop 3).take (Tryz.prog.cellsOf 25)) = xs[3]? := hf 3 _ rfl
 rw [show Tryz.prog.cellsOf 25 = 1 by kernel_rfl, Kf (by omega : 3 < xs.length)] at f3
 obtain ⟨x3, r3, k3⟩ := j7G _ _ _ _ _ _ _ _ _ f3
 have f4 : DataW.trod enc Tryz.prog w base spare held n' 26 ((cs.drop 4).take (Tryz.prog.cellsOf 26)) = xs[4]? := hf 4 _ rfl
 rw [show Tryz.prog.cellsOf 26 = 1 by kernel_rfl, Kf (by omega : 4 < xs.length)] at f4
 obtain ⟨x4, r4, k4⟩ := j7F _ _ _ _ _ _ _ _ _ f4
 rw [show Tryz.prog.cellsOf 28 = 5 by kernel_rfl] at hl
 rw [List.take_of_length_le (by simp; omega)] at r4
 exact ⟨⟨x0, x1, x2, x3, x4⟩, (show z5t.rep w (cs.drop 0) _ from ⟨(cs.drop 0).take 1, cs.drop 1, q4v cs 0 1, r0, ⟨(cs.drop 1).take 1, cs.drop 2, q4v cs 1 1, r1, ⟨(cs.drop 2).take 1, cs.drop 3, q4v cs 2 1, r2, ⟨(cs.drop 3).take 1, cs.drop 4, q4v cs 3 1, r3, r4⟩⟩⟩⟩), k0, k1, k2, k3, k4⟩
def j7L (l : List Int) : Prop := l.length ≤ 9223372036854775807 ∧ ∀ a ∈ l, ok3 a
theorem j7D : q5a Tryz.prog 45 (RT.list (RT.int .i64)) j7L := q4f Tryz.underlying45 (by kernel_rfl) op3
end Go.Proofs.YtjlollifgeggdaaGreatDoor
namespace Go.Proofs.YtjlollifgeggdaaGreatDoor
open Go.RowKit Go.Fp
open Go.ChangeShapes Go.WideShapes Go.ChangeAt Go.Deep
def j3o (cs : Array Value) : Obj → Obj
 | .cells _ t fr => .cells cs t fr
 | o => o
noncomputable def z0J (os : Os) : World :=
 { World.holding Tryz.prog os ⟨#[], #[], []⟩ with heap := ((((((((((World.holding Tryz.prog os ⟨#[], #[], []⟩).heap.modify 6 (j3o #[.int .u8 0, .int .u8 1, .int .u8 28, .int .u8 2, .int .u8 29, .int .u8 14, .int .u8 24, .int .u8 3, .int .u8 30, .int .u8 22, .int .u8 20, .int .u8 15, .int .u8 25, .int .u8 17, .int .u8 4, .int .u8 8, .int .u8 31, .int .u8 27, .int .u8 13, .int .u8 23, .int .u8 21, .int .u8 19, .int .u8 16, .int .u8 7, .int .u8 26, .int .u8 12, .int .u8 18, .int .u8 6, .int .u8 11, .int .u8 5, .int .u8 10, .int .u8 9])).modify 7 (j3o #[.int .u8 0, .int .u8 1, .int .u8 56, .int .u8 2, .int .u8 57, .int .u8 49, .int .u8 28, .int .u8 3, .int .u8 61, .int .u8 58, .int .u8 42, .int .u8 50, .int .u8 38, .int .u8 29, .int .u8 17, .int .u8 4, .int .u8 62, .int .u8 47, .int .u8 59, .int .u8 36, .int .u8 45, .int .u8 43, .int .u8 51, .int .u8 22, .int .u8 53, .int .u8 39, .int .u8 33, .int .u8 30, .int .u8 24, .int .u8 18, .int .u8 12, .int .u8 5, .int .u8 63, .int .u8 55, .int .u8 48, .int .u8 27, .int .u8 60, .int .u8 41, .int .u8 37, .int .u8 16, .int .u8 46, .int .u8 35, .int .u8 44, .int .u8 21, .int .u8 52, .int .u8 32, .int .u8 23, .int .u8 11, .int .u8 54, .int .u8 26, .int .u8 40, .int .u8 15, .int .u8 34, .int .u8 20, .int .u8 31, .int .u8 10, .int .u8 25, .int .u8 14, .int .u8 19, .int .u8 9, .int .u8 13, .int .u8 8, .int .u8 7, .int .u8 6])).modify 5 (j3o #[.int .u64 1, .int .u64 10, .int .u64 100, .int .u64 1000, .int .u64 10000, .int .u64 100000, .int .u64 1000000, .int .u64 10000000, .int .u64 100000000, .int .u64 1000000000, .int .u64 10000000000, .int .u64 100000000000, .int .u64 1000000000000, .int .u64 10000000000000, .int .u64 100000000000000, .int .u64 1000000000000000, .int .u64 10000000000000000, .int .u64 100000000000000000, .int .u64 1000000000000000000, .int .u64 10000000000000000000])).modify 2 (j3o #[.int .u8 128, .int .u8 191, .int .u8 160, .int .u8 191, .int .u8 128, .int .u8 159, .int .u8 144, .int .u8 191, .int .u8 128, .int .u8 143, .int .u8 0, .int .u8 0, .int .u8 0, .int .u8 0, .int .u8 0, .int .u8 0, .int .u8 0, .int .u8 0, .int .u8 0, .int .u8 0, .int .u8 0, .int .u8 0, .int .u8 0, .int .u8 0, .int .u8 0, .int .u8 0, .int .u8 0, .int .u8 0, .int .u8 0, .int .u8 0, .int .u8 0, .int .u8 0])).modify 4 (j3o #[.iface 254 (.pointer (some ⟨13 + 0, 0, none⟩))])).modify 3 (j3o #[.iface 254 (.pointer (some ⟨13 + 1, 0, none⟩))])).modify 1 (j3o ((Pinned.utf8FirstZ).map (fun (n : Nat) => Value.int .u8 (n : Int))).toArray)).push (.cells #[.string (ByteArray.mk #[118, 97, 108, 117, 101, 32, 111, 117, 116, 32, 111, 102, 32, 114, 97, 110, 103, 101])] 256)).push (.cells #[.string (ByteArray.mk #[105, 110, 118, 97, 108, 105, 100, 32, 115, 121, 110, 116, 97, 120])] 256)) }
end Go.Proofs.YtjlollifgeggdaaGreatDoor
