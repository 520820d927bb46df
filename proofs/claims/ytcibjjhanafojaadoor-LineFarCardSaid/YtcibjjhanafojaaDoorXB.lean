/- Extraction, part B: what start-up code has laid, at every world of a walk; numerals and joined words by the shelf's contracts. -/
import Derived.Test.YtcibjjhanafojaaDoorXA
import Derived.Lib.LaidTab
import Derived.Lib.ItoaNum
import Derived.Lib.Join
import Derived.Sort.Grow
import Derived.Deep.Draws
set_option linter.unusedVariables false
namespace Go.Fp
open Go.RowKit Go.Sort

/-- 'G' holds at every world of the walk. -/
def GOn (G : World → Prop) (b : Base) : Prop := ∀ hp w, Own b hp w → G w
theorem GOn.le {G : World → Prop} {b b' : Base} (h : GOn G b) (hle : b.Le b') : GOn G b' := fun hp w ho => h hp w (hle.back _ _ ho)
theorem GOn.old {G : World → Prop} {b : Base} {hp : Hp} {w : World} (h : GOn G b) (ho : Own b hp w) : GOn G (w : Base) := fun hp' w' ho' => h _ _ (ho.grow ho')
theorem GOn.mono {G G' : World → Prop} {b : Base} (h : GOn G b) (hg : ∀ w, G w → G' w) : GOn G' b := fun hp w ho => hg w (h hp w ho)
theorem tab_below {P : Program} {W w : World} {name : String} {k : IntKind} {zs : List Int} (hb : ∀ i, i < W.heap.size → w.heap[i]? = W.heap[i]?) (h : Lib.TabIs P W name k zs) : Lib.TabIs P w name k zs := by
  unfold Lib.TabIs World.var? at h ⊢
  cases hg : P.globalNamed name with
  | none => rw [hg] at h; cases h
  | some g =>
    rw [hg] at h
    simp only [Option.bind_some] at h ⊢
    by_cases hlt : g < W.heap.size
    · rw [hb g hlt]; exact h
    · rw [Array.getElem?_eq_none (by omega)] at h; cases h
theorem glo_below {gs gr : Nat} {W w : World} {hp : Hp} (ho : Own (W : Base) hp w) (h : GLo gs gr W) : GLo gs gr w := GLo.mono ho.keeps h
/-- strconv.Atoi, from the shelf's three contracts. -/
theorem atoi_on {P : Program} {f : FuncId} {gs gr tE tC : Nat} (t5 : TypeId)
    (h1 : ∀ (s : ByteArray) (_ : s.size ≤ 9223372036854775806) (v : Int) (_ : Lib.atoiAll s.data.toList = .ok v) (w : World), Calls P f #[.string s] w fun e w' => e = .returned (.tuple #[.int .i64 v, .nilIface]) ∧ (w' = w ∨ ∃ t, w' = Lib.bytesWorld w t5 t))
    (h2 : ∀ (s : ByteArray) (_ : s.size ≤ 281474976710656) (_ : Lib.atoiAll s.data.toList = Lib.NumEnd.syntax) (ev : Value) (w : World) (_ : w.cell? ⟨gs, 0, none⟩ = some ev) (_ : ev = .nilIface ∨ ∃ te pe, ev = .iface te pe), Calls P f #[.string s] w fun e w' => ∃ N, e = .returned (.tuple #[.int .i64 (0), .iface tE (.pointer (some ⟨N, 0, none⟩))]) ∧ w.heap.size ≤ N ∧ w'.heap[N]? = some (.cells #[.string ⟨#[65, 116, 111, 105]⟩, .string s, ev] tC (0, 0)) ∧ Below w.heap.size w w')
    (h3 : ∀ (s : ByteArray) (_ : s.size ≤ 281474976710656) (_ : Lib.atoiAll s.data.toList = .range) (ev : Value) (w : World) (_ : w.cell? ⟨gr, 0, none⟩ = some ev) (_ : ev = .nilIface ∨ ∃ te pe, ev = .iface te pe), Calls P f #[.string s] w fun e w' => ∃ N, e = .returned (.tuple #[.int .i64 (Lib.atoiSat s.data.toList), .iface tE (.pointer (some ⟨N, 0, none⟩))]) ∧ w.heap.size ≤ N ∧ w'.heap[N]? = some (.cells #[.string ⟨#[65, 116, 111, 105]⟩, .string s, ev] tC (0, 0)) ∧ Below w.heap.size w w')
    {b : Base} {R : Hp} (hG : GOn (GLo gs gr) b) {s : ByteArray} {x : Int} {q : Bool} (hm : atoiM s = some (x, q)) :
    CallsG P f [.string s] b R (fun v b' hp' => ∃ (e : Value), .tuple #[.int .i64 x, e] = v ∧ R = hp' ∧ ErrV e q) := fun w ho => by
  obtain ⟨⟨t, u, g1⟩, t', u', g2⟩ := hG _ _ ho
  unfold atoiM at hm
  split at hm
  · rename_i hsz
    split at hm
    · rename_i v hv
      injection hm with hm
      injection hm with e1 e2
      subst e1; subst e2
      refine (h1 s (by omega) _ hv w).mono fun e w' ⟨he, hw⟩ => ⟨_, b, R, he, Base.Le.refl _, ?_, .nilIface, rfl, rfl, rfl⟩
      rcases hw with rfl | ⟨t, rfl⟩
      · exact ho
      · exact ho.below_ (Lib.bytesWorld_below w _ _)
    · rename_i hv
      injection hm with hm
      injection hm with e1 e2
      subst e1; subst e2
      exact (h2 s hsz hv _ w g1 (.inr ⟨_, _, rfl⟩)).mono fun e w' ⟨N, he, _, _, hw⟩ => ⟨_, b, R, he, Base.Le.refl _, ho.below_ hw, _, rfl, rfl, _, _, rfl⟩
    · rename_i hv
      injection hm with hm
      injection hm with e1 e2
      subst e1; subst e2
      exact (h3 s hsz hv _ w g2 (.inr ⟨_, _, rfl⟩)).mono fun e w' ⟨N, he, _, _, hw⟩ => ⟨_, b, R, he, Base.Le.refl _, ho.below_ hw, _, rfl, rfl, _, _, rfl⟩
  · cases hm
/-- strconv.Itoa. -/
def itoaM (n : Int) : Option ByteArray := (chk n).bind fun _ => some ⟨(Lib.itoa n).toArray⟩
theorem grown_below (w : World) (q : Nat) (os : Array Obj) : Below w.heap.size w (grow (w.drewN q) os) :=
  ⟨rfl, rfl, rfl, by first | (simp [grow]; done) | (simp [grow]; omega), fun i hi => by
    show ((w.drewN q).heap ++ os)[i]? = _
    rw [Array.getElem?_append_left (by show i < w.heap.size; omega)]
    rfl⟩
theorem itoa_of {P : Program} {f : FuncId} {T : World → Prop}
    (h : ∀ (n : Int) (_ : -9223372036854775808 ≤ n) (_ : n ≤ 9223372036854775807) (w : World) (_ : T w), Calls P f #[.int .i64 n] w fun e w' => e = .returned (.string ⟨(Lib.itoa n).toArray⟩) ∧ ∃ k os, w' = grow (w.drewN k) os)
    {b : Base} {R : Hp} (hG : GOn T b) {n : Int} {s : ByteArray} (hm : itoaM n = some s) :
    CallsG P f [.int .i64 n] b R (fun v b' hp' => .string s = v ∧ R = hp') := fun w ho => by
  unfold itoaM at hm
  obtain ⟨_, hc, hm⟩ := bindS hm
  have hc := (chk_some hc).2
  injection hm with hm
  subst hm
  exact (h n hc.1 hc.2 w (hG _ _ ho)).mono fun e w' ⟨he, k, os, hw⟩ => ⟨_, b, R, he, Base.Le.refl _, by rw [hw]; exact ho.below_ (grown_below w k os), rfl, rfl⟩
/-- strings.Join. -/
def joinM (l : List ByteArray) (sep : ByteArray) : Option ByteArray :=
  if l.length ≤ 140737488355328 ∧ (Lib.join (l.map (·.data.toList)) sep.data.toList).length ≤ 140737488355328 then some ⟨(Lib.join (l.map (·.data.toList)) sep.data.toList).toArray⟩ else none
theorem join_of {P : Program} {f : FuncId}
    (h0 : ∀ (a : Option Addr) (c : Nat) (sep : ByteArray) (w : World), Calls P f #[.slice a 0 c, .string sep] w fun e w' => e = .returned (.string ⟨#[]⟩) ∧ w' = w)
    (h1 : ∀ (bk o c : Nat) (xs : List ByteArray) (sep : ByteArray) (w : World) (_ : ∀ (j : Nat) x, xs[j]? = some x → w.cell? ⟨bk, o + j, none⟩ = some (.string x)) (_ : bk < w.heap.size) (_ : xs.length ≤ 140737488355328) (_ : xs.length ≤ c) (_ : (Lib.join (xs.map (·.data.toList)) sep.data.toList).length ≤ 140737488355328),
      Calls P f #[.slice (some ⟨bk, o, none⟩) xs.length c, .string sep] w fun e w' => e = .returned (.string ⟨(Lib.join (xs.map (·.data.toList)) sep.data.toList).toArray⟩) ∧ Below w.heap.size w w')
    {b : Base} {R : Hp} {A : Option Addr} {c : Nat} {l : List ByteArray} (hf : FZ RT.str b.w A c l) {sep s : ByteArray} (hm : joinM l sep = some s) :
    CallsG P f [.slice A l.length c, .string sep] b R (fun v b' hp' => .string s = v ∧ R = hp') := fun w ho => by
  unfold joinM at hm
  split at hm
  case isFalse => cases hm
  rename_i hbd
  injection hm with hm
  subst hm
  cases l with
  | nil => exact (h0 A c sep w).mono fun e w' ⟨he, hw⟩ => ⟨_, b, R, he, Base.Le.refl _, by rw [hw]; exact ho, rfl, rfl⟩
  | cons x l =>
    have hf := hf.old ho
    have hcap := hf.1.1
    have hget : ∀ (j : Nat) y, (x :: l)[j]? = some y → cellO w A j = some (.string y) := fun j y hy => by
      obtain ⟨cs, hr, hcs, _, _⟩ := FZ.get (sz := 1) rfl (by decide) hf hy
      have hr : cs = [.string y] := hr
      subst hr
      have := hcs 0 _ rfl
      simpa using this
    cases A with
    | none => have := hget 0 x rfl; simp [cellO] at this
    | some a =>
      have hg0 := hget 0 x rfl
      have ha : a.spot = none := by
        have h5 : w.cell? (a.add 0) = some (.string x) := hg0
        cases hs : a.spot with
        | none => rfl
        | some k =>
          unfold World.cell? Addr.add at h5
          simp only [if_true, hs] at h5
          revert h5
          split <;> simp
      obtain ⟨bk, o, sp⟩ := a
      simp only at ha
      subst ha
      have hcell : ∀ (j : Nat) y, (x :: l)[j]? = some y → w.cell? ⟨bk, o + j, none⟩ = some (.string y) := fun j y hy => by
        have h5 : w.cell? (Addr.add ⟨bk, o, none⟩ j) = some (.string y) := hget j y hy
        unfold Addr.add at h5
        by_cases hj : j = 0
        · subst hj; simpa using h5
        · simpa [hj] using h5
      have hbk : bk < w.heap.size := by
        have := World.block_lt_of_cell? w _ (hcell 0 x rfl)
        exact this
      exact (h1 bk o c (x :: l) sep w hcell hbk hbd.1 hcap hbd.2).mono fun e w' ⟨he, hw⟩ => ⟨_, b, R, he, Base.Le.refl _, ho.below_ hw, rfl, rfl⟩
end Go.Fp
