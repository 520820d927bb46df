/- The framework, part 9: what a row gives, read as lists; what a row asks behind the call. -/
import Derived.Test.YtckgfeglhjiflaaDoorK8
import Derived.ProofKit
import Derived.Deep.Slices
import Derived.Deep.Fields
namespace Go.Fp
open Go.RowKit Go.ChangeShapes Go.WideShapes Go.Deep

theorem build_list {α : Type} {Q : Nat → α → Prop} : ∀ n : Nat, (∀ i, i < n → ∃ a, Q i a) → ∃ l : List α, l.length = n ∧ ∀ i a, l[i]? = some a → Q i a
  | 0, _ => ⟨[], rfl, fun i a h => by simp at h⟩
  | n + 1, h => by
    obtain ⟨l, hl, hq⟩ := build_list n (fun i hi => h i (by omega))
    obtain ⟨a, ha⟩ := h n (by omega)
    refine ⟨l ++ [a], by simp [hl], fun i b hb => ?_⟩
    by_cases hi : i < l.length
    · rw [List.getElem?_append_left hi] at hb
      exact hq i b hb
    · rw [List.getElem?_append_right (by omega)] at hb
      cases hk : i - l.length with
      | zero =>
        rw [hk] at hb
        simp at hb
        subst hb
        rw [show i = n by omega]
        exact ha
      | succ k =>
        rw [hk] at hb
        simp at hb
theorem rows_of {α : Type} {enc : α → List Value} {sz : Nat} (he : ∀ x, (enc x).length = sz) : ∀ (l : List α) (c : Nat → Option Value), (∀ i a, l[i]? = some a → ∀ (r : Nat) (u : Value), (enc a)[r]? = some u → c (i * sz + r) = some u) → ∀ (j : Nat) (u : Value), (rows enc l)[j]? = some u → c j = some u
  | [], _, _, j, u, h => by simp [rows] at h
  | a :: r, c, hc, j, u, h => by
    have hr : rows enc (a :: r) = enc a ++ rows enc r := by simp [rows]
    rw [hr] at h
    by_cases hj : j < sz
    · rw [List.getElem?_append_left (by rw [he]; exact hj)] at h
      have := hc 0 a rfl j u h
      simpa using this
    · rw [List.getElem?_append_right (by rw [he]; omega), he] at h
      have := rows_of he r (fun k => c (sz + k)) (fun i b hb q v hv => by
        have := hc (i + 1) b (by simpa using hb) q v hv
        show c (sz + (i * sz + q)) = some v
        rw [← this, Nat.add_mul]
        congr 1
        omega) (j - sz) u h
      rw [← this]
      show c j = c (sz + (j - sz))
      congr 1
      omega

section
variable {H : Type} {enc : TypeId × Value → H} {P : Program} {w : World} {base : Nat} {spare : Nat → Bool} {held : Bool}
/-- A slice read as a list, by what each element reads as. -/
theorem open_rows {α : Type} {en : α → List Value} {sz : Nat} {R : α → Prop} {t e : TypeId} {fuel : Nat} {cs : List Value} {x : DataW H × List MemPlace} (hlen : ∀ a, (en a).length = sz) (ht : P.underlying t = some (.slice e)) (hc : P.cellsOf e = sz)
    (hel : ∀ n cs y, DataW.trod enc P w base spare held n e cs = some y → ∃ a : α, cs = en a ∧ R a) (h : DataW.trod enc P w base spare held fuel t cs = some x) :
    ∃ s : Sl α, cs = [s.val] ∧ Rd w s.A (rows en s.l) ∧ s.l.length ≤ 9223372036854775807 ∧ ∀ a ∈ s.l, R a := by
  rcases open_slice ht h with ⟨rfl, _⟩ | ⟨a, len, cap, m, n, D, Pl, rfl, _, hl, hm, hmm, _, hi⟩
  · exact ⟨⟨none, 0, []⟩, rfl, Rd.nil, by simp, fun _ h => by simp at h⟩
  · have hle : len ≤ m := by rw [hmm]; split <;> omega
    obtain ⟨l, hll, hlq⟩ := build_list (α := α) (Q := fun i b => (∀ (r : Nat) (u : Value), (en b)[r]? = some u → w.cell? (a.add (i * sz + r)) = some u) ∧ R b) len (fun i hil => by
      obtain ⟨cs', h1, h2⟩ := hi i (by omega)
      obtain ⟨b, hb, hR⟩ := hel _ _ _ h2
      refine ⟨b, fun r u hu => ?_, hR⟩
      obtain ⟨_, h3, h4⟩ := World.cells?_some h1
      rw [hc] at h3 h4
      have hr : r < sz := by rw [← hlen b]; exact (List.getElem?_eq_some_iff.1 hu).1
      have := h4 r hr
      rw [hb, hu, addr_add_add] at this
      exact this)
    refine ⟨⟨some a, cap, l⟩, by rw [← hll], ?_, ?_, fun b hb => ?_⟩
    · intro j u hj
      exact rows_of hlen l (fun k => w.cell? (a.add k)) (fun i b hb => (hlq i b hb).1) j u hj
    · have hmx : maxLen = 9223372036854775807 := by decide
      show l.length ≤ _
      omega
    · obtain ⟨i, hi⟩ := List.mem_iff_getElem?.1 hb
      exact (hlq i b hi).2
/-- A struct of one-cell fields, read field by field. -/
theorem open_fields {e : TypeId} {fs : Array Field} {n : Nat} {cs : List Value} {y : DataW H × List MemPlace} (he : P.underlying e = some (.struct fs)) (hone : oneCellFields P fs = true) (hC : P.cellsOf e = fs.size) (h : DataW.trod enc P w base spare held n e cs = some y) :
    cs.length = fs.size ∧ ∀ (j : Nat) (f : Field), fs[j]? = some f → ∃ (v : Value) (z : DataW H × List MemPlace) (n' : Nat), cs[j]? = some v ∧ DataW.trod enc P w base spare held n' f.type [v] = some z := by
  obtain ⟨xs, n', _, _, hl, hlen, hf⟩ := DataW.trod_struct he h
  rw [hC] at hl
  refine ⟨hl, fun j f hj => ?_⟩
  obtain ⟨ho, hk⟩ := hone_of hone j f hj
  have hjl : j < fs.size := (Array.getElem?_eq_some_iff.1 hj).1
  have h1 := hf j f hj
  rw [ho, hk, List.drop_eq_getElem_cons (by omega)] at h1
  have hx : xs[j]? = some (xs[j]'(by omega)) := List.getElem?_eq_getElem (by omega)
  exact ⟨cs[j]'(by omega), _, n', List.getElem?_eq_getElem (by omega), h1.trans hx⟩
theorem open_intv {e : TypeId} {k : IntKind} {n : Nat} {cs : List Value} {y : DataW H × List MemPlace} (he : P.underlying e = some (.int k)) (h : DataW.trod enc P w base spare held n e cs = some y) : ∃ x : Int, cs = [.int k x] ∧ (Lit.int k x).wf = true := by
  obtain ⟨x, h1, _, h2⟩ := DataW.trod_int he h
  exact ⟨x, h1, h2⟩
theorem open_intl {t e : TypeId} {fuel : Nat} {cs : List Value} {x : DataW H × List MemPlace} (ht : P.underlying t = some (.slice e)) (he : P.underlying e = some (.int .i64)) (hc : P.cellsOf e = 1) (h : DataW.trod enc P w base spare held fuel t cs = some x) :
    ∃ s : Sl Int, cs = [s.val] ∧ Rd w s.A (rows encI s.l) ∧ s.l.length ≤ 9223372036854775807 ∧ ∀ a ∈ s.l, (Lit.int .i64 a).wf = true :=
  open_rows encI_len ht hc (fun _ _ _ h => open_intv he h) h
theorem open_slices {α : Type} {R : Sl α → Prop} {t e : TypeId} {fuel : Nat} {cs : List Value} {x : DataW H × List MemPlace} (ht : P.underlying t = some (.slice e)) (hc : P.cellsOf e = 1)
    (hel : ∀ n cs y, DataW.trod enc P w base spare held n e cs = some y → ∃ s : Sl α, cs = [s.val] ∧ R s) (h : DataW.trod enc P w base spare held fuel t cs = some x) :
    ∃ s : Sl (Sl α), cs = [s.val] ∧ Rd w s.A (rows encS s.l) ∧ s.l.length ≤ 9223372036854775807 ∧ ∀ a ∈ s.l, R a := open_rows encS_len ht hc hel h
end

theorem trodAll_stays {H : Type} {enc : TypeId × Value → H} {P : Program} (hl : laidOutB P = true) {W W' : World} {sp : Nat → Bool} (hb : Below W.heap.size W W') :
    ∀ (ts : List TypeId) (vs : List Value) (ds : List (DataW H)) (ps : List MemPlace), ts.all (fun t => P.readableRec t && decide (t < P.types.size)) = true → DataW.TrodAll enc P W 0 (fun _ => true) true ts vs ds ps → (∀ x ∈ ps, x.block < W.heap.size) → (∀ x ∈ ps, sp x.block = true) → DataW.TrodAll enc P W' 0 sp true ts vs ds ps
  | [], vs, ds, ps, _, h, _, _ => by
    obtain ⟨rfl, rfl, rfl⟩ := trodAll_nil h
    exact trodAll_mk0
  | t :: ts, vs, ds, ps, hr, h, hlt, hsp => by
    obtain ⟨v, vs', d, ds', p, q, rfl, rfl, rfl, h1, h2⟩ := trodAll_cons h
    simp only [List.all_cons, Bool.and_eq_true, decide_eq_true_eq] at hr
    exact ⟨p, q, WideElems.Trod_stays hl hr.1.1 hr.1.2 h1 (fun x hx => hb.same (hlt x (List.mem_append_left _ hx))) (fun x hx => hsp x (List.mem_append_left _ hx)),
      trodAll_stays hl hb ts vs' ds' q (by simpa using hr.2) h2 (fun x hx => hlt x (List.mem_append_right _ hx)) (fun x hx => hsp x (List.mem_append_right _ hx)), rfl⟩

/-- The end of a row that says: true, and the arguments read as they did. -/
theorem post_true {H : Type} {enc : TypeId × Value → H} {P : Program} {f : Func} {s : ChangeSpec} {apart fresh handsOn again : Bool} {W W' : World} {args : Array Value} {ds : List (DataW H)} {before : List MemPlace} {tb : TypeId}
    (hl : laidOutB P = true) (hts : f.params.toList.all (fun t => P.readableRec t && decide (t < P.types.size)) = true) (hvs : s.vars = []) (hrt : f.resultTypes = #[tb]) (htb : P.underlying tb = some .bool)
    (hW : DataW.Whole enc P f.params.toList s.vars apart W args.toList ds [] before) (hfn : s.fn H (ds ++ []) = { results := [.lit (.bool true)], args := ds }) (hb : Below W.heap.size W W') :
    s.post enc P f apart fresh handsOn again W args (.bool true) W' := by
  have hlt : ∀ p ∈ before, p.block < W.heap.size := fun p hp => hW.lt p hp
  have hold : ∀ p ∈ before, (fun b => decide (b < W.heap.size)) p.block = true := fun p hp => by simpa using hlt p hp
  have hW2 := hW
  obtain ⟨pa, pv, hA, hV, hps, hz, hn⟩ := hW2
  rw [hvs] at hV
  obtain ⟨_, rfl⟩ := trodVars_none hV
  have hres : ∀ (b : Nat) (sp : Nat → Bool) (hd : Bool), DataW.TrodAll enc P W' b sp hd f.resultTypes.toList ((Value.bool true).resultList f.resultTypes.size) (s.fn H (ds ++ [])).results [] := fun b sp hd => by
    rw [hfn, hrt]
    exact trodAll_mk1 (shut_bool htb true)
  have hargs : ∀ sp : Nat → Bool, (∀ p ∈ before, sp p.block = true) → DataW.TrodAll enc P W' 0 sp true f.params.toList args.toList (s.fn H (ds ++ [])).args pa := fun sp hsp => by
    rw [hfn]
    exact trodAll_stays hl hb _ _ _ _ hts hA (fun x hx => hlt x (by rw [hps]; simpa using hx)) (fun x hx => hsp x (by rw [hps]; simpa using hx))
  have hvars : ∀ sp : Nat → Bool, DataW.TrodVars enc P W' sp s.vars (s.fn H (ds ++ [])).vars [] := fun sp => by
    rw [hfn, hvs]
    rfl
  refine ⟨ds, [], before, [], pa, [], hW, hres _ _ _, hargs _ hold, hvars _, World.keptBut_mono (fun p hp => ⟨hp, ?_⟩) (hb.frame (· ∈ before)), fun _ => ?_⟩
  · rw [hps, List.mem_append] at hp
    exact Or.inr hp
  · refine ⟨ok_one hrt rfl (okWide_bool_mk htb true), _, _, ([] ++ pa) ++ [], ⟨[] ++ pa, [], trodAll_append (hargs _ (fun _ _ => rfl)) (hres _ _ _), hvars _, rfl, ?_, ?_⟩, ?_⟩
    · intro b off hp
      have hin : MemPlace.cell b off ∈ before := by rw [hps]; simpa using hp
      rw [hb.frozen (hlt _ hin)]
      exact hz b off hin
    · intro ha
      have := hn ha
      rw [hps] at this
      simpa using this
    · intro p hp _
      rw [hps]
      simpa using hp
theorem own_start (W : World) : Own (W : Base) [] W := Own.start W
theorem below_end {W W' : World} {b' : Base} (hle : Base.Le (W : Base) b') (ho : Own b' [] W') : Below W.heap.size W W' := (hle.back _ _ ho).below
end Go.Fp
