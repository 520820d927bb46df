/- Extraction, part 9: maps of the call's own. -/
import Derived.Test.YtckgfeglhjiflaaDoorX8
set_option linter.unusedSectionVars false
namespace Go.Fp
open Go.RowKit

/- ---- words of the models ---- -/
section
variable {κ ν : Type} [DecidableEq κ]
def mget : List (κ × ν) → κ → Option ν
  | [], _ => none
  | (a, b) :: r, k => if a = k then some b else mget r k
def mput : List (κ × ν) → κ → ν → List (κ × ν)
  | [], k, v => [(k, v)]
  | (a, b) :: r, k, v => if a = k then (k, v) :: r else (a, b) :: mput r k v
def mgetD (l : List (κ × ν)) (k : κ) (z : ν) : ν := (mget l k).getD z
def mhas (l : List (κ × ν)) (k : κ) : Bool := (mget l k).isSome
theorem mget_mput_same (l : List (κ × ν)) (k : κ) (v : ν) : mget (mput l k v) k = some v := by
  induction l with
  | nil => simp [mput, mget]
  | cons p r ih =>
    obtain ⟨a, b⟩ := p
    unfold mput
    split
    · simp [mget]
    · rename_i h; simp [mget, h, ih]
theorem mget_mput_other (l : List (κ × ν)) {k k' : κ} (v : ν) (hk : k' ≠ k) : mget (mput l k v) k' = mget l k' := by
  induction l with
  | nil => simp [mput, mget, Ne.symm hk]
  | cons p r ih =>
    obtain ⟨a, b⟩ := p
    unfold mput
    split
    · rename_i h; subst h; simp [mget, Ne.symm hk]
    · simp only [mget, ih]
theorem mput_keys (l : List (κ × ν)) (k : κ) (v : ν) (x : κ) : x ∈ (mput l k v).map (·.1) ↔ x = k ∨ x ∈ l.map (·.1) := by
  induction l with
  | nil => simp [mput]
  | cons p r ih =>
    obtain ⟨a, b⟩ := p
    unfold mput
    split
    · rename_i h; subst h; simp
    · simp only [List.map_cons, List.mem_cons, ih]
      constructor
      · rintro (h | h | h)
        · exact .inr (.inl h)
        · exact .inl h
        · exact .inr (.inr h)
      · rintro (h | h | h)
        · exact .inr (.inl h)
        · exact .inl h
        · exact .inr (.inr h)
theorem mput_nodup (l : List (κ × ν)) (k : κ) (v : ν) (h : (l.map (·.1)).Nodup) : ((mput l k v).map (·.1)).Nodup := by
  induction l with
  | nil => simp [mput]
  | cons p r ih =>
    obtain ⟨a, b⟩ := p
    simp only [List.map_cons, List.nodup_cons] at h
    unfold mput
    split
    · rename_i he; subst he; simpa using h
    · rename_i he
      simp only [List.map_cons, List.nodup_cons]
      refine ⟨fun hm => ?_, ih h.2⟩
      rcases (mput_keys r k v a).1 hm with hh | hh
      · exact he hh
      · exact h.1 hh
/-- Where a key is first. -/
def fndI : List (κ × ν) → κ → Nat → Option Nat
  | [], _, _ => none
  | (a, _) :: r, k, i => if a = k then some i else fndI r k (i + 1)
theorem fndI_none : ∀ (l : List (κ × ν)) (k : κ) (i : Nat), fndI l k i = none → mget l k = none ∧ (∀ v, mput l k v = l ++ [(k, v)]) ∧ ∀ p ∈ l, p.1 ≠ k
  | [], _, _, _ => ⟨rfl, fun _ => rfl, by simp⟩
  | (a, b) :: r, k, i, h => by
    unfold fndI at h
    split at h
    · cases h
    · rename_i hne
      obtain ⟨h1, h2, h3⟩ := fndI_none r k (i + 1) h
      refine ⟨by simp [mget, hne, h1], fun v => by simp [mput, hne, h2], fun p hp => ?_⟩
      rcases List.mem_cons.1 hp with rfl | hp
      · exact hne
      · exact h3 p hp
theorem fndI_some : ∀ (l : List (κ × ν)) (k : κ) (i q : Nat), fndI l k i = some q → i ≤ q ∧ ∃ b, l[q - i]? = some (k, b) ∧ mget l k = some b ∧ ∀ v, mput l k v = l.set (q - i) (k, v)
  | [], _, _, _, h => by cases h
  | (a, b) :: r, k, i, q, h => by
    unfold fndI at h
    split at h
    · rename_i he
      injection h with h
      subst h; subst he
      exact ⟨Nat.le_refl _, b, by simp, by simp [mget], fun v => by simp [mput]⟩
    · rename_i hne
      obtain ⟨h1, c, h2, h3, h4⟩ := fndI_some r k (i + 1) q h
      have e1 : q - i = (q - (i + 1)) + 1 := by omega
      refine ⟨by omega, c, by rw [e1]; simpa using h2, by simp [mget, hne, h3], fun v => ?_⟩
      rw [e1]
      simp [mput, hne, h4]
end

/- ---- values and keys ---- -/
def VR {α : Type} (r : RT α) (ag : Bool) (w : World) (v : Value) (x : α) : Prop := match ag with
  | true => ∃ cs : List Value, v = .agg cs.toArray ∧ r.rep w cs x
  | false => r.rep w [v] x
def VO {α : Type} (o : OT α) (ag : Bool) (w : World) (v : Value) (x : α) (hs : Hp) : Prop := match ag with
  | true => ∃ cs : List Value, v = .agg cs.toArray ∧ o.rep w cs x hs
  | false => o.rep w [v] x hs
theorem VR.mono {α : Type} {r : RT α} {ag : Bool} {w w' : World} {v : Value} {x : α} (hk : Keeps w w') (h : VR r ag w v x) : VR r ag w' v x := by
  cases ag with
  | true => obtain ⟨cs, h1, h2⟩ := h; exact ⟨cs, h1, r.mono hk h2⟩
  | false => exact r.mono hk h
theorem VO.mono {α : Type} {o : OT α} {ag : Bool} {w w' : World} {v : Value} {x : α} {hs : Hp} (hk : Keeps w w') (h : VO o ag w v x hs) : VO o ag w' v x hs := by
  cases ag with
  | true => obtain ⟨cs, h1, h2⟩ := h; exact ⟨cs, h1, o.mono hk h2⟩
  | false => exact o.mono hk h
structure KeyOk {κ : Type} [DecidableEq κ] (P : Program) (kt : TypeId) (kr : RT κ) (ka : Bool) : Prop where
  lv : ∃ L, leaves P 9 kt = some L ∧ ∀ w cs a, kr.rep w cs a → All2 Leaf.ok L cs
  ag : aggB P kt = ka
  eq : ∀ w w' cs ds a c, kr.rep w cs a → kr.rep w' ds c → eqCells cs ds = decide (a = c)
section
variable {κ ν : Type} [DecidableEq κ] {P : Program} {kt : TypeId} {kr : RT κ} {ka : Bool}
theorem KeyOk.form (K : KeyOk P kt kr ka) {w : World} {v : Value} {x : κ} (h : VR kr ka w v x) : ∃ cs, v = mkV P kt cs ∧ kr.rep w cs x := by
  cases ka with
  | true => obtain ⟨cs, h1, h2⟩ := h; exact ⟨cs, by rw [h1]; simp [mkV, K.ag], h2⟩
  | false => exact ⟨[v], by simp [mkV, K.ag], h⟩
theorem run_checkKey_plain {P : Program} {em : Bool} : ∀ (d : Nat) (t : TypeId) (L : List Leaf), leaves P d t = some L → ∀ (k : Nat) (xs : List Value), All2 Leaf.ok L xs → ∀ w, (Instr.checkKey em (d + k) t (mkV P t xs)).run P w = .ok () w
  | 0, _, _, h, _, _, _, _ => by cases h
  | d + 1, t, L, h, k, xs, hx, w => by
    have hk : d + 1 + k = (d + k) + 1 := by omega
    rw [hk]
    unfold leaves at h
    split at h
    · rename_i hu
      split at h
      · injection h with h
        subst h
        match xs, hx with
        | [_], ⟨⟨a, rfl⟩, _⟩ => simp [Instr.checkKey, mkV, aggB, hu, run_underlying hu]
      · cases h
    · rename_i q hu
      split at h
      · injection h with h
        subst h
        match xs, hx with
        | [_], ⟨⟨a, rfl⟩, _⟩ => simp [Instr.checkKey, mkV, aggB, hu, run_underlying hu]
      · cases h
    · rename_i hu
      split at h
      · injection h with h
        subst h
        match xs, hx with
        | [_], ⟨⟨a, rfl⟩, _⟩ => simp [Instr.checkKey, mkV, aggB, hu, run_underlying hu]
      · cases h
    · rename_i fs hu
      split at h
      · cases h
      · split at h
        · rename_i l hl
          split at h
          · injection h with h
            subst h
            have hm : aggB P t = true := by simp [aggB, hu]
            simp only [mkV, hm, if_true, Instr.checkKey, Sem.run_bind, run_underlying hu, Result.andThen_ok]
            rw [← Array.forIn_toList]
            have key : ∀ (gs : List Field) (M : List Leaf) (px ux : List Value), leavesF (leaves P d) px.length gs = some M → All2 Leaf.ok M ux →
                Sem.run P ((forIn gs PUnit.unit fun (f : Field) (r : PUnit) => do
                  if f.name ≠ "_" then Instr.checkKey em (d + k) f.type (← part f.type (px ++ ux).toArray f.offset)
                  pure (ForInStep.yield PUnit.unit) : Sem PUnit)) w = .ok PUnit.unit w := by
              intro gs
              induction gs with
              | nil => intro M px ux _ _; simp
              | cons f gs ih =>
                intro M px ux hM h1
                unfold leavesF at hM
                split at hM
                · cases hM
                · rename_i hnf
                  have hn1 : f.name ≠ "_" := fun hh => hnf (.inl hh)
                  have hn2 : f.offset = px.length := by
                    rcases Nat.decEq f.offset px.length with hh | hh
                    · exact absurd (Or.inr hh) hnf
                    · exact hh
                  split at hM
                  · rename_i lf hlf
                    simp only [Option.map_eq_some_iff] at hM
                    obtain ⟨M', hM', rfl⟩ := hM
                    have e1 := h1.length
                    rw [List.length_append] at e1
                    have hux : ux = ux.take lf.length ++ ux.drop lf.length := (List.take_append_drop _ _).symm
                    have l1 : (ux.take lf.length).length = lf.length := by simp; omega
                    have a1 : All2 Leaf.ok lf (ux.take lf.length) := by have := h1.take lf.length; simpa using this
                    have b1 : All2 Leaf.ok M' (ux.drop lf.length) := by have := h1.drop lf.length; simpa using this
                    generalize ux.take lf.length = u1 at *
                    generalize ux.drop lf.length = v1 at *
                    subst hux
                    have p1 := run_part_plain (P := P) hlf (pr := px) (xs := u1) (po := v1) l1 w
                    have p3 := run_checkKey_plain (em := em) d f.type lf hlf k u1 a1 w
                    have p4 := ih M' (px ++ u1) v1 (by rw [List.length_append, l1]; exact hM') b1
                    simp only [List.append_assoc] at p1 p4
                    rw [List.forIn_cons]
                    simp only [hn1, ne_eq, not_false_eq_true, if_true, Sem.run_bind, hn2, p1, p3, Result.andThen_ok, Sem.run_pure]
                    exact p4
                  · cases hM
            have hk3 := key fs.toList l [] xs hl hx
            simp only [List.nil_append] at hk3
            rw [hk3]
            rfl
          · cases h
        · cases h
    · rename_i m x hu
      split at h
      · rename_i l hl
        split at h
        · injection h with h
          subst h
          have hm : aggB P t = true := by simp [aggB, hu]
          have hsz := leaves_siz hl
          simp only [mkV, hm, if_true, Instr.checkKey, Sem.run_bind, run_underlying hu, Result.andThen_ok]
          have key : ∀ (q i : Nat) (px ux : List Value), px.length = i * l.length → All2 Leaf.ok (List.replicate q l).flatten ux →
              Sem.run P ((forIn (List.range' i q) PUnit.unit fun (j : Nat) (r : PUnit) => do
                Instr.checkKey em (d + k) x (← part x (px ++ ux).toArray (j * (← sizeOf x)))
                pure (ForInStep.yield PUnit.unit) : Sem PUnit)) w = .ok PUnit.unit w := by
            intro q
            induction q with
            | zero => intro i px ux _ _; simp
            | succ q ih =>
              intro i px ux e1 h1
              rw [List.replicate_succ, List.flatten_cons] at h1
              have q1 := h1.length
              rw [List.length_append] at q1
              have hux : ux = ux.take l.length ++ ux.drop l.length := (List.take_append_drop _ _).symm
              have l1 : (ux.take l.length).length = l.length := by simp; omega
              have a1 : All2 Leaf.ok l (ux.take l.length) := by have := h1.take l.length; simpa using this
              have b1 : All2 Leaf.ok (List.replicate q l).flatten (ux.drop l.length) := by have := h1.drop l.length; simpa using this
              generalize ux.take l.length = u1 at *
              generalize ux.drop l.length = v1 at *
              subst hux
              have p1 := run_part_plain (P := P) hl (pr := px) (xs := u1) (po := v1) l1 w
              rw [e1] at p1
              have p3 := run_checkKey_plain (em := em) d x l hl k u1 a1 w
              have p4 := ih (i + 1) (px ++ u1) v1 (by rw [List.length_append, l1, e1, Nat.add_mul]; omega) b1
              simp only [List.append_assoc] at p1 p4
              rw [List.range'_succ, List.forIn_cons]
              simp only [Sem.run_bind, run_sizeOf hsz, p1, p3, Result.andThen_ok, Sem.run_pure] at p4 ⊢
              exact p4
          have hk2 := key m 0 [] xs (by simp) hx
          simp only [List.nil_append] at hk2
          simp only [Std.Legacy.Range.forIn_eq_forIn_range', Std.Legacy.Range.size, Nat.sub_zero, Nat.add_sub_cancel, Nat.div_one]
          rw [hk2]
          rfl
        · cases h
      · cases h
    · cases h
theorem KeyOk.check (K : KeyOk P kt kr ka) {w w' : World} {v : Value} {x : κ} (h : VR kr ka w v x) (em : Bool) : (Instr.checkKey em 10000 kt v).run P w' = .ok () w' := by
  obtain ⟨cs, rfl, h2⟩ := K.form h
  obtain ⟨L, h3, h4⟩ := K.lv
  exact run_checkKey_plain 9 kt L h3 9991 cs (h4 _ _ _ h2) w'
theorem KeyOk.equal (K : KeyOk P kt kr ka) {w w1 w2 : World} {v u : Value} {x y : κ} (h : VR kr ka w v x) (h' : VR kr ka w1 u y) : (Op.equal kt v u).run P w2 = .ok (decide (x = y)) w2 := by
  obtain ⟨cs, rfl, h2⟩ := K.form h
  obtain ⟨ds, rfl, h2'⟩ := K.form h'
  obtain ⟨L, h3, h4⟩ := K.lv
  rw [← K.eq _ _ _ _ _ _ h2 h2']
  exact run_eq_plain 9 kt L h3 9991 cs ds (h4 _ _ _ h2) (h4 _ _ _ h2') w2
theorem leaf_one_cases {P : Program} {d : Nat} {t : TypeId} {L : List Leaf} (h : leaves P d t = some L) (hg : aggB P t = false) : (P.underlying t = some .bool ∧ L = [.bool]) ∨ (∃ k, P.underlying t = some (.int k) ∧ L = [.int k]) ∨ (P.underlying t = some .string ∧ L = [.str]) := by
  cases d with
  | zero => cases h
  | succ d =>
    unfold leaves at h
    unfold aggB at hg
    split at h
    · rename_i hu
      split at h
      · injection h with h; exact .inl ⟨hu, h.symm⟩
      · cases h
    · rename_i k hu
      split at h
      · injection h with h; exact .inr (.inl ⟨k, hu, h.symm⟩)
      · cases h
    · rename_i hu
      split at h
      · injection h with h; exact .inr (.inr ⟨hu, h.symm⟩)
      · cases h
    · rename_i fs hu; rw [hu] at hg; cases hg
    · rename_i m x hu; rw [hu] at hg; cases hg
    · cases h
/-- What is found for a key. -/
def fnd : List MapEntry → List (κ × ν) → κ → Nat → Option (Nat × Value)
  | e :: es, (a, _) :: r, k, i => if a = k then some (i, e.val) else fnd es r k (i + 1)
  | _, _, _, _ => none
theorem run_findAsking (K : KeyOk P kt kr ka) {w w' : World} {key : Value} {k : κ} (hk : VR kr ka w key k) : ∀ {es : List MapEntry} {l : List (κ × ν)} (i : Nat), All2 (fun (e : MapEntry) (p : κ × ν) => VR kr ka w e.key p.1) es l → (Instr.findAsking kt key es i).run P w' = .ok (fnd es l k i) w'
  | [], [], i, _ => by simp [Instr.findAsking, fnd]
  | e :: es, (a, b) :: r, i, h => by
    have h1 := K.equal (w2 := w') hk h.1
    have h2 := run_findAsking K (w' := w') hk (i + 1) h.2
    simp only [Instr.findAsking, Sem.run_bind, h1, Result.andThen_ok, fnd]
    by_cases he : k = a
    · subst he; simp
    · have : ¬ a = k := fun hh => he hh.symm
      simp only [he, this, decide_false, if_false, Bool.false_eq_true]
      exact h2
theorem run_findKey (K : KeyOk P kt kr ka) {w w' : World} {key : Value} {k : κ} (hk : VR kr ka w key k) {es : List MapEntry} {l : List (κ × ν)} (h : All2 (fun (e : MapEntry) (p : κ × ν) => VR kr ka w e.key p.1) es l) : (Instr.findKey kt key es).run P w' = .ok (fnd es l k 0) w' := by
  obtain ⟨L, h3, h4⟩ := K.lv
  have hask := run_findAsking K (w' := w') hk 0 h
  cases ka with
  | true =>
    have hg := K.ag
    unfold aggB at hg
    have hnow : ∀ (td : TypeDesc), P.underlying kt = some td → Instr.findNow td key es 0 = some none ∧ es = [] ∨ Instr.findNow td key es 0 = none := by
      intro td htd
      cases es with
      | nil => exact .inl ⟨rfl, rfl⟩
      | cons e es =>
        right
        obtain ⟨cs, rfl, _⟩ := hk
        rw [htd] at hg
        simp only [Instr.findNow]
        cases td <;> simp_all [Instr.sameNow]
    cases hu : P.underlying kt with
    | none => rw [hu] at hg; cases hg
    | some td =>
      rcases hnow td hu with ⟨h5, h6⟩ | h5
      · subst h6
        match l, h with
        | [], _ => simp [Instr.findKey, run_underlying hu, h5, fnd]
      · simp [Instr.findKey, run_underlying hu, h5]
        simpa using hask
  | false =>
    have hstep : ∀ (td : TypeDesc), P.underlying kt = some td → (∀ (e : MapEntry) (p : κ × ν), VR kr false w e.key p.1 → Instr.sameNow td key e.key = some (decide (k = p.1))) → ∀ (es : List MapEntry) (l : List (κ × ν)) (i : Nat), All2 (fun (e : MapEntry) (p : κ × ν) => VR kr false w e.key p.1) es l → Instr.findNow td key es i = some (fnd es l k i) := by
      intro td _ hs es
      induction es with
      | nil => intro l i h; match l, h with | [], _ => rfl
      | cons e es ih =>
        intro l i h
        match l, h with
        | (a, b) :: r, h =>
          have h1 := hs e (a, b) h.1
          simp only at h1
          simp only [Instr.findNow, h1, fnd]
          by_cases he : k = a
          · subst he; simp
          · have : ¬ a = k := fun hh => he hh.symm
            simp only [he, this, decide_false, if_false]
            exact ih r (i + 1) h.2
    have hkey := h4 _ _ _ hk
    rcases leaf_one_cases h3 K.ag with ⟨hu, rfl⟩ | ⟨q, hu, rfl⟩ | ⟨hu, rfl⟩
    · obtain ⟨⟨x, rfl⟩, _⟩ := hkey
      have := hstep .bool hu (fun e p hp => by
        obtain ⟨⟨y, hy⟩, _⟩ := h4 _ _ _ hp
        have he := K.eq _ _ _ _ _ _ hk hp
        rw [hy] at he ⊢
        simp only [eqCells, eqCell, Bool.and_true] at he
        simp [Instr.sameNow, he]) es l 0 h
      simp [Instr.findKey, run_underlying hu, this]
    · obtain ⟨⟨x, rfl⟩, _⟩ := hkey
      have := hstep (.int q) hu (fun e p hp => by
        obtain ⟨⟨y, hy⟩, _⟩ := h4 _ _ _ hp
        have he := K.eq _ _ _ _ _ _ hk hp
        rw [hy] at he ⊢
        simp only [eqCells, eqCell, Bool.and_true] at he
        simp only [Instr.sameNow, if_true]
        exact congrArg some he) es l 0 h
      simp [Instr.findKey, run_underlying hu, this]
    · obtain ⟨⟨x, rfl⟩, _⟩ := hkey
      have := hstep .string hu (fun e p hp => by
        obtain ⟨⟨y, hy⟩, _⟩ := h4 _ _ _ hp
        have he := K.eq _ _ _ _ _ _ hk hp
        rw [hy] at he ⊢
        simp only [eqCells, eqCell, Bool.and_true] at he
        simp only [Instr.sameNow, beq_toListBytes]
        exact congrArg some he) es l 0 h
      simp [Instr.findKey, run_underlying hu, this]
theorem fnd_eq {w : World} : ∀ {es : List MapEntry} {l : List (κ × ν)} (k : κ) (i : Nat), es.length = l.length → fnd es l k i = (fndI l k i).bind fun q => (es[q - i]?).map fun e => (q, e.val)
  | [], [], _, _, _ => rfl
  | e :: es, (a, b) :: r, k, i, h => by
    unfold fnd fndI
    split
    · simp
    · rw [fnd_eq (w := w) k (i + 1) (by simpa using h)]
      cases hq : fndI r k (i + 1) with
      | none => rfl
      | some q =>
        have := (fndI_some r k (i + 1) q hq).1
        simp only [Option.bind_some]
        rw [show q - i = (q - (i + 1)) + 1 by omega]
        simp
theorem leaf_same {L : Leaf} {x y : Value} (hx : L.ok x) (hy : L.ok y) (h : eqCell x y = true) (n : Nat) : Instr.sameBits n x y = true := by
  cases L with
  | int k => obtain ⟨a, rfl⟩ := hx; obtain ⟨c, rfl⟩ := hy; cases n <;> simpa [Instr.sameBits, eqCell] using h
  | bool => obtain ⟨a, rfl⟩ := hx; obtain ⟨c, rfl⟩ := hy; cases n <;> simpa [Instr.sameBits, eqCell] using h
  | str =>
    obtain ⟨a, rfl⟩ := hx; obtain ⟨c, rfl⟩ := hy
    simp only [eqCell] at h
    rw [← beq_toListBytes] at h
    cases n <;> simpa [Instr.sameBits] using h
theorem leaves_same : ∀ {L : List Leaf} {xs ys : List Value}, All2 Leaf.ok L xs → All2 Leaf.ok L ys → eqCells xs ys = true → ∀ n, xs.length = ys.length ∧ (xs.zip ys).all (fun (x, y) => Instr.sameBits n x y) = true
  | [], [], [], _, _, _, _ => by simp
  | _ :: _, x :: xs, y :: ys, h1, h2, h, n => by
    simp only [eqCells, Bool.and_eq_true] at h
    obtain ⟨e1, e2⟩ := leaves_same h1.2 h2.2 h.2 n
    refine ⟨by simp [e1], ?_⟩
    simp only [List.zip_cons_cons, List.all_cons, Bool.and_eq_true]
    exact ⟨leaf_same h1.1 h2.1 h.1 n, e2⟩
theorem KeyOk.stays (K : KeyOk P kt kr ka) {w w1 w2 : World} {v u : Value} {x : κ} (h : VR kr ka w v x) (h' : VR kr ka w1 u x) : (Instr.keyThatStays v u).run P w2 = .ok u w2 := by
  obtain ⟨L, h3, h4⟩ := K.lv
  have : Instr.sameBits 10000 v u = true := by
    cases ka with
    | true =>
      obtain ⟨cs, rfl, h2⟩ := h
      obtain ⟨ds, rfl, h2'⟩ := h'
      have he := K.eq _ _ _ _ _ _ h2 h2'
      simp only [decide_true] at he
      obtain ⟨e1, e2⟩ := leaves_same (h4 _ _ _ h2) (h4 _ _ _ h2') he 9999
      simp only [Instr.sameBits, List.size_toArray, e1, beq_self_eq_true, Bool.true_and]
      simpa using e2
    | false =>
      have he := K.eq _ _ _ _ _ _ h h'
      have h5 := h4 _ _ _ h
      have h6 := h4 _ _ _ h'
      simp only [decide_true] at he
      match L, h5, h6 with
      | [l0], h5, h6 =>
        simp only [eqCells, Bool.and_true] at he
        exact leaf_same h5.1 h6.1 he 10000
  simp [Instr.keyThatStays, this]

/- ---- maps of the call's own ---- -/
/-- The stamps of a map's entries. -/
def Born (es : List MapEntry) (cl : Nat) : Prop := (∀ e ∈ es, e.born < cl) ∧ (es.map (·.born)).Nodup
theorem born_push {es : List MapEntry} {cl : Nat} (h : Born es cl) (k v : Value) : Born (es ++ [{ key := k, val := v, born := cl }]) (cl + 1) := by
  refine ⟨fun e he => ?_, ?_⟩
  · rcases List.mem_append.1 he with he | he
    · have := h.1 e he; omega
    · rw [List.mem_singleton.1 he]; exact Nat.lt_succ_self _
  · rw [List.map_append, List.nodup_append]
    refine ⟨h.2, List.nodup_cons.2 ⟨List.not_mem_nil, .nil⟩, fun a ha b hb e => ?_⟩
    obtain ⟨y, hy, rfl⟩ := List.mem_map.1 ha
    have hb : b = cl := by simpa using hb
    have := h.1 y hy
    omega
theorem born_map {f : MapEntry → MapEntry} (hf : ∀ e, (f e).born = e.born) : ∀ (es : List MapEntry) (q : Nat), (es.modify q f).map (·.born) = es.map (·.born)
  | [], q => by cases q <;> rfl
  | e :: es, 0 => by simp [hf]
  | e :: es, q + 1 => by simp [born_map hf es q]
theorem born_modify {es : List MapEntry} {cl : Nat} (h : Born es cl) (k v : Value) (q : Nat) : Born (es.modify q fun e => { e with key := k, val := v }) cl := by
  have hm := born_map (f := fun e => { e with key := k, val := v }) (fun _ => rfl) es q
  refine ⟨fun e he => ?_, by rw [hm]; exact h.2⟩
  have h1 : e.born ∈ (es.modify q fun e => { e with key := k, val := v }).map (·.born) := List.mem_map.2 ⟨e, he, rfl⟩
  rw [hm] at h1
  obtain ⟨y, hy, e1⟩ := List.mem_map.1 h1
  rw [← e1]
  exact h.1 y hy
def OM0 {κ ν : Type} (kr : RT κ) (vo : OT ν) (ka va : Bool) (w : World) (g : Nat) (l : List (κ × ν)) (hs : Hp) : Prop :=
  ∃ (es : List MapEntry) (clock : Nat) (hss : List Hp), hs = (g, .map es.toArray clock) :: hss.flatten ∧ All3 (fun (e : MapEntry) (p : κ × ν) (q : Hp) => VR kr ka w e.key p.1 ∧ VO vo va w e.val p.2 q) es l hss ∧ (l.map (·.1)).Nodup ∧ Born es clock
/-- .. of which what lies at key 'k' has been taken out. -/
def OMH0 {κ ν : Type} (kr : RT κ) (vo : OT ν) (ka va : Bool) (w : World) (g : Nat) (l : List (κ × ν)) (k : κ) (hs : Hp) : Prop :=
  ∃ (es : List MapEntry) (clock : Nat) (hss : List Hp), hs = (g, .map es.toArray clock) :: hss.flatten ∧ All3 (fun (e : MapEntry) (p : κ × ν) (q : Hp) => VR kr ka w e.key p.1 ∧ (p.1 ≠ k → VO vo va w e.val p.2 q) ∧ (p.1 = k → q = [])) es l hss ∧ (l.map (·.1)).Nodup ∧ Born es clock
variable {vo : OT ν} {va : Bool} {w : World} {g : Nat} {l : List (κ × ν)} {k : κ} {hs : Hp}
theorem OM0.mono {w' : World} (hk : Keeps w w') (h : OM0 kr vo ka va w g l hs) : OM0 kr vo ka va w' g l hs := by
  obtain ⟨es, cl, hss, h1, h2, h3⟩ := h
  exact ⟨es, cl, hss, h1, h2.imp (fun _ _ _ h => ⟨h.1.mono hk, h.2.mono hk⟩), h3⟩
theorem OMH0.mono {w' : World} (hk : Keeps w w') (h : OMH0 kr vo ka va w g l k hs) : OMH0 kr vo ka va w' g l k hs := by
  obtain ⟨es, cl, hss, h1, h2, h3⟩ := h
  exact ⟨es, cl, hss, h1, h2.imp (fun _ _ _ h => ⟨h.1.mono hk, fun hh => (h.2.1 hh).mono hk, h.2.2⟩), h3⟩
theorem OM0.le {b b' : Base} (h : OM0 kr vo ka va b.w g l hs) (hle : b.Le b') : OM0 kr vo ka va b'.w g l hs := h.mono hle.cells
theorem OMH0.le {b b' : Base} (h : OMH0 kr vo ka va b.w g l k hs) (hle : b.Le b') : OMH0 kr vo ka va b'.w g l k hs := h.mono hle.cells
theorem all3_keys {Q : MapEntry → κ × ν → Hp → Prop} {R : MapEntry → κ × ν → Prop} (hi : ∀ e p q, Q e p q → R e p) : ∀ {es : List MapEntry} {l : List (κ × ν)} {hss : List Hp}, All3 Q es l hss → All2 R es l
  | [], [], [], _ => trivial
  | _ :: _, _ :: _, _ :: _, h => ⟨hi _ _ _ h.1, all3_keys hi h.2⟩
theorem own_map {b : Base} {hp : Hp} {w' : World} {o : Obj} (ho : Own b hp w') (hm : (g, o) ∈ hp) : w'.heap[g]? = some o := (ho.blk g o hm).2
/-- What a look-up yields. -/
theorem OM0.look (K : KeyOk P kt kr ka) {b : Base} {et mt : TypeId} {z : Value} {key : Value} (h : OM0 kr vo ka va b.w g l hs) (hk : VR kr ka b.w key k) (hm : P.underlying mt = some (.map kt et)) (hz : (P.info? et).bind (·.zero) = some z) :
    ∃ r : Option Value, (∀ hp w', Own b hp w' → hs.Sublist hp → ∀ ok : Bool, (Instr.lookup mt (.map (some g)) key ok).run P w' = .ok (if ok then .tuple #[r.getD z, .bool (mhas l k)] else r.getD z) w') ∧
      ((r = none ∧ mget l k = none ∧ OMH0 kr vo ka va b.w g l k hs) ∨ ∃ x v hsk hs', r = some v ∧ mget l k = some x ∧ VO vo va b.w v x hsk ∧ (hs' ++ hsk).Perm hs ∧ OMH0 kr vo ka va b.w g l k hs') := by
  obtain ⟨es, cl, hss, h1, h2, h3⟩ := h
  have hkeys : All2 (fun (e : MapEntry) (p : κ × ν) => VR kr ka b.w e.key p.1) es l := all3_keys (fun _ _ _ h => h.1) h2
  have hlen := hkeys.length
  have hrun : ∀ hp w', Own b hp w' → hs.Sublist hp → ∀ (ok : Bool) (rv : Option Value) (hb : Bool), (fnd es l k 0).map (·.2) = rv → rv.isSome = hb → (Instr.lookup mt (.map (some g)) key ok).run P w' = .ok (if ok then .tuple #[rv.getD z, .bool hb] else rv.getD z) w' := by
    intro hp w' ho hsub ok rv hb hrv hhb
    have hblk := own_map ho (hsub.subset (by rw [h1]; exact List.mem_cons_self))
    have hfind := run_findKey (w' := w') K hk hkeys
    have hzv : (zeroValue et).run P w' = .ok z w' := by
      cases hi : P.info? et with
      | none => simp [hi] at hz
      | some i =>
        have hz' : i.zero = some z := by simpa [hi] using hz
        simp [zeroValue, typeInfo, hi, hz']
    simp only [Instr.lookup, Sem.run_bind, run_underlying hm, MapKept.run_getObj_map hblk, Result.andThen_ok, Sem.run_pure, K.check hk, hfind]
    subst hrv; subst hhb
    cases hq : fnd es l k 0 with
    | none => cases ok <;> simp [hzv]
    | some q => cases ok <;> simp
  cases hq : fndI l k 0 with
  | none =>
    obtain ⟨g1, g2, g3⟩ := fndI_none l k 0 hq
    have hf : fnd es l k 0 = none := by rw [fnd_eq (w := b.w) k 0 hlen, hq]; rfl
    refine ⟨none, fun hp w' ho hsub ok => hrun hp w' ho hsub ok none (mhas l k) (by rw [hf]; rfl) (by simp [mhas, g1]), .inl ⟨rfl, g1, es, cl, hss, h1, ?_, h3⟩⟩
    have : ∀ {es : List MapEntry} {l : List (κ × ν)} {hss : List Hp}, All3 (fun (e : MapEntry) (p : κ × ν) (q : Hp) => VR kr ka b.w e.key p.1 ∧ VO vo va b.w e.val p.2 q) es l hss → (∀ p ∈ l, p.1 ≠ k) → All3 (fun (e : MapEntry) (p : κ × ν) (q : Hp) => VR kr ka b.w e.key p.1 ∧ (p.1 ≠ k → VO vo va b.w e.val p.2 q) ∧ (p.1 = k → q = [])) es l hss := by
      intro es
      induction es with
      | nil => intro l hss h _; match l, hss, h with | [], [], _ => trivial
      | cons e es ih =>
        intro l hss h hn
        match l, hss, h with
        | p :: l, q :: hss, h => exact ⟨⟨h.1.1, fun _ => h.1.2, fun hh => absurd hh (hn p (by simp))⟩, ih h.2 (fun p hp => hn p (by simp [hp]))⟩
    exact this h2 g3
  | some q =>
    obtain ⟨_, x, g1, g2, g3⟩ := fndI_some l k 0 q hq
    simp only [Nat.sub_zero] at g1
    obtain ⟨e, hsk, e1, e2, e3⟩ := h2.get g1
    have hf : fnd es l k 0 = some (q, e.val) := by rw [fnd_eq (w := b.w) k 0 hlen, hq]; simp [e1]
    refine ⟨some e.val, fun hp w' ho hsub ok => hrun hp w' ho hsub ok (some e.val) (mhas l k) (by rw [hf]; rfl) (by simp [mhas, g2]), .inr ⟨x, e.val, hsk, (g, .map es.toArray cl) :: (hss.set q []).flatten, rfl, g2, e3.2, ?_, es, cl, hss.set q [], rfl, ?_, h3⟩⟩
    · rw [h1, flat_set [] (List.getElem?_eq_some_iff.1 e2).1, flat_split e2]
      simp only [List.cons_append, List.nil_append]
      refine .cons _ ?_
      rw [List.append_assoc]
      exact .append_left _ (List.perm_append_comm)
    · have hnd : ∀ (j : Nat) (p : κ × ν), l[j]? = some p → p.1 = k → j = q := by
        intro j p hj hp
        have hlt := (List.getElem?_eq_some_iff.1 hj).1
        have e4 : (l.map (·.1))[j]? = some k := by simp [hj, hp]
        have e5 : (l.map (·.1))[q]? = some k := by simp [g1]
        exact (List.getElem?_inj (by simpa using hlt) h3.1).1 (e4.trans e5.symm)
      have key : ∀ {es : List MapEntry} {l : List (κ × ν)} {hss : List Hp} (q : Nat), All3 (fun (e : MapEntry) (p : κ × ν) (q : Hp) => VR kr ka b.w e.key p.1 ∧ VO vo va b.w e.val p.2 q) es l hss → (∀ (j : Nat) (p : κ × ν), l[j]? = some p → p.1 = k → j = q) → (∃ x, l[q]? = some (k, x)) →
          All3 (fun (e : MapEntry) (p : κ × ν) (q : Hp) => VR kr ka b.w e.key p.1 ∧ (p.1 ≠ k → VO vo va b.w e.val p.2 q) ∧ (p.1 = k → q = [])) es l (hss.set q []) := by
        intro es
        induction es with
        | nil => intro l hss q h _ hx; match l, hss, h with | [], [], _ => obtain ⟨x, hx⟩ := hx; simp at hx
        | cons e es ih =>
          intro l hss q h hn hx
          match l, hss, h with
          | p :: l, r :: hss, h =>
            cases q with
            | zero =>
              obtain ⟨x, hx⟩ := hx
              simp at hx
              subst hx
              refine ⟨⟨h.1.1, fun hh => absurd rfl hh, fun _ => rfl⟩, ?_⟩
              have hh : ∀ p ∈ l, p.1 ≠ k := fun p hp he => by
                obtain ⟨j, hj⟩ := List.mem_iff_getElem?.1 hp
                have := hn (j + 1) p (by simpa using hj) he
                omega
              have : ∀ {es : List MapEntry} {l : List (κ × ν)} {hss : List Hp}, All3 (fun (e : MapEntry) (p : κ × ν) (q : Hp) => VR kr ka b.w e.key p.1 ∧ VO vo va b.w e.val p.2 q) es l hss → (∀ p ∈ l, p.1 ≠ k) → All3 (fun (e : MapEntry) (p : κ × ν) (q : Hp) => VR kr ka b.w e.key p.1 ∧ (p.1 ≠ k → VO vo va b.w e.val p.2 q) ∧ (p.1 = k → q = [])) es l hss := by
                intro es
                induction es with
                | nil => intro l hss h _; match l, hss, h with | [], [], _ => trivial
                | cons e es ih =>
                  intro l hss h hn
                  match l, hss, h with
                  | p :: l, q :: hss, h => exact ⟨⟨h.1.1, fun _ => h.1.2, fun hh => absurd hh (hn p (by simp))⟩, ih h.2 (fun p hp => hn p (by simp [hp]))⟩
              exact this h.2 hh
            | succ q =>
              refine ⟨⟨h.1.1, fun _ => h.1.2, fun he => ?_⟩, ih q h.2 (fun j p hj hp => ?_) ?_⟩
              · have := hn 0 p rfl he
                omega
              · have := hn (j + 1) p (by simpa using hj) hp
                omega
              · obtain ⟨x, hx⟩ := hx
                exact ⟨x, by simpa using hx⟩
      exact key q h2 hnd ⟨x, g1⟩
/-- A look-up of values that are frozen: the map stays whole. -/
theorem OM0.lookF (K : KeyOk P kt kr ka) {vr : RT ν} {b : Base} {et mt : TypeId} {z : Value} {z0 : ν} {key : Value} (h : OM0 kr (OT.fr vr) ka va b.w g l hs) (hk : VR kr ka b.w key k) (hm : P.underlying mt = some (.map kt et)) (hz : (P.info? et).bind (·.zero) = some z) (hz0 : VR vr va b.w z z0) :
    ∃ v, VR vr va b.w v (mgetD l k z0) ∧ ∀ hp w', Own b hp w' → hs.Sublist hp → ∀ ok : Bool, (Instr.lookup mt (.map (some g)) key ok).run P w' = .ok (if ok then .tuple #[v, .bool (mhas l k)] else v) w' := by
  obtain ⟨r, h1, h2⟩ := OM0.look K h hk hm hz
  rcases h2 with ⟨rfl, h3, _⟩ | ⟨x, v, hsk, hs', rfl, h3, h4, _⟩
  · exact ⟨z, by simpa [mgetD, h3] using hz0, h1⟩
  · refine ⟨v, ?_, h1⟩
    simp only [mgetD, h3, Option.getD_some]
    cases va with
    | true => obtain ⟨cs, q1, q2⟩ := h4; exact ⟨cs, q1, q2.1⟩
    | false => exact h4.1
/-- A look-up of a slice of the call's own: it is taken out. -/
theorem OM0.take {β : Type} {el : TypeId} {o : OT β} {l : List (κ × List β)} (K : KeyOk P kt kr ka) {b : Base} {et mt : TypeId} {key : Value} (h : OM0 kr (OT.list el o) ka false b.w g l hs) (hk : VR kr ka b.w key k) (hm : P.underlying mt = some (.map kt et)) (hz : (P.info? et).bind (·.zero) = some (.slice none 0 0)) :
    ∃ A c hsk hs', OS el o b.w (.slice A (mgetD l k []).length c) (mgetD l k []) hsk ∧ (hs' ++ hsk).Perm hs ∧ OMH0 kr (OT.list el o) ka false b.w g l k hs' ∧ ∀ hp w', Own b hp w' → hs.Sublist hp → (Instr.lookup mt (.map (some g)) key false).run P w' = .ok (.slice A (mgetD l k []).length c) w' := by
  obtain ⟨r, h1, h2⟩ := OM0.look K h hk hm hz
  rcases h2 with ⟨rfl, h3, h4⟩ | ⟨x, v, hsk, hs', rfl, h3, h4, h5, h6⟩
  · refine ⟨none, 0, [], hs, ?_, by simp, h4, fun hp w' ho hsub => ?_⟩
    · simp only [mgetD, h3]
      exact OS.nil
    · have := h1 hp w' ho hsub false
      simpa [mgetD, h3] using this
  · obtain ⟨u, hu, h7⟩ := h4
    injection hu with hu _
    subst hu
    obtain ⟨A, c, rfl, _⟩ := h7.form
    refine ⟨A, c, hsk, hs', ?_, h5, h6, fun hp w' ho hsub => ?_⟩
    · simp only [mgetD, h3, Option.getD_some]; exact h7
    · have := h1 hp w' ho hsub false
      simpa [mgetD, h3] using this
theorem OM0.hole (h : OM0 kr vo ka va w g l hs) (k : κ) : ∃ hs', hs'.Sublist hs ∧ OMH0 kr vo ka va w g l k hs' := by
  obtain ⟨es, cl, hss, h1, h2, h3⟩ := h
  have key : ∀ {es : List MapEntry} {l : List (κ × ν)} {hss : List Hp}, All3 (fun (e : MapEntry) (p : κ × ν) (q : Hp) => VR kr ka w e.key p.1 ∧ VO vo va w e.val p.2 q) es l hss →
      ∃ hss', All3 (fun (e : MapEntry) (p : κ × ν) (q : Hp) => VR kr ka w e.key p.1 ∧ (p.1 ≠ k → VO vo va w e.val p.2 q) ∧ (p.1 = k → q = [])) es l hss' ∧ hss'.flatten.Sublist hss.flatten := by
    intro es
    induction es with
    | nil => intro l hss h; match l, hss, h with | [], [], _ => exact ⟨[], trivial, .refl _⟩
    | cons e es ih =>
      intro l hss h
      match l, hss, h with
      | p :: l, q :: hss, h =>
        obtain ⟨hss', h4, h5⟩ := ih h.2
        by_cases hp : p.1 = k
        · exact ⟨[] :: hss', ⟨⟨h.1.1, fun hh => absurd hp hh, fun _ => rfl⟩, h4⟩, by simpa using h5.trans (List.sublist_append_right _ _)⟩
        · exact ⟨q :: hss', ⟨⟨h.1.1, fun _ => h.1.2, fun hh => absurd hh hp⟩, h4⟩, by simpa using (List.Sublist.refl q).append h5⟩
  obtain ⟨hss', h4, h5⟩ := key h2
  exact ⟨(g, .map es.toArray cl) :: hss'.flatten, by rw [h1]; exact h5.cons_cons _, es, cl, hss', rfl, h4, h3⟩
theorem Own.turnMap {b : Base} {hp : Hp} {w' : World} {i : Nat} {o o' : Obj} (h : Own b hp w') (hi : hp[i]? = some (g, o)) : Own b (hp.set i (g, o')) { w' with heap := w'.heap.setIfInBounds g o' } := by
  have hlt := h.lt (List.mem_of_getElem? hi)
  refine h.turn hi rfl rfl rfl (by simp) (by simp [hlt]) (fun j hj => ?_)
  exact Array.getElem?_setIfInBounds_ne (Ne.symm hj)
theorem set_mid {α : Type} (F : List α) (x y : α) (t : List α) : (F ++ x :: t).set F.length y = F ++ y :: t := by simp
theorem all3_at {α β γ : Type} {R S : α → β → γ → Prop} (f : α → α) : ∀ {es : List α} {l : List β} {hss : List γ} (q : Nat) {e : α} {p p' : β} {h' : γ}, All3 R es l hss → es[q]? = some e → l[q]? = some p → S (f e) p' h' → (∀ (j : Nat) (a : α) (b : β) (c : γ), j ≠ q → es[j]? = some a → l[j]? = some b → hss[j]? = some c → R a b c → S a b c) → All3 S (es.modify q f) (l.set q p') (hss.set q h')
  | [], [], [], q, e, p, p', h', _, he, _, _, _ => by simp at he
  | a :: es, b :: l, c :: hss, 0, e, p, p', h', h, he, hp, hS, hR => by
    simp at he
    subst he
    refine ⟨by simpa using hS, ?_⟩
    have : ∀ {es : List α} {l : List β} {hss : List γ}, All3 R es l hss → (∀ (j : Nat) (a : α) (b : β) (c : γ), es[j]? = some a → l[j]? = some b → hss[j]? = some c → R a b c → S a b c) → All3 S es l hss := by
      intro es
      induction es with
      | nil => intro l hss h _; match l, hss, h with | [], [], _ => trivial
      | cons a es ih =>
        intro l hss h hR
        match l, hss, h with
        | b :: l, c :: hss, h => exact ⟨hR 0 a b c rfl rfl rfl h.1, ih h.2 (fun j x y z h1 h2 h3 h4 => hR (j + 1) x y z (by simpa using h1) (by simpa using h2) (by simpa using h3) h4)⟩
    exact this h.2 (fun j x y z h1 h2 h3 h4 => hR (j + 1) x y z (by omega) (by simpa using h1) (by simpa using h2) (by simpa using h3) h4)
  | a :: es, b :: l, c :: hss, q + 1, e, p, p', h', h, he, hp, hS, hR => by
    refine ⟨hR 0 a b c (by omega) rfl rfl rfl h.1, ?_⟩
    exact all3_at f q h.2 (by simpa using he) (by simpa using hp) hS (fun j x y z hj h1 h2 h3 h4 => hR (j + 1) x y z (by omega) (by simpa using h1) (by simpa using h2) (by simpa using h3) h4)
section
variable {n : NT} {m : Nat} {dk0 : Hp} {rq : Option Nat} {b : Base} {e : Env} {hp : Hp} {ty : TypeId}
/-- A key is given a value. -/
theorem u_mput0 (K : KeyOk P kt kr ka) (F hn R : Hp) {et mt : TypeId} {xm xk xv : Operand} {key val_ : Value} {x : ν} (hhp : hp = F ++ (hs ++ (hn ++ R))) (h : OMH0 kr vo ka va b.w g l k hs) (hm : P.underlying mt = some (.map kt et))
    (h1 : val e xm = some (.map (some g))) (h2 : val e xk = some key) (h3 : val e xv = some val_) (hk : VR kr ka b.w key k) (hv : VO vo va b.w val_ x hn) (op : Op) (hop : op = .mapUpdate mt xm xk xv ∨ op = .insert mt xm xk xv) :
    Does P n b op ty e hp (fun _ hp' => ∃ hs', hp' = F ++ (hs' ++ R) ∧ hn.Sublist hs' ∧ OM0 kr vo ka va b.w g (mput l k x) hs') := does_skip fun a w hf ho => by
  obtain ⟨es, cl, hss, g1, g2, g3⟩ := h
  have hkeys : All2 (fun (e : MapEntry) (p : κ × ν) => VR kr ka b.w e.key p.1) es l := all3_keys (fun _ _ _ h => h.1) g2
  have hlen := hkeys.length
  have hi : hp[F.length]? = some (g, .map es.toArray cl) := by rw [hhp, g1]; simp
  have hblk := own_map ho (List.mem_of_getElem? hi)
  have hfind := run_findKey (w' := w) K hk hkeys
  have hrun : ∀ (o' : Obj), (match fnd es l k 0 with | some (i, _) => o' = .map (es.toArray.modify i fun e => { e with key := key, val := val_ }) cl | none => o' = .map (es.toArray.push { key := key, val := val_, born := cl }) (cl + 1)) →
      ∀ d pos af gg, (execOp a.eval ⟨d, op, ty, pos, af, gg⟩).run P w = .ok .skip { w with heap := w.heap.setIfInBounds g o' } := by
    intro o' ho' d pos af gg
    have hu : (Instr.mapUpdate mt (.map (some g)) key val_).run P w = .ok () { w with heap := w.heap.setIfInBounds g o' } := by
      simp only [Instr.mapUpdate, Sem.run_bind, run_underlying hm, MapKept.run_getObj_map hblk, Result.andThen_ok, K.check hk, hfind]
      cases hq : fnd es l k 0 with
      | none => rw [hq] at ho'; subst ho'; simp [MapKept.run_setObj_map _ hblk]
      | some q =>
        obtain ⟨i, v0⟩ := q
        rw [hq] at ho'
        subst ho'
        have hfe := fnd_eq (w := w) (es := es) (l := l) k 0 hlen
        rw [hq] at hfe
        cases hq2 : fndI l k 0 with
        | none => rw [hq2] at hfe; cases hfe
        | some q2 =>
          obtain ⟨_, y, c1, c2, c3⟩ := fndI_some l k 0 q2 hq2
          rw [hq2] at hfe
          simp only [Option.bind_some, Nat.sub_zero] at hfe c1
          obtain ⟨e0, e1, e2⟩ := hkeys.get c1
          rw [e1] at hfe
          simp only [Option.map_some, Option.some.injEq, Prod.mk.injEq] at hfe
          obtain ⟨rfl, rfl⟩ := hfe
          have hst := K.stays (w2 := w) e2 hk
          simp [e1, hst, MapKept.run_setObj_map _ hblk]
    rcases hop with rfl | rfl <;> simp [execOp, hf.eval h1, hf.eval h2, hf.eval h3, hu]
  cases hq2 : fndI l k 0 with
  | none =>
    obtain ⟨c1, c2, c3⟩ := fndI_none l k 0 hq2
    have hf0 : fnd es l k 0 = none := by rw [fnd_eq (w := w) k 0 hlen, hq2]; rfl
    refine ⟨_, F ++ (((g, .map (es ++ [({ key := key, val := val_, born := cl } : MapEntry)]).toArray (cl + 1)) :: (hss ++ [hn]).flatten) ++ R), hrun _ (by rw [hf0]), ?_, _, rfl, (by simp only [List.flatten_append, List.flatten_cons, List.flatten_nil, List.append_nil]; exact (List.sublist_append_right _ _).trans (List.sublist_cons_self _ _)), es ++ [({ key := key, val := val_, born := cl } : MapEntry)], cl + 1, hss ++ [hn], rfl, ?_, mput_nodup l k x g3.1, born_push g3.2 _ _⟩
    · have ho2 := ho.turnMap (o' := .map (es.toArray.push { key := key, val := val_, born := cl }) (cl + 1)) hi
      rw [hhp, g1] at ho2
      simp only [List.cons_append] at ho2
      rw [set_mid] at ho2
      have e1 : (es ++ [({ key := key, val := val_, born := cl } : MapEntry)]).toArray = es.toArray.push { key := key, val := val_, born := cl } := by simp
      rw [e1]
      simpa [List.append_assoc] using ho2
    · rw [c2 x]
      have key2 : ∀ {es : List MapEntry} {l : List (κ × ν)} {hss : List Hp}, All3 (fun (e : MapEntry) (p : κ × ν) (q : Hp) => VR kr ka b.w e.key p.1 ∧ (p.1 ≠ k → VO vo va b.w e.val p.2 q) ∧ (p.1 = k → q = [])) es l hss → (∀ p ∈ l, p.1 ≠ k) → All3 (fun (e : MapEntry) (p : κ × ν) (q : Hp) => VR kr ka b.w e.key p.1 ∧ VO vo va b.w e.val p.2 q) es l hss := by
        intro es
        induction es with
        | nil => intro l hss h _; match l, hss, h with | [], [], _ => trivial
        | cons e es ih =>
          intro l hss h hn
          match l, hss, h with
          | p :: l, q :: hss, h => exact ⟨⟨h.1.1, h.1.2.1 (hn p (by simp))⟩, ih h.2 (fun p hp => hn p (by simp [hp]))⟩
      exact All3.append (key2 g2 c3) ⟨⟨hk, hv⟩, trivial⟩
  | some q =>
    obtain ⟨_, y, c1, c2, c3⟩ := fndI_some l k 0 q hq2
    simp only [Nat.sub_zero] at c1 c3
    obtain ⟨e0, hsk, e1, e2, e3⟩ := g2.get c1
    have hf0 : fnd es l k 0 = some (q, e0.val) := by rw [fnd_eq (w := w) k 0 hlen, hq2]; simp [e1]
    have hskn : hsk = [] := e3.2.2 rfl
    subst hskn
    refine ⟨_, F ++ (((g, .map (es.modify q fun e => { e with key := key, val := val_ }).toArray cl) :: (hss.set q hn).flatten) ++ R), hrun _ (by rw [hf0]), ?_, _, rfl, (by rw [flat_set hn (List.getElem?_eq_some_iff.1 e2).1]; exact ((List.sublist_append_left _ _).trans (List.sublist_append_right _ _)).trans (List.sublist_cons_self _ _)), es.modify q fun e => { e with key := key, val := val_ }, cl, hss.set q hn, rfl, ?_, mput_nodup l k x g3.1, born_modify g3.2 _ _ q⟩
    · have ho2 := ho.turnMap (o' := .map (es.toArray.modify q fun e => { e with key := key, val := val_ }) cl) hi
      rw [hhp, g1] at ho2
      simp only [List.cons_append] at ho2
      rw [set_mid] at ho2
      have e4 : (es.modify q fun e => { e with key := key, val := val_ }).toArray = es.toArray.modify q fun e => { e with key := key, val := val_ } := by
        apply Array.ext'
        simp
      rw [e4]
      have hpm := perm_set (F := F) (R := R) [(g, .map (es.toArray.modify q fun e => { e with key := key, val := val_ }) cl)] (y := hn) e2
      refine (ho2.perm (hpm.trans ?_))
      rw [flat_split e2]
      simp
    · rw [c3 x]
      refine all3_at (S := fun (e : MapEntry) (p : κ × ν) (q : Hp) => VR kr ka b.w e.key p.1 ∧ VO vo va b.w e.val p.2 q) (fun e => { e with key := key, val := val_ }) q g2 e1 c1 ⟨hk, hv⟩ (fun j a' b' c' hj h1 h2 h3 h4 => ?_)
      refine ⟨h4.1, h4.2.1 fun he => ?_⟩
      have hlt := (List.getElem?_eq_some_iff.1 h2).1
      have e4 : (l.map (·.1))[j]? = some k := by simp [h2, he]
      have e5 : (l.map (·.1))[q]? = some k := by simp [c1]
      exact hj ((List.getElem?_inj (by simpa using hlt) g3.1).1 (e4.trans e5.symm))
theorem Does.less {op : Op} {hp' : Hp} {Ψ : Value → Hp → Prop} (hs : hp'.Sublist hp) (h : Does P n b op ty e hp' Ψ) : Does P n b op ty e hp Ψ := ⟨fun a w hf ho => h.out a w hf (ho.sub hs)⟩
theorem u_mputF0 (K : KeyOk P kt kr ka) (F hn R : Hp) {et mt : TypeId} {xm xk xv : Operand} {key val_ : Value} {x : ν} (hhp : hp = F ++ (hs ++ (hn ++ R))) (h : OM0 kr vo ka va b.w g l hs) (hm : P.underlying mt = some (.map kt et))
    (h1 : val e xm = some (.map (some g))) (h2 : val e xk = some key) (h3 : val e xv = some val_) (hk : VR kr ka b.w key k) (hv : VO vo va b.w val_ x hn) (op : Op) (hop : op = .mapUpdate mt xm xk xv ∨ op = .insert mt xm xk xv) :
    Does P n b op ty e hp (fun _ hp' => ∃ hs', hp' = F ++ (hs' ++ R) ∧ hn.Sublist hs' ∧ OM0 kr vo ka va b.w g (mput l k x) hs') := by
  obtain ⟨hs2, q1, q2⟩ := h.hole k
  refine Does.less (hp' := F ++ (hs2 ++ (hn ++ R))) ?_ (u_mput0 K F hn R rfl q2 hm h1 h2 h3 hk hv op hop)
  rw [hhp]
  exact (List.Sublist.refl _).append (q1.append (List.Sublist.refl _))
/-- A new map. -/
theorem u_mmap0 (kr : RT κ) (vo : OT ν) (ka va : Bool) (F R : Hp) (hhp : hp = F ++ R) {mt : TypeId} : Does P n b (.makeMap mt none) ty e hp (fun v hp' => ∃ g hs, v = .map (some g) ∧ hp' = F ++ (hs ++ R) ∧ OM0 kr vo ka va b.w g ([] : List (κ × ν)) hs) := does_of fun a w hf ho => by
  refine ⟨.map (some w.heap.size), w.alloc (.map #[] 0), F ++ ([(w.heap.size, .map #[] 0)] ++ R), fun d pos af g => ?_, ?_, w.heap.size, [(w.heap.size, .map #[] 0)], rfl, rfl, [], 0, [], rfl, trivial, by simp, by simp [Born]⟩
  · simp [execOp, Instr.makeMap]
  · have := ho.alloc (.map #[] 0)
    rw [hhp] at this
    exact this.perm (by simp only [List.cons_append, List.nil_append]; exact (List.perm_middle (a := (w.heap.size, Obj.map #[] 0)) (l₁ := F) (l₂ := R)))
def mapT (P : Program) (mt kt et : TypeId) : Prop := P.underlying mt = some (.map kt et)
theorem keyok_int {q : IntKind} (h : leaves P 9 kt = some [.int q]) (ha : aggB P kt = false) : KeyOk P kt (RT.int q) false :=
  ⟨⟨_, h, fun w cs a hr => by have hr : cs = [.int q a] := hr; subst hr; exact ⟨⟨a, rfl⟩, trivial⟩⟩, ha, fun w w' cs ds a c h1 h2 => by
    have h1 : cs = [.int q a] := h1
    have h2 : ds = [.int q c] := h2
    subst h1; subst h2
    simp [eqCells, eqCell]
    rfl⟩
/-- A look-up, by what it yields. -/
theorem st_mlook {mt : TypeId} {xm xk : Operand} {key v : Value} {ok : Bool} (h1 : val e xm = some (.map (some g))) (h2 : val e xk = some key) (hr : ∀ w', Own b hp w' → (Instr.lookup mt (.map (some g)) key ok).run P w' = .ok v w') : Stable P n b (.lookup mt xm xk ok) ty e hp v := fun a w hf ho _ _ _ _ => by
  simp [execOp, hf.eval h1, hf.eval h2, hr w ho]
end

/- ---- .. in whatever order a map is told ---- -/
theorem mget_perm {l l' : List (κ × ν)} (h : l.Perm l') : (l.map (·.1)).Nodup → ∀ k, mget l k = mget l' k := by
  induction h with
  | nil => intro _ _; rfl
  | cons x h ih =>
    intro hn k
    simp only [List.map_cons, List.nodup_cons] at hn
    obtain ⟨a, c⟩ := x
    simp only [mget, ih hn.2 k]
  | swap x y r =>
    intro hn k
    obtain ⟨a, c⟩ := x
    obtain ⟨a', c'⟩ := y
    simp only [List.map_cons, List.nodup_cons, List.mem_cons, not_or] at hn
    simp only [mget]
    by_cases e : a = k
    · by_cases e' : a' = k
      · exact absurd (e'.trans e.symm) hn.1.1
      · rw [if_pos e, if_neg e', if_pos e]
    · rw [if_neg e, if_neg e]
  | trans h1 h2 ih1 ih2 =>
    intro hn k
    rw [ih1 hn k, ih2 ((h1.map _).nodup_iff.1 hn) k]
theorem mput_perm {l l' : List (κ × ν)} (h : l.Perm l') : (l.map (·.1)).Nodup → ∀ k x, (mput l k x).Perm (mput l' k x) := by
  induction h with
  | nil => intro _ _ _; exact .refl _
  | cons x h ih =>
    intro hn k v
    simp only [List.map_cons, List.nodup_cons] at hn
    obtain ⟨a, c⟩ := x
    simp only [mput]
    by_cases e : a = k
    · rw [if_pos e, if_pos e]; exact .cons _ h
    · rw [if_neg e, if_neg e]; exact .cons _ (ih hn.2 k v)
  | swap x y r =>
    intro hn k v
    obtain ⟨a, c⟩ := x
    obtain ⟨a', c'⟩ := y
    simp only [List.map_cons, List.nodup_cons, List.mem_cons, not_or] at hn
    simp only [mput]
    by_cases e : a = k
    · by_cases e' : a' = k
      · exact absurd (e'.trans e.symm) hn.1.1
      · simp only [if_pos e, if_neg e']; exact .swap _ _ _
    · by_cases e' : a' = k
      · simp only [if_neg e, if_pos e']; exact .swap _ _ _
      · simp only [if_neg e, if_neg e']; exact .swap _ _ _
  | trans h1 h2 ih1 ih2 =>
    intro hn k v
    exact (ih1 hn k v).trans (ih2 ((h1.map _).nodup_iff.1 hn) k v)
def OM {κ ν : Type} (kr : RT κ) (vo : OT ν) (ka va : Bool) (w : World) (g : Nat) (l : List (κ × ν)) (hs : Hp) : Prop := ∃ l0 : List (κ × ν), l0.Perm l ∧ OM0 kr vo ka va w g l0 hs
def OMH {κ ν : Type} (kr : RT κ) (vo : OT ν) (ka va : Bool) (w : World) (g : Nat) (l : List (κ × ν)) (k : κ) (hs : Hp) : Prop := ∃ l0 : List (κ × ν), l0.Perm l ∧ OMH0 kr vo ka va w g l0 k hs
theorem OM0.nd (h : OM0 kr vo ka va w g l hs) : (l.map (·.1)).Nodup := by
  obtain ⟨es, cl, hss, h1, h2, h3, h4⟩ := h
  exact h3
theorem OMH0.nd (h : OMH0 kr vo ka va w g l k hs) : (l.map (·.1)).Nodup := by
  obtain ⟨es, cl, hss, h1, h2, h3, h4⟩ := h
  exact h3
theorem OM.nd (h : OM kr vo ka va w g l hs) : (l.map (·.1)).Nodup := let ⟨_, h1, h2⟩ := h; (h1.map _).nodup_iff.1 h2.nd
theorem OM.mono {w' : World} (hk : Keeps w w') (h : OM kr vo ka va w g l hs) : OM kr vo ka va w' g l hs := let ⟨l0, h1, h2⟩ := h; ⟨l0, h1, h2.mono hk⟩
theorem OMH.mono {w' : World} (hk : Keeps w w') (h : OMH kr vo ka va w g l k hs) : OMH kr vo ka va w' g l k hs := let ⟨l0, h1, h2⟩ := h; ⟨l0, h1, h2.mono hk⟩
theorem OM.le {b b' : Base} (h : OM kr vo ka va b.w g l hs) (hle : b.Le b') : OM kr vo ka va b'.w g l hs := h.mono hle.cells
theorem OMH.le {b b' : Base} (h : OMH kr vo ka va b.w g l k hs) (hle : b.Le b') : OMH kr vo ka va b'.w g l k hs := h.mono hle.cells
theorem OM.lookF (K : KeyOk P kt kr ka) {vr : RT ν} {b : Base} {et mt : TypeId} {z : Value} {z0 : ν} {key : Value} (h : OM kr (OT.fr vr) ka va b.w g l hs) (hk : VR kr ka b.w key k) (hm : P.underlying mt = some (.map kt et)) (hz : (P.info? et).bind (·.zero) = some z) (hz0 : VR vr va b.w z z0) :
    ∃ v, VR vr va b.w v (mgetD l k z0) ∧ ∀ hp w', Own b hp w' → hs.Sublist hp → ∀ ok : Bool, (Instr.lookup mt (.map (some g)) key ok).run P w' = .ok (if ok then .tuple #[v, .bool (mhas l k)] else v) w' := by
  obtain ⟨l0, hp, h⟩ := h
  have e := mget_perm hp h.nd k
  obtain ⟨v, h1, h2⟩ := h.lookF K hk hm hz hz0
  unfold mgetD at h1 ⊢
  unfold mhas at h2 ⊢
  rw [e] at h1 h2
  exact ⟨v, h1, h2⟩
theorem OM.take {β : Type} {el : TypeId} {o : OT β} {l : List (κ × List β)} (K : KeyOk P kt kr ka) {b : Base} {et mt : TypeId} {key : Value} (h : OM kr (OT.list el o) ka false b.w g l hs) (hk : VR kr ka b.w key k) (hm : P.underlying mt = some (.map kt et)) (hz : (P.info? et).bind (·.zero) = some (.slice none 0 0)) :
    ∃ A c hsk hs', OS el o b.w (.slice A (mgetD l k []).length c) (mgetD l k []) hsk ∧ (hs' ++ hsk).Perm hs ∧ OMH kr (OT.list el o) ka false b.w g l k hs' ∧ ∀ hp w', Own b hp w' → hs.Sublist hp → (Instr.lookup mt (.map (some g)) key false).run P w' = .ok (.slice A (mgetD l k []).length c) w' := by
  obtain ⟨l0, hp, h⟩ := h
  have e : mgetD l0 k [] = mgetD l k [] := by unfold mgetD; rw [mget_perm hp h.nd k]
  obtain ⟨A, c, hsk, hs', h1, h2, h3, h4⟩ := h.take K hk hm hz
  rw [e] at h1 h4
  exact ⟨A, c, hsk, hs', h1, h2, ⟨l0, hp, h3⟩, h4⟩
section
variable {n : NT} {m : Nat} {dk0 : Hp} {rq : Option Nat} {b : Base} {e : Env} {hp : Hp} {ty : TypeId}
theorem Does.imp {op : Op} {Ψ Φ : Value → Hp → Prop} (h : Does P n b op ty e hp Ψ) (hi : ∀ v hp', Ψ v hp' → Φ v hp') : Does P n b op ty e hp Φ := ⟨fun a w hf ho d pos af g K Q hK => h.out a w hf ho d pos af g K Q fun v hp' w' hΨ ho' => hK v hp' w' (hi _ _ hΨ) ho'⟩
theorem u_mput (K : KeyOk P kt kr ka) (F hn R : Hp) {et mt : TypeId} {xm xk xv : Operand} {key val_ : Value} {x : ν} (hhp : hp = F ++ (hs ++ (hn ++ R))) (h : OMH kr vo ka va b.w g l k hs) (hm : P.underlying mt = some (.map kt et))
    (h1 : val e xm = some (.map (some g))) (h2 : val e xk = some key) (h3 : val e xv = some val_) (hk : VR kr ka b.w key k) (hv : VO vo va b.w val_ x hn) (op : Op) (hop : op = .mapUpdate mt xm xk xv ∨ op = .insert mt xm xk xv) :
    Does P n b op ty e hp (fun _ hp' => ∃ hs', hp' = F ++ (hs' ++ R) ∧ hn.Sublist hs' ∧ OM kr vo ka va b.w g (mput l k x) hs') := by
  obtain ⟨l0, hp0, h⟩ := h
  exact (u_mput0 (n := n) (ty := ty) K F hn R hhp h hm h1 h2 h3 hk hv op hop).imp fun _ _ ⟨hs', q1, q2, q3⟩ => ⟨hs', q1, q2, _, mput_perm hp0 h.nd k x, q3⟩
theorem u_mputF (K : KeyOk P kt kr ka) (F hn R : Hp) {et mt : TypeId} {xm xk xv : Operand} {key val_ : Value} {x : ν} (hhp : hp = F ++ (hs ++ (hn ++ R))) (h : OM kr vo ka va b.w g l hs) (hm : P.underlying mt = some (.map kt et))
    (h1 : val e xm = some (.map (some g))) (h2 : val e xk = some key) (h3 : val e xv = some val_) (hk : VR kr ka b.w key k) (hv : VO vo va b.w val_ x hn) (op : Op) (hop : op = .mapUpdate mt xm xk xv ∨ op = .insert mt xm xk xv) :
    Does P n b op ty e hp (fun _ hp' => ∃ hs', hp' = F ++ (hs' ++ R) ∧ hn.Sublist hs' ∧ OM kr vo ka va b.w g (mput l k x) hs') := by
  obtain ⟨l0, hp0, h⟩ := h
  exact (u_mputF0 (n := n) (ty := ty) K F hn R hhp h hm h1 h2 h3 hk hv op hop).imp fun _ _ ⟨hs', q1, q2, q3⟩ => ⟨hs', q1, q2, _, mput_perm hp0 h.nd k x, q3⟩
theorem u_mmap (kr : RT κ) (vo : OT ν) (ka va : Bool) (F R : Hp) (hhp : hp = F ++ R) {mt : TypeId} : Does P n b (.makeMap mt none) ty e hp (fun v hp' => ∃ g hs, v = .map (some g) ∧ hp' = F ++ (hs ++ R) ∧ OM kr vo ka va b.w g ([] : List (κ × ν)) hs) :=
  (u_mmap0 kr vo ka va F R hhp).imp fun _ _ ⟨g, hs, h1, h2, h3⟩ => ⟨g, hs, h1, h2, [], .refl _, h3⟩
end
end

/- ---- a part of the heap is taken apart ---- -/
section
variable {P : Program} {n : NT} {m : Nat} {dk0 : Hp} {rq : Option Nat} {b : Base} {ops : Array Oper} {Q : Exit → Act → World → Prop} {e : Env} {hp : Hp}
theorem prm_perm {F hs hs' hk R : Hp} (hh : hp = F ++ (hs ++ R)) (hq : (hs' ++ hk).Perm hs) : (F ++ (hk ++ (hs' ++ R))).Perm hp := by
  rw [hh]
  refine .append_left _ ?_
  rw [← List.append_assoc]
  exact ((List.perm_append_comm).trans hq).append_right _
theorem t_prm (F hs hs' hk R : Hp) {l : List Oper} (hh : hp = F ++ (hs ++ R)) (hq : (hs' ++ hk).Perm hs) (h : SLo P n b ops Q l e (F ++ (hk ++ (hs' ++ R)))) : SLo P n b ops Q l e hp := fun a w hf ho => h a w hf (ho.perm (prm_perm hh hq))
theorem d_prm (F hs hs' hk R : Hp) {w0 : Base} {S : Hp} {fuel : Nat} {listed : Array Bool} (hh : hp = F ++ (hs ++ R)) (hq : (hs' ++ hk).Perm hs) (h : SLA P n w0 b ops S Q fuel listed e (F ++ (hk ++ (hs' ++ R)))) : SLA P n w0 b ops S Q fuel listed e hp := fun a w hf ho => h a w hf (ho.perm (prm_perm hh hq))
end
end Go.Fp
