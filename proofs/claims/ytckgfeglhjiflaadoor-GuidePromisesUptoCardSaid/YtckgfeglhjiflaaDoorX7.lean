/- Extraction, part 7: arrays by an index that is not known, comparisons of structs and arrays, functions of the library without a body, bytes of strings. -/
import Derived.Test.YtckgfeglhjiflaaDoorX4
import Derived.Laws.Externs
import Derived.Laws.StructEq
import Derived.Lib.Bytealg
namespace Go.Fp
open Go.RowKit

/- ---- arrays ---- -/
def arrT (P : Program) (t m el sz : Nat) : Bool := (match P.underlying t with
  | some (.array k x) => Nat.beq k m && Nat.beq x el
  | _ => false) && sizT P el sz
theorem arrT_spec {P : Program} {t m el sz : Nat} (h : arrT P t m el sz = true) : P.underlying t = some (.array m el) ∧ sizT P el sz = true := by
  unfold arrT at h
  simp only [Bool.and_eq_true] at h
  obtain ⟨h1, h2⟩ := h
  split at h1
  · rename_i k x hx
    simp only [Bool.and_eq_true] at h1
    have e1 : k = m := Nat.eq_of_beq_eq_true h1.1
    have e2 : x = el := Nat.eq_of_beq_eq_true h1.2
    subst e1; subst e2
    exact ⟨hx, h2⟩
  · cases h1
theorem beq_dec (a c : Int) : (a == c) = decide (a = c) := rfl
section
variable {P : Program} {n : NT} {m : Nat} {dk0 : Hp} {rq : Option Nat} {b : Base} {e : Env} {hp : Hp} {ty : TypeId}
theorem st_aidx1 (j : Nat) {x ix : Operand} {t m el : Nat} {kd : IntKind} {i : Int} {cs : List Value} {v : Value} (hx : val e x = some (.agg cs.toArray)) (hix : val e ix = some (.int kd i)) (hj : i = (j : Int)) (hlt : j < m)
    (hv : cs[j * 1 + 0]? = some v) (ha : arrT P t m el 1 = true) (ho : oneT P el = true) : Stable P n b (.index t x ix) ty e hp v := fun a w hf _ _ _ _ _ => by
  obtain ⟨hu, hs⟩ := arrT_spec ha
  subst hj
  have h0 : (0 : Int) ≤ (j : Int) ∧ (j : Int) < (m : Int) := by omega
  simp only [Nat.mul_one, Nat.add_zero] at hv
  simp [execOp, hf.eval hx, hf.eval hix, Instr.index, asIntOf, run_underlying hu, hlt, part, run_isAgg_one ho, run_sizeOf hs, hv]
/-- The address of an element of an array. -/
theorem st_aaddr (j : Nat) {x ix : Operand} {t m el sz : Nat} {kd : IntKind} {i : Int} {A : Option Addr} (hx : val e x = some (.pointer A)) (hix : val e ix = some (.int kd i)) (hj : i = (j : Int)) (hlt : j < m) (hA : A.isSome = true)
    (ha : arrT P t m el sz = true) : Stable P n b (.indexAddr t x ix) ty e hp (.pointer (A.map (·.add (j * sz)))) := fun a w hf _ _ _ _ _ => by
  obtain ⟨hu, hs⟩ := arrT_spec ha
  subst hj
  cases A with
  | none => cases hA
  | some p => simp [execOp, hf.eval hx, hf.eval hix, Instr.indexAt, asIntOf, run_underlying hu, hlt, run_sizeOf hs, Instr.sureAddr]
/-- .. of a block, at an index that is known. -/
theorem st_baddr (j : Nat) {x ix : Operand} {t m el sz g o : Nat} {kd : IntKind} {i : Int} (hx : val e x = some (.pointer (some ⟨g, o, none⟩))) (hix : val e ix = some (.int kd i)) (hj : i = (j : Int)) (hlt : j < m)
    (ha : arrT P t m el sz = true) {q : Nat} (hq : o + j * sz = q) : Stable P n b (.indexAddr t x ix) ty e hp (.pointer (some ⟨g, q, none⟩)) := fun a w hf ho d pos af gg => by
  subst hq
  have := st_aaddr (n := n) (b := b) (hp := hp) (ty := ty) j hx hix hj hlt rfl ha a w hf ho d pos af gg
  rw [this]
  simp only [Option.map_some, Addr.add]
  split
  · rename_i h0; rw [h0]; simp
  · rfl
end

/- ---- equality of plain values ---- -/
inductive Leaf where
  | int (k : IntKind)
  | bool
  | str
def Leaf.ok : Leaf → Value → Prop
  | .int k, v => ∃ x, v = .int k x
  | .bool, v => ∃ x, v = .bool x
  | .str, v => ∃ x, v = .string x
def eqCell : Value → Value → Bool
  | .int _ a, .int _ c => a == c
  | .bool a, .bool c => a == c
  | .string a, .string c => a.toList == c.toList
  | _, _ => false
def eqCells : List Value → List Value → Bool
  | [], [] => true
  | a :: r, c :: s => eqCell a c && eqCells r s
  | _, _ => false
theorem eqCells_append : ∀ {a c r s : List Value}, a.length = c.length → eqCells (a ++ r) (c ++ s) = (eqCells a c && eqCells r s)
  | [], [], _, _, _ => by simp [eqCells]
  | x :: a, y :: c, r, s, h => by
    have := eqCells_append (a := a) (c := c) (r := r) (s := s) (by simpa using h)
    simp only [List.cons_append, eqCells, this, Bool.and_assoc]
  | [], _ :: _, _, _, h => by simp at h
  | _ :: _, [], _, _, h => by simp at h
def leavesF (f : TypeId → Option (List Leaf)) : Nat → List Field → Option (List Leaf)
  | _, [] => some []
  | off, fd :: r => if fd.name = "_" ∨ fd.offset ≠ off then none else match f fd.type with
    | some l => (leavesF f (off + l.length) r).map (l ++ ·)
    | none => none
/-- The cells of a type of bools, integers and strings, structs and arrays of such. -/
def leaves (P : Program) : Nat → TypeId → Option (List Leaf)
  | 0, _ => none
  | d + 1, t => match P.underlying t with
    | some .bool => if sizT P t 1 then some [.bool] else none
    | some (.int k) => if sizT P t 1 then some [.int k] else none
    | some .string => if sizT P t 1 then some [.str] else none
    | some (.struct fs) => if P.stoodInHeld t then none else match leavesF (leaves P d) 0 fs.toList with
      | some l => if sizT P t l.length then some l else none
      | none => none
    | some (.array m x) => match leaves P d x with
      | some l => if sizT P t (m * l.length) then some (List.replicate m l).flatten else none
      | none => none
    | _ => none
def aggB (P : Program) (t : TypeId) : Bool := match P.underlying t with
  | some (.struct _) => true
  | some (.array _ _) => true
  | _ => false
def mkV (P : Program) (t : TypeId) (xs : List Value) : Value := if aggB P t then .agg xs.toArray else xs.headD undef
theorem leaves_siz {P : Program} {d : Nat} {t : TypeId} {L : List Leaf} (h : leaves P d t = some L) : sizT P t L.length = true := by
  cases d with
  | zero => cases h
  | succ d =>
    unfold leaves at h
    split at h
    · split at h
      · injection h with h; subst h; assumption
      · cases h
    · split at h
      · injection h with h; subst h; assumption
      · cases h
    · split at h
      · injection h with h; subst h; assumption
      · cases h
    · split at h
      · cases h
      · split at h
        · split at h
          · injection h with h; subst h; assumption
          · cases h
        · cases h
    · rename_i m x hu
      split at h
      · rename_i l hl
        split at h
        · rename_i hs
          injection h with h
          subst h
          have : (List.replicate m l).flatten.length = m * l.length := by simp
          rw [this]
          exact hs
        · cases h
      · cases h
    · cases h
theorem leaves_one {P : Program} {d : Nat} {t : TypeId} {L : List Leaf} (h : leaves P d t = some L) (hg : aggB P t = false) : L.length = 1 ∧ oneT P t = true := by
  cases d with
  | zero => cases h
  | succ d =>
    unfold leaves at h
    unfold aggB at hg
    split at h
    · rename_i hu
      split at h
      · injection h with h; subst h; exact ⟨rfl, by simp [oneT, hu]⟩
      · cases h
    · rename_i k hu
      split at h
      · injection h with h; subst h; exact ⟨rfl, by simp [oneT, hu]⟩
      · cases h
    · rename_i hu
      split at h
      · injection h with h; subst h; exact ⟨rfl, by simp [oneT, hu]⟩
      · cases h
    · rename_i fs hu
      rw [hu] at hg
      cases hg
    · rename_i m x hu
      rw [hu] at hg
      cases hg
    · cases h
theorem run_part_plain {P : Program} {d : Nat} {t : TypeId} {L : List Leaf} (h : leaves P d t = some L) {pr xs po : List Value} (hl : xs.length = L.length) (w : World) : (part t (pr ++ xs ++ po).toArray pr.length).run P w = .ok (mkV P t xs) w := by
  have hs := leaves_siz h
  by_cases hg : aggB P t = true
  · have ha : aggT P t L.length = true := by
      unfold aggT
      unfold aggB at hg
      rw [hs, Bool.and_true]
      split at hg <;> simp_all
    simp only [part, Sem.run_bind, run_isAgg_agg ha, Result.andThen_ok, run_sizeOf hs, if_true, mkV, hg]
    have : (pr ++ xs ++ po).toArray.extract pr.length (pr.length + L.length) = xs.toArray := by
      apply Array.ext'
      rw [Array.toList_extract]
      simp only [List.extract_eq_take_drop]
      rw [← hl]
      simp
    rw [this]
    rfl
  · have hg' : aggB P t = false := by simpa using hg
    obtain ⟨h1, h2⟩ := leaves_one h hg'
    match xs, hl.trans h1 with
    | [x], _ =>
      simp [part, run_isAgg_one h2, mkV, hg']
theorem run_eq_plain {P : Program} : ∀ (d : Nat) (t : TypeId) (L : List Leaf), leaves P d t = some L → ∀ (k : Nat) (xs ys : List Value), All2 Leaf.ok L xs → All2 Leaf.ok L ys → ∀ w, (Op.equalIn (d + k) t (mkV P t xs) (mkV P t ys)).run P w = .ok (eqCells xs ys) w
  | 0, _, _, h, _, _, _, _, _, _ => by cases h
  | d + 1, t, L, h, k, xs, ys, hx, hy, w => by
    have hk : d + 1 + k = (d + k) + 1 := by omega
    rw [hk]
    have h' := h
    unfold leaves at h
    split at h
    · rename_i hu
      split at h
      · injection h with h
        subst h
        match xs, ys, hx, hy with
        | [_], [_], ⟨⟨a, rfl⟩, _⟩, ⟨⟨c, rfl⟩, _⟩ => simp [mkV, aggB, hu, eqCells, eqCell, run_equalIn_bool' w (d + k) t a c hu]
      · cases h
    · rename_i q hu
      split at h
      · injection h with h
        subst h
        match xs, ys, hx, hy with
        | [_], [_], ⟨⟨a, rfl⟩, _⟩, ⟨⟨c, rfl⟩, _⟩ => simp [mkV, aggB, hu, eqCells, eqCell, run_equalIn_int w (d + k) t q q a c hu]
      · cases h
    · rename_i hu
      split at h
      · injection h with h
        subst h
        match xs, ys, hx, hy with
        | [_], [_], ⟨⟨a, rfl⟩, _⟩, ⟨⟨c, rfl⟩, _⟩ => simp [mkV, aggB, hu, eqCells, eqCell, run_equalIn_string w (d + k) t a c hu]
      · cases h
    · rename_i fs hu
      split at h
      · cases h
      · rename_i hst
        have hst' : P.stoodInHeld t = false := by simpa using hst
        split at h
        · rename_i l hl
          split at h
          · injection h with h
            subst h
            have hfo : P.fieldsOf t = fs := by simp [Program.fieldsOf, hu]
            have hm : aggB P t = true := by simp [aggB, hu]
            simp only [mkV, hm, if_true]
            rw [run_equalIn_struct w (d + k) t _ _ (by rw [hfo]; exact hu) hst', hfo]
            -- the fields, one after the other
            have key : ∀ (gs : List Field) (M : List Leaf) (px py ux uy : List Value), leavesF (leaves P d) px.length gs = some M → px.length = py.length → All2 Leaf.ok M ux → All2 Leaf.ok M uy →
                (Op.eqFields (d + k) (px ++ ux).toArray (py ++ uy).toArray gs).run P w = .ok (eqCells ux uy) w := by
              intro gs
              induction gs with
              | nil =>
                intro M px py ux uy hM _ h1 h2
                injection hM with hM
                subst hM
                match ux, uy, h1, h2 with
                | [], [], _, _ => simp [Op.eqFields, eqCells]
              | cons f gs ih =>
                intro M px py ux uy hM hpl h1 h2
                unfold leavesF at hM
                split at hM
                · cases hM
                · rename_i hnf
                  have hn1 : f.name ≠ "_" := fun hh => hnf (.inl hh)
                  have hn2 : f.offset = px.length := by
                    rcases Nat.decEq f.offset px.length with hh | hh
                    · exact absurd (Or.inr hh) hnf
                    · exact hh
                  split at hM
                  · rename_i lf hlf
                    simp only [Option.map_eq_some_iff] at hM
                    obtain ⟨M', hM', rfl⟩ := hM
                    have e1 := h1.length
                    have e2 := h2.length
                    rw [List.length_append] at e1 e2
                    have hux : ux = ux.take lf.length ++ ux.drop lf.length := (List.take_append_drop _ _).symm
                    have huy : uy = uy.take lf.length ++ uy.drop lf.length := (List.take_append_drop _ _).symm
                    have l1 : (ux.take lf.length).length = lf.length := by simp; omega
                    have l2 : (uy.take lf.length).length = lf.length := by simp; omega
                    have a1 : All2 Leaf.ok lf (ux.take lf.length) := by have := h1.take lf.length; simpa using this
                    have a2 : All2 Leaf.ok lf (uy.take lf.length) := by have := h2.take lf.length; simpa using this
                    have b1 : All2 Leaf.ok M' (ux.drop lf.length) := by have := h1.drop lf.length; simpa using this
                    have b2 : All2 Leaf.ok M' (uy.drop lf.length) := by have := h2.drop lf.length; simpa using this
                    generalize ux.take lf.length = u1 at *
                    generalize ux.drop lf.length = v1 at *
                    generalize uy.take lf.length = u2 at *
                    generalize uy.drop lf.length = v2 at *
                    subst hux
                    subst huy
                    have p1 := run_part_plain (P := P) hlf (pr := px) (xs := u1) (po := v1) l1 w
                    have p2 := run_part_plain (P := P) hlf (pr := py) (xs := u2) (po := v2) l2 w
                    rw [← hpl] at p2
                    have p3 := run_eq_plain d f.type lf hlf k u1 u2 a1 a2 w
                    have p4 := ih M' (px ++ u1) (py ++ u2) v1 v2 (by rw [List.length_append, l1]; exact hM') (by simp [hpl, l1, l2]) b1 b2
                    simp only [List.append_assoc] at p1 p2 p4
                    simp only [Op.eqFields, hn1, ne_eq, not_false_eq_true, if_true, Sem.run_bind, hn2, p1, p2, p3, Result.andThen_ok, Sem.run_ite]
                    rw [eqCells_append (by omega)]
                    cases hq : eqCells u1 u2
                    · simp
                    · simpa using p4
                  · cases hM
            have := key fs.toList l [] [] xs ys hl rfl hx hy
            simpa using this
          · cases h
        · cases h
    · rename_i m x hu
      split at h
      · rename_i l hl
        split at h
        · injection h with h
          subst h
          have hm : aggB P t = true := by simp [aggB, hu]
          simp only [mkV, hm, if_true]
          have hsz := leaves_siz hl
          simp only [Op.equalIn, Sem.run_bind, run_underlying hu, Result.andThen_ok, run_sizeOf hsz]
          -- the elements, one after the other
          have key : ∀ (q i : Nat) (px py ux uy : List Value), px.length = i * l.length → py.length = i * l.length → All2 Leaf.ok (List.replicate q l).flatten ux → All2 Leaf.ok (List.replicate q l).flatten uy →
              Sem.run P ((forIn (List.range' i q) (none, ()) (fun (j : Nat) (r : Option Bool × Unit) => do
                let a ← part x (px ++ ux).toArray (j * l.length)
                let c ← part x (py ++ uy).toArray (j * l.length)
                let s ← Op.equalIn (d + k) x a c
                if (!s) = true then pure (ForInStep.done (some false, ())) else pure (ForInStep.yield (none, ()))) : Sem (Option Bool × Unit))) w = .ok ((if eqCells ux uy = true then none else some false), ()) w := by
            intro q
            induction q with
            | zero =>
              intro i px py ux uy _ _ h1 h2
              match ux, uy, h1, h2 with
              | [], [], _, _ => simp [eqCells]
            | succ q ih =>
              intro i px py ux uy e1 e2 h1 h2
              rw [List.replicate_succ, List.flatten_cons] at h1 h2
              have q1 := h1.length
              have q2 := h2.length
              rw [List.length_append] at q1 q2
              have hux : ux = ux.take l.length ++ ux.drop l.length := (List.take_append_drop _ _).symm
              have huy : uy = uy.take l.length ++ uy.drop l.length := (List.take_append_drop _ _).symm
              have l1 : (ux.take l.length).length = l.length := by simp; omega
              have l2 : (uy.take l.length).length = l.length := by simp; omega
              have a1 : All2 Leaf.ok l (ux.take l.length) := by have := h1.take l.length; simpa using this
              have a2 : All2 Leaf.ok l (uy.take l.length) := by have := h2.take l.length; simpa using this
              have b1 : All2 Leaf.ok (List.replicate q l).flatten (ux.drop l.length) := by have := h1.drop l.length; simpa using this
              have b2 : All2 Leaf.ok (List.replicate q l).flatten (uy.drop l.length) := by have := h2.drop l.length; simpa using this
              generalize ux.take l.length = u1 at *
              generalize ux.drop l.length = v1 at *
              generalize uy.take l.length = u2 at *
              generalize uy.drop l.length = v2 at *
              subst hux
              subst huy
              have p1 := run_part_plain (P := P) hl (pr := px) (xs := u1) (po := v1) l1 w
              have p2 := run_part_plain (P := P) hl (pr := py) (xs := u2) (po := v2) l2 w
              rw [e1] at p1
              rw [e2] at p2
              have p3 := run_eq_plain d x l hl k u1 u2 a1 a2 w
              have p4 := ih (i + 1) (px ++ u1) (py ++ u2) v1 v2 (by rw [List.length_append, l1, e1, Nat.add_mul]; omega) (by rw [List.length_append, l2, e2, Nat.add_mul]; omega) b1 b2
              simp only [List.append_assoc] at p1 p2 p4
              rw [List.range'_succ, List.forIn_cons]
              rw [eqCells_append (by omega)]
              simp only [Sem.run_bind, p1, p2, p3, Result.andThen_ok, Sem.run_ite] at p4 ⊢
              cases hq : eqCells u1 u2
              · simp
              · simpa using p4
          have hk2 := key m 0 [] [] xs ys (by simp) (by simp) hx hy
          simp only [List.nil_append] at hk2
          simp only [Std.Legacy.Range.forIn_eq_forIn_range', Std.Legacy.Range.size, Nat.sub_zero, Nat.add_sub_cancel, Nat.div_one]
          rw [hk2]
          cases eqCells xs ys <;> simp
        · cases h
      · cases h
    · cases h
section
variable {P : Program} {n : NT} {m : Nat} {dk0 : Hp} {rq : Option Nat} {b : Base} {e : Env} {hp : Hp} {ty : TypeId}
def eqT (P : Program) (t : TypeId) (L : List Leaf) : Prop := leaves P 9 t = some L ∧ aggB P t = true ∧ P.eqGuardType P.depth t = false
theorem st_neqA {x y : Operand} {t u : TypeId} {L : List Leaf} {xs ys : List Value} {p : Prop} [Decidable p] (hx : val e x = some (.agg xs.toArray)) (hy : val e y = some (.agg ys.toArray)) (ht : eqT P t L) (h1 : All2 Leaf.ok L xs) (h2 : All2 Leaf.ok L ys) (hp' : eqCells xs ys = decide p) :
    Stable P n b (.binOp .neq t x y u) ty e hp (.bool (!decide p)) := fun a w hf _ _ _ _ _ => by
  obtain ⟨q1, q2, q3⟩ := ht
  have := run_eq_plain 9 t L q1 9991 xs ys h1 h2 w
  simp only [mkV, q2, if_true] at this
  simp only [execOp, hf.eval hx, hf.eval hy, Sem.run_bind, run_eqGuard_agg w .neq t x y _ _ q3, Result.andThen_ok, run_neq_struct, this, hp', Sem.run_pure]

/- ---- functions without a body ---- -/
/-- How often a byte is in a string. -/
def sCount (s : ByteArray) (c : Int) : Int := (Lib.countByte s.data.toList c.toNat.toUInt8 : Nat)
/-- Where a byte is first in a string, or -1. -/
def sFirst (s : ByteArray) (c : Int) : Int := Lib.indexByte s.data.toList c.toNat.toUInt8
end
end Go.Fp
