/- The framework, part 4: operations that make or write own blocks; slices of the call's own that grow. -/
import Derived.Test.YtckgfeglhjiflaaDoorK3
set_option linter.unusedVariables false
namespace Go.Fp
open Go.RowKit

section
variable {P : Program} {n : NT} {m : Nat} {dk0 : Hp} {rq : Option Nat} {w0 : Base} {e : Env} {hp : Hp} {ty : TypeId}

theorem does_of {op : Op} {Ψ : Value → Hp → Prop} (h : ∀ a w, Fit n w0 e a → Own w0 hp w → ∃ v w' hp', (∀ d pos af g, (execOp a.eval ⟨d, op, ty, pos, af, g⟩).run P w = .ok (.value v) w') ∧ Own w0 hp' w' ∧ Ψ v hp') :
    Does P n w0 op ty e hp Ψ := ⟨fun a w hf ho d pos af g K Q hK => by
  obtain ⟨v, w', hp', hr, ho', hΨ⟩ := h a w hf ho
  simp only [Oper.wp, hr, Oper.upon]
  exact hK v hp' w' hΨ ho'⟩

theorem does_skip {op : Op} {Ψ : Value → Hp → Prop} (h : ∀ a w, Fit n w0 e a → Own w0 hp w → ∃ w' hp', (∀ d pos af g, (execOp a.eval ⟨d, op, ty, pos, af, g⟩).run P w = .ok .skip w') ∧ Own w0 hp' w' ∧ Ψ undef hp') :
    Does P n w0 op ty e hp Ψ := ⟨fun a w hf ho d pos af g K Q hK => by
  obtain ⟨w', hp', hr, ho', hΨ⟩ := h a w hf ho
  simp only [Oper.wp, hr, Oper.upon]
  exact hK undef hp' w' hΨ ho'⟩

/-- A new variable, at its zero value (one cell, or a struct's cells). -/
theorem u_alloc {t : TypeId} {z : Value} (zs : List Value) (hz : (P.info? t).bind (·.zero) = some z) (hc : z.cells = zs.toArray) :
    Does P n w0 (.alloc t) ty e hp (fun v hp' => ∃ g, v = .pointer (some ⟨g, 0, none⟩) ∧ hp' = (g, Cl t zs) :: hp) := does_of fun a w _ ho => by
  refine ⟨_, w.alloc (Cl t zs), _, fun d pos af g => ?_, ho.alloc _, w.heap.size, rfl, rfl⟩
  cases hi : P.info? t with
  | none => simp [hi] at hz
  | some i =>
    have hz' : i.zero = some z := by simpa [hi] using hz
    simp [execOp, Instr.alloc, zeroValue, typeInfo, hi, hz', newVar, newRow, hc]

/-- A new variable that holds a value. -/
theorem u_box {t : TypeId} {x : Operand} {v : Value} (cs : List Value) (hx : val e x = some v) (hc : v.cells = cs.toArray) :
    Does P n w0 (.box t x) ty e hp (fun v hp' => ∃ g, v = .pointer (some ⟨g, 0, none⟩) ∧ hp' = (g, Cl t cs) :: hp) := does_of fun a w hf ho => by
  refine ⟨_, w.alloc (Cl t cs), _, fun d pos af g => ?_, ho.alloc _, w.heap.size, rfl, rfl⟩
  simp [execOp, Instr.box, hf.eval hx, newVar, newRow, hc]

theorem Own.row {w : World} {i g : Nat} {t : TypeId} {cs : List Value} (h : Own w0 hp w) (hi : hp[i]? = some (g, Cl t cs)) (cs' : List Value) : Own w0 (hp.set i (g, Cl t cs')) (w.setRow g cs'.toArray) := by
  have hb := (h.blk g _ (List.mem_of_getElem? hi)).2
  exact h.turn hi rfl rfl rfl (by simp [World.setRow]) (setRow_heap w g _ _ t _ hb) (fun k hk => setRow_other w g k _ hk)

/-- A store of one cell into an own block. -/
theorem u_store (i : Nat) {t t' : TypeId} {x y : Operand} {g o : Nat} {cs : List Value} {v : Value} (hx : val e x = some (.pointer (some ⟨g, o, none⟩))) (hy : val e y = some v) (ht : sizT P t 1 = true) (h1 : v.oneCell' = true)
    (hi : hp[i]? = some (g, Cl t' cs)) (hlt : o < cs.length) :
    Does P n w0 (.store t x y) ty e hp (fun _ hp' => hp' = hp.set i (g, Cl t' (cs.set o v))) := does_skip fun a w hf ho => by
  refine ⟨w.setCell ⟨g, o, none⟩ v, _, fun d pos af gd => ?_, ho.set hi o v, rfl⟩
  have hcell : w.cell? ⟨g, o, none⟩ = some cs[o] := by rw [ho.cell hi, List.getElem?_eq_getElem hlt]
  have hfro := ho.frozen hi o
  have hcells : v.cells = #[v] := by cases v <;> first | rfl | cases h1
  have hst : (store ((⟨g, o, none⟩ : Addr).add 0) v).run P w = .ok () (w.setCell ⟨g, o, none⟩ v) := by
    rw [Addr.add_lit, Nat.add_zero, run_store P w _ v _ h1, hcell]
    simp [hfro]
  simp only [execOp, hf.eval hx, hf.eval hy, Instr.storeAt, Instr.sureAddr, storeVar, Sem.run_bind, Sem.run_pure, Result.andThen_ok, run_sizeOf ht, hcells]
  simp [storeCells, hst]

/-- A store of a struct's cells into an own block. -/
theorem u_storeN (i k : Nat) {t t' : TypeId} {x y : Operand} {g o : Nat} {cs vs : List Value} {v : Value} (hx : val e x = some (.pointer (some ⟨g, o, none⟩))) (hy : val e y = some v) (hc : v.cells = vs.toArray) (ht : sizT P t k = true) (hk : vs.length = k) (h1 : ∀ u ∈ vs, u.oneCell' = true)
    (hi : hp[i]? = some (g, Cl t' cs)) (hle : o + k ≤ cs.length) :
    Does P n w0 (.store t x y) ty e hp (fun _ hp' => hp' = hp.set i (g, Cl t' (cs.take o ++ vs ++ cs.drop (o + k)))) := does_skip fun a w hf ho => by
  have hb := (ho.blk g _ (List.mem_of_getElem? hi)).2
  have hst := run_storeCells_at P g o t' vs 0 cs.toArray w hb (by simpa [hk] using hle) h1
  refine ⟨_, _, fun d pos af gd => ?_, ho.row hi (cs.take o ++ vs ++ cs.drop (o + k)), rfl⟩
  simp only [Nat.add_zero, hk] at hst
  simp [execOp, hf.eval hx, hf.eval hy, Instr.storeAt, Instr.sureAddr, storeVar, run_sizeOf ht, hc, hk, hst]

/-- make([]T, n): 'zs' are the cells. -/
theorem u_make {t el : TypeId} {x y : Operand} {inf : TypeInfo} {z : Value} (m : Nat) (hx : val e x = some (.int .i64 (m : Int))) (hy : val e y = some (.int .i64 (m : Int)))
    (ht : P.underlying t = some (.slice el)) (hi : P.info? el = some inf) (hz : inf.zero = some z) (hb : inf.bytes * m ≤ 281474976710656) (hm : m ≤ 9223372036854775807) :
    Does P n w0 (.makeSlice t x y) ty e hp (fun v hp' => ∃ g, v = .slice (some ⟨g, 0, none⟩) m m ∧ hp' = (g, Cl el (madeCells z.cells (m * inf.size)).toList) :: hp) := does_of fun a w hf ho => by
  have hb' : (inf.bytes : Int) * (m : Int) ≤ 281474976710656 := by
    have h : ((inf.bytes * m : Nat) : Int) ≤ 281474976710656 := by omega
    rwa [Int.natCast_mul] at h
  have hr := run_make (P := P) w t el inf z ht hi hz .i64 .i64 m m (by omega) (by omega) hb' (by omega)
  refine ⟨_, _, _, fun d pos af g => ?_, ho.alloc (Cl el (madeCells z.cells (m * inf.size)).toList), w.heap.size, rfl, rfl⟩
  simp only [execOp, hf.eval hx, hf.eval hy, Sem.run_bind, hr, Result.andThen_ok, Int.toNat_natCast]
  simp

/- slices of the call's own: nil (or of no capacity), or a part of an own block that reaches to its end -/
def Front (pr : List Value) : Prop := True
theorem Front.nil : Front [] := by first | exact True.intro | exact (rfl : ([] : List Value) = [])
def FrontJ (j : Nat) : Prop := True
theorem Front.sub {pr xs : List Value} {j : Nat} (h : Front pr) (hj : FrontJ j) (hx : j = 0 → xs = []) : Front (pr ++ xs) := by
  first
  | exact True.intro
  | (have h1 : j = 0 := hj
     have h2 : pr = [] := h
     show pr ++ xs = []
     rw [h2, hx h1]
     rfl)
/-- A slice that is the only one of its block; 'Front' says what may stand in the block ahead of it (two texts of this framework differ in this: all that is asked of lists, or none). -/
def Seg (el sz : Nat) (v : Value) (m : Nat) (xs : List Value) (hs : Hp) : Prop :=
  (∃ A, v = .slice A 0 0 ∧ m = 0 ∧ xs = [] ∧ hs = []) ∨
  (∃ g cap pr tl, v = .slice (some ⟨g, List.length pr, none⟩) m cap ∧ hs = [(g, Cl el (pr ++ xs ++ tl))] ∧ xs.length = m * sz ∧ cap * sz ≤ (xs ++ tl).length ∧ m ≤ cap ∧ cap ≤ maxLen ∧ Front pr)

theorem Seg.length {el sz m : Nat} {v : Value} {xs : List Value} {hs : Hp} (h : Seg el sz v m xs hs) : xs.length = m * sz := by
  rcases h with ⟨A, rfl, rfl, rfl, rfl⟩ | ⟨g, cap, pr, tl, rfl, rfl, hl, _⟩
  · simp
  · exact hl
theorem Seg.form {el sz m : Nat} {v : Value} {xs : List Value} {hs : Hp} (h : Seg el sz v m xs hs) : ∃ A c, v = .slice A m c ∧ c ≤ maxLen := by
  rcases h with ⟨A, rfl, rfl, rfl, rfl⟩ | ⟨g, cap, pr, tl, rfl, rfl, hl, _, _, hc⟩
  · exact ⟨A, 0, rfl, Nat.zero_le _⟩
  · exact ⟨_, _, rfl, hc.1⟩
theorem Seg.nil {el sz : Nat} {A : Option Addr} : Seg el sz (.slice A 0 0) 0 [] [] := .inl ⟨A, rfl, rfl, rfl, rfl⟩
/-- What is not empty lies in a block. -/
theorem Seg.pos {el sz m : Nat} {v : Value} {xs : List Value} {hs : Hp} (h : Seg el sz v m xs hs) (hm : 0 < m) :
    ∃ g cap pr tl, v = .slice (some ⟨g, List.length pr, none⟩) m cap ∧ hs = [(g, Cl el (pr ++ xs ++ tl))] ∧ xs.length = m * sz ∧ cap * sz ≤ (xs ++ tl).length ∧ m ≤ cap ∧ cap ≤ maxLen ∧ Front pr := by
  rcases h with ⟨A, rfl, rfl, rfl, rfl⟩ | h
  · omega
  · exact h
theorem Seg.rd {el sz m : Nat} {A : Option Addr} {c : Nat} {xs : List Value} {hs : Hp} {w : World} (h : Seg el sz (.slice A m c) m xs hs) (hb : ∀ x ∈ hs, w.heap[x.1]? = some x.2) : Rd w A xs := by
  rcases h with ⟨A', _, rfl, rfl, rfl⟩ | ⟨g, cap, pr, tl, hv, rfl, hl, _⟩
  · intro j u hu; simp at hu
  · injection hv with h1 h2 h3
    subst h1
    intro j u hu
    have hb := hb (g, Cl el (pr ++ xs ++ tl)) (by simp)
    simp only at hb
    have hj : j < xs.length := (List.getElem?_eq_some_iff.1 hu).1
    simp only [cellO, Option.bind_some, Addr.add_lit, World.cell?, hb]
    simp only [Option.isSome_none, Bool.false_eq_true, if_false, List.getElem?_toArray]
    rw [List.append_assoc, List.getElem?_append_right (by omega), Nat.add_sub_cancel_left, List.getElem?_append_left hj]
    exact hu

theorem run_append_room' (w : World) (t ty e : TypeId) (i : TypeInfo) (ht : P.underlying t = some (.slice e)) (hi : P.info? e = some i)
    (g o sLen sCap : Nat) (cur : Array Value) (hg : w.heap[g]? = some (.cells cur e (0, 0)))
    (a : Addr) (m c : Nat) (news : List Value) (hl : news.length = m * i.size) (hnews : ∀ j u, news[j]? = some u → w.cell? (a.add j) = some u) (h1 : ∀ u ∈ news, u.oneCell' = true)
    (hroom : sLen + m ≤ sCap) (hfit : o + sLen * i.size + news.length ≤ cur.size) :
    (Builtin.append_ #[t, t] ty #[.slice (some ⟨g, o, none⟩) sLen sCap, .slice (some a) m c]).run P w =
      .ok (.slice (some ⟨g, o, none⟩) (sLen + m) sCap) (w.setRow g (cur.toList.take (o + sLen * i.size) ++ news ++ cur.toList.drop (o + sLen * i.size + news.length)).toArray) := by
  have hf := run_firstCells_some (P := P) w i.size m a m c news hl hnews
  have hst := run_storeCells_at P g (o + sLen * i.size) e news 0 cur w hg (by simpa using hfit) h1
  simp only [Nat.add_zero] at hst
  simp [Builtin.append_, run_underlying ht, sizeOf, typeInfo, hi, Builtin.lenOf, hroom, hf, Addr.add_lit, hst]

theorem zeroCells_length (z : Array Value) (k : Nat) : (Builtin.zeroCells z k).toList.length = k * z.size := by simp [Builtin.zeroCells]

/-- The builtin append on a slice of the call's own; the source is a slice that reads as 'news'. -/
theorem run_append_seg {t el sz by_ : Nat} {inf : TypeInfo} {z : Value} (ht : P.underlying t = some (.slice el)) (hi : P.info? el = some inf) (hz : inf.zero = some z) (hsz : inf.size = sz) (hby : inf.bytes = by_) (hzs : z.cells.size = sz) (hpos : 0 < sz)
    {v : Value} {m : Nat} {xs : List Value} {hs R : Hp} (hseg : Seg el sz v m xs hs) {w : World} (ho : Own w0 (hs ++ R) w) {A : Option Addr} {k c : Nat} {news : List Value} (hl : news.length = k * sz) (hrd : Rd w A news) (h1 : ∀ u ∈ news, u.oneCell' = true)
    (hmax : m + k ≤ 9223372036854775807) (hbytes : (m + k) * by_ ≤ 140737488355328) :
    ∃ v' w' hs', (Builtin.append_ #[t, t] ty #[v, .slice A k c]).run P w = .ok v' w' ∧ Own w0 (hs' ++ R) w' ∧ Seg el sz v' (m + k) (xs ++ news) hs' := by
  subst hsz
  subst hby
  rcases Nat.eq_zero_or_pos k with hk | hk
  · -- nothing is appended
    subst hk
    have hn : news = [] := List.eq_nil_of_length_eq_zero (by simpa using hl)
    subst hn
    have hrun : (Builtin.append_ #[t, t] ty #[v, .slice A 0 c]).run P w = .ok v w := by
      have hfc : ∀ w : World, (Builtin.firstCells inf.size 0 (.slice A 0 c)).run P w = .ok #[] w := by
        intro w
        cases A <;> simp [Builtin.firstCells, loadCells, loadCellsFrom]
      rcases hseg with ⟨A', rfl, rfl, rfl, rfl⟩ | ⟨g, cap, pr, tl, rfl, rfl, _, _, hmc, _⟩
      · cases A' <;> simp [Builtin.append_, run_underlying ht, sizeOf, typeInfo, hi, Builtin.lenOf, hfc, storeCells]
      · simp [Builtin.append_, run_underlying ht, sizeOf, typeInfo, hi, Builtin.lenOf, hfc, storeCells, hmc]
    exact ⟨v, w, hs, hrun, ho, by simpa using hseg⟩
  · -- something is
    have hA : ∃ p, A = some p := by
      cases hA : A with
      | some p => exact ⟨p, rfl⟩
      | none =>
        have hlt : 0 < news.length := by rw [hl]; exact Nat.mul_pos hk hpos
        have := hrd 0 news[0] (List.getElem?_eq_getElem hlt)
        rw [hA] at this
        simp [cellO] at this
    obtain ⟨p, rfl⟩ := hA
    have hnews : ∀ j u, news[j]? = some u → w.cell? (p.add j) = some u := hrd
    have hcap : ∀ need old, need ≤ 9223372036854775807 → grownCap w need old el ≤ maxLen := fun need old h => grownCap_le_maxLen w need old el (by simpa [maxLen] using h)
    have fin : ∀ (need old : Nat) (zs : List Value), need = m + k → (xs ++ news).length = need * inf.size →
        ∃ hs', Own w0 (hs' ++ R) (w.drew.alloc (.cells ((xs ++ news).toArray ++ Builtin.zeroCells z.cells (grownCap w need old el - need)) el)) ∧
          Seg el inf.size (.slice (some ⟨w.heap.size, 0, none⟩) need (grownCap w need old el)) (m + k) (xs ++ news) hs' := by
      intro need old zs hneed hlen
      subst hneed
      have hge := grownCap_ge w (m + k) old el
      have ho1 := (ho.sub (List.sublist_append_right hs R)).drew.alloc (Cl el ((xs ++ news) ++ (Builtin.zeroCells z.cells (grownCap w (m + k) old el - (m + k))).toList))
      refine ⟨[(w.heap.size, Cl el ((xs ++ news) ++ (Builtin.zeroCells z.cells (grownCap w (m + k) old el - (m + k))).toList))], ?_, .inr ⟨w.heap.size, _, [], (Builtin.zeroCells z.cells (grownCap w (m + k) old el - (m + k))).toList, rfl, rfl, hlen, ?_, hge, hcap _ _ hmax, Front.nil⟩⟩
      · have harr : ((xs ++ news) ++ (Builtin.zeroCells z.cells (grownCap w (m + k) old el - (m + k))).toList).toArray = (xs ++ news).toArray ++ Builtin.zeroCells z.cells (grownCap w (m + k) old el - (m + k)) := by simp
        simp only [Cl, harr] at ho1 ⊢
        exact ho1
      · refine Nat.le_of_eq (Eq.symm ?_)
        rw [List.length_append, hlen, zeroCells_length, hzs, ← Nat.add_mul]
        congr 1
        omega
    rcases hseg with ⟨A', rfl, rfl, rfl, rfl⟩ | ⟨g, cap, pr, tl, rfl, rfl, hxl, hcl, hmc, hcm⟩
    · cases A' with
      | none =>
        have hr := run_append_nil (P := P) w t ty el inf z ht hi hz p k c news hl hnews hk (by omega) (by simp only [Nat.zero_add] at hbytes; omega)
        obtain ⟨hs', h2, h3⟩ := fin k 0 [] (by omega) (by simpa using hl)
        exact ⟨_, _, hs', hr, by simpa using h2, by simpa using h3⟩
      | some b =>
        have hr := run_append_grow (P := P) w t ty el inf z ht hi hz b 0 0 [] (by simp) (fun j u hu => by simp at hu) p k c news hl hnews (by omega) (by omega) (growslice_fits (by omega) (by simpa using hbytes))
        obtain ⟨hs', h2, h3⟩ := fin (0 + k) 0 [] rfl (by simpa using hl)
        exact ⟨_, _, hs', hr, by simpa using h2, by simpa using h3⟩
    · have hgm : ((g, Cl el (pr ++ xs ++ tl)) : Nat × Obj) ∈ [(g, Cl el (pr ++ xs ++ tl))] ++ R := by simp
      have hb := (ho.blk g _ hgm).2
      have hlen : (xs ++ news).length = (m + k) * inf.size := by rw [List.length_append, hxl, hl, Nat.add_mul]
      by_cases hroom : m + k ≤ cap
      · have hmul := Nat.mul_le_mul_right inf.size hroom
        have hfit : pr.length + m * inf.size + news.length ≤ (pr ++ xs ++ tl).toArray.size := by
          rw [List.size_toArray, List.append_assoc, List.length_append, hl, Nat.add_assoc, ← Nat.add_mul]
          exact Nat.add_le_add_left (Nat.le_trans hmul hcl) _
        have hr := run_append_room' (P := P) w t ty el inf ht hi g pr.length m cap (pr ++ xs ++ tl).toArray hb p k c news hl hnews h1 hroom hfit
        have e1 : (pr ++ xs ++ tl).take (pr.length + m * inf.size) = pr ++ xs := by rw [← hxl, ← List.length_append]; exact List.take_left
        have e2 : (pr ++ xs ++ tl).drop (pr.length + m * inf.size + news.length) = tl.drop news.length := by
          rw [← hxl, ← List.length_append, ← List.drop_drop, List.drop_left]
        simp only [e1, e2] at hr
        have ho2 := ho.row (i := 0) (g := g) (t := el) (cs := pr ++ xs ++ tl) rfl (pr ++ xs ++ news ++ tl.drop news.length)
        refine ⟨_, _, [(g, Cl el (pr ++ (xs ++ news) ++ tl.drop news.length))], hr, by simpa using ho2, .inr ⟨g, cap, pr, tl.drop news.length, rfl, rfl, hlen, ?_, hroom, hcm⟩⟩
        simp only [List.length_append] at hcl hlen ⊢
        rw [List.length_drop]
        rw [Nat.add_mul] at hmul
        omega
      · have holds : ∀ j u, xs[j]? = some u → w.cell? ((⟨g, pr.length, none⟩ : Addr).add j) = some u := by
          intro j u hu
          have hj : j < xs.length := (List.getElem?_eq_some_iff.1 hu).1
          simp only [Addr.add_lit, World.cell?, hb]
          simp only [Option.isSome_none, Bool.false_eq_true, if_false, List.getElem?_toArray]
          rw [List.append_assoc, List.getElem?_append_right (by omega), Nat.add_sub_cancel_left, List.getElem?_append_left hj]
          exact hu
        have hr := run_append_grow (P := P) w t ty el inf z ht hi hz ⟨g, pr.length, none⟩ m cap xs hxl holds p k c news hl hnews (by omega) (by omega) (growslice_fits (by omega) hbytes)
        obtain ⟨hs', h2, h3⟩ := fin (m + k) cap [] rfl hlen
        refine ⟨_, _, hs', hr, ?_, h3⟩
        simpa using h2

/-- As 'Seg', at the beginning of its block. -/
def Seg0 (el sz : Nat) (v : Value) (m : Nat) (xs : List Value) (hs : Hp) : Prop :=
  (∃ A, v = .slice A 0 0 ∧ m = 0 ∧ xs = [] ∧ hs = []) ∨
  (∃ g cap tl, v = .slice (some ⟨g, 0, none⟩) m cap ∧ hs = [(g, Cl el (xs ++ tl))] ∧ xs.length = m * sz ∧ (xs ++ tl).length = cap * sz ∧ m ≤ cap ∧ cap ≤ maxLen)
theorem Seg0.seg {el sz m : Nat} {v : Value} {xs : List Value} {hs : Hp} (h : Seg0 el sz v m xs hs) : Seg el sz v m xs hs := by
  rcases h with h | ⟨g, cap, tl, h1, h2, h3, h4, h5, h6⟩
  · exact .inl h
  · exact .inr ⟨g, cap, [], tl, h1, by simpa using h2, h3, Nat.le_of_eq h4.symm, h5, h6, Front.nil⟩
theorem Seg0.nil {el sz : Nat} {A : Option Addr} : Seg0 el sz (.slice A 0 0) 0 [] [] := .inl ⟨A, rfl, rfl, rfl, rfl⟩
theorem Seg0.pos {el sz m : Nat} {v : Value} {xs : List Value} {hs : Hp} (h : Seg0 el sz v m xs hs) (hm : 0 < m) :
    ∃ g cap tl, v = .slice (some ⟨g, 0, none⟩) m cap ∧ hs = [(g, Cl el (xs ++ tl))] ∧ xs.length = m * sz ∧ (xs ++ tl).length = cap * sz ∧ m ≤ cap ∧ cap ≤ maxLen := by
  rcases h with ⟨A, rfl, rfl, rfl, rfl⟩ | h
  · omega
  · exact h
theorem Seg0.form {el sz m : Nat} {v : Value} {xs : List Value} {hs : Hp} (h : Seg0 el sz v m xs hs) : ∃ A c, v = .slice A m c ∧ c ≤ maxLen := h.seg.form

/-- append onto a slice without capacity: the result begins a block. -/
theorem run_append_new {t el sz by_ : Nat} {inf : TypeInfo} {z : Value} (ht : P.underlying t = some (.slice el)) (hi : P.info? el = some inf) (hz : inf.zero = some z) (hsz : inf.size = sz) (hby : inf.bytes = by_) (hzs : z.cells.size = sz) (hpos : 0 < sz)
    {A' : Option Addr} {R : Hp} {w : World} (ho : Own w0 R w) {A : Option Addr} {k c : Nat} {news : List Value} (hl : news.length = k * sz) (hrd : Rd w A news)
    (hmax : k ≤ 9223372036854775807) (hbytes : k * by_ ≤ 140737488355328) :
    ∃ v' w' hs', (Builtin.append_ #[t, t] ty #[.slice A' 0 0, .slice A k c]).run P w = .ok v' w' ∧ Own w0 (hs' ++ R) w' ∧ Seg0 el sz v' k news hs' := by
  subst hsz
  subst hby
  rcases Nat.eq_zero_or_pos k with hk | hk
  · subst hk
    have hn : news = [] := List.eq_nil_of_length_eq_zero (by simpa using hl)
    subst hn
    have hfc : ∀ w : World, (Builtin.firstCells inf.size 0 (.slice A 0 c)).run P w = .ok #[] w := by
      intro w
      cases A <;> simp [Builtin.firstCells, loadCells, loadCellsFrom]
    refine ⟨.slice A' 0 0, w, [], ?_, ho, Seg0.nil⟩
    cases A' <;> simp [Builtin.append_, run_underlying ht, sizeOf, typeInfo, hi, Builtin.lenOf, hfc, storeCells]
  · have hA : ∃ p, A = some p := by
      cases hA : A with
      | some p => exact ⟨p, rfl⟩
      | none =>
        have hlt : 0 < news.length := by rw [hl]; exact Nat.mul_pos hk hpos
        have := hrd 0 news[0] (List.getElem?_eq_getElem hlt)
        rw [hA] at this
        simp [cellO] at this
    obtain ⟨p, rfl⟩ := hA
    have hnews : ∀ j u, news[j]? = some u → w.cell? (p.add j) = some u := hrd
    have hge := grownCap_ge w k 0 el
    have hcm : grownCap w k 0 el ≤ maxLen := grownCap_le_maxLen w k 0 el (by simpa [maxLen] using hmax)
    have ho1 := ho.drew.alloc (Cl el (news ++ (Builtin.zeroCells z.cells (grownCap w k 0 el - k)).toList))
    have harr : (news ++ (Builtin.zeroCells z.cells (grownCap w k 0 el - k)).toList).toArray = news.toArray ++ Builtin.zeroCells z.cells (grownCap w k 0 el - k) := by simp
    have hseg : Seg0 el inf.size (.slice (some ⟨w.heap.size, 0, none⟩) k (grownCap w k 0 el)) k news [(w.heap.size, Cl el (news ++ (Builtin.zeroCells z.cells (grownCap w k 0 el - k)).toList))] := by
      refine .inr ⟨w.heap.size, _, _, rfl, rfl, hl, ?_, hge, hcm⟩
      rw [List.length_append, hl, zeroCells_length, hzs, ← Nat.add_mul]
      congr 1
      omega
    cases A' with
    | none =>
      have hr := run_append_nil (P := P) w t ty el inf z ht hi hz p k c news hl hnews hk (by omega) (by omega)
      refine ⟨_, _, _, hr, ?_, hseg⟩
      simp only [Cl, harr] at ho1 ⊢
      exact ho1
    | some b =>
      have hr := run_append_grow (P := P) w t ty el inf z ht hi hz b 0 0 [] (by simp) (fun j u hu => by simp at hu) p k c news hl hnews (by omega) (by omega) (growslice_fits (by omega) (by simpa using hbytes))
      simp only [Nat.zero_add, Array.empty_append] at hr
      refine ⟨_, _, _, hr, ?_, hseg⟩
      simp only [Cl, harr] at ho1 ⊢
      simpa using ho1
end
end Go.Fp
