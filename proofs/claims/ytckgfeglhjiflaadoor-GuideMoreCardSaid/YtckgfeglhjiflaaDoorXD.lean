/- Extraction, part D: the builtin copy onto slices of the call's own (elements of one cell). -/
import Derived.Test.YtckgfeglhjiflaaDoorX9
import Derived.Laws.IdiomCopy
import Derived.Laws.CopyRow
import Derived.KernelRfl
set_option linter.unusedVariables false
set_option linter.unusedSimpArgs false
namespace Go.Fp
open Go.RowKit
section
variable {α : Type} {P : Program} {n : NT} {m : Nat} {dk0 : Nat × Obj → Prop} {rq : Option Nat} {b : Base} {e : Env} {hp : Hp} {ty : TypeId} {l : List α} {A : Option Addr} {c : Nat} {hs : Hp}
/-- 'm' copied onto the places from 'j' to 'k' (not included) of 'l'. -/
def cpy {α : Type} (l : List α) (j k : Nat) (m : List α) : List α := l.take j ++ m.take (k - j) ++ l.drop (j + min m.length (k - j))
theorem cpy_length {l m : List α} {j k : Nat} (h1 : j ≤ k) (h2 : k ≤ l.length) : (cpy l j k m).length = l.length := by
  unfold cpy
  simp only [List.length_append, List.length_take, List.length_drop]
  omega
theorem subA_zero (A : Option Addr) (c sz : Nat) : subA A c 0 sz = A := by
  unfold subA
  split
  · rfl
  · cases A with
    | none => rfl
    | some p => simp [add_zero']
theorem take_flat1 {r : RT α} {w : World} (h1 : r.sz = 1) {css : List (List Value)} (h : All2 (r.rep w) css l) (j : Nat) : css.flatten.take j = (css.take j).flatten := by
  induction css generalizing l j with
  | nil => simp
  | cons x css ih =>
    cases l with
    | nil => exact h.elim
    | cons y l =>
      have hx : x.length = 1 := by rw [r.len h.1, h1]
      cases j with
      | zero => simp
      | succ j =>
        rw [List.flatten_cons, List.take_succ_cons, List.flatten_cons, ← ih h.2 j, show j + 1 = x.length + j by omega, List.take_length_add_append]
theorem drop_flat1 {r : RT α} {w : World} (h1 : r.sz = 1) {css : List (List Value)} (h : All2 (r.rep w) css l) (j : Nat) : css.flatten.drop j = (css.drop j).flatten := by
  induction css generalizing l j with
  | nil => simp
  | cons x css ih =>
    cases l with
    | nil => exact h.elim
    | cons y l =>
      have hx : x.length = 1 := by rw [r.len h.1, h1]
      cases j with
      | zero => simp
      | succ j =>
        rw [List.flatten_cons, List.drop_succ_cons, ← ih h.2 j, show j + 1 = x.length + j by omega, List.drop_length_add_append]
theorem rd_part {r : RT α} {w : World} {j k : Nat} {css : List (List Value)} (h1 : r.sz = 1) (hjk : j ≤ k) (hkl : k ≤ l.length) (hlc : l.length ≤ c) (hr : Rd w A css.flatten) (h2 : ∃ w', All2 (r.rep w') css l) : Rd w (subA A c j 1) ((css.take k).drop j).flatten := by
  obtain ⟨w', h2⟩ := h2
  intro i u hu
  have h3 := (h2.take k).drop j
  have hi : i < ((css.take k).drop j).flatten.length := (List.getElem?_eq_some_iff.1 hu).1
  rw [flat_len h3] at hi
  simp only [List.length_drop, List.length_take, h1] at hi
  rw [cellO_sub (by omega)]
  refine hr _ u ?_
  rw [← drop_flat1 h1 (h2.take k), ← take_flat1 h1 h2, List.getElem?_drop, List.getElem?_take] at hu
  rw [Nat.mul_one]
  split at hu
  · exact hu
  · cases hu
/-- copy: 'm' onto a part of a slice of the call's own. -/
theorem u_copyOS {r : RT α} (F R : Hp) {x y : Operand} {t t' el : TypeId} {D B : Option Addr} {q d d' j k s : Nat} {m : List α} (css' : List (List Value)) (hsz : r.sz = 1) (hsl : slT P t el 1 = true)
    (hx : val e x = some (.slice D q d)) (hy : val e y = some (.slice B s d')) (hD : D = subA A c j 1) (hq : q = k - j) (hs' : s = m.length) (hjk : j ≤ k) (hkl : k ≤ l.length)
    (h : OS el (OT.fr r) b.w (.slice A l.length c) l hs) (hhp : hp = F ++ (hs ++ R)) (hrd : ∀ w, Own b hp w → Rd w B css'.flatten) (hall : All2 (r.rep b.w) css' m) :
    Does P n b (.call { callee := .builtin .copy, args := #[x, y], argTypes := #[t, t'] }) ty e hp (fun v' hp' => .int .i64 ((min m.length (k - j) : Nat) : Int) = v' ∧ ∃ hs', hp' = F ++ (hs' ++ R) ∧ OS el (OT.fr r) b.w (.slice A (cpy l j k m).length c) (cpy l j k m) hs') := does_of fun a w hf ho => by
  obtain ⟨ht, inf, hi, hsi⟩ := slT_spec hsl
  have hinf : (P.info? el).map (·.size) = some 1 := by rw [hi]; simp [hsi]
  subst hq hs'
  have hr := hrd w ho
  have hlen := flat_len hall
  by_cases h0 : min m.length (k - j) = 0
  · have hrun := run_copy_none (P := P) w t t' ty el D B (k - j) d m.length d' ht hinf h0
    refine ⟨.int .i64 0, w, hp, fun dd pos af gd => ?_, ho, by rw [h0]; rfl, hs, hhp, ?_⟩
    · simp [execOp, resolve, invoke, builtin, hf.eval hx, hf.eval hy, hrun, goInt]
    · have e1 : cpy l j k m = l := by
        unfold cpy
        rw [h0, Nat.add_zero]
        have : m.take (k - j) = [] := by
          rw [← List.length_eq_zero_iff, List.length_take]
          omega
        rw [this, List.append_nil, List.take_append_drop]
      rw [e1]
      exact h
  · obtain ⟨css, hss, hq0, q1, q2, q3⟩ := h
    obtain ⟨q4, q5⟩ := all3_fr q2
    have hq' : hs = hq0 := by rw [q3, q5, List.append_nil]
    subst hq'
    obtain ⟨g, cap, pr, tl, hv, hq1, hl1, hl2, hmc, hcm⟩ := q1.pos (by omega)
    injection hv with e1 e2 e3
    subst e1 e3
    subst hq1
    have ho1 : (OT.fr r).sz = 1 := hsz
    rw [ho1, Nat.mul_one] at hl1 hl2
    rw [hsz, Nat.mul_one] at hlen
    have hD' : D = some ⟨g, pr.length + j, none⟩ := by
      rw [hD]
      unfold subA
      rw [if_neg (by omega)]
      simp [Addr.add_lit]
    subst hD'
    cases B with
    | none =>
      exfalso
      have hlt : 0 < css'.flatten.length := by omega
      have := hr 0 _ (List.getElem?_eq_getElem hlt)
      simp [cellO] at this
    | some p =>
      have hblk : hp[F.length]? = some (g, Cl el (pr ++ css.flatten ++ tl)) := by
        rw [hhp]
        simp
      have hcs : ((css'.flatten).take (min m.length (k - j))).length = min m.length (k - j) := by
        rw [List.length_take, hlen]
        omega
      have hrun := run_copy_row (P := P) w t t' ty el g (pr.length + j) (k - j) d p m.length d' (pr ++ css.flatten ++ tl).toArray el ((css'.flatten).take (min m.length (k - j))) ht hinf (ho.blk g _ (List.mem_of_getElem? hblk)).2 hcs
        (fun i u hu => by
          rw [List.getElem?_take] at hu
          split at hu
          · have := hr i u hu
            simpa [cellO] using this
          · cases hu) (by rw [hcs]; simp only [List.size_toArray, List.length_append]; omega) (fun u hu => flat_one hall u (List.mem_of_mem_take hu))
      rw [hcs] at hrun
      have hnew : (pr ++ css.flatten ++ tl).take (pr.length + j) ++ (css'.flatten).take (min m.length (k - j)) ++ (pr ++ css.flatten ++ tl).drop (pr.length + j + min m.length (k - j)) = pr ++ (css.take j ++ css'.take (k - j) ++ css.drop (j + min m.length (k - j))).flatten ++ tl := by
        have hx1 : (css'.flatten).take (min m.length (k - j)) = (css'.take (k - j)).flatten := by
          rw [← take_flat1 hsz hall]
          by_cases hmk : m.length ≤ k - j
          · rw [Nat.min_eq_left hmk, List.take_of_length_le (by omega), List.take_of_length_le (by omega)]
          · rw [Nat.min_eq_right (by omega)]
        have hseg := set_seg (pr := pr) (xs := css.flatten) (tl := tl) (us := (css'.flatten).take (min m.length (k - j))) (k := j) (by rw [hcs]; omega)
        rw [hcs] at hseg
        rw [hseg, hx1, take_flat1 hsz q4, drop_flat1 hsz q4]
        simp
      rw [List.toList_toArray, hnew] at hrun
      refine ⟨.int .i64 ((min m.length (k - j) : Nat) : Int), _, hp.set F.length _, fun dd pos af gd => ?_, ho.row hblk (pr ++ (css.take j ++ css'.take (k - j) ++ css.drop (j + min m.length (k - j))).flatten ++ tl), rfl, ?_⟩
      · simp [execOp, resolve, invoke, builtin, hf.eval hx, hf.eval hy, hrun, goInt]
      · have hall2 : All2 (r.rep b.w) (css.take j ++ css'.take (k - j) ++ css.drop (j + min m.length (k - j))) (cpy l j k m) := ((q4.take j).append (hall.take (k - j))).append (q4.drop _)
        have hfl := flat_len hall2
        rw [hsz, Nat.mul_one, cpy_length hjk hkl] at hfl
        refine ⟨[(g, Cl el (pr ++ (css.take j ++ css'.take (k - j) ++ css.drop (j + min m.length (k - j))).flatten ++ tl))], ?_, css.take j ++ css'.take (k - j) ++ css.drop (j + min m.length (k - j)), List.replicate (cpy l j k m).length [], [(g, Cl el (pr ++ (css.take j ++ css'.take (k - j) ++ css.drop (j + min m.length (k - j))).flatten ++ tl))], ?_, all3_of2 hall2, by rw [List.flatten_replicate_nil, List.append_nil]⟩
        · rw [hhp]
          simp
        · refine .inr ⟨g, c, pr, tl, rfl, rfl, ?_, ?_, ?_, hcm⟩
          · rw [ho1, Nat.mul_one, hfl, cpy_length hjk hkl]
          · rw [ho1, Nat.mul_one, List.length_append, hfl]
            rw [List.length_append, hl1] at hl2
            exact hl2
          · rw [cpy_length hjk hkl]; exact hmc
def cpyI {α : Type} (l : List α) (i1 i2 : Int) (m : List α) : List α := cpy l i1.toNat i2.toNat m
def cpyN {α : Type} (i1 i2 : Int) (m : List α) : Int := ((min m.length (i2.toNat - i1.toNat) : Nat) : Int)
theorem cpyI_length {l m : List α} {i1 i2 : Int} {j k : Nat} (h1 : i1 = (j : Int)) (h2 : i2 = (k : Int)) (hjk : j ≤ k) (hkl : k ≤ l.length) : (cpyI l i1 i2 m).length = l.length := by
  subst h1 h2
  exact cpy_length (by simpa using hjk) (by simpa using hkl)
theorem cut_len {x : List α} {j k : Nat} (hx : x = (l.take k).drop j) (hjk : j ≤ k) (hkl : k ≤ l.length) : x.length = k - j := by
  rw [hx, List.length_drop, List.length_take]
  omega
theorem cut_all {r : RT α} {w : World} {x : List α} {css : List (List Value)} {j k : Nat} (hx : x = (l.take k).drop j) (h : All2 (r.rep w) css l) : All2 (r.rep w) ((css.take k).drop j) x := by
  rw [hx]
  exact (h.take k).drop j
theorem u_copyI {r : RT α} {i1 i2 : Int} {j k : Nat} (h1 : i1 = (j : Int)) (h2 : i2 = (k : Int)) (F R : Hp) {x y : Operand} {t t' el : TypeId} {D B : Option Addr} {q d d' s : Nat} {m : List α} (css' : List (List Value)) (hsz : r.sz = 1) (hsl : slT P t el 1 = true)
    (hx : val e x = some (.slice D q d)) (hy : val e y = some (.slice B s d')) (hD : D = subA A c j 1) (hq : q = k - j) (hs' : s = m.length) (hjk : j ≤ k) (hkl : k ≤ l.length)
    (h : OS el (OT.fr r) b.w (.slice A l.length c) l hs) (hhp : hp = F ++ (hs ++ R)) (hrd : ∀ w, Own b hp w → Rd w B css'.flatten) (hall : All2 (r.rep b.w) css' m) :
    Does P n b (.call { callee := .builtin .copy, args := #[x, y], argTypes := #[t, t'] }) ty e hp (fun v' hp' => .int .i64 (cpyN i1 i2 m) = v' ∧ ∃ hs', hp' = F ++ (hs' ++ R) ∧ OS el (OT.fr r) b.w (.slice A (cpyI l i1 i2 m).length c) (cpyI l i1 i2 m) hs') := by
  subst h1 h2
  unfold cpyI cpyN
  rw [Int.toNat_natCast, Int.toNat_natCast]
  exact u_copyOS F R css' hsz hsl hx hy hD hq hs' hjk hkl h hhp hrd hall
end
/- Regions that draw: the part that stays is carried along. -/
section
variable {P : Program} {n : NT} {m : Nat} {dk0 : Nat × Obj → Prop} {rq : Option Nat} {w0 b : Base} {ops : Array Oper} {Q : Exit → Act → World → Prop} {e : Env} {hp S : Hp} {op : Op} {ty : TypeId} {pos : String} {af : Array Edge} {fuel : Nat} {listed : Array Bool}
def SLB (P : Program) (n : NT) (w0 b : Base) (ops : Array Oper) (S : Hp) (Q : Exit → Act → World → Prop) (fuel : Nat) (listed : Array Bool) (e : Env) (hp : Hp) : Prop := w0.Le b → (noLate .any ops listed = true → S.Sublist hp) → SLA P n w0 b ops S Q fuel listed e hp
theorem E_in (hle : w0.Le b) (hsub : S.Sublist hp) (h : SLB P n w0 b ops S Q fuel listed e hp) : SLA P n w0 b ops S Q fuel listed e hp := h hle (fun _ => hsub)
theorem E_il (hle : w0.Le b) (h : SLB P n w0 b ops S Q fuel listed e hp) (hn : noLate .any ops listed = false := by kernel_rfl) : SLA P n w0 b ops S Q fuel listed e hp := h hle (fun h1 => by rw [hn] at h1; cases h1)
theorem E_out (h : SLA P n w0 b ops S Q fuel listed e hp) : SLB P n w0 b ops S Q fuel listed e hp := fun _ _ => h
theorem beq_ne {x y : Nat} (h : Nat.beq x y = false) : x ≠ y := fun e => by rw [e, Nat.beq_refl] at h; cases h
theorem E_st (i : Nat) {v : Value} {k : Nat} (hi : ops[i]? = some ⟨some k, op, ty, pos, af, none⟩) (hst : Stable P (NT.mk m dk0 rq) w0 op ty e S v) (h : SLB P (NT.mk m dk0 rq) w0 b ops S Q fuel (listed.setIfInBounds i true) ((k, v) :: e) hp)
    (hs : Region.noSelect ops = true := by kernel_rfl) (hfr : Region.free .any ops listed i = true := by kernel_rfl) (hr : (Region.ready .any ops listed).contains i = true := by kernel_rfl) (hd : Nat.blt k m = true := by rfl) (hk : Nat.beq (opK op) 2 = false := by rfl) (hk1 : Nat.beq (opK op) 1 = true := by rfl) (hcl : closedB .any ops listed = true := by kernel_rfl) : SLB P (NT.mk m dk0 rq) w0 b ops S Q (fuel + 1) listed e hp :=
  fun hle hsub a w hf ho => anyS_first (T := Own w0 S) hi (Region.noSelect_spec hs) (fun _ _ _ h => h) (lateB_ne hi (beq_ne hk)) (fun w hw => hw.1 (Nat.eq_of_beq_eq_true hk1)) fuel listed a w (Region.free_spec hi hfr) (by simpa using hr)
    (.inl ⟨by simp [Region.wanted], fun w' hw' => hst a w' hf.toFitV hw' _ _ _ _⟩) (fun _ => hcl) (fun hn => (hle.back _ _ ho).sub (hsub hn)) ((hle.back _ _ ho).sub (List.nil_sublist _)) (h hle (fun hn => hsub (noLate_mono hn)) _ _ (hf.put hd v) ho)
theorem E_s0 (i : Nat) {v : Value} {k : Nat} (hi : ops[i]? = some ⟨some k, op, ty, pos, af, none⟩) (hst : Stable P (NT.mk m dk0 rq) w0 op ty e [] v) (h : SLB P (NT.mk m dk0 rq) w0 b ops S Q fuel (listed.setIfInBounds i true) ((k, v) :: e) hp)
    (hs : Region.noSelect ops = true := by kernel_rfl) (hfr : Region.free .any ops listed i = true := by kernel_rfl) (hr : (Region.ready .any ops listed).contains i = true := by kernel_rfl) (hd : Nat.blt k m = true := by rfl) (hk : Nat.beq (opK op) 2 = false := by rfl) (hk0 : Nat.beq (opK op) 1 = false := by rfl) : SLB P (NT.mk m dk0 rq) w0 b ops S Q (fuel + 1) listed e hp :=
  fun hle hsub a w hf ho => anyS_first (T := Own w0 []) hi (Region.noSelect_spec hs) (fun _ _ _ h => h) (lateB_ne hi (beq_ne hk)) (fun w hw => hw.2) fuel listed a w (Region.free_spec hi hfr) (by simpa using hr)
    (.inl ⟨by simp [Region.wanted], fun w' hw' => hst a w' hf.toFitV hw' _ _ _ _⟩) (fun hm => absurd hm (beq_ne hk0)) (fun hn => (hle.back _ _ ho).sub (hsub hn)) ((hle.back _ _ ho).sub (List.nil_sublist _)) (h hle (fun hn => hsub (noLate_mono hn)) _ _ (hf.put hd v) ho)
theorem E_yes (i : Nat) {v : Value} {k j : Nat} (dj : Nat) {t : Bool} (hi : ops[i]? = some ⟨some k, op, ty, pos, af, some (j, t)⟩) (hst : Stable P (NT.mk m dk0 rq) w0 op ty e S v) (h : SLB P (NT.mk m dk0 rq) w0 b ops S Q fuel (listed.setIfInBounds i true) ((k, v) :: e) hp)
    (hs : Region.noSelect ops = true := by kernel_rfl) (hfr : Region.free .any ops listed i = true := by kernel_rfl) (hr : (Region.ready .any ops listed).contains i = true := by kernel_rfl) (hd : Nat.blt k m = true := by rfl) (hk : Nat.beq (opK op) 2 = false := by rfl) (hk1 : Nat.beq (opK op) 1 = true := by rfl) (hcl : closedB .any ops listed = true := by kernel_rfl) (hj : (ops[j]?).bind (·.dst) = some dj := by rfl) (hl : look e dj = some (.bool t) := by rfl) (hdj : Nat.blt dj m = true := by rfl) : SLB P (NT.mk m dk0 rq) w0 b ops S Q (fuel + 1) listed e hp :=
  fun hle hsub a w hf ho => anyS_first (T := Own w0 S) hi (Region.noSelect_spec hs) (fun _ _ _ h => h) (lateB_ne hi (beq_ne hk)) (fun w hw => hw.1 (Nat.eq_of_beq_eq_true hk1)) fuel listed a w (Region.free_spec hi hfr) (by simpa using hr)
    (.inl ⟨by rw [wanted_of hf hj hl _ rfl hdj]; simp, fun w' hw' => hst a w' hf.toFitV hw' _ _ _ _⟩) (fun _ => hcl) (fun hn => (hle.back _ _ ho).sub (hsub hn)) ((hle.back _ _ ho).sub (List.nil_sublist _)) (h hle (fun hn => hsub (noLate_mono hn)) _ _ (hf.put hd v) ho)
theorem E_y0 (i : Nat) {v : Value} {k j : Nat} (dj : Nat) {t : Bool} (hi : ops[i]? = some ⟨some k, op, ty, pos, af, some (j, t)⟩) (hst : Stable P (NT.mk m dk0 rq) w0 op ty e [] v) (h : SLB P (NT.mk m dk0 rq) w0 b ops S Q fuel (listed.setIfInBounds i true) ((k, v) :: e) hp)
    (hs : Region.noSelect ops = true := by kernel_rfl) (hfr : Region.free .any ops listed i = true := by kernel_rfl) (hr : (Region.ready .any ops listed).contains i = true := by kernel_rfl) (hd : Nat.blt k m = true := by rfl) (hk : Nat.beq (opK op) 2 = false := by rfl) (hk0 : Nat.beq (opK op) 1 = false := by rfl) (hj : (ops[j]?).bind (·.dst) = some dj := by rfl) (hl : look e dj = some (.bool t) := by rfl) (hdj : Nat.blt dj m = true := by rfl) : SLB P (NT.mk m dk0 rq) w0 b ops S Q (fuel + 1) listed e hp :=
  fun hle hsub a w hf ho => anyS_first (T := Own w0 []) hi (Region.noSelect_spec hs) (fun _ _ _ h => h) (lateB_ne hi (beq_ne hk)) (fun w hw => hw.2) fuel listed a w (Region.free_spec hi hfr) (by simpa using hr)
    (.inl ⟨by rw [wanted_of hf hj hl _ rfl hdj]; simp, fun w' hw' => hst a w' hf.toFitV hw' _ _ _ _⟩) (fun hm => absurd hm (beq_ne hk0)) (fun hn => (hle.back _ _ ho).sub (hsub hn)) ((hle.back _ _ ho).sub (List.nil_sublist _)) (h hle (fun hn => hsub (noLate_mono hn)) _ _ (hf.put hd v) ho)
theorem E_no (i : Nat) {k j : Nat} (dj : Nat) {t : Bool} {v : Value} (hi : ops[i]? = some ⟨some k, op, ty, pos, af, some (j, t)⟩) (hl : look e dj = some v) (hb : isB v t = false) (h : SLB P (NT.mk m dk0 rq) w0 b ops S Q fuel (listed.setIfInBounds i true) ((k, undef) :: e) hp)
    (hs : Region.noSelect ops = true := by kernel_rfl) (hfr : Region.free .any ops listed i = true := by kernel_rfl) (hr : (Region.ready .any ops listed).contains i = true := by kernel_rfl) (hd : Nat.blt k m = true := by rfl)
    (hj : (ops[j]?).bind (·.dst) = some dj := by rfl) (hdj : Nat.blt dj m = true := by rfl) (hcl : closedB .any ops listed = true := by kernel_rfl) : SLB P (NT.mk m dk0 rq) w0 b ops S Q (fuel + 1) listed e hp :=
  fun hle hsub a w hf ho => anyS_first (T := Own w0 []) hi (Region.noSelect_spec hs) (fun _ _ _ h => h) (lateB_guard hi rfl) (fun w hw => hw.2) fuel listed a w (Region.free_spec hi hfr) (by simpa using hr)
    (.inr ⟨by rw [wanted_gen hf hj hl _ rfl hdj]; exact hb, rfl⟩) (fun _ => hcl) (fun hn => (hle.back _ _ ho).sub (hsub hn)) ((hle.back _ _ ho).sub (List.nil_sublist _)) (h hle (fun hn => hsub (noLate_mono hn)) _ _ (hf.put hd undef) ho)
end
end Go.Fp
