/- Extraction, part Z: pointers to structs of the call's own, by name: they lie in an arena; maps and slices hold names. -/
import Derived.Test.YtckgfeglhjiflaaDoorXG
import Derived.Test.YtckgfeglhjiflaaDoorXI
import Derived.Laws.Pointers
set_option linter.unusedVariables false
set_option linter.unusedSimpArgs false
set_option linter.unusedSectionVars false
namespace Go.Fp
open Go.RowKit

/-- The pointer of a name. -/
def kv (ads : Int → Nat) : Option Int → Value
  | .none => .pointer .none
  | .some n => .pointer (.some ⟨ads n, 0, .none⟩)
theorem kv_one (ads : Int → Nat) (x : Option Int) : (kv ads x).oneCell' = true := by cases x <;> rfl
def RT.key (ads : Int → Nat) : RT (Option Int) := ⟨1, fun _ vs x => vs = [kv ads x], fun h => by rw [h]; rfl, fun h u hu => by rw [h] at hu; simp at hu; subst hu; exact kv_one _ _, fun _ h => h⟩
def updA (ads : Int → Nat) (n : Int) (g : Nat) : Int → Nat := fun j => if j = n then g else ads j
theorem updA_same (ads : Int → Nat) (n : Int) (g : Nat) : updA ads n g n = g := by simp [updA]
theorem updA_other (ads : Int → Nat) {n m : Int} (g : Nat) (h : m ≠ n) : updA ads n g m = ads m := by simp [updA, h]
section
variable {κ ν : Type} [DecidableEq κ]
/-- A map without a key. -/
def mdel : List (κ × ν) → κ → List (κ × ν)
  | [], _ => []
  | (a, b) :: r, k => if a = k then r else (a, b) :: mdel r k
theorem mget_split : ∀ (l : List (κ × ν)) (k : κ) (x : ν), (l.map (·.1)).Nodup → mget l k = some x → ∃ l1 l2, l = l1 ++ (k, x) :: l2 ∧ (∀ v, mput l k v = l1 ++ (k, v) :: l2) ∧ mdel l k = l1 ++ l2 ∧ (∀ p ∈ l1, p.1 ≠ k) ∧ ∀ p ∈ l2, p.1 ≠ k
  | [], k, x, _, h => by simp [mget] at h
  | (a, b) :: r, k, x, hn, h => by
    simp only [List.map_cons, List.nodup_cons] at hn
    by_cases e : a = k
    · subst e
      simp only [mget, if_true] at h
      injection h with h
      subst h
      exact ⟨[], r, rfl, fun v => by simp [mput], by simp [mdel], fun p hp => by simp at hp, fun p hp he => hn.1 (he ▸ List.mem_map_of_mem hp)⟩
    · simp only [mget, if_neg e] at h
      obtain ⟨l1, l2, h1, h2, h3, h4, h5⟩ := mget_split r k x hn.2 h
      refine ⟨(a, b) :: l1, l2, by rw [h1]; rfl, fun v => by simp only [mput, if_neg e, h2 v, List.cons_append], by simp only [mdel, if_neg e, h3, List.cons_append], fun p hp => ?_, h5⟩
      rcases List.mem_cons.1 hp with rfl | hp
      · exact e
      · exact h4 p hp
theorem mget_none_split : ∀ (l : List (κ × ν)) (k : κ), mget l k = none → (∀ v, mput l k v = l ++ [(k, v)]) ∧ mdel l k = l ∧ ∀ p ∈ l, p.1 ≠ k
  | [], k, _ => ⟨fun v => rfl, rfl, fun p hp => by simp at hp⟩
  | (a, b) :: r, k, h => by
    by_cases e : a = k
    · simp [mget, e] at h
    · simp only [mget, if_neg e] at h
      obtain ⟨h1, h2, h3⟩ := mget_none_split r k h
      refine ⟨fun v => by simp only [mput, if_neg e, h1 v, List.cons_append], by simp only [mdel, if_neg e, h2], fun p hp => ?_⟩
      rcases List.mem_cons.1 hp with rfl | hp
      · exact e
      · exact h3 p hp
end
/- ---- the arena ---- -/
section
variable {α : Type}
/-- What a struct of the call's own stands for: by its cells, and the memory that hangs on it. -/
structure KM (K : World → List Value → α → Hp → Prop) : Prop where
  mono : ∀ {w w' : World} {cs : List Value} {x : α} {hs : Hp}, Keeps w w' → K w cs x hs → K w' cs x hs
def AE (T : TypeId) (K : World → List Value → α → Hp → Prop) (ads : Int → Nat) (w : World) (h : Hp) (p : Int × α) : Prop := ∃ cs h', h = (ads p.1, Cl T cs) :: h' ∧ K w cs p.2 h'
def OAr (T : TypeId) (K : World → List Value → α → Hp → Prop) (ads : Int → Nat) (w : World) (l : List (Int × α)) (hs : Hp) : Prop :=
  KM K ∧ ∃ hss : List Hp, hs.Perm hss.flatten ∧ All2 (AE T K ads w) hss l ∧ (l.map (·.1)).Nodup
variable {T : TypeId} {K : World → List Value → α → Hp → Prop} {ads : Int → Nat} {l : List (Int × α)} {hs : Hp}
theorem OAr.nil {w : World} (hK : KM K) : OAr T K ads w ([] : List (Int × α)) [] := ⟨hK, [], .refl _, trivial, List.nodup_nil⟩
theorem OAr.mono {w w' : World} (hk : Keeps w w') (h : OAr T K ads w l hs) : OAr T K ads w' l hs := by
  obtain ⟨hK, hss, h1, h2, h3⟩ := h
  exact ⟨hK, hss, h1, h2.imp fun _ _ ⟨cs, h', e, k⟩ => ⟨cs, h', e, hK.mono hk k⟩, h3⟩
theorem OAr.le {b b' : Base} (h : OAr T K ads b.w l hs) (hle : b.Le b') : OAr T K ads b'.w l hs := h.mono hle.cells
theorem all2_app {β γ : Type} {R : β → γ → Prop} : ∀ {a : List β} {c1 c2 : List γ}, All2 R a (c1 ++ c2) → ∃ a1 a2, a = a1 ++ a2 ∧ All2 R a1 c1 ∧ All2 R a2 c2
  | a, [], c2, h => ⟨[], a, rfl, trivial, h⟩
  | [], _ :: _, _, h => by simp [All2] at h
  | x :: a, y :: c1, c2, h => by
    obtain ⟨a1, a2, h1, h2, h3⟩ := all2_app (a := a) (c1 := c1) (c2 := c2) h.2
    exact ⟨x :: a1, a2, by rw [h1]; rfl, ⟨h.1, h2⟩, h3⟩
theorem all2_join {β γ : Type} {R : β → γ → Prop} : ∀ {a1 a2 : List β} {c1 c2 : List γ}, All2 R a1 c1 → All2 R a2 c2 → All2 R (a1 ++ a2) (c1 ++ c2)
  | [], _, [], _, _, h => h
  | _ :: _, _, _ :: _, _, h, k => ⟨h.1, all2_join h.2 k⟩
theorem ae_upd {w : World} {n : Int} {g : Nat} : ∀ {hss : List Hp} {l : List (Int × α)}, (∀ p ∈ l, p.1 ≠ n) → All2 (AE T K ads w) hss l → All2 (AE T K (updA ads n g) w) hss l
  | [], [], _, _ => trivial
  | h :: hss, p :: l, hn, hh => by
    obtain ⟨cs, h', e, k⟩ := hh.1
    exact ⟨⟨cs, h', by rw [updA_other ads g (hn p (by simp))]; exact e, k⟩, ae_upd (fun q hq => hn q (by simp [hq])) hh.2⟩
theorem keys_same {κ ν : Type} {l1 l2 : List (κ × ν)} {k : κ} {x y : ν} (h : ((l1 ++ (k, x) :: l2).map (·.1)).Nodup) : ((l1 ++ (k, y) :: l2).map (·.1)).Nodup := by simpa using h
/-- The struct of a name is taken out; what is put back takes its place. -/
theorem OAr.take {b : Base} {n : Int} {x : α} (h : OAr T K ads b.w l hs) (hx : mget l n = some x) :
    ∃ cs h' rest, hs.Perm (rest ++ ((ads n, Cl T cs) :: h')) ∧ K b.w cs x h' ∧ ∀ b' cs2 x2 h2, b.Le b' → K b'.w cs2 x2 h2 → OAr T K ads b'.w (mput l n x2) (rest ++ ((ads n, Cl T cs2) :: h2)) := by
  obtain ⟨hK, hss, h1, h2, h3⟩ := h
  obtain ⟨l1, l2, e1, e2, _, e4, e5⟩ := mget_split l n x h3 hx
  rw [e1] at h2
  obtain ⟨a1, a2, f1, f2, f3⟩ := all2_app h2
  match a2, f3 with
  | y :: a2, f3 =>
    obtain ⟨cs, h', g1, g2⟩ := f3.1
    refine ⟨cs, h', a1.flatten ++ a2.flatten, ?_, g2, fun b' cs2 x2 h2' hle hk => ?_⟩
    · refine h1.trans ?_
      rw [f1, List.flatten_append, List.flatten_cons, g1, List.append_assoc]
      exact List.Perm.append_left _ List.perm_append_comm
    · refine ⟨hK, a1 ++ ((ads n, Cl T cs2) :: h2') :: a2, ?_, ?_, by rw [e2 x2]; exact keys_same (e1 ▸ h3)⟩
      · rw [List.flatten_append, List.flatten_cons, List.append_assoc]
        exact List.Perm.append_left _ List.perm_append_comm
      · rw [e2 x2]
        exact all2_join (f2.imp fun _ _ ⟨cs, h', e, k⟩ => ⟨cs, h', e, hK.mono hle.cells k⟩) ⟨⟨cs2, h2', rfl, hk⟩, f3.2.imp fun _ _ ⟨cs, h', e, k⟩ => ⟨cs, h', e, hK.mono hle.cells k⟩⟩
/-- A struct comes in under a name; what had the name is let go. -/
theorem OAr.add {b : Base} (h : OAr T K ads b.w l hs) (n : Int) (g : Nat) {cs : List Value} {x : α} {h' : Hp} (hk : K b.w cs x h') :
    ∃ old rest, hs.Perm (rest ++ old) ∧ OAr T K (updA ads n g) b.w (mput l n x) (rest ++ ((g, Cl T cs) :: h')) := by
  obtain ⟨hK, hss, h1, h2, h3⟩ := h
  cases hx : mget l n with
  | none =>
    obtain ⟨e1, _, e3⟩ := mget_none_split l n hx
    refine ⟨[], hs, by simp, hK, hss ++ [(g, Cl T cs) :: h'], ?_, ?_, ?_⟩
    · rw [List.flatten_append]
      simpa using h1.append_right _
    · rw [e1 x]
      exact all2_join (ae_upd e3 h2) ⟨⟨cs, h', by rw [updA_same], hk⟩, trivial⟩
    · exact mput_nodup l n x h3
  | some y =>
    obtain ⟨l1, l2, e1, e2, _, e4, e5⟩ := mget_split l n y h3 hx
    rw [e1] at h2
    obtain ⟨a1, a2, f1, f2, f3⟩ := all2_app h2
    match a2, f3 with
    | z :: a2, f3 =>
      refine ⟨z, a1.flatten ++ a2.flatten, ?_, hK, a1 ++ ((g, Cl T cs) :: h') :: a2, ?_, ?_, by rw [e2 x]; exact keys_same (e1 ▸ h3)⟩
      · refine h1.trans ?_
        rw [f1, List.flatten_append, List.flatten_cons, List.append_assoc]
        exact List.Perm.append_left _ List.perm_append_comm
      · rw [List.flatten_append, List.flatten_cons, List.append_assoc]
        exact List.Perm.append_left _ List.perm_append_comm
      · rw [e2 x]
        exact all2_join (ae_upd e4 f2) ⟨⟨cs, h', by rw [updA_same], hk⟩, ae_upd e5 f3.2⟩
end
/- ---- more pieces ---- -/
section
variable {P : Program} {n : NT} {b : Base} {ops : Array Oper} {Q : Exit → Act → World → Prop} {e : Env} {hp : Hp}
theorem outp7 (h1 h2 h3 h4 h5 h6 h7 F R : Hp) : (h1 ++ (h2 ++ (h3 ++ (h4 ++ (h5 ++ (h6 ++ (h7 ++ (F ++ R)))))))).Perm (F ++ (h1 ++ (h2 ++ (h3 ++ (h4 ++ (h5 ++ (h6 ++ (h7 ++ R)))))))) := (List.Perm.append_left h1 (outp6 h2 h3 h4 h5 h6 h7 F R)).trans (perm_mid F h1 (h2 ++ (h3 ++ (h4 ++ (h5 ++ (h6 ++ (h7 ++ R)))))))
theorem t_in7 (B F h1 h2 h3 h4 h5 h6 h7 R : Hp) {l : List Oper} (hh : hp = B ++ (h1 ++ (h2 ++ (h3 ++ (h4 ++ (h5 ++ (h6 ++ (h7 ++ (F ++ R))))))))) (h : SLo P n b ops Q l e (B ++ (F ++ (h1 ++ (h2 ++ (h3 ++ (h4 ++ (h5 ++ (h6 ++ (h7 ++ R)))))))))) : SLo P n b ops Q l e hp := fun a w hf ho => h a w hf (by rw [hh] at ho; exact ho.perm (List.Perm.append_left B (outp7 h1 h2 h3 h4 h5 h6 h7 F R).symm))
end
/- ---- heaps: a block with two slices of its own goes in and out ---- -/
section
variable {P : Program} {n : NT} {m : Nat} {dk0 : Hp} {rq : Option Nat} {b : Base} {ops : Array Oper} {Q : Exit → Act → World → Prop} {e : Env} {hp : Hp} {ty : TypeId}
/- ---- names and nil ---- -/
def ptT (P : Program) (t : TypeId) : Bool := match P.underlying t with
  | some (.pointer _) => true
  | _ => false
/- ---- maps of names ---- -/
section
variable {κ : Type} [DecidableEq κ] {kr : RT κ} {ka : Bool} {w : World} {g : Nat} {l : List (κ × Option Int)} {hs : Hp} {ads : Int → Nat}
end
/-- No entry has the name. -/
def noName {κ : Type} (l : List (κ × Option Int)) (n : Int) : Option Unit := if (l.all fun p => decide (p.2 ≠ some n)) = true then some () else none
/- ---- delete ---- -/
section
variable {κ ν : Type} [DecidableEq κ] {kr : RT κ} {vo : OT ν} {ka va : Bool} {g : Nat} {l : List (κ × ν)} {k : κ} {hs : Hp} {kt : TypeId}
/-- A map told by rising keys. -/
def isrt (p : Int × ν) : List (Int × ν) → List (Int × ν)
  | [] => [p]
  | q :: r => if p.1 ≤ q.1 then p :: q :: r else q :: isrt p r
def msrt : List (Int × ν) → List (Int × ν)
  | [] => []
  | p :: r => isrt p (msrt r)
end
/- ---- clear of a part that reaches to the end ---- -/
section
variable {α : Type} {l : List α} {hs : Hp} {el : TypeId} {A : Option Addr} {c : Nat}
theorem zero_flat (zs : List Value) (m : Nat) : (Builtin.zeroCells zs.toArray m).toList = (List.replicate m zs).flatten := by
  rw [← made_flat zs m]
  rfl
theorem u_clear {r : RT α} (F R : Hp) {t sz by_ m : Nat} {x : Operand} {zv : Value} (zs : List Value) (a0 : α) (j : Nat) (hhp : hp = F ++ (hs ++ R)) (h : OS el (OT.fr r) b.w (.slice A l.length c) l hs) (hj : j ≤ l.length) (hm : m = l.length - j)
    (hx : val e x = some (.slice (subA A c j sz) m (c - j))) (hsl : slT P t el sz = true) (hinf : (P.info? el).map (fun i => (i.zero, i.size, i.bytes)) = some (some zv, sz, by_))
    (hz : zv.cells = zs.toArray) (hl : zs.length = sz) (hsz : r.sz = sz) (hr : r.rep b.w zs a0) :
    Does P n b (.call { callee := .builtin .clear, args := #[x], argTypes := #[t] }) ty e hp (fun v hp' => ∃ hs', v = .tuple #[] ∧ hp' = F ++ (hs' ++ R) ∧ OS el (OT.fr r) b.w (.slice A (l.take j ++ List.replicate (l.length - j) a0).length c) (l.take j ++ List.replicate (l.length - j) a0) hs') := does_of fun a w hf ho => by
  subst hsz
  subst hm
  obtain ⟨h2, _⟩ := slT_spec hsl
  have hzero : (zeroValue el).run P w = .ok zv w := by
    cases hi : P.info? el with
    | none => simp [hi] at hinf
    | some inf =>
      have hz' : inf.zero = some zv := by
        simp only [hi, Option.map_some, Option.some.injEq, Prod.mk.injEq] at hinf
        exact hinf.1
      simp [zeroValue, typeInfo, hi, hz']
  have hlen : (l.take j ++ List.replicate (l.length - j) a0).length = l.length := by simp; omega
  have hexec : ∀ {w' : World}, (Builtin.clear_ #[t] ty #[.slice (subA A c j r.sz) (l.length - j) (c - j)]).run P w = .ok (.tuple #[]) w' → ∀ d pos af gg, (execOp a.eval ⟨d, .call { callee := .builtin .clear, args := #[x], argTypes := #[t] }, ty, pos, af, gg⟩).run P w = .ok (.value (.tuple #[])) w' := fun hr d pos af gg => by
    simp [execOp, resolve, invoke, builtin, hf.eval hx, hr]
  by_cases h0 : l.length - j = 0
  · have hq : l.take j ++ List.replicate (l.length - j) a0 = l := by
      rw [h0, List.replicate_zero, List.append_nil, List.take_of_length_le (by omega)]
    refine ⟨_, _, F ++ (hs ++ R), hexec (w' := w) ?_, hhp ▸ ho, hs, rfl, rfl, by rw [hq]; exact h⟩
    rw [h0]
    unfold Builtin.clear_
    cases subA A c j r.sz <;> simp [run_underlying h2]
  · obtain ⟨css, hss, hq, q1, q2, q3⟩ := h
    obtain ⟨g, cap, pr, tl, hv, hq1, hl1, hl2, hmc, hcm⟩ := q1.pos (by omega)
    injection hv with e1 e2 e3
    subst e1
    subst e3
    subst hq1
    have hlc := q2.len
    have hfl := (all3_flat q2).1
    have htk := all3_take_len q2 j hj
    have hone : ∀ u ∈ (List.replicate (l.length - j) zs).flatten, u.oneCell' = true := fun u hu => by
      obtain ⟨y, hy, hu⟩ := List.mem_flatten.1 hu
      rw [List.eq_of_mem_replicate hy] at hu
      exact ((OT.fr r).cells ⟨hr, rfl⟩).2 u hu
    have hrl : (List.replicate (l.length - j) zs).flatten.length = (l.length - j) * r.sz := by
      rw [← hl]
      simp
    have hmul : j * r.sz + (l.length - j) * r.sz = l.length * r.sz := by
      rw [← Nat.add_mul]
      congr 1
      omega
    have hsz0 : (OT.fr r).sz = r.sz := rfl
    rw [hsz0] at hl1 hl2 hfl htk
    have hsub : subA (some ⟨g, pr.length, none⟩) c j r.sz = some ⟨g, pr.length + j * r.sz, none⟩ := by
      unfold subA
      rw [if_neg (by omega)]
      simp [Addr.add]
    have hblk : hp[F.length]? = some (g, Cl el (pr ++ css.flatten ++ tl)) := by
      rw [hhp, q3]
      simp
    have hb := (ho.blk g _ (List.mem_of_getElem? hblk)).2
    have hst := run_storeCells_at (P := P) g (pr.length + j * r.sz) el (List.replicate (l.length - j) zs).flatten 0 (pr ++ css.flatten ++ tl).toArray w hb (by simp only [List.size_toArray, List.length_append, hrl, hfl]; omega) hone
    have hrow := ho.row hblk ((pr ++ css.flatten ++ tl).take (pr.length + j * r.sz) ++ (List.replicate (l.length - j) zs).flatten ++ (pr ++ css.flatten ++ tl).drop (pr.length + j * r.sz + (List.replicate (l.length - j) zs).flatten.length))
    have hset := set_seg (pr := pr) (xs := css.flatten) (tl := tl) (us := (List.replicate (l.length - j) zs).flatten) (k := j * r.sz) (by rw [hrl, hfl]; omega)
    simp only [Nat.add_zero, List.toList_toArray] at hst
    rw [hset] at hrow hst
    have hflat : css.flatten.take (j * r.sz) ++ (List.replicate (l.length - j) zs).flatten ++ css.flatten.drop (j * r.sz + (List.replicate (l.length - j) zs).flatten.length) = (css.take j ++ List.replicate (l.length - j) zs).flatten := by
      rw [hrl, hmul, ← hfl, List.drop_length, List.append_nil, List.flatten_append]
      congr 1
      have e5 : css.flatten = (css.take j).flatten ++ (css.drop j).flatten := by rw [← List.flatten_append, List.take_append_drop]
      rw [e5, ← htk, List.take_left]
    rw [hflat] at hrow hst
    have q4 := (q2.take j).append (all3_of2 (All2.rep hr (l.length - j)))
    rw [hhp, q3] at hrow
    simp only [List.append_assoc, List.cons_append, List.nil_append] at hrow
    rw [set_mid] at hrow
    refine ⟨_, _, _, hexec ?_, hrow, [(g, Cl el (pr ++ ((css.take j ++ List.replicate (l.length - j) zs).flatten ++ tl)))] ++ hss.flatten, rfl, by simp, _, _, [(g, Cl el (pr ++ ((css.take j ++ List.replicate (l.length - j) zs).flatten ++ tl)))], ?_, q4, ?_⟩
    · obtain ⟨q, hq⟩ : ∃ q, l.length - j = q + 1 := ⟨l.length - j - 1, by omega⟩
      rw [hq] at hst
      rw [hsub, hq]
      simp only [Builtin.clear_, List.getElem?_toArray, List.getElem?_cons_zero, Sem.run_bind, run_underlying h2, hzero, Result.andThen_ok, hz, zero_flat, hst]
      rw [← List.append_assoc]
      rfl
    · rw [hlen]
      refine .inr ⟨g, c, pr, tl, rfl, by simp, ?_, ?_, hmc, hcm⟩
      · rw [List.flatten_append, List.length_append, hrl, htk, hmul]
        rfl
      · have e6 : (css.take j ++ List.replicate (l.length - j) zs).flatten.length = css.flatten.length := by
          rw [List.flatten_append, List.length_append, hrl, htk, hmul, hfl]
        rw [List.length_append, e6, ← List.length_append]
        exact hl2
    · have e7 := (all3_fr q2).2
      have e8 := (all3_fr q4).2
      rw [e7, e8]
/-- From a place on all is at its zero. -/
def clrM (l : List α) (i : Int) (a0 : α) : List α := l.take i.toNat ++ List.replicate (l.length - i.toNat) a0
theorem clrM_length (l : List α) (i : Int) (a0 : α) : (clrM l i a0).length = l.length := by
  unfold clrM
  simp only [List.length_append, List.length_take, List.length_replicate]
  omega
theorem u_clr {r : RT α} {i : Int} (F R : Hp) {t sz by_ m : Nat} {x : Operand} {zv : Value} (zs : List Value) (a0 : α) (j : Nat) (hhp : hp = F ++ (hs ++ R)) (h : OS el (OT.fr r) b.w (.slice A l.length c) l hs) (hi : i = (j : Int)) (hj : j ≤ l.length) (hm : m = l.length - j)
    (hx : val e x = some (.slice (subA A c j sz) m (c - j))) (hsl : slT P t el sz = true) (hinf : (P.info? el).map (fun i => (i.zero, i.size, i.bytes)) = some (some zv, sz, by_))
    (hz : zv.cells = zs.toArray) (hl : zs.length = sz) (hsz : r.sz = sz) (hr : r.rep b.w zs a0) :
    Does P n b (.call { callee := .builtin .clear, args := #[x], argTypes := #[t] }) ty e hp (fun v hp' => ∃ hs', v = .tuple #[] ∧ hp' = F ++ (hs' ++ R) ∧ OS el (OT.fr r) b.w (.slice A (clrM l i a0).length c) (clrM l i a0) hs') := by
  subst hi
  exact u_clear F R zs a0 j hhp h hj hm hx hsl hinf hz hl hsz hr
end
/-- A loop over a map is done: the map is there as before. -/
theorem MIt.done {κ ν : Type} {kr : RT κ} {vo : OT ν} {ka va : Bool} {w : World} {g gi : Nat} {l left : List (κ × ν)} {hs : Hp} (h : MIt kr vo ka va w g gi l left hs) : ∃ hs', hs'.Sublist hs ∧ OM kr vo ka va w g l hs' := by
  obtain ⟨l0, es, cl, hss, seen, c0, h0, h1, _, h3, h4, h5, _⟩ := h
  exact ⟨_, by rw [h1]; exact List.sublist_cons_self _ _, l0, h0, es, cl, hss, rfl, h3, h4, h5⟩
end
/-- The keys of a map, rising; their number has room, and each is an int. -/
def sortedK {ν : Type} (l : List (Int × ν)) : Option (List Int) := (room 8 l.length).bind fun _ => if (l.all fun p => decide (-9223372036854775808 ≤ p.1 ∧ p.1 ≤ 9223372036854775807)) = true then some ((l.map (·.1)).mergeSort fun x y => decide (x ≤ y)) else none
section
variable {P : Program} {n : NT} {w0 b : Base} {ops : Array Oper} {S : Hp} {Q : Exit → Act → World → Prop} {fuel : Nat} {listed : Array Bool} {e : Env} {hp : Hp}
/-- What comes behind a set of operations is proved once. -/
theorem D_tail (I : Base → Env → Hp → Prop) (fuel' : Nat) (listed' : Array Bool) (ht : ∀ b' e' hp', w0.Le b' → I b' e' hp' → SLA P n w0 b' ops S Q fuel' listed' e' hp')
    (k : (∀ b' e' hp', w0.Le b' → I b' e' hp' → SLA P n w0 b' ops S Q fuel' listed' e' hp') → SLA P n w0 b ops S Q fuel listed e hp) : SLA P n w0 b ops S Q fuel listed e hp := k ht
end

/- ---- copy of elements of many cells, onto a whole slice ---- -/
section
variable {α : Type} {P : Program} {n : NT} {m : Nat} {dk0 : Nat × Obj → Prop} {rq : Option Nat} {b : Base} {e : Env} {hp : Hp} {ty : TypeId} {l : List α} {A : Option Addr} {c : Nat} {hs : Hp}
/-- 'm' copied onto 'l'. -/
def cpyW {α : Type} (l m : List α) : List α := m.take l.length ++ l.drop m.length
end
end Go.Fp
