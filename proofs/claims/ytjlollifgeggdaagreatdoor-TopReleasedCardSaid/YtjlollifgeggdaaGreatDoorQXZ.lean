import Derived.Test.YtjlollifgeggdaaGreatDoorF3
import Derived.Laws.Pointers
set_option linter.unusedVariables false
set_option linter.unusedSimpArgs false
set_option linter.unusedSectionVars false
namespace Go.Fp
open Go.RowKit
def kv (ads : Int → Nat) : Option Int → Value
 | .none => .pointer .none
 | .some n => .pointer (.some ⟨ads n, 0, .none⟩)
theorem j4U (ads : Int → Nat) (x : Option Int) : (kv ads x).oneCell' = true := by cases x <;> rfl
def RT.key (ads : Int → Nat) : RT (Option Int) := ⟨1, fun _ vs x => vs = [kv ads x], fun h => by rw [h]; rfl, fun h u hu => by rw [h] at hu; simp at hu; subst hu; exact j4U _ _, fun _ h => h⟩
def z3O (ads : Int → Nat) (n : Int) (g : Nat) : Int → Nat := fun j => if j = n then g else ads j
theorem q7M (ads : Int → Nat) (n : Int) (g : Nat) : z3O ads n g n = g := by simp [z3O]
theorem z2f (ads : Int → Nat) {n m : Int} (g : Nat) (h : m ≠ n) : z3O ads n g m = ads m := by simp [z3O, h]
theorem j4T (ads : Int → Nat) {n : Int} (g : Nat) {x : Option Int} (h : x ≠ some n) : kv (z3O ads n g) x = kv ads x := by
 cases x with
 | none => rfl
 | some m =>
  show Value.pointer (some ⟨z3O ads n g m, 0, none⟩) = _
  rw [z2f ads g (fun e => h (by rw [e]))]
  rfl
section
variable {κ ν : Type} [DecidableEq κ]
def z0b : List (κ × ν) → κ → List (κ × ν)
 | [], _ => []
 | (a, b) :: r, k => if a = k then r else (a, b) :: z0b r k
theorem q9a : ∀ (l : List (κ × ν)) (k : κ) (x : ν), (l.map (·.1)).Nodup → J4 l k = some x → ∃ l1 l2, l = l1 ++ (k, x) :: l2 ∧ (∀ v, X7 l k v = l1 ++ (k, v) :: l2) ∧ z0b l k = l1 ++ l2 ∧ (∀ p ∈ l1, p.1 ≠ k) ∧ ∀ p ∈ l2, p.1 ≠ k
 | [], k, x, _, h => by simp [J4] at h
 | (a, b) :: r, k, x, hn, h => by
  simp only [List.map_cons, List.nodup_cons] at hn
  by_cases e : a = k
  ·subst e
   simp only [J4, if_true] at h
   injection h with h
   subst h
   exact ⟨[], r, rfl, fun v => by simp [X7], by simp [z0b], fun p hp => by simp at hp, fun p hp he => hn.1 (he ▸ List.mem_map_of_mem hp)⟩
  ·simp only [J4, if_neg e] at h
   obtain ⟨l1, l2, h1, h2, h3, h4, h5⟩ := q9a r k x hn.2 h
   refine ⟨(a, b) :: l1, l2, by rw [h1]; rfl, fun v => by simp only [X7, if_neg e, h2 v, List.cons_append], by simp only [z0b, if_neg e, h3, List.cons_append], fun p hp => ?_, h5⟩
   rcases List.mem_cons.1 hp with rfl | hp
   ·exact e
   ·exact h4 p hp
theorem q4n : ∀ (l : List (κ × ν)) (k : κ), J4 l k = none → (∀ v, X7 l k v = l ++ [(k, v)]) ∧ z0b l k = l ∧ ∀ p ∈ l, p.1 ≠ k
 | [], k, _ => ⟨fun v => rfl, rfl, fun p hp => by simp at hp⟩
 | (a, b) :: r, k, h => by
  by_cases e : a = k
  ·simp [J4, e] at h
  ·simp only [J4, if_neg e] at h
   obtain ⟨h1, h2, h3⟩ := q4n r k h
   refine ⟨fun v => by simp only [X7, if_neg e, h1 v, List.cons_append], by simp only [z0b, if_neg e, h2], fun p hp => ?_⟩
   rcases List.mem_cons.1 hp with rfl | hp
   ·exact e
   ·exact h3 p hp
end
section
variable {α : Type}
structure KM (K : World → List Value → α → Hp → Prop) : Prop where
 mono : ∀ {w w' : World} {cs : List Value} {x : α} {hs : Hp}, q1b w w' → K w cs x hs → K w' cs x hs
def AE (T : TypeId) (K : World → List Value → α → Hp → Prop) (ads : Int → Nat) (w : World) (h : Hp) (p : Int × α) : Prop := ∃ cs h', h = (ads p.1, Cl T cs) :: h' ∧ K w cs p.2 h'
def OAr (T : TypeId) (K : World → List Value → α → Hp → Prop) (ads : Int → Nat) (w : World) (l : List (Int × α)) (hs : Hp) : Prop :=
 KM K ∧ ∃ hss : List Hp, hs.Perm hss.flatten ∧ P3 (AE T K ads w) hss l ∧ (l.map (·.1)).Nodup
variable {T : TypeId} {K : World → List Value → α → Hp → Prop} {ads : Int → Nat} {l : List (Int × α)} {hs : Hp}
theorem OAr.nil {w : World} (hK : KM K) : OAr T K ads w ([] : List (Int × α)) [] := ⟨hK, [], .refl _, trivial, List.nodup_nil⟩
theorem OAr.mono {w w' : World} (hk : q1b w w') (h : OAr T K ads w l hs) : OAr T K ads w' l hs := by
 obtain ⟨hK, hss, h1, h2, h3⟩ := h
 exact ⟨hK, hss, h1, h2.imp fun _ _ ⟨cs, h', e, k⟩ => ⟨cs, h', e, hK.mono hk k⟩, h3⟩
theorem OAr.le {b b' : k9} (h : OAr T K ads b.w l hs) (hle : b.Le b') : OAr T K ads b'.w l hs := h.mono hle.cells
theorem z3J {β γ : Type} {R : β → γ → Prop} : ∀ {a : List β} {c1 c2 : List γ}, P3 R a (c1 ++ c2) → ∃ a1 a2, a = a1 ++ a2 ∧ P3 R a1 c1 ∧ P3 R a2 c2
 | a, [], c2, h => ⟨[], a, rfl, trivial, h⟩
 | [], _ :: _, _, h => by simp [P3] at h
 | x :: a, y :: c1, c2, h => by
  obtain ⟨a1, a2, h1, h2, h3⟩ := z3J (a := a) (c1 := c1) (c2 := c2) h.2
  exact ⟨x :: a1, a2, by rw [h1]; rfl, ⟨h.1, h2⟩, h3⟩
theorem q8M {β γ : Type} {R : β → γ → Prop} : ∀ {a1 a2 : List β} {c1 c2 : List γ}, P3 R a1 c1 → P3 R a2 c2 → P3 R (a1 ++ a2) (c1 ++ c2)
 | [], _, [], _, _, h => h
 | _ :: _, _, _ :: _, _, h, k => ⟨h.1, q8M h.2 k⟩
theorem z7m {w : World} {n : Int} {g : Nat} : ∀ {hss : List Hp} {l : List (Int × α)}, (∀ p ∈ l, p.1 ≠ n) → P3 (AE T K ads w) hss l → P3 (AE T K (z3O ads n g) w) hss l
 | [], [], _, _ => trivial
 | h :: hss, p :: l, hn, hh => by
  obtain ⟨cs, h', e, k⟩ := hh.1
  exact ⟨⟨cs, h', by rw [z2f ads g (hn p (by simp))]; exact e, k⟩, z7m (fun q hq => hn q (by simp [hq])) hh.2⟩
theorem z4l {κ ν : Type} {l1 l2 : List (κ × ν)} {k : κ} {x y : ν} (h : ((l1 ++ (k, x) :: l2).map (·.1)).Nodup) : ((l1 ++ (k, y) :: l2).map (·.1)).Nodup := by simpa using h
theorem OAr.take {b : k9} {n : Int} {x : α} (h : OAr T K ads b.w l hs) (hx : J4 l n = some x) :
  ∃ cs h' rest, hs.Perm (rest ++ ((ads n, Cl T cs) :: h')) ∧ K b.w cs x h' ∧ ∀ b' cs2 x2 h2, b.Le b' → K b'.w cs2 x2 h2 → OAr T K ads b'.w (X7 l n x2) (rest ++ ((ads n, Cl T cs2) :: h2)) := by
 obtain ⟨hK, hss, h1, h2, h3⟩ := h
 obtain ⟨l1, l2, e1, e2, _, e4, e5⟩ := q9a l n x h3 hx
 rw [e1] at h2
 obtain ⟨a1, a2, f1, f2, f3⟩ := z3J h2
 match a2, f3 with
 | y :: a2, f3 =>
  obtain ⟨cs, h', g1, g2⟩ := f3.1
  refine ⟨cs, h', a1.flatten ++ a2.flatten, ?_, g2, fun b' cs2 x2 h2' hle hk => ?_⟩
  ·refine h1.trans ?_
   rw [f1, List.flatten_append, List.flatten_cons, g1, List.append_assoc]
   exact Ke _ List.perm_append_comm
  ·refine ⟨hK, a1 ++ ((ads n, Cl T cs2) :: h2') :: a2, ?_, ?_, by rw [e2 x2]; exact z4l (e1 ▸ h3)⟩
   ·rw [List.flatten_append, List.flatten_cons, List.append_assoc]
    exact Ke _ List.perm_append_comm
   ·rw [e2 x2]
    exact q8M (f2.imp fun _ _ ⟨cs, h', e, k⟩ => ⟨cs, h', e, hK.mono hle.cells k⟩) ⟨⟨cs2, h2', rfl, hk⟩, f3.2.imp fun _ _ ⟨cs, h', e, k⟩ => ⟨cs, h', e, hK.mono hle.cells k⟩⟩
theorem OAr.add {b : k9} (h : OAr T K ads b.w l hs) (n : Int) (g : Nat) {cs : List Value} {x : α} {h' : Hp} (hk : K b.w cs x h') :
  ∃ old rest, hs.Perm (rest ++ old) ∧ OAr T K (z3O ads n g) b.w (X7 l n x) (rest ++ ((g, Cl T cs) :: h')) := by
 obtain ⟨hK, hss, h1, h2, h3⟩ := h
 cases hx : J4 l n with
 | none =>
  obtain ⟨e1, _, e3⟩ := q4n l n hx
  refine ⟨[], hs, by simp, hK, hss ++ [(g, Cl T cs) :: h'], ?_, ?_, ?_⟩
  ·rw [List.flatten_append]
   simpa using h1.append_right _
  ·rw [e1 x]
   exact q8M (z7m e3 h2) ⟨⟨cs, h', by rw [q7M], hk⟩, trivial⟩
  ·exact q8Z l n x h3
 | some y =>
  obtain ⟨l1, l2, e1, e2, _, e4, e5⟩ := q9a l n y h3 hx
  rw [e1] at h2
  obtain ⟨a1, a2, f1, f2, f3⟩ := z3J h2
  match a2, f3 with
  | z :: a2, f3 =>
   refine ⟨z, a1.flatten ++ a2.flatten, ?_, hK, a1 ++ ((g, Cl T cs) :: h') :: a2, ?_, ?_, by rw [e2 x]; exact z4l (e1 ▸ h3)⟩
   ·refine h1.trans ?_
    rw [f1, List.flatten_append, List.flatten_cons, List.append_assoc]
    exact Ke _ List.perm_append_comm
   ·rw [List.flatten_append, List.flatten_cons, List.append_assoc]
    exact Ke _ List.perm_append_comm
   ·rw [e2 x]
    exact q8M (z7m e4 f2) ⟨⟨cs, h', by rw [q7M], hk⟩, z7m e5 f3.2⟩
end
section
variable {P : Program} {n : NT} {b : k9} {ops : Array Oper} {Q : Exit → Act → World → Prop} {e : Env} {hp : Hp}
end
section
variable {P : Program} {n : NT} {m : Nat} {dk0 : Hp} {rq : Option Nat} {b : k9} {ops : Array Oper} {Q : Exit → Act → World → Prop} {e : Env} {hp : Hp} {ty : TypeId}
theorem z0a {F hs rest h3 h4 R : Hp} {x : Nat × Obj} (hh : hp = F ++ (hs ++ R)) (hq : hs.Perm (rest ++ (x :: (h3 ++ h4)))) : (x :: (F ++ (h3 ++ (h4 ++ (rest ++ R))))).Perm hp := by
 rw [hh]
 refine List.Perm.trans ?_ (.append_left F (hq.symm.append_right R))
 have e1 : rest ++ (x :: (h3 ++ h4)) ++ R = rest ++ (x :: (h3 ++ (h4 ++ R))) := by simp
 rw [e1]
 refine List.Perm.trans ?_ (.append_left F (List.perm_middle (a := x) (l₁ := rest) (l₂ := h3 ++ (h4 ++ R))).symm)
 refine List.Perm.trans (.cons x ?_) (List.perm_middle (a := x) (l₁ := F) (l₂ := rest ++ (h3 ++ (h4 ++ R)))).symm
 refine .append_left F ?_
 have e2 : h3 ++ (h4 ++ (rest ++ R)) = (h3 ++ h4) ++ (rest ++ R) := by simp
 have e3 : rest ++ (h3 ++ (h4 ++ R)) = rest ++ ((h3 ++ h4) ++ R) := by simp
 rw [e2, e3]
 exact H2 rest (h3 ++ h4) R
theorem z9r {F rest h3 h4 R : Hp} {x : Nat × Obj} (hh : hp = x :: (F ++ (h3 ++ (h4 ++ (rest ++ R))))) : (F ++ ((rest ++ (x :: (h3 ++ h4))) ++ R)).Perm hp := by
 rw [hh]
 exact (z0a (hp := F ++ ((rest ++ (x :: (h3 ++ h4))) ++ R)) rfl (.refl _)).symm
theorem j1V {F hs old rest h3 h4 R : Hp} {x : Nat × Obj} (hh : hp = x :: (F ++ (h3 ++ (h4 ++ (hs ++ R))))) (hq : hs.Perm (rest ++ old)) : ∃ hp1 : Hp, (F ++ ((rest ++ (x :: (h3 ++ h4))) ++ R)).Sublist hp1 ∧ hp1.Perm hp := by
 refine ⟨F ++ ((rest ++ (x :: (h3 ++ h4))) ++ (old ++ R)), .append (.refl _) (.append (.refl _) (Kc _ _)), ?_⟩
 rw [hh]
 refine List.Perm.trans ?_ (.cons x (.append_left F (.append_left h3 (.append_left h4 (hq.symm.append_right R)))))
 refine (z9r (hp := x :: (F ++ (h3 ++ (h4 ++ (rest ++ (old ++ R)))))) rfl).trans ?_
 simp
theorem z1g (F hs rest h3 h4 R : Hp) {x : Nat × Obj} {c : Code} (hh : hp = F ++ (hs ++ R)) (hq : hs.Perm (rest ++ (x :: (h3 ++ h4)))) (h : SLc P n b Q c e (x :: (F ++ (h3 ++ (h4 ++ (rest ++ R)))))) : SLc P n b Q c e hp := fun a w hf ho => h a w hf (ho.perm (z0a hh hq))
theorem q2B (F hs rest h3 h4 R : Hp) {x : Nat × Obj} {l : List Oper} (hh : hp = F ++ (hs ++ R)) (hq : hs.Perm (rest ++ (x :: (h3 ++ h4)))) (h : SLo P n b ops Q l e (x :: (F ++ (h3 ++ (h4 ++ (rest ++ R)))))) : SLo P n b ops Q l e hp := fun a w hf ho => h a w hf (ho.perm (z0a hh hq))
theorem q8L {F hs rest h3 h4 R : Hp} {x : Nat × Obj} (hh : hp = x :: (F ++ (h3 ++ (h4 ++ (rest ++ R))))) (hq : hs.Perm (rest ++ (x :: (h3 ++ h4)))) : (F ++ (hs ++ R)).Perm hp := by
 rw [hh]
 exact (z0a (hp := F ++ (hs ++ R)) rfl hq).symm
theorem z4J (F hs rest h3 h4 R : Hp) {x : Nat × Obj} {c : Code} (hh : hp = x :: (F ++ (h3 ++ (h4 ++ (rest ++ R))))) (hq : hs.Perm (rest ++ (x :: (h3 ++ h4)))) (h : SLc P n b Q c e (F ++ (hs ++ R))) : SLc P n b Q c e hp := fun a w hf ho => h a w hf (ho.perm (q8L hh hq))
theorem j4z (F hs rest h3 h4 R : Hp) {x : Nat × Obj} {l : List Oper} (hh : hp = x :: (F ++ (h3 ++ (h4 ++ (rest ++ R))))) (hq : hs.Perm (rest ++ (x :: (h3 ++ h4)))) (h : SLo P n b ops Q l e (F ++ (hs ++ R))) : SLo P n b ops Q l e hp := fun a w hf ho => h a w hf (ho.perm (q8L hh hq))
theorem q3I (F hs rest h3 h4 R : Hp) {x : Nat × Obj} {ex : Exit} (hh : hp = x :: (F ++ (h3 ++ (h4 ++ (rest ++ R))))) (hq : hs.Perm (rest ++ (x :: (h3 ++ h4)))) (h : SLx n b Q ex e (F ++ (hs ++ R))) : SLx n b Q ex e hp := fun a w hf ho => h a w hf (ho.perm (q8L hh hq))
theorem j3O (F hs rest h3 h4 R : Hp) {x : Nat × Obj} {w0 : k9} {S : Hp} {fuel : Nat} {listed : Array Bool} (hh : hp = x :: (F ++ (h3 ++ (h4 ++ (rest ++ R))))) (hq : hs.Perm (rest ++ (x :: (h3 ++ h4)))) (h : SLA P n w0 b ops S Q fuel listed e (F ++ (hs ++ R))) : SLA P n w0 b ops S Q fuel listed e hp := fun a w hf ho => h a w hf (ho.perm (q8L hh hq))
theorem z1B (F rest h3 h4 R : Hp) {x : Nat × Obj} {ex : Exit} (hh : hp = x :: (F ++ (h3 ++ (h4 ++ (rest ++ R))))) (h : SLx n b Q ex e (F ++ ((rest ++ (x :: (h3 ++ h4))) ++ R))) : SLx n b Q ex e hp := fun a w hf ho => h a w hf (ho.perm (z9r hh))
theorem j2s (F hs old rest h3 h4 R : Hp) {x : Nat × Obj} {w0 : k9} {S : Hp} {fuel : Nat} {listed : Array Bool} (hh : hp = x :: (F ++ (h3 ++ (h4 ++ (hs ++ R))))) (hq : hs.Perm (rest ++ old)) (h : SLA P n w0 b ops S Q fuel listed e (F ++ ((rest ++ (x :: (h3 ++ h4))) ++ R))) : SLA P n w0 b ops S Q fuel listed e hp := fun a w hf ho => by
 obtain ⟨hp1, h1, h2⟩ := j1V hh hq
 exact h a w hf ((ho.perm h2).sub h1)
def ptT (P : Program) (t : TypeId) : Bool := match P.underlying t with
 | some (.pointer _) => true
 | _ => false
theorem z6q {t : TypeId} (h : ptT P t = true) : P.underlying t = some (.pointer (P.pointee t)) := by
 unfold ptT at h
 unfold Program.pointee
 split at h
 ·rename_i h1
  rw [h1]
 ·cases h
theorem z6l {x y : Operand} {t u : TypeId} {ads : Int → Nat} {q : Option Int} (hx : val e x = some (kv ads q)) (hy : val e y = some (.pointer none)) (h : ptT P t = true) : Z0 P n b (.binOp .neq t x y u) ty e hp (.bool (!q.isNone)) := fun a w hf _ _ _ _ _ => by
 cases q with
 | none =>
  have h1 := run_neq_pointer_nil (P := P) w t none (z6q h)
  simp only [execOp, hf.eval hx, hf.eval hy, eqGuard, Sem.run_bind, kv]
  simp [h1]
 | some m =>
  have h1 := run_neq_pointer_nil (P := P) w t (some ⟨ads m, 0, none⟩) (z6q h)
  simp only [execOp, hf.eval hx, hf.eval hy, eqGuard, Sem.run_bind, kv]
  simp [h1]
section
variable {κ : Type} [DecidableEq κ] {kr : RT κ} {ka : Bool} {w : World} {g : Nat} {l : List (κ × Option Int)} {hs : Hp} {ads : Int → Nat}
theorem OM0.upd (h : OM0 kr (OT.fr (RT.key ads)) ka false w g l hs) (n : Int) (q : Nat) (hn : ∀ p ∈ l, p.2 ≠ some n) : OM0 kr (OT.fr (RT.key (z3O ads n q))) ka false w g l hs := by
 obtain ⟨es, cl, hss, h1, h2, h3⟩ := h
 refine ⟨es, cl, hss, h1, ?_, h3⟩
 clear h1 h3
 induction es generalizing l hss with
 | nil => match l, hss, h2 with | [], [], _ => trivial
 | cons e es ih =>
  match l, hss, h2 with
  | p :: l, y :: hss, h2 =>
   refine ⟨⟨h2.1.1, ?_⟩, ih (fun p hp => hn p (by simp [hp])) hss h2.2⟩
   obtain ⟨h4, h5⟩ := h2.1.2
   refine ⟨?_, h5⟩
   show [e.val] = [kv (z3O ads n q) p.2]
   rw [j4T ads q (hn p (by simp))]
   exact h4
theorem OM.upd (h : OM kr (OT.fr (RT.key ads)) ka false w g l hs) (n : Int) (q : Nat) (hn : ∀ p ∈ l, p.2 ≠ some n) : OM kr (OT.fr (RT.key (z3O ads n q))) ka false w g l hs := let ⟨l0, h1, h2⟩ := h; ⟨l0, h1, h2.upd n q fun p hp => hn p (h1.subset hp)⟩
end
def z4f {κ : Type} (l : List (κ × Option Int)) (n : Int) : Option Unit := if (l.all fun p => decide (p.2 ≠ some n)) = true then some () else none
theorem z0G {κ : Type} {l : List (κ × Option Int)} {n : Int} {u : Unit} (h : z4f l n = some u) : ∀ p ∈ l, p.2 ≠ some n := by
 unfold z4f at h
 split at h
 ·rename_i h1
  intro p hp
  exact of_decide_eq_true (List.all_eq_true.1 h1 p hp)
 ·cases h
section
variable {κ ν : Type} [DecidableEq κ] {kr : RT κ} {vo : OT ν} {ka va : Bool} {g : Nat} {l : List (κ × ν)} {k : κ} {hs : Hp} {kt : TypeId}
theorem z6J : ∀ (l : List (κ × ν)) (k : κ) (i q : Nat), z5L l k i = some q → z0b l k = l.eraseIdx (q - i) ∧ i ≤ q
 | [], k, i, q, h => by simp [z5L] at h
 | (a, b) :: r, k, i, q, h => by
  unfold z5L at h
  by_cases e : a = k
  ·rw [if_pos e] at h
   injection h with h
   subst h
   simp [z0b, e]
  ·rw [if_neg e] at h
   obtain ⟨h1, h2⟩ := z6J r k (i + 1) q h
   refine ⟨?_, by omega⟩
   rw [show q - i = (q - (i + 1)) + 1 by omega, List.eraseIdx_cons_succ, ← h1]
   simp [z0b, e]
theorem z2I {β γ δ : Type} {R : β → γ → δ → Prop} : ∀ {a : List β} {c : List γ} {d : List δ} (q : Nat), q2z R a c d → q2z R (a.eraseIdx q) (c.eraseIdx q) (d.eraseIdx q)
 | [], [], [], q, _ => by simp only [List.eraseIdx_nil]; exact trivial
 | _ :: _, _ :: _, _ :: _, 0, h => h.2
 | _ :: _, _ :: _, _ :: _, q + 1, h => ⟨h.1, z2I q h.2⟩
theorem j2Z (K : q4C P kt kr ka) (F R : Hp) {et mt kt2 : TypeId} {xm xk : Operand} {key : Value} (hhp : hp = F ++ (hs ++ R)) (h : OM0 kr vo ka va b.w g l hs) (hm : P.underlying mt = some (.map kt et))
  (h1 : val e xm = some (.map (some g))) (h2 : val e xk = some key) (hk : VR kr ka b.w key k) :
  q5c P n b (.call { callee := .builtin .delete, args := #[xm, xk], argTypes := #[mt, kt2] }) ty e hp (fun v hp' => ∃ hs', v = .tuple #[] ∧ hp' = F ++ (hs' ++ R) ∧ OM0 kr vo ka va b.w g (z0b l k) hs') := q4u fun a w hf ho => by
 obtain ⟨es, cl, hss, g1, g2, g3⟩ := h
 have hkeys : P3 (fun (e : MapEntry) (p : κ × ν) => VR kr ka b.w e.key p.1) es l := q6S (fun _ _ _ h => h.1) g2
 have hlen := hkeys.length
 have hi : hp[F.length]? = some (g, .map es.toArray cl) := by rw [hhp, g1]; simp
 have hblk := q8W ho (List.mem_of_getElem? hi)
 have hfind := q7u (w' := w) K hk hkeys
 have hrun : ∀ (o' : Obj), (match fnd es l k 0 with | some (i, _) => o' = .map (es.toArray.eraseIdxIfInBounds i) cl | none => o' = .map es.toArray cl) →
   (Builtin.delete_ #[mt, kt2] ty #[.map (some g), key]).run P w = .ok (.tuple #[]) { w with heap := w.heap.setIfInBounds g o' } := by
  intro o' ho'
  simp only [Builtin.delete_, List.getElem?_toArray, List.getElem?_cons_zero, List.getElem?_cons_succ, Sem.run_bind, run_underlying hm, MapKept.run_getObj_map hblk, Result.andThen_ok, K.check hk, hfind]
  cases hq : fnd es l k 0 with
  | none => rw [hq] at ho'; subst ho'; simp [MapKept.run_setObj_map _ hblk]
  | some q => rw [hq] at ho'; subst ho'; simp [MapKept.run_setObj_map _ hblk]
 have hexec : ∀ {w' : World}, (Builtin.delete_ #[mt, kt2] ty #[.map (some g), key]).run P w = .ok (.tuple #[]) w' → ∀ d pos af gg, (execOp a.eval ⟨d, .call { callee := .builtin .delete, args := #[xm, xk], argTypes := #[mt, kt2] }, ty, pos, af, gg⟩).run P w = .ok (.value (.tuple #[])) w' := fun hr d pos af gg => by
  simp [execOp, resolve, invoke, builtin, hf.eval h1, hf.eval h2, hr]
 cases hq2 : z5L l k 0 with
 | none =>
  obtain ⟨c1, c2, c3⟩ := q8i l k 0 hq2
  have hf0 : fnd es l k 0 = none := by rw [q9w (w := w) k 0 hlen, hq2]; rfl
  have hd := (q4n l k c1).2.1
  refine ⟨_, _, F ++ (((g, .map es.toArray cl) :: hss.flatten) ++ R), hexec (hrun _ (by rw [hf0])), ?_, _, rfl, rfl, es, cl, hss, rfl, by rw [hd]; exact g2, by rw [hd]; exact g3⟩
  have ho2 := ho.turnMap (o' := .map es.toArray cl) hi
  rw [hhp, g1] at ho2
  simp only [List.cons_append] at ho2
  rw [q8U] at ho2
  simpa using ho2
 | some q =>
  obtain ⟨_, y, c1, c2, c3⟩ := q5l l k 0 q hq2
  simp only [Nat.sub_zero] at c1
  obtain ⟨e0, hsk, e1, e2, e3⟩ := g2.get c1
  have hf0 : fnd es l k 0 = some (q, e0.val) := by rw [q9w (w := w) k 0 hlen, hq2]; simp [e1]
  obtain ⟨hd, _⟩ := z6J l k 0 q hq2
  rw [Nat.sub_zero] at hd
  refine ⟨_, _, F ++ (((g, .map (es.eraseIdx q).toArray cl) :: (hss.eraseIdx q).flatten) ++ R), hexec (hrun _ (by rw [hf0])), ?_, _, rfl, rfl, es.eraseIdx q, cl, hss.eraseIdx q, rfl, by rw [hd]; exact z2I q g2, ?_, ?_, ?_⟩
  ·have ho2 := ho.turnMap (o' := .map (es.toArray.eraseIdxIfInBounds q) cl) hi
   rw [hhp, g1] at ho2
   simp only [List.cons_append] at ho2
   rw [q8U] at ho2
   have e4 : (es.eraseIdx q).toArray = es.toArray.eraseIdxIfInBounds q := by simp
   rw [e4]
   refine (ho2.sub ?_)
   have hsub : (hss.eraseIdx q).flatten.Sublist hss.flatten := by
    rw [List.eraseIdx_eq_take_drop_succ, List.flatten_append, q3g e2]
    simp
   simp only [List.cons_append]
   exact List.Sublist.append (.refl _) (.cons_cons _ (hsub.append (.refl _)))
  ·rw [hd]
   exact ((List.eraseIdx_sublist l q).map _).nodup g3.1
  ·exact fun e he => g3.2.1 e (List.mem_of_mem_eraseIdx he)
  ·exact ((List.eraseIdx_sublist es q).map _).nodup g3.2.2
theorem z9i {l l' : List (κ × ν)} (h : l.Perm l') : (l.map (·.1)).Nodup → ∀ k, (z0b l k).Perm (z0b l' k) := by
 induction h with
 | nil => intro _ _; exact .refl _
 | cons x h ih =>
  intro hn k
  simp only [List.map_cons, List.nodup_cons] at hn
  obtain ⟨a, c⟩ := x
  simp only [z0b]
  by_cases e : a = k
  ·rw [if_pos e, if_pos e]; exact h
  ·rw [if_neg e, if_neg e]; exact .cons _ (ih hn.2 k)
 | swap x y r =>
  intro hn k
  obtain ⟨a, c⟩ := x
  obtain ⟨a', c'⟩ := y
  simp only [List.map_cons, List.nodup_cons, List.mem_cons, not_or] at hn
  simp only [z0b]
  by_cases e : a = k
  ·by_cases e' : a' = k
   ·exact absurd (e'.trans e.symm) hn.1.1
   ·simp only [if_pos e, if_neg e']; exact .refl _
  ·by_cases e' : a' = k
   ·simp only [if_neg e, if_pos e']; exact .refl _
   ·simp only [if_neg e, if_neg e']; exact .swap _ _ _
 | trans h1 h2 ih1 ih2 =>
  intro hn k
  exact (ih1 hn k).trans (ih2 ((h1.map _).nodup_iff.1 hn) k)
theorem j2d (K : q4C P kt kr ka) (F R : Hp) {et mt kt2 : TypeId} {xm xk : Operand} {key : Value} (hhp : hp = F ++ (hs ++ R)) (h : OM kr vo ka va b.w g l hs) (hm : P.underlying mt = some (.map kt et))
  (h1 : val e xm = some (.map (some g))) (h2 : val e xk = some key) (hk : VR kr ka b.w key k) :
  q5c P n b (.call { callee := .builtin .delete, args := #[xm, xk], argTypes := #[mt, kt2] }) ty e hp (fun v hp' => ∃ hs', v = .tuple #[] ∧ hp' = F ++ (hs' ++ R) ∧ OM kr vo ka va b.w g (z0b l k) hs') := by
 obtain ⟨l0, hp0, h⟩ := h
 exact (j2Z K F R hhp h hm h1 h2 hk).imp fun _ hp' ⟨hs', q1, q2, q3⟩ => ⟨hs', q1, q2, _, z9i hp0 h.nd k, q3⟩
end
section
variable {α : Type} {l : List α} {hs : Hp} {el : TypeId} {A : Option Addr} {c : Nat}
theorem z8h (zs : List Value) (m : Nat) : (Builtin.zeroCells zs.toArray m).toList = (List.replicate m zs).flatten := by
 rw [← z4i zs m]
 rfl
theorem j3a {r : RT α} (F R : Hp) {t sz by_ m : Nat} {x : Operand} {zv : Value} (zs : List Value) (a0 : α) (j : Nat) (hhp : hp = F ++ (hs ++ R)) (h : OS el (OT.fr r) b.w (.slice A l.length c) l hs) (hj : j ≤ l.length) (hm : m = l.length - j)
  (hx : val e x = some (.slice (z2S A c j sz) m (c - j))) (hsl : slT P t el sz = true) (hinf : (P.info? el).map (fun i => (i.zero, i.size, i.bytes)) = some (some zv, sz, by_))
  (hz : zv.cells = zs.toArray) (hl : zs.length = sz) (hsz : r.sz = sz) (hr : r.rep b.w zs a0) :
  q5c P n b (.call { callee := .builtin .clear, args := #[x], argTypes := #[t] }) ty e hp (fun v hp' => ∃ hs', v = .tuple #[] ∧ hp' = F ++ (hs' ++ R) ∧ OS el (OT.fr r) b.w (.slice A (l.take j ++ List.replicate (l.length - j) a0).length c) (l.take j ++ List.replicate (l.length - j) a0) hs') := q4u fun a w hf ho => by
 subst hsz
 subst hm
 obtain ⟨h2, _⟩ := q3U hsl
 have hzero : (zeroValue el).run P w = .ok zv w := by
  cases hi : P.info? el with
  | none => simp [hi] at hinf
  | some inf =>
   have hz' : inf.zero = some zv := by
    simp only [hi, Option.map_some, Option.some.injEq, Prod.mk.injEq] at hinf
    exact hinf.1
   simp [zeroValue, typeInfo, hi, hz']
 have hlen : (l.take j ++ List.replicate (l.length - j) a0).length = l.length := by simp; omega
 have hexec : ∀ {w' : World}, (Builtin.clear_ #[t] ty #[.slice (z2S A c j r.sz) (l.length - j) (c - j)]).run P w = .ok (.tuple #[]) w' → ∀ d pos af gg, (execOp a.eval ⟨d, .call { callee := .builtin .clear, args := #[x], argTypes := #[t] }, ty, pos, af, gg⟩).run P w = .ok (.value (.tuple #[])) w' := fun hr d pos af gg => by
  simp [execOp, resolve, invoke, builtin, hf.eval hx, hr]
 by_cases h0 : l.length - j = 0
 ·have hq : l.take j ++ List.replicate (l.length - j) a0 = l := by
   rw [h0, List.replicate_zero, List.append_nil, List.take_of_length_le (by omega)]
  refine ⟨_, _, F ++ (hs ++ R), hexec (w' := w) ?_, hhp ▸ ho, hs, rfl, rfl, by rw [hq]; exact h⟩
  rw [h0]
  unfold Builtin.clear_
  cases z2S A c j r.sz <;> simp [run_underlying h2]
 ·obtain ⟨css, hss, hq, q1, q2, q3⟩ := h
  obtain ⟨g, cap, pr, tl, hv, hq1, hl1, hl2, hmc, hcm⟩ := q1.pos (by omega)
  injection hv with e1 e2 e3
  subst e1
  subst e3
  subst hq1
  have hlc := q2.len
  have hfl := (q3G q2).1
  have htk := q2Q q2 j hj
  have hone : ∀ u ∈ (List.replicate (l.length - j) zs).flatten, u.oneCell' = true := fun u hu => by
   obtain ⟨y, hy, hu⟩ := List.mem_flatten.1 hu
   rw [List.eq_of_mem_replicate hy] at hu
   exact ((OT.fr r).cells ⟨hr, rfl⟩).2 u hu
  have hrl : (List.replicate (l.length - j) zs).flatten.length = (l.length - j) * r.sz := by
   rw [← hl]
   simp
  have hmul : j * r.sz + (l.length - j) * r.sz = l.length * r.sz := by
   rw [← Nat.add_mul]
   congr 1
   omega
  have hsz0 : (OT.fr r).sz = r.sz := rfl
  rw [hsz0] at hl1 hl2 hfl htk
  have hsub : z2S (some ⟨g, pr.length, none⟩) c j r.sz = some ⟨g, pr.length + j * r.sz, none⟩ := by
   unfold z2S
   rw [if_neg (by omega)]
   simp [Addr.add]
  have hblk : hp[F.length]? = some (g, Cl el (pr ++ css.flatten ++ tl)) := by
   rw [hhp, q3]
   simp
  have hb := (ho.blk g _ (List.mem_of_getElem? hblk)).2
  have hst := run_storeCells_at (P := P) g (pr.length + j * r.sz) el (List.replicate (l.length - j) zs).flatten 0 (pr ++ css.flatten ++ tl).toArray w hb (by simp only [List.size_toArray, List.length_append, hrl, hfl]; omega) hone
  have hrow := ho.row hblk ((pr ++ css.flatten ++ tl).take (pr.length + j * r.sz) ++ (List.replicate (l.length - j) zs).flatten ++ (pr ++ css.flatten ++ tl).drop (pr.length + j * r.sz + (List.replicate (l.length - j) zs).flatten.length))
  have hset := z8F (pr := pr) (xs := css.flatten) (tl := tl) (us := (List.replicate (l.length - j) zs).flatten) (k := j * r.sz) (by rw [hrl, hfl]; omega)
  simp only [Nat.add_zero, List.toList_toArray] at hst
  rw [hset] at hrow hst
  have hflat : css.flatten.take (j * r.sz) ++ (List.replicate (l.length - j) zs).flatten ++ css.flatten.drop (j * r.sz + (List.replicate (l.length - j) zs).flatten.length) = (css.take j ++ List.replicate (l.length - j) zs).flatten := by
   rw [hrl, hmul, ← hfl, List.drop_length, List.append_nil, List.flatten_append]
   congr 1
   have e5 : css.flatten = (css.take j).flatten ++ (css.drop j).flatten := by rw [← List.flatten_append, List.take_append_drop]
   rw [e5, ← htk, List.take_left]
  rw [hflat] at hrow hst
  have q4 := (q2.take j).append (q5R (P3.rep hr (l.length - j)))
  rw [hhp, q3] at hrow
  simp only [List.append_assoc, List.cons_append, List.nil_append] at hrow
  rw [q8U] at hrow
  refine ⟨_, _, _, hexec ?_, hrow, [(g, Cl el (pr ++ ((css.take j ++ List.replicate (l.length - j) zs).flatten ++ tl)))] ++ hss.flatten, rfl, by simp, _, _, [(g, Cl el (pr ++ ((css.take j ++ List.replicate (l.length - j) zs).flatten ++ tl)))], ?_, q4, ?_⟩
  ·obtain ⟨q, hq⟩ : ∃ q, l.length - j = q + 1 := ⟨l.length - j - 1, by omega⟩
   rw [hq] at hst
   rw [hsub, hq]
   simp only [Builtin.clear_, List.getElem?_toArray, List.getElem?_cons_zero, Sem.run_bind, run_underlying h2, hzero, Result.andThen_ok, hz, z8h, hst]
   rw [← List.append_assoc]
   rfl
  ·rw [hlen]
   refine .inr ⟨g, c, pr, tl, rfl, by simp, ?_, ?_, hmc, hcm⟩
   ·rw [List.flatten_append, List.length_append, hrl, htk, hmul]
    rfl
   ·have e6 : (css.take j ++ List.replicate (l.length - j) zs).flatten.length = css.flatten.length := by
     rw [List.flatten_append, List.length_append, hrl, htk, hmul, hfl]
    rw [List.length_append, e6, ← List.length_append]
    exact hl2
  ·have e7 := (z3I q2).2
   have e8 := (z3I q4).2
   rw [e7, e8]
def j3P (l : List α) (i : Int) (a0 : α) : List α := l.take i.toNat ++ List.replicate (l.length - i.toNat) a0
theorem z5S (l : List α) (i : Int) (a0 : α) : (j3P l i a0).length = l.length := by
 unfold j3P
 simp only [List.length_append, List.length_take, List.length_replicate]
 omega
theorem j6D {r : RT α} {i : Int} (F R : Hp) {t sz by_ m : Nat} {x : Operand} {zv : Value} (zs : List Value) (a0 : α) (j : Nat) (hhp : hp = F ++ (hs ++ R)) (h : OS el (OT.fr r) b.w (.slice A l.length c) l hs) (hi : i = (j : Int)) (hj : j ≤ l.length) (hm : m = l.length - j)
  (hx : val e x = some (.slice (z2S A c j sz) m (c - j))) (hsl : slT P t el sz = true) (hinf : (P.info? el).map (fun i => (i.zero, i.size, i.bytes)) = some (some zv, sz, by_))
  (hz : zv.cells = zs.toArray) (hl : zs.length = sz) (hsz : r.sz = sz) (hr : r.rep b.w zs a0) :
  q5c P n b (.call { callee := .builtin .clear, args := #[x], argTypes := #[t] }) ty e hp (fun v hp' => ∃ hs', v = .tuple #[] ∧ hp' = F ++ (hs' ++ R) ∧ OS el (OT.fr r) b.w (.slice A (j3P l i a0).length c) (j3P l i a0) hs') := by
 subst hi
 exact j3a F R zs a0 j hhp h hj hm hx hsl hinf hz hl hsz hr
end
theorem MIt.done {κ ν : Type} {kr : RT κ} {vo : OT ν} {ka va : Bool} {w : World} {g gi : Nat} {l left : List (κ × ν)} {hs : Hp} (h : MIt kr vo ka va w g gi l left hs) : ∃ hs', hs'.Sublist hs ∧ OM kr vo ka va w g l hs' := by
 obtain ⟨l0, es, cl, hss, seen, c0, h0, h1, _, h3, h4, h5, _⟩ := h
 exact ⟨_, by rw [h1]; exact List.sublist_cons_self _ _, l0, h0, es, cl, hss, rfl, h3, h4, h5⟩
end
def z2W {ν : Type} (l : List (Int × ν)) : Option (List Int) := (z1z 8 l.length).bind fun _ => if (l.all fun p => decide (-9223372036854775808 ≤ p.1 ∧ p.1 ≤ 9223372036854775807)) = true then some ((l.map (·.1)).mergeSort fun x y => decide (x ≤ y)) else none
section
variable {P : Program} {n : NT} {w0 b : k9} {ops : Array Oper} {S : Hp} {Q : Exit → Act → World → Prop} {fuel : Nat} {listed : Array Bool} {e : Env} {hp : Hp}
theorem z4Y (I : k9 → Env → Hp → Prop) (fuel' : Nat) (listed' : Array Bool) (ht : ∀ b' e' hp', w0.Le b' → I b' e' hp' → SLA P n w0 b' ops S Q fuel' listed' e' hp')
  (k : (∀ b' e' hp', w0.Le b' → I b' e' hp' → SLA P n w0 b' ops S Q fuel' listed' e' hp') → SLA P n w0 b ops S Q fuel listed e hp) : SLA P n w0 b ops S Q fuel listed e hp := k ht
end
section
variable {α : Type} {P : Program} {n : NT} {m : Nat} {dk0 : Nat × Obj → Prop} {rq : Option Nat} {b : k9} {e : Env} {hp : Hp} {ty : TypeId} {l : List α} {A : Option Addr} {c : Nat} {hs : Hp}
end
end Go.Fp
