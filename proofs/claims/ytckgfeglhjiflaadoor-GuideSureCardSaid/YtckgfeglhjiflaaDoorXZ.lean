/- Extraction, part Z: pointers to structs of the call's own, by name: they lie in an arena; maps and slices hold names. -/
import Derived.Test.YtckgfeglhjiflaaDoorXG
import Derived.Test.YtckgfeglhjiflaaDoorXI
import Derived.Laws.Pointers
set_option linter.unusedVariables false
set_option linter.unusedSimpArgs false
set_option linter.unusedSectionVars false
namespace Go.Fp
open Go.RowKit

/-- The pointer of a name. -/
def kv (ads : Int → Nat) : Option Int → Value
  | .none => .pointer .none
  | .some n => .pointer (.some ⟨ads n, 0, .none⟩)
theorem kv_one (ads : Int → Nat) (x : Option Int) : (kv ads x).oneCell' = true := by cases x <;> rfl
def RT.key (ads : Int → Nat) : RT (Option Int) := ⟨1, fun _ vs x => vs = [kv ads x], fun h => by rw [h]; rfl, fun h u hu => by rw [h] at hu; simp at hu; subst hu; exact kv_one _ _, fun _ h => h⟩
def updA (ads : Int → Nat) (n : Int) (g : Nat) : Int → Nat := fun j => if j = n then g else ads j
theorem updA_same (ads : Int → Nat) (n : Int) (g : Nat) : updA ads n g n = g := by simp [updA]
theorem updA_other (ads : Int → Nat) {n m : Int} (g : Nat) (h : m ≠ n) : updA ads n g m = ads m := by simp [updA, h]
theorem kv_upd (ads : Int → Nat) {n : Int} (g : Nat) {x : Option Int} (h : x ≠ some n) : kv (updA ads n g) x = kv ads x := by
  cases x with
  | none => rfl
  | some m =>
    show Value.pointer (some ⟨updA ads n g m, 0, none⟩) = _
    rw [updA_other ads g (fun e => h (by rw [e]))]
    rfl
section
variable {κ ν : Type} [DecidableEq κ]
/-- A map without a key. -/
def mdel : List (κ × ν) → κ → List (κ × ν)
  | [], _ => []
  | (a, b) :: r, k => if a = k then r else (a, b) :: mdel r k
theorem mget_split : ∀ (l : List (κ × ν)) (k : κ) (x : ν), (l.map (·.1)).Nodup → mget l k = some x → ∃ l1 l2, l = l1 ++ (k, x) :: l2 ∧ (∀ v, mput l k v = l1 ++ (k, v) :: l2) ∧ mdel l k = l1 ++ l2 ∧ (∀ p ∈ l1, p.1 ≠ k) ∧ ∀ p ∈ l2, p.1 ≠ k
  | [], k, x, _, h => by simp [mget] at h
  | (a, b) :: r, k, x, hn, h => by
    simp only [List.map_cons, List.nodup_cons] at hn
    by_cases e : a = k
    · subst e
      simp only [mget, if_true] at h
      injection h with h
      subst h
      exact ⟨[], r, rfl, fun v => by simp [mput], by simp [mdel], fun p hp => by simp at hp, fun p hp he => hn.1 (he ▸ List.mem_map_of_mem hp)⟩
    · simp only [mget, if_neg e] at h
      obtain ⟨l1, l2, h1, h2, h3, h4, h5⟩ := mget_split r k x hn.2 h
      refine ⟨(a, b) :: l1, l2, by rw [h1]; rfl, fun v => by simp only [mput, if_neg e, h2 v, List.cons_append], by simp only [mdel, if_neg e, h3, List.cons_append], fun p hp => ?_, h5⟩
      rcases List.mem_cons.1 hp with rfl | hp
      · exact e
      · exact h4 p hp
theorem mget_none_split : ∀ (l : List (κ × ν)) (k : κ), mget l k = none → (∀ v, mput l k v = l ++ [(k, v)]) ∧ mdel l k = l ∧ ∀ p ∈ l, p.1 ≠ k
  | [], k, _ => ⟨fun v => rfl, rfl, fun p hp => by simp at hp⟩
  | (a, b) :: r, k, h => by
    by_cases e : a = k
    · simp [mget, e] at h
    · simp only [mget, if_neg e] at h
      obtain ⟨h1, h2, h3⟩ := mget_none_split r k h
      refine ⟨fun v => by simp only [mput, if_neg e, h1 v, List.cons_append], by simp only [mdel, if_neg e, h2], fun p hp => ?_⟩
      rcases List.mem_cons.1 hp with rfl | hp
      · exact e
      · exact h3 p hp
end
/- ---- the arena ---- -/
section
variable {α : Type}
/-- What a struct of the call's own stands for: by its cells, and the memory that hangs on it. -/
structure KM (K : World → List Value → α → Hp → Prop) : Prop where
  mono : ∀ {w w' : World} {cs : List Value} {x : α} {hs : Hp}, Keeps w w' → K w cs x hs → K w' cs x hs
def AE (T : TypeId) (K : World → List Value → α → Hp → Prop) (ads : Int → Nat) (w : World) (h : Hp) (p : Int × α) : Prop := ∃ cs h', h = (ads p.1, Cl T cs) :: h' ∧ K w cs p.2 h'
def OAr (T : TypeId) (K : World → List Value → α → Hp → Prop) (ads : Int → Nat) (w : World) (l : List (Int × α)) (hs : Hp) : Prop :=
  KM K ∧ ∃ hss : List Hp, hs.Perm hss.flatten ∧ All2 (AE T K ads w) hss l ∧ (l.map (·.1)).Nodup
variable {T : TypeId} {K : World → List Value → α → Hp → Prop} {ads : Int → Nat} {l : List (Int × α)} {hs : Hp}
theorem OAr.nil {w : World} (hK : KM K) : OAr T K ads w ([] : List (Int × α)) [] := ⟨hK, [], .refl _, trivial, List.nodup_nil⟩
theorem OAr.mono {w w' : World} (hk : Keeps w w') (h : OAr T K ads w l hs) : OAr T K ads w' l hs := by
  obtain ⟨hK, hss, h1, h2, h3⟩ := h
  exact ⟨hK, hss, h1, h2.imp fun _ _ ⟨cs, h', e, k⟩ => ⟨cs, h', e, hK.mono hk k⟩, h3⟩
theorem all2_perm {β γ : Type} {R : β → γ → Prop} {l l' : List γ} (h : l.Perm l') : ∀ {a : List β}, All2 R a l → ∃ a', a.Perm a' ∧ All2 R a' l' := by
  induction h with
  | nil => intro a ha; exact ⟨a, .refl _, ha⟩
  | cons x h ih =>
    intro a ha
    match a, ha with
    | y :: a, ha =>
      obtain ⟨a', h1, h2⟩ := ih ha.2
      exact ⟨y :: a', .cons _ h1, ha.1, h2⟩
  | swap x y r =>
    intro a ha
    match a, ha with
    | u :: v :: a, ha => exact ⟨v :: u :: a, .swap _ _ _, ha.2.1, ha.1, ha.2.2⟩
  | trans h1 h2 ih1 ih2 =>
    intro a ha
    obtain ⟨a1, h3, h4⟩ := ih1 ha
    obtain ⟨a2, h5, h6⟩ := ih2 h4
    exact ⟨a2, h3.trans h5, h6⟩
theorem OAr.prm {w : World} {l' : List (Int × α)} (h : OAr T K ads w l hs) (hp : l.Perm l') : OAr T K ads w l' hs := by
  obtain ⟨hK, hss, h1, h2, h3⟩ := h
  obtain ⟨hss', h4, h5⟩ := all2_perm hp h2
  exact ⟨hK, hss', h1.trans h4.flatten, h5, (hp.map _).nodup_iff.1 h3⟩
theorem OAr.le {b b' : Base} (h : OAr T K ads b.w l hs) (hle : b.Le b') : OAr T K ads b'.w l hs := h.mono hle.cells
theorem all2_app {β γ : Type} {R : β → γ → Prop} : ∀ {a : List β} {c1 c2 : List γ}, All2 R a (c1 ++ c2) → ∃ a1 a2, a = a1 ++ a2 ∧ All2 R a1 c1 ∧ All2 R a2 c2
  | a, [], c2, h => ⟨[], a, rfl, trivial, h⟩
  | [], _ :: _, _, h => by simp [All2] at h
  | x :: a, y :: c1, c2, h => by
    obtain ⟨a1, a2, h1, h2, h3⟩ := all2_app (a := a) (c1 := c1) (c2 := c2) h.2
    exact ⟨x :: a1, a2, by rw [h1]; rfl, ⟨h.1, h2⟩, h3⟩
theorem all2_join {β γ : Type} {R : β → γ → Prop} : ∀ {a1 a2 : List β} {c1 c2 : List γ}, All2 R a1 c1 → All2 R a2 c2 → All2 R (a1 ++ a2) (c1 ++ c2)
  | [], _, [], _, _, h => h
  | _ :: _, _, _ :: _, _, h, k => ⟨h.1, all2_join h.2 k⟩
theorem ae_upd {w : World} {n : Int} {g : Nat} : ∀ {hss : List Hp} {l : List (Int × α)}, (∀ p ∈ l, p.1 ≠ n) → All2 (AE T K ads w) hss l → All2 (AE T K (updA ads n g) w) hss l
  | [], [], _, _ => trivial
  | h :: hss, p :: l, hn, hh => by
    obtain ⟨cs, h', e, k⟩ := hh.1
    exact ⟨⟨cs, h', by rw [updA_other ads g (hn p (by simp))]; exact e, k⟩, ae_upd (fun q hq => hn q (by simp [hq])) hh.2⟩
theorem keys_same {κ ν : Type} {l1 l2 : List (κ × ν)} {k : κ} {x y : ν} (h : ((l1 ++ (k, x) :: l2).map (·.1)).Nodup) : ((l1 ++ (k, y) :: l2).map (·.1)).Nodup := by simpa using h
/-- The struct of a name is taken out; what is put back takes its place. -/
theorem OAr.take {b : Base} {n : Int} {x : α} (h : OAr T K ads b.w l hs) (hx : mget l n = some x) :
    ∃ cs h' rest, hs.Perm (rest ++ ((ads n, Cl T cs) :: h')) ∧ K b.w cs x h' ∧ ∀ b' cs2 x2 h2, b.Le b' → K b'.w cs2 x2 h2 → OAr T K ads b'.w (mput l n x2) (rest ++ ((ads n, Cl T cs2) :: h2)) := by
  obtain ⟨hK, hss, h1, h2, h3⟩ := h
  obtain ⟨l1, l2, e1, e2, _, e4, e5⟩ := mget_split l n x h3 hx
  rw [e1] at h2
  obtain ⟨a1, a2, f1, f2, f3⟩ := all2_app h2
  match a2, f3 with
  | y :: a2, f3 =>
    obtain ⟨cs, h', g1, g2⟩ := f3.1
    refine ⟨cs, h', a1.flatten ++ a2.flatten, ?_, g2, fun b' cs2 x2 h2' hle hk => ?_⟩
    · refine h1.trans ?_
      rw [f1, List.flatten_append, List.flatten_cons, g1, List.append_assoc]
      exact List.Perm.append_left _ List.perm_append_comm
    · refine ⟨hK, a1 ++ ((ads n, Cl T cs2) :: h2') :: a2, ?_, ?_, by rw [e2 x2]; exact keys_same (e1 ▸ h3)⟩
      · rw [List.flatten_append, List.flatten_cons, List.append_assoc]
        exact List.Perm.append_left _ List.perm_append_comm
      · rw [e2 x2]
        exact all2_join (f2.imp fun _ _ ⟨cs, h', e, k⟩ => ⟨cs, h', e, hK.mono hle.cells k⟩) ⟨⟨cs2, h2', rfl, hk⟩, f3.2.imp fun _ _ ⟨cs, h', e, k⟩ => ⟨cs, h', e, hK.mono hle.cells k⟩⟩
theorem mput_self {κ ν : Type} [DecidableEq κ] : ∀ {l : List (κ × ν)} {k : κ} {x : ν}, mget l k = some x → mput l k x = l
  | [], _, _, h => by simp [mget] at h
  | (a, b) :: r, k, x, h => by
    by_cases e : a = k
    · simp only [mget, if_pos e] at h
      injection h with h
      simp [mput, e, h]
    · simp only [mget, if_neg e] at h
      simp only [mput, if_neg e, mput_self h]
/-- A struct comes in under a name; what had the name is let go. -/
theorem OAr.add {b : Base} (h : OAr T K ads b.w l hs) (n : Int) (g : Nat) {cs : List Value} {x : α} {h' : Hp} (hk : K b.w cs x h') :
    ∃ old rest, hs.Perm (rest ++ old) ∧ OAr T K (updA ads n g) b.w (mput l n x) (rest ++ ((g, Cl T cs) :: h')) := by
  obtain ⟨hK, hss, h1, h2, h3⟩ := h
  cases hx : mget l n with
  | none =>
    obtain ⟨e1, _, e3⟩ := mget_none_split l n hx
    refine ⟨[], hs, by simp, hK, hss ++ [(g, Cl T cs) :: h'], ?_, ?_, ?_⟩
    · rw [List.flatten_append]
      simpa using h1.append_right _
    · rw [e1 x]
      exact all2_join (ae_upd e3 h2) ⟨⟨cs, h', by rw [updA_same], hk⟩, trivial⟩
    · exact mput_nodup l n x h3
  | some y =>
    obtain ⟨l1, l2, e1, e2, _, e4, e5⟩ := mget_split l n y h3 hx
    rw [e1] at h2
    obtain ⟨a1, a2, f1, f2, f3⟩ := all2_app h2
    match a2, f3 with
    | z :: a2, f3 =>
      refine ⟨z, a1.flatten ++ a2.flatten, ?_, hK, a1 ++ ((g, Cl T cs) :: h') :: a2, ?_, ?_, by rw [e2 x]; exact keys_same (e1 ▸ h3)⟩
      · refine h1.trans ?_
        rw [f1, List.flatten_append, List.flatten_cons, List.append_assoc]
        exact List.Perm.append_left _ List.perm_append_comm
      · rw [List.flatten_append, List.flatten_cons, List.append_assoc]
        exact List.Perm.append_left _ List.perm_append_comm
      · rw [e2 x]
        exact all2_join (ae_upd e4 f2) ⟨⟨cs, h', by rw [updA_same], hk⟩, ae_upd e5 f3.2⟩
end
/- ---- more pieces ---- -/
section
variable {P : Program} {n : NT} {b : Base} {ops : Array Oper} {Q : Exit → Act → World → Prop} {e : Env} {hp : Hp}
theorem outp7 (h1 h2 h3 h4 h5 h6 h7 F R : Hp) : (h1 ++ (h2 ++ (h3 ++ (h4 ++ (h5 ++ (h6 ++ (h7 ++ (F ++ R)))))))).Perm (F ++ (h1 ++ (h2 ++ (h3 ++ (h4 ++ (h5 ++ (h6 ++ (h7 ++ R)))))))) := (List.Perm.append_left h1 (outp6 h2 h3 h4 h5 h6 h7 F R)).trans (perm_mid F h1 (h2 ++ (h3 ++ (h4 ++ (h5 ++ (h6 ++ (h7 ++ R)))))))
theorem t_out7 (B F h1 h2 h3 h4 h5 h6 h7 R : Hp) {l : List Oper} (hh : hp = B ++ (F ++ (h1 ++ (h2 ++ (h3 ++ (h4 ++ (h5 ++ (h6 ++ (h7 ++ R))))))))) (h : SLo P n b ops Q l e (B ++ (h1 ++ (h2 ++ (h3 ++ (h4 ++ (h5 ++ (h6 ++ (h7 ++ (F ++ R)))))))))) : SLo P n b ops Q l e hp := fun a w hf ho => h a w hf (by rw [hh] at ho; exact ho.perm (List.Perm.append_left B (outp7 h1 h2 h3 h4 h5 h6 h7 F R)))
theorem t_in7 (B F h1 h2 h3 h4 h5 h6 h7 R : Hp) {l : List Oper} (hh : hp = B ++ (h1 ++ (h2 ++ (h3 ++ (h4 ++ (h5 ++ (h6 ++ (h7 ++ (F ++ R))))))))) (h : SLo P n b ops Q l e (B ++ (F ++ (h1 ++ (h2 ++ (h3 ++ (h4 ++ (h5 ++ (h6 ++ (h7 ++ R)))))))))) : SLo P n b ops Q l e hp := fun a w hf ho => h a w hf (by rw [hh] at ho; exact ho.perm (List.Perm.append_left B (outp7 h1 h2 h3 h4 h5 h6 h7 F R).symm))
theorem d_out7 (B F h1 h2 h3 h4 h5 h6 h7 R : Hp) {w0 : Base} {S : Hp} {fuel : Nat} {listed : Array Bool} (hh : hp = B ++ (F ++ (h1 ++ (h2 ++ (h3 ++ (h4 ++ (h5 ++ (h6 ++ (h7 ++ R))))))))) (h : SLA P n w0 b ops S Q fuel listed e (B ++ (h1 ++ (h2 ++ (h3 ++ (h4 ++ (h5 ++ (h6 ++ (h7 ++ (F ++ R)))))))))) : SLA P n w0 b ops S Q fuel listed e hp := fun a w hf ho => h a w hf (by rw [hh] at ho; exact ho.perm (List.Perm.append_left B (outp7 h1 h2 h3 h4 h5 h6 h7 F R)))
theorem d_in7 (B F h1 h2 h3 h4 h5 h6 h7 R : Hp) {w0 : Base} {S : Hp} {fuel : Nat} {listed : Array Bool} (hh : hp = B ++ (h1 ++ (h2 ++ (h3 ++ (h4 ++ (h5 ++ (h6 ++ (h7 ++ (F ++ R))))))))) (h : SLA P n w0 b ops S Q fuel listed e (B ++ (F ++ (h1 ++ (h2 ++ (h3 ++ (h4 ++ (h5 ++ (h6 ++ (h7 ++ R)))))))))) : SLA P n w0 b ops S Q fuel listed e hp := fun a w hf ho => h a w hf (by rw [hh] at ho; exact ho.perm (List.Perm.append_left B (outp7 h1 h2 h3 h4 h5 h6 h7 F R).symm))
theorem outp8 (h1 h2 h3 h4 h5 h6 h7 h8 F R : Hp) : (h1 ++ (h2 ++ (h3 ++ (h4 ++ (h5 ++ (h6 ++ (h7 ++ (h8 ++ (F ++ R))))))))).Perm (F ++ (h1 ++ (h2 ++ (h3 ++ (h4 ++ (h5 ++ (h6 ++ (h7 ++ (h8 ++ R))))))))) := (List.Perm.append_left h1 (outp7 h2 h3 h4 h5 h6 h7 h8 F R)).trans (perm_mid F h1 (h2 ++ (h3 ++ (h4 ++ (h5 ++ (h6 ++ (h7 ++ (h8 ++ R))))))))
theorem t_out8 (B F h1 h2 h3 h4 h5 h6 h7 h8 R : Hp) {l : List Oper} (hh : hp = B ++ (F ++ (h1 ++ (h2 ++ (h3 ++ (h4 ++ (h5 ++ (h6 ++ (h7 ++ (h8 ++ R)))))))))) (h : SLo P n b ops Q l e (B ++ (h1 ++ (h2 ++ (h3 ++ (h4 ++ (h5 ++ (h6 ++ (h7 ++ (h8 ++ (F ++ R))))))))))) : SLo P n b ops Q l e hp := fun a w hf ho => h a w hf (by rw [hh] at ho; exact ho.perm (List.Perm.append_left B (outp8 h1 h2 h3 h4 h5 h6 h7 h8 F R)))
theorem t_in8 (B F h1 h2 h3 h4 h5 h6 h7 h8 R : Hp) {l : List Oper} (hh : hp = B ++ (h1 ++ (h2 ++ (h3 ++ (h4 ++ (h5 ++ (h6 ++ (h7 ++ (h8 ++ (F ++ R)))))))))) (h : SLo P n b ops Q l e (B ++ (F ++ (h1 ++ (h2 ++ (h3 ++ (h4 ++ (h5 ++ (h6 ++ (h7 ++ (h8 ++ R))))))))))) : SLo P n b ops Q l e hp := fun a w hf ho => h a w hf (by rw [hh] at ho; exact ho.perm (List.Perm.append_left B (outp8 h1 h2 h3 h4 h5 h6 h7 h8 F R).symm))
theorem d_out8 (B F h1 h2 h3 h4 h5 h6 h7 h8 R : Hp) {w0 : Base} {S : Hp} {fuel : Nat} {listed : Array Bool} (hh : hp = B ++ (F ++ (h1 ++ (h2 ++ (h3 ++ (h4 ++ (h5 ++ (h6 ++ (h7 ++ (h8 ++ R)))))))))) (h : SLA P n w0 b ops S Q fuel listed e (B ++ (h1 ++ (h2 ++ (h3 ++ (h4 ++ (h5 ++ (h6 ++ (h7 ++ (h8 ++ (F ++ R))))))))))) : SLA P n w0 b ops S Q fuel listed e hp := fun a w hf ho => h a w hf (by rw [hh] at ho; exact ho.perm (List.Perm.append_left B (outp8 h1 h2 h3 h4 h5 h6 h7 h8 F R)))
theorem d_in8 (B F h1 h2 h3 h4 h5 h6 h7 h8 R : Hp) {w0 : Base} {S : Hp} {fuel : Nat} {listed : Array Bool} (hh : hp = B ++ (h1 ++ (h2 ++ (h3 ++ (h4 ++ (h5 ++ (h6 ++ (h7 ++ (h8 ++ (F ++ R)))))))))) (h : SLA P n w0 b ops S Q fuel listed e (B ++ (F ++ (h1 ++ (h2 ++ (h3 ++ (h4 ++ (h5 ++ (h6 ++ (h7 ++ (h8 ++ R))))))))))) : SLA P n w0 b ops S Q fuel listed e hp := fun a w hf ho => h a w hf (by rw [hh] at ho; exact ho.perm (List.Perm.append_left B (outp8 h1 h2 h3 h4 h5 h6 h7 h8 F R).symm))
theorem outp9 (h1 h2 h3 h4 h5 h6 h7 h8 h9 F R : Hp) : (h1 ++ (h2 ++ (h3 ++ (h4 ++ (h5 ++ (h6 ++ (h7 ++ (h8 ++ (h9 ++ (F ++ R)))))))))).Perm (F ++ (h1 ++ (h2 ++ (h3 ++ (h4 ++ (h5 ++ (h6 ++ (h7 ++ (h8 ++ (h9 ++ R)))))))))) := (List.Perm.append_left h1 (outp8 h2 h3 h4 h5 h6 h7 h8 h9 F R)).trans (perm_mid F h1 (h2 ++ (h3 ++ (h4 ++ (h5 ++ (h6 ++ (h7 ++ (h8 ++ (h9 ++ R)))))))))
theorem t_out9 (B F h1 h2 h3 h4 h5 h6 h7 h8 h9 R : Hp) {l : List Oper} (hh : hp = B ++ (F ++ (h1 ++ (h2 ++ (h3 ++ (h4 ++ (h5 ++ (h6 ++ (h7 ++ (h8 ++ (h9 ++ R))))))))))) (h : SLo P n b ops Q l e (B ++ (h1 ++ (h2 ++ (h3 ++ (h4 ++ (h5 ++ (h6 ++ (h7 ++ (h8 ++ (h9 ++ (F ++ R)))))))))))) : SLo P n b ops Q l e hp := fun a w hf ho => h a w hf (by rw [hh] at ho; exact ho.perm (List.Perm.append_left B (outp9 h1 h2 h3 h4 h5 h6 h7 h8 h9 F R)))
theorem t_in9 (B F h1 h2 h3 h4 h5 h6 h7 h8 h9 R : Hp) {l : List Oper} (hh : hp = B ++ (h1 ++ (h2 ++ (h3 ++ (h4 ++ (h5 ++ (h6 ++ (h7 ++ (h8 ++ (h9 ++ (F ++ R))))))))))) (h : SLo P n b ops Q l e (B ++ (F ++ (h1 ++ (h2 ++ (h3 ++ (h4 ++ (h5 ++ (h6 ++ (h7 ++ (h8 ++ (h9 ++ R)))))))))))) : SLo P n b ops Q l e hp := fun a w hf ho => h a w hf (by rw [hh] at ho; exact ho.perm (List.Perm.append_left B (outp9 h1 h2 h3 h4 h5 h6 h7 h8 h9 F R).symm))
theorem d_out9 (B F h1 h2 h3 h4 h5 h6 h7 h8 h9 R : Hp) {w0 : Base} {S : Hp} {fuel : Nat} {listed : Array Bool} (hh : hp = B ++ (F ++ (h1 ++ (h2 ++ (h3 ++ (h4 ++ (h5 ++ (h6 ++ (h7 ++ (h8 ++ (h9 ++ R))))))))))) (h : SLA P n w0 b ops S Q fuel listed e (B ++ (h1 ++ (h2 ++ (h3 ++ (h4 ++ (h5 ++ (h6 ++ (h7 ++ (h8 ++ (h9 ++ (F ++ R)))))))))))) : SLA P n w0 b ops S Q fuel listed e hp := fun a w hf ho => h a w hf (by rw [hh] at ho; exact ho.perm (List.Perm.append_left B (outp9 h1 h2 h3 h4 h5 h6 h7 h8 h9 F R)))
theorem d_in9 (B F h1 h2 h3 h4 h5 h6 h7 h8 h9 R : Hp) {w0 : Base} {S : Hp} {fuel : Nat} {listed : Array Bool} (hh : hp = B ++ (h1 ++ (h2 ++ (h3 ++ (h4 ++ (h5 ++ (h6 ++ (h7 ++ (h8 ++ (h9 ++ (F ++ R))))))))))) (h : SLA P n w0 b ops S Q fuel listed e (B ++ (F ++ (h1 ++ (h2 ++ (h3 ++ (h4 ++ (h5 ++ (h6 ++ (h7 ++ (h8 ++ (h9 ++ R)))))))))))) : SLA P n w0 b ops S Q fuel listed e hp := fun a w hf ho => h a w hf (by rw [hh] at ho; exact ho.perm (List.Perm.append_left B (outp9 h1 h2 h3 h4 h5 h6 h7 h8 h9 F R).symm))
theorem outp10 (h1 h2 h3 h4 h5 h6 h7 h8 h9 h10 F R : Hp) : (h1 ++ (h2 ++ (h3 ++ (h4 ++ (h5 ++ (h6 ++ (h7 ++ (h8 ++ (h9 ++ (h10 ++ (F ++ R))))))))))).Perm (F ++ (h1 ++ (h2 ++ (h3 ++ (h4 ++ (h5 ++ (h6 ++ (h7 ++ (h8 ++ (h9 ++ (h10 ++ R))))))))))) := (List.Perm.append_left h1 (outp9 h2 h3 h4 h5 h6 h7 h8 h9 h10 F R)).trans (perm_mid F h1 (h2 ++ (h3 ++ (h4 ++ (h5 ++ (h6 ++ (h7 ++ (h8 ++ (h9 ++ (h10 ++ R))))))))))
theorem t_out10 (B F h1 h2 h3 h4 h5 h6 h7 h8 h9 h10 R : Hp) {l : List Oper} (hh : hp = B ++ (F ++ (h1 ++ (h2 ++ (h3 ++ (h4 ++ (h5 ++ (h6 ++ (h7 ++ (h8 ++ (h9 ++ (h10 ++ R)))))))))))) (h : SLo P n b ops Q l e (B ++ (h1 ++ (h2 ++ (h3 ++ (h4 ++ (h5 ++ (h6 ++ (h7 ++ (h8 ++ (h9 ++ (h10 ++ (F ++ R))))))))))))) : SLo P n b ops Q l e hp := fun a w hf ho => h a w hf (by rw [hh] at ho; exact ho.perm (List.Perm.append_left B (outp10 h1 h2 h3 h4 h5 h6 h7 h8 h9 h10 F R)))
theorem t_in10 (B F h1 h2 h3 h4 h5 h6 h7 h8 h9 h10 R : Hp) {l : List Oper} (hh : hp = B ++ (h1 ++ (h2 ++ (h3 ++ (h4 ++ (h5 ++ (h6 ++ (h7 ++ (h8 ++ (h9 ++ (h10 ++ (F ++ R)))))))))))) (h : SLo P n b ops Q l e (B ++ (F ++ (h1 ++ (h2 ++ (h3 ++ (h4 ++ (h5 ++ (h6 ++ (h7 ++ (h8 ++ (h9 ++ (h10 ++ R))))))))))))) : SLo P n b ops Q l e hp := fun a w hf ho => h a w hf (by rw [hh] at ho; exact ho.perm (List.Perm.append_left B (outp10 h1 h2 h3 h4 h5 h6 h7 h8 h9 h10 F R).symm))
theorem d_out10 (B F h1 h2 h3 h4 h5 h6 h7 h8 h9 h10 R : Hp) {w0 : Base} {S : Hp} {fuel : Nat} {listed : Array Bool} (hh : hp = B ++ (F ++ (h1 ++ (h2 ++ (h3 ++ (h4 ++ (h5 ++ (h6 ++ (h7 ++ (h8 ++ (h9 ++ (h10 ++ R)))))))))))) (h : SLA P n w0 b ops S Q fuel listed e (B ++ (h1 ++ (h2 ++ (h3 ++ (h4 ++ (h5 ++ (h6 ++ (h7 ++ (h8 ++ (h9 ++ (h10 ++ (F ++ R))))))))))))) : SLA P n w0 b ops S Q fuel listed e hp := fun a w hf ho => h a w hf (by rw [hh] at ho; exact ho.perm (List.Perm.append_left B (outp10 h1 h2 h3 h4 h5 h6 h7 h8 h9 h10 F R)))
theorem d_in10 (B F h1 h2 h3 h4 h5 h6 h7 h8 h9 h10 R : Hp) {w0 : Base} {S : Hp} {fuel : Nat} {listed : Array Bool} (hh : hp = B ++ (h1 ++ (h2 ++ (h3 ++ (h4 ++ (h5 ++ (h6 ++ (h7 ++ (h8 ++ (h9 ++ (h10 ++ (F ++ R)))))))))))) (h : SLA P n w0 b ops S Q fuel listed e (B ++ (F ++ (h1 ++ (h2 ++ (h3 ++ (h4 ++ (h5 ++ (h6 ++ (h7 ++ (h8 ++ (h9 ++ (h10 ++ R))))))))))))) : SLA P n w0 b ops S Q fuel listed e hp := fun a w hf ho => h a w hf (by rw [hh] at ho; exact ho.perm (List.Perm.append_left B (outp10 h1 h2 h3 h4 h5 h6 h7 h8 h9 h10 F R).symm))
theorem outp11 (h1 h2 h3 h4 h5 h6 h7 h8 h9 h10 h11 F R : Hp) : (h1 ++ (h2 ++ (h3 ++ (h4 ++ (h5 ++ (h6 ++ (h7 ++ (h8 ++ (h9 ++ (h10 ++ (h11 ++ (F ++ R)))))))))))).Perm (F ++ (h1 ++ (h2 ++ (h3 ++ (h4 ++ (h5 ++ (h6 ++ (h7 ++ (h8 ++ (h9 ++ (h10 ++ (h11 ++ R)))))))))))) := (List.Perm.append_left h1 (outp10 h2 h3 h4 h5 h6 h7 h8 h9 h10 h11 F R)).trans (perm_mid F h1 (h2 ++ (h3 ++ (h4 ++ (h5 ++ (h6 ++ (h7 ++ (h8 ++ (h9 ++ (h10 ++ (h11 ++ R)))))))))))
theorem t_out11 (B F h1 h2 h3 h4 h5 h6 h7 h8 h9 h10 h11 R : Hp) {l : List Oper} (hh : hp = B ++ (F ++ (h1 ++ (h2 ++ (h3 ++ (h4 ++ (h5 ++ (h6 ++ (h7 ++ (h8 ++ (h9 ++ (h10 ++ (h11 ++ R))))))))))))) (h : SLo P n b ops Q l e (B ++ (h1 ++ (h2 ++ (h3 ++ (h4 ++ (h5 ++ (h6 ++ (h7 ++ (h8 ++ (h9 ++ (h10 ++ (h11 ++ (F ++ R)))))))))))))) : SLo P n b ops Q l e hp := fun a w hf ho => h a w hf (by rw [hh] at ho; exact ho.perm (List.Perm.append_left B (outp11 h1 h2 h3 h4 h5 h6 h7 h8 h9 h10 h11 F R)))
theorem t_in11 (B F h1 h2 h3 h4 h5 h6 h7 h8 h9 h10 h11 R : Hp) {l : List Oper} (hh : hp = B ++ (h1 ++ (h2 ++ (h3 ++ (h4 ++ (h5 ++ (h6 ++ (h7 ++ (h8 ++ (h9 ++ (h10 ++ (h11 ++ (F ++ R))))))))))))) (h : SLo P n b ops Q l e (B ++ (F ++ (h1 ++ (h2 ++ (h3 ++ (h4 ++ (h5 ++ (h6 ++ (h7 ++ (h8 ++ (h9 ++ (h10 ++ (h11 ++ R)))))))))))))) : SLo P n b ops Q l e hp := fun a w hf ho => h a w hf (by rw [hh] at ho; exact ho.perm (List.Perm.append_left B (outp11 h1 h2 h3 h4 h5 h6 h7 h8 h9 h10 h11 F R).symm))
theorem d_out11 (B F h1 h2 h3 h4 h5 h6 h7 h8 h9 h10 h11 R : Hp) {w0 : Base} {S : Hp} {fuel : Nat} {listed : Array Bool} (hh : hp = B ++ (F ++ (h1 ++ (h2 ++ (h3 ++ (h4 ++ (h5 ++ (h6 ++ (h7 ++ (h8 ++ (h9 ++ (h10 ++ (h11 ++ R))))))))))))) (h : SLA P n w0 b ops S Q fuel listed e (B ++ (h1 ++ (h2 ++ (h3 ++ (h4 ++ (h5 ++ (h6 ++ (h7 ++ (h8 ++ (h9 ++ (h10 ++ (h11 ++ (F ++ R)))))))))))))) : SLA P n w0 b ops S Q fuel listed e hp := fun a w hf ho => h a w hf (by rw [hh] at ho; exact ho.perm (List.Perm.append_left B (outp11 h1 h2 h3 h4 h5 h6 h7 h8 h9 h10 h11 F R)))
theorem d_in11 (B F h1 h2 h3 h4 h5 h6 h7 h8 h9 h10 h11 R : Hp) {w0 : Base} {S : Hp} {fuel : Nat} {listed : Array Bool} (hh : hp = B ++ (h1 ++ (h2 ++ (h3 ++ (h4 ++ (h5 ++ (h6 ++ (h7 ++ (h8 ++ (h9 ++ (h10 ++ (h11 ++ (F ++ R))))))))))))) (h : SLA P n w0 b ops S Q fuel listed e (B ++ (F ++ (h1 ++ (h2 ++ (h3 ++ (h4 ++ (h5 ++ (h6 ++ (h7 ++ (h8 ++ (h9 ++ (h10 ++ (h11 ++ R)))))))))))))) : SLA P n w0 b ops S Q fuel listed e hp := fun a w hf ho => h a w hf (by rw [hh] at ho; exact ho.perm (List.Perm.append_left B (outp11 h1 h2 h3 h4 h5 h6 h7 h8 h9 h10 h11 F R).symm))
theorem outp12 (h1 h2 h3 h4 h5 h6 h7 h8 h9 h10 h11 h12 F R : Hp) : (h1 ++ (h2 ++ (h3 ++ (h4 ++ (h5 ++ (h6 ++ (h7 ++ (h8 ++ (h9 ++ (h10 ++ (h11 ++ (h12 ++ (F ++ R))))))))))))).Perm (F ++ (h1 ++ (h2 ++ (h3 ++ (h4 ++ (h5 ++ (h6 ++ (h7 ++ (h8 ++ (h9 ++ (h10 ++ (h11 ++ (h12 ++ R))))))))))))) := (List.Perm.append_left h1 (outp11 h2 h3 h4 h5 h6 h7 h8 h9 h10 h11 h12 F R)).trans (perm_mid F h1 (h2 ++ (h3 ++ (h4 ++ (h5 ++ (h6 ++ (h7 ++ (h8 ++ (h9 ++ (h10 ++ (h11 ++ (h12 ++ R))))))))))))
theorem t_out12 (B F h1 h2 h3 h4 h5 h6 h7 h8 h9 h10 h11 h12 R : Hp) {l : List Oper} (hh : hp = B ++ (F ++ (h1 ++ (h2 ++ (h3 ++ (h4 ++ (h5 ++ (h6 ++ (h7 ++ (h8 ++ (h9 ++ (h10 ++ (h11 ++ (h12 ++ R)))))))))))))) (h : SLo P n b ops Q l e (B ++ (h1 ++ (h2 ++ (h3 ++ (h4 ++ (h5 ++ (h6 ++ (h7 ++ (h8 ++ (h9 ++ (h10 ++ (h11 ++ (h12 ++ (F ++ R))))))))))))))) : SLo P n b ops Q l e hp := fun a w hf ho => h a w hf (by rw [hh] at ho; exact ho.perm (List.Perm.append_left B (outp12 h1 h2 h3 h4 h5 h6 h7 h8 h9 h10 h11 h12 F R)))
theorem t_in12 (B F h1 h2 h3 h4 h5 h6 h7 h8 h9 h10 h11 h12 R : Hp) {l : List Oper} (hh : hp = B ++ (h1 ++ (h2 ++ (h3 ++ (h4 ++ (h5 ++ (h6 ++ (h7 ++ (h8 ++ (h9 ++ (h10 ++ (h11 ++ (h12 ++ (F ++ R)))))))))))))) (h : SLo P n b ops Q l e (B ++ (F ++ (h1 ++ (h2 ++ (h3 ++ (h4 ++ (h5 ++ (h6 ++ (h7 ++ (h8 ++ (h9 ++ (h10 ++ (h11 ++ (h12 ++ R))))))))))))))) : SLo P n b ops Q l e hp := fun a w hf ho => h a w hf (by rw [hh] at ho; exact ho.perm (List.Perm.append_left B (outp12 h1 h2 h3 h4 h5 h6 h7 h8 h9 h10 h11 h12 F R).symm))
theorem d_out12 (B F h1 h2 h3 h4 h5 h6 h7 h8 h9 h10 h11 h12 R : Hp) {w0 : Base} {S : Hp} {fuel : Nat} {listed : Array Bool} (hh : hp = B ++ (F ++ (h1 ++ (h2 ++ (h3 ++ (h4 ++ (h5 ++ (h6 ++ (h7 ++ (h8 ++ (h9 ++ (h10 ++ (h11 ++ (h12 ++ R)))))))))))))) (h : SLA P n w0 b ops S Q fuel listed e (B ++ (h1 ++ (h2 ++ (h3 ++ (h4 ++ (h5 ++ (h6 ++ (h7 ++ (h8 ++ (h9 ++ (h10 ++ (h11 ++ (h12 ++ (F ++ R))))))))))))))) : SLA P n w0 b ops S Q fuel listed e hp := fun a w hf ho => h a w hf (by rw [hh] at ho; exact ho.perm (List.Perm.append_left B (outp12 h1 h2 h3 h4 h5 h6 h7 h8 h9 h10 h11 h12 F R)))
theorem d_in12 (B F h1 h2 h3 h4 h5 h6 h7 h8 h9 h10 h11 h12 R : Hp) {w0 : Base} {S : Hp} {fuel : Nat} {listed : Array Bool} (hh : hp = B ++ (h1 ++ (h2 ++ (h3 ++ (h4 ++ (h5 ++ (h6 ++ (h7 ++ (h8 ++ (h9 ++ (h10 ++ (h11 ++ (h12 ++ (F ++ R)))))))))))))) (h : SLA P n w0 b ops S Q fuel listed e (B ++ (F ++ (h1 ++ (h2 ++ (h3 ++ (h4 ++ (h5 ++ (h6 ++ (h7 ++ (h8 ++ (h9 ++ (h10 ++ (h11 ++ (h12 ++ R))))))))))))))) : SLA P n w0 b ops S Q fuel listed e hp := fun a w hf ho => h a w hf (by rw [hh] at ho; exact ho.perm (List.Perm.append_left B (outp12 h1 h2 h3 h4 h5 h6 h7 h8 h9 h10 h11 h12 F R).symm))
theorem outp13 (h1 h2 h3 h4 h5 h6 h7 h8 h9 h10 h11 h12 h13 F R : Hp) : (h1 ++ (h2 ++ (h3 ++ (h4 ++ (h5 ++ (h6 ++ (h7 ++ (h8 ++ (h9 ++ (h10 ++ (h11 ++ (h12 ++ (h13 ++ (F ++ R)))))))))))))).Perm (F ++ (h1 ++ (h2 ++ (h3 ++ (h4 ++ (h5 ++ (h6 ++ (h7 ++ (h8 ++ (h9 ++ (h10 ++ (h11 ++ (h12 ++ (h13 ++ R)))))))))))))) := (List.Perm.append_left h1 (outp12 h2 h3 h4 h5 h6 h7 h8 h9 h10 h11 h12 h13 F R)).trans (perm_mid F h1 (h2 ++ (h3 ++ (h4 ++ (h5 ++ (h6 ++ (h7 ++ (h8 ++ (h9 ++ (h10 ++ (h11 ++ (h12 ++ (h13 ++ R)))))))))))))
theorem t_out13 (B F h1 h2 h3 h4 h5 h6 h7 h8 h9 h10 h11 h12 h13 R : Hp) {l : List Oper} (hh : hp = B ++ (F ++ (h1 ++ (h2 ++ (h3 ++ (h4 ++ (h5 ++ (h6 ++ (h7 ++ (h8 ++ (h9 ++ (h10 ++ (h11 ++ (h12 ++ (h13 ++ R))))))))))))))) (h : SLo P n b ops Q l e (B ++ (h1 ++ (h2 ++ (h3 ++ (h4 ++ (h5 ++ (h6 ++ (h7 ++ (h8 ++ (h9 ++ (h10 ++ (h11 ++ (h12 ++ (h13 ++ (F ++ R)))))))))))))))) : SLo P n b ops Q l e hp := fun a w hf ho => h a w hf (by rw [hh] at ho; exact ho.perm (List.Perm.append_left B (outp13 h1 h2 h3 h4 h5 h6 h7 h8 h9 h10 h11 h12 h13 F R)))
theorem t_in13 (B F h1 h2 h3 h4 h5 h6 h7 h8 h9 h10 h11 h12 h13 R : Hp) {l : List Oper} (hh : hp = B ++ (h1 ++ (h2 ++ (h3 ++ (h4 ++ (h5 ++ (h6 ++ (h7 ++ (h8 ++ (h9 ++ (h10 ++ (h11 ++ (h12 ++ (h13 ++ (F ++ R))))))))))))))) (h : SLo P n b ops Q l e (B ++ (F ++ (h1 ++ (h2 ++ (h3 ++ (h4 ++ (h5 ++ (h6 ++ (h7 ++ (h8 ++ (h9 ++ (h10 ++ (h11 ++ (h12 ++ (h13 ++ R)))))))))))))))) : SLo P n b ops Q l e hp := fun a w hf ho => h a w hf (by rw [hh] at ho; exact ho.perm (List.Perm.append_left B (outp13 h1 h2 h3 h4 h5 h6 h7 h8 h9 h10 h11 h12 h13 F R).symm))
theorem d_out13 (B F h1 h2 h3 h4 h5 h6 h7 h8 h9 h10 h11 h12 h13 R : Hp) {w0 : Base} {S : Hp} {fuel : Nat} {listed : Array Bool} (hh : hp = B ++ (F ++ (h1 ++ (h2 ++ (h3 ++ (h4 ++ (h5 ++ (h6 ++ (h7 ++ (h8 ++ (h9 ++ (h10 ++ (h11 ++ (h12 ++ (h13 ++ R))))))))))))))) (h : SLA P n w0 b ops S Q fuel listed e (B ++ (h1 ++ (h2 ++ (h3 ++ (h4 ++ (h5 ++ (h6 ++ (h7 ++ (h8 ++ (h9 ++ (h10 ++ (h11 ++ (h12 ++ (h13 ++ (F ++ R)))))))))))))))) : SLA P n w0 b ops S Q fuel listed e hp := fun a w hf ho => h a w hf (by rw [hh] at ho; exact ho.perm (List.Perm.append_left B (outp13 h1 h2 h3 h4 h5 h6 h7 h8 h9 h10 h11 h12 h13 F R)))
theorem d_in13 (B F h1 h2 h3 h4 h5 h6 h7 h8 h9 h10 h11 h12 h13 R : Hp) {w0 : Base} {S : Hp} {fuel : Nat} {listed : Array Bool} (hh : hp = B ++ (h1 ++ (h2 ++ (h3 ++ (h4 ++ (h5 ++ (h6 ++ (h7 ++ (h8 ++ (h9 ++ (h10 ++ (h11 ++ (h12 ++ (h13 ++ (F ++ R))))))))))))))) (h : SLA P n w0 b ops S Q fuel listed e (B ++ (F ++ (h1 ++ (h2 ++ (h3 ++ (h4 ++ (h5 ++ (h6 ++ (h7 ++ (h8 ++ (h9 ++ (h10 ++ (h11 ++ (h12 ++ (h13 ++ R)))))))))))))))) : SLA P n w0 b ops S Q fuel listed e hp := fun a w hf ho => h a w hf (by rw [hh] at ho; exact ho.perm (List.Perm.append_left B (outp13 h1 h2 h3 h4 h5 h6 h7 h8 h9 h10 h11 h12 h13 F R).symm))
theorem front13 (h1 h2 h3 h4 h5 h6 h7 h8 h9 h10 h11 h12 h13 R : Hp) : (h13 ++ (h1 ++ (h2 ++ (h3 ++ (h4 ++ (h5 ++ (h6 ++ (h7 ++ (h8 ++ (h9 ++ (h10 ++ (h11 ++ (h12 ++ R))))))))))))).Perm (h1 ++ (h2 ++ (h3 ++ (h4 ++ (h5 ++ (h6 ++ (h7 ++ (h8 ++ (h9 ++ (h10 ++ (h11 ++ (h12 ++ (h13 ++ R))))))))))))) := (perm_mid h1 h13 (h2 ++ (h3 ++ (h4 ++ (h5 ++ (h6 ++ (h7 ++ (h8 ++ (h9 ++ (h10 ++ (h11 ++ (h12 ++ R)))))))))))).trans (List.Perm.append_left h1 (front12 h2 h3 h4 h5 h6 h7 h8 h9 h10 h11 h12 h13 R))
theorem c_front13 (F h1 h2 h3 h4 h5 h6 h7 h8 h9 h10 h11 h12 h13 R : Hp) {c : Code} (hh : hp = F ++ (h1 ++ (h2 ++ (h3 ++ (h4 ++ (h5 ++ (h6 ++ (h7 ++ (h8 ++ (h9 ++ (h10 ++ (h11 ++ (h12 ++ (h13 ++ R)))))))))))))) (h : SLc P n b Q c e (F ++ (h13 ++ (h1 ++ (h2 ++ (h3 ++ (h4 ++ (h5 ++ (h6 ++ (h7 ++ (h8 ++ (h9 ++ (h10 ++ (h11 ++ (h12 ++ R))))))))))))))) : SLc P n b Q c e hp := fun a w hf ho => h a w hf (by rw [hh] at ho; exact ho.perm (List.Perm.append_left F (front13 h1 h2 h3 h4 h5 h6 h7 h8 h9 h10 h11 h12 h13 R)))
theorem t_front13 (F h1 h2 h3 h4 h5 h6 h7 h8 h9 h10 h11 h12 h13 R : Hp) {l : List Oper} (hh : hp = F ++ (h1 ++ (h2 ++ (h3 ++ (h4 ++ (h5 ++ (h6 ++ (h7 ++ (h8 ++ (h9 ++ (h10 ++ (h11 ++ (h12 ++ (h13 ++ R)))))))))))))) (h : SLo P n b ops Q l e (F ++ (h13 ++ (h1 ++ (h2 ++ (h3 ++ (h4 ++ (h5 ++ (h6 ++ (h7 ++ (h8 ++ (h9 ++ (h10 ++ (h11 ++ (h12 ++ R))))))))))))))) : SLo P n b ops Q l e hp := fun a w hf ho => h a w hf (by rw [hh] at ho; exact ho.perm (List.Perm.append_left F (front13 h1 h2 h3 h4 h5 h6 h7 h8 h9 h10 h11 h12 h13 R)))
theorem x_front13 (F h1 h2 h3 h4 h5 h6 h7 h8 h9 h10 h11 h12 h13 R : Hp) {ex : Exit} (hh : hp = F ++ (h1 ++ (h2 ++ (h3 ++ (h4 ++ (h5 ++ (h6 ++ (h7 ++ (h8 ++ (h9 ++ (h10 ++ (h11 ++ (h12 ++ (h13 ++ R)))))))))))))) (h : SLx n b Q ex e (F ++ (h13 ++ (h1 ++ (h2 ++ (h3 ++ (h4 ++ (h5 ++ (h6 ++ (h7 ++ (h8 ++ (h9 ++ (h10 ++ (h11 ++ (h12 ++ R))))))))))))))) : SLx n b Q ex e hp := fun a w hf ho => h a w hf (by rw [hh] at ho; exact ho.perm (List.Perm.append_left F (front13 h1 h2 h3 h4 h5 h6 h7 h8 h9 h10 h11 h12 h13 R)))
theorem d_front13 (F h1 h2 h3 h4 h5 h6 h7 h8 h9 h10 h11 h12 h13 R : Hp) {w0 : Base} {S : Hp} {fuel : Nat} {listed : Array Bool} (hh : hp = F ++ (h1 ++ (h2 ++ (h3 ++ (h4 ++ (h5 ++ (h6 ++ (h7 ++ (h8 ++ (h9 ++ (h10 ++ (h11 ++ (h12 ++ (h13 ++ R)))))))))))))) (h : SLA P n w0 b ops S Q fuel listed e (F ++ (h13 ++ (h1 ++ (h2 ++ (h3 ++ (h4 ++ (h5 ++ (h6 ++ (h7 ++ (h8 ++ (h9 ++ (h10 ++ (h11 ++ (h12 ++ R))))))))))))))) : SLA P n w0 b ops S Q fuel listed e hp := fun a w hf ho => h a w hf (by rw [hh] at ho; exact ho.perm (List.Perm.append_left F (front13 h1 h2 h3 h4 h5 h6 h7 h8 h9 h10 h11 h12 h13 R)))
theorem front14 (h1 h2 h3 h4 h5 h6 h7 h8 h9 h10 h11 h12 h13 h14 R : Hp) : (h14 ++ (h1 ++ (h2 ++ (h3 ++ (h4 ++ (h5 ++ (h6 ++ (h7 ++ (h8 ++ (h9 ++ (h10 ++ (h11 ++ (h12 ++ (h13 ++ R)))))))))))))).Perm (h1 ++ (h2 ++ (h3 ++ (h4 ++ (h5 ++ (h6 ++ (h7 ++ (h8 ++ (h9 ++ (h10 ++ (h11 ++ (h12 ++ (h13 ++ (h14 ++ R)))))))))))))) := (perm_mid h1 h14 (h2 ++ (h3 ++ (h4 ++ (h5 ++ (h6 ++ (h7 ++ (h8 ++ (h9 ++ (h10 ++ (h11 ++ (h12 ++ (h13 ++ R))))))))))))).trans (List.Perm.append_left h1 (front13 h2 h3 h4 h5 h6 h7 h8 h9 h10 h11 h12 h13 h14 R))
theorem c_front14 (F h1 h2 h3 h4 h5 h6 h7 h8 h9 h10 h11 h12 h13 h14 R : Hp) {c : Code} (hh : hp = F ++ (h1 ++ (h2 ++ (h3 ++ (h4 ++ (h5 ++ (h6 ++ (h7 ++ (h8 ++ (h9 ++ (h10 ++ (h11 ++ (h12 ++ (h13 ++ (h14 ++ R))))))))))))))) (h : SLc P n b Q c e (F ++ (h14 ++ (h1 ++ (h2 ++ (h3 ++ (h4 ++ (h5 ++ (h6 ++ (h7 ++ (h8 ++ (h9 ++ (h10 ++ (h11 ++ (h12 ++ (h13 ++ R)))))))))))))))) : SLc P n b Q c e hp := fun a w hf ho => h a w hf (by rw [hh] at ho; exact ho.perm (List.Perm.append_left F (front14 h1 h2 h3 h4 h5 h6 h7 h8 h9 h10 h11 h12 h13 h14 R)))
theorem t_front14 (F h1 h2 h3 h4 h5 h6 h7 h8 h9 h10 h11 h12 h13 h14 R : Hp) {l : List Oper} (hh : hp = F ++ (h1 ++ (h2 ++ (h3 ++ (h4 ++ (h5 ++ (h6 ++ (h7 ++ (h8 ++ (h9 ++ (h10 ++ (h11 ++ (h12 ++ (h13 ++ (h14 ++ R))))))))))))))) (h : SLo P n b ops Q l e (F ++ (h14 ++ (h1 ++ (h2 ++ (h3 ++ (h4 ++ (h5 ++ (h6 ++ (h7 ++ (h8 ++ (h9 ++ (h10 ++ (h11 ++ (h12 ++ (h13 ++ R)))))))))))))))) : SLo P n b ops Q l e hp := fun a w hf ho => h a w hf (by rw [hh] at ho; exact ho.perm (List.Perm.append_left F (front14 h1 h2 h3 h4 h5 h6 h7 h8 h9 h10 h11 h12 h13 h14 R)))
theorem x_front14 (F h1 h2 h3 h4 h5 h6 h7 h8 h9 h10 h11 h12 h13 h14 R : Hp) {ex : Exit} (hh : hp = F ++ (h1 ++ (h2 ++ (h3 ++ (h4 ++ (h5 ++ (h6 ++ (h7 ++ (h8 ++ (h9 ++ (h10 ++ (h11 ++ (h12 ++ (h13 ++ (h14 ++ R))))))))))))))) (h : SLx n b Q ex e (F ++ (h14 ++ (h1 ++ (h2 ++ (h3 ++ (h4 ++ (h5 ++ (h6 ++ (h7 ++ (h8 ++ (h9 ++ (h10 ++ (h11 ++ (h12 ++ (h13 ++ R)))))))))))))))) : SLx n b Q ex e hp := fun a w hf ho => h a w hf (by rw [hh] at ho; exact ho.perm (List.Perm.append_left F (front14 h1 h2 h3 h4 h5 h6 h7 h8 h9 h10 h11 h12 h13 h14 R)))
theorem d_front14 (F h1 h2 h3 h4 h5 h6 h7 h8 h9 h10 h11 h12 h13 h14 R : Hp) {w0 : Base} {S : Hp} {fuel : Nat} {listed : Array Bool} (hh : hp = F ++ (h1 ++ (h2 ++ (h3 ++ (h4 ++ (h5 ++ (h6 ++ (h7 ++ (h8 ++ (h9 ++ (h10 ++ (h11 ++ (h12 ++ (h13 ++ (h14 ++ R))))))))))))))) (h : SLA P n w0 b ops S Q fuel listed e (F ++ (h14 ++ (h1 ++ (h2 ++ (h3 ++ (h4 ++ (h5 ++ (h6 ++ (h7 ++ (h8 ++ (h9 ++ (h10 ++ (h11 ++ (h12 ++ (h13 ++ R)))))))))))))))) : SLA P n w0 b ops S Q fuel listed e hp := fun a w hf ho => h a w hf (by rw [hh] at ho; exact ho.perm (List.Perm.append_left F (front14 h1 h2 h3 h4 h5 h6 h7 h8 h9 h10 h11 h12 h13 h14 R)))
theorem front15 (h1 h2 h3 h4 h5 h6 h7 h8 h9 h10 h11 h12 h13 h14 h15 R : Hp) : (h15 ++ (h1 ++ (h2 ++ (h3 ++ (h4 ++ (h5 ++ (h6 ++ (h7 ++ (h8 ++ (h9 ++ (h10 ++ (h11 ++ (h12 ++ (h13 ++ (h14 ++ R))))))))))))))).Perm (h1 ++ (h2 ++ (h3 ++ (h4 ++ (h5 ++ (h6 ++ (h7 ++ (h8 ++ (h9 ++ (h10 ++ (h11 ++ (h12 ++ (h13 ++ (h14 ++ (h15 ++ R))))))))))))))) := (perm_mid h1 h15 (h2 ++ (h3 ++ (h4 ++ (h5 ++ (h6 ++ (h7 ++ (h8 ++ (h9 ++ (h10 ++ (h11 ++ (h12 ++ (h13 ++ (h14 ++ R)))))))))))))).trans (List.Perm.append_left h1 (front14 h2 h3 h4 h5 h6 h7 h8 h9 h10 h11 h12 h13 h14 h15 R))
theorem c_front15 (F h1 h2 h3 h4 h5 h6 h7 h8 h9 h10 h11 h12 h13 h14 h15 R : Hp) {c : Code} (hh : hp = F ++ (h1 ++ (h2 ++ (h3 ++ (h4 ++ (h5 ++ (h6 ++ (h7 ++ (h8 ++ (h9 ++ (h10 ++ (h11 ++ (h12 ++ (h13 ++ (h14 ++ (h15 ++ R)))))))))))))))) (h : SLc P n b Q c e (F ++ (h15 ++ (h1 ++ (h2 ++ (h3 ++ (h4 ++ (h5 ++ (h6 ++ (h7 ++ (h8 ++ (h9 ++ (h10 ++ (h11 ++ (h12 ++ (h13 ++ (h14 ++ R))))))))))))))))) : SLc P n b Q c e hp := fun a w hf ho => h a w hf (by rw [hh] at ho; exact ho.perm (List.Perm.append_left F (front15 h1 h2 h3 h4 h5 h6 h7 h8 h9 h10 h11 h12 h13 h14 h15 R)))
theorem t_front15 (F h1 h2 h3 h4 h5 h6 h7 h8 h9 h10 h11 h12 h13 h14 h15 R : Hp) {l : List Oper} (hh : hp = F ++ (h1 ++ (h2 ++ (h3 ++ (h4 ++ (h5 ++ (h6 ++ (h7 ++ (h8 ++ (h9 ++ (h10 ++ (h11 ++ (h12 ++ (h13 ++ (h14 ++ (h15 ++ R)))))))))))))))) (h : SLo P n b ops Q l e (F ++ (h15 ++ (h1 ++ (h2 ++ (h3 ++ (h4 ++ (h5 ++ (h6 ++ (h7 ++ (h8 ++ (h9 ++ (h10 ++ (h11 ++ (h12 ++ (h13 ++ (h14 ++ R))))))))))))))))) : SLo P n b ops Q l e hp := fun a w hf ho => h a w hf (by rw [hh] at ho; exact ho.perm (List.Perm.append_left F (front15 h1 h2 h3 h4 h5 h6 h7 h8 h9 h10 h11 h12 h13 h14 h15 R)))
theorem x_front15 (F h1 h2 h3 h4 h5 h6 h7 h8 h9 h10 h11 h12 h13 h14 h15 R : Hp) {ex : Exit} (hh : hp = F ++ (h1 ++ (h2 ++ (h3 ++ (h4 ++ (h5 ++ (h6 ++ (h7 ++ (h8 ++ (h9 ++ (h10 ++ (h11 ++ (h12 ++ (h13 ++ (h14 ++ (h15 ++ R)))))))))))))))) (h : SLx n b Q ex e (F ++ (h15 ++ (h1 ++ (h2 ++ (h3 ++ (h4 ++ (h5 ++ (h6 ++ (h7 ++ (h8 ++ (h9 ++ (h10 ++ (h11 ++ (h12 ++ (h13 ++ (h14 ++ R))))))))))))))))) : SLx n b Q ex e hp := fun a w hf ho => h a w hf (by rw [hh] at ho; exact ho.perm (List.Perm.append_left F (front15 h1 h2 h3 h4 h5 h6 h7 h8 h9 h10 h11 h12 h13 h14 h15 R)))
theorem d_front15 (F h1 h2 h3 h4 h5 h6 h7 h8 h9 h10 h11 h12 h13 h14 h15 R : Hp) {w0 : Base} {S : Hp} {fuel : Nat} {listed : Array Bool} (hh : hp = F ++ (h1 ++ (h2 ++ (h3 ++ (h4 ++ (h5 ++ (h6 ++ (h7 ++ (h8 ++ (h9 ++ (h10 ++ (h11 ++ (h12 ++ (h13 ++ (h14 ++ (h15 ++ R)))))))))))))))) (h : SLA P n w0 b ops S Q fuel listed e (F ++ (h15 ++ (h1 ++ (h2 ++ (h3 ++ (h4 ++ (h5 ++ (h6 ++ (h7 ++ (h8 ++ (h9 ++ (h10 ++ (h11 ++ (h12 ++ (h13 ++ (h14 ++ R))))))))))))))))) : SLA P n w0 b ops S Q fuel listed e hp := fun a w hf ho => h a w hf (by rw [hh] at ho; exact ho.perm (List.Perm.append_left F (front15 h1 h2 h3 h4 h5 h6 h7 h8 h9 h10 h11 h12 h13 h14 h15 R)))
theorem front16 (h1 h2 h3 h4 h5 h6 h7 h8 h9 h10 h11 h12 h13 h14 h15 h16 R : Hp) : (h16 ++ (h1 ++ (h2 ++ (h3 ++ (h4 ++ (h5 ++ (h6 ++ (h7 ++ (h8 ++ (h9 ++ (h10 ++ (h11 ++ (h12 ++ (h13 ++ (h14 ++ (h15 ++ R)))))))))))))))).Perm (h1 ++ (h2 ++ (h3 ++ (h4 ++ (h5 ++ (h6 ++ (h7 ++ (h8 ++ (h9 ++ (h10 ++ (h11 ++ (h12 ++ (h13 ++ (h14 ++ (h15 ++ (h16 ++ R)))))))))))))))) := (perm_mid h1 h16 (h2 ++ (h3 ++ (h4 ++ (h5 ++ (h6 ++ (h7 ++ (h8 ++ (h9 ++ (h10 ++ (h11 ++ (h12 ++ (h13 ++ (h14 ++ (h15 ++ R))))))))))))))).trans (List.Perm.append_left h1 (front15 h2 h3 h4 h5 h6 h7 h8 h9 h10 h11 h12 h13 h14 h15 h16 R))
theorem c_front16 (F h1 h2 h3 h4 h5 h6 h7 h8 h9 h10 h11 h12 h13 h14 h15 h16 R : Hp) {c : Code} (hh : hp = F ++ (h1 ++ (h2 ++ (h3 ++ (h4 ++ (h5 ++ (h6 ++ (h7 ++ (h8 ++ (h9 ++ (h10 ++ (h11 ++ (h12 ++ (h13 ++ (h14 ++ (h15 ++ (h16 ++ R))))))))))))))))) (h : SLc P n b Q c e (F ++ (h16 ++ (h1 ++ (h2 ++ (h3 ++ (h4 ++ (h5 ++ (h6 ++ (h7 ++ (h8 ++ (h9 ++ (h10 ++ (h11 ++ (h12 ++ (h13 ++ (h14 ++ (h15 ++ R)))))))))))))))))) : SLc P n b Q c e hp := fun a w hf ho => h a w hf (by rw [hh] at ho; exact ho.perm (List.Perm.append_left F (front16 h1 h2 h3 h4 h5 h6 h7 h8 h9 h10 h11 h12 h13 h14 h15 h16 R)))
theorem t_front16 (F h1 h2 h3 h4 h5 h6 h7 h8 h9 h10 h11 h12 h13 h14 h15 h16 R : Hp) {l : List Oper} (hh : hp = F ++ (h1 ++ (h2 ++ (h3 ++ (h4 ++ (h5 ++ (h6 ++ (h7 ++ (h8 ++ (h9 ++ (h10 ++ (h11 ++ (h12 ++ (h13 ++ (h14 ++ (h15 ++ (h16 ++ R))))))))))))))))) (h : SLo P n b ops Q l e (F ++ (h16 ++ (h1 ++ (h2 ++ (h3 ++ (h4 ++ (h5 ++ (h6 ++ (h7 ++ (h8 ++ (h9 ++ (h10 ++ (h11 ++ (h12 ++ (h13 ++ (h14 ++ (h15 ++ R)))))))))))))))))) : SLo P n b ops Q l e hp := fun a w hf ho => h a w hf (by rw [hh] at ho; exact ho.perm (List.Perm.append_left F (front16 h1 h2 h3 h4 h5 h6 h7 h8 h9 h10 h11 h12 h13 h14 h15 h16 R)))
theorem x_front16 (F h1 h2 h3 h4 h5 h6 h7 h8 h9 h10 h11 h12 h13 h14 h15 h16 R : Hp) {ex : Exit} (hh : hp = F ++ (h1 ++ (h2 ++ (h3 ++ (h4 ++ (h5 ++ (h6 ++ (h7 ++ (h8 ++ (h9 ++ (h10 ++ (h11 ++ (h12 ++ (h13 ++ (h14 ++ (h15 ++ (h16 ++ R))))))))))))))))) (h : SLx n b Q ex e (F ++ (h16 ++ (h1 ++ (h2 ++ (h3 ++ (h4 ++ (h5 ++ (h6 ++ (h7 ++ (h8 ++ (h9 ++ (h10 ++ (h11 ++ (h12 ++ (h13 ++ (h14 ++ (h15 ++ R)))))))))))))))))) : SLx n b Q ex e hp := fun a w hf ho => h a w hf (by rw [hh] at ho; exact ho.perm (List.Perm.append_left F (front16 h1 h2 h3 h4 h5 h6 h7 h8 h9 h10 h11 h12 h13 h14 h15 h16 R)))
theorem d_front16 (F h1 h2 h3 h4 h5 h6 h7 h8 h9 h10 h11 h12 h13 h14 h15 h16 R : Hp) {w0 : Base} {S : Hp} {fuel : Nat} {listed : Array Bool} (hh : hp = F ++ (h1 ++ (h2 ++ (h3 ++ (h4 ++ (h5 ++ (h6 ++ (h7 ++ (h8 ++ (h9 ++ (h10 ++ (h11 ++ (h12 ++ (h13 ++ (h14 ++ (h15 ++ (h16 ++ R))))))))))))))))) (h : SLA P n w0 b ops S Q fuel listed e (F ++ (h16 ++ (h1 ++ (h2 ++ (h3 ++ (h4 ++ (h5 ++ (h6 ++ (h7 ++ (h8 ++ (h9 ++ (h10 ++ (h11 ++ (h12 ++ (h13 ++ (h14 ++ (h15 ++ R)))))))))))))))))) : SLA P n w0 b ops S Q fuel listed e hp := fun a w hf ho => h a w hf (by rw [hh] at ho; exact ho.perm (List.Perm.append_left F (front16 h1 h2 h3 h4 h5 h6 h7 h8 h9 h10 h11 h12 h13 h14 h15 h16 R)))
end
/- ---- heaps: a block with two slices of its own goes in and out ---- -/
section
variable {P : Program} {n : NT} {m : Nat} {dk0 : Hp} {rq : Option Nat} {b : Base} {ops : Array Oper} {Q : Exit → Act → World → Prop} {e : Env} {hp : Hp} {ty : TypeId}
theorem out_perm {F hs rest h3 h4 R : Hp} {x : Nat × Obj} (hh : hp = F ++ (hs ++ R)) (hq : hs.Perm (rest ++ (x :: (h3 ++ h4)))) : (x :: (F ++ (h3 ++ (h4 ++ (rest ++ R))))).Perm hp := by
  rw [hh]
  refine List.Perm.trans ?_ (.append_left F (hq.symm.append_right R))
  have e1 : rest ++ (x :: (h3 ++ h4)) ++ R = rest ++ (x :: (h3 ++ (h4 ++ R))) := by simp
  rw [e1]
  refine List.Perm.trans ?_ (.append_left F (List.perm_middle (a := x) (l₁ := rest) (l₂ := h3 ++ (h4 ++ R))).symm)
  refine List.Perm.trans (.cons x ?_) (List.perm_middle (a := x) (l₁ := F) (l₂ := rest ++ (h3 ++ (h4 ++ R)))).symm
  refine .append_left F ?_
  have e2 : h3 ++ (h4 ++ (rest ++ R)) = (h3 ++ h4) ++ (rest ++ R) := by simp
  have e3 : rest ++ (h3 ++ (h4 ++ R)) = rest ++ ((h3 ++ h4) ++ R) := by simp
  rw [e2, e3]
  exact perm_mid rest (h3 ++ h4) R
theorem in_perm {F rest h3 h4 R : Hp} {x : Nat × Obj} (hh : hp = x :: (F ++ (h3 ++ (h4 ++ (rest ++ R))))) : (F ++ ((rest ++ (x :: (h3 ++ h4))) ++ R)).Perm hp := by
  rw [hh]
  exact (out_perm (hp := F ++ ((rest ++ (x :: (h3 ++ h4))) ++ R)) rfl (.refl _)).symm
theorem add_perm {F hs old rest h3 h4 R : Hp} {x : Nat × Obj} (hh : hp = x :: (F ++ (h3 ++ (h4 ++ (hs ++ R))))) (hq : hs.Perm (rest ++ old)) : ∃ hp1 : Hp, (F ++ ((rest ++ (x :: (h3 ++ h4))) ++ R)).Sublist hp1 ∧ hp1.Perm hp := by
  refine ⟨F ++ ((rest ++ (x :: (h3 ++ h4))) ++ (old ++ R)), .append (.refl _) (.append (.refl _) (List.sublist_append_right _ _)), ?_⟩
  rw [hh]
  refine List.Perm.trans ?_ (.cons x (.append_left F (.append_left h3 (.append_left h4 (hq.symm.append_right R)))))
  refine (in_perm (hp := x :: (F ++ (h3 ++ (h4 ++ (rest ++ (old ++ R)))))) rfl).trans ?_
  simp
theorem c_outA (F hs rest h3 h4 R : Hp) {x : Nat × Obj} {c : Code} (hh : hp = F ++ (hs ++ R)) (hq : hs.Perm (rest ++ (x :: (h3 ++ h4)))) (h : SLc P n b Q c e (x :: (F ++ (h3 ++ (h4 ++ (rest ++ R)))))) : SLc P n b Q c e hp := fun a w hf ho => h a w hf (ho.perm (out_perm hh hq))
theorem t_outA (F hs rest h3 h4 R : Hp) {x : Nat × Obj} {l : List Oper} (hh : hp = F ++ (hs ++ R)) (hq : hs.Perm (rest ++ (x :: (h3 ++ h4)))) (h : SLo P n b ops Q l e (x :: (F ++ (h3 ++ (h4 ++ (rest ++ R)))))) : SLo P n b ops Q l e hp := fun a w hf ho => h a w hf (ho.perm (out_perm hh hq))
theorem x_outA (F hs rest h3 h4 R : Hp) {x : Nat × Obj} {ex : Exit} (hh : hp = F ++ (hs ++ R)) (hq : hs.Perm (rest ++ (x :: (h3 ++ h4)))) (h : SLx n b Q ex e (x :: (F ++ (h3 ++ (h4 ++ (rest ++ R)))))) : SLx n b Q ex e hp := fun a w hf ho => h a w hf (ho.perm (out_perm hh hq))
theorem d_outA (F hs rest h3 h4 R : Hp) {x : Nat × Obj} {w0 : Base} {S : Hp} {fuel : Nat} {listed : Array Bool} (hh : hp = F ++ (hs ++ R)) (hq : hs.Perm (rest ++ (x :: (h3 ++ h4)))) (h : SLA P n w0 b ops S Q fuel listed e (x :: (F ++ (h3 ++ (h4 ++ (rest ++ R)))))) : SLA P n w0 b ops S Q fuel listed e hp := fun a w hf ho => h a w hf (ho.perm (out_perm hh hq))
theorem back_perm {F hs rest h3 h4 R : Hp} {x : Nat × Obj} (hh : hp = x :: (F ++ (h3 ++ (h4 ++ (rest ++ R))))) (hq : hs.Perm (rest ++ (x :: (h3 ++ h4)))) : (F ++ (hs ++ R)).Perm hp := by
  rw [hh]
  exact (out_perm (hp := F ++ (hs ++ R)) rfl hq).symm
theorem c_bkA (F hs rest h3 h4 R : Hp) {x : Nat × Obj} {c : Code} (hh : hp = x :: (F ++ (h3 ++ (h4 ++ (rest ++ R))))) (hq : hs.Perm (rest ++ (x :: (h3 ++ h4)))) (h : SLc P n b Q c e (F ++ (hs ++ R))) : SLc P n b Q c e hp := fun a w hf ho => h a w hf (ho.perm (back_perm hh hq))
theorem t_bkA (F hs rest h3 h4 R : Hp) {x : Nat × Obj} {l : List Oper} (hh : hp = x :: (F ++ (h3 ++ (h4 ++ (rest ++ R))))) (hq : hs.Perm (rest ++ (x :: (h3 ++ h4)))) (h : SLo P n b ops Q l e (F ++ (hs ++ R))) : SLo P n b ops Q l e hp := fun a w hf ho => h a w hf (ho.perm (back_perm hh hq))
theorem x_bkA (F hs rest h3 h4 R : Hp) {x : Nat × Obj} {ex : Exit} (hh : hp = x :: (F ++ (h3 ++ (h4 ++ (rest ++ R))))) (hq : hs.Perm (rest ++ (x :: (h3 ++ h4)))) (h : SLx n b Q ex e (F ++ (hs ++ R))) : SLx n b Q ex e hp := fun a w hf ho => h a w hf (ho.perm (back_perm hh hq))
theorem d_bkA (F hs rest h3 h4 R : Hp) {x : Nat × Obj} {w0 : Base} {S : Hp} {fuel : Nat} {listed : Array Bool} (hh : hp = x :: (F ++ (h3 ++ (h4 ++ (rest ++ R))))) (hq : hs.Perm (rest ++ (x :: (h3 ++ h4)))) (h : SLA P n w0 b ops S Q fuel listed e (F ++ (hs ++ R))) : SLA P n w0 b ops S Q fuel listed e hp := fun a w hf ho => h a w hf (ho.perm (back_perm hh hq))
theorem c_inA (F rest h3 h4 R : Hp) {x : Nat × Obj} {c : Code} (hh : hp = x :: (F ++ (h3 ++ (h4 ++ (rest ++ R))))) (h : SLc P n b Q c e (F ++ ((rest ++ (x :: (h3 ++ h4))) ++ R))) : SLc P n b Q c e hp := fun a w hf ho => h a w hf (ho.perm (in_perm hh))
theorem t_inA (F rest h3 h4 R : Hp) {x : Nat × Obj} {l : List Oper} (hh : hp = x :: (F ++ (h3 ++ (h4 ++ (rest ++ R))))) (h : SLo P n b ops Q l e (F ++ ((rest ++ (x :: (h3 ++ h4))) ++ R))) : SLo P n b ops Q l e hp := fun a w hf ho => h a w hf (ho.perm (in_perm hh))
theorem x_inA (F rest h3 h4 R : Hp) {x : Nat × Obj} {ex : Exit} (hh : hp = x :: (F ++ (h3 ++ (h4 ++ (rest ++ R))))) (h : SLx n b Q ex e (F ++ ((rest ++ (x :: (h3 ++ h4))) ++ R))) : SLx n b Q ex e hp := fun a w hf ho => h a w hf (ho.perm (in_perm hh))
theorem d_inA (F rest h3 h4 R : Hp) {x : Nat × Obj} {w0 : Base} {S : Hp} {fuel : Nat} {listed : Array Bool} (hh : hp = x :: (F ++ (h3 ++ (h4 ++ (rest ++ R))))) (h : SLA P n w0 b ops S Q fuel listed e (F ++ ((rest ++ (x :: (h3 ++ h4))) ++ R))) : SLA P n w0 b ops S Q fuel listed e hp := fun a w hf ho => h a w hf (ho.perm (in_perm hh))
theorem t_addA (F hs old rest h3 h4 R : Hp) {x : Nat × Obj} {l : List Oper} (hh : hp = x :: (F ++ (h3 ++ (h4 ++ (hs ++ R))))) (hq : hs.Perm (rest ++ old)) (h : SLo P n b ops Q l e (F ++ ((rest ++ (x :: (h3 ++ h4))) ++ R))) : SLo P n b ops Q l e hp := fun a w hf ho => by
  obtain ⟨hp1, h1, h2⟩ := add_perm hh hq
  exact h a w hf ((ho.perm h2).sub h1)
theorem d_addA (F hs old rest h3 h4 R : Hp) {x : Nat × Obj} {w0 : Base} {S : Hp} {fuel : Nat} {listed : Array Bool} (hh : hp = x :: (F ++ (h3 ++ (h4 ++ (hs ++ R))))) (hq : hs.Perm (rest ++ old)) (h : SLA P n w0 b ops S Q fuel listed e (F ++ ((rest ++ (x :: (h3 ++ h4))) ++ R))) : SLA P n w0 b ops S Q fuel listed e hp := fun a w hf ho => by
  obtain ⟨hp1, h1, h2⟩ := add_perm hh hq
  exact h a w hf ((ho.perm h2).sub h1)
/- ---- names and nil ---- -/
def ptT (P : Program) (t : TypeId) : Bool := match P.underlying t with
  | some (.pointer _) => true
  | _ => false
theorem ptT_spec {t : TypeId} (h : ptT P t = true) : P.underlying t = some (.pointer (P.pointee t)) := by
  unfold ptT at h
  unfold Program.pointee
  split at h
  · rename_i h1
    rw [h1]
  · cases h
theorem st_eqlnm {x y : Operand} {t u : TypeId} {ads : Int → Nat} {q : Option Int} (hx : val e x = some (kv ads q)) (hy : val e y = some (.pointer none)) (h : ptT P t = true) : Stable P n b (.binOp .eql t x y u) ty e hp (.bool q.isNone) := fun a w hf _ _ _ _ _ => by
  cases q with
  | none =>
    have h1 := run_eql_pointer_nil (P := P) w t none (ptT_spec h)
    simp only [execOp, hf.eval hx, hf.eval hy, eqGuard, Sem.run_bind, kv]
    simp [h1]
  | some m =>
    have h1 := run_eql_pointer_nil (P := P) w t (some ⟨ads m, 0, none⟩) (ptT_spec h)
    simp only [execOp, hf.eval hx, hf.eval hy, eqGuard, Sem.run_bind, kv]
    simp [h1]
theorem st_neqnm {x y : Operand} {t u : TypeId} {ads : Int → Nat} {q : Option Int} (hx : val e x = some (kv ads q)) (hy : val e y = some (.pointer none)) (h : ptT P t = true) : Stable P n b (.binOp .neq t x y u) ty e hp (.bool (!q.isNone)) := fun a w hf _ _ _ _ _ => by
  cases q with
  | none =>
    have h1 := run_neq_pointer_nil (P := P) w t none (ptT_spec h)
    simp only [execOp, hf.eval hx, hf.eval hy, eqGuard, Sem.run_bind, kv]
    simp [h1]
  | some m =>
    have h1 := run_neq_pointer_nil (P := P) w t (some ⟨ads m, 0, none⟩) (ptT_spec h)
    simp only [execOp, hf.eval hx, hf.eval hy, eqGuard, Sem.run_bind, kv]
    simp [h1]
/- ---- maps of names ---- -/
section
variable {κ : Type} [DecidableEq κ] {kr : RT κ} {ka : Bool} {w : World} {g : Nat} {l : List (κ × Option Int)} {hs : Hp} {ads : Int → Nat}
/-- Another address for a name that the map does not hold. -/
theorem OM0.upd (h : OM0 kr (OT.fr (RT.key ads)) ka false w g l hs) (n : Int) (q : Nat) (hn : ∀ p ∈ l, p.2 ≠ some n) : OM0 kr (OT.fr (RT.key (updA ads n q))) ka false w g l hs := by
  obtain ⟨es, cl, hss, h1, h2, h3⟩ := h
  refine ⟨es, cl, hss, h1, ?_, h3⟩
  clear h1 h3
  induction es generalizing l hss with
  | nil => match l, hss, h2 with | [], [], _ => trivial
  | cons e es ih =>
    match l, hss, h2 with
    | p :: l, y :: hss, h2 =>
      refine ⟨⟨h2.1.1, ?_⟩, ih (fun p hp => hn p (by simp [hp])) hss h2.2⟩
      obtain ⟨h4, h5⟩ := h2.1.2
      refine ⟨?_, h5⟩
      show [e.val] = [kv (updA ads n q) p.2]
      rw [kv_upd ads q (hn p (by simp))]
      exact h4
theorem OM.upd (h : OM kr (OT.fr (RT.key ads)) ka false w g l hs) (n : Int) (q : Nat) (hn : ∀ p ∈ l, p.2 ≠ some n) : OM kr (OT.fr (RT.key (updA ads n q))) ka false w g l hs := let ⟨l0, h1, h2⟩ := h; ⟨l0, h1, h2.upd n q fun p hp => hn p (h1.subset hp)⟩
end
/-- No entry has the name. -/
def noName {κ : Type} (l : List (κ × Option Int)) (n : Int) : Option Unit := if (l.all fun p => decide (p.2 ≠ some n)) = true then some () else none
theorem noName_some {κ : Type} {l : List (κ × Option Int)} {n : Int} {u : Unit} (h : noName l n = some u) : ∀ p ∈ l, p.2 ≠ some n := by
  unfold noName at h
  split at h
  · rename_i h1
    intro p hp
    exact of_decide_eq_true (List.all_eq_true.1 h1 p hp)
  · cases h
/- ---- delete ---- -/
section
variable {κ ν : Type} [DecidableEq κ] {kr : RT κ} {vo : OT ν} {ka va : Bool} {g : Nat} {l : List (κ × ν)} {k : κ} {hs : Hp} {kt : TypeId}
theorem fndI_del : ∀ (l : List (κ × ν)) (k : κ) (i q : Nat), fndI l k i = some q → mdel l k = l.eraseIdx (q - i) ∧ i ≤ q
  | [], k, i, q, h => by simp [fndI] at h
  | (a, b) :: r, k, i, q, h => by
    unfold fndI at h
    by_cases e : a = k
    · rw [if_pos e] at h
      injection h with h
      subst h
      simp [mdel, e]
    · rw [if_neg e] at h
      obtain ⟨h1, h2⟩ := fndI_del r k (i + 1) q h
      refine ⟨?_, by omega⟩
      rw [show q - i = (q - (i + 1)) + 1 by omega, List.eraseIdx_cons_succ, ← h1]
      simp [mdel, e]
theorem all3_erase {β γ δ : Type} {R : β → γ → δ → Prop} : ∀ {a : List β} {c : List γ} {d : List δ} (q : Nat), All3 R a c d → All3 R (a.eraseIdx q) (c.eraseIdx q) (d.eraseIdx q)
  | [], [], [], q, _ => by simp only [List.eraseIdx_nil]; exact trivial
  | _ :: _, _ :: _, _ :: _, 0, h => h.2
  | _ :: _, _ :: _, _ :: _, q + 1, h => ⟨h.1, all3_erase q h.2⟩
theorem u_mdel0 (K : KeyOk P kt kr ka) (F R : Hp) {et mt kt2 : TypeId} {xm xk : Operand} {key : Value} (hhp : hp = F ++ (hs ++ R)) (h : OM0 kr vo ka va b.w g l hs) (hm : P.underlying mt = some (.map kt et))
    (h1 : val e xm = some (.map (some g))) (h2 : val e xk = some key) (hk : VR kr ka b.w key k) :
    Does P n b (.call { callee := .builtin .delete, args := #[xm, xk], argTypes := #[mt, kt2] }) ty e hp (fun v hp' => ∃ hs', v = .tuple #[] ∧ hp' = F ++ (hs' ++ R) ∧ OM0 kr vo ka va b.w g (mdel l k) hs') := does_of fun a w hf ho => by
  obtain ⟨es, cl, hss, g1, g2, g3⟩ := h
  have hkeys : All2 (fun (e : MapEntry) (p : κ × ν) => VR kr ka b.w e.key p.1) es l := all3_keys (fun _ _ _ h => h.1) g2
  have hlen := hkeys.length
  have hi : hp[F.length]? = some (g, .map es.toArray cl) := by rw [hhp, g1]; simp
  have hblk := own_map ho (List.mem_of_getElem? hi)
  have hfind := run_findKey (w' := w) K hk hkeys
  have hrun : ∀ (o' : Obj), (match fnd es l k 0 with | some (i, _) => o' = .map (es.toArray.eraseIdxIfInBounds i) cl | none => o' = .map es.toArray cl) →
      (Builtin.delete_ #[mt, kt2] ty #[.map (some g), key]).run P w = .ok (.tuple #[]) { w with heap := w.heap.setIfInBounds g o' } := by
    intro o' ho'
    simp only [Builtin.delete_, List.getElem?_toArray, List.getElem?_cons_zero, List.getElem?_cons_succ, Sem.run_bind, run_underlying hm, MapKept.run_getObj_map hblk, Result.andThen_ok, K.check hk, hfind]
    cases hq : fnd es l k 0 with
    | none => rw [hq] at ho'; subst ho'; simp [MapKept.run_setObj_map _ hblk]
    | some q => rw [hq] at ho'; subst ho'; simp [MapKept.run_setObj_map _ hblk]
  have hexec : ∀ {w' : World}, (Builtin.delete_ #[mt, kt2] ty #[.map (some g), key]).run P w = .ok (.tuple #[]) w' → ∀ d pos af gg, (execOp a.eval ⟨d, .call { callee := .builtin .delete, args := #[xm, xk], argTypes := #[mt, kt2] }, ty, pos, af, gg⟩).run P w = .ok (.value (.tuple #[])) w' := fun hr d pos af gg => by
    simp [execOp, resolve, invoke, builtin, hf.eval h1, hf.eval h2, hr]
  cases hq2 : fndI l k 0 with
  | none =>
    obtain ⟨c1, c2, c3⟩ := fndI_none l k 0 hq2
    have hf0 : fnd es l k 0 = none := by rw [fnd_eq (w := w) k 0 hlen, hq2]; rfl
    have hd := (mget_none_split l k c1).2.1
    refine ⟨_, _, F ++ (((g, .map es.toArray cl) :: hss.flatten) ++ R), hexec (hrun _ (by rw [hf0])), ?_, _, rfl, rfl, es, cl, hss, rfl, by rw [hd]; exact g2, by rw [hd]; exact g3⟩
    have ho2 := ho.turnMap (o' := .map es.toArray cl) hi
    rw [hhp, g1] at ho2
    simp only [List.cons_append] at ho2
    rw [set_mid] at ho2
    simpa using ho2
  | some q =>
    obtain ⟨_, y, c1, c2, c3⟩ := fndI_some l k 0 q hq2
    simp only [Nat.sub_zero] at c1
    obtain ⟨e0, hsk, e1, e2, e3⟩ := g2.get c1
    have hf0 : fnd es l k 0 = some (q, e0.val) := by rw [fnd_eq (w := w) k 0 hlen, hq2]; simp [e1]
    obtain ⟨hd, _⟩ := fndI_del l k 0 q hq2
    rw [Nat.sub_zero] at hd
    refine ⟨_, _, F ++ (((g, .map (es.eraseIdx q).toArray cl) :: (hss.eraseIdx q).flatten) ++ R), hexec (hrun _ (by rw [hf0])), ?_, _, rfl, rfl, es.eraseIdx q, cl, hss.eraseIdx q, rfl, by rw [hd]; exact all3_erase q g2, ?_, ?_, ?_⟩
    · have ho2 := ho.turnMap (o' := .map (es.toArray.eraseIdxIfInBounds q) cl) hi
      rw [hhp, g1] at ho2
      simp only [List.cons_append] at ho2
      rw [set_mid] at ho2
      have e4 : (es.eraseIdx q).toArray = es.toArray.eraseIdxIfInBounds q := by simp
      rw [e4]
      refine (ho2.sub ?_)
      have hsub : (hss.eraseIdx q).flatten.Sublist hss.flatten := by
        rw [List.eraseIdx_eq_take_drop_succ, List.flatten_append, flat_split e2]
        simp
      simp only [List.cons_append]
      exact List.Sublist.append (.refl _) (.cons_cons _ (hsub.append (.refl _)))
    · rw [hd]
      exact ((List.eraseIdx_sublist l q).map _).nodup g3.1
    · exact fun e he => g3.2.1 e (List.mem_of_mem_eraseIdx he)
    · exact ((List.eraseIdx_sublist es q).map _).nodup g3.2.2
theorem mdel_perm {l l' : List (κ × ν)} (h : l.Perm l') : (l.map (·.1)).Nodup → ∀ k, (mdel l k).Perm (mdel l' k) := by
  induction h with
  | nil => intro _ _; exact .refl _
  | cons x h ih =>
    intro hn k
    simp only [List.map_cons, List.nodup_cons] at hn
    obtain ⟨a, c⟩ := x
    simp only [mdel]
    by_cases e : a = k
    · rw [if_pos e, if_pos e]; exact h
    · rw [if_neg e, if_neg e]; exact .cons _ (ih hn.2 k)
  | swap x y r =>
    intro hn k
    obtain ⟨a, c⟩ := x
    obtain ⟨a', c'⟩ := y
    simp only [List.map_cons, List.nodup_cons, List.mem_cons, not_or] at hn
    simp only [mdel]
    by_cases e : a = k
    · by_cases e' : a' = k
      · exact absurd (e'.trans e.symm) hn.1.1
      · simp only [if_pos e, if_neg e']; exact .refl _
    · by_cases e' : a' = k
      · simp only [if_neg e, if_pos e']; exact .refl _
      · simp only [if_neg e, if_neg e']; exact .swap _ _ _
  | trans h1 h2 ih1 ih2 =>
    intro hn k
    exact (ih1 hn k).trans (ih2 ((h1.map _).nodup_iff.1 hn) k)
theorem u_mdel (K : KeyOk P kt kr ka) (F R : Hp) {et mt kt2 : TypeId} {xm xk : Operand} {key : Value} (hhp : hp = F ++ (hs ++ R)) (h : OM kr vo ka va b.w g l hs) (hm : P.underlying mt = some (.map kt et))
    (h1 : val e xm = some (.map (some g))) (h2 : val e xk = some key) (hk : VR kr ka b.w key k) :
    Does P n b (.call { callee := .builtin .delete, args := #[xm, xk], argTypes := #[mt, kt2] }) ty e hp (fun v hp' => ∃ hs', v = .tuple #[] ∧ hp' = F ++ (hs' ++ R) ∧ OM kr vo ka va b.w g (mdel l k) hs') := by
  obtain ⟨l0, hp0, h⟩ := h
  exact (u_mdel0 K F R hhp h hm h1 h2 hk).imp fun _ hp' ⟨hs', q1, q2, q3⟩ => ⟨hs', q1, q2, _, mdel_perm hp0 h.nd k, q3⟩
/-- A map told by rising keys. -/
def isrt (p : Int × ν) : List (Int × ν) → List (Int × ν)
  | [] => [p]
  | q :: r => if p.1 ≤ q.1 then p :: q :: r else q :: isrt p r
def msrt : List (Int × ν) → List (Int × ν)
  | [] => []
  | p :: r => isrt p (msrt r)
theorem isrt_perm (p : Int × ν) : ∀ l : List (Int × ν), (isrt p l).Perm (p :: l)
  | [] => .refl _
  | q :: r => by
    unfold isrt
    split
    · exact .refl _
    · exact (List.Perm.cons q (isrt_perm p r)).trans (.swap _ _ _)
theorem msrt_perm : ∀ l : List (Int × ν), (msrt l).Perm l
  | [] => .refl _
  | p :: r => (isrt_perm p (msrt r)).trans (.cons p (msrt_perm r))
end
/- ---- clear of a part that reaches to the end ---- -/
section
variable {α : Type} {l : List α} {hs : Hp} {el : TypeId} {A : Option Addr} {c : Nat}
theorem zero_flat (zs : List Value) (m : Nat) : (Builtin.zeroCells zs.toArray m).toList = (List.replicate m zs).flatten := by
  rw [← made_flat zs m]
  rfl
theorem u_clear {r : RT α} (F R : Hp) {t sz by_ m : Nat} {x : Operand} {zv : Value} (zs : List Value) (a0 : α) (j : Nat) (hhp : hp = F ++ (hs ++ R)) (h : OS el (OT.fr r) b.w (.slice A l.length c) l hs) (hj : j ≤ l.length) (hm : m = l.length - j)
    (hx : val e x = some (.slice (subA A c j sz) m (c - j))) (hsl : slT P t el sz = true) (hinf : (P.info? el).map (fun i => (i.zero, i.size, i.bytes)) = some (some zv, sz, by_))
    (hz : zv.cells = zs.toArray) (hl : zs.length = sz) (hsz : r.sz = sz) (hr : r.rep b.w zs a0) :
    Does P n b (.call { callee := .builtin .clear, args := #[x], argTypes := #[t] }) ty e hp (fun v hp' => ∃ hs', v = .tuple #[] ∧ hp' = F ++ (hs' ++ R) ∧ OS el (OT.fr r) b.w (.slice A (l.take j ++ List.replicate (l.length - j) a0).length c) (l.take j ++ List.replicate (l.length - j) a0) hs') := does_of fun a w hf ho => by
  subst hsz
  subst hm
  obtain ⟨h2, _⟩ := slT_spec hsl
  have hzero : (zeroValue el).run P w = .ok zv w := by
    cases hi : P.info? el with
    | none => simp [hi] at hinf
    | some inf =>
      have hz' : inf.zero = some zv := by
        simp only [hi, Option.map_some, Option.some.injEq, Prod.mk.injEq] at hinf
        exact hinf.1
      simp [zeroValue, typeInfo, hi, hz']
  have hlen : (l.take j ++ List.replicate (l.length - j) a0).length = l.length := by simp; omega
  have hexec : ∀ {w' : World}, (Builtin.clear_ #[t] ty #[.slice (subA A c j r.sz) (l.length - j) (c - j)]).run P w = .ok (.tuple #[]) w' → ∀ d pos af gg, (execOp a.eval ⟨d, .call { callee := .builtin .clear, args := #[x], argTypes := #[t] }, ty, pos, af, gg⟩).run P w = .ok (.value (.tuple #[])) w' := fun hr d pos af gg => by
    simp [execOp, resolve, invoke, builtin, hf.eval hx, hr]
  by_cases h0 : l.length - j = 0
  · have hq : l.take j ++ List.replicate (l.length - j) a0 = l := by
      rw [h0, List.replicate_zero, List.append_nil, List.take_of_length_le (by omega)]
    refine ⟨_, _, F ++ (hs ++ R), hexec (w' := w) ?_, hhp ▸ ho, hs, rfl, rfl, by rw [hq]; exact h⟩
    rw [h0]
    unfold Builtin.clear_
    cases subA A c j r.sz <;> simp [run_underlying h2]
  · obtain ⟨css, hss, hq, q1, q2, q3⟩ := h
    obtain ⟨g, cap, pr, tl, hv, hq1, hl1, hl2, hmc, hcm⟩ := q1.pos (by omega)
    injection hv with e1 e2 e3
    subst e1
    subst e3
    subst hq1
    have hlc := q2.len
    have hfl := (all3_flat q2).1
    have htk := all3_take_len q2 j hj
    have hone : ∀ u ∈ (List.replicate (l.length - j) zs).flatten, u.oneCell' = true := fun u hu => by
      obtain ⟨y, hy, hu⟩ := List.mem_flatten.1 hu
      rw [List.eq_of_mem_replicate hy] at hu
      exact ((OT.fr r).cells ⟨hr, rfl⟩).2 u hu
    have hrl : (List.replicate (l.length - j) zs).flatten.length = (l.length - j) * r.sz := by
      rw [← hl]
      simp
    have hmul : j * r.sz + (l.length - j) * r.sz = l.length * r.sz := by
      rw [← Nat.add_mul]
      congr 1
      omega
    have hsz0 : (OT.fr r).sz = r.sz := rfl
    rw [hsz0] at hl1 hl2 hfl htk
    have hsub : subA (some ⟨g, pr.length, none⟩) c j r.sz = some ⟨g, pr.length + j * r.sz, none⟩ := by
      unfold subA
      rw [if_neg (by omega)]
      simp [Addr.add]
    have hblk : hp[F.length]? = some (g, Cl el (pr ++ css.flatten ++ tl)) := by
      rw [hhp, q3]
      simp
    have hb := (ho.blk g _ (List.mem_of_getElem? hblk)).2
    have hst := run_storeCells_at (P := P) g (pr.length + j * r.sz) el (List.replicate (l.length - j) zs).flatten 0 (pr ++ css.flatten ++ tl).toArray w hb (by simp only [List.size_toArray, List.length_append, hrl, hfl]; omega) hone
    have hrow := ho.row hblk ((pr ++ css.flatten ++ tl).take (pr.length + j * r.sz) ++ (List.replicate (l.length - j) zs).flatten ++ (pr ++ css.flatten ++ tl).drop (pr.length + j * r.sz + (List.replicate (l.length - j) zs).flatten.length))
    have hset := set_seg (pr := pr) (xs := css.flatten) (tl := tl) (us := (List.replicate (l.length - j) zs).flatten) (k := j * r.sz) (by rw [hrl, hfl]; omega)
    simp only [Nat.add_zero, List.toList_toArray] at hst
    rw [hset] at hrow hst
    have hflat : css.flatten.take (j * r.sz) ++ (List.replicate (l.length - j) zs).flatten ++ css.flatten.drop (j * r.sz + (List.replicate (l.length - j) zs).flatten.length) = (css.take j ++ List.replicate (l.length - j) zs).flatten := by
      rw [hrl, hmul, ← hfl, List.drop_length, List.append_nil, List.flatten_append]
      congr 1
      have e5 : css.flatten = (css.take j).flatten ++ (css.drop j).flatten := by rw [← List.flatten_append, List.take_append_drop]
      rw [e5, ← htk, List.take_left]
    rw [hflat] at hrow hst
    have q4 := (q2.take j).append (all3_of2 (All2.rep hr (l.length - j)))
    rw [hhp, q3] at hrow
    simp only [List.append_assoc, List.cons_append, List.nil_append] at hrow
    rw [set_mid] at hrow
    refine ⟨_, _, _, hexec ?_, hrow, [(g, Cl el (pr ++ ((css.take j ++ List.replicate (l.length - j) zs).flatten ++ tl)))] ++ hss.flatten, rfl, by simp, _, _, [(g, Cl el (pr ++ ((css.take j ++ List.replicate (l.length - j) zs).flatten ++ tl)))], ?_, q4, ?_⟩
    · obtain ⟨q, hq⟩ : ∃ q, l.length - j = q + 1 := ⟨l.length - j - 1, by omega⟩
      rw [hq] at hst
      rw [hsub, hq]
      simp only [Builtin.clear_, List.getElem?_toArray, List.getElem?_cons_zero, Sem.run_bind, run_underlying h2, hzero, Result.andThen_ok, hz, zero_flat, hst]
      rw [← List.append_assoc]
      rfl
    · rw [hlen]
      refine .inr ⟨g, c, pr, tl, rfl, by simp, ?_, ?_, hmc, hcm⟩
      · rw [List.flatten_append, List.length_append, hrl, htk, hmul]
        rfl
      · have e6 : (css.take j ++ List.replicate (l.length - j) zs).flatten.length = css.flatten.length := by
          rw [List.flatten_append, List.length_append, hrl, htk, hmul, hfl]
        rw [List.length_append, e6, ← List.length_append]
        exact hl2
    · have e7 := (all3_fr q2).2
      have e8 := (all3_fr q4).2
      rw [e7, e8]
/-- From a place on all is at its zero. -/
def clrM (l : List α) (i : Int) (a0 : α) : List α := l.take i.toNat ++ List.replicate (l.length - i.toNat) a0
theorem clrM_length (l : List α) (i : Int) (a0 : α) : (clrM l i a0).length = l.length := by
  unfold clrM
  simp only [List.length_append, List.length_take, List.length_replicate]
  omega
theorem u_clr {r : RT α} {i : Int} (F R : Hp) {t sz by_ m : Nat} {x : Operand} {zv : Value} (zs : List Value) (a0 : α) (j : Nat) (hhp : hp = F ++ (hs ++ R)) (h : OS el (OT.fr r) b.w (.slice A l.length c) l hs) (hi : i = (j : Int)) (hj : j ≤ l.length) (hm : m = l.length - j)
    (hx : val e x = some (.slice (subA A c j sz) m (c - j))) (hsl : slT P t el sz = true) (hinf : (P.info? el).map (fun i => (i.zero, i.size, i.bytes)) = some (some zv, sz, by_))
    (hz : zv.cells = zs.toArray) (hl : zs.length = sz) (hsz : r.sz = sz) (hr : r.rep b.w zs a0) :
    Does P n b (.call { callee := .builtin .clear, args := #[x], argTypes := #[t] }) ty e hp (fun v hp' => ∃ hs', v = .tuple #[] ∧ hp' = F ++ (hs' ++ R) ∧ OS el (OT.fr r) b.w (.slice A (clrM l i a0).length c) (clrM l i a0) hs') := by
  subst hi
  exact u_clear F R zs a0 j hhp h hj hm hx hsl hinf hz hl hsz hr
end
/-- A loop over a map is done: the map is there as before. -/
theorem MIt.done {κ ν : Type} {kr : RT κ} {vo : OT ν} {ka va : Bool} {w : World} {g gi : Nat} {l left : List (κ × ν)} {hs : Hp} (h : MIt kr vo ka va w g gi l left hs) : ∃ hs', hs'.Sublist hs ∧ OM kr vo ka va w g l hs' := by
  obtain ⟨l0, es, cl, hss, seen, c0, h0, h1, _, h3, h4, h5, _⟩ := h
  exact ⟨_, by rw [h1]; exact List.sublist_cons_self _ _, l0, h0, es, cl, hss, rfl, h3, h4, h5⟩
end
/-- The keys of a map, rising; their number has room, and each is an int. -/
def sortedK {ν : Type} (l : List (Int × ν)) : Option (List Int) := (room 8 l.length).bind fun _ => if (l.all fun p => decide (-9223372036854775808 ≤ p.1 ∧ p.1 ≤ 9223372036854775807)) = true then some ((l.map (·.1)).mergeSort fun x y => decide (x ≤ y)) else none
section
variable {P : Program} {n : NT} {w0 b : Base} {ops : Array Oper} {S : Hp} {Q : Exit → Act → World → Prop} {fuel : Nat} {listed : Array Bool} {e : Env} {hp : Hp}
/-- What comes behind a set of operations is proved once. -/
theorem D_tail (I : Base → Env → Hp → Prop) (fuel' : Nat) (listed' : Array Bool) (ht : ∀ b' e' hp', w0.Le b' → I b' e' hp' → SLA P n w0 b' ops S Q fuel' listed' e' hp')
    (k : (∀ b' e' hp', w0.Le b' → I b' e' hp' → SLA P n w0 b' ops S Q fuel' listed' e' hp') → SLA P n w0 b ops S Q fuel listed e hp) : SLA P n w0 b ops S Q fuel listed e hp := k ht
theorem D_goto {I : Base → Env → Hp → Prop} {fuel' : Nat} {listed' : Array Bool} (ht : ∀ b' e' hp', w0.Le b' → I b' e' hp' → SLA P n w0 b' ops S Q fuel' listed' e' hp') (hf : fuel = fuel') (hl : listed = listed')
    {e' : Env} {hp' : Hp} (he : Sub e' e) (hh : hp'.Sublist hp) (hle : w0.Le b) (hi : I b e' hp') : SLA P n w0 b ops S Q fuel listed e hp := fun a w hfit ho => by
  subst hf hl
  exact ht b e' hp' hle hi a w (hfit.sub he) (ho.sub hh)
end

/- ---- copy of elements of many cells, onto a whole slice ---- -/
section
theorem run_copy_rowN {P : Program} (w : World) (dT sT ty elem : TypeId) (g o dLen dCap sz : Nat) (a : Addr) (sLen sCap : Nat) (cur : Array Value) (t : TypeId) (cs : List Value)
    (hu : P.underlying dT = some (.slice elem)) (hs : (P.info? elem).map (·.size) = some sz)
    (hg : w.heap[g]? = some (.cells cur t (0, 0))) (hn : cs.length = min sLen dLen * sz)
    (hsrc : ∀ j v, cs[j]? = some v → w.cell? (a.add j) = some v) (hfit : o + cs.length ≤ cur.size) (h1 : ∀ v ∈ cs, v.oneCell' = true) :
    (Builtin.copy_ #[dT, sT] ty #[.slice (some ⟨g, o, none⟩) dLen dCap, .slice (some a) sLen sCap]).run P w =
      .ok (goInt ((min sLen dLen : Nat) : Int)) (w.setRow g (cur.toList.take o ++ cs ++ cur.toList.drop (o + cs.length)).toArray) := by
  have hl := run_loadCells_list (P := P) w a cs hsrc
  have hst := run_storeCells_at P g o t cs 0 cur w hg (by simpa using hfit) h1
  have hn' : Nat.min sLen dLen * sz = cs.length := hn.symm
  cases hq : P.info? elem with
  | none => simp [hq] at hs
  | some i =>
    have hi : i.size = sz := by simpa [hq] using hs
    simp [Builtin.copy_, run_underlying hu, Builtin.lenOf, Builtin.firstCells, sizeOf, typeInfo, hq, hi, hn', hl, hst]
theorem run_copy_noneN {P : Program} (w : World) (dT sT ty elem : TypeId) (d a : Option Addr) (dLen dCap sLen sCap sz : Nat) (hu : P.underlying dT = some (.slice elem)) (hs : (P.info? elem).map (·.size) = some sz) (hn : Nat.min sLen dLen = 0) :
    (Builtin.copy_ #[dT, sT] ty #[.slice d dLen dCap, .slice a sLen sCap]).run P w = .ok (goInt 0) w := by
  cases hq : P.info? elem with
  | none => simp [hq] at hs
  | some i =>
    have hl : ∀ (x : Addr), (loadCells x 0).run P w = .ok #[] w := fun x => by simpa using run_loadCells_list (P := P) w x [] (by simp)
    cases d <;> cases a <;> simp [Builtin.copy_, run_underlying hu, Builtin.lenOf, Builtin.firstCells, sizeOf, typeInfo, hq, hn, storeCells, hl]
variable {α : Type} {P : Program} {n : NT} {m : Nat} {dk0 : Nat × Obj → Prop} {rq : Option Nat} {b : Base} {e : Env} {hp : Hp} {ty : TypeId} {l : List α} {A : Option Addr} {c : Nat} {hs : Hp}
/-- 'm' copied onto 'l'. -/
def cpyW {α : Type} (l m : List α) : List α := m.take l.length ++ l.drop m.length
theorem cpyW_length (l m : List α) : (cpyW l m).length = l.length := by
  unfold cpyW
  simp only [List.length_append, List.length_take, List.length_drop]
  omega
theorem take_flatN {r : RT α} {w : World} {css : List (List Value)} (h : All2 (r.rep w) css l) (j : Nat) : css.flatten.take (j * r.sz) = (css.take j).flatten := by
  induction css generalizing l j with
  | nil => simp
  | cons x css ih =>
    cases l with
    | nil => exact h.elim
    | cons y l =>
      have hx := r.len h.1
      cases j with
      | zero => simp
      | succ j => rw [List.flatten_cons, List.take_succ_cons, List.flatten_cons, ← ih h.2 j, show (j + 1) * r.sz = x.length + j * r.sz by rw [hx, Nat.add_mul]; omega, List.take_length_add_append]
theorem drop_flatN {r : RT α} {w : World} {css : List (List Value)} (h : All2 (r.rep w) css l) (j : Nat) : css.flatten.drop (j * r.sz) = (css.drop j).flatten := by
  induction css generalizing l j with
  | nil => simp
  | cons x css ih =>
    cases l with
    | nil => exact h.elim
    | cons y l =>
      have hx := r.len h.1
      cases j with
      | zero => simp
      | succ j => rw [List.flatten_cons, List.drop_succ_cons, ← ih h.2 j, show (j + 1) * r.sz = x.length + j * r.sz by rw [hx, Nat.add_mul]; omega, List.drop_length_add_append]
theorem u_copyW {r : RT α} (F R : Hp) {x y : Operand} {t t' el : TypeId} {B : Option Addr} {d' s sz : Nat} {m : List α} (css' : List (List Value)) (hz : 0 < sz) (hsz : r.sz = sz) (hsl : slT P t el sz = true)
    (hx : val e x = some (.slice A l.length c)) (hy : val e y = some (.slice B s d')) (hs' : s = m.length)
    (h : OS el (OT.fr r) b.w (.slice A l.length c) l hs) (hhp : hp = F ++ (hs ++ R)) (hrd : ∀ w, Own b hp w → Rd w B css'.flatten) (hall : All2 (r.rep b.w) css' m) :
    Does P n b (.call { callee := .builtin .copy, args := #[x, y], argTypes := #[t, t'] }) ty e hp (fun v' hp' => .int .i64 ((min m.length l.length : Nat) : Int) = v' ∧ ∃ hs', hp' = F ++ (hs' ++ R) ∧ OS el (OT.fr r) b.w (.slice A (cpyW l m).length c) (cpyW l m) hs') := does_of fun a w hf ho => by
  obtain ⟨ht, inf, hi, hsi⟩ := slT_spec hsl
  have hinf : (P.info? el).map (·.size) = some sz := by rw [hi]; simp [hsi]
  subst hs'
  have hr := hrd w ho
  have hlen := flat_len hall
  by_cases h0 : min m.length l.length = 0
  · have hrun := run_copy_noneN (P := P) w t t' ty el A B l.length c m.length d' sz ht hinf h0
    refine ⟨.int .i64 0, w, hp, fun dd pos af gd => ?_, ho, by rw [h0]; rfl, hs, hhp, ?_⟩
    · simp [execOp, resolve, invoke, builtin, hf.eval hx, hf.eval hy, hrun, goInt]
    · have e1 : cpyW l m = l := by
        unfold cpyW
        have h1 : m.take l.length = [] := by
          rw [← List.length_eq_zero_iff, List.length_take]
          omega
        rw [h1, List.nil_append]
        by_cases hm : m.length = 0
        · rw [hm, List.drop_zero]
        · have : l.length = 0 := by omega
          rw [List.length_eq_zero_iff.1 this, List.drop_nil]
      rw [e1]
      exact h
  · obtain ⟨css, hss, hq0, q1, q2, q3⟩ := h
    obtain ⟨q4, q5⟩ := all3_fr q2
    have hq' : hs = hq0 := by rw [q3, q5, List.append_nil]
    subst hq'
    obtain ⟨g, cap, pr, tl, hv, hq1, hl1, hl2, hmc, hcm⟩ := q1.pos (by omega)
    injection hv with e1 e2 e3
    subst e1 e3
    subst hq1
    have ho1 : (OT.fr r).sz = sz := hsz
    rw [ho1] at hl1 hl2
    rw [hsz] at hlen
    cases B with
    | none =>
      exfalso
      have hlt : 0 < css'.flatten.length := by
        rw [hlen]
        exact Nat.mul_pos (by omega) hz
      have := hr 0 _ (List.getElem?_eq_getElem hlt)
      simp [cellO] at this
    | some p =>
      have hblk : hp[F.length]? = some (g, Cl el (pr ++ css.flatten ++ tl)) := by
        rw [hhp]
        simp
      have hmin : min m.length l.length * sz ≤ css'.flatten.length := by rw [hlen]; exact Nat.mul_le_mul_right _ (Nat.min_le_left _ _)
      have hmin2 : min m.length l.length * sz ≤ css.flatten.length := by rw [hl1]; exact Nat.mul_le_mul_right _ (Nat.min_le_right _ _)
      have hcs : ((css'.flatten).take (min m.length l.length * sz)).length = min m.length l.length * sz := by
        rw [List.length_take]
        omega
      have hrun := run_copy_rowN (P := P) w t t' ty el g pr.length l.length c sz p m.length d' (pr ++ css.flatten ++ tl).toArray el ((css'.flatten).take (min m.length l.length * sz)) ht hinf (ho.blk g _ (List.mem_of_getElem? hblk)).2 hcs
        (fun i u hu => by
          rw [List.getElem?_take] at hu
          split at hu
          · have := hr i u hu
            simpa [cellO] using this
          · cases hu) (by rw [hcs]; simp only [List.size_toArray, List.length_append]; omega) (fun u hu => flat_one hall u (List.mem_of_mem_take hu))
      rw [hcs] at hrun
      have hnew : (pr ++ css.flatten ++ tl).take pr.length ++ (css'.flatten).take (min m.length l.length * sz) ++ (pr ++ css.flatten ++ tl).drop (pr.length + min m.length l.length * sz) = pr ++ (css'.take l.length ++ css.drop m.length).flatten ++ tl := by
        have hx1 : (css'.flatten).take (min m.length l.length * sz) = (css'.take l.length).flatten := by
          rw [← hsz, take_flatN hall]
          have hcl : css'.length = m.length := hall.length
          by_cases hmk : m.length ≤ l.length
          · rw [Nat.min_eq_left hmk, List.take_of_length_le (by omega), List.take_of_length_le (by omega)]
          · rw [Nat.min_eq_right (by omega)]
        have hx2 : css.flatten.drop (min m.length l.length * sz) = (css.drop m.length).flatten := by
          rw [← hsz, drop_flatN q4]
          have hcl : css.length = l.length := q4.length
          by_cases hmk : m.length ≤ l.length
          · rw [Nat.min_eq_left hmk]
          · rw [Nat.min_eq_right (by omega), List.drop_of_length_le (by omega), List.drop_of_length_le (by omega)]
        have hseg := set_seg (pr := pr) (xs := css.flatten) (tl := tl) (us := (css'.flatten).take (min m.length l.length * sz)) (k := 0) (by rw [hcs]; omega)
        rw [hcs, Nat.add_zero, Nat.zero_add, List.take_zero, List.nil_append] at hseg
        rw [hseg, hx1, hx2]
        simp
      rw [List.toList_toArray, hnew] at hrun
      refine ⟨.int .i64 ((min m.length l.length : Nat) : Int), _, hp.set F.length _, fun dd pos af gd => ?_, ho.row hblk (pr ++ (css'.take l.length ++ css.drop m.length).flatten ++ tl), rfl, ?_⟩
      · simp [execOp, resolve, invoke, builtin, hf.eval hx, hf.eval hy, hrun, goInt]
      · have hall2 : All2 (r.rep b.w) (css'.take l.length ++ css.drop m.length) (cpyW l m) := (hall.take l.length).append (q4.drop _)
        have hfl := flat_len hall2
        rw [hsz, cpyW_length] at hfl
        refine ⟨[(g, Cl el (pr ++ (css'.take l.length ++ css.drop m.length).flatten ++ tl))], ?_, css'.take l.length ++ css.drop m.length, List.replicate (cpyW l m).length [], [(g, Cl el (pr ++ (css'.take l.length ++ css.drop m.length).flatten ++ tl))], ?_, all3_of2 hall2, by rw [List.flatten_replicate_nil, List.append_nil]⟩
        · rw [hhp]
          simp
        · refine .inr ⟨g, c, pr, tl, rfl, rfl, ?_, ?_, ?_, hcm⟩
          · rw [ho1, hfl, cpyW_length]
          · rw [ho1, List.length_append, hfl]
            rw [List.length_append, hl1] at hl2
            exact hl2
          · rw [cpyW_length]; exact hmc
end
end Go.Fp
