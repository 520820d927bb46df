/- Slices that lie each in a block of its own, made since a base 'b0' stood: they may be handed on as frozen ones, and be taken back as own ones at the end (where no two of them are the same). Wants the strict copy of the framework. -/
import Derived.Test.YtnmhabgnfifkdaaXG
namespace Go.Fp
open Go.RowKit

/-- Blocks, not empty, that stand in 'w', none of which 'b0' knows. -/
def Free (b0 : Base) (w : World) (hs : Hp) : Prop := ∀ y ∈ hs, (∃ t c cs, y.2 = Cl t (c :: cs)) ∧ w.heap[y.1]? = some y.2 ∧ b0.B ≤ y.1 ∧ ∀ p : Addr, p.block = y.1 → b0.w.cell? p = none
theorem Free.mono {b0 : Base} {w w' : World} {hs : Hp} (h : Free b0 w hs) (hk : Keeps w w') : Free b0 w' hs := fun y hy => by
  obtain ⟨⟨t, c, cs, e⟩, h1, h2, h3⟩ := h y hy
  refine ⟨⟨t, c, cs, e⟩, ?_, h2, h3⟩
  rw [e] at h1 ⊢
  exact hk.obj _ _ _ _ (by simp) h1
/-- Not known to 'b'. -/
def Unk (b : Base) (hs : Hp) : Prop := ∀ y ∈ hs, b.B ≤ y.1 ∧ ∀ p : Addr, p.block = y.1 → b.w.cell? p = none
theorem Own.unk {b : Base} {F hs R : Hp} {w : World} (h : Own b (F ++ (hs ++ R)) w) : Unk b hs := fun y hy =>
  have hm : (y.1, y.2) ∈ F ++ (hs ++ R) := by simp [hy]
  ⟨(h.blk _ _ hm).1, fun p hp => h.hole _ _ hm p hp⟩
section
variable {α : Type}
def Own1 (b0 : Base) (el : TypeId) (r : RT α) (w : World) (A : Option Addr) (c : Nat) (l : List α) : Prop :=
  ∃ hq, OS el (OT.fr r) w (.slice A l.length c) l hq ∧ Free b0 w hq ∧ (l = [] → hq = [])
theorem Own1.mono {b0 : Base} {el : TypeId} {r : RT α} {w w' : World} {A : Option Addr} {c : Nat} {l : List α} (h : Own1 b0 el r w A c l) (hk : Keeps w w') : Own1 b0 el r w' A c l := by
  obtain ⟨hq, h1, h2, h3⟩ := h
  exact ⟨hq, h1.mono hk, h2.mono hk, h3⟩
def RT.own1 (b0 : Base) (el : TypeId) (r : RT α) : RT (List α) := ⟨1, fun w vs l => ∃ A c, vs = [.slice A l.length c] ∧ FZ r w A c l ∧ Own1 b0 el r w A c l, fun ⟨_, _, h, _⟩ => by rw [h]; rfl,
  fun ⟨_, _, h, _⟩ u hu => by rw [h] at hu; simp at hu; subst hu; rfl, fun hk ⟨A, c, h, hf, ho⟩ => ⟨A, c, h, hf.mono hk, ho.mono hk⟩⟩
theorem RT.own1_mk {b0 : Base} {el : TypeId} {r : RT α} {w : World} {A : Option Addr} {c : Nat} {l : List α} (h : FZ r w A c l) (ho : Own1 b0 el r w A c l) : (RT.own1 b0 el r).rep w [.slice A l.length c] l := ⟨A, c, rfl, h, ho⟩
/-- What was just frozen. -/
theorem own1_of {b0 b : Base} {el : TypeId} {r : RT α} (hsz : 0 < r.sz) {w w' : World} {A : Option Addr} {c : Nat} {l : List α} {hs : Hp} (h : OS el (OT.fr r) w (.slice A l.length c) l hs) (hk : Keeps w w') (hb : ∀ y ∈ hs, w'.heap[y.1]? = some y.2) (hu : Unk b hs) (h0 : b0.Le b) (hn : l = [] → hs = []) : Own1 b0 el r w' A c l := by
  have hm := h.mono hk
  obtain ⟨css, hss, hq, h1, h2, h3⟩ := h
  obtain ⟨h4, h5⟩ := all3_fr h2
  rw [h5, List.append_nil] at h3
  subst h3
  refine ⟨hs, hm, fun y hy => ⟨?_, hb y hy, ?_, fun p hp => ?_⟩, hn⟩
  · have hlen : 0 < l.length := by
      rcases Nat.eq_zero_or_pos l.length with e | e
      · rw [hn (List.eq_nil_of_length_eq_zero e)] at hy
        simp at hy
      · exact e
    obtain ⟨g, cap, pr, tl, _, hq1, hl1, _⟩ := h1.pos hlen
    rw [hq1] at hy
    simp only [List.mem_cons, List.not_mem_nil, or_false] at hy
    subst hy
    have hpos : 0 < (pr ++ css.flatten ++ tl).length := by
      have : 0 < css.flatten.length := by rw [hl1]; exact Nat.mul_pos hlen hsz
      simp only [List.length_append]
      omega
    cases hcs : pr ++ css.flatten ++ tl with
    | nil => rw [hcs] at hpos; simp at hpos
    | cons x xs => exact ⟨el, x, xs, rfl⟩
  · rw [← h0.B]; exact (hu y hy).1
  · cases hc : b0.w.cell? p with
    | none => rfl
    | some v =>
      have := (hu y hy).2 p hp
      rw [h0.cells.cell p v hc] at this
      cases this
/-- As 'OT.list'; an empty one is nil. -/
def OT.nlist (el : TypeId) (o : OT α) : OT (List α) := ⟨1, fun w vs l hs => ∃ v, vs = [v] ∧ OS el o w v l hs ∧ (l = [] → hs = []), RT.list o.fz, rfl,
  fun ⟨v, h1, h2, _⟩ hk hb => by
    obtain ⟨A, c, hv, _⟩ := h2.form
    subst hv
    exact ⟨A, c, h1, h2.frz hk hb⟩,
  fun hk ⟨v, h1, h2, h3⟩ => ⟨v, h1, h2.mono hk, h3⟩,
  fun ⟨v, h1, h2, _⟩ => by
    obtain ⟨A, c, hv, _⟩ := h2.form
    subst hv
    subst h1
    exact ⟨rfl, fun u hu => by simp at hu; subst hu; rfl⟩⟩
theorem all_own1 {b0 b : Base} {el : TypeId} {r : RT α} (hsz : 0 < r.sz) {w w' : World} (hk : Keeps w w') (h0 : b0.Le b) : ∀ {css : List (List Value)} {l : List (List α)} {hss : List Hp}, All3 ((OT.nlist el (OT.fr r)).rep w) css l hss → (∀ y ∈ hss.flatten, w'.heap[y.1]? = some y.2) → Unk b hss.flatten → All2 ((RT.own1 b0 el r).rep w') css l
  | [], [], [], _, _, _ => trivial
  | c :: r', x :: s, q :: t, h, hb, hu => by
    refine ⟨?_, all_own1 hsz hk h0 h.2 (fun y hy => hb y (by rw [List.flatten_cons]; exact List.mem_append_right _ hy)) (fun y hy => hu y (by rw [List.flatten_cons]; exact List.mem_append_right _ hy))⟩
    obtain ⟨v, hv, h2, h3⟩ := h.1
    obtain ⟨A, cc, e, _⟩ := h2.form
    subst e
    have hbq : ∀ y ∈ q, w'.heap[y.1]? = some y.2 := fun y hy => hb y (by rw [List.flatten_cons]; exact List.mem_append_left _ hy)
    exact ⟨A, cc, hv, h2.frz hk hbq, own1_of hsz h2 hk hbq (fun y hy => hu y (by rw [List.flatten_cons]; exact List.mem_append_left _ hy)) h0 h3⟩
end
section
variable {α : Type} {P : Program} {n : NT} {b : Base} {Q : Exit → Act → World → Prop} {e : Env} {hp : Hp} {ops : Array Oper}
theorem d_unk (F hs R : Hp) {w0 : Base} {S : Hp} {fuel : Nat} {listed : Array Bool} (hh : hp = F ++ (hs ++ R)) (h : Unk b hs → SLA P n w0 b ops S Q fuel listed e hp) : SLA P n w0 b ops S Q fuel listed e hp := fun a w hf ho => h (by rw [hh] at ho; exact ho.unk) a w hf ho
/-- The own slices of an own slice are handed on. -/
theorem c_frzin (F hs R : Hp) {elo el : TypeId} {r : RT α} (hsz : 0 < r.sz) {ls : List (List α)} {A : Option Addr} {cc : Nat} {c : Code} (hh : hp = F ++ (hs ++ R)) (hO : OS elo (OT.nlist el (OT.fr r)) b.w (.slice A ls.length cc) ls hs)
    (h : ∀ b', b.Le b' → ∀ hs', OS elo (OT.fr (RT.own1 b el r)) b'.w (.slice A ls.length cc) ls hs' → SLc P n b' Q c e (F ++ (hs' ++ R))) : SLc P n b Q c e hp := fun a w hf ho => by
  rw [hh] at ho
  have hu := ho.unk
  obtain ⟨css, hss, hq, h1, h2, h3⟩ := hO
  subst h3
  have hperm : (hss.flatten ++ (F ++ (hq ++ R))).Perm (F ++ ((hq ++ hss.flatten) ++ R)) := by
    have p1 : (hss.flatten ++ (F ++ (hq ++ R))).Perm (F ++ (hss.flatten ++ (hq ++ R))) := perm_mid F hss.flatten (hq ++ R)
    have p2 : (hss.flatten ++ (hq ++ R)).Perm (hq ++ (hss.flatten ++ R)) := perm_mid hq hss.flatten R
    rw [List.append_assoc]
    exact p1.trans (List.Perm.append_left F p2)
  obtain ⟨k1, k2, k3⟩ := (ho.perm hperm).freeze
  refine h _ k2 hq ⟨css, List.replicate ls.length [], hq, h1, all3_of2 (all_own1 hsz k2.cells (Base.Le.refl b) h2 k3 (fun y hy => hu y (List.mem_append_right _ hy))), by simp⟩ a w (hf.le k2) k1
/-- No two of the lists, but for empty ones, begin alike. -/
def apart [DecidableEq α] : List (List α) → Bool
  | [] => true
  | [] :: r => apart r
  | (x :: _) :: r => r.all (fun l => l.head? != some x) && apart r
def apart? [DecidableEq α] (l : List (List α)) : Option Unit := if apart l = true then some () else none
theorem apart?_some [DecidableEq α] {l : List (List α)} {u : Unit} (h : apart? l = some u) : apart l = true := by
  unfold apart? at h
  split at h
  · assumption
  · cases h
/-- The blocks of such slices, as own ones. -/
theorem own1_all [DecidableEq α] {b0 : Base} {el : TypeId} {r : RT α} (hsz : 0 < r.sz) (hflat : ∀ w w' vs x, r.rep w vs x → r.rep w' vs x) (hinj : ∀ w w' cs x y, r.rep w cs x → r.rep w' cs y → x = y) {w w' : World} : ∀ {css : List (List Value)} {l : List (List α)}, All2 ((RT.own1 b0 el r).rep w) css l → apart l = true →
    ∃ hss : List Hp, All3 ((OT.list el (OT.fr r)).rep w') css l hss ∧ Free b0 w hss.flatten ∧ (hss.flatten.map (·.1)).Nodup ∧ ∀ y ∈ hss.flatten, ∃ x xs cs tl, (x :: xs) ∈ l ∧ y.2 = Cl el (cs ++ tl) ∧ r.rep w cs x
  | [], [], _, _ => ⟨[], trivial, fun y hy => by simp at hy, by simp, fun y hy => by simp at hy⟩
  | c :: r', x :: s, h, hap => by
    have hap2 : apart s = true := by
      cases x with
      | nil => simpa [apart] using hap
      | cons z zs => simp only [apart, Bool.and_eq_true] at hap; exact hap.2
    obtain ⟨hss, k1, k2, k3, k4⟩ := own1_all hsz hflat hinj (w := w) (w' := w') h.2 hap2
    obtain ⟨A, cc, hv, _, hq, hos, hfree, hn⟩ := h.1
    have hos2 : OS el (OT.fr r) w' (.slice A x.length cc) x hq := by
      obtain ⟨c1, h1, q1, s1, s2, s3⟩ := hos
      exact ⟨c1, h1, q1, s1, s2.imp fun _ _ _ hh => ⟨hflat _ _ _ _ hh.1, hh.2⟩, s3⟩
    refine ⟨hq :: hss, ⟨⟨_, hv, hos2⟩, k1⟩, ?_, ?_, ?_⟩
    · intro y hy
      rw [List.flatten_cons, List.mem_append] at hy
      rcases hy with hy | hy
      · exact hfree y hy
      · exact k2 y hy
    all_goals
      rcases x with _ | ⟨z, zs⟩
      · have := hn rfl
        subst this
        first
        | simpa using k3
        | (intro y hy
           obtain ⟨x1, xs1, cs1, tl1, m1, m2, m3⟩ := k4 y (by simpa using hy)
           exact ⟨x1, xs1, cs1, tl1, List.mem_cons_of_mem _ m1, m2, m3⟩)
      obtain ⟨c1, h1, q1, s1, s2, s3⟩ := hos
      obtain ⟨s4, s5⟩ := all3_fr s2
      rw [s5, List.append_nil] at s3
      subst s3
      obtain ⟨g, cap, pr, tl, _, hq1, hl1, _, _, _, hfr⟩ := s1.pos (by simp)
      obtain ⟨cs, hcs, hrep⟩ := s4.get (j := 0) (b := z) rfl
      obtain ⟨c2, rfl⟩ : ∃ c2, c1 = cs :: c2 := by
        cases c1 with
        | nil => simp at hcs
        | cons y ys => simp at hcs; exact ⟨ys, by rw [hcs]⟩
      have hpr : pr = [] := hfr
      subst hpr
      subst hq1
      have hcl : ([] : List Value) ++ (cs :: c2).flatten ++ tl = cs ++ (c2.flatten ++ tl) := by simp
      rw [hcl] at hfree ⊢
      first
      | (rw [List.flatten_cons, List.map_append, List.nodup_append]
         refine ⟨by simp, k3, fun a ha b hb hab => ?_⟩
         simp only [List.map_cons, List.map_nil, List.mem_cons, List.not_mem_nil, or_false] at ha
         obtain ⟨y, hy, hyb⟩ := List.mem_map.1 hb
         obtain ⟨x1, xs1, cs1, tl1, m1, m2, m3⟩ := k4 y hy
         have e1 := (hfree _ (List.mem_cons_self ..)).2.1
         have e2 := (k2 y hy).2.1
         have hg : y.1 = g := by rw [hyb, ← hab, ha]
         rw [hg, m2] at e2
         rw [e1] at e2
         simp only [Cl, Option.some.injEq, Obj.cells.injEq, and_true, List.toArray_eq_toArray_eq] at e2
         have e3 := List.append_inj e2 (by rw [r.len hrep, r.len m3])
         have e4 := hinj _ _ _ _ _ hrep (e3.1 ▸ m3)
         simp only [apart, Bool.and_eq_true, List.all_eq_true] at hap
         have e5 := hap.1 _ m1
         simp [e4] at e5)
      | (intro y hy
         rw [List.flatten_cons, List.mem_append] at hy
         rcases hy with hy | hy
         · simp only [List.mem_cons, List.not_mem_nil, or_false] at hy
           subst hy
           exact ⟨z, zs, cs, c2.flatten ++ tl, List.mem_cons_self .., rfl, hrep⟩
         · obtain ⟨x1, xs1, cs1, tl1, m1, m2, m3⟩ := k4 y hy
           exact ⟨x1, xs1, cs1, tl1, List.mem_cons_of_mem _ m1, m2, m3⟩)
/-- They are taken back. -/
theorem c_unfrz [DecidableEq α] (F hs R : Hp) {elo el : TypeId} {r : RT α} (hsz : 0 < r.sz) (hflat : ∀ w w' vs x, r.rep w vs x → r.rep w' vs x) (hinj : ∀ w w' cs x y, r.rep w cs x → r.rep w' cs y → x = y) {ls : List (List α)} {A : Option Addr} {cc : Nat} {c : Code} {b0 : Base} (hh : hp = F ++ (hs ++ R))
    (hO : OS elo (OT.fr (RT.own1 b0 el r)) b.w (.slice A ls.length cc) ls hs) (hle : b0.Le b) (hap : apart ls = true)
    (h : ∀ b', b0.Le b' → ∀ hs', OS elo (OT.list el (OT.fr r)) b'.w (.slice A ls.length cc) ls hs' → SLc P n b' Q c e (F ++ (hs' ++ R))) : SLc P n b Q c e hp := fun a w hf ho => by
  rw [hh] at ho
  obtain ⟨css, hss, hq, h1, h2, h3⟩ := hO
  obtain ⟨h4, h5⟩ := all3_fr h2
  rw [h5, List.append_nil] at h3
  subst h3
  obtain ⟨hqs, k1, k2, k3, _⟩ := own1_all hsz hflat hinj (w' := b0.w) h4 hap
  have ho0 := hle.back _ _ ho
  have hstand : ∀ y ∈ hqs.flatten, w.heap[y.1]? = some y.2 := fun y hy => by
    obtain ⟨⟨t, c, cs, e⟩, q1, _⟩ := k2 y hy
    rw [e] at q1 ⊢
    exact ho.keeps.obj _ _ _ _ (by simp) q1
  have hperm : (hqs.flatten ++ (F ++ (hs ++ R))).Perm (F ++ ((hs ++ hqs.flatten) ++ R)) := by
    have p1 : (hqs.flatten ++ (F ++ (hs ++ R))).Perm (F ++ (hqs.flatten ++ (hs ++ R))) := perm_mid F hqs.flatten (hs ++ R)
    have p2 : (hqs.flatten ++ (hs ++ R)).Perm (hs ++ (hqs.flatten ++ R)) := perm_mid hs hqs.flatten R
    rw [List.append_assoc]
    exact p1.trans (List.Perm.append_left F p2)
  have hown : Own ⟨b0.w, b0.B, b.dk⟩ (hqs.flatten ++ (F ++ (hs ++ R))) w := by
    refine ⟨ho0.lo, ho0.below, ho0.keeps, ?_, fun g o hm => ?_, fun g o hm p hp => ?_, fun g o hm => ?_⟩
    · rw [List.map_append, List.nodup_append]
      refine ⟨k3, ho.nd, fun x hx y hy hxy => ?_⟩
      obtain ⟨u, hu, rfl⟩ := List.mem_map.1 hx
      obtain ⟨⟨g, o⟩, hv, rfl⟩ := List.mem_map.1 hy
      obtain ⟨⟨t, c, cs, e⟩, q1, _⟩ := k2 u hu
      rw [e] at q1
      have := ho.hole g o hv ⟨u.1, 0, none⟩ hxy
      rw [cell_of_obj (by simp) q1] at this
      cases this
    · rcases List.mem_append.1 hm with hm | hm
      · exact ⟨(k2 _ hm).2.2.1, hstand _ hm⟩
      · exact ho0.blk g o hm
    · rcases List.mem_append.1 hm with hm | hm
      · exact (k2 _ hm).2.2.2 p hp
      · exact ho0.hole g o hm p hp
    · obtain ⟨d1, d2, d3, d4⟩ := ho.dks g o hm
      refine ⟨by rw [← hle.B]; exact d1, d2, d3, fun o' hm' => ?_⟩
      rcases List.mem_append.1 hm' with hm' | hm'
      · have := hstand _ hm'
        obtain ⟨⟨t, c, cs, e⟩, _⟩ := k2 _ hm'
        simp only at this e
        rw [d2, e] at this
        injection this with this
        exact d3 _ _ _ this
      · exact d4 o' hm'
  exact h ⟨b0.w, b0.B, b.dk⟩ (Base.Le.dks hle.dk) _ ⟨css, hqs, hs, h1, k1, rfl⟩ a w ⟨hf.toFitV, hf.defers⟩ (hown.perm hperm.symm)
/-- An inner slice stands on its own; it is put back. -/
theorem t_takeIn (F P1 hsj P2 R : Hp) {hs : Hp} {l : List Oper} (hs1 : hs = P1 ++ (hsj ++ P2)) (hh : hp = F ++ (hs ++ R)) (h : SLo P n b ops Q l e (F ++ (hsj ++ ((P1 ++ P2) ++ R)))) : SLo P n b ops Q l e hp := fun a w hf ho => h a w hf (by
  rw [hh, hs1] at ho
  refine ho.perm (List.Perm.append_left F ?_)
  have := perm_mid P1 hsj (P2 ++ R)
  simpa using this)
theorem t_putIn (F P1 hsj P2 R : Hp) {l : List Oper} (hh : hp = F ++ ((P1 ++ P2) ++ (hsj ++ R))) (h : SLo P n b ops Q l e (F ++ ((P1 ++ (hsj ++ P2)) ++ R))) : SLo P n b ops Q l e hp := fun a w hf ho => h a w hf (by
  rw [hh] at ho
  refine ho.perm (List.Perm.append_left F ?_)
  have h1 := List.Perm.append_left P1 (perm_mid P2 hsj R)
  simpa using h1)
theorem OS.putback {β : Type} {el el2 : TypeId} {o : OT β} {l : List (List β)} {A A2 : Option Addr} {c c2 : Nat} {P1 P2 hsj : Hp} {v : Value} {i : Int} {j : Nat} (hj : i = (j : Int))
    (hb : ∀ b' x' hsj', b.Le b' → (OT.list el2 o).rep b'.w [v] x' hsj' → OS el (OT.list el2 o) b'.w (.slice A (l.set j x').length c) (l.set j x') (P1 ++ (hsj' ++ P2))) {b' : Base} (hle : b.Le b') {k : Nat} {x' : List β} (hlen : x'.length = k) (hv : v = .slice A2 k c2) (h : OS el2 o b'.w (.slice A2 x'.length c2) x' hsj) :
    OS el (OT.list el2 o) b'.w (.slice A (put l i x').length c) (put l i x') (P1 ++ (hsj ++ P2)) := by
  rw [hj, put_nat]
  exact hb b' x' hsj hle ⟨_, by rw [hv, hlen], h⟩
theorem outp7 (h1 h2 h3 h4 h5 h6 h7 F R : Hp) : (h1 ++ (h2 ++ (h3 ++ (h4 ++ (h5 ++ (h6 ++ (h7 ++ (F ++ R)))))))).Perm (F ++ (h1 ++ (h2 ++ (h3 ++ (h4 ++ (h5 ++ (h6 ++ (h7 ++ R)))))))) := (List.Perm.append_left h1 (outp6 h2 h3 h4 h5 h6 h7 F R)).trans (perm_mid F h1 (h2 ++ (h3 ++ (h4 ++ (h5 ++ (h6 ++ (h7 ++ R)))))))
theorem t_out7 (B F h1 h2 h3 h4 h5 h6 h7 R : Hp) {l : List Oper} (hh : hp = B ++ (F ++ (h1 ++ (h2 ++ (h3 ++ (h4 ++ (h5 ++ (h6 ++ (h7 ++ R))))))))) (h : SLo P n b ops Q l e (B ++ (h1 ++ (h2 ++ (h3 ++ (h4 ++ (h5 ++ (h6 ++ (h7 ++ (F ++ R)))))))))) : SLo P n b ops Q l e hp := fun a w hf ho => h a w hf (by rw [hh] at ho; exact ho.perm (List.Perm.append_left B (outp7 h1 h2 h3 h4 h5 h6 h7 F R)))
theorem t_in7 (B F h1 h2 h3 h4 h5 h6 h7 R : Hp) {l : List Oper} (hh : hp = B ++ (h1 ++ (h2 ++ (h3 ++ (h4 ++ (h5 ++ (h6 ++ (h7 ++ (F ++ R))))))))) (h : SLo P n b ops Q l e (B ++ (F ++ (h1 ++ (h2 ++ (h3 ++ (h4 ++ (h5 ++ (h6 ++ (h7 ++ R)))))))))) : SLo P n b ops Q l e hp := fun a w hf ho => h a w hf (by rw [hh] at ho; exact ho.perm (List.Perm.append_left B (outp7 h1 h2 h3 h4 h5 h6 h7 F R).symm))
theorem int_flat {k : IntKind} : ∀ (w w' : World) (vs : List Value) (x : Int), (RT.int k).rep w vs x → (RT.int k).rep w' vs x := fun _ _ _ _ h => h
theorem int_inj {k : IntKind} : ∀ (w w' : World) (cs : List Value) (x y : Int), (RT.int k).rep w cs x → (RT.int k).rep w' cs y → x = y := fun _ _ cs x y h h' => by
  have h1 : cs = [.int k x] := h
  have h2 : cs = [.int k y] := h'
  rw [h1] at h2
  simpa using h2
end
end Go.Fp
