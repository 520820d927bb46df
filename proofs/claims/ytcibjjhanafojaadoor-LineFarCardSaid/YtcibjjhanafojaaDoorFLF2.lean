/- Plain: the table of least sums is right. -/
import Derived.Test.YtcibjjhanafojaaDoorFLF1
set_option linter.unusedVariables false
set_option linter.unusedSimpArgs false
namespace Go.Proofs.YtcibjjhanafojaaDoor
open Go.RowKit Go.Fp

def Src (n : ApiNet) (S : List Int) (m : Tab) : Prop := ∀ s ∈ S, ∀ i : Int, i = 0 ∨ i = 1 → ∀ y, joinL n.Links ⟨s, i⟩ = some y → ∃ c, mget m y = some c ∧ c ≤ 0
def Rel (n : ApiNet) (m : Tab) (x : LineEnd) (c : Int) : Prop := ∀ o ∈ outsL (sec n x.section_).Kind x.end_, ∀ y, joinL n.Links ⟨x.section_, o⟩ = some y → ∃ c', mget m y = some c' ∧ c' ≤ c + (sec n x.section_).Length
theorem rel_less {n : ApiNet} {m m' : Tab} (h : Less m m') {x : LineEnd} {c : Int} (hr : Rel n m x c) : Rel n m' x c := fun o ho y hy => by
  obtain ⟨c1, h1, h2⟩ := hr o ho y hy
  obtain ⟨c2, h3, h4⟩ := h y c1 h1
  exact ⟨c2, h3, by omega⟩
/-- The table and what is still to do. -/
structure Todo (n : ApiNet) (S : List Int) (m : Tab) (q : List LineEnd) : Prop where
  ok : TabOk n S m
  src : Src n S m
  known : ∀ x ∈ q, ∃ c, mget m x = some c
  done : ∀ x c, mget m x = some c → x ∈ q ∨ Rel n m x c
  few : 2 * pot m + q.length ≤ 500000000
theorem pot_le (m : Tab) (h : ∀ y c, mget m y = some c → c ≤ 1000000) : pot m ≤ 240000000 := by
  have key : ∀ l : List LineEnd, (l.map (wt m)).sum ≤ l.length * 1000000 := by
    intro l
    induction l with
    | nil => exact Nat.le_refl _
    | cons a l ih =>
      have : wt m a ≤ 1000000 := by
        unfold wt
        cases hg : mget m a with
        | none => exact Nat.le_refl _
        | some c => have := h a c hg; show c.toNat ≤ _; omega
      simp only [List.map_cons, List.sum_cons, List.length_cons]
      rw [Nat.succ_mul]
      omega
  have h1 := key allE
  have hl : allE.length = 240 := by unfold allE; rw [List.length_map, List.length_range]
  rw [hl] at h1
  exact h1
/-- One end is taken up. -/
theorem take_up {n : ApiNet} (hN : NetOk n) {S : List Int} {m : Tab} {x : LineEnd} {rest : List LineEnd} (h : Todo n S m (x :: rest)) :
    ∃ m' q', mLineDistances_L2309 n (m, x :: rest) = some (.inl (m', q')) ∧ Todo n S m' q' ∧ 2 * pot m' + q'.length < 2 * pot m + (rest.length + 1) := by
  obtain ⟨c0, hc0⟩ := h.known x (List.mem_cons_self ..)
  obtain ⟨hway, hcb⟩ := h.ok.way x c0 hc0
  obtain ⟨h0, hH⟩ := way_pos hN hway
  have hlen := sec_len hN hH
  have hfew := h.few
  have hcut : cutS (x :: rest) 1 ((x :: rest).length : Int) = some rest := by
    have := cutS_ok (l := x :: rest) (a := 1) (b := (x :: rest).length) (by simp) (Nat.le_refl _)
    simpa using this
  have ho : mLineOuts (sec n x.section_).Kind x.end_ = some (outsL (sec n x.section_).Kind x.end_) := outs_eq _ _
  have i0 : idx (x :: rest) 0 = some x := rfl
  unfold mLineDistances_L2309
  simp only [unc2]
  rw [if_pos (by simp only [List.length_cons]; push_cast; omega), i0, Option.bind_some, hcut, Option.bind_some, idx_sec hH.1, Option.bind_some, ho, Option.bind_some]
  simp only [List.length_cons] at hfew
  obtain ⟨⟨m', q'⟩, h1, j1, j2, j3, j4, ⟨r, j5⟩, j6, j7, j8⟩ := forS_inv (body := mLineDistances_L2809 n (outsL (sec n x.section_).Kind x.end_) x (sec n x.section_)) (fun k (T : Tab × List LineEnd) => TabOk n S T.1 ∧ Less m T.1 ∧ mget T.1 x = some c0 ∧ 2 * pot T.1 + T.2.length ≤ 2 * pot m + rest.length ∧ (∃ r, T.2 = rest ++ r) ∧ (∀ y ∈ T.2, ∃ c, mget T.1 y = some c) ∧ (∀ y, mget T.1 y = mget m y ∨ y ∈ T.2) ∧
      ∀ j (hj : j < (outsL (sec n x.section_).Kind x.end_).length), j < k → ∀ y, joinL n.Links ⟨x.section_, (outsL (sec n x.section_).Kind x.end_)[j]⟩ = some y → ∃ c', mget T.1 y = some c' ∧ c' ≤ c0 + (sec n x.section_).Length) (outsL (sec n x.section_).Kind x.end_).length 0 (m, rest)
    ⟨h.ok, less_refl m, hc0, Nat.le_refl _, ⟨[], by simp⟩, fun y hy => h.known y (List.mem_cons_of_mem _ hy), fun y => .inl rfl, fun j _ hj => absurd hj (by omega)⟩ (fun k T _ hk hi => by
      obtain ⟨m1, q1⟩ := T
      obtain ⟨i1, i2, i3, i4, ⟨r, i5⟩, i6, i7, i8⟩ := hi
      simp only at i1 i2 i3 i4 i5 i6 i7 i8
      have hk : k < (outsL (sec n x.section_).Kind x.end_).length := by omega
      have hcb1 := (i1.way x c0 i3).2
      have hbig := cnt_le m1
      have e2 : mgetD m1 x 0 = c0 := by simp [mgetD, i3]
      obtain ⟨m2, q2, g1, g2, g3, g4, g5, g6, ⟨r2, g7, g7b⟩, g8, g9⟩ := reach_spec hN (S := S) (at_ := ⟨x.section_, (outsL (sec n x.section_).Kind x.end_)[k]⟩) (d := c0 + (sec n x.section_).Length) (m := m1) (q := q1) i1 (by omega) (fun y hy => ⟨.more (i1.way x c0 i3).1 (List.getElem_mem hk) hy, .inr (by omega)⟩)
      unfold mLineDistances_L2809
      simp only [unc2]
      rw [idx_lt hk, Option.bind_some, Option.bind_some, e2, chk_ok (by omega) (by omega), Option.bind_some, g1, Option.bind_some]
      refine ⟨_, rfl, g2, less_trans i2 g3, g9 x c0 i3 (by omega), by simp only; omega, ⟨r ++ r2, by rw [g7, i5, List.append_assoc]⟩, fun y hy => ?_, fun y => ?_, fun j hj hjk y hy => ?_⟩
      · simp only at hy ⊢
        rw [g7] at hy
        rcases List.mem_append.1 hy with hy | hy
        · obtain ⟨c, hc⟩ := i6 y hy
          obtain ⟨c', h1, _⟩ := g3 y c hc
          exact ⟨c', h1⟩
        · obtain ⟨c, hc, _⟩ := g4 y (g7b y hy)
          exact ⟨c, hc⟩
      · simp only
        rcases g8 y with e | ⟨e, _⟩
        · rcases i7 y with e2 | e2
          · exact .inl (e.trans e2)
          · exact .inr (by rw [g7]; exact List.mem_append_left _ e2)
        · exact .inr e
      · simp only
        by_cases ej : j = k
        · subst ej
          exact g4 y hy
        · obtain ⟨c', h1, h2⟩ := i8 j hj (by omega) y hy
          obtain ⟨c2, h3, h4⟩ := g3 y c' h1
          exact ⟨c2, h3, by omega⟩)
  simp only at j1 j2 j3 j4 j5 j6 j7 j8
  rw [h1, Option.bind_some]
  refine ⟨m', q', rfl, ⟨j1, fun s hs i hi y hy => ?_, j6, fun z c hz => ?_, by omega⟩, by omega⟩
  · obtain ⟨c, h2, h3⟩ := h.src s hs i hi y hy
    obtain ⟨c2, h4, h5⟩ := j2 y c h2
    exact ⟨c2, h4, by omega⟩
  · rcases j7 z with e | e
    · rw [e] at hz
      by_cases ez : z = x
      · subst ez
        rw [hc0] at hz
        obtain rfl := Option.some.inj hz
        refine .inr fun o ho y hy => ?_
        obtain ⟨j, hj, rfl⟩ := List.getElem_of_mem ho
        exact j8 j hj (by omega) y hy
      · rcases h.done z c hz with hq | hq
        · rcases List.mem_cons.1 hq with hq | hq
          · exact absurd hq ez
          · exact .inl (by rw [j5]; exact List.mem_append_left _ hq)
        · exact .inr (rel_less j2 hq)
    · exact .inl e
/-- The table of least sums. -/
theorem dist_spec {n : ApiNet} (hN : NetOk n) {S : List Int} (hl : S.length ≤ 60) : ∃ m, mLineDistances n S = some m ∧ TabOk n S m ∧ ∀ y c, Way n S y c → ∃ c', mget m y = some c' ∧ c' ≤ c := by
  unfold mLineDistances
  obtain ⟨⟨m1, q1⟩, h1, i1, i2, i3, i4, i5⟩ := forS_inv (body := mLineDistances_L1506 n S) (fun k (T : Tab × List LineEnd) => TabOk n S T.1 ∧ (∀ y c, mget T.1 y = some c → y ∈ T.2) ∧ (∀ y ∈ T.2, ∃ c, mget T.1 y = some c) ∧ T.2.length ≤ 2 * k ∧
      ∀ j (hj : j < S.length), j < k → ∀ i : Int, i = 0 ∨ i = 1 → ∀ y, joinL n.Links ⟨S[j], i⟩ = some y → ∃ c, mget T.1 y = some c ∧ c ≤ 0) S.length 0 ([], [])
    ⟨⟨fun y c h => (by cases h), .nil⟩, fun y c h => (by cases h), fun y hy => (List.not_mem_nil hy).elim, Nat.le_refl _, fun j _ hj => absurd hj (by omega)⟩ (fun k T _ hk hi => by
      obtain ⟨m, q⟩ := T
      obtain ⟨a1, a2, a3, a4, a5⟩ := hi
      simp only at a1 a2 a3 a4 a5
      have hk : k < S.length := by omega
      obtain ⟨m2, q2, b1, b2, b3, b4, b5, b6, ⟨r2, b7, b7b⟩, b8, b9⟩ := reach_spec hN (S := S) (at_ := ⟨S[k], 0⟩) (d := 0) (m := m) (q := q) a1 (by omega) (fun y hy => ⟨.first (List.getElem_mem hk) (.inl rfl) hy, .inl rfl⟩)
      obtain ⟨m3, q3, c1, c2, c3, c4, c5, c6, ⟨r3, c7, c7b⟩, c8, c9⟩ := reach_spec hN (S := S) (at_ := ⟨S[k], 1⟩) (d := 0) (m := m2) (q := q2) b2 (by omega) (fun y hy => ⟨.first (List.getElem_mem hk) (.inr rfl) hy, .inl rfl⟩)
      have b1' : mLineDistances_1 ⟨S[k], 0⟩ 0 n.Stations n.Sections n.Links n.Signals n.Gates m q = some (m2, q2) := b1
      have c1' : mLineDistances_1 ⟨S[k], 1⟩ 0 n.Stations n.Sections n.Links n.Signals n.Gates m2 q2 = some (m3, q3) := c1
      unfold mLineDistances_L1506
      simp only [unc2]
      rw [idx_lt hk, Option.bind_some, b1', pass2, c1', pass2]
      refine ⟨_, rfl, c2, fun y c hy => ?_, fun y hy => ?_, by simp only; omega, fun j hj hjk i hi y hy => ?_⟩
      · simp only at hy ⊢
        rcases c8 y with e | ⟨e, _⟩
        · rw [e] at hy
          rcases b8 y with e2 | ⟨e2, _⟩
          · rw [e2] at hy
            rw [c7, b7]
            exact List.mem_append_left _ (List.mem_append_left _ (a2 y c hy))
          · rw [c7]
            exact List.mem_append_left _ e2
        · exact e
      · simp only at hy ⊢
        rw [c7] at hy
        rcases List.mem_append.1 hy with hy | hy
        · rw [b7] at hy
          rcases List.mem_append.1 hy with hy | hy
          · obtain ⟨c, hc⟩ := a3 y hy
            obtain ⟨c', h1, _⟩ := b3 y c hc
            obtain ⟨c'', h2, _⟩ := c3 y c' h1
            exact ⟨c'', h2⟩
          · obtain ⟨c, hc, _⟩ := b4 y (b7b y hy)
            obtain ⟨c'', h2, _⟩ := c3 y c hc
            exact ⟨c'', h2⟩
        · obtain ⟨c, hc, _⟩ := c4 y (c7b y hy)
          exact ⟨c, hc⟩
      · simp only
        by_cases ej : j = k
        · subst ej
          rcases hi with rfl | rfl
          · obtain ⟨c, hc, hc0⟩ := b4 y hy
            obtain ⟨c', h1, h2⟩ := c3 y c hc
            exact ⟨c', h1, by omega⟩
          · exact c4 y hy
        · obtain ⟨c, hc, hc0⟩ := a5 j hj (by omega) i hi y hy
          obtain ⟨c', h1, h2⟩ := b3 y c hc
          obtain ⟨c'', h3, h4⟩ := c3 y c' h1
          exact ⟨c'', h3, by omega⟩)
  simp only at i1 i2 i3 i4 i5
  rw [h1, pass2]
  have hbig := cnt_le m1
  have hpot := pot_le m1 (fun y c hy => by have := (i1.way y c hy).2; omega)
  have h0 : Todo n S m1 q1 := ⟨i1, fun s hs i hi y hy => by
    obtain ⟨j, hj, rfl⟩ := List.getElem_of_mem hs
    exact i5 j hj (by omega) i hi y hy, i3, fun x c hx => .inl (i2 x c hx), by omega⟩
  obtain ⟨m, g1, g2, g3⟩ := loopM_inv (step := mLineDistances_L2309 n) (fun T => Todo n S T.1 T.2) (fun m => TabOk n S m ∧ ∀ y c, Way n S y c → ∃ c', mget m y = some c' ∧ c' ≤ c) (fun T => 2 * pot T.1 + T.2.length) (fun T hT => by
    obtain ⟨m, q⟩ := T
    simp only at hT
    cases q with
    | nil =>
      refine .inr ⟨m, ?_, hT.ok, fun y c hy => ?_⟩
      · unfold mLineDistances_L2309
        simp only [unc2]
        rw [if_neg (by simp)]
      · induction hy with
        | first hs hi hj => exact hT.src _ hs _ hi _ hj
        | more hx ho hj ih =>
          obtain ⟨c1, h1, h2⟩ := ih
          rcases hT.done _ c1 h1 with hq | hq
          · exact (List.not_mem_nil hq).elim
          · obtain ⟨c2, h3, h4⟩ := hq _ ho _ hj
            exact ⟨c2, h3, by omega⟩
    | cons x rest =>
      obtain ⟨m', q', h1, h2, h3⟩ := take_up hN hT
      exact .inl ⟨(m', q'), h1, h2, by simpa using h3⟩) (m1, q1) h0
  rw [g1, Option.bind_some]
  exact ⟨m, rfl, g2, g3⟩
end Go.Proofs.YtcibjjhanafojaaDoor
