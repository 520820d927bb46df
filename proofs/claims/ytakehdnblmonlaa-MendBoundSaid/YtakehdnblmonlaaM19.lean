/- Solvers by what is picked; delays. -/
import Derived.Test.YtakehdnblmonlaaM18
namespace Go.Proofs.Ytakehdnblmonlaa
open Go.RowKit Go.Fp

def nz : List Int → Nat
  | [] => 0
  | x :: r => (if x = 0 then 0 else 1) + nz r
theorem nz_le : ∀ l : List Int, nz l ≤ l.length
  | [] => Nat.le_refl _
  | x :: r => by
    have := nz_le r
    simp only [nz, List.length_cons]
    split <;> omega
theorem nz_set : ∀ (l : List Int) (i : Nat) (x : Int), l[i]? = some 0 → x ≠ 0 → nz (l.set i x) = nz l + 1
  | [], i, x, h, _ => by simp at h
  | a :: r, 0, x, h, hx => by
    simp at h
    subst h
    simp only [List.set_cons_zero, nz, if_neg hx]
    simp
    omega
  | a :: r, i + 1, x, h, hx => by
    simp at h
    have := nz_set r i x h hx
    simp only [List.set_cons_succ, nz]
    omega
theorem nz_lt {l : List Int} {i : Nat} (h : l[i]? = some 0) : nz l < l.length := by
  have h1 := nz_set l i 1 h (by decide)
  have h2 := nz_le (l.set i 1)
  rw [List.length_set] at h2
  omega
theorem mem_allA {g : Gr} {p : List Int} {a : Arc} : a ∈ allA g p ↔ a ∈ g.arcs.l ∨ ∃ (n : Nat) (x : Int) (c : Sl (Sl Arc)), p[n]? = some x ∧ g.choices.l[n]? = some c ∧ a ∈ pickA (x, c.l.map (·.l)) := by
  unfold allA
  rw [List.mem_append, List.mem_flatMap]
  constructor
  · rintro (h | ⟨pc, hpc, h⟩)
    · exact .inl h
    · obtain ⟨n, hn⟩ := List.mem_iff_getElem?.1 hpc
      rw [List.getElem?_zip_eq_some] at hn
      obtain ⟨h1, h2⟩ := hn
      unfold chA at h2
      rw [List.getElem?_map] at h2
      cases hc : g.choices.l[n]? with
      | none => rw [hc] at h2; cases h2
      | some c =>
        rw [hc] at h2
        simp only [Option.map_some, Option.some.injEq] at h2
        refine .inr ⟨n, pc.1, c, h1, hc, ?_⟩
        rw [h2]
        exact h
  · rintro (h | ⟨n, x, c, h1, h2, h3⟩)
    · exact .inl h
    · refine .inr ⟨(x, c.l.map (·.l)), List.mem_of_getElem? (zip_get h1 (by unfold chA; rw [List.getElem?_map, h2]; rfl)), h3⟩
theorem pickA_zero {c : List (List Arc)} : pickA (0, c) = [] := pickA_neg (by omega)
theorem allA_set {g : Gr} {p : List Int} {i k : Nat} {c : Sl (Sl Arc)} {y : Sl Arc} (hi : p[i]? = some 0) (hc : g.choices.l[i]? = some c) (hk : c.l[k]? = some y) (a : Arc) : a ∈ allA g (p.set i ((k : Int) + 1)) ↔ a ∈ allA g p ∨ a ∈ y.l := by
  have hil := lt_of_get hi
  have hy : pickA ((k : Int) + 1, c.l.map (·.l)) = y.l := pickA_pos (j := k) (by omega) hk
  rw [mem_allA, mem_allA]
  constructor
  · rintro (h | ⟨n, x, d, h1, h2, h3⟩)
    · exact .inl (.inl h)
    · by_cases hn : n = i
      · subst hn
        rw [List.getElem?_set_self hil] at h1
        simp only [Option.some.injEq] at h1
        subst h1
        rw [hc] at h2
        injection h2 with h2
        subst h2
        rw [hy] at h3
        exact .inr h3
      · rw [List.getElem?_set_ne (by omega)] at h1
        exact .inl (.inr ⟨n, x, d, h1, h2, h3⟩)
  · rintro ((h | ⟨n, x, d, h1, h2, h3⟩) | h)
    · exact .inl h
    · by_cases hn : n = i
      · subst hn
        rw [hi] at h1
        injection h1 with h1
        subst h1
        rw [pickA_zero] at h3
        cases h3
      · exact .inr ⟨n, x, d, by rw [List.getElem?_set_ne (by omega)]; exact h1, h2, h3⟩
    · exact .inr ⟨i, _, c, List.getElem?_set_self hil, hc, by rw [hy]; exact h⟩
/-- A solver that has just what a pick picks. -/
def PS (g : Gr) (p : List Int) (s : Sv) : Prop := ∃ D : List Arc, (∀ a, a ∈ D ↔ a ∈ allA g p) ∧ D.length ≤ 250 + 4 * nz p ∧ SolI g.ready.l.length D g.ready.l g.last.l s ∧ SolX g.ready.l.length D g.ready.l s ∧ SvV g.ready.l.length s
theorem PS.sat {g : Gr} {p : List Int} {s : Sv} (h : PS g p s) : ∀ a ∈ allA g p, Sat s.T a := fun a ha => by
  obtain ⟨D, h1, _, h3, _⟩ := h
  exact h3.sat a ((h1 a).2 ha)
theorem PS.least {g : Gr} {p : List Int} {s : Sv} (h : PS g p s) {U : List Int} (hU : ∀ a ∈ allA g p, Sat U a) (hr : ∀ i : Int, 0 ≤ i → i < g.ready.l.length → gt g.ready.l i ≤ gt U i) : ∀ i : Int, 0 ≤ i → i < g.ready.l.length → gt s.T i ≤ gt U i := by
  obtain ⟨D, h1, _, h3, _⟩ := h
  exact h3.least U (fun a ha => hU a ((h1 a).1 ha)) hr
theorem PS.ge {g : Gr} {p : List Int} {s : Sv} (h : PS g p s) : ∀ i : Int, 0 ≤ i → i < g.ready.l.length → gt g.ready.l i ≤ gt s.T i := by
  obtain ⟨D, _, _, h3, _⟩ := h
  exact h3.ge
theorem PS.v {g : Gr} {p : List Int} {s : Sv} (h : PS g p s) : SvV g.ready.l.length s := by
  obtain ⟨D, _, _, _, _, h5⟩ := h
  exact h5
theorem PS.fe {g : Gr} {p : List Int} {s : Sv} (hV : GraphV g) (h : PS g p s) {D' : List Arc} (hs : ∀ a ∈ D', a ∈ allA g p) : Fe g.ready.l.length D' g.ready.l g.last.l s.T := by
  obtain ⟨D, h1, _, h3, _⟩ := h
  exact ⟨fun a ha => h3.sat a ((h1 a).2 (hs a ha)), h3.ge, h3.okL, ready_le hV, hV.nr⟩
def Agree (p F : List Int) : Prop := p.length = F.length ∧ ∀ (k : Nat) (x y : Int), p[k]? = some x → F[k]? = some y → x = 0 ∨ x = y
theorem Agree.sub {g : Gr} {p F : List Int} (h : Agree p F) : ∀ a ∈ allA g p, a ∈ allA g F := fun a ha => by
  rw [mem_allA] at ha ⊢
  rcases ha with ha | ⟨n, x, c, h1, h2, h3⟩
  · exact .inl ha
  · obtain ⟨y, hy⟩ := ex_get (l := F) (k := n) (by rw [← h.1]; exact lt_of_get h1)
    rcases h.2 n x y h1 hy with h4 | h4
    · subst h4
      rw [pickA_zero] at h3
      cases h3
    · subst h4
      exact .inr ⟨n, x, c, hy, h2, h3⟩
theorem Agree.set {p F : List Int} {i : Nat} {x : Int} (h : Agree p F) (hx : F[i]? = some x) : Agree (p.set i x) F := by
  refine ⟨by rw [List.length_set]; exact h.1, fun k a b ha hb => ?_⟩
  by_cases hk : k = i
  · subst hk
    have hl : k < p.length := by rw [h.1]; exact lt_of_get hx
    rw [List.getElem?_set_self hl] at ha
    rw [hx] at hb
    injection ha with ha
    injection hb with hb
    right
    rw [← ha, hb]
  · rw [List.getElem?_set_ne (by omega)] at ha
    exact h.2 k a b ha hb
theorem PS.step {g : Gr} {p : List Int} {s s' : Sv} {i k : Nat} {c : Sl (Sl Arc)} {y : Sl Arc} (hV : GraphV g) (h : PS g p s) (hp : p.length = g.choices.l.length) (hi : p[i]? = some 0) (hc : g.choices.l[i]? = some c) (hk : c.l[k]? = some y) (hw : withF g.last.l s y.l = some s') : PS g (p.set i ((k : Int) + 1)) s' := by
  obtain ⟨D, h1, h2, h3, h4, h5⟩ := h
  have hy := (hV.choicesv c (mem_of_get hc)).2 y (mem_of_get hk)
  have hy4 := hy.1
  have hn := nz_lt hi
  have hnc := hV.nc
  refine ⟨D ++ y.l, fun a => ?_, ?_, withF_sol hV.nr h3 h5 hV.nl hy.2 hw, withF_x hV h3 h4 h5 hy.2 (by omega) (by omega) hw, withF_v h5 hy.2 hV.nl hw⟩
  · rw [List.mem_append, h1 a, allA_set hi hc hk]
  · rw [List.length_append, nz_set p i _ hi (by omega)]
    omega
theorem PS.can {g : Gr} {p F : List Int} {s sF : Sv} {i k : Nat} {c : Sl (Sl Arc)} {y : Sl Arc} (hV : GraphV g) (h : PS g p s) (hp : p.length = g.choices.l.length) (hi : p[i]? = some 0) (hc : g.choices.l[i]? = some c) (hk : c.l[k]? = some y) (hF : PS g F sF) (hag : Agree p F) (hFi : F[i]? = some ((k : Int) + 1)) : ∃ s', withF g.last.l s y.l = some s' := by
  obtain ⟨D, h1, h2, h3, h4, h5⟩ := h
  have hy := (hV.choicesv c (mem_of_get hc)).2 y (mem_of_get hk)
  have hy4 := hy.1
  have hn := nz_lt hi
  have hnc := hV.nc
  have hfe : Fe g.ready.l.length (D ++ y.l) g.ready.l g.last.l sF.T := hF.fe hV (fun a ha => by
    refine (hag.set hFi).sub a ((allA_set hi hc hk a).2 ?_)
    rcases List.mem_append.1 ha with ha | ha
    · exact .inl ((h1 a).1 ha)
    · exact .inr ha)
  obtain ⟨s', e, _⟩ := withF_good hfe h3 h4 h5 hV.nl hy.2 (by omega) (by omega)
  exact ⟨s', e⟩
theorem pstep_none (last : List Int) : ∀ l : List (Int × List (List Arc)), l.foldl (pstep last) none = none
  | [] => rfl
  | _ :: r => pstep_none last r
theorem pick_x {g : Gr} (hV : GraphV g) : ∀ (l : List (Int × List (List Arc))) (D : List Arc) (s0 s : Sv), (∀ pc ∈ l, (∀ a ∈ pickA pc, ArcV g.ready.l.length a) ∧ (pickA pc).length ≤ 4) → D.length + 4 * l.length ≤ 1450 → SolI g.ready.l.length D g.ready.l g.last.l s0 → SolX g.ready.l.length D g.ready.l s0 → SvV g.ready.l.length s0 → l.foldl (pstep g.last.l) (some s0) = some s → SolX g.ready.l.length (D ++ l.flatMap pickA) g.ready.l s := by
  intro l
  induction l with
  | nil =>
    intro D s0 s _ _ _ hx _ h
    simp only [List.foldl_nil, Option.some.injEq] at h
    subst h
    simpa using hx
  | cons pc r ih =>
    intro D s0 s hl hn hs hx hv h
    have hpc := hl pc (by simp)
    simp only [List.length_cons] at hn
    rw [List.foldl_cons] at h
    by_cases hp : 0 < pc.1
    · have hpa : pickA pc = pc.2.getD (pc.1 - 1).toNat [] := by unfold pickA; rw [if_pos hp]
      have hst : pstep g.last.l (some s0) pc = withF g.last.l s0 (pickA pc) := by
        simp only [pstep]
        rw [if_pos hp, hpa]
      rw [hst] at h
      cases hw : withF g.last.l s0 (pickA pc) with
      | none => rw [hw, pstep_none] at h; cases h
      | some s1 =>
        rw [hw] at h
        have := ih (D ++ pickA pc) s1 s (fun x hx => hl x (by simp [hx])) (by rw [List.length_append]; omega) (withF_sol hV.nr hs hv hV.nl hpc.1 hw) (withF_x hV hs hx hv hpc.1 (by omega) (by omega) hw) (withF_v hv hpc.1 hV.nl hw) h
        simpa [List.flatMap_cons] using this
    · have hpa : pickA pc = [] := by unfold pickA; rw [if_neg hp]
      have hst : pstep g.last.l (some s0) pc = some s0 := by
        simp only [pstep]
        rw [if_neg hp]
      rw [hst] at h
      have := ih D s0 s (fun x hx => hl x (by simp [hx])) (by omega) hs hx hv h
      simpa [List.flatMap_cons, hpa] using this
theorem pick_can {g : Gr} {U : List Int} (hV : GraphV g) : ∀ (l : List (Int × List (List Arc))) (D : List Arc) (s0 : Sv), (∀ pc ∈ l, (∀ a ∈ pickA pc, ArcV g.ready.l.length a) ∧ (pickA pc).length ≤ 4) → D.length + 4 * l.length ≤ 1450 → SolI g.ready.l.length D g.ready.l g.last.l s0 → SolX g.ready.l.length D g.ready.l s0 → SvV g.ready.l.length s0 → Fe g.ready.l.length (D ++ l.flatMap pickA) g.ready.l g.last.l U → ∃ s, l.foldl (pstep g.last.l) (some s0) = some s := by
  intro l
  induction l with
  | nil => intro D s0 _ _ _ _ _ _; exact ⟨s0, rfl⟩
  | cons pc r ih =>
    intro D s0 hl hn hs hx hv hF
    have hpc := hl pc (by simp)
    simp only [List.length_cons] at hn
    rw [List.foldl_cons]
    rw [List.flatMap_cons] at hF
    by_cases hp : 0 < pc.1
    · have hpa : pickA pc = pc.2.getD (pc.1 - 1).toNat [] := by unfold pickA; rw [if_pos hp]
      have hst : pstep g.last.l (some s0) pc = withF g.last.l s0 (pickA pc) := by
        simp only [pstep]
        rw [if_pos hp, hpa]
      obtain ⟨s1, hw, hx1⟩ := withF_good (hF.sub (fun a ha => by
        rcases List.mem_append.1 ha with ha | ha
        · exact List.mem_append_left _ ha
        · exact List.mem_append_right _ (List.mem_append_left _ ha))) hs hx hv hV.nl hpc.1 (by omega) (by omega)
      rw [hst, hw]
      exact ih (D ++ pickA pc) s1 (fun x hx => hl x (by simp [hx])) (by rw [List.length_append]; omega) (withF_sol hV.nr hs hv hV.nl hpc.1 hw) hx1 (withF_v hv hpc.1 hV.nl hw) (by rw [List.append_assoc]; exact hF)
    · have hpa : pickA pc = [] := by unfold pickA; rw [if_neg hp]
      have hst : pstep g.last.l (some s0) pc = some s0 := by
        simp only [pstep]
        rw [if_neg hp]
      rw [hst]
      rw [hpa] at hF
      exact ih D s0 (fun x hx => hl x (by simp [hx])) (by omega) hs hx hv (by simpa using hF)
theorem way_len {g : Gr} (hV : GraphV g) {p : List Int} {pc : Int × List (List Arc)} (hpc : pc ∈ p.zip (chA g)) : (pickA pc).length ≤ 4 := by
  unfold pickA
  split
  · have h1 := (List.of_mem_zip hpc).2
    unfold chA at h1
    obtain ⟨c, hc, he⟩ := List.mem_map.1 h1
    rw [List.getD_eq_getElem?_getD]
    cases hl : pc.2[(pc.1 - 1).toNat]? with
    | none => simp
    | some l =>
      have h2 := List.mem_of_getElem? hl
      rw [← he] at h2
      obtain ⟨y, hy, hye⟩ := List.mem_map.1 h2
      have h3 := ((hV.choicesv c hc).2 y hy).1
      subst hye
      exact h3
  · simp
theorem flat_nz : ∀ (p : List Int) (cs : List (List (List Arc))), (∀ pc ∈ p.zip cs, (pickA pc).length ≤ 4) → ((p.zip cs).flatMap pickA).length ≤ 4 * nz p
  | [], _, _ => by simp [nz]
  | _ :: _, [], _ => by simp
  | x :: p, c :: cs, h => by
    have h1 := flat_nz p cs (fun pc hpc => h pc (by simp [hpc]))
    have h2 := h (x, c) (by simp)
    simp only [List.zip_cons_cons, List.flatMap_cons, List.length_append, nz]
    by_cases hx : x = 0
    · subst hx
      rw [pickA_zero, if_pos rfl, List.length_nil]
      omega
    · rw [if_neg hx]
      omega
theorem zip_len {g : Gr} (hV : GraphV g) (p : List Int) : (p.zip (chA g)).length ≤ 300 := by
  have := hV.nc
  rw [List.length_zip]
  have : (chA g).length = g.choices.l.length := by simp [chA]
  omega
theorem pickF_ps {g : Gr} {p : List Int} {s : Sv} (hV : GraphV g) (h : pickF g p = some s) : PS g p s := by
  obtain ⟨h1, h2⟩ := pickF_sol hV h
  have hna := hV.na
  have hz := zip_len hV p
  refine ⟨allA g p, fun a => Iff.rfl, ?_, h1, ?_, h2⟩
  · have := flat_nz p (chA g) (fun pc hpc => way_len hV hpc)
    unfold allA
    rw [List.length_append]
    omega
  · unfold pickF at h
    have hfe := h1.fe (ready_le hV) hV.nr
    obtain ⟨s0, e0, x0⟩ := start_good hV (hfe.sub (fun a ha => List.mem_append_left _ ha))
    rw [e0] at h
    exact pick_x hV _ g.arcs.l s0 s (fun pc hpc => ⟨wayv hV hpc, way_len hV hpc⟩) (by omega) (start_sol hV e0) x0 (start_sv hV e0) h
theorem pickF_can {g : Gr} {p F : List Int} {sF : Sv} (hV : GraphV g) (hF : PS g F sF) (hag : Agree p F) : ∃ s, pickF g p = some s := by
  have hna := hV.na
  have hz := zip_len hV p
  have hfe : Fe g.ready.l.length (allA g p) g.ready.l g.last.l sF.T := hF.fe hV (fun a ha => hag.sub a ha)
  obtain ⟨s0, e0, x0⟩ := start_good hV (hfe.sub (fun a ha => List.mem_append_left _ ha))
  unfold pickF
  rw [e0]
  exact pick_can hV _ g.arcs.l s0 (fun pc hpc => ⟨wayv hV hpc, way_len hV hpc⟩) (by omega) (start_sol hV e0) x0 (start_sv hV e0) hfe
/-- What seconds are above Due, in sum. -/
def dl : List Int → List Int → Int
  | d :: r, t :: u => (if 0 ≤ d then max 0 (t - d) else 0) + dl r u
  | _, _ => 0
theorem dl_mono : ∀ (d t u : List Int), t.length = u.length → (∀ (k : Nat) (x y : Int), t[k]? = some x → u[k]? = some y → x ≤ y) → dl d t ≤ dl d u
  | [], _, _, _, _ => by simp [dl]
  | _ :: _, [], [], _, _ => by simp [dl]
  | _ :: _, [], _ :: _, h, _ => by simp at h
  | _ :: _, _ :: _, [], h, _ => by simp at h
  | d :: r, x :: t, y :: u, h, hk => by
    have h1 := dl_mono r t u (by simpa using h) (fun k a b ha hb => hk (k + 1) a b (by simpa using ha) (by simpa using hb))
    have h2 := hk 0 x y rfl rfl
    simp only [dl]
    split <;> omega
theorem PS.dl_le {g : Gr} {p F : List Int} {s sF : Sv} (h : PS g p s) (hF : PS g F sF) (hag : Agree p F) : dl g.due.l s.T ≤ dl g.due.l sF.T := by
  have hl := h.least (U := sF.T) (fun a ha => hF.sat a (hag.sub a ha)) hF.ge
  refine dl_mono _ _ _ (by rw [h.v.1, hF.v.1]) (fun k x y hx hy => ?_)
  have hk := lt_of_get hx
  rw [h.v.1] at hk
  have := hl (k : Int) (by omega) (by omega)
  rw [gt_get hx, gt_get hy] at this
  exact this


end Go.Proofs.Ytakehdnblmonlaa
