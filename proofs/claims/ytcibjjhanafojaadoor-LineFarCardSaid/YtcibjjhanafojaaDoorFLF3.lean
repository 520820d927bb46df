/- Plain: metres between stations, the same both ways. -/
import Derived.Test.YtcibjjhanafojaaDoorFLF2
set_option linter.unusedVariables false
set_option linter.unusedSimpArgs false
namespace Go.Proofs.YtcibjjhanafojaaDoor
open Go.RowKit Go.Fp

/-- A way backwards. -/
theorem way_back {n : ApiNet} (hN : NetOk n) {S : List Int} {y : LineEnd} {c : Int} (h : Way n S y c) : ∃ p, joinL n.Links y = some p ∧ ∀ T d, Way n T p d → ∃ y', Way n T y' (d + c) ∧ y'.section_ ∈ S := by
  induction h with
  | first hs hi hj =>
    refine ⟨_, join_back hN.apart hj, fun T d hd => ⟨_, by rw [Int.add_zero]; exact hd, hs⟩⟩
  | @more x y c o hx ho hj ih =>
    obtain ⟨p, hp, ih⟩ := ih
    have hH := (way_pos hN hx).2
    refine ⟨_, join_back hN.apart hj, fun T d hd => ?_⟩
    have hin := outs_in hH.2 ho
    have hw : Way n T p (d + (sec n x.section_).Length) := Way.more (x := ⟨x.section_, o⟩) hd (outs_sym hH.2 hin ho) hp
    obtain ⟨y', h1, h2⟩ := ih T _ hw
    exact ⟨y', by rw [show d + (c + (sec n x.section_).Length) = d + (sec n x.section_).Length + c by omega]; exact h1, h2⟩
/-- The station of an end's section. -/
def st (n : ApiNet) (e : LineEnd) : Int := (sec n e.section_).Station
/-- The sections of a station. -/
def Plat (n : ApiNet) (i : Int) (S : List Int) : Prop := ∀ s, s ∈ S ↔ (0 ≤ s ∧ s < (n.Sections.length : Int)) ∧ (sec n s).Station = i + 1
theorem sec_mem {n : ApiNet} {s : Int} (h : 0 ≤ s ∧ s < (n.Sections.length : Int)) : sec n s ∈ n.Sections := by
  have hsec : n.Sections[s.toNat]? = some (sec n s) := by
    unfold sec
    rw [List.getElem?_eq_getElem (by omega)]
    rfl
  exact List.mem_of_getElem? hsec
theorem way_sym {n : ApiNet} (hN : NetOk n) {S T : List Int} {i k : Int} (hS : Plat n i S) (hT : Plat n k T) (hk : 0 ≤ k) {y : LineEnd} {c : Int} (h : Way n S y c) (hy : st n y = k + 1) : ∃ y', Way n T y' c ∧ st n y' = i + 1 := by
  obtain ⟨p, hp, hb⟩ := way_back hN h
  have hH := (way_pos hN h).2
  have hst := hN.stat _ (sec_mem hH.1)
  have hyt : y.section_ ∈ T := (hT _).2 ⟨hH.1, hy⟩
  have hkind : (sec n y.section_).Kind = 1 := by
    rcases hst with h0 | h0
    · unfold st at hy; omega
    · exact h0.1
  have he : y.end_ = 0 ∨ y.end_ = 1 := by
    have h1 := hH.2
    rw [hkind] at h1
    rcases kind3 h1 with ⟨_, h⟩ | ⟨h, _⟩ | ⟨h, _⟩
    · exact h
    · exact absurd h (by decide)
    · exact absurd h (by decide)
  obtain ⟨y', h1, h2⟩ := hb T 0 (.first hyt he hp)
  rw [Int.zero_add] at h1
  exact ⟨y', h1, ((hS _).1 h2).2⟩
/-- The least number of metres from a station to another one, or -1. -/
def Dist (n : ApiNet) (S : List Int) (k v : Int) : Prop := (v = -1 ∧ ∀ y c, Way n S y c → st n y ≠ k + 1) ∨ ∃ y, Way n S y v ∧ st n y = k + 1 ∧ ∀ y' c', Way n S y' c' → st n y' = k + 1 → v ≤ c'
theorem dist_sym {n : ApiNet} (hN : NetOk n) {S T : List Int} {i k v u : Int} (hS : Plat n i S) (hT : Plat n k T) (hi : 0 ≤ i) (hk : 0 ≤ k) (h : Dist n S k v) (g : Dist n T i u) : v = u := by
  rcases h with ⟨rfl, h⟩ | ⟨y, h1, h2, h3⟩
  · rcases g with ⟨rfl, g⟩ | ⟨z, g1, g2, g3⟩
    · rfl
    · obtain ⟨y', e1, e2⟩ := way_sym hN hT hS hi g1 g2
      exact absurd e2 (h y' u e1)
  · obtain ⟨z', e1, e2⟩ := way_sym hN hS hT hk h1 h2
    rcases g with ⟨rfl, g⟩ | ⟨z, g1, g2, g3⟩
    · exact absurd e2 (g z' v e1)
    · obtain ⟨y', e3, e4⟩ := way_sym hN hT hS hi g1 g2
      have := h3 y' u e3 e4
      have := g3 z' v e1 e2
      omega
theorem platforms_spec {n : ApiNet} (hN : NetOk n) {i : Nat} (hi : i < 100) : ∃ S, mLinePlatforms n (i : Int) = some S ∧ S.length ≤ 60 ∧ Plat n (i : Int) S := by
  have h60 := hN.n60
  unfold mLinePlatforms
  obtain ⟨S, h1, h2, h3⟩ := forS_inv (body := mLinePlatforms_L103 n (i : Int)) (fun k S => S.length ≤ k ∧ ∀ s, s ∈ S ↔ (0 ≤ s ∧ s < (k : Int)) ∧ (sec n s).Station = (i : Int) + 1) n.Sections.length 0 [] ⟨Nat.le_refl _, fun s => ⟨fun h => (List.not_mem_nil h).elim, fun h => by omega⟩⟩ (fun k S _ hk hS => by
    obtain ⟨h1, h2⟩ := hS
    have hk : k < n.Sections.length := by omega
    have hsec : n.Sections[k] = sec n (k : Int) := by
      unfold sec
      rw [Int.toNat_natCast, List.getElem?_eq_getElem hk]
      rfl
    unfold mLinePlatforms_L103
    rw [idx_lt hk, Option.bind_some, chk_ok (by omega) (by omega), Option.bind_some, hsec]
    by_cases c : (sec n (k : Int)).Station = (i : Int) + 1
    · rw [if_pos c, room_ok (by omega) (by omega), Option.bind_some]
      refine ⟨_, rfl, by simp; omega, fun s => ?_⟩
      rw [List.mem_append, h2 s, List.mem_singleton]
      constructor
      · rintro (⟨h, h'⟩ | rfl)
        · exact ⟨⟨h.1, by omega⟩, h'⟩
        · exact ⟨⟨by omega, by omega⟩, c⟩
      · rintro ⟨h, h'⟩
        by_cases e : s = (k : Int)
        · exact .inr e
        · exact .inl ⟨⟨h.1, by omega⟩, h'⟩
    · rw [if_neg c]
      refine ⟨_, rfl, by omega, fun s => ?_⟩
      rw [h2 s]
      constructor
      · rintro ⟨h, h'⟩
        exact ⟨⟨h.1, by omega⟩, h'⟩
      · rintro ⟨h, h'⟩
        refine ⟨⟨h.1, ?_⟩, h'⟩
        by_cases e : s = (k : Int)
        · subst e; exact absurd h' c
        · omega)
  rw [h1, Option.bind_some]
  exact ⟨S, rfl, by omega, fun s => by rw [h3 s, Nat.zero_add]⟩
theorem mget_mem : ∀ {m : Tab} {y : LineEnd} {c : Int}, (m.map (·.1)).Nodup → ((y, c) ∈ m ↔ mget m y = some c)
  | [], y, c, _ => ⟨fun h => (List.not_mem_nil h).elim, fun h => by cases h⟩
  | (a, b) :: m, y, c, h => by
    have h' := List.nodup_cons.1 h
    have ih := mget_mem (m := m) (y := y) (c := c) h'.2
    unfold mget
    rw [List.mem_cons]
    by_cases e : a = y
    · subst e
      rw [if_pos rfl]
      constructor
      · rintro (h1 | h1)
        · injection h1 with _ h1; rw [h1]
        · exact absurd (List.mem_map.2 ⟨_, h1, rfl⟩) h'.1
      · intro h1
        exact .inl (by rw [Option.some.inj h1])
    · rw [if_neg e, ← ih]
      exact ⟨fun h1 => h1.resolve_left (fun h2 => e (by injection h2 with h2 _; exact h2.symm)), .inr⟩
/-- What stands in a row for station k behind some entries. -/
def Cell (n : ApiNet) (d : Tab) (k v : Int) : Prop := (v = -1 ∧ ∀ x ∈ d, st n x.1 ≠ k + 1) ∨ ∃ x ∈ d, st n x.1 = k + 1 ∧ v = x.2 ∧ ∀ x' ∈ d, st n x'.1 = k + 1 → x.2 ≤ x'.2
theorem cell_one {n : ApiNet} {d d' : Tab} (hd : ∀ x, x ∈ d ↔ x ∈ d') {k v u : Int} (h : Cell n d k v) (g : Cell n d' k u) : v = u := by
  rcases h with ⟨rfl, h⟩ | ⟨x, h1, h2, rfl, h4⟩
  · rcases g with ⟨rfl, g⟩ | ⟨z, g1, g2, rfl, g4⟩
    · rfl
    · exact absurd g2 (h z ((hd z).2 g1))
  · rcases g with ⟨rfl, g⟩ | ⟨z, g1, g2, rfl, g4⟩
    · exact absurd h2 (g x ((hd x).1 h1))
    · have := h4 z ((hd z).2 g1) g2
      have := g4 x ((hd x).1 h1) h2
      omega
theorem forL_pre {α σ τ : Type} {body : α → σ → Option (σ ⊕ τ)} (I : List α → σ → Prop) : ∀ (r d : List α) (s : σ), I d s → (∀ d x r' s, d ++ x :: r' = d ++ x :: r' → x ∈ r ∨ True → I d s → x ∈ r → ∃ s', body x s = some (.inl s') ∧ I (d ++ [x]) s') → ∃ s', forL body r s = some (.inl s') ∧ I (d ++ r) s'
  | [], d, s, h, _ => ⟨s, rfl, by simpa using h⟩
  | x :: r, d, s, h, hb => by
    obtain ⟨s', h1, h2⟩ := hb d x r s rfl (.inr trivial) h (List.mem_cons_self ..)
    obtain ⟨s'', h3, h4⟩ := forL_pre I r (d ++ [x]) s' h2 (fun d y r' s _ _ hi hy => hb d y r' s rfl (.inr trivial) hi (List.mem_cons_of_mem _ hy))
    refine ⟨s'', ?_, by simpa using h4⟩
    unfold forL
    rw [h1]
    exact h3
/-- The entries of a table, in any order, make one row. -/
theorem row_spec {n : ApiNet} (hN : NetOk n) {i : Nat} {out : List (List Int)} (hi : i < out.length) {m : Tab} (hm : ∀ x ∈ m, Has n x.1 ∧ 0 ≤ x.2) :
    ∃ row, ordM (fun p => forL (mLineApart_L8511 n i) p (out.set i (List.replicate n.Stations.length (-1)))) m = some (.inl (out.set i row)) ∧ row.length = n.Stations.length ∧ ∀ k (h : k < row.length), Cell n m (k : Int) row[k] := by
  have one : ∀ p : Tab, p.Perm m → ∃ row, forL (mLineApart_L8511 n i) p (out.set i (List.replicate n.Stations.length (-1))) = some (.inl (out.set i row)) ∧ row.length = n.Stations.length ∧ ∀ k (h : k < row.length), Cell n p (k : Int) row[k] := by
    intro p hp
    obtain ⟨s, h1, _, row, rfl, h2, h3⟩ := forL_pre (body := mLineApart_L8511 n i) (fun d s => (∀ z ∈ d, 0 ≤ z.2) ∧ ∃ row, s = out.set i row ∧ row.length = n.Stations.length ∧ ∀ k (h : k < row.length), Cell n d (k : Int) row[k]) p [] (out.set i (List.replicate n.Stations.length (-1)))
      ⟨fun z hz => (List.not_mem_nil hz).elim, _, rfl, by simp, fun k h => .inl ⟨by simp, fun x hx => (List.not_mem_nil hx).elim⟩⟩ (fun d x r' s _ _ hs hx => by
        obtain ⟨hneg, row, rfl, hl, hc⟩ := hs
        obtain ⟨hH, h0⟩ := hm x (hp.mem_iff.1 hx)
        have hneg2 : ∀ z ∈ d ++ [x], 0 ≤ z.2 := fun z hz => by
          rcases List.mem_append.1 hz with hz | hz
          · exact hneg z hz
          · rw [List.mem_singleton.1 hz]; exact h0
        have hst := hN.stat _ (sec_mem hH.1)
        have h12 := hN.s12
        have hout : idx (out.set i row) (i : Int) = some row := by
          rw [idx_lt (by rw [List.length_set]; exact hi), List.getElem_set_self]
        have hb : 0 ≤ st n x.1 ∧ st n x.1 ≤ (n.Stations.length : Int) := by
          unfold st
          rcases hst with h | h <;> omega
        unfold mLineApart_L8511
        rw [idx_sec hH.1, Option.bind_some, show (sec n x.1.section_).Station = st n x.1 from rfl, chk_ok (by omega) (by omega), Option.bind_some]
        by_cases c0 : 0 ≤ st n x.1 - 1
        · obtain ⟨k, hk⟩ : ∃ k : Nat, st n x.1 - 1 = (k : Int) := ⟨(st n x.1 - 1).toNat, by omega⟩
          have hkl : k < row.length := by omega
          rw [if_pos c0, hout, Option.bind_some, hk, idx_lt hkl, Option.bind_some]
          -- it is better, or it is not
          have hcell := hc k hkl
          have hxk : st n x.1 = (k : Int) + 1 := by omega
          have turn : (∀ z ∈ d, st n z.1 = (k : Int) + 1 → x.2 ≤ z.2) → ∃ s', ((some true).bind (fun x9073 => if x9073 = true then (some row).bind fun x9150 => (idx x9150 (k : Int)).bind fun _ => some (.inl (put (out.set i row) (i : Int) (put x9150 (k : Int) x.2))) else some (.inl (out.set i row))) : Option (List (List Int) ⊕ List (List Int))) = some (.inl s') ∧ (∀ z ∈ d ++ [x], 0 ≤ z.2) ∧ ∃ row', s' = out.set i row' ∧ row'.length = n.Stations.length ∧ ∀ k (h : k < row'.length), Cell n (d ++ [x]) (k : Int) row'[k] := fun hle => by
            rw [Option.bind_some, if_pos rfl, Option.bind_some, idx_lt hkl, Option.bind_some]
            refine ⟨_, rfl, hneg2, row.set k x.2, by rw [put_nat, put_nat, List.set_set], by rw [List.length_set]; exact hl, fun j hj => ?_⟩
            rw [List.length_set] at hj
            by_cases ej : j = k
            · subst ej
              rw [List.getElem_set_self]
              refine .inr ⟨x, by simp, hxk, rfl, fun z hz hzk => ?_⟩
              rcases List.mem_append.1 hz with hz | hz
              · exact hle z hz hzk
              · rw [List.mem_singleton.1 hz]; exact Int.le_refl _
            · rw [List.getElem_set_ne (Ne.symm ej)]
              have hxj : st n x.1 ≠ (j : Int) + 1 := by omega
              rcases hc j hj with ⟨e1, e2⟩ | ⟨z, e1, e2, e3, e4⟩
              · refine .inl ⟨e1, fun z hz => ?_⟩
                rcases List.mem_append.1 hz with hz | hz
                · exact e2 z hz
                · rw [List.mem_singleton.1 hz]; exact hxj
              · refine .inr ⟨z, List.mem_append_left _ e1, e2, e3, fun z' hz' hk' => ?_⟩
                rcases List.mem_append.1 hz' with hz' | hz'
                · exact e4 z' hz' hk'
                · rw [List.mem_singleton.1 hz'] at hk'
                  exact absurd hk' hxj
          have keep : (∃ z ∈ d, st n z.1 = (k : Int) + 1 ∧ row[k] = z.2 ∧ (∀ z' ∈ d, st n z'.1 = (k : Int) + 1 → z.2 ≤ z'.2) ∧ z.2 ≤ x.2) → ∀ j (hj : j < row.length), Cell n (d ++ [x]) (j : Int) row[j] := fun ⟨z, z1, z2, z3, z4, z5⟩ j hj => by
            by_cases ej : j = k
            · subst ej
              refine .inr ⟨z, List.mem_append_left _ z1, z2, z3, fun z' hz' hk' => ?_⟩
              rcases List.mem_append.1 hz' with hz' | hz'
              · exact z4 z' hz' hk'
              · rw [List.mem_singleton.1 hz']; exact z5
            · have hxj : st n x.1 ≠ (j : Int) + 1 := by omega
              rcases hc j hj with ⟨e1, e2⟩ | ⟨z, e1, e2, e3, e4⟩
              · refine .inl ⟨e1, fun z hz => ?_⟩
                rcases List.mem_append.1 hz with hz | hz
                · exact e2 z hz
                · rw [List.mem_singleton.1 hz]; exact hxj
              · refine .inr ⟨z, List.mem_append_left _ e1, e2, e3, fun z' hz' hk' => ?_⟩
                rcases List.mem_append.1 hz' with hz' | hz'
                · exact e4 z' hz' hk'
                · rw [List.mem_singleton.1 hz'] at hk'
                  exact absurd hk' hxj
          by_cases c1 : row[k] < 0
          · rw [if_pos c1]
            refine turn (fun z hz hzk => ?_)
            rcases hcell with ⟨_, e2⟩ | ⟨z', e1, _, e3, _⟩
            · exact absurd hzk (e2 z hz)
            · have := hneg z' e1
              omega
          · rw [if_neg c1, Option.bind_some, idx_lt hkl, Option.bind_some]
            rcases hcell with ⟨e1, _⟩ | ⟨z, z1, z2, z3, z4⟩
            · omega
            · by_cases c2 : x.2 < row[k]
              · rw [decide_eq_true c2]
                exact turn (fun z' hz' hk' => by have := z4 z' hz' hk'; omega)
              · rw [decide_eq_false c2, Option.bind_some, if_neg (by decide)]
                exact ⟨_, rfl, hneg2, row, rfl, hl, keep ⟨z, z1, z2, z3, z4, by omega⟩⟩
        · rw [if_neg c0, Option.bind_some, if_neg (by decide)]
          refine ⟨_, rfl, hneg2, row, rfl, hl, fun j hj => ?_⟩
          have hxj : st n x.1 ≠ (j : Int) + 1 := by omega
          rcases hc j hj with ⟨e1, e2⟩ | ⟨z, e1, e2, e3, e4⟩
          · refine .inl ⟨e1, fun z hz => ?_⟩
            rcases List.mem_append.1 hz with hz | hz
            · exact e2 z hz
            · rw [List.mem_singleton.1 hz]; exact hxj
          · refine .inr ⟨z, List.mem_append_left _ e1, e2, e3, fun z' hz' hk' => ?_⟩
            rcases List.mem_append.1 hz' with hz' | hz'
            · exact e4 z' hz' hk'
            · rw [List.mem_singleton.1 hz'] at hk'
              exact absurd hk' hxj)
    exact ⟨row, h1, h2, by simpa using h3⟩
  obtain ⟨row, h1, h2, h3⟩ := one m (.refl _)
  refine ⟨row, ordM_of fun p hp => ?_, h2, h3⟩
  obtain ⟨row', g1, g2, g3⟩ := one p hp
  have : row' = row := List.ext_getElem (by omega) fun k k1 k2 => cell_one (fun x => hp.mem_iff) (g3 k k1) (h3 k k2)
  rw [g1, this]
end Go.Proofs.YtcibjjhanafojaaDoor
