/- Plain: fare.Pack. -/
import Derived.Test.YtnlnohallnfbmaaGreatDoorQH4
set_option linter.unusedVariables false
set_option linter.unusedSimpArgs false
namespace Go.Proofs.YtnlnohallnfbmaaGreatDoor
open Go.RowKit Go.Fp

theorem find_spec {l : List FareSpan} {i : Nat} (hi : i < l.length) (U : List Int) : ∃ r, mSlicesIndexFunc_4 l (i : Int) U = some r ∧
    ((∃ (s0 : Nat) (w : Int), r = (s0 : Int) ∧ s0 < U.length ∧ U[s0]? = some w ∧ w ≤ frOf l i ∧ ∀ (s : Nat) (v : Int), s < s0 → U[s]? = some v → frOf l i < v) ∨ (r = -1 ∧ ∀ (s : Nat) (v : Int), s < U.length → U[s]? = some v → frOf l i < v)) := by
  have hx : l[i]? = some l[i] := List.getElem?_eq_getElem hi
  have hfr : frOf l i = l[i].From := by
    unfold frOf
    rw [hx]
  unfold mSlicesIndexFunc_4
  rcases forM_inv (body := mSlicesIndexFunc_4_L67 l U (i : Int)) (fun k _ => ∀ (s : Nat) (v : Int), s < k → U[s]? = some v → frOf l i < v)
    (fun r => ∃ (s0 : Nat) (w : Int), r = (s0 : Int) ∧ s0 < U.length ∧ U[s0]? = some w ∧ w ≤ frOf l i ∧ ∀ (s : Nat) (v : Int), s < s0 → U[s]? = some v → frOf l i < v) U.length 0 () (fun s v h => absurd h (Nat.not_lt_zero s)) (fun k _ _ hk hI => by
      have hk : k < U.length := by omega
      have hu : U[k]? = some U[k] := List.getElem?_eq_getElem hk
      unfold mSlicesIndexFunc_4_L67 mFarePack_2
      rw [idx_nat hu, Option.bind_some, idx_nat hx, Option.bind_some, Option.bind_some]
      by_cases c : U[k] ≤ l[i].From
      · rw [if_pos (by simpa using c)]
        exact .inr ⟨_, rfl, k, U[k], rfl, hk, hu, by omega, hI⟩
      · rw [if_neg (by simpa using c)]
        refine .inl ⟨_, rfl, fun s v hs hv => ?_⟩
        by_cases q : s = k
        · subst q
          rw [hu] at hv
          have := Option.some.inj hv
          omega
        · exact hI s v (by omega) hv) with ⟨s, f1, f2⟩ | ⟨t, f1, f2⟩
  · rw [f1]
    exact ⟨-1, rfl, .inr ⟨rfl, fun s v hs hv => f2 s v (by omega) hv⟩⟩
  · rw [f1]
    exact ⟨t, rfl, .inl f2⟩
theorem span_spec (a b c : Int) : mFareSpan a b c = some (decide (0 ≤ a ∧ a < b ∧ b < c)) := by
  unfold mFareSpan
  by_cases h : 0 ≤ a
  · rw [if_pos h]
    by_cases h2 : a < b
    · rw [if_pos h2]
      simp [h, h2]
    · rw [if_neg h2]
      simp [h2]
  · rw [if_neg h]
    simp [h]
theorem order_spec {l : List FareSpan} {seats stops : Int} (hF : Fit l seats stops) : Go.Fp.forM (mFarePack_L567 l stops) l.length 0 (List.replicate l.length (0 : Int)) = some (.inl (iota l.length)) := by
  rcases forM_inv (body := mFarePack_L567 l stops) (fun k (o : List Int) => o.length = l.length ∧ ∀ j : Nat, j < k → o[j]? = some (j : Int)) (fun _ => False) l.length 0 (List.replicate l.length (0 : Int)) ⟨by simp, fun j h => absurd h (Nat.not_lt_zero j)⟩ (fun k o _ hk hI => by
    obtain ⟨h1, h2⟩ := hI
    have hk : k < l.length := by omega
    have hx : l[k]? = some l[k] := List.getElem?_eq_getElem hk
    unfold mFarePack_L567
    rw [idx_nat hx, Option.bind_some, span_spec, Option.bind_some, if_pos (by simpa using hF.hl _ (List.getElem_mem hk)), idx_lt (l := o) (j := k) (by omega), Option.bind_some, put_nat]
    refine .inl ⟨_, rfl, by rw [List.length_set]; exact h1, fun j hj => ?_⟩
    rw [List.getElem?_set]
    by_cases q : k = j
    · subst q
      rw [if_pos rfl, if_pos (by omega)]
    · rw [if_neg q]
      exact h2 j (by omega)) with ⟨o, f1, f2, f3⟩ | ⟨t, f1, f2⟩
  · rw [f1]
    have : o = iota l.length := by
      apply List.ext_getElem?
      intro j
      by_cases hj : j < l.length
      · rw [f3 j (by omega), iota_get hj]
      · rw [List.getElem?_eq_none (by omega), List.getElem?_eq_none (by rw [iota_len]; omega)]
    rw [this]
  · exact f2.elim
/-- What the order is. -/
structure Ords (l : List FareSpan) (O : List Int) : Prop where
  len : O.length = l.length
  val : ∀ (u x : Nat), O[u]? = some (x : Int) → x < l.length
  nd : ∀ (u v x : Nat), O[u]? = some (x : Int) → O[v]? = some (x : Int) → u = v
  srt : ∀ (u v x y : Nat), u ≤ v → O[u]? = some (x : Int) → O[v]? = some (y : Int) → frOf l x ≤ frOf l y
  get : ∀ u : Nat, u < l.length → ∃ x : Nat, O[u]? = some (x : Int)
  all : ∀ x : Nat, x < l.length → ∃ u : Nat, u < l.length ∧ O[u]? = some (x : Int)
theorem sorted_order {l : List FareSpan} (hn : l.length ≤ 200) : ∃ O, mSlicesSortStableFunc l (iota l.length) = some O ∧ Ords l O := by
  obtain ⟨O, h1, h2, h3⟩ := sort_spec (T := l) (S := iota l.length) (fun y hy => iota_mem hy) (iota_lt _) (by rw [iota_len]; omega)
  have hl : O.length = l.length := by rw [h2.length_eq, iota_len]
  have hnd : O.Nodup := (h2.nodup_iff).2 ((iota_lt l.length).imp (fun h => by omega))
  refine ⟨O, h1, hl, fun u x hx => ?_, fun u v x hu hv => ?_, fun u v x y huv hu hv => ?_, fun u hu => ?_, fun x hx => ?_⟩
  · have := iota_mem (h2.subset (List.mem_of_getElem? hx))
    omega
  · have hu' : u < O.length := (List.getElem?_eq_some_iff.1 hu).1
    exact (List.getElem?_inj hu' hnd).1 (by rw [hu, hv])
  · by_cases q : u = v
    · subst q
      rw [hu] at hv
      have := Option.some.inj hv
      have : x = y := by omega
      subst this
      exact Int.le_refl _
    · obtain ⟨hu', eu⟩ := List.getElem?_eq_some_iff.1 hu
      obtain ⟨hv', ev⟩ := List.getElem?_eq_some_iff.1 hv
      have := List.pairwise_iff_getElem.1 h3 u v hu' hv' (by omega)
      rw [eu, ev] at this
      unfold Le at this
      rwa [dep_fr, dep_fr] at this
  · have hu' : u < O.length := by omega
    have := iota_mem (h2.subset (List.getElem_mem hu'))
    exact ⟨O[u].toNat, by rw [List.getElem?_eq_getElem hu', Int.toNat_of_nonneg this.1]⟩
  · have hm : (x : Int) ∈ O := h2.symm.subset (List.mem_of_getElem? (iota_get hx))
    obtain ⟨u, hu, e⟩ := List.getElem_of_mem hm
    exact ⟨u, by omega, by rw [List.getElem?_eq_getElem hu, e]⟩
theorem pack_spec {l : List FareSpan} {seats stops : Int} (hF : Fit l seats stops) :
    (mFarePack l seats stops = some (14, []) ∧ ∃ k : Nat, (k : Int) < stops ∧ seats + 1 ≤ (count l k : Int)) ∨
    ∃ (O U out : List Int) (M : Nat), mFarePack l seats stops = some (0, out) ∧ Ords l O ∧ Gs l seats.toNat O l.length U out M stops := by
  obtain ⟨O, o1, hO⟩ := sorted_order hF.hn
  have hs := hF.hs
  have ht := hF.ht
  have hn := hF.hn
  unfold mFarePack
  rw [if_neg (by omega), within_spec, Option.bind_some, if_pos (by simpa using hs), within_spec, Option.bind_some, Option.bind_some, decide_eq_true ht, if_neg (by decide), mkLen_ok (by omega) (by omega), Option.bind_some, order_spec hF, Option.bind_some]
  simp only [Sum.elim_inl]
  obtain ⟨N, rfl⟩ : ∃ N : Nat, seats = (N : Int) := ⟨seats.toNat, by omega⟩
  rw [Int.toNat_natCast]
  rw [o1, Option.bind_some, mkLen_ok (by omega) (by omega), Option.bind_some, Option.bind_some]
  rcases forM_inv (body := mFarePack_L702 l O) (fun j (s : List Int × List Int) => ∃ M, Gs l N O j s.1 s.2 M stops) (fun t => t = (14, []) ∧ ∃ k : Nat, (k : Int) < stops ∧ (N : Int) + 1 ≤ (count l k : Int)) O.length 0 (List.replicate N (0 : Int), List.replicate l.length (0 : Int)) ⟨0, by
      refine ⟨by simp, by simp, Nat.zero_le _, fun s _ hs => ?_, fun s hs => absurd hs (Nat.not_lt_zero s), fun u x hu => absurd hu (Nat.not_lt_zero u), fun u v x y _ hv => absurd hv (Nat.not_lt_zero v), .inl rfl⟩
      simp only [List.getElem?_replicate, if_pos hs]⟩ (fun j s _ hj hI => by
    obtain ⟨U, out⟩ := s
    obtain ⟨M, hG⟩ := hI
    simp only at hG
    have hj : j < l.length := by have := hO.len; omega
    obtain ⟨i, hi⟩ := hO.get j hj
    have hil := hO.val j i hi
    have hsp := span_of hF hil
    have hx : l[i]? = some l[i] := List.getElem?_eq_getElem hil
    have hto : toOf l i = l[i].To := by
      unfold toOf
      rw [hx]
    have hlU := hG.lU
    have hlo := hG.lo
    have hMN := hG.hM
    obtain ⟨a, ha⟩ : ∃ a : Nat, frOf l i = (a : Int) := ⟨(frOf l i).toNat, by omega⟩
    have hcov : ∀ m, m ≤ M → (∀ (s : Nat) (v : Int), s < m → U[s]? = some v → frOf l i < v) → m + 1 ≤ count l a := fun m hm hall =>
      hG.cover hO.val hO.nd hO.srt hi ha hsp.2.1 hm (fun s v h1 h2 => by rw [← ha]; exact hall s v h1 h2)
    unfold mFarePack_L702
    simp only [unc2]
    rw [idx_nat hi, Option.bind_some]
    obtain ⟨r, r1, r2⟩ := find_spec hil U
    rw [r1, Option.bind_some]
    rcases r2 with ⟨s0, w, rfl, g1, g2, g3, g4⟩ | ⟨rfl, g1⟩
    · rw [if_neg (by omega), idx_nat hx, Option.bind_some, idx_lt g1, Option.bind_some, idx_lt (l := out) (j := i) (by omega), Option.bind_some, put_nat, put_nat, ← hto]
      by_cases q : s0 < M
      · exact .inl ⟨_, rfl, M, hG.step hO.val hO.nd hi hsp.2.1 (by omega) g2 g3 (.inl ⟨q, rfl⟩) hG.i5⟩
      · have hMs : s0 = M := by
          by_cases q2 : s0 = M
          · exact q2
          · exfalso
            have := g4 M 0 (by omega) (hG.i1 M (Nat.le_refl _) (by omega))
            omega
        exact .inl ⟨_, rfl, M + 1, hG.step hO.val hO.nd hi hsp.2.1 (by omega) g2 g3 (.inr ⟨hMs, rfl⟩) (.inr ⟨a, by omega, hcov M (Nat.le_refl _) (fun s v h1 h2 => g4 s v (by omega) h2)⟩)⟩
    · rw [if_pos (by decide)]
      have hMN' : M = N := by
        by_cases q2 : M = N
        · exact q2
        · exfalso
          have := g1 M 0 (by omega) (hG.i1 M (Nat.le_refl _) (by omega))
          omega
      have := hcov M (Nat.le_refl _) (fun s v h1 h2 => g1 s v (by omega) h2)
      exact .inr ⟨_, rfl, rfl, a, by omega, by omega⟩) with ⟨s, f1, M, f2⟩ | ⟨t, f1, f2, f3⟩
  · obtain ⟨U, out⟩ := s
    rw [f1]
    rw [Nat.zero_add, hO.len] at f2
    exact .inr ⟨O, U, out, M, rfl, hO, f2⟩
  · rw [f1, f2]
    exact .inl ⟨rfl, f3⟩
end Go.Proofs.YtnlnohallnfbmaaGreatDoor
