/- Plain: how a train runs, second by second. -/
import Derived.Test.YtljcafilceachaaDoorRA
set_option linter.unusedVariables false
set_option linter.unusedSimpArgs false
namespace Go.Proofs.YtljcafilceachaaDoor
open Go.RowKit Go.Fp

/- ---- what is known of braking ---- -/
def MemoOk (b : Int) (m : List (Int × List Int)) : Prop := ∀ t l, mget m t = some l → ∀ j : Nat, j < l.length → l[j]? = some (way b t (j : Int))
theorem memo_nil (b : Int) : MemoOk b [] := fun t l h => by simp [mget] at h
theorem memo_get {b : Int} {m : List (Int × List Int)} (h : MemoOk b m) (t : Int) : ∀ j : Nat, j < (mgetD m t []).length → (mgetD m t [])[j]? = some (way b t (j : Int)) := by
  intro j hj
  unfold mgetD at hj ⊢
  cases hg : mget m t with
  | none => rw [hg] at hj; simp at hj
  | some l => rw [hg] at hj; exact h t l hg j hj
theorem memo_put {b : Int} {m : List (Int × List Int)} (h : MemoOk b m) (t : Int) (l : List Int) (hl : ∀ j : Nat, j < l.length → l[j]? = some (way b t (j : Int))) : MemoOk b (mput m t l) := fun t' l' hg => by
  by_cases he : t' = t
  · subst he
    rw [mget_mput_same] at hg
    injection hg with hg
    subst hg
    exact hl
  · rw [mget_mput_other _ _ he] at hg
    exact h t' l' hg
noncomputable abbrev intoM (s : ApiStock) (L : List ApiPiece) (E top : Int) (B : List Int) (v t : Int) (m : List (Int × List Int)) := mRunRunnerInto v t s.Name s.Length s.Mass s.Start s.Power s.Roll s.Drag s.Brake s.Top s.Seats L E top B m
theorem into_ok {s : ApiStock} (hs : Good s) (L : List ApiPiece) (E top : Int) (B : List Int) {v t : Int} (h0 : 0 ≤ v) (h1 : v ≤ 6000) (ht : 0 ≤ t) (ht' : t ≤ 6000) {m : List (Int × List Int)} (hm : MemoOk (s.Brake - 40) m) :
    ∃ m', intoM s L E top B v t m = some (way (s.Brake - 40) t v, m') ∧ MemoOk (s.Brake - 40) m' := by
  have hb := hs.brake
  unfold intoM mRunRunnerInto
  by_cases hv : v ≤ t
  · rw [if_pos hv, way_stop hv]; exact ⟨m, rfl, hm⟩
  rw [if_neg hv]
  obtain ⟨l, hl, hq1, hq2⟩ := loopM_inv (step := mRunRunnerInto_L988 v t s.Brake) (fun p => p.1 = (p.2.length : Int) ∧ ∀ j : Nat, j < p.2.length → p.2[j]? = some (way (s.Brake - 40) t (j : Int)))
    (fun l => v < (l.length : Int) ∧ ∀ j : Nat, j < l.length → l[j]? = some (way (s.Brake - 40) t (j : Int))) (fun p => (v + 1 - p.1).toNat) (fun p hp => by
    obtain ⟨x, l⟩ := p
    obtain ⟨q1, q2⟩ := hp
    simp only at q1 q2
    subst q1
    simp only [mRunRunnerInto_L988, unc2]
    by_cases hx : (l.length : Int) ≤ v
    · rw [if_pos hx]
      have hval : (if t < (l.length : Int) then ((chk (s.Brake - 40)).bind fun _ => (chk ((l.length : Int) - (s.Brake - 40))).bind fun _ => (mRunGone (l.length : Int) (max t ((l.length : Int) - (s.Brake - 40)))).bind fun x => (idx l (max t ((l.length : Int) - (s.Brake - 40)))).bind fun y => (chk (x + y)).bind fun _ => some (x + y)) else some 0) = some (way (s.Brake - 40) t (l.length : Int)) := by
        by_cases ht2 : t < (l.length : Int)
        · rw [if_pos ht2, chk_ok (by omega) (by omega), Option.bind_some, chk_ok (by omega) (by omega), Option.bind_some, gone_model (by omega) (by omega) (by omega) (by omega), Option.bind_some]
          obtain ⟨w, hw⟩ : ∃ w : Nat, max t ((l.length : Int) - (s.Brake - 40)) = (w : Int) := ⟨(max t ((l.length : Int) - (s.Brake - 40))).toNat, by omega⟩
          have hwl : w < l.length := by omega
          rw [hw, idx_nat (q2 w hwl), Option.bind_some]
          have h2 := way_go (b := s.Brake - 40) (t := t) (v := (l.length : Int)) (by omega) ht2
          rw [hw] at h2
          have h3 := way_bd (b := s.Brake - 40) (t := t) (by omega) ht _ (l.length : Int) (Nat.le_refl _) (by omega) (by omega)
          rw [← h2, chk_ok (by omega) (by omega)]
          rfl
        · rw [if_neg ht2, way_stop (by omega)]
      rw [hval, Option.bind_some, room_ok (by omega) (by omega), Option.bind_some, chk_ok (by omega) (by omega), Option.bind_some]
      refine .inl ⟨_, rfl, ⟨by simp, fun j hj => ?_⟩, by simp only; omega⟩
      simp only at hj ⊢
      rw [List.length_append, List.length_singleton] at hj
      by_cases he : j < l.length
      · rw [List.getElem?_append_left he]; exact q2 j he
      · obtain rfl : j = l.length := by omega
        rw [List.getElem?_append_right (Nat.le_refl _), Nat.sub_self]
        rfl
    · rw [if_neg hx]
      exact .inr ⟨l, rfl, by omega, q2⟩) (((mgetD m t []).length : Int), mgetD m t []) ⟨rfl, memo_get hm t⟩
  rw [hl, Option.bind_some]
  obtain ⟨V, hV⟩ : ∃ V : Nat, v = (V : Int) := ⟨v.toNat, by omega⟩
  subst hV
  rw [idx_nat (hq2 V (by omega)), Option.bind_some]
  exact ⟨_, rfl, memo_put hm t l hq2⟩

/- ---- the way ---- -/
structure PieceOk (p : ApiPiece) : Prop where
  length : 1 ≤ p.Length ∧ p.Length ≤ 300000
  grade : -40 ≤ p.Grade ∧ p.Grade ≤ 40
  speed : 1 ≤ p.Speed ∧ p.Speed ≤ 6000
/-- Where piece i begins. -/
def beg (L : List ApiPiece) : Nat → Int
  | 0 => 0
  | k + 1 => beg L k + (L[k]?.map (·.Length)).getD 0
theorem beg_succ {L : List ApiPiece} {k : Nat} (h : k < L.length) : beg L (k + 1) = beg L k + L[k].Length := by
  simp only [beg]
  rw [List.getElem?_eq_getElem h]
  rfl
structure WayOk (L : List ApiPiece) : Prop where
  pieces : ∀ p ∈ L, PieceOk p
  some_ : 0 < L.length
  few : L.length ≤ 60
theorem WayOk.at {L : List ApiPiece} (h : WayOk L) {i : Nat} (hi : i < L.length) : PieceOk L[i] := h.pieces _ (List.getElem_mem hi)
theorem beg_bd {L : List ApiPiece} (h : WayOk L) : ∀ k, k ≤ L.length → 0 ≤ beg L k ∧ beg L k ≤ 300000 * k
  | 0, _ => by simp [beg]
  | k + 1, hk => by
    have h1 := beg_bd h k (by omega)
    have h2 := (h.at (i := k) (by omega)).length
    rw [beg_succ (by omega)]
    omega
theorem beg_mono {L : List ApiPiece} (h : WayOk L) : ∀ j k, j ≤ k → k ≤ L.length → beg L j ≤ beg L k
  | j, 0, hj, _ => by
    obtain rfl : j = 0 := (by omega)
    exact Int.le_refl _
  | j, k + 1, hj, hk => by
    by_cases he : j = k + 1
    · subst he; exact Int.le_refl _
    · have h1 := beg_mono h j k (by omega) (by omega)
      have h2 := (h.at (i := k) (by omega)).length
      rw [beg_succ (by omega)]
      omega
structure BegOk (L : List ApiPiece) (B : List Int) : Prop where
  get : ∀ j : Nat, j ≤ L.length → B[j]? = some (beg L j)
theorem BegOk.idx {L : List ApiPiece} {B : List Int} (h : BegOk L B) {i : Int} {j : Nat} (hi : i = (j : Int)) (hj : j ≤ L.length) : idx B i = some (beg L j) := by
  subst hi
  exact idx_nat (h.get j hj)
theorem begins_model {L : List ApiPiece} (h : WayOk L) : ∃ B, forS (mRunNewRunner_L240 L) L.length 0 [0] = some B ∧ BegOk L B := by
  obtain ⟨B, h1, h2, h3⟩ := forS_inv (body := mRunNewRunner_L240 L) (fun k B => B.length = k + 1 ∧ ∀ j : Nat, j ≤ k → B[j]? = some (beg L j)) L.length 0 [0] ⟨rfl, fun j hj => by
    obtain rfl : j = 0 := (by omega)
    rfl⟩ (fun k B _ hk hi => by
    obtain ⟨i1, i2⟩ := hi
    have hk' : k < L.length := by omega
    have hp := (h.at hk').length
    have hb := beg_bd h k (by omega)
    have hf := h.few
    unfold mRunNewRunner_L240
    rw [idx_lt hk', Option.bind_some, idx_nat (i2 k (Nat.le_refl _)), Option.bind_some, chk_ok (by omega) (by omega), Option.bind_some, room_ok (by omega) (by omega), Option.bind_some]
    refine ⟨_, rfl, by simp [i1], fun j hj => ?_⟩
    by_cases he : j ≤ k
    · rw [List.getElem?_append_left (by omega)]; exact i2 j he
    · obtain rfl : j = k + 1 := by omega
      rw [List.getElem?_append_right (by omega), i1, Nat.sub_self, beg_succ hk']
      rfl)
  exact ⟨B, h1, ⟨fun j hj => h3 j (by omega)⟩⟩
/-- A train that comes to 'at_', whose tail was at 'tail', may have speed w. -/
def May (b : Int) (L : List ApiPiece) (E tail at_ w : Int) : Prop :=
  way b 0 w ≤ E - at_ ∧ ∀ (i : Nat) (hi : i < L.length), (at_ ≤ beg L i → way b L[i].Speed w ≤ beg L i - at_) ∧ (beg L i < at_ → tail < beg L (i + 1) → w ≤ L[i].Speed)
noncomputable abbrev mayM (s : ApiStock) (L : List ApiPiece) (E top : Int) (B : List Int) (tail at_ w : Int) (m : List (Int × List Int)) := mRunRunnerMay tail at_ w s.Name s.Length s.Mass s.Start s.Power s.Roll s.Drag s.Brake s.Top s.Seats L E top B m
theorem may_ok {s : ApiStock} (hs : Good s) {L : List ApiPiece} (hL : WayOk L) {E : Int} (hE : 0 ≤ E ∧ E ≤ 18000000) (top : Int) {B : List Int} (hB : BegOk L B) {tail at_ w : Int} (h0 : 0 ≤ w) (h1 : w ≤ 6000) (ha : 0 ≤ at_ ∧ at_ ≤ 100000000) {m : List (Int × List Int)} (hm : MemoOk (s.Brake - 40) m) :
    ∃ q m', mayM s L E top B tail at_ w m = some (q, m') ∧ MemoOk (s.Brake - 40) m' ∧ (q = true ↔ May (s.Brake - 40) L E tail at_ w) := by
  have hb := hs.brake
  obtain ⟨m1, e1, hm1⟩ := into_ok hs L E top B h0 h1 (t := 0) (by omega) (by omega) hm
  have hw0 := way_bd (b := s.Brake - 40) (t := 0) (by omega) (by omega) _ w (Nat.le_refl _) h0 h1
  unfold mayM mRunRunnerMay
  unfold intoM at e1
  rw [e1, Option.bind_some]
  simp only [unc2]
  rw [chk_ok (by omega) (by omega), Option.bind_some, Option.bind_some]
  simp only [unc2]
  by_cases hA : E - at_ < way (s.Brake - 40) 0 w
  · refine ⟨false, m1, by simp [hA], hm1, ⟨fun h => (by cases h), fun h => ?_⟩⟩
    have := h.1
    omega
  simp only [hA, decide_false]
  rw [if_neg (by decide)]
  rcases forM_inv (body := mRunRunnerMay_L373 L B tail at_ w s.Name s.Length s.Mass s.Start s.Power s.Roll s.Drag s.Brake s.Top s.Seats E top)
      (fun k m => MemoOk (s.Brake - 40) m ∧ ∀ (i : Nat) (hi : i < L.length), i < k → (at_ ≤ beg L i → way (s.Brake - 40) L[i].Speed w ≤ beg L i - at_) ∧ (beg L i < at_ → tail < beg L (i + 1) → w ≤ L[i].Speed))
      (fun t => t.1 = false ∧ MemoOk (s.Brake - 40) t.2 ∧ ¬ May (s.Brake - 40) L E tail at_ w) L.length 0 m1 ⟨hm1, fun i hi h => by omega⟩ (fun k m2 _ hk hi => by
    obtain ⟨i1, i2⟩ := hi
    have hk' : k < L.length := by omega
    have hp := hL.at hk'
    have hbk := beg_bd hL k (by omega)
    have hfew := hL.few
    have hsp := hp.speed
    unfold mRunRunnerMay_L373
    rw [idx_lt hk', Option.bind_some, hB.idx (j := k) rfl (by omega), Option.bind_some]
    by_cases hc : at_ ≤ beg L k
    · obtain ⟨m3, e3, hm3⟩ := into_ok hs L E top B h0 h1 (t := L[k].Speed) (by omega) (by omega) i1
      unfold intoM at e3
      rw [if_pos hc, e3, Option.bind_some]
      simp only [unc2]
      rw [chk_ok (by omega) (by omega), Option.bind_some]
      by_cases hd : beg L k - at_ < way (s.Brake - 40) L[k].Speed w
      · rw [if_pos hd]
        refine .inr ⟨_, rfl, rfl, hm3, fun h => ?_⟩
        have := (h.2 k hk').1 hc
        omega
      · rw [if_neg hd]
        refine .inl ⟨_, rfl, hm3, fun i hi hik => ?_⟩
        by_cases he : i = k
        · subst he
          exact ⟨fun _ => by omega, fun h => by omega⟩
        · exact i2 i hi (by omega)
    · rw [if_neg hc, chk_ok (by omega) (by omega), Option.bind_some, hB.idx (j := k + 1) (by omega) (by omega), Option.bind_some]
      by_cases hd : tail < beg L (k + 1) ∧ L[k].Speed < w
      · rw [if_pos hd.1]
        simp only [hd.2, decide_true, Option.bind_some, if_true]
        refine .inr ⟨_, rfl, rfl, i1, fun h => ?_⟩
        have := (h.2 k hk').2 (by omega) hd.1
        omega
      · have hz : (if tail < beg L (k + 1) then some (decide (L[k].Speed < w)) else some false) = some false := by
          by_cases h5 : tail < beg L (k + 1)
          · have h6 : ¬ L[k].Speed < w := fun h => hd ⟨h5, h⟩
            simp [h5, h6]
          · rw [if_neg h5]
        rw [hz, Option.bind_some, if_neg (by decide)]
        refine .inl ⟨_, rfl, i1, fun i hi hik => ?_⟩
        by_cases he : i = k
        · subst he
          exact ⟨fun h => by omega, fun _ ht => by
            have : ¬ L[i].Speed < w := fun h => hd ⟨ht, h⟩
            omega⟩
        · exact i2 i hi (by omega)) with ⟨m2, e2, hm2, hall⟩ | ⟨t, e2, ht1, ht2, ht3⟩
  · rw [e2]
    refine ⟨true, m2, rfl, hm2, ⟨fun _ => ⟨by omega, fun i hi => hall i hi (by omega)⟩, fun _ => rfl⟩⟩
  · rw [e2]
    obtain ⟨q, m2⟩ := t
    simp only at ht1 ht2
    subst ht1
    exact ⟨false, m2, rfl, ht2, ⟨fun h => (by cases h), fun h => absurd h ht3⟩⟩
/-- Allowed speeds: less is allowed, too. -/
theorem may_less {b : Int} (hb : 1 ≤ b) {L : List ApiPiece} (hL : WayOk L) {E tail p v w w' : Int} (htl : tail ≤ p) (hv : 0 ≤ v) (hw : 0 ≤ w) (hww : w ≤ w') (hw' : w' ≤ 6000) (h : May b L E tail (p + gone v w') w') : May b L E tail (p + gone v w) w := by
  have hg := gone_mono (v := v) (w := w) (v' := v) (w' := w') hv hw (Int.le_refl _) hww
  refine ⟨?_, fun i hi => ?_⟩
  · have h1 := way_mono hb (t := 0) (by omega) _ w w' (Nat.le_refl _) hww hw hw'
    have := h.1
    omega
  · have hsp := (hL.at hi).speed
    have hm := way_mono hb (t := L[i].Speed) (by omega) _ w w' (Nat.le_refl _) hww hw hw'
    obtain ⟨h2, h3⟩ := h.2 i hi
    refine ⟨fun hc => ?_, fun hc ht => ?_⟩
    · by_cases hd : p + gone v w' ≤ beg L i
      · have := h2 hd
        omega
      · have hs2 : L[i].Speed < w' ∨ w' ≤ L[i].Speed := by omega
        rcases hs2 with hs2 | hs2
        · -- then its tail has left the piece: but the piece lies ahead
          have hbs := beg_succ hi
          have hl := (hL.at hi).length
          have hg0 := gone_bd hv hw
          have := h3 (by omega) (by omega)
          omega
        · rw [way_stop (by omega)]
          omega
    · have := h3 (by omega) ht
      omega
end Go.Proofs.YtljcafilceachaaDoor
