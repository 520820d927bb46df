/- Plain: stock, braking, a second of a run. -/
import Derived.Test.YtljcafilceachaaDoorGR1
import Derived.Test.YtljcafilceachaaDoorX6
set_option linter.unusedVariables false
set_option linter.unusedSimpArgs false
namespace Go.Proofs.YtljcafilceachaaDoor
open Go.RowKit Go.Fp
/- ---- stock ---- -/
structure Good (s : ApiStock) : Prop where
  length : 10 ≤ s.Length ∧ s.Length ≤ 400
  mass : 10 ≤ s.Mass ∧ s.Mass ≤ 2000
  start : 60 ≤ s.Start ∧ s.Start ≤ 150
  power : 10000 ≤ s.Power ∧ s.Power ≤ 2000000
  roll : 0 ≤ s.Roll ∧ s.Roll ≤ 10
  drag : 1000000 ≤ s.Drag ∧ s.Drag ≤ 100000000
  brake : 60 ≤ s.Brake ∧ s.Brake ≤ 150
  top : 500 ≤ s.Top ∧ s.Top ≤ 6000
  seats : 0 ≤ s.Seats ∧ s.Seats ≤ 1000
theorem within_eq (x a c : Int) : mRunWithin x a c = some (decide (a ≤ x ∧ x ≤ c)) := by
  unfold mRunWithin
  by_cases h : a ≤ x <;> simp [h]
theorem name_total {s : ByteArray} (h : s.size ≤ 9223372036854775807) : ∃ q, mRunName s = some q := by
  unfold mRunName
  rw [chk_ok (by omega) (by omega), Option.bind_some]
  rcases forM_inv (body := mRunName_L75 s) (fun _ _ => True) (fun _ => True) (sBytes s).length 0 () trivial (fun j u _ hj _ => by
    unfold mRunName_L75
    rw [idx_lt (by omega), Option.bind_some]
    by_cases h1 : (sBytes s)[j] < 97
    · rw [if_pos h1]; exact .inr ⟨false, by simp, trivial⟩
    · rw [if_neg h1]
      by_cases h2 : 122 < (sBytes s)[j]
      · exact .inr ⟨false, by simp [h2], trivial⟩
      · exact .inl ⟨(), by simp [h2], trivial⟩) with ⟨u, h1, _⟩ | ⟨q, h1, _⟩
  · rw [h1]
    simp only [Option.bind_some, Sum.elim_inl]
    by_cases h2 : 1 ≤ (s.size : Int) <;> simp [h2]
  · rw [h1]; exact ⟨q, rfl⟩
theorem check_spec {s : ApiStock} (h : s.Name.size ≤ 9223372036854775807) : ∃ e, mRunCheck s = some e ∧ (e = 0 → Good s) := by
  obtain ⟨q, hq⟩ := name_total h
  unfold mRunCheck
  rw [hq, Option.bind_some]
  cases q with
  | false => exact ⟨1, by simp, fun h => absurd h (by decide)⟩
  | true =>
    rw [if_pos rfl]
    simp only [mRunNumbers, Option.bind_some, unc9]
    have step : ∀ (k : Nat) (x a c : Int), idx [s.Length, s.Mass, s.Start, s.Power, s.Roll, s.Drag, s.Brake, s.Top, s.Seats] (k : Int) = some x →
        idx [[10, 400], [10, 2000], [60, 150], [10000, 2000000], [0, 10], [1000000, 100000000], [60, 150], [500, 6000], [0, 1000]] (k : Int) = some [a, c] →
        mRunCheck_L226 s.Length s.Mass s.Start s.Power s.Roll s.Drag s.Brake s.Top s.Seats k () = if a ≤ x ∧ x ≤ c then some (.inl ()) else some (.inr 2) := by
      intro k x a c h1 h2
      unfold mRunCheck_L226
      simp only [h1, h2, Option.bind_some, show idx [a, c] 0 = some a from rfl, show idx [a, c] 1 = some c from rfl, within_eq]
      by_cases h3 : a ≤ x ∧ x ≤ c <;> simp [h3]
    have e0 := step 0 s.Length 10 400 rfl rfl
    have e1 := step 1 s.Mass 10 2000 rfl rfl
    have e2 := step 2 s.Start 60 150 rfl rfl
    have e3 := step 3 s.Power 10000 2000000 rfl rfl
    have e4 := step 4 s.Roll 0 10 rfl rfl
    have e5 := step 5 s.Drag 1000000 100000000 rfl rfl
    have e6 := step 6 s.Brake 60 150 rfl rfl
    have e7 := step 7 s.Top 500 6000 rfl rfl
    have e8 := step 8 s.Seats 0 1000 rfl rfl
    by_cases g0 : 10 ≤ s.Length ∧ s.Length ≤ 400
    case neg => rw [forM_succ_inr (m := 8) (by rw [e0, if_neg g0])]; exact ⟨2, rfl, fun h => absurd h (by decide)⟩
    rw [forM_succ_inl (m := 8) (by rw [e0, if_pos g0])]
    by_cases g1 : 10 ≤ s.Mass ∧ s.Mass ≤ 2000
    case neg => rw [forM_succ_inr (m := 7) (by rw [e1, if_neg g1])]; exact ⟨2, rfl, fun h => absurd h (by decide)⟩
    rw [forM_succ_inl (m := 7) (by rw [e1, if_pos g1])]
    by_cases g2 : 60 ≤ s.Start ∧ s.Start ≤ 150
    case neg => rw [forM_succ_inr (m := 6) (by rw [e2, if_neg g2])]; exact ⟨2, rfl, fun h => absurd h (by decide)⟩
    rw [forM_succ_inl (m := 6) (by rw [e2, if_pos g2])]
    by_cases g3 : 10000 ≤ s.Power ∧ s.Power ≤ 2000000
    case neg => rw [forM_succ_inr (m := 5) (by rw [e3, if_neg g3])]; exact ⟨2, rfl, fun h => absurd h (by decide)⟩
    rw [forM_succ_inl (m := 5) (by rw [e3, if_pos g3])]
    by_cases g4 : 0 ≤ s.Roll ∧ s.Roll ≤ 10
    case neg => rw [forM_succ_inr (m := 4) (by rw [e4, if_neg g4])]; exact ⟨2, rfl, fun h => absurd h (by decide)⟩
    rw [forM_succ_inl (m := 4) (by rw [e4, if_pos g4])]
    by_cases g5 : 1000000 ≤ s.Drag ∧ s.Drag ≤ 100000000
    case neg => rw [forM_succ_inr (m := 3) (by rw [e5, if_neg g5])]; exact ⟨2, rfl, fun h => absurd h (by decide)⟩
    rw [forM_succ_inl (m := 3) (by rw [e5, if_pos g5])]
    by_cases g6 : 60 ≤ s.Brake ∧ s.Brake ≤ 150
    case neg => rw [forM_succ_inr (m := 2) (by rw [e6, if_neg g6])]; exact ⟨2, rfl, fun h => absurd h (by decide)⟩
    rw [forM_succ_inl (m := 2) (by rw [e6, if_pos g6])]
    by_cases g7 : 500 ≤ s.Top ∧ s.Top ≤ 6000
    case neg => rw [forM_succ_inr (m := 1) (by rw [e7, if_neg g7])]; exact ⟨2, rfl, fun h => absurd h (by decide)⟩
    rw [forM_succ_inl (m := 1) (by rw [e7, if_pos g7])]
    by_cases g8 : 0 ≤ s.Seats ∧ s.Seats ≤ 1000
    case neg => rw [forM_succ_inr (m := 0) (by rw [e8, if_neg g8])]; exact ⟨2, rfl, fun h => absurd h (by decide)⟩
    rw [forM_succ_inl (m := 0) (by rw [e8, if_pos g8])]
    exact ⟨0, rfl, fun _ => ⟨g0, g1, g2, g3, g4, g5, g6, g7, g8⟩⟩

/- ---- braking ---- -/
def gone (v w : Int) : Int := Int.tdiv ((v + w) + 1) 2
theorem gone_bd {v w : Int} (hv : 0 ≤ v) (hw : 0 ≤ w) : 2 * gone v w ≤ v + w + 1 ∧ v + w ≤ 2 * gone v w ∧ 0 ≤ gone v w := by
  unfold gone
  rw [Int.tdiv_eq_ediv_of_nonneg (by omega)]
  omega
theorem gone_mono {v w v' w' : Int} (hv : 0 ≤ v) (hw : 0 ≤ w) (h1 : v ≤ v') (h2 : w ≤ w') : gone v w ≤ gone v' w' := by
  unfold gone
  rw [Int.tdiv_eq_ediv_of_nonneg (by omega), Int.tdiv_eq_ediv_of_nonneg (by omega)]
  omega
theorem gone_model {v w : Int} (hv : 0 ≤ v) (hw : 0 ≤ w) (hv' : v ≤ 100000000) (hw' : w ≤ 100000000) : mRunGone v w = some (gone v w) := by
  have := gone_bd hv hw
  unfold mRunGone
  rw [chk_ok (by omega) (by omega), Option.bind_some, chk_ok (by omega) (by omega), Option.bind_some]
  simp only [ne0, if_neg (show ¬ (2 : Int) = 0 by decide), Option.bind_some]
  rw [show Int.tdiv (v + w + 1) 2 = gone v w from rfl, chk_ok (by omega) (by omega)]
  rfl
def wayN (b t : Int) : Nat → Int → Int
  | 0, _ => 0
  | n + 1, v => if t < v then gone v (max t (v - b)) + wayN b t n (max t (v - b)) else 0
theorem wayN_stop (b t : Int) (n : Nat) (v : Int) (h : v ≤ t) : wayN b t n v = 0 := by
  cases n with
  | zero => rfl
  | succ n => simp only [wayN]; rw [if_neg (by omega)]
theorem wayN_fuel (b t : Int) (hb : 1 ≤ b) : ∀ (n m : Nat) (v : Int), (v - t).toNat ≤ n → (v - t).toNat ≤ m → wayN b t n v = wayN b t m v
  | 0, m, v, h1, _ => by rw [wayN_stop b t 0 v (by omega), wayN_stop b t m v (by omega)]
  | n + 1, 0, v, _, h2 => by rw [wayN_stop b t (n + 1) v (by omega), wayN_stop b t 0 v (by omega)]
  | n + 1, m + 1, v, h1, h2 => by
    simp only [wayN]
    by_cases h : t < v
    · rw [if_pos h, if_pos h, wayN_fuel b t hb n m (max t (v - b)) (by omega) (by omega)]
    · rw [if_neg h, if_neg h]
/-- How far a train goes until its speed is t. -/
def way (b t v : Int) : Int := wayN b t (v - t).toNat v
theorem way_stop {b t v : Int} (h : v ≤ t) : way b t v = 0 := wayN_stop b t _ v h
theorem way_go {b t v : Int} (hb : 1 ≤ b) (h : t < v) : way b t v = gone v (max t (v - b)) + way b t (max t (v - b)) := by
  unfold way
  obtain ⟨n, hn⟩ : ∃ n, (v - t).toNat = n + 1 := ⟨(v - t).toNat - 1, by omega⟩
  rw [hn]
  simp only [wayN]
  rw [if_pos h, wayN_fuel b t hb n ((max t (v - b)) - t).toNat _ (by omega) (Nat.le_refl _)]
theorem way_bd {b t : Int} (hb : 1 ≤ b) (ht : 0 ≤ t) : ∀ (n : Nat) (v : Int), (v - t).toNat ≤ n → 0 ≤ v → v ≤ 6000 → 0 ≤ way b t v ∧ way b t v ≤ 6000 * n
  | n, v, hn, h0, h1 => by
    by_cases h : t < v
    · rw [way_go hb h]
      obtain ⟨m, rfl⟩ : ∃ m, n = m + 1 := ⟨n - 1, by omega⟩
      have h2 := way_bd hb ht m (max t (v - b)) (by omega) (by omega) (by omega)
      have h3 := gone_bd (v := v) (w := max t (v - b)) h0 (by omega)
      omega
    · rw [way_stop (by omega)]
      omega
theorem way_mono {b t : Int} (hb : 1 ≤ b) (ht : 0 ≤ t) : ∀ (n : Nat) (v v' : Int), (v' - t).toNat ≤ n → v ≤ v' → 0 ≤ v → v' ≤ 6000 → way b t v ≤ way b t v'
  | n, v, v', hn, h, h0, h1 => by
    by_cases hv : t < v
    · obtain ⟨m, rfl⟩ : ∃ m, n = m + 1 := ⟨n - 1, by omega⟩
      rw [way_go hb hv, way_go hb (by omega : t < v')]
      have h2 := way_mono hb ht m (max t (v - b)) (max t (v' - b)) (by omega) (by omega) (by omega) (by omega)
      have h3 := gone_mono (v := v) (w := max t (v - b)) (v' := v') (w' := max t (v' - b)) h0 (by omega) h (by omega)
      omega
    · rw [way_stop (by omega)]
      exact (way_bd hb ht _ v' (Nat.le_refl _) (by omega) h1).1
theorem into_model {s : ApiStock} (hs : Good s) {v t : Int} (h0 : 0 ≤ v) (h1 : v ≤ 6000) (ht : 0 ≤ t) (ht' : t ≤ 6000) : mRunInto_2 s v t = some (way (s.Brake - 40) t v) := by
  have hb := hs.brake
  unfold mRunInto_2
  have hbd := way_bd (b := s.Brake - 40) (t := t) (by omega) ht _ v (Nat.le_refl _) h0 h1
  obtain ⟨r, hr, hq⟩ := loopM_inv (step := mRunInto_2_L90 s t) (fun p => 0 ≤ p.1 ∧ p.1 ≤ 6000 ∧ 0 ≤ p.2 ∧ p.2 + way (s.Brake - 40) t p.1 = way (s.Brake - 40) t v) (fun r => r = way (s.Brake - 40) t v) (fun p => (p.1 - t).toNat) (fun p hp => by
    obtain ⟨x, y⟩ := p
    obtain ⟨q1, q2, q3, q4⟩ := hp
    simp only at q1 q2 q3 q4
    simp only [mRunInto_2_L90, unc2]
    by_cases hx : t < x
    · refine .inl ⟨(max t (x - (s.Brake - 40)), y + gone x (max t (x - (s.Brake - 40)))), ?_, ?_, ?_⟩
      · rw [if_pos hx, chk_ok (by omega) (by omega), Option.bind_some, chk_ok (by omega) (by omega), Option.bind_some, gone_model q1 (by omega) (by omega) (by omega), Option.bind_some]
        have h3 := gone_bd (v := x) (w := max t (x - (s.Brake - 40))) q1 (by omega)
        have h4 := way_bd (b := s.Brake - 40) (t := t) (by omega) ht _ x (Nat.le_refl _) q1 q2
        rw [chk_ok (by omega) (by omega)]
        rfl
      · rw [way_go (by omega) hx] at q4
        have h3 := gone_bd (v := x) (w := max t (x - (s.Brake - 40))) q1 (by omega)
        exact ⟨by simp only; omega, by simp only; omega, by simp only; omega, by simp only; omega⟩
      · simp only
        omega
    · refine .inr ⟨y, by rw [if_neg hx], ?_⟩
      rw [way_stop (by omega)] at q4
      omega) (v, 0) ⟨h0, h1, by simp, by simp⟩
  rw [hr, Option.bind_some, hq]
theorem Into_model {s : ApiStock} (hc : mRunCheck s = some 0) (hs : Good s) {v t : Int} (h0 : 0 ≤ v) (h1 : v ≤ 6000) (ht : 0 ≤ t) (ht' : t ≤ 6000) : mRunInto s v t = some (way (s.Brake - 40) t v, 0) := by
  unfold mRunInto
  simp only [hc, Option.bind_some, within_eq, into_model hs h0 h1 ht ht']
  simp [h0, h1, ht, ht']
theorem Stop_model {s : ApiStock} (hc : mRunCheck s = some 0) (hs : Good s) {v : Int} (h0 : 0 ≤ v) (h1 : v ≤ 6000) : mRunStop s v = some (way (s.Brake - 40) 0 v, 0) := by
  unfold mRunStop
  rw [Into_model hc hs h0 h1 (by omega) (by omega)]
  rfl


/- ---- what is known of braking ---- -/
def MemoOk (b : Int) (m : List (Int × List Int)) : Prop := ∀ t l, mget m t = some l → ∀ j : Nat, j < l.length → l[j]? = some (way b t (j : Int))
theorem memo_nil (b : Int) : MemoOk b [] := fun t l h => by simp [mget] at h
theorem memo_get {b : Int} {m : List (Int × List Int)} (h : MemoOk b m) (t : Int) : ∀ j : Nat, j < (mgetD m t []).length → (mgetD m t [])[j]? = some (way b t (j : Int)) := by
  intro j hj
  unfold mgetD at hj ⊢
  cases hg : mget m t with
  | none => rw [hg] at hj; simp at hj
  | some l => rw [hg] at hj; exact h t l hg j hj
theorem memo_put {b : Int} {m : List (Int × List Int)} (h : MemoOk b m) (t : Int) (l : List Int) (hl : ∀ j : Nat, j < l.length → l[j]? = some (way b t (j : Int))) : MemoOk b (mput m t l) := fun t' l' hg => by
  by_cases he : t' = t
  · subst he
    rw [mget_mput_same] at hg
    injection hg with hg
    subst hg
    exact hl
  · rw [mget_mput_other _ _ he] at hg
    exact h t' l' hg
noncomputable abbrev intoM (s : ApiStock) (L : List ApiPiece) (E top : Int) (B : List Int) (v t : Int) (m : List (Int × List Int)) := mRunRunnerInto v t s.Name s.Length s.Mass s.Start s.Power s.Roll s.Drag s.Brake s.Top s.Seats L E top B m
theorem into_ok {s : ApiStock} (hs : Good s) (L : List ApiPiece) (E top : Int) (B : List Int) {v t : Int} (h0 : 0 ≤ v) (h1 : v ≤ 6000) (ht : 0 ≤ t) (ht' : t ≤ 6000) {m : List (Int × List Int)} (hm : MemoOk (s.Brake - 40) m) :
    ∃ m', intoM s L E top B v t m = some (way (s.Brake - 40) t v, m') ∧ MemoOk (s.Brake - 40) m' := by
  have hb := hs.brake
  unfold intoM mRunRunnerInto
  by_cases hv : v ≤ t
  · rw [if_pos hv, way_stop hv]; exact ⟨m, rfl, hm⟩
  rw [if_neg hv]
  obtain ⟨l, hl, hq1, hq2⟩ := loopM_inv (step := mRunRunnerInto_L988 v t s.Brake) (fun p => p.1 = (p.2.length : Int) ∧ ∀ j : Nat, j < p.2.length → p.2[j]? = some (way (s.Brake - 40) t (j : Int)))
    (fun l => v < (l.length : Int) ∧ ∀ j : Nat, j < l.length → l[j]? = some (way (s.Brake - 40) t (j : Int))) (fun p => (v + 1 - p.1).toNat) (fun p hp => by
    obtain ⟨x, l⟩ := p
    obtain ⟨q1, q2⟩ := hp
    simp only at q1 q2
    subst q1
    simp only [mRunRunnerInto_L988, unc2]
    by_cases hx : (l.length : Int) ≤ v
    · rw [if_pos hx]
      have hval : (if t < (l.length : Int) then ((chk (s.Brake - 40)).bind fun _ => (chk ((l.length : Int) - (s.Brake - 40))).bind fun _ => (mRunGone (l.length : Int) (max t ((l.length : Int) - (s.Brake - 40)))).bind fun x => (idx l (max t ((l.length : Int) - (s.Brake - 40)))).bind fun y => (chk (x + y)).bind fun _ => some (x + y)) else some 0) = some (way (s.Brake - 40) t (l.length : Int)) := by
        by_cases ht2 : t < (l.length : Int)
        · rw [if_pos ht2, chk_ok (by omega) (by omega), Option.bind_some, chk_ok (by omega) (by omega), Option.bind_some, gone_model (by omega) (by omega) (by omega) (by omega), Option.bind_some]
          obtain ⟨w, hw⟩ : ∃ w : Nat, max t ((l.length : Int) - (s.Brake - 40)) = (w : Int) := ⟨(max t ((l.length : Int) - (s.Brake - 40))).toNat, by omega⟩
          have hwl : w < l.length := by omega
          rw [hw, idx_nat (q2 w hwl), Option.bind_some]
          have h2 := way_go (b := s.Brake - 40) (t := t) (v := (l.length : Int)) (by omega) ht2
          rw [hw] at h2
          have h3 := way_bd (b := s.Brake - 40) (t := t) (by omega) ht _ (l.length : Int) (Nat.le_refl _) (by omega) (by omega)
          rw [← h2, chk_ok (by omega) (by omega)]
          rfl
        · rw [if_neg ht2, way_stop (by omega)]
      rw [hval, Option.bind_some, room_ok (by omega) (by omega), Option.bind_some, chk_ok (by omega) (by omega), Option.bind_some]
      refine .inl ⟨_, rfl, ⟨by simp, fun j hj => ?_⟩, by simp only; omega⟩
      simp only at hj ⊢
      rw [List.length_append, List.length_singleton] at hj
      by_cases he : j < l.length
      · rw [List.getElem?_append_left he]; exact q2 j he
      · obtain rfl : j = l.length := by omega
        rw [List.getElem?_append_right (Nat.le_refl _), Nat.sub_self]
        rfl
    · rw [if_neg hx]
      exact .inr ⟨l, rfl, by omega, q2⟩) (((mgetD m t []).length : Int), mgetD m t []) ⟨rfl, memo_get hm t⟩
  rw [hl, Option.bind_some]
  obtain ⟨V, hV⟩ : ∃ V : Nat, v = (V : Int) := ⟨v.toNat, by omega⟩
  subst hV
  rw [idx_nat (hq2 V (by omega)), Option.bind_some]
  exact ⟨_, rfl, memo_put hm t l hq2⟩

/- ---- the way ---- -/
structure PieceOk (p : ApiPiece) : Prop where
  length : 1 ≤ p.Length ∧ p.Length ≤ 300000
  grade : -40 ≤ p.Grade ∧ p.Grade ≤ 40
  speed : 1 ≤ p.Speed ∧ p.Speed ≤ 6000
/-- Where piece i begins. -/
def beg (L : List ApiPiece) : Nat → Int
  | 0 => 0
  | k + 1 => beg L k + (L[k]?.map (·.Length)).getD 0
theorem beg_succ {L : List ApiPiece} {k : Nat} (h : k < L.length) : beg L (k + 1) = beg L k + L[k].Length := by
  simp only [beg]
  rw [List.getElem?_eq_getElem h]
  rfl
structure WayOk (L : List ApiPiece) : Prop where
  pieces : ∀ p ∈ L, PieceOk p
  some_ : 0 < L.length
  few : L.length ≤ 60
theorem WayOk.at {L : List ApiPiece} (h : WayOk L) {i : Nat} (hi : i < L.length) : PieceOk L[i] := h.pieces _ (List.getElem_mem hi)
theorem beg_bd {L : List ApiPiece} (h : WayOk L) : ∀ k, k ≤ L.length → 0 ≤ beg L k ∧ beg L k ≤ 300000 * k
  | 0, _ => by simp [beg]
  | k + 1, hk => by
    have h1 := beg_bd h k (by omega)
    have h2 := (h.at (i := k) (by omega)).length
    rw [beg_succ (by omega)]
    omega
theorem beg_mono {L : List ApiPiece} (h : WayOk L) : ∀ j k, j ≤ k → k ≤ L.length → beg L j ≤ beg L k
  | j, 0, hj, _ => by
    obtain rfl : j = 0 := (by omega)
    exact Int.le_refl _
  | j, k + 1, hj, hk => by
    by_cases he : j = k + 1
    · subst he; exact Int.le_refl _
    · have h1 := beg_mono h j k (by omega) (by omega)
      have h2 := (h.at (i := k) (by omega)).length
      rw [beg_succ (by omega)]
      omega
structure BegOk (L : List ApiPiece) (B : List Int) : Prop where
  get : ∀ j : Nat, j ≤ L.length → B[j]? = some (beg L j)
theorem BegOk.idx {L : List ApiPiece} {B : List Int} (h : BegOk L B) {i : Int} {j : Nat} (hi : i = (j : Int)) (hj : j ≤ L.length) : idx B i = some (beg L j) := by
  subst hi
  exact idx_nat (h.get j hj)
theorem begins_model {L : List ApiPiece} (h : WayOk L) : ∃ B, forS (mRunNewRunner_L240 L) L.length 0 [0] = some B ∧ BegOk L B := by
  obtain ⟨B, h1, h2, h3⟩ := forS_inv (body := mRunNewRunner_L240 L) (fun k B => B.length = k + 1 ∧ ∀ j : Nat, j ≤ k → B[j]? = some (beg L j)) L.length 0 [0] ⟨rfl, fun j hj => by
    obtain rfl : j = 0 := (by omega)
    rfl⟩ (fun k B _ hk hi => by
    obtain ⟨i1, i2⟩ := hi
    have hk' : k < L.length := by omega
    have hp := (h.at hk').length
    have hb := beg_bd h k (by omega)
    have hf := h.few
    unfold mRunNewRunner_L240
    rw [idx_lt hk', Option.bind_some, idx_nat (i2 k (Nat.le_refl _)), Option.bind_some, chk_ok (by omega) (by omega), Option.bind_some, room_ok (by omega) (by omega), Option.bind_some]
    refine ⟨_, rfl, by simp [i1], fun j hj => ?_⟩
    by_cases he : j ≤ k
    · rw [List.getElem?_append_left (by omega)]; exact i2 j he
    · obtain rfl : j = k + 1 := by omega
      rw [List.getElem?_append_right (by omega), i1, Nat.sub_self, beg_succ hk']
      rfl)
  exact ⟨B, h1, ⟨fun j hj => h3 j (by omega)⟩⟩
/-- A train that comes to 'at_', whose tail was at 'tail', may have speed w. -/
def May (b : Int) (L : List ApiPiece) (E tail at_ w : Int) : Prop :=
  way b 0 w ≤ E - at_ ∧ ∀ (i : Nat) (hi : i < L.length), (at_ ≤ beg L i → way b L[i].Speed w ≤ beg L i - at_) ∧ (beg L i < at_ → tail < beg L (i + 1) → w ≤ L[i].Speed)
noncomputable abbrev mayM (s : ApiStock) (L : List ApiPiece) (E top : Int) (B : List Int) (tail at_ w : Int) (m : List (Int × List Int)) := mRunRunnerMay tail at_ w s.Name s.Length s.Mass s.Start s.Power s.Roll s.Drag s.Brake s.Top s.Seats L E top B m
theorem may_ok {s : ApiStock} (hs : Good s) {L : List ApiPiece} (hL : WayOk L) {E : Int} (hE : 0 ≤ E ∧ E ≤ 18000000) (top : Int) {B : List Int} (hB : BegOk L B) {tail at_ w : Int} (h0 : 0 ≤ w) (h1 : w ≤ 6000) (ha : 0 ≤ at_ ∧ at_ ≤ 100000000) {m : List (Int × List Int)} (hm : MemoOk (s.Brake - 40) m) :
    ∃ q m', mayM s L E top B tail at_ w m = some (q, m') ∧ MemoOk (s.Brake - 40) m' ∧ (q = true ↔ May (s.Brake - 40) L E tail at_ w) := by
  have hb := hs.brake
  obtain ⟨m1, e1, hm1⟩ := into_ok hs L E top B h0 h1 (t := 0) (by omega) (by omega) hm
  have hw0 := way_bd (b := s.Brake - 40) (t := 0) (by omega) (by omega) _ w (Nat.le_refl _) h0 h1
  unfold mayM mRunRunnerMay
  unfold intoM at e1
  rw [e1, Option.bind_some]
  simp only [unc2]
  rw [chk_ok (by omega) (by omega), Option.bind_some, Option.bind_some]
  simp only [unc2]
  by_cases hA : E - at_ < way (s.Brake - 40) 0 w
  · refine ⟨false, m1, by simp [hA], hm1, ⟨fun h => (by cases h), fun h => ?_⟩⟩
    have := h.1
    omega
  simp only [hA, decide_false]
  rw [if_neg (by decide)]
  rcases forM_inv (body := mRunRunnerMay_L373 L B tail at_ w s.Name s.Length s.Mass s.Start s.Power s.Roll s.Drag s.Brake s.Top s.Seats E top)
      (fun k m => MemoOk (s.Brake - 40) m ∧ ∀ (i : Nat) (hi : i < L.length), i < k → (at_ ≤ beg L i → way (s.Brake - 40) L[i].Speed w ≤ beg L i - at_) ∧ (beg L i < at_ → tail < beg L (i + 1) → w ≤ L[i].Speed))
      (fun t => t.1 = false ∧ MemoOk (s.Brake - 40) t.2 ∧ ¬ May (s.Brake - 40) L E tail at_ w) L.length 0 m1 ⟨hm1, fun i hi h => by omega⟩ (fun k m2 _ hk hi => by
    obtain ⟨i1, i2⟩ := hi
    have hk' : k < L.length := by omega
    have hp := hL.at hk'
    have hbk := beg_bd hL k (by omega)
    have hfew := hL.few
    have hsp := hp.speed
    unfold mRunRunnerMay_L373
    rw [idx_lt hk', Option.bind_some, hB.idx (j := k) rfl (by omega), Option.bind_some]
    by_cases hc : at_ ≤ beg L k
    · obtain ⟨m3, e3, hm3⟩ := into_ok hs L E top B h0 h1 (t := L[k].Speed) (by omega) (by omega) i1
      unfold intoM at e3
      rw [if_pos hc, e3, Option.bind_some]
      simp only [unc2]
      rw [chk_ok (by omega) (by omega), Option.bind_some]
      by_cases hd : beg L k - at_ < way (s.Brake - 40) L[k].Speed w
      · rw [if_pos hd]
        refine .inr ⟨_, rfl, rfl, hm3, fun h => ?_⟩
        have := (h.2 k hk').1 hc
        omega
      · rw [if_neg hd]
        refine .inl ⟨_, rfl, hm3, fun i hi hik => ?_⟩
        by_cases he : i = k
        · subst he
          exact ⟨fun _ => by omega, fun h => by omega⟩
        · exact i2 i hi (by omega)
    · rw [if_neg hc, chk_ok (by omega) (by omega), Option.bind_some, hB.idx (j := k + 1) (by omega) (by omega), Option.bind_some]
      by_cases hd : tail < beg L (k + 1) ∧ L[k].Speed < w
      · rw [if_pos hd.1]
        simp only [hd.2, decide_true, Option.bind_some, if_true]
        refine .inr ⟨_, rfl, rfl, i1, fun h => ?_⟩
        have := (h.2 k hk').2 (by omega) hd.1
        omega
      · have hz : (if tail < beg L (k + 1) then some (decide (L[k].Speed < w)) else some false) = some false := by
          by_cases h5 : tail < beg L (k + 1)
          · have h6 : ¬ L[k].Speed < w := fun h => hd ⟨h5, h⟩
            simp [h5, h6]
          · rw [if_neg h5]
        rw [hz, Option.bind_some, if_neg (by decide)]
        refine .inl ⟨_, rfl, i1, fun i hi hik => ?_⟩
        by_cases he : i = k
        · subst he
          exact ⟨fun h => by omega, fun _ ht => by
            have : ¬ L[i].Speed < w := fun h => hd ⟨ht, h⟩
            omega⟩
        · exact i2 i hi (by omega)) with ⟨m2, e2, hm2, hall⟩ | ⟨t, e2, ht1, ht2, ht3⟩
  · rw [e2]
    refine ⟨true, m2, rfl, hm2, ⟨fun _ => ⟨by omega, fun i hi => hall i hi (by omega)⟩, fun _ => rfl⟩⟩
  · rw [e2]
    obtain ⟨q, m2⟩ := t
    simp only at ht1 ht2
    subst ht1
    exact ⟨false, m2, rfl, ht2, ⟨fun h => (by cases h), fun h => absurd h ht3⟩⟩
/-- Allowed speeds: less is allowed, too. -/
theorem may_less {b : Int} (hb : 1 ≤ b) {L : List ApiPiece} (hL : WayOk L) {E tail p v w w' : Int} (htl : tail ≤ p) (hv : 0 ≤ v) (hw : 0 ≤ w) (hww : w ≤ w') (hw' : w' ≤ 6000) (h : May b L E tail (p + gone v w') w') : May b L E tail (p + gone v w) w := by
  have hg := gone_mono (v := v) (w := w) (v' := v) (w' := w') hv hw (Int.le_refl _) hww
  refine ⟨?_, fun i hi => ?_⟩
  · have h1 := way_mono hb (t := 0) (by omega) _ w w' (Nat.le_refl _) hww hw hw'
    have := h.1
    omega
  · have hsp := (hL.at hi).speed
    have hm := way_mono hb (t := L[i].Speed) (by omega) _ w w' (Nat.le_refl _) hww hw hw'
    obtain ⟨h2, h3⟩ := h.2 i hi
    refine ⟨fun hc => ?_, fun hc ht => ?_⟩
    · by_cases hd : p + gone v w' ≤ beg L i
      · have := h2 hd
        omega
      · have hs2 : L[i].Speed < w' ∨ w' ≤ L[i].Speed := by omega
        rcases hs2 with hs2 | hs2
        · -- then its tail has left the piece: but the piece lies ahead
          have hbs := beg_succ hi
          have hl := (hL.at hi).length
          have hg0 := gone_bd hv hw
          have := h3 (by omega) (by omega)
          omega
        · rw [way_stop (by omega)]
          omega
    · have := h3 (by omega) ht
      omega

def pullF (s : ApiStock) (v : Int) : Int := if v = 0 then s.Start else min s.Start (Int.tdiv s.Power v)
def dragF (s : ApiStock) (v : Int) : Int := Int.tdiv (v * v) s.Drag
def gainF (s : ApiStock) (v g : Int) : Int := pullF s v - s.Roll - dragF s v - g
theorem sq_bd {v : Int} (h0 : 0 ≤ v) (h1 : v ≤ 6000) : 0 ≤ v * v ∧ v * v ≤ 36000000 := by
  refine ⟨Int.mul_nonneg h0 h0, ?_⟩
  have := Int.mul_le_mul h1 h1 h0 (by decide : (0 : Int) ≤ 6000)
  simpa using this
theorem drag_bd {s : ApiStock} (hs : Good s) {v : Int} (h0 : 0 ≤ v) (h1 : v ≤ 6000) : 0 ≤ dragF s v ∧ dragF s v ≤ 36 ∧ (v ≤ 166 → dragF s v = 0) := by
  have hd := hs.drag
  have hq := sq_bd h0 h1
  unfold dragF
  rw [Int.tdiv_eq_ediv_of_nonneg hq.1]
  refine ⟨Int.ediv_nonneg hq.1 (by omega), Int.ediv_le_of_le_mul (by omega) (by omega), fun h => ?_⟩
  have h2 := Int.mul_le_mul h h h0 (by decide : (0 : Int) ≤ 166)
  exact Int.ediv_eq_zero_of_lt hq.1 (by omega)
theorem pull_bd {s : ApiStock} (hs : Good s) {v : Int} (h0 : 0 ≤ v) (h1 : v ≤ 6000) : 1 ≤ pullF s v ∧ pullF s v ≤ 150 ∧ (v ≤ 166 → 60 ≤ pullF s v) ∧ (v ≠ 0 → 0 ≤ Int.tdiv s.Power v ∧ Int.tdiv s.Power v ≤ 2000000) := by
  have hp := hs.power
  have hst := hs.start
  unfold pullF
  by_cases hv : v = 0
  · rw [if_pos hv]
    exact ⟨by omega, by omega, fun _ => by omega, fun h => absurd hv h⟩
  · rw [if_neg hv, Int.tdiv_eq_ediv_of_nonneg (by omega)]
    have h2 : 1 ≤ s.Power / v := Int.le_ediv_of_mul_le (by omega) (by omega)
    have h3 : s.Power / v ≤ 2000000 := Int.ediv_le_of_le_mul (by omega) (by
      have : s.Power * 1 ≤ 2000000 * v := Int.mul_le_mul hp.2 (by omega) (by decide) (by decide)
      omega)
    refine ⟨by omega, by omega, fun h => ?_, fun _ => ⟨by omega, h3⟩⟩
    have h4 : 60 ≤ s.Power / v := Int.le_ediv_of_mul_le (by omega) (by omega)
    omega
theorem gain_ok {s : ApiStock} (hs : Good s) {v g : Int} (h0 : 0 ≤ v) (h1 : v ≤ 6000) (hg : -40 ≤ g ∧ g ≤ 40) :
    mRunGain s v g = some (gainF s v g) ∧ -90 ≤ gainF s v g ∧ gainF s v g ≤ 200 ∧ 0 ≤ v + gainF s v g ∧ v - (s.Brake + g) ≤ v + gainF s v g := by
  have hd := drag_bd hs h0 h1
  have hp := pull_bd hs h0 h1
  have hr := hs.roll
  have hb := hs.brake
  have hdr := hs.drag
  have hq := sq_bd h0 h1
  have hpm : mRunPull s v = some (pullF s v) := by
    unfold mRunPull pullF
    by_cases hv : v = 0
    · rw [if_pos hv, if_pos hv]
    · rw [if_neg hv, if_neg hv]
      have h2 := hp.2.2.2 hv
      simp only [ne0, if_neg hv, Option.bind_some]
      rw [chk_ok (by omega) (by omega)]
      rfl
  have hd0 : ¬ s.Drag = 0 := by omega
  refine ⟨?_, ?_, ?_, ?_, ?_⟩
  · unfold mRunGain
    rw [hpm, Option.bind_some, chk_ok (by omega) (by omega), Option.bind_some, chk_ok (by omega) (by omega), Option.bind_some]
    simp only [ne0, if_neg hd0, Option.bind_some]
    rw [show Int.tdiv (v * v) s.Drag = dragF s v from rfl, chk_ok (by omega) (by omega), Option.bind_some, chk_ok (by omega) (by omega), Option.bind_some, chk_ok (by omega) (by omega)]
    rfl
  · unfold gainF; omega
  · unfold gainF; omega
  · unfold gainF
    by_cases hv : v ≤ 166
    · have := hd.2.2 hv
      have := hp.2.2.1 hv
      omega
    · omega
  · unfold gainF; omega
noncomputable abbrev gradeM (s : ApiStock) (L : List ApiPiece) (E top : Int) (B : List Int) (p : Int) (m : List (Int × List Int)) := mRunRunnerGrade p s.Name s.Length s.Mass s.Start s.Power s.Roll s.Drag s.Brake s.Top s.Seats L E top B m
/-- Piece i is the one at p. -/
structure Here (L : List ApiPiece) (p : Int) (i : Nat) : Prop where
  lt : i < L.length
  lo : beg L i ≤ p
  hi : i + 1 < L.length → p < beg L (i + 1)
theorem grade_ok {L : List ApiPiece} (hL : WayOk L) {B : List Int} (hB : BegOk L B) {p : Int} (hp : 0 ≤ p) (s : ApiStock) (E top : Int) (m : List (Int × List Int)) :
    ∃ i, ∃ h : Here L p i, gradeM s L E top B p m = some (L[i]'h.lt).Grade := by
  have hs := hL.some_
  have hf := hL.few
  unfold gradeM mRunRunnerGrade
  obtain ⟨x, hx, i, rfl, h⟩ := loopM_inv (step := mRunRunnerGrade_L460 L B p) (fun x => ∃ i : Nat, x = (i : Int) ∧ i < L.length ∧ beg L i ≤ p) (fun x => ∃ i : Nat, x = (i : Int) ∧ Here L p i) (fun x => (L.length - x.toNat)) (fun x hx => by
    obtain ⟨i, rfl, h1, h2⟩ := hx
    unfold mRunRunnerGrade_L460
    rw [chk_ok (by omega) (by omega), Option.bind_some]
    by_cases hi : ((i : Int) + 1) < (L.length : Int)
    · rw [if_pos hi]
      simp only [Option.bind_some]
      rw [hB.idx (j := i + 1) (by omega) (by omega), Option.bind_some]
      by_cases hc : beg L (i + 1) ≤ p
      · refine .inl ⟨(i : Int) + 1, by simp [hc], ⟨i + 1, by omega, by omega, hc⟩, by omega⟩
      · exact .inr ⟨(i : Int), by simp [hc], i, rfl, h1, h2, fun _ => by omega⟩
    · rw [if_neg hi]
      exact .inr ⟨(i : Int), by simp, i, rfl, h1, h2, fun h => by omega⟩) 0 ⟨0, rfl, hs, by simpa [beg] using hp⟩
  refine ⟨i, h, ?_⟩
  rw [hx, Option.bind_some, idx_lt h.lt]
  rfl
/-- A train at p with speed v can always stop, and slow down, in time. -/
structure Safe (b : Int) (L : List ApiPiece) (E len p v : Int) : Prop where
  stop : way b 0 v ≤ E - p
  slow : ∀ (i : Nat) (hi : i < L.length), p ≤ beg L i → way b L[i].Speed v ≤ beg L i - p
  here : ∀ (i : Nat) (hi : i < L.length), beg L i < p → p - len < beg L (i + 1) → v ≤ L[i].Speed
theorem may_brake {b : Int} (hb : 1 ≤ b) {L : List ApiPiece} (hL : WayOk L) {E len p v : Int} (h0 : 0 ≤ v) (h1 : v ≤ 6000) (h : Safe b L E len p v) : May b L E (p - len) (p + gone v (max 0 (v - b))) (max 0 (v - b)) := by
  have hg := gone_bd (v := v) (w := max 0 (v - b)) h0 (by omega)
  refine ⟨?_, fun i hi => ⟨fun hc => ?_, fun hc ht => ?_⟩⟩
  · have h2 := h.stop
    by_cases hv : 0 < v
    · rw [way_go hb hv] at h2
      omega
    · obtain rfl : v = 0 := by omega
      have h3 : max 0 (0 - b) = 0 := by omega
      rw [h3, way_stop (Int.le_refl _)]
      rw [way_stop (Int.le_refl _)] at h2
      have : gone 0 0 = 0 := by decide
      omega
  · have hsp := (hL.at hi).speed
    have h2 := h.slow i hi (by omega)
    by_cases hv : L[i].Speed < v
    · rw [way_go hb hv] at h2
      by_cases hd : L[i].Speed ≤ v - b
      · have e1 : max L[i].Speed (v - b) = max 0 (v - b) := by omega
        rw [e1] at h2
        omega
      · rw [way_stop (by omega)]
        omega
    · rw [way_stop (by omega)]
      omega
  · have hsp := (hL.at hi).speed
    by_cases hp : p ≤ beg L i
    · have h2 := h.slow i hi hp
      by_cases hw : max 0 (v - b) ≤ L[i].Speed
      · exact hw
      · rw [way_go hb (by omega)] at h2
        have e1 : max L[i].Speed (v - b) = max 0 (v - b) := by omega
        rw [e1] at h2
        have h3 := way_bd hb (t := L[i].Speed) (by omega) _ (max 0 (v - b)) (Nat.le_refl _) (by omega) (by omega)
        omega
    · have := h.here i hi (by omega) ht
      omega
theorem safe_next {b : Int} {L : List ApiPiece} {E len p p' w : Int} (hp : p ≤ p') (h : May b L E (p - len) p' w) : Safe b L E len p' w :=
  ⟨h.1, fun i hi => (h.2 i hi).1, fun i hi h1 h2 => (h.2 i hi).2 h1 (by omega)⟩
/-- What one second does. -/
structure Step (s : ApiStock) (L : List ApiPiece) (E top : Int) (a c : ApiState) : Prop where
  at_ : c.At = a.At + gone a.Speed c.Speed
  speed : 0 ≤ c.Speed ∧ c.Speed ≤ top
  may : May (s.Brake - 40) L E (a.At - 100 * s.Length) c.At c.Speed
  drive : ∃ i, ∃ h : Here L a.At i, max 0 (a.Speed - (s.Brake + (L[i]'h.lt).Grade)) ≤ c.Speed ∧ c.Speed ≤ a.Speed + gainF s a.Speed (L[i]'h.lt).Grade
  work : a.Work ≤ c.Work ∧ c.Work ≤ a.Work + 100000000000
noncomputable abbrev secondM (s : ApiStock) (L : List ApiPiece) (E top : Int) (B : List Int) (a : ApiState) (m : List (Int × List Int)) := mRunRunnerSecond a s.Name s.Length s.Mass s.Start s.Power s.Roll s.Drag s.Brake s.Top s.Seats L E top B m
theorem second_ok {s : ApiStock} (hs : Good s) {L : List ApiPiece} (hL : WayOk L) {E top : Int} (hE : 0 ≤ E ∧ E ≤ 18000000) (ht : 0 ≤ top ∧ top ≤ 6000) {B : List Int} (hB : BegOk L B) {a : ApiState} (hp : 0 ≤ a.At ∧ a.At ≤ E) (hv : 0 ≤ a.Speed ∧ a.Speed ≤ top) (hw : 0 ≤ a.Work ∧ a.Work ≤ 1000000000000000)
    (hsafe : Safe (s.Brake - 40) L E (100 * s.Length) a.At a.Speed) {m : List (Int × List Int)} (hm : MemoOk (s.Brake - 40) m) :
    ∃ c m', secondM s L E top B a m = some (c.At, c.Speed, c.Work, m') ∧ MemoOk (s.Brake - 40) m' ∧ Step s L E top a c := by
  have hb := hs.brake
  have hlen := hs.length
  have hmass := hs.mass
  obtain ⟨i, hi, hgr⟩ := grade_ok hL hB hp.1 s E top m
  have hgd := (hL.at hi.lt).grade
  have hroll := hs.roll
  generalize hgg : (L[i]'hi.lt).Grade = g at hgr hgd
  obtain ⟨g1, g2, g3, g4, g5⟩ := gain_ok hs (v := a.Speed) (g := g) hv.1 (by omega) hgd
  have hdb := drag_bd hs (v := a.Speed) hv.1 (by omega)
  have hsq := sq_bd (v := a.Speed) hv.1 (by omega)
  have hdr := hs.drag
  unfold secondM mRunRunnerSecond
  unfold gradeM at hgr
  rw [hgr, Option.bind_some, Option.bind_some, chk_ok (by omega) (by omega), Option.bind_some, chk_ok (by omega) (by omega), Option.bind_some]
  rw [show (⟨s.Name, s.Length, s.Mass, s.Start, s.Power, s.Roll, s.Drag, s.Brake, s.Top, s.Seats⟩ : ApiStock) = s from rfl, g1, Option.bind_some, chk_ok (by omega) (by omega), Option.bind_some]
  have hstart : max 0 (a.Speed - (s.Brake + g)) ≤ min (a.Speed + gainF s a.Speed g) top := by omega
  have hbrake := may_brake (by omega) hL hv.1 (by omega) hsafe
  obtain ⟨r, hr, q1, q2, q3, q4⟩ := loopM_inv (step := mRunRunnerSecond_L835 L B a s.Name s.Length s.Mass s.Start s.Power s.Roll s.Drag s.Brake s.Top s.Seats E top g)
    (fun p => MemoOk (s.Brake - 40) p.2 ∧ p.1 ≤ min (a.Speed + gainF s a.Speed g) top ∧ ∃ c, max 0 (a.Speed - (s.Brake + g)) ≤ c ∧ c ≤ p.1 ∧ May (s.Brake - 40) L E (a.At - 100 * s.Length) (a.At + gone a.Speed c) c)
    (fun p => MemoOk (s.Brake - 40) p.2 ∧ p.1 ≤ min (a.Speed + gainF s a.Speed g) top ∧ max 0 (a.Speed - (s.Brake + g)) ≤ p.1 ∧ May (s.Brake - 40) L E (a.At - 100 * s.Length) (a.At + gone a.Speed p.1) p.1)
    (fun p => p.1.toNat) (fun p hpi => by
    obtain ⟨w, m1⟩ := p
    obtain ⟨i1, i2, c, i3, i4, i5⟩ := hpi
    simp only at i1 i2 i3 i4
    simp only [mRunRunnerSecond_L835, unc2]
    have hgw := gone_bd (v := a.Speed) (w := w) hv.1 (by omega)
    rw [if_pos (by omega), chk_ok (by omega) (by omega), Option.bind_some, chk_ok (by omega) (by omega), Option.bind_some, gone_model hv.1 (by omega) (by omega) (by omega), Option.bind_some, chk_ok (by omega) (by omega), Option.bind_some]
    obtain ⟨q, m2, e2, hm2, hiff⟩ := may_ok hs hL hE top hB (tail := a.At - 100 * s.Length) (at_ := a.At + gone a.Speed w) (w := w) (by omega) (by omega) (by omega) i1
    unfold mayM at e2
    rw [e2, Option.bind_some]
    simp only [unc2, Option.bind_some]
    cases q with
    | true =>
      refine .inr ⟨(w, m2), by simp, hm2, i2, by simp only; omega, hiff.1 rfl⟩
    | false =>
      have hne : c ≠ w := fun he => by
        subst he
        have := hiff.2 i5
        cases this
      refine .inl ⟨(w - 1, m2), ?_, ⟨hm2, by simp only; omega, c, i3, by simp only; omega, i5⟩, by simp only; omega⟩
      simp only [Bool.not_false, if_true]
      rw [chk_ok (by omega) (by omega)]
      rfl) (min (a.Speed + gainF s a.Speed g) top, m) ⟨hm, Int.le_refl _, min (min (a.Speed + gainF s a.Speed g) top) (max 0 (a.Speed - (s.Brake - 40))), by omega, Int.min_le_left _ _,
        may_less (by omega) hL (by omega) hv.1 (by omega) (Int.min_le_right _ _) (by omega) hbrake⟩
  obtain ⟨w, m1⟩ := r
  simp only at q1 q2 q3 q4
  have hmax : max w (max 0 (a.Speed - (s.Brake + g))) = w := by omega
  rw [hr, Option.bind_some]
  simp only [unc2, hmax]
  have hgw := gone_bd (v := a.Speed) (w := w) hv.1 (by omega)
  rw [gone_model hv.1 (by omega) (by omega) (by omega), Option.bind_some, chk_ok (by omega) (by omega), Option.bind_some, Option.bind_some]
  have hd0 : ¬ s.Drag = 0 := by omega
  simp only [ne0, if_neg hd0, Option.bind_some]
  rw [show Int.tdiv (a.Speed * a.Speed) s.Drag = dragF s a.Speed from rfl]
  rw [chk_ok (x := w - a.Speed) (by omega) (by omega), Option.bind_some, chk_ok (x := w - a.Speed + s.Roll) (by omega) (by omega), Option.bind_some, chk_ok (x := a.Speed * a.Speed) (by omega) (by omega), Option.bind_some, chk_ok (x := dragF s a.Speed) (by omega) (by omega), Option.bind_some, chk_ok (x := w - a.Speed + s.Roll + dragF s a.Speed) (by omega) (by omega), Option.bind_some, chk_ok (x := w - a.Speed + s.Roll + dragF s a.Speed + g) (by omega) (by omega), Option.bind_some]
  have hdr2 : max 0 (a.Speed - (s.Brake + (L[i]'hi.lt).Grade)) ≤ w ∧ w ≤ a.Speed + gainF s a.Speed (L[i]'hi.lt).Grade := by rw [hgg]; omega
  by_cases hu : 0 < w - a.Speed + s.Roll + dragF s a.Speed + g
  · rw [if_pos hu]
    have hub : w - a.Speed + s.Roll + dragF s a.Speed + g ≤ 6086 := by omega
    generalize w - a.Speed + s.Roll + dragF s a.Speed + g = u at hu hub
    have e1 : 0 ≤ s.Mass * u := Int.mul_nonneg (by omega) (by omega)
    have e2 : s.Mass * u ≤ 2000 * 6086 := Int.mul_le_mul (by omega) hub (by omega) (by decide)
    have hd : a.At + gone a.Speed w - a.At = gone a.Speed w := by omega
    rw [chk_ok (x := s.Mass * u) (by omega) (by omega), Option.bind_some, hd, chk_ok (x := gone a.Speed w) (by omega) (by omega), Option.bind_some]
    generalize s.Mass * u = mu at e1 e2
    have e3 : 0 ≤ mu * gone a.Speed w := Int.mul_nonneg e1 hgw.2.2
    have e4 : mu * gone a.Speed w ≤ (2000 * 6086) * 6001 := Int.mul_le_mul e2 (by omega) hgw.2.2 (by decide)
    generalize mu * gone a.Speed w = wk at e3 e4
    rw [chk_ok (x := wk) (by omega) (by omega), Option.bind_some, chk_ok (x := a.Work + wk) (by omega) (by omega), Option.bind_some, Option.bind_some]
    exact ⟨⟨a.At + gone a.Speed w, w, a.Work + wk⟩, m1, rfl, q1, rfl, ⟨by simp only; omega, by simp only; omega⟩, q4, ⟨i, hi, hdr2⟩, ⟨by simp only; omega, by simp only; omega⟩⟩
  · rw [if_neg hu, Option.bind_some]
    exact ⟨⟨a.At + gone a.Speed w, w, a.Work⟩, m1, rfl, q1, rfl, ⟨by simp only; omega, by simp only; omega⟩, q4, ⟨i, hi, hdr2⟩, ⟨by simp only; omega, by simp only; omega⟩⟩
theorem check2_spec {s : ApiStock} (hn : s.Name.size ≤ 9223372036854775807) (L : List ApiPiece) (a : ApiState) (E : Int) :
    ∃ e, mRunCheck_2 s L a E = some e ∧ (e = 0 → mRunCheck s = some 0 ∧ Good s ∧ WayOk L ∧ (0 ≤ E ∧ E ≤ beg L L.length) ∧ (0 ≤ a.At ∧ a.At ≤ E) ∧ (0 ≤ a.Speed ∧ a.Speed ≤ s.Top) ∧ (0 ≤ a.Work ∧ a.Work ≤ 1152921504606846976)) := by
  obtain ⟨e, he, hg⟩ := check_spec hn
  unfold mRunCheck_2
  rw [he, Option.bind_some]
  by_cases h0 : e ≠ 0
  · rw [if_pos h0]; exact ⟨e, rfl, fun h => absurd h h0⟩
  have h0' : e = 0 := by omega
  subst h0'
  rw [if_neg (by simp)]
  by_cases h1 : (L.length : Int) = 0
  · rw [if_pos h1]; exact ⟨1, rfl, fun h => absurd h (by decide)⟩
  rw [if_neg h1]
  by_cases h2 : 60 < (L.length : Int)
  · rw [if_pos h2]; exact ⟨4, rfl, fun h => absurd h (by decide)⟩
  rw [if_neg h2]
  rcases forM_inv (body := mRunCheck_2_L161 L) (fun k x => (∀ p ∈ L.take k, PieceOk p) ∧ x = beg L k ∧ 0 ≤ x ∧ x ≤ 300000 * k) (fun t => t = 2) L.length 0 0 ⟨by simp, rfl, by simp, by simp⟩ (fun k x _ hk hi => by
    obtain ⟨i1, i2, i3, i4⟩ := hi
    have hk' : k < L.length := by omega
    unfold mRunCheck_2_L161
    rw [idx_lt hk', Option.bind_some]
    simp only [within_eq, Option.bind_some]
    by_cases g1 : 1 ≤ L[k].Length ∧ L[k].Length ≤ 300000
    case neg => exact .inr ⟨2, by simp [g1], rfl⟩
    by_cases g2 : -40 ≤ L[k].Grade ∧ L[k].Grade ≤ 40
    case neg => exact .inr ⟨2, by simp [g1, g2], rfl⟩
    by_cases g3 : 1 ≤ L[k].Speed ∧ L[k].Speed ≤ 6000
    case neg => exact .inr ⟨2, by simp [g1, g2, g3], rfl⟩
    simp only [g1, g2, g3, and_self, decide_true, if_true, Bool.not_true, Option.bind_some]
    rw [if_neg (by decide), chk_ok (by omega) (by omega), Option.bind_some]
    refine .inl ⟨_, rfl, fun p hp => ?_, by rw [beg_succ hk', i2], by omega, by omega⟩
    rw [List.take_add_one, List.getElem?_eq_getElem hk'] at hp
    rcases List.mem_append.1 hp with h | h
    · exact i1 p h
    · simp at h
      subst h
      exact ⟨g1, g2, g3⟩) with ⟨x, e1, i1, i2, i3, i4⟩ | ⟨t, e1, e2⟩
  case inr => rw [e1, e2]; exact ⟨2, rfl, fun h => absurd h (by decide)⟩
  rw [e1]
  simp only [Option.bind_some, Sum.elim_inl, within_eq]
  have hL : WayOk L := ⟨fun p hp => i1 p (by simpa using hp), by omega, by omega⟩
  by_cases g1 : 0 ≤ E ∧ E ≤ x
  case neg => exact ⟨2, by simp [g1], fun h => absurd h (by decide)⟩
  by_cases g2 : 0 ≤ a.At ∧ a.At ≤ E
  case neg => exact ⟨2, by simp [g1, g2], fun h => absurd h (by decide)⟩
  by_cases g3 : 0 ≤ a.Speed ∧ a.Speed ≤ s.Top
  case neg => exact ⟨2, by simp [g1, g2, g3], fun h => absurd h (by decide)⟩
  by_cases g4 : 0 ≤ a.Work ∧ a.Work ≤ 1152921504606846976
  case neg => exact ⟨2, by simp [g1, g2, g3, g4], fun h => absurd h (by decide)⟩
  refine ⟨0, by simp [g1, g2, g3, g4], fun _ => ⟨trivial, hg rfl, hL, ?_, g2, g3, g4⟩⟩
  rw [i2] at g1
  simpa using g1
theorem total_bd {L : List ApiPiece} (h : WayOk L) : beg L L.length ≤ 18000000 := by
  have h1 := beg_bd h L.length (Nat.le_refl _)
  have h2 := h.few
  omega
end Go.Proofs.YtljcafilceachaaDoor
