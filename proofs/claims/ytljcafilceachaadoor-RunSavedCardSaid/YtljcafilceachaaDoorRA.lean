/- Plain: stock, braking, and RunStands. -/
import Derived.Test.YtljcafilceachaaDoorR1
import Derived.Test.YtljcafilceachaaDoorX6
set_option linter.unusedVariables false
set_option linter.unusedSimpArgs false
namespace Go.Proofs.YtljcafilceachaaDoor
open Go.RowKit Go.Fp

/- ---- package run is there ---- -/
theorem split_one (x c : UInt8) (h : (x == c) = false) : mStringsSplit (ByteArray.mk #[x]) (ByteArray.mk #[c]) = some [ByteArray.mk #[x]] := by
  have hn : ¬ x = c := by simpa using h
  have hcount : mStringsCount (ByteArray.mk #[x]) (ByteArray.mk #[c]) = some 0 := by
    have h1 : (ByteArray.mk #[c]).size = 1 := rfl
    have h2 : sIdx (ByteArray.mk #[c]) 0 = some (c.toNat : Int) := rfl
    have h3 : sCount (ByteArray.mk #[x]) (c.toNat : Int) = 0 := by
      simp [sCount, Lib.countByte, List.count_cons, h]
    simp [mStringsCount, h1, h2, h3]
  have he : sEq (ByteArray.mk #[c]) (ByteArray.mk #[]) = false := by
    simp [sEq, ByteArray.toList_eq]
  have hsz : (ByteArray.mk #[x]).size = 1 := rfl
  simp only [mStringsSplit, mStringsGenSplit, hcount, he]
  rw [if_neg (by decide), if_neg (by decide), if_pos (by decide)]
  simp only [Option.bind_some, Int.zero_add]
  rw [chk_ok (by decide) (by decide)]
  simp only [Option.bind_some, hsz]
  rw [chk_ok (by decide) (by decide)]
  simp only [Option.bind_some]
  rw [show mkLen 16 (min 1 (((1 : Nat) : Int) + 1)) = some 1 from by decide, Option.bind_some]
  rw [chk_ok (by decide) (by decide), Option.bind_some]
  rw [loopM_last (t := (ByteArray.mk #[x], 0, List.replicate 1 ByteArray.empty)) (by
    simp only [mStringsGenSplit_L419, unc3, hsz]
    rw [if_neg (by decide)]), Option.bind_some]
  simp only [unc3]
  rw [show idx (List.replicate 1 ByteArray.empty) 0 = some ByteArray.empty from rfl, Option.bind_some, chk_ok (by decide) (by decide), Option.bind_some]
  rfl
theorem awake : mFishkeep1AwakeRun = some true := by
  have hlines : mLineLines (ByteArray.mk #[120]) = some (false, [[ByteArray.mk #[120]]]) := by
    have he : sEq (ByteArray.mk #[120]) (ByteArray.mk #[]) = false := by simp [sEq, ByteArray.toList_eq]
    have hsz : (ByteArray.mk #[120]).size = 1 := rfl
    have hsz' : (ByteArray.mk #[10]).size = 1 := rfl
    have hsuf : mStringsliteHasSuffix (ByteArray.mk #[120]) (ByteArray.mk #[10]) = some false := by
      have h1 : sCut (ByteArray.mk #[120]) 0 1 = some (ByteArray.mk #[120]) := rfl
      have h2 : sEq (ByteArray.mk #[120]) (ByteArray.mk #[10]) = false := by simp [sEq, ByteArray.toList_eq]
      simp only [mStringsliteHasSuffix, hsz, hsz']
      rw [if_pos (by decide), chk_ok (by decide) (by decide)]
      simp only [Option.bind_some]
      rw [show (((1 : Nat) : Int) - ((1 : Nat) : Int)) = 0 from rfl, show (((1 : Nat) : Int)) = 1 from rfl, h1]
      simp [h2]
    have hcut : mStringsCutSuffix (ByteArray.mk #[120]) (ByteArray.mk #[10]) = some (ByteArray.mk #[120], false) := by
      simp [mStringsCutSuffix, mStringsliteCutSuffix, hsuf, unc2]
    simp only [mLineLines, he, hcut, Option.bind_some, unc2, split_one 120 10 (by decide)]
    rw [if_neg (by decide)]
    have hl : forS (mLineLines_L155 [ByteArray.mk #[120]]) 1 0 [] = some [[ByteArray.mk #[120]]] := by
      have hx : idx [ByteArray.mk #[120]] ((0 : Nat) : Int) = some (ByteArray.mk #[120]) := rfl
      have hx' : idx [ByteArray.mk #[120]] 0 = some (ByteArray.mk #[120]) := rfl
      simp [forS, mLineLines_L155, hx', split_one 120 32 (by decide), room_ok]
    rw [show [ByteArray.mk #[120]].length = 1 from rfl, hl]
    rfl
  have hsz : (ByteArray.mk #[120]).size = 1 := rfl
  simp only [mFishkeep1AwakeRun, mRunRead, hsz, hlines, Option.bind_some, unc2]
  rw [if_neg (by decide), if_neg (by decide)]
  simp [unc2]

/- ---- stock ---- -/
structure Good (s : ApiStock) : Prop where
  length : 10 ≤ s.Length ∧ s.Length ≤ 400
  mass : 10 ≤ s.Mass ∧ s.Mass ≤ 2000
  start : 60 ≤ s.Start ∧ s.Start ≤ 150
  power : 10000 ≤ s.Power ∧ s.Power ≤ 2000000
  roll : 0 ≤ s.Roll ∧ s.Roll ≤ 10
  drag : 1000000 ≤ s.Drag ∧ s.Drag ≤ 100000000
  brake : 60 ≤ s.Brake ∧ s.Brake ≤ 150
  top : 500 ≤ s.Top ∧ s.Top ≤ 6000
  seats : 0 ≤ s.Seats ∧ s.Seats ≤ 1000
theorem within_eq (x a c : Int) : mRunWithin x a c = some (decide (a ≤ x ∧ x ≤ c)) := by
  unfold mRunWithin
  by_cases h : a ≤ x <;> simp [h]
theorem name_total {s : ByteArray} (h : s.size ≤ 9223372036854775807) : ∃ q, mRunName s = some q := by
  unfold mRunName
  rw [chk_ok (by omega) (by omega), Option.bind_some]
  rcases forM_inv (body := mRunName_L75 s) (fun _ _ => True) (fun _ => True) (sBytes s).length 0 () trivial (fun j u _ hj _ => by
    unfold mRunName_L75
    rw [idx_lt (by omega), Option.bind_some]
    by_cases h1 : (sBytes s)[j] < 97
    · rw [if_pos h1]; exact .inr ⟨false, by simp, trivial⟩
    · rw [if_neg h1]
      by_cases h2 : 122 < (sBytes s)[j]
      · exact .inr ⟨false, by simp [h2], trivial⟩
      · exact .inl ⟨(), by simp [h2], trivial⟩) with ⟨u, h1, _⟩ | ⟨q, h1, _⟩
  · rw [h1]
    simp only [Option.bind_some, Sum.elim_inl]
    by_cases h2 : 1 ≤ (s.size : Int) <;> simp [h2]
  · rw [h1]; exact ⟨q, rfl⟩
theorem check_spec {s : ApiStock} (h : s.Name.size ≤ 9223372036854775807) : ∃ e, mRunCheck s = some e ∧ (e = 0 → Good s) := by
  obtain ⟨q, hq⟩ := name_total h
  unfold mRunCheck
  rw [hq, Option.bind_some]
  cases q with
  | false => exact ⟨1, by simp, fun h => absurd h (by decide)⟩
  | true =>
    rw [if_pos rfl]
    simp only [mRunNumbers, Option.bind_some, unc9]
    have step : ∀ (k : Nat) (x a c : Int), idx [s.Length, s.Mass, s.Start, s.Power, s.Roll, s.Drag, s.Brake, s.Top, s.Seats] (k : Int) = some x →
        idx [[10, 400], [10, 2000], [60, 150], [10000, 2000000], [0, 10], [1000000, 100000000], [60, 150], [500, 6000], [0, 1000]] (k : Int) = some [a, c] →
        mRunCheck_L226 s.Length s.Mass s.Start s.Power s.Roll s.Drag s.Brake s.Top s.Seats k () = if a ≤ x ∧ x ≤ c then some (.inl ()) else some (.inr 2) := by
      intro k x a c h1 h2
      unfold mRunCheck_L226
      simp only [h1, h2, Option.bind_some, show idx [a, c] 0 = some a from rfl, show idx [a, c] 1 = some c from rfl, within_eq]
      by_cases h3 : a ≤ x ∧ x ≤ c <;> simp [h3]
    have e0 := step 0 s.Length 10 400 rfl rfl
    have e1 := step 1 s.Mass 10 2000 rfl rfl
    have e2 := step 2 s.Start 60 150 rfl rfl
    have e3 := step 3 s.Power 10000 2000000 rfl rfl
    have e4 := step 4 s.Roll 0 10 rfl rfl
    have e5 := step 5 s.Drag 1000000 100000000 rfl rfl
    have e6 := step 6 s.Brake 60 150 rfl rfl
    have e7 := step 7 s.Top 500 6000 rfl rfl
    have e8 := step 8 s.Seats 0 1000 rfl rfl
    by_cases g0 : 10 ≤ s.Length ∧ s.Length ≤ 400
    case neg => rw [forM_succ_inr (m := 8) (by rw [e0, if_neg g0])]; exact ⟨2, rfl, fun h => absurd h (by decide)⟩
    rw [forM_succ_inl (m := 8) (by rw [e0, if_pos g0])]
    by_cases g1 : 10 ≤ s.Mass ∧ s.Mass ≤ 2000
    case neg => rw [forM_succ_inr (m := 7) (by rw [e1, if_neg g1])]; exact ⟨2, rfl, fun h => absurd h (by decide)⟩
    rw [forM_succ_inl (m := 7) (by rw [e1, if_pos g1])]
    by_cases g2 : 60 ≤ s.Start ∧ s.Start ≤ 150
    case neg => rw [forM_succ_inr (m := 6) (by rw [e2, if_neg g2])]; exact ⟨2, rfl, fun h => absurd h (by decide)⟩
    rw [forM_succ_inl (m := 6) (by rw [e2, if_pos g2])]
    by_cases g3 : 10000 ≤ s.Power ∧ s.Power ≤ 2000000
    case neg => rw [forM_succ_inr (m := 5) (by rw [e3, if_neg g3])]; exact ⟨2, rfl, fun h => absurd h (by decide)⟩
    rw [forM_succ_inl (m := 5) (by rw [e3, if_pos g3])]
    by_cases g4 : 0 ≤ s.Roll ∧ s.Roll ≤ 10
    case neg => rw [forM_succ_inr (m := 4) (by rw [e4, if_neg g4])]; exact ⟨2, rfl, fun h => absurd h (by decide)⟩
    rw [forM_succ_inl (m := 4) (by rw [e4, if_pos g4])]
    by_cases g5 : 1000000 ≤ s.Drag ∧ s.Drag ≤ 100000000
    case neg => rw [forM_succ_inr (m := 3) (by rw [e5, if_neg g5])]; exact ⟨2, rfl, fun h => absurd h (by decide)⟩
    rw [forM_succ_inl (m := 3) (by rw [e5, if_pos g5])]
    by_cases g6 : 60 ≤ s.Brake ∧ s.Brake ≤ 150
    case neg => rw [forM_succ_inr (m := 2) (by rw [e6, if_neg g6])]; exact ⟨2, rfl, fun h => absurd h (by decide)⟩
    rw [forM_succ_inl (m := 2) (by rw [e6, if_pos g6])]
    by_cases g7 : 500 ≤ s.Top ∧ s.Top ≤ 6000
    case neg => rw [forM_succ_inr (m := 1) (by rw [e7, if_neg g7])]; exact ⟨2, rfl, fun h => absurd h (by decide)⟩
    rw [forM_succ_inl (m := 1) (by rw [e7, if_pos g7])]
    by_cases g8 : 0 ≤ s.Seats ∧ s.Seats ≤ 1000
    case neg => rw [forM_succ_inr (m := 0) (by rw [e8, if_neg g8])]; exact ⟨2, rfl, fun h => absurd h (by decide)⟩
    rw [forM_succ_inl (m := 0) (by rw [e8, if_pos g8])]
    exact ⟨0, rfl, fun _ => ⟨g0, g1, g2, g3, g4, g5, g6, g7, g8⟩⟩

/- ---- braking ---- -/
def gone (v w : Int) : Int := Int.tdiv ((v + w) + 1) 2
theorem gone_bd {v w : Int} (hv : 0 ≤ v) (hw : 0 ≤ w) : 2 * gone v w ≤ v + w + 1 ∧ v + w ≤ 2 * gone v w ∧ 0 ≤ gone v w := by
  unfold gone
  rw [Int.tdiv_eq_ediv_of_nonneg (by omega)]
  omega
theorem gone_mono {v w v' w' : Int} (hv : 0 ≤ v) (hw : 0 ≤ w) (h1 : v ≤ v') (h2 : w ≤ w') : gone v w ≤ gone v' w' := by
  unfold gone
  rw [Int.tdiv_eq_ediv_of_nonneg (by omega), Int.tdiv_eq_ediv_of_nonneg (by omega)]
  omega
theorem gone_model {v w : Int} (hv : 0 ≤ v) (hw : 0 ≤ w) (hv' : v ≤ 100000000) (hw' : w ≤ 100000000) : mRunGone v w = some (gone v w) := by
  have := gone_bd hv hw
  unfold mRunGone
  rw [chk_ok (by omega) (by omega), Option.bind_some, chk_ok (by omega) (by omega), Option.bind_some]
  simp only [ne0, if_neg (show ¬ (2 : Int) = 0 by decide), Option.bind_some]
  rw [show Int.tdiv (v + w + 1) 2 = gone v w from rfl, chk_ok (by omega) (by omega)]
  rfl
def wayN (b t : Int) : Nat → Int → Int
  | 0, _ => 0
  | n + 1, v => if t < v then gone v (max t (v - b)) + wayN b t n (max t (v - b)) else 0
theorem wayN_stop (b t : Int) (n : Nat) (v : Int) (h : v ≤ t) : wayN b t n v = 0 := by
  cases n with
  | zero => rfl
  | succ n => simp only [wayN]; rw [if_neg (by omega)]
theorem wayN_fuel (b t : Int) (hb : 1 ≤ b) : ∀ (n m : Nat) (v : Int), (v - t).toNat ≤ n → (v - t).toNat ≤ m → wayN b t n v = wayN b t m v
  | 0, m, v, h1, _ => by rw [wayN_stop b t 0 v (by omega), wayN_stop b t m v (by omega)]
  | n + 1, 0, v, _, h2 => by rw [wayN_stop b t (n + 1) v (by omega), wayN_stop b t 0 v (by omega)]
  | n + 1, m + 1, v, h1, h2 => by
    simp only [wayN]
    by_cases h : t < v
    · rw [if_pos h, if_pos h, wayN_fuel b t hb n m (max t (v - b)) (by omega) (by omega)]
    · rw [if_neg h, if_neg h]
/-- How far a train goes until its speed is t. -/
def way (b t v : Int) : Int := wayN b t (v - t).toNat v
theorem way_stop {b t v : Int} (h : v ≤ t) : way b t v = 0 := wayN_stop b t _ v h
theorem way_go {b t v : Int} (hb : 1 ≤ b) (h : t < v) : way b t v = gone v (max t (v - b)) + way b t (max t (v - b)) := by
  unfold way
  obtain ⟨n, hn⟩ : ∃ n, (v - t).toNat = n + 1 := ⟨(v - t).toNat - 1, by omega⟩
  rw [hn]
  simp only [wayN]
  rw [if_pos h, wayN_fuel b t hb n ((max t (v - b)) - t).toNat _ (by omega) (Nat.le_refl _)]
theorem way_bd {b t : Int} (hb : 1 ≤ b) (ht : 0 ≤ t) : ∀ (n : Nat) (v : Int), (v - t).toNat ≤ n → 0 ≤ v → v ≤ 6000 → 0 ≤ way b t v ∧ way b t v ≤ 6000 * n
  | n, v, hn, h0, h1 => by
    by_cases h : t < v
    · rw [way_go hb h]
      obtain ⟨m, rfl⟩ : ∃ m, n = m + 1 := ⟨n - 1, by omega⟩
      have h2 := way_bd hb ht m (max t (v - b)) (by omega) (by omega) (by omega)
      have h3 := gone_bd (v := v) (w := max t (v - b)) h0 (by omega)
      omega
    · rw [way_stop (by omega)]
      omega
theorem way_mono {b t : Int} (hb : 1 ≤ b) (ht : 0 ≤ t) : ∀ (n : Nat) (v v' : Int), (v' - t).toNat ≤ n → v ≤ v' → 0 ≤ v → v' ≤ 6000 → way b t v ≤ way b t v'
  | n, v, v', hn, h, h0, h1 => by
    by_cases hv : t < v
    · obtain ⟨m, rfl⟩ : ∃ m, n = m + 1 := ⟨n - 1, by omega⟩
      rw [way_go hb hv, way_go hb (by omega : t < v')]
      have h2 := way_mono hb ht m (max t (v - b)) (max t (v' - b)) (by omega) (by omega) (by omega) (by omega)
      have h3 := gone_mono (v := v) (w := max t (v - b)) (v' := v') (w' := max t (v' - b)) h0 (by omega) h (by omega)
      omega
    · rw [way_stop (by omega)]
      exact (way_bd hb ht _ v' (Nat.le_refl _) (by omega) h1).1
theorem into_model {s : ApiStock} (hs : Good s) {v t : Int} (h0 : 0 ≤ v) (h1 : v ≤ 6000) (ht : 0 ≤ t) (ht' : t ≤ 6000) : mRunInto_2 s v t = some (way (s.Brake - 40) t v) := by
  have hb := hs.brake
  unfold mRunInto_2
  have hbd := way_bd (b := s.Brake - 40) (t := t) (by omega) ht _ v (Nat.le_refl _) h0 h1
  obtain ⟨r, hr, hq⟩ := loopM_inv (step := mRunInto_2_L90 s t) (fun p => 0 ≤ p.1 ∧ p.1 ≤ 6000 ∧ 0 ≤ p.2 ∧ p.2 + way (s.Brake - 40) t p.1 = way (s.Brake - 40) t v) (fun r => r = way (s.Brake - 40) t v) (fun p => (p.1 - t).toNat) (fun p hp => by
    obtain ⟨x, y⟩ := p
    obtain ⟨q1, q2, q3, q4⟩ := hp
    simp only at q1 q2 q3 q4
    simp only [mRunInto_2_L90, unc2]
    by_cases hx : t < x
    · refine .inl ⟨(max t (x - (s.Brake - 40)), y + gone x (max t (x - (s.Brake - 40)))), ?_, ?_, ?_⟩
      · rw [if_pos hx, chk_ok (by omega) (by omega), Option.bind_some, chk_ok (by omega) (by omega), Option.bind_some, gone_model q1 (by omega) (by omega) (by omega), Option.bind_some]
        have h3 := gone_bd (v := x) (w := max t (x - (s.Brake - 40))) q1 (by omega)
        have h4 := way_bd (b := s.Brake - 40) (t := t) (by omega) ht _ x (Nat.le_refl _) q1 q2
        rw [chk_ok (by omega) (by omega)]
        rfl
      · rw [way_go (by omega) hx] at q4
        have h3 := gone_bd (v := x) (w := max t (x - (s.Brake - 40))) q1 (by omega)
        exact ⟨by simp only; omega, by simp only; omega, by simp only; omega, by simp only; omega⟩
      · simp only
        omega
    · refine .inr ⟨y, by rw [if_neg hx], ?_⟩
      rw [way_stop (by omega)] at q4
      omega) (v, 0) ⟨h0, h1, by simp, by simp⟩
  rw [hr, Option.bind_some, hq]
theorem Into_model {s : ApiStock} (hc : mRunCheck s = some 0) (hs : Good s) {v t : Int} (h0 : 0 ≤ v) (h1 : v ≤ 6000) (ht : 0 ≤ t) (ht' : t ≤ 6000) : mRunInto s v t = some (way (s.Brake - 40) t v, 0) := by
  unfold mRunInto
  simp only [hc, Option.bind_some, within_eq, into_model hs h0 h1 ht ht']
  simp [h0, h1, ht, ht']
theorem Stop_model {s : ApiStock} (hc : mRunCheck s = some 0) (hs : Good s) {v : Int} (h0 : 0 ≤ v) (h1 : v ≤ 6000) : mRunStop s v = some (way (s.Brake - 40) 0 v, 0) := by
  unfold mRunStop
  rw [Into_model hc hs h0 h1 (by omega) (by omega)]
  rfl

/- ---- RunStands ---- -/
theorem standsPlain (s : ApiStock) (x t : Int) (hs : ok43 s) (hx : ok3 x) (ht : ok3 t) : mFishkeep1RunStands s x t = some true := by
  obtain ⟨e, he, hg⟩ := check_spec (s := s) hs.1
  unfold mFishkeep1RunStands
  rw [awake, Option.bind_some, if_pos rfl, he, Option.bind_some]
  by_cases h0 : e ≠ 0
  · simp [h0]
  · have h0' : e = 0 := by omega
    subst h0'
    have good := hg rfl
    have hb := good.brake
    by_cases h1 : x < 1
    · simp [h1]
    by_cases h2 : 6000 < x
    · simp [h1, h2]
    by_cases h3 : t < 0
    · simp [h1, h2, h3]
    by_cases h4 : 6000 < t
    · simp [h1, h2, h3, h4]
    rw [if_neg (by simp), if_neg h1, if_neg h2, if_neg h3]
    simp only [h4, decide_false, Option.bind_some]
    rw [if_neg (by decide), chk_ok (by omega) (by omega), Option.bind_some, chk_ok (by omega) (by omega), Option.bind_some]
    rw [Stop_model he good (by omega) (by omega), Option.bind_some]
    simp only [unc2]
    rw [Stop_model he good (by omega) (by omega), Option.bind_some]
    simp only [unc2]
    rw [chk_ok (by omega) (by omega), Option.bind_some, Stop_model he good (by omega) (by omega), Option.bind_some]
    simp only [unc2]
    have hgo := way_go (b := s.Brake - 40) (t := 0) (v := x) (by omega) (by omega)
    rw [Int.max_comm 0] at hgo
    have hm := way_mono (b := s.Brake - 40) (t := 0) (by omega) (by omega) _ (x - 1) x (Nat.le_refl _) (by omega) (by omega) (by omega)
    have hbd := way_bd (b := s.Brake - 40) (t := 0) (by omega) (by omega) _ (max (x - (s.Brake - 40)) 0) (Nat.le_refl _) (by omega) (by omega)
    have hgb := gone_bd (v := x) (w := max (x - (s.Brake - 40)) 0) (by omega) (by omega)
    simp only [ne0, if_neg (show ¬ (2 : Int) = 0 by decide), Option.bind_some]
    rw [if_neg (by decide), if_neg (by decide), if_neg (by decide), chk_ok (by omega) (by omega), Option.bind_some, chk_ok (by omega) (by omega), Option.bind_some]
    rw [show Int.tdiv (x + max (x - (s.Brake - 40)) 0 + 1) 2 = gone x (max (x - (s.Brake - 40)) 0) from rfl, chk_ok (by omega) (by omega), Option.bind_some, chk_ok (by omega) (by omega), Option.bind_some]
    rw [if_neg (by omega)]
    have hnl : ¬ way (s.Brake - 40) 0 x < way (s.Brake - 40) 0 (x - 1) := by omega
    simp only [hnl, decide_false, Option.bind_some]
    rw [if_neg (by decide), Into_model he good (by omega) (by omega) (by omega) (by omega), Option.bind_some]
    simp only [unc2]
    by_cases h5 : x ≤ t
    · rw [if_pos h5, way_stop h5]
      simp
    · rw [if_neg h5, Into_model he good (by omega) (by omega) (by omega) (by omega), Option.bind_some]
      simp only [unc2, if_true, Option.bind_some]
      have hgo2 := way_go (b := s.Brake - 40) (t := t) (v := x) (by omega) (by omega)
      rw [Int.max_comm t] at hgo2
      have hbd2 := way_bd (b := s.Brake - 40) (t := t) (by omega) (by omega) _ (max (x - (s.Brake - 40)) t) (Nat.le_refl _) (by omega) (by omega)
      have hgb2 := gone_bd (v := x) (w := max (x - (s.Brake - 40)) t) (by omega) (by omega)
      rw [chk_ok (x := x + max (x - (s.Brake - 40)) t + 1) (by omega) (by omega), Option.bind_some]
      rw [show Int.tdiv (x + max (x - (s.Brake - 40)) t + 1) 2 = gone x (max (x - (s.Brake - 40)) t) from rfl, chk_ok (by omega) (by omega), Option.bind_some, chk_ok (by omega) (by omega), Option.bind_some]
      rw [← hgo2]
      have hb3 := way_bd (b := s.Brake - 40) (t := t) (by omega) (by omega) _ x (Nat.le_refl _) (by omega) (by omega)
      simp [chk_ok (x := way (s.Brake - 40) t x) (by omega) (by omega)]
end Go.Proofs.YtljcafilceachaaDoor
