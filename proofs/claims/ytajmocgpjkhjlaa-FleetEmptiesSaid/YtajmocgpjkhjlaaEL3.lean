/- Plain: what the checks of tasks and of empty runs say. -/
import Derived.Test.YtajmocgpjkhjlaaEL2
set_option linter.unusedVariables false
set_option linter.unusedSimpArgs false
namespace Go.Proofs.Ytajmocgpjkhjlaa
open Go.RowKit Go.Fp

theorem forU {τ : Type} {body : Nat → Unit → Option (Unit ⊕ τ)} (R : Nat → Prop) (Q : τ → Prop) (m : Nat) (h : ∀ k, k < m → (body k () = some (.inl ()) ∧ R k) ∨ ∃ t, body k () = some (.inr t) ∧ Q t) :
    (forM body m 0 () = some (.inl ()) ∧ ∀ k, k < m → R k) ∨ ∃ t, forM body m 0 () = some (.inr t) ∧ Q t := by
  rcases forM_inv (body := body) (fun k _ => ∀ j, j < k → R j) Q m 0 () (fun j hj => absurd hj (by omega)) (fun k s _ hk hi => by
    rcases h k (by omega) with ⟨h1, h2⟩ | h1
    · refine .inl ⟨(), h1, fun j hj => ?_⟩
      by_cases e : j = k
      · subst e; exact h2
      · exact hi j (by omega)
    · exact .inr h1) with ⟨s, h1, h2⟩ | h1
  · exact .inl ⟨h1, fun k hk => h2 k (by omega)⟩
  · exact .inr h1
theorem forU_ok {τ : Type} {body : Nat → Unit → Option (Unit ⊕ τ)} (m : Nat) (h : ∀ k, k < m → body k () = some (.inl ())) : forM body m 0 () = some (.inl ()) := by
  rcases forU (body := body) (fun _ => True) (fun _ => False) m (fun k hk => .inl ⟨h k hk, trivial⟩) with ⟨h1, _⟩ | ⟨_, _, h⟩
  · exact h1
  · exact h.elim
theorem within_eq (x a b : Int) : mFleetWithin x a b = some (decide (a ≤ x ∧ x ≤ b)) := by
  unfold mFleetWithin
  by_cases h : a ≤ x <;> simp [h]
theorem rwithin_eq (x a b : Int) : mFishref2Within x a b = some (decide (a ≤ x ∧ x ≤ b)) := within_eq x a b
def OkTask (t : FleetTask) : Prop := (0 ≤ t.From ∧ t.From ≤ 11) ∧ (0 ≤ t.To ∧ t.To ≤ 11) ∧ (0 ≤ t.Dep ∧ t.Dep ≤ 28800) ∧ (0 ≤ t.Arr ∧ t.Arr ≤ 28800) ∧ t.Dep < t.Arr ∧ (0 ≤ t.Km ∧ t.Km ≤ 10000) ∧ (1 ≤ t.Units ∧ t.Units ≤ 4)
theorem taskBody (l : List FleetTask) (k : Nat) (h : k < l.length) : (mFishref2TasksFault_L128 l k () = some (.inl ()) ∧ OkTask l[k]) ∨ ∃ c, mFishref2TasksFault_L128 l k () = some (.inr c) ∧ (c ≠ 0 ∧ ¬ OkTask l[k]) := by
  unfold mFishref2TasksFault_L128 OkTask
  rw [idx_lt h]
  simp only [Option.bind_some, rwithin_eq]
  generalize l[k] = t
  by_cases h1 : 0 ≤ t.From ∧ t.From ≤ 11
  · by_cases h2 : 0 ≤ t.To ∧ t.To ≤ 11
    · by_cases h3 : 0 ≤ t.Dep ∧ t.Dep ≤ 28800
      · by_cases h4 : 0 ≤ t.Arr ∧ t.Arr ≤ 28800
        · by_cases h5 : t.Arr ≤ t.Dep
          · exact .inr ⟨13, by simp [h1, h2, h3, h4, h5], by omega⟩
          · by_cases h6 : 0 ≤ t.Km ∧ t.Km ≤ 10000
            · by_cases h7 : 1 ≤ t.Units ∧ t.Units ≤ 4
              · exact .inl ⟨by simp [h1, h2, h3, h4, h5, h6, h7], by omega⟩
              · exact .inr ⟨2, by simp [h1, h2, h3, h4, h5, h6, h7], by omega⟩
            · exact .inr ⟨2, by simp [h1, h2, h3, h4, h5, h6], by omega⟩
        · exact .inr ⟨2, by simp [h1, h2, h3, h4], by omega⟩
      · exact .inr ⟨2, by simp [h1, h2, h3], by omega⟩
    · exact .inr ⟨2, by simp [h1, h2], by omega⟩
  · exact .inr ⟨2, by simp [h1], by omega⟩
theorem tasks_spec (l : List FleetTask) : ∃ c, mFishref2TasksFault l = some c ∧ (c = 0 ↔ l.length ≤ 40 ∧ ∀ t ∈ l, OkTask t) := by
  unfold mFishref2TasksFault
  by_cases h40 : 40 < (l.length : Int)
  · exact ⟨4, by rw [if_pos h40], by omega⟩
  rw [if_neg h40]
  rcases forU (body := mFishref2TasksFault_L128 l) (fun k => ∀ h : k < l.length, OkTask l[k]) (fun c => c ≠ 0 ∧ ¬ ∀ t ∈ l, OkTask t) l.length (fun k hk => by
    rcases taskBody l k hk with ⟨h1, h2⟩ | ⟨c, h1, h2, h3⟩
    · exact .inl ⟨h1, fun _ => h2⟩
    · exact .inr ⟨c, h1, h2, fun hall => h3 (hall _ (List.getElem_mem _))⟩) with ⟨h1, h2⟩ | ⟨c, h1, h2, h3⟩
  · rw [h1]
    refine ⟨0, rfl, ⟨fun _ => ⟨by omega, fun t ht => ?_⟩, fun _ => rfl⟩⟩
    obtain ⟨j, hj, rfl⟩ := List.getElem_of_mem ht
    exact h2 j hj hj
  · rw [h1]
    exact ⟨c, rfl, ⟨fun h => absurd h h2, fun h => absurd h.2 h3⟩⟩
theorem checkTasks_eq (l : List FleetTask) : mFleetCheckTasks l = mFishref2TasksFault l := rfl
structure TurnOk (l : List FleetTask) (x : Int) : Prop where
  n40 : l.length ≤ 40
  tasks : ∀ t ∈ l, OkTask t
  turn : 0 ≤ x ∧ x ≤ 28800
theorem turn_spec (l : List FleetTask) (x : Int) : ∃ c, mFishref2TurnFault l x = some c ∧ (c = 0 ↔ TurnOk l x) := by
  unfold mFishref2TurnFault
  obtain ⟨c, h1, h2⟩ := tasks_spec l
  rw [h1, Option.bind_some]
  by_cases hc : c = 0
  · rw [if_neg (by simpa using hc), rwithin_eq, Option.bind_some]
    by_cases hx : 0 ≤ x ∧ x ≤ 28800
    · rw [decide_eq_true hx, if_pos rfl]
      exact ⟨0, rfl, ⟨fun _ => ⟨(h2.1 hc).1, (h2.1 hc).2, hx⟩, fun _ => rfl⟩⟩
    · rw [decide_eq_false hx, if_neg (by decide)]
      exact ⟨2, rfl, ⟨fun h => absurd h (by decide), fun h => absurd h.turn hx⟩⟩
  · rw [if_pos hc]
    exact ⟨c, rfl, ⟨fun h => absurd h hc, fun h => absurd (h2.2 ⟨h.n40, h.tasks⟩) hc⟩⟩
theorem checkTurn_eq (l : List FleetTask) (x : Int) : mFleetCheckTurn l x = mFishref2TurnFault l x := rfl
theorem checkTurn_ok {l : List FleetTask} {x : Int} (h : TurnOk l x) : mFleetCheckTurn l x = some 0 := by
  obtain ⟨c, h1, h2⟩ := turn_spec l x
  rw [checkTurn_eq, h1, h2.2 h]
/- ---- tables of seconds ---- -/
def tb (T : List (List Int)) (i j : Nat) : Int := at_ ((T[i]?).getD []) j
structure Dim (T : List (List Int)) : Prop where
  len : T.length = 12
  row : ∀ i (h : i < T.length), (T[i]).length = 12
theorem Dim.at {T : List (List Int)} (h : Dim T) {i : Nat} (hi : i < 12) : ∃ r : List Int, idx T (i : Int) = some r ∧ r.length = 12 ∧ ∀ j, tb T i j = at_ r j := by
  have hi' : i < T.length := by rw [h.len]; exact hi
  refine ⟨T[i], idx_lt hi', h.row i hi', fun j => ?_⟩
  unfold tb
  rw [List.getElem?_eq_getElem hi']
  rfl
structure SecOk (T : List (List Int)) : Prop where
  dim : Dim T
  val : ∀ i j, i < 12 → j < 12 → 0 ≤ tb T i j ∧ tb T i j ≤ 28800
  diag : ∀ i, i < 12 → tb T i i = 0
  tri : ∀ a b c, a < 12 → b < 12 → c < 12 → tb T a c ≤ tb T a b + tb T b c
def RunOk (T : List (List Int)) (t : FleetTask) : Prop := tb T t.From.toNat t.To.toNat ≤ t.Arr - t.Dep
theorem cellVal (i j : Nat) {r : List Int} (hr : r.length = 12) (hj : j < 12) : (mFishref2EmptyFault_L1641 i r j () = some (.inl ()) ∧ (0 ≤ at_ r j ∧ at_ r j ≤ 28800) ∧ (i = j → at_ r j = 0)) ∨ ∃ t, mFishref2EmptyFault_L1641 i r j () = some (.inr t) ∧ (∃ c : Int, t = .inr c ∧ c ≠ 0) ∧ ¬ ((0 ≤ at_ r j ∧ at_ r j ≤ 28800) ∧ (i = j → at_ r j = 0)) := by
  unfold mFishref2EmptyFault_L1641
  rw [idx_at (by omega), Option.bind_some, rwithin_eq, Option.bind_some]
  by_cases h1 : 0 ≤ at_ r j ∧ at_ r j ≤ 28800
  · rw [decide_eq_true h1, if_pos rfl]
    by_cases h2 : i = j
    · rw [if_pos (by omega), Option.bind_some]
      by_cases h3 : at_ r j = 0
      · rw [decide_eq_false (by simpa using h3), if_neg (by decide)]
        exact .inl ⟨rfl, h1, fun _ => h3⟩
      · rw [decide_eq_true h3, if_pos rfl]
        exact .inr ⟨_, rfl, ⟨1, rfl, by decide⟩, fun h => h3 (h.2 h2)⟩
    · rw [if_neg (by omega), Option.bind_some, if_neg (by decide)]
      exact .inl ⟨rfl, h1, fun h => absurd h h2⟩
  · rw [decide_eq_false h1, if_neg (by decide)]
    exact .inr ⟨_, rfl, ⟨2, rfl, by decide⟩, fun h => h1 h.1⟩
theorem cellTri {T : List (List Int)} (hD : Dim T) (hV : ∀ i j, i < 12 → j < 12 → 0 ≤ tb T i j ∧ tb T i j ≤ 28800) {a b c : Nat} (ha : a < 12) (hb : b < 12) (hc : c < 12) : (mFishref2EmptyFault_L2593 T a b c () = some (.inl ()) ∧ tb T a c ≤ tb T a b + tb T b c) ∨ (mFishref2EmptyFault_L2593 T a b c () = some (.inr (.inr (.inr 1))) ∧ ¬ tb T a c ≤ tb T a b + tb T b c) := by
  obtain ⟨ra, a1, a2, a3⟩ := hD.at ha
  obtain ⟨rb, b1, b2, b3⟩ := hD.at hb
  have v1 := hV a b ha hb
  have v2 := hV b c hb hc
  unfold mFishref2EmptyFault_L2593
  rw [a1]
  simp only [Option.bind_some]
  rw [idx_at (show c < ra.length by omega), idx_at (show b < ra.length by omega), b1]
  simp only [Option.bind_some]
  rw [idx_at (show c < rb.length by omega)]
  simp only [Option.bind_some]
  rw [← a3, ← a3, ← b3, chk_ok (by omega) (by omega), Option.bind_some]
  by_cases h : tb T a b + tb T b c < tb T a c
  · rw [if_pos h]
    exact .inr ⟨rfl, by omega⟩
  · rw [if_neg h]
    exact .inl ⟨rfl, by omega⟩
theorem runCell {T : List (List Int)} (hD : Dim T) {t : FleetTask} (h : OkTask t) : ∃ r, idx T t.From = some r ∧ idx r t.To = some (tb T t.From.toNat t.To.toNat) := by
  obtain ⟨r, r1, r2, r3⟩ := hD.at (i := t.From.toNat) (by unfold OkTask at h; omega)
  refine ⟨r, ?_, ?_⟩
  · rw [show t.From = ((t.From.toNat : Nat) : Int) by unfold OkTask at h; omega]
    exact r1
  · rw [r3, ← idx_at (show t.To.toNat < r.length by unfold OkTask at h; omega)]
    congr 1
    unfold OkTask at h
    omega
structure EmptyOk (l : List FleetTask) (x : Int) (T : List (List Int)) : Prop where
  turn : TurnOk l x
  n20 : l.length ≤ 20
  sec : SecOk T
  run : ∀ t ∈ l, RunOk T t
theorem empty_spec (l : List FleetTask) (x : Int) (T : List (List Int)) : ∃ c, mFishref2EmptyFault l x T = some c ∧ (c = 0 → EmptyOk l x T) := by
  unfold mFishref2EmptyFault
  obtain ⟨c, h1, h2⟩ := turn_spec l x
  rw [h1, Option.bind_some]
  by_cases hc : c = 0
  · rw [if_neg (by simpa using hc)]
    have ht := h2.1 hc
    by_cases h20 : 20 < (l.length : Int)
    · rw [if_pos h20]
      exact ⟨4, rfl, fun h => absurd h (by decide)⟩
    · rw [if_neg h20]
      by_cases h12 : (T.length : Int) ≠ 12
      · rw [if_pos h12]
        exact ⟨1, rfl, fun h => absurd h (by decide)⟩
      · rw [if_neg h12]
        rcases forU (body := mFishref2EmptyFault_L1520 T) (fun k => ∀ h : k < T.length, (T[k]).length = 12) (fun c => c ≠ 0) T.length (fun k hk => by
          unfold mFishref2EmptyFault_L1520
          rw [idx_lt hk, Option.bind_some]
          by_cases h : ((T[k]).length : Int) ≠ 12
          · rw [if_pos h]
            exact .inr ⟨1, rfl, by decide⟩
          · rw [if_neg h]
            exact .inl ⟨rfl, fun _ => by omega⟩) with ⟨g1, g2⟩ | ⟨c, g1, g2⟩
        · have hD : Dim T := ⟨by omega, fun i hi => g2 i hi hi⟩
          rw [g1, Option.bind_some]
          simp only [Sum.elim_inl]
          rcases forU (body := mFishref2EmptyFault_L1558 T) (fun i => ∀ j, j < 12 → (0 ≤ tb T i j ∧ tb T i j ≤ 28800) ∧ (i = j → tb T i j = 0)) (fun c => c ≠ 0) T.length (fun i hi => by
            obtain ⟨r, r1, r2, r3⟩ := hD.at (i := i) (by omega)
            unfold mFishref2EmptyFault_L1558
            rw [r1, Option.bind_some]
            rcases forU (body := mFishref2EmptyFault_L1641 i r) (fun j => (0 ≤ at_ r j ∧ at_ r j ≤ 28800) ∧ (i = j → at_ r j = 0)) (fun t => ∃ c : Int, t = .inr c ∧ c ≠ 0) r.length (fun j hj => by
              rcases cellVal i j r2 (by omega) with h | ⟨t, t1, t2, _⟩
              · exact .inl h
              · exact .inr ⟨t, t1, t2⟩) with ⟨q1, q2⟩ | ⟨t, q1, c, rfl, q3⟩
            · rw [q1]
              exact .inl ⟨rfl, fun j hj => by rw [r3]; exact q2 j (by omega)⟩
            · rw [q1]
              exact .inr ⟨c, rfl, q3⟩) with ⟨v1, v2⟩ | ⟨c, v1, v3⟩
          · have hV : ∀ i j, i < 12 → j < 12 → 0 ≤ tb T i j ∧ tb T i j ≤ 28800 := fun i j hi hj => (v2 i (by omega) j hj).1
            rw [v1, Option.bind_some]
            simp only [Sum.elim_inl]
            rcases forU (body := mFishref2EmptyFault_L1695 T) (fun a => ∀ b c, b < 12 → c < 12 → tb T a c ≤ tb T a b + tb T b c) (fun c => c ≠ 0) T.length (fun a ha => by
              unfold mFishref2EmptyFault_L1695
              rcases forU (body := mFishref2EmptyFault_L2294 T a) (fun b => ∀ c, c < 12 → tb T a c ≤ tb T a b + tb T b c) (fun t => t = .inr 1) T.length (fun b hb => by
                unfold mFishref2EmptyFault_L2294
                rcases forU (body := mFishref2EmptyFault_L2593 T a b) (fun c => tb T a c ≤ tb T a b + tb T b c) (fun t => t = .inr (.inr 1)) T.length (fun c hc => by
                  rcases cellTri hD hV (a := a) (b := b) (c := c) (by omega) (by omega) (by omega) with h | ⟨h, _⟩
                  · exact .inl h
                  · exact .inr ⟨_, h, rfl⟩) with ⟨q1, q2⟩ | ⟨t, q1, rfl⟩
                · rw [q1]
                  exact .inl ⟨rfl, fun c hc => q2 c (by omega)⟩
                · rw [q1]
                  exact .inr ⟨_, rfl, rfl⟩) with ⟨q1, q2⟩ | ⟨t, q1, rfl⟩
              · rw [q1]
                exact .inl ⟨rfl, fun b c hb hc => q2 b (by omega) c hc⟩
              · rw [q1]
                exact .inr ⟨1, rfl, by decide⟩) with ⟨w1, w2⟩ | ⟨c, w1, w3⟩
            · rw [w1, Option.bind_some]
              simp only [Sum.elim_inl]
              rcases forU (body := mFishref2EmptyFault_L2889 l T) (fun k => ∀ h : k < l.length, RunOk T l[k]) (fun c => c ≠ 0) l.length (fun k hk => by
                have ho := ht.tasks _ (List.getElem_mem hk)
                obtain ⟨r, r1, r2⟩ := runCell hD ho
                unfold mFishref2EmptyFault_L2889 RunOk
                rw [idx_lt hk, Option.bind_some, r1, Option.bind_some, r2, Option.bind_some, chk_ok (by unfold OkTask at ho; omega) (by unfold OkTask at ho; omega), Option.bind_some]
                by_cases h : (l[k]).Arr - (l[k]).Dep < tb T (l[k]).From.toNat (l[k]).To.toNat
                · rw [if_pos h]
                  exact .inr ⟨1, rfl, by decide⟩
                · rw [if_neg h]
                  exact .inl ⟨rfl, fun _ => by omega⟩) with ⟨z1, z2⟩ | ⟨c, z1, z3⟩
              · rw [z1]
                refine ⟨0, rfl, fun _ => ⟨ht, by omega, ⟨hD, hV, fun i hi => (v2 i (by omega) i hi).2 rfl, fun a b c ha hb hc => w2 a (by omega) b c hb hc⟩, fun t ht => ?_⟩⟩
                obtain ⟨j, hj, rfl⟩ := List.getElem_of_mem ht
                exact z2 j hj hj
              · rw [z1]
                exact ⟨c, rfl, fun h => absurd h z3⟩
            · rw [w1]
              exact ⟨c, rfl, fun h => absurd h w3⟩
          · rw [v1]
            exact ⟨c, rfl, fun h => absurd h v3⟩
        · rw [g1]
          exact ⟨c, rfl, fun h => absurd h g2⟩
  · rw [if_pos hc]
    exact ⟨c, rfl, fun h => absurd h hc⟩
theorem tri_eq (T : List (List Int)) (a b c : Nat) : mFleetCheckSecs_L2414 T a b c = mFishref2EmptyFault_L2593 T a b c := rfl
theorem val_eq (i : Nat) (r : List Int) (j : Nat) : mFleetCheckSecs_L1462 i r j = mFishref2EmptyFault_L1641 i r j := rfl
theorem check_ok {l : List FleetTask} {x : Int} {T : List (List Int)} (h : EmptyOk l x T) : mFleetCheckSecs l x T = some 0 := by
  unfold mFleetCheckSecs
  have hD := h.sec.dim
  have hl := hD.len
  have h20 := h.n20
  rw [checkTurn_ok h.turn, Option.bind_some, if_neg (by decide), if_neg (by omega), if_neg (by omega)]
  have c1 : mSlicesContainsFunc T = some false := by
    unfold mSlicesContainsFunc mSlicesIndexFunc
    rw [forU_ok (body := mSlicesIndexFunc_L48 T) T.length (fun k hk => by
      have := hD.row k hk
      unfold mSlicesIndexFunc_L48 mFleetCheckSecs_1
      rw [idx_lt hk, Option.bind_some, Option.bind_some, decide_eq_false (by omega), if_neg (by decide)])]
    rfl
  have c2 : mSlicesContainsFunc_2 l T = some false := by
    unfold mSlicesContainsFunc_2 mSlicesIndexFunc_2
    rw [forU_ok (body := mSlicesIndexFunc_2_L51 l T) l.length (fun k hk => by
      have ho := h.turn.tasks _ (List.getElem_mem hk)
      have hr := h.run _ (List.getElem_mem hk)
      obtain ⟨r, r1, r2⟩ := runCell hD ho
      unfold RunOk at hr
      unfold mSlicesIndexFunc_2_L51 mFleetCheckSecs_2
      rw [idx_lt hk, Option.bind_some, r1, Option.bind_some, r2, Option.bind_some, chk_ok (by unfold OkTask at ho; omega) (by unfold OkTask at ho; omega), Option.bind_some, Option.bind_some, decide_eq_false (by omega), if_neg (by decide)])]
    rfl
  have c3 : forM (mFleetCheckSecs_L1379 T) T.length 0 () = some (.inl ()) := forU_ok _ (fun i hi => by
    obtain ⟨r, r1, r2, r3⟩ := hD.at (i := i) (by omega)
    unfold mFleetCheckSecs_L1379
    rw [r1, Option.bind_some, forU_ok (body := mFleetCheckSecs_L1462 i r) r.length (fun j hj => by
      rw [val_eq]
      rcases cellVal i j r2 (by omega) with ⟨q, _⟩ | ⟨t, _, _, t3⟩
      · exact q
      · refine absurd ⟨?_, fun e => ?_⟩ t3
        · rw [← r3]; exact h.sec.val i j (by omega) (by omega)
        · rw [← r3, ← e]; exact h.sec.diag i (by omega))]
    rfl)
  have c4 : forM (mFleetCheckSecs_L1516 T) T.length 0 () = some (.inl ()) := forU_ok _ (fun a ha => by
    unfold mFleetCheckSecs_L1516
    rw [forU_ok (body := mFleetCheckSecs_L2115 T a) T.length (fun b hb => by
      unfold mFleetCheckSecs_L2115
      rw [forU_ok (body := mFleetCheckSecs_L2414 T a b) T.length (fun c hc => by
        rw [tri_eq]
        rcases cellTri hD h.sec.val (a := a) (b := b) (c := c) (by omega) (by omega) (by omega) with ⟨q, _⟩ | ⟨_, q⟩
        · exact q
        · exact absurd (h.sec.tri a b c (by omega) (by omega) (by omega)) q)]
      rfl)]
    rfl)
  rw [c1, Option.bind_some, Option.bind_some, if_neg (by decide), c3, Option.bind_some]
  simp only [Sum.elim_inl]
  rw [c4, Option.bind_some]
  simp only [Sum.elim_inl]
  rw [c2, Option.bind_some, if_neg (by decide)]
end Go.Proofs.Ytajmocgpjkhjlaa
