/- Plain: the order of tasks (at most 20), and the turns without empty runs as a matching. -/
import Derived.Test.YtajmocgpjkhjlaaEL4
import Derived.Test.YtajmocgpjkhjlaaES4
set_option linter.unusedVariables false
set_option linter.unusedSimpArgs false
namespace Go.Proofs.Ytajmocgpjkhjlaa
open Go.RowKit Go.Fp

def iota (n : Nat) : List Int := (List.range n).map (fun i : Nat => (i : Int))
theorem iota_get {n j : Nat} (h : j < n) : (iota n)[j]? = some (j : Int) := by
  unfold iota
  rw [List.getElem?_map, List.getElem?_range h]
  rfl
theorem iota_mem {n : Nat} {y : Int} (h : y ∈ iota n) : 0 ≤ y ∧ y < (n : Int) := by
  obtain ⟨i, hi, rfl⟩ := List.mem_map.1 h
  have := List.mem_range.1 hi
  omega
theorem iota_len (n : Nat) : (iota n).length = n := by
  unfold iota
  rw [List.length_map, List.length_range]
theorem iota_lt (n : Nat) : (iota n).Pairwise (· < ·) := by
  rw [List.pairwise_iff_getElem]
  intro i j hi hj hij
  rw [iota_len] at hi hj
  have e1 := iota_get hi
  have e2 := iota_get hj
  rw [List.getElem?_eq_getElem (by rw [iota_len]; exact hi)] at e1
  rw [List.getElem?_eq_getElem (by rw [iota_len]; exact hj)] at e2
  injection e1 with e1
  injection e2 with e2
  rw [e1, e2]
  omega
theorem sort_small {l : List FleetTask} {S : List Int} (hn : S.length ≤ 20) (hv : ∀ y ∈ S, Valid l y) (hs : S.Pairwise (· < ·)) : ∃ o, mSlicesSortStableFunc l S = some o ∧ o.Perm S := by
  obtain ⟨S', h1, h2, h3⟩ := insertion_pieces (T := l) [] S [] hv hs (by simp; omega)
  simp only [List.nil_append, List.append_nil, List.length_nil, Nat.zero_add] at h1
  have hl := h2.length_eq
  unfold mSlicesSortStableFunc mSlicesStableCmpFunc
  have tail : ∀ U : List Int, loopM (mSlicesStableCmpFunc_L655 (S.length : Int) l) (20, U) = some U := fun U => loopM_last (by
    unfold mSlicesStableCmpFunc_L655
    show (if (20 : Int) < (S.length : Int) then _ else some (Sum.inr U)) = _
    rw [if_neg (by omega)])
  by_cases h20 : S.length = 20
  · have e1 : mSlicesStableCmpFunc_L604 (S.length : Int) l (0, 20, S) = some (.inl (20, 40, S')) := by
      unfold mSlicesStableCmpFunc_L604
      show (if (20 : Int) ≤ (S.length : Int) then ((mSlicesInsertionSortCmpFunc 0 20 l S).bind fun l640 => (chk (20 + 20)).bind fun _ => some (Sum.inl (20, 20 + 20, l640))) else some (Sum.inr (0, S))) = _
      rw [if_pos (by omega)]
      have : mSlicesInsertionSortCmpFunc 0 20 l S = some S' := by
        have := h1
        rw [h20] at this
        exact this
      rw [this]
      rfl
    have e2 : mSlicesStableCmpFunc_L604 (S.length : Int) l (20, 40, S') = some (.inr (20, S')) := by
      unfold mSlicesStableCmpFunc_L604
      show (if (40 : Int) ≤ (S.length : Int) then _ else some (Sum.inr (20, S'))) = _
      rw [if_neg (by omega)]
    rw [loopM_next e1, loopM_last e2, pass2]
    obtain ⟨S2, g1, g2, _⟩ := insertion_pieces (T := l) S' [] [] (fun y hy => by cases hy) List.Pairwise.nil (by simp; omega)
    have hS2 : S2 = [] := List.length_eq_zero_iff.1 (by simpa using g2.length_eq)
    subst hS2
    simp only [List.append_nil, List.length_nil, Nat.add_zero] at g1
    have : mSlicesInsertionSortCmpFunc 20 (S.length : Int) l S' = some S' := by
      rw [hl, h20] at g1
      rw [h20]
      exact g1
    rw [this, Option.bind_some, tail]
    exact ⟨S', rfl, h2⟩
  · have e1 : mSlicesStableCmpFunc_L604 (S.length : Int) l (0, 20, S) = some (.inr (0, S)) := by
      unfold mSlicesStableCmpFunc_L604
      show (if (20 : Int) ≤ (S.length : Int) then _ else some (Sum.inr (0, S))) = _
      rw [if_neg (by omega)]
    rw [loopM_last e1, pass2]
    have : mSlicesInsertionSortCmpFunc 0 (S.length : Int) l S = some S' := h1
    rw [this, Option.bind_some, tail]
    exact ⟨S', rfl, h2⟩
theorem order_small {l : List FleetTask} (hn : l.length ≤ 20) : ∃ o, mFleetOrder l = some o ∧ o.Perm (iota l.length) := by
  unfold mFleetOrder
  rw [mkLen_ok (by omega) (by omega), Option.bind_some, List.length_replicate]
  obtain ⟨u, h1, h2, h3⟩ := forS_inv (body := mFleetOrder_L103) (fun k (u : List Int) => u.length = l.length ∧ ∀ j, j < k → u[j]? = some (j : Int)) l.length 0 (List.replicate l.length (0 : Int)) ⟨List.length_replicate, fun j hj => absurd hj (by omega)⟩ (fun k u _ hk hi => by
    unfold mFleetOrder_L103
    rw [idx_lt (show k < u.length by omega), Option.bind_some]
    refine ⟨_, rfl, by rw [put_length]; exact hi.1, fun j hj => ?_⟩
    rw [put_nat]
    by_cases e : k = j
    · subst e
      rw [List.getElem?_set_self (by omega)]
    · rw [List.getElem?_set_ne e]
      exact hi.2 j (by omega))
  have hu : u = iota l.length := by
    apply List.ext_getElem?
    intro j
    by_cases hj : j < l.length
    · rw [h3 j (by omega), iota_get hj]
    · rw [List.getElem?_eq_none (by omega), List.getElem?_eq_none (by rw [iota_len]; omega)]
  rw [h1, Option.bind_some, hu]
  obtain ⟨o, o1, o2⟩ := sort_small (l := l) (S := iota l.length) (by rw [iota_len]; exact hn) (fun y hy => iota_mem hy) (iota_lt _)
  rw [o1]
  exact ⟨o, rfl, o2⟩
/- ---- turns without empty runs ---- -/
def Foll (l : List FleetTask) (x : Int) (a b : Nat) : Prop := (tk l b).From = (tk l a).To ∧ (tk l a).Arr + x ≤ (tk l b).Dep
theorem follows_eq {s t : FleetTask} {x : Int} (hs : OkTask s) (hx : 0 ≤ x ∧ x ≤ 28800) : ∃ b, mFleetFollows s t x = some b ∧ (b = true ↔ t.From = s.To ∧ s.Arr + x ≤ t.Dep) := by
  unfold mFleetFollows
  unfold OkTask at hs
  by_cases h : t.From = s.To
  · rw [if_pos h, chk_ok (by omega) (by omega), Option.bind_some, Option.bind_some]
    exact ⟨_, rfl, by simp [h]⟩
  · rw [if_neg h]
    exact ⟨false, rfl, ⟨fun h => absurd h (by decide), fun h' => absurd h'.1 h⟩⟩
structure TI (l : List FleetTask) (x : Int) (o : List Int) (k : Nat) (T : List (List Int)) (la : Nat → Nat) (Q : Nat → Int) : Prop where
  rows : ∀ s, s < T.length → ∃ row, T[s]? = some row ∧ 0 < row.length ∧ row[row.length - 1]? = some (la s : Int) ∧ row.length ≤ k
  tl : T.length ≤ k
  lp : ∀ s, s < T.length → (la s : Int) ∈ o.take k
  li : ∀ s s', s < T.length → s' < T.length → la s = la s' → s = s'
  qn : ∀ b : Nat, (b : Int) ∉ o.take k → Q b = -1
  qe : ∀ b, b < l.length → Q b = -1 ∨ (0 ≤ Q b ∧ Q b < (l.length : Int) ∧ Foll l x (Q b).toNat b)
  qi : ∀ b b', b < l.length → b' < l.length → 0 ≤ Q b → Q b = Q b' → b = b'
  ql : ∀ s, s < T.length → ∀ b, b < l.length → Q b ≠ (la s : Int)
  qp : ∀ b, b < l.length → 0 ≤ Q b → Q b ∈ o.take k
  cnt : T.length = ((o.take k).filter (fun i => decide (Q i.toNat < 0))).length
section
variable {l : List FleetTask} {x : Int} {o : List Int}
theorem pick_spec (h : TurnOk l x) {T : List (List Int)} {la : Nat → Nat} (hl : ∀ s, s < T.length → la s < l.length) {K : Nat} (hK : K ≤ 1000) (hrows : ∀ s, s < T.length → ∃ row, T[s]? = some row ∧ 0 < row.length ∧ row[row.length - 1]? = some (la s : Int) ∧ row.length ≤ K) {k : Nat} (hk : k < l.length) :
    ∃ b, forS (mFleetTurns_L23978 l x T (k : Int)) T.length 0 (-1) = some b ∧ (b = -1 ∨ ∃ s, s < T.length ∧ b = (s : Int) ∧ Foll l x (la s) k) := by
  obtain ⟨b, h1, h2⟩ := forS_inv (body := mFleetTurns_L23978 l x T (k : Int)) (fun _ b => b = -1 ∨ ∃ s, s < T.length ∧ b = (s : Int) ∧ Foll l x (la s) k) T.length 0 (-1) (.inl rfl) (fun s b _ hs hi => by
    have hs' : s < T.length := by omega
    obtain ⟨row, r1, r2, r3, r4⟩ := hrows s hs'
    have hla := hl s hs'
    unfold mFleetTurns_L23978
    rw [idx_nat r1, Option.bind_some, chk_ok (by omega) (by omega), Option.bind_some, show (row.length : Int) - 1 = ((row.length - 1 : Nat) : Int) by omega, idx_nat r3, Option.bind_some]
    by_cases e : (la s : Int) ≠ (k : Int)
    · obtain ⟨f, f1, f2⟩ := follows_eq (s := tk l (la s)) (t := tk l k) (h.tasks _ (tk_mem hla)) h.turn
      rw [if_pos e, idx_tk hla, Option.bind_some, idx_tk hk, Option.bind_some, f1, Option.bind_some]
      by_cases hf : f = true
      · rw [if_pos hf]
        have hF : Foll l x (la s) k := f2.1 hf
        have good : ∀ v : Bool, ∃ s', (if v = true then some (s : Int) else some b) = some s' ∧ (s' = -1 ∨ ∃ s, s < T.length ∧ s' = (s : Int) ∧ Foll l x (la s) k) := fun v => by
          cases v with
          | true => exact ⟨_, rfl, .inr ⟨s, hs', rfl, hF⟩⟩
          | false => exact ⟨_, rfl, hi⟩
        rcases hi with hb | ⟨s2, hs2, rfl, hF2⟩
        · rw [if_pos (by omega), Option.bind_some]
          exact good true
        · obtain ⟨row2, q1, q2, q3, q4⟩ := hrows s2 hs2
          rw [if_neg (by omega), Option.bind_some, idx_nat q1]
          simp only [Option.bind_some]
          rw [chk_ok (by omega) (by omega), Option.bind_some, show (row2.length : Int) - 1 = ((row2.length - 1 : Nat) : Int) by omega, idx_nat q3, Option.bind_some, idx_tk (hl s2 hs2), Option.bind_some, Option.bind_some]
          exact good _
      · rw [if_neg hf, Option.bind_some, if_neg (by decide)]
        exact ⟨b, rfl, hi⟩
    · rw [if_neg e, Option.bind_some, if_neg (by decide)]
      exact ⟨b, rfl, hi⟩)
  exact ⟨b, h1, h2⟩
theorem turn_step (h : TurnOk l x) (hU : ∀ t ∈ l, t.Units = 1) (ho : o.Perm (iota l.length)) {k : Nat} (hk : k < o.length) {T : List (List Int)} {la : Nat → Nat} {Q : Nat → Int} (I : TI l x o k T la Q) :
    ∃ T' la' Q', mFleetTurns_L12718 l x o k T = some T' ∧ TI l x o (k + 1) T' la' Q' := by
  have n40 := h.n40
  have hol : o.length = l.length := by rw [ho.length_eq, iota_len]
  have hnd : o.Nodup := ho.nodup_iff.2 (by
    have := iota_lt l.length
    exact this.imp (fun h e => by omega))
  have hmem : ∀ y ∈ o, 0 ≤ y ∧ y < (l.length : Int) := fun y hy => iota_mem (ho.mem_iff.1 hy)
  have hkm := hmem _ (List.getElem_mem hk)
  obtain ⟨kk, hkk⟩ : ∃ kk : Nat, o[k] = (kk : Int) := ⟨o[k].toNat, by omega⟩
  have hkl : kk < l.length := by omega
  have hnew : (kk : Int) ∉ o.take k := fun hm => by
    obtain ⟨j, hj, he⟩ := List.getElem_of_mem hm
    rw [List.length_take] at hj
    rw [List.getElem_take, ← hkk] at he
    exact (List.pairwise_iff_getElem.1 hnd) j k (by omega) hk (by omega) he
  have htk : o.take (k + 1) = o.take k ++ [(kk : Int)] := by rw [List.take_succ_eq_append_getElem hk, hkk]
  have hsub : ∀ y, y ∈ o.take k → y ∈ o.take (k + 1) := fun y hy => by rw [htk]; exact List.mem_append_left _ hy
  have hlast : (kk : Int) ∈ o.take (k + 1) := by rw [htk]; simp
  have hlal : ∀ s, s < T.length → la s < l.length := fun s hs => by
    have := hmem _ (List.mem_of_mem_take (I.lp s hs))
    omega
  unfold mFleetTurns_L12718
  rw [idx_lt hk, Option.bind_some, hkk, idx_tk hkl, Option.bind_some, hU _ (tk_mem hkl), chk_ok (by omega) (by omega), Option.bind_some]
  obtain ⟨b, p1, p2⟩ := pick_spec h hlal (K := k) (by omega) I.rows hkl
  have tl := I.tl
  have one : forS (mFleetTurns_L21113 l x (kk : Int)) (1 : Int).toNat 0 T = mFleetTurns_L21113 l x (kk : Int) 0 T := by
    show (mFleetTurns_L21113 l x (kk : Int) 0 T).bind (fun s => some s) = _
    cases mFleetTurns_L21113 l x (kk : Int) 0 T <;> rfl
  rw [one]
  unfold mFleetTurns_L21113
  rw [p1, Option.bind_some]
  rcases p2 with rfl | ⟨s0, hs0, rfl, hF⟩
  · -- a new turn
    rw [if_pos (by decide), room_ok (by omega) (by omega), Option.bind_some]
    have hl1 : (T ++ [([] : List Int)]).length = T.length + 1 := by simp
    rw [hl1, chk_ok (by omega) (by omega), Option.bind_some, pass2, show ((T.length + 1 : Nat) : Int) - 1 = ((T.length : Nat) : Int) by omega]
    have hg : (T ++ [([] : List Int)])[T.length]? = some [] := by rw [List.getElem?_append_right (Nat.le_refl _)]; simp
    rw [idx_nat hg, Option.bind_some, room_ok (by simp) (by simp), Option.bind_some, Option.bind_some, Option.bind_some]
    have hput : put (T ++ [([] : List Int)]) ((T.length : Nat) : Int) ([] ++ [(kk : Int)]) = T ++ [[(kk : Int)]] := by
      rw [put_nat, List.set_append_right (h := Nat.le_refl _)]
      simp
    rw [hput]
    have hT' : ∀ s, s < (T ++ [[(kk : Int)]]).length → s < T.length ∨ s = T.length := fun s hs => by
      rw [List.length_append] at hs
      simp at hs
      omega
    refine ⟨_, fun s => if s = T.length then kk else la s, Q, rfl, ⟨fun s hs => ?_, ?_, fun s hs => ?_, fun s s' hs hs' e => ?_, fun b hb => I.qn b (fun hm => hb (hsub _ hm)), I.qe, I.qi, fun s hs b hb => ?_, fun b hb h0 => hsub _ (I.qp b hb h0), ?_⟩⟩
    · rcases hT' s hs with h1 | h1
      · obtain ⟨row, r1, r2, r3, r4⟩ := I.rows s h1
        exact ⟨row, by rw [List.getElem?_append_left h1]; exact r1, r2, by rw [if_neg (by omega)]; exact r3, by omega⟩
      · subst h1
        refine ⟨[(kk : Int)], by rw [List.getElem?_append_right (Nat.le_refl _)]; simp, by simp, by rw [if_pos rfl]; rfl, by simp⟩
    · rw [List.length_append]; simp; omega
    · rcases hT' s hs with h1 | h1
      · rw [if_neg (by omega)]; exact hsub _ (I.lp s h1)
      · rw [if_pos h1]; exact hlast
    · rcases hT' s hs with h1 | h1 <;> rcases hT' s' hs' with h2 | h2
      · rw [if_neg (by omega), if_neg (by omega)] at e
        exact I.li s s' h1 h2 e
      · rw [if_neg (by omega), if_pos h2] at e
        exact absurd (e ▸ I.lp s h1) hnew
      · rw [if_pos h1, if_neg (by omega)] at e
        exact absurd (e ▸ I.lp s' h2) hnew
      · omega
    · rcases hT' s hs with h1 | h1
      · rw [if_neg (by omega)]; exact I.ql s h1 b hb
      · rw [if_pos h1]
        intro e
        exact hnew (e ▸ I.qp b hb (by omega))
    · rw [htk, List.filter_append, List.length_append, List.length_append, ← I.cnt]
      have : Q kk < 0 := by rw [I.qn kk hnew]; decide
      rw [List.filter_cons_of_pos (by simpa using this)]
      simp
  · -- one more task of a turn
    obtain ⟨row, r1, r2, r3, r4⟩ := I.rows s0 hs0
    rw [if_neg (by omega), pass2, idx_nat r1]
    simp only [Option.bind_some]
    rw [room_ok (by omega) (by omega), Option.bind_some]
    have hlen : (put T (s0 : Int) (row ++ [(kk : Int)])).length = T.length := put_length _ _ _
    have hlane : la s0 ≠ kk := fun e => hnew (e ▸ I.lp s0 hs0)
    refine ⟨_, fun s => if s = s0 then kk else la s, fun b => if b = kk then (la s0 : Int) else Q b, rfl, ⟨fun s hs => ?_, by rw [hlen]; omega, fun s hs => ?_, fun s s' hs hs' e => ?_, fun b hb => ?_, fun b hb => ?_, fun b b' hb hb' h0 e => ?_, fun s hs b hb => ?_, fun b hb h0 => ?_, ?_⟩⟩
    · rw [hlen] at hs
      rw [put_nat]
      by_cases e : s = s0
      · subst e
        refine ⟨row ++ [(kk : Int)], List.getElem?_set_self hs, by simp, ?_, by simp; omega⟩
        rw [if_pos rfl, List.getElem?_append_right (by simp)]
        simp
      · obtain ⟨row', q1, q2, q3, q4⟩ := I.rows s hs
        exact ⟨row', by rw [List.getElem?_set_ne (fun h => e h.symm)]; exact q1, q2, by rw [if_neg e]; exact q3, by omega⟩
    · rw [hlen] at hs
      by_cases e : s = s0
      · rw [if_pos e]; exact hlast
      · rw [if_neg e]; exact hsub _ (I.lp s hs)
    · rw [hlen] at hs hs'
      by_cases e1 : s = s0
      · by_cases e2 : s' = s0
        · omega
        · rw [if_pos e1, if_neg e2] at e
          exact absurd (e ▸ I.lp s' hs') hnew
      · by_cases e2 : s' = s0
        · rw [if_neg e1, if_pos e2] at e
          exact absurd (e ▸ I.lp s hs) hnew
        · rw [if_neg e1, if_neg e2] at e
          exact I.li s s' hs hs' e
    · have hne : b ≠ kk := fun e => hb (e ▸ hlast)
      show (if b = kk then (la s0 : Int) else Q b) = -1
      rw [if_neg hne]
      exact I.qn b (fun hm => hb (hsub _ hm))
    · show (if b = kk then (la s0 : Int) else Q b) = -1 ∨ (0 ≤ (if b = kk then (la s0 : Int) else Q b) ∧ (if b = kk then (la s0 : Int) else Q b) < (l.length : Int) ∧ Foll l x (if b = kk then (la s0 : Int) else Q b).toNat b)
      by_cases e : b = kk
      · rw [if_pos e, e]
        have := hlal s0 hs0
        exact .inr ⟨by omega, by omega, by rw [Int.toNat_natCast]; exact hF⟩
      · rw [if_neg e]
        exact I.qe b hb
    · have h0' : 0 ≤ (if b = kk then (la s0 : Int) else Q b) := h0
      have e' : (if b = kk then (la s0 : Int) else Q b) = (if b' = kk then (la s0 : Int) else Q b') := e
      by_cases e1 : b = kk
      · by_cases e2 : b' = kk
        · omega
        · rw [if_pos e1, if_neg e2] at e'
          exact absurd e'.symm (I.ql s0 hs0 b' hb')
      · by_cases e2 : b' = kk
        · rw [if_neg e1, if_pos e2] at e'
          exact absurd e' (I.ql s0 hs0 b hb)
        · rw [if_neg e1, if_neg e2] at e'
          rw [if_neg e1] at h0'
          exact I.qi b b' hb hb' h0' e'
    · rw [hlen] at hs
      show (if b = kk then (la s0 : Int) else Q b) ≠ ((if s = s0 then kk else la s : Nat) : Int)
      by_cases e1 : b = kk
      · rw [if_pos e1]
        by_cases e2 : s = s0
        · rw [if_pos e2]
          omega
        · rw [if_neg e2]
          intro e
          exact e2 (I.li s s0 hs hs0 (by omega))
      · rw [if_neg e1]
        by_cases e2 : s = s0
        · rw [if_pos e2]
          intro e
          exact hnew (e ▸ I.qp b hb (by omega))
        · rw [if_neg e2]
          exact I.ql s hs b hb
    · have h0' : 0 ≤ (if b = kk then (la s0 : Int) else Q b) := h0
      show (if b = kk then (la s0 : Int) else Q b) ∈ o.take (k + 1)
      by_cases e1 : b = kk
      · rw [if_pos e1]
        exact hsub _ (I.lp s0 hs0)
      · rw [if_neg e1] at h0' ⊢
        exact hsub _ (I.qp b hb h0')
    · rw [hlen, htk, List.filter_append, List.length_append, I.cnt]
      have e1 : (o.take k).filter (fun i => decide ((if i.toNat = kk then (la s0 : Int) else Q i.toNat) < 0)) = (o.take k).filter (fun i => decide (Q i.toNat < 0)) := by
        apply List.filter_congr
        intro y hy
        have := hmem y (List.mem_of_mem_take hy)
        have hne : y.toNat ≠ kk := fun e => hnew (by rw [show (kk : Int) = y by omega]; exact hy)
        rw [if_neg hne]
      have e2 : [(kk : Int)].filter (fun i => decide ((if i.toNat = kk then (la s0 : Int) else Q i.toNat) < 0)) = [] := by
        rw [List.filter_cons_of_neg (by simp)]
        rfl
      rw [e1, e2]
      simp
theorem turns_spec (h : TurnOk l x) (hn : l.length ≤ 20) (hU : ∀ t ∈ l, t.Units = 1) : ∃ T Q, mFleetTurns l x = some (0, T) ∧ Mat l.length (Foll l x) Q ∧ T.length = (single l.length Q).length := by
  obtain ⟨o, o1, o2⟩ := order_small hn
  unfold mFleetTurns
  rw [checkTurn_ok h, Option.bind_some, if_neg (by decide), o1, Option.bind_some]
  obtain ⟨T, h1, la, Q, h2⟩ := forS_inv (body := mFleetTurns_L12718 l x o) (fun k T => ∃ la Q, TI l x o k T la Q) o.length 0 [] ⟨fun _ => 0, fun _ => -1, ⟨fun s hs => absurd hs (by simp), by simp, fun s hs => absurd hs (by simp), fun s s' hs => absurd hs (by simp), fun _ _ => rfl, fun _ _ => .inl rfl, fun b b' _ _ h0 => absurd h0 (by decide), fun s hs => absurd hs (by simp), fun b _ h0 => absurd h0 (by decide), by simp⟩⟩ (fun k T _ hk hi => by
    obtain ⟨la, Q, I⟩ := hi
    obtain ⟨T', la', Q', q1, q2⟩ := turn_step h hU o2 (show k < o.length by omega) I
    exact ⟨T', q1, la', Q', q2⟩)
  rw [h1]
  rw [Nat.zero_add] at h2
  refine ⟨T, Q, rfl, ⟨h2.qe, h2.qi⟩, ?_⟩
  rw [h2.cnt, List.take_length, (o2.filter _).length_eq]
  unfold single iota
  rw [List.filter_map, List.length_map]
  rfl
end
end Go.Proofs.Ytajmocgpjkhjlaa
