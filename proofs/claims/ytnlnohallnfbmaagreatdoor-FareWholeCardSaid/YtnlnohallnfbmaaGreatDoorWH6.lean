/- Plain: fare.Shares; the law FareWhole. -/
import Derived.Test.YtnlnohallnfbmaaGreatDoorWH5
set_option linter.unusedVariables false
set_option linter.unusedSimpArgs false
namespace Go.Proofs.YtnlnohallnfbmaaGreatDoor
open Go.RowKit Go.Fp

theorem mem_take_succ {l : List Int} {k : Nat} {x y : Int} (h : l[k]? = some x) : y ∈ l.take (k + 1) ↔ y ∈ l.take k ∨ y = x := by
  rw [List.take_add_one, h]
  simp
/-- The whole parts. -/
theorem parts_loop {P : Int} {L : List Int} (hG : Good P L) : ∃ left, Go.Fp.forS (mFareShares_L482 L P L.sum) L.length 0 ((P, [], []) : Int × List Int × List Int) = some (left, L.map (qOf P L.sum), nums L.length) ∧ left = P - (L.map (qOf P L.sum)).sum ∧ 0 ≤ left ∧ left < L.length := by
  have hP := hG.hP
  have hn := hG.hn
  have hS : 0 < L.sum := by
    have h1 := sum_nonneg L (fun x hx => (hG.hL x hx).1)
    have h2 := hG.hS
    omega
  have hq : ∀ x ∈ L.map (qOf P L.sum), 0 ≤ x := fun x hx => by
    obtain ⟨y, hy, rfl⟩ := List.mem_map.1 hx
    exact q_pos hS hP.1 (hG.hL y hy).1
  have hr0 := sum_nonneg (L.map (rOf P L.sum)) (fun x hx => by
    obtain ⟨y, hy, rfl⟩ := List.mem_map.1 hx
    exact (r_lt hS hP.1 (hG.hL y hy).1).1)
  have hr1 := sum_bound (L.map (rOf P L.sum)) (L.sum - 1) (fun x hx => by
    obtain ⟨y, hy, rfl⟩ := List.mem_map.1 hx
    exact (r_lt hS hP.1 (hG.hL y hy).1).2)
  rw [List.length_map] at hr1
  have hqr := qr_sum P L.sum L
  have hl : L.sum * (P - (L.map (qOf P L.sum)).sum) = (L.map (rOf P L.sum)).sum := by
    rw [Int.mul_sub, Int.mul_comm L.sum P]
    omega
  have hl0 : 0 ≤ P - (L.map (qOf P L.sum)).sum := by
    by_cases h : 0 ≤ P - (L.map (qOf P L.sum)).sum
    · exact h
    · have : L.sum * (P - (L.map (qOf P L.sum)).sum) < 0 := Int.mul_neg_of_pos_of_neg hS (by omega)
      omega
  have hl1 : P - (L.map (qOf P L.sum)).sum < L.length := by
    by_cases h : P - (L.map (qOf P L.sum)).sum < L.length
    · exact h
    · have h1 : L.sum * (L.length : Int) ≤ L.sum * (P - (L.map (qOf P L.sum)).sum) := Int.mul_le_mul_of_nonneg_left (by omega) (by omega)
      rw [Int.mul_sub, Int.mul_one, Int.mul_comm (L.length : Int) L.sum] at hr1
      omega
  obtain ⟨⟨left, out, ord⟩, e1, e2, e3, e4⟩ := forS_inv (body := mFareShares_L482 L P L.sum) (fun k s => s.1 = P - ((L.map (qOf P L.sum)).take k).sum ∧ s.2.1 = (L.map (qOf P L.sum)).take k ∧ s.2.2 = nums k) L.length 0 ((P, [], []) : Int × List Int × List Int) ⟨by simp, by simp, rfl⟩ (fun k s _ hk hI => by
    obtain ⟨left, out, ord⟩ := s
    obtain ⟨h1, h2, h3⟩ := hI
    simp only at h1 h2 h3
    have hk : k < L.length := by omega
    have hx : L[k]? = some L[k] := List.getElem?_eq_getElem hk
    have hqx : (L.map (qOf P L.sum))[k]? = some (qOf P L.sum L[k]) := by rw [List.getElem?_map, hx]; rfl
    have hm := mul_small hP (hG.hL L[k] (List.getElem_mem hk))
    have hqm := hq _ (List.mem_of_getElem? hqx)
    have hqb := mem_le_sum _ hq (List.mem_of_getElem? hqx)
    have hz : ne0 L.sum = some () := by
      unfold ne0
      rw [if_neg (by omega)]
    have hol : out.length = k := by rw [h2, List.length_take, List.length_map]; omega
    have hnl : ord.length = k := by rw [h3, nums_length]
    have e5 : Int.tdiv (P * L[k]) L.sum = qOf P L.sum L[k] := rfl
    have ht := sum_take_le _ hq k
    have ht1 := take_one hqx
    have ht2 := sum_take_le _ hq (k + 1)
    unfold mFareShares_L482
    simp only [unc3]
    rw [idx_nat hx, Option.bind_some, chk_ok (by omega) (by omega), Option.bind_some, hz, Option.bind_some, e5, chk_ok (by omega) (by omega), Option.bind_some, room_ok (by omega) (by omega), Option.bind_some]
    rw [idx_nat (l := out ++ [qOf P L.sum L[k]]) (x := qOf P L.sum L[k]) (by rw [List.getElem?_append_right (by omega), hol]; simp), Option.bind_some, chk_ok (by omega) (by omega), Option.bind_some, room_ok (by omega) (by omega), Option.bind_some]
    refine ⟨_, rfl, ?_, ?_, ?_⟩
    · simp only
      omega
    · simp only
      rw [List.take_add_one, hqx, h2]
      rfl
    · simp only
      rw [h3, nums_succ])
  simp only [Nat.zero_add] at e2 e3 e4
  have e0 : (L.map (qOf P L.sum)).take L.length = L.map (qOf P L.sum) := by
    rw [List.take_of_length_le (by simp)]
  rw [e0] at e2 e3
  refine ⟨left, ?_, by omega, by omega, by omega⟩
  rw [e1, e3, e4]
/-- fare.Shares at what SharesFault lets pass. -/
theorem shares_spec {P : Int} {L : List Int} (hG : Good P L) : ∃ out : List Int, mFareShares P L = some (0, out) ∧ out.length = L.length ∧ out.sum = P ∧
    ∀ (i : Nat) (x s : Int), L[i]? = some x → out[i]? = some s → 0 ≤ s ∧ L.sum * s - P * x < L.sum ∧ P * x - L.sum * s < L.sum := by
  have hP := hG.hP
  have hn := hG.hn
  have hS : 0 < L.sum := by
    have h1 := sum_nonneg L (fun x hx => (hG.hL x hx).1)
    have h2 := hG.hS
    omega
  obtain ⟨left, p1, p2, p3, p4⟩ := parts_loop hG
  have hT : Gr.ok ⟨P, L.sum, L⟩ := ⟨hP, hS, hG.hL⟩
  obtain ⟨O, s1, s2, s3⟩ := sort_spec hT hn.2
  have s1 : mSlicesSortStableFunc P L L.sum (nums L.length) = some O := s1
  have s2 : O.Perm (nums L.length) := s2
  have hOl : O.length = L.length := by rw [s2.length_eq, nums_length]
  obtain ⟨m, rfl⟩ : ∃ m : Nat, left = (m : Int) := ⟨left.toNat, by omega⟩
  have hcut : cutS O 0 (m : Int) = some (O.take m) := by
    have := cutS_ok (l := O) (a := 0) (b := m) (Nat.zero_le _) (by omega)
    simpa using this
  have hnd : O.Nodup := (s2.nodup_iff).2 ((nums_inc L.length).imp (fun h => by omega))
  have hml : (O.take m).length = m := by rw [List.length_take]; omega
  have hqr := qr_sum P L.sum L
  have hrem : L.sum * (m : Int) = (O.map (remOf ⟨P, L.sum, L⟩)).sum := by
    rw [sum_perm (s2.map _)]
    have := rems_eq ⟨P, L.sum, L⟩
    simp only at this
    rw [this, p2, Int.mul_sub, Int.mul_comm L.sum P]
    omega
  obtain ⟨out, o1, o2, o3, o4⟩ := forS_inv (body := mFareShares_L669 (O.take m)) (fun k l => l.length = L.length ∧ l.sum = (L.map (qOf P L.sum)).sum + (k : Int) ∧ ∀ (i : Nat) (x : Int), L[i]? = some x → l[i]? = some (qOf P L.sum x + if (i : Int) ∈ O.take k then 1 else 0)) m 0 (L.map (qOf P L.sum)) ⟨by simp, by simp, fun i x h => by rw [List.getElem?_map, h]; simp⟩ (fun k l _ hk hI => by
    obtain ⟨h1, h2, h3⟩ := hI
    have hk : k < m := by omega
    obtain ⟨a, ha⟩ : ∃ a, O[k]? = some a := ⟨_, List.getElem?_eq_getElem (by omega)⟩
    have hat : (O.take m)[k]? = some a := by rw [List.getElem?_take_of_lt hk, ha]
    have hav := nums_mem.1 (s2.subset (List.mem_of_getElem? ha))
    obtain ⟨i, rfl⟩ : ∃ i : Nat, a = (i : Int) := ⟨a.toNat, by omega⟩
    have hi : i < L.length := by omega
    have hx : L[i]? = some L[i] := List.getElem?_eq_getElem hi
    have hnm : (i : Int) ∉ O.take k := fun hmem => by
      obtain ⟨j, hj, e⟩ := List.getElem_of_mem hmem
      rw [List.length_take] at hj
      rw [List.getElem_take] at e
      have hj2 : j < O.length := by omega
      have e2 : O[j]? = O[k]? := by rw [ha, List.getElem?_eq_getElem hj2, e]
      have := (List.getElem?_inj hj2 hnd).1 e2
      omega
    have hli := h3 i _ hx
    rw [if_neg hnm, Int.add_zero] at hli
    have hq0 := q_pos hS hP.1 (hG.hL L[i] (List.getElem_mem hi)).1
    have hqm := mul_small hP (hG.hL L[i] (List.getElem_mem hi))
    have hqb : qOf P L.sum L[i] ≤ P * L[i] := Int.tdiv_le_self _ hqm.1
    unfold mFareShares_L669
    rw [idx_nat hat, Option.bind_some, idx_nat hli, Option.bind_some, chk_ok (by omega) (by omega), Option.bind_some, Option.bind_some, put_nat]
    refine ⟨_, rfl, by rw [List.length_set, h1], ?_, fun j x hj => ?_⟩
    · rw [sum_set _ _ _ _ hli, h2]
      omega
    · rw [List.getElem?_set]
      by_cases q : i = j
      · subst q
        rw [hx] at hj
        obtain rfl := Option.some.inj hj
        rw [if_pos rfl, if_pos (by omega), if_pos ((mem_take_succ ha).2 (.inr rfl))]
      · rw [if_neg q, h3 j x hj]
        have : (j : Int) ∈ O.take (k + 1) ↔ (j : Int) ∈ O.take k := by
          rw [mem_take_succ ha]
          exact ⟨fun h => h.elim id (fun h => absurd (by omega) q), .inl⟩
        simp only [this])
  simp only [Nat.zero_add] at o3 o4
  refine ⟨out, ?_, o2, by omega, fun i x s hx hs => ?_⟩
  · unfold mFareShares
    rw [within_spec, Option.bind_some, if_pos (by simpa using hP), within_spec, Option.bind_some, if_pos (by simp; omega)]
    obtain ⟨t, f1, f2⟩ : ∃ t, Go.Fp.forM (mFareShares_L427 L) L.length 0 0 = some (.inl t) ∧ t = L.sum := by
      rcases forM_inv (body := mFareShares_L427 L) (fun k s => s = (L.take k).sum) (fun _ => False) L.length 0 0 rfl (fun k s _ hk hI => by
        subst hI
        have hk : k < L.length := by omega
        have hx : L[k]? = some L[k] := List.getElem?_eq_getElem hk
        have hb := sum_to (L := L) (fun j x h => hG.hL x (List.mem_of_getElem? h)) k (by omega)
        have hc := hG.hL L[k] (List.getElem_mem hk)
        unfold mFareShares_L427
        rw [idx_nat hx, Option.bind_some, within_spec, Option.bind_some, if_pos (by simpa using hc), chk_ok (by omega) (by omega)]
        exact .inl ⟨_, rfl, (take_one hx).symm⟩) with ⟨s, f1, f2⟩ | ⟨t, f1, f2⟩
      · exact ⟨s, f1, by rw [f2, Nat.zero_add, List.take_length]⟩
      · exact f2.elim
    subst f2
    rw [f1, Option.bind_some]
    simp only [Sum.elim_inl]
    rw [if_neg hG.hS, p1, pass3w, s1, Option.bind_some, hcut, Option.bind_some, hml, o1]
    rfl
  · have h1 := o4 i x hx
    rw [hs] at h1
    have h1 := Option.some.inj h1
    have hxr := hG.hL x (List.mem_of_getElem? hx)
    have hq0 := q_pos hS hP.1 hxr.1
    have hr := r_lt hS hP.1 hxr.1
    have hqr1 := qr P L.sum x
    by_cases hin : (i : Int) ∈ O.take m
    · rw [if_pos hin] at h1
      obtain ⟨j, hj, e⟩ := List.getElem_of_mem hin
      rw [List.length_take] at hj
      rw [List.getElem_take] at e
      have hpos := first_pos hT (O := O) s2 s3 (left := (m : Int)) hrem (a := (i : Int)) (j := j) (by rw [List.getElem?_eq_getElem (by omega), e]) (by omega)
      have hre : remOf ⟨P, L.sum, L⟩ (i : Int) = rOf P L.sum x := rem_nat (T := ⟨P, L.sum, L⟩) hx
      rw [hre] at hpos
      subst h1
      rw [Int.mul_add, Int.mul_one]
      omega
    · rw [if_neg hin, Int.add_zero] at h1
      subst h1
      omega
end Go.Proofs.YtnlnohallnfbmaaGreatDoor
