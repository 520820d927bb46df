/- Plain: StandIns as a whole. -/
import Derived.Test.YtnmhabgnfifkdaaFA4
import Derived.Test.YtnmhabgnfifkdaaFAS
set_option linter.unusedVariables false
set_option linter.unusedSimpArgs false
namespace Go.Proofs.Ytnmhabgnfifkdaa
open Go.RowKit Go.Fp

theorem mgetD_putK {κ : Type} [DecidableEq κ] (m : List (κ × Bool)) (x y : κ) : mgetD (mput m x true) y false = true ↔ y = x ∨ mgetD m y false = true := by
  unfold mgetD
  by_cases e : y = x
  · subst e
    rw [mget_mput_same]
    exact ⟨fun _ => .inl rfl, fun _ => rfl⟩
  · rw [mget_mput_other _ _ e]
    exact ⟨fun h => .inr h, fun h => h.elim (fun h => absurd h e) id⟩
theorem apart_of : ∀ {q : Ro}, q.flatten.Nodup → apart q = true
  | [], _ => rfl
  | [] :: q, h => by
    show apart q = true
    exact apart_of (by simpa using h)
  | (x :: r) :: q, h => by
    rw [List.flatten_cons, List.nodup_append] at h
    show (q.all (fun l => l.head? != some x) && apart q) = true
    rw [Bool.and_eq_true, List.all_eq_true]
    refine ⟨fun l hl => ?_, apart_of h.2.1⟩
    cases l with
    | nil => rfl
    | cons y t =>
      have := h.2.2 x (List.mem_cons_self ..) y (List.mem_flatten_of_mem hl (List.mem_cons_self ..))
      simp only [List.head?_cons, bne_iff_ne, ne_eq, Option.some.injEq]
      exact fun e => this e.symm
section
variable {l : List FleetShift} (hl : ∀ s ∈ l, OkS s) (hn : l.length ≤ 8)
/-- Who is away. -/
theorem gone_says (q : Ro) (away : List FleetAbsence) (h4 : q.length ≤ 4) :
    (∃ g, (forM (mFleetStandIns_L1679 q away) away.length 0 ([] : List (FleetAbsence × Bool))) = some (.inl g) ∧ ∀ a, mgetD g a false = true ↔ a ∈ away) ∨ forM (mFleetStandIns_L1679 q away) away.length 0 ([] : List (FleetAbsence × Bool)) = some (.inr (2, [], [])) := by
  rcases forM_inv (body := mFleetStandIns_L1679 q away) (fun k g => ∀ a, mgetD g a false = true ↔ a ∈ away.take k) (fun t => t = (2, [], [])) away.length 0 [] (fun a => by simp [mgetD, mget]) (fun k g _ hk hI => by
      have hk' : k < away.length := by omega
      unfold mFleetStandIns_L1679
      rw [idx_lt hk', Option.bind_some, chk_ok (by omega) (by omega), Option.bind_some, within_eq, Option.bind_some]
      obtain ⟨u, hu⟩ : ∃ u, (if decide (0 ≤ away[k].Driver ∧ away[k].Driver ≤ (q.length : Int) - 1) = true then (mFleetWithin away[k].Day 0 6).bind fun x => some (!x) else some true) = some u := by
        split
        · rw [within_eq, Option.bind_some]; exact ⟨_, rfl⟩
        · exact ⟨_, rfl⟩
      rw [hu, Option.bind_some]
      by_cases h : u = true
      · rw [if_pos h]; exact .inr ⟨_, rfl, rfl⟩
      · rw [if_neg h]
        refine .inl ⟨_, rfl, fun a => ?_⟩
        rw [mgetD_putK, hI, take_succ_get hk', List.mem_append, List.mem_singleton]
        exact Or.comm) with ⟨g, e, hI⟩ | ⟨t, e, rfl⟩
  · rw [Nat.zero_add, List.take_length] at hI
    exact .inl ⟨g, e, hI⟩
  · exact .inr e
include hn in
/-- The shifts of those that are there, and the others. -/
theorem part_says (x : FleetLimits) (q : Ro) (hq : Good l x q) (g : List (FleetAbsence × Bool)) (hD : 1 ≤ q.length) :
    ∃ now opn own, forS (mFleetStandIns_L1804 l q g) q.length 0 ((List.replicate q.length ([] : List Int), [], ([] : List (Int × Int))) : Ro × List Int × List (Int × Int)) = some (now, opn, own) ∧ now.length = q.length ∧ (now.flatten ++ opn).Perm q.flatten ∧ ∀ (c : Cx), c.l = l → c.gone = g → Here c now := by
  have hlen : q.flatten.length ≤ 8 := by rw [hq.once.length_eq, iota_length]; exact hn
  have cut : ∀ k, (q.take k).flatten.length ≤ 8 := fun k => by
    have : q.flatten = (q.take k).flatten ++ (q.drop k).flatten := by rw [← List.flatten_append, List.take_append_drop]
    rw [this, List.length_append] at hlen
    omega
  obtain ⟨⟨now, opn, own⟩, e, h1, h2, h3⟩ := forS_inv (body := mFleetStandIns_L1804 l q g) (fun k s => s.1.length = q.length ∧ (s.1.flatten ++ s.2.1).Perm (q.take k).flatten ∧ ∀ (c : Cx), c.l = l → c.gone = g → Here c s.1) q.length 0 (List.replicate q.length ([] : List Int), [], ([] : List (Int × Int))) ⟨by simp, by simp, fun c _ _ d hd s hs => by
      simp only [List.getElem_replicate, List.not_mem_nil] at hs⟩ (fun k s _ hk hI => by
    have hk' : k < q.length := by omega
    obtain ⟨now, opn, own⟩ := s
    obtain ⟨h1, h2, h3⟩ := hI
    simp only at h1 h2 h3
    have hr := List.getElem_mem hk'
    have hnum := hq.nums hr
    have hrl := hq.len hr
    unfold mFleetStandIns_L1804
    simp only [unc3]
    rw [idx_lt hk', Option.bind_some]
    obtain ⟨⟨now2, opn2, own2⟩, f, k1, k2, k3⟩ := forS_inv (body := mFleetStandIns_L2729 l k g q[k]) (fun j s => s.1.length = q.length ∧ (s.1.flatten ++ s.2.1).Perm ((q.take k).flatten ++ q[k].take j) ∧ ∀ (c : Cx), c.l = l → c.gone = g → Here c s.1) q[k].length 0 (now, opn, own) ⟨h1, by simpa using h2, h3⟩ (fun j s _ hj hJ => by
      have hj' : j < q[k].length := by omega
      obtain ⟨now, opn, own⟩ := s
      obtain ⟨h1, h2, h3⟩ := hJ
      simp only at h1 h2 h3
      obtain ⟨e1, e2⟩ := idx_at (nums_get hnum hj')
      have hle := h2.length_eq
      rw [List.length_append, List.length_append, List.length_take] at hle
      have hck := cut k
      have hkn : k < now.length := by omega
      have hnk := flat_len_le (List.getElem_mem hkn)
      unfold mFleetStandIns_L2729
      simp only [unc3]
      rw [idx_lt hj', Option.bind_some, e1, Option.bind_some, Option.bind_some]
      by_cases hg : mgetD g (⟨(k : Int), (at0 l q[k][j]).Day⟩ : FleetAbsence) false = true
      · rw [if_pos hg, room_ok (by omega) (by omega), Option.bind_some]
        refine ⟨_, rfl, h1, ?_, h3⟩
        rw [take_succ_get hj', ← List.append_assoc, ← List.append_assoc]
        exact h2.append_right _
      · rw [if_neg hg, idx_lt hkn, Option.bind_some, room_ok (by omega) (by omega), Option.bind_some, Option.bind_some, put_nat]
        refine ⟨_, rfl, by simp only [List.length_set]; exact h1, ?_, fun c hc1 hc2 => ?_⟩
        · rw [take_succ_get hj', ← List.append_assoc]
          refine (List.Perm.trans ?_ (h2.append_right _))
          simp only
          rw [List.append_assoc]
          refine ((flat_snoc hkn q[k][j]).append_right _).trans ?_
          rw [List.append_assoc]
          exact List.Perm.append_left _ List.perm_append_comm
        · refine (h3 c hc1 hc2).set hkn ?_
          unfold isGone
          rw [hc1, hc2]
          simpa using hg)
    rw [f]
    refine ⟨_, rfl, k1, ?_, k3⟩
    rw [Nat.zero_add, List.take_length] at k2
    rw [take_succ_get hk', List.flatten_append]
    simpa using k2)
  rw [Nat.zero_add, List.take_length] at h2
  exact ⟨now, opn, own, e, h1, h2, h3⟩
/-- Each list sorted. -/
theorem sorts_says (b : Ro) (hb : ∀ r ∈ b, r.length ≤ 8) : ∃ q, forS mFleetStandIns_L3200 b.length 0 b = some q ∧ q.length = b.length ∧ ∀ (j : Nat) (h : j < q.length) (h' : j < b.length), q[j].Perm b[j] := by
  obtain ⟨q, e, h1, h2⟩ := forS_inv (body := mFleetStandIns_L3200) (fun _ q => q.length = b.length ∧ ∀ (j : Nat) (h : j < q.length) (h' : j < b.length), q[j].Perm b[j]) b.length 0 b ⟨rfl, fun j _ _ => .refl _⟩ (fun k q _ hk hI => by
    obtain ⟨h1, h2⟩ := hI
    have hkq : k < q.length := by omega
    have hkb : k < b.length := by omega
    have hp := h2 k hkq hkb
    obtain ⟨r, r1, r2, _⟩ := sort_few q[k] (by rw [hp.length_eq]; have := hb _ (List.getElem_mem hkb); omega)
    unfold mFleetStandIns_L3200
    rw [idx_lt hkq, Option.bind_some, r1, Option.bind_some, put_nat]
    refine ⟨_, rfl, by rw [List.length_set]; exact h1, fun j h h' => ?_⟩
    rw [List.getElem_set]
    split
    · rename_i ej
      subst ej
      exact r2.trans hp
    · exact h2 j (by rw [List.length_set] at h; exact h) h')
  exact ⟨q, e, h1, h2⟩
theorem flat_perm : ∀ {q b : Ro}, q.length = b.length → (∀ (j : Nat) (h : j < q.length) (h' : j < b.length), q[j].Perm b[j]) → q.flatten.Perm b.flatten
  | [], [], _, _ => .refl _
  | x :: q, y :: b, hlen, h => by
    rw [List.flatten_cons, List.flatten_cons]
    exact (h 0 (by simp) (by simp)).append (flat_perm (by simpa using hlen) (fun j h1 h2 => h (j + 1) (by simp; omega) (by simp; omega)))
include hl hn in
theorem standIns_says {x : FleetLimits} {q : Ro} (hs : mFleetCheckShifts l = some 0) (hx : mFleetCheckLimits x = some 0) (hq : Good l x q) (hD : 1 ≤ q.length) (away : List FleetAbsence) :
    mFleetStandIns l q x away = some (2, [], []) ∨ ∃ now opn, mFleetStandIns l q x away = some (0, now, opn) ∧ now.length = q.length ∧ (now.flatten ++ opn).Perm (iota l.length 0) ∧ ∀ (d : Nat) (h : d < now.length), ∀ s ∈ now[d], (⟨(d : Int), (at0 l s).Day⟩ : FleetAbsence) ∉ away := by
  unfold mFleetStandIns
  rw [judge_eq hn hs hx hq, pass2, if_neg (by decide), if_neg (by decide)]
  have h4 := hq.few
  rcases gone_says q away h4 with ⟨g, e, hg⟩ | e
  · rw [e, Option.bind_some]
    show (((mkLen 24 (q.length : Int)).bind _) = _) ∨ _
    refine .inr ?_
    show ∃ now opn, ((mkLen 24 (q.length : Int)).bind _) = _ ∧ _
    rw [mkLen_ok (by omega) (by omega), Option.bind_some]
    have hrep : some? (List.replicate q.length ([] : List Int)) = some () := by
      cases hql : q.length with
      | zero => omega
      | succ n => rfl
    rw [hrep, Option.bind_some]
    obtain ⟨now, opn, own, f, p1, p2, p3⟩ := part_says hn x q hq g hD
    rw [f, pass3]
    have hlen : q.flatten.length ≤ 8 := by rw [hq.once.length_eq, iota_length]; exact hn
    have hle := p2.length_eq
    rw [List.length_append] at hle
    obtain ⟨o, o1, o2, _⟩ := sort_few opn (by omega)
    rw [o1, Option.bind_some]
    have hc : CxOk ⟨l, x, o, own, g⟩ q.length (iota l.length 0) :=
      ⟨hl, hn, fun s hs => by have := iota_mem.1 hs; simp only; omega, by rw [iota_length]; exact hn, ⟨hD, h4⟩, by simp only; rw [o2.length_eq]; omega⟩
    have hI : SInv ⟨l, x, o, own, g⟩ q.length (iota l.length 0) 0 [] now := by
      refine ⟨p1, ?_, p3 _ rfl rfl⟩
      simp only [List.drop_zero, List.nil_append]
      exact ((List.Perm.append_left _ o2).trans p2).trans hq.once
    obtain ⟨⟨r1, r2, best, left⟩, s1, s2, s3, s4⟩ := S1_lim hc now hI
    have s1' : lim (fun N => mFleetStandIns_1 N 0 l x.Change x.Long x.Work x.After x.Break x.Rest x.Row [] [] [] o now own g) = some (r1, r2, best, left) := s1
    rw [s1', pass4]
    obtain ⟨b1, b2, b3⟩ := s4
    simp only at b1 b2 b3
    have hnd : best.flatten.Nodup := by
      have : (best.flatten ++ left).Nodup := b2.nodup_iff.2 (iota_nodup _ _)
      exact (List.nodup_append.1 this).1
    have hap : apart? best = some () := by unfold apart?; rw [if_pos (apart_of hnd)]
    have hbl : best.flatten.length ≤ 8 := by
      have := b2.length_eq
      rw [List.length_append, iota_length] at this
      omega
    obtain ⟨z, z1, z2, z3⟩ := sorts_says best (fun r hr => Nat.le_trans (flat_len_le hr) hbl)
    rw [hap, Option.bind_some, z1, Option.bind_some]
    refine ⟨z, left, rfl, by rw [z2]; exact b1, ((flat_perm z2 z3).append_right _).trans b2, fun d hd s hs hm => ?_⟩
    have hdb : d < best.length := by omega
    have h1 := b3 d hdb s ((z3 d hd hdb).subset hs)
    have h2 := (hg _).2 hm
    unfold isGone at h1
    simp only at h1
    rw [h2] at h1
    cases h1
  · rw [e]
    exact .inl rfl
end
end Go.Proofs.Ytnmhabgnfifkdaa
