/- Plain: the law TopCrewed. -/
import Derived.Test.YtnmhabgnfifkdaaTCX
import Derived.KernelRfl
set_option linter.unusedVariables false
set_option linter.unusedSimpArgs false
namespace Go.Proofs.Ytnmhabgnfifkdaa
open Go.RowKit Go.Fp

theorem driver_loop {l : List FleetShift} (hn : l.length ≤ 8) (away : List FleetAbsence) (now : Ro) (opn : List Int) (h4 : now.length ≤ 4) (hp : (now.flatten ++ opn).Perm (iota l.length 0)) (ha : ∀ (d : Nat) (h : d < now.length), ∀ s ∈ now[d], (⟨(d : Int), (at0 l s).Day⟩ : FleetAbsence) ∉ away) :
    ∃ dr, forM (mFishtopTopCrewed_L5707 away l now) now.length 0 (List.replicate l.length (-1)) = some (.inl dr) ∧ dr.length = l.length ∧ ∀ (i : Nat) (h : i < dr.length), (0 ≤ dr[i] ↔ (i : Int) ∈ now.flatten) := by
  have hnd : now.flatten.Nodup := (List.nodup_append.1 (hp.nodup_iff.2 (iota_nodup _ _))).1
  rcases forM_inv (body := mFishtopTopCrewed_L5707 away l now) (fun k dr => dr.length = l.length ∧ ∀ (i : Nat) (h : i < dr.length), (0 ≤ dr[i] ↔ (i : Int) ∈ (now.take k).flatten)) (fun _ => False) now.length 0 (List.replicate l.length (-1)) ⟨by simp, fun i h => by simp⟩ (fun k dr _ hk hI => by
      have hk' : k < now.length := by omega
      have hm := List.getElem_mem hk'
      have split1 : now.flatten = (now.take k).flatten ++ (now[k] ++ (now.drop (k + 1)).flatten) := by
        rw [← List.flatten_cons, ← List.drop_eq_getElem_cons hk', ← List.flatten_append, List.take_append_drop]
      unfold mFishtopTopCrewed_L5707
      rw [idx_lt hk', Option.bind_some]
      rcases forM_inv (body := mFishtopTopCrewed_L6378 away k l now[k]) (fun j dr => dr.length = l.length ∧ ∀ (i : Nat) (h : i < dr.length), (0 ≤ dr[i] ↔ (i : Int) ∈ (now.take k).flatten ++ now[k].take j)) (fun _ => False) now[k].length 0 dr (by simpa using hI) (fun j dr _ hj hJ => by
          have hj' : j < now[k].length := by omega
          obtain ⟨h1, h2⟩ := hJ
          have hs := List.getElem_mem hj'
          have hr := iota_mem.1 (hp.subset (List.mem_append_left _ (List.mem_flatten_of_mem hm hs)))
          have split2 : now[k] = now[k].take j ++ (now[k][j] :: now[k].drop (j + 1)) := by rw [← List.drop_eq_getElem_cons hj', List.take_append_drop]
          have hno : now[k][j] ∉ (now.take k).flatten ++ now[k].take j := fun hin => by
            rw [split1] at hnd
            have e : (now.take k).flatten ++ (now[k] ++ (now.drop (k + 1)).flatten) = ((now.take k).flatten ++ now[k].take j) ++ ((now[k][j] :: now[k].drop (j + 1)) ++ (now.drop (k + 1)).flatten) := by
              conv => lhs; rw [split2]
              simp only [List.append_assoc]
            rw [e, List.nodup_append] at hnd
            exact hnd.2.2 _ hin _ (List.mem_append_left _ (List.mem_cons_self ..)) rfl
          obtain ⟨n, hse⟩ : ∃ n : Nat, now[k][j] = (n : Int) := ⟨now[k][j].toNat, by omega⟩
          have hnl : n < dr.length := by omega
          have hneg : ¬ 0 ≤ dr[n] := fun h => hno (by rw [hse]; exact (h2 n hnl).1 h)
          have hnot := ha k hk' _ hs
          unfold mFishtopTopCrewed_L6378
          rw [idx_lt hj', Option.bind_some, if_neg (by omega), if_neg (by omega)]
          rw [hse] at hnot hr hno ⊢
          rw [idx_lt hnl, Option.bind_some, if_neg hneg, (idx_at (l := l) (s := (n : Int)) (by omega)).1, Option.bind_some, has_away, Option.bind_some, decide_eq_false hnot, Option.bind_some, if_neg (by decide), Option.bind_some, put_nat]
          refine .inl ⟨_, rfl, by rw [List.length_set]; exact h1, fun i hi => ?_⟩
          rw [take_succ_get hj', ← List.append_assoc, List.mem_append, List.mem_singleton, hse, List.getElem_set]
          split
          · rename_i e
            subst e
            exact ⟨fun _ => .inr rfl, fun _ => by omega⟩
          · rename_i e
            rw [List.length_set] at hi
            rw [h2 i hi]
            exact ⟨fun h => .inl h, fun h => h.resolve_right (by omega)⟩) with ⟨dr', e, hJ⟩ | ⟨_, _, h⟩
      · rw [e]
        refine .inl ⟨_, rfl, ?_⟩
        rw [Nat.zero_add, List.take_length] at hJ
        rw [take_succ_get hk', List.flatten_append]
        simpa using hJ
      · exact h.elim) with ⟨dr, e, hI⟩ | ⟨_, _, h⟩
  · rw [Nat.zero_add, List.take_length] at hI
    exact ⟨dr, e, hI⟩
  · exact h.elim
theorem last_loop {legs : List FleetTask} {x : FleetLimits} {R : List (List Int)} (hR : ∀ d ∈ R, DutyOk legs x d) {S : List FleetShift} (hS : ∀ s ∈ S, OkS s) (hn : S.length ≤ 8) (hM : Made legs x R S) {opn dr : List Int} {fl : List Int} (hp : (fl ++ opn).Perm (iota S.length 0)) (hl : dr.length = S.length) (hd : ∀ (i : Nat) (h : i < dr.length), (0 ≤ dr[i] ↔ (i : Int) ∈ fl)) :
    forM (mFishtopTopCrewed_L6687 x legs R S opn dr) S.length 0 () = some (.inl ()) := by
  have hnd := List.nodup_append.1 (hp.nodup_iff.2 (iota_nodup _ _))
  rcases look_loop (body := mFishtopTopCrewed_L6687 x legs R S opn dr) (n := S.length) (fun _ : Bool => False) (fun k hk => by
      have hkd : k < dr.length := by omega
      obtain ⟨hm, hlong⟩ := hM k hk
      have ok := hS _ (List.getElem_mem hk)
      have := ok.start; have := ok.stop
      have hmod : k % R.length < R.length := Nat.mod_lt _ hm
      have hj := (hR _ (List.getElem_mem hmod)).judge2
      have hsame : decide (dr[k] < 0) = decide ((k : Int) ∈ opn) := by
        have hin : (k : Int) ∈ fl ++ opn := hp.symm.subset (iota_mem.2 (by omega))
        by_cases h : 0 ≤ dr[k]
        · have h1 := (hd k hkd).1 h
          have h2 : (k : Int) ∉ opn := fun h2 => hnd.2.2 _ h1 _ h2 rfl
          rw [decide_eq_false (by omega), decide_eq_false h2]
        · have h1 : (k : Int) ∉ fl := fun h1 => h ((hd k hkd).2 h1)
          have h2 : (k : Int) ∈ opn := (List.mem_append.1 hin).resolve_left h1
          rw [decide_eq_true (by omega), decide_eq_true h2]
      have hne : ne0 (R.length : Int) = some () := by unfold ne0; rw [if_neg (by omega)]
      unfold mFishtopTopCrewed_L6687
      rw [idx_lt hk, Option.bind_some, idx_lt hkd, Option.bind_some, has_num, Option.bind_some, hsame, if_neg (by simp), chk_ok (by omega) (by omega), Option.bind_some, if_neg (by omega), hne, Option.bind_some, show Int.tmod (k : Int) (R.length : Int) = ((k % R.length : Nat) : Int) from rfl, idx_lt hmod, Option.bind_some, hj, pass2, if_neg (by decide), Option.bind_some, if_neg (by decide)]
      exact .inl rfl) with e | ⟨_, _, h⟩
  · exact e
  · exact h.elim
theorem awake_true : mFishtopAwakeFleet = some true := by kernel_rfl
theorem crewedPlain (d : ApiDay) (x : FleetLimits) (k : Int) (away : List FleetAbsence) (hS : ∀ t ∈ d.Trains, t.Stops.length ≤ 9223372036854775807) : mFishtopTopCrewed d x k away = some true := by
  unfold mFishtopTopCrewed
  rw [awake_true, Option.bind_some, if_pos rfl]
  obtain ⟨c, c1, c2⟩ := guide_says d hS
  rw [c1, Option.bind_some]
  by_cases hc : c = 0
  case neg => rw [if_pos hc]
  rw [if_neg (by simpa using hc)]
  obtain ⟨hn, hT⟩ := c2 hc
  obtain ⟨L, hL⟩ := legs_total d hn hT
  rw [hL, Option.bind_some]
  rcases duties_cases L x with ⟨e, he, h⟩ | ⟨C, R, h, hC, hRl⟩
  · rw [h, pass2, if_pos he]
    rfl
  rw [h, pass2, if_neg (by decide)]
  have hR := comp_all C hC (Kept.u0_len L)
  rw [check_loop hR, Option.bind_some]
  simp only [Sum.elim_inl]
  obtain ⟨S, s1, s2, s3⟩ := shifts_loop C hR
  rw [s1, Option.bind_some]
  rcases roster_cases S k x with ⟨e, he, h⟩ | ⟨k, rfl, h1, h4, hs, hx, hn8, hl⟩
  · rw [h, pass2, if_pos he]
    rfl
  obtain ⟨a, ha, hr⟩ := roster_eq hl hn8 (x := x) hs hx h1 h4
  rw [hr]
  obtain ⟨_, _, f3⟩ := fold_better S (leaves (fitB S x) S.length 0 (List.replicate k [])) (-1, [])
  rw [← ha] at f3
  by_cases hneg : a.1 < 0
  · rw [if_pos hneg, pass2, if_pos (by decide)]
    rfl
  rw [if_neg hneg, pass2, if_neg (by decide)]
  have hfound : a.2 ∈ leaves (fitB S x) S.length 0 (List.replicate k []) := by
    rcases f3 with h | h
    · rw [h] at hneg; exact absurd (by decide) hneg
    · exact h.1
  obtain ⟨a1, q⟩ := a
  simp only at hfound ⊢
  obtain ⟨hq, hqk⟩ := leaf_good h4 hfound
  rcases standIns_says hl hn8 hs hx hq (by omega) away with h | ⟨now, opn, h, z1, z2, z3⟩
  · rw [h, pass3, if_pos (by decide)]
    rfl
  · obtain ⟨dr, d1, d2, d3⟩ := driver_loop hn8 away now opn (by omega) z2 z3
    rw [h, pass3, if_neg (by decide), repeat_eq (-1) hn8, Option.bind_some, d1, Option.bind_some]
    simp only [Sum.elim_inl]
    rw [last_loop hR hl hn8 s3 z2 d2 d3, Option.bind_some]
    rfl
end Go.Proofs.Ytnmhabgnfifkdaa
