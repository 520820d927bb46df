/- Plain: one byte of a ticket changed; FareForges is true. -/
import Derived.Test.YtglmhaihgpnogaaGreatDoorFM8
set_option linter.unusedVariables false
set_option linter.unusedSimpArgs false
namespace Go.Proofs.YtglmhaihgpnogaaGreatDoor
open Go.RowKit Go.Fp

theorem p4 {A B C D E : Type} {f : A → B → C → D → Option E} {a : A} {b : B} {c : C} {d : D} : (some (a, b, c, d)).bind (unc4 f) = f a b c d := rfl
theorem p7 {A B C D E F G H : Type} {f : A → B → C → D → E → F → G → Option H} {a : A} {b : B} {c : C} {d : D} {e : E} {x : F} {g : G} : (some (a, b, c, d, e, x, g)).bind (unc7 f) = f a b c d e x g := rfl
theorem it_inj {x y : Int} (hx : 0 ≤ x) (hy : 0 ≤ y) (h : it x = it y) : x = y := by
  obtain ⟨u, rfl⟩ : ∃ u : Nat, x = (u : Int) := ⟨x.toNat, by omega⟩
  obtain ⟨v, rfl⟩ : ∃ v : Nat, y = (v : Int) := ⟨y.toNat, by omega⟩
  unfold it at h
  rw [Lib.itoa_nonneg, Lib.itoa_nonneg] at h
  have h1 := (digits_ok u).1
  rw [h, (digits_ok v).1] at h1
  injection h1 with h1
  omega
/-- The cases of a change: where it lies. -/
theorem change_cases {C S0 P S : List UInt8} {k : Nat} {b : UInt8} {t0 t : List UInt8} (ht0 : t0 = C ++ [32, 58] ++ [32] ++ S0 ++ [10]) (hC : 58 ∉ C) (h32 : 32 ∉ S0) (h58 : 58 ∉ S0) (hS0 : 1 ≤ S0.length)
    (hk : k < t0.length) (hb : t0[k]? ≠ some b) (ht : t = t0.take k ++ b :: t0.drop (k + 1)) (htP : t = P ++ [32, 58] ++ [32] ++ S ++ [10]) (hS : 32 ∉ S) :
    (S = S0 ∧ ∃ (p s : List UInt8) (c : UInt8), c ≠ b ∧ C ++ [32, 58] ++ [32] = p ++ c :: s ∧ P ++ [32, 58] ++ [32] = p ++ b :: s) ∨ (S ≠ S0 ∧ P ++ [32, 58] ++ [32] = C ++ [32, 58] ++ [32]) := by
  have hlen : t.length = t0.length := by
    rw [ht]
    simp only [List.length_append, List.length_take, List.length_cons, List.length_drop]
    omega
  have hsame : ∀ i, i ≠ k → t[i]? = t0[i]? := fun i hi => by
    rw [ht]
    rcases Nat.lt_or_ge i k with h | h
    · rw [List.getElem?_append_left (by rw [List.length_take]; omega), List.getElem?_take_of_lt h]
    · rw [List.getElem?_append_right (by rw [List.length_take]; omega), List.length_take, Nat.min_eq_left (by omega), show i - k = (i - k - 1) + 1 by omega, List.getElem?_cons_succ, List.getElem?_drop]
      congr 1
      omega
  have hat : t[k]? = some b := by
    rw [ht, List.getElem?_append_right (by rw [List.length_take]; omega), List.length_take, Nat.min_eq_left (by omega), Nat.sub_self]
    rfl
  have l0 : t0.length = C.length + 4 + S0.length := by rw [ht0]; simp only [List.length_append, List.length_cons, List.length_nil]; omega
  have l1 : t.length = P.length + 4 + S.length := by rw [htP]; simp only [List.length_append, List.length_cons, List.length_nil]; omega
  -- what stands where
  have g0 : ∀ i, i < C.length → t0[i]? ≠ some 58 := fun i hi he => by
    rw [ht0, List.append_assoc, List.append_assoc, List.append_assoc, List.getElem?_append_left hi] at he
    exact hC (List.mem_of_getElem? he)
  have a1 : t0[C.length]? = some 32 := by rw [ht0]; simp
  have a3 : t0[C.length + 2]? = some 32 := by rw [ht0]; simp
  have gS : ∀ (j : Nat), j < S0.length → ∃ c, t0[C.length + 3 + j]? = some c ∧ c ∈ S0 := fun j hj => by
    refine ⟨S0[j], ?_, List.getElem_mem hj⟩
    rw [ht0, List.getElem?_append_left (by simp; omega), List.getElem?_append_right (by simp)]
    simp [hj]
  have p1 : t[P.length + 1]? = some 58 := by rw [htP]; simp
  have p2' : t[P.length + 2]? = some 32 := by rw [htP]; simp
  have pS : ∀ (j : Nat), j < S.length → ∃ c, t[P.length + 3 + j]? = some c ∧ c ∈ S := fun j hj => by
    refine ⟨S[j], ?_, List.getElem_mem hj⟩
    rw [htP, List.getElem?_append_left (by simp; omega), List.getElem?_append_right (by simp)]
    simp [hj]
  rcases Nat.lt_trichotomy S.length S0.length with hlt | heq | hgt
  · -- the last space stands further on
    exfalso
    obtain ⟨c, hc1, hc2⟩ := gS (P.length - C.length - 1) (by omega)
    rw [show C.length + 3 + (P.length - C.length - 1) = P.length + 2 by omega] at hc1
    have hke : P.length + 2 = k := by
      by_cases h : P.length + 2 = k
      · exact h
      · have := hsame _ h
        rw [p2', hc1] at this
        injection this with this
        exact absurd (this ▸ hc2) h32
    have h1 := hsame (P.length + 1) (by omega)
    rw [p1] at h1
    by_cases he : P.length + 1 = C.length + 2
    · rw [he, a3] at h1
      injection h1 with h1
      exact absurd h1 (by decide)
    · obtain ⟨c', hc3, hc4⟩ := gS (P.length - C.length - 2) (by omega)
      rw [show C.length + 3 + (P.length - C.length - 2) = P.length + 1 by omega, ← h1] at hc3
      injection hc3 with hc3
      exact h58 (hc3 ▸ hc4)
  · have hPC : P.length = C.length := by omega
    by_cases hk1 : k < C.length + 2
    · left
      have e0 : t = ((C ++ [32, 58]).take k ++ b :: (C ++ [32, 58]).drop (k + 1)) ++ ([32] ++ S0 ++ [10]) := by
        have hl : (C ++ [32, 58]).length = C.length + 2 := by simp
        rw [ht, ht0, show C ++ [32, 58] ++ [32] ++ S0 ++ [10] = (C ++ [32, 58]) ++ ([32] ++ S0 ++ [10]) by simp, List.take_append_of_le_length (by omega), List.drop_append_of_le_length (by omega)]
        simp
      have e1 : t = (P ++ [32, 58]) ++ ([32] ++ S ++ [10]) := by rw [htP]; simp
      rw [e1] at e0
      obtain ⟨h1, h2⟩ := List.append_inj e0 (by simp only [List.length_append, List.length_take, List.length_cons, List.length_drop, List.length_nil]; omega)
      have hSS : S = S0 := by simpa using h2
      have hkl : k < (C ++ [32, 58]).length := by simp; omega
      refine ⟨hSS, (C ++ [32, 58]).take k, (C ++ [32, 58]).drop (k + 1) ++ [32], (C ++ [32, 58])[k], ?_, ?_, ?_⟩
      · intro he
        apply hb
        rw [ht0, show C ++ [32, 58] ++ [32] ++ S0 ++ [10] = (C ++ [32, 58]) ++ ([32] ++ S0 ++ [10]) by simp, List.getElem?_append_left hkl, List.getElem?_eq_getElem hkl, he]
      · have := List.take_append_drop k (C ++ [32, 58])
        rw [List.drop_eq_getElem_cons hkl] at this
        exact (congrArg (· ++ [32]) this.symm).trans (by simp only [List.append_assoc, List.cons_append])
      · rw [h1]
        simp
    · by_cases hk2 : k = C.length + 2
      · exfalso
        rw [← hPC] at hk2
        rw [hk2, p2'] at hat
        injection hat with hat
        apply hb
        rw [hk2, hPC, a3, hat]
      · right
        have e0 : t = (C ++ [32, 58] ++ [32]) ++ ((S0 ++ [10]).take (k - (C.length + 3)) ++ b :: (S0 ++ [10]).drop (k - (C.length + 3) + 1)) := by
          have hl : (C ++ [32, 58] ++ [32]).length = C.length + 3 := by simp
          rw [ht, ht0, show C ++ [32, 58] ++ [32] ++ S0 ++ [10] = (C ++ [32, 58] ++ [32]) ++ (S0 ++ [10]) by simp, List.take_append, List.take_of_length_le (by omega), List.drop_append, List.drop_of_length_le (by omega), hl, List.nil_append, show k + 1 - (C.length + 3) = k - (C.length + 3) + 1 by omega, List.append_assoc]
        have e1 : t = (P ++ [32, 58] ++ [32]) ++ (S ++ [10]) := by rw [htP]; simp
        have e2 := e1
        rw [e0] at e1
        obtain ⟨h1, h2⟩ := List.append_inj e1 (by simp only [List.length_append, List.length_cons, List.length_nil]; omega)
        refine ⟨fun he => ?_, h1.symm⟩
        subst he
        apply hb
        have h3 : t = t0 := by rw [e2, ← h1, ht0]; simp
        rw [← h3, hat]
  · -- the last space stands further ahead
    exfalso
    obtain ⟨c, hc1, hc2⟩ := pS (C.length - P.length - 1) (by omega)
    rw [show P.length + 3 + (C.length - P.length - 1) = C.length + 2 by omega] at hc1
    have hke : C.length + 2 = k := by
      by_cases h : C.length + 2 = k
      · exact h
      · have := hsame _ h
        rw [hc1, a3] at this
        injection this with this
        exact absurd (this ▸ hc2) hS
    have h1 := hsame (P.length + 1) (by omega)
    rw [p1] at h1
    by_cases he : P.length + 1 = C.length
    · rw [he, a1] at h1
      injection h1 with h1
      exact absurd h1 (by decide)
    · exact g0 (P.length + 1) (by omega) h1.symm
theorem fl_no58 {l : List Int} (h : ∀ n ∈ l, 0 ≤ n ∧ n < 1000000000) : (58 : UInt8) ∉ kTicket ++ fl l := fun hm => by
  rcases List.mem_append.1 hm with hm | hm
  · revert hm
    decide
  · unfold fl at hm
    obtain ⟨n, hn, hm⟩ := List.mem_flatMap.1 hm
    rcases List.mem_cons.1 hm with he | hm
    · exact absurd he (by decide)
    · exact not_digit (h n hn).1 (by have := (h n hn).2; omega) (.inr (by decide)) hm
theorem forgesPlain (p q e : Int) (s : FareTicket) (k b : Int) (hz : s.Zones.length ≤ 9223372036854775807) (hb0 : 0 ≤ b) (hb1 : b ≤ 255) : mFishkeep2FareForges p q e s k b = some true := by
  unfold mFishkeep2FareForges
  obtain ⟨N, E, D, f, hmk, hf⟩ := makeKey_spec p q e
  rw [show mFishkeep2AwakeFare = some () from rfl, Option.bind_some, hmk, p4, fares_true, Option.bind_some, if_pos rfl, Option.bind_some]
  rcases hf with ⟨h0, hN, hE, hD⟩ | ⟨h0, hk⟩
  · rw [if_pos (decide_eq_true h0), Option.bind_some, if_pos rfl, Option.bind_some, decide_eq_true ⟨hN, hE, hD⟩]
  · rw [if_neg (by rw [decide_eq_false (by omega)]; decide)]
    obtain ⟨te, hc, hr, hT⟩ := ticket_spec s hz
    by_cases hte : te ≠ 0
    · rw [issue_bad (keyCheck_ok hk 0).1 hc hte, p2, if_pos hte, show (ByteArray.mk #[]) = bs [] from rfl, sEq_bs, decide_eq_true rfl, if_pos rfl, hr, Option.bind_some, Option.bind_some, decide_eq_true hte]
    · have hte0 : te = 0 := by omega
      subst hte0
      have hok := hT rfl
      have hBl := B0_len hok
      obtain ⟨sg, hs, hsg, hv1, hv2, hv3⟩ := sign_spec hk (B0 s ++ [32]) (by simp only [List.length_append, List.length_cons, List.length_nil]; omega)
      obtain ⟨_, d1, d10, dd⟩ := numeral10 (n := (sg : Int)) (by omega) (by omega)
      rw [issue_good hk hok hc hs hsg, p2, if_neg (by decide), open_self hk hok hc hsg (hv1 0), p7, if_neg (by decide), same_spec s (by have := hok.many; omega), Option.bind_some, Option.bind_some, if_neg (by decide)]
      have hlen : (B0 s ++ [32] ++ it sg ++ [10]).length ≤ 200 := by simp only [List.length_append, List.length_cons, List.length_nil]; omega
      have ht0 : B0 s ++ [32] ++ it sg ++ [10] = (kTicket ++ fl (nums s)) ++ [32, 58] ++ [32] ++ it sg ++ [10] := rfl
      generalize hT0 : B0 s ++ [32] ++ it sg ++ [10] = t0 at *
      by_cases hk0 : k < 0
      · rw [if_pos hk0, Option.bind_some, if_pos rfl]
      · rw [if_neg hk0, bs_size]
        by_cases hk1 : (t0.length : Int) ≤ k
        · rw [if_pos hk1, Option.bind_some, if_pos rfl]
        · rw [if_neg hk1]
          obtain ⟨j, rfl⟩ : ∃ j : Nat, k = (j : Int) := ⟨k.toNat, by omega⟩
          have hj : j < t0.length := by omega
          rw [sIdx_bs hj, Option.bind_some, Option.bind_some]
          by_cases hsame : (t0[j].toNat : Int) = b
          · rw [if_pos (decide_eq_true hsame)]
          · rw [if_neg (by rw [decide_eq_false hsame]; decide)]
            have hbb : (UInt8.ofNat b.toNat).toNat = b.toNat := by
              simp only [UInt8.toNat_ofNat']
              omega
            have hcut1 : sCut (bs t0) 0 (j : Int) = some (bs (t0.take j)) := by
              rw [show (0 : Int) = ((0 : Nat) : Int) from rfl, sCut_bs (by omega) (by omega), List.drop_zero]
            have hcut2 : sCut (bs t0) ((j : Int) + 1) (t0.length : Int) = some (bs (t0.drop (j + 1))) := by
              rw [show (j : Int) + 1 = ((j + 1 : Nat) : Int) by omega, sCut_bs (by omega) (by omega), List.take_length]
            rw [hcut1, Option.bind_some, show strOfNums [b] = bs [UInt8.ofNat b.toNat] from rfl, add_bs (by simp only [List.length_take, List.length_cons, List.length_nil]; omega), Option.bind_some, chk_ok (by omega) (by omega), Option.bind_some, hcut2, Option.bind_some, add_bs (by simp only [List.length_append, List.length_take, List.length_drop, List.length_cons, List.length_nil]; omega), Option.bind_some]
            have htt : t0.take j ++ [UInt8.ofNat b.toNat] ++ t0.drop (j + 1) = t0.take j ++ UInt8.ofNat b.toNat :: t0.drop (j + 1) := by simp
            obtain ⟨r, hr, hr2⟩ := open_refuse hk (t0.take j ++ [UInt8.ofNat b.toNat] ++ t0.drop (j + 1)) (by simp only [List.length_append, List.length_take, List.length_drop, List.length_cons, List.length_nil]; omega) (fun P S x hP hS hx hxS => by
              have hne : t0[j]? ≠ some (UInt8.ofNat b.toNat) := fun he => by
                rw [List.getElem?_eq_getElem hj] at he
                injection he with he
                apply hsame
                rw [he, hbb]
                omega
              rcases change_cases ht0 (fl_no58 (nums_ok hok).1) (not_digit (by omega) (by omega) (.inl (by decide))) (not_digit (by omega) (by omega) (.inr (by decide))) d1 hj hne htt hP hS with ⟨hSS, p', s', c, hc', e1, e2⟩ | ⟨hSS, e1⟩
              · have hxs : x = (sg : Int) := it_inj hx (by omega) (by rw [hxS, hSS])
                rw [hxs]
                refine hv3 D _ ?_ ?_
                · have := congrArg List.length hP
                  simp only [List.length_append, List.length_take, List.length_drop, List.length_cons, List.length_nil] at this ⊢
                  omega
                · rw [e2, show B0 s ++ [32] = kTicket ++ fl (nums s) ++ [32, 58] ++ [32] from rfl, e1]
                  exact (dg_change p' s' hc').symm
              · rw [e1]
                exact hv2 D x (fun he => hSS (by rw [← hxS, he])))
            rw [hr, p7, Option.bind_some]
            rcases hr2 with rfl | rfl
            · rw [if_pos rfl, Option.bind_some]
            · rw [if_neg (by decide), Option.bind_some, decide_eq_true rfl]

end Go.Proofs.YtglmhaihgpnogaaGreatDoor
