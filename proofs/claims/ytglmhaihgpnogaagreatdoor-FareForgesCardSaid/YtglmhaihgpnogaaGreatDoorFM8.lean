/- Plain: a ticket opens to itself; a changed one does not. -/
import Derived.Test.YtglmhaihgpnogaaGreatDoorFM7
set_option linter.unusedVariables false
set_option linter.unusedSimpArgs false
namespace Go.Proofs.YtglmhaihgpnogaaGreatDoor
open Go.RowKit Go.Fp

theorem last_index (p r : List UInt8) (hr : 32 ∉ r) (hl : (p ++ 32 :: r).length ≤ 1000000) : mStringsLastIndexByte (bs (p ++ 32 :: r)) 32 = some (p.length : Int) := by
  have hlen : (p ++ 32 :: r).length = p.length + r.length + 1 := by simp; omega
  have hf : ∃ t, loopM (mBytealgLastIndexByteString_L79 (bs (p ++ 32 :: r)) 32) (((p.length + r.length : Nat)) : Int) = some t ∧ t = .inr (p.length : Int) := by
    refine loopM_inv (step := mBytealgLastIndexByteString_L79 (bs (p ++ 32 :: r)) 32) (fun s => ∃ j : Nat, s = (j : Int) ∧ p.length ≤ j ∧ j < (p ++ 32 :: r).length) (fun t => t = .inr (p.length : Int)) (fun s => s.toNat) ?_ _ ⟨_, rfl, by omega, by omega⟩
    rintro s ⟨j, rfl, h1, h2⟩
    unfold mBytealgLastIndexByteString_L79
    rw [if_pos (by omega), sIdx_bs h2, Option.bind_some]
    by_cases hj : j = p.length
    · subst hj
      have e : (p ++ 32 :: r)[p.length] = 32 := by simp
      rw [e, if_pos (by decide)]
      exact .inr ⟨_, rfl, rfl⟩
    · have e : (p ++ 32 :: r)[j] ∈ r := by
        have h3 : (p ++ 32 :: r)[j]? = some (p ++ 32 :: r)[j] := List.getElem?_eq_getElem h2
        rw [List.getElem?_append_right h1, show j - p.length = (j - p.length - 1) + 1 by omega, List.getElem?_cons_succ] at h3
        exact List.mem_of_getElem? h3
      have e2 : ¬ ((p ++ 32 :: r)[j].toNat : Int) = 32 := fun he => by
        have : (p ++ 32 :: r)[j] = 32 := by
          apply UInt8.toNat_inj.1
          show _ = 32
          omega
        rw [this] at e
        exact hr e
      rw [if_neg e2, chk_ok (by omega) (by omega), Option.bind_some]
      exact .inl ⟨_, rfl, ⟨j - 1, by omega, by omega, by omega⟩, by omega⟩
  obtain ⟨t, h1, rfl⟩ := hf
  unfold mStringsLastIndexByte mBytealgLastIndexByteString
  rw [bs_size, hlen, chk_ok (by omega) (by omega), Option.bind_some, show ((p.length + r.length + 1 : Nat) : Int) - 1 = ((p.length + r.length : Nat) : Int) by omega, h1, pR, Option.bind_some]
theorem jn_fl (ns : List Int) : jn 32 (kTicket :: ns.map it) = kTicket ++ fl ns := by
  have key : ∀ (ns : List Int) (a : List UInt8), jn 32 (a :: ns.map it) = a ++ fl ns := fun ns => by
    induction ns with
    | nil => intro a; simp [jn, fl]
    | cons n r ih =>
      intro a
      simp only [List.map_cons, jn, ih]
      simp [fl]
  exact key ns kTicket
theorem B0_jn (s : FareTicket) : B0 s = jn 32 (kTicket :: (nums s).map it ++ [[58]]) := by
  rw [jn_snoc 32 [58] _ (by simp), jn_fl, B0]
theorem text_jn (s : FareTicket) (S : List UInt8) : B0 s ++ [32] ++ S = jn 32 (kTicket :: (nums s).map it ++ [[58], S]) := by
  have : kTicket :: (nums s).map it ++ [[58], S] = (kTicket :: (nums s).map it ++ [[58]]) ++ [S] := by simp
  rw [this, jn_snoc 32 S _ (by simp), ← B0_jn]
  simp
theorem open_good {s : FareTicket} (h : TOk s) {sg : Nat} (hsg : sg < 1072497002) : mFareOpen_2 (bs (B0 s ++ [32] ++ it sg ++ [10])) = some ((sg : Int), true, nums s) := by
  have hB := B0_len h
  obtain ⟨hn, hn6, hn15⟩ := nums_ok h
  have h10 := (numeral10 (n := (sg : Int)) (by omega) (by omega)).2.2.1
  have hno : ∀ w ∈ kTicket :: (nums s).map it ++ [[58], it sg], (32 : UInt8) ∉ w := fun w hw => by
    simp only [List.cons_append, List.mem_cons, List.mem_append, List.mem_map, List.not_mem_nil, or_false] at hw
    rcases hw with rfl | ⟨n, hm, rfl⟩ | rfl | rfl
    · decide
    · exact not_digit (hn n hm).1 (by have := (hn n hm).2; omega) (.inl (by decide))
    · decide
    · exact not_digit (by omega) (by omega) (.inl (by decide))
  have hsp := split_words 32 (kTicket :: (nums s).map it ++ [[58], it sg]) (by simp) hno (by rw [← text_jn]; simp only [List.length_append, List.length_cons, List.length_nil]; omega)
  rw [← text_jn] at hsp
  have hwl : ((kTicket :: (nums s).map it ++ [[58], it sg]).map bs).length = (nums s).length + 3 := by simp
  have hcut : cutS ((kTicket :: (nums s).map it ++ [[58], it sg]).map bs) 1 (((nums s).length + 1 : Nat) : Int) = some (((nums s).map it).map bs) := by
    rw [show (1 : Int) = ((1 : Nat) : Int) from rfl, cutS_ok (by omega) (by omega)]
    congr 1
    rw [← List.map_take, ← List.map_drop]
    congr 1
    rw [List.cons_append, List.take_succ_cons, List.drop_one, List.tail_cons, List.take_append_of_le_length (by simp), List.take_of_length_le (by simp)]
  generalize hWW : (kTicket :: (nums s).map it ++ [[58], it sg]).map bs = W at *
  have i0 : idx W 0 = some (bs kTicket) := by rw [← hWW]; rfl
  have i1 : idx W (((nums s).length + 1 : Nat) : Int) = some (bs [58]) := by
    refine idx_nat ?_
    rw [← hWW, List.getElem?_map, List.cons_append, List.getElem?_cons_succ, List.getElem?_append_right (by simp)]
    simp
  have i2 : idx W (((nums s).length + 2 : Nat) : Int) = some (bs (it sg)) := by
    refine idx_nat ?_
    rw [← hWW, List.getElem?_map, List.cons_append, List.getElem?_cons_succ, List.getElem?_append_right (by simp)]
    simp
  unfold mFareOpen_2
  rw [cut_good _ (by simp only [List.length_append, List.length_cons, List.length_nil]; omega), p2, show (ByteArray.mk #[32]) = bs [32] from rfl, hsp, Option.bind_some, if_pos rfl, hwl, if_neg (by omega), i0, Option.bind_some, show (ByteArray.mk #[116, 105, 99, 107, 101, 116]) = bs kTicket from rfl, sEq_bs, decide_eq_true rfl, if_pos rfl, chk_ok (by omega) (by omega), Option.bind_some, show (((nums s).length + 3 : Nat) : Int) - 2 = (((nums s).length + 1 : Nat) : Int) by omega, i1, Option.bind_some, show (ByteArray.mk #[58]) = bs [58] from rfl, sEq_bs, decide_eq_true rfl, Option.bind_some, if_neg (by decide), Option.bind_some, hcut, Option.bind_some, open_loop_good _ (by omega) hn, pL, chk_ok (by omega) (by omega), Option.bind_some, show (((nums s).length + 3 : Nat) : Int) - 1 = (((nums s).length + 2 : Nat) : Int) by omega, i2, Option.bind_some, number_num (by omega) (by omega), p2, if_pos rfl]
/-- A text whose signature is not right is refused, whatever else it is. -/
theorem open_refuse {N E D : Int} (hk : KeyOk N E D) (t : List UInt8) (hl : t.length ≤ 200)
    (hv : ∀ (P S : List UInt8) (x : Int), t = P ++ [32, 58] ++ [32] ++ S ++ [10] → 32 ∉ S → 0 ≤ x → it x = S → mFareVerify ⟨N, E, D⟩ (bs (P ++ [32, 58] ++ [32])) x = some (false, 0)) :
    ∃ e, mFareOpen ⟨N, E, D⟩ (bs t) = some (0, 0, 0, 0, 0, [], e) ∧ (e = 10 ∨ e = 11) := by
  obtain ⟨x, is, l, ho, hs⟩ := open_any t (by omega)
  unfold mFareOpen
  rw [(keyCheck_ok hk D).2, Option.bind_some, if_neg (by decide), bs_size, if_neg (by omega), ho, p3]
  cases is with
  | false =>
    rw [if_neg (by decide)]
    exact ⟨_, rfl, .inl rfl⟩
  | true =>
    rw [if_pos rfl]
    obtain ⟨ws, S, ht, hws, hS, hx, hxS⟩ := hs rfl
    have e1 : ws ++ [[58], S] = (ws ++ [[58]]) ++ [S] := by simp
    rw [e1, jn_snoc 32 S _ (by simp), jn_snoc 32 [58] _ hws] at ht
    have ht2 : t = jn 32 ws ++ [32, 58] ++ [32] ++ S ++ [10] := by rw [ht]; simp
    have hv2 := hv (jn 32 ws) S x ht2 hS hx hxS
    generalize jn 32 ws ++ [32, 58] = Q at *
    have ht3 : t = Q ++ 32 :: (S ++ [10]) := by rw [ht2]; simp
    have hli := last_index Q (S ++ [10]) (fun hm => by
      rcases List.mem_append.1 hm with hm | hm
      · exact hS hm
      · simp at hm) (by rw [← ht3]; omega)
    rw [← ht3] at hli
    have hQl : Q.length + 1 ≤ t.length := by rw [ht3]; simp
    have hcut : sCut (bs t) 0 ((Q.length : Int) + 1) = some (bs (Q ++ [32])) := by
      rw [show (0 : Int) = ((0 : Nat) : Int) from rfl, show (Q.length : Int) + 1 = ((Q.length + 1 : Nat) : Int) by omega, sCut_bs (by omega) hQl, ht3]
      congr 2
      rw [List.drop_zero, List.take_append, List.take_of_length_le (by omega), show Q.length + 1 - Q.length = 1 by omega]
      rfl
    rw [hli, Option.bind_some, chk_ok (by omega) (by omega), Option.bind_some, hcut, Option.bind_some, hv2, p2, Option.bind_some, if_neg (by decide)]
    exact ⟨_, rfl, .inr rfl⟩
/-- An issued ticket opens to itself. -/
theorem open_self {N E D D' : Int} {s : FareTicket} (hk : KeyOk N E D) (h : TOk s) (hc : mFareTicketCheck s = some 0) {sg : Nat} (hsg : sg < 1072497002) (hv : mFareVerify ⟨N, E, D'⟩ (bs (B0 s ++ [32])) (sg : Int) = some (true, 0)) :
    mFareOpen ⟨N, E, D'⟩ (bs (B0 s ++ [32] ++ it sg ++ [10])) = some (s.No, s.Day, s.Start, s.End, s.Price, s.Zones, 0) := by
  have hB := B0_len h
  obtain ⟨hn, hn6, hn15⟩ := nums_ok h
  have h10 := (numeral10 (n := (sg : Int)) (by omega) (by omega)).2.2.1
  have hlen : (B0 s ++ [32] ++ it sg ++ [10]).length = (B0 s).length + (it sg).length + 2 := by simp only [List.length_append, List.length_cons, List.length_nil]; omega
  have e3 : B0 s ++ [32] ++ it sg ++ [10] = B0 s ++ 32 :: (it sg ++ [10]) := by simp
  have hli := last_index (B0 s) (it sg ++ [10]) (fun hm => by
    rcases List.mem_append.1 hm with hm | hm
    · exact not_digit (n := (sg : Int)) (by omega) (by omega) (c := 32) (.inl (by decide)) hm
    · simp at hm) (by rw [← e3]; omega)
  rw [← e3] at hli
  have hcut : sCut (bs (B0 s ++ [32] ++ it sg ++ [10])) 0 (((B0 s).length : Int) + 1) = some (bs (B0 s ++ [32])) := by
    rw [show (0 : Int) = ((0 : Nat) : Int) from rfl, show ((B0 s).length : Int) + 1 = (((B0 s).length + 1 : Nat) : Int) by omega, sCut_bs (by omega) (by omega), e3]
    congr 2
    rw [List.drop_zero, List.take_append, List.take_of_length_le (by omega), show (B0 s).length + 1 - (B0 s).length = 1 by omega]
    rfl
  have hcz : cutS (nums s) 5 ((nums s).length : Int) = some s.Zones := by
    rw [show (5 : Int) = ((5 : Nat) : Int) from rfl, cutS_ok (by omega) (by omega), List.take_length]
    rfl
  unfold mFareOpen
  rw [(keyCheck_ok hk D').2, Option.bind_some, if_neg (by decide), bs_size, if_neg (by omega), open_good h hsg, p3, if_pos rfl, hli, Option.bind_some, chk_ok (by omega) (by omega), Option.bind_some, hcut, Option.bind_some, hv, p2, Option.bind_some, if_pos rfl,
    show idx (nums s) 0 = some s.No from rfl, Option.bind_some, show idx (nums s) 1 = some s.Day from rfl, Option.bind_some, show idx (nums s) 2 = some s.Start from rfl, Option.bind_some, show idx (nums s) 3 = some s.End from rfl, Option.bind_some, show idx (nums s) 4 = some s.Price from rfl, Option.bind_some, hcz, Option.bind_some]
  show (mFareTicketCheck s).bind _ = _
  rw [hc, Option.bind_some, if_neg (by decide)]

end Go.Proofs.YtglmhaihgpnogaaGreatDoor
