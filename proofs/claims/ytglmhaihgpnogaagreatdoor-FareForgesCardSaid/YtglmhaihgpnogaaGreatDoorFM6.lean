/- Plain: numerals, and the text of a ticket. -/
import Derived.Test.YtglmhaihgpnogaaGreatDoorFM5
set_option linter.unusedVariables false
set_option linter.unusedSimpArgs false
namespace Go.Proofs.YtglmhaihgpnogaaGreatDoor
open Go.RowKit Go.Fp

abbrev it (n : Int) : List UInt8 := Lib.itoa n
theorem numeral10 {n : Int} (h0 : 0 ≤ n) (h1 : n < 10000000000) : Lib.atoiAll (it n) = .ok n ∧ 1 ≤ (it n).length ∧ (it n).length ≤ 10 ∧ ∀ b ∈ it n, 48 ≤ b.toNat ∧ b.toNat ≤ 57 := by
  obtain ⟨u, rfl⟩ : ∃ u : Nat, n = (u : Int) := ⟨n.toNat, by omega⟩
  unfold it
  rw [Lib.itoa_nonneg]
  obtain ⟨d1, d2⟩ := digits_ok u
  have hl := Lib.decDigits_length u
  have hp := Lib.nDigits_pos u
  have hm := digits_len 9 u (by omega)
  refine ⟨?_, by omega, by omega, d2⟩
  rw [Lib.atoiAll_short _ (by omega)]
  cases hd : Lib.decDigits u with
  | nil => rw [hd] at hl; simp at hl; omega
  | cons b r =>
    have hb := d2 b (by rw [hd]; simp)
    have h45 : (b == 45) = false := by
      simp only [beq_eq_false_iff_ne]
      intro he
      subst he
      revert hb
      decide
    have h43 : (b == 43) = false := by
      simp only [beq_eq_false_iff_ne]
      intro he
      subst he
      revert hb
      decide
    simp only [Lib.atoi, h45, h43]
    rw [← hd]
    have hne : (Lib.decDigits u).isEmpty = false := by rw [hd]; rfl
    simp [Lib.decNat, hne, d1, Lib.NumEnd.ofOption]
theorem not_digit {n : Int} (h0 : 0 ≤ n) (h1 : n < 10000000000) {c : UInt8} (hc : c.toNat < 48 ∨ 57 < c.toNat) : c ∉ it n := fun hm => by
  have := (numeral10 h0 h1).2.2.2 c hm
  omega
theorem itoa_spec {n : Int} (h0 : -9223372036854775808 ≤ n) (h1 : n ≤ 9223372036854775807) : itoaM n = some (bs (it n)) := by
  unfold itoaM
  rw [chk_ok h0 h1]
  rfl
theorem add_bs {a b : List UInt8} (h : a.length + b.length ≤ 1000000) : sAdd (bs a) (bs b) = some (bs (a ++ b)) := by
  unfold sAdd
  rw [if_pos (by rw [bs_size, bs_size]; omega)]
  congr 1
def kTicket : List UInt8 := [116, 105, 99, 107, 101, 116]
/-- Numbers, each behind a space. -/
def fl (l : List Int) : List UInt8 := l.flatMap fun n => 32 :: it n
theorem fl_len {l : List Int} (h : ∀ n ∈ l, 0 ≤ n ∧ n < 1000000000) : (fl l).length ≤ 11 * l.length := by
  induction l with
  | nil => simp [fl]
  | cons n r ih =>
    have h1 := (numeral10 (h n (by simp)).1 (by have := h n (by simp); omega)).2.2.1
    have h2 := ih (fun m hm => h m (by simp [hm]))
    simp only [fl, List.flatMap_cons, List.length_append, List.length_cons] at h2 ⊢
    omega
/-- The text of a ticket, up to its last space but without it. -/
def B0 (s : FareTicket) : List UInt8 := kTicket ++ fl (nums s) ++ [32, 58]
theorem B0_len {s : FareTicket} (h : TOk s) : (B0 s).length ≤ 173 ∧ 8 ≤ (B0 s).length := by
  have h1 := fl_len (nums_ok h).1
  have h2 := (nums_ok h).2.2
  simp only [B0, kTicket, List.length_append, List.length_cons, List.length_nil] at *
  omega
theorem issue_bad {k : FareKey} {s : FareTicket} {e : Int} (hk : mFareKeyCheck k true = some 0) (he : mFareTicketCheck s = some e) (h0 : e ≠ 0) : mFareIssue k s = some (bs [], e) := by
  unfold mFareIssue
  rw [hk, Option.bind_some, if_neg (by decide), he, Option.bind_some, if_pos h0]
  rfl
theorem issue_loop {s : FareTicket} (h : TOk s) : forS (mFareIssue_L132 s) (nums s).length 0 (bs kTicket) = some (bs (kTicket ++ fl (nums s))) := by
  obtain ⟨r, h1, h2⟩ := forS_inv (body := mFareIssue_L132 s) (fun k x => x = bs (kTicket ++ fl ((nums s).take k))) (nums s).length 0 (bs kTicket) (by simp [fl]) (fun k x _ hk hx => by
    subst hx
    have hkl : k < (nums s).length := by omega
    have hn := (nums_ok h).1 _ (List.getElem_mem hkl)
    have hm := (nums_ok h).2.2
    have hlen := fl_len (l := (nums s).take k) (fun n hn => (nums_ok h).1 n (List.mem_of_mem_take hn))
    have h10 := (numeral10 hn.1 (by omega)).2.2.1
    rw [List.length_take] at hlen
    unfold mFareIssue_L132 mStrconvItoa
    rw [show [s.No, s.Day, s.Start, s.End, s.Price] ++ s.Zones = nums s from rfl, idx_lt hkl, Option.bind_some, itoa_spec (by omega) (by omega), Option.bind_some, show (ByteArray.mk #[32]) = bs [32] from rfl, add_bs (by simp only [List.length_cons, List.length_nil]; omega), Option.bind_some, add_bs (by simp only [kTicket, List.length_append, List.length_cons, List.length_nil] at *; omega), Option.bind_some]
    refine ⟨_, rfl, ?_⟩
    rw [← List.take_append_getElem hkl]
    unfold fl
    rw [List.flatMap_append]
    simp only [List.flatMap_cons, List.flatMap_nil, List.append_nil, List.append_assoc, List.cons_append, List.nil_append])
  rw [h1, h2, Nat.zero_add, List.take_length]
theorem issue_good {N E D : Int} {s : FareTicket} (hk : KeyOk N E D) (h : TOk s) (hc : mFareTicketCheck s = some 0) {sg : Nat} (hs : mFareSign ⟨N, E, D⟩ (bs (B0 s ++ [32])) = some ((sg : Int), 0)) (hsg : sg < 1072497002) :
    mFareIssue ⟨N, E, D⟩ s = some (bs (B0 s ++ [32] ++ it sg ++ [10]), 0) := by
  have hl := B0_len h
  have hn := nums_ok h
  have h10 := (numeral10 (n := (sg : Int)) (by omega) (by omega)).2.2.1
  have e1 : [s.No, s.Day, s.Start, s.End, s.Price].length + s.Zones.length = (nums s).length := by simp [nums]; omega
  have e2 : [s.No, s.Day, s.Start, s.End, s.Price] ++ s.Zones = nums s := rfl
  have hB : B0 s ++ [32] = kTicket ++ fl (nums s) ++ [32, 58, 32] := by simp [B0]
  have hadd : sAdd (bs (kTicket ++ fl (nums s))) (bs [32, 58, 32]) = some (bs (B0 s ++ [32])) := by
    rw [hB, add_bs]
    have := congrArg List.length hB
    simp only [B0, kTicket, List.length_append, List.length_cons, List.length_nil] at *
    omega
  unfold mFareIssue mStrconvItoa
  rw [(keyCheck_ok hk 0).1, Option.bind_some, if_neg (by decide), hc, Option.bind_some, if_neg (by decide), e1, room_ok (by omega) (by omega), Option.bind_some, e2, show (ByteArray.mk #[116, 105, 99, 107, 101, 116]) = bs kTicket from rfl, issue_loop h, Option.bind_some, show (ByteArray.mk #[32, 58, 32]) = bs [32, 58, 32] from rfl]
  rw [hadd, Option.bind_some, hs, Option.bind_some]
  simp only [unc2]
  rw [itoa_spec (by omega) (by omega), Option.bind_some, add_bs (by simp only [List.length_append, List.length_cons, List.length_nil]; omega), Option.bind_some, show (ByteArray.mk #[10]) = bs [10] from rfl, add_bs (by simp only [List.length_append, List.length_cons, List.length_nil]; omega), Option.bind_some]
/-- numberM at a numeral, and at any text. -/
theorem number_num {n : Int} (h0 : 0 ≤ n) (h1 : n < 10000000000) : numberM (bs (it n)) = some (true, n) := by
  obtain ⟨a, _, b, _⟩ := numeral10 h0 h1
  unfold numberM atoiM
  rw [if_pos (by rw [bs_size]; omega), bs_data, a]
  simp only [Option.bind_some]
  rw [if_pos ⟨by trivial, h0⟩, itoa_spec (by omega) (by omega), Option.bind_some, sEq_bs, decide_eq_true rfl]
theorem number_any (l : List UInt8) (hl : l.length ≤ 1000000) : ∃ q x, numberM (bs l) = some (q, x) ∧ (q = true → 0 ≤ x ∧ it x = l) := by
  unfold numberM atoiM
  rw [if_pos (by rw [bs_size]; omega), bs_data]
  rcases ha : Lib.atoiAll l with v | _ | _
  · simp only [Option.bind_some]
    have hv : -9223372036854775808 ≤ v ∧ v ≤ 9223372036854775807 := by
      unfold Lib.atoiAll at ha
      cases l with
      | nil => cases ha
      | cons c r =>
        simp only at ha
        split at ha
        · cases ha
        · cases ha
        · rename_i u _
          split at ha
          · cases ha
          · split at ha
            · cases ha
            · injection ha with ha
              rename_i h1 h2
              subst ha
              split <;> omega
    by_cases h0 : 0 ≤ v
    · rw [if_pos ⟨by trivial, h0⟩, itoa_spec hv.1 hv.2, Option.bind_some, sEq_bs]
      exact ⟨_, _, rfl, fun h => ⟨h0, of_decide_eq_true h⟩⟩
    · rw [if_neg (fun h => h0 h.2)]
      exact ⟨_, _, rfl, fun h => by cases h⟩
  · exact ⟨_, _, rfl, fun h => by cases h⟩
  · exact ⟨_, _, rfl, fun h => by cases h⟩
end Go.Proofs.YtglmhaihgpnogaaGreatDoor
