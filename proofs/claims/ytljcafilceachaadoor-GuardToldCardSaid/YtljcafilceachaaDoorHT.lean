/- Plain: GuardTold. -/
import Derived.Test.YtljcafilceachaaDoorHS
set_option linter.unusedVariables false
set_option linter.unusedSimpArgs false
namespace Go.Proofs.YtljcafilceachaaDoor
open Go.RowKit Go.Fp

theorem itoa_model {n : Int} (h0 : -9223372036854775808 ≤ n) (h1 : n ≤ 9223372036854775807) : mStrconvItoa n = some (bs (Lib.itoa n)) := by
  unfold mStrconvItoa itoaM
  rw [chk_ok h0 h1]
  rfl
theorem not_minus {l : List UInt8} (h : ∀ b ∈ l, 48 ≤ b.toNat ∧ b.toNat ≤ 57) (hl : 1 ≤ l.length) : mStringsTrimPrefix (bs l) (ByteArray.mk #[45]) = some (bs l) := by
  unfold mStringsTrimPrefix mStringsliteTrimPrefix mStringsliteHasPrefix
  rw [show (ByteArray.mk #[45]) = bs [45] from rfl, bs_size, bs_size, if_pos (by simp; omega), show (0 : Int) = ((0 : Nat) : Int) from rfl, sCut_bs (by omega) (by simp; omega), Option.bind_some, sEq_bs]
  have hne : ¬ (l.take [(45 : UInt8)].length).drop 0 = [45] := fun he => by
    cases l with
    | nil => simp at hl
    | cons b r =>
      simp at he
      have := h b (by simp)
      rw [he] at this
      revert this
      decide
  rw [decide_eq_false hne, Option.bind_some, Option.bind_some, if_neg (by decide)]
  rfl
theorem number_ok {n : Int} (h0 : 0 ≤ n) (h1 : n < 1000000000) : mLineNumber (bs (Lib.itoa n)) = some (n, true) := by
  obtain ⟨a1, a2, a3, a4⟩ := numeral h0 h1
  have hat : mStrconvAtoi (bs (Lib.itoa n)) = some (n, true) := by
    unfold mStrconvAtoi atoiM
    rw [if_pos (by rw [bs_size]; omega), bs_data, a1]
  unfold mLineNumber
  rw [hat, Option.bind_some]
  simp only [unc2, if_true]
  rw [itoa_model (by omega) (by omega), Option.bind_some, sEq_bs]
  simp only [decide_true, if_true]
  rw [not_minus a4 a2, Option.bind_some, bs_size, Option.bind_some]
  congr 2
  simp
  omega
theorem numbers_ok (ns : List Int) (h : ∀ n ∈ ns, 0 ≤ n ∧ n < 1000000000) (hl : ns.length ≤ 1000) : mLineNumbers (ns.map fun n => bs (Lib.itoa n)) = some (true, ns) := by
  unfold mLineNumbers
  rcases forM_inv (body := mLineNumbers_L95 (ns.map fun n => bs (Lib.itoa n))) (fun k l => l = ns.take k) (fun _ => False) (ns.map fun n => bs (Lib.itoa n)).length 0 [] (by simp) (fun k l _ hk hi => by
    subst hi
    have hk' : k < ns.length := by simpa using hk
    unfold mLineNumbers_L95
    rw [idx_lt (by simpa using hk'), Option.bind_some, List.getElem_map, number_ok (h _ (List.getElem_mem hk')).1 (h _ (List.getElem_mem hk')).2, Option.bind_some]
    simp only [unc2, if_true]
    rw [room_ok (by simp; omega) (by simp; omega), Option.bind_some]
    refine .inl ⟨_, rfl, ?_⟩
    rw [List.take_add_one, List.getElem?_eq_getElem hk']
    rfl) with ⟨l, e1, e2⟩ | ⟨t, _, e2⟩
  · rw [e1, e2]
    simp
  · exact e2.elim
theorem awakeT : mFishkeep1AwakeGuard = some true := by
  have hat : mStrconvAtoi (bs []) = some (0, false) := by
    unfold mStrconvAtoi atoiM
    rw [if_pos (by decide)]
    rfl
  have hn : mLineNumber (bs []) = some (0, false) := by simp [mLineNumber, hat, unc2]
  have hx : idx [bs []] 0 = some (bs []) := rfl
  have hl : mLineNumbers [bs []] = some (false, []) := by
    unfold mLineNumbers
    rw [show [bs []].length = 1 from rfl, forM_succ_inr (m := 0) (t := (false, [])) (by simp [mLineNumbers_L95, hx, hn, unc2])]
    rfl
  have hs := split_words 32 [[]] (by simp) (by simp) (by simp [jn])
  simp only [jn, List.map_cons, List.map_nil] at hs
  unfold mFishkeep1AwakeGuard mGuardUnpack
  rw [show (ByteArray.mk #[]) = bs [] from rfl, show (ByteArray.mk #[32]) = bs [32] from rfl, hs, Option.bind_some, hl]
  simp [unc2, unc9]
theorem gwithin_eq (x a c : Int) : mGuardWithin x a c = some (decide (a ≤ x ∧ x ≤ c)) := by
  unfold mGuardWithin
  by_cases h : a ≤ x <;> simp [h]
theorem used_total (p : GuardPacket) : ∃ a b c d e f g h, mGuardPacketUsed p = some (a, b, c, d, e, f, g, h) := by
  unfold mGuardPacketUsed
  by_cases h1 : p.Kind = 1
  · rw [if_pos h1]; exact ⟨_, _, _, _, _, _, _, _, rfl⟩
  rw [if_neg h1]
  by_cases h3 : p.Kind = 3
  · rw [if_pos h3]; exact ⟨_, _, _, _, _, _, _, _, rfl⟩
  rw [if_neg h3]
  by_cases h4 : p.Kind = 4
  · simp only [h4, if_true, decide_true, Option.bind_some]; exact ⟨_, _, _, _, _, _, _, _, rfl⟩
  rw [if_neg h4, Option.bind_some]
  by_cases h5 : p.Kind = 5
  · simp only [h5, decide_true, if_true]; exact ⟨_, _, _, _, _, _, _, _, rfl⟩
  simp only [h5, decide_false]
  rw [if_neg (by decide)]
  by_cases h7 : p.Kind = 7
  · rw [if_pos h7]; exact ⟨_, _, _, _, _, _, _, _, rfl⟩
  rw [if_neg h7]
  by_cases h8 : p.Kind = 8
  · rw [if_pos h8]; exact ⟨_, _, _, _, _, _, _, _, rfl⟩
  rw [if_neg h8]
  exact ⟨_, _, _, _, _, _, _, _, rfl⟩
theorem pcheck (p : GuardPacket) : ∃ e, mGuardPacketCheck p = some e ∧ (e = 0 → ∀ n ∈ [p.Kind, p.Session, p.No, p.Of, p.End, p.At, p.Speed, p.Sent], 0 ≤ n ∧ n < 1000000000) := by
  unfold mGuardPacketCheck
  simp only [gwithin_eq, Option.bind_some]
  by_cases k1 : 1 ≤ p.Kind ∧ p.Kind ≤ 8
  case neg => exact ⟨15, by simp [k1], fun h => absurd h (by decide)⟩
  by_cases k2 : 1 ≤ p.Session ∧ p.Session ≤ 1000000
  case neg => exact ⟨2, by simp [k1, k2], fun h => absurd h (by decide)⟩
  by_cases k3 : 1 ≤ p.No ∧ p.No ≤ 1000000
  case neg => exact ⟨2, by simp [k1, k2, k3], fun h => absurd h (by decide)⟩
  by_cases k4 : 0 ≤ p.Of ∧ p.Of ≤ 1000000
  case neg => exact ⟨2, by simp [k1, k2, k3, k4], fun h => absurd h (by decide)⟩
  by_cases k5 : 0 ≤ p.End ∧ p.End ≤ 20000000
  case neg => exact ⟨2, by simp [k1, k2, k3, k4, k5], fun h => absurd h (by decide)⟩
  by_cases k6 : 0 ≤ p.At ∧ p.At ≤ 20000000
  case neg => exact ⟨2, by simp [k1, k2, k3, k4, k5, k6], fun h => absurd h (by decide)⟩
  by_cases k7 : 0 ≤ p.Speed ∧ p.Speed ≤ 6000
  case neg => exact ⟨2, by simp [k1, k2, k3, k4, k5, k6, k7], fun h => absurd h (by decide)⟩
  by_cases k8 : 0 ≤ p.Sent ∧ p.Sent ≤ 28800
  case neg => exact ⟨2, by simp [k1, k2, k3, k4, k5, k6, k7, k8], fun h => absurd h (by decide)⟩
  obtain ⟨a, b, c, d, e, f, g, h, hu⟩ := used_total p
  have hall : ∀ n ∈ [p.Kind, p.Session, p.No, p.Of, p.End, p.At, p.Speed, p.Sent], 0 ≤ n ∧ n < 1000000000 := by
    simp only [List.mem_cons, List.not_mem_nil, or_false, forall_eq_or_imp, forall_eq]
    omega
  simp only [k1, k2, k3, k4, k5, k6, k7, k8, and_self, decide_true, if_true, Bool.not_true, Option.bind_some]
  rw [if_neg (by decide), hu, Option.bind_some]
  simp only [unc8]
  by_cases h1 : p.Kind = a ∧ p.Session = b ∧ p.No = c ∧ p.Of = d ∧ p.End = e ∧ p.At = f ∧ p.Speed = g ∧ p.Sent = h
  · rw [if_pos h1]
    by_cases h2 : p.Of = 0
    · rw [if_pos h2, Option.bind_some]
      by_cases h3 : 7 ≤ p.Kind
      · exact ⟨1, by simp [h3], fun _ => hall⟩
      · exact ⟨0, by simp [h3], fun _ => hall⟩
    · rw [if_neg h2]
      exact ⟨0, by simp, fun _ => hall⟩
  · rw [if_neg h1]
    exact ⟨1, by simp, fun _ => hall⟩
theorem jn_len_le (c : UInt8) (m : Nat) : ∀ ws : List (List UInt8), (∀ x ∈ ws, x.length ≤ m) → (jn c ws).length ≤ ws.length * (m + 1)
  | [], _ => by simp [jn]
  | [x], h => by
    have := h x (by simp)
    simp [jn]
    omega
  | x :: y :: r, h => by
    have ih := jn_len_le c m (y :: r) (fun z hz => h z (by simp at hz ⊢; right; exact hz))
    have := h x (by simp)
    simp only [jn, List.length_append, List.length_cons] at ih ⊢
    have e : (r.length + 1 + 1) * (m + 1) = (r.length + 1) * (m + 1) + (m + 1) := by rw [Nat.add_mul (r.length + 1) 1, Nat.one_mul]
    omega
def nums (p : GuardPacket) : List Int := [p.Kind, p.Session, p.No, p.Of, p.End, p.At, p.Speed, p.Sent]
theorem nums_len (p : GuardPacket) : (nums p).length = 8 := rfl
theorem words_ok (p : GuardPacket) (hr : ∀ n ∈ nums p, 0 ≤ n ∧ n < 1000000000) : forS (mGuardPack_L84 p) 8 0 ([] : List ByteArray) = some ((nums p).map fun n => bs (Lib.itoa n)) := by
  have hnl := nums_len p
  obtain ⟨l, e1, e2⟩ := forS_inv (body := mGuardPack_L84 p) (fun k l => l = ((nums p).map fun n => bs (Lib.itoa n)).take k) 8 0 [] (by simp) (fun k l _ hk hi => by
    subst hi
    have hk' : k < (nums p).length := by omega
    unfold mGuardPack_L84
    rw [show [p.Kind, p.Session, p.No, p.Of, p.End, p.At, p.Speed, p.Sent] = nums p from rfl, idx_lt hk', Option.bind_some]
    have hb := hr _ (List.getElem_mem hk')
    rw [itoa_model (by omega) (by omega), Option.bind_some, room_ok (by simp; omega) (by simp; omega), Option.bind_some]
    refine ⟨_, rfl, ?_⟩
    rw [List.take_add_one, List.getElem?_map, List.getElem?_eq_getElem hk']
    rfl)
  rw [e1, e2, List.take_of_length_le (by rw [List.length_map, hnl]; omega)]
theorem text_len (p : GuardPacket) (hr : ∀ n ∈ nums p, 0 ≤ n ∧ n < 1000000000) : (jn 32 ((nums p).map Lib.itoa)).length ≤ 80 := by
  have h := jn_len_le 32 9 ((nums p).map Lib.itoa) (fun x hx => by
    obtain ⟨n, hn, rfl⟩ := List.mem_map.1 hx
    exact (numeral (hr n hn).1 (hr n hn).2).2.2.1)
  rw [List.length_map, nums_len] at h
  omega
theorem joined (p : GuardPacket) (hr : ∀ n ∈ nums p, 0 ≤ n ∧ n < 1000000000) : mStringsJoin ((nums p).map fun n => bs (Lib.itoa n)) (ByteArray.mk #[32]) = some (bs (jn 32 ((nums p).map Lib.itoa))) := by
  have hjl := text_len p hr
  have hmap : ((nums p).map fun n => bs (Lib.itoa n)).map (·.data.toList) = (nums p).map Lib.itoa := by
    rw [List.map_map]
    apply List.map_congr_left
    intro n _
    exact bs_data _
  unfold mStringsJoin joinM
  rw [hmap, show (ByteArray.mk #[32]).data.toList = [32] from rfl, join_jn, if_pos ⟨by rw [List.length_map, nums_len]; omega, by omega⟩]
  rfl
theorem splitted (p : GuardPacket) (hr : ∀ n ∈ nums p, 0 ≤ n ∧ n < 1000000000) : mStringsSplit (bs (jn 32 ((nums p).map Lib.itoa))) (ByteArray.mk #[32]) = some ((nums p).map fun n => bs (Lib.itoa n)) := by
  have hjl := text_len p hr
  have h := split_words 32 ((nums p).map Lib.itoa) (fun h => by rw [List.map_eq_nil_iff] at h; cases h) (fun x hx h32 => by
      obtain ⟨n, hn, rfl⟩ := List.mem_map.1 hx
      have := (numeral (hr n hn).1 (hr n hn).2).2.2.2 _ h32
      revert this
      decide) (by omega)
  rw [List.map_map] at h
  exact h
theorem idx8 (a b c d e f g h : Int) : idx [a, b, c, d, e, f, g, h] 0 = some a ∧ idx [a, b, c, d, e, f, g, h] 1 = some b ∧ idx [a, b, c, d, e, f, g, h] 2 = some c ∧ idx [a, b, c, d, e, f, g, h] 3 = some d ∧ idx [a, b, c, d, e, f, g, h] 4 = some e ∧ idx [a, b, c, d, e, f, g, h] 5 = some f ∧ idx [a, b, c, d, e, f, g, h] 6 = some g ∧ idx [a, b, c, d, e, f, g, h] 7 = some h := ⟨rfl, rfl, rfl, rfl, rfl, rfl, rfl, rfl⟩
theorem unpack_gen (t : ByteArray) (p : GuardPacket) (ws : List ByteArray) (h1 : mStringsSplit t (ByteArray.mk #[32]) = some ws) (h2 : mLineNumbers ws = some (true, nums p)) (he : mGuardPacketCheck p = some 0) : mGuardUnpack t = some (p.Kind, p.Session, p.No, p.Of, p.End, p.At, p.Speed, p.Sent, 0) := by
  obtain ⟨a, b, c, d, e, f, g, h⟩ := p
  obtain ⟨i0, i1, i2, i3, i4, i5, i6, i7⟩ := idx8 a b c d e f g h
  unfold mGuardUnpack
  rw [h1, Option.bind_some, h2, Option.bind_some]
  have h8 : ¬ (decide (((nums ⟨a, b, c, d, e, f, g, h⟩).length : Int) ≠ 8)) = true := by rw [nums_len]; simp
  simp only [unc2, if_true, Option.bind_some]
  rw [if_neg h8]
  simp only [nums]
  rw [i0, i1, i2, i3, i4, i5, i6, i7]
  simp only [Option.bind_some, unc8]
  rw [he, Option.bind_some, if_neg (by simp)]
theorem unpacked (p : GuardPacket) (he : mGuardPacketCheck p = some 0) (hr : ∀ n ∈ nums p, 0 ≤ n ∧ n < 1000000000) : mGuardUnpack (bs (jn 32 ((nums p).map Lib.itoa))) = some (p.Kind, p.Session, p.No, p.Of, p.End, p.At, p.Speed, p.Sent, 0) :=
  unpack_gen _ p _ (splitted p hr) (numbers_ok (nums p) hr (by rw [nums_len]; omega)) he
theorem packed (p : GuardPacket) : ∃ e, mGuardPacketCheck p = some e ∧ ((e ≠ 0 ∧ mGuardPack p = some (bs [], e)) ∨ (e = 0 ∧ (∀ n ∈ nums p, 0 ≤ n ∧ n < 1000000000) ∧ mGuardPack p = some (bs (jn 32 ((nums p).map Lib.itoa)), 0))) := by
  obtain ⟨e, he, hr⟩ := pcheck p
  refine ⟨e, he, ?_⟩
  by_cases h0 : e ≠ 0
  · refine .inl ⟨h0, ?_⟩
    unfold mGuardPack
    rw [he, Option.bind_some, if_pos h0]
    rfl
  · have h0' : e = 0 := by omega
    subst h0'
    have hr := hr rfl
    refine .inr ⟨rfl, hr, ?_⟩
    unfold mGuardPack
    rw [he, Option.bind_some, if_neg (by simp), words_ok p hr, Option.bind_some, joined p hr, Option.bind_some]
theorem told_of (p : GuardPacket) (t : ByteArray) (e z : Int) (h0 : e = 0) (hz : z = 0) (h1 : mGuardPack p = some (t, e)) (h2 : mGuardUnpack t = some (p.Kind, p.Session, p.No, p.Of, p.End, p.At, p.Speed, p.Sent, z)) : mFishkeep1GuardTold p = some true := by
  unfold mFishkeep1GuardTold
  rw [awakeT, Option.bind_some, if_pos rfl, h1, Option.bind_some]
  simp only [unc2]
  rw [if_neg (fun h => h h0), h2, Option.bind_some]
  simp only [unc9]
  rw [if_pos hz, Option.bind_some]
  simp
theorem guardToldPlain (p : GuardPacket) (_ : ok36 p) : mFishkeep1GuardTold p = some true := by
  obtain ⟨e, he, ⟨h0, h1⟩ | ⟨h0, hr, h1⟩⟩ := packed p
  · unfold mFishkeep1GuardTold
    rw [awakeT, Option.bind_some, if_pos rfl, h1, Option.bind_some]
    simp only [unc2]
    rw [if_pos h0, show (ByteArray.mk #[]) = bs [] from rfl, sEq_bs, decide_eq_true rfl]
  · exact told_of p _ _ _ rfl rfl h1 (unpacked p (h0 ▸ he) hr)
end Go.Proofs.YtljcafilceachaaDoor
