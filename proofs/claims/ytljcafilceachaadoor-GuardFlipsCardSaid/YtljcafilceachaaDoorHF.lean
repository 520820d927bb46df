/- Plain: the checksum of telegrams, and GuardFlips. -/
import Derived.Test.YtljcafilceachaaDoorFR1
import Derived.Test.YtljcafilceachaaDoorX6
import Derived.Lib.QuoteBits
import Derived.Lib.EndianBits
set_option linter.unusedVariables false
set_option linter.unusedSimpArgs false
namespace Go.Proofs.YtljcafilceachaaDoor
open Go.RowKit Go.Fp

/- ---- the checksum, as bits ---- -/
def stepB (x : BitVec 16) : BitVec 16 := (x <<< 1) ^^^ (if x.msb then 4129#16 else 0#16)
theorem stepB_xor (x y : BitVec 16) : stepB (x ^^^ y) = stepB x ^^^ stepB y := by
  unfold stepB
  rw [BitVec.shiftLeft_xor_distrib, BitVec.msb_xor]
  cases x.msb <;> cases y.msb
  · simp
  · simp
    ac_rfl
  · simp
    ac_rfl
  · rw [show (true ^^ true) = false from rfl, if_neg (by decide), if_pos rfl, BitVec.xor_zero]
    rw [show x <<< 1 ^^^ 4129#16 ^^^ (y <<< 1 ^^^ 4129#16) = x <<< 1 ^^^ y <<< 1 ^^^ (4129#16 ^^^ 4129#16) by ac_rfl, BitVec.xor_self, BitVec.xor_zero]
def stepN : Nat → BitVec 16 → BitVec 16
  | 0, x => x
  | n + 1, x => stepN n (stepB x)
theorem stepN_xor : ∀ (n : Nat) (x y : BitVec 16), stepN n (x ^^^ y) = stepN n x ^^^ stepN n y
  | 0, _, _ => rfl
  | n + 1, x, y => by simp only [stepN, stepB_xor, stepN_xor n]
def byteB (s : BitVec 16) (c : BitVec 8) : BitVec 16 := stepN 8 (s ^^^ (c.setWidth 16 <<< 8))
theorem byteB_xor (s s' : BitVec 16) (c c' : BitVec 8) : byteB (s ^^^ s') (c ^^^ c') = byteB s c ^^^ byteB s' c' := by
  unfold byteB
  rw [← stepN_xor, BitVec.setWidth_xor, BitVec.shiftLeft_xor_distrib]
  congr 1
  ac_rfl
theorem byteB_s (s s' : BitVec 16) (c : BitVec 8) : byteB (s ^^^ s') c = byteB s c ^^^ byteB s' 0#8 := by
  have h := byteB_xor s s' c 0#8
  simpa using h
theorem byteB_c (s : BitVec 16) (c c' : BitVec 8) : byteB s (c ^^^ c') = byteB s c ^^^ byteB 0#16 c' := by
  have h := byteB_xor s 0#16 c c'
  simpa using h
/-- What is left over of eight bytes. -/
def synd (a b c d e f g h : BitVec 8) : BitVec 16 :=
  byteB (byteB (byteB (byteB (byteB (byteB 65535#16 a) b) c) d) e) f ^^^ ((g.setWidth 16 <<< 8) ^^^ h.setWidth 16)
/-- What a changed byte adds. -/
def adds : Nat → BitVec 8 → BitVec 16
  | 0, x => byteB (byteB (byteB (byteB (byteB (byteB 0#16 x) 0#8) 0#8) 0#8) 0#8) 0#8
  | 1, x => byteB (byteB (byteB (byteB (byteB 0#16 x) 0#8) 0#8) 0#8) 0#8
  | 2, x => byteB (byteB (byteB (byteB 0#16 x) 0#8) 0#8) 0#8
  | 3, x => byteB (byteB (byteB 0#16 x) 0#8) 0#8
  | 4, x => byteB (byteB 0#16 x) 0#8
  | 5, x => byteB 0#16 x
  | 6, x => x.setWidth 16 <<< 8
  | _, x => x.setWidth 16
theorem synd_0 (a b c d e f g h x : BitVec 8) : synd (a ^^^ x) b c d e f g h = synd a b c d e f g h ^^^ adds 0 x := by
  simp only [synd, adds]
  rw [byteB_c, byteB_s, byteB_s, byteB_s, byteB_s, byteB_s]
  ac_rfl
theorem synd_1 (a b c d e f g h x : BitVec 8) : synd a (b ^^^ x) c d e f g h = synd a b c d e f g h ^^^ adds 1 x := by
  simp only [synd, adds]
  rw [byteB_c, byteB_s, byteB_s, byteB_s, byteB_s]
  ac_rfl
theorem synd_2 (a b c d e f g h x : BitVec 8) : synd a b (c ^^^ x) d e f g h = synd a b c d e f g h ^^^ adds 2 x := by
  simp only [synd, adds]
  rw [byteB_c, byteB_s, byteB_s, byteB_s]
  ac_rfl
theorem synd_3 (a b c d e f g h x : BitVec 8) : synd a b c (d ^^^ x) e f g h = synd a b c d e f g h ^^^ adds 3 x := by
  simp only [synd, adds]
  rw [byteB_c, byteB_s, byteB_s]
  ac_rfl
theorem synd_4 (a b c d e f g h x : BitVec 8) : synd a b c d (e ^^^ x) f g h = synd a b c d e f g h ^^^ adds 4 x := by
  simp only [synd, adds]
  rw [byteB_c, byteB_s]
  ac_rfl
theorem synd_5 (a b c d e f g h x : BitVec 8) : synd a b c d e (f ^^^ x) g h = synd a b c d e f g h ^^^ adds 5 x := by
  simp only [synd, adds]
  rw [byteB_c]
  ac_rfl
theorem synd_6 (a b c d e f g h x : BitVec 8) : synd a b c d e f (g ^^^ x) h = synd a b c d e f g h ^^^ adds 6 x := by
  simp only [synd, adds]
  rw [BitVec.setWidth_xor, BitVec.shiftLeft_xor_distrib]
  ac_rfl
theorem synd_7 (a b c d e f g h x : BitVec 8) : synd a b c d e f g (h ^^^ x) = synd a b c d e f g h ^^^ adds 7 x := by
  simp only [synd, adds]
  rw [BitVec.setWidth_xor]
  ac_rfl
/-- What bit k adds. -/
def bitS (k : Nat) : BitVec 16 := adds (k / 8) (1#8 <<< (k % 8))
theorem adds_bit : ∀ j < 8, ∀ k < 8, adds j (1#8 <<< k) = bitS (8 * j + k) := by decide +kernel
theorem bits_two : ∀ i < 64, ∀ j < 64, i ≠ j → bitS i ^^^ bitS j ≠ 0#16 := by decide +kernel
def parN (x : BitVec 16) : Nat → Bool
  | 0 => false
  | n + 1 => x.getLsbD n ^^ parN x n
theorem parN_xor (x y : BitVec 16) : ∀ n, parN (x ^^^ y) n = (parN x n ^^ parN y n)
  | 0 => rfl
  | n + 1 => by
    simp only [parN, parN_xor x y n, BitVec.getLsbD_xor]
    cases x.getLsbD n <;> cases y.getLsbD n <;> cases parN x n <;> cases parN y n <;> rfl
def par (x : BitVec 16) : Bool := parN x 16
theorem par_xor (x y : BitVec 16) : par (x ^^^ y) = (par x ^^ par y) := parN_xor x y 16
theorem par_bit : ∀ i < 64, par (bitS i) = true := by decide +kernel
theorem bits_one {i : Nat} (h : i < 64) : bitS i ≠ 0#16 := fun he => by
  have := par_bit i h
  rw [he] at this
  revert this
  decide
theorem bits_three {i j k : Nat} (h : i < 64) (hj : j < 64) (hk : k < 64) : bitS i ^^^ bitS j ^^^ bitS k ≠ 0#16 := fun he => by
  have := congrArg par he
  rw [par_xor, par_xor, par_bit i h, par_bit j hj, par_bit k hk] at this
  revert this
  decide

/- ---- words as bits ---- -/
theorem wrap64s (n : Nat) (h : n < 9223372036854775808) : IntKind.i64.wrap (n : Int) = (n : Int) := by
  unfold IntKind.wrap
  simp [IntKind.bits, IntKind.signed]
  omega
theorem ofInt16 (x : BitVec 16) : BitVec.ofInt 16 (x.toNat : Int) = x := by
  rw [BitVec.ofInt_natCast, BitVec.ofNat_toNat, BitVec.setWidth_eq]
theorem wrap16 (x : BitVec 16) : IntKind.wrap .u16 (x.toNat : Int) = (x.toNat : Int) := by
  have := x.isLt
  rw [IntKind.wrap_u16]
  omega
theorem xor16 (x y : BitVec 16) : xorI .u16 (x.toNat : Int) (y.toNat : Int) = ((x ^^^ y).toNat : Int) := by
  unfold xorI
  rw [show IntKind.bits .u16 = 16 from rfl, ofInt16, ofInt16, wrap16]
theorem and16 (x y : BitVec 16) : andI .u16 (x.toNat : Int) (y.toNat : Int) = ((x &&& y).toNat : Int) := by
  unfold andI
  rw [show IntKind.bits .u16 = 16 from rfl, ofInt16, ofInt16, wrap16]
theorem shl16 (x : BitVec 16) : shlI .u16 (x.toNat : Int) 1 = ((x <<< 1).toNat : Int) := by
  unfold shlI IntKind.wrap
  simp [IntKind.bits, IntKind.signed, BitVec.toNat_shiftLeft, Nat.shiftLeft_eq]
theorem shl8 (c : BitVec 8) : shlI .u16 (IntKind.wrap .u16 (c.toNat : Int)) 8 = ((c.setWidth 16 <<< 8).toNat : Int) := by
  have := c.isLt
  unfold shlI IntKind.wrap
  simp [IntKind.bits, IntKind.signed, BitVec.toNat_shiftLeft, Nat.shiftLeft_eq, BitVec.toNat_setWidth]
  omega
theorem top16 (x : BitVec 16) : andI .u16 (x.toNat : Int) 32768 ≠ 0 ↔ x.msb = true := by
  have h := and16 x 32768#16
  rw [show ((32768#16).toNat : Int) = 32768 from rfl, show (32768#16) = BitVec.twoPow 16 15 by decide, BitVec.and_twoPow] at h
  rw [h, BitVec.msb_eq_getLsbD_last]
  cases x.getLsbD 15 <;> simp
theorem step_eq (k : Nat) (x : BitVec 16) : mGuardSum_L160 k (x.toNat : Int) = some ((stepB x).toNat : Int) := by
  unfold mGuardSum_L160 stepB
  rw [shN_ok (by omega), Option.bind_some, shl16]
  by_cases h : x.msb = true
  · rw [if_pos ((top16 x).2 h), if_pos h, show (4129 : Int) = ((4129#16).toNat : Int) from rfl, xor16]
  · rw [if_neg (fun h' => h ((top16 x).1 h')), if_neg h]
    simp
theorem steps_eq : ∀ (n k : Nat) (x : BitVec 16), forS mGuardSum_L160 n k (x.toNat : Int) = some ((stepN n x).toNat : Int)
  | 0, k, x => rfl
  | n + 1, k, x => by
    show (mGuardSum_L160 k (x.toNat : Int)).bind (fun s => forS mGuardSum_L160 n (k + 1) s) = _
    rw [step_eq, Option.bind_some, steps_eq n (k + 1)]
    rfl
/-- bytes as numbers -/
def nl (l : List (BitVec 8)) : List Int := l.map fun b => (b.toNat : Int)
theorem sum_eq (l : List (BitVec 8)) : mGuardSum (nl l) = some ((l.foldl byteB 65535#16).toNat : Int) := by
  unfold mGuardSum
  obtain ⟨s, e1, e2⟩ := forS_inv (body := mGuardSum_L90 (nl l)) (fun k s => s = (((l.take k).foldl byteB 65535#16).toNat : Int)) (nl l).length 0 65535 (by simp) (fun k s _ hk hi => by
    subst hi
    have hk' : k < l.length := by simpa [nl] using hk
    unfold mGuardSum_L90
    rw [idx_lt (by simpa [nl] using hk'), Option.bind_some, shN_ok (by omega), Option.bind_some]
    simp only [nl, List.getElem_map]
    rw [shl8, xor16, steps_eq, Option.bind_some]
    refine ⟨_, rfl, ?_⟩
    rw [List.take_add_one, List.getElem?_eq_getElem hk', Option.toList_some, List.foldl_append]
    rfl)
  rw [e1, e2, Option.bind_some]
  congr 1
  rw [show 0 + (nl l).length = l.length by simp [nl], List.take_length]
  exact wrap64s _ (Nat.lt_trans (BitVec.isLt _) (by decide))
theorem join_nat : ∀ g < 256, ∀ h < 256, (((g <<< 8) % 65536) ^^^ h) = g * 256 + h := by decide +kernel
theorem join_bits (g h : BitVec 8) : ((g.setWidth 16 <<< 8) ^^^ h.setWidth 16).toNat = g.toNat * 256 + h.toNat := by
  rw [BitVec.toNat_xor, BitVec.toNat_shiftLeft, BitVec.toNat_setWidth, BitVec.toNat_setWidth, Nat.mod_eq_of_lt (Nat.lt_trans g.isLt (by decide)), Nat.mod_eq_of_lt (Nat.lt_trans h.isLt (by decide))]
  exact join_nat _ g.isLt _ h.isLt
theorem i64_nat {n : Nat} (h : n < 9223372036854775808) : IntKind.wrap .i64 (n : Int) = (n : Int) := wrap64s n h
theorem join_int {a b : Nat} (ha : a < 256) (hb : b < 256) : orI .i64 (shlI .i64 (IntKind.wrap .i64 (a : Int)) 8) (IntKind.wrap .i64 (b : Int)) = ((a * 256 + b : Nat) : Int) := by
  unfold orI shlI
  rw [i64_nat (n := a) (by omega), i64_nat (n := b) (by omega), show (2 : Int) ^ (min (8 : Int).toNat (IntKind.bits .i64)) = 256 from rfl, show (a : Int) * 256 = ((a * 256 : Nat) : Int) by simp, i64_nat (n := a * 256) (by omega), show IntKind.bits .i64 = 64 from rfl, BitVec.ofInt_natCast, BitVec.ofInt_natCast, BitVec.toNat_or, BitVec.toNat_ofNat, BitVec.toNat_ofNat, Nat.mod_eq_of_lt (by omega), Nat.mod_eq_of_lt (by omega)]
  have := Nat.shiftLeft_add_eq_or_of_lt (i := 8) (b := b) (by omega) a
  rw [Nat.shiftLeft_eq] at this
  rw [show a * 256 = a * 2 ^ 8 from rfl, ← this]
  exact i64_nat (by omega)
def syndL : List (BitVec 8) → BitVec 16
  | [a, b, c, d, e, f, g, h] => synd a b c d e f g h
  | _ => 0#16
theorem eight {l : List (BitVec 8)} (h : l.length = 8) : ∃ a b c d e f g i, l = [a, b, c, d, e, f, g, i] := by
  match l, h with
  | [a, b, c, d, e, f, g, i], _ => exact ⟨a, b, c, d, e, f, g, i, rfl⟩
theorem read_sum {l : List (BitVec 8)} (h : l.length = 8) (hs : syndL l ≠ 0#16) : mGuardRead (nl l) = some (0, 0, 0, 11) := by
  obtain ⟨a, b, c, d, e, f, g, i, rfl⟩ := eight h
  unfold mGuardRead
  rw [if_neg (by simp [nl]), show (6 : Int) = ((6 : Nat) : Int) from rfl, show (0 : Int) = ((0 : Nat) : Int) from rfl, cutS_ok (by omega) (by simp [nl]), Option.bind_some]
  rw [show ((nl [a, b, c, d, e, f, g, i]).take 6).drop 0 = nl [a, b, c, d, e, f] from rfl, sum_eq, Option.bind_some, show idx (nl [a, b, c, d, e, f, g, i]) ((6 : Nat) : Int) = some (g.toNat : Int) from rfl, Option.bind_some, shN_ok (by omega), Option.bind_some, show idx (nl [a, b, c, d, e, f, g, i]) 7 = some (i.toNat : Int) from rfl, Option.bind_some, join_int g.isLt i.isLt, ← join_bits]
  refine if_pos ?_
  intro he
  apply hs
  have he := BitVec.eq_of_toNat_eq (Int.ofNat_inj.1 he)
  show synd a b c d e f g i = 0#16
  unfold synd
  rw [show byteB (byteB (byteB (byteB (byteB (byteB 65535#16 a) b) c) d) e) f = List.foldl byteB 65535#16 [a, b, c, d, e, f] from rfl, he, BitVec.xor_self]
theorem nwithin (x a c : Int) : mGuardWithin x a c = some (decide (a ≤ x ∧ x ≤ c)) := by
  unfold mGuardWithin
  by_cases h : a ≤ x <;> simp [h]
theorem tcheck (s : GuardTelegram) : (mGuardTelegramCheck s = some 2) ∨ (mGuardTelegramCheck s = some 0 ∧ 0 ≤ s.Link ∧ s.Link ≤ 89 ∧ 0 ≤ s.Section ∧ s.Section ≤ 59 ∧ 0 ≤ s.Away ∧ s.Away ≤ 60000) := by
  unfold mGuardTelegramCheck
  simp only [nwithin, Option.bind_some]
  by_cases h1 : 0 ≤ s.Link ∧ s.Link ≤ 89
  case neg => left; simp [h1]
  by_cases h2 : 0 ≤ s.Section ∧ s.Section ≤ 59
  case neg => left; simp [h1, h2]
  by_cases h3 : 0 ≤ s.Away ∧ s.Away ≤ 60000
  case neg => left; simp [h1, h2, h3]
  right
  exact ⟨by simp [h1, h2, h3], h1.1, h1.2, h2.1, h2.2, h3.1, h3.2⟩
theorem u8_nat (n : Nat) : IntKind.wrap .u8 (n : Int) = (((BitVec.ofNat 8 n).toNat : Nat) : Int) := by
  unfold IntKind.wrap
  simp [IntKind.bits, IntKind.signed]
theorem hi_nat (n : Nat) : IntKind.wrap .u8 (shrI .i64 (n : Int) 8) = (((BitVec.ofNat 8 (n / 256)).toNat : Nat) : Int) := by
  have : shrI .i64 (n : Int) 8 = ((n / 256 : Nat) : Int) := by
    unfold shrI
    rw [show (2 : Int) ^ (min (8 : Int).toNat (IntKind.bits .i64)) = ((256 : Nat) : Int) from rfl]
    exact (Int.ofNat_fdiv n 256).symm
  rw [this, u8_nat]
theorem bytes_back {n : Nat} (h : n < 65536) : (BitVec.ofNat 8 (n / 256)).toNat * 256 + (BitVec.ofNat 8 n).toNat = n := by
  simp [BitVec.toNat_ofNat]
  omega
/-- What Write writes, as bytes. -/
def wrote (x y z : Nat) : List (BitVec 8) :=
  let l := [82#8, BitVec.ofNat 8 (x / 256), BitVec.ofNat 8 x, BitVec.ofNat 8 y, BitVec.ofNat 8 (z / 256), BitVec.ofNat 8 z]
  let s := (l.foldl byteB 65535#16).toNat
  l ++ [BitVec.ofNat 8 (s / 256), BitVec.ofNat 8 s]
theorem wrote_len (x y z : Nat) : (wrote x y z).length = 8 := rfl
theorem wrote_synd (x y z : Nat) : syndL (wrote x y z) = 0#16 := by
  show synd _ _ _ _ _ _ _ _ = _
  unfold synd
  rw [show ∀ a b c d e f, byteB (byteB (byteB (byteB (byteB (byteB 65535#16 a) b) c) d) e) f = List.foldl byteB 65535#16 [a, b, c, d, e, f] from fun _ _ _ _ _ _ => rfl]
  generalize List.foldl byteB 65535#16 _ = S
  rw [BitVec.xor_eq_zero_iff]
  apply BitVec.eq_of_toNat_eq
  rw [join_bits, bytes_back S.isLt]
theorem write_eq {s : GuardTelegram} (hc : mGuardTelegramCheck s = some 0) (h1 : 0 ≤ s.Link) (h2 : 0 ≤ s.Section) (h3 : 0 ≤ s.Away) : mGuardWrite s = some (0, nl (wrote s.Link.toNat s.Section.toNat s.Away.toNat)) := by
  unfold mGuardWrite
  rw [hc, Option.bind_some, if_neg (by simp)]
  obtain ⟨x, hx⟩ := Int.eq_ofNat_of_zero_le h1
  obtain ⟨y, hy⟩ := Int.eq_ofNat_of_zero_le h2
  obtain ⟨z, hz⟩ := Int.eq_ofNat_of_zero_le h3
  rw [hx, hy, hz, hi_nat, hi_nat, u8_nat, u8_nat, u8_nat]
  simp only [shN_ok (show (0 : Int) ≤ 8 by omega), Option.bind_some, Int.toNat_natCast]
  have e : ([82, ((BitVec.ofNat 8 (x / 256)).toNat : Int), ((BitVec.ofNat 8 x).toNat : Int), ((BitVec.ofNat 8 y).toNat : Int), ((BitVec.ofNat 8 (z / 256)).toNat : Int), ((BitVec.ofNat 8 z).toNat : Int)] : List Int) = nl [82#8, BitVec.ofNat 8 (x / 256), BitVec.ofNat 8 x, BitVec.ofNat 8 y, BitVec.ofNat 8 (z / 256), BitVec.ofNat 8 z] := rfl
  rw [e, sum_eq, Option.bind_some, hi_nat, u8_nat, room_ok (by simp) (by simp), Option.bind_some]
  rfl
theorem read_back {s : GuardTelegram} (hc : mGuardTelegramCheck s = some 0) (h1 : 0 ≤ s.Link) (h1' : s.Link ≤ 89) (h2 : 0 ≤ s.Section) (h2' : s.Section ≤ 59) (h3 : 0 ≤ s.Away) (h3' : s.Away ≤ 60000) :
    mGuardRead (nl (wrote s.Link.toNat s.Section.toNat s.Away.toNat)) = some (s.Link, s.Section, s.Away, 0) := by
  obtain ⟨x, hx⟩ := Int.eq_ofNat_of_zero_le h1
  obtain ⟨y, hy⟩ := Int.eq_ofNat_of_zero_le h2
  obtain ⟨z, hz⟩ := Int.eq_ofNat_of_zero_le h3
  have hs : s = ⟨(x : Int), (y : Int), (z : Int)⟩ := by cases s; simp_all
  subst hs
  simp only [Int.toNat_natCast] at *
  unfold mGuardRead
  rw [if_neg (by simp [nl, wrote_len]), show (6 : Int) = ((6 : Nat) : Int) from rfl, show (0 : Int) = ((0 : Nat) : Int) from rfl, cutS_ok (by omega) (by simp [nl, wrote_len]), Option.bind_some]
  rw [show ((nl (wrote x y z)).take 6).drop 0 = nl [82#8, BitVec.ofNat 8 (x / 256), BitVec.ofNat 8 x, BitVec.ofNat 8 y, BitVec.ofNat 8 (z / 256), BitVec.ofNat 8 z] from rfl, sum_eq, Option.bind_some]
  have hw : wrote x y z = [82#8, BitVec.ofNat 8 (x / 256), BitVec.ofNat 8 x, BitVec.ofNat 8 y, BitVec.ofNat 8 (z / 256), BitVec.ofNat 8 z] ++ [BitVec.ofNat 8 ((List.foldl byteB 65535#16 [82#8, BitVec.ofNat 8 (x / 256), BitVec.ofNat 8 x, BitVec.ofNat 8 y, BitVec.ofNat 8 (z / 256), BitVec.ofNat 8 z]).toNat / 256), BitVec.ofNat 8 (List.foldl byteB 65535#16 [82#8, BitVec.ofNat 8 (x / 256), BitVec.ofNat 8 x, BitVec.ofNat 8 y, BitVec.ofNat 8 (z / 256), BitVec.ofNat 8 z]).toNat] := rfl
  rw [hw]
  generalize List.foldl byteB 65535#16 _ = S
  simp only [List.cons_append, List.nil_append]
  generalize hL : nl _ = L
  have g0 : idx L ((0 : Nat) : Int) = some 82 := by rw [← hL]; rfl
  have g1 : idx L 1 = some ((BitVec.ofNat 8 (x / 256)).toNat : Int) := by rw [← hL]; rfl
  have g2 : idx L 2 = some ((BitVec.ofNat 8 x).toNat : Int) := by rw [← hL]; rfl
  have g3 : idx L 3 = some ((BitVec.ofNat 8 y).toNat : Int) := by rw [← hL]; rfl
  have g4 : idx L 4 = some ((BitVec.ofNat 8 (z / 256)).toNat : Int) := by rw [← hL]; rfl
  have g5 : idx L 5 = some ((BitVec.ofNat 8 z).toNat : Int) := by rw [← hL]; rfl
  have g6 : idx L ((6 : Nat) : Int) = some ((BitVec.ofNat 8 (S.toNat / 256)).toNat : Int) := by rw [← hL]; rfl
  have g7 : idx L 7 = some ((BitVec.ofNat 8 S.toNat).toNat : Int) := by rw [← hL]; rfl
  rw [g6, Option.bind_some, shN_ok (by omega), Option.bind_some, g7, Option.bind_some, join_int (BitVec.isLt _) (BitVec.isLt _), bytes_back S.isLt, if_neg (by simp), g0, Option.bind_some, if_neg (by simp), g1, Option.bind_some, Option.bind_some, g2, Option.bind_some, g3, Option.bind_some, g4, Option.bind_some, Option.bind_some, g5, Option.bind_some, join_int (BitVec.isLt _) (BitVec.isLt _), bytes_back (by omega), join_int (BitVec.isLt _) (BitVec.isLt _), bytes_back (by omega), i64_nat (Nat.lt_trans (BitVec.isLt _) (by decide)), show (BitVec.ofNat 8 y).toNat = y by rw [BitVec.toNat_ofNat]; omega, Option.bind_some]
  simp only [unc3]
  rw [hc, Option.bind_some, if_neg (by simp)]

/- ---- the flips ---- -/
theorem index_spec (l : List Int) (x : Int) : ∃ r, mSlicesIndex l x = some r ∧ (0 ≤ r ↔ x ∈ l) := by
  unfold mSlicesIndex
  rcases forM_inv (body := mSlicesIndex_L39 l x) (fun k _ => x ∉ l.take k) (fun r => 0 ≤ r ∧ x ∈ l) l.length 0 () (by simp) (fun k u _ hk hi => by
    have hk : k < l.length := by omega
    unfold mSlicesIndex_L39
    rw [idx_lt hk, Option.bind_some]
    by_cases he : x = l[k]
    · rw [if_pos he]
      exact .inr ⟨_, rfl, by omega, by rw [he]; exact List.getElem_mem hk⟩
    · rw [if_neg he]
      refine .inl ⟨_, rfl, ?_⟩
      rw [List.take_add_one, List.getElem?_eq_getElem hk]
      simp only [Option.toList_some, List.mem_append, List.mem_singleton, not_or]
      exact ⟨hi, he⟩) with ⟨u, e1, e2⟩ | ⟨r, e1, e2, e3⟩
  · rw [e1]
    refine ⟨-1, rfl, ⟨fun h => absurd h (by decide), fun h => ?_⟩⟩
    rw [Nat.zero_add, List.take_length] at e2
    exact absurd h e2
  · rw [e1]
    exact ⟨r, rfl, ⟨fun _ => e3, fun _ => e2⟩⟩
theorem contains_eq (l : List Int) (x : Int) : mSlicesContains l x = some (decide (x ∈ l)) := by
  obtain ⟨r, h1, h2⟩ := index_spec l x
  unfold mSlicesContains
  rw [h1, Option.bind_some]
  congr 1
  exact decide_eq_decide.2 h2
def allS : List Int → BitVec 16
  | [] => 0#16
  | x :: r => bitS x.toNat ^^^ allS r
theorem allS_snoc : ∀ (l : List Int) (x : Int), allS (l ++ [x]) = allS l ^^^ bitS x.toNat
  | [], x => by simp [allS]
  | y :: r, x => by
    simp only [List.cons_append, allS, allS_snoc r x]
    ac_rfl
theorem synd_set {l : List (BitVec 8)} (h : l.length = 8) {j : Nat} (hj : j < 8) (x : BitVec 8) : syndL (l.set j (l[j] ^^^ x)) = syndL l ^^^ adds j x := by
  obtain ⟨a, b, c, d, e, f, g, i, rfl⟩ := eight h
  match j, hj with
  | 0, _ => exact synd_0 a b c d e f g i x
  | 1, _ => exact synd_1 a b c d e f g i x
  | 2, _ => exact synd_2 a b c d e f g i x
  | 3, _ => exact synd_3 a b c d e f g i x
  | 4, _ => exact synd_4 a b c d e f g i x
  | 5, _ => exact synd_5 a b c d e f g i x
  | 6, _ => exact synd_6 a b c d e f g i x
  | 7, _ => exact synd_7 a b c d e f g i x
theorem ofInt8 (x : BitVec 8) : BitVec.ofInt 8 (x.toNat : Int) = x := by
  rw [BitVec.ofInt_natCast, BitVec.ofNat_toNat, BitVec.setWidth_eq]
theorem xor8 (x y : BitVec 8) : xorI .u8 (x.toNat : Int) (y.toNat : Int) = ((x ^^^ y).toNat : Int) := by
  unfold xorI
  rw [show IntKind.bits .u8 = 8 from rfl, ofInt8, ofInt8, u8_nat, BitVec.ofNat_toNat, BitVec.setWidth_eq]
theorem bit8 : ∀ k < 8, shlI .u8 1 ((k : Nat) : Int) = ((1#8 <<< k).toNat : Int) := by decide +kernel
theorem flip_step {l : List (BitVec 8)} (h : l.length = 8) {n : Nat} (hn : n < 64) : ∃ v, idx (nl l) (Int.tdiv (n : Int) 8) = some v ∧ ∃ l', l'.length = 8 ∧ put (nl l) (Int.tdiv (n : Int) 8) (xorI .u8 v (shlI .u8 1 (Int.tmod (n : Int) 8))) = nl l' ∧ syndL l' = syndL l ^^^ bitS n := by
  have e1 : Int.tdiv (n : Int) 8 = ((n / 8 : Nat) : Int) := rfl
  have e2 : Int.tmod (n : Int) 8 = ((n % 8 : Nat) : Int) := rfl
  have hj : n / 8 < 8 := by omega
  rw [e1, e2, bit8 _ (by omega)]
  refine ⟨(l[n / 8].toNat : Int), ?_, l.set (n / 8) (l[n / 8] ^^^ (1#8 <<< (n % 8))), by simp [h], ?_, ?_⟩
  · rw [idx_lt (by simp [nl]; omega)]
    simp [nl]
  · rw [put_nat, xor8]
    simp [nl, List.map_set]
  · rw [synd_set h hj, adds_bit _ hj _ (by omega)]
    congr 2
    omega
theorem flips_loop (bits : List Int) (l : List (BitVec 8)) (h : l.length = 8) (h0 : syndL l = 0#16) :
    (∃ l', l'.length = 8 ∧ syndL l' = allS bits ∧ bits.Nodup ∧ (∀ x ∈ bits, 0 ≤ x ∧ x < 64) ∧ forM (mFishkeep1GuardFlips_L520 bits) bits.length 0 (nl l) = some (.inl (nl l'))) ∨ forM (mFishkeep1GuardFlips_L520 bits) bits.length 0 (nl l) = some (.inr true) := by
  rcases forM_inv (body := mFishkeep1GuardFlips_L520 bits) (fun k c => ∃ l', l'.length = 8 ∧ syndL l' = allS (bits.take k) ∧ (bits.take k).Nodup ∧ (∀ x ∈ bits.take k, 0 ≤ x ∧ x < 64) ∧ c = nl l') (fun t => t = true) bits.length 0 (nl l) ⟨l, h, by simp [h0, allS], by simp, by simp, rfl⟩ (fun k c _ hk hi => by
    obtain ⟨l', i1, i2, i3, i4, rfl⟩ := hi
    have hk : k < bits.length := by omega
    unfold mFishkeep1GuardFlips_L520
    rw [idx_lt hk, Option.bind_some]
    by_cases c1 : bits[k] < 0
    · rw [if_pos c1, Option.bind_some, if_pos rfl]
      exact .inr ⟨_, rfl, rfl⟩
    by_cases c2 : 64 ≤ bits[k]
    · rw [if_neg c1, if_pos c2, Option.bind_some, if_pos rfl]
      exact .inr ⟨_, rfl, rfl⟩
    rw [if_neg c1, if_neg c2, show (0 : Int) = ((0 : Nat) : Int) from rfl, cutS_ok (by omega) (by omega), Option.bind_some, contains_eq, Option.bind_some, Option.bind_some, List.drop_zero]
    by_cases c3 : bits[k] ∈ bits.take k
    · rw [if_pos (by simpa using c3)]
      exact .inr ⟨_, rfl, rfl⟩
    rw [if_neg (by simpa using c3)]
    obtain ⟨n, hn⟩ := Int.eq_ofNat_of_zero_le (show 0 ≤ bits[k] by omega)
    have hn64 : n < 64 := by omega
    obtain ⟨v, f1, l2, f2, f3, f4⟩ := flip_step i1 hn64
    rw [hn, show ne0 8 = some () from rfl, Option.bind_some, show Int.tdiv (n : Int) 8 = ((n / 8 : Nat) : Int) from rfl, chk_ok (by omega) (by omega), Option.bind_some, show ((n / 8 : Nat) : Int) = Int.tdiv (n : Int) 8 from rfl, f1, Option.bind_some, Option.bind_some, shN_ok (show (0 : Int) ≤ Int.tmod (n : Int) 8 by show (0 : Int) ≤ ((n % 8 : Nat) : Int); omega), Option.bind_some, Option.bind_some, f3]
    refine .inl ⟨_, rfl, l2, f2, ?_, ?_, ?_, rfl⟩
    · rw [f4, i2, List.take_add_one, List.getElem?_eq_getElem hk, Option.toList_some, allS_snoc, hn, Int.toNat_natCast]
    · rw [List.take_add_one, List.getElem?_eq_getElem hk, Option.toList_some, List.nodup_append]
      refine ⟨i3, by simp, fun a ha b hb => ?_⟩
      rw [List.mem_singleton] at hb
      subst hb
      exact fun he => c3 (he ▸ ha)
    · intro x hx
      rw [List.take_add_one, List.getElem?_eq_getElem hk, Option.toList_some, List.mem_append, List.mem_singleton] at hx
      rcases hx with hx | hx
      · exact i4 x hx
      · subst hx; omega) with ⟨c, e1, l', e2, e3, e4, e5, e6⟩ | ⟨t, e1, e2⟩
  · rw [Nat.zero_add, List.take_length] at e3 e4 e5
    subst e6
    exact .inl ⟨l', e2, e3, e4, e5, e1⟩
  · subst e2
    exact .inr e1
theorem awakeF : mFishkeep1AwakeGuard = some true := by
  have hat : mStrconvAtoi (ByteArray.mk #[]) = some (0, false) := by
    unfold mStrconvAtoi atoiM
    rw [if_pos (by decide)]
    rfl
  have hc : mStringsCount (ByteArray.mk #[]) (ByteArray.mk #[32]) = some 0 := by
    unfold mStringsCount
    rw [if_neg (by decide), if_pos (by decide), show sIdx (ByteArray.mk #[32]) 0 = some 32 from rfl, Option.bind_some]
    rfl
  have hs : mStringsSplit (ByteArray.mk #[]) (ByteArray.mk #[32]) = some [ByteArray.mk #[]] := by
    unfold mStringsSplit mStringsGenSplit
    have h1 : sEq (ByteArray.mk #[32]) (ByteArray.mk #[]) = false := by
      unfold sEq
      rw [ByteArray.toList_eq, ByteArray.toList_eq]
      rfl
    rw [if_neg (by decide), h1, if_neg (by decide), if_pos (by decide), hc, Option.bind_some, show chk (0 + 1) = some 1 from rfl, Option.bind_some, Option.bind_some]
    have e1 : (((ByteArray.mk #[]).size : Nat) : Int) = 0 := rfl
    rw [e1, show chk (0 + 1) = some 1 from rfl, Option.bind_some, show mkLen 16 (min (0 + 1) (0 + 1)) = some 1 from rfl, Option.bind_some, show chk (min (0 + 1) (0 + 1) - 1) = some 0 from rfl, Option.bind_some]
    have hl : mStringsGenSplit_L419 (ByteArray.mk #[]) (ByteArray.mk #[32]) 0 (0 + 1) (ByteArray.mk #[], 0, List.replicate 1 (ByteArray.empty : ByteArray)) = some (.inr (ByteArray.mk #[], 0, List.replicate 1 (ByteArray.empty : ByteArray))) := by
      simp only [mStringsGenSplit_L419, unc3]
      rw [e1, if_neg (by decide)]
    rw [loopM_last hl, Option.bind_some]
    rfl
  have hn : mLineNumber (ByteArray.mk #[]) = some 0 := by
    unfold mLineNumber
    rw [hat]
    rfl
  have hl : mLineNumbers [ByteArray.mk #[]] = some ([], false) := by
    unfold mLineNumbers
    rw [show [ByteArray.mk #[]].length = 1 from rfl, forM_succ_inr (m := 0) (t := ([], false)) (by
      unfold mLineNumbers_L45
      rw [show idx [ByteArray.mk #[]] ((0 : Nat) : Int) = some (ByteArray.mk #[]) from rfl, Option.bind_some, hn]
      rfl)]
    rfl
  unfold mFishkeep1AwakeGuard mGuardUnpack
  rw [hs, Option.bind_some, hl, Option.bind_some]
  rfl
theorem guardFlipsPlain (s : GuardTelegram) (l : List Int) (k0 : ok23 s) (k1 : ok24 l) (sz : l.length * 8 ≤ reachBytes) : mFishkeep1GuardFlips s l = some true := by
  unfold mFishkeep1GuardFlips
  rw [awakeF, Option.bind_some, if_pos rfl]
  rcases tcheck s with hc | ⟨hc, h1, h2, h3, h4, h5, h6⟩
  · have hw : mGuardWrite s = some (2, []) := by
      unfold mGuardWrite
      rw [hc]
      rfl
    rw [hw]
    rfl
  rw [write_eq hc h1 h3 h5, Option.bind_some]
  simp only [unc2]
  rw [if_neg (by simp), read_back hc h1 h2 h3 h4 h5 h6, Option.bind_some]
  simp only [unc4]
  have hlen : (nl (wrote s.Link.toNat s.Section.toNat s.Away.toNat)).length = 8 := rfl
  rw [if_neg (by simp), if_pos ⟨trivial, trivial, trivial⟩, hlen, show (decide (((8 : Nat) : Int) ≠ 8)) = false from rfl, Option.bind_some, if_neg (by decide)]
  unfold mSlicesClone
  rw [hlen, room_ok (by omega) (by omega), Option.bind_some, Option.bind_some]
  rcases flips_loop l _ (wrote_len s.Link.toNat s.Section.toNat s.Away.toNat) (wrote_synd _ _ _) with ⟨l', e1, e2, e3, e4, e5⟩ | e
  · rw [e5, Option.bind_some]
    simp only [Sum.elim_inl]
    by_cases g1 : (l.length : Int) < 1
    · rw [if_pos g1, Option.bind_some, if_pos rfl]
    rw [if_neg g1, Option.bind_some]
    by_cases g2 : 3 < (l.length : Int)
    · rw [if_pos (by simpa using g2)]
    rw [if_neg (by simpa using g2)]
    have hne : syndL l' ≠ 0#16 := by
      rw [e2]
      match l, g1, g2, e3, e4 with
      | [], g1, _, _, _ => simp at g1
      | [a], _, _, _, h =>
        have := h a (by simp)
        simp only [allS, BitVec.xor_zero]
        exact bits_one (by omega)
      | [a, b], _, _, hd, h =>
        have ha := h a (by simp)
        have hb := h b (by simp)
        simp only [allS, BitVec.xor_zero]
        refine bits_two _ (by omega) _ (by omega) fun he => ?_
        have : a ≠ b := by simpa using hd
        omega
      | [a, b, c], _, _, _, h =>
        have ha := h a (by simp)
        have hb := h b (by simp)
        have hc := h c (by simp)
        simp only [allS, BitVec.xor_zero]
        rw [← BitVec.xor_assoc]
        exact bits_three (by omega) (by omega) (by omega)
      | _ :: _ :: _ :: _ :: _, _, g2, _, _ => simp at g2; omega
    rw [read_sum e1 hne, Option.bind_some]
    rfl
  · rw [e]
    rfl
end Go.Proofs.YtljcafilceachaaDoor
