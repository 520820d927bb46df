/- Plain: the text of a net, divided into lines and words. -/
import Derived.Test.YtaagdbecijhkmaaDoorTC
set_option linter.unusedVariables false
set_option linter.unusedSimpArgs false
namespace Go.Proofs.YtaagdbecijhkmaaDoor
open Go.RowKit Go.Fp

theorem tx_jn : ∀ {ls : List (List (List UInt8))}, ls ≠ [] → tx ls = jn 10 (ls.map (jn 32)) ++ [10]
  | [], h => absurd rfl h
  | [w], _ => by simp [tx, tl, jn]
  | w :: v :: r, _ => by
    have ih := tx_jn (ls := v :: r) (by simp)
    have e : tx (w :: v :: r) = tl w ++ tx (v :: r) := by simp [tx]
    rw [e, ih]
    simp [tl, jn]
theorem cut_lf (t : List UInt8) (h : t.length ≤ 1000000) : mStringsCutSuffix (bs (t ++ [10])) (ByteArray.mk #[10]) = some (bs t, true) := by
  have h1 : (bs (t ++ [10])).size = t.length + 1 := by rw [bs_size]; simp
  have h2 : (ByteArray.mk #[10]).size = 1 := rfl
  have hs : mStringsliteHasSuffix (bs (t ++ [10])) (ByteArray.mk #[10]) = some true := by
    unfold mStringsliteHasSuffix
    rw [h1, h2, if_pos (by omega), chk_ok (by omega) (by omega), Option.bind_some, show (((t.length + 1 : Nat) : Int) - ((1 : Nat) : Int)) = ((t.length : Nat) : Int) by omega, sCut_bs (by omega) (by simp), Option.bind_some]
    rw [show (ByteArray.mk #[10]) = bs [10] from rfl, sEq_bs, List.take_of_length_le (by simp), List.drop_left, decide_eq_true rfl]
    rfl
  unfold mStringsCutSuffix mStringsliteCutSuffix
  rw [hs, Option.bind_some, if_pos rfl, h1, h2, chk_ok (by omega) (by omega), Option.bind_some, show (((t.length + 1 : Nat) : Int) - ((1 : Nat) : Int)) = ((t.length : Nat) : Int) by omega, show (0 : Int) = ((0 : Nat) : Int) from rfl, sCut_bs (by omega) (by simp), Option.bind_some, pass2]
  simp
theorem no_lf {ws : List (List UInt8)} (h : Ln ws) : 10 ∉ jn 32 ws := by
  have : ∀ ws : List (List UInt8), (∀ x ∈ ws, (10 : UInt8) ∉ x) → (10 : UInt8) ∉ jn 32 ws := by
    intro ws
    induction ws with
    | nil => intro _ h; simp [jn] at h
    | cons a r ih =>
      intro h hm
      cases r with
      | nil =>
        simp only [jn] at hm
        exact h a (by simp) hm
      | cons b r =>
        simp only [jn, List.mem_append, List.mem_cons] at hm
        rcases hm with hm | hm | hm
        · exact h a (by simp) hm
        · exact absurd hm (by decide)
        · exact ih (fun x hx => h x (by simp at hx ⊢; right; exact hx)) hm
  exact this ws (fun x hx => (h.2.2 x hx).2.2)
theorem lines_ok {ls : List (List (List UInt8))} (hne : ls ≠ []) (hl : ∀ ws ∈ ls, Ln ws) (hb : (tx ls).length ≤ 20000) : mLineLines (bs (tx ls)) = some (true, ls.map fun ws => ws.map bs) := by
  have hj := tx_jn hne
  have hlen : (jn 10 (ls.map (jn 32))).length ≤ 20000 := by rw [hj] at hb; simp at hb; omega
  have hn : ls.length ≤ 20001 := by
    have := jn_length 10 (ls.map (jn 32))
    rw [List.length_map] at this
    omega
  have hs := split_words 10 (ls.map (jn 32)) (by simp [hne]) (fun x hx => by
    obtain ⟨ws, hw, rfl⟩ := List.mem_map.1 hx
    exact no_lf (hl ws hw)) (by omega)
  unfold mLineLines
  rw [show (ByteArray.mk #[]) = bs [] from rfl, sEq_bs, decide_eq_false (by rw [hj]; simp), if_neg (by decide), hj, cut_lf _ (by omega), pass2]
  rw [show (ByteArray.mk #[10]) = bs [10] from rfl, hs, Option.bind_some]
  obtain ⟨r, e1, e2⟩ := forS_inv (body := mLineLines_L155 ((ls.map (jn 32)).map bs)) (fun k r => r = (ls.take k).map fun ws => ws.map bs) ((ls.map (jn 32)).map bs).length 0 [] (by simp) (fun k r _ hk hi => by
    subst hi
    have hk' : k < ls.length := by simpa using hk
    have hw := hl _ (List.getElem_mem hk')
    have hb := jn_bd hw
    unfold mLineLines_L155
    rw [idx_lt (by simpa using hk'), Option.bind_some, List.getElem_map, List.getElem_map, show (ByteArray.mk #[32]) = bs [32] from rfl, split_words 32 ls[k] hw.1 (fun x hx => (hw.2.2 x hx).2.1) (by omega), Option.bind_some, room_ok (by simp; omega) (by simp; omega), Option.bind_some]
    refine ⟨_, rfl, ?_⟩
    rw [List.take_add_one, List.getElem?_eq_getElem hk', List.map_append]
    rfl)
  rw [e1, Option.bind_some, e2]
  simp
/- ---- numbers ---- -/
theorem minus_off (u : Nat) (h0 : 1 ≤ u) (h1 : u < 1000000000) : mStringsTrimPrefix (bs (45 :: Lib.decDigits u)) (ByteArray.mk #[45]) = some (bs (Lib.decDigits u)) := by
  unfold mStringsTrimPrefix mStringsliteTrimPrefix mStringsliteHasPrefix
  rw [show (ByteArray.mk #[45]) = bs [45] from rfl, bs_size, bs_size, if_pos (by simp; omega), show (0 : Int) = ((0 : Nat) : Int) from rfl, sCut_bs (by omega) (by simp), Option.bind_some, sEq_bs]
  have he : ((45 :: Lib.decDigits u).take [(45 : UInt8)].length).drop 0 = [45] := by simp
  rw [decide_eq_true he, Option.bind_some, Option.bind_some, if_pos rfl, sCut_bs (by simp) (Nat.le_refl _), Option.bind_some]
  simp
theorem not_minus {l : List UInt8} (h : ∀ b ∈ l, 48 ≤ b.toNat ∧ b.toNat ≤ 57) (hl : 1 ≤ l.length) : mStringsTrimPrefix (bs l) (ByteArray.mk #[45]) = some (bs l) := by
  unfold mStringsTrimPrefix mStringsliteTrimPrefix mStringsliteHasPrefix
  rw [show (ByteArray.mk #[45]) = bs [45] from rfl, bs_size, bs_size, if_pos (by simp; omega), show (0 : Int) = ((0 : Nat) : Int) from rfl, sCut_bs (by omega) (by simp; omega), Option.bind_some, sEq_bs]
  have hne : ¬ (l.take [(45 : UInt8)].length).drop 0 = [45] := fun he => by
    cases l with
    | nil => simp at hl
    | cons b r =>
      simp at he
      have := h b (by simp)
      rw [he] at this
      revert this
      decide
  rw [decide_eq_false hne, Option.bind_some, Option.bind_some, if_neg (by decide)]
  rfl
theorem number_gen {n : Int} {l : List UInt8} (hn : Num n) (ha : Lib.atoiAll (it n) = .ok n) (hl : (it n).length ≤ 10) (ht : mStringsTrimPrefix (bs (it n)) (ByteArray.mk #[45]) = some (bs l)) (h9 : l.length ≤ 9) : mLineNumber (bs (it n)) = some (n, true) := by
  have hat : mStrconvAtoi (bs (it n)) = some (n, true) := by
    unfold mStrconvAtoi atoiM
    rw [if_pos (by rw [bs_size]; omega), bs_data, ha]
  unfold mLineNumber
  rw [hat, Option.bind_some]
  simp only [unc2, if_true]
  rw [itoa_num hn, Option.bind_some, sEq_bs]
  simp only [decide_true, if_true]
  rw [ht, Option.bind_some, bs_size, Option.bind_some]
  congr 2
  simp
  omega
theorem number_ok {n : Int} (h : Num n) : mLineNumber (bs (it n)) = some (n, true) := by
  have h0 := h.1
  have h1 := h.2
  by_cases hn : 0 ≤ n
  · obtain ⟨a1, a2, a3, a4⟩ := numeral hn h1
    exact number_gen h a1 (by show (Lib.itoa n).length ≤ 10; omega) (not_minus a4 a2) a3
  · obtain ⟨u, rfl⟩ : ∃ u : Nat, n = -(u : Int) := ⟨n.natAbs, by omega⟩
    have hu : 1 ≤ u ∧ u < 1000000000 := by omega
    obtain ⟨_, a2, a3, a4⟩ := numeral (n := (u : Int)) (by omega) (by omega)
    rw [Lib.itoa_nonneg] at a2 a3 a4
    have hi : it (-(u : Int)) = 45 :: Lib.decDigits u := Lib.itoa_neg u hu.1
    refine number_gen h (numeral_neg hu.1 hu.2) (by rw [hi]; simp; omega) (l := Lib.decDigits u) ?_ a3
    rw [hi]
    exact minus_off u hu.1 hu.2
theorem numbers_ok (ns : List Int) (h : ∀ n ∈ ns, Num n) (hl : ns.length ≤ 1000) : mLineNumbers (ns.map fun n => bs (it n)) = some (true, ns) := by
  unfold mLineNumbers
  rcases forM_inv (body := mLineNumbers_L95 (ns.map fun n => bs (it n))) (fun k l => l = ns.take k) (fun _ => False) (ns.map fun n => bs (it n)).length 0 [] (by simp) (fun k l _ hk hi => by
    subst hi
    have hk' : k < ns.length := by simpa using hk
    unfold mLineNumbers_L95
    rw [idx_lt (by simpa using hk'), Option.bind_some, List.getElem_map, number_ok (h _ (List.getElem_mem hk')), Option.bind_some]
    simp only [unc2, if_true]
    rw [room_ok (by simp; omega) (by simp; omega), Option.bind_some]
    refine .inl ⟨_, rfl, ?_⟩
    rw [List.take_add_one, List.getElem?_eq_getElem hk']
    rfl) with ⟨l, e1, e2⟩ | ⟨t, _, e2⟩
  · rw [e1, e2]
    simp
  · exact e2.elim
end Go.Proofs.YtaagdbecijhkmaaDoor
