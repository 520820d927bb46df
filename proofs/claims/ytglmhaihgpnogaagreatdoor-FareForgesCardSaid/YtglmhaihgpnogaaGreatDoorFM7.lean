/- Plain: the opening of any text: its words, its last space. -/
import Derived.Test.YtglmhaihgpnogaaGreatDoorFM6
set_option linter.unusedVariables false
set_option linter.unusedSimpArgs false
namespace Go.Proofs.YtglmhaihgpnogaaGreatDoor
open Go.RowKit Go.Fp

theorem p2 {A B C : Type} {f : A → B → Option C} {x : A} {y : B} : (some (x, y)).bind (unc2 f) = f x y := rfl
theorem p3 {A B C D : Type} {f : A → B → C → Option D} {x : A} {y : B} {z : C} : (some (x, y, z)).bind (unc3 f) = f x y z := rfl
theorem pL {α β δ : Type} {A : β → Option δ} {B : α → Option δ} {y : β} : ((some (.inl y) : Option (β ⊕ α)).bind fun t => Sum.elim A B t) = A y := rfl
theorem pR {α β δ : Type} {A : β → Option δ} {B : α → Option δ} {y : α} : ((some (.inr y) : Option (β ⊕ α)).bind fun t => Sum.elim A B t) = B y := rfl
/-- The words of a text. -/
def wd (c : UInt8) : List UInt8 → List (List UInt8)
  | [] => [[]]
  | b :: r => if b = c then [] :: wd c r else match wd c r with
    | [] => [[b]]
    | w :: ws => (b :: w) :: ws
theorem wd_ne (c : UInt8) : ∀ l, wd c l ≠ []
  | [] => by simp [wd]
  | b :: r => by
    unfold wd
    split
    · simp
    · split <;> simp
theorem jn_wd (c : UInt8) : ∀ l, jn c (wd c l) = l
  | [] => rfl
  | b :: r => by
    have ih := jn_wd c r
    have hne := wd_ne c r
    unfold wd
    by_cases h : b = c
    · rw [if_pos h]
      cases hw : wd c r with
      | nil => exact absurd hw hne
      | cons w ws =>
        rw [hw] at ih
        simp only [jn]
        rw [ih, h]
        rfl
    · rw [if_neg h]
      cases hw : wd c r with
      | nil => exact absurd hw hne
      | cons w ws =>
        rw [hw] at ih
        cases ws with
        | nil =>
          simp only [jn] at ih ⊢
          rw [ih]
        | cons y ys =>
          simp only [jn] at ih ⊢
          rw [← ih]
          rfl
theorem wd_no (c : UInt8) : ∀ l, ∀ w ∈ wd c l, c ∉ w
  | [], w, hw => by
    simp only [wd, List.mem_singleton] at hw
    subst hw
    simp
  | b :: r, w, hw => by
    have ih := wd_no c r
    have hne := wd_ne c r
    unfold wd at hw
    by_cases h : b = c
    · rw [if_pos h] at hw
      rcases List.mem_cons.1 hw with rfl | hw
      · simp
      · exact ih w hw
    · rw [if_neg h] at hw
      cases hq : wd c r with
      | nil => exact absurd hq hne
      | cons v vs =>
        rw [hq] at hw ih
        simp only at hw
        rcases List.mem_cons.1 hw with rfl | hw
        · intro hm
          rcases List.mem_cons.1 hm with he | hm
          · exact h he.symm
          · exact ih v (by simp) hm
        · exact ih w (by simp [hw])
theorem jn_snoc (c : UInt8) (x : List UInt8) : ∀ ws : List (List UInt8), ws ≠ [] → jn c (ws ++ [x]) = jn c ws ++ c :: x
  | [], h => absurd rfl h
  | [w], _ => rfl
  | w :: v :: r, _ => by
    have ih := jn_snoc c x (v :: r) (by simp)
    simp only [List.cons_append, jn] at ih ⊢
    rw [ih]
    simp
theorem cut_good (t : List UInt8) (h : t.length ≤ 1000000) : mStringsCutSuffix (bs (t ++ [10])) (ByteArray.mk #[10]) = some (bs t, true) := by
  have h1 : (bs (t ++ [10])).size = t.length + 1 := by rw [bs_size]; simp
  have h2 : (ByteArray.mk #[10]).size = 1 := rfl
  have hs : mStringsliteHasSuffix (bs (t ++ [10])) (ByteArray.mk #[10]) = some true := by
    unfold mStringsliteHasSuffix
    rw [h1, h2, if_pos (by omega), chk_ok (by omega) (by omega), Option.bind_some, show (((t.length + 1 : Nat) : Int) - ((1 : Nat) : Int)) = ((t.length : Nat) : Int) by omega, sCut_bs (by omega) (by simp), Option.bind_some]
    rw [show (ByteArray.mk #[10]) = bs [10] from rfl, sEq_bs, List.take_of_length_le (by simp), List.drop_left, decide_eq_true rfl]
    rfl
  unfold mStringsCutSuffix mStringsliteCutSuffix
  rw [hs, Option.bind_some, if_pos rfl, h1, h2, chk_ok (by omega) (by omega), Option.bind_some, show (((t.length + 1 : Nat) : Int) - ((1 : Nat) : Int)) = ((t.length : Nat) : Int) by omega, show (0 : Int) = ((0 : Nat) : Int) from rfl, sCut_bs (by omega) (by simp), Option.bind_some, Option.bind_some]
  simp [unc2]
theorem cut_bad (t : List UInt8) (c : UInt8) (hc : c ≠ 10) (h : t.length ≤ 1000000) : mStringsCutSuffix (bs (t ++ [c])) (ByteArray.mk #[10]) = some (bs (t ++ [c]), false) := by
  have h1 : (bs (t ++ [c])).size = t.length + 1 := by rw [bs_size]; simp
  have h2 : (ByteArray.mk #[10]).size = 1 := rfl
  have hs : mStringsliteHasSuffix (bs (t ++ [c])) (ByteArray.mk #[10]) = some false := by
    unfold mStringsliteHasSuffix
    rw [h1, h2, if_pos (by omega), chk_ok (by omega) (by omega), Option.bind_some, show (((t.length + 1 : Nat) : Int) - ((1 : Nat) : Int)) = ((t.length : Nat) : Int) by omega, sCut_bs (by omega) (by simp), Option.bind_some]
    rw [show (ByteArray.mk #[10]) = bs [10] from rfl, sEq_bs, List.take_of_length_le (by simp), List.drop_left, decide_eq_false (by simp [hc])]
    rfl
  unfold mStringsCutSuffix mStringsliteCutSuffix
  rw [hs, Option.bind_some, if_neg (by decide), Option.bind_some]
  rfl
theorem cut_nil : mStringsCutSuffix (bs []) (ByteArray.mk #[10]) = some (bs [], false) := by
  unfold mStringsCutSuffix mStringsliteCutSuffix mStringsliteHasSuffix
  rw [if_neg (by decide), Option.bind_some, Option.bind_some, if_neg (by decide), Option.bind_some]
  rfl
theorem open_loop (ws : List (List UInt8)) (hl : ws.length ≤ 1000) (hw : ∀ w ∈ ws, w.length ≤ 1000000) :
    (∃ l : List Int, forM (mFareOpen_2_L326 (ws.map bs)) (ws.map bs).length 0 ([] : List Int) = some (.inl l)) ∨ ∃ t, forM (mFareOpen_2_L326 (ws.map bs)) (ws.map bs).length 0 ([] : List Int) = some (.inr t) ∧ t.2.1 = false := by
  have hf := forM_inv (body := mFareOpen_2_L326 (ws.map bs)) (fun k l => l.length = k) (fun t => t.2.1 = false) (ws.map bs).length 0 ([] : List Int) rfl (fun k l _ hk hI => by
    have hkl : k < (ws.map bs).length := by omega
    have hkw : k < ws.length := by simpa using hkl
    obtain ⟨q, x, hn, _⟩ := number_any ws[k] (hw _ (List.getElem_mem hkw))
    unfold mFareOpen_2_L326
    rw [idx_lt hkl, Option.bind_some, List.getElem_map, hn, p2]
    cases q with
    | true =>
      rw [if_pos rfl, room_ok (by omega) (by omega), Option.bind_some]
      exact .inl ⟨_, rfl, by simp [hI]⟩
    | false =>
      rw [if_neg (by decide)]
      exact .inr ⟨_, rfl, rfl⟩)
  rcases hf with ⟨l, h1, _⟩ | ⟨t, h1, h2⟩
  · exact .inl ⟨l, h1⟩
  · exact .inr ⟨t, h1, h2⟩
theorem open_loop_good (ns : List Int) (hl : ns.length ≤ 1000) (hw : ∀ n ∈ ns, 0 ≤ n ∧ n < 1000000000) :
    forM (mFareOpen_2_L326 ((ns.map it).map bs)) ((ns.map it).map bs).length 0 ([] : List Int) = some (.inl ns) := by
  have hf := forM_inv (body := mFareOpen_2_L326 ((ns.map it).map bs)) (fun k l => l = ns.take k) (fun _ => False) ((ns.map it).map bs).length 0 ([] : List Int) (by simp) (fun k l _ hk hI => by
    have hkl : k < ((ns.map it).map bs).length := by omega
    have hkw : k < ns.length := by simpa using hkl
    have hn := hw _ (List.getElem_mem hkw)
    subst hI
    unfold mFareOpen_2_L326
    rw [idx_lt hkl, Option.bind_some, List.getElem_map, List.getElem_map, number_num hn.1 (by omega), p2, if_pos rfl, room_ok (by rw [List.length_take]; omega) (by rw [List.length_take]; omega), Option.bind_some]
    exact .inl ⟨_, rfl, List.take_append_getElem hkw⟩)
  rcases hf with ⟨l, h1, h2⟩ | ⟨t, h1, h2⟩
  · rw [h1, h2]
    simp
  · exact h2.elim
theorem last_two {α : Type} (l : List α) (h : 2 ≤ l.length) : ∃ (r : List α) (a b : α), l = r ++ [a, b] ∧ r.length = l.length - 2 := by
  refine ⟨l.take (l.length - 2), l[l.length - 2], l[l.length - 1], ?_, by simp⟩
  have h1 := List.take_append_getElem (show l.length - 2 < l.length by omega)
  have h2 := List.take_append_getElem (show l.length - 1 < l.length by omega)
  rw [show l.length - 1 + 1 = l.length by omega, List.take_length] at h2
  rw [show l.length - 2 + 1 = l.length - 1 by omega] at h1
  rw [← h1] at h2
  exact h2.symm.trans (by rw [List.append_assoc]; rfl)
/-- Where a text is opened, its last word is the number that comes out, and ':' stands ahead of it. -/
theorem open_any (t : List UInt8) (hl : t.length ≤ 1000) : ∃ x is l, mFareOpen_2 (bs t) = some (x, is, l) ∧ (is = true → ∃ (ws : List (List UInt8)) (S : List UInt8), t = jn 32 (ws ++ [[58], S]) ++ [10] ∧ ws ≠ [] ∧ 32 ∉ S ∧ 0 ≤ x ∧ it x = S) := by
  unfold mFareOpen_2
  by_cases hend : ∃ u, t = u ++ [10]
  · obtain ⟨u, rfl⟩ := hend
    have hul : u.length ≤ 1000 := by simp at hl; omega
    have hsp := split_words 32 (wd 32 u) (wd_ne 32 u) (wd_no 32 u) (by rw [jn_wd]; omega)
    rw [jn_wd] at hsp
    have hjl := jn_length 32 (wd 32 u)
    rw [jn_wd] at hjl
    have hlen : ∀ w ∈ wd 32 u, w.length ≤ 1000000 := by
      have key : ∀ (ws : List (List UInt8)), ∀ w ∈ ws, w.length ≤ (jn 32 ws).length := fun ws => by
        induction ws with
        | nil => simp
        | cons a r ih =>
          intro w hw
          cases r with
          | nil =>
            simp only [List.mem_singleton] at hw
            subst hw
            simp [jn]
          | cons b r =>
            simp only [jn, List.length_append, List.length_cons]
            rcases List.mem_cons.1 hw with rfl | hw
            · omega
            · have := ih w hw
              omega
      intro w hw
      have := key _ w hw
      rw [jn_wd] at this
      omega
    have hno := wd_no 32 u
    have hju := jn_wd 32 u
    generalize hW : wd 32 u = W at *
    rw [cut_good u (by omega), p2, show (ByteArray.mk #[32]) = bs [32] from rfl, hsp, Option.bind_some, if_pos rfl, List.length_map]
    by_cases h9 : (W.length : Int) < 9
    · rw [if_pos h9, Option.bind_some, if_pos rfl]
      exact ⟨_, _, _, rfl, fun h => by cases h⟩
    · obtain ⟨r, a, b, hr, hrl⟩ := last_two W (by omega)
      have ha : (W.map bs)[W.length - 2]'(by simp; omega) = bs a := by simp [hr]
      have hb : (W.map bs)[W.length - 1]'(by simp; omega) = bs b := by
        simp [hr]
      rw [if_neg h9, show (0 : Int) = ((0 : Nat) : Int) from rfl, idx_lt (by simp; omega), Option.bind_some, chk_ok (by omega) (by omega), Option.bind_some, show (W.length : Int) - 2 = ((W.length - 2 : Nat) : Int) by omega, idx_lt (by simp; omega), Option.bind_some, ha, show (ByteArray.mk #[58]) = bs [58] from rfl, sEq_bs]
      generalize sEq ((W.map bs)[0]'(by simp; omega)) (ByteArray.mk #[116, 105, 99, 107, 101, 116]) = q0
      cases q0 with
      | false =>
        rw [if_neg (by decide), Option.bind_some, if_pos rfl]
        exact ⟨_, _, _, rfl, fun h => by cases h⟩
      | true =>
        rw [if_pos rfl, Option.bind_some]
        by_cases hcol : a = [58]
        · rw [decide_eq_true hcol, if_neg (by decide), show (1 : Int) = ((1 : Nat) : Int) from rfl, cutS_ok (by omega) (by simp)]
          rw [Option.bind_some, ← List.map_take, ← List.map_drop]
          have hsub : ∀ w ∈ (W.take (W.length - 2)).drop 1, w.length ≤ 1000000 := fun w hw => hlen w (List.mem_of_mem_take (List.mem_of_mem_drop hw))
          rcases open_loop ((W.take (W.length - 2)).drop 1) (by simp; omega) hsub with ⟨l, h1⟩ | ⟨t, h1, h2⟩
          · rw [Option.bind_some, h1, pL, show ((1 : Nat) : Int) = (1 : Int) from rfl, chk_ok (by omega) (by omega), Option.bind_some, show (W.length : Int) - 1 = ((W.length - 1 : Nat) : Int) by omega, idx_lt (by simp; omega), Option.bind_some, hb]
            have hbm : b ∈ W := by rw [hr]; simp
            obtain ⟨q, x, hn, hx⟩ := number_any b (hlen b hbm)
            rw [hn, p2]
            cases q with
            | true =>
              rw [if_pos rfl]
              obtain ⟨x0, hxb⟩ := hx rfl
              refine ⟨_, _, _, rfl, fun _ => ⟨r, b, ?_, ?_, hno b hbm, x0, hxb⟩⟩
              · rw [← hcol, ← hr, hju]
              · intro he
                rw [he] at hrl
                simp at hrl
                omega
            | false =>
              rw [if_neg (by decide)]
              exact ⟨_, _, _, rfl, fun h => by cases h⟩
          · rw [Option.bind_some, h1, pR]
            obtain ⟨a1, a2, a3⟩ := t
            exact ⟨_, _, _, rfl, fun h => by rw [show a2 = false from h2] at h; cases h⟩
        · rw [decide_eq_false hcol, if_pos (by decide)]
          exact ⟨_, _, _, rfl, fun h => by cases h⟩
  · have hcut : mStringsCutSuffix (bs t) (ByteArray.mk #[10]) = some (bs t, false) := by
      rcases List.eq_nil_or_concat t with rfl | ⟨u, c, rfl⟩
      · exact cut_nil
      · rw [List.concat_eq_append] at *
        refine cut_bad u c (fun he => hend ⟨u, by rw [he]⟩) ?_
        simp at hl
        omega
    have hsp := split_words 32 (wd 32 t) (wd_ne 32 t) (wd_no 32 t) (by rw [jn_wd]; omega)
    rw [jn_wd] at hsp
    rw [hcut, p2, show (ByteArray.mk #[32]) = bs [32] from rfl, hsp, Option.bind_some, if_neg (by decide), Option.bind_some, if_pos rfl]
    exact ⟨_, _, _, rfl, fun h => by cases h⟩

end Go.Proofs.YtglmhaihgpnogaaGreatDoor
