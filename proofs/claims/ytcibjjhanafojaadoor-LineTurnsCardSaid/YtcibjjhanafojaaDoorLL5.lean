/- Plain: the law of paths turned about. -/
import Derived.Test.YtcibjjhanafojaaDoorLL4
import Derived.KernelRfl
set_option linter.unusedVariables false
set_option linter.unusedSimpArgs false
namespace Go.Proofs.YtcibjjhanafojaaDoor
open Go.RowKit Go.Fp

theorem checkPath_spec {n : ApiNet} (hS : Small n) (l : List ApiStep) : ∃ c, mLineCheckPath n l = some c ∧ (c = 0 ↔ mLineCheck n = some 0 ∧ l.length ≤ 60 ∧ PathOk n l) := by
  obtain ⟨a, a1, a2⟩ := check_spec hS
  unfold mLineCheckPath
  rw [a1, Option.bind_some]
  by_cases h : a = 0
  · rw [if_neg (by simpa using h)]
    by_cases hl : 60 < (l.length : Int)
    · rw [if_pos hl]
      exact ⟨4, rfl, fun h => absurd h (by decide), fun h => by omega⟩
    · rw [if_neg hl]
      obtain ⟨c, c1, c2⟩ := path_spec (a2 h) (l := l) (by omega)
      rw [c1]
      exact ⟨c, rfl, fun h' => ⟨by rw [h], by omega, c2.1 h'⟩, fun h' => c2.2 h'.2.2⟩
  · rw [if_pos h]
    exact ⟨a, rfl, fun h' => absurd h' h, fun h' => by injection h'.1⟩
def rv (s : ApiStep) : ApiStep := ⟨s.Section, s.Out, s.In⟩
def rev (l : List ApiStep) : List ApiStep := l.reverse.map rv
theorem rev_len (l : List ApiStep) : (rev l).length = l.length := by
  unfold rev
  rw [List.length_map, List.length_reverse]
theorem rev_at {l : List ApiStep} {k : Nat} (h : k < l.length) : (rev l)[k]'(by rw [rev_len]; exact h) = rv (l[l.length - 1 - k]'(by omega)) := by
  unfold rev
  rw [List.getElem_map, List.getElem_reverse]
theorem rev_rev (l : List ApiStep) : rev (rev l) = l := by
  unfold rev
  rw [← List.map_reverse, List.reverse_reverse, List.map_map]
  exact (List.map_congr_left (g := id) (fun s _ => rfl)).trans (List.map_id l)
theorem outs_sym {k i o : Int} (hi : 0 ≤ i ∧ i < endsI k) (ho : 0 ≤ o ∧ o < endsI k) (h : o ∈ outsL k i) : i ∈ outsL k o := by
  have hb := endsI_bd k
  unfold outsL at h ⊢
  by_cases hk : k = 2
  · subst hk
    have e : endsI 2 = 3 := rfl
    rw [e] at hi ho
    by_cases h0 : i = 0
    · rw [if_pos ⟨rfl, h0⟩] at h
      have : o ≠ 0 := fun e => by subst e; simp at h
      rw [if_neg (fun h' => this h'.2), if_pos rfl, h0]
      simp
    · rw [if_neg (fun h' => h0 h'.2), if_pos rfl] at h
      have : o = 0 := by simpa using h
      rw [if_pos ⟨rfl, this⟩]
      have : i = 1 ∨ i = 2 := by omega
      rcases this with e | e <;> simp [e]
  · rw [if_neg (fun h' => hk h'.1), if_neg hk] at h ⊢
    have e : o = xorI .i64 i 1 := by simpa using h
    have key : ∀ j : Fin 4, xorI .i64 (xorI .i64 (j.val : Int) 1) 1 = (j.val : Int) := by decide +kernel
    have := key ⟨i.toNat, by omega⟩
    simp only at this
    rw [show ((i.toNat : Nat) : Int) = i by omega] at this
    rw [e, this]
    simp
theorem step_rev {n : ApiNet} {s : ApiStep} (h : StepOk n s) : StepOk n (rv s) := ⟨h.2.1, h.1, outs_sym h.1.2 h.2.1.2 h.2.2⟩
theorem path_rev {n : ApiNet} (hN : NetOk n) {l : List ApiStep} (h : PathOk n l) : PathOk n (rev l) := by
  refine ⟨fun s hs => ?_, fun k hk => ?_, ?_⟩
  · obtain ⟨t, ht, rfl⟩ := List.mem_map.1 hs
    exact step_rev (h.step t (List.mem_reverse.1 ht))
  · rw [rev_len] at hk
    have e1 := rev_at (l := l) (k := k) (by omega)
    have e2 := rev_at (l := l) (k := k + 1) hk
    rw [e1, e2]
    have := h.join (l.length - 1 - (k + 1)) (by omega)
    have e3 : l.length - 1 - (k + 1) + 1 = l.length - 1 - k := by omega
    simp only [e3] at this
    exact join_back hN.apart this
  · unfold rev
    rw [List.pairwise_map, List.pairwise_reverse]
    exact h.nd.imp (fun {a b} hab e => hab e.symm)
def lenOf (n : ApiNet) (s : ApiStep) : Int := (sec n s.Section).Length
def sumS (f : ApiStep → Int) (l : List ApiStep) : Int := (l.map f).sum
theorem sumS_perm {f : ApiStep → Int} {l m : List ApiStep} (h : l.Perm m) : sumS f l = sumS f m := by
  unfold sumS
  induction h with
  | nil => rfl
  | cons y _ ih => rw [List.map_cons, List.map_cons, List.sum_cons, List.sum_cons, ih]
  | swap y z E => rw [List.map_cons, List.map_cons, List.map_cons, List.map_cons, List.sum_cons, List.sum_cons, List.sum_cons, List.sum_cons]; omega
  | trans _ _ h1 h2 => rw [h1, h2]
theorem sec_ok {n : ApiNet} (hN : NetOk n) {s : ApiStep} (h : StepOk n s) : idx n.Sections s.Section = some (sec n s.Section) ∧ OkSec (sec n s.Section) := by
  have h1 := idx_sec h.1.1
  refine ⟨h1, hN.secs _ ?_⟩
  obtain ⟨x, e1, e2⟩ := idx_get h.1.1.1 h.1.1.2
  rw [h1] at e1
  injection e1 with e1
  rw [e1]
  exact List.mem_of_getElem? e2
theorem length_spec {n : ApiNet} (hN : NetOk n) {l : List ApiStep} (hc : mLineCheckPath n l = some 0) (hl : l.length ≤ 60) (hp : PathOk n l) : mLineLength n l = some (sumS (lenOf n) l, 0) := by
  unfold mLineLength
  rw [hc, Option.bind_some, if_neg (by decide)]
  obtain ⟨v, h1, h2, h3⟩ := forS_inv (body := mLineLength_L106 n l) (fun k v => v = sumS (lenOf n) (l.take k) ∧ 0 ≤ v ∧ v ≤ 3000 * (k : Int)) l.length 0 0 ⟨rfl, by omega, by omega⟩ (fun k v _ hk hi => by
    have hk' : k < l.length := by omega
    obtain ⟨e1, e2⟩ := sec_ok hN (hp.step _ (List.getElem_mem hk'))
    have := e2.len
    unfold mLineLength_L106
    rw [idx_lt hk', Option.bind_some, e1, Option.bind_some, chk_ok (by omega) (by omega), Option.bind_some]
    refine ⟨_, rfl, ?_, by omega, by omega⟩
    rw [List.take_succ_eq_append_getElem hk', hi.1]
    unfold sumS
    rw [List.map_append, List.sum_append]
    simp [lenOf])
  rw [h1, h2, Nat.zero_add, List.take_length]
  rfl
def piece (n : ApiNet) (s : ApiStep) : ApiPiece := ⟨100 * (sec n s.Section).Length, if s.In ≠ 0 then -(sec n s.Section).Grade else (sec n s.Section).Grade, if (sec n s.Section).Kind = 2 ∧ (s.In = 2 ∨ s.Out = 2) then (sec n s.Section).Slow else (sec n s.Section).Speed⟩
theorem profile_spec {n : ApiNet} (hN : NetOk n) {l : List ApiStep} (hc : mLineCheckPath n l = some 0) (hl : l.length ≤ 60) (hp : PathOk n l) : mLineProfile n l = some (0, l.map (piece n)) := by
  unfold mLineProfile
  rw [hc, Option.bind_some, if_neg (by decide)]
  obtain ⟨v, h1, h2⟩ := forS_inv (body := mLineProfile_L236 n l) (fun k v => v = (l.take k).map (piece n)) l.length 0 [] rfl (fun k v _ hk hi => by
    have hk' : k < l.length := by omega
    obtain ⟨e1, e2⟩ := sec_ok hN (hp.step _ (List.getElem_mem hk'))
    have a1 := e2.len
    have a2 := e2.grade
    have hvl : v.length = k := by rw [hi, List.length_map, List.length_take]; omega
    unfold mLineProfile_L236
    rw [idx_lt hk', Option.bind_some, e1, Option.bind_some, chk_ok (by omega) (by omega), Option.bind_some]
    have g1 : (if l[k].In ≠ 0 then (chk (-(sec n l[k].Section).Grade)).bind fun _ => some (-(sec n l[k].Section).Grade) else some (sec n l[k].Section).Grade) = some (if l[k].In ≠ 0 then -(sec n l[k].Section).Grade else (sec n l[k].Section).Grade) := by
      split
      · rw [chk_ok (by omega) (by omega), Option.bind_some]
      · rfl
    have g2 : ((if (sec n l[k].Section).Kind = 2 then if l[k].In = 2 then some true else some (decide (l[k].Out = 2)) else some false).bind fun x425 => if x425 = true then some (sec n l[k].Section).Slow else some (sec n l[k].Section).Speed) = some (if (sec n l[k].Section).Kind = 2 ∧ (l[k].In = 2 ∨ l[k].Out = 2) then (sec n l[k].Section).Slow else (sec n l[k].Section).Speed) := by
      by_cases c1 : (sec n l[k].Section).Kind = 2 <;> by_cases c2 : l[k].In = 2 <;> by_cases c3 : l[k].Out = 2 <;> simp [c1, c2, c3]
    rw [g1, Option.bind_some, g2, Option.bind_some, room_ok (by omega) (by omega), Option.bind_some]
    refine ⟨_, rfl, ?_⟩
    rw [List.take_succ_eq_append_getElem hk', List.map_append, hi]
    rfl)
  rw [h1, h2, Nat.zero_add, List.take_length]
  rfl
theorem piece_rev {n : ApiNet} (hN : NetOk n) {s : ApiStep} (h : StepOk n s) : (piece n s).Length = (piece n (rv s)).Length ∧ (piece n s).Grade = -(piece n (rv s)).Grade ∧ (piece n s).Speed = (piece n (rv s)).Speed ∧ (-40 ≤ (piece n (rv s)).Grade ∧ (piece n (rv s)).Grade ≤ 40) := by
  obtain ⟨_, e2⟩ := sec_ok hN h
  have gr := e2.grade
  have hc := e2.cross
  refine ⟨rfl, ?_, ?_, ?_⟩
  · show (if s.In ≠ 0 then -(sec n s.Section).Grade else (sec n s.Section).Grade) = -(if s.Out ≠ 0 then -(sec n s.Section).Grade else (sec n s.Section).Grade)
    by_cases hk3 : (sec n s.Section).Kind = 3
    · rw [hc hk3]
      split <;> split <;> rfl
    · have hone : s.In = 0 ↔ s.Out ≠ 0 := by
        obtain ⟨⟨_, i1, i2⟩, ⟨_, o1, o2⟩, h3⟩ := h
        simp only at i1 i2 o1 o2
        unfold outsL at h3
        by_cases hk2 : (sec n s.Section).Kind = 2
        · by_cases hi : s.In = 0
          · rw [if_pos ⟨hk2, hi⟩] at h3
            have : s.Out = 1 ∨ s.Out = 2 := by simpa using h3
            omega
          · rw [if_neg (fun h' => hi h'.2), if_pos hk2] at h3
            have : s.Out = 0 := by simpa using h3
            omega
        · rw [if_neg (fun h' => hk2 h'.1), if_neg hk2] at h3
          have e : s.Out = xorI .i64 s.In 1 := by simpa using h3
          have hlt : s.In < 2 := by
            unfold endsI at i2
            by_cases h1 : (sec n s.Section).Kind = 1
            · rw [if_pos h1] at i2; exact i2
            · rw [if_neg h1, if_neg hk2, if_neg hk3] at i2; omega
          have : s.In = 0 ∨ s.In = 1 := by omega
          rcases this with e1 | e1
          · rw [e1] at e
            have : xorI .i64 0 1 = 1 := by decide +kernel
            omega
          · rw [e1] at e
            have : xorI .i64 1 1 = 0 := by decide +kernel
            omega
      by_cases hi : s.In = 0
      · rw [if_neg (by simpa using hi), if_pos (hone.1 hi)]
        omega
      · have : s.Out = 0 := by
          by_cases ho : s.Out = 0
          · exact ho
          · exact absurd (hone.2 ho) hi
        rw [if_pos hi, if_neg (by simpa using this)]
  · show (if (sec n s.Section).Kind = 2 ∧ (s.In = 2 ∨ s.Out = 2) then _ else _) = (if (sec n s.Section).Kind = 2 ∧ (s.Out = 2 ∨ s.In = 2) then _ else _)
    by_cases c : (sec n s.Section).Kind = 2 ∧ (s.In = 2 ∨ s.Out = 2)
    · rw [if_pos c, if_pos ⟨c.1, c.2.symm⟩]
      rfl
    · rw [if_neg c, if_neg (fun h' => c ⟨h'.1, h'.2.symm⟩)]
      rfl
  · show -40 ≤ (if s.Out ≠ 0 then -(sec n s.Section).Grade else (sec n s.Section).Grade) ∧ (if s.Out ≠ 0 then -(sec n s.Section).Grade else (sec n s.Section).Grade) ≤ 40
    split <;> omega
theorem reverse_eq {l : List ApiStep} (h : l.length ≤ 60) : mLineReverse l = some (rev l) := by
  unfold mLineReverse
  rw [room_ok (by omega) (by omega), Option.bind_some]
  rfl
theorem equal_self (l : List ApiStep) : mSlicesEqual l l = some true := by
  unfold mSlicesEqual
  rw [if_neg (by simp)]
  rcases forU (body := mSlicesEqual_L104 l l) (fun _ => True) (fun _ => False) l.length (fun k hk => .inl ⟨by
    unfold mSlicesEqual_L104
    rw [idx_lt hk, Option.bind_some, Option.bind_some, if_pos ⟨rfl, rfl, rfl⟩], trivial⟩) with ⟨h, _⟩ | ⟨_, _, h⟩
  · rw [h]; rfl
  · exact h.elim
def bx : ByteArray := ByteArray.mk #[120]
theorem split_nl : mStringsSplit bx (ByteArray.mk #[10]) = some [bx] := by
  have e : mStringsGenSplit_L419 bx (ByteArray.mk #[10]) 0 1 (bx, 0, [ByteArray.empty]) = some (.inr (bx, 0, [ByteArray.empty])) := by kernel_rfl
  have h : mStringsGenSplit bx (ByteArray.mk #[10]) 0 (-1) = (loopM (mStringsGenSplit_L419 bx (ByteArray.mk #[10]) 0 1) (bx, 0, [ByteArray.empty])).bind (unc3 fun x414 x415 l416 => (idx l416 x415).bind fun _ => (chk (x415 + 1)).bind fun _ => (cutS (put l416 x415 x414) 0 (x415 + 1)).bind fun l542 => some l542) := by kernel_rfl
  unfold mStringsSplit
  rw [h, loopM_last e]
  rfl
theorem split_sp : mStringsSplit bx (ByteArray.mk #[32]) = some [bx] := by
  have e : mStringsGenSplit_L419 bx (ByteArray.mk #[32]) 0 1 (bx, 0, [ByteArray.empty]) = some (.inr (bx, 0, [ByteArray.empty])) := by kernel_rfl
  have h : mStringsGenSplit bx (ByteArray.mk #[32]) 0 (-1) = (loopM (mStringsGenSplit_L419 bx (ByteArray.mk #[32]) 0 1) (bx, 0, [ByteArray.empty])).bind (unc3 fun x414 x415 l416 => (idx l416 x415).bind fun _ => (chk (x415 + 1)).bind fun _ => (cutS (put l416 x415 x414) 0 (x415 + 1)).bind fun l542 => some l542) := by kernel_rfl
  unfold mStringsSplit
  rw [h, loopM_last e]
  rfl
theorem lines_x : mLineLines bx = some (false, [[bx]]) := by
  have h : mLineLines bx = (mStringsSplit bx (ByteArray.mk #[10])).bind fun l147 => (forS (mLineLines_L155 l147) l147.length 0 ([] : (List (List ByteArray)))).bind (fun l239 => some (false, l239)) := by kernel_rfl
  rw [h, split_nl, Option.bind_some]
  have e : mLineLines_L155 [bx] 0 [] = some [[bx]] := by
    have h2 : mLineLines_L155 [bx] 0 [] = (mStringsSplit bx (ByteArray.mk #[32])).bind fun l259 => some [l259] := by kernel_rfl
    rw [h2, split_sp]
    rfl
  show ((mLineLines_L155 [bx] 0 []).bind fun s => some s).bind _ = _
  rw [e]
  rfl
theorem awake_true : mFishkeep1AwakeLine = some true := by
  unfold mFishkeep1AwakeLine mLineRead
  rw [if_neg (by decide), show mLineLines (ByteArray.mk #[120]) = some (false, [[bx]]) from lines_x, pass2, if_neg (by decide)]
  rfl
theorem turnsPlain (n : ApiNet) (l : List ApiStep) (hS : Small n) : mFishkeep1LineTurns n l = some true := by
  unfold mFishkeep1LineTurns
  rw [awake_true, Option.bind_some, if_pos rfl]
  obtain ⟨c, c1, c2⟩ := checkPath_spec hS l
  rw [c1, Option.bind_some]
  by_cases hc : c = 0
  · subst hc
    obtain ⟨h1, h2, h3⟩ := c2.1 rfl
    obtain ⟨a, a1, a2⟩ := check_spec hS
    have hN : NetOk n := a2 (by rw [h1] at a1; injection a1 with a1; exact a1.symm)
    have hr := path_rev hN h3
    have hrl : (rev l).length ≤ 60 := by rw [rev_len]; exact h2
    obtain ⟨d, d1, d2⟩ := checkPath_spec hS (rev l)
    have hd : d = 0 := d2.2 ⟨h1, hrl, hr⟩
    subst hd
    have hlen : sumS (lenOf n) (rev l) = sumS (lenOf n) l := by
      rw [← sumS_perm (List.reverse_perm l)]
      unfold sumS rev
      rw [List.map_map]
      rfl
    rw [if_neg (by decide), reverse_eq h2, Option.bind_some, length_spec hN c1 h2 h3, pass2, length_spec hN d1 hrl hr, pass2, profile_spec hN c1 h2 h3, pass2, profile_spec hN d1 hrl hr, pass2, d1, Option.bind_some, hlen]
    rw [if_neg (by decide), if_neg (by decide), if_neg (by decide), if_neg (by decide), if_neg (by decide), if_neg (by simp), if_neg (by simp), decide_eq_false (by simp [rev_len]), Option.bind_some, if_neg (by decide)]
    rcases forU (body := mFishkeep1LineTurns_L260 (l.map (piece n)) ((rev l).map (piece n))) (fun _ => True) (fun _ => False) (l.map (piece n)).length (fun k hk => .inl ⟨by
      have hk' : k < l.length := by rw [List.length_map] at hk; exact hk
      have hq : l.length - 1 - k < ((rev l).map (piece n)).length := by rw [List.length_map, rev_len]; omega
      have hml : ((rev l).map (piece n)).length = l.length := by rw [List.length_map, rev_len]
      obtain ⟨p1, p2, p3, p4⟩ := piece_rev hN (h3.step _ (List.getElem_mem hk'))
      have eq : ((rev l).map (piece n))[l.length - 1 - k] = piece n (rv l[k]) := by
        rw [List.getElem_map, rev_at (by omega)]
        have : l.length - 1 - (l.length - 1 - k) = k := by omega
        simp only [this]
      unfold mFishkeep1LineTurns_L260
      rw [idx_lt hk, Option.bind_some, hml, chk_ok (by omega) (by omega), Option.bind_some, chk_ok (by omega) (by omega), Option.bind_some, show (l.length : Int) - 1 - (k : Int) = ((l.length - 1 - k : Nat) : Int) by omega, idx_lt hq, Option.bind_some, eq, List.getElem_map]
      rw [if_neg (by simpa using p1), chk_ok (by omega) (by omega), Option.bind_some, if_neg (by simpa using p2), decide_eq_false (by simpa using p3), Option.bind_some, if_neg (by decide)], trivial⟩) with ⟨g, _⟩ | ⟨_, _, g⟩
    · rw [g, Option.bind_some, Sum.elim_inl, reverse_eq hrl, Option.bind_some, rev_rev, equal_self, Option.bind_some]
    · exact g.elim
  · rw [if_pos hc]
end Go.Proofs.YtcibjjhanafojaaDoor
