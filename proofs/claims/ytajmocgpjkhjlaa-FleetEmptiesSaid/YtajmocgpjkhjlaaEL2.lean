/- Plain: the search for one more pair. -/
import Derived.Test.YtajmocgpjkhjlaaEL1
set_option linter.unusedVariables false
set_option linter.unusedSimpArgs false
namespace Go.Proofs.Ytajmocgpjkhjlaa
open Go.RowKit Go.Fp

def Aft (A : List (List Bool)) (a b : Nat) : Prop := ∃ r, A[a]? = some r ∧ r[b]? = some true
structure SqB (n : Nat) (A : List (List Bool)) : Prop where
  len : A.length = n
  row : ∀ i (h : i < A.length), (A[i]).length = n
theorem MOk.put {n : Nat} {E : Nat → Nat → Prop} {next prev : List Int} (M : MOk n E next prev) {a b : Nat} (ha : a < n) (hb : b < n) (he : E a b) : MOk n E (put next (a : Int) (b : Int)) (put prev (b : Int) (a : Int)) := by
  refine ⟨by rw [put_length]; exact M.nl, by rw [put_length]; exact M.pl, fun c hc => ?_, fun c hc => ?_⟩
  · rw [at_put (by rw [M.pl]; exact hb)]
    by_cases e : c = b
    · rw [if_pos e, e]
      exact .inr ⟨by omega, by omega, by rw [Int.toNat_natCast]; exact he⟩
    · rw [if_neg e]
      exact M.pe c hc
  · rw [at_put (by rw [M.nl]; exact ha)]
    by_cases e : c = a
    · rw [if_pos e, e]
      exact .inr ⟨by omega, by omega, by rw [Int.toNat_natCast]; exact he⟩
    · rw [if_neg e]
      exact M.ne c hc
def GSays (n : Nat) (E : Nat → Nat → Prop) (X : Prop) (r : Option (Bool × List Bool × List Int × List Int)) (seen : List Bool) (next prev : List Int) (a : Nat) : Prop :=
  (r = none ∧ X) ∨ (∃ seen', r = some (false, seen', next, prev) ∧ Fail n E seen prev a seen') ∨ ∃ seen' next' prev', r = some (true, seen', next', prev') ∧ Succ n E seen prev a prev' ∧ MOk n E next' prev'
section
variable {n : Nat} {A : List (List Bool)}
structure Mid (n : Nat) (E : Nat → Nat → Prop) (seen : List Bool) (prev : List Int) (a k : Nat) (sk : List Bool) : Prop where
  len : sk.length = n
  sub : ∀ b, Sn seen b → Sn sk b
  nb : ∀ b, b < n → b < k → E a b → Sn sk b
  new : ∀ b, b < n → Sn sk b → ¬ Sn seen b → 0 ≤ at_ prev b ∧ ∀ b', b' < n → E (at_ prev b).toNat b' → Sn sk b'
theorem grow_says (hA : SqB n A) (N : Nat) : ∀ (seen : List Bool) (next prev : List Int) (a : Nat), MOk n (Aft A) next prev → Pre n seen prev a → GSays n (Aft A) (N < unseen seen + 1) (mFleetMatchingGrow N (a : Int) seen A next prev) seen next prev a := by
  induction N with
  | zero => exact fun seen next prev a _ _ => .inl ⟨rfl, by omega⟩
  | succ N ih =>
    intro seen next prev a M h
    have ha' : a < A.length := by rw [hA.len]; exact h.lt
    have hrl := hA.row a ha'
    rw [mFleetMatchingGrow]
    dsimp only
    rw [idx_lt ha', Option.bind_some]
    have hE : ∀ b, b < n → (Aft A a b ↔ (A[a])[b]? = some true) := fun b _ => by
      unfold Aft
      rw [List.getElem?_eq_getElem ha']
      exact ⟨fun ⟨r, h1, h2⟩ => by injection h1 with h1; rw [h1]; exact h2, fun h => ⟨_, rfl, h⟩⟩
    rcases forM_invX (body := mFleetMatchingGrow_L1778 A (a : Int) A[a] (mFleetMatchingGrow N)) (N + 1 < unseen seen + 1)
      (fun k s => ∃ sk, s = (sk, next, prev) ∧ Mid n (Aft A) seen prev a k sk)
      (fun t => ∃ seen' next' prev', t = (true, seen', next', prev') ∧ Succ n (Aft A) seen prev a prev' ∧ MOk n (Aft A) next' prev')
      (A[a]).length 0 (seen, next, prev) ⟨seen, rfl, h.sl, fun _ h => h, fun b _ hb => absurd hb (by omega), fun b _ h1 h2 => absurd h1 h2⟩ (fun k s _ hk hi => by
        obtain ⟨sk, rfl, I⟩ := hi
        have hk' : k < n := by omega
        unfold mFleetMatchingGrow_L1778
        simp only [unc3]
        rw [idx_lt (show k < (A[a]).length by omega), Option.bind_some]
        have skip : (Aft A a k → Sn sk k) → Mid n (Aft A) seen prev a (k + 1) sk := fun hsk => ⟨I.len, I.sub, fun b hb hbk he => by
          by_cases e : b = k
          · subst e; exact hsk he
          · exact I.nb b hb (by omega) he, I.new⟩
        by_cases hx : (A[a])[k] = true
        · rw [if_pos hx]
          obtain ⟨c, c1, c2⟩ := idx_sn (s := sk) (i := k) (by rw [I.len]; exact hk')
          rw [c1, Option.bind_some, Option.bind_some]
          have he : Aft A a k := (hE k hk').2 (by rw [List.getElem?_eq_getElem (by omega), hx])
          by_cases hc : c = true
          · rw [if_pos hc]
            exact .inr (.inl ⟨_, rfl, sk, rfl, skip (fun _ => c2.1 hc)⟩)
          · rw [if_neg hc, Option.bind_some, idx_at (show k < prev.length by rw [M.pl]; exact hk'), Option.bind_some]
            have hns : ¬ Sn sk k := fun h => hc (c2.2 h)
            have hns0 : ¬ Sn seen k := fun h => hns (I.sub k h)
            have han : idx next (a : Int) = some (at_ next a) := idx_at (by rw [M.nl]; exact h.lt)
            by_cases hf : at_ prev k < 0
            · rw [if_pos hf, pass4, if_pos rfl, han, Option.bind_some, idx_at (show k < prev.length by rw [M.pl]; exact hk'), Option.bind_some, pass2]
              exact .inr (.inr ⟨_, rfl, _, _, _, rfl, succ_free (sk := sk) M h hk' he hns0 hf, M.put h.lt hk' he⟩)
            · rw [if_neg hf, Option.bind_some]
              have hf0 : 0 ≤ at_ prev k := by omega
              have ha1 : ((at_ prev k).toNat : Int) = at_ prev k := by omega
              have hpe : at_ prev k < (n : Int) := by
                rcases M.pe k hk' with h | h
                · omega
                · exact h.2.1
              have sp := fun j => sn_put (s := sk) (i := k) (by rw [I.len]; exact hk') j
              have hP : Pre n (put sk (k : Int) true) prev (at_ prev k).toNat := by
                refine ⟨by omega, by rw [put_length]; exact I.len, fun b b' hb hb' h1 h2 h3 h4 => h.inj b b' hb hb' (fun hs => h1 ((sp b).2 (.inr (I.sub b hs)))) (fun hs => h2 ((sp b').2 (.inr (I.sub b' hs)))) h3 h4, fun b hb h1 h2 => ?_⟩
                rw [ha1] at h2
                have := h.inj b k hb hk' (fun hs => h1 ((sp b).2 (.inr (I.sub b hs)))) hns0 (by omega) h2
                exact h1 ((sp b).2 (.inl this))
              have hun := unseen_put (s := sk) (i := k) (by rw [I.len]; exact hk') hns
              have hmo := unseen_mono (s := seen) (s' := sk) (by rw [h.sl, I.len]) I.sub
              have hg := ih (put sk (k : Int) true) next prev (at_ prev k).toNat M hP
              rw [ha1] at hg
              rcases hg with ⟨h1, h2⟩ | ⟨seen', h1, h2⟩ | ⟨seen', next', prev', h1, h2, h3⟩
              · refine .inl ⟨by rw [h1]; rfl, by omega⟩
              · rw [h1, pass4, pass4, if_neg (by decide)]
                refine .inr (.inl ⟨_, rfl, seen', rfl, ⟨h2.len, fun b hb => h2.sub b ((sp b).2 (.inr (I.sub b hb))), fun b hb hbk hbe => ?_, fun b hb h4 h5 => ?_⟩⟩)
                · by_cases e : b = k
                  · subst e; exact h2.sub b ((sp b).2 (.inl rfl))
                  · exact h2.sub b ((sp b).2 (.inr (I.nb b hb (by omega) hbe)))
                · by_cases e : b = k
                  · subst e
                    exact ⟨hf0, fun b' hb' he' => h2.nb b' hb' he'⟩
                  · by_cases hsk : Sn sk b
                    · have := I.new b hb hsk h5
                      exact ⟨this.1, fun b' hb' he' => h2.sub b' ((sp b').2 (.inr (this.2 b' hb' he')))⟩
                    · exact h2.new b hb h4 (fun hs => ((sp b).1 hs).elim e hsk)
              · rw [h1, pass4, pass4, if_pos rfl, idx_at (show a < next'.length by rw [h3.nl]; exact h.lt), Option.bind_some, idx_at (show k < prev'.length by rw [h3.pl]; exact hk'), Option.bind_some, pass2]
                exact .inr (.inr ⟨_, rfl, _, _, _, rfl, succ_chain M h hk' he hns I.len I.sub hf0 h3.pl h2, h3.put h.lt hk' he⟩)
        · rw [if_neg hx, Option.bind_some, if_pos rfl]
          refine .inr (.inl ⟨_, rfl, sk, rfl, skip (fun he => ?_)⟩)
          have := (hE k hk').1 he
          rw [List.getElem?_eq_getElem (by omega)] at this
          injection this with this
          exact absurd this hx) with ⟨h1, h2⟩ | ⟨s, h1, sk, rfl, I⟩ | ⟨t, h1, seen', next', prev', rfl, h2, h3⟩
    · rw [h1]
      exact .inl ⟨rfl, h2⟩
    · rw [h1, Option.bind_some]
      rw [Nat.zero_add, hrl] at I
      exact .inr (.inl ⟨sk, rfl, I.len, I.sub, fun b hb he => I.nb b hb hb he, I.new⟩)
    · rw [h1, Option.bind_some]
      exact .inr (.inr ⟨seen', next', prev', rfl, h2, h3⟩)
theorem fresh_seen (m : Nat) : ∀ b, ¬ Sn (List.replicate m false) b := fun b h => by
  unfold Sn at h
  rw [List.getElem?_replicate] at h
  split at h <;> cases h
theorem count_rep : ∀ m : Nat, unseen (List.replicate m false) = m := fun m => by
  unfold unseen
  rw [List.count_replicate_self]
/-- What stands when the first 'k' tasks have been asked. -/
structure Half (n : Nat) (E : Nat → Nat → Prop) (k : Nat) (next prev : List Int) : Prop where
  m : MOk n E next prev
  inj : ∀ b b', b < n → b' < n → 0 ≤ at_ prev b → at_ prev b = at_ prev b' → b = b'
  low : ∀ b, b < n → at_ prev b < (k : Int)
  dead : ∃ D, Closed n E (at_ prev) D ∧ ∀ a, a < n → a < k → (∃ b, b < n ∧ at_ prev b = (a : Int)) ∨ ∀ b, b < n → E a b → D b
theorem match_step (hA : SqB n A) {L : List FleetTask} (hL : L.length = n) (hn : n ≤ 1000) {k : Nat} (hk : k < n) {next prev : List Int} (h : Half n (Aft A) k next prev) :
    ∃ next' prev', mFleetMatch_L1778 L A k (next, prev) = some (next', prev') ∧ Half n (Aft A) (k + 1) next' prev' := by
  unfold mFleetMatch_L1778
  rw [show unc2 (fun (l1848 l1849 : List Int) => (mkLen 1 (L.length : Int)).bind fun m1853 => (lim (fun N => mFleetMatchingGrow N (k : Int) (List.replicate m1853 (false : Bool)) A l1848 l1849)).bind (unc4 fun _ _ l1861 l1862 => some (l1861, l1862))) (next, prev) = (mkLen 1 (L.length : Int)).bind fun m1853 => (lim (fun N => mFleetMatchingGrow N (k : Int) (List.replicate m1853 (false : Bool)) A next prev)).bind (unc4 fun _ _ l1861 l1862 => some (l1861, l1862)) from rfl]
  rw [mkLen_ok (by omega) (by omega), Option.bind_some, hL]
  have fs := fresh_seen n
  have hP : Pre n (List.replicate n false) prev k := ⟨hk, List.length_replicate, fun b b' hb hb' _ _ => h.inj b b' hb hb', fun b hb _ e => by have := h.low b hb; omega⟩
  obtain ⟨t, h1, h2⟩ := lim_ok (f := fun N => mFleetMatchingGrow N (k : Int) (List.replicate n false) A next prev)
    (P := fun t => (∃ seen', t = (false, seen', next, prev) ∧ Fail n (Aft A) (List.replicate n false) prev k seen') ∨ ∃ seen' next' prev', t = (true, seen', next', prev') ∧ Succ n (Aft A) (List.replicate n false) prev k prev' ∧ MOk n (Aft A) next' prev')
    (by
      rcases grow_says hA (n + 1) _ next prev k h.m hP with ⟨_, h2⟩ | ⟨_, h1, _⟩ | ⟨_, _, _, h1, _⟩
      · rw [count_rep] at h2; omega
      · exact ⟨_, _, h1⟩
      · exact ⟨_, _, h1⟩)
    (fun N t ht => by
      rcases grow_says hA N _ next prev k h.m hP with ⟨h1, _⟩ | ⟨s, h1, h2⟩ | ⟨s, x, y, h1, h2⟩
      · have := ht.symm.trans h1
        cases this
      · have := ht.symm.trans h1
        injection this with this
        exact .inl ⟨s, this, h2⟩
      · have := ht.symm.trans h1
        injection this with this
        exact .inr ⟨s, x, y, this, h2⟩)
  rw [h1]
  obtain ⟨D, d1, d2⟩ := h.dead
  rcases h2 with ⟨s, rfl, F⟩ | ⟨s, next', prev', rfl, S, M⟩
  · rw [pass4]
    refine ⟨next, prev, rfl, h.m, h.inj, fun b hb => by have := h.low b hb; omega, fun b => D b ∨ Sn s b, fun b hb hd => ?_, fun a ha hak => ?_⟩
    · rcases hd with hd | hd
      · exact ⟨(d1 b hb hd).1, fun b' hb' he => .inl ((d1 b hb hd).2 b' hb' he)⟩
      · have := F.new b hb hd (fs b)
        exact ⟨this.1, fun b' hb' he => .inr (this.2 b' hb' he)⟩
    · by_cases e : a = k
      · subst e
        exact .inr (fun b hb he => .inr (F.nb b hb he))
      · rcases d2 a ha (by omega) with h | h
        · exact .inl h
        · exact .inr (fun b hb he => .inl (h b hb he))
  · rw [pass4]
    have sd := S.dead D d1
    refine ⟨next', prev', rfl, M, fun b b' hb hb' => S.inj b b' hb hb' (fs b) (fs b'), fun b hb => ?_, D, fun b hb hd => ?_, fun a ha hak => ?_⟩
    · by_cases h0 : 0 ≤ at_ prev' b
      · rcases S.sub b hb (fs b) h0 with e | ⟨b2, q1, _, q3⟩
        · omega
        · have := h.low b2 q1; omega
      · omega
    · rw [sd.1 b hb hd]
      exact d1 b hb hd
    · by_cases e : a = k
      · subst e
        obtain ⟨b0, g1, _, g3⟩ := S.got
        exact .inl ⟨b0, g1, g3⟩
      · rcases d2 a ha (by omega) with ⟨b, hb, hp⟩ | h
        · obtain ⟨b2, q1, _, q3⟩ := S.sup b hb (fs b) (by omega)
          exact .inl ⟨b2, q1, by omega⟩
        · exact .inr h
end
end Go.Proofs.Ytajmocgpjkhjlaa
