/- Plain: the surest journey is surest; all journeys are journeys. -/
import Derived.Test.YtckgfeglhjiflaaDoorGF
set_option linter.unusedVariables false
set_option linter.unusedSimpArgs false
namespace Go.Proofs.YtckgfeglhjiflaaDoor
open Go.RowKit Go.Fp

theorem check2_tot {d : ApiDay} (hw : WDay d) {m a c : Int} {ts : List Int} : Tot (mGuideCheck_2 d m a c ts) (fun r => r = 0 → (mGuideCheckLeast d m = some 0 ∧ GDay d ∧ 0 ≤ m ∧ m ≤ 28800) ∧ (0 ≤ a ∧ a ≤ 11) ∧ (0 ≤ c ∧ c ≤ 11) ∧ a ≠ c) := by
  unfold mGuideCheck_2
  obtain ⟨e, h1, h2⟩ := least_tot hw m
  refine tot_eq h1 (tot_ite (fun h => tot_some fun h0 => absurd h0 h) fun h => ?_)
  have he := Decidable.of_not_not h
  subst he
  have h2 := h2 rfl
  refine tot_bind (R := fun q => q = false → (0 ≤ a ∧ a ≤ 11) ∧ 0 ≤ c ∧ c ≤ 11) ?_ fun q hq => ?_
  · rw [gwithin_eq, Option.bind_some]
    refine tot_ite (fun h1 => ?_) fun h1 => tot_some fun h => by cases h
    rw [gwithin_eq, Option.bind_some]
    exact tot_some fun h => ⟨of_decide_eq_true h1, by simpa using h⟩
  · refine tot_ite (fun _ => tot_some fun h => absurd h (by decide)) fun hqf => ?_
    have hq := hq (bt hqf)
    refine tot_ite (fun _ => tot_some fun h => absurd h (by decide)) fun hne => ?_
    refine tot_sum (I := fun _ => True) (R := fun r => r ≠ 0) (tot_imp (tot_forM (fun _ _ => True) (fun r => r ≠ 0) trivial fun j _ _ hj _ => ?_) fun o ho => ?_) (fun _ _ => tot_some fun _ => ⟨⟨h1, h2⟩, hq.1, hq.2, hne⟩) fun r hr => tot_some fun h => absurd h hr
    · unfold mGuideCheck_2_L92
      refine tot_idn (show j < ts.length by omega) fun t ht => ?_
      rw [gwithin_eq, Option.bind_some]
      exact tot_ite (fun _ => tot_some trivial) fun _ => tot_some (show (2 : Int) ≠ 0 by decide)
    · cases o with
      | inl _ => trivial
      | inr _ => exact ho
theorem check2_ok {d : ApiDay} {m a c : Int} (h1 : mGuideCheckLeast d m = some 0) (ha : 0 ≤ a ∧ a ≤ 11) (hc : 0 ≤ c ∧ c ≤ 11) (hne : a ≠ c) : mGuideCheck_2 d m a c [] = some 0 := by
  unfold mGuideCheck_2
  rw [h1, Option.bind_some, if_neg (by decide), gwithin_eq, Option.bind_some, if_pos (decide_eq_true ha), gwithin_eq, Option.bind_some, Option.bind_some, if_neg (by simp [hc]), if_neg hne]
  rfl
section
variable {d : ApiDay} {m : Int} {l : List GuideOdds} {from_ at_ to_ by_ : Int}
/-- What is known when a surest journey has been found. -/
structure SOk (d : ApiDay) (m : Int) (l : List GuideOdds) (from_ at_ to_ by_ : Int) (best : List GuideRide) : Prop where
  check : mGuideCheckLeast d m = some 0
  day : GDay d
  least : 0 ≤ m ∧ m ≤ 28800
  odds : mGuideCheckOdds d l = some 0
  ok : ∀ o ∈ l, OddOk o
  few : l.length ≤ 12
  from_in : 0 ≤ from_ ∧ from_ ≤ 11
  to_in : 0 ≤ to_ ∧ to_ ≤ 11
  ne : from_ ≠ to_
  good : Good d m from_ at_ to_ by_ best
  best : ∀ k, Good d m from_ at_ to_ by_ k → H d.Trains m l k * A l best ≤ H d.Trains m l best * A l k
theorem few_of (h : mGuideCheckOdds d l = some 0) : l.length ≤ 12 := by
  unfold mGuideCheckOdds at h
  split at h
  · injection h with h
    exact absurd h (by decide)
  · omega
theorem surest_tot (hw : WDay d) (hwl : Lst WOdds l) : Tot (mGuideSurest d from_ at_ to_ by_ m l) (fun p => (p.2 ≠ 0 ∧ p.1 = []) ∨ (p.2 = 0 ∧ SOk d m l from_ at_ to_ by_ p.1)) := by
  unfold mGuideSurest
  refine tot_bind (check2_tot hw) fun c hc => tot_ite (fun h => tot_some (.inl ⟨h, rfl⟩)) fun h => ?_
  obtain ⟨⟨c1, c2, c3⟩, c4, c5, c6⟩ := hc (Decidable.of_not_not h)
  obtain ⟨o, h1, h2⟩ := odds_tot c2.1 hwl
  refine tot_eq h1 (tot_ite (fun h => tot_some (.inl ⟨h, rfl⟩)) fun h => ?_)
  have he := Decidable.of_not_not h
  subst he
  have hl := h2 rfl
  have hll := few_of h1
  unfold mGuideNetRides
  rw [Option.bind_some]
  show Tot ((forL _ (ridesL from_ at_ (-1) d.Trains 0) _).bind _) _
  generalize hBB : ridesL from_ at_ (-1) d.Trains 0 = B
  have hB : ∀ b, b ∈ B ↔ RideOk d.Trains b ∧ (on d.Trains b).Station = from_ ∧ at_ ≤ (on d.Trains b).Dep := fun b => by
    rw [← hBB, mem_rides]
    exact ⟨fun h => ⟨h.1, h.2.1, h.2.2.1⟩, fun h => ⟨h.1, h.2.1, h.2.2, by have := h.1.1.1; omega⟩⟩
  refine tot_sum (I := fun s => SInv d m l from_ at_ to_ by_ s ∧ ∀ b ∈ B, ∀ q, Good d m from_ at_ to_ by_ ([b] ++ q) → Cov d m l s ([b] ++ q)) (R := fun _ => False) (tot_imp (tot_forL (fun rest s => SInv d m l from_ at_ to_ by_ s ∧ ∀ b ∈ B, b ∈ rest ∨ ∀ q, Good d m from_ at_ to_ by_ ([b] ++ q) → Cov d m l s ([b] ++ q)) (fun _ => False) ⟨.inl ⟨rfl, rfl, rfl⟩, fun b hb => .inl hb⟩ fun x rest s hxB hI => ?_) fun o ho => ?_) (fun ⟨k1, k2, k3, k4⟩ hI => ?_) fun _ h => h.elim
  · obtain ⟨k1, k2, k3, k4⟩ := s
    obtain ⟨i1, i3⟩ := hI
    obtain ⟨x1, x2, x3⟩ := (hB x).1 hxB
    show Tot (mGuideSurest_L162 d l to_ by_ m x (k1, k2, k3, k4)) _
    unfold mGuideSurest_L162
    show Tot ((lim _).bind _) _
    refine tot_bind (lim_tot (P := fun s' => (SInv d m l from_ at_ to_ by_ s' ∧ ∀ k, Cov d m l (k1, k2, k3, k4) k → Cov d m l s' k) ∧ ∀ q, Good d m from_ at_ to_ by_ ([x] ++ q) → Cov d m l s' ([x] ++ q)) 5 fun N => ?_) fun ⟨o1, o2, o3, o4⟩ ho => tot_some ⟨ho.1.1, fun b hb => ?_⟩
    · exact tos_weak (grow_tos c2 c3 hl hll N [x] (k1, k2, k3, k4) (chain_one x1) (by simp) (by simp) (fun r hr => by simp at hr; subst hr; exact ⟨x2, x3⟩) i1) fun q => by simp at q; omega
    · rcases i3 b hb with hb' | hb'
      · rcases List.mem_cons.1 hb' with rfl | hb'
        · exact .inr fun q hq => ho.2 q hq
        · exact .inl hb'
      · exact .inr fun q hq => ho.1.2 _ (hb' q hq)
  · cases o with
    | inl s2 => exact ⟨ho.1, fun b hb => (ho.2 b hb).resolve_left (by simp)⟩
    | inr _ => exact ho
  · obtain ⟨i1, i2⟩ := hI
    show Tot (if k1.isEmpty = true then _ else _) _
    refine tot_ite (fun _ => tot_some (.inl ⟨by show (9 : Int) ≠ 0; decide, rfl⟩)) fun hne => tot_some (.inr ⟨rfl, ?_⟩)
    rcases i1 with ⟨e, _⟩ | ⟨g1, g2, g3⟩
    · replace e : k1 = [] := e
      exact absurd (by rw [e]; rfl) hne
    replace g1 : Good d m from_ at_ to_ by_ k1 := g1
    replace g2 : k2 = H d.Trains m l k1 := g2
    replace g3 : k3 = A l k1 := g3
    refine ⟨c1, c2, c3, h1, hl, hll, c4, c5, c6, g1, fun k hk => ?_⟩
    have hlen := hk.len
    cases k with
    | nil => simp at hlen
    | cons b q =>
      have hb := (hB b).2 ⟨hk.chain.1 b (by simp), (hk.first b rfl).1, (hk.first b rfl).2⟩
      have := (i2 b hb q hk).2
      rw [← g2, ← g3]
      exact this
/-- What is said of all journeys. -/
structure AOk (d : ApiDay) (m from_ to_ : Int) (k : List GuideRide) : Prop where
  chain : Chain d.Trains m k
  len : 1 ≤ k.length ∧ k.length ≤ 4
  first : ∀ r, k[0]? = some r → (on d.Trains r).Station = from_
  last : ∀ r, k[k.length - 1]? = some r → (off d.Trains r).Station = to_
def Out (d : ApiDay) (m from_ to_ : Int) (out : List GuideJourney) : Prop := out.length ≤ 200 ∧ ∀ k ∈ out, AOk d m from_ to_ k.Rides
theorem all1_tos (hd : GDay d) (hm : 0 ≤ m ∧ m ≤ 28800) : ∀ (N : Nat) (way next : List GuideRide) (out : List GuideJourney) (dead : List (List Int × Bool)), way.length ≤ 3 →
    (∀ r ∈ next, Chain d.Trains m (way ++ [r])) → (∀ r ∈ next, ∀ r0, (way ++ [r])[0]? = some r0 → (on d.Trains r0).Station = from_) → Out d m from_ to_ out →
    Tos (N + way.length < 4) (mGuideAll_1 N way next 200 d.Trains d.Turns m to_ out dead) (fun p => Out d m from_ to_ p.2.1)
  | 0, way, next, out, dead, h3, _, _, _ => .inr ⟨by omega, rfl⟩
  | N + 1, way, next, out, dead, h3, hc, hf, ho => by
    unfold mGuideAll_1
    refine tos_sum (I := fun p => Out d m from_ to_ p.2.1) (R := fun p => Out d m from_ to_ p.2.1) (tos_imp (tos_forL (fun _ p => Out d m from_ to_ p.2.1) (fun p => Out d m from_ to_ p.2.1) ho fun a rest p ha hI => ?_) fun o ho => by cases o <;> exact ho) (fun ⟨k, o, e⟩ h => tos_some h) fun p h => tos_some h
    obtain ⟨r, c, e⟩ := p
    have hI : Out d m from_ to_ c := hI
    have hca := hc a ha
    have haok := hca.1 a (by simp)
    have hlen : (way ++ [a]).length = way.length + 1 := by simp
    show Tos _ (mGuideAll_1_L2200 way d.Trains d.Turns 200 m to_ (mGuideAll_1 N) a (r, c, e)) _
    unfold mGuideAll_1_L2200
    show Tos _ (if (c.length : Int) = 200 then _ else _) _
    refine tos_ite (fun _ => tos_some hI) fun hmost => ?_
    have hcl := hI.1
    refine tos_eq (x := way ++ [a]) (by rw [clone_tot (by omega), Option.bind_some, room_ok (by omega) (by omega)]; rfl) ?_
    refine tos_bt (R := fun q => q.1 = way ++ [a] ∧ Out d m from_ to_ q.2.2) ?_ fun ⟨w, q1, q2⟩ hq => ?_
    · refine tot_eq (off_eq (n := ⟨⟨d.Trains, d.Turns⟩, m⟩) haok) ?_
      show Tot (if (off d.Trains a).Station = to_ then _ else _) _
      refine tot_ite (fun ht => tot_room (show (c.length + 1) * 24 ≤ 140737488355328 by omega) (show c.length + 1 ≤ 9223372036854775807 by omega) (tot_some ⟨rfl, by show (c ++ [_]).length ≤ 200; rw [List.length_append]; simp; omega, fun k hk => ?_⟩)) fun _ => tot_some ⟨rfl, hI⟩
      rcases List.mem_append.1 hk with hk | hk
      · exact hI.2 k hk
      · rw [List.mem_singleton.1 hk]
        refine ⟨hca, by show 1 ≤ (way ++ [a]).length ∧ (way ++ [a]).length ≤ 4; omega, hf a ha, fun r hr => ?_⟩
        replace hr : (way ++ [a])[(way ++ [a]).length - 1]? = some r := hr
        rw [hlen, List.getElem?_append_right (by omega), show way.length + 1 - 1 - way.length = 0 by omega] at hr
        simp at hr
        subst hr
        exact ht
    · obtain ⟨hw', hq2⟩ := hq
      replace hw' : w = way ++ [a] := hw'
      replace hq2 : Out d m from_ to_ q2 := hq2
      subst hw'
      show Tos _ (Option.bind (if ((way ++ [a]).length : Int) = 4 then _ else _) _) _
      refine tos_bt (R := fun u => u = false → way.length + 1 < 4) (tot_ite (fun _ => tot_some fun h => by cases h) fun h4 => tot_eq rfl (tot_some fun _ => by rw [hlen] at h4; omega)) fun u hu => ?_
      refine tos_ite (fun _ => tos_some hq2) fun huf => ?_
      have hlt := hu (bt huf)
      refine tos_bind (R := fun p => Out d m from_ to_ p.2.1) ?_ fun ⟨z, o, p⟩ hz => ?_
      · refine tos_eq (behind_eq (d := ⟨d.Trains, d.Turns⟩) hd hm haok) ?_
        have hlast : (way ++ [a])[(way ++ [a]).length - 1]? = some a := by
          rw [hlen, List.getElem?_append_right (by omega), show way.length + 1 - 1 - way.length = 0 by omega]
          rfl
        have hrec := all1_tos hd hm N (way ++ [a]) (ridesL (off d.Trains a).Station ((off d.Trains a).Arr + m) a.Train d.Trains 0) q2 e (by omega) (fun b hb => chain_snoc hca hlast (mem_behind.1 hb).1 (mem_behind.1 hb).2) (fun b hb r0 hr0 => hf a ha r0 (by rw [List.getElem?_append_left (by omega)] at hr0; exact hr0)) hq2
        exact tos_bind (tos_weak hrec fun q => by omega) fun ⟨w1, w2, w3⟩ hw => tos_some hw
      · show Tos _ (if z = true then _ else _) _
        exact tos_ite (fun _ => tos_some hz) fun _ => tos_some hz
theorem all_tot {best : List GuideRide} (hs : SOk d m l from_ at_ to_ by_ best) : Tot (mGuideAll d from_ to_ m 200) (fun p => p.1 = 0 ∧ Out d m from_ to_ p.2) := by
  unfold mGuideAll
  refine tot_eq (check2_ok hs.check hs.from_in hs.to_in hs.ne) ?_
  rw [if_neg (by decide), gwithin_eq, Option.bind_some, if_pos (by decide)]
  refine tot_bind (R := fun o => Out d m from_ to_ o) ?_ fun o ho => tot_some ⟨rfl, ho⟩
  unfold mGuideNetRides
  rw [Option.bind_some]
  refine tot_bind (lim_tot (P := fun p => Out d m from_ to_ p.2.1) 4 fun N => ?_) fun ⟨z, o, p⟩ hz => tot_some hz
  have hB : ∀ b ∈ ridesL from_ 0 (-1) d.Trains 0, RideOk d.Trains b ∧ (on d.Trains b).Station = from_ := fun b hb => ⟨(mem_rides.1 hb).1, (mem_rides.1 hb).2.1⟩
  exact tos_weak (all1_tos hs.day hs.least N [] (ridesL from_ 0 (-1) d.Trains 0) [] [] (by simp) (fun r hr => chain_one (hB r hr).1) (fun r hr r0 hr0 => by simp at hr0; subst hr0; exact (hB r hr).2) ⟨by simp, fun k hk => by cases hk⟩) fun q => by simpa using q
end
end Go.Proofs.YtckgfeglhjiflaaDoor
