/- Plain: chains of rides, and what the checks of journeys say of them. -/
import Derived.Test.YtckgfeglhjiflaaDoorGB
set_option linter.unusedVariables false
set_option linter.unusedSimpArgs false
namespace Go.Proofs.YtckgfeglhjiflaaDoor
open Go.RowKit Go.Fp

/- ---- what comes out, if there is fuel ---- -/
def Tos (s : Prop) {α : Type} (o : Option α) (P : α → Prop) : Prop := Tot o P ∨ (s ∧ o = none)
section
variable {α β σ τ : Type} {P Q : α → Prop} {S : Prop}
theorem tos_of {o : Option α} (h : Tot o P) : Tos S o P := .inl h
theorem tos_some {x : α} (h : P x) : Tos S (some x) P := .inl ⟨x, rfl, h⟩
theorem tos_bind {o : Option β} {f : β → Option α} {R : β → Prop} (h : Tos S o R) (k : ∀ x, R x → Tos S (f x) P) : Tos S (o.bind f) P := by
  rcases h with ⟨x, h1, h2⟩ | ⟨h1, h2⟩
  · rw [h1]; exact k x h2
  · rw [h2]; exact .inr ⟨h1, rfl⟩
theorem tos_bt {o : Option β} {f : β → Option α} {R : β → Prop} (h : Tot o R) (k : ∀ x, R x → Tos S (f x) P) : Tos S (o.bind f) P := tos_bind (.inl h) k
theorem tos_eq {o : Option β} {f : β → Option α} {x : β} (h : o = some x) (k : Tos S (f x) P) : Tos S (o.bind f) P := by
  rw [h]
  exact k
theorem tos_ite {c : Prop} [Decidable c] {a b : Option α} (h1 : c → Tos S a P) (h2 : ¬ c → Tos S b P) : Tos S (if c then a else b) P := by
  split
  · exact h1 ‹_›
  · exact h2 ‹_›
theorem tos_imp {o : Option α} (h : Tos S o P) (k : ∀ x, P x → Q x) : Tos S o Q := by
  rcases h with ⟨x, h1, h2⟩ | h
  · exact .inl ⟨x, h1, k x h2⟩
  · exact .inr h
theorem tos_idn {l : List β} {j : Nat} {f : β → Option α} (h1 : j < l.length) (k : ∀ x, l[j]? = some x → Tos S (f x) P) : Tos S ((idx l (j : Int)).bind f) P := by
  rw [idx_lt h1]
  exact k _ (List.getElem?_eq_getElem h1)
theorem tos_chk {x : Int} {f : Int → Option α} (h : -9223372036854775808 ≤ x) (h2 : x ≤ 9223372036854775807) (k : Tos S (f x) P) : Tos S ((chk x).bind f) P := tos_eq (chk_ok h h2) k
theorem tos_room {by_ m : Nat} {f : Unit → Option α} (h : m * by_ ≤ 140737488355328) (h2 : m ≤ 9223372036854775807) (k : Tos S (f ()) P) : Tos S ((room by_ m).bind f) P := tos_eq (room_ok h h2) k
theorem tos_forS {body : Nat → σ → Option σ} (I : Nat → σ → Prop) : ∀ {m k : Nat} {s : σ}, I k s → (∀ j s, k ≤ j → j < k + m → I j s → Tos S (body j s) (I (j + 1))) → Tos S (forS body m k s) (I (k + m))
  | 0, k, s, h0, _ => tos_some h0
  | m + 1, k, s, h0, h => by
    show Tos S ((body k s).bind _) _
    refine tos_bind (h k s (Nat.le_refl _) (by omega) h0) fun t ht => ?_
    rw [show k + (m + 1) = k + 1 + m by omega]
    exact tos_forS I ht fun j t hj hj' hi => h j t (by omega) (by omega) hi
theorem tos_forL {body : β → σ → Option (σ ⊕ τ)} (I : List β → σ → Prop) (R : τ → Prop) : ∀ {l : List β} {s : σ}, I l s → (∀ x r s, x ∈ l → I (x :: r) s → Tos S (body x s) (Sum.elim (I r) R)) → Tos S (forL body l s) (Sum.elim (I []) R)
  | [], s, h0, _ => tos_some h0
  | x :: r, s, h0, h => by
    unfold forL
    rcases h x r s (List.mem_cons_self ..) h0 with ⟨o, h1, h2⟩ | ⟨h1, h2⟩
    · rw [h1]
      cases o with
      | inr t => exact tos_some h2
      | inl s' => exact tos_forL I R h2 fun y q t hy hi => h y q t (List.mem_cons_of_mem _ hy) hi
    · rw [h2]
      exact .inr ⟨h1, rfl⟩
theorem tos_sum {γ : Type} {o : Option (σ ⊕ τ)} {f : σ → Option γ} {g : τ → Option γ} {I : σ → Prop} {R : τ → Prop} {W : γ → Prop} (h : Tos S o (Sum.elim I R)) (h1 : ∀ s, I s → Tos S (f s) W) (h2 : ∀ t, R t → Tos S (g t) W) : Tos S (o.bind fun t => Sum.elim f g t) W := by
  refine tos_bind h fun x hx => ?_
  cases x with
  | inl s => exact h1 s hx
  | inr t => exact h2 t hx
theorem lim_tot {f : Nat → Option α} (K : Nat) (h : ∀ N, Tos (N < K) (f N) P) : Tot (lim f) P := by
  refine lim_ok ?_ fun n t hn => ?_
  · rcases h K with ⟨x, h1, _⟩ | ⟨h1, _⟩
    · exact ⟨K, x, h1⟩
    · omega
  · rcases h n with ⟨x, h1, h2⟩ | ⟨_, h1⟩
    · rw [hn] at h1; injection h1 with h1; rw [h1]; exact h2
    · rw [hn] at h1; cases h1
end

/- ---- chains ---- -/
def Link (T : List ApiTrain) (m : Int) (a b : GuideRide) : Prop := b.Train ≠ a.Train ∧ (on T b).Station = (off T a).Station ∧ (off T a).Arr + m ≤ (on T b).Dep
def Chain (T : List ApiTrain) (m : Int) (l : List GuideRide) : Prop := (∀ r ∈ l, RideOk T r) ∧ ∀ (i : Nat) (a b : GuideRide), l[i]? = some a → l[i + 1]? = some b → Link T m a b
theorem chain_one {T : List ApiTrain} {m : Int} {r : GuideRide} (h : RideOk T r) : Chain T m [r] :=
  ⟨fun x hx => by rw [List.mem_singleton.1 hx]; exact h, fun i a b _ hb => by simp at hb⟩
theorem chain_snoc {T : List ApiTrain} {m : Int} {l : List GuideRide} {a b : GuideRide} (h : Chain T m l) (ha : l[l.length - 1]? = some a) (hb : RideOk T b) (hl : Link T m a b) : Chain T m (l ++ [b]) := by
  refine ⟨fun x hx => ?_, fun i x y hx hy => ?_⟩
  · rcases List.mem_append.1 hx with hx | hx
    · exact h.1 x hx
    · rw [List.mem_singleton.1 hx]; exact hb
  · have hlt : i + 1 < l.length + 1 := by
      obtain ⟨q, _⟩ := List.getElem?_eq_some_iff.1 hy
      simpa using q
    rw [List.getElem?_append_left (by omega)] at hx
    rcases Nat.lt_or_ge (i + 1) l.length with h1 | h1
    · rw [List.getElem?_append_left h1] at hy
      exact h.2 i x y hx hy
    · have h2 : i = l.length - 1 := by omega
      subst h2
      rw [ha] at hx
      injection hx with hx
      rw [List.getElem?_append_right (by omega), show l.length - 1 + 1 - l.length = 0 by omega] at hy
      simp at hy
      rw [← hx, ← hy]
      exact hl
theorem chain_take {T : List ApiTrain} {m : Int} {l : List GuideRide} (h : Chain T m l) (k : Nat) : Chain T m (l.take k) := by
  refine ⟨fun x hx => h.1 x (List.mem_of_mem_take hx), fun i a b ha hb => ?_⟩
  rw [List.getElem?_take] at ha hb
  split at hb
  · split at ha
    · exact h.2 i a b ha hb
    · cases ha
  · cases hb
section
variable {d : ApiDay} {m : Int} {l : List GuideRide}
theorem behind_eq (hd : GDay d) (hm : 0 ≤ m ∧ m ≤ 28800) {r : GuideRide} (h : RideOk d.Trains r) : mGuideNetBehind (⟨d, m⟩ : GuideNet) r = some (ridesL (off d.Trains r).Station ((off d.Trains r).Arr + m) r.Train d.Trains 0) := by
  have hi := (ride_in hd h).off_.2.1
  unfold mGuideNetBehind
  rw [off_eq (n := ⟨d, m⟩) h, Option.bind_some]
  show (chk ((off d.Trains r).Arr + m)).bind _ = _
  rw [chk_ok (by omega) (by omega)]
  rfl
theorem mem_behind {T : List ApiTrain} {r b : GuideRide} : b ∈ ridesL (off T r).Station ((off T r).Arr + m) r.Train T 0 ↔ RideOk T b ∧ Link T m r b := by
  rw [mem_rides]
  exact ⟨fun h => ⟨h.1, h.2.2.2, h.2.1, h.2.2.1⟩, fun h => ⟨h.1, h.2.2.1, h.2.2.2, h.2.1⟩⟩
theorem fwithin_eq (a c d : Int) : mFishref2Within a c d = some (decide (c ≤ a ∧ a ≤ d)) := by
  unfold mFishref2Within
  by_cases h1 : c ≤ a
  · rw [if_pos h1, Option.bind_some]
    simp [h1]
  · rw [if_neg h1, Option.bind_some]
    simp [h1]
/-- A chain is a journey, whether times count or not. -/
theorem journey_ok (hd : GDay d) (hm : 0 ≤ m ∧ m ≤ 28800) (hc : Chain d.Trains m l) (h1 : 1 ≤ l.length) (h4 : l.length ≤ 4) (q : Bool) : mGuideNetJourney (⟨d, m⟩ : GuideNet) (⟨l⟩ : GuideJourney) q = some 0 := by
  have key : Tot (mGuideNetJourney (⟨d, m⟩ : GuideNet) (⟨l⟩ : GuideJourney) q) (fun c => c = 0) := by
    have hT := hd.1
    unfold mGuideNetJourney
    rw [gwithin_eq, Option.bind_some, if_pos (decide_eq_true (by show (1 : Int) ≤ (l.length : Int) ∧ (l.length : Int) ≤ 4; omega))]
    refine tot_sum (tot_forM (fun _ _ => True) (fun _ => False) trivial fun j _ _ hj _ => ?_) (fun _ _ => tot_some rfl) fun _ h => h.elim
    unfold mGuideNetJourney_L428
    have hlt : j < l.length := by simpa using hj
    refine tot_idn hlt fun r hr => ?_
    have hok := hc.1 r (List.mem_of_getElem? hr)
    obtain ⟨⟨a, b⟩, c, e, f⟩ := hok
    refine tot_chk (by show -9223372036854775808 ≤ (d.Trains.length : Int) - 1; omega) (by show (d.Trains.length : Int) - 1 ≤ 9223372036854775807; omega) ?_
    rw [gwithin_eq, Option.bind_some, if_pos (decide_eq_true (by show 0 ≤ r.Train ∧ r.Train ≤ (d.Trains.length : Int) - 1; omega))]
    refine tot_eq (tr_idx (T := d.Trains) a b) ?_
    have hs := (hd.2.1 _ (tr_mem a b)).2.2.1
    refine tot_chk (by omega) (by omega) ?_
    refine tot_bind (R := fun q => q = false) ?_ fun q' hq' => ?_
    · rw [gwithin_eq, Option.bind_some, if_pos (decide_eq_true (by omega)), gwithin_eq, Option.bind_some]
      exact tot_some (by simp; omega)
    · subst hq'
      rw [if_neg (by decide), if_neg (by omega)]
      refine tot_ite (fun _ => tot_some trivial) fun h0 => tot_chk (by omega) (by omega) ?_
      refine tot_idx (by omega) (by show (j : Int) - 1 < (l.length : Int); omega) fun p hp => ?_
      have hp : l[j - 1]? = some p := by rw [show ((j : Int) - 1).toNat = j - 1 by omega] at hp; exact hp
      have hr : l[j - 1 + 1]? = some r := by rw [show j - 1 + 1 = j by omega]; exact hr
      have hl := hc.2 _ _ _ hp hr
      have hok := hc.1 r (List.mem_of_getElem? hr)
      have hpk := hc.1 p (List.mem_of_getElem? hp)
      refine tot_bind (R := fun q => q = false) ?_ fun q' hq' => ?_
      · rw [if_neg hl.1]
        refine tot_eq (on_eq (n := ⟨d, m⟩) hok) (tot_eq (off_eq (n := ⟨d, m⟩) hpk) (tot_some ?_))
        exact decide_eq_false fun h => h hl.2.1
      · subst hq'
        rw [if_neg (by decide)]
        refine tot_bind (R := fun q => q = false) ?_ fun q' hq' => ?_
        · refine tot_ite (fun _ => ?_) fun _ => tot_some rfl
          refine tot_eq (on_eq (n := ⟨d, m⟩) hok) (tot_eq (off_eq (n := ⟨d, m⟩) hpk) ?_)
          have hi := (ride_in hd hpk).off_.2.1
          have h3 := hl.2.2
          show Tot ((chk ((off d.Trains p).Arr + m)).bind _) _
          refine tot_chk (by omega) (by omega) (tot_some ?_)
          exact decide_eq_false (by show ¬ (on d.Trains r).Dep < (off d.Trains p).Arr + m; omega)
        · subst hq'
          rw [if_neg (by decide)]
          exact tot_some trivial
  obtain ⟨c, h, rfl⟩ := key
  exact h
theorem fault_ok (hd : GDay d) (hm : 0 ≤ m ∧ m ≤ 28800) (hc : Chain d.Trains m l) (h1 : 1 ≤ l.length) (h4 : l.length ≤ 4) : mFishref2JourneyFault d (⟨l⟩ : GuideJourney) m true = some 0 := by
  have key : Tot (mFishref2JourneyFault d (⟨l⟩ : GuideJourney) m true) (fun c => c = 0) := by
    have hT := hd.1
    unfold mFishref2JourneyFault
    rw [fwithin_eq, Option.bind_some, if_pos (decide_eq_true hm), fwithin_eq, Option.bind_some, if_pos (decide_eq_true (by show (1 : Int) ≤ (l.length : Int) ∧ (l.length : Int) ≤ 4; omega))]
    refine tot_sum (tot_forM (fun _ _ => True) (fun _ => False) trivial fun j _ _ hj _ => ?_) (fun _ _ => tot_some rfl) fun _ h => h.elim
    unfold mFishref2JourneyFault_L599
    have hlt : j < l.length := by simpa using hj
    refine tot_idn hlt fun r hr => ?_
    have hok := hc.1 r (List.mem_of_getElem? hr)
    obtain ⟨⟨a, b⟩, c, e, f⟩ := hok
    rw [if_neg (by omega), Option.bind_some, if_neg (by simp; omega)]
    refine tot_eq (tr_idx (T := d.Trains) a b) ?_
    have hs := (hd.2.1 _ (tr_mem a b)).2.2.1
    rw [if_neg (by omega), if_neg (by omega), if_neg (by omega), Option.bind_some, if_neg (by simp; omega), if_neg (by omega)]
    refine tot_ite (fun _ => tot_some trivial) fun h0 => tot_chk (by omega) (by omega) ?_
    refine tot_idx (by omega) (by show (j : Int) - 1 < (l.length : Int); omega) fun p hp => ?_
    have hp : l[j - 1]? = some p := by rw [show ((j : Int) - 1).toNat = j - 1 by omega] at hp; exact hp
    have hr : l[j - 1 + 1]? = some r := by rw [show j - 1 + 1 = j by omega]; exact hr
    have hl := hc.2 _ _ _ hp hr
    have hpk := hc.1 p (List.mem_of_getElem? hp)
    have hi := (ride_in hd hpk).off_.2.1
    obtain ⟨⟨a', b'⟩, c', e', f'⟩ := hpk
    refine tot_bind (R := fun x => x = ((off d.Trains p).Station, (off d.Trains p).Track, (off d.Trains p).Arr, (off d.Trains p).Dep)) (tot_eq (tr_idx (T := d.Trains) a' b') (tot_eq (stp_idx (by omega) f') (tot_some rfl))) fun x hx => ?_
    subst hx
    show Tot (Option.bind _ _) _
    refine tot_bind (R := fun q => q = false) ?_ fun q' hq' => ?_
    · rw [if_neg (fun h => hl.1 h.symm)]
      refine tot_eq (stp_idx c (by omega)) (tot_some ?_)
      exact decide_eq_false fun h => h hl.2.1
    · subst hq'
      rw [if_neg (by decide)]
      refine tot_bind (R := fun q => q = false) ?_ fun q' hq' => ?_
      · rw [if_pos rfl]
        refine tot_eq (stp_idx c (by omega)) ?_
        have h3 := hl.2.2
        show Tot ((chk ((off d.Trains p).Arr + m)).bind _) _
        refine tot_chk (by omega) (by omega) (tot_some ?_)
        exact decide_eq_false (by show ¬ (on d.Trains r).Dep < (off d.Trains p).Arr + m; omega)
      · subst hq'
        rw [if_neg (by decide)]
        exact tot_some trivial
  obtain ⟨c, h, rfl⟩ := key
  exact h
theorem leaves_eq {r : GuideRide} (hc : Chain d.Trains m l) (h : l[0]? = some r) : mFishref2Leaves d (⟨l⟩ : GuideJourney) = some (on d.Trains r).Dep := by
  obtain ⟨⟨a, b⟩, c, e, f⟩ := hc.1 r (List.mem_of_getElem? h)
  unfold mFishref2Leaves
  rw [show idx (⟨l⟩ : GuideJourney).Rides 0 = some r from idx_nat (j := 0) h, Option.bind_some, tr_idx a b, Option.bind_some, stp_idx c (by omega)]
  rfl
theorem arrives_eq {r : GuideRide} (hc : Chain d.Trains m l) (h : l[l.length - 1]? = some r) (h4 : l.length ≤ 4) : mFishref2Arrives d (⟨l⟩ : GuideJourney) = some (off d.Trains r).Arr := by
  obtain ⟨⟨a, b⟩, c, e, f⟩ := hc.1 r (List.mem_of_getElem? h)
  have h1 : 1 ≤ l.length := by
    obtain ⟨q, _⟩ := List.getElem?_eq_some_iff.1 h
    omega
  unfold mFishref2Arrives
  show (chk ((l.length : Int) - 1)).bind _ = _
  rw [chk_ok (by omega) (by omega), Option.bind_some]
  show (idx l ((l.length : Int) - 1)).bind _ = _
  rw [show (l.length : Int) - 1 = ((l.length - 1 : Nat) : Int) by omega, idx_nat h, Option.bind_some, tr_idx a b, Option.bind_some, stp_idx (by omega) f]
  rfl
end
end Go.Proofs.YtckgfeglhjiflaaDoor
