/- Plain: lists in order; the places that chains of so many rides end at. Plain: the points of a station's journeys to another one. Plain: the least of the points; a journey for a point. -/
import Derived.Test.YtckgfeglhjiflaaDoorGZ1
set_option linter.unusedVariables false
set_option linter.unusedSimpArgs false
namespace Go.Proofs.YtckgfeglhjiflaaDoor
open Go.RowKit Go.Fp
/- ==== GL ==== -/
/- ---- order ---- -/
theorem lex_cons {a b : Int} {r s : List Int} : lexLe (a :: r) (b :: s) = true ↔ a < b ∨ (a = b ∧ lexLe r s = true) := by
  show (if a < b then true else if b < a then false else lexLe r s) = true ↔ _
  by_cases h : a < b
  · simp [h]
  · rw [if_neg h]
    by_cases h2 : b < a
    · rw [if_pos h2]
      constructor
      · intro h3; cases h3
      · intro h3; omega
    · rw [if_neg h2]
      have : a = b := by omega
      simp [h, this]
theorem lex_refl : ∀ l, lexLe l l = true
  | [] => rfl
  | a :: r => lex_cons.2 (.inr ⟨rfl, lex_refl r⟩)
theorem lex_total : ∀ a b, lexLe a b = true ∨ lexLe b a = true
  | [], _ => .inl rfl
  | _ :: _, [] => .inr rfl
  | a :: r, b :: s => by
    rw [lex_cons, lex_cons]
    rcases lex_total r s with h | h
    · by_cases h1 : b < a
      · exact .inr (.inl h1)
      · exact .inl (by by_cases h2 : a < b; exact .inl h2; exact .inr ⟨by omega, h⟩)
    · by_cases h1 : a < b
      · exact .inl (.inl h1)
      · exact .inr (by by_cases h2 : b < a; exact .inl h2; exact .inr ⟨by omega, h⟩)
theorem lex_anti : ∀ a b, lexLe a b = true → lexLe b a = true → a = b
  | [], [], _, _ => rfl
  | [], _ :: _, _, h => by cases h
  | _ :: _, [], h, _ => by cases h
  | a :: r, b :: s, h1, h2 => by
    rw [lex_cons] at h1 h2
    rcases h1 with h1 | ⟨h1, h3⟩
    · rcases h2 with h2 | ⟨h2, _⟩ <;> omega
    · rcases h2 with h2 | ⟨_, h4⟩
      · omega
      · rw [h1, lex_anti r s h3 h4]
theorem lex_trans : ∀ a b c, lexLe a b = true → lexLe b c = true → lexLe a c = true
  | [], _, _, _, _ => rfl
  | _ :: _, [], _, h, _ => by cases h
  | _ :: _, _ :: _, [], _, h => by cases h
  | a :: r, b :: s, c :: t, h1, h2 => by
    rw [lex_cons] at h1 h2 ⊢
    rcases h1 with h1 | ⟨h1, h3⟩
    · rcases h2 with h2 | ⟨h2, _⟩
      · exact .inl (by omega)
      · exact .inl (by omega)
    · rcases h2 with h2 | ⟨h2, h4⟩
      · exact .inl (by omega)
      · exact .inr ⟨by omega, lex_trans r s t h3 h4⟩
section
variable {α : Type} {k : α → List Int} {x y : α} {l l' : List α}
def Srt (k : α → List Int) (l : List α) : Prop := l.Pairwise fun a b => lexLe (k a) (k b) = true
theorem mem_insB : y ∈ insB k x l ↔ y = x ∨ y ∈ l := by rw [(insB_perm k x l).mem_iff, List.mem_cons]
theorem insB_srt : ∀ {l : List α}, Srt k l → Srt k (insB k x l)
  | [], _ => List.pairwise_singleton _ _
  | y :: r, h => by
    obtain ⟨h1, h2⟩ := List.pairwise_cons.1 h
    unfold insB
    split
    · rename_i hc
      refine List.pairwise_cons.2 ⟨fun z hz => ?_, h⟩
      rcases List.mem_cons.1 hz with rfl | hz
      · exact hc
      · exact lex_trans _ _ _ hc (h1 z hz)
    · rename_i hc
      refine List.pairwise_cons.2 ⟨fun z hz => ?_, insB_srt h2⟩
      rcases mem_insB.1 hz with rfl | hz
      · exact (lex_total _ _).resolve_left hc
      · exact h1 z hz
theorem canB_srt : ∀ l : List α, Srt k (canB k l)
  | [] => List.Pairwise.nil
  | x :: r => insB_srt (canB_srt r)
theorem srt_uniq (hk : ∀ a b, a ∈ l → b ∈ l' → k a = k b → a = b) (h1 : Srt k l) (h2 : Srt k l') (hp : l.Perm l') : l = l' :=
  hp.eq_of_pairwise (fun a b ha hb h3 h4 => hk a b ha hb (lex_anti _ _ h3 h4)) h1 h2
theorem can_of (hk : ∀ a b, a ∈ l → b ∈ l → k a = k b → a = b) (h1 : Srt k l) (hp : l'.Perm l) : canB k l' = l := by
  have h2 := (canB_perm k l').trans hp
  exact srt_uniq (fun a b ha hb => hk a b (h2.mem_iff.1 ha) hb) (canB_srt l') h1 h2
end
theorem kp_inj {a b : GuidePoint} (h : kGuidePoint a = kGuidePoint b) : a = b := by
  cases a; cases b
  simp [kGuidePoint] at h
  simp [h]
/- ---- sets ---- -/
section
variable {κ : Type} [DecidableEq κ]
def tts (M : List κ) : List (κ × Bool) := M.map fun p => (p, true)
theorem mget_tts : ∀ {M : List κ} {p : κ}, mget (tts M) p = if p ∈ M then some true else none
  | [], p => by simp [tts, mget]
  | a :: r, p => by
    show (if a = p then some true else mget (tts r) p) = _
    rw [mget_tts]
    by_cases h : a = p
    · simp [h]
    · rw [if_neg h]
      by_cases h2 : p ∈ r
      · rw [if_pos h2, if_pos (List.mem_cons_of_mem _ h2)]
      · rw [if_neg h2, if_neg (by simp [h2, Ne.symm h])]
theorem mgetD_tts {M : List κ} {p : κ} : mgetD (tts M) p false = decide (p ∈ M) := by
  unfold mgetD
  rw [mget_tts]
  by_cases h : p ∈ M <;> simp [h]
theorem mput_tts {M : List κ} {p : κ} (h : p ∉ M) : mput (tts M) p true = tts (M ++ [p]) := by
  rw [(mget_none_split (tts M) p (by rw [mget_tts, if_neg h])).1 true]
  simp [tts]
end
structure Gd (T : GuidePoint → Prop) (o : Pts) : Prop where
  srt : Srt kGuidePoint o
  nd : o.Nodup
  mem : ∀ x, x ∈ o ↔ T x
theorem gd_uniq {T : GuidePoint → Prop} {o o' : Pts} (h : Gd T o) (h' : Gd T o') : o = o' :=
  srt_uniq (fun _ _ _ _ h => kp_inj h) h.srt h'.srt ((List.perm_ext_iff_of_nodup h.nd h'.nd).2 fun x => (h.mem x).trans (h'.mem x).symm)
theorem gd_can {T : GuidePoint → Prop} {o l : Pts} (h : Gd T o) (hp : l.Perm o) : canB kGuidePoint l = o := can_of (fun _ _ _ _ h => kp_inj h) h.srt hp
theorem gd_of {T : GuidePoint → Prop} {o : Pts} (h1 : Srt kGuidePoint o) (h2 : o.Nodup) (h3 : ∀ x, x ∈ o ↔ T x) : Gd T o := ⟨h1, h2, h3⟩
def stO (o : Pts) : List (GuidePoint × Bool) × List GuidePoint := (tts o, o)
theorem can_put {o : Pts} {q : GuidePoint} (h : q ∉ o) (hs : Srt kGuidePoint o) : canB (fun p => kGuidePoint p.1) (mput (tts o) q true) = tts (insB kGuidePoint q o) := by
  rw [mput_tts h]
  refine can_of (fun a b ha hb he => ?_) ?_ ?_
  · obtain ⟨u, _, rfl⟩ := List.mem_map.1 ha
    obtain ⟨v, _, rfl⟩ := List.mem_map.1 hb
    have e : u = v := kp_inj he
    rw [e]
  · exact List.pairwise_map.2 (insB_srt hs)
  · exact (List.perm_append_comm.trans (insB_perm kGuidePoint q o).symm).map _
theorem ordM_tot {α τ : Type} {f : List α → Option τ} {l : List α} {P : τ → Prop} (hu : ∀ s t, P s → P t → s = t) (h : ∀ p, p.Perm l → Tot (f p) P) : Tot (ordM f l) P := by
  obtain ⟨t, h1, h2⟩ := h l (.refl _)
  refine ⟨t, ordM_of fun p hp => ?_, h2⟩
  obtain ⟨s, h3, h4⟩ := h p hp
  rw [h3, hu s t h4 h2]
/- ---- how many ---- -/
theorem flat_le {α β : Type} {f : α → List β} {c : Nat} : ∀ {l : List α}, (∀ x ∈ l, (f x).length ≤ c) → (l.flatMap f).length ≤ l.length * c
  | [], _ => by simp
  | x :: r, h => by
    rw [List.flatMap_cons, List.length_append, List.length_cons, Nat.succ_mul]
    have h1 := h x (List.mem_cons_self ..)
    have h2 := flat_le (l := r) (f := f) (c := c) fun y hy => h y (List.mem_cons_of_mem _ hy)
    omega
theorem ridesS_len {t n : Nat} {sta at_ : Int} : ∀ {l : List ApiStop} {k : Nat}, (ridesS t n sta at_ l k).length ≤ l.length * n
  | [], k => by simp [ridesS]
  | s :: l, k => by
    unfold ridesS
    have h := ridesS_len (t := t) (n := n) (sta := sta) (at_ := at_) (l := l) (k := k + 1)
    rw [List.length_append, List.length_cons, Nat.succ_mul]
    split
    · simp; omega
    · have : (offsG t k n (k + 1)).length ≤ n := by simp [offsG]
      omega
theorem ridesL_len {sta at_ nt : Int} : ∀ {l : List ApiTrain} {k : Nat}, (∀ x ∈ l, x.Stops.length ≤ 8) → (ridesL sta at_ nt l k).length ≤ l.length * 64
  | [], k, _ => by simp [ridesL]
  | x :: l, k, h => by
    unfold ridesL
    have h1 := ridesL_len (sta := sta) (at_ := at_) (nt := nt) (l := l) (k := k + 1) fun y hy => h y (List.mem_cons_of_mem _ hy)
    have h2 := ridesS_len (t := k) (n := x.Stops.length) (sta := sta) (at_ := at_) (l := x.Stops) (k := 0)
    have h3 := h x (List.mem_cons_self ..)
    have h4 : x.Stops.length * x.Stops.length ≤ 8 * 8 := Nat.mul_le_mul h3 h3
    rw [List.length_append, List.length_cons, Nat.succ_mul]
    split
    · simp; omega
    · omega
/- ---- places ---- -/
section
variable {d : ApiDay} {m : Int}
theorem rides_len (hd : GDay d) {sta at_ nt : Int} : (ridesL sta at_ nt d.Trains 0).length ≤ 768 := by
  have h1 := ridesL_len (sta := sta) (at_ := at_) (nt := nt) (l := d.Trains) (k := 0) fun x hx => (hd.2.1 x hx).2.2.1
  have h2 := hd.1
  omega
def plc (r : GuideRide) : GuidePlace := ⟨r.Train, r.Off⟩
def PlOk (T : List ApiTrain) (p : GuidePlace) : Prop := (0 ≤ p.train ∧ p.train < (T.length : Int)) ∧ 0 ≤ p.off ∧ p.off < ((tr T p.train).Stops.length : Int)
theorem plc_ok {T : List ApiTrain} {r : GuideRide} (h : RideOk T r) : PlOk T (plc r) := ⟨h.1, by have := h.2; show 0 ≤ r.Off; omega, h.2.2.2⟩
def bh (T : List ApiTrain) (m : Int) (r : GuideRide) : List GuideRide := ridesL (off T r).Station ((off T r).Arr + m) r.Train T 0
theorem bh_plc {T : List ApiTrain} {r r' : GuideRide} (h : plc r = plc r') : bh T m r = bh T m r' := by
  have h1 : r.Train = r'.Train := congrArg GuidePlace.train h
  have h2 : r.Off = r'.Off := congrArg GuidePlace.off h
  unfold bh off
  rw [h1, h2]
def allPl : List GuidePlace := (List.range 12).flatMap fun (t : Nat) => (List.range 8).map fun (k : Nat) => ⟨(t : Int), (k : Int)⟩
theorem allPl_len : allPl.length ≤ 96 := flat_le (f := fun t : Nat => (List.range 8).map fun k : Nat => (⟨(t : Int), (k : Int)⟩ : GuidePlace)) (l := List.range 12) (c := 8) fun x _ => by simp
theorem mem_allPl (hd : GDay d) {p : GuidePlace} (h : PlOk d.Trains p) : p ∈ allPl := by
  have h1 := (hd.2.1 _ (tr_mem h.1.1 h.1.2)).2.2.1
  have h2 := hd.1
  obtain ⟨⟨a, b⟩, c, e⟩ := h
  refine List.mem_flatMap.2 ⟨p.train.toNat, List.mem_range.2 (by omega), List.mem_map.2 ⟨p.off.toNat, List.mem_range.2 (by omega), ?_⟩⟩
  cases p
  simp only at a c
  simp only [GuidePlace.mk.injEq]
  omega
theorem pls_len (hd : GDay d) {M : List GuidePlace} (h : M.Nodup) (hM : ∀ p ∈ M, PlOk d.Trains p) : M.length ≤ 96 :=
  Nat.le_trans (h.length_le_of_subset fun p hp => mem_allPl hd (hM p hp)) allPl_len
theorem seq_eq : ∀ (i e : List GuideRide), e.length + i.length ≤ 1000000 → forL mSlicesAppendSeq_L63 i e = some (.inl (e ++ i))
  | [], e, _ => by simp [forL]
  | x :: r, e, h => by
    have h1 : mSlicesAppendSeq_L63 x e = some (.inl (e ++ [x])) := by
      unfold mSlicesAppendSeq_L63
      simp only [List.length_cons] at h
      rw [room_ok (by omega) (by omega)]
      rfl
    unfold forL
    rw [h1]
    show forL _ r (e ++ [x]) = _
    rw [seq_eq r (e ++ [x]) (by simp only [List.length_append, List.length_cons, List.length_nil] at h ⊢; omega)]
    simp
theorem appSeq_eq {i e : List GuideRide} (h : e.length + i.length ≤ 1000000) : mSlicesAppendSeq i e = some (e ++ i) := by
  unfold mSlicesAppendSeq
  rw [seq_eq i e h]
  rfl
def EndOk (T : List ApiTrain) (m : Int) (rs : List GuideRide) (s : List GuideRide × List (GuidePlace × Bool)) : Prop := ∃ M : List GuidePlace, s.2 = tts M ∧ M.Nodup ∧ (∀ p, p ∈ M ↔ ∃ r ∈ rs, plc r = p) ∧ ∀ b, b ∈ s.1 ↔ ∃ r ∈ rs, b ∈ bh T m r
theorem ends_round (hd : GDay d) (hm : 0 ≤ m ∧ m ≤ 28800) {rs : List GuideRide} (hr : ∀ r ∈ rs, RideOk d.Trains r) : Tot (forS (mGuideNetEnds_L763 (⟨d, m⟩ : GuideNet) rs) rs.length 0 ([], [])) (EndOk d.Trains m rs) := by
  refine tot_imp (tot_forS (fun k s => ∃ M : List GuidePlace, s.2 = tts M ∧ M.Nodup ∧ (∀ p, p ∈ M ↔ ∃ j r, j < k ∧ rs[j]? = some r ∧ plc r = p) ∧ (∀ b, b ∈ s.1 ↔ ∃ j r, j < k ∧ rs[j]? = some r ∧ b ∈ bh d.Trains m r) ∧ s.1.length ≤ 768 * M.length) ⟨[], rfl, List.nodup_nil, fun p => ⟨fun h => (by cases h), fun ⟨j, r, h, _⟩ => absurd h (by omega)⟩, fun p => ⟨fun h => (by cases h), fun ⟨j, r, h, _⟩ => absurd h (by omega)⟩, by simp⟩ fun k ⟨nx, mm⟩ _ hk ⟨M, e, hM, h1, h2, h3⟩ => ?_) fun s ⟨M, e, hM, h1, h2, _⟩ => ⟨M, e, hM, fun p => (h1 p).trans ?_, fun b => (h2 b).trans ?_⟩
  · dsimp only at e h2 h3
    subst e
    unfold mGuideNetEnds_L763
    dsimp only [unc2]
    refine tot_idn (by omega) fun r hrk => ?_
    have hro := hr r (List.mem_of_getElem? hrk)
    have hlt : ∀ {j : Nat} {q : GuideRide}, j < k + 1 → rs[j]? = some q → j < k ∨ q = r := fun {j q} h hq => by
      rcases Nat.lt_or_ge j k with h5 | h5
      · exact .inl h5
      · have : j = k := by omega
        subst this
        rw [hrk] at hq
        injection hq with hq
        exact .inr hq.symm
    rw [Option.bind_some, show mgetD (tts M) (⟨r.Train, r.Off⟩ : GuidePlace) false = decide (plc r ∈ M) from mgetD_tts]
    refine tot_ite (fun h => tot_some ⟨M, rfl, hM, fun p => ?_, fun b => ?_, h3⟩) fun h => ?_
    · rw [h1]
      constructor
      · rintro ⟨j, q, h4, h5⟩
        exact ⟨j, q, by omega, h5⟩
      · rintro ⟨j, q, h4, h5, h6⟩
        rcases hlt h4 h5 with h7 | rfl
        · exact ⟨j, q, h7, h5, h6⟩
        · rw [← h6]; exact (h1 _).1 (of_decide_eq_true h)
    · show b ∈ nx ↔ _
      rw [h2]
      constructor
      · rintro ⟨j, q, h4, h5⟩
        exact ⟨j, q, by omega, h5⟩
      · rintro ⟨j, q, h4, h5, h6⟩
        rcases hlt h4 h5 with h7 | rfl
        · exact ⟨j, q, h7, h5, h6⟩
        · obtain ⟨j', q', h8, h9, h10⟩ := (h1 _).1 (of_decide_eq_true h)
          exact ⟨j', q', h8, h9, by rw [bh_plc h10]; exact h6⟩
    · have hnot : plc r ∉ M := of_decide_eq_false (bt h)
      have hlen := rides_len hd (sta := (off d.Trains r).Station) (at_ := (off d.Trains r).Arr + m) (nt := r.Train)
      have hml := pls_len hd hM fun p hp => by
        obtain ⟨j, q, _, h5, h6⟩ := (h1 p).1 hp
        rw [← h6]; exact plc_ok (hr q (List.mem_of_getElem? h5))
      refine tot_eq (behind_eq hd hm hro) (tot_eq (appSeq_eq (by omega)) (tot_some ⟨M ++ [plc r], mput_tts hnot, ?_, fun p => ?_, fun b => ?_, ?_⟩))
      · refine List.nodup_append.2 ⟨hM, by simp, fun a ha b hb e => ?_⟩
        rw [List.mem_singleton.1 hb] at e
        exact hnot (e ▸ ha)
      · rw [List.mem_append, h1, List.mem_singleton]
        constructor
        · rintro (⟨j, q, h4, h5⟩ | rfl)
          · exact ⟨j, q, by omega, h5⟩
          · exact ⟨k, r, by omega, hrk, rfl⟩
        · rintro ⟨j, q, h4, h5, h6⟩
          rcases hlt h4 h5 with h7 | rfl
          · exact .inl ⟨j, q, h7, h5, h6⟩
          · exact .inr h6.symm
      · show b ∈ nx ++ bh d.Trains m r ↔ _
        rw [List.mem_append, h2]
        constructor
        · rintro (⟨j, q, h4, h5⟩ | h)
          · exact ⟨j, q, by omega, h5⟩
          · exact ⟨k, r, by omega, hrk, h⟩
        · rintro ⟨j, q, h4, h5, h6⟩
          rcases hlt h4 h5 with h7 | rfl
          · exact .inl ⟨j, q, h7, h5, h6⟩
          · exact .inr h6
      · show (nx ++ bh d.Trains m r).length ≤ 768 * (M ++ [plc r]).length
        have : (bh d.Trains m r).length ≤ 768 := hlen
        simp only [List.length_append, List.length_cons, List.length_nil]
        omega
  · constructor
    · rintro ⟨j, r, _, h4, h5⟩
      exact ⟨r, List.mem_of_getElem? h4, h5⟩
    · rintro ⟨r, h4, h5⟩
      obtain ⟨j, h6, h7⟩ := List.mem_iff_getElem.1 h4
      exact ⟨j, r, by omega, by rw [List.getElem?_eq_getElem h6, h7], h5⟩
  · constructor
    · rintro ⟨j, r, _, h4, h5⟩
      exact ⟨r, List.mem_of_getElem? h4, h5⟩
    · rintro ⟨r, h4, h5⟩
      obtain ⟨j, h6, h7⟩ := List.mem_iff_getElem.1 h4
      exact ⟨j, r, by omega, by rw [List.getElem?_eq_getElem h6, h7], h5⟩
/-- A chain of k rides from one of R0 to b. -/
def CF (T : List ApiTrain) (m : Int) (R0 : List GuideRide) (k : Nat) (l : List GuideRide) (b : GuideRide) : Prop := Chain T m l ∧ l.length = k ∧ (∃ r, l[0]? = some r ∧ r ∈ R0) ∧ l[k - 1]? = some b
theorem cf_one {R0 : List GuideRide} (hr : ∀ r ∈ R0, RideOk d.Trains r) (b : GuideRide) : b ∈ R0 ↔ ∃ l, CF d.Trains m R0 1 l b := by
  constructor
  · exact fun h => ⟨[b], chain_one (hr b h), rfl, ⟨b, rfl, h⟩, rfl⟩
  · rintro ⟨l, _, _, ⟨r, h1, h2⟩, h3⟩
    rw [show (1 : Nat) - 1 = 0 from rfl, h1] at h3
    injection h3 with h3
    exact h3 ▸ h2
theorem cf_next {R0 : List GuideRide} {k : Nat} (hk : 1 ≤ k) (b : GuideRide) : (∃ r, (∃ l, CF d.Trains m R0 k l r) ∧ b ∈ bh d.Trains m r) ↔ ∃ l, CF d.Trains m R0 (k + 1) l b := by
  constructor
  · rintro ⟨r, ⟨l, h1, h2, ⟨q, h3, h4⟩, h5⟩, h6⟩
    have h6 := mem_behind.1 h6
    have h5' : l[l.length - 1]? = some r := by rw [h2]; exact h5
    refine ⟨l ++ [b], chain_snoc h1 h5' h6.1 h6.2, by simp [h2], ⟨q, ?_, h4⟩, ?_⟩
    · rw [List.getElem?_append_left (by omega)]; exact h3
    · rw [List.getElem?_append_right (by omega), show k + 1 - 1 - l.length = 0 by omega]; rfl
  · rintro ⟨l, h1, h2, ⟨q, h3, h4⟩, h5⟩
    have hlt : k - 1 < l.length := by omega
    refine ⟨l[k - 1], ⟨l.take k, chain_take h1 k, by rw [List.length_take]; omega, ⟨q, ?_, h4⟩, ?_⟩, mem_behind.2 ?_⟩
    · rw [List.getElem?_take_of_lt (by omega)]; exact h3
    · rw [List.getElem?_take_of_lt (by omega)]; exact List.getElem?_eq_getElem hlt
    · refine ⟨h1.1 b (List.mem_of_getElem? h5), h1.2 (k - 1) _ b (List.getElem?_eq_getElem hlt) ?_⟩
      rw [show k - 1 + 1 = k + 1 - 1 by omega]; exact h5
def Lvl (T : List ApiTrain) (m : Int) (R0 : List GuideRide) (k : Nat) (g : List (GuidePlace × Bool)) : Prop := ∃ M : List GuidePlace, g = tts M ∧ ∀ p, p ∈ M ↔ ∃ l b, CF T m R0 k l b ∧ plc b = p
theorem lvl_of {R0 rs : List GuideRide} {k : Nat} {s : List GuideRide × List (GuidePlace × Bool)} (hk : 1 ≤ k) (h : EndOk d.Trains m rs s) (hrs : ∀ b, b ∈ rs ↔ ∃ l, CF d.Trains m R0 k l b) : Lvl d.Trains m R0 k s.2 ∧ (∀ b, b ∈ s.1 ↔ ∃ l, CF d.Trains m R0 (k + 1) l b) ∧ ∀ b ∈ s.1, RideOk d.Trains b := by
  obtain ⟨M, e, _, h1, h2⟩ := h
  refine ⟨⟨M, e, fun p => (h1 p).trans ?_⟩, fun b => ?_, fun b hb => ?_⟩
  · constructor
    · rintro ⟨r, h3, h4⟩
      obtain ⟨l, h5⟩ := (hrs r).1 h3
      exact ⟨l, r, h5, h4⟩
    · rintro ⟨l, r, h5, h4⟩
      exact ⟨r, (hrs r).2 ⟨l, h5⟩, h4⟩
  · rw [h2, ← cf_next hk]
    constructor
    · rintro ⟨r, h3, h4⟩
      exact ⟨r, (hrs r).1 h3, h4⟩
    · rintro ⟨r, h3, h4⟩
      exact ⟨r, (hrs r).2 h3, h4⟩
  · obtain ⟨r, _, h4⟩ := (h2 b).1 hb
    exact (mem_behind.1 h4).1
theorem ends_tot (hd : GDay d) (hm : 0 ≤ m ∧ m ≤ 28800) {R0 : List GuideRide} (hr : ∀ r ∈ R0, RideOk d.Trains r) : Tot (mGuideNetEnds (⟨d, m⟩ : GuideNet) R0) (fun s => Lvl d.Trains m R0 1 s.1 ∧ Lvl d.Trains m R0 2 s.2.1 ∧ Lvl d.Trains m R0 3 s.2.2.1 ∧ Lvl d.Trains m R0 4 s.2.2.2) := by
  unfold mGuideNetEnds
  refine tot_bind (ends_round hd hm hr) fun ⟨n1, g1⟩ h1 => ?_
  obtain ⟨k1, c1, r1⟩ := lvl_of (Nat.le_refl 1) h1 (cf_one hr)
  dsimp only at k1 c1 r1
  dsimp only [unc2]
  refine tot_chk (by omega) (by omega) (tot_bind (R := EndOk d.Trains m n1) (ends_round hd hm r1) fun ⟨n2, g2⟩ h2 => ?_)
  obtain ⟨k2, c2, r2⟩ := lvl_of (by omega) h2 c1
  dsimp only at k2 c2 r2
  dsimp only [unc2]
  refine tot_chk (by omega) (by omega) (tot_bind (R := EndOk d.Trains m n2) (ends_round hd hm r2) fun ⟨n3, g3⟩ h3 => ?_)
  obtain ⟨k3, c3, r3⟩ := lvl_of (by omega) h3 c2
  dsimp only at k3 c3 r3
  dsimp only [unc2]
  refine tot_chk (by omega) (by omega) (tot_bind (R := EndOk d.Trains m n3) (ends_round hd hm r3) fun ⟨n4, g4⟩ h4 => ?_)
  obtain ⟨k4, c4, r4⟩ := lvl_of (by omega) h4 c3
  dsimp only at k4 c4 r4
  dsimp only [unc2]
  exact tot_chk (by omega) (by omega) (tot_some ⟨k1, k2, k3, k4⟩)
end
/- ==== GM ==== -/
/-- One round over the places that so many rides end at. -/
noncomputable def pbody (n : GuideNet) (to_ : Int) (c : Int × List GuideRide) (K : Int) (g : GuidePlace × Bool) : ((List (GuidePoint × Bool)) × (List GuidePoint)) → Option (((List (GuidePoint × Bool)) × (List GuidePoint)) ⊕ ((List (GuidePoint × Bool)) × (List GuidePoint))) := unc2 fun d e =>
 ((idx n.Day.Trains g.1.train).bind fun j =>
 (idx j.Stops g.1.off).bind fun a =>
 some (a.Station, a.Track, a.Arr, a.Dep)).bind (unc4 fun k _ f _ =>
 (chk K).bind fun _ =>
 (if k = to_ then (
 (some (mgetD d (⟨c.1, f, K⟩ : GuidePoint) false)).bind fun l =>
 some (!l))
 else (
 some false)).bind (fun m =>
 if m = true then (
 (room 24 (e.length + 1)).bind fun _ =>
 some (.inl (canB (fun p => kGuidePoint p.1) (mput d (⟨c.1, f, K⟩ : GuidePoint) true), insB kGuidePoint (⟨c.1, f, K⟩ : GuidePoint) e)))
 else (
 some (.inl (d, e)))))
theorem pb1 : mGuideNetPoints_L48611 = fun n to_ c => pbody n to_ c (0 + 1) := rfl
theorem pb2 : mGuideNetPoints_L49679 = fun n to_ c => pbody n to_ c (1 + 1) := rfl
theorem pb3 : mGuideNetPoints_L50747 = fun n to_ c => pbody n to_ c (2 + 1) := rfl
theorem pb4 : mGuideNetPoints_L51815 = fun n to_ c => pbody n to_ c (3 + 1) := rfl
section
variable {d : ApiDay} {m : Int}
def sp (T : List ApiTrain) (p : GuidePlace) : ApiStop := stp T p.train p.off
/-- What an end says of a point. -/
def EP (T : List ApiTrain) (to_ dep K : Int) (p : GuidePlace) (x : GuidePoint) : Prop := (sp T p).Station = to_ ∧ x = ⟨dep, (sp T p).Arr, K⟩
theorem pbody_tot {to_ : Int} {c : Int × List GuideRide} {K : Int} (hK : 0 ≤ K ∧ K ≤ 10) {p : GuidePlace} {o : Pts} (hp : PlOk d.Trains p) (hs : Srt kGuidePoint o) (hn : o.Nodup) (hl : o.length ≤ 60000) :
    Tot (pbody (⟨d, m⟩ : GuideNet) to_ c K (p, true) (stO o)) (fun r => ∃ o', r = .inl (stO o') ∧ Srt kGuidePoint o' ∧ o'.Nodup ∧ ∀ x, x ∈ o' ↔ x ∈ o ∨ EP d.Trains to_ c.1 K p x) := by
  unfold pbody stO
  dsimp only [unc2]
  refine tot_bind (R := fun r => r = ((sp d.Trains p).Station, (sp d.Trains p).Track, (sp d.Trains p).Arr, (sp d.Trains p).Dep)) (tot_eq (tr_idx hp.1.1 hp.1.2) (tot_eq (stp_idx hp.2.1 hp.2.2) (tot_some rfl))) fun r hr => ?_
  subst hr
  dsimp only [unc4]
  refine tot_chk (by omega) (by omega) ?_
  refine tot_bind (R := fun q => q = decide ((sp d.Trains p).Station = to_ ∧ (⟨c.1, (sp d.Trains p).Arr, K⟩ : GuidePoint) ∉ o)) ?_ fun q hq => ?_
  · refine tot_ite (fun h => ?_) fun h => tot_some ?_
    · rw [Option.bind_some, mgetD_tts]
      refine tot_some ?_
      by_cases h2 : (⟨c.1, (sp d.Trains p).Arr, K⟩ : GuidePoint) ∈ o <;> simp [h, h2]
    · simp [h]
  subst hq
  refine tot_ite (fun h => ?_) fun h => tot_some ⟨o, rfl, hs, hn, fun x => ⟨.inl, ?_⟩⟩
  · have h := of_decide_eq_true h
    refine tot_room (by omega) (by omega) (tot_some ⟨insB kGuidePoint ⟨c.1, (sp d.Trains p).Arr, K⟩ o, ?_, insB_srt hs, ?_, fun x => ?_⟩)
    · rw [can_put h.2 hs]
    · exact (insB_perm _ _ _).nodup_iff.2 (List.nodup_cons.2 ⟨h.2, hn⟩)
    · rw [mem_insB, Or.comm]
      exact or_congr_right ⟨fun e => ⟨h.1, e⟩, fun e => e.2⟩
  · have h := of_decide_eq_false (bt h)
    rintro (h2 | ⟨h2, h3⟩)
    · exact h2
    · subst h3
      exact Decidable.byContradiction fun h4 => h ⟨h2, h4⟩
theorem rp_uniq {τ : Type} {T : GuidePoint → Prop} (s t : ((List (GuidePoint × Bool)) × (List GuidePoint)) ⊕ τ) (h1 : ∃ o, s = .inl (stO o) ∧ Gd T o) (h2 : ∃ o, t = .inl (stO o) ∧ Gd T o) : s = t := by
  obtain ⟨o, rfl, h3⟩ := h1
  obtain ⟨o', rfl, h4⟩ := h2
  rw [gd_uniq h3 h4]
theorem lvl_tot {to_ : Int} {c : Int × List GuideRide} {K : Int} (hK : 0 ≤ K ∧ K ≤ 10) {M : List GuidePlace} (hM : ∀ p ∈ M, PlOk d.Trains p) {T : GuidePoint → Prop} {B : Pts} (hB : B.length ≤ 60000) (hT : ∀ x, T x ∨ (∃ p ∈ M, EP d.Trains to_ c.1 K p x) → x ∈ B) {o : Pts} (ho : Gd T o) :
    Tot (ordM (fun p => forL (pbody (⟨d, m⟩ : GuideNet) to_ c K) p (stO o)) (tts M)) (fun r => ∃ o', r = .inl (stO o') ∧ Gd (fun x => T x ∨ ∃ p ∈ M, EP d.Trains to_ c.1 K p x) o') := by
  refine ordM_tot rp_uniq fun l hl => ?_
  refine tot_imp (tot_forL (fun r s => ∃ o', s = stO o' ∧ Srt kGuidePoint o' ∧ o'.Nodup ∧ ∀ x, (x ∈ o' ∨ ∃ e ∈ r, EP d.Trains to_ c.1 K e.1 x) ↔ (T x ∨ ∃ p ∈ M, EP d.Trains to_ c.1 K p x)) (fun _ => False) ⟨o, rfl, ho.srt, ho.nd, fun x => ?_⟩ fun e r s he ⟨o', h1, h2, h3, h4⟩ => ?_) fun r hr => ?_
  · rw [ho.mem]
    refine or_congr_right ⟨fun ⟨e, h1, h2⟩ => ?_, fun ⟨p, h1, h2⟩ => ⟨(p, true), hl.mem_iff.2 (List.mem_map.2 ⟨p, h1, rfl⟩), h2⟩⟩
    obtain ⟨p, h3, rfl⟩ := List.mem_map.1 (hl.mem_iff.1 h1)
    exact ⟨p, h3, h2⟩
  · subst h1
    obtain ⟨p, h5, rfl⟩ := List.mem_map.1 (hl.mem_iff.1 he)
    refine tot_imp (pbody_tot hK (hM p h5) h2 h3 ?_) fun r' hr' => ?_
    · exact Nat.le_trans (h3.length_le_of_subset fun x hx => hT x ((h4 x).1 (.inl hx))) hB
    · obtain ⟨o2, rfl, h6, h7, h8⟩ := hr'
      refine ⟨o2, rfl, h6, h7, fun x => ?_⟩
      rw [← h4 x, h8]
      constructor
      · rintro ((h | h) | ⟨e, h, h'⟩)
        · exact .inl h
        · exact .inr ⟨_, List.mem_cons_self .., h⟩
        · exact .inr ⟨e, List.mem_cons_of_mem _ h, h'⟩
      · rintro (h | ⟨e, h, h'⟩)
        · exact .inl (.inl h)
        · rcases List.mem_cons.1 h with rfl | h
          · exact .inl (.inr h')
          · exact .inr ⟨e, h, h'⟩
  · cases r with
    | inr _ => exact hr.elim
    | inl s =>
      obtain ⟨o', rfl, h2, h3, h4⟩ := hr
      refine ⟨o', rfl, h2, h3, fun x => ?_⟩
      rw [← h4 x]
      exact ⟨.inl, fun h => h.elim id fun ⟨e, h, _⟩ => by cases h⟩

/- ---- all departures ---- -/
/-- A way of so many rides from one of R0 to a station. -/
def WR (T : List ApiTrain) (m : Int) (R0 : List GuideRide) (to_ dep : Int) (k : Nat) (x : GuidePoint) : Prop := ∃ l b, CF T m R0 k l b ∧ EP T to_ dep (k : Int) (plc b) x
def WC (T : List ApiTrain) (m : Int) (to_ : Int) (c : Int × List GuideRide) (x : GuidePoint) : Prop := WR T m c.2 to_ c.1 1 x ∨ WR T m c.2 to_ c.1 2 x ∨ WR T m c.2 to_ c.1 3 x ∨ WR T m c.2 to_ c.1 4 x
theorem ep_iff {R0 : List GuideRide} {to_ dep : Int} {k : Nat} {M : List GuidePlace} (h : ∀ p, p ∈ M ↔ ∃ l b, CF d.Trains m R0 k l b ∧ plc b = p) (x : GuidePoint) : (∃ p ∈ M, EP d.Trains to_ dep (k : Int) p x) ↔ WR d.Trains m R0 to_ dep k x := by
  constructor
  · rintro ⟨p, h1, h2⟩
    obtain ⟨l, b, h3, rfl⟩ := (h p).1 h1
    exact ⟨l, b, h3, h2⟩
  · rintro ⟨l, b, h3, h2⟩
    exact ⟨plc b, (h _).2 ⟨l, b, h3, rfl⟩, h2⟩
theorem lvl_ok {R0 : List GuideRide} {k : Nat} {M : List GuidePlace} (h : ∀ p, p ∈ M ↔ ∃ l b, CF d.Trains m R0 k l b ∧ plc b = p) : ∀ p ∈ M, PlOk d.Trains p := fun p hp => by
  obtain ⟨l, b, ⟨h1, _, _, h2⟩, rfl⟩ := (h p).1 hp
  exact plc_ok (h1.1 b (List.mem_of_getElem? h2))
theorem gd_iff {T T' : GuidePoint → Prop} {o : Pts} (h : Gd T o) (he : ∀ x, T x ↔ T' x) : Gd T' o := ⟨h.srt, h.nd, fun x => (h.mem x).trans (he x)⟩
theorem dep_tot (hd : GDay d) (hm : 0 ≤ m ∧ m ≤ 28800) {to_ : Int} {c : Int × List GuideRide} (hc : ∀ r ∈ c.2, RideOk d.Trains r) {T : GuidePoint → Prop} {B : Pts} (hB : B.length ≤ 60000) (hT : ∀ x, T x ∨ WC d.Trains m to_ c x → x ∈ B) {o : Pts} (ho : Gd T o) :
    Tot (mGuideNetPoints_L39375 (⟨d, m⟩ : GuideNet) to_ c (stO o)) (fun r => ∃ o', r = .inl (stO o') ∧ Gd (fun x => T x ∨ WC d.Trains m to_ c x) o') := by
  unfold mGuideNetPoints_L39375
  rw [pb1, pb2, pb3, pb4]
  dsimp only [unc2, stO]
  refine tot_bind (ends_tot hd hm hc) fun ⟨g1, g2, g3, g4⟩ ⟨⟨M1, e1, q1⟩, ⟨M2, e2, q2⟩, ⟨M3, e3, q3⟩, ⟨M4, e4, q4⟩⟩ => ?_
  dsimp only at e1 e2 e3 e4
  subst e1 e2 e3 e4
  dsimp only [unc4]
  refine tot_bind (R := fun s => ∃ o', s = stO o' ∧ Gd (fun x => T x ∨ WR d.Trains m c.2 to_ c.1 1 x) o') ?_ fun s hs => ?_
  · refine tot_bind (lvl_tot (by omega) (lvl_ok q1) hB (fun x hx => hT x (hx.imp id fun h => .inl ((ep_iff q1 x).1 h))) ho) fun r hr => ?_
    obtain ⟨o', rfl, h⟩ := hr
    exact tot_some ⟨o', rfl, gd_iff h fun x => or_congr_right (ep_iff q1 x)⟩
  obtain ⟨o1, rfl, ho1⟩ := hs
  dsimp only [unc2, stO]
  refine tot_chk (by omega) (by omega) ?_
  refine tot_bind (R := fun s => ∃ o', s = stO o' ∧ Gd (fun x => (T x ∨ WR d.Trains m c.2 to_ c.1 1 x) ∨ WR d.Trains m c.2 to_ c.1 2 x) o') ?_ fun s hs => ?_
  · refine tot_bind (lvl_tot (by omega) (lvl_ok q2) hB (fun x hx => hT x ?_) ho1) fun r hr => ?_
    · rcases hx with (h | h) | h
      · exact .inl h
      · exact .inr (.inl h)
      · exact .inr (.inr (.inl ((ep_iff q2 x).1 h)))
    obtain ⟨o', rfl, h⟩ := hr
    exact tot_some ⟨o', rfl, gd_iff h fun x => or_congr_right (ep_iff q2 x)⟩
  obtain ⟨o2, rfl, ho2⟩ := hs
  dsimp only [unc2, stO]
  refine tot_chk (by omega) (by omega) ?_
  refine tot_bind (R := fun s => ∃ o', s = stO o' ∧ Gd (fun x => ((T x ∨ WR d.Trains m c.2 to_ c.1 1 x) ∨ WR d.Trains m c.2 to_ c.1 2 x) ∨ WR d.Trains m c.2 to_ c.1 3 x) o') ?_ fun s hs => ?_
  · refine tot_bind (lvl_tot (by omega) (lvl_ok q3) hB (fun x hx => hT x ?_) ho2) fun r hr => ?_
    · rcases hx with ((h | h) | h) | h
      · exact .inl h
      · exact .inr (.inl h)
      · exact .inr (.inr (.inl h))
      · exact .inr (.inr (.inr (.inl ((ep_iff q3 x).1 h))))
    obtain ⟨o', rfl, h⟩ := hr
    exact tot_some ⟨o', rfl, gd_iff h fun x => or_congr_right (ep_iff q3 x)⟩
  obtain ⟨o3, rfl, ho3⟩ := hs
  dsimp only [unc2, stO]
  refine tot_chk (by omega) (by omega) ?_
  refine tot_bind (R := fun s => ∃ o', s = stO o' ∧ Gd (fun x => T x ∨ WC d.Trains m to_ c x) o') ?_ fun s hs => ?_
  · refine tot_bind (lvl_tot (by omega) (lvl_ok q4) hB (fun x hx => hT x ?_) ho3) fun r hr => ?_
    · rcases hx with (((h | h) | h) | h) | h
      · exact .inl h
      · exact .inr (.inl h)
      · exact .inr (.inr (.inl h))
      · exact .inr (.inr (.inr (.inl h)))
      · exact .inr (.inr (.inr (.inr ((ep_iff q4 x).1 h))))
    obtain ⟨o', rfl, h⟩ := hr
    refine tot_some ⟨o', rfl, gd_iff h fun x => ?_⟩
    refine (or_congr_right (ep_iff q4 x)).trans ?_
    unfold WC
    simp only [or_assoc]
  obtain ⟨o4, rfl, ho4⟩ := hs
  dsimp only [unc2, stO]
  exact tot_chk (by omega) (by omega) (tot_some ⟨o4, rfl, ho4⟩)
/- ---- the map of departures ---- -/
def DepOk (T : List ApiTrain) (all : List GuideRide) (D : List (Int × List GuideRide)) : Prop := (∀ e ∈ D, ∀ r ∈ e.2, (on T r).Dep = e.1 ∧ r ∈ all) ∧ ∀ r ∈ all, ∃ e ∈ D, e.1 = (on T r).Dep ∧ r ∈ e.2
theorem deps_tot {all : List GuideRide} (ha : ∀ r ∈ all, RideOk d.Trains r) (hl : all.length ≤ 768) : Tot (forL (mGuideNetPoints_L26195 (⟨d, m⟩ : GuideNet)) all []) (fun r => ∃ D, r = .inl D ∧ DepOk d.Trains all D) := by
  refine tot_imp (tot_forL (fun r D => (D.map (·.1)).Nodup ∧ (∀ e ∈ D, (∀ r ∈ e.2, (on d.Trains r).Dep = e.1 ∧ r ∈ all) ∧ e.2.length + r.length ≤ all.length) ∧ r.length ≤ all.length ∧ ∀ x ∈ all, x ∈ r ∨ ∃ e ∈ D, e.1 = (on d.Trains x).Dep ∧ x ∈ e.2) (fun _ => False) ⟨by simp, fun e he => (by cases he), Nat.le_refl _, fun x hx => .inl hx⟩ fun x r D hx ⟨h1, h2, h3, h4⟩ => ?_) fun r hr => ?_
  · unfold mGuideNetPoints_L26195
    refine tot_eq (on_eq (n := ⟨d, m⟩) (ha x hx)) ?_
    dsimp only [unc4]
    simp only [List.length_cons] at h2 h3
    cases hg : mget D (on d.Trains x).Dep with
    | none =>
      have e1 : mgetD D (on d.Trains x).Dep [] = [] := by unfold mgetD; rw [hg]; rfl
      rw [e1]
      obtain ⟨p1, _, p3⟩ := mget_none_split D _ hg
      refine tot_room (by simp) (by simp) (tot_some ?_)
      rw [p1]
      refine ⟨?_, fun e he => ?_, by omega, fun y hy => ?_⟩
      · rw [List.map_append]
        refine List.nodup_append.2 ⟨h1, by simp, fun a ha' b hb e => ?_⟩
        obtain ⟨q, hq, rfl⟩ := List.mem_map.1 ha'
        simp at hb
        exact p3 q hq (e.trans hb)
      · rcases List.mem_append.1 he with he | he
        · have := h2 e he
          exact ⟨this.1, by omega⟩
        · rw [List.mem_singleton] at he
          subst he
          refine ⟨fun q hq => ?_, by simp; omega⟩
          simp at hq
          subst hq
          exact ⟨rfl, hx⟩
      · rcases h4 y hy with h5 | ⟨e, h5, h6⟩
        · rcases List.mem_cons.1 h5 with rfl | h5
          · exact .inr ⟨_, List.mem_append_right _ (List.mem_singleton.2 rfl), rfl, by simp⟩
          · exact .inl h5
        · exact .inr ⟨e, List.mem_append_left _ h5, h6⟩
    | some v =>
      have e1 : mgetD D (on d.Trains x).Dep [] = v := by unfold mgetD; rw [hg]; rfl
      rw [e1]
      obtain ⟨l1, l2, p1, p2, _, p4, p5⟩ := mget_split D _ v h1 hg
      have h5 := h2 _ (p1 ▸ List.mem_append_right _ (List.mem_cons_self ..))
      dsimp only at h5
      refine tot_room (by omega) (by omega) (tot_some ?_)
      rw [p2]
      refine ⟨?_, fun e he => ?_, by omega, fun y hy => ?_⟩
      · rw [p1] at h1
        simpa using h1
      · rcases List.mem_append.1 he with he | he
        · have := h2 e (p1 ▸ List.mem_append_left _ he)
          exact ⟨this.1, by omega⟩
        · rcases List.mem_cons.1 he with rfl | he
          · refine ⟨fun q hq => ?_, by simp; omega⟩
            rcases List.mem_append.1 hq with hq | hq
            · exact h5.1 q hq
            · rw [List.mem_singleton.1 hq]; exact ⟨rfl, hx⟩
          · have := h2 e (p1 ▸ List.mem_append_right _ (List.mem_cons_of_mem _ he))
            exact ⟨this.1, by omega⟩
      · rcases h4 y hy with h6 | ⟨e, h6, h7, h8⟩
        · rcases List.mem_cons.1 h6 with rfl | h6
          · exact .inr ⟨_, List.mem_append_right _ (List.mem_cons_self ..), rfl, List.mem_append_right _ (List.mem_singleton.2 rfl)⟩
          · exact .inl h6
        · rw [p1] at h6
          rcases List.mem_append.1 h6 with h6 | h6
          · exact .inr ⟨e, List.mem_append_left _ h6, h7, h8⟩
          · rcases List.mem_cons.1 h6 with rfl | h6
            · exact .inr ⟨_, List.mem_append_right _ (List.mem_cons_self ..), h7, List.mem_append_left _ h8⟩
            · exact .inr ⟨e, List.mem_append_right _ (List.mem_cons_of_mem _ h6), h7, h8⟩
  · cases r with
    | inr _ => exact hr.elim
    | inl D =>
      obtain ⟨h1, h2, _, h4⟩ := hr
      exact ⟨D, rfl, fun e he => (h2 e he).1, fun x hx => (h4 x hx).elim (fun h => (by cases h)) id⟩
/- ---- the points ---- -/
/-- A chain of rides from a station to another one, and its point. -/
structure Way (T : List ApiTrain) (m from_ to_ : Int) (x : GuidePoint) (l : List GuideRide) : Prop where
  chain : Chain T m l
  len : 1 ≤ l.length ∧ l.length ≤ 4
  first : ∀ r, l[0]? = some r → (on T r).Station = from_ ∧ (on T r).Dep = x.Dep
  last : ∀ r, l[l.length - 1]? = some r → (off T r).Station = to_ ∧ (off T r).Arr = x.Arr
  rides : x.Rides = (l.length : Int)
def PT (T : List ApiTrain) (m from_ to_ : Int) (x : GuidePoint) : Prop := ∃ l, Way T m from_ to_ x l
theorem wr_way {from_ to_ : Int} {c : Int × List GuideRide} (hc : ∀ r ∈ c.2, (on d.Trains r).Dep = c.1 ∧ (on d.Trains r).Station = from_) {k : Nat} (hk : 1 ≤ k) (hk2 : k ≤ 4) {x : GuidePoint} (h : WR d.Trains m c.2 to_ c.1 k x) : ∃ l, Way d.Trains m from_ to_ x l := by
  obtain ⟨l, b, ⟨h1, h2, ⟨r, h3, h4⟩, h5⟩, h6, rfl⟩ := h
  refine ⟨l, h1, by omega, fun q hq => ?_, fun q hq => ?_, by show (k : Int) = _; omega⟩
  · rw [h3] at hq
    injection hq with hq
    subst hq
    exact ⟨(hc r h4).2, (hc r h4).1⟩
  · rw [h2, h5] at hq
    injection hq with hq
    subst hq
    exact ⟨h6, rfl⟩
theorem way_wc {from_ to_ : Int} {x : GuidePoint} {l : List GuideRide} (h : Way d.Trains m from_ to_ x l) {c : Int × List GuideRide} {r : GuideRide} (hr : l[0]? = some r) (h1 : c.1 = (on d.Trains r).Dep) (h2 : r ∈ c.2) : WC d.Trains m to_ c x := by
  have hl := h.len
  obtain ⟨b, hb⟩ : ∃ b, l[l.length - 1]? = some b := ⟨_, List.getElem?_eq_getElem (by omega)⟩
  have key : WR d.Trains m c.2 to_ c.1 l.length x := by
    refine ⟨l, b, ⟨h.chain, rfl, ⟨r, hr, h2⟩, hb⟩, (h.last b hb).1, ?_⟩
    have e1 := (h.first r hr).2
    have e2 := (h.last b hb).2
    have e3 := h.rides
    cases x
    simp only at e1 e2 e3
    simp only [GuidePoint.mk.injEq]
    exact ⟨by omega, e2.symm, e3⟩
  unfold WC
  rcases (by omega : l.length = 1 ∨ l.length = 2 ∨ l.length = 3 ∨ l.length = 4) with e | e | e | e <;> rw [e] at key
  · exact .inl key
  · exact .inr (.inl key)
  · exact .inr (.inr (.inl key))
  · exact .inr (.inr (.inr key))
/-- All that may be points. -/
def allSt (T : List ApiTrain) : List ApiStop := T.flatMap fun t => t.Stops
def allPt (T : List ApiTrain) : Pts := (allSt T).flatMap fun s => (allSt T).flatMap fun t => [⟨s.Dep, t.Arr, 1⟩, ⟨s.Dep, t.Arr, 2⟩, ⟨s.Dep, t.Arr, 3⟩, ⟨s.Dep, t.Arr, 4⟩]
theorem allPt_len (hd : GDay d) : (allPt d.Trains).length ≤ 60000 := by
  have h1 : (allSt d.Trains).length ≤ d.Trains.length * 8 := flat_le fun x hx => (hd.2.1 x hx).2.2.1
  have h2 := hd.1
  have h3 : (allPt d.Trains).length ≤ (allSt d.Trains).length * ((allSt d.Trains).length * 4) := flat_le fun x hx => flat_le fun y hy => by simp
  have h4 : (allSt d.Trains).length * ((allSt d.Trains).length * 4) ≤ 96 * (96 * 4) := Nat.mul_le_mul (by omega) (Nat.mul_le_mul (by omega) (by omega))
  omega
theorem stp_all {T : List ApiTrain} {t k : Int} (h : 0 ≤ t ∧ t < (T.length : Int)) (h0 : 0 ≤ k) (h1 : k < ((tr T t).Stops.length : Int)) : stp T t k ∈ allSt T :=
  List.mem_flatMap.2 ⟨tr T t, tr_mem h.1 h.2, List.mem_of_getElem? (stp_at h0 h1)⟩
theorem pt_all {from_ to_ : Int} {x : GuidePoint} (h : PT d.Trains m from_ to_ x) : x ∈ allPt d.Trains := by
  obtain ⟨l, h⟩ := h
  have hl := h.len
  obtain ⟨b, hb⟩ : ∃ b, l[l.length - 1]? = some b := ⟨_, List.getElem?_eq_getElem (by omega)⟩
  obtain ⟨r, hr⟩ : ∃ r, l[0]? = some r := ⟨_, List.getElem?_eq_getElem (by omega)⟩
  have kb := h.chain.1 b (List.mem_of_getElem? hb)
  have kr := h.chain.1 r (List.mem_of_getElem? hr)
  refine List.mem_flatMap.2 ⟨on d.Trains r, stp_all kr.1 kr.2.1 (by have := kr.2; omega), List.mem_flatMap.2 ⟨off d.Trains b, stp_all kb.1 (by have := kb.2; omega) kb.2.2.2, ?_⟩⟩
  have e1 := (h.first r hr).2
  have e2 := (h.last b hb).2
  have e3 := h.rides
  cases x
  simp only at e1 e2 e3
  rcases (by omega : l.length = 1 ∨ l.length = 2 ∨ l.length = 3 ∨ l.length = 4) with e | e | e | e <;> simp [e1, e2, e3, e]
theorem points_tot (hd : GDay d) (hm : 0 ≤ m ∧ m ≤ 28800) (from_ to_ : Int) : Tot (mGuideNetPoints (⟨d, m⟩ : GuideNet) from_ to_) (Gd (PT d.Trains m from_ to_)) := by
  unfold mGuideNetPoints
  have hall : ∀ r, r ∈ ridesL from_ 0 (-1) d.Trains 0 ↔ RideOk d.Trains r ∧ (on d.Trains r).Station = from_ := fun r => by
    rw [mem_rides]
    exact ⟨fun h => ⟨h.1, h.2.1⟩, fun h => ⟨h.1, h.2, (ride_in hd h.1).on_.2.2.1.1, fun e => by have := h.1.1.1; omega⟩⟩
  refine tot_eq (x := ridesL from_ 0 (-1) d.Trains 0) rfl ?_
  refine tot_bind (deps_tot (all := ridesL from_ 0 (-1) d.Trains 0) (fun r hr => ((hall r).1 hr).1) (rides_len hd)) fun r hr => ?_
  obtain ⟨D, rfl, hD⟩ := hr
  show Tot (Option.bind (Option.bind (ordM (fun p => forL (mGuideNetPoints_L39375 (⟨d, m⟩ : GuideNet) to_) p (stO [])) D) _) _) _
  have hce : ∀ c ∈ D, ∀ r ∈ c.2, (on d.Trains r).Dep = c.1 ∧ (on d.Trains r).Station = from_ := fun c hc r hr => ⟨(hD.1 c hc r hr).1, ((hall r).1 (hD.1 c hc r hr).2).2⟩
  have hwc : ∀ c ∈ D, ∀ x, WC d.Trains m to_ c x → PT d.Trains m from_ to_ x := fun c hc x h => by
    rcases h with h | h | h | h
    · exact wr_way (hce c hc) (by omega) (by omega) h
    · exact wr_way (hce c hc) (by omega) (by omega) h
    · exact wr_way (hce c hc) (by omega) (by omega) h
    · exact wr_way (hce c hc) (by omega) (by omega) h
  refine tot_bind (R := Gd (PT d.Trains m from_ to_)) ?_ fun o ho => ?_
  · refine tot_bind (R := fun r => ∃ o, r = .inl (stO o) ∧ Gd (PT d.Trains m from_ to_) o) (ordM_tot rp_uniq fun l hl => ?_) fun r hr => ?_
    · refine tot_imp (tot_forL (fun r s => ∃ T o, s = stO o ∧ Gd T o ∧ (∀ x, T x → PT d.Trains m from_ to_ x) ∧ ∀ x, (T x ∨ ∃ c ∈ r, WC d.Trains m to_ c x) ↔ ∃ c ∈ D, WC d.Trains m to_ c x) (fun _ => False) ⟨fun _ => False, [], rfl, ⟨List.Pairwise.nil, List.nodup_nil, fun x => by simp⟩, fun x h => h.elim, fun x => ?_⟩ fun c r s hc ⟨T, o, h1, h2, h3, h4⟩ => ?_) fun r hr => ?_
      · refine ⟨fun h => h.elim (fun h => h.elim) fun ⟨c, h1, h2⟩ => ⟨c, hl.mem_iff.1 h1, h2⟩, fun ⟨c, h1, h2⟩ => .inr ⟨c, hl.mem_iff.2 h1, h2⟩⟩
      · subst h1
        have hc := hl.mem_iff.1 hc
        refine tot_imp (dep_tot hd hm (fun r hr => ((hall r).1 (hD.1 c hc r hr).2).1) (allPt_len hd) (fun x hx => pt_all (hx.elim (h3 x) (hwc c hc x))) h2) fun r' hr' => ?_
        obtain ⟨o', rfl, h5⟩ := hr'
        refine ⟨_, o', rfl, h5, fun x hx => hx.elim (h3 x) (hwc c hc x), fun x => ?_⟩
        rw [← h4 x]
        constructor
        · rintro ((h | h) | ⟨e, h, h'⟩)
          · exact .inl h
          · exact .inr ⟨_, List.mem_cons_self .., h⟩
          · exact .inr ⟨e, List.mem_cons_of_mem _ h, h'⟩
        · rintro (h | ⟨e, h, h'⟩)
          · exact .inl (.inl h)
          · rcases List.mem_cons.1 h with rfl | h
            · exact .inl (.inr h')
            · exact .inr ⟨e, h, h'⟩
      · cases r with
        | inr _ => exact hr.elim
        | inl s =>
          obtain ⟨T, o, rfl, h2, h3, h4⟩ := hr
          refine ⟨o, rfl, gd_iff h2 fun x => ⟨h3 x, fun ⟨l, hw⟩ => ?_⟩⟩
          have hlen := hw.len
          obtain ⟨r, hr⟩ : ∃ r, l[0]? = some r := ⟨_, List.getElem?_eq_getElem (by omega)⟩
          obtain ⟨c, hc, h5, h6⟩ := hD.2 r ((hall r).2 ⟨hw.chain.1 r (List.mem_of_getElem? hr), (hw.first r hr).1⟩)
          exact ((h4 x).2 ⟨c, hc, way_wc hw hr h5 h6⟩).elim id fun ⟨c, h, _⟩ => (by cases h)
    · obtain ⟨o, rfl, h⟩ := hr
      exact tot_some h
  · refine ordM_tot (fun s t h1 h2 => gd_uniq h1 h2) fun l hl => ?_
    have hlen : o.length ≤ 60000 := Nat.le_trans (ho.nd.length_le_of_subset fun x hx => pt_all ((ho.mem x).1 hx)) (allPt_len hd)
    refine tot_bind (sort_tot (by rw [hl.length_eq]; exact hlen)) fun l' hl' => tot_some ?_
    rw [gd_can ho (hl'.trans hl)]
    exact ho
end
/- ==== GN ==== -/
/- ---- what is left when some are taken away ---- -/
section
variable (bad : GuidePoint → Bool)
noncomputable def gIdxL (c : List GuidePoint) (a : Nat) : (Unit) → Option ((Unit) ⊕ (Int)) := fun _ =>
 (idx c (a : Int)).bind fun e =>
 (some (bad e)).bind fun f =>
 if f = true then (
 some (.inr (a : Int)))
 else (
 some (.inl ()))
noncomputable def gIdx (a : List GuidePoint) : Option (Int) :=
 (forM (gIdxL bad a) a.length 0 ()).bind fun t => Sum.elim (fun _ =>
 some (-1)) (fun q => some q) t
noncomputable def gDelL : (Int × Int × (List GuidePoint)) → Option ((Int × Int × (List GuidePoint)) ⊕ (Int × (List GuidePoint))) := unc3 fun a d c =>
 if d < (c.length : Int) then (
 ((idx c d).bind fun e =>
 (some (bad e)).bind fun g =>
 if g = true then (
 some (a, c))
 else (
 (idx c a).bind fun _ =>
 (chk (a + 1)).bind fun _ =>
 some (a + 1, put c a e))).bind (unc2 fun h i =>
 (chk (d + 1)).bind fun _ =>
 some (.inl (h, d + 1, i))))
 else (
 some (.inr (a, c)))
noncomputable def gDel (c : List GuidePoint) : Option ((List GuidePoint)) :=
 (gIdx bad c).bind fun a =>
 if a = (-1) then (
 some c)
 else (
 ((chk (a + 1)).bind fun _ =>
 loopM (gDelL bad) (a, a + 1, c)).bind (unc2 fun d e =>
 (cutS e d (e.length : Int)).bind fun _ =>
 (cutS (clrM e d ((⟨0, 0, 0⟩ : GuidePoint) : GuidePoint)) 0 d).bind fun g =>
 some g))
theorem gIdx_tot {l : Pts} : Tot (gIdx bad l) (fun r => (r = -1 ∧ ∀ x ∈ l, bad x = false) ∨ ∃ k : Nat, r = (k : Int) ∧ (∃ x, l[k]? = some x ∧ bad x = true) ∧ ∀ x ∈ l.take k, bad x = false) := by
  unfold gIdx
  refine tot_sum (I := fun _ => ∀ x ∈ l, bad x = false) (R := fun r => ∃ k : Nat, r = (k : Int) ∧ (∃ x, l[k]? = some x ∧ bad x = true) ∧ ∀ x ∈ l.take k, bad x = false) ?_ (fun _ h => tot_some (.inl ⟨rfl, h⟩)) fun r h => tot_some (.inr h)
  refine tot_imp (tot_forM (fun k _ => ∀ x ∈ l.take k, bad x = false) (fun r => ∃ k : Nat, r = (k : Int) ∧ (∃ x, l[k]? = some x ∧ bad x = true) ∧ ∀ x ∈ l.take k, bad x = false) (by simp) fun k _ _ hk hi => ?_) fun o ho => ?_
  · have hk : k < l.length := by omega
    unfold gIdxL
    refine tot_idn hk fun x hx => ?_
    rw [Option.bind_some]
    refine tot_ite (fun h => tot_some ⟨k, rfl, ⟨x, hx, h⟩, hi⟩) fun h => tot_some (show ∀ y ∈ l.take (k + 1), bad y = false from fun y hy => ?_)
    rw [List.take_add_one, hx] at hy
    rcases List.mem_append.1 hy with hy | hy
    · exact hi y hy
    · simp at hy
      rw [hy]; exact bt h
  · cases o with
    | inl _ =>
      have ho : ∀ x ∈ l.take (0 + l.length), bad x = false := ho
      rw [Nat.zero_add, List.take_length] at ho
      exact ho
    | inr _ => exact ho
theorem gDel_tot {l : Pts} (hl : l.length ≤ 60000) : Tot (gDel bad l) (fun r => r = l.filter fun x => !bad x) := by
  unfold gDel
  refine tot_bind (gIdx_tot bad) fun a ha => ?_
  rcases ha with ⟨rfl, h⟩ | ⟨k, rfl, ⟨xk, hxk, hbad⟩, h⟩
  · rw [if_pos rfl]
    refine tot_some ?_
    rw [List.filter_eq_self.2]
    intro x hx
    rw [h x hx]; rfl
  · have hk : k < l.length := by obtain ⟨q, _⟩ := List.getElem?_eq_some_iff.1 hxk; exact q
    rw [if_neg (by omega)]
    refine tot_bind (R := fun s => (0 ≤ s.1 ∧ s.1 ≤ (s.2.length : Int)) ∧ s.2.take s.1.toNat = l.filter fun x => !bad x) ?_ fun ⟨i, l'⟩ ⟨h1, h2⟩ => ?_
    · refine tot_chk (by omega) (by omega) ?_
      refine tot_loopM (fun s => (0 ≤ s.1 ∧ s.1 < s.2.1 ∧ s.2.1 ≤ (l.length : Int)) ∧ s.2.2.length = l.length ∧ (∀ q, s.2.1.toNat ≤ q → s.2.2[q]? = l[q]?) ∧ s.2.2.take s.1.toNat = (l.take s.2.1.toNat).filter fun x => !bad x) (fun s => ((l.length : Int) - s.2.1).toNat) ⟨⟨by show (0 : Int) ≤ k; omega, by show (k : Int) < k + 1; omega, by show (k : Int) + 1 ≤ l.length; omega⟩, rfl, fun _ _ => rfl, ?_⟩ fun ⟨i, j, l'⟩ ⟨h1, h2, h3, h4⟩ => ?_
      · show l.take ((k : Int)).toNat = (l.take ((k : Int) + 1).toNat).filter _
        rw [show ((k : Int)).toNat = k by omega, show ((k : Int) + 1).toNat = k + 1 by omega, List.take_add_one, hxk, List.filter_append, List.filter_eq_self.2 (fun x hx => by rw [h x hx]; rfl)]
        simp [hbad]
      · dsimp only at h1 h2 h3 h4
        unfold gDelL
        dsimp only [unc3]
        refine tot_ite (fun hj => ?_) fun hj => tot_some ⟨?_, ?_⟩
        · have hjl : l'[j.toNat]? = l[j.toNat]? := h3 _ (Nat.le_refl _)
          have htk : l.take (j + 1).toNat = l.take j.toNat ++ [l[j.toNat]'(by omega)] := by
            rw [show (j + 1).toNat = j.toNat + 1 by omega, List.take_add_one, List.getElem?_eq_getElem (by omega)]
            rfl
          refine tot_bind (R := fun s => (0 ≤ s.1 ∧ s.1 < j + 1) ∧ s.2.length = l.length ∧ (∀ q, (j + 1).toNat ≤ q → s.2[q]? = l[q]?) ∧ s.2.take s.1.toNat = (l.take (j + 1).toNat).filter fun x => !bad x) (tot_idx (by omega) (by omega) fun x hx => ?_) fun ⟨i, l'⟩ ⟨h5, h6, h7, h8⟩ => ?_
          · have hxe : l[j.toNat]'(by omega) = x := by
              rw [hjl, List.getElem?_eq_getElem (by omega)] at hx
              exact Option.some.inj hx
            rw [hxe] at htk
            rw [Option.bind_some]
            refine tot_ite (fun hb => tot_some ⟨by show 0 ≤ i ∧ i < j + 1; omega, h2, fun q hq => h3 q (by omega), ?_⟩) fun hb => tot_idx (by omega) (by omega) fun _ _ => tot_chk (by omega) (by omega) (tot_some ⟨by show 0 ≤ i + 1 ∧ i + 1 < j + 1; omega, ?_, fun q hq => ?_, ?_⟩)
            · show l'.take i.toNat = _
              rw [h4, htk, List.filter_append]
              simp [hb]
            · rw [put_length]; exact h2
            · show (l'.set i.toNat x)[q]? = _
              rw [List.getElem?_set_ne (by omega)]
              exact h3 q (by omega)
            · show (l'.set i.toNat x).take (i + 1).toNat = _
              rw [show (i + 1).toNat = i.toNat + 1 by omega, List.take_add_one, List.getElem?_set_self (by omega), List.take_set_of_le (Nat.le_refl _), h4, htk, List.filter_append]
              simp [bt hb]
          · dsimp only at h5 h6 h7 h8
            dsimp only [unc2]
            refine tot_chk (by omega) (by omega) (tot_some ⟨⟨⟨h5.1, h5.2, ?_⟩, h6, h7, h8⟩, ?_⟩)
            · show j + 1 ≤ (l.length : Int); omega
            · show ((l.length : Int) - (j + 1)).toNat < ((l.length : Int) - j).toNat; omega
        · show 0 ≤ i ∧ i ≤ (l'.length : Int); omega
        · show l'.take i.toNat = _
          rw [h4, show j.toNat = l.length by omega, List.take_length]
    · dsimp only at h1 h2
      dsimp only [unc2]
      obtain ⟨n, rfl⟩ : ∃ n : Nat, i = (n : Int) := ⟨i.toNat, by omega⟩
      rw [cutS_ok (by omega) (by omega), Option.bind_some]
      have hc : (clrM l' (n : Int) ((⟨0, 0, 0⟩ : GuidePoint) : GuidePoint)).take n = l'.take n := by
        unfold clrM
        rw [Int.toNat_natCast, List.take_append_of_le_length (by rw [List.length_take]; omega), List.take_take, Nat.min_self]
      have hlen : n ≤ (clrM l' (n : Int) ((⟨0, 0, 0⟩ : GuidePoint) : GuidePoint)).length := by
        unfold clrM
        simp only [List.length_append, List.length_take, List.length_replicate, Int.toNat_natCast]
        omega
      have h0 := cutS_ok (l := clrM l' (n : Int) ((⟨0, 0, 0⟩ : GuidePoint) : GuidePoint)) (a := 0) (b := n) (by omega) hlen
      rw [show ((0 : Nat) : Int) = 0 from rfl] at h0
      rw [h0, Option.bind_some, List.drop_zero, hc]
      exact tot_some h2
end
/- ---- the least ---- -/
section
variable (C : GuidePoint → GuidePoint → Option Int)
noncomputable def gMinL (c : List GuidePoint) : (Int × Int × Int × Int) → Option ((Int × Int × Int × Int) ⊕ (Int × Int × Int)) := unc4 fun a d e f =>
 if a < (c.length : Int) then (
 ((idx c a).bind fun h =>
 (C h (⟨d, e, f⟩ : GuidePoint)).bind fun i =>
 if i < 0 then (
 (idx c a).bind fun g =>
 some (g.Dep, g.Arr, g.Rides))
 else (
 some (d, e, f))).bind (unc3 fun j k l =>
 (chk (a + 1)).bind fun _ =>
 some (.inl (a + 1, j, k, l))))
 else (
 some (.inr (d, e, f)))
noncomputable def gMin (a : List GuidePoint) : Option (Int × Int × Int) :=
 if (a.length : Int) < 1 then (
 none)
 else (
 (idx a 0).bind fun c =>
 (loopM (gMinL C a) (1, c.Dep, c.Arr, c.Rides)).bind (unc3 fun d e f =>
 some (d, e, f)))
theorem gMin_tot {k : GuidePoint → List Int} (hC : ∀ a b, Tot (C a b) (fun z => z < 0 ↔ ¬ lexLe (k b) (k a) = true)) {l : Pts} (hl : l.length ≤ 60000) (h1 : 1 ≤ l.length) : Tot (gMin C l) (fun r => (⟨r.1, r.2.1, r.2.2⟩ : GuidePoint) ∈ l ∧ ∀ x ∈ l, lexLe (k ⟨r.1, r.2.1, r.2.2⟩) (k x) = true) := by
  unfold gMin
  rw [if_neg (by omega)]
  refine tot_idx (by omega) (by omega) fun c hc => ?_
  have hc0 : l[0]? = some c := hc
  refine tot_bind (R := fun (r : Int × Int × Int) => (⟨r.1, r.2.1, r.2.2⟩ : GuidePoint) ∈ l ∧ ∀ x ∈ l, lexLe (k ⟨r.1, r.2.1, r.2.2⟩) (k x) = true) ?_ fun ⟨d, e, f⟩ h => tot_some h
  refine tot_loopM (fun (s : Int × Int × Int × Int) => (1 ≤ s.1 ∧ s.1 ≤ (l.length : Int)) ∧ (⟨s.2.1, s.2.2.1, s.2.2.2⟩ : GuidePoint) ∈ l ∧ ∀ x ∈ l.take s.1.toNat, lexLe (k ⟨s.2.1, s.2.2.1, s.2.2.2⟩) (k x) = true) (fun s => ((l.length : Int) - s.1).toNat) ⟨by show (1 : Int) ≤ 1 ∧ (1 : Int) ≤ l.length; omega, List.mem_of_getElem? hc0, ?_⟩ fun ⟨a, d, e, f⟩ ⟨h2, h3, h4⟩ => ?_
  · show ∀ x ∈ l.take 1, lexLe (k c) (k x) = true
    intro x hx
    rw [show (1 : Nat) = 0 + 1 from rfl, List.take_add_one, hc0] at hx
    simp at hx
    rw [hx]
    exact lex_refl _
  · dsimp only at h2 h3 h4
    unfold gMinL
    dsimp only [unc4]
    refine tot_ite (fun ha => ?_) fun ha => tot_some ⟨h3, ?_⟩
    · refine tot_bind (R := fun (r : Int × Int × Int) => (⟨r.1, r.2.1, r.2.2⟩ : GuidePoint) ∈ l ∧ ∀ x ∈ l.take (a + 1).toNat, lexLe (k ⟨r.1, r.2.1, r.2.2⟩) (k x) = true) (tot_idx (by omega) ha fun y hy => ?_) fun ⟨d, e, f⟩ ⟨h5, h6⟩ => ?_
      · have hmem : ∀ x, x ∈ l.take (a + 1).toNat → x ∈ l.take a.toNat ∨ x = y := fun x hx => by
          rw [show (a + 1).toNat = a.toNat + 1 by omega, List.take_add_one, hy] at hx
          rcases List.mem_append.1 hx with hx | hx
          · exact .inl hx
          · simp at hx; exact .inr hx
        refine tot_bind (hC y ⟨d, e, f⟩) fun z hz => tot_ite (fun hneg => tot_idx (by omega) ha fun g hg => ?_) fun hneg => tot_some ⟨h3, fun x hx => ?_⟩
        · rw [hy] at hg
          injection hg with hg
          subst hg
          refine tot_some ⟨List.mem_of_getElem? hy, fun x hx => ?_⟩
          show lexLe (k y) (k x) = true
          rcases hmem x hx with h | rfl
          · exact lex_trans _ _ _ ((lex_total _ _).resolve_right (hz.1 hneg)) (h4 x h)
          · exact lex_refl _
        · rcases hmem x hx with h | rfl
          · exact h4 x h
          · exact Decidable.byContradiction fun h => hneg (hz.2 h)
      · dsimp only at h5 h6
        dsimp only [unc3]
        refine tot_chk (by omega) (by omega) (tot_some ⟨⟨?_, h5, h6⟩, ?_⟩)
        · show 1 ≤ a + 1 ∧ a + 1 ≤ (l.length : Int); omega
        · show ((l.length : Int) - (a + 1)).toNat < ((l.length : Int) - a).toNat; omega
    · have e1 : l.take a.toNat = l := by rw [show a.toNat = l.length by omega, List.take_length]
      rw [e1] at h4
      exact h4
end
theorem sg3 (a x : Int) : ∃ p : Int, (if a < x then (-1 : Int) else if x < a then 1 else 0) = p ∧ ((a < x ∧ p = -1) ∨ (a = x ∧ p = 0) ∨ (x < a ∧ p = 1)) := by
  by_cases h : a < x
  · exact ⟨-1, by rw [if_pos h], .inl ⟨h, rfl⟩⟩
  · by_cases h2 : x < a
    · exact ⟨1, by rw [if_neg h, if_pos h2], .inr (.inr ⟨h2, rfl⟩)⟩
    · exact ⟨0, by rw [if_neg h, if_neg h2], .inr (.inl ⟨by omega, rfl⟩)⟩
theorem or3v (p q r : Int) : ∃ v : Int, (if p ≠ 0 then p else if q ≠ 0 then q else r) = v ∧ ((p ≠ 0 ∧ v = p) ∨ (p = 0 ∧ q ≠ 0 ∧ v = q) ∨ (p = 0 ∧ q = 0 ∧ v = r)) := by
  by_cases h : p ≠ 0
  · exact ⟨p, by rw [if_pos h], .inl ⟨h, rfl⟩⟩
  · by_cases h2 : q ≠ 0
    · exact ⟨q, by rw [if_neg h, if_pos h2], .inr (.inl ⟨by omega, h2, rfl⟩)⟩
    · exact ⟨r, by rw [if_neg h, if_neg h2], .inr (.inr ⟨by omega, by omega, rfl⟩)⟩
/-- Three comparisons, the first one that tells first. -/
theorem cmp3 (a b c x y z : Int) : Tot ((mCmpCompare a x).bind fun p => (mCmpCompare b y).bind fun q => (mCmpCompare c z).bind fun r => (mCmpOr [p, q, r]).bind fun g => some g) (fun v => v < 0 ↔ ¬ lexLe [x, y, z] [a, b, c] = true) := by
  obtain ⟨p, e1, h1⟩ := sg3 a x
  obtain ⟨q, e2, h2⟩ := sg3 b y
  obtain ⟨r, e3, h3⟩ := sg3 c z
  obtain ⟨v, e4, h4⟩ := or3v p q r
  rw [compare_eq, Option.bind_some, compare_eq, Option.bind_some, compare_eq, Option.bind_some, e1, e2, e3, or3, Option.bind_some, e4]
  refine tot_some ?_
  rw [lex_cons, lex_cons, lex_cons]
  have e : (lexLe [] [] = true) = True := eq_true rfl
  rw [e, and_true]
  clear e1 e2 e3 e4 e
  constructor
  · intro hv hn
    omega
  · intro hn
    omega

/- ---- a journey for a point ---- -/
section
variable {d : ApiDay} {m : Int}
/-- How a chain goes on behind a ride. -/
def Ext (T : List ApiTrain) (m : Int) : GuideRide → List GuideRide → Prop
  | _, [] => True
  | r, b :: q => RideOk T b ∧ Link T m r b ∧ Ext T m b q
def lst : GuideRide → List GuideRide → GuideRide
  | r, [] => r
  | _, b :: q => lst b q
theorem lst_get : ∀ (r : GuideRide) (q : List GuideRide), (r :: q)[(r :: q).length - 1]? = some (lst r q)
  | r, [] => rfl
  | r, b :: q => lst_get b q
theorem chain_tail {T : List ApiTrain} {r : GuideRide} {l : List GuideRide} (h : Chain T m (r :: l)) : Chain T m l := ⟨fun x hx => h.1 x (List.mem_cons_of_mem _ hx), fun i a b ha hb => h.2 (i + 1) a b ha hb⟩
theorem chain_ext {T : List ApiTrain} : ∀ {r : GuideRide} {q : List GuideRide}, Chain T m (r :: q) → Ext T m r q
  | r, [], _ => trivial
  | r, b :: q, h => ⟨h.1 b (by simp), h.2 0 r b rfl rfl, chain_ext (chain_tail h)⟩
theorem ext_chain {T : List ApiTrain} : ∀ {q way : List GuideRide} {r : GuideRide}, Chain T m way → way[way.length - 1]? = some r → Ext T m r q → Chain T m (way ++ q) ∧ (way ++ q)[(way ++ q).length - 1]? = some (lst r q)
  | [], way, r, h, hr, _ => by rw [List.append_nil]; exact ⟨h, hr⟩
  | b :: q, way, r, h, hr, ⟨h1, h2, h3⟩ => by
    have h4 := ext_chain (q := q) (way := way ++ [b]) (r := b) (chain_snoc h hr h1 h2) (by rw [List.getElem?_append_right (by simp)]; simp) h3
    rw [List.append_assoc] at h4
    exact h4
theorem ext_rise (hd : GDay d) (hm : 0 ≤ m) : ∀ {q : List GuideRide} {r : GuideRide}, Ext d.Trains m r q → (off d.Trains r).Arr ≤ (off d.Trains (lst r q)).Arr
  | [], r, _ => Int.le_refl _
  | b :: q, r, ⟨h1, h2, h3⟩ => by
    have h4 := ext_rise hd hm h3
    have h5 := (ride_in hd h1).run
    have h6 := h2.2.2
    show _ ≤ (off d.Trains (lst b q)).Arr
    omega
theorem ext_plc {T : List ApiTrain} {r r' : GuideRide} (h : plc r = plc r') {q : List GuideRide} (hq : q ≠ []) : Ext T m r q → Ext T m r' q ∧ lst r q = lst r' q := by
  cases q with
  | nil => exact absurd rfl hq
  | cons b q =>
    rintro ⟨h1, h2, h3⟩
    have e1 : r.Train = r'.Train := congrArg GuidePlace.train h
    have e2 : r.Off = r'.Off := congrArg GuidePlace.off h
    have e3 : off T r = off T r' := by unfold off; rw [e1, e2]
    refine ⟨⟨h1, ?_, h3⟩, rfl⟩
    unfold Link at h2 ⊢
    rw [← e1, ← e3]
    exact h2
/-- One can go on from a ride, in so many rides, to the end that is wanted. -/
def Fin_ (T : List ApiTrain) (m to_ arr : Int) (r : GuideRide) (k : Nat) (q : List GuideRide) : Prop := q.length = k ∧ Ext T m r q ∧ (off T (lst r q)).Station = to_ ∧ (off T (lst r q)).Arr = arr
def DeadOk (T : List ApiTrain) (m to_ arr : Int) (D : List (List Int × Bool)) : Prop := ∀ (r : GuideRide) (k : Nat), 1 ≤ k → mgetD D [r.Train, r.Off, (k : Int)] false = true → ∀ q, ¬ Fin_ T m to_ arr r k q
theorem dead_put {T : List ApiTrain} {to_ arr : Int} {D : List (List Int × Bool)} (h : DeadOk T m to_ arr D) {r : GuideRide} {k : Nat} (hk : 1 ≤ k) (hr : ∀ q, ¬ Fin_ T m to_ arr r k q) : DeadOk T m to_ arr (mput D [r.Train, r.Off, (k : Int)] true) := fun r' k' hk' hg q hq => by
  rw [mgd_put] at hg
  split at hg
  · rename_i he
    simp only [List.cons.injEq, and_true] at he
    obtain ⟨e1, e2, e3⟩ := he
    have e3 : k = k' := by omega
    subst e3
    have hp : plc r' = plc r := by unfold plc; rw [e1, e2]
    have hne : q ≠ [] := fun e => by have := hq.1; rw [e] at this; simp at this; omega
    obtain ⟨h1, h2⟩ := ext_plc hp hne hq.2.1
    exact hr q ⟨hq.1, h1, by rw [← h2]; exact hq.2.2.1, by rw [← h2]; exact hq.2.2.2⟩
  · exact h r' k' hk' hg q hq
theorem clone_tot {l : List GuideRide} (h : l.length ≤ 1000) : mSlicesClone l = some l := by
  unfold mSlicesClone
  rw [room_ok (by omega) (by omega)]
  rfl
theorem grow_tos (hd : GDay d) (hm : 0 ≤ m ∧ m ≤ 28800) {to_ dep arr : Int} {K : Nat} (hK : K ≤ 4) : ∀ (N : Nat) (way : List GuideRide) (r : GuideRide) (D : List (List Int × Bool)), Chain d.Trains m way → way[way.length - 1]? = some r → 1 ≤ way.length → way.length ≤ K → DeadOk d.Trains m to_ arr D →
    Tos (N + way.length < 5) (mGuideNetLeastOf_1 N d.Trains d.Turns m dep arr (K : Int) to_ way D) (fun s => DeadOk d.Trains m to_ arr s.2 ∧ ((s.1 = [] ∧ ∀ q, ¬ Fin_ d.Trains m to_ arr r (K - way.length) q) ∨ ∃ q, s.1 = way ++ q ∧ Fin_ d.Trains m to_ arr r (K - way.length) q))
  | 0, way, r, D, _, _, _, _, _ => .inr ⟨by omega, rfl⟩
  | N + 1, way, r, D, hw, hr, h1, h2, hD => by
    have hro := hw.1 r (List.mem_of_getElem? hr)
    unfold mGuideNetLeastOf_1
    refine tos_chk (by omega) (by omega) ?_
    refine tos_eq (x := r) (by rw [show (way.length : Int) - 1 = ((way.length - 1 : Nat) : Int) by omega]; exact idx_nat hr) ?_
    refine tos_eq (off_eq (n := ⟨⟨d.Trains, d.Turns⟩, m⟩) hro) ?_
    dsimp only [unc4]
    refine tos_chk (by omega) (by omega) (tos_ite (fun h0 => ?_) fun h0 => ?_)
    · have hk : K - way.length = 0 := by omega
      rw [hk]
      refine tos_bt (R := fun b => b = decide ((off d.Trains r).Station = to_ ∧ (off d.Trains r).Arr = arr)) ?_ fun b hb => ?_
      · refine tot_ite (fun h => tot_some ?_) fun h => tot_some ?_
        · simp [h]
        · simp [h]
      subst hb
      refine tos_ite (fun h => tos_some ⟨hD, .inr ⟨[], by simp, rfl, trivial, of_decide_eq_true h⟩⟩) fun h => tos_some ⟨hD, .inl ⟨rfl, fun q hq => ?_⟩⟩
      obtain ⟨e1, _, e3⟩ := hq
      have e1 := List.length_eq_zero_iff.1 e1
      subst e1
      exact of_decide_eq_false (bt h) e3
    · have hk : (K : Int) - (way.length : Int) = ((K - way.length : Nat) : Int) := by omega
      rw [hk]
      refine tos_bt (R := fun b => b = true → ∀ q, ¬ Fin_ d.Trains m to_ arr r (K - way.length) q) ?_ fun b hb => tos_ite (fun h => tos_some ⟨hD, .inl ⟨rfl, hb h⟩⟩) fun _ => ?_
      · rw [Option.bind_some]
        refine tot_ite (fun h => tot_some fun _ => hD r _ (by omega) h) fun h => tot_some fun h q hq => ?_
        have h3 := of_decide_eq_true h
        have h4 := ext_rise hd hm.1 hq.2.1
        have h5 := hq.2.2.2
        omega
      refine tos_eq (behind_eq (d := ⟨d.Trains, d.Turns⟩) hd hm hro) ?_
      have hb : ∀ b, b ∈ bh d.Trains m r ↔ RideOk d.Trains b ∧ Link d.Trains m r b := fun b => mem_behind
      show Tos _ (Option.bind (forL _ (bh d.Trains m r) D) _) _
      refine tos_sum (I := fun D => DeadOk d.Trains m to_ arr D ∧ ∀ q, ¬ Fin_ d.Trains m to_ arr r (K - way.length) q) (R := fun s => DeadOk d.Trains m to_ arr s.2 ∧ ∃ q, s.1 = way ++ q ∧ Fin_ d.Trains m to_ arr r (K - way.length) q) ?_ (fun D ⟨h3, h4⟩ => tos_some ⟨dead_put h3 (by omega) h4, .inl ⟨rfl, h4⟩⟩) fun s h => tos_some ⟨h.1, .inr h.2⟩
      refine tos_imp (tos_forL (fun rest D => DeadOk d.Trains m to_ arr D ∧ ∀ b ∈ bh d.Trains m r, b ∈ rest ∨ ∀ q, ¬ Fin_ d.Trains m to_ arr b (K - way.length - 1) q) (fun s => DeadOk d.Trains m to_ arr s.2 ∧ ∃ q, s.1 = way ++ q ∧ Fin_ d.Trains m to_ arr r (K - way.length) q) ⟨hD, fun b hb => .inl hb⟩ fun b rest D hbm ⟨h3, h4⟩ => ?_) fun o ho => ?_
      · obtain ⟨b1, b2⟩ := (hb b).1 hbm
        unfold mGuideNetLeastOf_1_L704
        refine tos_bind (R := fun s => DeadOk d.Trains m to_ arr s.2 ∧ ((s.1 = [] ∧ ∀ q, ¬ Fin_ d.Trains m to_ arr b (K - (way ++ [b]).length) q) ∨ ∃ q, s.1 = (way ++ [b]) ++ q ∧ Fin_ d.Trains m to_ arr b (K - (way ++ [b]).length) q)) ?_ fun ⟨c, D'⟩ ⟨h5, h6⟩ => ?_
        · refine tos_eq (clone_tot (by omega)) (tos_room (by omega) (by omega) ?_)
          refine tos_bind (tos_weak ?_ (grow_tos hd hm hK N (way ++ [b]) b D (chain_snoc hw hr b1 b2) (by rw [List.getElem?_append_right (by simp)]; simp) (by simp) (by simp; omega) h3)) fun ⟨c, D'⟩ h => tos_some h
          simp
          omega
        · dsimp only at h5 h6
          dsimp only [unc2]
          rw [show K - (way ++ [b]).length = K - way.length - 1 by simp; omega] at h6
          refine tos_ite (fun he => tos_some ⟨h5, fun b' hb' => ?_⟩) fun he => tos_some ⟨h5, ?_⟩
          · rcases h4 b' hb' with h7 | h7
            · rcases List.mem_cons.1 h7 with rfl | h7
              · rcases h6 with ⟨_, h8⟩ | ⟨q, h8, _⟩
                · exact .inr h8
                · have he : c = [] := List.isEmpty_iff.1 he
                  rw [he] at h8
                  exact absurd h8.symm (by simp)
              · exact .inl h7
            · exact .inr h7
          · rcases h6 with ⟨h8, _⟩ | ⟨q, h8, h9, h10, h11⟩
            · exact absurd (by rw [h8]; rfl) he
            · refine ⟨b :: q, by rw [h8]; simp, ?_, ⟨b1, b2, h10⟩, h11⟩
              rw [List.length_cons, h9]
              omega
      · cases o with
        | inr s => exact ho
        | inl D' =>
          refine ⟨ho.1, fun q hq => ?_⟩
          obtain ⟨h5, h6, h7⟩ := hq
          cases q with
          | nil => simp at h5; omega
          | cons b q =>
            obtain ⟨h8, h9, h10⟩ := h6
            rcases ho.2 b ((hb b).2 ⟨h8, h9⟩) with h | h
            · cases h
            · exact h q ⟨by simp at h5; omega, h10, h7⟩
/-- For every point that there is, a journey is found. -/
theorem leastOf_tot (hd : GDay d) (hm : 0 ≤ m ∧ m ≤ 28800) {from_ to_ : Int} {x : GuidePoint} (hx : PT d.Trains m from_ to_ x) : Tot (mGuideNetLeastOf (⟨d, m⟩ : GuideNet) from_ to_ x) (Way d.Trains m from_ to_ x) := by
  obtain ⟨l, hl⟩ := hx
  have hlen := hl.len
  obtain ⟨r0, q0, rfl⟩ : ∃ r0 q0, l = r0 :: q0 := by
    cases l with
    | nil => simp at hlen
    | cons r q => exact ⟨r, q, rfl⟩
  have hf0 := hl.first r0 rfl
  have hK : x.Rides = ((q0.length + 1 : Nat) : Int) := hl.rides
  have hfin : Fin_ d.Trains m to_ x.Arr r0 q0.length q0 := ⟨rfl, chain_ext hl.chain, hl.last _ (lst_get r0 q0)⟩
  unfold mGuideNetLeastOf
  refine tot_eq (x := ridesL from_ x.Dep (-1) d.Trains 0) rfl ?_
  refine tot_sum (I := fun _ => False) (R := Way d.Trains m from_ to_ x) ?_ (fun _ h => h.elim) fun l h => tot_some h
  refine tot_imp (tot_forL (fun rest D => DeadOk d.Trains m to_ x.Arr D ∧ (r0 ∈ rest)) (Way d.Trains m from_ to_ x) ⟨fun r k _ h => ?_, ?_⟩ fun r rest D hr ⟨h1, h2⟩ => ?_) fun o ho => ?_
  · simp [mgetD, mget] at h
  · rw [mem_rides]
    exact ⟨hl.chain.1 r0 (by simp), hf0.1, by rw [hf0.2]; exact Int.le_refl _, fun e => by have := (hl.chain.1 r0 (by simp)).1.1; omega⟩
  · have hr := mem_rides.1 hr
    unfold mGuideNetLeastOf_L166
    refine tot_eq (on_eq (n := ⟨d, m⟩) hr.1) ?_
    dsimp only [unc4]
    refine tot_ite (fun h => tot_some ⟨h1, ?_⟩) fun h => ?_
    · rcases List.mem_cons.1 h2 with rfl | h2
      · exact absurd hf0.2 h
      · exact h2
    have hdep : (on d.Trains r).Dep = x.Dep := Decidable.of_not_not h
    rw [hK]
    refine tot_bind (lim_tot 5 fun N => tos_weak ?_ (grow_tos (dep := x.Dep) hd hm (K := q0.length + 1) (by simp at hlen; omega) N [r] r D (chain_one hr.1) rfl (by simp) (by simp) h1)) fun ⟨c, D'⟩ ⟨h3, h4⟩ => ?_
    · simp; omega
    dsimp only at h3 h4
    dsimp only [unc2]
    rw [show q0.length + 1 - [r].length = q0.length by simp] at h4
    refine tot_ite (fun he => tot_some ⟨h3, ?_⟩) fun he => tot_some ?_
    · rcases List.mem_cons.1 h2 with rfl | h2
      · rcases h4 with ⟨_, h4⟩ | ⟨q, h4, _⟩
        · exact absurd hfin (h4 q0)
        · have he : c = [] := List.isEmpty_iff.1 he
          rw [he] at h4
          exact absurd h4.symm (by simp)
      · exact h2
    · rcases h4 with ⟨h4, _⟩ | ⟨q, h4, h5, h6, h7⟩
      · exact absurd (by rw [h4]; rfl) he
      · obtain ⟨h8, h9⟩ := ext_chain (chain_one hr.1) (r := r) rfl h6
        subst h4
        refine ⟨h8, by simp at hlen ⊢; omega, fun y hy => ?_, fun y hy => ?_, by rw [hK]; simp; omega⟩
        · simp at hy
          subst hy
          exact ⟨hr.2.1, hdep⟩
        · rw [h9] at hy
          injection hy with hy
          subst hy
          exact h7
  · cases o with
    | inl D => exact absurd ho.2 (by simp)
    | inr l => exact ho
end
end Go.Proofs.YtckgfeglhjiflaaDoor
