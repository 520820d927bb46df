/- Plain: words that succeed, with what comes of them; texts of days are written whatever the day is. Plain: what Check lets by; rides and their times. Plain: chains of rides, and what the checks of journeys say of them. Plain: on a day of one train the earliest journey is its one ride. Plain: copies of a day; a journey that is let by is a chain; the trains' numbers. Plain: what a newer day makes of a ride; where a traveller can go on. Plain: what a newer day makes of the promises. Plain: a promise is sold; the promises and messages that are told; what GuidePromises asks of them. Plain: one step of the script at the desk. Plain: GuidePromises answers true where its script is not too long. -/
import Derived.Test.YtckgfeglhjiflaaDoorX6
import Derived.Test.YtckgfeglhjiflaaDoorWD
import Derived.Lib.ItoaMem
import Derived.Test.YtckgfeglhjiflaaDoorVD
set_option linter.unusedVariables false
set_option linter.unusedSimpArgs false
namespace Go.Proofs.YtckgfeglhjiflaaDoor
open Go.RowKit Go.Fp
/- ==== GA ==== -/
/-- Something comes out, and 'P' holds of it. -/
def Tot {α : Type} (o : Option α) (P : α → Prop) : Prop := ∃ t, o = some t ∧ P t
section
variable {α β σ τ : Type} {P Q : α → Prop}
theorem tot_some {x : α} (h : P x) : Tot (some x) P := ⟨x, rfl, h⟩
theorem tot_bind {o : Option β} {f : β → Option α} {R : β → Prop} (h : Tot o R) (k : ∀ x, R x → Tot (f x) P) : Tot (o.bind f) P := by
  obtain ⟨x, h1, h2⟩ := h
  rw [h1]
  exact k x h2
theorem tot_eq {o : Option β} {f : β → Option α} {x : β} (h : o = some x) (k : Tot (f x) P) : Tot (o.bind f) P := by
  rw [h]
  exact k
theorem tot_ite {c : Prop} [Decidable c] {a b : Option α} (h1 : c → Tot a P) (h2 : ¬ c → Tot b P) : Tot (if c then a else b) P := by
  split
  · exact h1 ‹_›
  · exact h2 ‹_›
theorem tot_imp {o : Option α} (h : Tot o P) (k : ∀ x, P x → Q x) : Tot o Q := let ⟨x, h1, h2⟩ := h; ⟨x, h1, k x h2⟩
theorem tot_idx {l : List β} {i : Int} {f : β → Option α} (h0 : 0 ≤ i) (h1 : i < (l.length : Int)) (k : ∀ x, l[i.toNat]? = some x → Tot (f x) P) : Tot ((idx l i).bind f) P := by
  obtain ⟨x, h2, h3⟩ := idx_get h0 h1
  exact tot_eq h2 (k x h3)
theorem tot_idn {l : List β} {j : Nat} {f : β → Option α} (h1 : j < l.length) (k : ∀ x, l[j]? = some x → Tot (f x) P) : Tot ((idx l (j : Int)).bind f) P := tot_idx (by omega) (by omega) (fun x hx => k x (by simpa using hx))
theorem tot_chk {x : Int} {f : Int → Option α} (h : -9223372036854775808 ≤ x) (h2 : x ≤ 9223372036854775807) (k : Tot (f x) P) : Tot ((chk x).bind f) P := tot_eq (chk_ok h h2) k
theorem tot_forS {body : Nat → σ → Option σ} (I : Nat → σ → Prop) : ∀ {m k : Nat} {s : σ}, I k s → (∀ j s, k ≤ j → j < k + m → I j s → Tot (body j s) (I (j + 1))) → Tot (forS body m k s) (I (k + m)) := fun h0 h => forS_inv I _ _ _ h0 h
theorem tot_forM {body : Nat → σ → Option (σ ⊕ τ)} (I : Nat → σ → Prop) (R : τ → Prop) : ∀ {m k : Nat} {s : σ}, I k s → (∀ j s, k ≤ j → j < k + m → I j s → Tot (body j s) (Sum.elim (I (j + 1)) R)) → Tot (forM body m k s) (Sum.elim (I (k + m)) R)
  | 0, k, s, h0, _ => ⟨.inl s, rfl, h0⟩
  | m + 1, k, s, h0, h => by
    obtain ⟨o, h1, h2⟩ := h k s (Nat.le_refl _) (by omega) h0
    cases o with
    | inr t => rw [forM_succ_inr h1]; exact ⟨_, rfl, h2⟩
    | inl s' =>
      rw [forM_succ_inl h1, show k + (m + 1) = k + 1 + m by omega]
      exact tot_forM I R h2 fun j t hj hj' hi => h j t (by omega) (by omega) hi
theorem tot_forL {body : β → σ → Option (σ ⊕ τ)} (I : List β → σ → Prop) (R : τ → Prop) : ∀ {l : List β} {s : σ}, I l s → (∀ x r s, x ∈ l → I (x :: r) s → Tot (body x s) (Sum.elim (I r) R)) → Tot (forL body l s) (Sum.elim (I []) R)
  | [], s, h0, _ => ⟨.inl s, rfl, h0⟩
  | x :: r, s, h0, h => by
    obtain ⟨o, h1, h2⟩ := h x r s (List.mem_cons_self ..) h0
    unfold forL
    rw [h1]
    cases o with
    | inr t => exact ⟨_, rfl, h2⟩
    | inl s' => exact tot_forL I R h2 fun y q t hy hi => h y q t (List.mem_cons_of_mem _ hy) hi
theorem tot_sum {γ : Type} {o : Option (σ ⊕ τ)} {f : σ → Option γ} {g : τ → Option γ} {I : σ → Prop} {R : τ → Prop} {W : γ → Prop} (h : Tot o (Sum.elim I R)) (h1 : ∀ s, I s → Tot (f s) W) (h2 : ∀ t, R t → Tot (g t) W) : Tot (o.bind fun t => Sum.elim f g t) W := by
  obtain ⟨x, e, h⟩ := h
  rw [e]
  cases x with
  | inl s => exact h1 s h
  | inr t => exact h2 t h
theorem tot_room {by_ m : Nat} {f : Unit → Option α} (h : m * by_ ≤ 140737488355328) (h2 : m ≤ 9223372036854775807) (k : Tot (f ()) P) : Tot ((room by_ m).bind f) P := tot_eq (room_ok h h2) k
end
theorem bt {b : Bool} (h : ¬ b = true) : b = false := by cases b <;> simp_all

/- ---- what a row gives ---- -/
def I64 (x : Int) : Prop := -9223372036854775808 ≤ x ∧ x ≤ 9223372036854775807
def Lst {α : Type} (P : α → Prop) (l : List α) : Prop := l.length ≤ 9223372036854775807 ∧ ∀ a ∈ l, P a
def WStop (s : ApiStop) : Prop := I64 s.Station ∧ I64 s.Track ∧ I64 s.Arr ∧ I64 s.Dep
def WTrain (t : ApiTrain) : Prop := I64 t.No ∧ I64 t.Stock ∧ Lst WStop t.Stops ∧ Lst (Lst I64) t.Legs
def WDay (d : ApiDay) : Prop := Lst WTrain d.Trains ∧ Lst (Lst I64) d.Turns

/- ---- numerals ---- -/
theorem digits_len : ∀ (k u : Nat), u < 10 ^ (k + 1) → Lib.nDigits u ≤ k + 1
  | 0, u, h => by rw [Lib.nDigits_small (by simpa using h)]; omega
  | k + 1, u, h => by
    by_cases hu : u < 10
    · rw [Lib.nDigits_small hu]; omega
    · rw [Lib.nDigits_big hu]
      have := digits_len k (u / 10) (by rw [Nat.pow_succ] at h; omega)
      omega
theorem itoa_tot {n : Int} (h : I64 n) : Tot (mStrconvItoa n) (fun b => b.size ≤ 20) := by
  unfold mStrconvItoa itoaM
  rw [chk_ok h.1 h.2]
  refine tot_some ?_
  show (Lib.itoa n).toArray.size ≤ 20
  rw [List.size_toArray]
  have := h.1; have := h.2
  by_cases hn : 0 ≤ n
  · obtain ⟨u, rfl⟩ : ∃ u : Nat, n = (u : Int) := ⟨n.toNat, by omega⟩
    rw [Lib.itoa_nonneg, Lib.decDigits_length]
    have := digits_len 18 u (by omega)
    omega
  · obtain ⟨u, rfl⟩ : ∃ u : Nat, n = -(u : Int) := ⟨n.natAbs, by omega⟩
    rw [Lib.itoa_neg u (by omega), List.length_cons, Lib.decDigits_length]
    have := digits_len 18 u (by omega)
    omega
theorem sAdd_tot {s t : ByteArray} (h : s.size + t.size ≤ 1000000000) : Tot (sAdd s t) (fun r => r.size = s.size + t.size) := by
  unfold sAdd
  rw [if_pos (by omega)]
  exact tot_some (by simp)
theorem sentence_tot {w : ByteArray} {l : List Int} (hw : w.size ≤ 5) (hl : l.length ≤ 12) (h : ∀ n ∈ l, I64 n) : Tot (mPlanSentence w l) (fun b => b.size ≤ 300) := by
  unfold mPlanSentence
  refine tot_bind (tot_forS (fun k b => b.size ≤ 5 + 21 * k) (by omega) fun j s _ hj hi => ?_) fun b hb => ?_
  · unfold mPlanSentence_L66
    refine tot_idn (by omega) fun n hn => tot_bind (itoa_tot (h n (List.mem_of_getElem? hn))) fun f hf => ?_
    have h1 : (ByteArray.mk #[32]).size = 1 := rfl
    refine tot_bind (sAdd_tot (by rw [h1]; omega)) fun g hg => tot_bind (sAdd_tot (by rw [hg, h1]; omega)) fun q hq => tot_some ?_
    rw [hq, hg, h1]
    omega
  · have h1 : (ByteArray.mk #[10]).size = 1 := rfl
    refine tot_bind (sAdd_tot (by rw [h1]; omega)) fun e he => tot_some ?_
    rw [he, h1]
    omega
theorem within_eq (a c d : Int) : mPlanWithin a c d = some (decide (c ≤ a ∧ a ≤ d)) := by
  unfold mPlanWithin
  by_cases h1 : c ≤ a
  · rw [if_pos h1, Option.bind_some]
    simp [h1]
  · rw [if_neg h1, Option.bind_some]
    simp [h1]
theorem bWrite_tot {s t : ByteArray} (h : s.size + t.size ≤ 1000000000) : Tot (bWrite s t) (fun r => r.2.size = s.size + t.size) := by
  unfold bWrite
  rw [if_pos (by omega)]
  exact tot_some (by simp)
/-- A line is written; the flag stays if its numbers are small. -/
theorem line_tot {c : ByteArray} {d : Bool} {a : List Int} {e : ByteArray} (hc : c.size ≤ 5) (ha : a.length ≤ 12) (h : ∀ n ∈ a, I64 n) (he : e.size ≤ 1000000) :
    Tot (mPlanText_1 c d a e) (fun p => p.2.size ≤ e.size + 300 ∧ (d = true → (∀ n ∈ a, 0 ≤ n ∧ n ≤ 999999) → p.1 = true)) := by
  unfold mPlanText_1
  refine tot_bind (tot_forS (fun _ q => d = true → (∀ n ∈ a, 0 ≤ n ∧ n ≤ 999999) → q = true) (fun h _ => h) fun j s _ hj hi => ?_) fun f hf => ?_
  · unfold mPlanText_1_L96
    refine tot_idn (by omega) fun n hn => tot_ite (fun _ => ?_) fun hs => tot_some fun h1 h2 => absurd (hi h1 h2) hs
    rw [within_eq]
    exact tot_some fun h1 h2 => decide_eq_true (h2 n (List.mem_of_getElem? hn))
  · refine tot_bind (sentence_tot hc ha h) fun g hg => ?_
    unfold mStringsBuilderWriteString
    refine tot_bind (bWrite_tot (by omega)) fun ⟨x, y⟩ hy => ?_
    have hy : y.size = e.size + g.size := hy
    show Tot (some (f, y)) _
    exact tot_some ⟨by show y.size ≤ _; omega, hf⟩
theorem line2_tot {c : ByteArray} {d : Bool} {a : List Int} {e : ByteArray} (hc : c.size ≤ 5) (ha : a.length ≤ 12) (h : ∀ n ∈ a, I64 n) (he : e.size ≤ 1000000) :
    Tot (mPlanText_1_2 c a d e) (fun p => p.2.size ≤ e.size + 300 ∧ (d = true → (∀ n ∈ a, 0 ≤ n ∧ n ≤ 999999) → p.1 = true)) := by
  unfold mPlanText_1_2
  refine tot_bind (tot_forS (fun _ q => d = true → (∀ n ∈ a, 0 ≤ n ∧ n ≤ 999999) → q = true) (fun h _ => h) fun j s _ hj hi => ?_) fun f hf => ?_
  · unfold mPlanText_1_2_L75
    refine tot_idn (by omega) fun n hn => tot_ite (fun _ => ?_) fun hs => tot_some fun h1 h2 => absurd (hi h1 h2) hs
    rw [within_eq]
    exact tot_some fun h1 h2 => decide_eq_true (h2 n (List.mem_of_getElem? hn))
  · refine tot_bind (sentence_tot hc ha h) fun g hg => ?_
    unfold mStringsBuilderWriteString
    refine tot_bind (bWrite_tot (by omega)) fun ⟨x, y⟩ hy => ?_
    have hy : y.size = e.size + g.size := hy
    show Tot (some (f, y)) _
    exact tot_some ⟨by show y.size ≤ _; omega, hf⟩

/- ---- the form of a day ---- -/
def FTrain (t : ApiTrain) : Prop := 1 ≤ t.Stops.length ∧ t.Stops.length ≤ 8 ∧ t.Legs.length + 1 = t.Stops.length ∧ ∀ g ∈ t.Legs, 1 ≤ g.length ∧ g.length ≤ 4
def FDay (d : ApiDay) : Prop := d.Trains.length ≤ 12 ∧ d.Turns.length ≤ 8 ∧ (∀ t ∈ d.Trains, FTrain t) ∧ ∀ g ∈ d.Turns, 1 ≤ g.length ∧ g.length ≤ 12
theorem mem_upto {α : Type} {P : α → Prop} {l : List α} (h : ∀ i x, i < 0 + l.length → l[i]? = some x → P x) : ∀ x ∈ l, P x := fun x hx => by
  obtain ⟨i, h1, h2⟩ := List.mem_iff_getElem.1 hx
  exact h i x (by omega) (by rw [List.getElem?_eq_getElem h1, h2])
theorem upto_succ {α : Type} {P : α → Prop} {l : List α} {j : Nat} {y : α} (hy : l[j]? = some y) (h : ∀ i x, i < j → l[i]? = some x → P x) (hp : P y) : ∀ i x, i < j + 1 → l[i]? = some x → P x := fun i x hi hx => by
  rcases Nat.lt_or_ge i j with h1 | h1
  · exact h i x h1 hx
  · have : i = j := by omega
    subst this
    rw [hx] at hy
    injection hy with hy
    exact hy ▸ hp
theorem form_tot {d : ApiDay} (hw : WDay d) : Tot (mPlanForm d) (fun c => (c = 0 → FDay d) ∧ (FDay d → c = 0)) := by
  unfold mPlanForm
  refine tot_bind (P := fun c => (c = 0 → FDay d) ∧ (FDay d → c = 0)) (R := fun q => q = decide (12 < d.Trains.length ∨ 8 < d.Turns.length)) (tot_ite (fun h => tot_some (by simp; omega)) fun h => tot_some (by by_cases h2 : 8 < d.Turns.length <;> simp [h2] <;> omega)) fun q hq => ?_
  refine tot_ite (fun h => tot_some ?_) fun h => ?_
  · rw [hq] at h
    have h := of_decide_eq_true h
    exact ⟨fun h => absurd h (by decide), fun hf => absurd h (by have := hf.1; have := hf.2.1; omega)⟩
  · have h := of_decide_eq_false (hq ▸ bt h)
    refine tot_sum (I := fun _ => ∀ t ∈ d.Trains, FTrain t) (R := fun c => c ≠ 0 ∧ ¬ FDay d) ?_ (fun _ h1 => ?_) fun c hc => tot_some ⟨fun h => absurd h hc.1, fun h => absurd h hc.2⟩
    · refine tot_imp (tot_forM (fun k _ => ∀ i t, i < k → d.Trains[i]? = some t → FTrain t) (fun c => c ≠ 0 ∧ ¬ FDay d) (fun i t hi => absurd hi (by omega)) fun j _ _ hj hi => ?_) fun o ho => ?_
      · unfold mPlanForm_L283
        refine tot_idn (by omega) fun t ht => ?_
        have htm := List.mem_of_getElem? ht
        have ok := (hw.1.2 t htm).2.2
        have oks := ok.1.1
        have okl := ok.2.1
        refine tot_bind (R := fun q => q = decide (¬ (1 ≤ t.Stops.length ∧ t.Legs.length + 1 = t.Stops.length))) (tot_ite (fun h => tot_some (by simp; omega)) fun h => tot_chk (by omega) (by omega) (tot_some (by simp only [decide_eq_decide]; omega))) fun q hq => ?_
        refine tot_ite (fun h => tot_some ⟨by decide, fun hf => ?_⟩) fun h => ?_
        · have h := of_decide_eq_true (hq ▸ h)
          have := hf.2.2.1 t htm
          exact h ⟨this.1, this.2.2.1⟩
        · have h := of_decide_eq_false (hq ▸ bt h)
          refine tot_sum (I := fun _ => ∀ g ∈ t.Legs, 1 ≤ g.length) (R := fun o : Unit ⊕ Int => Sum.elim (fun _ => False) (fun c => c ≠ 0 ∧ ¬ FDay d) o) ?_ (fun _ h1 => ?_) fun c hc => ⟨_, rfl, by cases c with | inl _ => exact hc.elim | inr c => exact hc⟩
          · refine tot_imp (tot_forM (fun k _ => ∀ i g, i < k → t.Legs[i]? = some g → 1 ≤ g.length) (fun o : Unit ⊕ Int => Sum.elim (fun _ => False) (fun c => c ≠ 0 ∧ ¬ FDay d) o) (fun i g hi => absurd hi (by omega)) fun j _ _ hj hi => ?_) fun o ho => ?_
            · unfold mPlanForm_L419
              refine tot_idn (by omega) fun g hg => tot_ite (fun h => tot_some ⟨by decide, fun hf => ?_⟩) fun h => tot_some (upto_succ hg hi (by omega))
              have := (hf.2.2.1 t htm).2.2.2 g (List.mem_of_getElem? hg)
              omega
            · cases o with
              | inl _ => exact mem_upto ho
              | inr _ => exact ho
          · refine tot_ite (fun h8 => tot_some ⟨by decide, fun hf => ?_⟩) fun h8 => ?_
            · have := (hf.2.2.1 t htm).2.1
              omega
            · refine tot_sum (I := fun _ => ∀ g ∈ t.Legs, g.length ≤ 4) (R := fun o : Unit ⊕ Int => Sum.elim (fun _ => False) (fun c => c ≠ 0 ∧ ¬ FDay d) o) ?_ (fun _ h2 => ?_) fun c hc => ⟨_, rfl, by cases c with | inl _ => exact hc.elim | inr c => exact hc⟩
              · refine tot_imp (tot_forM (fun k _ => ∀ i g, i < k → t.Legs[i]? = some g → g.length ≤ 4) (fun o : Unit ⊕ Int => Sum.elim (fun _ => False) (fun c => c ≠ 0 ∧ ¬ FDay d) o) (fun i g hi => absurd hi (by omega)) fun j _ _ hj hi => ?_) fun o ho => ?_
                · unfold mPlanForm_L460
                  refine tot_idn (by omega) fun g hg => tot_ite (fun h => tot_some ⟨by decide, fun hf => ?_⟩) fun h => tot_some (upto_succ hg hi (by omega))
                  have := (hf.2.2.1 t htm).2.2.2 g (List.mem_of_getElem? hg)
                  omega
                · cases o with
                  | inl _ => exact mem_upto ho
                  | inr _ => exact ho
              · refine tot_some (upto_succ ht hi ⟨by omega, by omega, by omega, fun g hg => ⟨h1 g hg, h2 g hg⟩⟩)
      · cases o with
        | inl _ => exact mem_upto ho
        | inr _ => exact ho
    · refine tot_sum (I := fun _ => ∀ g ∈ d.Turns, 1 ≤ g.length ∧ g.length ≤ 12) (R := fun c => c ≠ 0 ∧ ¬ FDay d) ?_ (fun _ h2 => tot_some ⟨fun _ => ⟨by omega, by omega, h1, h2⟩, fun _ => rfl⟩) fun c hc => tot_some ⟨fun h => absurd h hc.1, fun h => absurd h hc.2⟩
      refine tot_imp (tot_forM (fun k _ => ∀ i g, i < k → d.Turns[i]? = some g → 1 ≤ g.length ∧ g.length ≤ 12) (fun c => c ≠ 0 ∧ ¬ FDay d) (fun i t hi => absurd hi (by omega)) fun j _ _ hj hi => ?_) fun o ho => ?_
      · unfold mPlanForm_L500
        refine tot_idn (by omega) fun g hg => tot_ite (fun h => tot_some ⟨by decide, fun hf => ?_⟩) fun h => tot_ite (fun h => tot_some ⟨by decide, fun hf => ?_⟩) fun h2 => tot_some (upto_succ hg hi (by omega))
        · have := hf.2.2.2 g (List.mem_of_getElem? hg)
          omega
        · have := hf.2.2.2 g (List.mem_of_getElem? hg)
          omega
      · cases o with
        | inl _ => exact mem_upto ho
        | inr _ => exact ho
/-- All numbers of a day are small. -/
def NDay (d : ApiDay) : Prop := (∀ t ∈ d.Trains, (∀ n ∈ [t.No, t.Stock], 0 ≤ n ∧ n ≤ 999999) ∧ (∀ s ∈ t.Stops, ∀ n ∈ [s.Station, s.Track, s.Arr, s.Dep], 0 ≤ n ∧ n ≤ 999999) ∧ ∀ g ∈ t.Legs, ∀ n ∈ g, 0 ≤ n ∧ n ≤ 999999) ∧ ∀ g ∈ d.Turns, ∀ n ∈ g, 0 ≤ n ∧ n ≤ 999999
set_option maxRecDepth 20000 in
theorem text_tot {d : ApiDay} (hw : WDay d) : Tot (mPlanText d) (fun p => (p.2 = 0 → FDay d) ∧ (FDay d → NDay d → p.2 = 0)) := by
  unfold mPlanText
  refine tot_bind (form_tot hw) fun c hc => tot_ite (fun h => tot_some ⟨fun h0 => absurd h0 h, fun hf _ => hc.2 hf⟩) fun h => ?_
  have h0 : c = 0 := Decidable.of_not_not h
  have hf := hc.1 h0
  refine tot_bind (tot_forS (fun k p => p.2.size ≤ 4800 * k ∧ (NDay d → p.1 = true)) ⟨by show (ByteArray.empty).size ≤ _; decide, fun _ => rfl⟩ fun j p _ hj hi => ?_) fun ⟨q, b⟩ hb => ?_
  · obtain ⟨q, b⟩ := p
    obtain ⟨hi1, hi2⟩ := hi
    have hi1 : b.size ≤ 4800 * j := hi1
    have hi2 : NDay d → q = true := hi2
    have hd := hf.1
    show Tot (mPlanText_L677 d j (q, b)) _
    unfold mPlanText_L677
    show Tot ((idx d.Trains (j : Int)).bind _) _
    refine tot_idn (by omega) fun t ht => ?_
    have htm := List.mem_of_getElem? ht
    have wt := hw.1.2 t htm
    have ft := hf.2.2.1 t htm
    refine tot_bind (line_tot (by decide) (by simp) (fun n hn => by
      simp at hn
      rcases hn with rfl | rfl
      · exact wt.1
      · exact wt.2.1) (by omega)) fun ⟨q1, b1⟩ h1 => ?_
    obtain ⟨h1, h1'⟩ := h1
    have h1 : b1.size ≤ b.size + 300 := h1
    have h1' : q = true → _ → q1 = true := h1'
    show Tot ((forS (mPlanText_L1089 t) t.Stops.length 0 (q1, b1)).bind _) _
    refine tot_bind (tot_forS (fun k p => p.2.size ≤ b1.size + 300 * k ∧ (NDay d → p.1 = true)) ⟨by show b1.size ≤ _; omega, fun hn => h1' (hi2 hn) (hn.1 t htm).1⟩ fun i p _ hj2 hi => ?_) fun ⟨q2, b2⟩ h2 => ?_
    · obtain ⟨q2, b2⟩ := p
      obtain ⟨hi3, hi4⟩ := hi
      have hi3 : b2.size ≤ b1.size + 300 * i := hi3
      have hi4 : NDay d → q2 = true := hi4
      have := ft.2.1
      show Tot (mPlanText_L1089 t i (q2, b2)) _
      unfold mPlanText_L1089
      show Tot ((idx t.Stops (i : Int)).bind _) _
      refine tot_idn (by omega) fun s hs => ?_
      have hsm := List.mem_of_getElem? hs
      have ws := wt.2.2.1.2 s hsm
      refine tot_bind (line_tot (by decide) (by simp) (fun n hn => by
        simp at hn
        rcases hn with rfl | rfl | rfl | rfl
        · exact ws.1
        · exact ws.2.1
        · exact ws.2.2.1
        · exact ws.2.2.2) (by omega)) fun ⟨q3, b3⟩ h3 => ?_
      obtain ⟨h3, h3'⟩ := h3
      have h3 : b3.size ≤ b2.size + 300 := h3
      have hz : b3.size ≤ b1.size + 300 * (i + 1) := by omega
      exact tot_some ⟨hz, fun hn => h3' (hi4 hn) ((hn.1 t htm).2.1 s hsm)⟩
    · obtain ⟨h2, h2'⟩ := h2
      have h2 : b2.size ≤ b1.size + 300 * (0 + t.Stops.length) := h2
      have h2' : NDay d → q2 = true := h2'
      have f1 := ft.2.1
      have f2 := ft.2.2.1
      show Tot ((forS (mPlanText_L1169 t) t.Legs.length 0 (q2, b2)).bind _) _
      refine tot_bind (tot_forS (fun k p => p.2.size ≤ b2.size + 300 * k ∧ (NDay d → p.1 = true)) ⟨by show b2.size ≤ _; omega, h2'⟩ fun i p _ hj2 hi => ?_) fun ⟨q3, b3⟩ h3 => ?_
      · obtain ⟨q3, b3⟩ := p
        obtain ⟨hi3, hi4⟩ := hi
        have hi3 : b3.size ≤ b2.size + 300 * i := hi3
        have hi4 : NDay d → q3 = true := hi4
        show Tot (mPlanText_L1169 t i (q3, b3)) _
        unfold mPlanText_L1169
        show Tot ((idx t.Legs (i : Int)).bind _) _
        refine tot_idn (by omega) fun g hg => ?_
        have hgm := List.mem_of_getElem? hg
        refine tot_bind (line2_tot (by decide) (by have := (ft.2.2.2 g hgm).2; omega) ((wt.2.2.2.2 g hgm).2) (by omega)) fun ⟨q4, b4⟩ h4 => ?_
        obtain ⟨h4, h4'⟩ := h4
        have h4 : b4.size ≤ b3.size + 300 := h4
        have hz : b4.size ≤ b2.size + 300 * (i + 1) := by omega
        exact tot_some ⟨hz, fun hn => h4' (hi4 hn) ((hn.1 t htm).2.2 g hgm)⟩
      · obtain ⟨h3, h3'⟩ := h3
        have h3 : b3.size ≤ b2.size + 300 * (0 + t.Legs.length) := h3
        have hz : b3.size ≤ 4800 * (j + 1) := by omega
        exact tot_some ⟨hz, h3'⟩
  · obtain ⟨hb, hb'⟩ := hb
    have hb : b.size ≤ 4800 * (0 + d.Trains.length) := hb
    have hb' : NDay d → q = true := hb'
    have f1 := hf.1
    have f2 := hf.2.1
    show Tot ((forS (mPlanText_L1246 d) d.Turns.length 0 (q, b)).bind _) _
    refine tot_bind (tot_forS (fun k p => p.2.size ≤ b.size + 300 * k ∧ (NDay d → p.1 = true)) ⟨by show b.size ≤ _; omega, hb'⟩ fun i p _ hj2 hi => ?_) fun ⟨q3, b3⟩ h3 => ?_
    · obtain ⟨q3, b3⟩ := p
      obtain ⟨hi3, hi4⟩ := hi
      have hi3 : b3.size ≤ b.size + 300 * i := hi3
      have hi4 : NDay d → q3 = true := hi4
      show Tot (mPlanText_L1246 d i (q3, b3)) _
      unfold mPlanText_L1246
      show Tot ((idx d.Turns (i : Int)).bind _) _
      refine tot_idn (by omega) fun g hg => ?_
      have hgm := List.mem_of_getElem? hg
      refine tot_bind (line2_tot (by decide) (by have := (hf.2.2.2 g hgm).2; omega) ((hw.2.2 g hgm).2) (by omega)) fun ⟨q4, b4⟩ h4 => ?_
      obtain ⟨h4, h4'⟩ := h4
      have h4 : b4.size ≤ b3.size + 300 := h4
      have hz : b4.size ≤ b.size + 300 * (i + 1) := by omega
      exact tot_some ⟨hz, fun hn => h4' (hi4 hn) (hn.2 g hgm)⟩
    · obtain ⟨_, h3'⟩ := h3
      show Tot (if q3 = true then _ else _) _
      refine tot_ite (fun h => ?_) fun h => tot_some ⟨fun h => absurd h (by decide), fun _ hn => absurd (h3' hn) h⟩
      unfold mStringsBuilderString
      exact tot_some ⟨fun _ => hf, fun _ _ => rfl⟩
/- ==== GB ==== -/
theorem gwithin_eq (a c d : Int) : mGuideWithin a c d = some (decide (c ≤ a ∧ a ≤ d)) := by
  unfold mGuideWithin
  by_cases h1 : c ≤ a
  · rw [if_pos h1, Option.bind_some]
    simp [h1]
  · rw [if_neg h1, Option.bind_some]
    simp [h1]
theorem mgd_put {κ ν : Type} [DecidableEq κ] (l : List (κ × ν)) (k k' : κ) (v d : ν) : mgetD (mput l k v) k' d = if k = k' then v else mgetD l k' d := by
  unfold mgetD
  by_cases h : k = k'
  · subst h
    rw [if_pos rfl, mget_mput_same]
    rfl
  · rw [if_neg h, mget_mput_other l v (fun e => h e.symm)]
def StopIn (s : ApiStop) : Prop := (0 ≤ s.Station ∧ s.Station ≤ 11) ∧ (0 ≤ s.Arr ∧ s.Arr ≤ 28800) ∧ (0 ≤ s.Dep ∧ s.Dep ≤ 28800) ∧ s.Arr ≤ s.Dep
def GStops (l : List ApiStop) : Prop := 2 ≤ l.length ∧ l.length ≤ 8 ∧ ∀ i s, l[i]? = some s → StopIn s ∧ ∀ p, l[i - 1]? = some p → 0 < i → p.Dep < s.Arr
def GTrain (t : ApiTrain) : Prop := (1 ≤ t.No ∧ t.No ≤ 9999) ∧ GStops t.Stops
def GDay (d : ApiDay) : Prop := d.Trains.length ≤ 12 ∧ (∀ t ∈ d.Trains, GTrain t) ∧ ∀ (i j : Nat) (s t : ApiTrain), d.Trains[i]? = some s → d.Trains[j]? = some t → s.No = t.No → i = j
theorem check_tot {d : ApiDay} (hw : WDay d) : Tot (mGuideCheck d) (fun c => c = 0 → GDay d) := by
  unfold mGuideCheck
  refine tot_bind (text_tot hw) fun ⟨b, c⟩ hc => ?_
  have hc1 : c = 0 → FDay d := hc.1
  show Tot (if c ≠ 0 then _ else _) _
  refine tot_ite (fun h => tot_some fun h0 => absurd h0 h) fun h => ?_
  have hf := hc1 (Decidable.of_not_not h)
  refine tot_sum (I := fun _ => GDay d) (R := fun c => c ≠ 0) ?_ (fun _ h1 => tot_some fun _ => h1) fun c hc => tot_some fun h => absurd h hc
  refine tot_imp (tot_forM (fun k m => (∀ i t, i < k → d.Trains[i]? = some t → GTrain t ∧ mgetD m t.No false = true) ∧ ∀ i j s t, i < k → j < k → d.Trains[i]? = some s → d.Trains[j]? = some t → s.No = t.No → i = j) (fun c => c ≠ 0) ⟨fun i t hi => absurd hi (by omega), fun i j s t hi => absurd hi (by omega)⟩ fun j m _ hj ⟨hi, hd⟩ => ?_) fun o ho => ?_
  · unfold mGuideCheck_L703
    refine tot_idn (by omega) fun t ht => ?_
    have htm := List.mem_of_getElem? ht
    have ft := hf.2.2.1 t htm
    rw [gwithin_eq, Option.bind_some]
    refine tot_ite (fun hno => ?_) fun _ => tot_some (show (2 : Int) ≠ 0 by decide)
    have hno := of_decide_eq_true hno
    rw [Option.bind_some]
    refine tot_ite (fun _ => tot_some (show (6 : Int) ≠ 0 by decide)) fun hseen => tot_ite (fun _ => tot_some (show (1 : Int) ≠ 0 by decide)) fun h2 => ?_
    refine tot_sum (I := fun _ => GStops t.Stops) (R := fun o : List (Int × Bool) ⊕ Int => Sum.elim (fun _ => False) (fun c => c ≠ 0) o) ?_ (fun _ h1 => tot_some ⟨fun i s hi' hs => ?_, fun i i' s s' hi1 hi2 hs hs' he => ?_⟩) fun c hc => ⟨_, rfl, by cases c with | inl _ => exact hc.elim | inr c => exact hc⟩
    · refine tot_imp (tot_forM (fun k _ => ∀ i s, i < k → t.Stops[i]? = some s → StopIn s ∧ ∀ p, t.Stops[i - 1]? = some p → 0 < i → p.Dep < s.Arr) (fun o : List (Int × Bool) ⊕ Int => Sum.elim (fun _ => False) (fun c => c ≠ 0) o) (fun i g hi => absurd hi (by omega)) fun i _ _ hi' hi => ?_) fun o ho => ?_
      · unfold mGuideCheck_L1189
        refine tot_idn (by omega) fun s hs => ?_
        refine tot_bind (R := fun q => q = decide (¬ ((0 ≤ s.Station ∧ s.Station ≤ 11) ∧ (0 ≤ s.Arr ∧ s.Arr ≤ 28800) ∧ (0 ≤ s.Dep ∧ s.Dep ≤ 28800)))) ?_ fun q hq => ?_
        · rw [gwithin_eq, Option.bind_some]
          refine tot_ite (fun h1 => ?_) fun h1 => tot_some ?_
          · rw [gwithin_eq, Option.bind_some]
            refine tot_ite (fun h2 => ?_) fun h2 => tot_some ?_
            · rw [gwithin_eq, Option.bind_some]
              refine tot_some ?_
              have h1 := of_decide_eq_true h1
              have h2 := of_decide_eq_true h2
              by_cases h3 : 0 ≤ s.Dep ∧ s.Dep ≤ 28800 <;> simp [h1, h2, h3]
            · have h2 := of_decide_eq_false (bt h2)
              simp [h2]
          · have h1 := of_decide_eq_false (bt h1)
            simp [h1]
        · refine tot_ite (fun _ => tot_some (by show (2 : Int) ≠ 0; decide)) fun hqf => ?_
          have hin := Decidable.of_not_not (of_decide_eq_false (hq ▸ bt hqf))
          refine tot_bind (R := fun q => q = false → s.Arr ≤ s.Dep ∧ ∀ p, t.Stops[i - 1]? = some p → 0 < i → p.Dep < s.Arr) ?_ fun q hq2 => ?_
          · have f8 := ft.2.1
            refine tot_ite (fun h1 => tot_some fun h => by cases h) fun h1 => tot_ite (fun h2 => tot_chk (by omega) (by omega) (tot_idx (by omega) (by have := ft.2.1; omega) fun p hp => tot_some fun h => ?_)) fun h2 => tot_some fun _ => ⟨by omega, fun p _ h3 => absurd h3 (by omega)⟩
            have h := of_decide_eq_false h
            have he : ((i : Int) - 1).toNat = i - 1 := by omega
            rw [he] at hp
            exact ⟨by omega, fun p' hp' _ => by rw [hp] at hp'; injection hp' with hp'; subst hp'; omega⟩
          · refine tot_ite (fun _ => tot_some (by show (5 : Int) ≠ 0; decide)) fun hqf2 => ?_
            have := hq2 (bt hqf2)
            exact tot_some (show ∀ (i' : Nat) (s' : ApiStop), i' < i + 1 → t.Stops[i']? = some s' → StopIn s' ∧ ∀ p, t.Stops[i' - 1]? = some p → 0 < i' → p.Dep < s'.Arr from fun i' s' hi2 hs' => by
              rcases Nat.lt_or_ge i' i with h5 | h5
              · exact hi i' s' h5 hs'
              · have : i' = i := by omega
                subst this
                rw [hs] at hs'
                injection hs' with hs'
                subst hs'
                exact ⟨⟨hin.1, hin.2.1, hin.2.2, this.1⟩, this.2⟩)
      · cases o with
        | inl _ =>
          have ho : ∀ i s, i < 0 + t.Stops.length → t.Stops[i]? = some s → _ := ho
          refine ⟨by omega, ft.2.1, fun i s hs => ho i s (by have := List.getElem?_eq_some_iff.1 hs; obtain ⟨h, _⟩ := this; omega) hs⟩
        | inr _ => exact ho
    · rcases Nat.lt_or_ge i j with h5 | h5
      · obtain ⟨h6, h7⟩ := hi i s h5 hs
        refine ⟨h6, ?_⟩
        rw [mgd_put]
        split
        · rfl
        · exact h7
      · have : i = j := by omega
        subst this
        rw [ht] at hs
        injection hs with hs
        subst hs
        exact ⟨⟨hno, h1⟩, by rw [mgd_put, if_pos rfl]⟩
    · have new : ∀ i s, i < j → d.Trains[i]? = some s → s.No ≠ t.No := fun i s h5 hs he => by
        have := (hi i s h5 hs).2
        rw [he] at this
        exact hseen this
      rcases Nat.lt_or_ge i j with h5 | h5 <;> rcases Nat.lt_or_ge i' j with h6 | h6
      · exact hd i i' s s' h5 h6 hs hs' he
      · have : i' = j := by omega
        subst this
        rw [ht] at hs'
        injection hs' with hs'
        subst hs'
        exact absurd he (new i s h5 hs)
      · have : i = j := by omega
        subst this
        rw [ht] at hs
        injection hs with hs
        subst hs
        exact absurd he.symm (new i' s' h6 hs')
      · omega
  · cases o with
    | inl m =>
      obtain ⟨h1, h2⟩ := ho
      have hlt : ∀ {i : Nat} {t : ApiTrain}, d.Trains[i]? = some t → i < 0 + d.Trains.length := fun h => by obtain ⟨h, _⟩ := List.getElem?_eq_some_iff.1 h; omega
      exact ⟨hf.1, fun t ht => by obtain ⟨i, h3, h4⟩ := List.mem_iff_getElem.1 ht; exact (h1 i t (by omega) (by rw [List.getElem?_eq_getElem h3, h4])).1, fun i j s t hs ht he => h2 i j s t (hlt hs) (hlt ht) hs ht he⟩
    | inr _ => exact ho
theorem least_tot {d : ApiDay} (hw : WDay d) (m : Int) : Tot (mGuideCheckLeast d m) (fun c => c = 0 → GDay d ∧ 0 ≤ m ∧ m ≤ 28800) := by
  unfold mGuideCheckLeast
  refine tot_bind (check_tot hw) fun c hc => tot_ite (fun h => tot_some fun h0 => absurd h0 h) fun h => ?_
  rw [gwithin_eq, Option.bind_some]
  exact tot_ite (fun h2 => tot_some fun _ => ⟨hc (Decidable.of_not_not h), of_decide_eq_true h2⟩) fun _ => tot_some fun h => absurd h (by decide)

/- ---- rides ---- -/
def tr (T : List ApiTrain) (t : Int) : ApiTrain := T.getD t.toNat ⟨0, 0, [], []⟩
def stp (T : List ApiTrain) (t k : Int) : ApiStop := (tr T t).Stops.getD k.toNat ⟨0, 0, 0, 0⟩
def on (T : List ApiTrain) (r : GuideRide) : ApiStop := stp T r.Train r.On
def off (T : List ApiTrain) (r : GuideRide) : ApiStop := stp T r.Train r.Off
def RideOk (T : List ApiTrain) (r : GuideRide) : Prop := (0 ≤ r.Train ∧ r.Train < (T.length : Int)) ∧ 0 ≤ r.On ∧ r.On < r.Off ∧ r.Off < ((tr T r.Train).Stops.length : Int)
theorem tr_idx {T : List ApiTrain} {t : Int} (h0 : 0 ≤ t) (h1 : t < (T.length : Int)) : idx T t = some (tr T t) := by
  obtain ⟨x, h2, h3⟩ := idx_get h0 h1
  rw [h2, tr, List.getD_eq_getElem?_getD, h3]
  rfl
theorem stp_idx {T : List ApiTrain} {t k : Int} (h0 : 0 ≤ k) (h1 : k < ((tr T t).Stops.length : Int)) : idx (tr T t).Stops k = some (stp T t k) := by
  obtain ⟨x, h2, h3⟩ := idx_get h0 h1
  rw [h2, stp, List.getD_eq_getElem?_getD, h3]
  rfl
theorem on_eq {n : GuideNet} {r : GuideRide} (h : RideOk n.Day.Trains r) : mGuideNetOn n r = some ((on n.Day.Trains r).Station, (on n.Day.Trains r).Track, (on n.Day.Trains r).Arr, (on n.Day.Trains r).Dep) := by
  obtain ⟨⟨a, b⟩, c, d, e⟩ := h
  unfold mGuideNetOn
  rw [tr_idx a b, Option.bind_some, stp_idx c (by omega)]
  rfl
theorem off_eq {n : GuideNet} {r : GuideRide} (h : RideOk n.Day.Trains r) : mGuideNetOff n r = some ((off n.Day.Trains r).Station, (off n.Day.Trains r).Track, (off n.Day.Trains r).Arr, (off n.Day.Trains r).Dep) := by
  obtain ⟨⟨a, b⟩, c, d, e⟩ := h
  unfold mGuideNetOff
  rw [tr_idx a b, Option.bind_some, stp_idx (by omega) e]
  rfl
theorem tr_mem {T : List ApiTrain} {t : Int} (h0 : 0 ≤ t) (h1 : t < (T.length : Int)) : tr T t ∈ T := by
  obtain ⟨x, h2, h3⟩ := idx_get h0 h1
  rw [tr, List.getD_eq_getElem?_getD, h3]
  exact List.mem_of_getElem? h3
theorem stp_at {T : List ApiTrain} {t k : Int} (h0 : 0 ≤ k) (h1 : k < ((tr T t).Stops.length : Int)) : (tr T t).Stops[k.toNat]? = some (stp T t k) := by
  obtain ⟨x, h2, h3⟩ := idx_get h0 h1
  rw [stp, List.getD_eq_getElem?_getD, h3]
  rfl
theorem rising {l : List ApiStop} (h : GStops l) : ∀ (d i : Nat) (s q : ApiStop), l[i]? = some s → l[i + 1 + d]? = some q → s.Dep < q.Arr
  | 0, i, s, q, hs, hq => (h.2.2 _ q hq).2 s (by simpa using hs) (by omega)
  | d + 1, i, s, q, hs, hq => by
    have hlt : i + 1 + d < l.length := by obtain ⟨h, _⟩ := List.getElem?_eq_some_iff.1 hq; omega
    have hm := List.getElem?_eq_getElem hlt
    have h1 := rising h d i s _ hs hm
    have h2 := (h.2.2 _ q hq).2 _ (by rw [show i + 1 + (d + 1) - 1 = i + 1 + d by omega]; exact hm) (by omega)
    have h3 := (h.2.2 _ _ hm).1.2.2.2
    omega
structure RideIn (T : List ApiTrain) (r : GuideRide) : Prop where
  on_ : StopIn (on T r)
  off_ : StopIn (off T r)
  run : (on T r).Dep < (off T r).Arr
theorem ride_in {d : ApiDay} (hd : GDay d) {r : GuideRide} (h : RideOk d.Trains r) : RideIn d.Trains r := by
  obtain ⟨⟨a, b⟩, c, e, f⟩ := h
  have g := (hd.2.1 _ (tr_mem a b)).2
  have h1 := stp_at (T := d.Trains) (t := r.Train) c (by omega)
  have h2 := stp_at (T := d.Trains) (t := r.Train) (k := r.Off) (by omega) f
  refine ⟨(g.2.2 _ _ h1).1, (g.2.2 _ _ h2).1, ?_⟩
  have h3 : r.Off.toNat = r.On.toNat + 1 + (r.Off.toNat - r.On.toNat - 1) := by omega
  rw [h3] at h2
  exact rising g _ _ _ _ h1 h2
theorem mem_offs {t on n off : Nat} {r : GuideRide} : r ∈ offsG t on n off ↔ r.Train = (t : Int) ∧ r.On = (on : Int) ∧ (off : Int) ≤ r.Off ∧ r.Off < (n : Int) := by
  unfold offsG
  rw [List.mem_map]
  constructor
  · rintro ⟨k, h, rfl⟩
    rw [List.mem_range'_1] at h
    exact ⟨rfl, rfl, by show (off : Int) ≤ (k : Int); omega, by show (k : Int) < (n : Int); omega⟩
  · rintro ⟨h1, h2, h3, h4⟩
    refine ⟨r.Off.toNat, by rw [List.mem_range'_1]; omega, ?_⟩
    cases r
    simp only at h1 h2 h3 h4
    subst h1; subst h2
    simp only [GuideRide.mk.injEq, true_and]
    omega
theorem mem_ridesS {t n : Nat} {sta at_ : Int} {r : GuideRide} : ∀ {l : List ApiStop} {k : Nat}, r ∈ ridesS t n sta at_ l k ↔ r.Train = (t : Int) ∧ ∃ i s, l[i]? = some s ∧ r.On = ((k + i : Nat) : Int) ∧ s.Station = sta ∧ at_ ≤ s.Dep ∧ r.On < r.Off ∧ r.Off < (n : Int)
  | [], k => by simp [ridesS]
  | s :: l, k => by
    unfold ridesS
    rw [List.mem_append, mem_ridesS (l := l) (k := k + 1)]
    constructor
    · rintro (h | ⟨h1, i, q, h2, h3, h4⟩)
      · by_cases hc : s.Station ≠ sta ∨ s.Dep < at_
        · rw [if_pos hc] at h; cases h
        · rw [if_neg hc, mem_offs] at h
          exact ⟨h.1, 0, s, rfl, h.2.1, by omega, by omega, by omega, h.2.2.2⟩
      · exact ⟨h1, i + 1, q, by simpa using h2, by omega, h4⟩
    · rintro ⟨h1, i, q, h2, h3, h4, h5, h6, h7⟩
      cases i with
      | zero =>
        simp at h2
        subst h2
        refine .inl ?_
        rw [if_neg (by omega), mem_offs]
        exact ⟨h1, h3, by omega, h7⟩
      | succ i => exact .inr ⟨h1, i, q, by simpa using h2, by omega, h4, h5, h6, h7⟩
theorem mem_ridesL {sta at_ nt : Int} {r : GuideRide} : ∀ {l : List ApiTrain} {k : Nat}, r ∈ ridesL sta at_ nt l k ↔ ∃ i x, l[i]? = some x ∧ r.Train = ((k + i : Nat) : Int) ∧ r.Train ≠ nt ∧ ∃ j s, x.Stops[j]? = some s ∧ r.On = ((j : Nat) : Int) ∧ s.Station = sta ∧ at_ ≤ s.Dep ∧ r.On < r.Off ∧ r.Off < (x.Stops.length : Int)
  | [], k => by simp [ridesL]
  | x :: l, k => by
    unfold ridesL
    rw [List.mem_append, mem_ridesL (l := l) (k := k + 1)]
    constructor
    · rintro (h | ⟨i, q, h2, h3, h4⟩)
      · by_cases hc : (k : Int) = nt
        · rw [if_pos hc] at h; cases h
        · rw [if_neg hc, mem_ridesS] at h
          obtain ⟨h1, j, s, h2, h3, h4⟩ := h
          exact ⟨0, x, rfl, h1, by rw [h1]; exact hc, j, s, h2, by omega, h4⟩
      · exact ⟨i + 1, q, by simpa using h2, by omega, h4⟩
    · rintro ⟨i, q, h2, h3, h4, j, s, h5, h6, h7⟩
      cases i with
      | zero =>
        simp at h2
        subst h2
        refine .inl ?_
        rw [if_neg (by omega), mem_ridesS]
        exact ⟨h3, j, s, h5, by omega, h7⟩
      | succ i => exact .inr ⟨i, q, by simpa using h2, by omega, h4, j, s, h5, h6, h7⟩
/-- All rides from a station on. -/
theorem mem_rides {sta at_ nt : Int} {r : GuideRide} {T : List ApiTrain} : r ∈ ridesL sta at_ nt T 0 ↔ RideOk T r ∧ (on T r).Station = sta ∧ at_ ≤ (on T r).Dep ∧ r.Train ≠ nt := by
  rw [mem_ridesL]
  constructor
  · rintro ⟨i, x, h1, h2, h3, j, s, h4, h5, h6, h7, h8, h9⟩
    have hi : i < T.length := by obtain ⟨h, _⟩ := List.getElem?_eq_some_iff.1 h1; exact h
    have ht : tr T r.Train = x := by rw [tr, List.getD_eq_getElem?_getD, show r.Train.toNat = i by omega, h1]; rfl
    have hs : on T r = s := by rw [on, stp, ht, List.getD_eq_getElem?_getD, show r.On.toNat = j by omega, h4]; rfl
    exact ⟨⟨⟨by omega, by omega⟩, by omega, h8, by rw [ht]; exact h9⟩, by rw [hs]; exact h6, by rw [hs]; exact h7, h3⟩
  · rintro ⟨⟨⟨h1, h2⟩, h3, h4, h5⟩, h6, h7, h8⟩
    obtain ⟨x, _, hx⟩ := idx_get h1 h2
    have ht : tr T r.Train = x := by rw [tr, List.getD_eq_getElem?_getD, hx]; rfl
    have hs := stp_at (T := T) (t := r.Train) h3 (by omega)
    rw [ht] at hs h5
    exact ⟨r.Train.toNat, x, hx, by omega, h8, r.On.toNat, _, hs, by omega, h6, h7, h4, h5⟩
/- ==== GC ==== -/
/- ---- what comes out, if there is fuel ---- -/
def Tos (s : Prop) {α : Type} (o : Option α) (P : α → Prop) : Prop := Tot o P ∨ (s ∧ o = none)
section
variable {α β σ τ : Type} {P Q : α → Prop} {S : Prop}
theorem tos_of {o : Option α} (h : Tot o P) : Tos S o P := .inl h
theorem tos_some {x : α} (h : P x) : Tos S (some x) P := .inl ⟨x, rfl, h⟩
theorem tos_bind {o : Option β} {f : β → Option α} {R : β → Prop} (h : Tos S o R) (k : ∀ x, R x → Tos S (f x) P) : Tos S (o.bind f) P := by
  rcases h with ⟨x, h1, h2⟩ | ⟨h1, h2⟩
  · rw [h1]; exact k x h2
  · rw [h2]; exact .inr ⟨h1, rfl⟩
theorem tos_bt {o : Option β} {f : β → Option α} {R : β → Prop} (h : Tot o R) (k : ∀ x, R x → Tos S (f x) P) : Tos S (o.bind f) P := tos_bind (.inl h) k
theorem tos_eq {o : Option β} {f : β → Option α} {x : β} (h : o = some x) (k : Tos S (f x) P) : Tos S (o.bind f) P := by
  rw [h]
  exact k
theorem tos_ite {c : Prop} [Decidable c] {a b : Option α} (h1 : c → Tos S a P) (h2 : ¬ c → Tos S b P) : Tos S (if c then a else b) P := by
  split
  · exact h1 ‹_›
  · exact h2 ‹_›
theorem tos_imp {o : Option α} (h : Tos S o P) (k : ∀ x, P x → Q x) : Tos S o Q := by
  rcases h with ⟨x, h1, h2⟩ | h
  · exact .inl ⟨x, h1, k x h2⟩
  · exact .inr h
theorem tos_idn {l : List β} {j : Nat} {f : β → Option α} (h1 : j < l.length) (k : ∀ x, l[j]? = some x → Tos S (f x) P) : Tos S ((idx l (j : Int)).bind f) P := by
  rw [idx_lt h1]
  exact k _ (List.getElem?_eq_getElem h1)
theorem tos_chk {x : Int} {f : Int → Option α} (h : -9223372036854775808 ≤ x) (h2 : x ≤ 9223372036854775807) (k : Tos S (f x) P) : Tos S ((chk x).bind f) P := tos_eq (chk_ok h h2) k
theorem tos_room {by_ m : Nat} {f : Unit → Option α} (h : m * by_ ≤ 140737488355328) (h2 : m ≤ 9223372036854775807) (k : Tos S (f ()) P) : Tos S ((room by_ m).bind f) P := tos_eq (room_ok h h2) k
theorem tos_forS {body : Nat → σ → Option σ} (I : Nat → σ → Prop) : ∀ {m k : Nat} {s : σ}, I k s → (∀ j s, k ≤ j → j < k + m → I j s → Tos S (body j s) (I (j + 1))) → Tos S (forS body m k s) (I (k + m))
  | 0, k, s, h0, _ => tos_some h0
  | m + 1, k, s, h0, h => by
    show Tos S ((body k s).bind _) _
    refine tos_bind (h k s (Nat.le_refl _) (by omega) h0) fun t ht => ?_
    rw [show k + (m + 1) = k + 1 + m by omega]
    exact tos_forS I ht fun j t hj hj' hi => h j t (by omega) (by omega) hi
theorem tos_forL {body : β → σ → Option (σ ⊕ τ)} (I : List β → σ → Prop) (R : τ → Prop) : ∀ {l : List β} {s : σ}, I l s → (∀ x r s, x ∈ l → I (x :: r) s → Tos S (body x s) (Sum.elim (I r) R)) → Tos S (forL body l s) (Sum.elim (I []) R)
  | [], s, h0, _ => tos_some h0
  | x :: r, s, h0, h => by
    unfold forL
    rcases h x r s (List.mem_cons_self ..) h0 with ⟨o, h1, h2⟩ | ⟨h1, h2⟩
    · rw [h1]
      cases o with
      | inr t => exact tos_some h2
      | inl s' => exact tos_forL I R h2 fun y q t hy hi => h y q t (List.mem_cons_of_mem _ hy) hi
    · rw [h2]
      exact .inr ⟨h1, rfl⟩
theorem tos_sum {γ : Type} {o : Option (σ ⊕ τ)} {f : σ → Option γ} {g : τ → Option γ} {I : σ → Prop} {R : τ → Prop} {W : γ → Prop} (h : Tos S o (Sum.elim I R)) (h1 : ∀ s, I s → Tos S (f s) W) (h2 : ∀ t, R t → Tos S (g t) W) : Tos S (o.bind fun t => Sum.elim f g t) W := by
  refine tos_bind h fun x hx => ?_
  cases x with
  | inl s => exact h1 s hx
  | inr t => exact h2 t hx
theorem lim_tot {f : Nat → Option α} (K : Nat) (h : ∀ N, Tos (N < K) (f N) P) : Tot (lim f) P := by
  refine lim_ok ?_ fun n t hn => ?_
  · rcases h K with ⟨x, h1, _⟩ | ⟨h1, _⟩
    · exact ⟨K, x, h1⟩
    · omega
  · rcases h n with ⟨x, h1, h2⟩ | ⟨_, h1⟩
    · rw [hn] at h1; injection h1 with h1; rw [h1]; exact h2
    · rw [hn] at h1; cases h1
end

/- ---- chains ---- -/
def Link (T : List ApiTrain) (m : Int) (a b : GuideRide) : Prop := b.Train ≠ a.Train ∧ (on T b).Station = (off T a).Station ∧ (off T a).Arr + m ≤ (on T b).Dep
def Chain (T : List ApiTrain) (m : Int) (l : List GuideRide) : Prop := (∀ r ∈ l, RideOk T r) ∧ ∀ (i : Nat) (a b : GuideRide), l[i]? = some a → l[i + 1]? = some b → Link T m a b
theorem chain_one {T : List ApiTrain} {m : Int} {r : GuideRide} (h : RideOk T r) : Chain T m [r] :=
  ⟨fun x hx => by rw [List.mem_singleton.1 hx]; exact h, fun i a b _ hb => by simp at hb⟩
theorem chain_snoc {T : List ApiTrain} {m : Int} {l : List GuideRide} {a b : GuideRide} (h : Chain T m l) (ha : l[l.length - 1]? = some a) (hb : RideOk T b) (hl : Link T m a b) : Chain T m (l ++ [b]) := by
  refine ⟨fun x hx => ?_, fun i x y hx hy => ?_⟩
  · rcases List.mem_append.1 hx with hx | hx
    · exact h.1 x hx
    · rw [List.mem_singleton.1 hx]; exact hb
  · have hlt : i + 1 < l.length + 1 := by
      obtain ⟨q, _⟩ := List.getElem?_eq_some_iff.1 hy
      simpa using q
    rw [List.getElem?_append_left (by omega)] at hx
    rcases Nat.lt_or_ge (i + 1) l.length with h1 | h1
    · rw [List.getElem?_append_left h1] at hy
      exact h.2 i x y hx hy
    · have h2 : i = l.length - 1 := by omega
      subst h2
      rw [ha] at hx
      injection hx with hx
      rw [List.getElem?_append_right (by omega), show l.length - 1 + 1 - l.length = 0 by omega] at hy
      simp at hy
      rw [← hx, ← hy]
      exact hl
theorem chain_take {T : List ApiTrain} {m : Int} {l : List GuideRide} (h : Chain T m l) (k : Nat) : Chain T m (l.take k) := by
  refine ⟨fun x hx => h.1 x (List.mem_of_mem_take hx), fun i a b ha hb => ?_⟩
  rw [List.getElem?_take] at ha hb
  split at hb
  · split at ha
    · exact h.2 i a b ha hb
    · cases ha
  · cases hb
section
variable {d : ApiDay} {m : Int} {l : List GuideRide}
theorem behind_eq (hd : GDay d) (hm : 0 ≤ m ∧ m ≤ 28800) {r : GuideRide} (h : RideOk d.Trains r) : mGuideNetBehind (⟨d, m⟩ : GuideNet) r = some (ridesL (off d.Trains r).Station ((off d.Trains r).Arr + m) r.Train d.Trains 0) := by
  have hi := (ride_in hd h).off_.2.1
  unfold mGuideNetBehind
  rw [off_eq (n := ⟨d, m⟩) h, Option.bind_some]
  show (chk ((off d.Trains r).Arr + m)).bind _ = _
  rw [chk_ok (by omega) (by omega)]
  rfl
theorem mem_behind {T : List ApiTrain} {r b : GuideRide} : b ∈ ridesL (off T r).Station ((off T r).Arr + m) r.Train T 0 ↔ RideOk T b ∧ Link T m r b := by
  rw [mem_rides]
  exact ⟨fun h => ⟨h.1, h.2.2.2, h.2.1, h.2.2.1⟩, fun h => ⟨h.1, h.2.2.1, h.2.2.2, h.2.1⟩⟩
theorem fwithin_eq (a c d : Int) : mFishref2Within a c d = some (decide (c ≤ a ∧ a ≤ d)) := by
  unfold mFishref2Within
  by_cases h1 : c ≤ a
  · rw [if_pos h1, Option.bind_some]
    simp [h1]
  · rw [if_neg h1, Option.bind_some]
    simp [h1]
/-- A chain is a journey, whether times count or not. -/
theorem journey_ok (hd : GDay d) (hm : 0 ≤ m ∧ m ≤ 28800) (hc : Chain d.Trains m l) (h1 : 1 ≤ l.length) (h4 : l.length ≤ 4) (q : Bool) : mGuideNetJourney (⟨d, m⟩ : GuideNet) (⟨l⟩ : GuideJourney) q = some 0 := by
  have key : Tot (mGuideNetJourney (⟨d, m⟩ : GuideNet) (⟨l⟩ : GuideJourney) q) (fun c => c = 0) := by
    have hT := hd.1
    unfold mGuideNetJourney
    rw [gwithin_eq, Option.bind_some, if_pos (decide_eq_true (by show (1 : Int) ≤ (l.length : Int) ∧ (l.length : Int) ≤ 4; omega))]
    refine tot_sum (tot_forM (fun _ _ => True) (fun _ => False) trivial fun j _ _ hj _ => ?_) (fun _ _ => tot_some rfl) fun _ h => h.elim
    unfold mGuideNetJourney_L428
    have hlt : j < l.length := by simpa using hj
    refine tot_idn hlt fun r hr => ?_
    have hok := hc.1 r (List.mem_of_getElem? hr)
    obtain ⟨⟨a, b⟩, c, e, f⟩ := hok
    refine tot_chk (by show -9223372036854775808 ≤ (d.Trains.length : Int) - 1; omega) (by show (d.Trains.length : Int) - 1 ≤ 9223372036854775807; omega) ?_
    rw [gwithin_eq, Option.bind_some, if_pos (decide_eq_true (by show 0 ≤ r.Train ∧ r.Train ≤ (d.Trains.length : Int) - 1; omega))]
    refine tot_eq (tr_idx (T := d.Trains) a b) ?_
    have hs := (hd.2.1 _ (tr_mem a b)).2.2.1
    refine tot_chk (by omega) (by omega) ?_
    refine tot_bind (R := fun q => q = false) ?_ fun q' hq' => ?_
    · rw [gwithin_eq, Option.bind_some, if_pos (decide_eq_true (by omega)), gwithin_eq, Option.bind_some]
      exact tot_some (by simp; omega)
    · subst hq'
      rw [if_neg (by decide), if_neg (by omega)]
      refine tot_ite (fun _ => tot_some trivial) fun h0 => tot_chk (by omega) (by omega) ?_
      refine tot_idx (by omega) (by show (j : Int) - 1 < (l.length : Int); omega) fun p hp => ?_
      have hp : l[j - 1]? = some p := by rw [show ((j : Int) - 1).toNat = j - 1 by omega] at hp; exact hp
      have hr : l[j - 1 + 1]? = some r := by rw [show j - 1 + 1 = j by omega]; exact hr
      have hl := hc.2 _ _ _ hp hr
      have hok := hc.1 r (List.mem_of_getElem? hr)
      have hpk := hc.1 p (List.mem_of_getElem? hp)
      refine tot_bind (R := fun q => q = false) ?_ fun q' hq' => ?_
      · rw [if_neg hl.1]
        refine tot_eq (on_eq (n := ⟨d, m⟩) hok) (tot_eq (off_eq (n := ⟨d, m⟩) hpk) (tot_some ?_))
        exact decide_eq_false fun h => h hl.2.1
      · subst hq'
        rw [if_neg (by decide)]
        refine tot_bind (R := fun q => q = false) ?_ fun q' hq' => ?_
        · refine tot_ite (fun _ => ?_) fun _ => tot_some rfl
          refine tot_eq (on_eq (n := ⟨d, m⟩) hok) (tot_eq (off_eq (n := ⟨d, m⟩) hpk) ?_)
          have hi := (ride_in hd hpk).off_.2.1
          have h3 := hl.2.2
          show Tot ((chk ((off d.Trains p).Arr + m)).bind _) _
          refine tot_chk (by omega) (by omega) (tot_some ?_)
          exact decide_eq_false (by show ¬ (on d.Trains r).Dep < (off d.Trains p).Arr + m; omega)
        · subst hq'
          rw [if_neg (by decide)]
          exact tot_some trivial
  obtain ⟨c, h, rfl⟩ := key
  exact h
theorem fault_ok (hd : GDay d) (hm : 0 ≤ m ∧ m ≤ 28800) (hc : Chain d.Trains m l) (h1 : 1 ≤ l.length) (h4 : l.length ≤ 4) : mFishref2JourneyFault d (⟨l⟩ : GuideJourney) m true = some 0 := by
  have key : Tot (mFishref2JourneyFault d (⟨l⟩ : GuideJourney) m true) (fun c => c = 0) := by
    have hT := hd.1
    unfold mFishref2JourneyFault
    rw [fwithin_eq, Option.bind_some, if_pos (decide_eq_true hm), fwithin_eq, Option.bind_some, if_pos (decide_eq_true (by show (1 : Int) ≤ (l.length : Int) ∧ (l.length : Int) ≤ 4; omega))]
    refine tot_sum (tot_forM (fun _ _ => True) (fun _ => False) trivial fun j _ _ hj _ => ?_) (fun _ _ => tot_some rfl) fun _ h => h.elim
    unfold mFishref2JourneyFault_L599
    have hlt : j < l.length := by simpa using hj
    refine tot_idn hlt fun r hr => ?_
    have hok := hc.1 r (List.mem_of_getElem? hr)
    obtain ⟨⟨a, b⟩, c, e, f⟩ := hok
    rw [if_neg (by omega), Option.bind_some, if_neg (by simp; omega)]
    refine tot_eq (tr_idx (T := d.Trains) a b) ?_
    have hs := (hd.2.1 _ (tr_mem a b)).2.2.1
    rw [if_neg (by omega), if_neg (by omega), if_neg (by omega), Option.bind_some, if_neg (by simp; omega), if_neg (by omega)]
    refine tot_ite (fun _ => tot_some trivial) fun h0 => tot_chk (by omega) (by omega) ?_
    refine tot_idx (by omega) (by show (j : Int) - 1 < (l.length : Int); omega) fun p hp => ?_
    have hp : l[j - 1]? = some p := by rw [show ((j : Int) - 1).toNat = j - 1 by omega] at hp; exact hp
    have hr : l[j - 1 + 1]? = some r := by rw [show j - 1 + 1 = j by omega]; exact hr
    have hl := hc.2 _ _ _ hp hr
    have hpk := hc.1 p (List.mem_of_getElem? hp)
    have hi := (ride_in hd hpk).off_.2.1
    obtain ⟨⟨a', b'⟩, c', e', f'⟩ := hpk
    refine tot_bind (R := fun x => x = ((off d.Trains p).Station, (off d.Trains p).Track, (off d.Trains p).Arr, (off d.Trains p).Dep)) (tot_eq (tr_idx (T := d.Trains) a' b') (tot_eq (stp_idx (by omega) f') (tot_some rfl))) fun x hx => ?_
    subst hx
    show Tot (Option.bind _ _) _
    refine tot_bind (R := fun q => q = false) ?_ fun q' hq' => ?_
    · rw [if_neg (fun h => hl.1 h.symm)]
      refine tot_eq (stp_idx c (by omega)) (tot_some ?_)
      exact decide_eq_false fun h => h hl.2.1
    · subst hq'
      rw [if_neg (by decide)]
      refine tot_bind (R := fun q => q = false) ?_ fun q' hq' => ?_
      · rw [if_pos rfl]
        refine tot_eq (stp_idx c (by omega)) ?_
        have h3 := hl.2.2
        show Tot ((chk ((off d.Trains p).Arr + m)).bind _) _
        refine tot_chk (by omega) (by omega) (tot_some ?_)
        exact decide_eq_false (by show ¬ (on d.Trains r).Dep < (off d.Trains p).Arr + m; omega)
      · subst hq'
        rw [if_neg (by decide)]
        exact tot_some trivial
  obtain ⟨c, h, rfl⟩ := key
  exact h
theorem leaves_eq {r : GuideRide} (hc : Chain d.Trains m l) (h : l[0]? = some r) : mFishref2Leaves d (⟨l⟩ : GuideJourney) = some (on d.Trains r).Dep := by
  obtain ⟨⟨a, b⟩, c, e, f⟩ := hc.1 r (List.mem_of_getElem? h)
  unfold mFishref2Leaves
  rw [show idx (⟨l⟩ : GuideJourney).Rides 0 = some r from idx_nat (j := 0) h, Option.bind_some, tr_idx a b, Option.bind_some, stp_idx c (by omega)]
  rfl
end
/- ==== GH ==== -/
set_option maxRecDepth 4000

theorem ordM_one {α τ : Type} {f : List α → Option τ} {x : α} {t : τ} (h : f [x] = some t) : ordM f [x] = some t := ordM_of fun p hp => by rw [List.perm_singleton.1 hp]; exact h
theorem ordM_nil {α τ : Type} {f : List α → Option τ} {t : τ} (h : f [] = some t) : ordM f [] = some t := ordM_of fun p hp => by rw [List.perm_nil.1 hp]; exact h
def D1 : ApiDay := ⟨[(⟨1, 0, [(⟨0, 0, 5, 5⟩ : ApiStop), (⟨1, 0, 9, 9⟩ : ApiStop)], [[0]]⟩ : ApiTrain)], []⟩
def r1 : GuideRide := ⟨0, 0, 1⟩
def p1 : GuidePoint := ⟨5, 9, 1⟩
theorem d1_w : WDay D1 := by simp [D1, WDay, Lst, WTrain, WStop, I64]
theorem d1_f : FDay D1 := by simp [D1, FDay, FTrain]
theorem d1_n : NDay D1 := by simp [D1, NDay]
theorem d1_check : mGuideCheck D1 = some 0 := by
  obtain ⟨⟨b, c⟩, e1, _, e2⟩ := text_tot d1_w
  have e2 : c = 0 := e2 d1_f d1_n
  subst e2
  unfold mGuideCheck
  rw [e1]
  rfl
theorem d1_check2 : mGuideCheck_2 D1 0 0 1 [0] = some 0 := by
  unfold mGuideCheck_2 mGuideCheckLeast
  rw [d1_check]
  rfl
theorem ends1 : mGuideNetEnds (⟨D1, 0⟩ : GuideNet) [r1] = some ([(⟨0, 1⟩, true)], [], [], []) := rfl
def s1 : List (GuidePoint × Bool) × List GuidePoint := ([(p1, true)], [p1])
theorem points_step {n : GuideNet} {d : Int} {c : Int × List GuideRide} {s0 s1 s2 s3 s4 : List (GuidePoint × Bool) × List GuidePoint} {g h i j : List (GuidePlace × Bool)} (he : mGuideNetEnds n c.2 = some (g, h, i, j))
    (h1 : ordM (fun p => forL (mGuideNetPoints_L48340 n d c) p s0) g = some (.inl s1)) (h2 : ordM (fun p => forL (mGuideNetPoints_L49402 n d c) p s1) h = some (.inl s2))
    (h3 : ordM (fun p => forL (mGuideNetPoints_L50464 n d c) p s2) i = some (.inl s3)) (h4 : ordM (fun p => forL (mGuideNetPoints_L51526 n d c) p s3) j = some (.inl s4)) : mGuideNetPoints_L39155 n d c s0 = some (.inl s4) := by
  unfold mGuideNetPoints_L39155
  show (mGuideNetEnds n c.2).bind _ = _
  rw [he, Option.bind_some]
  show Option.bind (Option.bind (ordM (fun p => forL (mGuideNetPoints_L48340 n d c) p s0) g) _) _ = _
  rw [h1, Option.bind_some]
  show Option.bind (Option.bind (ordM (fun p => forL (mGuideNetPoints_L49402 n d c) p s1) h) _) _ = _
  rw [h2, Option.bind_some]
  show Option.bind (Option.bind (ordM (fun p => forL (mGuideNetPoints_L50464 n d c) p s2) i) _) _ = _
  rw [h3, Option.bind_some]
  show Option.bind (Option.bind (ordM (fun p => forL (mGuideNetPoints_L51526 n d c) p s3) j) _) _ = _
  rw [h4, Option.bind_some]
  rfl
theorem points_in : mGuideNetPoints_L39155 (⟨D1, 0⟩ : GuideNet) 1 (5, [r1]) ([], []) = some (.inl s1) :=
  points_step (c := (5, [r1])) (s0 := ([], [])) (s1 := s1) (s2 := s1) (s3 := s1) ends1 (ordM_one rfl) (ordM_nil rfl) (ordM_nil rfl) (ordM_nil rfl)
set_option maxRecDepth 100000 in
theorem bits1 : ∃ c, mBitsLen (IntKind.wrap .u64 (([p1] : List GuidePoint).length : Int)) = some c := ⟨1, by kernel_rfl⟩
theorem sort1 : mSlicesSortFunc [p1] = some [p1] := by
  obtain ⟨c, h1⟩ := bits1
  have h2 : mSlicesInsertionSortCmpFunc 0 1 [p1] = some [p1] := by
    unfold mSlicesInsertionSortCmpFunc
    show loopM _ _ = _
    exact loopM_last rfl
  have h3 : mSlicesPdqsortCmpFunc 0 1 c [p1] = some [p1] := by
    unfold mSlicesPdqsortCmpFunc
    refine loopM_last ?_
    unfold mSlicesPdqsortCmpFunc_L36
    show (mSlicesInsertionSortCmpFunc 0 1 [p1]).bind _ = _
    rw [h2]
    rfl
  unfold mSlicesSortFunc
  rw [h1, Option.bind_some]
  show (mSlicesPdqsortCmpFunc 0 1 c [p1]).bind _ = _
  rw [h3]
  rfl
theorem points1 : mGuideNetPoints (⟨D1, 0⟩ : GuideNet) 0 1 = some [p1] := by
  have key : Tot (mGuideNetPoints (⟨D1, 0⟩ : GuideNet) 0 1) (fun l => l = [p1]) := by
    have h : forL (mGuideNetPoints_L39155 (⟨D1, 0⟩ : GuideNet) 1) [((5 : Int), [r1])] ([], []) = some (.inl s1) := by
      unfold forL
      rw [points_in]
      rfl
    unfold mGuideNetPoints
    refine tot_eq (x := [r1]) rfl (tot_eq (x := .inl [((5 : Int), [r1])]) rfl ?_)
    refine tot_bind (R := fun l => l = [p1]) (tot_eq (ordM_one h) (tot_some rfl)) fun l hl => ?_
    subst hl
    exact tot_eq sort1 (tot_some rfl)
  obtain ⟨o, h, rfl⟩ := key
  exact h
theorem least1 : mGuideNetLeastOf (⟨D1, 0⟩ : GuideNet) 0 1 p1 = some [r1] := by
  have h : lim (fun N => mGuideNetLeastOf_1 N D1.Trains D1.Turns 0 5 9 1 1 [r1] []) = some ([r1], []) := by
    obtain ⟨t, h1, h2⟩ := lim_tot (f := fun N => mGuideNetLeastOf_1 N D1.Trains D1.Turns 0 5 9 1 1 [r1] []) (P := fun t => t = ([r1], [])) 1 fun N => by
      cases N with
      | zero => exact .inr ⟨by omega, rfl⟩
      | succ N => exact .inl ⟨_, rfl, rfl⟩
    rw [h1, h2]
  have key : Tot (mGuideNetLeastOf (⟨D1, 0⟩ : GuideNet) 0 1 p1) (fun l => l = [r1]) := by
    have h3 : Tot (mGuideNetLeastOf_L166 (⟨D1, 0⟩ : GuideNet) 1 p1 r1 []) (fun o => o = .inr [r1]) := by
      unfold mGuideNetLeastOf_L166
      refine tot_eq (x := (0, 0, 5, 5)) rfl ?_
      show Tot (if (5 : Int) ≠ 5 then (some (.inl []) : Option (List (List Int × Bool) ⊕ List GuideRide)) else (lim (fun N => mGuideNetLeastOf_1 N D1.Trains D1.Turns 0 5 9 1 1 [r1] [])).bind (unc2 fun (f : List GuideRide) i => if f.isEmpty = true then (some (.inl i) : Option (List (List Int × Bool) ⊕ List GuideRide)) else some (.inr f))) _
      rw [if_neg (by decide)]
      refine tot_eq h ?_
      show Tot (if ([r1] : List GuideRide).isEmpty = true then (some (.inl []) : Option (List (List Int × Bool) ⊕ List GuideRide)) else some (.inr [r1])) _
      rw [if_neg (by decide)]
      exact tot_some rfl
    obtain ⟨o, h3, rfl⟩ := h3
    have h4 : forL (mGuideNetLeastOf_L166 (⟨D1, 0⟩ : GuideNet) 1 p1) [r1] [] = some (.inr [r1]) := by
      unfold forL
      rw [h3]
    unfold mGuideNetLeastOf
    exact tot_eq (x := [r1]) rfl (tot_eq h4 (tot_some rfl))
  obtain ⟨o, h, rfl⟩ := key
  exact h
theorem earliest1 : mGuideEarliest D1 0 0 1 0 = some (0, [r1]) := by
  have hm : mSlicesMinFunc [p1] = some (5, 9, 1) := by
    unfold mSlicesMinFunc
    show (loopM (mSlicesMinFunc_L781 [p1]) (1, 5, 9, 1)).bind _ = _
    rw [loopM_last (t := (5, 9, 1)) rfl]
    rfl
  have he : mGuideNetEarliest (⟨D1, 0⟩ : GuideNet) 0 0 1 = some (true, [r1]) := by
    unfold mGuideNetEarliest
    rw [points1, Option.bind_some, show mSlicesDeleteFunc 0 [p1] = some [p1] from rfl, Option.bind_some, if_neg (by decide), hm, Option.bind_some]
    show (mGuideNetLeastOf (⟨D1, 0⟩ : GuideNet) 0 1 p1).bind _ = _
    rw [least1]
    rfl
  unfold mGuideEarliest
  rw [d1_check2, Option.bind_some, if_neg (by decide), he]
  rfl
theorem guides_yes : mFishkeep2Guides = some true := by
  unfold mFishkeep2Guides
  show (mGuideEarliest D1 0 0 1 0).bind _ = _
  rw [earliest1]
  rfl
theorem awake_yes : mFishkeep2AwakeGuide = some true := by
  unfold mFishkeep2AwakeGuide mGuideCheckJourney
  obtain ⟨c, h1, h2⟩ := least_tot (d := ⟨[], []⟩) (by simp [WDay, Lst]) (-1)
  have hc : c ≠ 0 := fun h => by have := (h2 h).2.1; omega
  rw [h1, Option.bind_some, if_pos hc, Option.bind_some, decide_eq_true hc]
/- ==== GT ==== -/
theorem put_same {α : Type} {l : List α} {i : Nat} {x : α} (h : l[i]? = some x) : put l (i : Int) x = l := by
  rw [put_nat]
  refine List.ext_getElem? fun j => ?_
  by_cases e : i = j
  · subst e
    rw [List.getElem?_set_self (List.getElem?_eq_some_iff.1 h).1, h]
  · rw [List.getElem?_set_ne e]
theorem put_get {α : Type} {l : List α} {i j : Nat} {x : α} (hi : i < l.length) : (put l (i : Int) x)[j]? = if i = j then some x else l[j]? := by
  rw [put_nat]
  by_cases e : i = j
  · subst e
    rw [List.getElem?_set_self hi, if_pos rfl]
  · rw [List.getElem?_set_ne e, if_neg e]
theorem bound_of {α : Type} {l : List α} {i : Nat} {x : α} (h : l[i]? = some x) : i < l.length := (List.getElem?_eq_some_iff.1 h).1
theorem get_of {α : Type} {l : List α} {i : Nat} (h : i < l.length) : ∃ x, l[i]? = some x := ⟨_, List.getElem?_eq_getElem h⟩
/- ---- a copy of a day ---- -/
theorem own_in {l : List (List Int)} {c : Nat} (hl : ∀ g ∈ l, g.length ≤ 1000) (h : c < l.length) : mGuideOwn_L2969 c l = some l := by
  obtain ⟨g, hg⟩ := get_of h
  unfold mGuideOwn_L2969 mSlicesClone_4
  rw [idx_nat hg, Option.bind_some, room_ok (by have := hl g (List.mem_of_getElem? hg); omega) (by have := hl g (List.mem_of_getElem? hg); omega), Option.bind_some, Option.bind_some, Option.bind_some, put_same hg]
theorem own_in2 : mGuideOwn_L3327 = mGuideOwn_L2969 := rfl
theorem own_ins {l : List (List Int)} (hl : ∀ g ∈ l, g.length ≤ 1000) : forS mGuideOwn_L2969 l.length 0 l = some l := by
  obtain ⟨t, h1, h2⟩ := tot_forS (body := mGuideOwn_L2969) (fun _ s => s = l) (m := l.length) (k := 0) (s := l) rfl fun j s _ hj hs => by
    rw [hs]
    exact ⟨l, own_in hl (by omega), rfl⟩
  rw [h1, h2]
theorem own_eq {d : ApiDay} (hf : FDay d) : mGuideOwn d = some (d.Trains, d.Turns) := by
  have ht : ∀ g ∈ d.Turns, g.length ≤ 1000 := fun g hg => by have := hf.2.2.2 g hg; omega
  have h1 := hf.1
  have h2 := hf.2.1
  unfold mGuideOwn mSlicesClone mSlicesClone_2
  rw [room_ok (by omega) (by omega), Option.bind_some, Option.bind_some, room_ok (by omega) (by omega), Option.bind_some, Option.bind_some, Option.bind_some]
  dsimp only [unc2]
  have key : forS mGuideOwn_L1931 d.Trains.length 0 d.Trains = some d.Trains := by
    obtain ⟨t, e1, e2⟩ := tot_forS (body := mGuideOwn_L1931) (fun _ s => s = d.Trains) (m := d.Trains.length) (k := 0) (s := d.Trains) rfl fun j s _ hj hs => by
      subst hs
      obtain ⟨t, htj⟩ := get_of (l := d.Trains) (i := j) (by omega)
      have f := hf.2.2.1 t (List.mem_of_getElem? htj)
      have hl : ∀ g ∈ t.Legs, g.length ≤ 1000 := fun g hg => by have := f.2.2.2 g hg; omega
      have f1 := f.1
      have f2 := f.2.1
      have f3 := f.2.2.1
      refine ⟨d.Trains, ?_, rfl⟩
      unfold mGuideOwn_L1931 mSlicesClone_3 mSlicesClone_2
      rw [idx_nat htj, Option.bind_some, room_ok (by omega) (by omega), Option.bind_some, Option.bind_some, room_ok (by omega) (by omega), Option.bind_some, Option.bind_some, Option.bind_some]
      dsimp only [unc2]
      rw [own_ins hl, Option.bind_some, put_same htj]
    rw [e1, e2]
  rw [key, Option.bind_some, own_in2, own_ins ht, Option.bind_some]
theorem check_f {d : ApiDay} (hw : WDay d) (h : mGuideCheck d = some 0) : FDay d := by
  obtain ⟨⟨b, c⟩, e1, e2, _⟩ := text_tot hw
  unfold mGuideCheck at h
  rw [e1, Option.bind_some] at h
  dsimp only [unc2] at h
  refine e2 ?_
  show c = 0
  refine Decidable.byContradiction fun hc => ?_
  rw [if_pos hc] at h
  injection h with h
  exact hc h
/- ---- a journey that is let by ---- -/
section
variable {d : ApiDay} {m : Int}
theorem journey_tot (hd : GDay d) (hm : 0 ≤ m ∧ m ≤ 28800) (l : List GuideRide) : Tot (mGuideNetJourney (⟨d, m⟩ : GuideNet) (⟨l⟩ : GuideJourney) true) (fun c => c = 0 → Chain d.Trains m l ∧ 1 ≤ l.length ∧ l.length ≤ 4) := by
  unfold mGuideNetJourney
  dsimp only
  rw [gwithin_eq, Option.bind_some]
  refine tot_ite (fun hl => ?_) fun _ => tot_some fun h => absurd h (by decide)
  have hl : 1 ≤ (l.length : Int) ∧ (l.length : Int) ≤ 4 := of_decide_eq_true hl
  refine tot_sum (tot_forM (fun k _ => (∀ i r, i < k → l[i]? = some r → RideOk d.Trains r) ∧ ∀ i a b, i + 1 < k → l[i]? = some a → l[i + 1]? = some b → Link d.Trains m a b) (fun r => r ≠ 0) ⟨fun i r hi => absurd hi (by omega), fun i a b hi => absurd hi (by omega)⟩ fun k _ _ hk ⟨i1, i2⟩ => ?_) (fun _ ⟨i1, i2⟩ => tot_some fun _ => ⟨⟨fun r hr => ?_, fun i a b ha hb => i2 i a b (by have := bound_of hb; omega) ha hb⟩, by omega, by omega⟩) fun r hr => tot_some fun h => absurd h hr
  · have hk : k < l.length := by
      have hk : k < 0 + l.length := hk
      omega
    have hT := hd.1
    unfold mGuideNetJourney_L428
    dsimp only
    refine tot_idn hk fun c hc => tot_chk (by omega) (by omega) ?_
    rw [gwithin_eq, Option.bind_some]
    refine tot_ite (fun ht => ?_) fun _ => tot_some (show (3 : Int) ≠ 0 by decide)
    have ht : 0 ≤ c.Train ∧ c.Train ≤ (d.Trains.length : Int) - 1 := of_decide_eq_true ht
    have t1 := tr_mem ht.1 (T := d.Trains) (t := c.Train) (by omega)
    have t2 := (hd.2.1 _ t1).2
    have t3 := t2.1
    have t4 := t2.2.1
    refine tot_eq (tr_idx ht.1 (by show c.Train < (d.Trains.length : Int); omega)) (tot_chk (by omega) (by omega) ?_)
    refine tot_bind (R := fun b => b = false → (0 ≤ c.On ∧ c.On ≤ ((tr d.Trains c.Train).Stops.length : Int) - 1) ∧ 0 ≤ c.Off ∧ c.Off ≤ ((tr d.Trains c.Train).Stops.length : Int) - 1) ?_ fun b hb => ?_
    · rw [gwithin_eq, Option.bind_some]
      refine tot_ite (fun h1 => ?_) fun _ => tot_some fun h => Bool.noConfusion h
      rw [gwithin_eq, Option.bind_some]
      refine tot_some fun h => ⟨of_decide_eq_true h1, of_decide_eq_true ?_⟩
      generalize decide (0 ≤ c.Off ∧ c.Off ≤ ((tr d.Trains c.Train).Stops.length : Int) - 1) = q at h ⊢
      cases q <;> simp_all
    refine tot_ite (fun _ => tot_some (show (3 : Int) ≠ 0 by decide)) fun hbf => ?_
    have hb := hb (bt hbf)
    refine tot_ite (fun _ => tot_some (show (1 : Int) ≠ 0 by decide)) fun hof => ?_
    have hr : RideOk d.Trains c := ⟨⟨ht.1, by omega⟩, hb.1.1, by omega, by omega⟩
    have n1 : ∀ i r, i < k + 1 → l[i]? = some r → RideOk d.Trains r := fun i r hi hir => by
      rcases Nat.lt_or_ge i k with h | h
      · exact i1 i r h hir
      · rw [show i = k by omega, hc] at hir
        injection hir with hir
        exact hir ▸ hr
    refine tot_ite (fun hk0 => tot_some ⟨n1, fun i a b hi => absurd hi (by omega)⟩) fun hk0 => ?_
    have hk0 : 0 < k := by omega
    obtain ⟨f, hf⟩ := get_of (l := l) (i := k - 1) (by omega)
    have hfr := i1 (k - 1) f (by omega) hf
    have e1 : ((k : Int) - 1) = ((k - 1 : Nat) : Int) := by omega
    refine tot_chk (by omega) (by omega) (tot_eq (by rw [e1]; exact idx_nat hf) ?_)
    refine tot_bind (R := fun b => b = false → c.Train ≠ f.Train ∧ (on d.Trains c).Station = (off d.Trains f).Station) ?_ fun b hb2 => ?_
    · refine tot_ite (fun _ => tot_some fun h => Bool.noConfusion h) fun hne => ?_
      refine tot_eq (on_eq (n := ⟨d, m⟩) hr) ?_
      dsimp only [unc4]
      refine tot_eq (off_eq (n := ⟨d, m⟩) hfr) ?_
      dsimp only [unc4]
      exact tot_some fun h => ⟨hne, Decidable.of_not_not (of_decide_eq_false h)⟩
    refine tot_ite (fun _ => tot_some (show (1 : Int) ≠ 0 by decide)) fun hb2f => ?_
    have hb2 := hb2 (bt hb2f)
    have f1 := (ride_in hd hfr).off_.2.1
    have f1 : 0 ≤ (off d.Trains f).Arr ∧ (off d.Trains f).Arr ≤ 28800 := f1
    refine tot_bind (R := fun b => b = false → (off d.Trains f).Arr + m ≤ (on d.Trains c).Dep) ?_ fun b hb3 => ?_
    · rw [if_pos rfl]
      refine tot_eq (on_eq (n := ⟨d, m⟩) hr) ?_
      dsimp only [unc4]
      refine tot_eq (off_eq (n := ⟨d, m⟩) hfr) ?_
      dsimp only [unc4]
      refine tot_chk (by omega) (by omega) (tot_some fun h => ?_)
      have h : ¬ ((on d.Trains c).Dep < (off d.Trains f).Arr + m) := of_decide_eq_false h
      omega
    refine tot_ite (fun _ => tot_some (show (13 : Int) ≠ 0 by decide)) fun hb3f => tot_some ⟨n1, fun i a b hi ha hb' => ?_⟩
    have hb3 := hb3 (bt hb3f)
    rcases Nat.lt_or_ge (i + 1) k with h | h
    · exact i2 i a b h ha hb'
    · have e2 : i = k - 1 := by omega
      subst e2
      rw [hf] at ha
      rw [show k - 1 + 1 = k by omega, hc] at hb'
      injection ha with ha
      injection hb' with hb'
      subst ha hb'
      exact ⟨hb2.1, hb2.2, hb3⟩
  · obtain ⟨i, h1, h2⟩ := List.mem_iff_getElem.1 hr
    exact i1 i r (by omega) (by rw [List.getElem?_eq_getElem h1, h2])
end
/- ---- the trains' numbers ---- -/
def NumOk (n : Nat) (q : List (Int × Int)) : Prop := ∀ no, mhas q no = true → 0 ≤ mgetD q no 0 ∧ mgetD q no 0 < (n : Int)
theorem numbers_eq {T : List ApiTrain} (hT : T.length ≤ 1000) : Tot (forS (mGuideDeskNews_2_L473 T) T.length 0 ([] : List (Int × Int))) (NumOk T.length) := by
  refine tot_imp (tot_forS (fun k q => NumOk k q) (fun no h => by simp [mhas, mget] at h) fun k q _ hk hq => ?_) fun q hq => by
    rw [Nat.zero_add] at hq
    exact hq
  unfold mGuideDeskNews_2_L473
  refine tot_idn (by omega) fun t ht => tot_some fun no h => ?_
  unfold mhas at h
  unfold mgetD
  by_cases e : no = t.No
  · subst e
    rw [mget_mput_same]
    show 0 ≤ (k : Int) ∧ (k : Int) < ((k + 1 : Nat) : Int)
    omega
  · rw [mget_mput_other _ _ e] at h ⊢
    have := hq no h
    unfold mgetD at this
    omega
/- ==== GU ==== -/
section
variable {d n : ApiDay} {m : Int}
theorem idx4_tot {o : List ApiStop} {r : GuideRide} (h : RideOk d.Trains r) (t : Int) (M : List GuideMessage) : Tot (mSlicesIndexFunc_4 o r.Train r.On r.Off d.Trains d.Turns m t M) (fun x => x = -1 ∨ ∃ j : Nat, x = (j : Int) ∧ j < o.length) := by
  unfold mSlicesIndexFunc_4
  refine tot_sum (tot_forM (fun _ _ => True) (fun x => ∃ j : Nat, x = (j : Int) ∧ j < o.length) trivial fun k _ _ hk _ => ?_) (fun _ _ => tot_some (.inl rfl)) fun x hx => tot_some (.inr hx)
  have hk : k < o.length := by omega
  unfold mSlicesIndexFunc_4_L69 mGuideDeskFind_1_2
  refine tot_idn hk fun s hs => ?_
  refine tot_bind (R := fun _ => True) (tot_eq (on_eq (n := ⟨d, m⟩) h) ?_) fun b _ => tot_ite (fun _ => tot_some ⟨k, rfl, hk⟩) fun _ => tot_some trivial
  dsimp only [unc4]
  exact tot_some trivial
theorem idx5_tot {o : List ApiStop} {r : GuideRide} (h : RideOk d.Trains r) (t : Int) (M : List GuideMessage) : Tot (mSlicesIndexFunc_5 o r.Train r.On r.Off d.Trains d.Turns m t M) (fun x => x = -1 ∨ ∃ (j : Nat) (s : ApiStop), x = (j : Int) ∧ o[j]? = some s ∧ s.Station = (off d.Trains r).Station) := by
  unfold mSlicesIndexFunc_5
  refine tot_sum (tot_forM (fun _ _ => True) (fun x => ∃ (j : Nat) (s : ApiStop), x = (j : Int) ∧ o[j]? = some s ∧ s.Station = (off d.Trains r).Station) trivial fun k _ _ hk _ => ?_) (fun _ _ => tot_some (.inl rfl)) fun x hx => tot_some (.inr hx)
  have hk : k < o.length := by omega
  unfold mSlicesIndexFunc_5_L69 mGuideDeskFind_2_2
  refine tot_idn hk fun s hs => ?_
  refine tot_bind (R := fun b => b = true → s.Station = (off d.Trains r).Station) (tot_eq (off_eq (n := ⟨d, m⟩) h) ?_) fun b hb => tot_ite (fun e => tot_some ⟨k, s, rfl, hs, hb e⟩) fun _ => tot_some trivial
  dsimp only [unc4]
  exact tot_some fun h => of_decide_eq_true h
/-- A ride of the newer day that ends where the old one did. -/
def Same (T T' : List ApiTrain) (r x : GuideRide) : Prop := RideOk T' x ∧ (off T' x).Station = (off T r).Station
theorem find_tot (hd : GDay d) (hn : GDay n) {r : GuideRide} (h : RideOk d.Trains r) {q : List (Int × Int)} (hq : NumOk n.Trains.length q) (t : Int) (M : List GuideMessage) :
    Tot (mGuideDeskFind_3 n r d.Trains d.Turns m t q M) (fun x => x.2.2.2 = true → Same d.Trains n.Trains r ⟨x.1, x.2.1, x.2.2.1⟩) := by
  unfold mGuideDeskFind_3
  refine tot_eq (tr_idx h.1.1 h.1.2) ?_
  rw [Option.bind_some]
  refine tot_ite (fun hh => ?_) fun _ => tot_some fun e => Bool.noConfusion e
  have hm := hq _ hh
  generalize mgetD q (tr d.Trains r.Train).No 0 = x at hm ⊢
  have t1 := (hn.2.1 _ (tr_mem hm.1 hm.2)).2
  have t2 := t1.1
  have t3 := t1.2.1
  generalize hD : tr n.Trains x = D at t2 t3
  refine tot_eq (x := D) (by rw [tr_idx hm.1 hm.2, hD]) (tot_chk (by omega) (by omega) ?_)
  refine tot_eq (x := (D.Stops.take (D.Stops.length - 1)).drop 0) ?_ ?_
  · rw [show ((D.Stops.length : Int) - 1) = ((D.Stops.length - 1 : Nat) : Int) by omega]
    exact cutS_ok (a := 0) (Nat.zero_le _) (by omega)
  rw [List.drop_zero]
  refine tot_bind (idx4_tot h t M) fun c hc => ?_
  refine tot_ite (fun _ => tot_some fun e => Bool.noConfusion e) fun hc0 => ?_
  rcases hc with hc | ⟨j, hc, hj⟩
  · omega
  subst hc
  rw [List.length_take] at hj
  refine tot_chk (by omega) (by omega) (tot_eq (x := (D.Stops.take D.Stops.length).drop (j + 1)) ?_ ?_)
  · exact cutS_ok (a := j + 1) (by omega) (Nat.le_refl _)
  rw [List.take_length]
  refine tot_bind (idx5_tot h t M) fun f hf => ?_
  have hfb : -1 ≤ f ∧ f ≤ 1000 := by
    rcases hf with hf | ⟨k, s, hf, hs, _⟩
    · omega
    · have := bound_of hs
      rw [List.length_drop] at this
      omega
  refine tot_chk (by omega) (by omega) (tot_chk (by omega) (by omega) (tot_some fun e => ?_))
  have e : 0 ≤ f := of_decide_eq_true e
  rcases hf with hf | ⟨k, s, hf, hs, hst⟩
  · omega
  subst hf
  rw [List.getElem?_drop] at hs
  have hk := bound_of hs
  have hr : RideOk n.Trains ⟨x, (j : Int), (j : Int) + 1 + (k : Int)⟩ := by
    refine ⟨hm, by show (0 : Int) ≤ (j : Int); omega, by show (j : Int) < (j : Int) + 1 + (k : Int); omega, ?_⟩
    show (j : Int) + 1 + (k : Int) < ((tr n.Trains x).Stops.length : Int)
    rw [hD]
    omega
  refine ⟨hr, ?_⟩
  have h5 := stp_at (T := n.Trains) (t := x) (k := (j : Int) + 1 + (k : Int)) (by omega) (by rw [hD]; omega)
  rw [hD, show ((j : Int) + 1 + (k : Int)).toNat = j + 1 + k by omega, hs] at h5
  injection h5 with h5
  show (stp n.Trains x ((j : Int) + 1 + (k : Int))).Station = _
  rw [← h5, hst]
/- ---- the rides of a promise in a newer day ---- -/
def ClearOk (T : List ApiTrain) (rides : List GuideRide) (over : List Bool) : Prop := ∀ (i : Nat) (r : GuideRide), rides[i]? = some r → over[i]? = some false → RideOk T r
def Found (T T' : List ApiTrain) (rides : List GuideRide) (over : List Bool) (found : List GuideRide) (k : Nat) : Prop := found.length = rides.length ∧ ∀ (i : Nat) (r x : GuideRide), i < k → rides[i]? = some r → over[i]? = some false → found[i]? = some x → Same T T' r x
def Range (l : List Int) : Prop := ∀ (i : Nat) (x : Int), l[i]? = some x → 0 ≤ x ∧ x ≤ 28800
theorem look_tot (hd : GDay d) (hn : GDay n) (hm : 0 ≤ m ∧ m ≤ 28800) {rides : List GuideRide} {over begun : List Bool} {arrived ends : List Int} (h4 : rides.length ≤ 4) (ho : over.length = rides.length) (hb : begun.length = rides.length) (ha : arrived.length = rides.length)
    (hc : ClearOk d.Trains rides over) (hr : Range arrived) {q : List (Int × Int)} (hq : NumOk n.Trains.length q) (t x1 x2 x3 x4 x5 x6 x7 : Int) (M : List GuideMessage) :
    Tot (mGuideDeskLook_2 (⟨n, m⟩ : GuideNet) d.Trains d.Turns m t x1 x2 x3 x4 x5 rides x6 x7 q begun M over arrived ends) (fun y => (y.1 = -1 ∧ Found d.Trains n.Trains rides over y.2.2 rides.length) ∨ ((0 ≤ y.1 ∧ y.1 ≤ 4) ∧ (y.2.1 = 1 ∨ y.2.1 = 2))) := by
  unfold mGuideDeskLook_2 mSlicesClone_5
  rw [room_ok (by omega) (by omega), Option.bind_some, Option.bind_some]
  refine tot_sum (tot_forM (fun k f => Found d.Trains n.Trains rides over f k) (fun y => (0 ≤ y.1 ∧ y.1 ≤ 4) ∧ (y.2.1 = 1 ∨ y.2.1 = 2)) ⟨rfl, fun i r x hi => absurd hi (by omega)⟩ fun k c _ hk ⟨c1, c2⟩ => ?_) (fun f hf => tot_some (.inl ⟨rfl, by rw [Nat.zero_add] at hf; exact hf⟩)) fun y hy => tot_some (.inr hy)
  have hk : k < rides.length := by omega
  unfold mGuideDeskLook_2_L912
  refine tot_idn hk fun s hs => tot_idn (by omega) fun v hv => ?_
  refine tot_ite (fun e => tot_some ⟨c1, fun i r x hi h1 h2 h3 => ?_⟩) fun e => ?_
  · rcases Nat.lt_or_ge i k with h | h
    · exact c2 i r x h h1 h2 h3
    · rw [show i = k by omega, hv, e] at h2
      cases h2
  have e := bt e
  subst e
  have hsr := hc k s hs hv
  refine tot_bind (find_tot (m := m) hd hn hsr hq t M) fun ⟨a1, a2, a3, a4⟩ hx => ?_
  dsimp only at hx
  dsimp only [unc4]
  refine tot_ite (fun e => ?_) fun _ => tot_some (show (0 ≤ (k : Int) ∧ (k : Int) ≤ 4) ∧ ((1 : Int) = 1 ∨ (1 : Int) = 2) from ⟨by omega, .inl rfl⟩)
  have hx := hx e
  have step : Found d.Trains n.Trains rides over (put c (k : Int) (⟨a1, a2, a3⟩ : GuideRide)) (k + 1) := by
    refine ⟨by rw [put_length]; exact c1, fun i r x hi h1 h2 h3 => ?_⟩
    rw [put_get (by omega)] at h3
    by_cases e2 : k = i
    · subst e2
      rw [if_pos rfl] at h3
      injection h3 with h3
      rw [hs] at h1
      injection h1 with h1
      subst h1 h3
      exact hx
    · rw [if_neg e2] at h3
      exact c2 i r x (by omega) h1 h2 h3
  refine tot_idn (by omega) fun _ _ => ?_
  refine tot_bind (R := fun w => w = false → 0 < k) ?_ fun w hw => ?_
  · refine tot_idn (by omega) fun b _ => tot_ite (fun _ => tot_some fun h => Bool.noConfusion h) fun _ => tot_some fun h => ?_
    have h : ¬ ((k : Int) = 0) := of_decide_eq_false h
    omega
  refine tot_ite (fun _ => tot_some step) fun hwf => ?_
  have hk0 := hw (bt hwf)
  have e1 : ((k : Int) - 1) = ((k - 1 : Nat) : Int) := by omega
  obtain ⟨x, hx1⟩ := get_of (l := arrived) (i := k - 1) (by omega)
  obtain ⟨y, hy1⟩ := get_of (l := over) (i := k - 1) (by omega)
  obtain ⟨z, hz1⟩ := get_of (l := put c (k : Int) (⟨a1, a2, a3⟩ : GuideRide)) (i := k - 1) (by rw [put_length]; omega)
  obtain ⟨s1, hs1⟩ := get_of (l := rides) (i := k - 1) (by omega)
  have xr := hr _ _ hx1
  refine tot_chk (by omega) (by omega) (tot_eq (by rw [e1]; exact idx_nat hx1) ?_)
  refine tot_bind (R := fun j => 0 ≤ j ∧ j ≤ 28800) ?_ fun j hj => ?_
  · refine tot_chk (by omega) (by omega) (tot_eq (by rw [e1]; exact idx_nat hy1) ?_)
    refine tot_ite (fun _ => tot_some xr) fun hyf => ?_
    have hyf := bt hyf
    subst hyf
    have hzr := (step.2 (k - 1) s1 z (by omega) hs1 hy1 hz1).1
    refine tot_chk (by omega) (by omega) (tot_eq (by rw [e1]; exact idx_nat hz1) ?_)
    refine tot_eq (off_eq (n := ⟨n, m⟩) hzr) ?_
    dsimp only [unc4]
    have f1 := (ride_in hn hzr).off_.2.1
    exact tot_some f1
  · have g1 := (ride_in hn hx.1).on_.2.2.1
    refine tot_eq (on_eq (n := ⟨n, m⟩) hx.1) ?_
    dsimp only [unc4]
    refine tot_chk (by omega) (by omega) (tot_ite (fun _ => tot_some (show (0 ≤ (k : Int) ∧ (k : Int) ≤ 4) ∧ ((2 : Int) = 1 ∨ (2 : Int) = 2) from ⟨by omega, .inr rfl⟩)) fun _ => tot_some step)
/- ---- where the traveller can go on ---- -/
theorem index_tot (p : List Bool) : Tot (mSlicesIndex p true) (fun x => x = -1 ∨ ∃ j : Nat, x = (j : Int) ∧ p[j]? = some true) := by
  unfold mSlicesIndex
  refine tot_sum (tot_forM (fun _ _ => True) (fun x => ∃ j : Nat, x = (j : Int) ∧ p[j]? = some true) trivial fun k _ _ hk _ => ?_) (fun _ _ => tot_some (.inl rfl)) fun x hx => tot_some (.inr hx)
  unfold mSlicesIndex_L39
  refine tot_idn (by omega) fun b hb => tot_ite (fun e => tot_some ⟨k, rfl, ?_⟩) fun _ => tot_some trivial
  have e : true = b := of_decide_eq_true e
  rw [hb, ← e]
theorem leave_tot (hn : GDay n) {rides : List GuideRide} {over begun : List Bool} {arrived ends : List Int} (ho : over.length = rides.length) (hb : begun.length = rides.length) (he : ends.length = rides.length)
    (hc : ClearOk d.Trains rides over) (hbo : ∀ i : Nat, begun[i]? = some true → over[i]? = some false) {q : List (Int × Int)} (hq : NumOk n.Trains.length q) (at_ t x1 x2 x3 x4 x5 x6 x7 : Int) (M : List GuideMessage) :
    Tot (mGuideDeskLeave_2 n at_ d.Trains d.Turns m t x1 x2 x3 x4 x5 rides x6 x7 q begun M over arrived ends) (fun y => y.1 = 2) := by
  unfold mGuideDeskLeave_2
  refine tot_bind (index_tot begun) fun f hf => tot_ite (fun h0 => ?_) fun _ => ?_
  · rcases hf with hf | ⟨j, hf, hj⟩
    · omega
    subst hf
    obtain ⟨g, hg⟩ := get_of (l := rides) (i := j) (by have := bound_of hj; omega)
    have hr := hc j g hg (hbo j hj)
    refine tot_eq (idx_nat hg) ?_
    refine tot_bind (R := fun _ => True) (tot_eq (on_eq (n := ⟨d, m⟩) hr) ?_) fun u _ => ?_
    · dsimp only [unc4]
      exact tot_some trivial
    refine tot_sum (I := fun _ => True) (R := fun y => y.1 = 2) ?_ (fun _ _ => tot_some rfl) fun y hy => tot_some hy
    refine tot_eq (tr_idx hr.1.1 hr.1.2) ?_
    rw [Option.bind_some]
    refine tot_ite (fun hh => ?_) fun _ => tot_some (P := Sum.elim _ _) trivial
    have hm := hq _ hh
    generalize mgetD q (tr d.Trains g.Train).No 0 = x at hm ⊢
    have t1 := (hn.2.1 _ (tr_mem hm.1 hm.2)).2
    have t2 := t1.1
    refine tot_eq (tr_idx hm.1 hm.2) ?_
    refine tot_eq (cutS_ok (a := 1) (by omega) (Nat.le_refl _)) ?_
    refine tot_sum (tot_forM (fun _ _ => True) (fun y => Sum.elim (fun _ : Unit => True) (fun y : Int × Int × Int => y.1 = 2) y) trivial fun k _ _ hk _ => ?_) (fun _ _ => tot_some (P := Sum.elim _ _) trivial) fun y hy => tot_some hy
    unfold mGuideDeskLeave_2_L710
    refine tot_idn (by omega) fun s _ => tot_ite (fun _ => ?_) fun _ => tot_some (P := Sum.elim _ _) trivial
    rw [Option.bind_some]
    exact tot_some (P := Sum.elim _ _) rfl
  · refine tot_bind (R := fun _ => True) (tot_imp (tot_forS (fun _ _ => True) trivial fun k e _ hk _ => ?_) fun _ _ => trivial) fun x _ => tot_some rfl
    unfold mGuideDeskLeave_2_L753
    refine tot_idn (by omega) fun b _ => tot_ite (fun _ => tot_idn (by omega) fun g _ => tot_some trivial) fun _ => tot_some trivial
end
/- ==== GW ==== -/
/- ---- messages that break a promise ---- -/
def brk (x : GuideMessage) : Bool := decide (x.Kind = 1) || decide (x.Kind = 2)
def cnt (l : List GuideMessage) (i : Int) : Nat := (l.filter fun x => decide (x.Promise = i) && brk x).length
theorem cnt_none {l : List GuideMessage} {i : Int} (h : ∀ x ∈ l, brk x = false) : cnt l i = 0 := by
  unfold cnt
  rw [List.filter_eq_nil_iff.2 fun x hx => by rw [h x hx]; simp]
  rfl
theorem cnt_other {l : List GuideMessage} {i j : Int} (h : ∀ x ∈ l, x.Promise = j) (hij : j ≠ i) : cnt l i = 0 := by
  unfold cnt
  rw [List.filter_eq_nil_iff.2 fun x hx => by rw [h x hx, decide_eq_false hij]; simp]
  rfl
theorem cnt_app (a b : List GuideMessage) (i : Int) : cnt (a ++ b) i = cnt a i + cnt b i := by
  unfold cnt
  rw [List.filter_append, List.length_append]
theorem cnt_le (a : List GuideMessage) (i : Int) : cnt a i ≤ a.length := List.length_filter_le _ _
/- ---- promises ---- -/
structure POk (T : List ApiTrain) (p : GuidePromise0) : Prop where
  n : 1 ≤ p.Promise.Journey.Rides.length ∧ p.Promise.Journey.Rides.length ≤ 4
  lo : p.over.length = p.Promise.Journey.Rides.length
  la : p.arrived.length = p.Promise.Journey.Rides.length
  le : p.ends.length = p.Promise.Journey.Rides.length
  ra : Range p.arrived
  clear : p.Promise.State = 1 → ClearOk T p.Promise.Journey.Rides p.over
  last : p.Promise.State = 1 → p.over[p.Promise.Journey.Rides.length - 1]? = some false
  to : p.Promise.State = 1 → ∀ r, p.Promise.Journey.Rides[p.Promise.Journey.Rides.length - 1]? = some r → (off T r).Station = p.Promise.To
theorem POk.shut {T T' : List ApiTrain} {p : GuidePromise0} (h : POk T p) (hs : p.Promise.State ≠ 1) : POk T' p := ⟨h.n, h.lo, h.la, h.le, h.ra, fun e => absurd e hs, fun e => absurd e hs, fun e => absurd e hs⟩
structure PassOk (T : List ApiTrain) (p p' : GuidePromise0) (at_ f : Int) (l : List GuideMessage) : Prop where
  ok : POk T p'
  dep : p'.Promise.Dep = p.Promise.Dep
  arr : p'.Promise.Arr = p.Promise.Arr
  ats : ∀ x ∈ l, x.At = at_ ∧ x.Promise = f
  few : l.length ≤ 5
  cnt : (p'.Promise.State = 2 ∧ cnt l f = 1) ∨ (p'.Promise.State ≠ 2 ∧ cnt l f = 0)
section
variable {d n : ApiDay} {m : Int}
structure Loop (p : GuidePromise0) (N k : Nat) (s : List Bool × List Bool × List Int × List Int) : Prop where
  l1 : s.1.length = N
  l2 : s.2.1.length = N
  l3 : s.2.2.1.length = N
  l4 : s.2.2.2.length = N
  ra : Range s.2.2.1
  bo : ∀ i : Nat, s.1[i]? = some true → s.2.1[i]? = some false
  bk : ∀ i : Nat, s.1[i]? = some true → i < k
  ov : ∀ i : Nat, s.2.1[i]? = some false → p.over[i]? = some false
theorem over_tot (hd : GDay d) {p : GuidePromise0} (h : POk d.Trains p) (hs : p.Promise.State = 1) (at_ : Int) :
    Tot (forS (mGuideDeskPass_2_L1533 d.Trains d.Turns at_ m p) p.Promise.Journey.Rides.length 0 (List.replicate p.over.length (false : Bool), p.over, p.arrived, p.ends)) (Loop p p.Promise.Journey.Rides.length p.Promise.Journey.Rides.length) := by
  have hlo := h.lo
  have hn := h.n
  refine tot_imp (tot_forS (Loop p p.Promise.Journey.Rides.length) ⟨by show (List.replicate p.over.length false).length = _; rw [List.length_replicate, hlo], hlo, h.la, h.le, h.ra, fun i e => ?_, fun i e => ?_, fun i e => e⟩ fun k ⟨b, o, a, e⟩ _ hk hI => ?_) fun s hs => by rw [Nat.zero_add] at hs; exact hs
  · have e : (List.replicate p.over.length false)[i]? = some true := e
    rw [List.getElem?_replicate] at e
    split at e <;> cases e
  · have e : (List.replicate p.over.length false)[i]? = some true := e
    rw [List.getElem?_replicate] at e
    split at e <;> cases e
  · obtain ⟨l1, l2, l3, l4, ra, bo, bk, ov⟩ := hI
    dsimp only at l1 l2 l3 l4 ra bo bk ov
    have hk : k < p.Promise.Journey.Rides.length := by omega
    unfold mGuideDeskPass_2_L1533
    dsimp only [unc4]
    refine tot_idn hk fun r hr => tot_idn (by omega) fun v hv => ?_
    refine tot_ite (fun _ => tot_some ⟨l1, l2, l3, l4, ra, bo, fun i hi => Nat.lt_succ_of_lt (bk i hi), ov⟩) fun hvf => ?_
    have hvf := bt hvf
    subst hvf
    have hro := h.clear hs k r hr (ov k hv)
    refine tot_eq (off_eq (n := ⟨d, m⟩) hro) ?_
    dsimp only [unc4]
    refine tot_ite (fun _ => ?_) fun _ => ?_
    · refine tot_idn (by omega) fun _ _ => tot_idn (by omega) fun _ _ => tot_idn (by omega) fun _ _ => tot_some ⟨l1, by show (put o (k : Int) true).length = _; rw [put_length]; exact l2, by show (put a (k : Int) _).length = _; rw [put_length]; exact l3, by show (put e (k : Int) _).length = _; rw [put_length]; exact l4, fun i x hx => ?_, fun i hi => ?_, fun i hi => Nat.lt_succ_of_lt (bk i hi), fun i hi => ?_⟩
      · have hx : (put a (k : Int) (off d.Trains r).Arr)[i]? = some x := hx
        rw [put_get (by omega)] at hx
        by_cases e2 : k = i
        · rw [if_pos e2] at hx
          injection hx with hx
          have f1 := (ride_in hd hro).off_.2.1
          rw [← hx]
          exact f1
        · rw [if_neg e2] at hx
          exact ra i x hx
      · have hi : b[i]? = some true := hi
        show (put o (k : Int) true)[i]? = some false
        rw [put_get (by omega), if_neg (by have := bk i hi; omega)]
        exact bo i hi
      · have hi : (put o (k : Int) true)[i]? = some false := hi
        rw [put_get (by omega)] at hi
        by_cases e2 : k = i
        · rw [if_pos e2] at hi
          cases hi
        · rw [if_neg e2] at hi
          exact ov i hi
    · refine tot_eq (on_eq (n := ⟨d, m⟩) hro) ?_
      dsimp only [unc4]
      refine tot_idn (by omega) fun _ _ => tot_some ⟨by show (put b (k : Int) _).length = _; rw [put_length]; exact l1, l2, l3, l4, ra, fun i hi => ?_, fun i hi => ?_, ov⟩
      · have hi : (put b (k : Int) (decide ((on d.Trains r).Dep ≤ at_)))[i]? = some true := hi
        rw [put_get (by omega)] at hi
        by_cases e2 : k = i
        · rw [← e2]
          exact hv
        · rw [if_neg e2] at hi
          exact bo i hi
      · have hi : (put b (k : Int) (decide ((on d.Trains r).Dep ≤ at_)))[i]? = some true := hi
        rw [put_get (by omega)] at hi
        by_cases e2 : k = i
        · omega
        · rw [if_neg e2] at hi
          exact Nat.lt_succ_of_lt (bk i hi)
theorem moved_tot (hd : GDay d) (hn : GDay n) {p : GuidePromise0} (hN : p.Promise.Journey.Rides.length ≤ 4) {begun over : List Bool} {found : List GuideRide} (lb : begun.length = p.Promise.Journey.Rides.length) (lo : over.length = p.Promise.Journey.Rides.length)
    (hc : ClearOk d.Trains p.Promise.Journey.Rides over) (hf : Found d.Trains n.Trains p.Promise.Journey.Rides over found p.Promise.Journey.Rides.length) (f at_ : Int) :
    Tot (forS (mGuideDeskPass_2_L2302 d.Trains d.Turns (⟨n, m⟩ : GuideNet) f at_ m begun over found p) p.Promise.Journey.Rides.length 0 ([] : List GuideMessage)) (fun l => l.length ≤ 4 ∧ ∀ x ∈ l, (x.At = at_ ∧ x.Promise = f) ∧ x.Kind = 4) := by
  refine tot_imp (tot_forS (fun k (l : List GuideMessage) => l.length ≤ k ∧ ∀ x ∈ l, (x.At = at_ ∧ x.Promise = f) ∧ x.Kind = 4) ⟨Nat.le_refl _, fun x hx => by cases hx⟩ fun k l _ hk ⟨h1, h2⟩ => ?_) fun l ⟨h1, h2⟩ => ⟨by omega, h2⟩
  have hk : k < p.Promise.Journey.Rides.length := by omega
  have keep : l.length ≤ k + 1 ∧ ∀ x ∈ l, (x.At = at_ ∧ x.Promise = f) ∧ x.Kind = 4 := ⟨by omega, h2⟩
  unfold mGuideDeskPass_2_L2302
  refine tot_idn hk fun r hr => ?_
  refine tot_bind (R := fun b => b = false → over[k]? = some false) ?_ fun b hb => ?_
  · refine tot_idn (by omega) fun v hv => tot_ite (fun _ => tot_some fun h => Bool.noConfusion h) fun hvf => tot_idn (by omega) fun w _ => tot_some fun _ => by rw [hv, bt hvf]
  refine tot_ite (fun _ => tot_some keep) fun hbf => ?_
  have hov := hb (bt hbf)
  have hro := hc k r hr hov
  obtain ⟨x, hx⟩ := get_of (l := found) (i := k) (by rw [hf.1]; exact hk)
  have hxo := (hf.2 k r x hk hr hov hx).1
  refine tot_eq (idx_nat hx) (tot_eq (on_eq (n := ⟨n, m⟩) hxo) ?_)
  dsimp only [unc4]
  refine tot_eq (on_eq (n := ⟨d, m⟩) hro) ?_
  dsimp only [unc4]
  refine tot_ite (fun _ => tot_room (by omega) (by omega) (tot_some ⟨by rw [List.length_append]; simp only [List.length_cons, List.length_nil]; omega, fun y hy => ?_⟩)) fun _ => tot_some keep
  rcases List.mem_append.1 hy with hy | hy
  · exact h2 y hy
  · rw [List.mem_singleton.1 hy]
    exact ⟨⟨rfl, rfl⟩, rfl⟩
theorem pass_tot (hd : GDay d) (hn : GDay n) (hm : 0 ≤ m ∧ m ≤ 28800) {ps : List GuidePromise0} {f : Nat} {p : GuidePromise0} (hp : ps[f]? = some p) (hs : p.Promise.State = 1) (h : POk d.Trains p) {q : List (Int × Int)} (hq : NumOk n.Trains.length q) (at_ t : Int) (M : List GuideMessage) :
    Tot (mGuideDeskPass_2 (f : Int) (⟨n, m⟩ : GuideNet) at_ d.Trains d.Turns m t q ps M) (fun y => ∃ p', y.2 = put ps (f : Int) p' ∧ PassOk n.Trains p p' at_ (f : Int) y.1) := by
  have hN := h.n
  have hlo := h.lo
  unfold mGuideDeskPass_2
  refine tot_eq (idx_nat hp) (tot_eq (mkLen_ok (m := p.over.length) (by omega) (by omega)) ?_)
  refine tot_bind (over_tot (m := m) hd h hs at_) fun ⟨b, o, a, e⟩ hL => ?_
  obtain ⟨l1, l2, l3, l4, ra, bo, bk, ov⟩ := hL
  dsimp only at l1 l2 l3 l4 ra bo bk ov
  dsimp only [unc4]
  have hc : ClearOk d.Trains p.Promise.Journey.Rides o := fun i r h1 h2 => h.clear hs i r h1 (ov i h2)
  have e1 : ((o.length : Int) - 1) = ((o.length - 1 : Nat) : Int) := by omega
  obtain ⟨v, hv⟩ := get_of (l := o) (i := o.length - 1) (by omega)
  refine tot_chk (by omega) (by omega) (tot_eq (by rw [e1]; exact idx_nat hv) ?_)
  refine tot_ite (fun _ => tot_some ⟨_, rfl, ⟨h.n, l2, l3, l4, ra, fun e => ?_, fun e => ?_, fun e => ?_⟩, rfl, rfl, fun x hx => (by cases hx), by simp, .inr ⟨by show (3 : Int) ≠ 2; decide, rfl⟩⟩) fun hvf => ?_
  · exact absurd (show (3 : Int) = 1 from e) (by decide)
  · exact absurd (show (3 : Int) = 1 from e) (by decide)
  · exact absurd (show (3 : Int) = 1 from e) (by decide)
  have hvf := bt hvf
  subst hvf
  refine tot_bind (look_tot hd hn hm hN.2 l2 l1 l3 hc ra hq t _ _ _ _ _ _ _ M) fun ⟨s, w, fd⟩ hy => ?_
  dsimp only at hy
  dsimp only [unc3]
  refine tot_ite (fun h0 => ?_) fun h0 => ?_
  · rcases hy with ⟨hy, _⟩ | ⟨_, hw⟩
    · omega
    refine tot_bind (leave_tot (m := m) hn l2 l1 l4 hc bo hq at_ t _ _ _ _ _ _ _ M) fun ⟨x, y, z⟩ hx => ?_
    have hx : x = 2 := hx
    subst hx
    dsimp only [unc3]
    refine tot_some ⟨_, rfl, ⟨h.n, l2, l3, l4, ra, fun e => ?_, fun e => ?_, fun e => ?_⟩, rfl, rfl, fun x hx => ?_, by simp, .inl ⟨rfl, ?_⟩⟩
    · exact absurd (show (2 : Int) = 1 from e) (by decide)
    · exact absurd (show (2 : Int) = 1 from e) (by decide)
    · exact absurd (show (2 : Int) = 1 from e) (by decide)
    · rw [List.mem_singleton.1 hx]
      exact ⟨rfl, rfl⟩
    · unfold cnt brk
      rcases hw with rfl | rfl <;> simp
  · rcases hy with ⟨_, hF⟩ | ⟨hy, _⟩
    · refine tot_bind (moved_tot (m := m) hd hn hN.2 l1 l2 hc hF (f : Int) at_) fun ms ⟨hms, hk⟩ => ?_
      have hfl := hF.1
      have e2 : ((fd.length : Int) - 1) = ((p.Promise.Journey.Rides.length - 1 : Nat) : Int) := by omega
      obtain ⟨A, hA⟩ := get_of (l := fd) (i := p.Promise.Journey.Rides.length - 1) (by omega)
      obtain ⟨B, hB⟩ := get_of (l := p.Promise.Journey.Rides) (i := p.Promise.Journey.Rides.length - 1) (by omega)
      rw [l2] at hv
      have hAs := hF.2 _ B A (by omega) hB hv hA
      have hBo := hc _ B hB hv
      refine tot_chk (by omega) (by omega) ?_
      refine tot_bind (R := fun (l : List GuideMessage) => l.length ≤ 5 ∧ ∀ x ∈ l, (x.At = at_ ∧ x.Promise = (f : Int)) ∧ (x.Kind = 4 ∨ x.Kind = 3)) ?_ fun D ⟨hD, hD2⟩ => ?_
      · have keep : ms.length ≤ 5 ∧ ∀ x ∈ ms, (x.At = at_ ∧ x.Promise = (f : Int)) ∧ (x.Kind = 4 ∨ x.Kind = 3) := ⟨by omega, fun x hx => ⟨(hk x hx).1, .inl (hk x hx).2⟩⟩
        refine tot_eq (by rw [e2]; exact idx_nat hA) (tot_eq (off_eq (n := ⟨n, m⟩) hAs.1) ?_)
        dsimp only [unc4]
        refine tot_eq (by rw [e2]; exact idx_nat hB) (tot_eq (off_eq (n := ⟨d, m⟩) hBo) ?_)
        dsimp only [unc4]
        refine tot_ite (fun _ => tot_room (by omega) (by omega) (tot_some ⟨by rw [List.length_append]; simp only [List.length_cons, List.length_nil]; omega, fun y hy => ?_⟩)) fun _ => tot_some keep
        rcases List.mem_append.1 hy with hy | hy
        · exact keep.2 y hy
        · rw [List.mem_singleton.1 hy]
          exact ⟨⟨rfl, rfl⟩, .inr rfl⟩
      · refine tot_some ⟨_, rfl, ⟨by show 1 ≤ fd.length ∧ fd.length ≤ 4; omega, by show o.length = fd.length; omega, by show a.length = fd.length; omega, by show e.length = fd.length; omega, ra, fun _ i x h1 h2 => ?_, fun _ => ?_, fun _ r hr => ?_⟩, rfl, rfl, fun x hx => (hD2 x hx).1, hD, .inr ⟨?_, cnt_none fun x hx => ?_⟩⟩
        · have h1 : fd[i]? = some x := h1
          obtain ⟨r, hr⟩ := get_of (l := p.Promise.Journey.Rides) (i := i) (by have := bound_of h1; omega)
          exact (hF.2 i r x (bound_of hr) hr h2 h1).1
        · show o[fd.length - 1]? = some false
          rw [hfl]
          exact hv
        · have hr : fd[fd.length - 1]? = some r := hr
          rw [hfl, hA] at hr
          injection hr with hr
          subst hr
          show (off n.Trains A).Station = p.Promise.To
          rw [hAs.2]
          exact h.to hs B hB
        · show p.Promise.State ≠ 2
          rw [hs]
          decide
        · unfold brk
          rcases (hD2 x hx).2 with e | e <;> rw [e] <;> rfl
    · omega
/- ---- a newer day ---- -/
structure Did (T : List ApiTrain) (p p' : GuidePromise0) (c : Nat) : Prop where
  ok : POk T p'
  dep : p'.Promise.Dep = p.Promise.Dep
  arr : p'.Promise.Arr = p.Promise.Arr
  cnt : ((p'.Promise.State = 2 ∧ p.Promise.State ≠ 2) ∧ c = 1) ∨ (¬ (p'.Promise.State = 2 ∧ p.Promise.State ≠ 2) ∧ c = 0)
structure NewsOk (at_ : Int) (T : List ApiTrain) (c B : List GuidePromise0) (A : List GuideMessage) (k : Nat) : Prop where
  len : B.length = c.length
  did : ∀ (i : Nat) (p p' : GuidePromise0), i < k → c[i]? = some p → B[i]? = some p' → Did T p p' (cnt A (i : Int))
  rest : ∀ i : Nat, k ≤ i → B[i]? = c[i]?
  ats : ∀ x ∈ A, x.At = at_ ∧ 0 ≤ x.Promise ∧ x.Promise < (k : Int)
  few : A.length ≤ 5 * k
theorem all_tot (hd : GDay d) (hn : GDay n) (hm : 0 ≤ m ∧ m ≤ 28800) {c : List GuidePromise0} (hc : c.length ≤ 1000) (hP : ∀ p ∈ c, POk d.Trains p) {q : List (Int × Int)} (hq : NumOk n.Trains.length q) (at_ : Int) (M : List GuideMessage) :
    Tot (forS (mGuideDeskNews_2_L548 d.Trains d.Turns M at_ m n.Trains n.Turns q) c.length 0 (([], c) : List GuideMessage × List GuidePromise0)) (fun s => NewsOk at_ n.Trains c s.2 s.1 c.length) := by
  refine tot_imp (tot_forS (fun k (s : List GuideMessage × List GuidePromise0) => NewsOk at_ n.Trains c s.2 s.1 k) ⟨rfl, fun i _ _ hi => absurd hi (by omega), fun _ _ => rfl, fun x hx => (by cases hx), by simp⟩ fun k ⟨A, B⟩ _ hk hI => ?_) fun s hs => by rw [Nat.zero_add] at hs; exact hs
  obtain ⟨len, did, rest, ats, few⟩ := hI
  dsimp only at len did rest ats few
  have hk : k < c.length := by omega
  unfold mGuideDeskNews_2_L548
  dsimp only [unc2]
  refine tot_idn (by omega) fun p hp => ?_
  have hpc : c[k]? = some p := by rw [← rest k (Nat.le_refl k)]; exact hp
  have hpo := hP p (List.mem_of_getElem? hpc)
  have c0 : cnt A (k : Int) = 0 := by
    unfold cnt
    rw [List.filter_eq_nil_iff.2 fun x hx => by rw [decide_eq_false (show ¬ x.Promise = (k : Int) from fun e => by have := (ats x hx).2.2; omega)]; simp]
    rfl
  refine tot_ite (fun hs => ?_) fun hs => tot_some ⟨len, fun i p0 p' hi h1 h2 => ?_, fun i hi => rest i (by omega), fun x hx => ?_, by show A.length ≤ _; omega⟩
  · refine tot_bind (pass_tot hd hn hm hp hs hpo hq at_ at_ M) fun ⟨g, B'⟩ ⟨p1, e1, h1⟩ => ?_
    replace e1 : B' = put B (k : Int) p1 := e1
    replace h1 : PassOk n.Trains p p1 at_ (k : Int) g := h1
    subst e1
    have hg := h1.few
    dsimp only [unc2]
    refine tot_room (by omega) (by omega) (tot_some ⟨by show (put B (k : Int) p1).length = _; rw [put_length]; exact len, fun i p0 p' hi h2 h3 => ?_, fun i hi => ?_, fun x hx => ?_, by show (A ++ g).length ≤ _; rw [List.length_append]; omega⟩)
    · have h3 : (put B (k : Int) p1)[i]? = some p' := h3
      show Did n.Trains p0 p' (cnt (A ++ g) (i : Int))
      rw [put_get (by omega)] at h3
      by_cases e2 : k = i
      · subst e2
        rw [if_pos rfl] at h3
        injection h3 with h3
        subst h3
        rw [hpc] at h2
        injection h2 with h2
        subst h2
        refine ⟨h1.ok, h1.dep, h1.arr, ?_⟩
        rw [cnt_app, c0, Nat.zero_add]
        rcases h1.cnt with ⟨a1, a2⟩ | ⟨a1, a2⟩
        · exact .inl ⟨⟨a1, by rw [hs]; decide⟩, a2⟩
        · exact .inr ⟨fun h => a1 h.1, a2⟩
      · rw [if_neg e2] at h3
        have h4 := did i p0 p' (by omega) h2 h3
        rw [cnt_app, cnt_other (fun x hx => (h1.ats x hx).2) (by omega), Nat.add_zero]
        exact h4
    · show (put B (k : Int) p1)[i]? = _
      rw [put_get (by omega), if_neg (by omega)]
      exact rest i (by omega)
    · have hx : x ∈ A ++ g := hx
      rcases List.mem_append.1 hx with hx | hx
      · have := ats x hx
        exact ⟨this.1, this.2.1, by omega⟩
      · have := h1.ats x hx
        exact ⟨this.1, by omega, by omega⟩
  · rcases Nat.lt_or_ge i k with h | h
    · exact did i p0 p' h h1 h2
    · have e2 : i = k := by omega
      subst e2
      have h2 : B[i]? = some p' := h2
      rw [hp] at h2
      rw [hpc] at h1
      injection h1 with h1
      injection h2 with h2
      subst h1 h2
      show Did n.Trains p p (cnt A (i : Int))
      rw [c0]
      exact ⟨hpo.shut hs, rfl, rfl, .inr ⟨fun h => h.2 h.1, rfl⟩⟩
  · have := ats x hx
    exact ⟨this.1, this.2.1, by omega⟩
theorem news_tot {j : ApiDay} (hw : WDay j) (hd : GDay d) (hm : 0 ≤ m ∧ m ≤ 28800) {c : List GuidePromise0} (hc : c.length ≤ 1000) (hP : ∀ p ∈ c, POk d.Trains p) {a : List GuideMessage} (ha : a.length ≤ 1000000000000) (at_ t : Int) (ht : 0 ≤ t) :
    Tot (mGuideDeskNews_2 j at_ d.Trains d.Turns m t c a) (fun y => (y.1 ≠ 0 ∧ y.2.1 = d.Trains ∧ y.2.2.1 = d.Turns ∧ y.2.2.2.1 = t ∧ y.2.2.2.2.2.1 = c ∧ y.2.2.2.2.2.2 = a) ∨
      (y.1 = 0 ∧ y.2.1 = j.Trains ∧ y.2.2.1 = j.Turns ∧ y.2.2.2.1 = at_ ∧ (t ≤ at_ ∧ at_ ≤ 28800) ∧ GDay j ∧ y.2.2.2.2.2.2 = a ++ y.2.2.2.2.1 ∧ NewsOk at_ j.Trains c y.2.2.2.2.2.1 y.2.2.2.2.1 c.length)) := by
  unfold mGuideDeskNews_2
  refine tot_bind (R := fun e => e = 0 → GDay j ∧ FDay j) ?_ fun e he => ?_
  · obtain ⟨e, h1, h2⟩ := check_tot hw
    exact ⟨e, h1, fun h => ⟨h2 h, check_f hw (by rw [h1, h])⟩⟩
  refine tot_ite (fun h => tot_some (.inl ⟨h, rfl, rfl, rfl, rfl, rfl⟩)) fun h => ?_
  obtain ⟨hj, hf⟩ := he (Decidable.of_not_not h)
  refine tot_ite (fun _ => tot_some (.inl ⟨by show (5 : Int) ≠ 0; decide, rfl, rfl, rfl, rfl, rfl⟩)) fun h1 => ?_
  refine tot_ite (fun _ => tot_some (.inl ⟨by show (2 : Int) ≠ 0; decide, rfl, rfl, rfl, rfl, rfl⟩)) fun h2 => ?_
  rw [own_eq hf, Option.bind_some]
  dsimp only [unc2]
  rw [Option.bind_some]
  dsimp only [unc2]
  refine tot_bind (numbers_eq (by have := hj.1; omega)) fun q hq => ?_
  refine tot_bind (all_tot (n := j) hd hj hm hc hP hq at_ a) fun ⟨i, B⟩ hB => ?_
  have hB : NewsOk at_ j.Trains c B i c.length := hB
  have hi := hB.few
  dsimp only [unc2]
  exact tot_room (by omega) (by omega) (tot_some (.inr ⟨rfl, rfl, rfl, rfl, ⟨by omega, by omega⟩, hj, rfl, hB⟩))
end
/- ==== GX ==== -/
def prs (l : List GuidePromise0) : List GuidePromise := l.map (·.Promise)
theorem prs_get {l : List GuidePromise0} {i : Nat} : (prs l)[i]? = (l[i]?).map (·.Promise) := List.getElem?_map ..
theorem prs_len (l : List GuidePromise0) : (prs l).length = l.length := List.length_map ..
section
variable {d : ApiDay} {m : Int}
theorem promises_eq {l : List GuidePromise0} (hl : l.length ≤ 1000) {T : List ApiTrain} (hP : ∀ p ∈ l, POk T p) (a : List ApiTrain) (b : List (List Int)) (x y : Int) (M : List GuideMessage) : mGuideDeskPromises_2 a b x y l M = some (prs l) := by
  obtain ⟨t, h1, h2⟩ := tot_forS (body := mGuideDeskPromises_2_L207 l) (fun k (c : List GuidePromise) => c = prs (l.take k)) (m := l.length) (k := 0) (s := ([] : List GuidePromise)) rfl fun k c _ hk hc => by
    have hk : k < l.length := by omega
    unfold mGuideDeskPromises_2_L207 mSlicesClone_5
    refine tot_idn hk fun p hp => ?_
    have hn := (hP p (List.mem_of_getElem? hp)).n
    have hlen : c.length ≤ k := by rw [hc, prs_len, List.length_take]; omega
    rw [room_ok (by omega) (by omega), Option.bind_some, Option.bind_some]
    refine tot_room (by omega) (by omega) (tot_some ?_)
    rw [List.take_add_one, hp, hc]
    unfold prs
    rw [List.map_append]
    rfl
  unfold mGuideDeskPromises_2
  rw [h1, Option.bind_some, h2, Nat.zero_add, List.take_length]
/- ---- a promise is sold ---- -/
theorem sell_tot (hd : GDay d) (hm : 0 ≤ m ∧ m ≤ 28800) {c : List GuidePromise0} (l : List GuideRide) (at_ t : Int) (M : List GuideMessage) (hc : c.length ≤ 1000) :
    Tot (mGuideDeskSell_2 (⟨l⟩ : GuideJourney) at_ d.Trains d.Turns m t c M) (fun y => (y.2.1 ≠ 0 ∧ y.2.2.1 = t ∧ y.2.2.2 = c) ∨
      (y.2.1 = 0 ∧ y.1 = (c.length : Int) ∧ y.2.2.1 = at_ ∧ (t ≤ at_ ∧ at_ ≤ 28800) ∧ c.length < 100 ∧ (Chain d.Trains m l ∧ 1 ≤ l.length ∧ l.length ≤ 4) ∧ (∀ r, l[0]? = some r → at_ ≤ (on d.Trains r).Dep) ∧ ∃ p, y.2.2.2 = c ++ [p] ∧ POk d.Trains p)) := by
  unfold mGuideDeskSell_2
  refine tot_bind (journey_tot hd hm l) fun e he => tot_ite (fun h => tot_some (.inl ⟨h, rfl, rfl⟩)) fun h => ?_
  obtain ⟨hch, h1, h4⟩ := he (Decidable.of_not_not h)
  obtain ⟨i, hi⟩ := get_of (l := l) (i := 0) (by omega)
  obtain ⟨j, hj⟩ := get_of (l := l) (i := l.length - 1) (by omega)
  have e1 : ((l.length : Int) - 1) = ((l.length - 1 : Nat) : Int) := by omega
  have hio := hch.1 i (List.mem_of_getElem? hi)
  have hjo := hch.1 j (List.mem_of_getElem? hj)
  refine tot_eq (x := (i.Train, i.On, i.Off, j.Train, j.On, j.Off)) ?_ ?_
  · show (idx l 0).bind _ = _
    rw [show idx l 0 = some i from idx_nat (j := 0) hi, Option.bind_some]
    show (chk ((l.length : Int) - 1)).bind _ = _
    rw [chk_ok (by omega) (by omega), Option.bind_some]
    show (idx l ((l.length : Int) - 1)).bind _ = _
    rw [e1, idx_nat hj, Option.bind_some]
  dsimp only [unc6]
  refine tot_eq (on_eq (n := ⟨d, m⟩) (r := i) hio) ?_
  dsimp only [unc4]
  refine tot_ite (fun _ => tot_some (.inl ⟨by show (4 : Int) ≠ 0; decide, rfl, rfl⟩)) fun h100 => ?_
  refine tot_ite (fun _ => tot_some (.inl ⟨by show (5 : Int) ≠ 0; decide, rfl, rfl⟩)) fun ht => ?_
  refine tot_ite (fun _ => tot_some (.inl ⟨by show (2 : Int) ≠ 0; decide, rfl, rfl⟩)) fun hmx => ?_
  refine tot_ite (fun _ => tot_some (.inl ⟨by show (13 : Int) ≠ 0; decide, rfl, rfl⟩)) fun hdp => ?_
  refine tot_eq (x := (List.replicate l.length (false : Bool), List.replicate l.length (0 : Int), List.replicate l.length (0 : Int))) ?_ ?_
  · show (mkLen 1 (l.length : Int)).bind _ = _
    rw [mkLen_ok (by omega) (by omega), Option.bind_some]
    show (mkLen 8 (l.length : Int)).bind _ = _
    rw [mkLen_ok (by omega) (by omega), Option.bind_some]
    rfl
  dsimp only [unc3]
  refine tot_eq (x := ((on d.Trains i).Station, (off d.Trains j).Station, (off d.Trains j).Arr, l)) ?_ ?_
  · show Option.bind (mGuideNetOn (⟨d, m⟩ : GuideNet) i) _ = _
    rw [on_eq (n := ⟨d, m⟩) hio, Option.bind_some]
    dsimp only [unc4]
    show Option.bind (mGuideNetOff (⟨d, m⟩ : GuideNet) j) _ = _
    rw [off_eq (n := ⟨d, m⟩) hjo, Option.bind_some]
    dsimp only [unc4]
    unfold mSlicesClone_5
    rw [room_ok (by omega) (by omega)]
    rfl
  dsimp only [unc4]
  refine tot_bind (R := fun B => ∃ p, B = c ++ [p] ∧ POk d.Trains p) (tot_room (by omega) (by omega) (tot_some ⟨_, rfl, ?_⟩)) fun B ⟨p, hB, hp⟩ => ?_
  · refine ⟨⟨h1, h4⟩, List.length_replicate, List.length_replicate, List.length_replicate, fun k x hx => ?_, fun _ k r hr _ => hch.1 r (List.mem_of_getElem? hr), fun _ => ?_, fun _ r hr => ?_⟩
    · have hx : (List.replicate l.length (0 : Int))[k]? = some x := hx
      rw [List.getElem?_replicate] at hx
      split at hx
      · injection hx with hx
        omega
      · cases hx
    · show (List.replicate l.length false)[l.length - 1]? = some false
      rw [List.getElem?_replicate, if_pos (by omega)]
    · have hr : l[l.length - 1]? = some r := hr
      rw [hj] at hr
      injection hr with hr
      rw [hr]
  · have hBl : B.length = c.length + 1 := by rw [hB, List.length_append]; rfl
    refine tot_chk (by omega) (by omega) (tot_some (.inr ⟨rfl, by show (B.length : Int) - 1 = _; omega, rfl, ⟨by omega, by omega⟩, by omega, ⟨hch, h1, h4⟩, fun r hr => ?_, p, hB, hp⟩))
    rw [hi] at hr
    injection hr with hr
    rw [← hr]
    have hdp : ¬ (on d.Trains i).Dep < at_ := hdp
    omega
end
/- ---- what is asked ---- -/
theorem count_tot {A : List GuideMessage} {at_ : Int} (hA : ∀ x ∈ A, x.At = at_) (hl : A.length ≤ 1000000) (f : Nat) : Tot (forM (mFishkeep2Honest_L783 A at_ f) A.length 0 (0 : Int)) (Sum.elim (fun c => c = (cnt A (f : Int) : Int)) fun _ => False) := by
  refine tot_imp (tot_forM (fun k (c : Int) => c = (cnt (A.take k) (f : Int) : Int)) (fun _ => False) rfl fun k c _ hk hc => ?_) fun r hr => ?_
  · unfold mFishkeep2Honest_L783
    refine tot_idn (by omega) fun x hx => ?_
    rw [if_neg (fun h => h (hA x (List.mem_of_getElem? hx)))]
    have hcl := cnt_le (A.take k) (f : Int)
    rw [List.length_take] at hcl
    have e : A.take (k + 1) = A.take k ++ [x] := by rw [List.take_add_one, hx]; rfl
    refine tot_bind (R := fun b => b = (decide (x.Promise = (f : Int)) && brk x)) ?_ fun b hb => ?_
    · refine tot_ite (fun h1 => tot_ite (fun h2 => tot_some ?_) fun h2 => tot_some ?_) fun h1 => tot_some ?_
      · unfold brk
        rw [decide_eq_true h1, decide_eq_true h2]
        rfl
      · unfold brk
        rw [decide_eq_true h1, decide_eq_false h2]
        rfl
      · rw [decide_eq_false h1]
        rfl
    · refine tot_ite (fun h => tot_chk (by omega) (by omega) (tot_some (P := Sum.elim _ _) ?_)) fun h => tot_some (P := Sum.elim _ _) ?_
      · show c + 1 = (cnt (A.take (k + 1)) (f : Int) : Int)
        rw [e, cnt_app, hc, Int.natCast_add]
        have : cnt [x] (f : Int) = 1 := by
          unfold cnt
          rw [List.filter_cons, ← hb, h]
          rfl
        rw [this]
        rfl
      · show c = (cnt (A.take (k + 1)) (f : Int) : Int)
        rw [e, cnt_app, hc, Int.natCast_add]
        have : cnt [x] (f : Int) = 0 := by
          unfold cnt
          rw [List.filter_cons, ← hb, bt h]
          rfl
        rw [this]
        simp
  · cases r with
    | inl c =>
      have hr : c = (cnt (A.take (0 + A.length)) (f : Int) : Int) := hr
      rw [Nat.zero_add, List.take_length] at hr
      exact hr
    | inr _ => exact hr.elim
theorem honest_yes {at_ : Int} {T : List ApiTrain} {c B : List GuidePromise0} {A : List GuideMessage} (h : NewsOk at_ T c B A c.length) (hc : c.length ≤ 1000) : mFishkeep2Honest (prs c) (prs B) A at_ = some true := by
  have key : Tot (mFishkeep2Honest (prs c) (prs B) A at_) (fun b => b = true) := by
    have hl := h.len
    have hf := h.few
    unfold mFishkeep2Honest
    rw [if_neg (fun e => e (by rw [prs_len, prs_len, hl]))]
    refine tot_sum (tot_forM (fun _ _ => True) (fun _ => False) trivial fun k _ _ hk _ => ?_) (fun _ _ => tot_some rfl) fun _ h => h.elim
    have hk : k < B.length := by rw [prs_len] at hk; omega
    obtain ⟨p', hp'⟩ := get_of hk
    obtain ⟨p, hp⟩ := get_of (l := c) (i := k) (by omega)
    have hg1 : (prs B)[k]? = some p'.Promise := by rw [prs_get, hp']; rfl
    have hg2 : (prs c)[k]? = some p.Promise := by rw [prs_get, hp]; rfl
    have hD := h.did k p p' (by omega) hp hp'
    unfold mFishkeep2Honest_L517
    refine tot_eq (idx_nat hg1) ?_
    refine tot_sum (I := fun n => n = (cnt A (k : Int) : Int)) (R := fun _ => False) (count_tot (fun x hx => (h.ats x hx).1) (by omega) k) (fun n hn => ?_) fun _ h => h.elim
    refine tot_bind (R := fun j => j = decide (p'.Promise.State = 2 ∧ p.Promise.State ≠ 2)) ?_ fun j hj => ?_
    · refine tot_ite (fun h1 => tot_eq (idx_nat hg2) (tot_some ?_)) fun h1 => tot_some ?_
      · exact decide_eq_decide.2 ⟨fun h2 => ⟨h1, h2⟩, fun h2 => h2.2⟩
      · exact (decide_eq_false fun h2 => h1 h2.1).symm
    refine tot_bind (R := fun b => b = false) ?_ fun b hb => ?_
    · have hjn : ¬ (decide (j ≠ decide (n = 1)) = true) := by
        rw [hj, hn]
        rcases hD.cnt with ⟨h1, h2⟩ | ⟨h1, h2⟩
        · rw [h2, decide_eq_true h1]
          decide
        · rw [h2, decide_eq_false h1]
          decide
      rw [if_neg hjn]
      have hn1 : n ≤ 1 := by
        rcases hD.cnt with ⟨_, h2⟩ | ⟨_, h2⟩ <;> rw [hn, h2] <;> decide
      rw [if_neg (by omega)]
      refine tot_eq (idx_nat hg2) ?_
      rw [if_neg (fun e => e hD.dep)]
      exact tot_eq (idx_nat hg2) (tot_some (decide_eq_false fun e => e hD.arr))
    · subst hb
      rw [if_neg (by decide)]
      exact tot_some (P := Sum.elim _ _) trivial
  obtain ⟨b, h1, rfl⟩ := key
  exact h1
theorem stands_yes {d : ApiDay} {p : GuidePromise0} (h : POk d.Trains p) (hs : p.Promise.State = 1) (m : Int) : mFishkeep2Stands d p.Promise m = some true := by
  have hn := h.n
  obtain ⟨r, hr⟩ := get_of (l := p.Promise.Journey.Rides) (i := p.Promise.Journey.Rides.length - 1) (by omega)
  have ho := h.clear hs _ r hr (h.last hs)
  have ht := h.to hs r hr
  have e1 : ((p.Promise.Journey.Rides.length : Int) - 1) = ((p.Promise.Journey.Rides.length - 1 : Nat) : Int) := by omega
  have a1 := ho.1
  have a2 := ho.2
  unfold mFishkeep2Stands
  rw [chk_ok (by omega) (by omega), Option.bind_some, e1, idx_nat hr, Option.bind_some, if_pos a1.1, if_pos a1.2, if_pos a2.1, if_pos a2.2.1, tr_idx a1.1 a1.2, Option.bind_some, if_pos a2.2.2, Option.bind_some]
  rw [stp_idx (by omega) a2.2.2, Option.bind_some, Option.bind_some]
  exact congrArg some (decide_eq_true ht)
theorem all_stand {d : ApiDay} {l : List GuidePromise0} (hP : ∀ p ∈ l, POk d.Trains p) (m : Int) : Tot (forM (mFishkeep2GuidePromises_L9570 m d.Trains d.Turns (prs l)) (prs l).length 0 ()) (Sum.elim (fun _ => True) fun _ => False) := by
  refine tot_forM (fun _ _ => True) (fun _ => False) trivial fun k _ _ hk _ => ?_
  have hk : k < l.length := by rw [prs_len] at hk; omega
  obtain ⟨p, hp⟩ := get_of hk
  unfold mFishkeep2GuidePromises_L9570
  refine tot_eq (idx_nat (show (prs l)[k]? = some p.Promise by rw [prs_get, hp]; rfl)) ?_
  refine tot_bind (R := fun b => b = false) ?_ fun b hb => ?_
  · refine tot_ite (fun hs => tot_eq (stands_yes (hP p (List.mem_of_getElem? hp)) hs m) (tot_some rfl)) fun _ => tot_some rfl
  · subst hb
    rw [if_neg (by decide)]
    exact tot_some (P := Sum.elim _ _) trivial
theorem msgs_equal {l : List GuideMessage} (hl : l.length ≤ 1000000000000) : mSlicesEqual_2 l l = some true := by
  have key : Tot (mSlicesEqual_2 l l) (fun b => b = true) := by
    unfold mSlicesEqual_2
    rw [if_neg (fun e => e rfl)]
    refine tot_sum (tot_forM (fun _ _ => True) (fun _ => False) trivial fun k _ _ hk _ => ?_) (fun _ _ => tot_some rfl) fun _ h => h.elim
    have hk : k < l.length := by omega
    obtain ⟨x, hx⟩ := get_of hk
    unfold mSlicesEqual_2_L104
    refine tot_eq (idx_nat hx) (tot_eq (idx_nat hx) ?_)
    rw [if_pos ⟨rfl, rfl, rfl, rfl, rfl⟩]
    exact tot_some (P := Sum.elim _ _) trivial
  obtain ⟨b, h1, rfl⟩ := key
  exact h1
/- ==== GY ==== -/
abbrev St := List Int × Int × List ApiTrain × List (List Int) × Int × List ApiTrain × List (List Int) × List GuideMessage × List GuidePromise0 × List GuideMessage
/-- What holds between two steps of the script. -/
structure Desk (L : Nat) (e : List Int) (sold : Int) (kT : List ApiTrain) (kU : List (List Int)) (t : Int) (nT : List ApiTrain) (nU : List (List Int)) (told : List GuideMessage) (ps : List GuidePromise0) (ms : List GuideMessage) : Prop where
  sc : e.length ≤ L
  sold : sold = (ps.length : Int)
  tr : kT = nT
  tu : kU = nU
  day : GDay ⟨kT, kU⟩
  time : 0 ≤ t ∧ t ≤ 28800
  told : ms = told
  many : ps.length ≤ 100
  ok : ∀ p ∈ ps, POk kT p
  few : ms.length * 3 + 500 * e.length ≤ 500 * L
theorem sum_inl {σ τ : Type} {s : σ} {P : σ → Prop} {R : τ → Prop} (h : P s) : Sum.elim P R (.inl s) := h
theorem step_tot {m : Int} (hm : 0 ≤ m ∧ m ≤ 28800) {days : List ApiDay} {l : List GuideJourney} (hw : ∀ j ∈ days, WDay j) {L : Nat} (hL : L ≤ 1048576) (e : List Int) (sold : Int) (kT : List ApiTrain) (kU : List (List Int)) (t : Int) (nT : List ApiTrain) (nU : List (List Int)) (told : List GuideMessage) (ps : List GuidePromise0) (ms : List GuideMessage) (h : Desk L e sold kT kU t nT nU told ps ms) :
    Tot (mFishkeep2GuidePromises_L7255 m days l m (e, sold, kT, kU, t, nT, nU, told, ps, ms)) (Sum.elim (fun s : St => (∃ e' sold' kT' kU' t' nT' nU' told' ps' ms', s = (e', sold', kT', kU', t', nT', nU', told', ps', ms') ∧ Desk L e' sold' kT' kU' t' nT' nU' told' ps' ms') ∧ s.1.length < e.length) (fun r => r = .inl ())) := by
  obtain ⟨sc, hsold, tr, tu, day, time, htold, many, ok, few⟩ := h
  subst tr tu htold hsold
  unfold mFishkeep2GuidePromises_L7255
  dsimp only [unc10]
  refine tot_ite (fun h3 => ?_) fun _ => tot_some (P := Sum.elim _ _) rfl
  have h3 : 3 ≤ e.length := by omega
  obtain ⟨k, hk⟩ := get_of (l := e) (i := 0) (by omega)
  obtain ⟨i, hi⟩ := get_of (l := e) (i := 1) (by omega)
  obtain ⟨at_, ha⟩ := get_of (l := e) (i := 2) (by omega)
  refine tot_eq (show idx e 0 = some k from idx_nat (j := 0) hk) (tot_eq (show idx e 1 = some i from idx_nat (j := 1) hi) (tot_eq (show idx e 2 = some at_ from idx_nat (j := 2) ha) ?_))
  refine tot_eq (show cutS e 3 (e.length : Int) = some ((e.take e.length).drop 3) from cutS_ok (a := 3) h3 (Nat.le_refl _)) ?_
  rw [List.take_length]
  refine tot_eq (promises_eq (by omega) ok kT kU m t ms) ?_
  have hdl : (e.drop 3).length = e.length - 3 := List.length_drop ..
  generalize hS : e.drop 3 = S at hdl ⊢
  -- one step
  refine tot_sum (I := fun s : Int × List ApiTrain × List (List Int) × Int × List ApiTrain × List (List Int) × List GuideMessage × List GuidePromise0 × List GuideMessage => ∃ sold' kT' kU' t' nT' nU' told' ps' ms', s = (sold', kT', kU', t', nT', nU', told', ps', ms') ∧ Desk L S sold' kT' kU' t' nT' nU' told' ps' ms') (R := fun _ => False) ?_ (fun s hs => ?_) fun _ h => h.elim
  · have same : Desk L S (ps.length : Int) kT kU t kT kU ms ps ms := ⟨by omega, rfl, rfl, rfl, day, time, rfl, many, ok, by omega⟩
    refine tot_bind (R := fun b => b = true → 0 ≤ i ∧ i < (days.length : Int)) ?_ fun b hb => ?_
    · refine tot_ite (fun _ => tot_ite (fun h0 => tot_some fun h => ⟨h0, of_decide_eq_true h⟩) fun _ => tot_some fun h => Bool.noConfusion h) fun _ => tot_some fun h => Bool.noConfusion h
    refine tot_ite (fun hbt => ?_) fun _ => ?_
    · obtain ⟨i0, i1⟩ := hb hbt
      obtain ⟨j, hj, hj2⟩ := idx_get i0 i1
      have hjm := List.mem_of_getElem? hj2
      refine tot_eq hj ?_
      refine tot_bind (news_tot (d := ⟨kT, kU⟩) (hw j hjm) day hm (by omega) ok (by omega) at_ t time.1) fun ⟨W, x, y, z, A, B, C⟩ hN => ?_
      dsimp only at hN
      dsimp only [unc7]
      rcases hN with ⟨hW, rfl, rfl, rfl, rfl, rfl⟩ | ⟨rfl, rfl, rfl, rfl, hat, hgj, rfl, hB⟩
      · rw [if_pos hW]
        exact tot_some (sum_inl ⟨_, _, _, _, _, _, _, _, _, rfl, same⟩)
      · rw [if_neg (fun h => h rfl)]
        have hBf := hB.few
        have hBl := hB.len
        have hBok : ∀ p ∈ B, POk j.Trains p := fun p hp => by
          obtain ⟨q, h1, h2⟩ := List.mem_iff_getElem.1 hp
          obtain ⟨p0, hp0⟩ := get_of (l := ps) (i := q) (by omega)
          exact (hB.did q p0 p (by omega) hp0 (by rw [List.getElem?_eq_getElem h1, h2])).ok
        refine tot_eq hj (tot_room (by omega) (by omega) (tot_eq (promises_eq (by omega) hBok j.Trains j.Turns m _ (ms ++ A)) (tot_eq (honest_yes hB (by omega)) ?_)))
        rw [if_pos rfl]
        refine tot_some (sum_inl ⟨_, _, _, _, _, _, _, _, _, rfl, ⟨by omega, by rw [hBl], rfl, rfl, hgj, by omega, rfl, by omega, hBok, ?_⟩⟩)
        rw [List.length_append]
        omega
    · refine tot_bind (R := fun b => b = true → 0 ≤ i ∧ i < (l.length : Int)) ?_ fun b2 hb2 => ?_
      · refine tot_ite (fun _ => tot_ite (fun h0 => tot_some fun h => ⟨h0, of_decide_eq_true h⟩) fun _ => tot_some fun h => Bool.noConfusion h) fun _ => tot_some fun h => Bool.noConfusion h
      refine tot_ite (fun hbt => ?_) fun _ => tot_some (sum_inl ⟨_, _, _, _, _, _, _, _, _, rfl, same⟩)
      obtain ⟨i0, i1⟩ := hb2 hbt
      obtain ⟨⟨j⟩, hj, _⟩ := idx_get i0 i1
      refine tot_eq hj ?_
      refine tot_bind (sell_tot (d := ⟨kT, kU⟩) day hm j at_ t ms (by omega)) fun ⟨a1, a2, a3, a4⟩ hSell => ?_
      dsimp only at hSell
      dsimp only [unc4]
      rcases hSell with ⟨hE, rfl, rfl⟩ | ⟨rfl, rfl, rfl, hat, hc, ⟨hch, h1, h4⟩, hdep, p, rfl, hp⟩
      · rw [if_pos hE]
        exact tot_some (sum_inl ⟨_, _, _, _, _, _, _, _, _, rfl, same⟩)
      · rw [if_neg (fun h => h rfl)]
        obtain ⟨r, hr⟩ := get_of (l := j) (i := 0) (by omega)
        have hro := hch.1 r (List.mem_of_getElem? hr)
        refine tot_bind (R := fun b => b = false) ?_ fun b hbf => ?_
        · rw [if_neg (fun h => h rfl)]
          refine tot_eq hj (tot_eq (fault_ok day hm hch h1 h4) ?_)
          rw [if_neg (by decide)]
          refine tot_eq hj (tot_eq (leaves_eq hch hr) (tot_some (decide_eq_false ?_)))
          exact Int.not_lt.2 (hdep r hr)
        · subst hbf
          rw [if_neg (by decide)]
          refine tot_chk (by omega) (by omega) (tot_some (sum_inl ⟨_, _, _, _, _, _, _, _, _, rfl, ⟨by omega, by rw [List.length_append]; rfl, rfl, rfl, day, by omega, rfl, by rw [List.length_append]; simp only [List.length_cons, List.length_nil]; omega, fun q hq => ?_, by omega⟩⟩))
          rcases List.mem_append.1 hq with hq | hq
          · exact ok q hq
          · rw [List.mem_singleton.1 hq]
            exact hp
  · obtain ⟨sold', kT', kU', t', nT', nU', told', ps', ms', rfl, hD⟩ := hs
    have hD0 := hD
    obtain ⟨sc', hsold', tr', tu', day', time', htold', many', ok', few'⟩ := hD
    subst tr' tu' htold' hsold'
    dsimp only [unc9]
    refine tot_bind (R := fun b => b = false) ?_ fun b hb => ?_
    · refine tot_eq (promises_eq (by omega) ok' _ _ _ _ _) ?_
      rw [if_neg (fun h => h (by rw [prs_len]))]
      refine tot_eq (x := ms') ?_ (tot_eq (msgs_equal (by omega)) (tot_some rfl))
      unfold mGuideDeskMessages mSlicesClone_6
      rw [room_ok (by omega) (by omega)]
      rfl
    · subst hb
      rw [if_neg (by decide)]
      refine tot_eq (promises_eq (by omega) ok' _ _ _ _ _) ?_
      refine tot_sum (I := fun _ => True) (R := fun _ => False) (all_stand (d := ⟨kT', kU'⟩) ok' m) (fun _ _ => tot_some (sum_inl ⟨⟨_, _, _, _, _, _, _, _, _, _, rfl, hD0⟩, ?_⟩)) fun _ h => h.elim
      show S.length < e.length
      omega
theorem tot_loopM {σ τ : Type} {step : σ → Option (σ ⊕ τ)} {Q : τ → Prop} (I : σ → Prop) (μ : σ → Nat) {s : σ} (h0 : I s) (h : ∀ s, I s → Tot (step s) (Sum.elim (fun s' => I s' ∧ μ s' < μ s) Q)) : Tot (loopM step s) Q := by
  obtain ⟨t, h1, h2⟩ := loopM_inv I Q μ (fun s hs => by
    obtain ⟨o, h1, h2⟩ := h s hs
    cases o with
    | inl s' => exact .inl ⟨s', h1, h2⟩
    | inr t => exact .inr ⟨t, h1, h2⟩) s h0
  exact ⟨t, h1, h2⟩
/- ==== HZ ==== -/
theorem promisesPlain (d : ApiDay) (m : Int) (days : List ApiDay) (l : List GuideJourney) (script : List Int) (hw : WDay d) (hws : ∀ j ∈ days, WDay j) (hL : script.length ≤ 1048576) : mFishkeep2GuidePromises d m days l script = some true ∨ Inv.mFishkeep2GuidePromises d m days l script = some true := by
  obtain ⟨c, hc1, hc2⟩ := least_tot hw m
  by_cases h0 : c = 0
  · left
    subst h0
    obtain ⟨hd, hm⟩ := hc2 rfl
    have hf : FDay d := by
      refine check_f hw ?_
      unfold mGuideCheckLeast at hc1
      obtain ⟨c2, e1, _⟩ := check_tot hw
      rw [e1, Option.bind_some] at hc1
      rw [e1]
      by_cases e2 : c2 = 0
      · rw [e2]
      · rw [if_pos e2] at hc1
        exact hc1
    have key : Tot (mFishkeep2GuidePromises d m days l script) (fun b => b = true) := by
      unfold mFishkeep2GuidePromises
      rw [awake_yes, Option.bind_some, if_pos rfl]
      refine tot_eq (x := (d.Trains, d.Turns, m, 0, [], [])) ?_ ?_
      · unfold mGuideNewDesk
        rw [hc1, Option.bind_some, if_neg (fun h => h rfl), own_eq hf, Option.bind_some]
        rfl
      dsimp only [unc6]
      rw [guides_yes, Option.bind_some, if_pos rfl, if_neg (fun h => h rfl)]
      refine tot_bind (R := fun r => r = .inl ()) ?_ fun r hr => by rw [hr]; exact tot_some rfl
      refine tot_loopM (fun s : St => ∃ e' sold' kT' kU' t' nT' nU' told' ps' ms', s = (e', sold', kT', kU', t', nT', nU', told', ps', ms') ∧ Desk script.length e' sold' kT' kU' t' nT' nU' told' ps' ms') (fun s => s.1.length) ⟨_, _, _, _, _, _, _, _, _, _, rfl, ⟨Nat.le_refl _, rfl, rfl, rfl, hd, by omega, rfl, by simp, fun p hp => (by cases hp), by simp⟩⟩ fun s hs => ?_
      obtain ⟨e', sold', kT', kU', t', nT', nU', told', ps', ms', rfl, hD⟩ := hs
      exact step_tot hm hws hL e' sold' kT' kU' t' nT' nU' told' ps' ms' hD
    obtain ⟨b, h1, rfl⟩ := key
    exact h1
  · right
    have h1 : Inv.mGuideNewDesk d m = some c := by
      unfold Inv.mGuideNewDesk
      rw [hc1, Option.bind_some, if_pos h0]
    unfold Inv.mFishkeep2GuidePromises
    rw [awake_yes, Option.bind_some, if_pos rfl, h1, Option.bind_some, guides_yes, Option.bind_some, if_pos rfl, if_pos h0]
theorem promisesRow (d : ApiDay) (m : Int) (days : List ApiDay) (l : List GuideJourney) (s : List Int) {K1 K3 K4 S2 S3 S4 B2 B3 : Prop} (k0 : WDay d) (_ : K1) (k2 : Lst WDay days) (_ : K3) (_ : K4) (_ : S2) (_ : S3) (_ : S4) (_ : B2) (_ : B3) (b4 : s.length ≤ 1048576) : mFishkeep2GuidePromises d m days l s = some true ∨ Inv.mFishkeep2GuidePromises d m days l s = some true := promisesPlain d m days l s k0 k2.2 b4
end Go.Proofs.YtckgfeglhjiflaaDoor
