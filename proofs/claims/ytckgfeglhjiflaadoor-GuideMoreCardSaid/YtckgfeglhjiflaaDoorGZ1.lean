/- Plain: words that succeed, with what comes of them; texts of days are written whatever the day is. Plain: what Check lets by; rides and their times. Plain: chains of rides, and what the checks of journeys say of them. Plain: a sort gives a list of the same elements. Plain: a sort gives a list of the same elements, part 2. -/
import Derived.Test.YtckgfeglhjiflaaDoorX6
import Derived.Test.YtckgfeglhjiflaaDoorZD
import Derived.Lib.ItoaMem
import Derived.Lib.EndianBits
import Derived.Lib.QuoteBits
set_option linter.unusedVariables false
set_option linter.unusedSimpArgs false
namespace Go.Proofs.YtckgfeglhjiflaaDoor
open Go.RowKit Go.Fp
/- ==== GA ==== -/
/-- Something comes out, and 'P' holds of it. -/
def Tot {α : Type} (o : Option α) (P : α → Prop) : Prop := ∃ t, o = some t ∧ P t
section
variable {α β σ τ : Type} {P Q : α → Prop}
theorem tot_some {x : α} (h : P x) : Tot (some x) P := ⟨x, rfl, h⟩
theorem tot_bind {o : Option β} {f : β → Option α} {R : β → Prop} (h : Tot o R) (k : ∀ x, R x → Tot (f x) P) : Tot (o.bind f) P := by
  obtain ⟨x, h1, h2⟩ := h
  rw [h1]
  exact k x h2
theorem tot_eq {o : Option β} {f : β → Option α} {x : β} (h : o = some x) (k : Tot (f x) P) : Tot (o.bind f) P := by
  rw [h]
  exact k
theorem tot_ite {c : Prop} [Decidable c] {a b : Option α} (h1 : c → Tot a P) (h2 : ¬ c → Tot b P) : Tot (if c then a else b) P := by
  split
  · exact h1 ‹_›
  · exact h2 ‹_›
theorem tot_imp {o : Option α} (h : Tot o P) (k : ∀ x, P x → Q x) : Tot o Q := let ⟨x, h1, h2⟩ := h; ⟨x, h1, k x h2⟩
theorem tot_idx {l : List β} {i : Int} {f : β → Option α} (h0 : 0 ≤ i) (h1 : i < (l.length : Int)) (k : ∀ x, l[i.toNat]? = some x → Tot (f x) P) : Tot ((idx l i).bind f) P := by
  obtain ⟨x, h2, h3⟩ := idx_get h0 h1
  exact tot_eq h2 (k x h3)
theorem tot_idn {l : List β} {j : Nat} {f : β → Option α} (h1 : j < l.length) (k : ∀ x, l[j]? = some x → Tot (f x) P) : Tot ((idx l (j : Int)).bind f) P := tot_idx (by omega) (by omega) (fun x hx => k x (by simpa using hx))
theorem tot_chk {x : Int} {f : Int → Option α} (h : -9223372036854775808 ≤ x) (h2 : x ≤ 9223372036854775807) (k : Tot (f x) P) : Tot ((chk x).bind f) P := tot_eq (chk_ok h h2) k
theorem tot_forS {body : Nat → σ → Option σ} (I : Nat → σ → Prop) : ∀ {m k : Nat} {s : σ}, I k s → (∀ j s, k ≤ j → j < k + m → I j s → Tot (body j s) (I (j + 1))) → Tot (forS body m k s) (I (k + m)) := fun h0 h => forS_inv I _ _ _ h0 h
theorem tot_forM {body : Nat → σ → Option (σ ⊕ τ)} (I : Nat → σ → Prop) (R : τ → Prop) : ∀ {m k : Nat} {s : σ}, I k s → (∀ j s, k ≤ j → j < k + m → I j s → Tot (body j s) (Sum.elim (I (j + 1)) R)) → Tot (forM body m k s) (Sum.elim (I (k + m)) R)
  | 0, k, s, h0, _ => ⟨.inl s, rfl, h0⟩
  | m + 1, k, s, h0, h => by
    obtain ⟨o, h1, h2⟩ := h k s (Nat.le_refl _) (by omega) h0
    cases o with
    | inr t => rw [forM_succ_inr h1]; exact ⟨_, rfl, h2⟩
    | inl s' =>
      rw [forM_succ_inl h1, show k + (m + 1) = k + 1 + m by omega]
      exact tot_forM I R h2 fun j t hj hj' hi => h j t (by omega) (by omega) hi
theorem tot_forL {body : β → σ → Option (σ ⊕ τ)} (I : List β → σ → Prop) (R : τ → Prop) : ∀ {l : List β} {s : σ}, I l s → (∀ x r s, x ∈ l → I (x :: r) s → Tot (body x s) (Sum.elim (I r) R)) → Tot (forL body l s) (Sum.elim (I []) R)
  | [], s, h0, _ => ⟨.inl s, rfl, h0⟩
  | x :: r, s, h0, h => by
    obtain ⟨o, h1, h2⟩ := h x r s (List.mem_cons_self ..) h0
    unfold forL
    rw [h1]
    cases o with
    | inr t => exact ⟨_, rfl, h2⟩
    | inl s' => exact tot_forL I R h2 fun y q t hy hi => h y q t (List.mem_cons_of_mem _ hy) hi
theorem tot_sum {γ : Type} {o : Option (σ ⊕ τ)} {f : σ → Option γ} {g : τ → Option γ} {I : σ → Prop} {R : τ → Prop} {W : γ → Prop} (h : Tot o (Sum.elim I R)) (h1 : ∀ s, I s → Tot (f s) W) (h2 : ∀ t, R t → Tot (g t) W) : Tot (o.bind fun t => Sum.elim f g t) W := by
  obtain ⟨x, e, h⟩ := h
  rw [e]
  cases x with
  | inl s => exact h1 s h
  | inr t => exact h2 t h
theorem tot_room {by_ m : Nat} {f : Unit → Option α} (h : m * by_ ≤ 140737488355328) (h2 : m ≤ 9223372036854775807) (k : Tot (f ()) P) : Tot ((room by_ m).bind f) P := tot_eq (room_ok h h2) k
end
theorem bt {b : Bool} (h : ¬ b = true) : b = false := by cases b <;> simp_all

/- ---- what a row gives ---- -/
def I64 (x : Int) : Prop := -9223372036854775808 ≤ x ∧ x ≤ 9223372036854775807
def Lst {α : Type} (P : α → Prop) (l : List α) : Prop := l.length ≤ 9223372036854775807 ∧ ∀ a ∈ l, P a
def WStop (s : ApiStop) : Prop := I64 s.Station ∧ I64 s.Track ∧ I64 s.Arr ∧ I64 s.Dep
def WTrain (t : ApiTrain) : Prop := I64 t.No ∧ I64 t.Stock ∧ Lst WStop t.Stops ∧ Lst (Lst I64) t.Legs
def WDay (d : ApiDay) : Prop := Lst WTrain d.Trains ∧ Lst (Lst I64) d.Turns

/- ---- numerals ---- -/
theorem digits_len : ∀ (k u : Nat), u < 10 ^ (k + 1) → Lib.nDigits u ≤ k + 1
  | 0, u, h => by rw [Lib.nDigits_small (by simpa using h)]; omega
  | k + 1, u, h => by
    by_cases hu : u < 10
    · rw [Lib.nDigits_small hu]; omega
    · rw [Lib.nDigits_big hu]
      have := digits_len k (u / 10) (by rw [Nat.pow_succ] at h; omega)
      omega
theorem itoa_tot {n : Int} (h : I64 n) : Tot (mStrconvItoa n) (fun b => b.size ≤ 20) := by
  unfold mStrconvItoa itoaM
  rw [chk_ok h.1 h.2]
  refine tot_some ?_
  show (Lib.itoa n).toArray.size ≤ 20
  rw [List.size_toArray]
  have := h.1; have := h.2
  by_cases hn : 0 ≤ n
  · obtain ⟨u, rfl⟩ : ∃ u : Nat, n = (u : Int) := ⟨n.toNat, by omega⟩
    rw [Lib.itoa_nonneg, Lib.decDigits_length]
    have := digits_len 18 u (by omega)
    omega
  · obtain ⟨u, rfl⟩ : ∃ u : Nat, n = -(u : Int) := ⟨n.natAbs, by omega⟩
    rw [Lib.itoa_neg u (by omega), List.length_cons, Lib.decDigits_length]
    have := digits_len 18 u (by omega)
    omega
theorem sAdd_tot {s t : ByteArray} (h : s.size + t.size ≤ 1000000000) : Tot (sAdd s t) (fun r => r.size = s.size + t.size) := by
  unfold sAdd
  rw [if_pos (by omega)]
  exact tot_some (by simp)
theorem sentence_tot {w : ByteArray} {l : List Int} (hw : w.size ≤ 5) (hl : l.length ≤ 12) (h : ∀ n ∈ l, I64 n) : Tot (mPlanSentence w l) (fun b => b.size ≤ 300) := by
  unfold mPlanSentence
  refine tot_bind (tot_forS (fun k b => b.size ≤ 5 + 21 * k) (by omega) fun j s _ hj hi => ?_) fun b hb => ?_
  · unfold mPlanSentence_L66
    refine tot_idn (by omega) fun n hn => tot_bind (itoa_tot (h n (List.mem_of_getElem? hn))) fun f hf => ?_
    have h1 : (ByteArray.mk #[32]).size = 1 := rfl
    refine tot_bind (sAdd_tot (by rw [h1]; omega)) fun g hg => tot_bind (sAdd_tot (by rw [hg, h1]; omega)) fun q hq => tot_some ?_
    rw [hq, hg, h1]
    omega
  · have h1 : (ByteArray.mk #[10]).size = 1 := rfl
    refine tot_bind (sAdd_tot (by rw [h1]; omega)) fun e he => tot_some ?_
    rw [he, h1]
    omega
theorem within_eq (a c d : Int) : mPlanWithin a c d = some (decide (c ≤ a ∧ a ≤ d)) := by
  unfold mPlanWithin
  by_cases h1 : c ≤ a
  · rw [if_pos h1, Option.bind_some]
    simp [h1]
  · rw [if_neg h1, Option.bind_some]
    simp [h1]
theorem bWrite_tot {s t : ByteArray} (h : s.size + t.size ≤ 1000000000) : Tot (bWrite s t) (fun r => r.2.size = s.size + t.size) := by
  unfold bWrite
  rw [if_pos (by omega)]
  exact tot_some (by simp)
/-- A line is written; the flag stays if its numbers are small. -/
theorem line_tot {c : ByteArray} {d : Bool} {a : List Int} {e : ByteArray} (hc : c.size ≤ 5) (ha : a.length ≤ 12) (h : ∀ n ∈ a, I64 n) (he : e.size ≤ 1000000) :
    Tot (mPlanText_1 c d a e) (fun p => p.2.size ≤ e.size + 300 ∧ (d = true → (∀ n ∈ a, 0 ≤ n ∧ n ≤ 999999) → p.1 = true)) := by
  unfold mPlanText_1
  refine tot_bind (tot_forS (fun _ q => d = true → (∀ n ∈ a, 0 ≤ n ∧ n ≤ 999999) → q = true) (fun h _ => h) fun j s _ hj hi => ?_) fun f hf => ?_
  · unfold mPlanText_1_L96
    refine tot_idn (by omega) fun n hn => tot_ite (fun _ => ?_) fun hs => tot_some fun h1 h2 => absurd (hi h1 h2) hs
    rw [within_eq]
    exact tot_some fun h1 h2 => decide_eq_true (h2 n (List.mem_of_getElem? hn))
  · refine tot_bind (sentence_tot hc ha h) fun g hg => ?_
    unfold mStringsBuilderWriteString
    refine tot_bind (bWrite_tot (by omega)) fun ⟨x, y⟩ hy => ?_
    have hy : y.size = e.size + g.size := hy
    show Tot (some (f, y)) _
    exact tot_some ⟨by show y.size ≤ _; omega, hf⟩
theorem line2_tot {c : ByteArray} {d : Bool} {a : List Int} {e : ByteArray} (hc : c.size ≤ 5) (ha : a.length ≤ 12) (h : ∀ n ∈ a, I64 n) (he : e.size ≤ 1000000) :
    Tot (mPlanText_1_2 c a d e) (fun p => p.2.size ≤ e.size + 300 ∧ (d = true → (∀ n ∈ a, 0 ≤ n ∧ n ≤ 999999) → p.1 = true)) := by
  unfold mPlanText_1_2
  refine tot_bind (tot_forS (fun _ q => d = true → (∀ n ∈ a, 0 ≤ n ∧ n ≤ 999999) → q = true) (fun h _ => h) fun j s _ hj hi => ?_) fun f hf => ?_
  · unfold mPlanText_1_2_L75
    refine tot_idn (by omega) fun n hn => tot_ite (fun _ => ?_) fun hs => tot_some fun h1 h2 => absurd (hi h1 h2) hs
    rw [within_eq]
    exact tot_some fun h1 h2 => decide_eq_true (h2 n (List.mem_of_getElem? hn))
  · refine tot_bind (sentence_tot hc ha h) fun g hg => ?_
    unfold mStringsBuilderWriteString
    refine tot_bind (bWrite_tot (by omega)) fun ⟨x, y⟩ hy => ?_
    have hy : y.size = e.size + g.size := hy
    show Tot (some (f, y)) _
    exact tot_some ⟨by show y.size ≤ _; omega, hf⟩

/- ---- the form of a day ---- -/
def FTrain (t : ApiTrain) : Prop := 1 ≤ t.Stops.length ∧ t.Stops.length ≤ 8 ∧ t.Legs.length + 1 = t.Stops.length ∧ ∀ g ∈ t.Legs, 1 ≤ g.length ∧ g.length ≤ 4
def FDay (d : ApiDay) : Prop := d.Trains.length ≤ 12 ∧ d.Turns.length ≤ 8 ∧ (∀ t ∈ d.Trains, FTrain t) ∧ ∀ g ∈ d.Turns, 1 ≤ g.length ∧ g.length ≤ 12
theorem mem_upto {α : Type} {P : α → Prop} {l : List α} (h : ∀ i x, i < 0 + l.length → l[i]? = some x → P x) : ∀ x ∈ l, P x := fun x hx => by
  obtain ⟨i, h1, h2⟩ := List.mem_iff_getElem.1 hx
  exact h i x (by omega) (by rw [List.getElem?_eq_getElem h1, h2])
theorem upto_succ {α : Type} {P : α → Prop} {l : List α} {j : Nat} {y : α} (hy : l[j]? = some y) (h : ∀ i x, i < j → l[i]? = some x → P x) (hp : P y) : ∀ i x, i < j + 1 → l[i]? = some x → P x := fun i x hi hx => by
  rcases Nat.lt_or_ge i j with h1 | h1
  · exact h i x h1 hx
  · have : i = j := by omega
    subst this
    rw [hx] at hy
    injection hy with hy
    exact hy ▸ hp
theorem form_tot {d : ApiDay} (hw : WDay d) : Tot (mPlanForm d) (fun c => (c = 0 → FDay d) ∧ (FDay d → c = 0)) := by
  unfold mPlanForm
  refine tot_bind (P := fun c => (c = 0 → FDay d) ∧ (FDay d → c = 0)) (R := fun q => q = decide (12 < d.Trains.length ∨ 8 < d.Turns.length)) (tot_ite (fun h => tot_some (by simp; omega)) fun h => tot_some (by by_cases h2 : 8 < d.Turns.length <;> simp [h2] <;> omega)) fun q hq => ?_
  refine tot_ite (fun h => tot_some ?_) fun h => ?_
  · rw [hq] at h
    have h := of_decide_eq_true h
    exact ⟨fun h => absurd h (by decide), fun hf => absurd h (by have := hf.1; have := hf.2.1; omega)⟩
  · have h := of_decide_eq_false (hq ▸ bt h)
    refine tot_sum (I := fun _ => ∀ t ∈ d.Trains, FTrain t) (R := fun c => c ≠ 0 ∧ ¬ FDay d) ?_ (fun _ h1 => ?_) fun c hc => tot_some ⟨fun h => absurd h hc.1, fun h => absurd h hc.2⟩
    · refine tot_imp (tot_forM (fun k _ => ∀ i t, i < k → d.Trains[i]? = some t → FTrain t) (fun c => c ≠ 0 ∧ ¬ FDay d) (fun i t hi => absurd hi (by omega)) fun j _ _ hj hi => ?_) fun o ho => ?_
      · unfold mPlanForm_L283
        refine tot_idn (by omega) fun t ht => ?_
        have htm := List.mem_of_getElem? ht
        have ok := (hw.1.2 t htm).2.2
        have oks := ok.1.1
        have okl := ok.2.1
        refine tot_bind (R := fun q => q = decide (¬ (1 ≤ t.Stops.length ∧ t.Legs.length + 1 = t.Stops.length))) (tot_ite (fun h => tot_some (by simp; omega)) fun h => tot_chk (by omega) (by omega) (tot_some (by simp only [decide_eq_decide]; omega))) fun q hq => ?_
        refine tot_ite (fun h => tot_some ⟨by decide, fun hf => ?_⟩) fun h => ?_
        · have h := of_decide_eq_true (hq ▸ h)
          have := hf.2.2.1 t htm
          exact h ⟨this.1, this.2.2.1⟩
        · have h := of_decide_eq_false (hq ▸ bt h)
          refine tot_sum (I := fun _ => ∀ g ∈ t.Legs, 1 ≤ g.length) (R := fun o : Unit ⊕ Int => Sum.elim (fun _ => False) (fun c => c ≠ 0 ∧ ¬ FDay d) o) ?_ (fun _ h1 => ?_) fun c hc => ⟨_, rfl, by cases c with | inl _ => exact hc.elim | inr c => exact hc⟩
          · refine tot_imp (tot_forM (fun k _ => ∀ i g, i < k → t.Legs[i]? = some g → 1 ≤ g.length) (fun o : Unit ⊕ Int => Sum.elim (fun _ => False) (fun c => c ≠ 0 ∧ ¬ FDay d) o) (fun i g hi => absurd hi (by omega)) fun j _ _ hj hi => ?_) fun o ho => ?_
            · unfold mPlanForm_L419
              refine tot_idn (by omega) fun g hg => tot_ite (fun h => tot_some ⟨by decide, fun hf => ?_⟩) fun h => tot_some (upto_succ hg hi (by omega))
              have := (hf.2.2.1 t htm).2.2.2 g (List.mem_of_getElem? hg)
              omega
            · cases o with
              | inl _ => exact mem_upto ho
              | inr _ => exact ho
          · refine tot_ite (fun h8 => tot_some ⟨by decide, fun hf => ?_⟩) fun h8 => ?_
            · have := (hf.2.2.1 t htm).2.1
              omega
            · refine tot_sum (I := fun _ => ∀ g ∈ t.Legs, g.length ≤ 4) (R := fun o : Unit ⊕ Int => Sum.elim (fun _ => False) (fun c => c ≠ 0 ∧ ¬ FDay d) o) ?_ (fun _ h2 => ?_) fun c hc => ⟨_, rfl, by cases c with | inl _ => exact hc.elim | inr c => exact hc⟩
              · refine tot_imp (tot_forM (fun k _ => ∀ i g, i < k → t.Legs[i]? = some g → g.length ≤ 4) (fun o : Unit ⊕ Int => Sum.elim (fun _ => False) (fun c => c ≠ 0 ∧ ¬ FDay d) o) (fun i g hi => absurd hi (by omega)) fun j _ _ hj hi => ?_) fun o ho => ?_
                · unfold mPlanForm_L460
                  refine tot_idn (by omega) fun g hg => tot_ite (fun h => tot_some ⟨by decide, fun hf => ?_⟩) fun h => tot_some (upto_succ hg hi (by omega))
                  have := (hf.2.2.1 t htm).2.2.2 g (List.mem_of_getElem? hg)
                  omega
                · cases o with
                  | inl _ => exact mem_upto ho
                  | inr _ => exact ho
              · refine tot_some (upto_succ ht hi ⟨by omega, by omega, by omega, fun g hg => ⟨h1 g hg, h2 g hg⟩⟩)
      · cases o with
        | inl _ => exact mem_upto ho
        | inr _ => exact ho
    · refine tot_sum (I := fun _ => ∀ g ∈ d.Turns, 1 ≤ g.length ∧ g.length ≤ 12) (R := fun c => c ≠ 0 ∧ ¬ FDay d) ?_ (fun _ h2 => tot_some ⟨fun _ => ⟨by omega, by omega, h1, h2⟩, fun _ => rfl⟩) fun c hc => tot_some ⟨fun h => absurd h hc.1, fun h => absurd h hc.2⟩
      refine tot_imp (tot_forM (fun k _ => ∀ i g, i < k → d.Turns[i]? = some g → 1 ≤ g.length ∧ g.length ≤ 12) (fun c => c ≠ 0 ∧ ¬ FDay d) (fun i t hi => absurd hi (by omega)) fun j _ _ hj hi => ?_) fun o ho => ?_
      · unfold mPlanForm_L500
        refine tot_idn (by omega) fun g hg => tot_ite (fun h => tot_some ⟨by decide, fun hf => ?_⟩) fun h => tot_ite (fun h => tot_some ⟨by decide, fun hf => ?_⟩) fun h2 => tot_some (upto_succ hg hi (by omega))
        · have := hf.2.2.2 g (List.mem_of_getElem? hg)
          omega
        · have := hf.2.2.2 g (List.mem_of_getElem? hg)
          omega
      · cases o with
        | inl _ => exact mem_upto ho
        | inr _ => exact ho
/-- All numbers of a day are small. -/
def NDay (d : ApiDay) : Prop := (∀ t ∈ d.Trains, (∀ n ∈ [t.No, t.Stock], 0 ≤ n ∧ n ≤ 999999) ∧ (∀ s ∈ t.Stops, ∀ n ∈ [s.Station, s.Track, s.Arr, s.Dep], 0 ≤ n ∧ n ≤ 999999) ∧ ∀ g ∈ t.Legs, ∀ n ∈ g, 0 ≤ n ∧ n ≤ 999999) ∧ ∀ g ∈ d.Turns, ∀ n ∈ g, 0 ≤ n ∧ n ≤ 999999
set_option maxRecDepth 20000 in
theorem text_tot {d : ApiDay} (hw : WDay d) : Tot (mPlanText d) (fun p => (p.2 = 0 → FDay d) ∧ (FDay d → NDay d → p.2 = 0)) := by
  unfold mPlanText
  refine tot_bind (form_tot hw) fun c hc => tot_ite (fun h => tot_some ⟨fun h0 => absurd h0 h, fun hf _ => hc.2 hf⟩) fun h => ?_
  have h0 : c = 0 := Decidable.of_not_not h
  have hf := hc.1 h0
  refine tot_bind (tot_forS (fun k p => p.2.size ≤ 4800 * k ∧ (NDay d → p.1 = true)) ⟨by show (ByteArray.empty).size ≤ _; decide, fun _ => rfl⟩ fun j p _ hj hi => ?_) fun ⟨q, b⟩ hb => ?_
  · obtain ⟨q, b⟩ := p
    obtain ⟨hi1, hi2⟩ := hi
    have hi1 : b.size ≤ 4800 * j := hi1
    have hi2 : NDay d → q = true := hi2
    have hd := hf.1
    show Tot (mPlanText_L677 d j (q, b)) _
    unfold mPlanText_L677
    show Tot ((idx d.Trains (j : Int)).bind _) _
    refine tot_idn (by omega) fun t ht => ?_
    have htm := List.mem_of_getElem? ht
    have wt := hw.1.2 t htm
    have ft := hf.2.2.1 t htm
    refine tot_bind (line_tot (by decide) (by simp) (fun n hn => by
      simp at hn
      rcases hn with rfl | rfl
      · exact wt.1
      · exact wt.2.1) (by omega)) fun ⟨q1, b1⟩ h1 => ?_
    obtain ⟨h1, h1'⟩ := h1
    have h1 : b1.size ≤ b.size + 300 := h1
    have h1' : q = true → _ → q1 = true := h1'
    show Tot ((forS (mPlanText_L1089 t) t.Stops.length 0 (q1, b1)).bind _) _
    refine tot_bind (tot_forS (fun k p => p.2.size ≤ b1.size + 300 * k ∧ (NDay d → p.1 = true)) ⟨by show b1.size ≤ _; omega, fun hn => h1' (hi2 hn) (hn.1 t htm).1⟩ fun i p _ hj2 hi => ?_) fun ⟨q2, b2⟩ h2 => ?_
    · obtain ⟨q2, b2⟩ := p
      obtain ⟨hi3, hi4⟩ := hi
      have hi3 : b2.size ≤ b1.size + 300 * i := hi3
      have hi4 : NDay d → q2 = true := hi4
      have := ft.2.1
      show Tot (mPlanText_L1089 t i (q2, b2)) _
      unfold mPlanText_L1089
      show Tot ((idx t.Stops (i : Int)).bind _) _
      refine tot_idn (by omega) fun s hs => ?_
      have hsm := List.mem_of_getElem? hs
      have ws := wt.2.2.1.2 s hsm
      refine tot_bind (line_tot (by decide) (by simp) (fun n hn => by
        simp at hn
        rcases hn with rfl | rfl | rfl | rfl
        · exact ws.1
        · exact ws.2.1
        · exact ws.2.2.1
        · exact ws.2.2.2) (by omega)) fun ⟨q3, b3⟩ h3 => ?_
      obtain ⟨h3, h3'⟩ := h3
      have h3 : b3.size ≤ b2.size + 300 := h3
      have hz : b3.size ≤ b1.size + 300 * (i + 1) := by omega
      exact tot_some ⟨hz, fun hn => h3' (hi4 hn) ((hn.1 t htm).2.1 s hsm)⟩
    · obtain ⟨h2, h2'⟩ := h2
      have h2 : b2.size ≤ b1.size + 300 * (0 + t.Stops.length) := h2
      have h2' : NDay d → q2 = true := h2'
      have f1 := ft.2.1
      have f2 := ft.2.2.1
      show Tot ((forS (mPlanText_L1169 t) t.Legs.length 0 (q2, b2)).bind _) _
      refine tot_bind (tot_forS (fun k p => p.2.size ≤ b2.size + 300 * k ∧ (NDay d → p.1 = true)) ⟨by show b2.size ≤ _; omega, h2'⟩ fun i p _ hj2 hi => ?_) fun ⟨q3, b3⟩ h3 => ?_
      · obtain ⟨q3, b3⟩ := p
        obtain ⟨hi3, hi4⟩ := hi
        have hi3 : b3.size ≤ b2.size + 300 * i := hi3
        have hi4 : NDay d → q3 = true := hi4
        show Tot (mPlanText_L1169 t i (q3, b3)) _
        unfold mPlanText_L1169
        show Tot ((idx t.Legs (i : Int)).bind _) _
        refine tot_idn (by omega) fun g hg => ?_
        have hgm := List.mem_of_getElem? hg
        refine tot_bind (line2_tot (by decide) (by have := (ft.2.2.2 g hgm).2; omega) ((wt.2.2.2.2 g hgm).2) (by omega)) fun ⟨q4, b4⟩ h4 => ?_
        obtain ⟨h4, h4'⟩ := h4
        have h4 : b4.size ≤ b3.size + 300 := h4
        have hz : b4.size ≤ b2.size + 300 * (i + 1) := by omega
        exact tot_some ⟨hz, fun hn => h4' (hi4 hn) ((hn.1 t htm).2.2 g hgm)⟩
      · obtain ⟨h3, h3'⟩ := h3
        have h3 : b3.size ≤ b2.size + 300 * (0 + t.Legs.length) := h3
        have hz : b3.size ≤ 4800 * (j + 1) := by omega
        exact tot_some ⟨hz, h3'⟩
  · obtain ⟨hb, hb'⟩ := hb
    have hb : b.size ≤ 4800 * (0 + d.Trains.length) := hb
    have hb' : NDay d → q = true := hb'
    have f1 := hf.1
    have f2 := hf.2.1
    show Tot ((forS (mPlanText_L1246 d) d.Turns.length 0 (q, b)).bind _) _
    refine tot_bind (tot_forS (fun k p => p.2.size ≤ b.size + 300 * k ∧ (NDay d → p.1 = true)) ⟨by show b.size ≤ _; omega, hb'⟩ fun i p _ hj2 hi => ?_) fun ⟨q3, b3⟩ h3 => ?_
    · obtain ⟨q3, b3⟩ := p
      obtain ⟨hi3, hi4⟩ := hi
      have hi3 : b3.size ≤ b.size + 300 * i := hi3
      have hi4 : NDay d → q3 = true := hi4
      show Tot (mPlanText_L1246 d i (q3, b3)) _
      unfold mPlanText_L1246
      show Tot ((idx d.Turns (i : Int)).bind _) _
      refine tot_idn (by omega) fun g hg => ?_
      have hgm := List.mem_of_getElem? hg
      refine tot_bind (line2_tot (by decide) (by have := (hf.2.2.2 g hgm).2; omega) ((hw.2.2 g hgm).2) (by omega)) fun ⟨q4, b4⟩ h4 => ?_
      obtain ⟨h4, h4'⟩ := h4
      have h4 : b4.size ≤ b3.size + 300 := h4
      have hz : b4.size ≤ b.size + 300 * (i + 1) := by omega
      exact tot_some ⟨hz, fun hn => h4' (hi4 hn) (hn.2 g hgm)⟩
    · obtain ⟨_, h3'⟩ := h3
      show Tot (if q3 = true then _ else _) _
      refine tot_ite (fun h => ?_) fun h => tot_some ⟨fun h => absurd h (by decide), fun _ hn => absurd (h3' hn) h⟩
      unfold mStringsBuilderString
      exact tot_some ⟨fun _ => hf, fun _ _ => rfl⟩
/- ==== GB ==== -/
theorem gwithin_eq (a c d : Int) : mGuideWithin a c d = some (decide (c ≤ a ∧ a ≤ d)) := by
  unfold mGuideWithin
  by_cases h1 : c ≤ a
  · rw [if_pos h1, Option.bind_some]
    simp [h1]
  · rw [if_neg h1, Option.bind_some]
    simp [h1]
theorem mgd_put {κ ν : Type} [DecidableEq κ] (l : List (κ × ν)) (k k' : κ) (v d : ν) : mgetD (mput l k v) k' d = if k = k' then v else mgetD l k' d := by
  unfold mgetD
  by_cases h : k = k'
  · subst h
    rw [if_pos rfl, mget_mput_same]
    rfl
  · rw [if_neg h, mget_mput_other l v (fun e => h e.symm)]
def StopIn (s : ApiStop) : Prop := (0 ≤ s.Station ∧ s.Station ≤ 11) ∧ (0 ≤ s.Arr ∧ s.Arr ≤ 28800) ∧ (0 ≤ s.Dep ∧ s.Dep ≤ 28800) ∧ s.Arr ≤ s.Dep
def GStops (l : List ApiStop) : Prop := 2 ≤ l.length ∧ l.length ≤ 8 ∧ ∀ i s, l[i]? = some s → StopIn s ∧ ∀ p, l[i - 1]? = some p → 0 < i → p.Dep < s.Arr
def GTrain (t : ApiTrain) : Prop := (1 ≤ t.No ∧ t.No ≤ 9999) ∧ GStops t.Stops
def GDay (d : ApiDay) : Prop := d.Trains.length ≤ 12 ∧ (∀ t ∈ d.Trains, GTrain t) ∧ ∀ (i j : Nat) (s t : ApiTrain), d.Trains[i]? = some s → d.Trains[j]? = some t → s.No = t.No → i = j
theorem check_tot {d : ApiDay} (hw : WDay d) : Tot (mGuideCheck d) (fun c => c = 0 → GDay d) := by
  unfold mGuideCheck
  refine tot_bind (text_tot hw) fun ⟨b, c⟩ hc => ?_
  have hc1 : c = 0 → FDay d := hc.1
  show Tot (if c ≠ 0 then _ else _) _
  refine tot_ite (fun h => tot_some fun h0 => absurd h0 h) fun h => ?_
  have hf := hc1 (Decidable.of_not_not h)
  refine tot_sum (I := fun _ => GDay d) (R := fun c => c ≠ 0) ?_ (fun _ h1 => tot_some fun _ => h1) fun c hc => tot_some fun h => absurd h hc
  refine tot_imp (tot_forM (fun k m => (∀ i t, i < k → d.Trains[i]? = some t → GTrain t ∧ mgetD m t.No false = true) ∧ ∀ i j s t, i < k → j < k → d.Trains[i]? = some s → d.Trains[j]? = some t → s.No = t.No → i = j) (fun c => c ≠ 0) ⟨fun i t hi => absurd hi (by omega), fun i j s t hi => absurd hi (by omega)⟩ fun j m _ hj ⟨hi, hd⟩ => ?_) fun o ho => ?_
  · unfold mGuideCheck_L703
    refine tot_idn (by omega) fun t ht => ?_
    have htm := List.mem_of_getElem? ht
    have ft := hf.2.2.1 t htm
    rw [gwithin_eq, Option.bind_some]
    refine tot_ite (fun hno => ?_) fun _ => tot_some (show (2 : Int) ≠ 0 by decide)
    have hno := of_decide_eq_true hno
    rw [Option.bind_some]
    refine tot_ite (fun _ => tot_some (show (6 : Int) ≠ 0 by decide)) fun hseen => tot_ite (fun _ => tot_some (show (1 : Int) ≠ 0 by decide)) fun h2 => ?_
    refine tot_sum (I := fun _ => GStops t.Stops) (R := fun o : List (Int × Bool) ⊕ Int => Sum.elim (fun _ => False) (fun c => c ≠ 0) o) ?_ (fun _ h1 => tot_some ⟨fun i s hi' hs => ?_, fun i i' s s' hi1 hi2 hs hs' he => ?_⟩) fun c hc => ⟨_, rfl, by cases c with | inl _ => exact hc.elim | inr c => exact hc⟩
    · refine tot_imp (tot_forM (fun k _ => ∀ i s, i < k → t.Stops[i]? = some s → StopIn s ∧ ∀ p, t.Stops[i - 1]? = some p → 0 < i → p.Dep < s.Arr) (fun o : List (Int × Bool) ⊕ Int => Sum.elim (fun _ => False) (fun c => c ≠ 0) o) (fun i g hi => absurd hi (by omega)) fun i _ _ hi' hi => ?_) fun o ho => ?_
      · unfold mGuideCheck_L1189
        refine tot_idn (by omega) fun s hs => ?_
        refine tot_bind (R := fun q => q = decide (¬ ((0 ≤ s.Station ∧ s.Station ≤ 11) ∧ (0 ≤ s.Arr ∧ s.Arr ≤ 28800) ∧ (0 ≤ s.Dep ∧ s.Dep ≤ 28800)))) ?_ fun q hq => ?_
        · rw [gwithin_eq, Option.bind_some]
          refine tot_ite (fun h1 => ?_) fun h1 => tot_some ?_
          · rw [gwithin_eq, Option.bind_some]
            refine tot_ite (fun h2 => ?_) fun h2 => tot_some ?_
            · rw [gwithin_eq, Option.bind_some]
              refine tot_some ?_
              have h1 := of_decide_eq_true h1
              have h2 := of_decide_eq_true h2
              by_cases h3 : 0 ≤ s.Dep ∧ s.Dep ≤ 28800 <;> simp [h1, h2, h3]
            · have h2 := of_decide_eq_false (bt h2)
              simp [h2]
          · have h1 := of_decide_eq_false (bt h1)
            simp [h1]
        · refine tot_ite (fun _ => tot_some (by show (2 : Int) ≠ 0; decide)) fun hqf => ?_
          have hin := Decidable.of_not_not (of_decide_eq_false (hq ▸ bt hqf))
          refine tot_bind (R := fun q => q = false → s.Arr ≤ s.Dep ∧ ∀ p, t.Stops[i - 1]? = some p → 0 < i → p.Dep < s.Arr) ?_ fun q hq2 => ?_
          · have f8 := ft.2.1
            refine tot_ite (fun h1 => tot_some fun h => by cases h) fun h1 => tot_ite (fun h2 => tot_chk (by omega) (by omega) (tot_idx (by omega) (by have := ft.2.1; omega) fun p hp => tot_some fun h => ?_)) fun h2 => tot_some fun _ => ⟨by omega, fun p _ h3 => absurd h3 (by omega)⟩
            have h := of_decide_eq_false h
            have he : ((i : Int) - 1).toNat = i - 1 := by omega
            rw [he] at hp
            exact ⟨by omega, fun p' hp' _ => by rw [hp] at hp'; injection hp' with hp'; subst hp'; omega⟩
          · refine tot_ite (fun _ => tot_some (by show (5 : Int) ≠ 0; decide)) fun hqf2 => ?_
            have := hq2 (bt hqf2)
            exact tot_some (show ∀ (i' : Nat) (s' : ApiStop), i' < i + 1 → t.Stops[i']? = some s' → StopIn s' ∧ ∀ p, t.Stops[i' - 1]? = some p → 0 < i' → p.Dep < s'.Arr from fun i' s' hi2 hs' => by
              rcases Nat.lt_or_ge i' i with h5 | h5
              · exact hi i' s' h5 hs'
              · have : i' = i := by omega
                subst this
                rw [hs] at hs'
                injection hs' with hs'
                subst hs'
                exact ⟨⟨hin.1, hin.2.1, hin.2.2, this.1⟩, this.2⟩)
      · cases o with
        | inl _ =>
          have ho : ∀ i s, i < 0 + t.Stops.length → t.Stops[i]? = some s → _ := ho
          refine ⟨by omega, ft.2.1, fun i s hs => ho i s (by have := List.getElem?_eq_some_iff.1 hs; obtain ⟨h, _⟩ := this; omega) hs⟩
        | inr _ => exact ho
    · rcases Nat.lt_or_ge i j with h5 | h5
      · obtain ⟨h6, h7⟩ := hi i s h5 hs
        refine ⟨h6, ?_⟩
        rw [mgd_put]
        split
        · rfl
        · exact h7
      · have : i = j := by omega
        subst this
        rw [ht] at hs
        injection hs with hs
        subst hs
        exact ⟨⟨hno, h1⟩, by rw [mgd_put, if_pos rfl]⟩
    · have new : ∀ i s, i < j → d.Trains[i]? = some s → s.No ≠ t.No := fun i s h5 hs he => by
        have := (hi i s h5 hs).2
        rw [he] at this
        exact hseen this
      rcases Nat.lt_or_ge i j with h5 | h5 <;> rcases Nat.lt_or_ge i' j with h6 | h6
      · exact hd i i' s s' h5 h6 hs hs' he
      · have : i' = j := by omega
        subst this
        rw [ht] at hs'
        injection hs' with hs'
        subst hs'
        exact absurd he (new i s h5 hs)
      · have : i = j := by omega
        subst this
        rw [ht] at hs
        injection hs with hs
        subst hs
        exact absurd he.symm (new i' s' h6 hs')
      · omega
  · cases o with
    | inl m =>
      obtain ⟨h1, h2⟩ := ho
      have hlt : ∀ {i : Nat} {t : ApiTrain}, d.Trains[i]? = some t → i < 0 + d.Trains.length := fun h => by obtain ⟨h, _⟩ := List.getElem?_eq_some_iff.1 h; omega
      exact ⟨hf.1, fun t ht => by obtain ⟨i, h3, h4⟩ := List.mem_iff_getElem.1 ht; exact (h1 i t (by omega) (by rw [List.getElem?_eq_getElem h3, h4])).1, fun i j s t hs ht he => h2 i j s t (hlt hs) (hlt ht) hs ht he⟩
    | inr _ => exact ho
theorem least_tot {d : ApiDay} (hw : WDay d) (m : Int) : Tot (mGuideCheckLeast d m) (fun c => c = 0 → GDay d ∧ 0 ≤ m ∧ m ≤ 28800) := by
  unfold mGuideCheckLeast
  refine tot_bind (check_tot hw) fun c hc => tot_ite (fun h => tot_some fun h0 => absurd h0 h) fun h => ?_
  rw [gwithin_eq, Option.bind_some]
  exact tot_ite (fun h2 => tot_some fun _ => ⟨hc (Decidable.of_not_not h), of_decide_eq_true h2⟩) fun _ => tot_some fun h => absurd h (by decide)

/- ---- rides ---- -/
def tr (T : List ApiTrain) (t : Int) : ApiTrain := T.getD t.toNat ⟨0, 0, [], []⟩
def stp (T : List ApiTrain) (t k : Int) : ApiStop := (tr T t).Stops.getD k.toNat ⟨0, 0, 0, 0⟩
def on (T : List ApiTrain) (r : GuideRide) : ApiStop := stp T r.Train r.On
def off (T : List ApiTrain) (r : GuideRide) : ApiStop := stp T r.Train r.Off
def RideOk (T : List ApiTrain) (r : GuideRide) : Prop := (0 ≤ r.Train ∧ r.Train < (T.length : Int)) ∧ 0 ≤ r.On ∧ r.On < r.Off ∧ r.Off < ((tr T r.Train).Stops.length : Int)
theorem tr_idx {T : List ApiTrain} {t : Int} (h0 : 0 ≤ t) (h1 : t < (T.length : Int)) : idx T t = some (tr T t) := by
  obtain ⟨x, h2, h3⟩ := idx_get h0 h1
  rw [h2, tr, List.getD_eq_getElem?_getD, h3]
  rfl
theorem stp_idx {T : List ApiTrain} {t k : Int} (h0 : 0 ≤ k) (h1 : k < ((tr T t).Stops.length : Int)) : idx (tr T t).Stops k = some (stp T t k) := by
  obtain ⟨x, h2, h3⟩ := idx_get h0 h1
  rw [h2, stp, List.getD_eq_getElem?_getD, h3]
  rfl
theorem on_eq {n : GuideNet} {r : GuideRide} (h : RideOk n.Day.Trains r) : mGuideNetOn n r = some ((on n.Day.Trains r).Station, (on n.Day.Trains r).Track, (on n.Day.Trains r).Arr, (on n.Day.Trains r).Dep) := by
  obtain ⟨⟨a, b⟩, c, d, e⟩ := h
  unfold mGuideNetOn
  rw [tr_idx a b, Option.bind_some, stp_idx c (by omega)]
  rfl
theorem off_eq {n : GuideNet} {r : GuideRide} (h : RideOk n.Day.Trains r) : mGuideNetOff n r = some ((off n.Day.Trains r).Station, (off n.Day.Trains r).Track, (off n.Day.Trains r).Arr, (off n.Day.Trains r).Dep) := by
  obtain ⟨⟨a, b⟩, c, d, e⟩ := h
  unfold mGuideNetOff
  rw [tr_idx a b, Option.bind_some, stp_idx (by omega) e]
  rfl
theorem tr_mem {T : List ApiTrain} {t : Int} (h0 : 0 ≤ t) (h1 : t < (T.length : Int)) : tr T t ∈ T := by
  obtain ⟨x, h2, h3⟩ := idx_get h0 h1
  rw [tr, List.getD_eq_getElem?_getD, h3]
  exact List.mem_of_getElem? h3
theorem stp_at {T : List ApiTrain} {t k : Int} (h0 : 0 ≤ k) (h1 : k < ((tr T t).Stops.length : Int)) : (tr T t).Stops[k.toNat]? = some (stp T t k) := by
  obtain ⟨x, h2, h3⟩ := idx_get h0 h1
  rw [stp, List.getD_eq_getElem?_getD, h3]
  rfl
theorem rising {l : List ApiStop} (h : GStops l) : ∀ (d i : Nat) (s q : ApiStop), l[i]? = some s → l[i + 1 + d]? = some q → s.Dep < q.Arr
  | 0, i, s, q, hs, hq => (h.2.2 _ q hq).2 s (by simpa using hs) (by omega)
  | d + 1, i, s, q, hs, hq => by
    have hlt : i + 1 + d < l.length := by obtain ⟨h, _⟩ := List.getElem?_eq_some_iff.1 hq; omega
    have hm := List.getElem?_eq_getElem hlt
    have h1 := rising h d i s _ hs hm
    have h2 := (h.2.2 _ q hq).2 _ (by rw [show i + 1 + (d + 1) - 1 = i + 1 + d by omega]; exact hm) (by omega)
    have h3 := (h.2.2 _ _ hm).1.2.2.2
    omega
structure RideIn (T : List ApiTrain) (r : GuideRide) : Prop where
  on_ : StopIn (on T r)
  off_ : StopIn (off T r)
  run : (on T r).Dep < (off T r).Arr
theorem ride_in {d : ApiDay} (hd : GDay d) {r : GuideRide} (h : RideOk d.Trains r) : RideIn d.Trains r := by
  obtain ⟨⟨a, b⟩, c, e, f⟩ := h
  have g := (hd.2.1 _ (tr_mem a b)).2
  have h1 := stp_at (T := d.Trains) (t := r.Train) c (by omega)
  have h2 := stp_at (T := d.Trains) (t := r.Train) (k := r.Off) (by omega) f
  refine ⟨(g.2.2 _ _ h1).1, (g.2.2 _ _ h2).1, ?_⟩
  have h3 : r.Off.toNat = r.On.toNat + 1 + (r.Off.toNat - r.On.toNat - 1) := by omega
  rw [h3] at h2
  exact rising g _ _ _ _ h1 h2
theorem mem_offs {t on n off : Nat} {r : GuideRide} : r ∈ offsG t on n off ↔ r.Train = (t : Int) ∧ r.On = (on : Int) ∧ (off : Int) ≤ r.Off ∧ r.Off < (n : Int) := by
  unfold offsG
  rw [List.mem_map]
  constructor
  · rintro ⟨k, h, rfl⟩
    rw [List.mem_range'_1] at h
    exact ⟨rfl, rfl, by show (off : Int) ≤ (k : Int); omega, by show (k : Int) < (n : Int); omega⟩
  · rintro ⟨h1, h2, h3, h4⟩
    refine ⟨r.Off.toNat, by rw [List.mem_range'_1]; omega, ?_⟩
    cases r
    simp only at h1 h2 h3 h4
    subst h1; subst h2
    simp only [GuideRide.mk.injEq, true_and]
    omega
theorem mem_ridesS {t n : Nat} {sta at_ : Int} {r : GuideRide} : ∀ {l : List ApiStop} {k : Nat}, r ∈ ridesS t n sta at_ l k ↔ r.Train = (t : Int) ∧ ∃ i s, l[i]? = some s ∧ r.On = ((k + i : Nat) : Int) ∧ s.Station = sta ∧ at_ ≤ s.Dep ∧ r.On < r.Off ∧ r.Off < (n : Int)
  | [], k => by simp [ridesS]
  | s :: l, k => by
    unfold ridesS
    rw [List.mem_append, mem_ridesS (l := l) (k := k + 1)]
    constructor
    · rintro (h | ⟨h1, i, q, h2, h3, h4⟩)
      · by_cases hc : s.Station ≠ sta ∨ s.Dep < at_
        · rw [if_pos hc] at h; cases h
        · rw [if_neg hc, mem_offs] at h
          exact ⟨h.1, 0, s, rfl, h.2.1, by omega, by omega, by omega, h.2.2.2⟩
      · exact ⟨h1, i + 1, q, by simpa using h2, by omega, h4⟩
    · rintro ⟨h1, i, q, h2, h3, h4, h5, h6, h7⟩
      cases i with
      | zero =>
        simp at h2
        subst h2
        refine .inl ?_
        rw [if_neg (by omega), mem_offs]
        exact ⟨h1, h3, by omega, h7⟩
      | succ i => exact .inr ⟨h1, i, q, by simpa using h2, by omega, h4, h5, h6, h7⟩
theorem mem_ridesL {sta at_ nt : Int} {r : GuideRide} : ∀ {l : List ApiTrain} {k : Nat}, r ∈ ridesL sta at_ nt l k ↔ ∃ i x, l[i]? = some x ∧ r.Train = ((k + i : Nat) : Int) ∧ r.Train ≠ nt ∧ ∃ j s, x.Stops[j]? = some s ∧ r.On = ((j : Nat) : Int) ∧ s.Station = sta ∧ at_ ≤ s.Dep ∧ r.On < r.Off ∧ r.Off < (x.Stops.length : Int)
  | [], k => by simp [ridesL]
  | x :: l, k => by
    unfold ridesL
    rw [List.mem_append, mem_ridesL (l := l) (k := k + 1)]
    constructor
    · rintro (h | ⟨i, q, h2, h3, h4⟩)
      · by_cases hc : (k : Int) = nt
        · rw [if_pos hc] at h; cases h
        · rw [if_neg hc, mem_ridesS] at h
          obtain ⟨h1, j, s, h2, h3, h4⟩ := h
          exact ⟨0, x, rfl, h1, by rw [h1]; exact hc, j, s, h2, by omega, h4⟩
      · exact ⟨i + 1, q, by simpa using h2, by omega, h4⟩
    · rintro ⟨i, q, h2, h3, h4, j, s, h5, h6, h7⟩
      cases i with
      | zero =>
        simp at h2
        subst h2
        refine .inl ?_
        rw [if_neg (by omega), mem_ridesS]
        exact ⟨h3, j, s, h5, by omega, h7⟩
      | succ i => exact .inr ⟨i, q, by simpa using h2, by omega, h4, j, s, h5, h6, h7⟩
/-- All rides from a station on. -/
theorem mem_rides {sta at_ nt : Int} {r : GuideRide} {T : List ApiTrain} : r ∈ ridesL sta at_ nt T 0 ↔ RideOk T r ∧ (on T r).Station = sta ∧ at_ ≤ (on T r).Dep ∧ r.Train ≠ nt := by
  rw [mem_ridesL]
  constructor
  · rintro ⟨i, x, h1, h2, h3, j, s, h4, h5, h6, h7, h8, h9⟩
    have hi : i < T.length := by obtain ⟨h, _⟩ := List.getElem?_eq_some_iff.1 h1; exact h
    have ht : tr T r.Train = x := by rw [tr, List.getD_eq_getElem?_getD, show r.Train.toNat = i by omega, h1]; rfl
    have hs : on T r = s := by rw [on, stp, ht, List.getD_eq_getElem?_getD, show r.On.toNat = j by omega, h4]; rfl
    exact ⟨⟨⟨by omega, by omega⟩, by omega, h8, by rw [ht]; exact h9⟩, by rw [hs]; exact h6, by rw [hs]; exact h7, h3⟩
  · rintro ⟨⟨⟨h1, h2⟩, h3, h4, h5⟩, h6, h7, h8⟩
    obtain ⟨x, _, hx⟩ := idx_get h1 h2
    have ht : tr T r.Train = x := by rw [tr, List.getD_eq_getElem?_getD, hx]; rfl
    have hs := stp_at (T := T) (t := r.Train) h3 (by omega)
    rw [ht] at hs h5
    exact ⟨r.Train.toNat, x, hx, by omega, h8, r.On.toNat, _, hs, by omega, h6, h7, h4, h5⟩
/- ==== GC ==== -/
/- ---- what comes out, if there is fuel ---- -/
def Tos (s : Prop) {α : Type} (o : Option α) (P : α → Prop) : Prop := Tot o P ∨ (s ∧ o = none)
section
variable {α β σ τ : Type} {P Q : α → Prop} {S : Prop}
theorem tos_of {o : Option α} (h : Tot o P) : Tos S o P := .inl h
theorem tos_some {x : α} (h : P x) : Tos S (some x) P := .inl ⟨x, rfl, h⟩
theorem tos_bind {o : Option β} {f : β → Option α} {R : β → Prop} (h : Tos S o R) (k : ∀ x, R x → Tos S (f x) P) : Tos S (o.bind f) P := by
  rcases h with ⟨x, h1, h2⟩ | ⟨h1, h2⟩
  · rw [h1]; exact k x h2
  · rw [h2]; exact .inr ⟨h1, rfl⟩
theorem tos_bt {o : Option β} {f : β → Option α} {R : β → Prop} (h : Tot o R) (k : ∀ x, R x → Tos S (f x) P) : Tos S (o.bind f) P := tos_bind (.inl h) k
theorem tos_eq {o : Option β} {f : β → Option α} {x : β} (h : o = some x) (k : Tos S (f x) P) : Tos S (o.bind f) P := by
  rw [h]
  exact k
theorem tos_ite {c : Prop} [Decidable c] {a b : Option α} (h1 : c → Tos S a P) (h2 : ¬ c → Tos S b P) : Tos S (if c then a else b) P := by
  split
  · exact h1 ‹_›
  · exact h2 ‹_›
theorem tos_imp {o : Option α} (h : Tos S o P) (k : ∀ x, P x → Q x) : Tos S o Q := by
  rcases h with ⟨x, h1, h2⟩ | h
  · exact .inl ⟨x, h1, k x h2⟩
  · exact .inr h
theorem tos_idn {l : List β} {j : Nat} {f : β → Option α} (h1 : j < l.length) (k : ∀ x, l[j]? = some x → Tos S (f x) P) : Tos S ((idx l (j : Int)).bind f) P := by
  rw [idx_lt h1]
  exact k _ (List.getElem?_eq_getElem h1)
theorem tos_chk {x : Int} {f : Int → Option α} (h : -9223372036854775808 ≤ x) (h2 : x ≤ 9223372036854775807) (k : Tos S (f x) P) : Tos S ((chk x).bind f) P := tos_eq (chk_ok h h2) k
theorem tos_room {by_ m : Nat} {f : Unit → Option α} (h : m * by_ ≤ 140737488355328) (h2 : m ≤ 9223372036854775807) (k : Tos S (f ()) P) : Tos S ((room by_ m).bind f) P := tos_eq (room_ok h h2) k
theorem tos_forS {body : Nat → σ → Option σ} (I : Nat → σ → Prop) : ∀ {m k : Nat} {s : σ}, I k s → (∀ j s, k ≤ j → j < k + m → I j s → Tos S (body j s) (I (j + 1))) → Tos S (forS body m k s) (I (k + m))
  | 0, k, s, h0, _ => tos_some h0
  | m + 1, k, s, h0, h => by
    show Tos S ((body k s).bind _) _
    refine tos_bind (h k s (Nat.le_refl _) (by omega) h0) fun t ht => ?_
    rw [show k + (m + 1) = k + 1 + m by omega]
    exact tos_forS I ht fun j t hj hj' hi => h j t (by omega) (by omega) hi
theorem tos_forL {body : β → σ → Option (σ ⊕ τ)} (I : List β → σ → Prop) (R : τ → Prop) : ∀ {l : List β} {s : σ}, I l s → (∀ x r s, x ∈ l → I (x :: r) s → Tos S (body x s) (Sum.elim (I r) R)) → Tos S (forL body l s) (Sum.elim (I []) R)
  | [], s, h0, _ => tos_some h0
  | x :: r, s, h0, h => by
    unfold forL
    rcases h x r s (List.mem_cons_self ..) h0 with ⟨o, h1, h2⟩ | ⟨h1, h2⟩
    · rw [h1]
      cases o with
      | inr t => exact tos_some h2
      | inl s' => exact tos_forL I R h2 fun y q t hy hi => h y q t (List.mem_cons_of_mem _ hy) hi
    · rw [h2]
      exact .inr ⟨h1, rfl⟩
theorem tos_sum {γ : Type} {o : Option (σ ⊕ τ)} {f : σ → Option γ} {g : τ → Option γ} {I : σ → Prop} {R : τ → Prop} {W : γ → Prop} (h : Tos S o (Sum.elim I R)) (h1 : ∀ s, I s → Tos S (f s) W) (h2 : ∀ t, R t → Tos S (g t) W) : Tos S (o.bind fun t => Sum.elim f g t) W := by
  refine tos_bind h fun x hx => ?_
  cases x with
  | inl s => exact h1 s hx
  | inr t => exact h2 t hx
theorem lim_tot {f : Nat → Option α} (K : Nat) (h : ∀ N, Tos (N < K) (f N) P) : Tot (lim f) P := by
  refine lim_ok ?_ fun n t hn => ?_
  · rcases h K with ⟨x, h1, _⟩ | ⟨h1, _⟩
    · exact ⟨K, x, h1⟩
    · omega
  · rcases h n with ⟨x, h1, h2⟩ | ⟨_, h1⟩
    · rw [hn] at h1; injection h1 with h1; rw [h1]; exact h2
    · rw [hn] at h1; cases h1
end

/- ---- chains ---- -/
def Link (T : List ApiTrain) (m : Int) (a b : GuideRide) : Prop := b.Train ≠ a.Train ∧ (on T b).Station = (off T a).Station ∧ (off T a).Arr + m ≤ (on T b).Dep
def Chain (T : List ApiTrain) (m : Int) (l : List GuideRide) : Prop := (∀ r ∈ l, RideOk T r) ∧ ∀ (i : Nat) (a b : GuideRide), l[i]? = some a → l[i + 1]? = some b → Link T m a b
theorem chain_one {T : List ApiTrain} {m : Int} {r : GuideRide} (h : RideOk T r) : Chain T m [r] :=
  ⟨fun x hx => by rw [List.mem_singleton.1 hx]; exact h, fun i a b _ hb => by simp at hb⟩
theorem chain_snoc {T : List ApiTrain} {m : Int} {l : List GuideRide} {a b : GuideRide} (h : Chain T m l) (ha : l[l.length - 1]? = some a) (hb : RideOk T b) (hl : Link T m a b) : Chain T m (l ++ [b]) := by
  refine ⟨fun x hx => ?_, fun i x y hx hy => ?_⟩
  · rcases List.mem_append.1 hx with hx | hx
    · exact h.1 x hx
    · rw [List.mem_singleton.1 hx]; exact hb
  · have hlt : i + 1 < l.length + 1 := by
      obtain ⟨q, _⟩ := List.getElem?_eq_some_iff.1 hy
      simpa using q
    rw [List.getElem?_append_left (by omega)] at hx
    rcases Nat.lt_or_ge (i + 1) l.length with h1 | h1
    · rw [List.getElem?_append_left h1] at hy
      exact h.2 i x y hx hy
    · have h2 : i = l.length - 1 := by omega
      subst h2
      rw [ha] at hx
      injection hx with hx
      rw [List.getElem?_append_right (by omega), show l.length - 1 + 1 - l.length = 0 by omega] at hy
      simp at hy
      rw [← hx, ← hy]
      exact hl
theorem chain_take {T : List ApiTrain} {m : Int} {l : List GuideRide} (h : Chain T m l) (k : Nat) : Chain T m (l.take k) := by
  refine ⟨fun x hx => h.1 x (List.mem_of_mem_take hx), fun i a b ha hb => ?_⟩
  rw [List.getElem?_take] at ha hb
  split at hb
  · split at ha
    · exact h.2 i a b ha hb
    · cases ha
  · cases hb
section
variable {d : ApiDay} {m : Int} {l : List GuideRide}
theorem behind_eq (hd : GDay d) (hm : 0 ≤ m ∧ m ≤ 28800) {r : GuideRide} (h : RideOk d.Trains r) : mGuideNetBehind (⟨d, m⟩ : GuideNet) r = some (ridesL (off d.Trains r).Station ((off d.Trains r).Arr + m) r.Train d.Trains 0) := by
  have hi := (ride_in hd h).off_.2.1
  unfold mGuideNetBehind
  rw [off_eq (n := ⟨d, m⟩) h, Option.bind_some]
  show (chk ((off d.Trains r).Arr + m)).bind _ = _
  rw [chk_ok (by omega) (by omega)]
  rfl
theorem mem_behind {T : List ApiTrain} {r b : GuideRide} : b ∈ ridesL (off T r).Station ((off T r).Arr + m) r.Train T 0 ↔ RideOk T b ∧ Link T m r b := by
  rw [mem_rides]
  exact ⟨fun h => ⟨h.1, h.2.2.2, h.2.1, h.2.2.1⟩, fun h => ⟨h.1, h.2.2.1, h.2.2.2, h.2.1⟩⟩
theorem fwithin_eq (a c d : Int) : mFishref2Within a c d = some (decide (c ≤ a ∧ a ≤ d)) := by
  unfold mFishref2Within
  by_cases h1 : c ≤ a
  · rw [if_pos h1, Option.bind_some]
    simp [h1]
  · rw [if_neg h1, Option.bind_some]
    simp [h1]
/-- A chain is a journey, whether times count or not. -/
theorem journey_ok (hd : GDay d) (hm : 0 ≤ m ∧ m ≤ 28800) (hc : Chain d.Trains m l) (h1 : 1 ≤ l.length) (h4 : l.length ≤ 4) (q : Bool) : mGuideNetJourney (⟨d, m⟩ : GuideNet) (⟨l⟩ : GuideJourney) q = some 0 := by
  have key : Tot (mGuideNetJourney (⟨d, m⟩ : GuideNet) (⟨l⟩ : GuideJourney) q) (fun c => c = 0) := by
    have hT := hd.1
    unfold mGuideNetJourney
    rw [gwithin_eq, Option.bind_some, if_pos (decide_eq_true (by show (1 : Int) ≤ (l.length : Int) ∧ (l.length : Int) ≤ 4; omega))]
    refine tot_sum (tot_forM (fun _ _ => True) (fun _ => False) trivial fun j _ _ hj _ => ?_) (fun _ _ => tot_some rfl) fun _ h => h.elim
    unfold mGuideNetJourney_L428
    have hlt : j < l.length := by simpa using hj
    refine tot_idn hlt fun r hr => ?_
    have hok := hc.1 r (List.mem_of_getElem? hr)
    obtain ⟨⟨a, b⟩, c, e, f⟩ := hok
    refine tot_chk (by show -9223372036854775808 ≤ (d.Trains.length : Int) - 1; omega) (by show (d.Trains.length : Int) - 1 ≤ 9223372036854775807; omega) ?_
    rw [gwithin_eq, Option.bind_some, if_pos (decide_eq_true (by show 0 ≤ r.Train ∧ r.Train ≤ (d.Trains.length : Int) - 1; omega))]
    refine tot_eq (tr_idx (T := d.Trains) a b) ?_
    have hs := (hd.2.1 _ (tr_mem a b)).2.2.1
    refine tot_chk (by omega) (by omega) ?_
    refine tot_bind (R := fun q => q = false) ?_ fun q' hq' => ?_
    · rw [gwithin_eq, Option.bind_some, if_pos (decide_eq_true (by omega)), gwithin_eq, Option.bind_some]
      exact tot_some (by simp; omega)
    · subst hq'
      rw [if_neg (by decide), if_neg (by omega)]
      refine tot_ite (fun _ => tot_some trivial) fun h0 => tot_chk (by omega) (by omega) ?_
      refine tot_idx (by omega) (by show (j : Int) - 1 < (l.length : Int); omega) fun p hp => ?_
      have hp : l[j - 1]? = some p := by rw [show ((j : Int) - 1).toNat = j - 1 by omega] at hp; exact hp
      have hr : l[j - 1 + 1]? = some r := by rw [show j - 1 + 1 = j by omega]; exact hr
      have hl := hc.2 _ _ _ hp hr
      have hok := hc.1 r (List.mem_of_getElem? hr)
      have hpk := hc.1 p (List.mem_of_getElem? hp)
      refine tot_bind (R := fun q => q = false) ?_ fun q' hq' => ?_
      · rw [if_neg hl.1]
        refine tot_eq (on_eq (n := ⟨d, m⟩) hok) (tot_eq (off_eq (n := ⟨d, m⟩) hpk) (tot_some ?_))
        exact decide_eq_false fun h => h hl.2.1
      · subst hq'
        rw [if_neg (by decide)]
        refine tot_bind (R := fun q => q = false) ?_ fun q' hq' => ?_
        · refine tot_ite (fun _ => ?_) fun _ => tot_some rfl
          refine tot_eq (on_eq (n := ⟨d, m⟩) hok) (tot_eq (off_eq (n := ⟨d, m⟩) hpk) ?_)
          have hi := (ride_in hd hpk).off_.2.1
          have h3 := hl.2.2
          show Tot ((chk ((off d.Trains p).Arr + m)).bind _) _
          refine tot_chk (by omega) (by omega) (tot_some ?_)
          exact decide_eq_false (by show ¬ (on d.Trains r).Dep < (off d.Trains p).Arr + m; omega)
        · subst hq'
          rw [if_neg (by decide)]
          exact tot_some trivial
  obtain ⟨c, h, rfl⟩ := key
  exact h
theorem fault_ok (hd : GDay d) (hm : 0 ≤ m ∧ m ≤ 28800) (hc : Chain d.Trains m l) (h1 : 1 ≤ l.length) (h4 : l.length ≤ 4) : mFishref2JourneyFault d (⟨l⟩ : GuideJourney) m true = some 0 := by
  have key : Tot (mFishref2JourneyFault d (⟨l⟩ : GuideJourney) m true) (fun c => c = 0) := by
    have hT := hd.1
    unfold mFishref2JourneyFault
    rw [fwithin_eq, Option.bind_some, if_pos (decide_eq_true hm), fwithin_eq, Option.bind_some, if_pos (decide_eq_true (by show (1 : Int) ≤ (l.length : Int) ∧ (l.length : Int) ≤ 4; omega))]
    refine tot_sum (tot_forM (fun _ _ => True) (fun _ => False) trivial fun j _ _ hj _ => ?_) (fun _ _ => tot_some rfl) fun _ h => h.elim
    unfold mFishref2JourneyFault_L599
    have hlt : j < l.length := by simpa using hj
    refine tot_idn hlt fun r hr => ?_
    have hok := hc.1 r (List.mem_of_getElem? hr)
    obtain ⟨⟨a, b⟩, c, e, f⟩ := hok
    rw [if_neg (by omega), Option.bind_some, if_neg (by simp; omega)]
    refine tot_eq (tr_idx (T := d.Trains) a b) ?_
    have hs := (hd.2.1 _ (tr_mem a b)).2.2.1
    rw [if_neg (by omega), if_neg (by omega), if_neg (by omega), Option.bind_some, if_neg (by simp; omega), if_neg (by omega)]
    refine tot_ite (fun _ => tot_some trivial) fun h0 => tot_chk (by omega) (by omega) ?_
    refine tot_idx (by omega) (by show (j : Int) - 1 < (l.length : Int); omega) fun p hp => ?_
    have hp : l[j - 1]? = some p := by rw [show ((j : Int) - 1).toNat = j - 1 by omega] at hp; exact hp
    have hr : l[j - 1 + 1]? = some r := by rw [show j - 1 + 1 = j by omega]; exact hr
    have hl := hc.2 _ _ _ hp hr
    have hpk := hc.1 p (List.mem_of_getElem? hp)
    have hi := (ride_in hd hpk).off_.2.1
    obtain ⟨⟨a', b'⟩, c', e', f'⟩ := hpk
    refine tot_bind (R := fun x => x = ((off d.Trains p).Station, (off d.Trains p).Track, (off d.Trains p).Arr, (off d.Trains p).Dep)) (tot_eq (tr_idx (T := d.Trains) a' b') (tot_eq (stp_idx (by omega) f') (tot_some rfl))) fun x hx => ?_
    subst hx
    show Tot (Option.bind _ _) _
    refine tot_bind (R := fun q => q = false) ?_ fun q' hq' => ?_
    · rw [if_neg (fun h => hl.1 h.symm)]
      refine tot_eq (stp_idx c (by omega)) (tot_some ?_)
      exact decide_eq_false fun h => h hl.2.1
    · subst hq'
      rw [if_neg (by decide)]
      refine tot_bind (R := fun q => q = false) ?_ fun q' hq' => ?_
      · rw [if_pos rfl]
        refine tot_eq (stp_idx c (by omega)) ?_
        have h3 := hl.2.2
        show Tot ((chk ((off d.Trains p).Arr + m)).bind _) _
        refine tot_chk (by omega) (by omega) (tot_some ?_)
        exact decide_eq_false (by show ¬ (on d.Trains r).Dep < (off d.Trains p).Arr + m; omega)
      · subst hq'
        rw [if_neg (by decide)]
        exact tot_some trivial
  obtain ⟨c, h, rfl⟩ := key
  exact h
theorem arrives_eq {r : GuideRide} (hc : Chain d.Trains m l) (h : l[l.length - 1]? = some r) (h4 : l.length ≤ 4) : mFishref2Arrives d (⟨l⟩ : GuideJourney) = some (off d.Trains r).Arr := by
  obtain ⟨⟨a, b⟩, c, e, f⟩ := hc.1 r (List.mem_of_getElem? h)
  have h1 : 1 ≤ l.length := by
    obtain ⟨q, _⟩ := List.getElem?_eq_some_iff.1 h
    omega
  unfold mFishref2Arrives
  show (chk ((l.length : Int) - 1)).bind _ = _
  rw [chk_ok (by omega) (by omega), Option.bind_some]
  show (idx l ((l.length : Int) - 1)).bind _ = _
  rw [show (l.length : Int) - 1 = ((l.length - 1 : Nat) : Int) by omega, idx_nat h, Option.bind_some, tr_idx a b, Option.bind_some, stp_idx (by omega) f]
  rfl
end
/- ==== GJ ==== -/
section
variable {α β σ τ : Type}
theorem tot_loopM {step : σ → Option (σ ⊕ τ)} {Q : τ → Prop} (I : σ → Prop) (μ : σ → Nat) {s : σ} (h0 : I s) (h : ∀ s, I s → Tot (step s) (Sum.elim (fun s' => I s' ∧ μ s' < μ s) Q)) : Tot (loopM step s) Q := by
  obtain ⟨t, h1, h2⟩ := loopM_inv I Q μ (fun s hs => by
    obtain ⟨o, h1, h2⟩ := h s hs
    cases o with
    | inl s' => exact .inl ⟨s', h1, h2⟩
    | inr t => exact .inr ⟨t, h1, h2⟩) s h0
  exact ⟨t, h1, h2⟩
theorem loopM_none {step : σ → Option (σ ⊕ τ)} {s : σ} (h : step s = none) : loopM step s = none := by
  unfold loopM lim
  rw [dif_neg]
  rintro ⟨t, n, h2⟩
  cases n with
  | zero => cases h2
  | succ n =>
    have h3 : (match step s with | none => none | some (.inl s') => Go.Fp.runN step n s' | some (.inr t) => some t) = some t := h2
    rw [h] at h3
    cases h3
theorem tos_loopM {S : Prop} {step : σ → Option (σ ⊕ τ)} {Q : τ → Prop} (I : σ → Prop) (μ : σ → Nat) {s : σ} (h0 : I s) (h : ∀ s, I s → Tos S (step s) (Sum.elim (fun s' => I s' ∧ μ s' < μ s) Q)) : Tos S (loopM step s) Q := by
  generalize hn : μ s = n
  induction n using Nat.strongRecOn generalizing s with
  | _ n ih =>
    rcases h s h0 with ⟨o, h1, h2⟩ | ⟨h1, h2⟩
    · cases o with
      | inl s' =>
        rw [loopM_next h1]
        exact ih (μ s') (hn ▸ h2.2) h2.1 rfl
      | inr t => exact .inl ⟨t, loopM_last h1, h2⟩
    · exact .inr ⟨h1, loopM_none h2⟩
theorem tos_weak {S S' : Prop} {P : α → Prop} {o : Option α} (h : S → S') (k : Tos S o P) : Tos S' o P := k.imp id fun q => ⟨h q.1, q.2⟩
theorem swp {l : List α} {i j : Int} {x y : α} (hj : l[j.toNat]? = some x) (hi : l[i.toNat]? = some y) : (put (put l i x) j y).Perm l := by
  obtain ⟨q1, e1⟩ := List.getElem?_eq_some_iff.1 hj
  obtain ⟨q2, e2⟩ := List.getElem?_eq_some_iff.1 hi
  subst e1 e2
  exact List.set_set_perm q2 q1
theorem tot_swap {l : List α} {i j : Int} {P : β → Prop} {f : α → α → Option β} (hi : 0 ≤ i) (hi' : i < (l.length : Int)) (hj : 0 ≤ j) (hj' : j < (l.length : Int)) (k : ∀ x y, (put (put l i x) j y).Perm l → Tot (f x y) P) :
    Tot ((idx l j).bind fun x => (idx l i).bind fun y => (idx l i).bind fun _ => (idx (put l i x) j).bind fun _ => f x y) P :=
  tot_idx hj hj' fun x hx => tot_idx hi hi' fun y hy => tot_idx hi hi' fun _ _ => tot_idx hj (by rw [put_length]; exact hj') fun _ _ => k x y (swp hx hy)
end
theorem compare_eq (a c : Int) : mCmpCompare a c = some (if a < c then -1 else if c < a then 1 else 0) := by
  unfold mCmpCompare mCmpIsNaN
  rw [Option.bind_some, Option.bind_some, if_neg (by simp), if_neg (by simp)]
  by_cases h : a < c
  · rw [if_pos h, if_pos h]
  · rw [if_neg h, if_neg h]
    by_cases h2 : c < a
    · rw [if_pos h2, if_pos h2]
    · rw [if_neg h2, if_neg h2]
theorem or_step (l : List Int) (j m : Nat) (x : Int) (h : l[j]? = some x) : forM (mCmpOr_L38 l) (m + 1) j () = if x ≠ 0 then some (.inr x) else forM (mCmpOr_L38 l) m (j + 1) () := by
  by_cases hx : x ≠ 0
  · rw [if_pos hx]
    refine forM_succ_inr ?_
    unfold mCmpOr_L38
    rw [idx_nat h, Option.bind_some, if_pos hx]
  · rw [if_neg hx]
    refine forM_succ_inl ?_
    unfold mCmpOr_L38
    rw [idx_nat h, Option.bind_some, if_neg hx]
theorem or3 (a b c : Int) : mCmpOr [a, b, c] = some (if a ≠ 0 then a else if b ≠ 0 then b else c) := by
  unfold mCmpOr
  rw [show ([a, b, c] : List Int).length = 2 + 1 from rfl, or_step _ 0 2 a rfl]
  by_cases ha : a ≠ 0
  · rw [if_pos ha, if_pos ha]; rfl
  rw [if_neg ha, if_neg ha, show (2 : Nat) = 1 + 1 from rfl, or_step _ (0 + 1) 1 b rfl]
  by_cases hb : b ≠ 0
  · rw [if_pos hb, if_pos hb]; rfl
  rw [if_neg hb, if_neg hb, show (1 : Nat) = 0 + 1 from rfl, or_step _ (0 + 1 + (0 + 1)) 0 c rfl]
  by_cases hc : c ≠ 0
  · rw [if_pos hc]; rfl
  · rw [if_neg hc, Decidable.of_not_not hc]; rfl
theorem cmp_tot (p q : GuidePoint) : Tot (mGuideComparePoints p q) (fun _ => True) := by
  unfold mGuideComparePoints
  rw [compare_eq, Option.bind_some, compare_eq, Option.bind_some, compare_eq, Option.bind_some, or3]
  exact tot_some trivial

abbrev Pts := List GuidePoint
section
variable {l0 l : Pts}
theorem ins1_tot {a j : Int} (hn : l0.length ≤ 60000) (ha : 0 ≤ a) (h1 : a ≤ j) (h2 : j < (l0.length : Int)) (hp : l.Perm l0) : Tot (loopM (mSlicesInsertionSortCmpFunc_L9840 a) (j, l)) (fun l' => l'.Perm l0) := by
  refine tot_loopM (fun s => a ≤ s.1 ∧ s.1 < (l0.length : Int) ∧ s.2.Perm l0) (fun s => s.1.toNat) ⟨h1, h2, hp⟩ fun ⟨j, l⟩ ⟨h1, h2, hp⟩ => ?_
  dsimp only at h1 h2 hp
  have hl := hp.length_eq
  unfold mSlicesInsertionSortCmpFunc_L9840
  dsimp only [unc2]
  refine tot_bind (R := fun c => c = true → a < j) ?_ fun c hc => tot_ite (fun h => ?_) fun _ => tot_some hp
  · exact tot_ite (fun h => tot_idx (by omega) (by omega) fun _ _ => tot_chk (by omega) (by omega) (tot_idx (by omega) (by omega) fun _ _ => tot_bind (cmp_tot _ _) fun _ _ => tot_some fun _ => h)) fun _ => tot_some fun h => by cases h
  · have h3 := hc h
    refine tot_chk (by omega) (by omega) (tot_chk (by omega) (by omega) (tot_swap (by omega) (by omega) (by omega) (by omega) fun x y hs => tot_chk (by omega) (by omega) (tot_some ⟨⟨?_, ?_, hs.trans hp⟩, ?_⟩)))
    · show a ≤ j - 1; omega
    · show j - 1 < (l0.length : Int); omega
    · show (j - 1).toNat < j.toNat; omega
theorem ins_tot {a b : Int} (hn : l0.length ≤ 60000) (ha : 0 ≤ a) (h1 : a ≤ b) (h2 : b ≤ (l0.length : Int)) (hp : l.Perm l0) : Tot (mSlicesInsertionSortCmpFunc a b l) (fun l' => l'.Perm l0) := by
  unfold mSlicesInsertionSortCmpFunc
  refine tot_chk (by omega) (by omega) ?_
  refine tot_loopM (fun s => a ≤ s.1 ∧ s.2.Perm l0) (fun s => (b - s.1).toNat) ⟨by show a ≤ a + 1; omega, hp⟩ fun ⟨j, l⟩ ⟨h1, hp⟩ => ?_
  dsimp only at h1 hp
  unfold mSlicesInsertionSortCmpFunc_L5371
  dsimp only [unc2]
  refine tot_ite (fun h => tot_bind (ins1_tot hn ha h1 (by omega) hp) fun l' hp' => tot_chk (by omega) (by omega) (tot_some ⟨⟨?_, hp'⟩, ?_⟩)) fun _ => tot_some hp
  · show a ≤ j + 1; omega
  · show (b - (j + 1)).toNat < (b - j).toNat; omega
theorem sift_tot {r hi a : Int} (hn : l0.length ≤ 60000) (ha : 0 ≤ a) (hr : 0 ≤ r) (hr2 : r ≤ 60000) (h2 : a + hi ≤ (l0.length : Int)) (hp : l.Perm l0) : Tot (mSlicesSiftDownCmpFunc r hi a l) (fun l' => l'.Perm l0) := by
  unfold mSlicesSiftDownCmpFunc
  refine tot_loopM (fun s => 0 ≤ s.1 ∧ s.1 ≤ 60000 ∧ s.2.Perm l0) (fun s => (hi - s.1).toNat) ⟨hr, hr2, hp⟩ fun ⟨r, l⟩ ⟨hr, hr2, hp⟩ => ?_
  dsimp only at hr hr2 hp
  have hl := hp.length_eq
  unfold mSlicesSiftDownCmpFunc_L2130
  dsimp only [unc2]
  refine tot_chk (by omega) (by omega) (tot_chk (by omega) (by omega) (tot_ite (fun _ => tot_some hp) fun h => ?_))
  refine tot_bind (R := fun c => r < c ∧ c < hi) ?_ fun c hc => ?_
  · refine tot_bind (R := fun q => q = true → 2 * r + 1 + 1 < hi) ?_ fun q hq => tot_ite (fun h => ?_) fun _ => tot_some (by omega)
    · exact tot_chk (by omega) (by omega) (tot_ite (fun h => tot_chk (by omega) (by omega) (tot_idx (by omega) (by omega) fun _ _ => tot_chk (by omega) (by omega) (tot_chk (by omega) (by omega) (tot_idx (by omega) (by omega) fun _ _ => tot_bind (cmp_tot _ _) fun _ _ => tot_some fun _ => h)))) fun _ => tot_some fun h => by cases h)
    · have := hq h
      exact tot_chk (by omega) (by omega) (tot_some (by omega))
  · obtain ⟨hc1, hc2⟩ := hc
    refine tot_chk (by omega) (by omega) (tot_idx (by omega) (by omega) fun _ _ => tot_chk (by omega) (by omega) (tot_idx (by omega) (by omega) fun _ _ => tot_bind (cmp_tot _ _) fun _ _ => tot_ite (fun _ => ?_) fun _ => tot_some hp))
    refine tot_bind (R := fun l' => l'.Perm l0) ?_ fun l' hp' => tot_some ⟨⟨?_, ?_, hp'⟩, ?_⟩
    · exact tot_chk (by omega) (by omega) (tot_chk (by omega) (by omega) (tot_chk (by omega) (by omega) (tot_idx (by omega) (by omega) fun x hx => tot_chk (by omega) (by omega) (tot_idx (by omega) (by omega) fun y hy => tot_idx (by omega) (by omega) fun _ _ => tot_idx (by omega) (by rw [put_length]; omega) fun _ _ => tot_some ((swp hx hy).trans hp)))))
    · show 0 ≤ c; omega
    · show c ≤ 60000; omega
    · show (hi - c).toNat < (hi - r).toNat; omega
theorem heap_tot {a b : Int} (hn : l0.length ≤ 60000) (ha : 0 ≤ a) (h1 : a < b) (h2 : b ≤ (l0.length : Int)) (hp : l.Perm l0) : Tot (mSlicesHeapSortCmpFunc a b l) (fun l' => l'.Perm l0) := by
  unfold mSlicesHeapSortCmpFunc
  refine tot_chk (by omega) (by omega) (tot_bind (R := fun l' => l'.Perm l0) ?_ fun l hp => tot_chk (by omega) (by omega) ?_)
  · rw [Int.tdiv_eq_ediv_of_nonneg (by omega)]
    refine tot_chk (by omega) (by omega) (tot_eq (x := ()) rfl (tot_chk (by omega) (by omega) ?_))
    refine tot_loopM (fun s => s.1 < b - a ∧ s.2.Perm l0) (fun s => (s.1 + 1).toNat) ⟨by show (b - a - 1) / 2 < b - a; omega, hp⟩ fun ⟨j, l⟩ ⟨h1, hp⟩ => ?_
    dsimp only at h1 hp
    unfold mSlicesHeapSortCmpFunc_L1077
    dsimp only [unc2]
    refine tot_ite (fun h => tot_bind (sift_tot hn ha h (by omega) (by omega) hp) fun l' hp' => tot_chk (by omega) (by omega) (tot_some ⟨⟨?_, hp'⟩, ?_⟩)) fun _ => tot_some hp
    · show j - 1 < b - a; omega
    · show (j - 1 + 1).toNat < (j + 1).toNat; omega
  · refine tot_loopM (fun s => s.1 < b - a ∧ s.2.Perm l0) (fun s => (s.1 + 1).toNat) ⟨by show b - a - 1 < b - a; omega, hp⟩ fun ⟨j, l⟩ ⟨h1, hp⟩ => ?_
    dsimp only at h1 hp
    have hl := hp.length_eq
    unfold mSlicesHeapSortCmpFunc_L1120
    dsimp only [unc2]
    refine tot_ite (fun h => ?_) fun _ => tot_some hp
    refine tot_bind (R := fun l' => l'.Perm l0) (tot_chk (by omega) (by omega) (tot_chk (by omega) (by omega) (tot_swap (by omega) (by omega) (by omega) (by omega) fun x y hs => tot_some (hs.trans hp)))) fun l hp => ?_
    refine tot_bind (sift_tot hn ha (by omega) (by omega) (by omega) hp) fun l' hp' => tot_chk (by omega) (by omega) (tot_some ⟨⟨?_, hp'⟩, ?_⟩)
    · show j - 1 < b - a; omega
    · show (j - 1 + 1).toNat < (j + 1).toNat; omega
theorem order2_tot {B : Int → Prop} (hB : ∀ i, B i → 0 ≤ i ∧ i < (l.length : Int)) {a b s : Int} (ha : B a) (hb : B b) (hs : 0 ≤ s ∧ s ≤ 100) : Tot (mSlicesOrder2CmpFunc l a b s) (fun r => B r.1 ∧ B r.2.1 ∧ 0 ≤ r.2.2 ∧ r.2.2 ≤ s + 1) := by
  have h1 := hB a ha
  have h2 := hB b hb
  unfold mSlicesOrder2CmpFunc
  refine tot_idx h2.1 h2.2 fun _ _ => tot_idx h1.1 h1.2 fun _ _ => tot_bind (cmp_tot _ _) fun _ _ => tot_ite (fun _ => tot_chk (by omega) (by omega) (tot_some ⟨hb, ha, ?_, ?_⟩)) fun _ => tot_some ⟨ha, hb, ?_, ?_⟩
  · show 0 ≤ s + 1; omega
  · show s + 1 ≤ s + 1; omega
  · show 0 ≤ s; omega
  · show s ≤ s + 1; omega
theorem median_tot {B : Int → Prop} (hB : ∀ i, B i → 0 ≤ i ∧ i < (l.length : Int)) {a b c s : Int} (ha : B a) (hb : B b) (hc : B c) (hs : 0 ≤ s ∧ s ≤ 50) : Tot (mSlicesMedianCmpFunc l a b c s) (fun r => B r.1 ∧ 0 ≤ r.2 ∧ r.2 ≤ s + 3) := by
  unfold mSlicesMedianCmpFunc
  refine tot_bind (order2_tot hB ha hb (by omega)) fun ⟨x, y, z⟩ ⟨hx, hy, hz1, hz2⟩ => ?_
  dsimp only at hx hy hz1 hz2
  dsimp only [unc3]
  refine tot_bind (order2_tot hB hy hc (by omega)) fun ⟨x2, y2, z2⟩ ⟨hx2, hy2, hz3, hz4⟩ => ?_
  dsimp only at hx2 hy2 hz3 hz4
  refine tot_bind (order2_tot hB hx hx2 (by omega)) fun ⟨x3, y3, z3⟩ ⟨hx3, hy3, hz5, hz6⟩ => ?_
  dsimp only at hx3 hy3 hz5 hz6
  exact tot_some ⟨hy3, hz5, by show z3 ≤ s + 3; omega⟩
theorem adj_tot {B : Int → Prop} (hB : ∀ i, B i → 0 ≤ i ∧ i < (l.length : Int)) (hl : l.length ≤ 60000) {a s : Int} (h1 : B (a - 1)) (h2 : B a) (h3 : B (a + 1)) (hs : 0 ≤ s ∧ s ≤ 50) : Tot (mSlicesMedianAdjacentCmpFunc l a s) (fun r => B r.1 ∧ 0 ≤ r.2 ∧ r.2 ≤ s + 3) := by
  have := hB _ h2
  unfold mSlicesMedianAdjacentCmpFunc
  refine tot_chk (by omega) (by omega) (tot_chk (by omega) (by omega) (tot_bind (median_tot hB h1 h2 h3 hs) fun ⟨x, y⟩ h => tot_some h))
theorem pivot_tot {a b : Int} (hn : l.length ≤ 60000) (ha : 0 ≤ a) (h1 : a + 12 < b) (h2 : b ≤ (l.length : Int)) : Tot (mSlicesChoosePivotCmpFunc l a b) (fun r => a ≤ r.1 ∧ r.1 < b) := by
  unfold mSlicesChoosePivotCmpFunc
  rw [Int.tdiv_eq_ediv_of_nonneg (by omega)]
  refine tot_chk (by omega) (by omega) (tot_eq (x := ()) rfl (tot_chk (by omega) (by omega) (tot_chk (by omega) (by omega) (tot_chk (by omega) (by omega) (tot_eq (x := ()) rfl (tot_chk (by omega) (by omega) (tot_chk (by omega) (by omega) (tot_chk (by omega) (by omega) (tot_eq (x := ()) rfl (tot_chk (by omega) (by omega) (tot_chk (by omega) (by omega) (tot_chk (by omega) (by omega) ?_))))))))))))
  have hB : ∀ i, (a ≤ i ∧ i < b) → 0 ≤ i ∧ i < (l.length : Int) := fun i h => by omega
  refine tot_bind (R := fun r => a ≤ r.1 ∧ r.1 < b) ?_ fun ⟨x, y⟩ h => ?_
  · rw [if_pos (by omega)]
    refine tot_bind (R := fun r => (a ≤ r.1 ∧ r.1 < b) ∧ (a ≤ r.2.1 ∧ r.2.1 < b) ∧ (a ≤ r.2.2.1 ∧ r.2.2.1 < b) ∧ 0 ≤ r.2.2.2 ∧ r.2.2.2 ≤ 9) ?_ fun ⟨x, y, z, u⟩ ⟨h3, h4, h5, h6⟩ => ?_
    · refine tot_ite (fun h => ?_) fun _ => tot_some ⟨?_, ?_, ?_, ?_⟩
      · refine tot_bind (adj_tot hB hn (by omega) (by omega) (by omega) (by omega)) fun ⟨x, y⟩ ⟨hx, hy1, hy2⟩ => ?_
        dsimp only at hx hy1 hy2
        dsimp only [unc2]
        refine tot_bind (adj_tot hB hn (by omega) (by omega) (by omega) (by omega)) fun ⟨x2, y2⟩ ⟨hx2, hy3, hy4⟩ => ?_
        dsimp only at hx2 hy3 hy4
        refine tot_bind (adj_tot hB hn (by omega) (by omega) (by omega) (by omega)) fun ⟨x3, y3⟩ ⟨hx3, hy5, hy6⟩ => ?_
        dsimp only at hx3 hy5 hy6
        exact tot_some ⟨hx, hx2, hx3, hy5, by show y3 ≤ 9; omega⟩
      · show a ≤ a + (b - a) / 4 * 1 ∧ a + (b - a) / 4 * 1 < b; omega
      · show a ≤ a + (b - a) / 4 * 2 ∧ a + (b - a) / 4 * 2 < b; omega
      · show a ≤ a + (b - a) / 4 * 3 ∧ a + (b - a) / 4 * 3 < b; omega
      · show (0 : Int) ≤ 0 ∧ (0 : Int) ≤ 9; omega
    · dsimp only at h3 h4 h5 h6
      dsimp only [unc4]
      exact tot_bind (median_tot hB h3 h4 h5 (by omega)) fun ⟨x, y⟩ ⟨h, _⟩ => tot_some h
  · dsimp only at h
    dsimp only [unc2]
    exact tot_ite (fun _ => tot_some h) fun _ => tot_ite (fun _ => tot_some h) fun _ => tot_some h
theorem rev_tot {a b : Int} (hn : l0.length ≤ 60000) (ha : 0 ≤ a) (h1 : a < b) (h2 : b ≤ (l0.length : Int)) (hp : l.Perm l0) : Tot (mSlicesReverseRangeCmpFunc a b l) (fun l' => l'.Perm l0) := by
  unfold mSlicesReverseRangeCmpFunc
  refine tot_chk (by omega) (by omega) ?_
  refine tot_loopM (fun s => 0 ≤ s.1 ∧ s.2.1 < (l0.length : Int) ∧ s.2.2.Perm l0) (fun s => (s.2.1 - s.1).toNat) ⟨ha, by show b - 1 < (l0.length : Int); omega, hp⟩ fun ⟨i, j, l⟩ ⟨h1, h2, hp⟩ => ?_
  dsimp only at h1 h2 hp
  have hl := hp.length_eq
  unfold mSlicesReverseRangeCmpFunc_L882
  dsimp only [unc3]
  refine tot_ite (fun h => ?_) fun _ => tot_some hp
  refine tot_bind (R := fun l' => l'.Perm l0) (tot_swap (by omega) (by omega) (by omega) (by omega) fun x y hs => tot_some (hs.trans hp)) fun l hp => ?_
  refine tot_chk (by omega) (by omega) (tot_chk (by omega) (by omega) (tot_some ⟨⟨?_, ?_, hp⟩, ?_⟩))
  · show 0 ≤ i + 1; omega
  · show j - 1 < (l0.length : Int); omega
  · show (j - 1 - (i + 1)).toNat < (j - i).toNat; omega
theorem part_tot {a b : Int} (hn : l0.length ≤ 60000) (ha : 0 ≤ a) (h1 : a + 12 < b) (h2 : b ≤ (l0.length : Int)) (hp : l.Perm l0) : Tot (mSlicesPartialInsertionSortCmpFunc a b l) (fun r => r.2.Perm l0) := by
  unfold mSlicesPartialInsertionSortCmpFunc
  refine tot_chk (by omega) (by omega) (tot_sum (I := fun (l' : Pts) => l'.Perm l0) (R := fun (r : Bool × Pts) => r.2.Perm l0) ?_ (fun l' h => tot_some h) fun r h => tot_some h)
  refine tot_loopM (Q := Sum.elim (fun (l' : Pts) => l'.Perm l0) (fun (r : Bool × Pts) => r.2.Perm l0)) (fun (s : Int × Int × Pts) => (a + 1 ≤ s.1 ∧ s.1 ≤ b) ∧ (0 ≤ s.2.1 ∧ s.2.1 ≤ 5) ∧ s.2.2.Perm l0) (fun s => (5 - s.2.1).toNat) ⟨by show a + 1 ≤ a + 1 ∧ a + 1 ≤ b; omega, by show (0 : Int) ≤ 0 ∧ (0 : Int) ≤ 5; omega, hp⟩ fun ⟨i, j, l⟩ ⟨h3, h4, hp⟩ => ?_
  dsimp only at h3 h4 hp
  have hl := hp.length_eq
  unfold mSlicesPartialInsertionSortCmpFunc_L57530
  dsimp only [unc3]
  refine tot_ite (fun h5 => ?_) fun _ => tot_some hp
  refine tot_sum (I := fun (s : Int × Pts) => (a + 1 ≤ s.1 ∧ s.1 ≤ b) ∧ s.2.Perm l0) (R := Sum.elim (fun (_ : Int × Int × Pts) => False) (Sum.elim (fun (l' : Pts) => l'.Perm l0) (fun (r : Bool × Pts) => r.2.Perm l0))) ?_ (fun ⟨x, l'⟩ ⟨hx, hp⟩ => ?_) fun r hr => ?_
  · refine tot_bind (R := fun x => i ≤ x ∧ x ≤ b) ?_ fun x hx => ?_
    · refine tot_loopM (fun s => i ≤ s ∧ s ≤ b) (fun s => (b - s).toNat) ⟨by omega, by omega⟩ fun x hx => ?_
      unfold mSlicesPartialInsertionSortCmpFunc_L73965
      refine tot_bind (R := fun q => q = true → x < b) ?_ fun q hq => tot_ite (fun h => ?_) fun _ => tot_some hx
      · exact tot_ite (fun h => tot_idx (by omega) (by omega) fun _ _ => tot_chk (by omega) (by omega) (tot_idx (by omega) (by omega) fun _ _ => tot_bind (cmp_tot _ _) fun _ _ => tot_some fun _ => h)) fun _ => tot_some fun h => by cases h
      · have := hq h
        exact tot_chk (by omega) (by omega) (tot_some ⟨⟨by omega, by omega⟩, by omega⟩)
    · refine tot_ite (fun _ => tot_some (show l.Perm l0 from hp)) fun hne => tot_chk (by omega) (by omega) (tot_ite (fun _ => tot_some (show l.Perm l0 from hp)) fun _ => ?_)
      refine tot_bind (R := fun l' => l'.Perm l0) (tot_chk (by omega) (by omega) (tot_chk (by omega) (by omega) (tot_swap (by omega) (by omega) (by omega) (by omega) fun x y hs => tot_some (hs.trans hp)))) fun l hp => ?_
      refine tot_bind (R := fun l' => l'.Perm l0) ?_ fun l hp => ?_
      · refine tot_chk (by omega) (by omega) (tot_ite (fun _ => tot_chk (by omega) (by omega) ?_) fun _ => tot_some hp)
        refine tot_loopM (fun s => s.1 < (l0.length : Int) ∧ s.2.Perm l0) (fun s => s.1.toNat) ⟨by show x - 1 < (l0.length : Int); omega, hp⟩ fun ⟨k, l⟩ ⟨h6, hp⟩ => ?_
        dsimp only at h6 hp
        have hl := hp.length_eq
        unfold mSlicesPartialInsertionSortCmpFunc_L75385
        dsimp only [unc2]
        refine tot_ite (fun h7 => ?_) fun _ => tot_some hp
        refine tot_idx (by omega) (by omega) fun _ _ => tot_chk (by omega) (by omega) (tot_idx (by omega) (by omega) fun _ _ => tot_bind (cmp_tot _ _) fun _ _ => tot_ite (fun _ => ?_) fun _ => tot_some hp)
        refine tot_chk (by omega) (by omega) (tot_chk (by omega) (by omega) (tot_swap (by omega) (by omega) (by omega) (by omega) fun x y hs => tot_chk (by omega) (by omega) (tot_some ⟨⟨?_, hs.trans hp⟩, ?_⟩)))
        · show k - 1 < (l0.length : Int); omega
        · show (k - 1).toNat < k.toNat; omega
      · refine tot_chk (by omega) (by omega) (tot_ite (fun _ => tot_chk (by omega) (by omega) ?_) fun _ => tot_some ⟨by show a + 1 ≤ x ∧ x ≤ b; omega, hp⟩)
        refine tot_loopM (Q := Sum.elim (fun s : Int × Pts => (a + 1 ≤ s.1 ∧ s.1 ≤ b) ∧ s.2.Perm l0) (Sum.elim (fun (_ : Int × Int × Pts) => False) (Sum.elim (fun (l' : Pts) => l'.Perm l0) (fun (r : Bool × Pts) => r.2.Perm l0)))) (fun s => 1 ≤ s.1 ∧ s.2.Perm l0) (fun s => (b - s.1).toNat) ⟨by show 1 ≤ x + 1; omega, hp⟩ fun ⟨k, l⟩ ⟨h6, hp⟩ => ?_
        dsimp only at h6 hp
        have hl := hp.length_eq
        have out : (Sum.elim (fun s : Int × Pts => (a + 1 ≤ s.1 ∧ s.1 ≤ b) ∧ s.2.Perm l0) (Sum.elim (fun (_ : Int × Int × Pts) => False) (Sum.elim (fun (l' : Pts) => l'.Perm l0) (fun (r : Bool × Pts) => r.2.Perm l0)))) (.inl (x, l)) := ⟨by show a + 1 ≤ x ∧ x ≤ b; omega, hp⟩
        unfold mSlicesPartialInsertionSortCmpFunc_L76042
        dsimp only [unc2]
        refine tot_ite (fun h7 => ?_) fun _ => tot_some out
        refine tot_idx (by omega) (by omega) fun _ _ => tot_chk (by omega) (by omega) (tot_idx (by omega) (by omega) fun _ _ => tot_bind (cmp_tot _ _) fun _ _ => tot_ite (fun _ => ?_) fun _ => tot_some out)
        refine tot_chk (by omega) (by omega) (tot_chk (by omega) (by omega) (tot_swap (by omega) (by omega) (by omega) (by omega) fun x y hs => tot_chk (by omega) (by omega) (tot_some ⟨⟨?_, hs.trans hp⟩, ?_⟩)))
        · show 1 ≤ k + 1; omega
        · show (b - (k + 1)).toNat < (b - k).toNat; omega
  · dsimp only at hx hp
    dsimp only [unc2]
    refine tot_chk (by omega) (by omega) (tot_some ⟨⟨hx, ?_, hp⟩, ?_⟩)
    · show 0 ≤ j + 1 ∧ j + 1 ≤ 5; omega
    · show (5 - (j + 1)).toNat < (5 - j).toNat; omega
  · refine tot_some ?_
    cases r with
    | inl _ => exact hr.elim
    | inr r => exact hr
end
/- ==== GK ==== -/
section
variable {l0 l : Pts}
theorem equal_tot {a b p : Int} (hn : l0.length ≤ 60000) (ha : 0 ≤ a) (h1 : a + 12 < b) (h2 : b ≤ (l0.length : Int)) (hpv : a ≤ p ∧ p < b) (hp : l.Perm l0) : Tot (mSlicesPartitionEqualCmpFunc a b p l) (fun r => (a + 1 ≤ r.1 ∧ r.1 ≤ b) ∧ r.2.Perm l0) := by
  unfold mSlicesPartitionEqualCmpFunc
  have hl := hp.length_eq
  refine tot_bind (R := fun l' => l'.Perm l0) (tot_swap (by omega) (by omega) (by omega) (by omega) fun x y hs => tot_some (hs.trans hp)) fun l hp => ?_
  refine tot_chk (by omega) (by omega) (tot_chk (by omega) (by omega) (tot_bind (R := fun (r : Int × Pts) => (a + 1 ≤ r.1 ∧ r.1 ≤ b) ∧ r.2.Perm l0) ?_ fun ⟨x, y⟩ h => tot_some h))
  refine tot_loopM (fun (s : Int × Int × Pts) => (a + 1 ≤ s.1 ∧ s.1 ≤ b) ∧ (s.1 ≤ s.2.1 + 2 ∧ s.2.1 < b) ∧ s.2.2.Perm l0) (fun s => (s.2.1 + 2 - s.1).toNat) ⟨by show a + 1 ≤ a + 1 ∧ a + 1 ≤ b; omega, by show a + 1 ≤ b - 1 + 2 ∧ b - 1 < b; omega, hp⟩ fun ⟨i, j, l⟩ ⟨h3, h4, hp⟩ => ?_
  dsimp only at h3 h4 hp
  have hl := hp.length_eq
  unfold mSlicesPartitionEqualCmpFunc_L19216
  dsimp only [unc3]
  refine tot_bind (R := fun x => i ≤ x ∧ x ≤ b ∧ (x ≤ j + 1 ∨ x = i)) ?_ fun x hx => ?_
  · refine tot_loopM (fun s => i ≤ s ∧ s ≤ b ∧ (s ≤ j + 1 ∨ s = i)) (fun s => (b - s).toNat) ⟨by omega, by omega, by omega⟩ fun x hx => ?_
    unfold mSlicesPartitionEqualCmpFunc_L23806
    refine tot_bind (R := fun q => q = true → x ≤ j) ?_ fun q hq => tot_ite (fun h => ?_) fun _ => tot_some hx
    · exact tot_ite (fun h => tot_idx (by omega) (by omega) fun _ _ => tot_idx (by omega) (by omega) fun _ _ => tot_bind (cmp_tot _ _) fun _ _ => tot_some fun _ => h) fun _ => tot_some fun h => by cases h
    · have := hq h
      exact tot_chk (by omega) (by omega) (tot_some ⟨⟨by omega, by omega, by omega⟩, by omega⟩)
  refine tot_bind (R := fun y => y ≤ j ∧ (x ≤ y + 1 ∨ y = j)) ?_ fun y hy => ?_
  · refine tot_loopM (fun s => s ≤ j ∧ (x ≤ s + 1 ∨ s = j)) (fun s => (s + 1).toNat) ⟨by omega, by omega⟩ fun y hy => ?_
    unfold mSlicesPartitionEqualCmpFunc_L24696
    refine tot_bind (R := fun q => q = true → x ≤ y) ?_ fun q hq => tot_ite (fun h => ?_) fun _ => tot_some hy
    · exact tot_ite (fun h => tot_idx (by omega) (by omega) fun _ _ => tot_idx (by omega) (by omega) fun _ _ => tot_bind (cmp_tot _ _) fun _ _ => tot_some fun _ => h) fun _ => tot_some fun h => by cases h
    · have := hq h
      exact tot_chk (by omega) (by omega) (tot_some ⟨⟨by omega, by omega⟩, by omega⟩)
  refine tot_ite (fun _ => tot_some ⟨?_, hp⟩) fun h => ?_
  · show a + 1 ≤ x ∧ x ≤ b; omega
  refine tot_bind (R := fun l' => l'.Perm l0) (tot_swap (by omega) (by omega) (by omega) (by omega) fun x y hs => tot_some (hs.trans hp)) fun l hp => ?_
  refine tot_chk (by omega) (by omega) (tot_chk (by omega) (by omega) (tot_some ⟨⟨?_, ?_, hp⟩, ?_⟩))
  · show a + 1 ≤ x + 1 ∧ x + 1 ≤ b; omega
  · show x + 1 ≤ y - 1 + 2 ∧ y - 1 < b; omega
  · show (y - 1 + 2 - (x + 1)).toNat < (j + 2 - i).toNat; omega
theorem partition_tot {a b p : Int} (hn : l0.length ≤ 60000) (ha : 0 ≤ a) (h1 : a + 12 < b) (h2 : b ≤ (l0.length : Int)) (hpv : a ≤ p ∧ p < b) (hp : l.Perm l0) : Tot (mSlicesPartitionCmpFunc a b p l) (fun r => (a ≤ r.1 ∧ r.1 < b) ∧ r.2.2.Perm l0) := by
  unfold mSlicesPartitionCmpFunc
  have hl := hp.length_eq
  refine tot_bind (R := fun l' => l'.Perm l0) (tot_swap (by omega) (by omega) (by omega) (by omega) fun x y hs => tot_some (hs.trans hp)) fun l hp => ?_
  have hl := hp.length_eq
  refine tot_chk (by omega) (by omega) (tot_chk (by omega) (by omega) ?_)
  refine tot_bind (R := fun x => a + 1 ≤ x ∧ x ≤ b) ?_ fun x hx => ?_
  · refine tot_loopM (fun s => a + 1 ≤ s ∧ s ≤ b) (fun s => (b - s).toNat) ⟨by omega, by omega⟩ fun x hx => ?_
    unfold mSlicesPartitionCmpFunc_L16072
    refine tot_bind (R := fun q => q = true → x ≤ b - 1) ?_ fun q hq => tot_ite (fun h => ?_) fun _ => tot_some hx
    · exact tot_ite (fun h => tot_idx (by omega) (by omega) fun _ _ => tot_idx (by omega) (by omega) fun _ _ => tot_bind (cmp_tot _ _) fun _ _ => tot_some fun _ => h) fun _ => tot_some fun h => by cases h
    · have := hq h
      exact tot_chk (by omega) (by omega) (tot_some ⟨⟨by omega, by omega⟩, by omega⟩)
  refine tot_bind (R := fun y => y < b ∧ x ≤ y + 1) ?_ fun y hy => ?_
  · refine tot_loopM (fun s => s < b ∧ x ≤ s + 1) (fun s => (s + 1).toNat) ⟨by omega, by omega⟩ fun y hy => ?_
    unfold mSlicesPartitionCmpFunc_L16962
    refine tot_bind (R := fun q => q = true → x ≤ y) ?_ fun q hq => tot_ite (fun h => ?_) fun _ => tot_some hy
    · exact tot_ite (fun h => tot_idx (by omega) (by omega) fun _ _ => tot_idx (by omega) (by omega) fun _ _ => tot_bind (cmp_tot _ _) fun _ _ => tot_some fun _ => h) fun _ => tot_some fun h => by cases h
    · have := hq h
      exact tot_chk (by omega) (by omega) (tot_some ⟨⟨by omega, by omega⟩, by omega⟩)
  refine tot_ite (fun _ => ?_) fun h => ?_
  · refine tot_bind (R := fun l' => l'.Perm l0) (tot_swap (by omega) (by omega) (by omega) (by omega) fun x y hs => tot_some (hs.trans hp)) fun l hp => tot_some ⟨?_, hp⟩
    show a ≤ y ∧ y < b; omega
  refine tot_bind (R := fun l' => l'.Perm l0) (tot_swap (by omega) (by omega) (by omega) (by omega) fun x y hs => tot_some (hs.trans hp)) fun l hp => ?_
  refine tot_chk (by omega) (by omega) (tot_chk (by omega) (by omega) (tot_bind (R := fun (r : Int × Pts) => (a ≤ r.1 ∧ r.1 < b) ∧ r.2.Perm l0) ?_ fun ⟨x, l⟩ h => ?_))
  · refine tot_loopM (fun (s : Int × Int × Pts) => (a + 2 ≤ s.1 ∧ s.1 ≤ b) ∧ (s.1 ≤ s.2.1 + 2 ∧ s.2.1 < b) ∧ s.2.2.Perm l0) (fun s => (s.2.1 + 2 - s.1).toNat) ⟨by show a + 2 ≤ x + 1 ∧ x + 1 ≤ b; omega, by show x + 1 ≤ y - 1 + 2 ∧ y - 1 < b; omega, hp⟩ fun ⟨i, j, l⟩ ⟨h3, h4, hp⟩ => ?_
    dsimp only at h3 h4 hp
    have hl := hp.length_eq
    unfold mSlicesPartitionCmpFunc_L24183
    dsimp only [unc3]
    refine tot_bind (R := fun x => i ≤ x ∧ x ≤ b ∧ (x ≤ j + 1 ∨ x = i)) ?_ fun x hx => ?_
    · refine tot_loopM (fun s => i ≤ s ∧ s ≤ b ∧ (s ≤ j + 1 ∨ s = i)) (fun s => (b - s).toNat) ⟨by omega, by omega, by omega⟩ fun x hx => ?_
      unfold mSlicesPartitionCmpFunc_L28773
      refine tot_bind (R := fun q => q = true → x ≤ j) ?_ fun q hq => tot_ite (fun h => ?_) fun _ => tot_some hx
      · exact tot_ite (fun h => tot_idx (by omega) (by omega) fun _ _ => tot_idx (by omega) (by omega) fun _ _ => tot_bind (cmp_tot _ _) fun _ _ => tot_some fun _ => h) fun _ => tot_some fun h => by cases h
      · have := hq h
        exact tot_chk (by omega) (by omega) (tot_some ⟨⟨by omega, by omega, by omega⟩, by omega⟩)
    refine tot_bind (R := fun y => y ≤ j ∧ (x ≤ y + 1 ∨ y = j)) ?_ fun y hy => ?_
    · refine tot_loopM (fun s => s ≤ j ∧ (x ≤ s + 1 ∨ s = j)) (fun s => (s + 1).toNat) ⟨by omega, by omega⟩ fun y hy => ?_
      unfold mSlicesPartitionCmpFunc_L29663
      refine tot_bind (R := fun q => q = true → x ≤ y) ?_ fun q hq => tot_ite (fun h => ?_) fun _ => tot_some hy
      · exact tot_ite (fun h => tot_idx (by omega) (by omega) fun _ _ => tot_idx (by omega) (by omega) fun _ _ => tot_bind (cmp_tot _ _) fun _ _ => tot_some fun _ => h) fun _ => tot_some fun h => by cases h
      · have := hq h
        exact tot_chk (by omega) (by omega) (tot_some ⟨⟨by omega, by omega⟩, by omega⟩)
    refine tot_ite (fun _ => tot_some ⟨?_, hp⟩) fun h => ?_
    · show a ≤ y ∧ y < b; omega
    refine tot_bind (R := fun l' => l'.Perm l0) (tot_swap (by omega) (by omega) (by omega) (by omega) fun x y hs => tot_some (hs.trans hp)) fun l hp => ?_
    refine tot_chk (by omega) (by omega) (tot_chk (by omega) (by omega) (tot_some ⟨⟨?_, ?_, hp⟩, ?_⟩))
    · show a + 2 ≤ x + 1 ∧ x + 1 ≤ b; omega
    · show x + 1 ≤ y - 1 + 2 ∧ y - 1 < b; omega
    · show (y - 1 + 2 - (x + 1)).toNat < (j + 2 - i).toNat; omega
  · obtain ⟨h3, hp⟩ := h
    dsimp only at h3 hp
    have hl := hp.length_eq
    dsimp only [unc2]
    exact tot_bind (R := fun l' => l'.Perm l0) (tot_swap (by omega) (by omega) (by omega) (by omega) fun x y hs => tot_some (hs.trans hp)) fun l hp => tot_some ⟨h3, hp⟩
end

/- ---- the number of bits; the pseudorandom places ---- -/
def tabOk (T : ByteArray) : Bool := (List.range 256).all fun (i : Nat) => match sIdx T (i : Int) with
  | some v => decide (0 ≤ v ∧ v ≤ 8 ∧ (i = 0 ∨ 2 ^ v.toNat ≤ 2 * i))
  | none => false
theorem tab_get {T : ByteArray} (h : tabOk T = true) (x : Int) (h0 : 0 ≤ x) (h1 : x < 256) : ∃ v, sIdx T x = some v ∧ 0 ≤ v ∧ v ≤ 8 ∧ (x = 0 ∨ 2 ^ v.toNat ≤ 2 * x.toNat) := by
  have h2 := List.all_eq_true.1 h x.toNat (List.mem_range.2 (by omega))
  rw [show ((x.toNat : Nat) : Int) = x by omega] at h2
  cases hx : sIdx T x with
  | none => rw [hx] at h2; cases h2
  | some v =>
    rw [hx] at h2
    have h3 := of_decide_eq_true h2
    exact ⟨v, rfl, h3.1, h3.2.1, h3.2.2.imp (fun h => by omega) id⟩
theorem wrap_u8' {x : Int} (h0 : 0 ≤ x) (h1 : x < 256) : IntKind.wrap .u8 x = x := by
  simp [IntKind.wrap, IntKind.bits, IntKind.signed]
  omega
theorem wrap_i64' {x : Int} (h0 : 0 ≤ x) (h1 : x < 9223372036854775808) : IntKind.wrap .i64 x = x := by
  obtain ⟨n, rfl⟩ : ∃ n : Nat, x = n := ⟨x.toNat, by omega⟩
  exact Go.Lib.wrap_i64_small n (by omega)
set_option maxRecDepth 100000 in
theorem bits_tot {n : Int} (h0 : 0 ≤ n) (h1 : n ≤ 60000) : Tot (mBitsLen (IntKind.wrap .u64 n)) (fun c => (0 ≤ c ∧ c ≤ 16) ∧ (n = 0 ∨ 2 ^ c.toNat ≤ 2 * n.toNat)) := by
  rw [wraps_u64 n h0 (by omega)]
  unfold mBitsLen mBitsLen64
  refine tot_bind (R := fun c => (0 ≤ c ∧ c ≤ 16) ∧ (n = 0 ∨ 2 ^ c.toNat ≤ 2 * n.toNat)) ?_ fun c hc => tot_some hc
  rw [if_neg (by omega), Option.bind_some]
  dsimp only [unc2]
  rw [if_neg (by omega), Option.bind_some]
  dsimp only [unc2]
  by_cases h : 256 ≤ n
  · rw [if_pos h, shN_ok (by omega), Option.bind_some, chk_ok (by omega) (by omega), Option.bind_some, Option.bind_some]
    try dsimp only [unc2, unc3]
    have hs : shrI .u64 n 8 = n / 256 := by
      show n.fdiv (2 ^ (min (8 : Int).toNat IntKind.u64.bits)) = _
      rw [show (2 : Int) ^ (min (8 : Int).toNat IntKind.u64.bits) = 256 from by decide, Int.fdiv_eq_ediv_of_nonneg _ (by omega)]
    rw [hs, wrap_u8' (by omega) (by omega)]
    obtain ⟨v, e, h2, h3, h4⟩ := tab_get (T := ByteArray.mk (List.toArray (List.append (List.append _ _) (List.append _ _)))) (by kernel_rfl) (n / 256) (by omega) (by omega)
    rw [e, Option.bind_some, wrap_i64' h2 (by omega), chk_ok (by omega) (by omega), Option.bind_some]
    refine tot_some ⟨by omega, .inr ?_⟩
    have h5 : 2 ^ v.toNat ≤ 2 * (n / 256).toNat := h4.resolve_left (by omega)
    rw [show (0 + 8 + v).toNat = v.toNat + 8 by omega, Nat.pow_add]
    have : (n / 256).toNat * 256 ≤ n.toNat := by omega
    omega
  · rw [if_neg h, Option.bind_some]
    try dsimp only [unc2, unc3]
    rw [wrap_u8' (by omega) (by omega)]
    obtain ⟨v, e, h2, h3, h4⟩ := tab_get (T := ByteArray.mk (List.toArray (List.append (List.append _ _) (List.append _ _)))) (by kernel_rfl) n (by omega) (by omega)
    rw [e, Option.bind_some, wrap_i64' h2 (by omega), chk_ok (by omega) (by omega), Option.bind_some]
    refine tot_some ⟨by omega, h4.imp id fun h => ?_⟩
    rw [show (0 + v).toNat = v.toNat by omega]
    exact h
theorem next_tot {n : Int} (h0 : 1 ≤ n) (h1 : n ≤ 60000) : Tot (mSlicesNextPowerOfTwo n) (fun m => 1 ≤ m ∧ m ≤ 2 * n) := by
  unfold mSlicesNextPowerOfTwo
  refine tot_bind (bits_tot (by omega) h1) fun c ⟨hc, hp⟩ => ?_
  rw [shN_ok (by omega), Option.bind_some]
  refine tot_some ?_
  have hp := hp.resolve_left (by omega)
  have e : shlI .u64 1 c = ((2 ^ c.toNat : Nat) : Int) := by
    show IntKind.wrap .u64 (1 * 2 ^ (min c.toNat 64)) = _
    rw [show min c.toNat 64 = c.toNat by omega, Int.one_mul]
    have : ((2 ^ c.toNat : Nat) : Int) = (2 : Int) ^ c.toNat := by simp
    rw [← this]
    have h64 : ∀ q : Nat, q ≤ 2 * n.toNat → IntKind.wrap .u64 (q : Int) = q := fun q h => wraps_u64 _ (by omega) (by omega)
    exact h64 _ hp
  have h1 : 1 ≤ 2 ^ c.toNat := Nat.one_le_two_pow
  rw [e]
  generalize 2 ^ c.toNat = q at h1 hp
  omega
theorem and_bd {x y : Int} (h0 : 0 ≤ y) (h1 : y ≤ 120000) : 0 ≤ IntKind.wrap .i64 (andI .u64 x (IntKind.wrap .u64 y)) ∧ IntKind.wrap .i64 (andI .u64 x (IntKind.wrap .u64 y)) ≤ y := by
  rw [wraps_u64 y h0 (by omega)]
  have hb : (BitVec.ofInt 64 x &&& BitVec.ofInt 64 y).toNat ≤ y.toNat := by
    rw [BitVec.toNat_and]
    refine Nat.le_trans Nat.and_le_right ?_
    rw [BitVec.toNat_ofInt]
    omega
  have e : andI .u64 x y = (((BitVec.ofInt 64 x &&& BitVec.ofInt 64 y).toNat : Nat) : Int) := by
    have h64 : ∀ q : Nat, q ≤ y.toNat → IntKind.wrap .u64 (q : Int) = q := fun q h => wraps_u64 _ (by omega) (by omega)
    exact h64 _ hb
  rw [e, wrap_i64' (by omega) (by omega)]
  omega
section
variable {l0 l : Pts}
theorem break_tot {a b : Int} (hn : l0.length ≤ 60000) (ha : 0 ≤ a) (h1 : a + 12 < b) (h2 : b ≤ (l0.length : Int)) (hp : l.Perm l0) : Tot (mSlicesBreakPatternsCmpFunc a b l) (fun l' => l'.Perm l0) := by
  unfold mSlicesBreakPatternsCmpFunc
  refine tot_chk (by omega) (by omega) ?_
  rw [if_pos (by omega)]
  refine tot_bind (next_tot (by omega) (by omega)) fun m hm => ?_
  have e4 : Int.tdiv (b - a) 4 = (b - a) / 4 := Int.tdiv_eq_ediv_of_nonneg (by omega)
  rw [e4]
  refine tot_eq (x := ()) rfl (tot_chk (by omega) (by omega) (tot_chk (by omega) (by omega) (tot_chk (by omega) (by omega) (tot_chk (by omega) (by omega) ?_))))
  refine tot_loopM (fun (s : Int × Int × Pts) => a ≤ s.1 ∧ s.2.2.Perm l0) (fun s => (b - s.1).toNat) ⟨by show a ≤ a + (b - a) / 4 * 2 - 1; omega, hp⟩ fun ⟨i, r, l⟩ ⟨h3, hp⟩ => ?_
  dsimp only at h3 hp
  have hl := hp.length_eq
  unfold mSlicesBreakPatternsCmpFunc_L531
  dsimp only [unc3]
  rw [e4]
  refine tot_eq (x := ()) rfl (tot_chk (by omega) (by omega) (tot_chk (by omega) (by omega) (tot_chk (by omega) (by omega) (tot_chk (by omega) (by omega) ?_))))
  refine tot_ite (fun h => ?_) fun _ => tot_some hp
  refine tot_bind (R := fun _ => True) ?_ fun ⟨u, v⟩ _ => ?_
  · unfold mSlicesXorshiftNext
    rw [shN_ok (by omega), Option.bind_some, shN_ok (by omega), Option.bind_some, shN_ok (by omega), Option.bind_some]
    exact tot_some trivial
  dsimp only [unc2]
  have hb := and_bd (x := u) (y := m - 1) (by omega) (by omega)
  generalize IntKind.wrap .i64 (andI .u64 u (IntKind.wrap .u64 (m - 1))) = w at hb
  refine tot_bind (R := fun z => 0 ≤ z ∧ z < b - a) (tot_ite (fun h => tot_chk (by omega) (by omega) (tot_some ?_)) fun h => tot_some ?_) fun z hz => ?_
  · omega
  · omega
  refine tot_chk (by omega) (by omega) (tot_chk (by omega) (by omega) (tot_swap (by omega) (by omega) (by omega) (by omega) fun x y hs => tot_chk (by omega) (by omega) (tot_some ⟨⟨?_, hs.trans hp⟩, ?_⟩)))
  · show a ≤ i + 1; omega
  · show (b - (i + 1)).toNat < (b - i).toNat; omega

/- ---- the sort ---- -/
theorem pdq_tos (hn : l0.length ≤ 60000) : ∀ (N : Nat) (a b c : Int) (l : Pts), 0 ≤ a → a ≤ b → b ≤ (l0.length : Int) → 0 ≤ c → c ≤ 64 → l.Perm l0 → Tos (N ≤ (b - a).toNat) (mSlicesPdqsortCmpFunc N a b c l) (fun l' => l'.Perm l0)
  | 0, a, b, c, l, _, _, _, _, _, _ => .inr ⟨by omega, rfl⟩
  | N + 1, a0, b0, c0, l, ha, hab, hb, hc, hc2, hp => by
    unfold mSlicesPdqsortCmpFunc
    refine tos_loopM (fun (s : Int × Int × Int × Bool × Bool × Pts) => (a0 ≤ s.1 ∧ s.1 ≤ s.2.1 ∧ s.2.1 ≤ b0) ∧ (0 ≤ s.2.2.1 ∧ s.2.2.1 ≤ 64) ∧ s.2.2.2.2.2.Perm l0) (fun s => (s.2.1 - s.1).toNat) ⟨⟨by show a0 ≤ a0; omega, hab, by show b0 ≤ b0; omega⟩, ⟨hc, hc2⟩, hp⟩ fun ⟨a, b, c, wb, wp, l⟩ ⟨h3, h4, hp⟩ => ?_
    dsimp only at h3 h4 hp
    unfold mSlicesPdqsortCmpFunc_L2079
    dsimp only [unc6]
    refine tos_chk (by omega) (by omega) (tos_ite (fun h => tos_bt (ins_tot hn (by omega) h3.2.1 (by omega) hp) fun l' hp' => tos_some hp') fun h5 => tos_ite (fun h => tos_bt (heap_tot hn (by omega) (by omega) (by omega) hp) fun l' hp' => tos_some hp') fun h6 => ?_)
    refine tos_bt (R := fun (r : Int × Pts) => (0 ≤ r.1 ∧ r.1 ≤ 64) ∧ r.2.Perm l0) ?_ fun ⟨c', l⟩ ⟨h7, hp⟩ => ?_
    · refine tot_ite (fun _ => tot_some ⟨h4, hp⟩) fun _ => tot_bind (break_tot hn (by omega) (by omega) (by omega) hp) fun l' hp' => tot_chk (by omega) (by omega) (tot_some ⟨?_, hp'⟩)
      show 0 ≤ c - 1 ∧ c - 1 ≤ 64; omega
    dsimp only at h7 hp
    dsimp only [unc2]
    have hl := hp.length_eq
    refine tos_bt (pivot_tot (l := l) (by omega) (by omega) (by omega) (by omega)) fun ⟨p, hint⟩ h8 => ?_
    dsimp only at h8
    try dsimp only [unc2, unc3]
    refine tos_bt (R := fun (r : Int × Int × Pts) => (a ≤ r.1 ∧ r.1 < b) ∧ r.2.2.Perm l0) ?_ fun ⟨p, hint, l⟩ ⟨h8, hp⟩ => ?_
    · refine tot_ite (fun _ => tot_bind (rev_tot hn (by omega) (by omega) (by omega) hp) fun l' hp' => tot_chk (by omega) (by omega) (tot_chk (by omega) (by omega) (tot_chk (by omega) (by omega) (tot_some ⟨?_, hp'⟩)))) fun _ => tot_some ⟨h8, hp⟩
      show a ≤ b - 1 - (p - a) ∧ b - 1 - (p - a) < b; omega
    dsimp only at h8 hp
    dsimp only [unc3]
    refine tos_sum (I := fun (l' : Pts) => l'.Perm l0) (R := Sum.elim (fun _ => False) (fun (l' : Pts) => l'.Perm l0)) (.inl ?_) (fun l hp => ?_) fun r hr => tos_some ?_
    · refine tot_bind (R := fun _ => True) (tot_ite (fun _ => tot_ite (fun _ => tot_some trivial) fun _ => tot_some trivial) fun _ => tot_some trivial) fun q _ => tot_ite (fun _ => ?_) fun _ => tot_some hp
      refine tot_bind (part_tot hn (by omega) (by omega) (by omega) hp) fun ⟨q, l'⟩ hp' => ?_
      dsimp only at hp'
      exact tot_ite (fun _ => tot_some hp') fun _ => tot_some hp'
    · have hl := hp.length_eq
      refine tos_bt (R := fun _ => True) (tot_ite (fun _ => tot_chk (by omega) (by omega) (tot_idx (by omega) (by omega) fun _ _ => tot_idx (by omega) (by omega) fun _ _ => tot_bind (cmp_tot _ _) fun _ _ => tot_some trivial)) fun _ => tot_some trivial) fun q _ => tos_ite (fun _ => ?_) fun _ => ?_
      · refine tos_bt (equal_tot hn (by omega) (by omega) (by omega) h8 hp) fun ⟨m, l'⟩ ⟨hm, hp'⟩ => ?_
        dsimp only at hm hp'
        refine tos_some ⟨⟨?_, h7, hp'⟩, ?_⟩
        · show a0 ≤ m ∧ m ≤ b ∧ b ≤ b0; omega
        · show (b - m).toNat < (b - a).toNat; omega
      · refine tos_bt (partition_tot hn (by omega) (by omega) (by omega) h8 hp) fun ⟨m, wp', l'⟩ ⟨hm, hp'⟩ => ?_
        dsimp only at hm hp'
        try dsimp only [unc2, unc3]
        rw [Int.tdiv_eq_ediv_of_nonneg (by omega)]
        refine tos_chk (by omega) (by omega) (tos_chk (by omega) (by omega) (tos_eq (x := ()) rfl (tos_chk (by omega) (by omega) (tos_ite (fun h => ?_) fun h => ?_))))
        · refine tos_bind (tos_weak ?_ (pdq_tos hn N a m c' l' (by omega) (by omega) (by omega) h7.1 h7.2 hp')) fun l2 hp2 => tos_chk (by omega) (by omega) (tos_some ⟨⟨?_, h7, hp2⟩, ?_⟩)
          · omega
          · show a0 ≤ m + 1 ∧ m + 1 ≤ b ∧ b ≤ b0; omega
          · show (b - (m + 1)).toNat < (b - a).toNat; omega
        · refine tos_chk (by omega) (by omega) (tos_bind (tos_weak ?_ (pdq_tos hn N (m + 1) b c' l' (by omega) (by omega) (by omega) h7.1 h7.2 hp')) fun l2 hp2 => tos_some ⟨⟨?_, h7, hp2⟩, ?_⟩)
          · omega
          · show a0 ≤ a ∧ a ≤ m ∧ m ≤ b0; omega
          · show (m - a).toNat < (b - a).toNat; omega
    · cases r with
      | inl _ => exact hr.elim
      | inr r => exact hr
theorem sort_tot {l : Pts} (hn : l.length ≤ 60000) : Tot (mSlicesSortFunc l) (fun l' => l'.Perm l) := by
  unfold mSlicesSortFunc
  refine tot_bind (bits_tot (by omega) (by omega)) fun c hc => tot_bind (lim_tot (l.length + 1) fun N => tos_weak ?_ (pdq_tos hn N 0 (l.length : Int) c l (by omega) (by omega) (by omega) hc.1.1 (by omega) (.refl _))) fun l' h => tot_some h
  omega
end
end Go.Proofs.YtckgfeglhjiflaaDoor
