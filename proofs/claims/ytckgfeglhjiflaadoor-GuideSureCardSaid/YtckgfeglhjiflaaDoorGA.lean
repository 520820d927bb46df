/- Plain: words that succeed, with what comes of them; texts of days are written whatever the day is. -/
import Derived.Test.YtckgfeglhjiflaaDoorX6
import Derived.Test.YtckgfeglhjiflaaDoorZD
import Derived.Lib.ItoaMem
set_option linter.unusedVariables false
set_option linter.unusedSimpArgs false
namespace Go.Proofs.YtckgfeglhjiflaaDoor
open Go.RowKit Go.Fp

/-- Something comes out, and 'P' holds of it. -/
def Tot {α : Type} (o : Option α) (P : α → Prop) : Prop := ∃ t, o = some t ∧ P t
section
variable {α β σ τ : Type} {P Q : α → Prop}
theorem tot_some {x : α} (h : P x) : Tot (some x) P := ⟨x, rfl, h⟩
theorem tot_bind {o : Option β} {f : β → Option α} {R : β → Prop} (h : Tot o R) (k : ∀ x, R x → Tot (f x) P) : Tot (o.bind f) P := by
  obtain ⟨x, h1, h2⟩ := h
  rw [h1]
  exact k x h2
theorem tot_eq {o : Option β} {f : β → Option α} {x : β} (h : o = some x) (k : Tot (f x) P) : Tot (o.bind f) P := by
  rw [h]
  exact k
theorem tot_ite {c : Prop} [Decidable c] {a b : Option α} (h1 : c → Tot a P) (h2 : ¬ c → Tot b P) : Tot (if c then a else b) P := by
  split
  · exact h1 ‹_›
  · exact h2 ‹_›
theorem tot_imp {o : Option α} (h : Tot o P) (k : ∀ x, P x → Q x) : Tot o Q := let ⟨x, h1, h2⟩ := h; ⟨x, h1, k x h2⟩
theorem tot_idx {l : List β} {i : Int} {f : β → Option α} (h0 : 0 ≤ i) (h1 : i < (l.length : Int)) (k : ∀ x, l[i.toNat]? = some x → Tot (f x) P) : Tot ((idx l i).bind f) P := by
  obtain ⟨x, h2, h3⟩ := idx_get h0 h1
  exact tot_eq h2 (k x h3)
theorem tot_idn {l : List β} {j : Nat} {f : β → Option α} (h1 : j < l.length) (k : ∀ x, l[j]? = some x → Tot (f x) P) : Tot ((idx l (j : Int)).bind f) P := tot_idx (by omega) (by omega) (fun x hx => k x (by simpa using hx))
theorem tot_chk {x : Int} {f : Int → Option α} (h : -9223372036854775808 ≤ x) (h2 : x ≤ 9223372036854775807) (k : Tot (f x) P) : Tot ((chk x).bind f) P := tot_eq (chk_ok h h2) k
theorem tot_forS {body : Nat → σ → Option σ} (I : Nat → σ → Prop) : ∀ {m k : Nat} {s : σ}, I k s → (∀ j s, k ≤ j → j < k + m → I j s → Tot (body j s) (I (j + 1))) → Tot (forS body m k s) (I (k + m)) := fun h0 h => forS_inv I _ _ _ h0 h
theorem tot_forM {body : Nat → σ → Option (σ ⊕ τ)} (I : Nat → σ → Prop) (R : τ → Prop) : ∀ {m k : Nat} {s : σ}, I k s → (∀ j s, k ≤ j → j < k + m → I j s → Tot (body j s) (Sum.elim (I (j + 1)) R)) → Tot (forM body m k s) (Sum.elim (I (k + m)) R)
  | 0, k, s, h0, _ => ⟨.inl s, rfl, h0⟩
  | m + 1, k, s, h0, h => by
    obtain ⟨o, h1, h2⟩ := h k s (Nat.le_refl _) (by omega) h0
    cases o with
    | inr t => rw [forM_succ_inr h1]; exact ⟨_, rfl, h2⟩
    | inl s' =>
      rw [forM_succ_inl h1, show k + (m + 1) = k + 1 + m by omega]
      exact tot_forM I R h2 fun j t hj hj' hi => h j t (by omega) (by omega) hi
theorem tot_forL {body : β → σ → Option (σ ⊕ τ)} (I : List β → σ → Prop) (R : τ → Prop) : ∀ {l : List β} {s : σ}, I l s → (∀ x r s, x ∈ l → I (x :: r) s → Tot (body x s) (Sum.elim (I r) R)) → Tot (forL body l s) (Sum.elim (I []) R)
  | [], s, h0, _ => ⟨.inl s, rfl, h0⟩
  | x :: r, s, h0, h => by
    obtain ⟨o, h1, h2⟩ := h x r s (List.mem_cons_self ..) h0
    unfold forL
    rw [h1]
    cases o with
    | inr t => exact ⟨_, rfl, h2⟩
    | inl s' => exact tot_forL I R h2 fun y q t hy hi => h y q t (List.mem_cons_of_mem _ hy) hi
theorem tot_sum {γ : Type} {o : Option (σ ⊕ τ)} {f : σ → Option γ} {g : τ → Option γ} {I : σ → Prop} {R : τ → Prop} {W : γ → Prop} (h : Tot o (Sum.elim I R)) (h1 : ∀ s, I s → Tot (f s) W) (h2 : ∀ t, R t → Tot (g t) W) : Tot (o.bind fun t => Sum.elim f g t) W := by
  obtain ⟨x, e, h⟩ := h
  rw [e]
  cases x with
  | inl s => exact h1 s h
  | inr t => exact h2 t h
theorem tot_room {by_ m : Nat} {f : Unit → Option α} (h : m * by_ ≤ 140737488355328) (h2 : m ≤ 9223372036854775807) (k : Tot (f ()) P) : Tot ((room by_ m).bind f) P := tot_eq (room_ok h h2) k
end
theorem bt {b : Bool} (h : ¬ b = true) : b = false := by cases b <;> simp_all

/- ---- what a row gives ---- -/
def I64 (x : Int) : Prop := -9223372036854775808 ≤ x ∧ x ≤ 9223372036854775807
def Lst {α : Type} (P : α → Prop) (l : List α) : Prop := l.length ≤ 9223372036854775807 ∧ ∀ a ∈ l, P a
def WStop (s : ApiStop) : Prop := I64 s.Station ∧ I64 s.Track ∧ I64 s.Arr ∧ I64 s.Dep
def WTrain (t : ApiTrain) : Prop := I64 t.No ∧ I64 t.Stock ∧ Lst WStop t.Stops ∧ Lst (Lst I64) t.Legs
def WDay (d : ApiDay) : Prop := Lst WTrain d.Trains ∧ Lst (Lst I64) d.Turns

/- ---- numerals ---- -/
theorem digits_len : ∀ (k u : Nat), u < 10 ^ (k + 1) → Lib.nDigits u ≤ k + 1
  | 0, u, h => by rw [Lib.nDigits_small (by simpa using h)]; omega
  | k + 1, u, h => by
    by_cases hu : u < 10
    · rw [Lib.nDigits_small hu]; omega
    · rw [Lib.nDigits_big hu]
      have := digits_len k (u / 10) (by rw [Nat.pow_succ] at h; omega)
      omega
theorem itoa_tot {n : Int} (h : I64 n) : Tot (mStrconvItoa n) (fun b => b.size ≤ 20) := by
  unfold mStrconvItoa itoaM
  rw [chk_ok h.1 h.2]
  refine tot_some ?_
  show (Lib.itoa n).toArray.size ≤ 20
  rw [List.size_toArray]
  have := h.1; have := h.2
  by_cases hn : 0 ≤ n
  · obtain ⟨u, rfl⟩ : ∃ u : Nat, n = (u : Int) := ⟨n.toNat, by omega⟩
    rw [Lib.itoa_nonneg, Lib.decDigits_length]
    have := digits_len 18 u (by omega)
    omega
  · obtain ⟨u, rfl⟩ : ∃ u : Nat, n = -(u : Int) := ⟨n.natAbs, by omega⟩
    rw [Lib.itoa_neg u (by omega), List.length_cons, Lib.decDigits_length]
    have := digits_len 18 u (by omega)
    omega
theorem sAdd_tot {s t : ByteArray} (h : s.size + t.size ≤ 1000000000) : Tot (sAdd s t) (fun r => r.size = s.size + t.size) := by
  unfold sAdd
  rw [if_pos (by omega)]
  exact tot_some (by simp)
theorem sentence_tot {w : ByteArray} {l : List Int} (hw : w.size ≤ 5) (hl : l.length ≤ 12) (h : ∀ n ∈ l, I64 n) : Tot (mPlanSentence w l) (fun b => b.size ≤ 300) := by
  unfold mPlanSentence
  refine tot_bind (tot_forS (fun k b => b.size ≤ 5 + 21 * k) (by omega) fun j s _ hj hi => ?_) fun b hb => ?_
  · unfold mPlanSentence_L66
    refine tot_idn (by omega) fun n hn => tot_bind (itoa_tot (h n (List.mem_of_getElem? hn))) fun f hf => ?_
    have h1 : (ByteArray.mk #[32]).size = 1 := rfl
    refine tot_bind (sAdd_tot (by rw [h1]; omega)) fun g hg => tot_bind (sAdd_tot (by rw [hg, h1]; omega)) fun q hq => tot_some ?_
    rw [hq, hg, h1]
    omega
  · have h1 : (ByteArray.mk #[10]).size = 1 := rfl
    refine tot_bind (sAdd_tot (by rw [h1]; omega)) fun e he => tot_some ?_
    rw [he, h1]
    omega
theorem within_eq (a c d : Int) : mPlanWithin a c d = some (decide (c ≤ a ∧ a ≤ d)) := by
  unfold mPlanWithin
  by_cases h1 : c ≤ a
  · rw [if_pos h1, Option.bind_some]
    simp [h1]
  · rw [if_neg h1, Option.bind_some]
    simp [h1]
theorem bWrite_tot {s t : ByteArray} (h : s.size + t.size ≤ 1000000000) : Tot (bWrite s t) (fun r => r.2.size = s.size + t.size) := by
  unfold bWrite
  rw [if_pos (by omega)]
  exact tot_some (by simp)
/-- A line is written; the flag stays if its numbers are small. -/
theorem line_tot {c : ByteArray} {d : Bool} {a : List Int} {e : ByteArray} (hc : c.size ≤ 5) (ha : a.length ≤ 12) (h : ∀ n ∈ a, I64 n) (he : e.size ≤ 1000000) :
    Tot (mPlanText_1 c d a e) (fun p => p.2.size ≤ e.size + 300 ∧ (d = true → (∀ n ∈ a, 0 ≤ n ∧ n ≤ 999999) → p.1 = true)) := by
  unfold mPlanText_1
  refine tot_bind (tot_forS (fun _ q => d = true → (∀ n ∈ a, 0 ≤ n ∧ n ≤ 999999) → q = true) (fun h _ => h) fun j s _ hj hi => ?_) fun f hf => ?_
  · unfold mPlanText_1_L96
    refine tot_idn (by omega) fun n hn => tot_ite (fun _ => ?_) fun hs => tot_some fun h1 h2 => absurd (hi h1 h2) hs
    rw [within_eq]
    exact tot_some fun h1 h2 => decide_eq_true (h2 n (List.mem_of_getElem? hn))
  · refine tot_bind (sentence_tot hc ha h) fun g hg => ?_
    unfold mStringsBuilderWriteString
    refine tot_bind (bWrite_tot (by omega)) fun ⟨x, y⟩ hy => ?_
    have hy : y.size = e.size + g.size := hy
    show Tot (some (f, y)) _
    exact tot_some ⟨by show y.size ≤ _; omega, hf⟩
theorem line2_tot {c : ByteArray} {d : Bool} {a : List Int} {e : ByteArray} (hc : c.size ≤ 5) (ha : a.length ≤ 12) (h : ∀ n ∈ a, I64 n) (he : e.size ≤ 1000000) :
    Tot (mPlanText_1_2 c a d e) (fun p => p.2.size ≤ e.size + 300 ∧ (d = true → (∀ n ∈ a, 0 ≤ n ∧ n ≤ 999999) → p.1 = true)) := by
  unfold mPlanText_1_2
  refine tot_bind (tot_forS (fun _ q => d = true → (∀ n ∈ a, 0 ≤ n ∧ n ≤ 999999) → q = true) (fun h _ => h) fun j s _ hj hi => ?_) fun f hf => ?_
  · unfold mPlanText_1_2_L75
    refine tot_idn (by omega) fun n hn => tot_ite (fun _ => ?_) fun hs => tot_some fun h1 h2 => absurd (hi h1 h2) hs
    rw [within_eq]
    exact tot_some fun h1 h2 => decide_eq_true (h2 n (List.mem_of_getElem? hn))
  · refine tot_bind (sentence_tot hc ha h) fun g hg => ?_
    unfold mStringsBuilderWriteString
    refine tot_bind (bWrite_tot (by omega)) fun ⟨x, y⟩ hy => ?_
    have hy : y.size = e.size + g.size := hy
    show Tot (some (f, y)) _
    exact tot_some ⟨by show y.size ≤ _; omega, hf⟩

/- ---- the form of a day ---- -/
def FTrain (t : ApiTrain) : Prop := 1 ≤ t.Stops.length ∧ t.Stops.length ≤ 8 ∧ t.Legs.length + 1 = t.Stops.length ∧ ∀ g ∈ t.Legs, 1 ≤ g.length ∧ g.length ≤ 4
def FDay (d : ApiDay) : Prop := d.Trains.length ≤ 12 ∧ d.Turns.length ≤ 8 ∧ (∀ t ∈ d.Trains, FTrain t) ∧ ∀ g ∈ d.Turns, 1 ≤ g.length ∧ g.length ≤ 12
theorem mem_upto {α : Type} {P : α → Prop} {l : List α} (h : ∀ i x, i < 0 + l.length → l[i]? = some x → P x) : ∀ x ∈ l, P x := fun x hx => by
  obtain ⟨i, h1, h2⟩ := List.mem_iff_getElem.1 hx
  exact h i x (by omega) (by rw [List.getElem?_eq_getElem h1, h2])
theorem upto_succ {α : Type} {P : α → Prop} {l : List α} {j : Nat} {y : α} (hy : l[j]? = some y) (h : ∀ i x, i < j → l[i]? = some x → P x) (hp : P y) : ∀ i x, i < j + 1 → l[i]? = some x → P x := fun i x hi hx => by
  rcases Nat.lt_or_ge i j with h1 | h1
  · exact h i x h1 hx
  · have : i = j := by omega
    subst this
    rw [hx] at hy
    injection hy with hy
    exact hy ▸ hp
theorem form_tot {d : ApiDay} (hw : WDay d) : Tot (mPlanForm d) (fun c => (c = 0 → FDay d) ∧ (FDay d → c = 0)) := by
  unfold mPlanForm
  refine tot_bind (P := fun c => (c = 0 → FDay d) ∧ (FDay d → c = 0)) (R := fun q => q = decide (12 < d.Trains.length ∨ 8 < d.Turns.length)) (tot_ite (fun h => tot_some (by simp; omega)) fun h => tot_some (by by_cases h2 : 8 < d.Turns.length <;> simp [h2] <;> omega)) fun q hq => ?_
  refine tot_ite (fun h => tot_some ?_) fun h => ?_
  · rw [hq] at h
    have h := of_decide_eq_true h
    exact ⟨fun h => absurd h (by decide), fun hf => absurd h (by have := hf.1; have := hf.2.1; omega)⟩
  · have h := of_decide_eq_false (hq ▸ bt h)
    refine tot_sum (I := fun _ => ∀ t ∈ d.Trains, FTrain t) (R := fun c => c ≠ 0 ∧ ¬ FDay d) ?_ (fun _ h1 => ?_) fun c hc => tot_some ⟨fun h => absurd h hc.1, fun h => absurd h hc.2⟩
    · refine tot_imp (tot_forM (fun k _ => ∀ i t, i < k → d.Trains[i]? = some t → FTrain t) (fun c => c ≠ 0 ∧ ¬ FDay d) (fun i t hi => absurd hi (by omega)) fun j _ _ hj hi => ?_) fun o ho => ?_
      · unfold mPlanForm_L283
        refine tot_idn (by omega) fun t ht => ?_
        have htm := List.mem_of_getElem? ht
        have ok := (hw.1.2 t htm).2.2
        have oks := ok.1.1
        have okl := ok.2.1
        refine tot_bind (R := fun q => q = decide (¬ (1 ≤ t.Stops.length ∧ t.Legs.length + 1 = t.Stops.length))) (tot_ite (fun h => tot_some (by simp; omega)) fun h => tot_chk (by omega) (by omega) (tot_some (by simp only [decide_eq_decide]; omega))) fun q hq => ?_
        refine tot_ite (fun h => tot_some ⟨by decide, fun hf => ?_⟩) fun h => ?_
        · have h := of_decide_eq_true (hq ▸ h)
          have := hf.2.2.1 t htm
          exact h ⟨this.1, this.2.2.1⟩
        · have h := of_decide_eq_false (hq ▸ bt h)
          refine tot_sum (I := fun _ => ∀ g ∈ t.Legs, 1 ≤ g.length) (R := fun o : Unit ⊕ Int => Sum.elim (fun _ => False) (fun c => c ≠ 0 ∧ ¬ FDay d) o) ?_ (fun _ h1 => ?_) fun c hc => ⟨_, rfl, by cases c with | inl _ => exact hc.elim | inr c => exact hc⟩
          · refine tot_imp (tot_forM (fun k _ => ∀ i g, i < k → t.Legs[i]? = some g → 1 ≤ g.length) (fun o : Unit ⊕ Int => Sum.elim (fun _ => False) (fun c => c ≠ 0 ∧ ¬ FDay d) o) (fun i g hi => absurd hi (by omega)) fun j _ _ hj hi => ?_) fun o ho => ?_
            · unfold mPlanForm_L419
              refine tot_idn (by omega) fun g hg => tot_ite (fun h => tot_some ⟨by decide, fun hf => ?_⟩) fun h => tot_some (upto_succ hg hi (by omega))
              have := (hf.2.2.1 t htm).2.2.2 g (List.mem_of_getElem? hg)
              omega
            · cases o with
              | inl _ => exact mem_upto ho
              | inr _ => exact ho
          · refine tot_ite (fun h8 => tot_some ⟨by decide, fun hf => ?_⟩) fun h8 => ?_
            · have := (hf.2.2.1 t htm).2.1
              omega
            · refine tot_sum (I := fun _ => ∀ g ∈ t.Legs, g.length ≤ 4) (R := fun o : Unit ⊕ Int => Sum.elim (fun _ => False) (fun c => c ≠ 0 ∧ ¬ FDay d) o) ?_ (fun _ h2 => ?_) fun c hc => ⟨_, rfl, by cases c with | inl _ => exact hc.elim | inr c => exact hc⟩
              · refine tot_imp (tot_forM (fun k _ => ∀ i g, i < k → t.Legs[i]? = some g → g.length ≤ 4) (fun o : Unit ⊕ Int => Sum.elim (fun _ => False) (fun c => c ≠ 0 ∧ ¬ FDay d) o) (fun i g hi => absurd hi (by omega)) fun j _ _ hj hi => ?_) fun o ho => ?_
                · unfold mPlanForm_L460
                  refine tot_idn (by omega) fun g hg => tot_ite (fun h => tot_some ⟨by decide, fun hf => ?_⟩) fun h => tot_some (upto_succ hg hi (by omega))
                  have := (hf.2.2.1 t htm).2.2.2 g (List.mem_of_getElem? hg)
                  omega
                · cases o with
                  | inl _ => exact mem_upto ho
                  | inr _ => exact ho
              · refine tot_some (upto_succ ht hi ⟨by omega, by omega, by omega, fun g hg => ⟨h1 g hg, h2 g hg⟩⟩)
      · cases o with
        | inl _ => exact mem_upto ho
        | inr _ => exact ho
    · refine tot_sum (I := fun _ => ∀ g ∈ d.Turns, 1 ≤ g.length ∧ g.length ≤ 12) (R := fun c => c ≠ 0 ∧ ¬ FDay d) ?_ (fun _ h2 => tot_some ⟨fun _ => ⟨by omega, by omega, h1, h2⟩, fun _ => rfl⟩) fun c hc => tot_some ⟨fun h => absurd h hc.1, fun h => absurd h hc.2⟩
      refine tot_imp (tot_forM (fun k _ => ∀ i g, i < k → d.Turns[i]? = some g → 1 ≤ g.length ∧ g.length ≤ 12) (fun c => c ≠ 0 ∧ ¬ FDay d) (fun i t hi => absurd hi (by omega)) fun j _ _ hj hi => ?_) fun o ho => ?_
      · unfold mPlanForm_L500
        refine tot_idn (by omega) fun g hg => tot_ite (fun h => tot_some ⟨by decide, fun hf => ?_⟩) fun h => tot_ite (fun h => tot_some ⟨by decide, fun hf => ?_⟩) fun h2 => tot_some (upto_succ hg hi (by omega))
        · have := hf.2.2.2 g (List.mem_of_getElem? hg)
          omega
        · have := hf.2.2.2 g (List.mem_of_getElem? hg)
          omega
      · cases o with
        | inl _ => exact mem_upto ho
        | inr _ => exact ho
/-- All numbers of a day are small. -/
def NDay (d : ApiDay) : Prop := (∀ t ∈ d.Trains, (∀ n ∈ [t.No, t.Stock], 0 ≤ n ∧ n ≤ 999999) ∧ (∀ s ∈ t.Stops, ∀ n ∈ [s.Station, s.Track, s.Arr, s.Dep], 0 ≤ n ∧ n ≤ 999999) ∧ ∀ g ∈ t.Legs, ∀ n ∈ g, 0 ≤ n ∧ n ≤ 999999) ∧ ∀ g ∈ d.Turns, ∀ n ∈ g, 0 ≤ n ∧ n ≤ 999999
set_option maxRecDepth 20000 in
theorem text_tot {d : ApiDay} (hw : WDay d) : Tot (mPlanText d) (fun p => (p.2 = 0 → FDay d) ∧ (FDay d → NDay d → p.2 = 0)) := by
  unfold mPlanText
  refine tot_bind (form_tot hw) fun c hc => tot_ite (fun h => tot_some ⟨fun h0 => absurd h0 h, fun hf _ => hc.2 hf⟩) fun h => ?_
  have h0 : c = 0 := Decidable.of_not_not h
  have hf := hc.1 h0
  refine tot_bind (tot_forS (fun k p => p.2.size ≤ 4800 * k ∧ (NDay d → p.1 = true)) ⟨by show (ByteArray.empty).size ≤ _; decide, fun _ => rfl⟩ fun j p _ hj hi => ?_) fun ⟨q, b⟩ hb => ?_
  · obtain ⟨q, b⟩ := p
    obtain ⟨hi1, hi2⟩ := hi
    have hi1 : b.size ≤ 4800 * j := hi1
    have hi2 : NDay d → q = true := hi2
    have hd := hf.1
    show Tot (mPlanText_L677 d j (q, b)) _
    unfold mPlanText_L677
    show Tot ((idx d.Trains (j : Int)).bind _) _
    refine tot_idn (by omega) fun t ht => ?_
    have htm := List.mem_of_getElem? ht
    have wt := hw.1.2 t htm
    have ft := hf.2.2.1 t htm
    refine tot_bind (line_tot (by decide) (by simp) (fun n hn => by
      simp at hn
      rcases hn with rfl | rfl
      · exact wt.1
      · exact wt.2.1) (by omega)) fun ⟨q1, b1⟩ h1 => ?_
    obtain ⟨h1, h1'⟩ := h1
    have h1 : b1.size ≤ b.size + 300 := h1
    have h1' : q = true → _ → q1 = true := h1'
    show Tot ((forS (mPlanText_L1089 t) t.Stops.length 0 (q1, b1)).bind _) _
    refine tot_bind (tot_forS (fun k p => p.2.size ≤ b1.size + 300 * k ∧ (NDay d → p.1 = true)) ⟨by show b1.size ≤ _; omega, fun hn => h1' (hi2 hn) (hn.1 t htm).1⟩ fun i p _ hj2 hi => ?_) fun ⟨q2, b2⟩ h2 => ?_
    · obtain ⟨q2, b2⟩ := p
      obtain ⟨hi3, hi4⟩ := hi
      have hi3 : b2.size ≤ b1.size + 300 * i := hi3
      have hi4 : NDay d → q2 = true := hi4
      have := ft.2.1
      show Tot (mPlanText_L1089 t i (q2, b2)) _
      unfold mPlanText_L1089
      show Tot ((idx t.Stops (i : Int)).bind _) _
      refine tot_idn (by omega) fun s hs => ?_
      have hsm := List.mem_of_getElem? hs
      have ws := wt.2.2.1.2 s hsm
      refine tot_bind (line_tot (by decide) (by simp) (fun n hn => by
        simp at hn
        rcases hn with rfl | rfl | rfl | rfl
        · exact ws.1
        · exact ws.2.1
        · exact ws.2.2.1
        · exact ws.2.2.2) (by omega)) fun ⟨q3, b3⟩ h3 => ?_
      obtain ⟨h3, h3'⟩ := h3
      have h3 : b3.size ≤ b2.size + 300 := h3
      have hz : b3.size ≤ b1.size + 300 * (i + 1) := by omega
      exact tot_some ⟨hz, fun hn => h3' (hi4 hn) ((hn.1 t htm).2.1 s hsm)⟩
    · obtain ⟨h2, h2'⟩ := h2
      have h2 : b2.size ≤ b1.size + 300 * (0 + t.Stops.length) := h2
      have h2' : NDay d → q2 = true := h2'
      have f1 := ft.2.1
      have f2 := ft.2.2.1
      show Tot ((forS (mPlanText_L1169 t) t.Legs.length 0 (q2, b2)).bind _) _
      refine tot_bind (tot_forS (fun k p => p.2.size ≤ b2.size + 300 * k ∧ (NDay d → p.1 = true)) ⟨by show b2.size ≤ _; omega, h2'⟩ fun i p _ hj2 hi => ?_) fun ⟨q3, b3⟩ h3 => ?_
      · obtain ⟨q3, b3⟩ := p
        obtain ⟨hi3, hi4⟩ := hi
        have hi3 : b3.size ≤ b2.size + 300 * i := hi3
        have hi4 : NDay d → q3 = true := hi4
        show Tot (mPlanText_L1169 t i (q3, b3)) _
        unfold mPlanText_L1169
        show Tot ((idx t.Legs (i : Int)).bind _) _
        refine tot_idn (by omega) fun g hg => ?_
        have hgm := List.mem_of_getElem? hg
        refine tot_bind (line2_tot (by decide) (by have := (ft.2.2.2 g hgm).2; omega) ((wt.2.2.2.2 g hgm).2) (by omega)) fun ⟨q4, b4⟩ h4 => ?_
        obtain ⟨h4, h4'⟩ := h4
        have h4 : b4.size ≤ b3.size + 300 := h4
        have hz : b4.size ≤ b2.size + 300 * (i + 1) := by omega
        exact tot_some ⟨hz, fun hn => h4' (hi4 hn) ((hn.1 t htm).2.2 g hgm)⟩
      · obtain ⟨h3, h3'⟩ := h3
        have h3 : b3.size ≤ b2.size + 300 * (0 + t.Legs.length) := h3
        have hz : b3.size ≤ 4800 * (j + 1) := by omega
        exact tot_some ⟨hz, h3'⟩
  · obtain ⟨hb, hb'⟩ := hb
    have hb : b.size ≤ 4800 * (0 + d.Trains.length) := hb
    have hb' : NDay d → q = true := hb'
    have f1 := hf.1
    have f2 := hf.2.1
    show Tot ((forS (mPlanText_L1246 d) d.Turns.length 0 (q, b)).bind _) _
    refine tot_bind (tot_forS (fun k p => p.2.size ≤ b.size + 300 * k ∧ (NDay d → p.1 = true)) ⟨by show b.size ≤ _; omega, hb'⟩ fun i p _ hj2 hi => ?_) fun ⟨q3, b3⟩ h3 => ?_
    · obtain ⟨q3, b3⟩ := p
      obtain ⟨hi3, hi4⟩ := hi
      have hi3 : b3.size ≤ b.size + 300 * i := hi3
      have hi4 : NDay d → q3 = true := hi4
      show Tot (mPlanText_L1246 d i (q3, b3)) _
      unfold mPlanText_L1246
      show Tot ((idx d.Turns (i : Int)).bind _) _
      refine tot_idn (by omega) fun g hg => ?_
      have hgm := List.mem_of_getElem? hg
      refine tot_bind (line2_tot (by decide) (by have := (hf.2.2.2 g hgm).2; omega) ((hw.2.2 g hgm).2) (by omega)) fun ⟨q4, b4⟩ h4 => ?_
      obtain ⟨h4, h4'⟩ := h4
      have h4 : b4.size ≤ b3.size + 300 := h4
      have hz : b4.size ≤ b.size + 300 * (i + 1) := by omega
      exact tot_some ⟨hz, fun hn => h4' (hi4 hn) (hn.2 g hgm)⟩
    · obtain ⟨_, h3'⟩ := h3
      show Tot (if q3 = true then _ else _) _
      refine tot_ite (fun h => ?_) fun h => tot_some ⟨fun h => absurd h (by decide), fun _ hn => absurd (h3' hn) h⟩
      unfold mStringsBuilderString
      exact tot_some ⟨fun _ => hf, fun _ _ => rfl⟩
end Go.Proofs.YtckgfeglhjiflaaDoor
