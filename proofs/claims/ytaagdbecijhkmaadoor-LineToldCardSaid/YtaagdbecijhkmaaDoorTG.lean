/- Plain: LineTold. -/
import Derived.Test.YtaagdbecijhkmaaDoorTF
set_option linter.unusedVariables false
set_option linter.unusedSimpArgs false
namespace Go.Proofs.YtaagdbecijhkmaaDoor
open Go.RowKit Go.Fp

abbrev St5 := List ByteArray × List ApiSection × List ApiLink × List ApiSignal × List ApiGate
abbrev St6 := Int × St5
/-- One line of Read's loop. -/
noncomputable def rdw (w : List ByteArray) (at_ : Int) (s : St5) : Option (St6 ⊕ St6) :=
  (mLineLine w s.1 s.2.1 s.2.2.1 s.2.2.2.1 s.2.2.2.2).bind fun r => if r.1 < at_ then some (.inr (10, [], [], [], [], [])) else some (.inl r)
theorem body_eq (l : List (List ByteArray)) (k : Nat) (w : List ByteArray) (hw : l[k]? = some w) (at_ : Int) (s : St5) : mLineRead_L311 l k (at_, s) = rdw w at_ s := by
  obtain ⟨a, b, c, d, e⟩ := s
  unfold mLineRead_L311 rdw
  show (idx l (k : Int)).bind _ = _
  rw [idx_nat hw, Option.bind_some]
  rfl
noncomputable def rdl : List (List ByteArray) → St6 → Option (St6 ⊕ St6)
  | [], s => some (.inl s)
  | w :: r, s => match rdw w s.1 s.2 with
    | none => none
    | some (.inl s') => rdl r s'
    | some (.inr t) => some (.inr t)
theorem rdl_eq : ∀ (rest pre : List (List ByteArray)) (s : St6), Go.Fp.forM (mLineRead_L311 (pre ++ rest)) rest.length pre.length s = rdl rest s
  | [], pre, s => rfl
  | w :: r, pre, (at_, s) => by
    have hb := body_eq (pre ++ w :: r) pre.length w (by simp) at_ s
    have ih := rdl_eq r (pre ++ [w])
    rw [List.length_append, List.length_singleton, List.append_assoc, List.singleton_append] at ih
    rw [List.length_cons]
    unfold Go.Fp.forM rdl
    rw [hb]
    cases rdw w at_ s with
    | none => rfl
    | some v =>
      cases v with
      | inl s' => exact ih s'
      | inr t => rfl
/-- A run of lines of one kind. -/
theorem seg {α : Type} (K : Int) (f : α → List ByteArray) (up : List α → St5) (R : List (List ByteArray)) : ∀ (l q : List α) (a : Int), a ≤ K → q.length + l.length ≤ 1000 → (∀ x ∈ l, ∀ q : List α, q.length ≤ 1000 → ∀ a, a ≤ K → rdw (f x) a (up q) = some (.inl (K, up (q ++ [x])))) →
    ∃ a', a' ≤ K ∧ rdl (l.map f ++ R) (a, up q) = rdl R (a', up (q ++ l))
  | [], q, a, ha, _, _ => ⟨a, ha, by simp⟩
  | x :: l, q, a, ha, hl, h => by
    obtain ⟨a', h1, h2⟩ := seg K f up R l (q ++ [x]) K (Int.le_refl _) (by simp at hl ⊢; omega) (fun y hy => h y (by simp [hy]))
    refine ⟨a', h1, ?_⟩
    have hs : ∀ (w : List ByteArray) (r : List (List ByteArray)) (s t : St6), rdw w s.1 s.2 = some (.inl t) → rdl (w :: r) s = rdl r t := fun w r s t ht => by
      show (match rdw w s.1 s.2 with | none => none | some (.inl s') => rdl r s' | some (.inr t) => some (.inr t)) = _
      rw [ht]
    rw [List.map_cons, List.cons_append, hs _ _ (a, up q) (K, up (q ++ [x])) (h x (by simp) q (by simp at hl; omega) a ha), h2, List.append_assoc, List.singleton_append]
theorem rdw_of {w : List ByteArray} {s t : St5} {K a : Int} (h : mLineLine w s.1 s.2.1 s.2.2.1 s.2.2.2.1 s.2.2.2.2 = some (K, t)) (ha : a ≤ K) : rdw w a s = some (.inl (K, t)) := by
  unfold rdw
  rw [h, Option.bind_some, if_neg (by show ¬ K < a; omega)]
def ww (ln : List (List UInt8)) : List ByteArray := ln.map bs
theorem rd_all {n : ApiNet} (h : TNet n) : ∃ a, rdl ((lns n).map ww) (0, [], [], [], [], []) = some (.inl (a, n.Stations, n.Sections, n.Links, n.Signals, n.Gates)) := by
  have a12 := h.told.n12; have a60 := h.told.n60; have a90 := h.told.n90; have a40 := h.told.n40; have a8 := h.told.n8
  have hm : (lns n).map ww = n.Stations.map (ww ∘ lnStation) ++ (n.Sections.map (ww ∘ lnSection) ++ (n.Links.map (ww ∘ lnLink) ++ (n.Signals.map (ww ∘ lnSignal) ++ (n.Gates.map (ww ∘ lnGate) ++ [])))) := by
    simp only [lns, List.map_append, List.map_map, List.append_nil]
  rw [hm]
  obtain ⟨b1, c1, d1⟩ := seg 0 (ww ∘ lnStation) (fun q => (q, [], [], [], [])) (n.Sections.map (ww ∘ lnSection) ++ (n.Links.map (ww ∘ lnLink) ++ (n.Signals.map (ww ∘ lnSignal) ++ (n.Gates.map (ww ∘ lnGate) ++ [])))) n.Stations [] 0 (Int.le_refl _) (by simp; omega) (fun x hx q hq a ha => rdw_of (rd_station _ _ _ _ _ (h.told.names x hx) hq) ha)
  obtain ⟨b2, c2, d2⟩ := seg 1 (ww ∘ lnSection) (fun q => (n.Stations, q, [], [], [])) (n.Links.map (ww ∘ lnLink) ++ (n.Signals.map (ww ∘ lnSignal) ++ (n.Gates.map (ww ∘ lnGate) ++ []))) n.Sections [] b1 (by omega) (by simp; omega) (fun x hx q hq a ha => rdw_of (rd_section _ _ _ _ _ (h.told.secs x hx) hq) ha)
  obtain ⟨b3, c3, d3⟩ := seg 2 (ww ∘ lnLink) (fun q => (n.Stations, n.Sections, q, [], [])) (n.Signals.map (ww ∘ lnSignal) ++ (n.Gates.map (ww ∘ lnGate) ++ [])) n.Links [] b2 (by omega) (by simp; omega) (fun x hx q hq a ha => rdw_of (rd_link _ _ _ _ _ (h.links x hx) hq) ha)
  obtain ⟨b4, c4, d4⟩ := seg 3 (ww ∘ lnSignal) (fun q => (n.Stations, n.Sections, n.Links, q, [])) (n.Gates.map (ww ∘ lnGate) ++ []) n.Signals [] b3 (by omega) (by simp; omega) (fun x hx q hq a ha => rdw_of (rd_signal _ _ _ _ _ (h.sigs x hx) hq) ha)
  obtain ⟨b5, c5, d5⟩ := seg 4 (ww ∘ lnGate) (fun q => (n.Stations, n.Sections, n.Links, n.Signals, q)) [] n.Gates [] b4 (by omega) (by simp; omega) (fun x hx q hq a ha => rdw_of (rd_gate _ _ _ _ _ (h.told.gates x hx) hq) ha)
  exact ⟨b5, d1.trans (d2.trans (d3.trans (d4.trans d5)))⟩
theorem lines_pass {a : Bool} {l : List (List ByteArray)} {t : ByteArray} (h : mLineLines t = some (a, l)) (ha : a = true) (hs : ¬ 20000 < (t.size : Int)) {n : ApiNet} {b : Int} (hr : Go.Fp.forM (mLineRead_L311 l) l.length 0 ((0, [], [], [], [], []) : St6) = some (.inl (b, n.Stations, n.Sections, n.Links, n.Signals, n.Gates))) (hc : mLineCheck n = some 0) :
    mLineRead t = some (0, n.Stations, n.Sections, n.Links, n.Signals, n.Gates) := by
  unfold mLineRead
  rw [if_neg hs, h, pass2, if_pos ha]
  rw [show Go.Fp.forM (mLineRead_L311 l) l.length 0 ((0, [], [], [], [], []) : Int × (List ByteArray) × (List ApiSection) × (List ApiLink) × (List ApiSignal) × (List ApiGate)) = some (.inl (b, n.Stations, n.Sections, n.Links, n.Signals, n.Gates)) from hr, passL, pass6]
  rw [show (⟨n.Stations, n.Sections, n.Links, n.Signals, n.Gates⟩ : ApiNet) = n from rfl, hc, Option.bind_some, if_neg (by decide)]
theorem read_ok {n : ApiNet} (h : TNet n) (hc : mLineCheck n = some 0) : mLineRead (bs (tx (lns n))) = some (0, n.Stations, n.Sections, n.Links, n.Signals, n.Gates) := by
  have hl := lns_len h
  have ht := text_len h
  have hne : lns n ≠ [] := fun he => by rw [he] at hl; simp at hl
  obtain ⟨b, hb⟩ := rd_all h
  have hx := rdl_eq ((lns n).map ww) [] (0, [], [], [], [], [])
  rw [hb] at hx
  exact lines_pass (lines_ok hne (lns_ok h) ht) rfl (by rw [bs_size]; omega) hx hc
/- ---- equal ---- -/
theorem sEq_self (s : ByteArray) : sEq s s = true := by simp [sEq]
theorem equal_of {τ : Type} {body : Nat → Unit → Option (Unit ⊕ Bool)} {m : Nat} (h : ∀ k, k < m → body k () = some (.inl ())) : Go.Fp.forM body m 0 () = some (.inl ()) := by
  rcases forU (body := body) (fun _ => True) (fun _ => False) m (fun k hk => .inl ⟨h k hk, trivial⟩) with ⟨h1, _⟩ | ⟨t, _, h2⟩
  · exact h1
  · exact h2.elim
theorem eq1 (l : List ByteArray) : mSlicesEqual l l = some true := by
  unfold mSlicesEqual
  rw [if_neg (by simp), equal_of (τ := Unit) (fun k hk => by unfold mSlicesEqual_L104; rw [idx_lt hk, Option.bind_some, Option.bind_some, sEq_self, if_pos rfl])]
  rfl
theorem eq2 (l : List ApiSection) : mSlicesEqual_2 l l = some true := by
  unfold mSlicesEqual_2
  rw [if_neg (by simp), equal_of (τ := Unit) (fun k hk => by unfold mSlicesEqual_2_L104; rw [idx_lt hk, Option.bind_some, Option.bind_some, if_pos ⟨rfl, rfl, rfl, rfl, rfl, rfl, rfl⟩])]
  rfl
theorem eq3 (l : List ApiLink) : mSlicesEqual_3 l l = some true := by
  unfold mSlicesEqual_3
  rw [if_neg (by simp), equal_of (τ := Unit) (fun k hk => by unfold mSlicesEqual_3_L104; rw [idx_lt hk, Option.bind_some, Option.bind_some, if_pos ⟨rfl, rfl, rfl, rfl⟩])]
  rfl
theorem eq4 (l : List ApiSignal) : mSlicesEqual_4 l l = some true := by
  unfold mSlicesEqual_4
  rw [if_neg (by simp), equal_of (τ := Unit) (fun k hk => by unfold mSlicesEqual_4_L104; rw [idx_lt hk, Option.bind_some, Option.bind_some, if_pos ⟨rfl, rfl⟩])]
  rfl
theorem eq5 (l : List ApiGate) : mSlicesEqual_5 l l = some true := by
  unfold mSlicesEqual_5
  rw [if_neg (by simp), equal_of (τ := Unit) (fun k hk => by unfold mSlicesEqual_5_L104; rw [idx_lt hk, Option.bind_some, Option.bind_some, if_pos ⟨rfl, rfl⟩])]
  rfl
theorem awakeL : mFishkeep1AwakeLine = some true := awake_true
theorem told_err {n : ApiNet} {e : Int} (h : mLineCheck n = some e) (h0 : e ≠ 0) : mFishkeep1LineTold n = some true := by
  have ht : mLineText n = some (ByteArray.mk #[], e) := by
    unfold mLineText
    rw [h, Option.bind_some, if_pos h0]
  unfold mFishkeep1LineTold
  rw [awakeL, Option.bind_some, if_pos rfl, ht, pass2, if_pos h0, h, Option.bind_some, if_pos rfl, sEq_self]
  rfl
theorem told_of {n : ApiNet} {t : ByteArray} {e z : Int} (he : e = 0) (hz : z = 0) (h1 : mLineText n = some (t, e)) (h2 : mLineRead t = some (z, n.Stations, n.Sections, n.Links, n.Signals, n.Gates)) (hs : (t.size : Int) ≤ 20000) : mFishkeep1LineTold n = some true := by
  unfold mFishkeep1LineTold
  rw [awakeL, Option.bind_some, if_pos rfl, h1, pass2, if_neg (fun h => h he), h2, Option.bind_some, pass6]
  rw [show (⟨n.Stations, n.Sections, n.Links, n.Signals, n.Gates⟩ : ApiNet) = n from rfl, h1, pass2, if_pos hs, if_pos hz, if_pos he, sEq_self, if_pos rfl, eq1, Option.bind_some, if_pos rfl, eq2, Option.bind_some, if_pos rfl, eq3, Option.bind_some, if_pos rfl, eq4, Option.bind_some, if_pos rfl, eq5]
  rfl
theorem num_has {n : ApiNet} (hl : n.Sections.length ≤ 60) {e : LineEnd} (h : Has n e) : Num e.section_ ∧ Num e.end_ := by
  have := endsI_bd (sec n e.section_).Kind
  obtain ⟨⟨a, b⟩, c, d⟩ := h
  exact ⟨⟨by omega, by omega⟩, by omega, by omega⟩
theorem toldPlain (n : ApiNet) (hS : Small n) : mFishkeep1LineTold n = some true := by
  obtain ⟨e, h1, h2⟩ := check_spec hS
  by_cases h0 : e = 0
  · subst h0
    have ok := h2 rfl
    have ht : TNet n := ⟨check_inv h1, fun l hl => by
      obtain ⟨a, b⟩ := ok.ends l hl
      exact ⟨(num_has ok.n60 a).1, (num_has ok.n60 a).2, (num_has ok.n60 b).1, (num_has ok.n60 b).2⟩, fun s hs => num_has ok.n60 (ok.sigs s hs)⟩
    exact told_of rfl rfl (text_ok ht h1) (read_ok ht h1) (by rw [bs_size]; have := text_len ht; omega)
  · exact told_err h1 h0
end Go.Proofs.YtaagdbecijhkmaaDoor
