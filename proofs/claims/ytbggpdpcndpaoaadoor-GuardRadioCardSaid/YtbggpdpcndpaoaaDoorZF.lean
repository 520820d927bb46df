/- Plain: GuardRadio: a round, and the law. -/
import Derived.Test.YtbggpdpcndpaoaaDoorZE
set_option linter.unusedVariables false
set_option linter.unusedSimpArgs false
namespace Go.Proofs.YtbggpdpcndpaoaaDoor
open Go.RowKit Go.Fp

theorem ps5 {A1 A2 A3 A4 A5 τ : Type} {F : A1 → A2 → A3 → A4 → A5 → Option τ} {x1 : A1} {x2 : A2} {x3 : A3} {x4 : A4} {x5 : A5} : (some (x1, x2, x3, x4, x5)).bind (unc5 F) = F x1 x2 x3 x4 x5 := rfl
theorem ps10 {A1 A2 A3 A4 A5 A6 A7 A8 A9 A10 τ : Type} {F : A1 → A2 → A3 → A4 → A5 → A6 → A7 → A8 → A9 → A10 → Option τ} {x1 : A1} {x2 : A2} {x3 : A3} {x4 : A4} {x5 : A5} {x6 : A6} {x7 : A7} {x8 : A8} {x9 : A9} {x10 : A10} : (some (x1, x2, x3, x4, x5, x6, x7, x8, x9, x10)).bind (unc10 F) = F x1 x2 x3 x4 x5 x6 x7 x8 x9 x10 := rfl
theorem ps12 {A1 A2 A3 A4 A5 A6 A7 A8 A9 A10 A11 A12 τ : Type} {F : A1 → A2 → A3 → A4 → A5 → A6 → A7 → A8 → A9 → A10 → A11 → A12 → Option τ} {x1 : A1} {x2 : A2} {x3 : A3} {x4 : A4} {x5 : A5} {x6 : A6} {x7 : A7} {x8 : A8} {x9 : A9} {x10 : A10} {x11 : A11} {x12 : A12} : (some (x1, x2, x3, x4, x5, x6, x7, x8, x9, x10, x11, x12)).bind (unc12 F) = F x1 x2 x3 x4 x5 x6 x7 x8 x9 x10 x11 x12 := rfl
theorem ps13 {A1 A2 A3 A4 A5 A6 A7 A8 A9 A10 A11 A12 A13 τ : Type} {F : A1 → A2 → A3 → A4 → A5 → A6 → A7 → A8 → A9 → A10 → A11 → A12 → A13 → Option τ} {x1 : A1} {x2 : A2} {x3 : A3} {x4 : A4} {x5 : A5} {x6 : A6} {x7 : A7} {x8 : A8} {x9 : A9} {x10 : A10} {x11 : A11} {x12 : A12} {x13 : A13} : (some (x1, x2, x3, x4, x5, x6, x7, x8, x9, x10, x11, x12, x13)).bind (unc13 F) = F x1 x2 x3 x4 x5 x6 x7 x8 x9 x10 x11 x12 x13 := rfl
theorem ps14 {A1 A2 A3 A4 A5 A6 A7 A8 A9 A10 A11 A12 A13 A14 τ : Type} {F : A1 → A2 → A3 → A4 → A5 → A6 → A7 → A8 → A9 → A10 → A11 → A12 → A13 → A14 → Option τ} {x1 : A1} {x2 : A2} {x3 : A3} {x4 : A4} {x5 : A5} {x6 : A6} {x7 : A7} {x8 : A8} {x9 : A9} {x10 : A10} {x11 : A11} {x12 : A12} {x13 : A13} {x14 : A14} : (some (x1, x2, x3, x4, x5, x6, x7, x8, x9, x10, x11, x12, x13, x14)).bind (unc14 F) = F x1 x2 x3 x4 x5 x6 x7 x8 x9 x10 x11 x12 x13 x14 := rfl
theorem ps15 {A1 A2 A3 A4 A5 A6 A7 A8 A9 A10 A11 A12 A13 A14 A15 τ : Type} {F : A1 → A2 → A3 → A4 → A5 → A6 → A7 → A8 → A9 → A10 → A11 → A12 → A13 → A14 → A15 → Option τ} {x1 : A1} {x2 : A2} {x3 : A3} {x4 : A4} {x5 : A5} {x6 : A6} {x7 : A7} {x8 : A8} {x9 : A9} {x10 : A10} {x11 : A11} {x12 : A12} {x13 : A13} {x14 : A14} {x15 : A15} : (some (x1, x2, x3, x4, x5, x6, x7, x8, x9, x10, x11, x12, x13, x14, x15)).bind (unc15 F) = F x1 x2 x3 x4 x5 x6 x7 x8 x9 x10 x11 x12 x13 x14 x15 := rfl
theorem ps18 {A1 A2 A3 A4 A5 A6 A7 A8 A9 A10 A11 A12 A13 A14 A15 A16 A17 A18 τ : Type} {F : A1 → A2 → A3 → A4 → A5 → A6 → A7 → A8 → A9 → A10 → A11 → A12 → A13 → A14 → A15 → A16 → A17 → A18 → Option τ} {x1 : A1} {x2 : A2} {x3 : A3} {x4 : A4} {x5 : A5} {x6 : A6} {x7 : A7} {x8 : A8} {x9 : A9} {x10 : A10} {x11 : A11} {x12 : A12} {x13 : A13} {x14 : A14} {x15 : A15} {x16 : A16} {x17 : A17} {x18 : A18} : (some (x1, x2, x3, x4, x5, x6, x7, x8, x9, x10, x11, x12, x13, x14, x15, x16, x17, x18)).bind (unc18 F) = F x1 x2 x3 x4 x5 x6 x7 x8 x9 x10 x11 x12 x13 x14 x15 x16 x17 x18 := rfl
theorem ps19 {A1 A2 A3 A4 A5 A6 A7 A8 A9 A10 A11 A12 A13 A14 A15 A16 A17 A18 A19 τ : Type} {F : A1 → A2 → A3 → A4 → A5 → A6 → A7 → A8 → A9 → A10 → A11 → A12 → A13 → A14 → A15 → A16 → A17 → A18 → A19 → Option τ} {x1 : A1} {x2 : A2} {x3 : A3} {x4 : A4} {x5 : A5} {x6 : A6} {x7 : A7} {x8 : A8} {x9 : A9} {x10 : A10} {x11 : A11} {x12 : A12} {x13 : A13} {x14 : A14} {x15 : A15} {x16 : A16} {x17 : A17} {x18 : A18} {x19 : A19} : (some (x1, x2, x3, x4, x5, x6, x7, x8, x9, x10, x11, x12, x13, x14, x15, x16, x17, x18, x19)).bind (unc19 F) = F x1 x2 x3 x4 x5 x6 x7 x8 x9 x10 x11 x12 x13 x14 x15 x16 x17 x18 x19 := rfl
theorem ps24 {A1 A2 A3 A4 A5 A6 A7 A8 A9 A10 A11 A12 A13 A14 A15 A16 A17 A18 A19 A20 A21 A22 A23 A24 τ : Type} {F : A1 → A2 → A3 → A4 → A5 → A6 → A7 → A8 → A9 → A10 → A11 → A12 → A13 → A14 → A15 → A16 → A17 → A18 → A19 → A20 → A21 → A22 → A23 → A24 → Option τ} {x1 : A1} {x2 : A2} {x3 : A3} {x4 : A4} {x5 : A5} {x6 : A6} {x7 : A7} {x8 : A8} {x9 : A9} {x10 : A10} {x11 : A11} {x12 : A12} {x13 : A13} {x14 : A14} {x15 : A15} {x16 : A16} {x17 : A17} {x18 : A18} {x19 : A19} {x20 : A20} {x21 : A21} {x22 : A22} {x23 : A23} {x24 : A24} : (some (x1, x2, x3, x4, x5, x6, x7, x8, x9, x10, x11, x12, x13, x14, x15, x16, x17, x18, x19, x20, x21, x22, x23, x24)).bind (unc24 F) = F x1 x2 x3 x4 x5 x6 x7 x8 x9 x10 x11 x12 x13 x14 x15 x16 x17 x18 x19 x20 x21 x22 x23 x24 := rfl
theorem at_spec {s e n h w A : Int} (he : 0 ≤ e ∧ e ≤ 20000000) (hA : 0 ≤ A ∧ A ≤ 1073741824) : ((mGuardUnitSession s e n h w).bind fun x => if 0 < x then (mGuardUnitEnd s e n h w).bind fun y => (chk (y - A)).bind fun _ => some (max (y - A) 0) else some A) = some (if 0 < s then max (e - A) 0 else A) := by
  unfold mGuardUnitSession mGuardUnitEnd
  rw [Option.bind_some]
  by_cases c : 0 < s
  · rw [if_pos c, if_pos c, Option.bind_some, chk_ok (by omega) (by omega), Option.bind_some]
  · rw [if_neg c, if_neg c]
theorem test_bind {S L N H R k0 k1 k2 k3 s e n h w : Int} {asks : List GuardAsk} (hR : 0 < R → e ≤ R) : ((mGuardCentreReserved_2 S L N H R k0 k1 k2 k3 asks).bind fun x => if 0 < x then (mGuardUnitEnd s e n h w).bind fun y => (mGuardCentreReserved_2 S L N H R k0 k1 k2 k3 asks).bind fun z => some (decide (z < y)) else some false) = some false := test_ok hR
/-- A packet comes. -/
theorem comes_spec {k : Nat} (hk : k + 1 ≤ 1000) {t : St} (i : Inv k t) {m : Int} (im : Inv (k + 1) { t with now := m }) (a : Fishkeep1Act) (hkind : a.Kind = 5 ∨ a.Kind = 6 ∨ a.Kind = 8) (ha : 0 ≤ a.B) {p : GuardPacket} (hp : p ∈ t.sent) :
    ∃ (q : GuardPacket) (ok : Bool) (t' : St), mFishkeep1Comes_2 a p m t.s t.e t.n t.h t.w t.S t.L t.N t.H t.R t.k0 t.k1 t.k2 t.k3 t.bf t.asks = some (q.Kind, q.Session, q.No, q.Of, q.End, q.At, q.Speed, q.Sent, ok, t'.e, t'.n, t'.h, t'.w, t'.S, t'.L, t'.N, t'.H, t'.R, t'.k0, t'.k1, t'.k2, t'.k3, t'.bf, t'.asks) ∧
      t'.now = m ∧ t'.s = t.s ∧ t'.sent = t.sent ∧ Inv (k + 1) t' ∧ (ok = true → Inv (k + 1) { t' with sent := t.sent ++ [q] }) := by
  have hnw := im.nw
  have hn0 : 0 ≤ m := hnw.1
  have hn1 : m ≤ 1000000 := by have := hnw.2; simp only at this; omega
  have hl1 := i.len1
  have he0 := i.e0
  have hnn := i.n0
  have hpos := i.pos p hp
  have hall := i.all p hp
  unfold mFishkeep1Comes_2
  by_cases k5 : a.Kind = 5
  · obtain ⟨q, ok, e', n', h', w', e1, e2⟩ := hearU_spec p (now := m) (a := a.C) (c := a.B) (s := t.s) (e := t.e) (n := t.n) (h := t.h) (w := t.w) hn0 hn1 he0.1 he0.2 hnn.1 hnn.2
    rw [if_pos k5, e1]
    rcases e2 with ⟨rfl, rfl, rfl, rfl, rfl⟩ | ⟨ho, hs, hlt, rfl, hw', hn', hor⟩
    · exact ⟨q, false, { t with now := m }, rfl, rfl, rfl, rfl, im, fun h => by cases h⟩
    · have hw2 := hw'.symm
      subst hw2
      rcases hor with ⟨rfl, hor⟩ | ⟨rfl, hq1, hle, hq⟩
      · rcases hor with rfl | ⟨hk4, rfl⟩
        · refine ⟨q, false, { t with now := m, n := n', h := p.No, w := m }, rfl, rfl, rfl, rfl, ?_, fun h => by cases h⟩
          exact (im.less (e := t.e) (h := p.No) he0.1 (Int.le_refl _) (by simp only; omega)).count hn'
        · refine ⟨q, false, { t with now := m, e := max t.e p.End, n := n', h := p.No, w := m }, rfl, rfl, rfl, rfl, ?_, fun h => by cases h⟩
          exact (im.more (p := p) ho hp hk4 hs hlt).count hn'
      · have i2 : Inv (k + 1) { t with now := m, e := e', n := n', h := p.No, w := m } := (im.less (e := e') (h := p.No) hle.1 hle.2 (by simp only; omega)).count hn'
        refine ⟨q, true, { t with now := m, e := e', n := n', h := p.No, w := m }, rfl, rfl, rfl, rfl, i2, fun _ => ?_⟩
        rcases hq with hq8 | ⟨hq7, hqo, hqe, hpk⟩
        · exact i2.tell (q := q) (.inr (.inr hq8)) (by omega) (by simp only; omega) (by simp only; omega)
        · have := i.sess p hp (by omega)
          have := i.Ls
          exact i2.agree (q := q) hq7 hq1 hqe hqo (by simp only; omega) (by simp only; omega) (by simp only; omega)
  · rw [if_neg k5]
    obtain ⟨g, hg, hg2⟩ : ∃ g, (if a.Kind = 8 then (if 0 < (t.bf.length : Int) then some (decide (p.Kind ≠ 1)) else some false) else some false) = some g ∧ (g = true → 0 < t.bf.length ∧ p.Kind ≠ 1) := by
      by_cases c1 : a.Kind = 8
      · rw [if_pos c1]
        by_cases c2 : 0 < (t.bf.length : Int)
        · rw [if_pos c2]
          exact ⟨_, rfl, fun h => ⟨by omega, of_decide_eq_true h⟩⟩
        · rw [if_neg c2]; exact ⟨_, rfl, fun h => by cases h⟩
      · rw [if_neg c1]; exact ⟨_, rfl, fun h => by cases h⟩
    rw [hg, Option.bind_some]
    cases g with
    | true =>
      obtain ⟨c2, c3⟩ := hg2 rfl
      rw [if_pos rfl]
      have hne : ne0 (t.bf.length : Int) = some () := by
        unfold ne0
        rw [if_neg (by omega)]
      have hm : Int.tmod a.B (t.bf.length : Int) = ((a.B.toNat % t.bf.length : Nat) : Int) := by
        obtain ⟨b, hb⟩ : ∃ b : Nat, a.B = (b : Int) := ⟨a.B.toNat, by omega⟩
        rw [hb, Int.toNat_natCast]
        exact (Int.ofNat_tmod b t.bf.length).symm
      have hlt : a.B.toNat % t.bf.length < t.bf.length := Nat.mod_lt _ c2
      rw [hne, Option.bind_some, hm, idx_lt hlt, Option.bind_some]
      have hb := i.bfs _ (List.getElem_mem hlt)
      generalize hx : t.bf[a.B.toNat % t.bf.length] = b at hb ⊢
      rw [hear2_spec p hn0 hn1 c3 _ _ _ _ _ hb]
      refine ⟨p0, false, { t with now := m, bf := put t.bf ((a.B.toNat % t.bf.length : Nat) : Int) ⟨b.session, b.last, b.no, b.heard, b.reserved, b.asks, [b.known.getD 0 0, b.known.getD 1 0, b.known.getD 2 0, b.known.getD 3 0]⟩ }, rfl, rfl, rfl, rfl, ?_, fun h => by cases h⟩
      refine ⟨im.nw, im.e0, im.n0, im.s0, im.N0, im.LS, im.R0, im.eR, im.Ls, im.pos, im.all, im.hello, im.sess, im.grants, im.ofs, im.agrees, im.ends, im.none_, fun c hc => ?_, im.len1, im.len2, ?_⟩
      · simp only [put_nat] at hc
        rcases List.mem_or_eq_of_mem_set hc with hc | rfl
        · exact i.bfs c hc
        · exact hb
      · have := im.len3
        simp only [put_length]
        exact this
    | false =>
      rw [if_neg Bool.false_ne_true]
      obtain ⟨q, ok, S', L', N', H', R', k0', k1', k2', k3', asks', e1, e2⟩ := hearC_spec p (now := m) hn0 hn1 t.S t.L t.N t.H t.R t.k0 t.k1 t.k2 t.k3 t.asks (by have := i.len2; omega)
      rw [e1]
      rcases e2 with ⟨rfl, rfl, rfl, rfl, rfl, rfl⟩ | ⟨ho, hk1, hlt, rfl, hq1, hq2, rfl, rfl, rfl, rfl, rfl⟩ | ⟨ho, hk7, hs, hS, rfl, rfl, rfl, rfl, hA⟩
      · exact ⟨q, false, { t with now := m, H := H', k0 := k0', k1 := k1', k2 := k2', k3 := k3' }, rfl, rfl, rfl, rfl, im.known, fun h => by cases h⟩
      · have i2 := im.hears (p := p) hp hk1 hlt (by omega) (H := H') (k0 := k0') (k1 := k1') (k2 := k2') (k3 := k3')
        exact ⟨q, true, { t with now := m, S := p.Session, L := p.Session, N := 1, H := H', R := p.At, k0 := k0', k1 := k1', k2 := k2', k3 := k3', asks := [] }, rfl, rfl, rfl, rfl, i2, fun _ => i2.tell (q := q) (.inl hq1) (by omega) (by simp only; omega) (by simp only; omega)⟩
      · have i2 := im.agreed (p := p) hp hk7 hs hS hA (H := H') (k0 := k0') (k1 := k1') (k2 := k2') (k3 := k3')
        exact ⟨q, false, { t with now := m, R := R', asks := asks', H := H', k0 := k0', k1 := k1', k2 := k2', k3 := k3' }, rfl, rfl, rfl, rfl, i2, fun h => by cases h⟩

end Go.Proofs.YtbggpdpcndpaoaaDoor
