/- Plain: what holds throughout, act by act. -/
import Derived.Test.YtbggpdpcndpaoaaDoorZB
set_option linter.unusedVariables false
set_option linter.unusedSimpArgs false
namespace Go.Proofs.YtbggpdpcndpaoaaDoor
open Go.RowKit Go.Fp

/-- A unit, the centre that took over last, those before it, and all packets. -/
structure St where
  now : Int
  s : Int
  e : Int
  n : Int
  h : Int
  w : Int
  S : Int
  L : Int
  N : Int
  H : Int
  R : Int
  k0 : Int
  k1 : Int
  k2 : Int
  k3 : Int
  bf : List GuardCentre
  sent : List GuardPacket
  asks : List GuardAsk
structure Inv (k : Nat) (t : St) : Prop where
  nw : 0 ≤ t.now ∧ t.now ≤ 100 * (k : Int)
  e0 : 0 ≤ t.e ∧ t.e ≤ 20000000
  n0 : 0 ≤ t.n ∧ t.n ≤ 1000000
  s0 : 0 ≤ t.s
  N0 : 0 ≤ t.N ∧ t.N ≤ 1000000 + 2000 * (k : Int)
  LS : t.L = t.S ∧ 0 ≤ t.S
  R0 : t.S = 0 → t.R = 0
  eR : t.S ≠ 0 → t.e ≤ t.R
  Ls : t.S ≤ t.s
  pos : ∀ p ∈ t.sent, 1 ≤ p.Session
  all : ∀ p ∈ t.sent, p.Session ≤ t.s
  hello : ∀ p ∈ t.sent, p.Kind = 1 → t.S < p.Session → t.e ≤ p.At
  sess : ∀ p ∈ t.sent, (p.Kind = 4 ∨ p.Kind = 5 ∨ p.Kind = 6 ∨ p.Kind = 7) → p.Session ≤ t.S
  grants : ∀ p ∈ t.sent, p.Kind = 4 → p.Session = t.S → ∃ a ∈ t.asks, a.grant = true ∧ a.no = p.No ∧ a.end_ = p.End
  ofs : ∀ p ∈ t.sent, p.Kind = 7 → p.Session = t.s → p.Of ≤ t.h
  agrees : t.S ≠ 0 → ∀ p ∈ t.sent, p.Kind = 7 → p.Session = t.S → t.e ≤ p.End ∨ ∃ a ∈ t.asks, a.grant = true ∧ p.Of < a.no ∧ t.e ≤ a.end_
  ends : t.S ≠ 0 → t.s = t.S → ∀ a ∈ t.asks, a.grant = true → t.h < a.no → a.end_ ≤ t.R
  none_ : t.s = 0 → t.sent = []
  bfs : ∀ b ∈ t.bf, b.session = 0
  len1 : t.sent.length ≤ k
  len2 : t.asks.length ≤ k
  len3 : t.bf.length ≤ k
/-- It answers true: no more than what is reserved, if anything is. -/
theorem Inv.safe {k : Nat} {t : St} (i : Inv k t) (h : 0 < t.R) : t.e ≤ t.R := by
  by_cases hS : t.S = 0
  · have := i.R0 hS; omega
  · exact i.eR hS
/-- Time goes on. -/
theorem Inv.wait {k : Nat} {t : St} (i : Inv k t) {d : Int} (h0 : 0 ≤ d) (h1 : d ≤ 100) : Inv (k + 1) { t with now := t.now + d } where
  nw := by have := i.nw; simp only; omega
  e0 := i.e0
  n0 := i.n0
  s0 := i.s0
  N0 := by have := i.N0; simp only; omega
  LS := i.LS
  R0 := i.R0
  eR := i.eR
  Ls := i.Ls
  pos := i.pos
  all := i.all
  hello := i.hello
  sess := i.sess
  grants := i.grants
  ofs := i.ofs
  agrees := i.agrees
  ends := i.ends
  none_ := i.none_
  bfs := i.bfs
  len1 := by have := i.len1; simp only; omega
  len2 := by have := i.len2; simp only; omega
  len3 := by have := i.len3; simp only; omega
theorem mem_snoc {α : Type} {l : List α} {a x : α} (h : x ∈ l ++ [a]) : x ∈ l ∨ x = a := by simpa using h
/-- The unit begins a session. -/
theorem Inv.begin {k : Nat} {t : St} {m : Int} (i : Inv k t) (ht : Inv (k + 1) { t with now := m }) {at_ A : Int} (hA : 0 ≤ A) (ha : at_ = if 0 < t.s then max (t.e - A) 0 else A) (h1 : 0 ≤ at_) (h2 : at_ ≤ 20000000) :
    Inv (k + 1) { t with now := m, s := t.s + 1, e := at_, n := 1, h := 0, w := m, sent := t.sent ++ [⟨1, t.s + 1, 1, 0, 0, at_, 0, m⟩] } := by
  have hle : 0 < t.s → at_ ≤ t.e := fun h => by rw [if_pos h] at ha; have := i.e0; omega
  have hin : t.sent ≠ [] → 0 < t.s := fun h => by
    have := i.s0
    by_cases h0 : t.s = 0
    · exact absurd (i.none_ h0) h
    · omega
  have hmem : ∀ p ∈ t.sent, 0 < t.s := fun p hp => hin (fun h => by rw [h] at hp; simp at hp)
  have hS0 := i.LS.2
  have hSs := i.Ls
  have hs0 := i.s0
  refine ⟨ht.nw, ⟨h1, h2⟩, ⟨(by decide : (0 : Int) ≤ 1), (by decide : (1 : Int) ≤ 1000000)⟩, by simp only; omega, ht.N0, i.LS, i.R0, fun h => ?_, by simp only; omega, fun p hp => ?_, fun p hp => ?_, fun p hp hk hlt => ?_, fun p hp hk => ?_, fun p hp hk he => ?_, fun p hp hk he => ?_, fun h p hp hk he => ?_, fun h he => ?_, fun h => ?_, i.bfs, ?_, ht.len2, ht.len3⟩
  · simp only at h ⊢
    have := i.eR h
    have := hle (by omega)
    omega
  · rcases mem_snoc hp with hp | rfl
    · exact i.pos p hp
    · simp only; omega
  · rcases mem_snoc hp with hp | rfl
    · have := i.all p hp; simp only; omega
    · simp only; omega
  · rcases mem_snoc hp with hp | rfl
    · have := i.hello p hp hk hlt
      have := hle (hmem p hp)
      simp only
      omega
    · exact Int.le_refl _
  · rcases mem_snoc hp with hp | rfl
    · exact i.sess p hp hk
    · simp only at hk; omega
  · rcases mem_snoc hp with hp | rfl
    · exact i.grants p hp hk he
    · simp only at hk; omega
  · rcases mem_snoc hp with hp | rfl
    · have := i.all p hp; simp only at he; omega
    · simp only at hk; omega
  · rcases mem_snoc hp with hp | rfl
    · have hl := hle (hmem p hp)
      rcases i.agrees h p hp hk he with h3 | ⟨a, ha1, ha2, ha3, ha4⟩
      · exact .inl (by simp only; omega)
      · exact .inr ⟨a, ha1, ha2, ha3, by simp only; omega⟩
    · simp only at hk; omega
  · simp only at he; omega
  · simp only at h; omega
  · have := i.len1
    simp only [List.length_append, List.length_singleton]
    omega
/-- A packet that says nothing of importance. -/
theorem Inv.tell {k : Nat} {t : St} (i : Inv k t) {q : GuardPacket} (hk : q.Kind = 2 ∨ q.Kind = 3 ∨ q.Kind = 8) (h1 : 1 ≤ q.Session) (h2 : q.Session ≤ t.s) (hl : t.sent.length + 1 ≤ k) : Inv k { t with sent := t.sent ++ [q] } := by
  refine ⟨i.nw, i.e0, i.n0, i.s0, i.N0, i.LS, i.R0, i.eR, i.Ls, fun p hp => ?_, fun p hp => ?_, fun p hp hk' hlt => ?_, fun p hp hk' => ?_, fun p hp hk' he => ?_, fun p hp hk' he => ?_, fun h p hp hk' he => ?_, i.ends, fun h => ?_, i.bfs, ?_, i.len2, i.len3⟩
  · rcases mem_snoc hp with hp | rfl
    · exact i.pos p hp
    · exact h1
  · rcases mem_snoc hp with hp | rfl
    · exact i.all p hp
    · exact h2
  · rcases mem_snoc hp with hp | rfl
    · exact i.hello p hp hk' hlt
    · omega
  · rcases mem_snoc hp with hp | rfl
    · exact i.sess p hp hk'
    · omega
  · rcases mem_snoc hp with hp | rfl
    · exact i.grants p hp hk' he
    · omega
  · rcases mem_snoc hp with hp | rfl
    · exact i.ofs p hp hk' he
    · omega
  · rcases mem_snoc hp with hp | rfl
    · exact i.agrees h p hp hk' he
    · omega
  · simp only at h; omega
  · simp only [List.length_append, List.length_singleton]
    omega
/-- The unit's own numbers. -/
theorem Inv.count {k : Nat} {t : St} (i : Inv k t) {n w : Int} (h : 0 ≤ n ∧ n ≤ 1000000) : Inv k { t with n := n, w := w } :=
  ⟨i.nw, i.e0, h, i.s0, i.N0, i.LS, i.R0, i.eR, i.Ls, i.pos, i.all, i.hello, i.sess, i.grants, i.ofs, i.agrees, i.ends, i.none_, i.bfs, i.len1, i.len2, i.len3⟩
/-- The unit hears a packet of its session: it may run less far than before. -/
theorem Inv.less {k : Nat} {t : St} (i : Inv k t) {e h : Int} (he0 : 0 ≤ e) (he : e ≤ t.e) (hh : t.h ≤ h) : Inv k { t with e := e, h := h } := by
  have h0 := i.e0
  refine ⟨i.nw, ⟨he0, by simp only; omega⟩, i.n0, i.s0, i.N0, i.LS, i.R0, fun hS => ?_, i.Ls, i.pos, i.all, fun p hp hk hlt => ?_, i.sess, i.grants, fun p hp hk hs => ?_, fun hS p hp hk hs => ?_, fun hS hs a ha hg hn => ?_, i.none_, i.bfs, i.len1, i.len2, i.len3⟩
  · have := i.eR hS; simp only; omega
  · have := i.hello p hp hk hlt; simp only; omega
  · have := i.ofs p hp hk hs; simp only; omega
  · rcases i.agrees hS p hp hk hs with h3 | ⟨a, h1, h2, h3, h4⟩
    · exact .inl (by simp only; omega)
    · exact .inr ⟨a, h1, h2, h3, by simp only; omega⟩
  · simp only at hn
    exact i.ends hS hs a ha hg (by omega)
/-- The unit hears a grant. -/
theorem Inv.more {k : Nat} {t : St} (i : Inv k t) {p : GuardPacket} (ho : POk p) (hp : p ∈ t.sent) (hk : p.Kind = 4) (hs : p.Session = t.s) (hn : t.h < p.No) : Inv k { t with e := max t.e p.End, h := p.No } := by
  have hpos := i.pos p hp
  have hle := i.sess p hp (.inl hk)
  have hSs := i.Ls
  have hSS : t.s = t.S := by omega
  have hS : t.S ≠ 0 := by omega
  obtain ⟨a, ha, hg, hno, hend⟩ := i.grants p hp hk (by omega)
  have hR := i.ends hS hSS a ha hg (by omega)
  have h0 := i.e0
  have hb := ho.end_
  refine ⟨i.nw, ⟨by simp only; omega, by simp only; omega⟩, i.n0, i.s0, i.N0, i.LS, i.R0, fun _ => ?_, i.Ls, i.pos, i.all, fun q hq hqk hlt => ?_, i.sess, i.grants, fun q hq hqk hqs => ?_, fun _ q hq hqk hqs => ?_, fun _ _ b hb hbg hbn => ?_, i.none_, i.bfs, i.len1, i.len2, i.len3⟩
  · have := i.eR hS; simp only; omega
  · have := i.all q hq
    simp only at hlt
    omega
  · have := i.ofs q hq hqk hqs
    simp only
    omega
  · have hof := i.ofs q hq hqk (by simp only at hqs; omega)
    rcases i.agrees hS q hq hqk hqs with h3 | ⟨b, b1, b2, b3, b4⟩
    · by_cases hm : p.End ≤ q.End
      · exact .inl (by simp only; omega)
      · exact .inr ⟨a, ha, hg, by omega, by simp only; omega⟩
    · by_cases hm : p.End ≤ b.end_
      · exact .inr ⟨b, b1, b2, b3, by simp only; omega⟩
      · exact .inr ⟨a, ha, hg, by omega, by simp only; omega⟩
  · simp only at hbn
    exact i.ends hS hSS b hb hbg (by omega)
/-- The unit agrees. -/
theorem Inv.agree {k : Nat} {t : St} (i : Inv k t) {q : GuardPacket} (hk : q.Kind = 7) (hs : q.Session = t.s) (he : q.End = t.e) (hof : q.Of = t.h) (hS : t.s = t.S) (hpos : 1 ≤ t.s) (hl : t.sent.length + 1 ≤ k) : Inv k { t with sent := t.sent ++ [q] } := by
  refine ⟨i.nw, i.e0, i.n0, i.s0, i.N0, i.LS, i.R0, i.eR, i.Ls, fun p hp => ?_, fun p hp => ?_, fun p hp hk' hlt => ?_, fun p hp hk' => ?_, fun p hp hk' he' => ?_, fun p hp hk' he' => ?_, fun h p hp hk' he' => ?_, i.ends, fun h => ?_, i.bfs, ?_, i.len2, i.len3⟩
  · rcases mem_snoc hp with hp | rfl
    · exact i.pos p hp
    · omega
  · rcases mem_snoc hp with hp | rfl
    · exact i.all p hp
    · simp only; omega
  · rcases mem_snoc hp with hp | rfl
    · exact i.hello p hp hk' hlt
    · omega
  · rcases mem_snoc hp with hp | rfl
    · exact i.sess p hp hk'
    · simp only; omega
  · rcases mem_snoc hp with hp | rfl
    · exact i.grants p hp hk' he'
    · omega
  · rcases mem_snoc hp with hp | rfl
    · exact i.ofs p hp hk' he'
    · simp only; omega
  · rcases mem_snoc hp with hp | rfl
    · exact i.agrees h p hp hk' he'
    · exact .inl (by simp only; omega)
  · simp only at h; omega
  · simp only [List.length_append, List.length_singleton]
    omega
/-- The centre asks or grants. -/
theorem Inv.ask {k : Nat} {t : St} (i : Inv k t) {q : GuardPacket} {end_ R N : Int} (hk : q.Kind = 4 ∨ q.Kind = 5 ∨ q.Kind = 6) (hS : t.S ≠ 0) (hs : q.Session = t.S) (hno : q.No = N) (he : q.End = end_) (hR : t.R ≤ R) (hR2 : q.Kind = 4 → end_ ≤ R) (hN : 0 ≤ N ∧ N ≤ 1000001) (hl : t.sent.length + 1 ≤ k) (hl2 : t.asks.length + 1 ≤ k) :
    Inv k { t with N := N, R := R, sent := t.sent ++ [q], asks := t.asks ++ [⟨N, end_, decide (q.Kind = 4)⟩] } := by
  have hS0 := i.LS.2
  have hSs := i.Ls
  have hk0 : 1 ≤ k := by omega
  refine ⟨i.nw, i.e0, i.n0, i.s0, ⟨hN.1, by simp only; omega⟩, i.LS, fun h => absurd h hS, fun _ => ?_, i.Ls, fun p hp => ?_, fun p hp => ?_, fun p hp hk' hlt => ?_, fun p hp hk' => ?_, fun p hp hk' he' => ?_, fun p hp hk' he' => ?_, fun h p hp hk' he' => ?_, fun h hs' a ha hg hn => ?_, fun h => ?_, i.bfs, ?_, ?_, i.len3⟩
  · have := i.eR hS; simp only; omega
  · rcases mem_snoc hp with hp | rfl
    · exact i.pos p hp
    · omega
  · rcases mem_snoc hp with hp | rfl
    · exact i.all p hp
    · simp only; omega
  · rcases mem_snoc hp with hp | rfl
    · exact i.hello p hp hk' hlt
    · omega
  · rcases mem_snoc hp with hp | rfl
    · exact i.sess p hp hk'
    · simp only; omega
  · rcases mem_snoc hp with hp | rfl
    · obtain ⟨a, h1, h2⟩ := i.grants p hp hk' he'
      exact ⟨a, List.mem_append_left _ h1, h2⟩
    · exact ⟨⟨N, end_, decide (p.Kind = 4)⟩, by simp, decide_eq_true hk', hno.symm, he.symm⟩
  · rcases mem_snoc hp with hp | rfl
    · exact i.ofs p hp hk' he'
    · omega
  · rcases mem_snoc hp with hp | rfl
    · rcases i.agrees h p hp hk' he' with h3 | ⟨a, h1, h2⟩
      · exact .inl h3
      · exact .inr ⟨a, List.mem_append_left _ h1, h2⟩
    · omega
  · rcases mem_snoc ha with ha | rfl
    · have := i.ends hS hs' a ha hg hn
      simp only; omega
    · exact hR2 (of_decide_eq_true hg)
  · simp only at h; omega
  · simp only [List.length_append, List.length_singleton]; omega
  · simp only [List.length_append, List.length_singleton]; omega
/-- The centre hears a Hello of a newer session. -/
theorem Inv.hears {k : Nat} {t : St} (i : Inv k t) {p : GuardPacket} (hp : p ∈ t.sent) (hk : p.Kind = 1) (hlt : t.L < p.Session) (hk1 : 1 ≤ k) {H k0 k1 k2 k3 : Int} : Inv k { t with S := p.Session, L := p.Session, N := 1, H := H, R := p.At, k0 := k0, k1 := k1, k2 := k2, k3 := k3, asks := [] } := by
  have hpos := i.pos p hp
  have hall := i.all p hp
  have hL := i.LS.1
  refine ⟨i.nw, i.e0, i.n0, i.s0, ⟨by simp only; omega, by simp only; omega⟩, ⟨rfl, by simp only; omega⟩, fun h => ?_, fun _ => i.hello p hp hk (by omega), hall, i.pos, i.all, fun q hq hqk hql => i.hello q hq hqk (by simp only at hql; omega), fun q hq hqk => ?_, fun q hq hqk hqs => ?_, i.ofs, fun _ q hq hqk hqs => ?_, fun _ _ a ha => ?_, i.none_, i.bfs, i.len1, by simp, i.len3⟩
  · simp only at h; omega
  · have := i.sess q hq hqk; simp only; omega
  · have := i.sess q hq (.inl hqk); simp only at hqs; omega
  · have := i.sess q hq (.inr (.inr (.inr hqk))); simp only at hqs; omega
  · simp at ha
/-- The centre hears that the unit agrees. -/
theorem Inv.agreed {k : Nat} {t : St} (i : Inv k t) {p : GuardPacket} (hp : p ∈ t.sent) (hk : p.Kind = 7) (hs : p.Session = t.S) (hS : t.S ≠ 0) {R : Int} {asks : List GuardAsk} (ha : Agreed p t.asks R asks) {H k0 k1 k2 k3 : Int} : Inv k { t with R := R, asks := asks, H := H, k0 := k0, k1 := k1, k2 := k2, k3 := k3 } := by
  refine ⟨i.nw, i.e0, i.n0, i.s0, i.N0, i.LS, fun h => absurd h hS, fun _ => ?_, i.Ls, i.pos, i.all, i.hello, i.sess, fun q hq hqk hqs => ?_, i.ofs, fun _ q hq hqk hqs => ?_, fun _ hs' a ha' hg hn => ?_, i.none_, i.bfs, i.len1, Nat.le_trans ha.len i.len2, i.len3⟩
  · rcases i.agrees hS p hp hk hs with h3 | ⟨a, h1, h2, h3, h4⟩
    · have := ha.end_; simp only; omega
    · have := ha.later a h1 h2 h3; simp only; omega
  · obtain ⟨a, h1, h2, h3⟩ := i.grants q hq hqk hqs
    exact ⟨a, ha.keep a h1 h2, h2, h3⟩
  · rcases i.agrees hS q hq hqk hqs with h3 | ⟨a, h1, h2, h3⟩
    · exact .inl h3
    · exact .inr ⟨a, ha.keep a h1 h2, h2, h3⟩
  · have hof := i.ofs p hp hk (by simp only at hs'; omega)
    exact ha.later a (ha.old a ha') hg (by simp only at hn; omega)
/-- What a centre knows of its train. -/
theorem Inv.known {k : Nat} {t : St} (i : Inv k t) {H k0 k1 k2 k3 : Int} : Inv k { t with H := H, k0 := k0, k1 := k1, k2 := k2, k3 := k3 } :=
  ⟨i.nw, i.e0, i.n0, i.s0, i.N0, i.LS, i.R0, i.eR, i.Ls, i.pos, i.all, i.hello, i.sess, i.grants, i.ofs, i.agrees, i.ends, i.none_, i.bfs, i.len1, i.len2, i.len3⟩
/-- Another centre takes over. -/
theorem Inv.hand {k : Nat} {t : St} {m : Int} (i : Inv k t) (ht : Inv (k + 1) { t with now := m }) {N : Int} (hN : N = t.N ∨ N = t.N + 1000) {b : GuardCentre} (hb : b.session = 0) : Inv (k + 1) { t with now := m, N := N, bf := t.bf ++ [b] } := by
  have hN0 := i.N0
  have hl := i.len3
  refine ⟨ht.nw, ht.e0, ht.n0, ht.s0, ⟨by simp only; omega, by simp only; omega⟩, ht.LS, ht.R0, ht.eR, ht.Ls, ht.pos, ht.all, ht.hello, ht.sess, ht.grants, ht.ofs, ht.agrees, ht.ends, ht.none_, fun c hc => ?_, ht.len1, ht.len2, ?_⟩
  · rcases mem_snoc hc with hc | rfl
    · exact ht.bfs c hc
    · exact hb
  · simp only [List.length_append, List.length_singleton]
    omega
end Go.Proofs.YtbggpdpcndpaoaaDoor
