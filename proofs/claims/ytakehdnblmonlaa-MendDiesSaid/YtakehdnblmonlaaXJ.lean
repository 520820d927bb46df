/- Extraction: append to a slice whose caller goes on using it. -/
import Derived.Test.YtakehdnblmonlaaXG
set_option linter.unusedVariables false
namespace Go.Fp
open Go.RowKit

section
variable {P : Program} {ty : TypeId} {w0 : Base}
/-- As 'run_append_seg', and the old slice is still there: in the same block, or in its own. -/
theorem run_append_keep {t el sz by_ : Nat} {inf : TypeInfo} {z : Value} (ht : P.underlying t = some (.slice el)) (hi : P.info? el = some inf) (hz : inf.zero = some z) (hsz : inf.size = sz) (hby : inf.bytes = by_) (hzs : z.cells.size = sz) (hpos : 0 < sz)
    {v : Value} {m : Nat} {xs : List Value} {hs R : Hp} (hseg : Seg el sz v m xs hs) {w : World} (ho : Own w0 (hs ++ R) w) {A : Option Addr} {k c : Nat} {news : List Value} (hk : 0 < k) (hl : news.length = k * sz) (hrd : Rd w A news) (h1 : ∀ u ∈ news, u.oneCell' = true)
    (hmax : m + k ≤ 9223372036854775807) (hbytes : (m + k) * by_ ≤ 140737488355328) :
    ∃ v' w' hs' hq, (Builtin.append_ #[t, t] ty #[v, .slice A k c]).run P w = .ok v' w' ∧ Own w0 (hs' ++ (hq ++ R)) w' ∧ Seg el sz v' (m + k) (xs ++ news) hs' ∧ (hq = hs ∨ hq = [] ∧ ∃ A' c', v = .slice A' m c' ∧ v' = .slice A' (m + k) c') := by
  subst hsz
  subst hby
  have hA : ∃ p, A = some p := by
    cases hA : A with
    | some p => exact ⟨p, rfl⟩
    | none =>
      have hlt : 0 < news.length := by rw [hl]; exact Nat.mul_pos hk hpos
      have := hrd 0 news[0] (List.getElem?_eq_getElem hlt)
      rw [hA] at this
      simp [cellO] at this
  obtain ⟨p, rfl⟩ := hA
  have hnews : ∀ j u, news[j]? = some u → w.cell? (p.add j) = some u := hrd
  have hcap : ∀ need old, need ≤ 9223372036854775807 → grownCap w need old el ≤ maxLen := fun need old h => grownCap_le_maxLen w need old el (by simpa [maxLen] using h)
  have fin : ∀ (need old : Nat), need = m + k → (xs ++ news).length = need * inf.size →
      ∃ hs', Own w0 (hs' ++ (hs ++ R)) (w.drew.alloc (.cells ((xs ++ news).toArray ++ Builtin.zeroCells z.cells (grownCap w need old el - need)) el)) ∧
        Seg el inf.size (.slice (some ⟨w.heap.size, 0, none⟩) need (grownCap w need old el)) (m + k) (xs ++ news) hs' := by
    intro need old hneed hlen
    subst hneed
    have hge := grownCap_ge w (m + k) old el
    have ho1 := ho.drew.alloc (Cl el ((xs ++ news) ++ (Builtin.zeroCells z.cells (grownCap w (m + k) old el - (m + k))).toList))
    refine ⟨[(w.heap.size, Cl el ((xs ++ news) ++ (Builtin.zeroCells z.cells (grownCap w (m + k) old el - (m + k))).toList))], ?_, .inr ⟨w.heap.size, _, [], (Builtin.zeroCells z.cells (grownCap w (m + k) old el - (m + k))).toList, rfl, rfl, hlen, ?_, hge, hcap _ _ hmax⟩⟩
    · have harr : ((xs ++ news) ++ (Builtin.zeroCells z.cells (grownCap w (m + k) old el - (m + k))).toList).toArray = (xs ++ news).toArray ++ Builtin.zeroCells z.cells (grownCap w (m + k) old el - (m + k)) := by simp
      simp only [Cl, harr] at ho1 ⊢
      exact ho1
    · rw [List.length_append, hlen, zeroCells_length, hzs, ← Nat.add_mul]
      congr 1
      omega
  rcases hseg with ⟨A', rfl, rfl, rfl, rfl⟩ | ⟨g, cap, pr, tl, rfl, rfl, hxl, hcl, hmc, hcm⟩
  · cases A' with
    | none =>
      have hr := run_append_nil (P := P) w t ty el inf z ht hi hz p k c news hl hnews hk (by omega) (by simp only [Nat.zero_add] at hbytes; omega)
      obtain ⟨hs', h2, h3⟩ := fin k 0 (by omega) (by simpa using hl)
      exact ⟨_, _, hs', [], hr, by simpa using h2, by simpa using h3, .inl rfl⟩
    | some b =>
      have hr := run_append_grow (P := P) w t ty el inf z ht hi hz b 0 0 [] (by simp) (fun j u hu => by simp at hu) p k c news hl hnews (by omega) (by omega) (growslice_fits (by omega) (by simpa using hbytes))
      obtain ⟨hs', h2, h3⟩ := fin (0 + k) 0 rfl (by simpa using hl)
      exact ⟨_, _, hs', [], hr, by simpa using h2, by simpa using h3, .inl rfl⟩
  · have hgm : ((g, Cl el (pr ++ xs ++ tl)) : Nat × Obj) ∈ [(g, Cl el (pr ++ xs ++ tl))] ++ R := by simp
    have hb := (ho.blk g _ hgm).2
    have hlen : (xs ++ news).length = (m + k) * inf.size := by rw [List.length_append, hxl, hl, Nat.add_mul]
    by_cases hroom : m + k ≤ cap
    · have hmul := Nat.mul_le_mul_right inf.size hroom
      have hfit : pr.length + m * inf.size + news.length ≤ (pr ++ xs ++ tl).toArray.size := by
        rw [List.size_toArray, List.append_assoc, List.length_append, hcl, hl, Nat.add_assoc, ← Nat.add_mul]
        exact Nat.add_le_add_left hmul _
      have hr := run_append_room' (P := P) w t ty el inf ht hi g pr.length m cap (pr ++ xs ++ tl).toArray hb p k c news hl hnews h1 hroom hfit
      have e1 : (pr ++ xs ++ tl).take (pr.length + m * inf.size) = pr ++ xs := by rw [← hxl, ← List.length_append]; exact List.take_left
      have e2 : (pr ++ xs ++ tl).drop (pr.length + m * inf.size + news.length) = tl.drop news.length := by
        rw [← hxl, ← List.length_append, ← List.drop_drop, List.drop_left]
      simp only [e1, e2] at hr
      have ho2 := ho.row (i := 0) (g := g) (t := el) (cs := pr ++ xs ++ tl) rfl (pr ++ xs ++ news ++ tl.drop news.length)
      refine ⟨_, _, [(g, Cl el (pr ++ (xs ++ news) ++ tl.drop news.length))], [], hr, by simpa using ho2, .inr ⟨g, cap, pr, tl.drop news.length, rfl, rfl, hlen, ?_, hroom, hcm⟩, .inr ⟨rfl, _, _, rfl, rfl⟩⟩
      simp only [List.length_append] at hcl hlen ⊢
      rw [List.length_drop]
      rw [Nat.add_mul] at hmul
      omega
    · have holds : ∀ j u, xs[j]? = some u → w.cell? ((⟨g, pr.length, none⟩ : Addr).add j) = some u := by
        intro j u hu
        have hj : j < xs.length := (List.getElem?_eq_some_iff.1 hu).1
        simp only [Addr.add_lit, World.cell?, hb]
        simp only [Option.isSome_none, Bool.false_eq_true, if_false, List.getElem?_toArray]
        rw [List.append_assoc, List.getElem?_append_right (by omega), Nat.add_sub_cancel_left, List.getElem?_append_left hj]
        exact hu
      have hr := run_append_grow (P := P) w t ty el inf z ht hi hz ⟨g, pr.length, none⟩ m cap xs hxl holds p k c news hl hnews (by omega) (by omega) (growslice_fits (by omega) hbytes)
      obtain ⟨hs', h2, h3⟩ := fin (m + k) cap rfl hlen
      exact ⟨_, _, hs', _, hr, by simpa using h2, h3, .inl rfl⟩
end
theorem sub_back {q a b : Hp} {R : Hp} (h : q.Sublist (a ++ b)) : (q ++ R).Sublist (a ++ (b ++ R)) := by
  rw [← List.append_assoc]
  exact h.append (.refl R)
/-- Where the slice 'v' stands, while the longer 'v'' is in use. -/
def KeepB {α : Type} (el : TypeId) (r : RT α) (w : World) (v : Value) (l : List α) (v' : Value) (hq : Hp) : Prop :=
  OS el (OT.fr r) w v l hq ∨ hq = [] ∧ ∃ A c n, v = .slice A l.length c ∧ v' = .slice A n c ∧ l.length ≤ n
section
variable {α : Type} {el : TypeId} {r : RT α} {b : Base} {v v' : Value} {l : List α} {hs hq : Hp}
theorem KeepB.le {b' : Base} (h : KeepB el r b.w v l v' hq) (hle : b.Le b') : KeepB el r b'.w v l v' hq := by
  rcases h with h | h
  · exact .inl (h.le hle)
  · exact .inr h
theorem Seg.cut {sz m : Nat} {A : Option Addr} {c : Nat} {xs ys : List Value} {n : Nat} (h : Seg el sz (.slice A n c) n (xs ++ ys) hs) (hx : xs.length = m * sz) (hm : m ≤ n) : Seg el sz (.slice A m c) m xs hs := by
  rcases h with ⟨A', hv, hn, hxs, hh⟩ | ⟨g, cap, pr, tl, hv, hh, hl, hc, hmc, hcm⟩
  · injection hv with e1 e2 e3
    subst hn
    obtain rfl : m = 0 := by omega
    have : xs = [] := (List.append_eq_nil_iff.1 hxs).1
    exact .inl ⟨A, by rw [e3], rfl, this, hh⟩
  · injection hv with e1 e2 e3
    refine .inr ⟨g, cap, pr, ys ++ tl, by rw [e1, e3], by rw [hh]; simp, hx, ?_, by omega, hcm⟩
    rw [← List.append_assoc]
    exact hc
/-- The longer one is done with: the old one is there again. -/
theorem KeepB.back {A : Option Addr} {c : Nat} {l' : List α} (h : KeepB el r b.w v l v' hq) (hv : v' = .slice A l'.length c) (h2 : OS el (OT.fr r) b.w (.slice A l'.length c) l' hs) (he : l'.take l.length = l) :
    ∃ q, q.Sublist (hs ++ hq) ∧ OS el (OT.fr r) b.w v l q := by
  rcases h with h | ⟨rfl, A1, c1, n, rfl, hv1, hn⟩
  · exact ⟨hq, List.sublist_append_right _ _, h⟩
  · rw [hv] at hv1
    injection hv1 with e1 e2 e3
    subst e1; subst e2; subst e3
    obtain ⟨css, hss, hq, q1, q2, q3⟩ := h2
    obtain ⟨q4, q5⟩ := all3_fr q2
    have hsq : hs = hq := by rw [q3, q5, List.append_nil]
    subst hsq
    have hcl := q2.len.1
    have h4 : All2 (r.rep b.w) (css.take l.length) l := by
      have h3 := q2.take l.length
      rw [he] at h3
      exact (all3_fr h3).1
    refine ⟨hs, by simp, css.take l.length, List.replicate l.length [], hs, ?_, all3_of2 h4, by simp⟩
    have h5 : css.flatten = (css.take l.length).flatten ++ (css.drop l.length).flatten := by rw [← List.flatten_append, List.take_append_drop]
    rw [h5] at q1
    exact Seg.cut q1 (flat_len h4) hn
variable {P : Program} {n : NT} {e : Env} {hp : Hp} {ty : TypeId}
/-- append to a slice that is used again. -/
theorem u_appK (F R : Hp) {s x : Operand} {t sz by_ : Nat} {zv : Value} {B : Option Addr} {k d : Nat} (css' : List (List Value)) (m : List α) (hsz : r.sz = sz) (hpos : 0 < sz) (hsl : slT P t el sz = true) (hinf : (P.info? el).map (fun i => (i.zero, i.size, i.bytes)) = some (some zv, sz, by_)) (hzs : zv.cells.size = sz)
    (hx : val e s = some v) (hy : val e x = some (.slice B k d)) (hk : k = m.length) (hk0 : 0 < k) (h : OS el (OT.fr r) b.w v l hs) (hhp : hp = F ++ (hs ++ R)) (hrd : ∀ w, Own b hp w → Rd w B css'.flatten) (hall : All2 (r.rep b.w) css' m) (hroom : (l.length + k) * by_ ≤ 140737488355328 ∧ l.length + k ≤ 9223372036854775807) :
    Does P n b (.call { callee := .builtin .append, args := #[s, x], argTypes := #[t, t] }) ty e hp (fun v' hp' => ∃ hs' hq, hp' = F ++ (hs' ++ (hq ++ R)) ∧ OS el (OT.fr r) b.w v' (l ++ m) hs' ∧ KeepB el r b.w v l v' hq) := does_of fun a w hf ho => by
  subst hsz
  subst hk
  have hos := h
  obtain ⟨css, hss, hq, q1, q2, q3⟩ := h
  obtain ⟨q4, q5⟩ := all3_fr q2
  have hq' : hs = hq := by rw [q3, q5, List.append_nil]
  subst hq'
  obtain ⟨ht, _⟩ := slT_spec hsl
  cases hi : P.info? el with
  | none => simp [hi] at hinf
  | some inf =>
    simp only [hi, Option.map_some, Option.some.injEq, Prod.mk.injEq] at hinf
    have hperm : ∀ q : Hp, (q ++ (F ++ R)).Perm (F ++ (q ++ R)) := fun q => by
      rw [← List.append_assoc, ← List.append_assoc]
      exact List.Perm.append_right R List.perm_append_comm
    have ho0 : Own b (hs ++ (F ++ R)) w := by rw [hhp] at ho; exact ho.perm (hperm hs)
    obtain ⟨v', w', hs', hq, hrun, ho', hseg, hkeep⟩ := run_append_keep (P := P) (ty := ty) ht hi hinf.1 hinf.2.1 hinf.2.2 hzs hpos q1 ho0 (A := B) (c := d) hk0 (flat_len hall) (hrd w ho) (flat_one hall) hroom.2 hroom.1
    refine ⟨v', w', F ++ (hs' ++ (hq ++ R)), fun d pos af g => ?_, ?_, hs', hq, rfl, ⟨css ++ css', List.replicate (l ++ m).length [], hs', ?_, all3_of2 (q4.append hall), by simp⟩, ?_⟩
    · simp [execOp, resolve, invoke, builtin, hf.eval hx, hf.eval hy, hrun]
    · refine ho'.perm ?_
      have := (hperm (hs' ++ hq)).symm
      simpa using this
    · rw [List.length_append, List.flatten_append]
      exact hseg
    · rcases hkeep with rfl | ⟨rfl, A', c', h1, h2⟩
      · exact .inl hos
      · exact .inr ⟨rfl, A', c', _, h1, h2, Nat.le_add_right _ _⟩
end
end Go.Fp
