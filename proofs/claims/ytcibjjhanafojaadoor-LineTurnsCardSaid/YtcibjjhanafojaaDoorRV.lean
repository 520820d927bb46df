/- line.Reverse: a range over slices.Backward: the iterator's contract, and the function's. -/
import Derived.RangeFuncNested
import Derived.RangeFuncLeaves
import Derived.Shelf.Abstract
import Derived.WalkKit
import Derived.OwnWalkIn
import Derived.TacticsInMore
import Derived.LoopNIn
import Derived.LoopIn
import Derived.Test.YtcibjjhanafojaaDoorUT
set_option linter.unusedVariables false
set_option linter.unusedSimpArgs false
namespace Go.Proofs.YtcibjjhanafojaaDoor
open Go.RowKit Go.Shelf

attribute [local go_sem] Oper.semAt_some

def stv (s : ApiStep) : List Value := [.int .i64 s.Section, .int .i64 s.In, .int .i64 s.Out]
def stepV (s : ApiStep) : Value := .agg #[.int .i64 s.Section, .int .i64 s.In, .int .i64 s.Out]
/-- What has come when k rounds are over. -/
def backTo (zs : List ApiStep) (k : Nat) : List (Int × ApiStep) := (List.range k).map fun (j : Nat) => ((zs.length : Int) - 1 - (j : Int), zs[zs.length - 1 - j]?.getD ⟨0, 0, 0⟩)
theorem backTo_succ (zs : List ApiStep) (k : Nat) : backTo zs (k + 1) = backTo zs k ++ [((zs.length : Int) - 1 - k, zs[zs.length - 1 - k]?.getD ⟨0, 0, 0⟩)] := by simp [backTo, List.range_succ]
theorem backTo_length (zs : List ApiStep) (k : Nat) : (backTo zs k).length = k := by simp [backTo]

/-- What the rounds keep: whatever lay below n₀, and the box of the slice that is walked. -/
def KpR (n₀ Bs : Nat) (X Y : World) : Prop := Below n₀ X Y ∧ Y.heap[Bs]? = X.heap[Bs]?
theorem kpR_t {n₀ Bs : Nat} {A B C : World} (h : KpR n₀ Bs A B) (k : KpR n₀ Bs B C) : KpR n₀ Bs A C := ⟨h.1.trans k.1, k.2.trans h.2⟩
theorem kpR_b {n₀ Bs : Nat} {w : World} (hn : n₀ ≤ w.heap.size) (hB : Bs < w.heap.size) (W : World) (l : Nat) (o o' : Obj) (hl : w.heap.size ≤ l) (h : W.heap[l]? = some o) (h1 : o.isCells = false) (h2 : o.isWalk = false) : KpR n₀ Bs W (W.putObj l o') :=
  ⟨belowK_b hn W l o o' hl h h1 h2, World.putObj_heap_other (by omega)⟩

/-- The slice value holds the steps, in a block below n₀; or there are none. -/
def StepsAt (n₀ : Nat) (W : World) (A : Option Addr) (zs : List ApiStep) : Prop :=
  zs = [] ∨ ∃ b off, A = some ⟨b, off, none⟩ ∧ b < n₀ ∧ ∀ (j : Nat) (s : ApiStep), zs[j]? = some s → ∀ (i : Nat) (u : Value), (stv s)[i]? = some u → W.cell? ⟨b, off + j * 3 + i, none⟩ = some u

set_option maxRecDepth 100000 in
set_option maxHeartbeats 4000000 in
theorem back1_in (F : Fence) (n : Nat) (h7 : F.fn 49) (hro : F.round = none) (hn : 1 ≤ n) (l Bs n₀ : Nat) (b off cap : Nat) (zs : List ApiStep) (hmax : zs.length ≤ 9223372036854775807) (hb : b < n₀) (J Jx : List (Int × ApiStep) → World → Prop)
    (hY : ∀ pre x W, J pre W → pre.length < zs.length → YieldAt F (n - 1) Tryd.prog l #[.int .i64 x.1, stepV x.2] W fun e W' =>
      (e = .returned (.bool true) ∧ J (pre ++ [x]) W' ∧ KpR n₀ Bs W W') ∨ (e = .returned (.bool false) ∧ Jx (pre ++ [x]) W'))
    (W : World) (hBs : W.cell? ⟨Bs, 0, none⟩ = some (.slice (some ⟨b, off, none⟩) zs.length cap))
    (hc : ∀ (j : Nat) (s : ApiStep), zs[j]? = some s → ∀ (i : Nat) (u : Value), (stv s)[i]? = some u → W.cell? ⟨b, off + j * 3 + i, none⟩ = some u) (h0 : J [] W) :
    CallsIn F n Tryd.prog 49 #[.func (.yield l) #[] #[], .pointer (some ⟨Bs, 0, none⟩)] W fun e W' => (∃ v, e = .returned v) ∧
      ((∃ ys, ys = backTo zs zs.length ∧ J ys W') ∨ (∃ pre, (∃ k, k ≤ zs.length ∧ pre = backTo zs k) ∧ Jx pre W')) := by
  refine callsIn_of_wp Tryd.func49 rfl h7 ?_ hro
  simp only [Tryd.ntmps49, List.size_toArray, List.length_cons, List.length_nil, Nat.reduceAdd, Nat.reduceSub, Array.replicate_succ, Array.replicate_zero, List.push_toArray, List.append_toArray, List.nil_append, List.cons_append]
  gi_wp2
  gi_loopw [3] (fun i wr => ∃ k : Nat, k ≤ zs.length ∧ i = .int .i64 ((zs.length : Int) - 1 - k) ∧ J (backTo zs k) wr ∧ KpR n₀ Bs W wr)
    (fun i _ => (intOf i + 1).toNat)
  case atStart => exact ⟨0, Nat.zero_le _, by simp, h0, Below.refl _ _, rfl⟩
  case round =>
    obtain ⟨k, hk, rfl, hJs, hnx⟩ := hrel
    have hBx : wr.cell? ⟨Bs, 0, none⟩ = some (.slice (some ⟨b, off, none⟩) zs.length cap) := (World.cell?_of_block (a := ⟨Bs, 0, none⟩) hnx.2).trans hBs
    by_cases hlt : k < zs.length
    · have hz : zs[zs.length - 1 - k]? = some (zs[zs.length - 1 - k]?.getD ⟨0, 0, 0⟩) := by
        rw [List.getElem?_eq_getElem (by omega)]; rfl
      obtain ⟨m, hm⟩ : ∃ m, zs.length - 1 - k = m := ⟨_, rfl⟩
      obtain ⟨s, hs⟩ : ∃ s, zs[zs.length - 1 - k]?.getD ⟨0, 0, 0⟩ = s := ⟨_, rfl⟩
      have hi : (zs.length : Int) - 1 - k = (m : Int) := by omega
      obtain ⟨fn, tmps, assign, body, hy, hR⟩ := hY _ ((m : Int), s) wr hJs (by rw [backTo_length]; exact hlt)
      dsimp only at hy
      rw [hi]
      rw [hs, hm] at hz
      have hl := fun i u hu => (hnx.1.cell (p := ⟨b, off + m * 3 + i, none⟩) hb).trans (hc m s hz i u hu)
      have hl0 : wr.cell? ⟨b, off + m * 3, none⟩ = some (.int .i64 s.Section) := hl 0 _ rfl
      have hl1 : wr.cell? ⟨b, off + m * 3 + 1, none⟩ = some (.int .i64 s.In) := hl 1 _ rfl
      have hl2 : wr.cell? ⟨b, off + m * 3 + 2, none⟩ = some (.int .i64 s.Out) := hl 2 _ rfl
      unfold stepV at hy
      have hbk : backTo zs (k + 1) = backTo zs k ++ [((m : Int), s)] := by rw [backTo_succ, hi, hs]
      gi_wp2
      refine hR.mono ?_
      rintro e W3 (⟨rfl, hJ3, hk3⟩ | ⟨rfl, hJx3⟩)
      · -- the round goes on
        gi_wp2
        go_roundw
        case rel => exact ⟨k + 1, by omega, by congr 1; omega, by rw [hbk]; exact hJ3, kpR_t hnx hk3⟩
        case measure => simp [intOf]
      · gi_wp2
        refine bodyPost_ret (results_none rfl _ _ _) rfl ?_
        exact ⟨⟨_, rfl⟩, .inr ⟨_, ⟨k + 1, by omega, hbk.symm⟩, hJx3⟩⟩
    · obtain rfl : k = zs.length := by omega
      gi_wp2
      go_end0
      exact ⟨⟨_, rfl⟩, .inl ⟨_, rfl, hJs⟩⟩

set_option maxRecDepth 100000 in
set_option maxHeartbeats 1000000 in
theorem back1_nil_in (F : Fence) (n : Nat) (h7 : F.fn 49) (hro : F.round = none) (l Bs : Nat) (A : Option Addr) (cap : Nat) (J : List (Int × ApiStep) → World → Prop) (W : World) (hBs : W.cell? ⟨Bs, 0, none⟩ = some (.slice A 0 cap)) (h0 : J [] W) :
    CallsIn F n Tryd.prog 49 #[.func (.yield l) #[] #[], .pointer (some ⟨Bs, 0, none⟩)] W fun e W' => (∃ v, e = .returned v) ∧ J [] W' := by
  refine callsIn_of_wp Tryd.func49 rfl h7 ?_ hro
  simp only [Tryd.ntmps49, List.size_toArray, List.length_cons, List.length_nil, Nat.reduceAdd, Nat.reduceSub, Array.replicate_succ, Array.replicate_zero, List.push_toArray, List.append_toArray, List.nil_append, List.cons_append]
  gi_wp2
  gi_loopw [3] (fun i wr => i = .int .i64 (-1) ∧ J [] wr) (fun _ _ => 0)
  case atStart => exact ⟨rfl, h0⟩
  case round =>
    obtain ⟨rfl, hJs⟩ := hrel
    gi_wp2
    go_end0
    exact ⟨⟨_, rfl⟩, hJs⟩

set_option maxHeartbeats 1000000 in
theorem back_in (F : Fence) (n : Nat) (h6 : F.fn 28) (hro : F.round = none) (a : Option Addr) (len cap : Nat) (w : World) :
    CallsIn F n Tryd.prog 28 #[.slice a len cap] w fun e w' => e = .returned (.func (.func 49) #[] #[.pointer (some ⟨w.heap.size, 0, none⟩)]) ∧ w' = w.alloc (.cells #[.slice a len cap] 29) := by
  refine callsIn_of_wp Tryd.func28 rfl h6 ?_ hro
  simp only [Tryd.ntmps28, List.size_toArray, List.length_cons, List.length_nil, Nat.reduceAdd, Nat.reduceSub, Array.replicate_succ, Array.replicate_zero, List.push_toArray, List.append_toArray, List.nil_append, List.cons_append]
  gi_wp2
  go_ret
  exact ⟨rfl, rfl⟩

theorem back_stops (F : Fence) (n : Nat) (h8 : F.fn 49) (hro : F.round = none) (hn : 1 ≤ n) (Bs n₀ : Nat) (A : Option Addr) (cap : Nat) (zs : List ApiStep) (hmax : zs.length ≤ 9223372036854775807) (w : World) (hBs : Bs < w.heap.size) (hn₀ : n₀ ≤ w.heap.size)
    (hc : w.cell? ⟨Bs, 0, none⟩ = some (.slice A zs.length cap)) (hI : StepsAt n₀ w A zs) :
    SeqStopsK F n Tryd.prog 49 #[.pointer (some ⟨Bs, 0, none⟩)] (fun x : Int × ApiStep => #[Value.int .i64 x.1, stepV x.2]) (KpR n₀ Bs) (fun ys => ys = backTo zs zs.length)
      (fun pre => ∃ k, k ≤ zs.length ∧ pre = backTo zs k) zs.length w := fun l J Jx W hW _ _ hY h0 => by
  have hc' := (hW.cell (p := ⟨Bs, 0, none⟩) hBs).trans hc
  rcases hI with rfl | ⟨b, off, rfl, hb, hcs⟩
  · exact (back1_nil_in F n h8 hro l Bs A cap J W hc' h0).mono fun e W' ⟨he, hj⟩ => ⟨he, .inl ⟨_, rfl, hj⟩⟩
  · exact back1_in F n h8 hro hn l Bs n₀ b off cap zs hmax hb J Jx hY W hc' (fun j s hs i u hu => (hW.cell (p := ⟨b, off + j * 3 + i, none⟩) (by show b < w.heap.size; omega)).trans (hcs j s hs i u hu)) h0

def swS (s : ApiStep) : ApiStep := ⟨s.Section, s.Out, s.In⟩
def flatS (pre : List (Int × ApiStep)) : List Value := (pre.map fun x => stv (swS x.2)).flatten
theorem flatS_snoc (pre : List (Int × ApiStep)) (x : Int × ApiStep) : flatS (pre ++ [x]) = flatS pre ++ stv (swS x.2) := by simp [flatS]
theorem cell_three_new (w : World) (x y z : Value) (t : TypeId) : ∀ j u, [x, y, z][j]? = some u → (w.alloc (.cells #[x, y, z] t)).cell? ((⟨w.heap.size, 0, none⟩ : Addr).add j) = some u := by
  intro j u hj
  match j, hj with
  | 0, hj => simp at hj; subst hj; simp [Addr.add]
  | 1, hj => simp at hj; subst hj; simp [Addr.add]
  | 2, hj => simp at hj; subst hj; simp [Addr.add]
theorem info43 : (Tryd.prog.info? 43).map (fun i => (i.zero, i.size, i.bytes)) = some (some (.agg #[.int .i64 0, .int .i64 0, .int .i64 0]), 3, 24) := by kernel_rfl

set_option maxRecDepth 100000 in
set_option maxHeartbeats 4000000 in
theorem reverse_in (F : Fence) (n : Nat) (h9 : F.fn 9) (h28 : F.fn 28) (h49 : F.fn 49) (hro : F.round = none) (hn : 3 ≤ n) (A : Option Addr) (cap : Nat) (zs : List ApiStep) (hroom : zs.length * 24 ≤ 140737488355328 ∧ zs.length ≤ 9223372036854775807) (w : World) (hI : StepsAt w.heap.size w A zs) :
    CallsIn F n Tryd.prog 9 #[.slice A zs.length cap] w fun e W' => ∃ v, e = .returned v ∧ W'.ownsRow w.heap.size 43 3 v zs.length (flatS (backTo zs zs.length)) ∧ Below w.heap.size w W' := by
  have h1 : 1 ≤ n := by omega
  obtain ⟨i0, hi, hz0, hz1, hz2⟩ := info_parts info43
  refine callsIn_of_wp_marks Tryd.func9 rfl h9 ?_ hro
  simp only [Tryd.ntmps9, List.size_toArray, List.length_cons, List.length_nil, Nat.reduceAdd, Nat.reduceSub, Array.replicate_succ, Array.replicate_zero, List.push_toArray, List.append_toArray, List.nil_append, List.cons_append]
  gi_wp2_with (gi_at_call 28; refine (back_in F (n - 1) h28 hro _ _ _ _).mono ?_; rintro e w' ⟨rfl, rfl⟩)
  have bR := Boxed.new w 29 (.slice none 0 0)
  have bN := Boxed.new (w.alloc (.cells #[.slice none 0 0] 29)) 29 (.slice A zs.length cap)
  rw [World.size_alloc] at bN
  have hB0 : Below w.heap.size w ((w.alloc (.cells #[.slice none 0 0] 29)).alloc (.cells #[.slice A zs.length cap] 29)) := ((Below.refl _ w).alloc (Nat.le_refl _) _).alloc (by simp) _
  have hI0 : StepsAt w.heap.size ((w.alloc (.cells #[.slice none 0 0] 29)).alloc (.cells #[.slice A zs.length cap] 29)) A zs := by
    rcases hI with rfl | ⟨b, off, rfl, hb, hcs⟩
    · exact .inl rfl
    · exact .inr ⟨b, off, rfl, hb, fun j s hs i u hu => (hB0.cell (p := ⟨b, off + j * 3 + i, none⟩) hb).trans (hcs j s hs i u hu)⟩
  obtain ⟨W0, hW0⟩ : ∃ W0, (w.alloc (.cells #[.slice none 0 0] 29)).alloc (.cells #[.slice A zs.length cap] 29) = W0 := ⟨_, rfl⟩
  have hs0 : W0.heap.size = w.heap.size + 2 := by rw [← hW0]; simp
  have bR0 : Boxed W0 w.heap.size 29 (.slice none 0 0) := by rw [← hW0]; exact bR.alloc _
  rw [hW0] at bN hB0 hI0 ⊢
  clear hW0
  refine wpIn_rangeFunc_ownH hro h1 (gf := 49) (lb := #[.pointer (some ⟨w.heap.size + 1, 0, none⟩)]) rfl h49 (enters_of Tryd.func49 (by kernel_rfl) rfl)
    (back_stops F (n - 1) h49 hro (by omega) (w.heap.size + 1) w.heap.size A cap zs hroom.2 W0 (by omega) (by omega) bN.cell hI0) kpR_t (kpR_b (by omega) (by omega)) (Below.refl _ _) (fun _ => rfl)
    (fun pre W => ((∃ v, Boxed W w.heap.size 29 v ∧ W.ownsRow w.heap.size 43 3 v pre.length (flatS pre) ∧ True) ∧ Boxed W (w.heap.size + 1) 29 (.slice A zs.length cap)) ∧ Below w.heap.size w W)
    (fun _ _ _ => False)
    (OwnFrom.and (OwnFrom.and (Own.from (holdsRow_own w.heap.size w.heap.size 29 43 3 (fun pre : List (Int × ApiStep) => pre.length) flatS (fun _ _ => True)) _) (Own.from (boxed_own _ _ _) _)) (ownFrom_below (Nat.le_refl _) (by omega)))
    (fun _ _ _ _ _ hs _ _ => hs)
    ⟨⟨⟨_, bR0, ⟨rfl, .inl ⟨rfl, rfl⟩⟩, trivial⟩, bN⟩, hB0⟩
    (fun x a' W => ∃ Bx, w.heap.size + 1 < Bx ∧ W.heap[Bx]? = some (.cells #[.int .i64 x.2.Section, .int .i64 x.2.In, .int .i64 x.2.Out] 43 (0, 0)) ∧ a' = { tmps := #[.slice A zs.length cap, undef, .slice none 0 0, .pointer (some ⟨w.heap.size, 0, none⟩), undef, .pointer (some ⟨Bx, 0, none⟩), .slice A zs.length cap, .func (.func 49) #[] #[.pointer (some ⟨w.heap.size + 1, 0, none⟩)], .int .i64 x.1, stepV x.2, undef, undef, undef, undef, undef, undef, undef, undef, undef, undef, undef], defers := [] })
    (fun x a' _ X Y row hs hg hr => by
      obtain ⟨Bx, e1, e2, e3⟩ := hs
      exact ⟨Bx, e1, (grownBy_keeps_cells hg (fun r e => (hr r e).2) e2 rfl).trans e2, e3⟩)
    ?assign ?body ?done ?stop
  case assign =>
    rintro l pre x W K ⟨⟨⟨v, bv, hrow, _⟩, bS⟩, hB⟩ hK
    unfold stepV at *
    gi_wp2
    exact hK _ _ ((KeepsOthers.alloc _ _).from _) ⟨(Below.refl _ W).alloc hB.size _, Below.heap_alloc _ _ _ bS.lt⟩ ⟨⟨⟨v, bv.alloc _, hrow.alloc _, trivial⟩, bS.alloc _⟩, hB.alloc hB.size _⟩ ⟨W.heap.size, bS.lt, World.alloc_heap_new _ _, rfl⟩
  case body =>
    rintro l pre x a' W hl ⟨r, hr⟩ ⟨⟨⟨v, bv, hrow, _⟩, bS⟩, hB⟩ ⟨Bx, hBx, bX, rfl⟩ hlt
    have c0 : W.cell? ⟨Bx, 0, none⟩ = some (.int .i64 x.2.Section) := by simp [World.cell?, bX]
    have c1 : W.cell? ⟨Bx, 1, none⟩ = some (.int .i64 x.2.In) := by simp [World.cell?, bX]
    have c2 : W.cell? ⟨Bx, 2, none⟩ = some (.int .i64 x.2.Out) := by simp [World.cell?, bX]
    have cR := bv.cell
    have hmx : maxLen = 9223372036854775807 := by decide
    gi_wp2_with (first
      | (gi_at_builtin; refine wpListIn_append_own _ rfl _ _ 29 rfl w.heap.size 43 i0 (.agg #[.int .i64 0, .int .i64 0, .int .i64 0]) 3 24 Tryd.underlying29 hi hz0 hz1 hz2 rfl (by decide) _ _ _ rfl (hrow.alloc _) ⟨W.heap.size, 0, none⟩ 1 1 (stv (swS x.2)) rfl rfl (cell_three_new _ _ _ _ _) (by simp [Value.oneCell', stv, swS]) (by omega) (by omega) (by have := hB.size; simp; omega) ?_; intro v' w3 hown' hg3 hnil3
         obtain ⟨g', cap', rfl⟩ := ownsRow_succ hown'
         obtain ⟨k1, k2, k3, k4, k5⟩ := Boxed.appended bv (by decide) hrow hB.size (Nat.le_refl _) hown' hg3
         have c3 := k1.cell
         have f3 := k1.frozen
         go_frame))
    have hg3' : (W.alloc (.cells #[Value.int .i64 x.2.Section, Value.int .i64 x.2.Out, Value.int .i64 x.2.In] 43)).grownBy w3 v.ownBlock := hg3
    have bS3 : Boxed w3 (w.heap.size + 1) 29 (.slice A zs.length cap) := (bS.alloc _).kept hg3' (bS.not_row (by decide) hrow)
    have bS4 := bS3.other (B' := w.heap.size) (by omega) (.slice (some ⟨g', 0, none⟩) (pre.length + 1) cap')
    refine ⟨k4.from _, ⟨k5, Eq.trans bS4 (Eq.symm bS)⟩, ⟨⟨⟨_, k2, ?_, trivial⟩, bS4⟩, hB.trans k5⟩⟩
    rw [List.length_append, List.length_singleton, flatS_snoc]
    exact k3
  case done =>
    rintro D ys W hD rfl ⟨⟨⟨v, bv, hrow, _⟩, bS⟩, hB⟩ hK
    have cR := bv.cell
    gi_wp2
    refine ⟨by simp, .inl ⟨_, _, rfl, run_takeDeferred hK, ?_⟩⟩
    rw [backTo_length] at hrow
    exact ⟨_, results_tmp rfl _ _ _, v, rfl, ownsRow_putObj hrow _ hK rfl, hB.trans (belowK_b (w := w) (Nat.le_refl _) W D _ _ (by omega) hK rfl rfl)⟩
  case stop =>
    rintro D c pre W _ _ h _
    exact h.elim

theorem backTo_all (zs : List ApiStep) : flatS (backTo zs zs.length) = ((zs.reverse.map swS).map stv).flatten := by
  unfold flatS
  congr 1
  apply List.ext_getElem
  · simp [backTo_length]
  · intro i h1 h2
    simp only [List.length_map, backTo_length] at h1
    simp only [backTo, List.getElem_map, List.getElem_range, List.getElem_reverse]
    rw [List.getElem?_eq_getElem (by omega)]
    rfl
theorem rep_stv (w : World) (s : ApiStep) : rApiStep.rep w (stv s) s := ⟨[_], _, rfl, rfl, [_], _, rfl, rfl, rfl⟩
theorem stv_of {w : World} {cs : List Value} {s : ApiStep} (h : rApiStep.rep w cs s) : cs = stv s := by
  obtain ⟨a, q, rfl, h1, c, d, rfl, h2, h3⟩ := h
  have h1 : a = _ := h1
  have h2 : c = _ := h2
  have h3 : d = _ := h3
  subst h1; subst h2; subst h3
  rfl
theorem all_stv (w : World) : ∀ l : List ApiStep, Go.Fp.All2 (rApiStep.rep w) (l.map stv) l
  | [] => trivial
  | s :: r => ⟨rep_stv w s, all_stv w r⟩
theorem stepsAt_of {w : World} {A : Option Addr} {c : Nat} {l : List ApiStep} (h : Go.Fp.FZ rApiStep w A c l) : StepsAt w.heap.size w A l := by
  cases l with
  | nil => exact .inl rfl
  | cons s r =>
    refine .inr ?_
    have hg : ∀ (j : Nat) (x : ApiStep), (s :: r)[j]? = some x → ∀ (i : Nat) (u : Value), (stv x)[i]? = some u → Go.Fp.cellO w A (j * 3 + i) = some u := fun j x hx i u hu => by
      obtain ⟨cs, h1, h2, _⟩ := h.get (sz := 3) rfl (by decide) hx
      rw [stv_of h1] at h2
      exact h2 i u hu
    have h0 := hg 0 s rfl 0 _ rfl
    cases A with
    | none => cases h0
    | some p =>
      obtain ⟨b, off, spot⟩ := p
      have h0 : w.cell? ⟨b, off, spot⟩ = some _ := h0
      have hlt : b < w.heap.size := World.block_lt_of_cell? w _ h0
      have hsp : spot = none := by
        cases spot with
        | none => rfl
        | some q =>
          unfold World.cell? at h0
          split at h0
          · simp at h0
          · cases h0
      subst hsp
      refine ⟨b, off, rfl, hlt, fun j x hx i u hu => ?_⟩
      have h1 := hg j x hx i u hu
      simp only [Go.Fp.cellO, Option.bind_some, Addr.add_lit] at h1
      rwa [← Nat.add_assoc] at h1
theorem own_one {w w' : World} {g : Nat} {o : Obj} (hb : Below w.heap.size w w') (hg : w.heap.size ≤ g) (ho : w'.heap[g]? = some o) : Go.Fp.Own (w : Go.Fp.Base) [(g, o)] w' :=
  ⟨Nat.le_refl _, hb, fun p v hv => (hb.cell (World.block_lt_of_cell? w p hv)).trans hv, by simp, fun g' o' hm => by simp at hm; obtain ⟨rfl, rfl⟩ := hm; exact ⟨hg, ho⟩, fun g' o' hm p hp => by simp at hm; obtain ⟨rfl, rfl⟩ := hm; exact Go.Fp.cell_none_of_ge w p (by omega)⟩
theorem own_nil {w w' : World} (hb : Below w.heap.size w w') : Go.Fp.Own (w : Go.Fp.Base) [] w' :=
  ⟨Nat.le_refl _, hb, fun p v hv => (hb.cell (World.block_lt_of_cell? w p hv)).trans hv, by simp, fun g' o' hm => by simp at hm, fun g' o' hm => by simp at hm⟩
/-- line.Reverse. -/
theorem reverse_of {b : Go.Fp.Base} {R : Go.Fp.Hp} {l4 : List ApiStep} {A1 : Option Addr} {c2 : Nat} (h3 : Go.Fp.FZ rApiStep b.w A1 c2 l4) (hroom : l4.length * 24 ≤ 140737488355328 ∧ l4.length ≤ 9223372036854775807) :
    Go.Fp.CallsG Tryd.prog 9 [.slice A1 l4.length c2] b R (fun v b' hp' => ∃ (A7 : Option Addr), ∃ (c8 : Nat), ∃ (hs6 : Go.Fp.Hp), .slice A7 (l4.reverse.map (fun s : ApiStep => (⟨s.Section, s.Out, s.In⟩ : ApiStep))).length c8 = v ∧ (hs6 ++ R) = hp' ∧ Go.Fp.OS 43 (Go.Fp.OT.fr rApiStep) b'.w (.slice A7 (l4.reverse.map (fun s : ApiStep => (⟨s.Section, s.Out, s.In⟩ : ApiStep))).length c8) (l4.reverse.map (fun s : ApiStep => (⟨s.Section, s.Out, s.In⟩ : ApiStep))) hs6) := fun w ho => by
  have hfz := h3.old ho
  refine (callsIn_wide.1 (reverse_in Fence.wide 3 trivial trivial trivial rfl (Nat.le_refl _) A1 c2 l4 hroom w (stepsAt_of hfz))).mono fun e W' ⟨v, he, hrow, hB⟩ => ?_
  rw [backTo_all] at hrow
  obtain ⟨hl, hrow⟩ := hrow
  have hfun : (fun s : ApiStep => (⟨s.Section, s.Out, s.In⟩ : ApiStep)) = swS := rfl
  rw [hfun]
  rcases hrow with ⟨rfl, h0⟩ | ⟨g, cap, cur, rfl, hg, hgb, h4, h5, h6, h7⟩
  · have hnil : l4 = [] := List.length_eq_zero_iff.1 h0
    subst hnil
    exact ⟨_, b, R, he, Go.Fp.Base.Le.refl _, ho.grow (own_nil hB), none, 0, [], rfl, rfl, Go.Fp.OS.nil⟩
  · have hlen : (l4.reverse.map swS).length = l4.length := by simp
    refine ⟨_, b, [(g, Go.Fp.Cl 43 cur.toList)] ++ R, he, Go.Fp.Base.Le.refl _, ho.grow (own_one hB hg (by simpa using hgb)), some ⟨g, 0, none⟩, cap, [(g, Go.Fp.Cl 43 cur.toList)], by rw [hlen], rfl, (l4.reverse.map swS).map stv, List.replicate (l4.reverse.map swS).length [], [(g, Go.Fp.Cl 43 cur.toList)], ?_, Go.Fp.all3_of2 (all_stv _ _), by simp⟩
    rw [hlen]
    have hcur : cur.toList = ((l4.reverse.map swS).map stv).flatten ++ cur.toList.drop (l4.length * 3) := by
      rw [← h7, List.take_append_drop]
    refine .inr ⟨g, cap, [], cur.toList.drop (l4.length * 3), rfl, by rw [List.nil_append, ← hcur], hl, by rw [← hcur, Array.length_toList]; exact h6, h4, h5⟩

#print axioms reverse_of
end Go.Proofs.YtcibjjhanafojaaDoor
