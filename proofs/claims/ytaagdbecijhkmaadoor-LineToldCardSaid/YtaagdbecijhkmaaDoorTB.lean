/- Plain: the lines of a net, written. -/
import Derived.Test.YtaagdbecijhkmaaDoorTA
set_option linter.unusedVariables false
set_option linter.unusedSimpArgs false
namespace Go.Proofs.YtaagdbecijhkmaaDoor
open Go.RowKit Go.Fp

def kStation : List UInt8 := [115, 116, 97, 116, 105, 111, 110]
def kPlain : List UInt8 := [112, 108, 97, 105, 110]
def kPoints : List UInt8 := [112, 111, 105, 110, 116, 115]
def kCross : List UInt8 := [99, 114, 111, 115, 115]
def kLink : List UInt8 := [108, 105, 110, 107]
def kSignal : List UInt8 := [115, 105, 103, 110, 97, 108]
def kGate : List UInt8 := [103, 97, 116, 101]
def kAxles : List UInt8 := [97, 120, 108, 101, 115]
def kCircuit : List UInt8 := [99, 105, 114, 99, 117, 105, 116]
def ax (b : Bool) : List UInt8 := if b then kAxles else kCircuit
abbrev it (n : Int) : List UInt8 := Lib.itoa n
def lnStation (s : ByteArray) : List (List UInt8) := [kStation, s.data.toList]
def lnSection (s : ApiSection) : List (List UInt8) :=
  if s.Kind = 1 then [kPlain, it s.Length, it s.Grade, it s.Speed, it s.Station, ax s.Axles]
  else if s.Kind = 2 then [kPoints, it s.Length, it s.Grade, it s.Speed, it s.Slow, ax s.Axles]
  else [kCross, it s.Length, it s.Speed, ax s.Axles]
def lnLink (l : ApiLink) : List (List UInt8) := [kLink, it l.A, it l.EndA, it l.B, it l.EndB]
def lnSignal (s : ApiSignal) : List (List UInt8) := [kSignal, it s.Section, it s.End]
def lnGate (g : ApiGate) : List (List UInt8) := [kGate, it g.Section, it g.Close]
/-- A word of a line: no more than 12 bytes, neither blank nor line feed. -/
def Word (x : List UInt8) : Prop := x.length ≤ 12 ∧ 32 ∉ x ∧ 10 ∉ x
/-- A line: one to six words. -/
def Ln (ws : List (List UInt8)) : Prop := ws ≠ [] ∧ ws.length ≤ 6 ∧ ∀ x ∈ ws, Word x
def Num (n : Int) : Prop := -1000000000 < n ∧ n < 1000000000
theorem word_it {n : Int} (h : Num n) : Word (it n) := by
  obtain ⟨a, b, c⟩ := itoa_len h.1 h.2
  refine ⟨by show (Lib.itoa n).length ≤ 12; omega, fun h => ?_, fun h => ?_⟩
  · rcases c _ h with h | h
    · exact absurd h (by decide)
    · revert h; decide
  · rcases c _ h with h | h
    · exact absurd h (by decide)
    · revert h; decide
theorem word_name {s : ByteArray} (h : NameOk s) : Word s.data.toList := by
  refine ⟨by rw [Array.length_toList]; exact h.1.2, fun hh => ?_, fun hh => ?_⟩
  · have := h.2 _ hh; revert this; decide
  · have := h.2 _ hh; revert this; decide
theorem word_ax (b : Bool) : Word (ax b) := by
  cases b
  · refine ⟨?_, ?_, ?_⟩ <;> decide
  · refine ⟨?_, ?_, ?_⟩ <;> decide
theorem word_k : Word kStation ∧ Word kPlain ∧ Word kPoints ∧ Word kCross ∧ Word kLink ∧ Word kSignal ∧ Word kGate := by
  refine ⟨⟨?_, ?_, ?_⟩, ⟨?_, ?_, ?_⟩, ⟨?_, ?_, ?_⟩, ⟨?_, ?_, ?_⟩, ⟨?_, ?_, ?_⟩, ⟨?_, ?_, ?_⟩, ⟨?_, ?_, ?_⟩⟩ <;> decide
theorem ln_station {s : ByteArray} (h : NameOk s) : Ln (lnStation s) := by
  refine ⟨by simp [lnStation], by simp [lnStation], fun x hx => ?_⟩
  simp only [lnStation, List.mem_cons, List.not_mem_nil, or_false] at hx
  rcases hx with rfl | rfl
  · exact word_k.1
  · exact word_name h
theorem ln_section {s : ApiSection} (h : SecOk s) : Ln (lnSection s) := by
  have n1 : Num s.Length := ⟨by have := h.len; omega, by have := h.len; omega⟩
  have n2 : Num s.Grade := ⟨by have := h.grade; omega, by have := h.grade; omega⟩
  have n3 : Num s.Speed := ⟨by have := h.speed; omega, by have := h.speed; omega⟩
  have n4 : Num s.Slow := ⟨by have := h.slow; omega, by have := h.slow; omega⟩
  have n5 : Num s.Station := ⟨by have := h.stat; omega, by have := h.stat; omega⟩
  unfold lnSection
  split
  · refine ⟨by simp, by simp, fun x hx => ?_⟩
    simp only [List.mem_cons, List.not_mem_nil, or_false] at hx
    rcases hx with rfl | rfl | rfl | rfl | rfl | rfl
    · exact word_k.2.1
    · exact word_it n1
    · exact word_it n2
    · exact word_it n3
    · exact word_it n5
    · exact word_ax _
  · split
    · refine ⟨by simp, by simp, fun x hx => ?_⟩
      simp only [List.mem_cons, List.not_mem_nil, or_false] at hx
      rcases hx with rfl | rfl | rfl | rfl | rfl | rfl
      · exact word_k.2.2.1
      · exact word_it n1
      · exact word_it n2
      · exact word_it n3
      · exact word_it n4
      · exact word_ax _
    · refine ⟨by simp, by simp, fun x hx => ?_⟩
      simp only [List.mem_cons, List.not_mem_nil, or_false] at hx
      rcases hx with rfl | rfl | rfl | rfl
      · exact word_k.2.2.2.1
      · exact word_it n1
      · exact word_it n3
      · exact word_ax _
structure LinkOk (l : ApiLink) : Prop where
  a : Num l.A
  ea : Num l.EndA
  b : Num l.B
  eb : Num l.EndB
theorem ln_link {l : ApiLink} (h : LinkOk l) : Ln (lnLink l) := by
  refine ⟨by simp [lnLink], by simp [lnLink], fun x hx => ?_⟩
  simp only [lnLink, List.mem_cons, List.not_mem_nil, or_false] at hx
  rcases hx with rfl | rfl | rfl | rfl | rfl
  · exact word_k.2.2.2.2.1
  · exact word_it h.a
  · exact word_it h.ea
  · exact word_it h.b
  · exact word_it h.eb
def SigOk (s : ApiSignal) : Prop := Num s.Section ∧ Num s.End
theorem ln_signal {s : ApiSignal} (h : SigOk s) : Ln (lnSignal s) := by
  refine ⟨by simp [lnSignal], by simp [lnSignal], fun x hx => ?_⟩
  simp only [lnSignal, List.mem_cons, List.not_mem_nil, or_false] at hx
  rcases hx with rfl | rfl | rfl
  · exact word_k.2.2.2.2.2.1
  · exact word_it h.1
  · exact word_it h.2
theorem num_gate {g : ApiGate} (h : GateOk g) : Num g.Section ∧ Num g.Close := by
  obtain ⟨⟨a, b⟩, c, d⟩ := h
  exact ⟨⟨by omega, by omega⟩, ⟨by omega, by omega⟩⟩
theorem ln_gate {g : ApiGate} (h : GateOk g) : Ln (lnGate g) := by
  refine ⟨by simp [lnGate], by simp [lnGate], fun x hx => ?_⟩
  simp only [lnGate, List.mem_cons, List.not_mem_nil, or_false] at hx
  rcases hx with rfl | rfl | rfl
  · exact word_k.2.2.2.2.2.2
  · exact word_it (num_gate h).1
  · exact word_it (num_gate h).2
/-- The text of a line. -/
def tl (ws : List (List UInt8)) : List UInt8 := jn 32 ws ++ [10]
theorem jn_le (c : UInt8) (m : Nat) : ∀ ws : List (List UInt8), (∀ x ∈ ws, x.length ≤ m) → (jn c ws).length ≤ ws.length * (m + 1)
  | [], _ => by simp [jn]
  | [x], h => by
    have := h x (by simp)
    simp [jn]
    omega
  | x :: y :: r, h => by
    have ih := jn_le c m (y :: r) (fun z hz => h z (by simp at hz ⊢; right; exact hz))
    have := h x (by simp)
    simp only [jn, List.length_append, List.length_cons] at ih ⊢
    have e : (r.length + 1 + 1) * (m + 1) = (r.length + 1) * (m + 1) + (m + 1) := by rw [Nat.add_mul (r.length + 1) 1, Nat.one_mul]
    omega
theorem jn_bd {ws : List (List UInt8)} (h : Ln ws) : (jn 32 ws).length ≤ 78 := by
  have h1 := jn_le 32 12 ws (fun x hx => (h.2.2 x hx).1)
  have h2 := h.2.1
  have : ws.length * (12 + 1) ≤ 6 * (12 + 1) := Nat.mul_le_mul_right _ h2
  omega
theorem tl_bd {ws : List (List UInt8)} (h : Ln ws) : (tl ws).length ≤ 79 := by
  have := jn_bd h
  simp [tl]
  omega
/-- What a value is written as. -/
def wd : Dyn → List UInt8
  | .i n => it n
  | .b x => ax x
  | .s x => x.data.toList
def DynOk : Dyn → Prop
  | .i n => Num n
  | _ => True
theorem bs_app (a b : List UInt8) : bs a ++ bs b = bs (a ++ b) := by
  apply ByteArray.ext
  apply Array.ext'
  simp [bs]
theorem itoa_num {n : Int} (h : Num n) : mStrconvItoa n = some (bs (it n)) := by
  have := h.1; have := h.2
  unfold mStrconvItoa itoaM
  rw [chk_ok (by omega) (by omega)]
  rfl
theorem ax_map (b : Bool) : mgetD (mput (mput ([] : (List (Bool × ByteArray))) true (ByteArray.mk #[97, 120, 108, 101, 115])) false (ByteArray.mk #[99, 105, 114, 99, 117, 105, 116])) b ByteArray.empty = bs (ax b) := by
  cases b <;> rfl
theorem bs_self (s : ByteArray) : bs s.data.toList = s := by
  apply ByteArray.ext
  simp [bs]
theorem join_step (ds : List Dyn) (hd : ∀ d ∈ ds, DynOk d) (k : Nat) (hk : k < ds.length) (hl : ds.length ≤ 100) :
    mLineJoin_L176 ds k ((ds.take k).map fun d => bs (wd d)) = some ((ds.take (k + 1)).map fun d => bs (wd d)) := by
  have hroom : room 16 (((ds.take k).map fun d => bs (wd d)).length + 1) = some () := room_ok (by simp; omega) (by simp; omega)
  have hs : (ds.take (k + 1)).map (fun d => bs (wd d)) = (ds.take k).map (fun d => bs (wd d)) ++ [bs (wd ds[k])] := by
    rw [List.take_add_one, List.getElem?_eq_getElem hk, List.map_append]
    rfl
  rw [hs]
  unfold mLineJoin_L176
  rw [idx_lt hk, Option.bind_some]
  have ho := hd _ (List.getElem_mem hk)
  generalize ds[k] = d at ho ⊢
  cases d with
  | i n =>
    have e1 : dynIss (Dyn.i n) = false := rfl
    have e2 : dynIsi (Dyn.i n) = true := rfl
    rw [e1, if_neg (by decide), e2, if_pos rfl, show mStrconvItoa (dynVi (Dyn.i n)) = some (bs (it n)) from itoa_num ho, Option.bind_some, hroom]
    rfl
  | b x =>
    have e1 : dynIss (Dyn.b x) = false := rfl
    have e2 : dynIsi (Dyn.b x) = false := rfl
    have e3 : dynIsb (Dyn.b x) = true := rfl
    have e4 : dynVb (Dyn.b x) = x := rfl
    rw [e1, if_neg (by decide), e2, if_neg (by decide), e3, if_pos rfl, e4, ax_map, Option.bind_some, hroom]
    rfl
  | s x =>
    have e1 : dynIss (Dyn.s x) = true := rfl
    have e2 : dynVs (Dyn.s x) = x := rfl
    rw [e1, if_pos rfl, hroom, e2]
    show some _ = some _
    rw [show wd (Dyn.s x) = x.data.toList from rfl, bs_self]
theorem join_line (ds : List Dyn) (hd : ∀ d ∈ ds, DynOk d) (hl : Ln (ds.map wd)) : mLineJoin ds = some (bs (tl (ds.map wd))) := by
  have h6 : ds.length ≤ 6 := by have := hl.2.1; simpa using this
  obtain ⟨l, e1, e2⟩ := forS_inv (body := mLineJoin_L176 ds) (fun k l => l = (ds.take k).map fun d => bs (wd d)) ds.length 0 [] (by simp) (fun k l _ hk hi => by
    subst hi
    exact ⟨_, join_step ds hd k (by omega) (by omega), rfl⟩)
  unfold mLineJoin
  rw [e1, Option.bind_some, e2, Nat.zero_add, List.take_of_length_le (Nat.le_refl _)]
  have hm : (ds.map fun d => bs (wd d)).map (·.data.toList) = ds.map wd := by
    rw [List.map_map]
    apply List.map_congr_left
    intro d _
    exact bs_data _
  have hj : mStringsJoin (ds.map fun d => bs (wd d)) (ByteArray.mk #[32]) = some (bs (jn 32 (ds.map wd))) := by
    have hb := jn_bd hl
    unfold mStringsJoin joinM
    rw [hm, show (ByteArray.mk #[32]).data.toList = [32] from rfl, join_jn, if_pos ⟨by rw [List.length_map]; omega, by omega⟩]
    rfl
  rw [hj, Option.bind_some]
  have hb := jn_bd hl
  have ha : sAdd (bs (jn 32 (ds.map wd))) (ByteArray.mk #[10]) = some (bs (tl (ds.map wd))) := by
    unfold sAdd
    rw [show (ByteArray.mk #[10]) = bs [10] from rfl, bs_size, bs_size, if_pos (by simp; omega), bs_app]
    rfl
  rw [ha]
  rfl
/-- The text of lines. -/
def tx (ls : List (List (List UInt8))) : List UInt8 := (ls.map tl).flatten
theorem write_ok {a b : List UInt8} (h : a.length + b.length ≤ 1000000) : mStringsBuilderWriteString (bs b) (bs a) = some ((b.length : Int), bs (a ++ b)) := by
  unfold mStringsBuilderWriteString bWrite
  rw [bs_size, bs_size, if_pos (by omega), bs_app]
theorem text_loop {α : Type} (l : List α) (ln : α → List (List UInt8)) (body : Nat → ByteArray → Option ByteArray) (hl : l.length ≤ 100) (hb : ∀ k (hk : k < l.length) (acc : List UInt8), acc.length ≤ 50000 → Ln (ln l[k]) ∧ body k (bs acc) = some (bs (acc ++ tl (ln l[k])))) (acc : List UInt8) (hacc : acc.length ≤ 40000) :
    forS body l.length 0 (bs acc) = some (bs (acc ++ tx (l.map ln))) ∧ (acc ++ tx (l.map ln)).length ≤ acc.length + 79 * l.length := by
  obtain ⟨r, e1, e2, e3⟩ := forS_inv (body := body) (fun k r => r = bs (acc ++ tx ((l.take k).map ln)) ∧ (acc ++ tx ((l.take k).map ln)).length ≤ acc.length + 79 * k) l.length 0 (bs acc) (by simp [tx]) (fun k r _ hk ⟨hi, hj⟩ => by
    have hk' : k < l.length := by omega
    subst hi
    obtain ⟨h1, h2⟩ := hb k hk' (acc ++ tx ((l.take k).map ln)) (by omega)
    have hx : tx ((l.take (k + 1)).map ln) = tx ((l.take k).map ln) ++ tl (ln l[k]) := by
      rw [List.take_add_one, List.getElem?_eq_getElem hk']
      simp only [tx, Option.toList_some, List.map_append, List.flatten_append, List.map_cons, List.map_nil, List.flatten_cons, List.flatten_nil, List.append_nil]
    refine ⟨_, h2, by rw [hx, List.append_assoc], ?_⟩
    have := tl_bd h1
    rw [hx, ← List.append_assoc, List.length_append]
    omega)
  rw [Nat.zero_add, List.take_of_length_le (Nat.le_refl _)] at e2 e3
  exact ⟨by rw [e1, e2], e3⟩
end Go.Proofs.YtaagdbecijhkmaaDoor
