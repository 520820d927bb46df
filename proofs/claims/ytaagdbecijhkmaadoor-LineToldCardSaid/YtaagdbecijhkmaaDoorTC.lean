/- Plain: the text of a net. -/
import Derived.Test.YtaagdbecijhkmaaDoorTB
set_option linter.unusedVariables false
set_option linter.unusedSimpArgs false
namespace Go.Proofs.YtaagdbecijhkmaaDoor
open Go.RowKit Go.Fp

/-- A net whose lines tell it. -/
structure TNet (n : ApiNet) : Prop where
  told : Told n
  links : ∀ l ∈ n.Links, LinkOk l
  sigs : ∀ s ∈ n.Signals, SigOk s
def lns (n : ApiNet) : List (List (List UInt8)) := n.Stations.map lnStation ++ (n.Sections.map lnSection ++ (n.Links.map lnLink ++ (n.Signals.map lnSignal ++ n.Gates.map lnGate)))
theorem tx_app (a b : List (List (List UInt8))) : tx (a ++ b) = tx a ++ tx b := by simp [tx]
theorem lns_ok {n : ApiNet} (h : TNet n) : ∀ ws ∈ lns n, Ln ws := by
  intro ws hw
  simp only [lns, List.mem_append, List.mem_map] at hw
  rcases hw with ⟨x, hx, rfl⟩ | ⟨x, hx, rfl⟩ | ⟨x, hx, rfl⟩ | ⟨x, hx, rfl⟩ | ⟨x, hx, rfl⟩
  · exact ln_station (h.told.names x hx)
  · exact ln_section (h.told.secs x hx)
  · exact ln_link (h.links x hx)
  · exact ln_signal (h.sigs x hx)
  · exact ln_gate (h.told.gates x hx)
theorem lns_len {n : ApiNet} (h : TNet n) : (lns n).length ≤ 210 ∧ 1 ≤ (lns n).length := by
  have := h.told.n12; have := h.told.n60; have := h.told.n90; have := h.told.n40; have := h.told.n8; have := h.told.some_
  simp only [lns, List.length_append, List.length_map]
  omega
theorem tx_len : ∀ {ls : List (List (List UInt8))}, (∀ ws ∈ ls, Ln ws) → (tx ls).length ≤ 79 * ls.length
  | [], _ => by simp [tx]
  | w :: r, h => by
    have ih := tx_len (ls := r) (fun ws hw => h ws (by simp [hw]))
    have := tl_bd (h w (by simp))
    have e : tx (w :: r) = tl w ++ tx r := by simp [tx]
    rw [e, List.length_append, List.length_cons]
    omega
theorem text_len {n : ApiNet} (h : TNet n) : (tx (lns n)).length ≤ 20000 := by
  have h1 := tx_len (lns_ok h)
  have h2 := (lns_len h).1
  omega
theorem write_line {ds : List Dyn} {acc : List UInt8} {ws : List (List UInt8)} (hw : ds.map wd = ws) (hd : ∀ d ∈ ds, DynOk d) (hl : Ln ws) (ha : acc.length ≤ 50000) :
    ((mLineJoin ds).bind fun x => (mStringsBuilderWriteString x (bs acc)).bind (unc2 fun _ l => some l)) = some (bs (acc ++ tl ws)) := by
  subst hw
  have := tl_bd hl
  rw [join_line ds hd hl, Option.bind_some, write_ok (by omega)]
  rfl
theorem dyn1 {x : ByteArray} : ∀ d ∈ [Dyn.s (ByteArray.mk #[115, 116, 97, 116, 105, 111, 110]), Dyn.s x], DynOk d := by
  intro d hd
  simp only [List.mem_cons, List.not_mem_nil, or_false] at hd
  rcases hd with rfl | rfl <;> trivial
theorem txt1 {n : ApiNet} (h : TNet n) (k : Nat) (hk : k < n.Stations.length) (acc : List UInt8) (ha : acc.length ≤ 50000) : Ln (lnStation n.Stations[k]) ∧ mLineText_L532 n k (bs acc) = some (bs (acc ++ tl (lnStation n.Stations[k]))) := by
  have hl := ln_station (h.told.names _ (List.getElem_mem hk))
  refine ⟨hl, ?_⟩
  unfold mLineText_L532
  rw [idx_lt hk, Option.bind_some]
  exact write_line rfl dyn1 hl ha
theorem txt3 {n : ApiNet} (h : TNet n) (k : Nat) (hk : k < n.Links.length) (acc : List UInt8) (ha : acc.length ≤ 50000) : Ln (lnLink n.Links[k]) ∧ mLineText_L775 n k (bs acc) = some (bs (acc ++ tl (lnLink n.Links[k]))) := by
  have ho := h.links _ (List.getElem_mem hk)
  have hl := ln_link ho
  refine ⟨hl, ?_⟩
  unfold mLineText_L775
  rw [idx_lt hk, Option.bind_some]
  refine write_line rfl (fun d hd => ?_) hl ha
  simp only [List.mem_cons, List.not_mem_nil, or_false] at hd
  rcases hd with rfl | rfl | rfl | rfl | rfl
  · trivial
  · exact ho.a
  · exact ho.ea
  · exact ho.b
  · exact ho.eb
theorem txt4 {n : ApiNet} (h : TNet n) (k : Nat) (hk : k < n.Signals.length) (acc : List UInt8) (ha : acc.length ≤ 50000) : Ln (lnSignal n.Signals[k]) ∧ mLineText_L859 n k (bs acc) = some (bs (acc ++ tl (lnSignal n.Signals[k]))) := by
  have ho := h.sigs _ (List.getElem_mem hk)
  have hl := ln_signal ho
  refine ⟨hl, ?_⟩
  unfold mLineText_L859
  rw [idx_lt hk, Option.bind_some]
  refine write_line rfl (fun d hd => ?_) hl ha
  simp only [List.mem_cons, List.not_mem_nil, or_false] at hd
  rcases hd with rfl | rfl | rfl
  · trivial
  · exact ho.1
  · exact ho.2
theorem txt5 {n : ApiNet} (h : TNet n) (k : Nat) (hk : k < n.Gates.length) (acc : List UInt8) (ha : acc.length ≤ 50000) : Ln (lnGate n.Gates[k]) ∧ mLineText_L943 n k (bs acc) = some (bs (acc ++ tl (lnGate n.Gates[k]))) := by
  have ho := h.told.gates _ (List.getElem_mem hk)
  have hl := ln_gate ho
  refine ⟨hl, ?_⟩
  unfold mLineText_L943
  rw [idx_lt hk, Option.bind_some]
  refine write_line rfl (fun d hd => ?_) hl ha
  simp only [List.mem_cons, List.not_mem_nil, or_false] at hd
  rcases hd with rfl | rfl | rfl
  · trivial
  · exact (num_gate ho).1
  · exact (num_gate ho).2
theorem txt2 {n : ApiNet} (h : TNet n) (k : Nat) (hk : k < n.Sections.length) (acc : List UInt8) (ha : acc.length ≤ 50000) : Ln (lnSection n.Sections[k]) ∧ mLineText_L613 n k (bs acc) = some (bs (acc ++ tl (lnSection n.Sections[k]))) := by
  have ho := h.told.secs _ (List.getElem_mem hk)
  have hl := ln_section ho
  refine ⟨hl, ?_⟩
  unfold mLineText_L613
  rw [idx_lt hk, Option.bind_some]
  generalize n.Sections[k] = s at ho hl ⊢
  have n1 : Num s.Length := ⟨by have := ho.len; omega, by have := ho.len; omega⟩
  have n2 : Num s.Grade := ⟨by have := ho.grade; omega, by have := ho.grade; omega⟩
  have n3 : Num s.Speed := ⟨by have := ho.speed; omega, by have := ho.speed; omega⟩
  have n4 : Num s.Slow := ⟨by have := ho.slow; omega, by have := ho.slow; omega⟩
  have n5 : Num s.Station := ⟨by have := ho.stat; omega, by have := ho.stat; omega⟩
  unfold lnSection at hl ⊢
  by_cases k1 : s.Kind = 1
  · rw [if_pos k1] at hl
    rw [if_pos k1, if_pos k1]
    refine write_line rfl (fun d hd => ?_) hl ha
    simp only [List.mem_cons, List.not_mem_nil, or_false] at hd
    rcases hd with rfl | rfl | rfl | rfl | rfl | rfl
    · trivial
    · exact n1
    · exact n2
    · exact n3
    · exact n5
    · trivial
  · rw [if_neg k1] at hl
    rw [if_neg k1, if_neg k1]
    by_cases k2 : s.Kind = 2
    · rw [if_pos k2] at hl
      rw [if_pos k2, if_pos k2]
      refine write_line rfl (fun d hd => ?_) hl ha
      simp only [List.mem_cons, List.not_mem_nil, or_false] at hd
      rcases hd with rfl | rfl | rfl | rfl | rfl | rfl
      · trivial
      · exact n1
      · exact n2
      · exact n3
      · exact n4
      · trivial
    · rw [if_neg k2] at hl
      rw [if_neg k2, if_neg k2]
      refine write_line rfl (fun d hd => ?_) hl ha
      simp only [List.mem_cons, List.not_mem_nil, or_false] at hd
      rcases hd with rfl | rfl | rfl | rfl
      · trivial
      · exact n1
      · exact n3
      · trivial
theorem text_ok {n : ApiNet} (h : TNet n) (hc : mLineCheck n = some 0) : mLineText n = some (bs (tx (lns n)), 0) := by
  have a12 := h.told.n12; have a60 := h.told.n60; have a90 := h.told.n90; have a40 := h.told.n40; have a8 := h.told.n8
  obtain ⟨e1, l1⟩ := text_loop n.Stations lnStation (mLineText_L532 n) (by omega) (fun k hk acc ha => txt1 h k hk acc ha) [] (by simp)
  obtain ⟨e2, l2⟩ := text_loop n.Sections lnSection (mLineText_L613 n) (by omega) (fun k hk acc ha => txt2 h k hk acc ha) ([] ++ tx (n.Stations.map lnStation)) (by simp only [List.length_nil] at l1; omega)
  obtain ⟨e3, l3⟩ := text_loop n.Links lnLink (mLineText_L775 n) (by omega) (fun k hk acc ha => txt3 h k hk acc ha) ([] ++ tx (n.Stations.map lnStation) ++ tx (n.Sections.map lnSection)) (by simp only [List.length_nil] at l1; omega)
  obtain ⟨e4, l4⟩ := text_loop n.Signals lnSignal (mLineText_L859 n) (by omega) (fun k hk acc ha => txt4 h k hk acc ha) ([] ++ tx (n.Stations.map lnStation) ++ tx (n.Sections.map lnSection) ++ tx (n.Links.map lnLink)) (by simp only [List.length_nil] at l1; omega)
  obtain ⟨e5, l5⟩ := text_loop n.Gates lnGate (mLineText_L943 n) (by omega) (fun k hk acc ha => txt5 h k hk acc ha) ([] ++ tx (n.Stations.map lnStation) ++ tx (n.Sections.map lnSection) ++ tx (n.Links.map lnLink) ++ tx (n.Signals.map lnSignal)) (by simp only [List.length_nil] at l1; omega)
  unfold mLineText
  rw [hc, Option.bind_some, if_neg (by decide), show ByteArray.empty = bs [] from rfl, e1, Option.bind_some, e2, Option.bind_some, e3, Option.bind_some, e4, Option.bind_some, e5, Option.bind_some]
  have : [] ++ tx (n.Stations.map lnStation) ++ tx (n.Sections.map lnSection) ++ tx (n.Links.map lnLink) ++ tx (n.Signals.map lnSignal) ++ tx (n.Gates.map lnGate) = tx (lns n) := by
    simp only [lns, tx_app, List.nil_append, List.append_assoc]
  rw [this]
  rfl
end Go.Proofs.YtaagdbecijhkmaaDoor
