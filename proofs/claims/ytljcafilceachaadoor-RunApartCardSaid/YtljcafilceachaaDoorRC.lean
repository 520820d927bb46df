/- Plain: RunApart. -/
import Derived.Test.YtljcafilceachaaDoorRA
set_option linter.unusedVariables false
set_option linter.unusedSimpArgs false
namespace Go.Proofs.YtljcafilceachaaDoor
open Go.RowKit Go.Fp

theorem meets1_total (a : ApiNeed) : ∃ q, mLineMeets_1 a = some q := by
  unfold mLineMeets_1
  by_cases h : a.Kind = 1 <;> simp [h]
theorem meets2_total (a c : ApiNeed) : ∃ q, mLineMeets_2 a c = some q := by
  obtain ⟨q, hq⟩ := meets1_total c
  unfold mLineMeets_2
  rw [hq]
  by_cases h : a.Kind = 3 <;> by_cases h2 : c.Kind = 3 <;> cases q <;> simp [h, h2, Decidable.em]
theorem meets3_total (a c : ApiNeed) : ∃ q, mLineMeets_3 a c = some q := by
  unfold mLineMeets_3
  by_cases h : a.Kind = 4 <;> simp [h]
theorem meets_total (a c : ApiNeed) : ∃ q, mLineMeets a c = some q := by
  obtain ⟨q1, h1⟩ := meets1_total a
  obtain ⟨q2, h2⟩ := meets1_total c
  obtain ⟨q3, h3⟩ := meets2_total a c
  obtain ⟨q4, h4⟩ := meets2_total c a
  obtain ⟨q5, h5⟩ := meets3_total a c
  obtain ⟨q6, h6⟩ := meets3_total c a
  unfold mLineMeets
  rw [h1, h2, h3, h4, h5, h6]
  by_cases h : a.Place ≠ c.Place
  · rw [if_pos h]; exact ⟨false, rfl⟩
  · rw [if_neg h]
    cases q1 <;> cases q2 <;> cases q3 <;> cases q4 <;> cases q5 <;> simp
/-- Numbers that the statement looks at. -/
def Small (h : ApiHold) : Prop := -1099511627776 ≤ h.From ∧ h.From ≤ 1099511627776 ∧ -1099511627776 ≤ h.To ∧ h.To ≤ 1099511627776
theorem headway_model {a c : List ApiHold} (ha : ∀ x ∈ a, Small x) (hc : ∀ x ∈ c, Small x) :
    ∃ d, mRunHeadway a c = some d ∧ 0 ≤ d ∧ d ≤ 2199023255552 ∧ ∀ x ∈ a, ∀ y ∈ c, mLineMeets x.Need y.Need = some true → x.To - y.From ≤ d := by
  unfold mRunHeadway
  obtain ⟨d, hd, q1, q2, q3⟩ := forS_inv (body := mRunHeadway_L214 a c) (fun k d => 0 ≤ d ∧ d ≤ 2199023255552 ∧ ∀ x ∈ a.take k, ∀ y ∈ c, mLineMeets x.Need y.Need = some true → x.To - y.From ≤ d) a.length 0 0 ⟨by simp, by simp, by simp⟩ (fun j d _ hj hi => by
    obtain ⟨i1, i2, i3⟩ := hi
    have hj' : j < a.length := by omega
    have hx := ha a[j] (List.getElem_mem hj')
    unfold mRunHeadway_L214
    rw [idx_lt hj', Option.bind_some]
    obtain ⟨r, hr, p1, p2, p3, p4⟩ := forS_inv (body := mRunHeadway_L364 c a[j]) (fun k r => d ≤ r ∧ 0 ≤ r ∧ r ≤ 2199023255552 ∧ ∀ y ∈ c.take k, mLineMeets a[j].Need y.Need = some true → a[j].To - y.From ≤ r) c.length 0 d ⟨Int.le_refl _, i1, i2, by simp⟩ (fun i r _ hi2 hr => by
      obtain ⟨r1, r2, r3, r4⟩ := hr
      have hi' : i < c.length := by omega
      have hy := hc c[i] (List.getElem_mem hi')
      unfold mRunHeadway_L364
      rw [idx_lt hi', Option.bind_some]
      obtain ⟨q, hq⟩ := meets_total a[j].Need c[i].Need
      rw [hq, Option.bind_some]
      unfold Small at hx hy
      cases q with
      | false =>
        rw [if_neg (by decide)]
        refine ⟨r, rfl, r1, r2, r3, fun y hy2 hm => ?_⟩
        rw [List.take_add_one, List.getElem?_eq_getElem hi'] at hy2
        rcases List.mem_append.1 hy2 with h | h
        · exact r4 y h hm
        · simp at h
          subst h
          rw [hq] at hm
          cases hm
      | true =>
        rw [if_pos rfl, chk_ok (by omega) (by omega), Option.bind_some]
        refine ⟨_, rfl, by omega, by omega, by omega, fun y hy2 hm => ?_⟩
        rw [List.take_add_one, List.getElem?_eq_getElem hi'] at hy2
        rcases List.mem_append.1 hy2 with h | h
        · have := r4 y h hm
          omega
        · simp at h
          subst h
          omega)
    rw [hr, Option.bind_some]
    refine ⟨r, rfl, p2, p3, fun x hx2 y hy hm => ?_⟩
    rw [List.take_add_one, List.getElem?_eq_getElem hj'] at hx2
    rcases List.mem_append.1 hx2 with h | h
    · have := i3 x h y hy hm
      omega
    · simp at h
      subst h
      exact p4 y (by simpa using hy) hm)
  rw [hd]
  exact ⟨d, rfl, q1, q2, fun x hx => q3 x (by simpa using hx)⟩
theorem conflicts_none {a c : List ApiHold} (h : ∀ x ∈ a, ∀ y ∈ c, mLineMeets x.Need y.Need = some true → x.To ≤ y.From) : mRunConflicts a c = some [] := by
  unfold mRunConflicts
  obtain ⟨r, hr, q1⟩ := forS_inv (body := mRunConflicts_L395 a c) (fun _ r => r = []) a.length 0 [] rfl (fun j r _ hj hi => by
    subst hi
    have hj' : j < a.length := by omega
    unfold mRunConflicts_L395
    rw [idx_lt hj', Option.bind_some]
    obtain ⟨r, hr, q1⟩ := forS_inv (body := mRunConflicts_L666 c j a[j]) (fun _ r => r = []) c.length 0 [] rfl (fun i r _ hi2 hr => by
      subst hr
      have hi' : i < c.length := by omega
      unfold mRunConflicts_L666
      rw [idx_lt hi', Option.bind_some]
      obtain ⟨q, hq⟩ := meets_total a[j].Need c[i].Need
      rw [hq, Option.bind_some]
      cases q with
      | false => exact ⟨[], by simp, rfl⟩
      | true =>
        have := h _ (List.getElem_mem hj') _ (List.getElem_mem hi') hq
        have h2 : ¬ c[i].From < a[j].To := by omega
        refine ⟨[], ?_, rfl⟩
        by_cases h3 : a[j].From < c[i].To <;> simp [h2, h3])
    rw [hr, q1]
    exact ⟨[], rfl, rfl⟩)
  rw [hr, q1]
  rfl
theorem small_model (x : List ApiHold) : (forM (mFishkeep1RunApart_L452 x) x.length 0 () = some (.inl ()) ∧ ∀ h ∈ x, Small h) ∨ forM (mFishkeep1RunApart_L452 x) x.length 0 () = some (.inr (.inr true)) := by
  rcases forM_inv (body := mFishkeep1RunApart_L452 x) (fun k _ => ∀ h ∈ x.take k, Small h) (fun t => t = .inr true) x.length 0 () (by simp) (fun j u _ hj hi => by
    have hj' : j < x.length := by omega
    unfold mFishkeep1RunApart_L452
    rw [idx_lt hj', Option.bind_some]
    by_cases h1 : x[j].From < -1099511627776
    · exact .inr ⟨.inr true, by simp [h1], rfl⟩
    by_cases h2 : 1099511627776 < x[j].From
    · exact .inr ⟨.inr true, by simp [h1, h2], rfl⟩
    by_cases h3 : x[j].To < -1099511627776
    · exact .inr ⟨.inr true, by simp [h1, h2, h3], rfl⟩
    by_cases h4 : 1099511627776 < x[j].To
    · exact .inr ⟨.inr true, by simp [h1, h2, h3, h4], rfl⟩
    refine .inl ⟨(), by simp [h1, h2, h3, h4], fun h hh => ?_⟩
    rw [List.take_add_one, List.getElem?_eq_getElem hj'] at hh
    rcases List.mem_append.1 hh with hm | hm
    · exact hi h hm
    · simp at hm
      subst hm
      unfold Small
      omega) with ⟨u, h1, h2⟩ | ⟨t, h1, h2⟩
  · exact .inl ⟨h1, fun h hh => h2 h (by simpa using hh)⟩
  · exact .inr (by rw [h1, h2])
theorem apartPlain (a c : List ApiHold) (more : Int) (ha : ok49 a) (hc : ok49 c) (hm : ok3 more) (sa : a.length * 48 ≤ 140737488351232) (sc : c.length * 48 ≤ 140737488351232) : mFishkeep1RunApart a c more = some true := by
  unfold mFishkeep1RunApart
  rw [awake, Option.bind_some, if_pos rfl]
  by_cases h1 : more < 0
  · simp [h1]
  by_cases h2 : 1099511627776 < more
  · simp [h1, h2]
  rw [if_neg h1]
  simp only [h2, decide_false, Option.bind_some]
  rw [if_neg (by decide)]
  have hstep : ∀ (k : Nat) (x : List ApiHold), idx [a, c] (k : Int) = some x → mFishkeep1RunApart_L352 a c k () = (forM (mFishkeep1RunApart_L452 x) x.length 0 ()).bind fun t => Sum.elim (fun _ => some (.inl ())) (fun q => some q) t := fun k x hx => by
    unfold mFishkeep1RunApart_L352
    rw [hx, Option.bind_some]
  have e0 := hstep 0 a rfl
  have e1 := hstep 1 c rfl
  rcases small_model a with ⟨s1, g1⟩ | s1
  case inr =>
    rw [s1] at e0
    rw [forM_succ_inr (m := 1) (t := true) (by rw [e0]; rfl)]
    rfl
  rw [s1] at e0
  rw [forM_succ_inl (m := 1) (s' := ()) (by rw [e0]; rfl)]
  rcases small_model c with ⟨s2, g2⟩ | s2
  case inr =>
    rw [s2] at e1
    rw [forM_succ_inr (m := 0) (t := true) (by rw [e1]; rfl)]
    rfl
  rw [s2] at e1
  rw [forM_succ_inl (m := 0) (s' := ()) (by rw [e1]; rfl)]
  obtain ⟨d, hd, d0, d1, hcl⟩ := headway_model g1 g2
  simp only [Go.Fp.forM, Option.bind_some, Sum.elim_inl, hd]
  rcases forM_inv (body := mFishkeep1RunApart_L510 c more d) (fun k l => l.length = k ∧ ∀ z ∈ l, ∃ y ∈ c, z.Need = y.Need ∧ z.From = y.From + d + more) (fun t => t = true) c.length 0 [] ⟨rfl, by simp⟩ (fun j l _ hj hi => by
    obtain ⟨i1, i2⟩ := hi
    have hj' : j < c.length := by omega
    have hy := g2 _ (List.getElem_mem hj')
    unfold Small at hy
    unfold mFishkeep1RunApart_L510
    rw [idx_lt hj', Option.bind_some, chk_ok (by omega) (by omega), Option.bind_some, chk_ok (by omega) (by omega), Option.bind_some]
    by_cases h3 : 1099511627776 < c[j].From + d + more
    · exact .inr ⟨true, by simp [h3], rfl⟩
    rw [if_neg h3, chk_ok (by omega) (by omega), Option.bind_some, chk_ok (by omega) (by omega), Option.bind_some]
    by_cases h4 : 1099511627776 < c[j].To + d + more
    · exact .inr ⟨true, by simp [h4], rfl⟩
    simp only [h4, decide_false, Option.bind_some]
    rw [if_neg (by decide), room_ok (by omega) (by omega), Option.bind_some]
    refine .inl ⟨_, rfl, by simp [i1], fun z hz => ?_⟩
    rcases List.mem_append.1 hz with h | h
    · exact i2 z h
    · simp at h
      subst h
      exact ⟨_, List.getElem_mem hj', rfl, rfl⟩) with ⟨l, h3, h4⟩ | ⟨t, h3, h4⟩
  · rw [h3]
    simp only [Option.bind_some, Sum.elim_inl]
    rw [if_pos d0, conflicts_none (fun x hx z hz hmt => by
      obtain ⟨y, hy, e1, e2⟩ := h4.2 z hz
      rw [e1] at hmt
      have := hcl x hx y hy hmt
      omega)]
    rfl
  · rw [h3, h4]
    rfl
end Go.Proofs.YtljcafilceachaaDoor
