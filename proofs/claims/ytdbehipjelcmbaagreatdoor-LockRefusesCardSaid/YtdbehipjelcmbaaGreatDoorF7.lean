import Derived.Test.YtdbehipjelcmbaaGreatDoorQZP6
import Derived.Test.YtdbehipjelcmbaaGreatDoorF3
import Derived.Test.YtdbehipjelcmbaaGreatDoorRows
import Derived.Test.YtdbehipjelcmbaaGreatDoorF5
set_option linter.unusedVariables false
set_option linter.unusedSimpArgs false
set_option linter.unusedSectionVars false
namespace Go.Proofs.YtdbehipjelcmbaaGreatDoor.Inv
open Go.RowKit Go.Fp
noncomputable def mLockNew (a : v6) : Option (Int) :=
 (P6 a).bind fun c =>
 if c ≠ 0 then (
 some c)
 else (
 (q0H a).bind (K5 fun d _ =>
 if d ≠ 0 then (
 some d)
 else (
 none)))
noncomputable def mFishkeep1LockRefuses (a : v6) (_ : List J1) : Option (Bool) :=
 (K4).bind fun c =>
 if c = true then (
 (mLockNew a).bind fun d =>
 if d ≠ 0 then (
 some true)
 else (
 none))
 else (
 some false)
end Go.Proofs.YtdbehipjelcmbaaGreatDoor.Inv
namespace Go.Proofs.YtdbehipjelcmbaaGreatDoor.Inv
open Go.RowKit Go.Fp
end Go.Proofs.YtdbehipjelcmbaaGreatDoor.Inv
namespace Go.Proofs.YtdbehipjelcmbaaGreatDoor.Inv
open Go.RowKit Go.Fp
set_option maxRecDepth 20000
open Go.Fp renaming q4t → Te, q6q → Tg, q5Y → Cr, q2V → Cs, q3M → Ct, q3d → Ck, Q4 → Xn, V5 → Xr, q5N → sD, q6d → sn2, z2L → uB, q5I → uW, q3L → fE, q7L → bS, z2V → o1, q7Y → q2
theorem z3I (b : k8) (R : Hp) (a : v6) (p q r s t u c d e f) (A : FZ RT.str b.w p q a.Stations) (B : FZ j3 b.w r s a.Sections) (k : FZ w6 b.w t u a.Links) (l : FZ j6 b.w c d a.Signals) (m : FZ w7 b.w e f a.Gates) (n) (hm : mLockNew a = some n):
 w8 Tryz.prog 6 [.agg #[sv p a.Stations q, sv r a.Sections s, sv t a.Links u, sv c a.Signals d, sv e a.Gates f]] b (R) (fun v b' hp' => .tuple #[.pointer none, iv n] = v ∧ R = hp') := by
 refine fE 78 Tryz.func6 rfl Tryz.ntmps6 rfl ?_
 unfold mLockNew at hm
 refine Cr<|tD (uB _ rfl rfl) ?_
 rintro _ _ ⟨C, rfl, rfl⟩
 refine aS rfl<|aS rfl<|Te<|Cs<|Cr<|tS (sD (vs := [_, _, _, _, _]) 0 5 rfl q0o rfl rfl rfl) ?_
 obtain ⟨x, g, hm⟩ := bS hm
 refine tD (uW _ z6K rfl (fun w ho => q7i _ [] a p q r s t u c d e f (A.old ho) (B.old ho) (k.old ho) (l.old ho) (m.old ho) x g) (fun _ _ _ h => h.2.symm)) ?_
 rintro _ _ ⟨⟨_, rfl, _⟩, rfl⟩
 refine aS rfl<|Te<|Cr<|mV rfl<|tS (q2 rfl rfl)<|Te<|cI hm rfl (fun hm => ?_) fun hm => ?_
 refine Cr<|mV rfl<|aS rfl<|aS rfl<|Te<|Ct<|Xr ?_
 obtain rfl := o1 hm
 exact rT ⟨rfl, rfl⟩ lr
 refine Ck<|Xn<|Cr<|tS (sD (vs := [_, _, _, _, _]) 0 5 rfl q0o rfl rfl rfl) ?_
 obtain ⟨⟨y, z⟩, i, hm⟩ := bS hm
 have hm := J4 hm
 refine Tg _ rfl j3E rfl (q7K _ _ a p q r s t u c d e f A B k l m y z i) ?_
 rintro _ D _ j ⟨E, F, o, rfl, rfl, G, H⟩
 refine q5k [] [_] o R rfl<|mV rfl<|tS (j5 rfl rfl)<|tS (j5 rfl rfl)<|aS rfl<|aS rfl<|Te<|Cs<|Cr<|mV rfl<|tS (q2 rfl rfl)<|Te<|cI hm rfl (fun hm => ?_) fun hm => ?_
 refine Cr<|mV rfl<|aS rfl<|aS rfl<|Te<|Ct<|Xr ?_
 obtain rfl := o1 hm
 exact rT ⟨rfl, rfl⟩ j
 refine Ck<|Xn<|Cs ?_
 cases hm
theorem cFishkeep1LockRefuses (b : k8) (R : Hp) (a : v6) (c n o p q r s d e f g k l) (A : FZ RT.str b.w n o a.Stations) (B : FZ j3 b.w p q a.Sections) (t : FZ w6 b.w r s a.Links) (u : FZ j6 b.w d e a.Signals) (x : FZ w7 b.w f g a.Gates) (C : FZ q0U b.w k l c) (m) (hm : mFishkeep1LockRefuses a c = some m):
 w8 Tryz.prog 4 [.agg #[sv n a.Stations o, sv p a.Sections q, sv r a.Links s, sv d a.Signals e, sv f a.Gates g], sv k c l] b (R) (fun v b' hp' => bv m = v ∧ R = hp') := by
 refine fE 43 Tryz.func4 rfl Tryz.ntmps4 rfl ?_
 unfold mFishkeep1LockRefuses at hm
 refine Cr<|tD (uB _ rfl rfl) ?_
 rintro _ _ ⟨D, rfl, rfl⟩
 refine aS rfl<|Te<|Cs<|Cr ?_
 obtain ⟨y, i, hm⟩ := bS hm
 refine tD (uW _ j5E rfl (fun w ho => q4G _ [] y i) (fun _ _ _ h => h.2.symm)) ?_
 rintro _ _ ⟨⟨_, rfl, _⟩, rfl⟩
 refine tS (sn2 rfl)<|Te<|cM hm rfl (fun hm => ?_) fun hm => ?_
 refine Cr<|aS rfl<|Te<|Ct<|Xr ?_
 obtain rfl := o1 hm
 exact rO ⟨rfl, rfl⟩ lr
 refine Ck<|Xn<|Cr<|tS (sD (vs := [_, _, _, _, _]) 0 5 rfl q0o rfl rfl rfl) ?_
 obtain ⟨z, j, hm⟩ := bS hm
 refine tD (uW _ j5t rfl (fun w ho => z3I _ [] a n o p q r s d e f g (A.old ho) (B.old ho) (t.old ho) (u.old ho) (x.old ho) z j) (fun _ _ _ h => h.2.symm)) ?_
 rintro _ _ ⟨⟨_, rfl, _⟩, rfl⟩
 refine mV rfl<|tS (j5 rfl rfl)<|tS (j5 rfl rfl)<|aS rfl<|aS rfl<|Te<|Cs<|Cr<|mV rfl<|tS (q2 rfl rfl)<|Te<|cI hm rfl (fun hm => ?_) fun hm => ?_
 refine Cr<|aS rfl<|Te<|Ct<|Xr ?_
 obtain rfl := o1 hm
 exact rO ⟨rfl, rfl⟩ lr
 refine Ck<|Xn<|Cs<|Cs ?_
 cases hm
end Go.Proofs.YtdbehipjelcmbaaGreatDoor.Inv
