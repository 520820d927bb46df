import Derived.Test.YtdbehipjelcmbaaGreatDoorQZP5
import Derived.Test.YtdbehipjelcmbaaGreatDoorF3
import Derived.Test.YtdbehipjelcmbaaGreatDoorRows
import Derived.Test.YtdbehipjelcmbaaGreatDoorF5
set_option linter.unusedVariables false
set_option linter.unusedSimpArgs false
set_option linter.unusedSectionVars false
namespace Go.Proofs.YtdbehipjelcmbaaGreatDoor.Inv
open Go.RowKit Go.Fp
noncomputable def mLockNew (a : ApiNet) : Option (Int) :=
 (Y4 a).bind fun c =>
 if c ≠ 0 then (
 some c)
 else (
 (G8 a).bind (K1 fun d _ =>
 if d ≠ 0 then (
 some d)
 else (
 none)))
noncomputable def mFishkeep1LockKeeps (a : ApiNet) (_ : List Fishkeep1Call) : Option (Bool) :=
 (J7).bind fun c =>
 if c = true then (
 (mLockNew a).bind fun d =>
 if d ≠ 0 then (
 some true)
 else (
 none))
 else (
 some false)
end Go.Proofs.YtdbehipjelcmbaaGreatDoor.Inv
namespace Go.Proofs.YtdbehipjelcmbaaGreatDoor.Inv
open Go.RowKit Go.Fp
end Go.Proofs.YtdbehipjelcmbaaGreatDoor.Inv
namespace Go.Proofs.YtdbehipjelcmbaaGreatDoor.Inv
open Go.RowKit Go.Fp
set_option maxRecDepth 20000
open Go.Fp renaming q4H → Te, q6F → Tg, q6s → Cr, q2J → Cs, q3X → Ct, q3q → Ck, j5 → Xn, J3 → Xr, q6l → sD, q5E → sn2, z2Q → uB, q6h → uW, q3Q → fE, q8S → bS, z2S → o1, q8t → q2
theorem z2C (b : Base) (R : Hp) (a : ApiNet) (p q r s t u c d e f) (A : FZ RT.str b.w p q a.Stations) (B : FZ rApiSection b.w r s a.Sections) (k : FZ rApiLink b.w t u a.Links) (l : FZ rApiSignal b.w c d a.Signals) (m : FZ rApiGate b.w e f a.Gates) (n) (hm : mLockNew a = some n):
 CallsG Tryz.prog 6 [.agg #[sv p a.Stations q, sv r a.Sections s, sv t a.Links u, sv c a.Signals d, sv e a.Gates f]] b (R) (fun v b' hp' => .tuple #[.pointer none, iv n] = v ∧ R = hp') := by
 refine fE 78 Tryz.func6 rfl Tryz.ntmps6 rfl ?_
 unfold mLockNew at hm
 refine Cr<|tD (uB _ rfl rfl) ?_
 rintro _ _ ⟨C, rfl, rfl⟩
 refine aS rfl<|aS rfl<|Te<|Cs<|Cr<|tS (sD (vs := [_, _, _, _, _]) 0 5 rfl G9 rfl rfl rfl) ?_
 obtain ⟨x, g, hm⟩ := bS hm
 refine tD (uW _ z5I rfl (fun w ho => q6t _ [] a p q r s t u c d e f (A.old ho) (B.old ho) (k.old ho) (l.old ho) (m.old ho) x g) (fun _ _ _ h => h.2.symm)) ?_
 rintro _ _ ⟨⟨_, rfl, _⟩, rfl⟩
 refine aS rfl<|Te<|Cr<|mV rfl<|tS (q2 rfl rfl)<|Te<|cI hm rfl (fun hm => ?_) fun hm => ?_
 refine Cr<|mV rfl<|aS rfl<|aS rfl<|Te<|Ct<|Xr ?_
 obtain rfl := o1 hm
 exact rT ⟨rfl, rfl⟩ lr
 refine Ck<|Xn<|Cr<|tS (sD (vs := [_, _, _, _, _]) 0 5 rfl G9 rfl rfl rfl) ?_
 obtain ⟨⟨y, z⟩, i, hm⟩ := bS hm
 have hm := Q3 hm
 refine Tg _ rfl j0g rfl (q5n _ _ a p q r s t u c d e f A B k l m y z i) ?_
 rintro _ D _ j ⟨E, F, o, rfl, rfl, G, H⟩
 refine q4c [] [_] o R rfl<|mV rfl<|tS (z5 rfl rfl)<|tS (z5 rfl rfl)<|aS rfl<|aS rfl<|Te<|Cs<|Cr<|mV rfl<|tS (q2 rfl rfl)<|Te<|cI hm rfl (fun hm => ?_) fun hm => ?_
 refine Cr<|mV rfl<|aS rfl<|aS rfl<|Te<|Ct<|Xr ?_
 obtain rfl := o1 hm
 exact rT ⟨rfl, rfl⟩ j
 refine Ck<|Xn<|Cs ?_
 cases hm
theorem cFishkeep1LockKeeps (b : Base) (R : Hp) (a : ApiNet) (c n o p q r s d e f g k l) (A : FZ RT.str b.w n o a.Stations) (B : FZ rApiSection b.w p q a.Sections) (t : FZ rApiLink b.w r s a.Links) (u : FZ rApiSignal b.w d e a.Signals) (x : FZ rApiGate b.w f g a.Gates) (C : FZ rFishkeep1Call b.w k l c) (m) (hm : mFishkeep1LockKeeps a c = some m):
 CallsG Tryz.prog 3 [.agg #[sv n a.Stations o, sv p a.Sections q, sv r a.Links s, sv d a.Signals e, sv f a.Gates g], sv k c l] b (R) (fun v b' hp' => bv m = v ∧ R = hp') := by
 refine fE 73 Tryz.func3 rfl Tryz.ntmps3 rfl ?_
 unfold mFishkeep1LockKeeps at hm
 refine Cr<|tD (uB _ rfl rfl) ?_
 rintro _ _ ⟨D, rfl, rfl⟩
 refine aS rfl<|Te<|Cs<|Cr ?_
 obtain ⟨y, i, hm⟩ := bS hm
 refine tD (uW _ j3T rfl (fun w ho => q3Z _ [] y i) (fun _ _ _ h => h.2.symm)) ?_
 rintro _ _ ⟨⟨_, rfl, _⟩, rfl⟩
 refine tS (sn2 rfl)<|Te<|cM hm rfl (fun hm => ?_) fun hm => ?_
 refine Cr<|aS rfl<|Te<|Ct<|Xr ?_
 obtain rfl := o1 hm
 exact rO ⟨rfl, rfl⟩ lr
 refine Ck<|Xn<|Cr<|tS (sD (vs := [_, _, _, _, _]) 0 5 rfl G9 rfl rfl rfl) ?_
 obtain ⟨z, j, hm⟩ := bS hm
 refine tD (uW _ j3I rfl (fun w ho => z2C _ [] a n o p q r s d e f g (A.old ho) (B.old ho) (t.old ho) (u.old ho) (x.old ho) z j) (fun _ _ _ h => h.2.symm)) ?_
 rintro _ _ ⟨⟨_, rfl, _⟩, rfl⟩
 refine mV rfl<|tS (z5 rfl rfl)<|tS (z5 rfl rfl)<|aS rfl<|aS rfl<|Te<|Cs<|Cr<|mV rfl<|tS (q2 rfl rfl)<|Te<|cI hm rfl (fun hm => ?_) fun hm => ?_
 refine Cr<|mV rfl<|tS (z6X rfl rfl rfl j2T)<|aS rfl<|Te<|Ct<|Xr ?_
 obtain rfl := o1 hm
 exact rO ⟨rfl, rfl⟩ lr
 refine Ck<|Xn<|Cs ?_
 cases hm
end Go.Proofs.YtdbehipjelcmbaaGreatDoor.Inv
