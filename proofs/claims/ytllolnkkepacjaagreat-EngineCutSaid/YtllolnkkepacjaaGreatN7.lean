/- Lines have a level for each place, and those of the whole, but at their ends: true. -/
import Derived.Test.YtllolnkkepacjaaGreatRows
import Derived.WalkKit
import Derived.ProofKit
import Derived.Test.YtllolnkkepacjaaGreatLx1
import Derived.Test.YtllolnkkepacjaaGreatO5
import Derived.OpenShut
import Derived.ShutString
import Derived.ChangeOld
import Derived.Below
import Derived.SizedLaws
set_option maxRecDepth 100000
namespace Go.Proofs.YtllolnkkepacjaaGreat.engineCut
open Go.ChangeShapes Go.WideShapes Go.ChangeAt Go.RowKit
set_option linter.unusedVariables false
theorem own:ownKnob Tryz.prog.godebug=none:=by kernel_rfl
theorem laidOut:laidOutB Tryz.prog=true:=by kernel_rfl
theorem lifted (os:Os)(started:os.Started)(H:Type)(enc:TypeId×Value→H):
 ReturnsInHanded {} Tryz.checked os 12 .any (Rows.engineCutSpec.pre6 enc Tryz.prog Tryz.f12 Rows.engineCutRow.domain false) (Rows.engineCutSpec.post enc Tryz.prog Tryz.f12 false true false false):=by
 refine returnsInHanded_of_change_sized (C:=Tryz.checked) own started (by kernel_rfl) Tryz.func12
  (ChangeSpec.witness6 (enc:=enc) (C:=Tryz.checked) false ⟨#[],#[.slice none 0 0,.int .i8 0,.slice none 0 0],[]⟩ 8 (by kernel_rfl) (by kernel_rfl) (by kernel_rfl) (by kernel_rfl)) ?_
 intro W base args ds gs before hval0 hW hcnd hsz0 _;have hsz:(DataW.weightsEach Tryz.prog (Tryz.f12.params.toList++Rows.engineCutSpec.plain.varTypes Tryz.prog) (ds++gs)).all (· ≤reachBytes)=true:=hsz0;clear hsz0;have hval: ∀(j:Nat) t v,Tryz.f12.params[j]?=some t→args[j]?=some v→Value.okWide Tryz.prog W .any base t v:=hval0;have hW':=hW;obtain⟨p,q,hA0,hV,rfl,hfz,hnd⟩:=hW;have hA:DataW.TrodAll enc Tryz.prog W 0 (fun _=>true) true Tryz.f12.params.toList args.toList ds p:=hA0;rw[Tryz.params12]at hA hval hsz;obtain⟨v0,vs0,d0,ds0,p0,q0,hargs,rfl,rfl,h0,r0⟩:=trodAll_cons hA;obtain⟨v1,vs1,d1,ds1,p1,q1,rfl,rfl,rfl,h1,r1⟩:=trodAll_cons r0;obtain⟨v2,vs2,d2,ds2,p2,q2,rfl,rfl,rfl,h2,r2⟩:=trodAll_cons r1;obtain⟨rfl,rfl,rfl⟩:=trodAll_nil r2
 obtain rfl:args=#[v0,v1,v2]:=by cases args;simp_all
 obtain⟨rfl,rfl⟩:=trodVars_none hV;clear hA0 hval0;have k0:=h0
 have lt0: ∀x∈p0,x.block<W.heap.size:=by obtain⟨m,hm⟩:=k0;exact DataW.trod_lt m _ _ _ hm
 have wt0: ∀n,n∈d0.weights Tryz.prog 30→n≤reachBytes:=by
  intro n hn;have:=List.all_eq_true.1 hsz n (by simp[DataW.weightsEach,hn])
  simpa using this
 obtain⟨A0,n0,c0,l0,rfl,hn0,-,HR0,hb0⟩:=open_arg (b:=1) Tryz.underlying30 Tryz.underlying22 (by kernel_rfl) (by kernel_rfl) (hval 0 30 v0 rfl rfl) h0 wt0;have k1:=h1
 have lt1: ∀x∈p1,x.block<W.heap.size:=by obtain⟨m,hm⟩:=k1;exact DataW.trod_lt m _ _ _ hm
 obtain⟨z1,rfl,rfl,rfl,wz1⟩:=open_int Tryz.underlying28 (hval 1 28 v1 rfl rfl) h1;have k2:=h2
 have lt2: ∀x∈p2,x.block<W.heap.size:=by obtain⟨m,hm⟩:=k2;exact DataW.trod_lt m _ _ _ hm
 have wt2: ∀n,n∈d2.weights Tryz.prog 64→n≤reachBytes:=by
  intro n hn;have:=List.all_eq_true.1 hsz n (by simp[DataW.weightsEach,hn])
  simpa using this
 obtain⟨A2,n2,c2,l2,rfl,hn2,-,HR2,hb2⟩:=open_arg (b:=8) Tryz.underlying64 Tryz.underlying3 (by kernel_rfl) (by kernel_rfl) (hval 2 64 v2 rfl rfl) h2 wt2;clear hval;refine(cut_ok HR0 hn0 z1 HR2 hn2 (by simp only[reachBytes]at hb2;omega)).mono fun e W' ⟨he,bel⟩=> ?_;subst he;exact⟨_,rfl,_,_,_,[],_,[],hW',trodAll_mk1 (shut_bool Tryz.underlying4 _),(trodAll_cons_mk (Below.trod laidOut (by kernel_rfl) (of_decide_eq_true (by kernel_rfl)) k0 bel lt0) (trodAll_cons_mk (Below.trod laidOut (by kernel_rfl) (of_decide_eq_true (by kernel_rfl)) k1 bel lt1) (trodAll_cons_mk (Below.trod laidOut (by kernel_rfl) (of_decide_eq_true (by kernel_rfl)) k2 bel lt2) trodAll_mk0))),rfl,bel.frame _,fun h=>by cases h⟩
theorem over:Rows.engineCutRow.holds Tryz.pinned (OpenSpec.ofChange Rows.engineCutSpec):=
 OpenClaim.holds_of_wide 12 Tryz.f12 rfl rfl rfl rfl rfl rfl rfl ⟨rfl,rfl,rfl,rfl,rfl⟩ rfl rfl rfl rfl rfl (by kernel_rfl) Tryz.func12 (by kernel_rfl)
  (of_decide_eq_true (by kernel_rfl)) (by unfold Func.isWrapper;first|(rw[if_pos (by decide+kernel)];kernel_rfl)|(rw[if_neg (by decide+kernel)];exact⟨rfl,rfl⟩))
  (fun os started H enc _=>lifted os started H enc)
theorem proved:Rows.EngineCutSaid:=over
#print axioms proved
end Go.Proofs.YtllolnkkepacjaaGreat.engineCut
