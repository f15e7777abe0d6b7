/- Bytes that stand for no character are as U+FFFD: a text and its characters written anew have the same paragraphs, resolved alike: true, for every input of bulk at most 1048576. -/
import Derived.Test.YtllolnkkepacjaaGreatRows
import Derived.WalkKit
import Derived.ProofKit
import Derived.Test.YtllolnkkepacjaaGreatEb1
import Derived.Test.YtllolnkkepacjaaGreatU1
import Derived.Test.YtllolnkkepacjaaGreatO5
import Derived.OpenShut
import Derived.ShutString
import Derived.ChangeOld
import Derived.Below
import Derived.SizedLaws
import Derived.Deep.CondSized
set_option maxRecDepth 100000
namespace Go.Proofs.YtllolnkkepacjaaGreat.engineBytes
open Go.ChangeShapes Go.WideShapes Go.ChangeAt Go.RowKit
set_option linter.unusedVariables false
theorem own:ownKnob Tryz.prog.godebug=none:=by kernel_rfl
theorem laidOut:laidOutB Tryz.prog=true:=by kernel_rfl
theorem str_small {H:Type}{ds:List (DataW H)}{s:ByteArray}(hk:Rows.uptoSmall H ds=true)(hd: .lit (.string s.data.toList)∈ds):s.size≤1048576:=by have h:Rows.uptoBulkAll ds≤1048576:=of_decide_eq_true hk;have h1:=bulk_part hd;simp only[Rows.uptoBulk,Array.length_toList]at h1;have h2:s.data.size=s.size:=rfl;omega
theorem lifted (os:Os)(started:os.Started)(H:Type)(enc:TypeId×Value→H)(F:Stop.Interp):
 ReturnsInHanded {} Tryz.checked os 14 .any ((Rows.OpenSpec.upto Rows.engineBytesSpec).pre6 enc Tryz.prog Tryz.f14 Rows.engineBytesUptoRow.domain false) (((Rows.OpenSpec.upto Rows.engineBytesSpec).at F).post enc Tryz.prog Tryz.f14 false true false false):=by
 refine returnsInHanded_of_cond_sized (C:=Tryz.checked) (s:=Rows.OpenSpec.upto Rows.engineBytesSpec) (k:=Rows.uptoSmall) rfl own started (by kernel_rfl) Tryz.func14
  (OpenSpec.witness (enc:=enc) (C:=Tryz.checked) (s:=Rows.OpenSpec.upto Rows.engineBytesSpec) (k:=Rows.uptoSmall) rfl false ⟨#[],#[.agg #[.int .u8 0,.slice none 0 0],.string ⟨#[]⟩,.int .i8 0],[]⟩ 8 (by kernel_rfl) (by kernel_rfl) (by kernel_rfl)
   (x:=([.agg [.lit (.int .u8 0),.nil],.lit (.string []),.lit (.int .i8 0)],[],[])) (by kernel_rfl) rfl (by kernel_rfl)) ?_
 intro W base args ds gs before hval0 hW hcnd hk hsz0 _;have hsz:(DataW.weightsEach Tryz.prog (Tryz.f14.params.toList++Rows.engineBytesSpec.plain.varTypes Tryz.prog) (ds++gs)).all (· ≤reachBytes)=true:=hsz0;clear hsz0;have hval: ∀(j:Nat) t v,Tryz.f14.params[j]?=some t→args[j]?=some v→Value.okWide Tryz.prog W .any base t v:=hval0;have hW':=hW;obtain⟨p,q,hA0,hV,rfl,hfz,hnd⟩:=hW;have hA:DataW.TrodAll enc Tryz.prog W 0 (fun _=>true) true Tryz.f14.params.toList args.toList ds p:=hA0;rw[Tryz.params14]at hA hval hsz;obtain⟨v0,vs0,d0,ds0,p0,q0,hargs,rfl,rfl,h0,r0⟩:=trodAll_cons hA;obtain⟨v1,vs1,d1,ds1,p1,q1,rfl,rfl,rfl,h1,r1⟩:=trodAll_cons r0;obtain⟨v2,vs2,d2,ds2,p2,q2,rfl,rfl,rfl,h2,r2⟩:=trodAll_cons r1;obtain⟨rfl,rfl,rfl⟩:=trodAll_nil r2
 obtain rfl:args=#[v0,v1,v2]:=by cases args;simp_all
 obtain⟨rfl,rfl⟩:=trodVars_none hV;clear hA0 hval0;have k0:=h0
 have lt0: ∀x∈p0,x.block<W.heap.size:=by obtain⟨m,hm⟩:=k0;exact DataW.trod_lt m _ _ _ hm
 have wt0: ∀n,n∈d0.weights Tryz.prog 25→n≤reachBytes:=by
  intro n hn;have:=List.all_eq_true.1 hsz n (by simp[DataW.weightsEach,hn])
  simpa using this
 obtain⟨rest0,ch0,HP0,-⟩:=open_props (hval 0 25 v0 rfl rfl) h0 wt0;have k1:=h1
 have lt1: ∀x∈p1,x.block<W.heap.size:=by obtain⟨m,hm⟩:=k1;exact DataW.trod_lt m _ _ _ hm
 obtain⟨s1,rfl,rfl,rfl,ws1⟩:=Go.ChangeMaps.open_string Tryz.underlying9 (hval 1 9 v1 rfl rfl) h1;have hs1:s1.size≤1048576:=str_small hk (by simp);have k2:=h2
 have lt2: ∀x∈p2,x.block<W.heap.size:=by obtain⟨m,hm⟩:=k2;exact DataW.trod_lt m _ _ _ hm
 obtain⟨z2,rfl,rfl,rfl,wz2⟩:=open_int Tryz.underlying28 (hval 2 28 v2 rfl rfl) h2;clear hval;change Calls _ _ _ _ (fun e W'=> ∃v,e= .returned v∧Rows.engineBytesSpec.post enc Tryz.prog Tryz.f14 false true false false _ _ v W');refine(bytes_ok HP0 hs1 z2).mono fun e W' ⟨he,bel⟩=> ?_;subst he;exact⟨_,rfl,_,_,_,[],_,[],hW',trodAll_mk1 (shut_bool Tryz.underlying4 _),(trodAll_cons_mk (Below.trod laidOut (by kernel_rfl) (of_decide_eq_true (by kernel_rfl)) k0 bel lt0) (trodAll_cons_mk (Below.trod laidOut (by kernel_rfl) (of_decide_eq_true (by kernel_rfl)) k1 bel lt1) (trodAll_cons_mk (Below.trod laidOut (by kernel_rfl) (of_decide_eq_true (by kernel_rfl)) k2 bel lt2) trodAll_mk0))),rfl,bel.frame _,fun h=>by cases h⟩
theorem proved:Rows.EngineBytesUptoSaid:=
 OpenClaim.holds_of_cond 14 Tryz.f14 rfl rfl rfl rfl rfl rfl rfl ⟨rfl,rfl,rfl,rfl,rfl⟩ rfl rfl rfl rfl rfl (by kernel_rfl) Tryz.func14 (by kernel_rfl)
  (of_decide_eq_true (by kernel_rfl)) (by unfold Func.isWrapper;first|(rw[if_pos (by decide+kernel)];kernel_rfl)|(rw[if_neg (by decide+kernel)];exact⟨rfl,rfl⟩))
  (fun os started H enc _ F=>lifted os started H enc F)
#print axioms proved
end Go.Proofs.YtllolnkkepacjaaGreat.engineBytes
