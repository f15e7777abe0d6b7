/- furrowlaw21.EngineApart returns true for every input of bulk at most 1048576: what stands within an isolate changes nothing outside it. -/
import Derived.Test.YtllolnkkepacjaaGreatRows
import Derived.WalkKit
import Derived.ProofKit
import Derived.Test.YtllolnkkepacjaaGreatA1
import Derived.Test.YtllolnkkepacjaaGreatAw1
import Derived.OpenShut
import Derived.ShutString
import Derived.ChangeOld
import Derived.Below
import Derived.JoinedCond
import Derived.Test.YtllolnkkepacjaaGreatU1
set_option maxRecDepth 100000
set_option maxHeartbeats 1000000
namespace Go.Proofs.YtllolnkkepacjaaGreat.engineApart
open Go.ChangeShapes Go.WideShapes Go.ChangeAt Go.RowKit
open Go.ChangeMaps (open_string shut_string)
set_option linter.unusedVariables false
theorem own:ownKnob Tryz.prog.godebug=none:=by kernel_rfl
theorem laidOut:laidOutB Tryz.prog=true:=by kernel_rfl
def IsRow (k:IntKind)(w:World)(a:Option Addr)(len cap:Nat)(zs:List Int):Prop:=
 (a=none∧len=0∧cap=0∧zs=[])∨
 ∃x,a=some x∧len≤cap∧cap≤maxLen∧zs.length=cap∧(∀i,i<zs.length→w.cell? (x.add i)=some (.int k (zs.getD i 0)))∧ ∀n∈zs,(Lit.int k n).wf=true
theorem walk (a0:Option Addr)(len0 cap0:Nat)(z0:List Int)(a1:Option Addr)(len1 cap1:Nat)(z1:List Int)(a2:Option Addr)(len2 cap2:Nat)(z2:List Int)(a3:Option Addr)(len3 cap3:Nat)(z3:List Int)(a4:Int)(a5:Int)(w:World)(w0:IsRow .u8 w a0 len0 cap0 z0)(hs0:cap0≤1048576)(w1:IsRow .u8 w a1 len1 cap1 z1)(hs1:cap1≤1048576)(w2:IsRow .u8 w a2 len2 cap2 z2)(hs2:cap2≤1048576)(w3:IsRow .u8 w a3 len3 cap3 z3)(hs3:cap3≤1048576)(w4:(Lit.int .u8 a4).wf=true)(w5:(Lit.int .i8 a5).wf=true):
 Calls Tryz.prog 9 #[.slice a0 len0 cap0,.slice a1 len1 cap1,.slice a2 len2 cap2,.slice a3 len3 cap3,.int .u8 a4,.int .i8 a5] w fun e w'=>e= .returned (.bool true)∧Below w.heap.size w w':=by
 obtain⟨l0,rfl,hc0,-,rd0,-⟩:=rd_of_row w0;obtain⟨l1,rfl,hc1,-,rd1,-⟩:=rd_of_row w1;obtain⟨l2,rfl,hc2,-,rd2,-⟩:=rd_of_row w2;obtain⟨l3,rfl,hc3,-,rd3,-⟩:=rd_of_row w3;exact apart_ok rd0 rfl (by omega) rd1 rfl (by omega) rd2 rfl (by omega) rd3 rfl (by omega) a4 a5
theorem lifted (os:Os)(started:os.Started)(H:Type)(enc:TypeId×Value→H)(F:Stop.Interp):
 ReturnsInHanded {} Tryz.checked os 9 .any ((Rows.OpenSpec.upto Rows.engineApartSpec).pre6 enc Tryz.prog Tryz.f9 Rows.engineApartUptoRow.domain false) (((Rows.OpenSpec.upto Rows.engineApartSpec).at F).post enc Tryz.prog Tryz.f9 false true false false):=by
 refine returnsInHanded_of_cond (C:=Tryz.checked) (s:=Rows.OpenSpec.upto Rows.engineApartSpec) (k:=Rows.uptoSmall) rfl own started (by kernel_rfl) Tryz.func9
  (OpenSpec.witness (enc:=enc) (C:=Tryz.checked) (s:=Rows.OpenSpec.upto Rows.engineApartSpec) (k:=Rows.uptoSmall) rfl false ⟨#[],#[.slice none 0 0,.slice none 0 0,.slice none 0 0,.slice none 0 0,.int .u8 0,.int .i8 0],[]⟩ 8 (by kernel_rfl) (by kernel_rfl) (by kernel_rfl)
   (x:=([.nil,.nil,.nil,.nil,.lit (.int .u8 0),.lit (.int .i8 0)],[],[])) (by kernel_rfl) rfl (by kernel_rfl)) ?_
 intro W base args ds gs before hval0 hW hcnd hk _;have hval: ∀(j:Nat) t v,Tryz.f9.params[j]?=some t→args[j]?=some v→Value.okWide Tryz.prog W .any base t v:=hval0;have hW':=hW;obtain⟨p,q,hA0,hV,rfl,hfz,hnd⟩:=hW;have hA:DataW.TrodAll enc Tryz.prog W 0 (fun _=>true) true Tryz.f9.params.toList args.toList ds p:=hA0;rw[Tryz.params9]at hA hval;obtain⟨v0,vs0,d0,ds0,p0,q0,hargs,rfl,rfl,h0,r0⟩:=trodAll_cons hA;obtain⟨v1,vs1,d1,ds1,p1,q1,rfl,rfl,rfl,h1,r1⟩:=trodAll_cons r0;obtain⟨v2,vs2,d2,ds2,p2,q2,rfl,rfl,rfl,h2,r2⟩:=trodAll_cons r1;obtain⟨v3,vs3,d3,ds3,p3,q3,rfl,rfl,rfl,h3,r3⟩:=trodAll_cons r2;obtain⟨v4,vs4,d4,ds4,p4,q4,rfl,rfl,rfl,h4,r4⟩:=trodAll_cons r3;obtain⟨v5,vs5,d5,ds5,p5,q5,rfl,rfl,rfl,h5,r5⟩:=trodAll_cons r4;obtain⟨rfl,rfl,rfl⟩:=trodAll_nil r5
 obtain rfl:args=#[v0,v1,v2,v3,v4,v5]:=by cases args;simp_all
 obtain⟨rfl,rfl⟩:=trodVars_none hV;obtain⟨a0,len0,cap0,rfl⟩:=okWide_slice Tryz.underlying30 (hval 0 30 v0 rfl rfl);have k0:=h0
 have lt0: ∀x∈p0,x.block<W.heap.size:=by obtain⟨m,hm⟩:=k0;exact DataW.trod_lt m _ _ _ hm
 obtain⟨z0,w0,hs0⟩: ∃zs,IsRow .u8 W a0 len0 cap0 zs∧cap0≤1048576:=by
  obtain⟨fuel,hf⟩:=h0
  rcases open_ints Tryz.underlying30 Tryz.underlying22 (by kernel_rfl) hf with⟨hcs,_⟩|⟨x,l,c,zs,hcs,_,hl,hm,hz,hx,hcell,hwz⟩
  ·simp[Value.cells]at hcs;obtain⟨rfl,rfl,rfl⟩:=hcs;exact⟨[],.inl ⟨rfl,rfl,rfl,rfl⟩,by simp⟩
  ·simp[Value.cells]at hcs;obtain⟨rfl,rfl,rfl⟩:=hcs
   have hz2:zs.length=cap0:=by simpa using hz
   have hb:=slice_small (d:=d0) hk (by simp) (Prod.mk.inj hx).1;simp only[lits,List.length_map,List.length_take,List.length_drop]at hb;exact⟨zs,.inr ⟨_,rfl,hl,hm,hz2,hcell,hwz⟩,by omega⟩
 obtain⟨a1,len1,cap1,rfl⟩:=okWide_slice Tryz.underlying30 (hval 1 30 v1 rfl rfl);have k1:=h1
 have lt1: ∀x∈p1,x.block<W.heap.size:=by obtain⟨m,hm⟩:=k1;exact DataW.trod_lt m _ _ _ hm
 obtain⟨z1,w1,hs1⟩: ∃zs,IsRow .u8 W a1 len1 cap1 zs∧cap1≤1048576:=by
  obtain⟨fuel,hf⟩:=h1
  rcases open_ints Tryz.underlying30 Tryz.underlying22 (by kernel_rfl) hf with⟨hcs,_⟩|⟨x,l,c,zs,hcs,_,hl,hm,hz,hx,hcell,hwz⟩
  ·simp[Value.cells]at hcs;obtain⟨rfl,rfl,rfl⟩:=hcs;exact⟨[],.inl ⟨rfl,rfl,rfl,rfl⟩,by simp⟩
  ·simp[Value.cells]at hcs;obtain⟨rfl,rfl,rfl⟩:=hcs
   have hz2:zs.length=cap1:=by simpa using hz
   have hb:=slice_small (d:=d1) hk (by simp) (Prod.mk.inj hx).1;simp only[lits,List.length_map,List.length_take,List.length_drop]at hb;exact⟨zs,.inr ⟨_,rfl,hl,hm,hz2,hcell,hwz⟩,by omega⟩
 obtain⟨a2,len2,cap2,rfl⟩:=okWide_slice Tryz.underlying30 (hval 2 30 v2 rfl rfl);have k2:=h2
 have lt2: ∀x∈p2,x.block<W.heap.size:=by obtain⟨m,hm⟩:=k2;exact DataW.trod_lt m _ _ _ hm
 obtain⟨z2,w2,hs2⟩: ∃zs,IsRow .u8 W a2 len2 cap2 zs∧cap2≤1048576:=by
  obtain⟨fuel,hf⟩:=h2
  rcases open_ints Tryz.underlying30 Tryz.underlying22 (by kernel_rfl) hf with⟨hcs,_⟩|⟨x,l,c,zs,hcs,_,hl,hm,hz,hx,hcell,hwz⟩
  ·simp[Value.cells]at hcs;obtain⟨rfl,rfl,rfl⟩:=hcs;exact⟨[],.inl ⟨rfl,rfl,rfl,rfl⟩,by simp⟩
  ·simp[Value.cells]at hcs;obtain⟨rfl,rfl,rfl⟩:=hcs
   have hz2:zs.length=cap2:=by simpa using hz
   have hb:=slice_small (d:=d2) hk (by simp) (Prod.mk.inj hx).1;simp only[lits,List.length_map,List.length_take,List.length_drop]at hb;exact⟨zs,.inr ⟨_,rfl,hl,hm,hz2,hcell,hwz⟩,by omega⟩
 obtain⟨a3,len3,cap3,rfl⟩:=okWide_slice Tryz.underlying30 (hval 3 30 v3 rfl rfl);have k3:=h3
 have lt3: ∀x∈p3,x.block<W.heap.size:=by obtain⟨m,hm⟩:=k3;exact DataW.trod_lt m _ _ _ hm
 obtain⟨z3,w3,hs3⟩: ∃zs,IsRow .u8 W a3 len3 cap3 zs∧cap3≤1048576:=by
  obtain⟨fuel,hf⟩:=h3
  rcases open_ints Tryz.underlying30 Tryz.underlying22 (by kernel_rfl) hf with⟨hcs,_⟩|⟨x,l,c,zs,hcs,_,hl,hm,hz,hx,hcell,hwz⟩
  ·simp[Value.cells]at hcs;obtain⟨rfl,rfl,rfl⟩:=hcs;exact⟨[],.inl ⟨rfl,rfl,rfl,rfl⟩,by simp⟩
  ·simp[Value.cells]at hcs;obtain⟨rfl,rfl,rfl⟩:=hcs
   have hz2:zs.length=cap3:=by simpa using hz
   have hb:=slice_small (d:=d3) hk (by simp) (Prod.mk.inj hx).1;simp only[lits,List.length_map,List.length_take,List.length_drop]at hb;exact⟨zs,.inr ⟨_,rfl,hl,hm,hz2,hcell,hwz⟩,by omega⟩
 obtain⟨a4,rfl,rfl,rfl,w4⟩:=open_int Tryz.underlying22 (hval 4 22 v4 rfl rfl) h4;obtain⟨a5,rfl,rfl,rfl,w5⟩:=open_int Tryz.underlying28 (hval 5 28 v5 rfl rfl) h5;clear hA0 hval0;change Calls _ _ _ _ (fun e W'=> ∃v,e= .returned v∧Rows.engineApartSpec.post enc Tryz.prog Tryz.f9 false true false false _ _ v W');refine(walk a0 len0 cap0 z0 a1 len1 cap1 z1 a2 len2 cap2 z2 a3 len3 cap3 z3 a4 a5 W w0 hs0 w1 hs1 w2 hs2 w3 hs3 w4 w5).mono fun e W' ⟨he,bel⟩=> ?_;subst he;exact⟨_,rfl,_,_,_,[],_,[],hW',trodAll_mk1 (shut_bool Tryz.underlying4 _),(trodAll_cons_mk (Below.trod laidOut (by kernel_rfl) (of_decide_eq_true (by kernel_rfl)) k0 bel lt0) (trodAll_cons_mk (Below.trod laidOut (by kernel_rfl) (of_decide_eq_true (by kernel_rfl)) k1 bel lt1) (trodAll_cons_mk (Below.trod laidOut (by kernel_rfl) (of_decide_eq_true (by kernel_rfl)) k2 bel lt2) (trodAll_cons_mk (Below.trod laidOut (by kernel_rfl) (of_decide_eq_true (by kernel_rfl)) k3 bel lt3) (trodAll_cons_mk (shut_int Tryz.underlying22 w4) (trodAll_cons_mk (shut_int Tryz.underlying28 w5) trodAll_mk0)))))),rfl,bel.frame _,fun h=>by cases h⟩
theorem proved:Rows.EngineApartUptoSaid:=
 OpenClaim.holds_of_cond 9 Tryz.f9 rfl rfl rfl rfl rfl rfl rfl ⟨rfl,rfl,rfl,rfl,rfl⟩ rfl rfl rfl rfl rfl (by kernel_rfl) Tryz.func9 (by kernel_rfl)
  (of_decide_eq_true (by kernel_rfl)) (by unfold Func.isWrapper;first|(rw[if_pos (by decide+kernel)];kernel_rfl)|(rw[if_neg (by decide+kernel)];exact⟨rfl,rfl⟩))
  (fun os started H enc _ F=>lifted os started H enc F)
#print axioms proved
end Go.Proofs.YtllolnkkepacjaaGreat.engineApart
