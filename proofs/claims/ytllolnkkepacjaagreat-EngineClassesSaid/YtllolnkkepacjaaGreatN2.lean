/- Any classes and base: what is answered is what the document says, in new memory, and what was handed in stays: true. -/
import Derived.Test.YtllolnkkepacjaaGreatRows
import Derived.WalkKit
import Derived.ProofKit
import Derived.Test.YtllolnkkepacjaaGreatLc1
import Derived.OpenShut
import Derived.ShutString
import Derived.ChangeOld
import Derived.Below
import Derived.SizedLaws
set_option maxRecDepth 100000
set_option maxHeartbeats 1000000
namespace Go.Proofs.YtllolnkkepacjaaGreat.engineClasses
open Go.ChangeShapes Go.WideShapes Go.ChangeAt Go.RowKit
open Go.ChangeMaps (open_string shut_string)
set_option linter.unusedVariables false
theorem own:ownKnob Tryz.prog.godebug=none:=by kernel_rfl
theorem laidOut:laidOutB Tryz.prog=true:=by kernel_rfl
def IsRow (k:IntKind)(w:World)(a:Option Addr)(len cap:Nat)(zs:List Int):Prop:=
 (a=none∧len=0∧cap=0∧zs=[])∨
 ∃x,a=some x∧len≤cap∧cap≤maxLen∧zs.length=cap∧(∀i,i<zs.length→w.cell? (x.add i)=some (.int k (zs.getD i 0)))∧ ∀n∈zs,(Lit.int k n).wf=true
theorem walk (a0:Option Addr)(len0 cap0:Nat)(z0:List Int)(a1:Int)(w:World)(w0:IsRow .u8 w a0 len0 cap0 z0)(hreach0:cap0*Tryz.prog.bytesOf 22≤reachBytes)(w1:(Lit.int .i8 a1).wf=true):
 Calls Tryz.prog 6 #[.slice a0 len0 cap0,.int .i8 a1] w fun e w'=>e= .returned (.bool true)∧Below w.heap.size w w':=by
 obtain⟨l,hlen,hc,hcm,rd,hw⟩:=rd_of_row w0
 have hb:cap0≤140737488351232:=by
  have e:Tryz.prog.bytesOf 22=1:=by kernel_rfl
  rw[e]at hreach0
  simpa[reachBytes]using hreach0
 exact classes_ok rd hlen.symm (by omega) a1
theorem lifted (os:Os)(started:os.Started)(H:Type)(enc:TypeId×Value→H):
 ReturnsInHanded {} Tryz.checked os 6 .any (Rows.engineClassesSpec.pre6 enc Tryz.prog Tryz.f6 Rows.engineClassesRow.domain false) (Rows.engineClassesSpec.post enc Tryz.prog Tryz.f6 false true false false):=by
 refine returnsInHanded_of_change_sized (C:=Tryz.checked) own started (by kernel_rfl) Tryz.func6
  (ChangeSpec.witness6 (enc:=enc) (C:=Tryz.checked) false ⟨#[],#[.slice none 0 0,.int .i8 0],[]⟩ 8 (by kernel_rfl) (by kernel_rfl) (by kernel_rfl) (by kernel_rfl)) ?_
 intro W base args ds gs before hval0 hW hcnd hsz0 _;have hsz:(DataW.weightsEach Tryz.prog (Tryz.f6.params.toList++Rows.engineClassesSpec.plain.varTypes Tryz.prog) (ds++gs)).all (· ≤reachBytes)=true:=hsz0;clear hsz0;have hval: ∀(j:Nat) t v,Tryz.f6.params[j]?=some t→args[j]?=some v→Value.okWide Tryz.prog W .any base t v:=hval0;have hW':=hW;obtain⟨p,q,hA0,hV,rfl,hfz,hnd⟩:=hW;have hA:DataW.TrodAll enc Tryz.prog W 0 (fun _=>true) true Tryz.f6.params.toList args.toList ds p:=hA0;rw[Tryz.params6]at hA hval hsz;obtain⟨v0,vs0,d0,ds0,p0,q0,hargs,rfl,rfl,h0,r0⟩:=trodAll_cons hA;obtain⟨v1,vs1,d1,ds1,p1,q1,rfl,rfl,rfl,h1,r1⟩:=trodAll_cons r0;obtain⟨rfl,rfl,rfl⟩:=trodAll_nil r1
 obtain rfl:args=#[v0,v1]:=by cases args;simp_all
 obtain⟨rfl,rfl⟩:=trodVars_none hV;obtain⟨a0,len0,cap0,rfl⟩:=okWide_slice Tryz.underlying30 (hval 0 30 v0 rfl rfl);have k0:=h0
 have lt0: ∀x∈p0,x.block<W.heap.size:=by obtain⟨m,hm⟩:=k0;exact DataW.trod_lt m _ _ _ hm
 obtain⟨z0,w0,hreach0⟩: ∃zs,IsRow .u8 W a0 len0 cap0 zs∧cap0*Tryz.prog.bytesOf 22≤reachBytes:=by
  obtain⟨fuel,hf⟩:=h0
  rcases open_ints Tryz.underlying30 Tryz.underlying22 (by kernel_rfl) hf with⟨hcs,_⟩|⟨x,l,c,zs,hcs,_,hl,hm,hz,hx,hcell,hwz⟩
  ·simp[Value.cells]at hcs;obtain⟨rfl,rfl,rfl⟩:=hcs;exact⟨[],.inl ⟨rfl,rfl,rfl,rfl⟩,by simp⟩
  ·simp[Value.cells]at hcs;obtain⟨rfl,rfl,rfl⟩:=hcs;have hd:=(Prod.mk.inj hx).1;have hb:=sized_slice hsz (j:=0) (t:=30) (e:=22) rfl (congrArg some hd) Tryz.underlying30
   have hz2:zs.length=cap0:=by simpa using hz
   refine⟨zs,.inr ⟨_,rfl,hl,hm,hz2,hcell,hwz⟩,?_⟩;simp only[lits,List.length_map,List.length_take,List.length_drop]at hb
   rwa [show min len0 zs.length+(zs.length-len0)=cap0 by omega]at hb
 obtain⟨a1,rfl,rfl,rfl,w1⟩:=open_int Tryz.underlying28 (hval 1 28 v1 rfl rfl) h1;clear hA0 hval0;refine(walk a0 len0 cap0 z0 a1 W w0 hreach0 w1).mono fun e W' ⟨he,bel⟩=> ?_;subst he;exact⟨_,rfl,_,_,_,[],_,[],hW',trodAll_mk1 (shut_bool Tryz.underlying4 _),(trodAll_cons_mk (Below.trod laidOut (by kernel_rfl) (of_decide_eq_true (by kernel_rfl)) k0 bel lt0) (trodAll_cons_mk (shut_int Tryz.underlying28 w1) trodAll_mk0)),rfl,bel.frame _,fun h=>by cases h⟩
theorem over:Rows.engineClassesRow.holds Tryz.pinned (OpenSpec.ofChange Rows.engineClassesSpec):=
 OpenClaim.holds_of_wide 6 Tryz.f6 rfl rfl rfl rfl rfl rfl rfl ⟨rfl,rfl,rfl,rfl,rfl⟩ rfl rfl rfl rfl rfl (by kernel_rfl) Tryz.func6 (by kernel_rfl)
  (of_decide_eq_true (by kernel_rfl)) (by unfold Func.isWrapper;first|(rw[if_pos (by decide+kernel)];kernel_rfl)|(rw[if_neg (by decide+kernel)];exact⟨rfl,rfl⟩))
  (fun os started H enc _=>lifted os started H enc)
theorem proved:Rows.EngineClassesSaid:=over
#print axioms proved
end Go.Proofs.YtllolnkkepacjaaGreat.engineClasses
