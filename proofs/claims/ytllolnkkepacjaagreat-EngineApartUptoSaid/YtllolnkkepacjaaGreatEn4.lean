/- What is answered may be: levels of a resolved paragraph. Strong ones lie on their own way; what runs from left to right stays so. -/
import Derived.Test.YtllolnkkepacjaaGreatEn3
import Derived.Test.YtllolnkkepacjaaGreatLn2
import Derived.Test.YtllolnkkepacjaaGreatEw2
namespace Go.Proofs.YtllolnkkepacjaaGreat
open Go.RowKit
theorem clsC_in (c:Int):1≤clsC c∧clsC c≤23:=by unfold clsC;(repeat' split)<;>omega
theorem map_getD {f:Int→Int}{l:List Int}{i:Nat}(h:i<l.length):(l.map f).getD i 0=f (l.getD i 0):=by rw[List.getD_eq_getElem?_getD,List.getElem?_map,List.getElem?_eq_getElem h,List.getD_eq_getElem?_getD,List.getElem?_eq_getElem h];rfl
theorem lev_may {base:Int}(hb:base=0∨base=1){cl:List Int}(hc: ∀i,i<cl.length→1≤cl.getD i 0∧cl.getD i 0≤23){f:Sq→Sq}(hf:Keeps f):mayR base cl (levE f base cl (exL base cl))=true:=by
 refine mayR_iff.2 ⟨hb,by rw[levE_len,exL_len],fun i hi=> ?_⟩;unfold okL;have h1:=hc i hi
 rcases hr:remC (cl.getD i 0)with _|_
 ·have h2:=levE_bound hb cl hf hi hr;simp only[Bool.false_eq_true,if_false,Bool.and_eq_true,decide_eq_true_eq];omega
 ·rw[levE_gone hb cl f hi hr];simp only[if_true,Bool.and_eq_true,decide_eq_true_eq,beq_iff_eq];refine⟨h1,?_⟩
  first|rfl|trivial
theorem clsL_in (rest:Int)(ch:List Chr)(rs:List Int): ∀i,i<(clsL rest ch rs).length→1≤(clsL rest ch rs).getD i 0∧(clsL rest ch rs).getD i 0≤23:=fun i hi=>by have hm:=getD_mem0 (0:Int) hi;unfold clsL at hm⊢;obtain⟨r,_,e⟩:=List.mem_map.1 hm;rw[←e];exact clsC_in _
theorem clsM_in (l:List Int): ∀i,i<(l.map clsC).length→1≤(l.map clsC).getD i 0∧(l.map clsC).getD i 0≤23:=fun i hi=>by rw[map_getD (by simpa using hi)];exact clsC_in _
theorem runesX_may {rest:Int}{ch:List Chr}{rs:List Int}{b:Int}(h:(runesX rest ch rs b).e=0):mayR (runesX rest ch rs b).base (runesX rest ch rs b).cs (runesX rest ch rs b).lv=true∧(runesX rest ch rs b).cs.length=rs.length∧(runesX rest ch rs b).lv.length=rs.length∧rs.length≤1048576:=by
 unfold runesX at h⊢
 split at h
 ·cases h
 rename_i h1
 rw[if_neg h1]
 split at h
 ·cases h
 rename_i h2
 rw[if_neg h2]
 split at h
 ·cases h
 rename_i h3
 rw[if_neg h3];refine⟨lev_may (lvlB_two _ _) (clsL_in _ _ _) (keeps_R _ _ _),clsL_len _ _ _,?_,by omega⟩;show(levE _ _ _ _).length=_;rw[levE_len,exL_len,clsL_len]
theorem classesX_may {l:List Int}{b:Int}(h:(classesX l b).e=0):mayR (classesX l b).base (classesX l b).cs (classesX l b).lv=true∧(classesX l b).cs.length=l.length∧(classesX l b).lv.length=l.length∧l.length≤1048576:=by
 unfold classesX at h⊢
 split at h
 ·cases h
 rename_i h1
 rw[if_neg h1]
 split at h
 ·cases h
 rename_i h2
 rw[if_neg h2]
 split at h
 ·cases h
 rename_i h3
 rw[if_neg h3];refine⟨lev_may (lvlB_two _ _) (clsM_in _) keeps_C,by simp,?_,by omega⟩;show(levE _ _ _ _).length=_;rw[levE_len,exL_len];simp
theorem run_noov {base:Int}(hb:base=0∨base=1){l:List Int}{au:Nat→Int}(hno: ∀i,i<l.length→l.getD i 0≠16∧l.getD i 0≠18): ∀k,k≤l.length→NoOvr (runS base l au k).1
 |0,_=>fun x hx=>by
  rcases List.mem_singleton.1 hx with rfl;rfl
 |k+1,hk=>by
  have h1:=(runS_wf hb l au k).1;exact(step_noov h1 (run_noov hb hno k (by omega)) (hno k (by omega)).1 (hno k (by omega)).2).1
theorem exC_plain {base:Int}(hb:base=0∨base=1){cl:List Int}(hc: ∀i,i<cl.length→1≤cl.getD i 0∧cl.getD i 0≤23)(hno: ∀i,i<cl.length→cl.getD i 0≠16∧cl.getD i 0≠18){i:Nat}(hi:i<cl.length)(hr:remC (cl.getD i 0)=false):(exC base cl).getD i 0=cl.getD i 0:=by obtain⟨_,h2⟩:=runS_get (base:=base) (l:=cl) (au:=auP cl) cl.length hi;unfold exC;rw[h2];rw[(step_noov (runS_wf hb cl (auP cl) i).1 (run_noov hb hno i (by omega)) (hno i hi).1 (hno i hi).2).2 hr];have:=hc i hi;unfold plainCls;rw[if_neg (by omega),if_neg (by omega)]
theorem lev_strong {base:Int}(hb:base=0∨base=1){cl:List Int}(hc: ∀i,i<cl.length→1≤cl.getD i 0∧cl.getD i 0≤23)(hno: ∀i,i<cl.length→cl.getD i 0≠16∧cl.getD i 0≠18){i:Nat}(hi:i<cl.length):
 (evC (cl.getD i 0)→(levE stpC base cl (exL base cl)).getD i 0 % 2=0)∧(odC (cl.getD i 0)→(levE stpC base cl (exL base cl)).getD i 0 % 2=1):=by
 have hr:evC (cl.getD i 0)∨odC (cl.getD i 0)→remC (cl.getD i 0)=false:=fun h=>by
  unfold evC odC at h
  rcases h with(h|h|h)|h|h<;>rw[h]<;>rfl
 have key:remC (cl.getD i 0)=false→ ∃s k,k<s.cs.length∧chkL s=0∧s.cs.getD k 0=cl.getD i 0∧0≤s.lv∧(levE stpC base cl (exL base cl)).getD i 0=lvC s.lv ((stpC s).cs.getD k 0):=fun hr=>by obtain⟨s,_,k,hk,h1,h2,_,h4⟩:=levE_kept hb cl keeps_C hi hr;obtain⟨_,_,h5,_,h6,_⟩:=chk_edges h2;exact⟨s,k,by omega,h2,by rw[h1,exC_plain hb hc hno hi hr],h5,h4⟩
 constructor
 ·intro h;obtain⟨s,k,hk,hchk,he,h0,hl⟩:=key (hr (.inl h));rw[hl];exact lvC_ev ((stpC_strong hchk hk).1 (by rw[he];exact h))
 ·intro h;obtain⟨s,k,hk,hchk,he,h0,hl⟩:=key (hr (.inr h));rw[hl,(stpC_strong hchk hk).2 (by rw[he];exact h)];exact lvC_od
def plP (c:Int):Prop:=c=1∨c=4∨c=5∨c=6∨c=8∨c=9∨c=11∨c=12∨c=13∨c=14
def plQ (c:Int):Prop:=c=1∨c=4∨c=5∨c=6∨c=8∨c=11∨c=12∨c=13∨c=14
def plZ (c:Int):Prop:=c=1∨c=4∨c=11∨c=12∨c=13∨c=14
def plN (c:Int):Prop:=c=1∨c=11∨c=12∨c=13∨c=14
theorem plP_keep {c:Int}(h:plP c):remC c=false:=by
 unfold plP at h
 rcases h with h|h|h|h|h|h|h|h|h|h<;>rw[h]<;>rfl
theorem pl_weak {l:List Int}(hl: ∀c∈l,plP c): ∀c∈weakL 1 l,plN c:=by
 have r1: ∀c∈ruleL 1 1 l,plQ c:=scan_to (S:=plQ) (fun s c r h1 h2=>by
  unfold g1;unfold plP at h2
  split
  ·split
   ·exact⟨by unfold plQ;omega,by unfold plQ;omega⟩
   ·exact⟨h1,h1⟩
  ·exact⟨by unfold plQ;simp only;omega,by unfold plQ;simp only;omega⟩) _ _ (.inl rfl) hl
 have r2: ∀c∈ruleL 2 1 (ruleL 1 1 l),plQ c:=scan_to (S:=fun s=>s=1) (fun s c r h1 h2=>by
  unfold g2;unfold plQ at h2⊢;simp only;rw[if_neg (by omega)]
  exact⟨h2,by split<;>omega⟩) _ _ rfl r1
 have r3: ∀c∈ruleL 3 1 (ruleL 2 1 (ruleL 1 1 l)),plQ c:=scan_to (S:=fun _=>True) (fun s c r h1 h2=>by
  unfold g3;unfold plQ at h2⊢;simp only;rw[if_neg (by omega)]
  exact⟨h2,trivial⟩) _ _ trivial r2
 have r4: ∀c∈ruleL 4 1 (ruleL 3 1 (ruleL 2 1 (ruleL 1 1 l))),plQ c:=scan_to (S:=fun s=>s=0∨plQ s) (fun s c r h1 h2=>by
  unfold g4;unfold plQ at h1 h2⊢
  split<;>refine⟨?_,?_⟩<;>simp only<;>omega) _ _ (.inl rfl) r3
 have r5: ∀c∈ruleL 5 1 (ruleL 4 1 (ruleL 3 1 (ruleL 2 1 (ruleL 1 1 l)))),plQ c:=scan_to (S:=fun _=>True) (fun s c r h1 h2=>by
  unfold g5;unfold plQ at h2⊢
  (repeat' split)<;>refine⟨?_,trivial⟩<;>first|omega|(dsimp only;omega)|decide) _ _ trivial r4
 have r6: ∀c∈ruleL 6 1 (ruleL 5 1 (ruleL 4 1 (ruleL 3 1 (ruleL 2 1 (ruleL 1 1 l))))),plZ c:=scan_to (S:=fun _=>True) (fun s c r h1 h2=>by
  unfold g6;unfold plQ at h2;unfold plZ;simp only
  (repeat' split)<;>refine⟨?_,trivial⟩<;>omega) _ _ trivial r5
 have r7: ∀c∈ruleL 7 1 (ruleL 6 1 (ruleL 5 1 (ruleL 4 1 (ruleL 3 1 (ruleL 2 1 (ruleL 1 1 l)))))),plN c:=scan_to (S:=fun s=>s=1) (fun s c r h1 h2=>by
  unfold g7;unfold plZ at h2;unfold plN;simp only
  (repeat' split)<;>refine⟨?_,?_⟩<;>omega) _ _ rfl r6
 exact r7
theorem pl_rest {l:List Int}(hl: ∀c∈l,plN c): ∀c∈restL 0 1 1 l,c=1:=
 scan_to (S:=fun s=>s=1) (fun s c r h1 h2=>by
  unfold g8;unfold plN at h2
  rcases h2 with rfl|rfl|rfl|rfl|rfl
  ·exact⟨rfl,rfl⟩
  all_goals
   rw[if_pos (by rfl)];refine⟨?_,h1⟩;simp only
   split
   ·exact h1
   ·rfl) _ _ rfl hl
theorem pl_step {c:Int}(h:plP c)(au:Int):(stepS 0 ⟨[⟨0,0,false⟩],0,0,0⟩ c au).s=⟨[⟨0,0,false⟩],0,0,0⟩∧(stepS 0 ⟨[⟨0,0,false⟩],0,0,0⟩ c au).lv=0∧(stepS 0 ⟨[⟨0,0,false⟩],0,0,0⟩ c au).cl=c:=by
 unfold plP at h
 rcases h with h|h|h|h|h|h|h|h|h|h<;>rw[h]<;>exact⟨rfl,rfl,rfl⟩
section
variable{cl:List Int} (hp: ∀i,i<cl.length→plP (cl.getD i 0))
include hp
theorem pl_run (au:Nat→Int): ∀k,k≤cl.length→(runS 0 cl au k).1=⟨[⟨0,0,false⟩],0,0,0⟩
 |0,_=>rfl
 |k+1,hk=>by
  show(stepS 0 (runS 0 cl au k).1 (cl.getD k 0) (au k)).s=_;rw[pl_run au k (by omega)];exact(pl_step (hp k (by omega)) _).1
theorem pl_ex {i:Nat}(hi:i<cl.length):(exL 0 cl).getD i 0=0∧(exC 0 cl).getD i 0=cl.getD i 0:=by obtain⟨h1,h2⟩:=runS_get (base:=0) (l:=cl) (au:=auP cl) cl.length hi;unfold exL exC;rw[h1,h2,pl_run hp (auP cl) i (by omega)];exact(pl_step (hp i hi) _).2
theorem pl_lvK (k:Int):lvK (txtOf cl (exC 0 cl) (exL 0 cl) 0) k=0:=by
 unfold lvK
 split
 ·rfl
 ·split
  ·rfl
  ·rename_i h1 h2
   show lvAt (exL 0 cl) ((keptL cl).getD k.toNat 0)=0
   have h3:k.toNat<(keptL cl).length:=by have: ¬((keptL cl).length:Int)≤k:=h2;omega
   obtain⟨a,ea,la,_⟩:=keptL_mem.1 (getD_mem0 (0:Int) h3);rw[ea];show(exL 0 cl).getD ((a:Int)).toNat 0=0;rw[Int.toNat_natCast];exact(pl_ex hp la).1
theorem pl_seq {s:Sq}(hs:s∈seqsE 0 cl):s.lv=0∧s.so=1∧s.eo=1∧ ∀c∈s.cs,plP c:=by
 have H:=seqsE_ech (base:=0) (.inl rfl) cl;obtain⟨h1,h2,h3⟩:=H.place s hs;obtain⟨a,_,la,hl,_⟩:=h3 0 h1;rw[(pl_ex hp la).1]at hl;have hs2:=hs;unfold seqsE at hs2;rw[seqs_ok (.inl rfl) cl]at hs2;obtain⟨i,_,e⟩:=List.mem_map.1 hs2
 have hlv:s.lv=((rnL (exL 0 cl) cl).getD i default).v:=by rw[←e];rfl
 refine⟨hl.symm,?_,?_,fun c hc=> ?_⟩
 ·have e1:s.so=wayL (max ((rnL (exL 0 cl) cl).getD i default).v (lvK (txtOf cl (exC 0 cl) (exL 0 cl) 0) (lvAt (txtOf cl (exC 0 cl) (exL 0 cl) 0).ix ((plL (exL 0 cl) cl i).getD 0 0)-1))):=by rw[←e];rfl
  rw[e1,pl_lvK hp,←hlv,←hl];rfl
 ·have e1:s.eo=wayL (max ((rnL (exL 0 cl) cl).getD i default).v (behindL (txtOf cl (exC 0 cl) (exL 0 cl) 0) ((plL (exL 0 cl) cl i).getD ((plL (exL 0 cl) cl i).length-1) 0))):=by rw[←e];rfl
  have e2: ∀p,behindL (txtOf cl (exC 0 cl) (exL 0 cl) 0) p=0:=fun p=>by
   unfold behindL
   split
   ·rfl
   ·exact pl_lvK hp _
  rw[e1,e2,←hlv,←hl];rfl
 ·obtain⟨k,hk,rfl⟩:=List.mem_iff_getElem.1 hc;obtain⟨a,_,la,_,h4⟩:=h3 k (by omega);rw[List.getD_eq_getElem?_getD,List.getElem?_eq_getElem hk]at h4;have h4:s.cs[k]=(exC 0 cl).getD a 0:=h4;rw[h4,(pl_ex hp la).2];exact hp a la
theorem pl_lev {f:Sq→Sq}(hf:Keeps f)(he: ∀s∈seqsE 0 cl,(f s).cs=(stpC s).cs){i:Nat}(hi:i<cl.length):(levE f 0 cl (exL 0 cl)).getD i 0=0:=by
 obtain⟨s,hs,k,hk,_,hc,_,h4⟩:=levE_kept (base:=0) (.inl rfl) cl hf hi (plP_keep (hp i hi));obtain⟨q1,q2,q3,q4⟩:=pl_seq hp hs;rw[h4,he s hs]
 have hm:(stpC s).cs.getD k 0=1:=by have hlen:=(keeps_C s hc).2.2;have hcl:=(chk_edges hc).2.2.2.2.1;have hm:=getD_mem0 (0:Int) (l:=(stpC s).cs) (i:=k) (by omega);generalize (stpC s).cs.getD k 0=x at hm;have e:(stpC s).cs=restL s.lv s.so s.eo (weakL s.so s.cs):=rfl;rw[e,q1,q2,q3]at hm;exact pl_rest (pl_weak q4) _ hm
 rw[hm,q1];rfl
end
theorem classesX_ok {l:List Int}{b:Int}(h:(classesX l b).e=0): ∃base,(base=0∨base=1)∧(b=0→base=0)∧classesX l b=⟨0,base,l.map clsC,levE stpC base (l.map clsC) (exL base (l.map clsC))⟩:=by
 unfold classesX at h⊢
 split at h
 ·cases h
 rename_i h1
 rw[if_neg h1]
 split at h
 ·cases h
 rename_i h2
 rw[if_neg h2]
 split at h
 ·cases h
 rename_i h3
 rw[if_neg h3];exact⟨_,lvlB_two _ _,fun e=>by subst e;rfl,rfl⟩
theorem classesX_strong {l:List Int}{b:Int}(h:(classesX l b).e=0):
 ((∀i,i<(classesX l b).cs.length→(classesX l b).cs.getD i 0≠16∧(classesX l b).cs.getD i 0≠18)→ ∀i,i<(classesX l b).cs.length→
   (evC ((classesX l b).cs.getD i 0)→0≤(classesX l b).lv.getD i 0∧(classesX l b).lv.getD i 0 % 2=0)∧(odC ((classesX l b).cs.getD i 0)→0≤(classesX l b).lv.getD i 0∧(classesX l b).lv.getD i 0 % 2=1))∧
 (b=0→(∀i,i<(classesX l b).cs.length→plP ((classesX l b).cs.getD i 0))→ ∀i,i<(classesX l b).cs.length→(classesX l b).lv.getD i 0=0):=by
 obtain⟨base,hb,hb0,e⟩:=classesX_ok h;rw[e];refine⟨fun hno i hi=> ?_,fun b0 hp i hi=> ?_⟩
 ·have hs:=lev_strong hb (clsM_in l) hno hi
  have hk:remC ((l.map clsC).getD i 0)=false→0≤(levE stpC base (l.map clsC) (exL base (l.map clsC))).getD i 0:=fun hr=>by have:=levE_bound hb (l.map clsC) keeps_C hi hr;omega
  refine⟨fun q=>⟨hk ?_,hs.1 q⟩,fun q=>⟨hk ?_,hs.2 q⟩⟩
  ·unfold evC at q;have q:(l.map clsC).getD i 0=1∨(l.map clsC).getD i 0=4∨(l.map clsC).getD i 0=7:=q
   rcases q with q|q|q<;>rw[q]<;>rfl
  ·unfold odC at q;have q:(l.map clsC).getD i 0=2∨(l.map clsC).getD i 0=3:=q
   rcases q with q|q<;>rw[q]<;>rfl
 ·have e0:=hb0 b0;subst e0;exact pl_lev hp keeps_C (fun _ _=>rfl) hi
end Go.Proofs.YtllolnkkepacjaaGreat
