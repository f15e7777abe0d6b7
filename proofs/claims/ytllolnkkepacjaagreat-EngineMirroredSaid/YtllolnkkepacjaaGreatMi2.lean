/- Left and right exchanged: the sequences, the rules, the levels. -/
import Derived.Test.YtllolnkkepacjaaGreatMi1
set_option maxHeartbeats 4000000
namespace Go.Proofs.YtllolnkkepacjaaGreat
open Go.RowKit
def okW (c:Int):Prop:=c=1∨c=2∨c=9∨c=11∨c=12∨c=13∨c=14∨c=20∨c=21∨c=23
def okV (c:Int):Prop:=c=1∨c=2∨c=11∨c=12∨c=13∨c=14∨c=20∨c=21∨c=23
def exch (cl:List Int):Prop:=(∀i,i<cl.length→okM (cl.getD i 0))∧opNi cl cl.length≤60
theorem ni_le (cl:List Int){k:Nat}(h:k≤cl.length)(h2:opNi cl cl.length≤60):opNi cl k≤60:=Nat.le_trans (opNi_mono cl h) h2
theorem sh_out {s:SS}{c au:Int}(hw:WF 0 s)(ho:OvE s)(hc:okM c)(hr:remC c=false):okW (stepS 0 s c au).cl:=by
 obtain⟨e,l',he⟩:=hw.ents.ne;have hov:e.ov=0∨e.ov=1∨e.ov=2:=ho e (by rw[he];exact List.mem_cons_self)
 have hcw:okW c:=by rw[remC_false]at hr;unfold okM at hc;unfold okW;omega
 have hp: ∀x ov:Int,okW x→(ov=0∨ov=1∨ov=2)→okW (plainCls x ov):=fun x ov hx ho=>by
  unfold plainCls
  rcases ho with rfl|rfl|rfl
  ·have: ¬(x<1∨23<x):=by unfold okW at hx;omega
   simp only[ne_eq,not_true_eq_false,if_false];rw[if_neg this];exact hx
  ·exact .inl rfl
  ·exact .inr (.inl rfl)
 have iso: ∀odd,okW (isoS c s e odd).cl:=fun odd=>by
  unfold isoS
  split
  ·exact hp _ _ hcw hov
  ·exact hp _ _ hcw hov
 have h23:okW 23:=by unfold okW;omega
 have pdi:okW (pdiS s e).cl:=by
  unfold pdiS
  split
  ·exact hp _ _ h23 hov
  ·split
   ·rename_i h2
    rw[hw.v0]at h2;obtain⟨k1,_⟩:=hw.ents.popTo h2;obtain⟨x,l2,hq⟩:=k1.ne;rw[hq];exact hp _ _ h23 (ho x (popTo_sub (by rw[hq];exact List.mem_cons_self)))
   ·exact hp _ _ h23 hov
 unfold stepS;rw[he];simp only
 repeat' split
 all_goals first
  |(subst_vars;first
   |exact iso _
   |exact pdi
   |exact absurd hr (by decide)
   |(show okW 11;unfold okW;omega))
  |exact hp _ _ hcw hov
section
variable{cl:List Int} (H:exch cl)
include H
theorem sh_run (au au':Nat→Int): ∀k,k≤cl.length→(runS 1 (cl.map tn) au' k).1=shS (runS 0 cl au k).1∧OvE (runS 0 cl au k).1∧LvE (runS 0 cl au k).1 (opNi cl k)
 |0,_=>⟨rfl,fun x hx=>by rcases List.mem_singleton.1 hx with rfl;exact .inl rfl,fun x hx=>by rcases List.mem_singleton.1 hx with rfl;simp[opNi]⟩
 |k+1,hk=>by
  obtain⟨h1,h2,h3⟩:=sh_run au au' k (by omega);have hw:=(runS_wf (.inl rfl) cl au k).1;obtain⟨s1,s2,s3⟩:=sh_step (au:=au k) (au':=au' k) hw h2 h3 (ni_le cl (by omega) H.2) (H.1 k (by omega));refine⟨?_,s2,s3⟩;show(stepS 1 (runS 1 (cl.map tn) au' k).1 ((cl.map tn).getD k 0) (au' k)).s=_;rw[h1,tn_getD];exact s1.s
theorem sh_at {i:Nat}(hi:i<cl.length):ShO (stepS 0 (runS 0 cl (auP cl) i).1 (cl.getD i 0) (auP cl i)) (stepS 1 (runS 1 (cl.map tn) (auP (cl.map tn)) i).1 ((cl.map tn).getD i 0) (auP (cl.map tn) i)):=by obtain⟨h1,h2,h3⟩:=sh_run H (auP cl) (auP (cl.map tn)) i (by omega);have hw:=(runS_wf (.inl rfl) cl (auP cl) i).1;rw[h1,tn_getD];exact(sh_step hw h2 h3 (ni_le cl (by omega) H.2) (H.1 i hi)).1
theorem sh_ex {i:Nat}(hi:i<cl.length)(hr:remC (cl.getD i 0)=false):(exL 1 (cl.map tn)).getD i 0=(exL 0 cl).getD i 0+1∧(exC 1 (cl.map tn)).getD i 0=tn ((exC 0 cl).getD i 0)∧okW ((exC 0 cl).getD i 0):=by
 have h:=sh_at H hi;obtain⟨a1,a2⟩:=runS_get (base:=0) (l:=cl) (au:=auP cl) cl.length hi;obtain⟨b1,b2⟩:=runS_get (base:=1) (l:=cl.map tn) (au:=auP (cl.map tn)) (cl.map tn).length (by rw[List.length_map];exact hi);have e0:=ex_ok (base:=0) (.inl rfl) cl hi hr
 have hk:(stepS 0 (runS 0 cl (auP cl) i).1 (cl.getD i 0) (auP cl i)).k=true:=by
  rcases e:(stepS 0 (runS 0 cl (auP cl) i).1 (cl.getD i 0) (auP cl i)).k with _|_
  ·have:=h.lv0 e;unfold exL at e0;rw[a1,this]at e0;omega
  ·rfl
 unfold exL exC at*;rw[a1,b1,a2,b2];refine⟨by rw[h.lv,if_pos hk],h.cl hk,?_⟩;obtain⟨_,h2,h3⟩:=sh_run H (auP cl) (auP (cl.map tn)) i (by omega);have hw:=(runS_wf (.inl rfl) cl (auP cl) i).1;exact sh_out hw h2 (H.1 i hi) hr
theorem sh_lv {x:Int}(hx:x∈keptL cl):lvAt (exL 1 (cl.map tn)) x=lvAt (exL 0 cl) x+1:=by obtain⟨a,rfl,la,ra⟩:=keptL_mem.1 hx;unfold lvAt;rw[Int.toNat_natCast];exact(sh_ex H la ra).1
end
theorem sh_span {lv lv':List Int}{v:Int}: ∀t:List Int,(∀x∈t,lvAt lv' x=lvAt lv x+1)→spanN lv' (v+1) t=spanN lv v t
 |[],_=>rfl
 |a::t,h=>by
  have h1:=h a List.mem_cons_self;have ih:=sh_span (v:=v) t (fun x hx=>h x (List.mem_cons_of_mem _ hx));unfold spanN
  by_cases e:lvAt lv a=v
  ·rw[if_pos (by omega),if_pos e,ih]
  ·rw[if_neg (by omega),if_neg e]
theorem sh_grp {lv lv':List Int}: ∀(d:Nat) (ks:List Int),ks.length≤d→(∀x∈ks,lvAt lv' x=lvAt lv x+1)→grp lv' ks=grp lv ks
 |_,[],_,_=>by rw[grp,grp]
 |0,a::t,h,_=>by simp at h
 |d+1,a::t,h,hk=>by
  rw[grp,grp];have h1:=hk a List.mem_cons_self;have h2: ∀x∈t,lvAt lv' x=lvAt lv x+1:=fun x hx=>hk x (List.mem_cons_of_mem _ hx);rw[h1,sh_span t h2,sh_grp d _ (by simp at h⊢;omega) (fun x hx=>h2 x (List.mem_of_mem_drop hx))]
def shR (r:Rn):Rn:=⟨r.f,r.t,r.v+1⟩
theorem sh_f (rs:List Rn)(i:Nat):((rs.map shR).getD i default).f=(rs.getD i default).f∧((rs.map shR).getD i default).t=(rs.getD i default).t:=by rw[List.getD_eq_getElem?_getD,List.getElem?_map,List.getD_eq_getElem?_getD];cases rs[i]?<;>exact⟨rfl,rfl⟩
theorem sh_find (rs:List Rn)(a:Int): ∀k,findR (rs.map shR) a k=findR rs a k
 |0=>rfl
 |k+1=>by unfold findR;rw[(sh_f rs k).1,sh_find rs a k]
def shQ (s:Sq):Sq:=⟨s.pl,s.cs.map tn,s.lv+1,tn s.so,tn s.eo⟩
theorem sh_way {M:Int}(h0:0≤M)(h1:M≤125):wayL (M+1)=tn (wayL M):=by
 unfold wayL;rw[if_neg (show¬M+1<0 by omega),if_neg (show¬126<M+1 by omega),if_neg (show¬M<0 by omega),if_neg (show¬126<M by omega)]
 by_cases h:M % 2=0
 ·rw[if_pos h,if_neg (show¬(M+1) % 2=0 by omega)];rfl
 ·rw[if_neg h,if_pos (show(M+1) % 2=0 by omega)];rfl
section
variable{cl:List Int} (H:exch cl)
include H
theorem sh_grps:grp (exL 1 (cl.map tn)) (keptL (cl.map tn))=grp (exL 0 cl) (keptL cl):=by rw[tn_kept];exact sh_grp _ _ (Nat.le_refl _) (fun x hx=>sh_lv H hx)
theorem sh_rn:rnL (exL 1 (cl.map tn)) (cl.map tn)=(rnL (exL 0 cl) cl).map shR:=by
 unfold rnL runL;rw[sh_grps H,List.map_map];refine List.map_congr_left fun g hg=> ?_;have G:=grps (exL 0 cl) cl
 have hm:g.getD 0 0∈keptL cl:=by rw[←G.flat];exact List.mem_flatten.2 ⟨g,hg,getD_mem0 _ (List.length_pos_iff.2 (G.ne g hg))⟩
 show toRn _ g=shR (toRn _ g);unfold toRn shR;rw[sh_lv H hm]
theorem sh_nx:nxQ (exL 1 (cl.map tn)) (cl.map tn)=nxQ (exL 0 cl) cl:=by
 funext i
 unfold nxQ nxT lastP;rw[sh_rn H,tn_match,(sh_f _ i).2,tn_lvAt,tn_beg,List.length_map,sh_find]
theorem sh_len:(rnL (exL 1 (cl.map tn)) (cl.map tn)).length=(rnL (exL 0 cl) cl).length:=by rw[sh_rn H,List.length_map]
theorem sh_pl (i:Nat):plL (exL 1 (cl.map tn)) (cl.map tn) i=plL (exL 0 cl) cl i:=by
 unfold plL;rw[sh_len H,sh_nx H];congr 1
 funext j
 unfold grpAt;rw[sh_grps H]
theorem sh_lvK (k:Int):lvK (txtOf (cl.map tn) (exC 1 (cl.map tn)) (exL 1 (cl.map tn)) 1) k=lvK (txtOf cl (exC 0 cl) (exL 0 cl) 0) k+1:=by
 unfold lvK txtOf;simp only;rw[tn_kept]
 split
 ·rfl
 ·split
  ·rfl
  ·rename_i h1 h2
   exact sh_lv H (getD_mem0 (0:Int) (by omega))
omit H in
theorem sh_ix (p:Int):lvAt (txtOf (cl.map tn) (exC 1 (cl.map tn)) (exL 1 (cl.map tn)) 1).ix p=lvAt (txtOf cl (exC 0 cl) (exL 0 cl) 0).ix p:=by show lvAt (ixT (cl.map tn).length (keptL (cl.map tn)) (keptL (cl.map tn)).length) p=lvAt (ixT cl.length (keptL cl) (keptL cl).length) p;rw[tn_kept,List.length_map]
theorem sh_behind (p:Int):behindL (txtOf (cl.map tn) (exC 1 (cl.map tn)) (exL 1 (cl.map tn)) 1) p=behindL (txtOf cl (exC 0 cl) (exL 0 cl) 0) p+1:=by
 unfold behindL;rw[sh_ix,sh_lvK H]
 have e1:begI (lvAt (txtOf (cl.map tn) (exC 1 (cl.map tn)) (exL 1 (cl.map tn)) 1).cl p)=begI (lvAt (txtOf cl (exC 0 cl) (exL 0 cl) 0).cl p):=by show begI (lvAt (cl.map tn) p)=begI (lvAt cl p);rw[tn_lvAt,tn_beg]
 have e2:(txtOf (cl.map tn) (exC 1 (cl.map tn)) (exL 1 (cl.map tn)) 1).mt=(txtOf cl (exC 0 cl) (exL 0 cl) 0).mt:=tn_match cl;have e3:(txtOf (cl.map tn) (exC 1 (cl.map tn)) (exL 1 (cl.map tn)) 1).cl.length=(txtOf cl (exC 0 cl) (exL 0 cl) 0).cl.length:=List.length_map ..;rw[e1,e2,e3]
 split<;>rfl
theorem sh_sq {i:Nat}(h:i<(rnL (exL 0 cl) cl).length):sqL (cl.map tn) (exC 1 (cl.map tn)) (exL 1 (cl.map tn)) 1 i=shQ (sqL cl (exC 0 cl) (exL 0 cl) 0 i):=by
 have hv:((rnL (exL 1 (cl.map tn)) (cl.map tn)).getD i default).v=((rnL (exL 0 cl) cl).getD i default).v+1:=by rw[sh_rn H,List.getD_eq_getElem?_getD,List.getElem?_map,List.getD_eq_getElem?_getD,List.getElem?_eq_getElem h];rfl
 have hlv:=rn_lv (.inl rfl) cl h;unfold sqL sqOf shQ;simp only;rw[sh_pl H,hv,sh_ix,sh_lvK H,sh_behind H]
 have mx: ∀a b:Int,max (a+1) (b+1)=max a b+1:=fun a b=>by omega
 rw[mx,mx];have k1:=fun k=>lvK_ok (base:=0) (.inl rfl) cl k;have k2:=fun k=>behindL_ok (base:=0) (.inl rfl) cl k
 rw[sh_way (by have:=(k1 (lvAt (txtOf cl (exC 0 cl) (exL 0 cl) 0).ix ((plL (exL 0 cl) cl i).getD 0 0)-1));omega) (by have:=(k1 (lvAt (txtOf cl (exC 0 cl) (exL 0 cl) 0).ix ((plL (exL 0 cl) cl i).getD 0 0)-1));omega),
  sh_way (by have:=k2 ((plL (exL 0 cl) cl i).getD ((plL (exL 0 cl) cl i).length-1) 0);omega) (by have:=k2 ((plL (exL 0 cl) cl i).getD ((plL (exL 0 cl) cl i).length-1) 0);omega)]
 have hcs:clsP (txtOf (cl.map tn) (exC 1 (cl.map tn)) (exL 1 (cl.map tn)) 1).nw (plL (exL 0 cl) cl i)=(clsP (txtOf cl (exC 0 cl) (exL 0 cl) 0).nw (plL (exL 0 cl) cl i)).map tn:=by unfold clsP;rw[List.map_map];refine List.map_congr_left fun x hx=> ?_;obtain⟨a,rfl,la,ra,_⟩:=plL_at h hx;show clsC ((exC 1 (cl.map tn)).getD ((a:Int)).toNat 0)=tn (clsC ((exC 0 cl).getD ((a:Int)).toNat 0));rw[Int.toNat_natCast,(sh_ex H la ra).2.1,tn_cls]
 rw[hcs]
theorem sh_seqs:seqsE 1 (cl.map tn)=(seqsE 0 cl).map shQ:=by unfold seqsE;rw[seqs_ok (.inr rfl) (cl.map tn),seqs_ok (.inl rfl) cl];simp only;rw[sh_len H,sh_nx H,List.map_map];refine List.map_congr_left fun i hi=> ?_;exact sh_sq H (leads_mem.1 hi).1
end
theorem pass_id {σ:Type}{g:σ→Int→List Int→Int×σ}{P:Int→Prop}(h: ∀s c r,P c→(g s c r).1=c): ∀(s:σ) (l:List Int),(∀c∈l,P c)→passW g s l=l
 |_,[],_=>rfl
 |s,c::l,hl=>by
  show(g s c l).1::passW g (g s c l).2 l=c::l;rw[h s c l (hl c List.mem_cons_self),pass_id h _ l (fun x hx=>hl x (List.mem_cons_of_mem _ hx))]
theorem pass_hom {σ:Type}{g g':σ→Int→List Int→Int×σ}{φ:σ→σ}{P:Int→Prop}(h: ∀s c r,P c→(∀x∈r,P x)→g' (φ s) (tn c) (r.map tn)=(tn (g s c r).1,φ (g s c r).2)): ∀(s:σ) (l:List Int),(∀c∈l,P c)→passW g' (φ s) (l.map tn)=(passW g s l).map tn
 |_,[],_=>rfl
 |s,c::l,hl=>by
  have h1:=h s c l (hl c List.mem_cons_self) (fun x hx=>hl x (List.mem_cons_of_mem _ hx));show(g' (φ s) (tn c) (l.map tn)).1::passW g' (g' (φ s) (tn c) (l.map tn)).2 (l.map tn)=tn (g s c l).1::(passW g (g s c l).2 l).map tn;rw[h1];simp only;rw[pass_hom h _ l (fun x hx=>hl x (List.mem_cons_of_mem _ hx))]
theorem tn_okW {c:Int}(h:okW c):okW (tn c):=by have:=tn_cases c;unfold okW at*;omega
theorem weak_one {so:Int}(hs:so=1∨so=2){l:List Int}(hl: ∀c∈l,okW c):weakL so l=passW g1 so l∧ ∀c∈passW g1 so l,okV c:=by
 have r1: ∀c∈ruleL 1 so l,okV c:=scan_to (S:=okV) (fun s c r h1 h2=>by
  unfold g1;unfold okW at h2
  split
  ·split
   ·exact⟨by unfold okV;omega,by unfold okV;omega⟩
   ·exact⟨h1,h1⟩
  ·exact⟨by unfold okV;dsimp only;omega,by unfold okV;dsimp only;omega⟩) _ _ (by unfold okV;omega) hl
 have r1: ∀c∈passW g1 so l,okV c:=r1;refine⟨?_,r1⟩;have e2:ruleL 2 so (passW g1 so l)=passW g1 so l:=pass_id (P:=okV) (fun s c r h=>by unfold g2;dsimp only;rw[if_neg];unfold okV at h;omega) _ _ r1;have e3:ruleL 3 so (passW g1 so l)=passW g1 so l:=pass_id (P:=okV) (fun s c r h=>by unfold g3;dsimp only;rw[if_neg];unfold okV at h;omega) _ _ r1;have e4:ruleL 4 so (passW g1 so l)=passW g1 so l:=pass_id (P:=okV) (fun s c r h=>by unfold g4;rw[if_neg];unfold okV at h;omega) _ _ r1;have e5:ruleL 5 so (passW g1 so l)=passW g1 so l:=pass_id (P:=okV) (fun s c r h=>by unfold g5;rw[if_neg];unfold okV at h;omega) _ _ r1;have e6:ruleL 6 so (passW g1 so l)=passW g1 so l:=pass_id (P:=okV) (fun s c r h=>by unfold g6;dsimp only;rw[if_neg];unfold okV at h;omega) _ _ r1;have e7:ruleL 7 so (passW g1 so l)=passW g1 so l:=pass_id (P:=okV) (fun s c r h=>by unfold g7;dsimp only;rw[if_neg];unfold okV at h;omega) _ _ r1;show ruleL 7 so (ruleL 6 so (ruleL 5 so (ruleL 4 so (ruleL 3 so (ruleL 2 so (passW g1 so l))))))=_;rw[e2,e3,e4,e5,e6,e7]
theorem sh_weak {so:Int}(hs:so=1∨so=2){l:List Int}(hl: ∀c∈l,okW c):weakL (tn so) (l.map tn)=(weakL so l).map tn:=by
 have hs':tn so=1∨tn so=2:=by rcases hs with rfl|rfl<;>decide
 have hl': ∀c∈l.map tn,okW c:=fun c hc=>by obtain⟨x,hx,rfl⟩:=List.mem_map.1 hc;exact tn_okW (hl x hx)
 rw[(weak_one hs hl).1,(weak_one hs' hl').1];refine pass_hom (P:=okW) (φ:=tn) (fun s c r _ _=> ?_) so l hl;unfold g1
 by_cases h9:c=9
 ·subst h9;rw[if_pos (show tn 9=9 from rfl),if_pos rfl,tn_iso]
  split<;>rfl
 ·rw[if_neg (show¬tn c=9 by have:=tn_cases c;omega),if_neg h9]
theorem sh_nxN {eo:Int}: ∀{r:List Int},(∀x∈r,okV x)→nxN (tn eo) (r.map tn)=tn (nxN eo r)
 |[],_=>rfl
 |c::r,h=>by
  have hc:=h c List.mem_cons_self;show(if neuC (tn c)=true then nxN (tn eo) (r.map tn)else wyC (tn c))=tn (if neuC c=true then nxN eo r else wyC c);rw[tn_neu,sh_nxN (fun x hx=>h x (List.mem_cons_of_mem _ hx))]
  split
  ·rfl
  ·rename_i hn
   unfold okV at hc
   rcases hc with rfl|rfl|rfl|rfl|rfl|rfl|rfl|rfl|rfl<;>first|rfl|exact absurd rfl hn
theorem sh_rest {lv so eo:Int}(h0:0≤lv)(h1:lv≤125){l:List Int}(hl: ∀c∈l,okV c):restL (lv+1) (tn so) (tn eo) (l.map tn)=(restL lv so eo l).map tn:=by
 refine pass_hom (P:=okV) (g:=g8 lv eo) (g':=g8 (lv+1) (tn eo)) (φ:=tn) (fun s c r hc hr=> ?_) so l hl;unfold g8;rw[tn_neu,sh_nxN hr,sh_way h0 h1]
 by_cases hn:neuC c=true
 ·rw[if_pos hn,if_pos hn]
  by_cases he:nxN eo r=s
  ·rw[if_pos he,if_pos (by rw[he])]
  ·rw[if_neg he,if_neg (fun q=>he (tn_inj q))]
 ·rw[if_neg hn,if_neg hn];unfold okV at hc
  rcases hc with rfl|rfl|rfl|rfl|rfl|rfl|rfl|rfl|rfl<;>first|rfl|exact absurd rfl hn
theorem sh_lvC {l c:Int}(hc:c=1∨c=2):lvC (l+1) (tn c)=lvC l c+1:=by
 unfold lvC
 rcases Int.emod_two_eq l with h|h
 ·have h2: ¬(l+1) % 2=0:=by omega
  rcases hc with rfl|rfl
  ·rw[if_neg h2,if_pos h];simp[tn]
  ·rw[if_neg h2,if_pos h];simp[tn]<;>omega
 ·have h2:(l+1) % 2=0:=by omega
  have h3: ¬l % 2=0:=by omega
  rcases hc with rfl|rfl
  ·rw[if_pos h2,if_neg h3];simp[tn]
  ·rw[if_pos h2,if_neg h3];simp[tn]
theorem stp_sh {s:Sq}(hc:chkL s=0)(hl:s.lv≤125)(hw: ∀c∈s.cs,okW c):(stpC (shQ s)).cs=((stpC s).cs).map tn∧ ∀c∈(stpC s).cs,c=1∨c=2:=by
 obtain⟨h1,h2,h3,_⟩:=chk_edges hc;have e1:=(weak_one h1 hw).2
 have e2: ∀c∈weakL s.so s.cs,okV c:=by rw[(weak_one h1 hw).1];exact e1
 constructor
 ·show restL (s.lv+1) (tn s.so) (tn s.eo) (weakL (tn s.so) (s.cs.map tn))=(restL s.lv s.so s.eo (weakL s.so s.cs)).map tn;rw[sh_weak h1 hw,sh_rest h3 hl e2]
 ·show∀c∈restL s.lv s.so s.eo (weakL s.so s.cs),c=1∨c=2;refine scan_to (S:=fun a=>a=1∨a=2) (fun a c r h4 h5=> ?_) _ _ h1 e2;have hw:=wayL_two h3 (by omega:s.lv≤126);unfold g8;unfold okV at h5
  rcases h5 with rfl|rfl|h5
  ·exact⟨.inl rfl,.inl rfl⟩
  ·exact⟨.inr rfl,.inr rfl⟩
  ·rw[if_pos (by rcases h5 with rfl|rfl|rfl|rfl|rfl|rfl|rfl<;>rfl)];refine⟨?_,h4⟩;dsimp only
   split
   ·exact h4
   ·exact hw
theorem sh_lev {cl:List Int}(H:exch cl){i:Nat}(hi:i<cl.length):
 (remC (cl.getD i 0)=true→(levE stpC 0 cl (exL 0 cl)).getD i 0= -1∧(levE stpC 1 (cl.map tn) (exL 1 (cl.map tn))).getD i 0= -1)∧
 (remC (cl.getD i 0)=false→(levE stpC 0 cl (exL 0 cl)).getD i 0≠ -1∧(levE stpC 1 (cl.map tn) (exL 1 (cl.map tn))).getD i 0=(levE stpC 0 cl (exL 0 cl)).getD i 0+1∧(levE stpC 0 cl (exL 0 cl)).getD i 0≤126):=by
 have hi':i<(cl.map tn).length:=by rw[List.length_map];exact hi
 constructor
 ·intro hr;exact⟨levE_gone (.inl rfl) cl stpC hi hr,levE_gone (.inr rfl) (cl.map tn) stpC hi' (by rw[tn_getD,tn_rem];exact hr)⟩
 ·intro hr;have hb:=levE_bound (base:=0) (.inl rfl) cl keeps_C hi hr;obtain⟨s,hs,k,hk,e,h1,h2,h3⟩:=kept_in (base:=0) (.inl rfl) cl hi hr;have e0:=ex_ok (base:=0) (.inl rfl) cl hi hr;have l1:=levE_at (base:=0) (.inl rfl) cl keeps_C hs hk (init:=exL 0 cl) (exL_len 0 cl)
  have hs':shQ s∈seqsE 1 (cl.map tn):=by rw[sh_seqs H];exact List.mem_map.2 ⟨s,hs,rfl⟩
  have l2:=levE_at (base:=1) (.inr rfl) (cl.map tn) keeps_C hs' (k:=k) hk (init:=exL 1 (cl.map tn)) (exL_len 1 (cl.map tn));have e':(shQ s).pl.getD k 0=(i:Int):=e;rw[e,Int.toNat_natCast]at l1;rw[e',Int.toNat_natCast]at l2
  have hcs: ∀c∈s.cs,okW c:=fun c hc=>by
   have E:=seqsE_ech (base:=0) (.inl rfl) cl;obtain⟨_,p2,p3⟩:=E.place s hs;obtain⟨j,hj,rfl⟩:=List.mem_iff_getElem.1 hc;obtain⟨a,ea,la,_,hcc⟩:=p3 j (by omega)
   have ra:remC (cl.getD a 0)=false:=by have hm:(a:Int)∈(seqsE 0 cl).flatMap Sq.pl:=List.mem_flatMap.2 ⟨s,hs,by rw[←ea];exact getD_mem0 (0:Int) (by omega)⟩;exact((seqsE_mem (base:=0) (.inl rfl) cl).1 hm).2
   rw[List.getD_eq_getElem?_getD,List.getElem?_eq_getElem hj]at hcc;have hcc:s.cs[j]=(exC 0 cl).getD a 0:=hcc;rw[hcc];exact(sh_ex H la ra).2.2
  have hlv:s.lv≤125:=by omega
  obtain⟨q1,q2⟩:=stp_sh h3 hlv hcs;refine⟨hb.2.2,?_,hb.2.1⟩;rw[l1,l2,q1,tn_getD]
  have hkc:k<(stpC s).cs.length:=by rw[(keeps_C s h3).2.2,(chk_edges h3).2.2.2.2.1];exact hk
  exact sh_lvC (q2 _ (getD_mem0 (0:Int) hkc))
theorem sh_para {cl:List Int}:paraB (cl.map tn) []=paraB cl []:=by
 unfold paraB;rw[List.length_map];congr 1
 funext i
 unfold okB
 have e: ∀c:Int,(tn c !=11)=(c !=11):=fun c=>by
  have:=tn_cases c
  by_cases h:c=11
  ·rw[h];rfl
  ·rw[bne_iff_ne.2 h,bne_iff_ne.2 (show tn c≠11 by omega)]
 have e2: ∀c:Int,(tn c==11)=(c==11):=fun c=>by
  have:=e c
  simpa[bne]using this
 rw[tn_getD,tn_getD,List.length_map,e,e2]
theorem mirrored {l:List Int}(hM: ∀i,i<l.length→okM (clsC (l.getD i 0)))(hN:opNi (l.map clsC) l.length≤60)(h:(classesX l 0).e=0):
 (classesX (l.map tn) 1).e=0∧(classesX (l.map tn) 1).base=(classesX l 0).base+1∧(classesX l 0).base=0∧ ∀i,i<l.length→
  ((classesX l 0).lv.getD i 0= -1∧(classesX (l.map tn) 1).lv.getD i 0= -1)∨((classesX l 0).lv.getD i 0≠ -1∧(classesX (l.map tn) 1).lv.getD i 0=(classesX l 0).lv.getD i 0+1∧(classesX l 0).lv.getD i 0≤126∧0≤(classesX l 0).lv.getD i 0):=by
 have H:exch (l.map clsC):=⟨fun i hi=>by rw[map_getD (by simpa using hi)];exact hM i (by simpa using hi),by rw[List.length_map];exact hN⟩
 have em:(l.map tn).map clsC=(l.map clsC).map tn:=by rw[List.map_map,List.map_map];exact List.map_congr_left fun c _=>tn_cls c
 unfold classesX at h⊢;rw[if_neg (by decide)]at h;rw[if_neg (show¬ ¬okBase 0 by decide),if_neg (show¬ ¬okBase 1 by decide),List.length_map,em,sh_para]
 split at h
 ·cases h
 rename_i h2
 rw[if_neg h2]
 split at h
 ·cases h
 rename_i h3
 rw[if_neg h3,if_neg h2,if_neg h3];refine⟨rfl,rfl,rfl,fun i hi=> ?_⟩
 have hi2:i<(l.map clsC).length:=by rw[List.length_map];exact hi
 have hl:=sh_lev H hi2;show((levE stpC 0 (l.map clsC) (exL 0 (l.map clsC))).getD i 0= -1∧(levE stpC 1 ((l.map clsC).map tn) (exL 1 ((l.map clsC).map tn))).getD i 0= -1)∨_
 rcases hr:remC ((l.map clsC).getD i 0)with _|_
 ·right;obtain⟨a1,a2,a3⟩:=hl.2 hr;have hb:=levE_bound (base:=0) (.inl rfl) (l.map clsC) keeps_C hi2 hr;exact⟨a1,a2,a3,hb.1⟩
 ·left;exact hl.1 hr
theorem mirrored_e (l:List Int):(classesX (l.map tn) 1).e=(classesX l 0).e:=by
 have em:(l.map tn).map clsC=(l.map clsC).map tn:=by rw[List.map_map,List.map_map];exact List.map_congr_left fun c _=>tn_cls c
 unfold classesX;rw[if_neg (show¬ ¬okBase 0 by decide),if_neg (show¬ ¬okBase 1 by decide),List.length_map,em,sh_para]
 split
 ·rfl
 ·split<;>rfl
end Go.Proofs.YtllolnkkepacjaaGreat
