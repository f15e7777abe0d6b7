/- A paragraph's levels, place by place; they may be; strong ones lie on their own way. -/
import Derived.Test.YtllolnkkepacjaaGreatEn2
namespace Go.Proofs.YtllolnkkepacjaaGreat
open Go.RowKit
theorem putS_off {f:Sq→Sq}{i:Nat}: ∀(ss:List Sq) (o:List Int),(∀s∈ss,(∀p∈s.pl,0≤p)∧(i:Int)∉s.pl)→(putS f o ss).getD i 0=o.getD i 0
 |[],_,_=>rfl
 |s::ss,o,h=>by
  show(putS f (putL o s.pl (valS f s)) ss).getD i 0=_;have h1:=h s List.mem_cons_self;rw[putS_off ss _ (fun x hx=>h x (List.mem_cons_of_mem _ hx)),putL_off _ _ _ _ h1.1 h1.2]
theorem putS_app (f:Sq→Sq)(o:List Int)(A B:List Sq):putS f o (A++B)=putS f (putS f o A) B:=by unfold putS;rw[List.foldl_append]
section
variable{base:Int} (hb:base=0∨base=1) (cl:List Int)
include hb
theorem seqsE_nodup:((seqsE base cl).flatMap Sq.pl).Nodup:=((seqsE_ech hb cl).perm).nodup_iff.2 (List.Pairwise.imp (fun h=>by omega) (keptL_pw cl))
theorem levE_at {f:Sq→Sq}(hf:Keeps f){s:Sq}(hs:s∈seqsE base cl){k:Nat}(hk:k<s.pl.length){init:List Int}(hi:init.length=cl.length):(levE f base cl init).getD (s.pl.getD k 0).toNat 0=lvC s.lv ((f s).cs.getD k 0):=by
 have hN:=seqsE_nodup hb cl;have hv:=val_len hb cl hf hs;have hp:=seqsE_place hb cl hs;have hPl:=fun x hx=>seqsE_place hb cl (s:=x) hx;have hlen:=levE_len cl f (base:=base) init;unfold levE at hlen⊢;obtain⟨A,B,hAB⟩:=List.append_of_mem hs;rw[hAB]at hN hPl⊢;rw[List.flatMap_append,List.flatMap_cons,List.nodup_append]at hN;obtain⟨_,hN2,_⟩:=hN;rw[List.nodup_append]at hN2;obtain⟨hN3,_,hN4⟩:=hN2;rw[putS_app];show(putS f (putL (putS f init A) s.pl (valS f s)) B).getD _ 0=_;have hm:=getD_mem0 (0:Int) hk;have h0:=(hp _ hm).1;rw[putS_off B]
 ·rw[putL_at _ _ _ k (fun p hp2=>by rw[putS_len,hi];exact hp p hp2) hN3 hv hk];unfold valS lvsL
  have hk2:k<(f s).cs.length:=by rw[←List.length_map (f:=lvC s.lv)];unfold valS lvsL at hv;rw[hv];exact hk
  rw[List.getD_eq_getElem?_getD,List.getElem?_map,List.getElem?_eq_getElem hk2,List.getD_eq_getElem?_getD,List.getElem?_eq_getElem hk2];rfl
 ·intro x hx;refine⟨fun p hp2=>(hPl x (by simp[hx]) p hp2).1,fun e=> ?_⟩;rw[Int.toNat_of_nonneg h0]at e;exact hN4 _ hm _ (List.mem_flatMap.2 ⟨x,hx,e⟩) rfl
theorem levE_gone (f:Sq→Sq){i:Nat}(hi:i<cl.length)(hr:remC (cl.getD i 0)=true):(levE f base cl (exL base cl)).getD i 0= -1:=by unfold levE;rw[putS_off,ex_gone hb cl hi hr];intro s hs;refine⟨fun p hp=>(seqsE_place hb cl hs p hp).1,fun e=> ?_⟩;have:=(seqsE_mem hb cl (i:=i)).1 (List.mem_flatMap.2 ⟨s,hs,e⟩);rw[hr]at this;cases this.2
theorem kept_in {i:Nat}(hi:i<cl.length)(hr:remC (cl.getD i 0)=false): ∃s∈seqsE base cl,∃k,k<s.pl.length∧s.pl.getD k 0=(i:Int)∧s.lv=(exL base cl).getD i 0∧s.cs.getD k 0=(exC base cl).getD i 0∧chkL s=0:=by
 obtain⟨s,hs,hm⟩:=List.mem_flatMap.1 ((seqsE_mem hb cl).2 ⟨hi,hr⟩);obtain⟨k,hk,e⟩:=List.mem_iff_getElem.1 hm;have H:=seqsE_ech hb cl;obtain⟨a,ea,la,hl,hc⟩:=(H.place s hs).2.2 k hk
 have e2:s.pl.getD k 0=(i:Int):=by rw[List.getD_eq_getElem?_getD,List.getElem?_eq_getElem hk];exact e
 have:a=i:=by omega
 subst this;exact⟨s,hs,k,hk,e2,hl.symm,hc,H.chk s hs⟩
theorem levE_kept {f:Sq→Sq}(hf:Keeps f){i:Nat}(hi:i<cl.length)(hr:remC (cl.getD i 0)=false): ∃s∈seqsE base cl,∃k,k<s.pl.length∧s.cs.getD k 0=(exC base cl).getD i 0∧chkL s=0∧s.lv=(exL base cl).getD i 0∧(levE f base cl (exL base cl)).getD i 0=lvC s.lv ((f s).cs.getD k 0):=by obtain⟨s,hs,k,hk,e,h1,h2,h3⟩:=kept_in hb cl hi hr;have:=levE_at hb cl hf hs hk (init:=exL base cl) (exL_len base cl);rw[e,Int.toNat_natCast]at this;exact⟨s,hs,k,hk,h2,h3,h1,this⟩
theorem levE_bound {f:Sq→Sq}(hf:Keeps f){i:Nat}(hi:i<cl.length)(hr:remC (cl.getD i 0)=false):base≤(levE f base cl (exL base cl)).getD i 0∧(levE f base cl (exL base cl)).getD i 0≤126∧(levE f base cl (exL base cl)).getD i 0≠ -1:=by obtain⟨s,_,k,_,_,_,hl,e⟩:=levE_kept hb cl hf hi hr;have ho:=ex_ok hb cl hi hr;rw[e];have:=lvC_bound (l:=s.lv) (c:=(f s).cs.getD k 0) (by omega) (by omega);omega
end
def evC (c:Int):Prop:=c=1∨c=4∨c=7
def odC (c:Int):Prop:=c=2∨c=3
def stands (c c':Int):Prop:=(evC c→evC c')∧(odC c→odC c')
theorem stands_refl (c:Int):stands c c:=⟨id,id⟩
theorem scan_rel {σ:Type}{g:σ→Int→List Int→Int×σ}{R:Int→Int→Prop}(hg: ∀s c r,R c (g s c r).1): ∀(s:σ) (l:List Int) (k:Nat),k<l.length→R (l.getD k 0) ((passW g s l).getD k 0)
 |_,[],_,h=>by simp at h
 |s,a::l,0,_=>hg s a l
 |s,a::l,k+1,h=>scan_rel hg _ l k (by simpa using h)
theorem rule_stands (n:Nat)(sos:Int)(l:List Int){k:Nat}(hk:k<l.length):stands (l.getD k 0) ((ruleL n sos l).getD k 0):=by
 unfold ruleL
 split
 all_goals first
  |(refine scan_rel (R:=stands) (fun s c r=> ?_) _ l k hk
    first|unfold g1|unfold g2|unfold g3|unfold g4|unfold g5|unfold g6|unfold g7
    (try dsimp only)
    unfold stands evC odC
    (repeat' split)<;>(try dsimp only)<;>omega)
  |exact stands_refl _
theorem stands_trans {a b c:Int}(h:stands a b)(h2:stands b c):stands a c:=⟨fun e=>h2.1 (h.1 e),fun e=>h2.2 (h.2 e)⟩
theorem rules_stands (sos:Int)(l:List Int){k:Nat}(hk:k<l.length): ∀n,stands (l.getD k 0) ((rulesL sos l n).getD k 0)
 |0=>stands_refl _
 |n+1=>stands_trans (rules_stands sos l hk n) (rule_stands (n+1) sos _ (by rw[rulesL_len];exact hk))
theorem rest_stays {lv so eo:Int}{cs:List Int}{k:Nat}(hk:k<cs.length)(h:neuC (cs.getD k 0)=false):(restL lv so eo cs).getD k 0=cs.getD k 0:=by have:=scan_rel (g:=g8 lv eo) (R:=fun c c'=>neuC c=false→c'=c) (fun s c r hc=>by rw[g8_not hc]) so cs k hk;exact this h
theorem lvC_ev {l c:Int}(h:evC c):lvC l c % 2=0:=by
 unfold lvC;unfold evC at h
 (repeat' split)<;>omega
theorem lvC_od {l:Int}:lvC l 2 % 2=1:=by
 unfold lvC
 (repeat' split)<;>omega
theorem late_od {c:Int}(h:stC c=true∨neuC c=true)(h2:odC c):c=2:=by unfold odC at h2;unfold stC neuC at h;simp only[Bool.or_eq_true,beq_iff_eq]at h;omega
theorem ev_neu {c:Int}(h:evC c):neuC c=false:=st_neu (by unfold evC at h;rcases h with rfl|rfl|rfl<;>rfl)
theorem stpC_strong {s:Sq}(hc:chkL s=0){k:Nat}(hk:k<s.cs.length):(evC (s.cs.getD k 0)→evC ((stpC s).cs.getD k 0))∧(odC (s.cs.getD k 0)→(stpC s).cs.getD k 0=2):=by
 have hw:=rules_stands s.so s.cs hk 7;have hlate:=(wk_late hc).at (k:=k) (by rw[wk_cs];unfold weakL;rw[rulesL_len];exact hk)
 have hl:k<s.wk.cs.length:=by rw[wk_cs];unfold weakL;rw[rulesL_len];exact hk
 have e:s.wk.cs=rulesL s.so s.cs 7:=rfl;rw[←e]at hw;constructor
 ·intro h;have h2:=hw.1 h;show evC ((restL _ _ _ s.wk.cs).getD k 0);rw[rest_stays hl (ev_neu h2)];exact h2
 ·intro h;have h2:=late_od hlate (hw.2 h);show(restL _ _ _ s.wk.cs).getD k 0=2;rw[rest_stays hl (by rw[h2];rfl)];exact h2
def NoOvr (s:SS):Prop:= ∀e∈s.l,e.ov=0
theorem popTo_sub: ∀{l:List Ent} {e:Ent},e∈popTo l→e∈l
 |[],_,h=>by simp[popTo]at h
 |a::l,e,h=>by
  unfold popTo at h
  split at h
  ·exact List.mem_cons_of_mem _ h
  ·exact List.mem_cons_of_mem _ (popTo_sub h)
theorem step_noov {base:Int}{s:SS}{c au:Int}(hw:WF base s)(h:NoOvr s)(h1:c≠16)(h2:c≠18):NoOvr (stepS base s c au).s∧(remC c=false→(stepS base s c au).cl=plainCls c 0):=by
 obtain⟨e,l',hl⟩:=hw.ents.ne;have he:e.ov=0:=h e (by rw[hl];exact List.mem_cons_self)
 have hemb: ∀odd,NoOvr (embS c s e odd 0).s:=fun odd=>by
  unfold embS
  split
  ·intro x hx
   rcases List.mem_cons.1 hx with rfl|hx
   ·rfl
   ·exact h x hx
  ·exact h
 have hiso: ∀odd,NoOvr (isoS c s e odd).s∧(isoS c s e odd).cl=plainCls c 0:=fun odd=>by
  unfold isoS
  split
  ·refine⟨fun x hx=> ?_,by simp only[he]⟩
   rcases List.mem_cons.1 hx with rfl|hx
   ·rfl
   ·exact h x hx
  ·exact⟨h,by simp only[he]⟩
 have hpdi:NoOvr (pdiS s e).s∧(pdiS s e).cl=plainCls 23 0:=by
  unfold pdiS
  split
  ·exact⟨h,by simp only[he]⟩
  ·split
   ·rename_i h2
    rw[hw.v0]at h2;obtain⟨k1,k2⟩:=hw.ents.popTo h2;obtain⟨e',l2,hp⟩:=k1.ne;have hsub: ∀x∈e'::l2,x.ov=0:=fun x hx=>h x (popTo_sub (by rw[hp];exact hx));rw[hp];exact⟨hsub,by simp only[hsub e' List.mem_cons_self]⟩
   ·exact⟨h,by simp only[he]⟩
 have hpdf:NoOvr (pdfS s e).s:=by
  unfold pdfS
  split
  ·exact h
  ·split
   ·exact h
   ·split
    ·exact h
    ·split
     ·rename_i h4
      exact fun x hx=>h x (by rw[h4];exact List.mem_cons_of_mem _ hx)
     ·exact h
 have hbase:NoOvr ⟨[⟨base,0,false⟩],0,0,0⟩:=fun x hx=>by rcases List.mem_singleton.1 hx with rfl;rfl
 unfold stepS;rw[hl];simp only
 repeat' split
 all_goals first
  |contradiction
  |(subst_vars;first
   |exact⟨hemb _,fun hr=>absurd hr (by decide)⟩
   |exact⟨(hiso _).1,fun _=>(hiso _).2⟩
   |exact⟨hpdi.1,fun _=>hpdi.2⟩
   |exact⟨hpdf,fun hr=>absurd hr (by decide)⟩
   |exact⟨h,fun hr=>absurd hr (by decide)⟩
   |exact⟨hbase,fun _=>rfl⟩)
  |exact⟨h,fun _=>by simp only[he]⟩
end Go.Proofs.YtllolnkkepacjaaGreat
