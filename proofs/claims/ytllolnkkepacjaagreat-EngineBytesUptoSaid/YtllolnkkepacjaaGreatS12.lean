/- A step of the stack, as a plain function; what holds of every stack. The level that an FSI finds: by the list from the right, and by looking. Explicit as a plain function. Isolates and levels of a beginning. What a step may answer. The stack behind an isolate's end is the stack ahead of its beginning. The stack behind an isolate's end, where the isolate was put on. What stands outside an isolate is as if what stands within it were not there. What stands outside an isolate is as if what stands within it were not there: levels and classes. -/
import Derived.Test.YtllolnkkepacjaaGreatS3
set_option maxHeartbeats 1000000
namespace Go.Proofs.YtllolnkkepacjaaGreat
section
structure SS where
 l:List Ent
 i:Int
 m:Int
 v:Int
structure Out where
 s:SS
 lv:Int
 cl:Int
 k:Bool
def embS (c:Int)(s:SS)(e:Ent)(odd:Bool)(ov:Int):Out:=
 if nextLv odd e.lv≤125∧s.i=0∧s.m=0 then⟨⟨⟨nextLv odd e.lv,ov,false⟩::s.l,s.i,s.m,s.v⟩,-1,c,false⟩
 else⟨⟨s.l,s.i,if s.i=0 then s.m+1 else s.m,s.v⟩,-1,c,false⟩
def isoS (c:Int)(s:SS)(e:Ent)(odd:Bool):Out:=
 if nextLv odd e.lv≤125∧s.i=0∧s.m=0 then⟨⟨⟨nextLv odd e.lv,0,true⟩::s.l,s.i,s.m,s.v+1⟩,e.lv,plainCls c e.ov,true⟩
 else⟨⟨s.l,s.i+1,s.m,s.v⟩,e.lv,plainCls c e.ov,true⟩
def pdiS (s:SS)(e:Ent):Out:=
 if 0<s.i then⟨⟨s.l,s.i-1,s.m,s.v⟩,e.lv,plainCls 23 e.ov,true⟩
 else if 0<s.v then
  match popTo s.l with
  |[]=>⟨s,0,0,true⟩
  |e'::l'=>⟨⟨e'::l',s.i,0,s.v-1⟩,e'.lv,plainCls 23 e'.ov,true⟩
 else⟨s,e.lv,plainCls 23 e.ov,true⟩
def pdfS (s:SS)(e:Ent):Out:=
 if 0<s.i then⟨s,-1,19,false⟩
 else if 0<s.m then⟨⟨s.l,s.i,s.m-1,s.v⟩,-1,19,false⟩
 else if e.iso=true then⟨s,-1,19,false⟩
 else match s.l with
  |_::e'::l'=>⟨⟨e'::l',s.i,s.m,s.v⟩,-1,19,false⟩
  |_=>⟨s,-1,19,false⟩
def stepS (base:Int)(s:SS)(c auto:Int):Out:=
 match s.l with
 |[]=>⟨s,-1,0,false⟩
 |e::_=>
  if c=17 then embS c s e true 0 else if c=18 then embS c s e true 2 else if c=15 then embS c s e false 0 else if c=16 then embS c s e false 1
  else if c=21 then isoS c s e true else if c=20 then isoS c s e false else if c=22 then isoS c s e (auto==1)
  else if c=23 then pdiS s e
  else if c=19 then pdfS s e
  else if c=10 then⟨s,-1,10,false⟩
  else if c=11 then⟨⟨[⟨base,0,false⟩],0,0,0⟩,base,11,true⟩
  else⟨s,e.lv,plainCls c e.ov,true⟩
def Ents (base:Int):List Ent→Prop
 |[]=>False
 |[e]=>e=⟨base,0,false⟩
 |e::e'::l=>e'.lv<e.lv∧e.lv≤125∧(e.ov=0∨e.ov=1∨e.ov=2)∧Ents base (e'::l)
def isos:List Ent→Int
 |[]=>0
 |e::l=>(if e.iso=true then 1 else 0)+isos l
structure WF (base:Int) (s:SS):Prop where
 hb:base=0∨base=1
 ents:Ents base s.l
 i0:0≤s.i
 m0:0≤s.m
 v0:s.v=isos s.l
theorem isos_nonneg (l:List Ent):0≤isos l:=by
 induction l with
 |nil=>simp[isos]
 |cons e l ih=>simp only[isos];split<;>omega
theorem isos_le (l:List Ent):isos l≤l.length:=by
 induction l with
 |nil=>simp[isos]
 |cons e l ih=>simp only[isos,List.length_cons];split<;>omega
theorem isos_pos {l:List Ent}(h:0<isos l): ∃e∈l,e.iso=true:=by
 induction l with
 |nil=>simp[isos]at h
 |cons e l ih=>
  by_cases he:e.iso=true
  ·exact⟨e,by simp,he⟩
  ·simp only[isos,he]at h;obtain⟨x,hx,hi⟩:=ih (by simpa using h);exact⟨x,by simp[hx],hi⟩
theorem Ents.ne {base:Int}{l:List Ent}(h:Ents base l): ∃e l',l=e::l':=by
 cases l with
 |nil=>exact h.elim
 |cons e l=>exact⟨e,l,rfl⟩
theorem Ents.top {base:Int}(hb:base=0∨base=1): ∀{l:List Ent} {e:Ent},Ents base (e::l)→base≤e.lv∧e.lv≤125∧(l.length:Int)+1≤e.lv-base+1∧(e.ov=0∨e.ov=1∨e.ov=2)
 |[],e,h=>by
  simp only[Ents]at h;subst h;simp;omega
 |e'::l,e,h=>by
  obtain⟨h1,h2,h3,h4⟩:=h;obtain⟨k1,k2,k3,k4⟩:=Ents.top hb h4;simp only[List.length_cons];refine⟨by omega,h2,by omega,h3⟩
theorem Ents.bottom {base:Int}: ∀{l:List Ent},Ents base l→ ∃l0,l=l0++[⟨base,0,false⟩]
 |[],h=>h.elim
 |[e],h=>⟨[],by simp only[Ents]at h;rw[h];rfl⟩
 |e::e'::l,h=>by
  obtain⟨_,_,_,h4⟩:=h;obtain⟨l0,h0⟩:=Ents.bottom h4;exact⟨e::l0,by rw[h0];rfl⟩
theorem Ents.tail {base:Int}{e e':Ent}{l:List Ent}(h:Ents base (e::e'::l)):Ents base (e'::l):=h.2.2.2
theorem Ents.popTo {base:Int}: ∀{l:List Ent},Ents base l→0<isos l→Ents base (popTo l)∧isos (popTo l)=isos l-1
 |[],h,_=>h.elim
 |[e],h,h0=>by
  simp only[Ents]at h;subst h;simp[isos]at h0
 |e::e'::l,h,h0=>by
  by_cases he:e.iso=true
  ·have hp:Go.Proofs.YtllolnkkepacjaaGreat.popTo (e::e'::l)=e'::l:=by simp[Go.Proofs.YtllolnkkepacjaaGreat.popTo,he]
   rw[hp];exact⟨h.tail,by simp only[isos,he];simp;omega⟩
  ·have hp:Go.Proofs.YtllolnkkepacjaaGreat.popTo (e::e'::l)=Go.Proofs.YtllolnkkepacjaaGreat.popTo (e'::l):=by
    have he':e.iso=false:=by simpa using he
    rw[Go.Proofs.YtllolnkkepacjaaGreat.popTo];simp[he']
   have hi:isos (e::e'::l)=isos (e'::l):=by
    have he':e.iso=false:=by simpa using he
    rw[isos];simp[he']
   rw[hi]at h0;rw[hp,hi];exact Ents.popTo h.tail h0
theorem nextLv_lt (odd:Bool)(lv:Int):lv<nextLv odd lv∧nextLv odd lv≤lv+2:=by unfold nextLv;split<;>omega
theorem WF.start {base:Int}(hb:base=0∨base=1):WF base ⟨[⟨base,0,false⟩],0,0,0⟩:=⟨hb,rfl,by simp,by simp,by simp[isos]⟩
theorem Ents.push {base:Int}{e x:Ent}{l:List Ent}(h:Ents base (e::l))(h1:e.lv<x.lv)(h2:x.lv≤125)(h3:x.ov=0∨x.ov=1∨x.ov=2):Ents base (x::e::l):=⟨h1,h2,h3,h⟩
theorem WF.step {base:Int}{s:SS}(h:WF base s)(c auto:Int):WF base (stepS base s c auto).s∧(stepS base s c auto).s.i≤s.i+1∧(stepS base s c auto).s.m≤s.m+1:=by
 obtain⟨e,l,hl⟩:=h.ents.ne;have he:=h.ents;have hv:=h.v0;have hi:=h.i0;have hm:=h.m0;rw[hl]at he hv
 have hemb: ∀odd ov,(ov=0∨ov=1∨ov=2)→WF base (embS c s e odd ov).s∧(embS c s e odd ov).s.i≤s.i+1∧(embS c s e odd ov).s.m≤s.m+1:=by
  intro odd ov hov;unfold embS;have hn:=nextLv_lt odd e.lv
  split
  ·rename_i h1
   refine⟨⟨h.hb,?_,hi,hm,?_⟩,by simp;omega,by simp;omega⟩
   ·rw[hl];exact he.push hn.1 h1.1 hov
   ·simp only[hl,isos]at hv⊢;simp;omega
  ·refine⟨⟨h.hb,h.ents,hi,?_,h.v0⟩,by simp;omega,?_⟩<;>simp only<;>split<;>omega
 have hiso: ∀odd,WF base (isoS c s e odd).s∧(isoS c s e odd).s.i≤s.i+1∧(isoS c s e odd).s.m≤s.m+1:=by
  intro odd;unfold isoS;have hn:=nextLv_lt odd e.lv
  split
  ·rename_i h1
   refine⟨⟨h.hb,?_,hi,hm,?_⟩,by simp;omega,by simp;omega⟩
   ·rw[hl];exact he.push hn.1 h1.1 (.inl rfl)
   ·simp only[hl,isos]at hv⊢;simp;omega
  ·exact⟨⟨h.hb,h.ents,by simp;omega,hm,h.v0⟩,by simp,by simp;omega⟩
 have hpdi:WF base (pdiS s e).s∧(pdiS s e).s.i≤s.i+1∧(pdiS s e).s.m≤s.m+1:=by
  unfold pdiS
  split
  ·exact⟨⟨h.hb,h.ents,by simp;omega,hm,h.v0⟩,by simp;omega,by simp;omega⟩
  ·split
   ·rename_i h2
    rw[h.v0]at h2;obtain⟨k1,k2⟩:=h.ents.popTo h2;obtain⟨e',l',hp⟩:=k1.ne;rw[hp]at k1 k2;rw[hp];refine⟨⟨h.hb,k1,hi,by simp,?_⟩,by simp;omega,by simp;omega⟩;simp only;rw[k2,h.v0]
   ·exact⟨h,by simp;omega,by simp;omega⟩
 have hpdf:WF base (pdfS s e).s∧(pdfS s e).s.i≤s.i+1∧(pdfS s e).s.m≤s.m+1:=by
  unfold pdfS
  split
  ·exact⟨h,by simp;omega,by simp;omega⟩
  ·split
   ·exact⟨⟨h.hb,h.ents,hi,by simp;omega,h.v0⟩,by simp;omega,by simp;omega⟩
   ·split
    ·exact⟨h,by simp;omega,by simp;omega⟩
    ·rename_i h3
     split
     ·rename_i x e' l' h4
      rw[hl]at h4
      injection h4 with h5 h6
      subst h5 h6;refine⟨⟨h.hb,he.tail,hi,hm,?_⟩,by simp;omega,by simp;omega⟩;simp only[isos]at hv⊢;rw[if_neg h3]at hv;omega
     ·exact⟨h,by simp;omega,by simp;omega⟩
 unfold stepS;rw[hl];simp only
 repeat' split
 all_goals first
  |exact hemb _ _ (by omega)
  |exact hiso _
  |exact hpdi
  |exact hpdf
  |exact⟨h,by simp;omega,by simp;omega⟩
  |exact⟨WF.start h.hb,by simp;omega,by simp;omega⟩
end
section
theorem get_getD {l:List Int}{i:Nat}(h:i<l.length):l[i]?=some (l.getD i 0):=by simp[h]
theorem getD_of {l:List Int}{i:Nat}{a:Int}(h:l[i]?=some a):l.getD i 0=a:=by simp[List.getD,h]
def autoOne (n i:Nat)(c mi:Int)(suf:List Int):Int:=
 if c=2∨c=3 then 1
 else if c=1∨c=11∨(c=23∧0≤mi)then 0
 else if c≠23∧0≤mi∧mi<n then suf.getD (mi.toNat-i) 0
 else if mi<0 then suf.getD 0 0
 else 0
def autoSuf (l m:List Int):Nat→List Int
 |0=>[0]
 |k+1=>autoOne l.length (l.length-(k+1)) (l.getD (l.length-(k+1)) 0) (m.getD (l.length-(k+1)) 0) (autoSuf l m k)::autoSuf l m k
def autoAt (l m:List Int)(i:Nat):Int:=(autoSuf l m (l.length-i)).getD 0 0
def autosL (l m:List Int):List Int:=autoSuf l m l.length
theorem autoSuf_length (l m:List Int)(k:Nat):(autoSuf l m k).length=k+1:=by
 induction k with
 |zero=>rfl
 |succ k ih=>simp[autoSuf,ih]
theorem autoSuf_getD (l m:List Int): ∀(k j:Nat),j≤k→(autoSuf l m k).getD j 0=(autoSuf l m (k-j)).getD 0 0
 |k,0,_=>by simp
 |k+1,j+1,h=>by
  rw[Nat.add_sub_add_right,←autoSuf_getD l m k j (by omega)];simp[autoSuf]
theorem autoAt_end (l m:List Int):autoAt l m l.length=0:=by simp[autoAt,autoSuf]
theorem autosL_getD (l m:List Int)(i:Nat)(h:i≤l.length):(autosL l m).getD i 0=autoAt l m i:=autoSuf_getD l m _ i h
theorem autoAt_step (l m:List Int){i:Nat}(h:i<l.length):autoAt l m i=
 (if l.getD i 0=2∨l.getD i 0=3 then 1
  else if l.getD i 0=1∨l.getD i 0=11∨(l.getD i 0=23∧0≤m.getD i 0)then 0
  else if l.getD i 0≠23∧0≤m.getD i 0∧m.getD i 0<l.length then(if i≤(m.getD i 0).toNat then autoAt l m ((m.getD i 0).toNat+1)else(autoSuf l m (l.length-i-1)).getD 0 0)
  else if m.getD i 0<0 then autoAt l m (i+1)
  else 0):=by
 obtain⟨k,hk⟩: ∃k,l.length-i=k+1:=⟨l.length-i-1,by omega⟩
 have hi:l.length-(k+1)=i:=by omega
 unfold autoAt;rw[hk,autoSuf,hi];simp only[List.getD_cons_zero];unfold autoOne
 split
 ·rfl
 ·split
  ·rfl
  ·split
   ·rename_i h3
    obtain⟨h3,h4,h5⟩:=h3
    split
    ·rename_i h6
     rw[autoSuf_getD l m k _ (by omega)];congr 2;omega
    ·rename_i h6
     have:(m.getD i 0).toNat-i=0:=by omega
     rw[this];congr 1
   ·split
    ·congr 2;omega
    ·rfl
def scan (l m:List Int)(e:Int):Nat→Nat→Int
 |0,_=>0
 |f+1,i=>
  if i<l.length∧(i:Int)<e∧l.getD i 0≠11 then
   if l.getD i 0=1 then 0
   else if l.getD i 0=2∨l.getD i 0=3 then 1
   else if begins (l.getD i 0)=true then scan l m e f ((m.getD i 0).toNat+1)
   else scan l m e f (i+1)
  else 0
def autoRef (l m:List Int)(at_:Nat):Int:=scan l m (m.getD at_ 0) l.length (at_+1)
theorem begins_cases {c:Int}(h:begins c=true):c=20∨c=21∨c=22:=by simp[begins]at h;omega
theorem matchL_inv (l:List Int):MInv l.length l (matchL l) (mRun l.length l).2:=mInv_run l.length l (Nat.le_refl _)
structure Track (l m:List Int) (at_ i:Nat):Prop where
 lt:at_<i
 le:(i:Int)≤m.getD at_ 0
 back: ∀j y:Nat,i≤j→(j:Int)<m.getD at_ 0→j<l.length→m[j]?=some (y:Int)→y<j→i≤y
theorem scan_end (l m:List Int)(e:Int)(f i:Nat)(h: ¬(i<l.length∧(i:Int)<e)):scan l m e f i=0:=by
 cases f with
 |zero=>rfl
 |succ f=>rw[scan,if_neg (fun hh=>h ⟨hh.1,hh.2.1⟩)]
theorem scan_auto {l:List Int}{at_:Nat}(hat:at_<l.length)(hb:begins (l.getD at_ 0)=true):
 ∀(f i:Nat),Track l (matchL l) at_ i→l.length-i≤f→scan l (matchL l) ((matchL l).getD at_ 0) f i=autoAt l (matchL l) i:=by
 have hm:=matchL_inv l;generalize hp:(mRun l.length l).2=pile at hm;clear hp;generalize hmm:matchL l=m at hm⊢;clear hmm;have hml:=hm.len
 have hend: ∀i:Nat,(i:Int)=m.getD at_ 0→autoAt l m i=0:=by
  intro i hi
  rcases hm.kind at_ _ (get_getD hat)with⟨_,h1⟩|⟨h1,_⟩|⟨y,h1,h2,h3,h4⟩
  ·rw[h1]at hb;cases hb
  ·rw[getD_of h1]at hi
   have:i=l.length:=by omega
   subst this;exact autoAt_end l m
  ·rw[getD_of h1]at hi
   have:i=y:=by omega
   subst this
   rcases h4 with⟨_,_,h5⟩|⟨_,h5,_⟩
   ·rw[autoAt_step l m h3,getD_of h5,getD_of h2];rw[if_neg (by omega),if_pos (by omega)]
   ·rw[h5]at hb;cases hb
 have hle:m.getD at_ 0≤l.length:=by rcases hm.kind at_ _ (get_getD hat)with⟨h1,_⟩|⟨h1,_⟩|⟨y,h1,h2,h3,h4⟩<;>rw[getD_of h1]<;>omega
 intro f
 induction f with
 |zero=>
  intro i ht hf
  have:i=l.length:=by have:=ht.le;omega
  subst this;rw[autoAt_end];rfl
 |succ f ih=>
  intro i ht hf
  by_cases hi:(i:Int)<m.getD at_ 0
  ·have hil:i<l.length:=by omega
   rw[scan]
   by_cases h11:l.getD i 0=11
   ·rw[if_neg (fun hh=>hh.2.2 h11),autoAt_step l m hil,h11];rw[if_neg (by omega),if_pos (by omega)]
   ·rw[if_pos ⟨hil,hi,h11⟩,autoAt_step l m hil]
    by_cases h1:l.getD i 0=1
    ·rw[if_pos h1,if_neg (by omega),if_pos (by omega)]
    ·rw[if_neg h1]
     by_cases h2:l.getD i 0=2∨l.getD i 0=3
     ·rw[if_pos h2,if_pos h2]
     ·rw[if_neg h2,if_neg h2]
      by_cases hbi:begins (l.getD i 0)=true
      ·rw[if_pos hbi];have hc:=begins_cases hbi;rw[if_neg (by omega)]
       rcases hm.kind i _ (get_getD hil)with⟨_,k1⟩|⟨k1,_⟩|⟨y,k1,k2,k3,k4⟩
       ·rw[k1]at hbi;cases hbi
       ·rw[getD_of k1,if_neg (by omega),if_neg (by omega)];exact scan_end l m _ f _ (by omega)
       ·rcases k4 with⟨k5,_,k6⟩|⟨_,k5,_⟩
        ·rw[getD_of k1,if_pos (by omega),if_pos (by omega),Int.toNat_natCast];refine ih (y+1) ⟨by have:=ht.lt;omega,?_,?_⟩ (by omega)
         ·
          rcases hm.kind at_ _ (get_getD hat)with⟨_,g1⟩|⟨g1,_⟩|⟨z,g1,g2,g3,g4⟩
          ·rw[g1]at hb;cases hb
          ·rw[getD_of g1];omega
          ·rcases g4 with⟨g5,_,_⟩|⟨_,g5,_⟩
           ·rw[getD_of g1]at hi⊢
            rcases hm.within at_ z g5 g1 g3 i ht.lt (by omega)with g6|⟨y',g6,g7,g8⟩
            ·rw[k1]at g6;injection g6 with g6;omega
            ·rw[k1]at g6;injection g6 with g6;omega
           ·rw[g5]at hb;cases hb
         ·intro j z hj1 hj2 hj3 hj4 hj5;have h9:=ht.back j z (by omega) hj2 hj3 hj4 hj5
          rcases hm.kind j _ (get_getD hj3)with⟨g1,_⟩|⟨g1,_⟩|⟨z',g1,g2,g3,g4⟩
          ·rw[hj4]at g1;injection g1 with g1;omega
          ·rw[hj4]at g1;injection g1 with g1;omega
          ·rw[hj4]at g1
           injection g1 with g1
           have hz:z=z':=by omega
           subst hz
           rcases Nat.lt_trichotomy z i with h10|h10|h10
           ·omega
           ·subst h10;rw[k1]at g2;injection g2 with g2;omega
           ·rcases Nat.lt_trichotomy z y with h12|h12|h12
            ·rcases hm.within i y k5 k1 k3 z h10 h12 with g6|⟨y',g6,g7,g8⟩
             ·rw[g2]at g6;injection g6 with g6;omega
             ·rw[g2]at g6;injection g6 with g6;omega
            ·subst h12;rw[k2]at g2;injection g2 with g2;omega
            ·exact h12
        ·rw[k5]at hbi;simp[begins]at hbi
      ·have hbf:begins (l.getD i 0)=false:=by simpa using hbi
       rw[if_neg hbi]
       rcases hm.kind i _ (get_getD hil)with⟨k1,_⟩|⟨_,k1⟩|⟨y,k1,k2,k3,k4⟩
       ·rw[getD_of k1,if_neg (by omega),if_neg (by omega),if_pos (by omega)];refine ih (i+1) ⟨by have:=ht.lt;omega,by omega,?_⟩ (by omega);intro j z hj1 hj2 hj3 hj4 hj5;have h9:=ht.back j z (by omega) hj2 hj3 hj4 hj5
        rcases Nat.lt_or_ge i z with h10|h10
        ·omega
        ·have:z=i:=by omega
         subst this
         rcases hm.kind j _ (get_getD hj3)with⟨g1,_⟩|⟨g1,_⟩|⟨z',g1,g2,g3,g4⟩
         ·rw[hj4]at g1;injection g1 with g1;omega
         ·rw[hj4]at g1;injection g1 with g1;omega
         ·rw[hj4]at g1
          injection g1 with g1
          have hz:z=z':=by omega
          subst hz
          rw[k1]at g2;injection g2 with g2;omega
       ·rw[k1]at hbf;cases hbf
       ·exfalso
        rcases k4 with⟨_,k5,_⟩|⟨k5,_⟩
        ·rw[k5]at hbf;cases hbf
        ·have:=ht.back i y (Nat.le_refl _) hi hil k1 k5;omega
  ·rw[scan_end l m _ _ _ (by omega)];exact(hend i (by have:=ht.le;omega)).symm
theorem auto_eq {l:List Int}{at_:Nat}(hat:at_<l.length)(hb:begins (l.getD at_ 0)=true):autoRef l (matchL l) at_=autoAt l (matchL l) (at_+1):=by
 refine scan_auto hat hb _ _ ⟨by omega,?_,?_⟩ (by omega)
 ·rcases(matchL_inv l).kind at_ _ (get_getD hat)with⟨_,h1⟩|⟨h1,_⟩|⟨y,h1,h2,h3,h4⟩
  ·rw[h1]at hb;cases hb
  ·rw[getD_of h1];omega
  ·rcases h4 with⟨h5,_⟩|⟨_,h5,_⟩
   ·rw[getD_of h1];omega
   ·rw[h5]at hb;simp[begins]at hb
 ·intro j y hj1 hj2 hj3 hj4 hj5;have hm:=matchL_inv l
  rcases hm.kind at_ _ (get_getD hat)with⟨_,h1⟩|⟨h1,_⟩|⟨z,h1,h2,h3,h4⟩
  ·rw[h1]at hb;cases hb
  ·rcases hm.kind j _ (get_getD hj3)with⟨g1,_⟩|⟨g1,_⟩|⟨z',g1,g2,g3,g4⟩
   ·rw[hj4]at g1;injection g1 with g1;omega
   ·rw[hj4]at g1;injection g1 with g1;omega
   ·rw[hj4]at g1
    injection g1 with g1
    have hz:y=z':=by omega
    subst hz
    rcases Nat.lt_trichotomy y at_ with h5|h5|h5
    ·rcases hm.within y j hj5 g2 hj3 at_ h5 (by omega)with h6|⟨y',h6,_,h8⟩
     ·rw[h1]at h6;injection h6 with h6;omega
     ·rw[h1]at h6;injection h6 with h6;omega
    ·subst h5;rw[h1]at g2;injection g2 with g2;omega
    ·omega
  ·rcases h4 with⟨h5,_,_⟩|⟨_,h5,_⟩
   ·rw[getD_of h1]at hj2
    rcases hm.within at_ z h5 h1 h3 j (by omega) (by omega)with h6|⟨y',h6,h7,_⟩
    ·rw[hj4]at h6;injection h6 with h6;omega
    ·rw[hj4]at h6;injection h6 with h6;omega
   ·rw[h5]at hb;simp[begins]at hb
end
section
def runS (base:Int)(l:List Int)(au:Nat→Int):Nat→SS×List Int×List Int
 |0=>(⟨[⟨base,0,false⟩],0,0,0⟩,[],[])
 |k+1=>
  ((stepS base (runS base l au k).1 (l.getD k 0) (au k)).s,(runS base l au k).2.1++[(stepS base (runS base l au k).1 (l.getD k 0) (au k)).lv],
    (runS base l au k).2.2++[(stepS base (runS base l au k).1 (l.getD k 0) (au k)).cl])
def auP (l:List Int)(k:Nat):Int:=(autosL l (matchL l)).getD (k+1) 0
def auR (l:List Int)(k:Nat):Int:=if l.getD k 0=22 then autoRef l (matchL l) k else 0
theorem runS_len (base:Int)(l:List Int)(au:Nat→Int)(k:Nat):(runS base l au k).2.1.length=k∧(runS base l au k).2.2.length=k:=by
 induction k with
 |zero=>simp[runS]
 |succ k ih=>simp[runS,ih.1,ih.2]
theorem runS_wf {base:Int}(hb:base=0∨base=1)(l:List Int)(au:Nat→Int)(k:Nat):
 WF base (runS base l au k).1∧(runS base l au k).1.i≤k∧(runS base l au k).1.m≤k:=by
 induction k with
 |zero=>exact⟨WF.start hb,by simp[runS],by simp[runS]⟩
 |succ k ih=>
  obtain⟨h1,h2,h3⟩:=ih;obtain⟨e1,e2,e3⟩:=h1.step (l.getD k 0) (au k);refine⟨e1,?_,?_⟩
  ·show(stepS _ _ _ _).s.i≤_
   push_cast;omega
  ·show(stepS _ _ _ _).s.m≤_
   push_cast;omega
theorem stepS_auto {base:Int}{s:SS}{c a a':Int}(h:c=22→a=a'):stepS base s c a=stepS base s c a':=by
 unfold stepS
 by_cases h22:c=22
 ·rw[h h22]
 ·simp only[h22,if_false]
theorem runS_auto {base:Int}{l:List Int}{au au':Nat→Int}{n:Nat}(h: ∀k,k<n→l.getD k 0=22→au k=au' k): ∀k,k≤n→runS base l au k=runS base l au' k
 |0,_=>rfl
 |k+1,hk=>by
  have ih:=runS_auto (base:=base) h k (by omega);simp only[runS,ih,stepS_auto (h k (by omega))]
theorem au_same (base:Int)(l:List Int):runS base l (auP l) l.length=runS base l (auR l) l.length:=by refine runS_auto (n:=l.length) (fun k hk h22=> ?_) _ (Nat.le_refl _);unfold auP auR;rw[if_pos h22,autosL_getD _ _ _ (by omega),←auto_eq hk (by rw[h22];rfl)]
theorem foldl_rel {α β γ:Type}{f:α→γ→α}{g:β→γ→β}{R:α→β→Prop}(h: ∀s t c,R s t→R (f s c) (g t c)): ∀(l:List γ) s t,R s t→R (l.foldl f s) (l.foldl g t)
 |[],_,_,hr=>hr
 |c::l,s,t,hr=>foldl_rel h l _ _ (h s t c hr)
def TwoR (a b:Nat)(s t:List Int×List Nat):Prop:=s.2=t.2∧s.1.length=t.1.length∧ ∀i:Nat,s.1[i]?=t.1[i]?∨(s.1[i]?=some (a:Int)∧t.1[i]?=some (b:Int))
theorem TwoR.app {a b:Nat}{s t:List Int×List Nat}(h:TwoR a b s t)(x y:Int)(hxy:x=y∨(x=a∧y=b))(i:Nat):
 (s.1++[x])[i]?=(t.1++[y])[i]?∨((s.1++[x])[i]?=some (a:Int)∧(t.1++[y])[i]?=some (b:Int)):=by
 obtain⟨_,h2,h3⟩:=h
 rcases Nat.lt_trichotomy i s.1.length with hi|hi|hi
 ·rw[List.getElem?_append_left hi,List.getElem?_append_left (by omega)];exact h3 i
 ·subst hi;rw[List.getElem?_concat_length,h2,List.getElem?_concat_length]
  rcases hxy with rfl|⟨rfl,rfl⟩
  ·exact .inl rfl
  ·exact .inr ⟨rfl,rfl⟩
 ·rw[List.getElem?_eq_none (by simp;omega),List.getElem?_eq_none (by simp;omega)];exact .inl rfl
theorem TwoR.step {a b:Nat}(s t:List Int×List Nat)(c:Int)(h:TwoR a b s t):TwoR a b (mStep a s c) (mStep b t c):=by
 have h0:=h;obtain⟨h1,h2,h3⟩:=h;unfold mStep
 split
 ·exact⟨by rw[h1,h2],by simp[h2],h0.app _ _ (.inr ⟨rfl,rfl⟩)⟩
 ·split
  ·rw[←h1]
   cases hp:s.2 with
   |nil=>exact⟨rfl,by simp[h2],h0.app _ _ (.inl rfl)⟩
   |cons k rest=>
    have h4:TwoR a b (s.1.set k s.1.length,rest) (t.1.set k t.1.length,rest):=by
     refine⟨rfl,by simp[h2],fun i=> ?_⟩;simp only;rw[List.getElem?_set,List.getElem?_set,h2]
     split
     ·exact .inl rfl
     ·exact h3 i
    refine⟨rfl,by simp[h2],fun i=> ?_⟩;have:=h4.app _ _ (.inl (rfl:(k:Int)=k)) i
    simpa[h2]using this
  ·split
   ·exact⟨rfl,by simp[h2],h0.app _ _ (.inl rfl)⟩
   ·exact⟨h1,by simp[h2],h0.app _ _ (.inl rfl)⟩
theorem mRun_two (a b:Nat)(l:List Int):TwoR a b (mRun a l) (mRun b l):=foldl_rel TwoR.step l _ _ ⟨rfl,rfl,fun _=>.inl rfl⟩
def MoreR (z:List Int×List Nat)(s:List Int×List Nat):Prop:=z.1.length≤s.1.length∧(∀i:Nat,i<z.1.length→s.1[i]?=z.1[i]?∨(i∈z.2∧ ∃y:Nat,z.1.length≤y∧s.1[i]?=some (y:Int)))∧ ∀p∈s.2,p<z.1.length→p∈z.2
theorem MoreR.step {n:Nat}{z:List Int×List Nat}(s:List Int×List Nat)(c:Int)(h:MoreR z s):MoreR z (mStep n s c):=by
 obtain⟨h1,h2,h3⟩:=h
 have key: ∀x:Int,∀i:Nat,i<z.1.length→(s.1++[x])[i]?=z.1[i]?∨(i∈z.2∧ ∃y:Nat,z.1.length≤y∧(s.1++[x])[i]?=some (y:Int)):=by intro x i hi;rw[List.getElem?_append_left (by omega)];exact h2 i hi
 unfold mStep
 split
 ·refine⟨by simp;omega,key _,fun p hp hl=> ?_⟩
  rcases List.mem_cons.1 hp with rfl|hp
  ·omega
  ·exact h3 p hp hl
 ·split
  ·cases hp:s.2 with
   |nil=>exact⟨by simp;omega,key _,by simp⟩
   |cons k rest=>
    rw[hp]at h3;refine⟨by simp;omega,fun i hi=> ?_,fun p hp hl=>h3 p (by simp[hp]) hl⟩;rw[List.getElem?_append_left (by simp;omega),List.getElem?_set]
    split
    ·rename_i hk
     subst hk;rw[if_pos (by omega)];exact .inr ⟨h3 k (by simp) hi,s.1.length,h1,rfl⟩
    ·exact h2 i hi
  ·split
   ·exact⟨by simp;omega,key _,by simp⟩
   ·exact⟨by simp;omega,key _,h3⟩
theorem matchL_length (l:List Int):(matchL l).length=l.length:=(matchL_inv l).len
theorem getD_take {l:List Int}{n i:Nat}(hi:i<n):(l.take n).getD i 0=l.getD i 0:=by simp[List.getD,hi]
theorem runS_congr {base:Int}{l l':List Int}{au au':Nat→Int}: ∀(k:Nat),(∀j,j<k→l.getD j 0=l'.getD j 0∧(l.getD j 0=22→au j=au' j))→runS base l au k=runS base l' au' k
 |0,_=>rfl
 |k+1,h=>by
  have ih:=runS_congr (base:=base) k (fun j hj=>h j (by omega));obtain⟨h1,h2⟩:=h k (by omega);simp only[runS,ih,←h1,stepS_auto h2]
theorem runS_get {base:Int}{l:List Int}{au:Nat→Int}{i:Nat}: ∀(k:Nat),i<k→
 (runS base l au k).2.1.getD i 0=(stepS base (runS base l au i).1 (l.getD i 0) (au i)).lv∧(runS base l au k).2.2.getD i 0=(stepS base (runS base l au i).1 (l.getD i 0) (au i)).cl
 |0,h=>by omega
 |k+1,h=>by
  have hlen:=runS_len base l au k
  by_cases hik:i<k
  ·have ih:=runS_get (base:=base) (l:=l) (au:=au) k hik;simp only[runS,List.getD,List.getElem?_append_left (show i<(runS base l au k).2.1.length by omega),List.getElem?_append_left (show i<(runS base l au k).2.2.length by omega)];exact ih
  ·have:i=k:=by omega
   subst this;simp only[runS,List.getD];exact⟨by rw[get_snoc_at hlen.1.symm];rfl,by rw[get_snoc_at hlen.2.symm];rfl⟩
def goneC (c:Int):Bool:=c==15||c==16||c==17||c==18||c==19||c==10
structure OutOk (base:Int) (c:Int) (o:Out):Prop where
 kind:(goneC c=true∧o.k=false∧o.lv= -1)∨(goneC c=false∧o.k=true∧base≤o.lv∧o.lv≤125)
 cl:1≤o.cl∧o.cl≤23
theorem plainCls_ok {c ov:Int}(h:ov=0∨ov=1∨ov=2):1≤plainCls c ov∧plainCls c ov≤23:=by
 unfold plainCls
 split
 ·omega
 ·split<;>omega
theorem stepS_ok {base:Int}{s:SS}(h:WF base s)(c auto:Int):OutOk base c (stepS base s c auto):=by
 obtain⟨e,l,hl⟩:=h.ents.ne;have he:=h.ents;rw[hl]at he;obtain⟨t1,t2,t3,t4⟩:=Ents.top h.hb he;have hb:=h.hb
 have gone: ∀(o:Out),goneC c=true→o.k=false→o.lv= -1→o.cl=c→OutOk base c o:=by intro o h1 h2 h3 h4;refine⟨.inl ⟨h1,h2,h3⟩,?_⟩;rw[h4];simp only[goneC,Bool.or_eq_true,beq_iff_eq]at h1;omega
 have stay: ∀(o:Out) (x:Ent),goneC c=false→o.k=true→o.lv=x.lv→base≤x.lv→x.lv≤125→(x.ov=0∨x.ov=1∨x.ov=2)→(∃d,o.cl=plainCls d x.ov)→OutOk base c o:=by intro o x h1 h2 h3 h4 h5 h6 h7;obtain⟨d,h7⟩:=h7;exact⟨.inr ⟨h1,h2,by omega,by omega⟩,by rw[h7];exact plainCls_ok h6⟩
 unfold stepS;rw[hl];simp only
 by_cases c17:c=17
 ·subst c17;rw[if_pos rfl];unfold embS;split<;>exact gone _ rfl rfl rfl rfl
 rw[if_neg c17]
 by_cases c18:c=18
 ·subst c18;rw[if_pos rfl];unfold embS;split<;>exact gone _ rfl rfl rfl rfl
 rw[if_neg c18]
 by_cases c15:c=15
 ·subst c15;rw[if_pos rfl];unfold embS;split<;>exact gone _ rfl rfl rfl rfl
 rw[if_neg c15]
 by_cases c16:c=16
 ·subst c16;rw[if_pos rfl];unfold embS;split<;>exact gone _ rfl rfl rfl rfl
 rw[if_neg c16]
 by_cases c21:c=21
 ·subst c21;rw[if_pos rfl];unfold isoS;split<;>exact stay _ e rfl rfl rfl t1 t2 t4 ⟨_,rfl⟩
 rw[if_neg c21]
 by_cases c20:c=20
 ·subst c20;rw[if_pos rfl];unfold isoS;split<;>exact stay _ e rfl rfl rfl t1 t2 t4 ⟨_,rfl⟩
 rw[if_neg c20]
 by_cases c22:c=22
 ·subst c22;rw[if_pos rfl];unfold isoS;split<;>exact stay _ e rfl rfl rfl t1 t2 t4 ⟨_,rfl⟩
 rw[if_neg c22]
 by_cases c23:c=23
 ·subst c23;rw[if_pos rfl];unfold pdiS
  split
  ·exact stay _ e rfl rfl rfl t1 t2 t4 ⟨_,rfl⟩
  ·split
   ·rename_i h2
    rw[h.v0]at h2;obtain⟨k1,k2⟩:=h.ents.popTo h2;obtain⟨e',l',hp⟩:=k1.ne;rw[hp]at k1;obtain⟨u1,u2,_,u4⟩:=Ents.top h.hb k1;rw[hp];exact stay _ e' rfl rfl rfl u1 u2 u4 ⟨_,rfl⟩
   ·exact stay _ e rfl rfl rfl t1 t2 t4 ⟨_,rfl⟩
 rw[if_neg c23]
 by_cases c19:c=19
 ·subst c19;rw[if_pos rfl];unfold pdfS
  repeat' split
  all_goals exact gone _ rfl rfl rfl rfl
 rw[if_neg c19]
 by_cases c10:c=10
 ·subst c10;rw[if_pos rfl];exact gone _ rfl rfl rfl rfl
 rw[if_neg c10]
 by_cases c11:c=11
 ·subst c11;rw[if_pos rfl];exact⟨.inr ⟨rfl,rfl,Int.le_refl _,by show base≤125;omega⟩,by simp⟩
 rw[if_neg c11];refine stay _ e ?_ rfl rfl t1 t2 t4 ⟨_,rfl⟩;simp[goneC,c15,c16,c17,c18,c19,c10]
def Bal:Nat→List Int→Prop
 |d,[]=>d=0
 |d,c::q=>if begins c=true then Bal (d+1) q else if c=23 then 0<d∧Bal (d-1) q else c≠11∧Bal d q
theorem foldl_more {n:Nat}{z:List Int×List Nat}: ∀(q:List Int) s,MoreR z s→MoreR z (q.foldl (mStep n) s)
 |[],_,h=>h
 |c::q,_,h=>foldl_more q _ (MoreR.step _ c h)
theorem bal_of_run {N:Nat}: ∀(r:List Int) (outs:List Int) (X rest:List Nat) (a:Nat),(∀x∈X,a<x)→(∀x∈rest,x<a)→a<outs.length→outs[a]?=some (N:Int)→
 ∀e:Int,((r.foldl (mStep N) (outs,X++a::rest)).1)[a]?=some e→e≠N→ ∃q r',r=q++23::r'∧Bal X.length q∧e=((outs.length+q.length:Nat):Int)
 |[],outs,X,rest,a,_,_,_,ho,e,he,hne=>by
  simp only[List.foldl_nil]at he;rw[ho]at he
  injection he with he
  exact absurd he.symm hne
 |c::r,outs,X,rest,a,hX,hR,ha,ho,e,he,hne=>by
  simp only[List.foldl_cons]at he
  by_cases hb:begins c=true
  ·have hs:mStep N (outs,X++a::rest) c=(outs++[(N:Int)],(outs.length::X)++a::rest):=by simp[mStep,hb]
   rw[hs]at he;obtain⟨q,r',h1,h2,h3⟩:=bal_of_run r _ (outs.length::X) rest a (fun x hx=>by rcases List.mem_cons.1 hx with rfl|hx;exact ha;exact hX x hx) hR (by simp;omega) (by rw[List.getElem?_append_left ha];exact ho) e he hne;refine⟨c::q,r',by rw[h1];rfl,?_,by rw[h3];simp;omega⟩;unfold Bal;rw[if_pos hb];exact h2
  ·have hb':begins c=false:=by simpa using hb
   by_cases h23:c=23
   ·subst h23
    cases X with
    |nil=>
     have hs:mStep N (outs,[]++a::rest) 23=(outs.set a (outs.length:Int)++[(a:Int)],rest):=by simp[mStep,hb']
     rw[hs]at he;have hm:=foldl_more (n:=N) (z:=(outs.set a (outs.length:Int)++[(a:Int)],rest)) r _ ⟨Nat.le_refl _,fun i _=>.inl rfl,fun p hp _=>hp⟩;obtain⟨_,hm,_⟩:=hm
     rcases hm a (by simp;omega)with h|⟨h,_⟩
     ·rw[he,List.getElem?_append_left (by simp;omega),List.getElem?_set_self ha]at h
      injection h with h
      exact⟨[],r,rfl,rfl,by simp[h]⟩
     ·exact absurd (hR a h) (by omega)
    |cons x X=>
     have hs:mStep N (outs,(x::X)++a::rest) 23=(outs.set x (outs.length:Int)++[(x:Int)],X++a::rest):=by simp[mStep,hb']
     rw[hs]at he;have hxa:=hX x (by simp);obtain⟨q,r',h1,h2,h3⟩:=bal_of_run r _ X rest a (fun y hy=>hX y (by simp[hy])) hR (by simp;omega) (by rw[List.getElem?_append_left (by simp;omega),List.getElem?_set_ne (by omega)];exact ho) e he hne;refine⟨23::q,r',by rw[h1];rfl,?_,by rw[h3];simp;omega⟩;unfold Bal;rw[if_neg hb,if_pos rfl];exact⟨by simp,by simpa using h2⟩
   ·by_cases h11:c=11
    ·have hs:mStep N (outs,X++a::rest) c=(outs++[-1],[]):=by simp[mStep,begins,h11]
     rw[hs]at he;have hm:=foldl_more (n:=N) (z:=(outs++[-1],[])) r _ ⟨Nat.le_refl _,fun i _=>.inl rfl,fun p hp _=>hp⟩;obtain⟨_,hm,_⟩:=hm
     rcases hm a (by simp;omega)with h|⟨h,_⟩
     ·rw[he,List.getElem?_append_left ha,ho]at h
      injection h with h
      exact absurd h hne
     ·simp at h
    ·have hs:mStep N (outs,X++a::rest) c=(outs++[-1],X++a::rest):=by simp[mStep,hb',h23,h11]
     rw[hs]at he;obtain⟨q,r',h1,h2,h3⟩:=bal_of_run r _ X rest a hX hR (by simp;omega) (by rw[List.getElem?_append_left ha];exact ho) e he hne;refine⟨c::q,r',by rw[h1];rfl,?_,by rw[h3];simp;omega⟩;unfold Bal;rw[if_neg hb,if_neg h23];exact⟨h11,h2⟩
theorem bal_of_match {l:List Int}{a e:Nat}(ha:a<l.length)(hb:begins (l.getD a 0)=true)(hm:(matchL l).getD a 0=(e:Int))(he:e<l.length):
 ∃q r,l=l.take (a+1)++(q++23::r)∧Bal 0 q∧e=a+1+q.length:=by
 have h3:=mInv_run l.length (l.take a) (by simp;omega)
 have hlt:(l.take a).length=a:=by simp;omega
 have e1:l=l.take (a+1)++l.drop (a+1):=(List.take_append_drop _ _).symm
 have e2:mRun l.length (l.take (a+1))=((mRun l.length (l.take a)).1++[(l.length:Int)],a::(mRun l.length (l.take a)).2):=by
  rw[List.take_succ_eq_append_getElem ha,mRun_snoc]
  have:l[a]=l.getD a 0:=by simp[ha]
  rw[this];unfold mStep;rw[if_pos hb,h3.len,hlt]
 have hfold:mRun l.length l=(l.drop (a+1)).foldl (mStep l.length) ((mRun l.length (l.take a)).1++[(l.length:Int)],[]++a::(mRun l.length (l.take a)).2):=by
  conv=>lhs;rw[e1]
  unfold mRun at e2⊢;rw[List.foldl_append];rw[←e1];rw[e2];rfl
 have hmm:((mRun l.length l).1)[a]?=some (e:Int):=by have:=get_getD (l:=matchL l) (i:=a) (by rw[matchL_length];exact ha);rw[hm]at this;exact this
 rw[hfold]at hmm
 have hlen1:(mRun l.length (l.take a)).1.length=a:=by rw[h3.len,hlt]
 obtain⟨q,r,h1,h2,h4⟩:=bal_of_run (l.drop (a+1)) _ [] (mRun l.length (l.take a)).2 a (by simp) (fun x hx=>by have:=(h3.pile_lt x hx).1;omega) (by simp;omega)
  (by rw[get_snoc_at (by omega)]) _ hmm (by omega)
 refine⟨q,r,by rw[←h1];exact e1,by simpa using h2,?_⟩;simp only[List.length_append,List.length_cons,List.length_nil,hlen1]at h4;omega
def runQ (base:Int)(au:Nat→Int):List Int→Nat→SS→SS
 |[],_,s=>s
 |c::q,p,s=>runQ base au q (p+1) (stepS base s c (au p)).s
theorem runS_runQ {base:Int}{l:List Int}{au:Nat→Int}: ∀(q:List Int) (k:Nat),(∀j,j<q.length→l.getD (k+j) 0=q.getD j 0)→(runS base l au (k+q.length)).1=runQ base au q k (runS base l au k).1
 |[],k,_=>rfl
 |c::q,k,h=>by
  have h0:=h 0 (by simp)
  have ih:=runS_runQ (base:=base) (l:=l) (au:=au) q (k+1) (fun j hj=>by
   have:=h (j+1) (by simp;omega);rw[show k+1+j=k+(j+1) by omega,this]
   simp[List.getD])
  rw[show k+(c::q).length=k+1+q.length by simp;omega,ih]
  have e0:l.getD k 0=c:=by simpa[List.getD]using h0
  have e1:(runS base l au (k+1)).1=(stepS base (runS base l au k).1 c (au k)).s:=by simp only[runS,e0]
  rw[e1];rfl
theorem step_over {base:Int}{s:SS}(hl:s.l≠[])(hi:0<s.i){c:Int}(h11:c≠11)(a:Int):
 (stepS base s c a).s=⟨s.l,if begins c=true then s.i+1 else if c=23 then s.i-1 else s.i,s.m,s.v⟩:=by
 obtain⟨sl,si,sm,sv⟩:=s;simp only at hl hi;obtain⟨e,l,rfl⟩:=List.exists_cons_of_ne_nil hl
 have hemb: ∀odd ov,(embS c ⟨e::l,si,sm,sv⟩ e odd ov).s=⟨e::l,si,sm,sv⟩:=by intro odd ov;unfold embS;rw[if_neg (by intro h;have:=h.2.1;simp only at this;omega)];simp only;rw[if_neg (by omega)]
 have hiso: ∀odd,(isoS c ⟨e::l,si,sm,sv⟩ e odd).s=⟨e::l,si+1,sm,sv⟩:=by intro odd;unfold isoS;rw[if_neg (by intro h;have:=h.2.1;simp only at this;omega)]
 unfold stepS;simp only
 by_cases c17:c=17
 ·subst c17;rw[if_pos rfl,hemb];rfl
 rw[if_neg c17]
 by_cases c18:c=18
 ·subst c18;rw[if_pos rfl,hemb];rfl
 rw[if_neg c18]
 by_cases c15:c=15
 ·subst c15;rw[if_pos rfl,hemb];rfl
 rw[if_neg c15]
 by_cases c16:c=16
 ·subst c16;rw[if_pos rfl,hemb];rfl
 rw[if_neg c16]
 by_cases c21:c=21
 ·subst c21;rw[if_pos rfl,hiso];rfl
 rw[if_neg c21]
 by_cases c20:c=20
 ·subst c20;rw[if_pos rfl,hiso];rfl
 rw[if_neg c20]
 by_cases c22:c=22
 ·subst c22;rw[if_pos rfl,hiso];rfl
 rw[if_neg c22]
 have hb:begins c=false:=by simp[begins,c20,c21,c22]
 simp only[hb,Bool.false_eq_true,if_false]
 by_cases c23:c=23
 ·subst c23;rw[if_pos rfl,if_pos rfl];unfold pdiS;simp only;rw[if_pos hi]
 rw[if_neg c23,if_neg c23]
 by_cases c19:c=19
 ·subst c19;rw[if_pos rfl];unfold pdfS;simp only;rw[if_pos hi]
 rw[if_neg c19]
 by_cases c10:c=10
 ·rw[if_pos c10]
 rw[if_neg c10,if_neg h11]
theorem run_over {base:Int}{au:Nat→Int}{i0:Int}(h0:0≤i0): ∀(q:List Int) (d p:Nat) (s:SS),Bal d q→s.l≠[]→s.i=i0+1+d→runQ base au q p s=⟨s.l,i0+1,s.m,s.v⟩
 |[],d,p,s,hb,_,hi=>by
  simp only[Bal]at hb;subst hb;obtain⟨sl,si,sm,sv⟩:=s;simp only[runQ]at hi⊢;rw[hi];simp
 |c::q,d,p,s,hb,hl,hi=>by
  unfold Bal at hb;unfold runQ
  by_cases hbg:begins c=true
  ·rw[if_pos hbg]at hb
   have h11:c≠11:=by rintro rfl;simp[begins]at hbg
   rw[step_over hl (by omega) h11,if_pos hbg];exact run_over h0 q (d+1) (p+1) _ hb hl (by show s.i+1=_;push_cast;omega)
  ·rw[if_neg hbg]at hb
   by_cases h23:c=23
   ·rw[if_pos h23]at hb;obtain⟨hd,hb⟩:=hb;rw[step_over hl (by omega) (by omega),if_neg hbg,if_pos h23];exact run_over h0 q (d-1) (p+1) _ hb hl (by show s.i-1=_;omega)
   ·rw[if_neg h23]at hb;rw[step_over hl (by omega) hb.1,if_neg hbg,if_neg h23];exact run_over h0 q d (p+1) _ hb.2 hl hi
theorem popTo_append: ∀(X Y:List Ent),0<isos X→popTo (X++Y)=popTo X++Y∧isos (popTo X)=isos X-1
 |[],_,h=>by simp[isos]at h
 |e::X,Y,h=>by
  by_cases he:e.iso=true
  ·simp only[List.cons_append,popTo,he,if_true,isos];exact⟨trivial,by omega⟩
  ·have he':e.iso=false:=by simpa using he
   simp only[isos,he',Bool.false_eq_true,if_false]at h;obtain⟨h1,h2⟩:=popTo_append X Y (by omega);simp only[List.cons_append,popTo,he',Bool.false_eq_true,if_false,isos];exact⟨h1,by omega⟩
theorem popTo_none: ∀(X:List Ent) (E:Ent) (L:List Ent),isos X=0→E.iso=true→popTo (X++E::L)=L
 |[],E,L,_,hE=>by simp[popTo,hE]
 |e::X,E,L,h,hE=>by
  have hn:=isos_nonneg X
  have he:e.iso=false:=by
   cases hh:e.iso with
   |false=>rfl
   |true=>simp only[isos,hh,if_true]at h;omega
  simp only[isos,he,Bool.false_eq_true,if_false]at h;simp only[List.cons_append,popTo,he,Bool.false_eq_true,if_false];exact popTo_none X E L (by omega) hE
structure PInv (E:Ent) (L:List Ent) (v0:Int) (d:Nat) (s:SS):Prop where
 x: ∃X,s.l=X++E::L∧isos X+s.i=d∧s.v=v0+1+isos X
 i0:0≤s.i
 m0:0≤s.m
theorem PInv.step {base:Int}{E:Ent}{L:List Ent}{v0:Int}(hE:E.iso=true)(hv:0≤v0){d:Nat}{s:SS}(h:PInv E L v0 d s){c:Int}(h11:c≠11)(hd:c=23→0<d)(a:Int):
 PInv E L v0 (if begins c=true then d+1 else if c=23 then d-1 else d) (stepS base s c a).s:=by
 obtain⟨sl,si,sm,sv⟩:=s;obtain⟨⟨X,hl,hd1,hv1⟩,hi,hm⟩:=h;simp only at hl hd1 hv1 hi hm;subst hl;have hXn:=isos_nonneg X
 obtain⟨e,l,hel⟩: ∃e l,X++E::L=e::l:=by
  cases X with
  |nil=>exact⟨E,L,rfl⟩
  |cons e X=>exact⟨e,X++E::L,rfl⟩
 have same: ∀(m':Int),0≤m'→PInv E L v0 d ⟨X++E::L,si,m',sv⟩:=fun m' hm'=>⟨⟨X,rfl,hd1,hv1⟩,hi,hm'⟩
 have hemb: ∀odd ov,PInv E L v0 d (embS c ⟨e::l,si,sm,sv⟩ e odd ov).s:=by
  intro odd ov;unfold embS
  split
  ·refine⟨⟨⟨nextLv odd e.lv,ov,false⟩::X,by simp[←hel],?_,?_⟩,hi,hm⟩
   ·simp only[isos];simpa using hd1
   ·simp only[isos];simpa using hv1
  ·simp only;rw[←hel];exact same _ (by split<;>omega)
 have hiso: ∀odd,PInv E L v0 (d+1) (isoS c ⟨e::l,si,sm,sv⟩ e odd).s:=by
  intro odd;unfold isoS
  split
  ·refine⟨⟨⟨nextLv odd e.lv,0,true⟩::X,by simp[←hel],?_,?_⟩,hi,hm⟩
   ·simp only[isos,if_true];push_cast;omega
   ·simp only[isos,if_true];omega
  ·refine⟨⟨X,by simp[←hel],?_,hv1⟩,by simp only;omega,hm⟩;simp only;push_cast;omega
 unfold stepS;simp only[hel]
 by_cases c17:c=17
 ·subst c17;rw[if_pos rfl];exact hemb _ _
 rw[if_neg c17]
 by_cases c18:c=18
 ·subst c18;rw[if_pos rfl];exact hemb _ _
 rw[if_neg c18]
 by_cases c15:c=15
 ·subst c15;rw[if_pos rfl];exact hemb _ _
 rw[if_neg c15]
 by_cases c16:c=16
 ·subst c16;rw[if_pos rfl];exact hemb _ _
 rw[if_neg c16]
 by_cases c21:c=21
 ·subst c21;rw[if_pos rfl];exact hiso _
 rw[if_neg c21]
 by_cases c20:c=20
 ·subst c20;rw[if_pos rfl];exact hiso _
 rw[if_neg c20]
 by_cases c22:c=22
 ·subst c22;rw[if_pos rfl];exact hiso _
 rw[if_neg c22]
 have hb:begins c=false:=by simp[begins,c20,c21,c22]
 simp only[hb,Bool.false_eq_true,if_false]
 by_cases c23:c=23
 ·have hd2:=hd c23;rw[if_pos c23,if_pos c23];unfold pdiS;simp only
  split
  ·rename_i hi2
   rw[←hel];exact⟨⟨X,rfl,by simp only;omega,hv1⟩,by simp only;omega,hm⟩
  ·rename_i hi2
   have hX:0<isos X:=by omega
   obtain⟨k1,k2⟩:=popTo_append X (E::L) hX;rw[if_pos (by omega),←hel,k1];have hk:=isos_nonneg (popTo X)
   cases hp:popTo X++E::L with
   |nil=>simp at hp
   |cons e' l'=>
    simp only;refine⟨⟨popTo X,hp.symm,?_,?_⟩,hi,by simp⟩
    ·simp only;omega
    ·simp only;omega
 rw[if_neg c23,if_neg c23]
 by_cases c19:c=19
 ·rw[if_pos c19];unfold pdfS;simp only
  split
  ·rw[←hel];exact same _ hm
  ·split
   ·rw[←hel];exact same _ (by omega)
   ·split
    ·rw[←hel];exact same _ hm
    ·rename_i _ _ he
     cases X with
     |nil=>
      simp only[List.nil_append,List.cons.injEq]at hel;rw[←hel.1,hE]at he;exact absurd rfl he
     |cons x X=>
      simp only[List.cons_append,List.cons.injEq]at hel;obtain⟨rfl,hl2⟩:=hel
      have he':x.iso=false:=by simpa using he
      simp only[isos,he',Bool.false_eq_true,if_false]at hd1 hv1
      cases l with
      |nil=>simp at hl2
      |cons e' l'=>
       simp only;exact⟨⟨X,by simp only;exact hl2.symm,by simp only;omega,by simp only;omega⟩,hi,hm⟩
 rw[if_neg c19]
 by_cases c10:c=10
 ·rw[if_pos c10,←hel];exact same _ hm
 rw[if_neg c10,if_neg h11,←hel];exact same _ hm
theorem run_push {base:Int}{au:Nat→Int}{E:Ent}{L:List Ent}{v0:Int}(hE:E.iso=true)(hv:0≤v0): ∀(q:List Int) (d p:Nat) (s:SS),Bal d q→PInv E L v0 d s→PInv E L v0 0 (runQ base au q p s)
 |[],d,p,s,hb,h=>by
  simp only[Bal]at hb;subst hb;exact h
 |c::q,d,p,s,hb,h=>by
  unfold Bal at hb;unfold runQ
  by_cases hbg:begins c=true
  ·rw[if_pos hbg]at hb
   have h11:c≠11:=by rintro rfl;simp[begins]at hbg
   have h23:c≠23:=by rintro rfl;simp[begins]at hbg
   have:=h.step (base:=base) hE hv h11 (fun e=>absurd e h23) (au p);rw[if_pos hbg]at this;exact run_push hE hv q _ _ _ hb this
  ·rw[if_neg hbg]at hb
   by_cases h23:c=23
   ·rw[if_pos h23]at hb;have:=h.step (base:=base) (c:=c) hE hv (by omega) (fun _=>hb.1) (au p);rw[if_neg hbg,if_pos h23]at this;exact run_push hE hv q _ _ _ hb.2 this
   ·rw[if_neg h23]at hb;have:=h.step (base:=base) hE hv hb.1 (fun e=>absurd e h23) (au p);rw[if_neg hbg,if_neg h23]at this;exact run_push hE hv q _ _ _ hb.2 this
theorem closed_stack {base:Int}{s:SS}(hw:WF base s){c:Int}(hb:begins c=true)(a a':Int){q:List Int}(hq:Bal 0 q)(au:Nat→Int)(p:Nat):
 ∃e l,s.l=e::l∧(e.ov=0∨e.ov=1∨e.ov=2)∧(stepS base s c a).lv=e.lv∧(stepS base s c a).cl=plainCls c e.ov∧
  stepS base (runQ base au q p (stepS base s c a).s) 23 a'=⟨s,e.lv,plainCls 23 e.ov,true⟩:=by
 obtain⟨e,l,hl⟩:=hw.ents.ne;obtain⟨sl,si,sm,sv⟩:=s;have hents:=hw.ents;simp only at hl hents;subst hl;obtain⟨_,_,_,hov⟩:=Ents.top hw.hb hents;have hi:=hw.i0;have hm:=hw.m0;have hv:=hw.v0;have hvn:=isos_nonneg (e::l);simp only at hi hm hv
 obtain⟨odd,hst⟩: ∃odd,stepS base ⟨e::l,si,sm,sv⟩ c a=isoS c ⟨e::l,si,sm,sv⟩ e odd:=by
  have hc:c=20∨c=21∨c=22:=begins_cases hb
  rcases hc with rfl|rfl|rfl
  ·exact⟨false,rfl⟩
  ·exact⟨true,rfl⟩
  ·exact⟨(a==1),rfl⟩
 refine⟨e,l,rfl,hov,?_,?_,?_⟩
 ·rw[hst];unfold isoS;split<;>rfl
 ·rw[hst];unfold isoS;split<;>rfl
 ·rw[hst];unfold isoS
  split
  ·rename_i hroom
   obtain⟨_,h2,h3⟩:=hroom;simp only at h2 h3
   have hP:PInv ⟨nextLv odd e.lv,0,true⟩ (e::l) sv 0 (runQ base au q p ⟨⟨nextLv odd e.lv,0,true⟩::e::l,si,sm,sv+1⟩):=run_push rfl (by omega) q 0 p _ hq ⟨⟨[],rfl,by simp only[isos];omega,by simp only[isos];omega⟩,hi,hm⟩
   simp only;generalize runQ base au q p ⟨⟨nextLv odd e.lv,0,true⟩::e::l,si,sm,sv+1⟩=s2 at hP⊢;obtain⟨tl,ti,tm,tv⟩:=s2;obtain⟨⟨X,hX,hd,hv2⟩,hi2,hm2⟩:=hP;simp only at hX hd hv2 hi2 hm2;have hXn:=isos_nonneg X
   have hX0:isos X=0:=by omega
   have hti:ti=0:=by omega
   subst hti;have hpop:=popTo_none X ⟨nextLv odd e.lv,0,true⟩ (e::l) hX0 rfl;rw[←hX]at hpop
   obtain⟨y,ys,hy⟩: ∃y ys,tl=y::ys:=by
    cases X with
    |nil=>exact⟨_,_,hX⟩
    |cons x X=>exact⟨_,_,hX⟩
   subst hy;simp only[stepS,pdiS,Int.reduceEq,if_false,if_true,hpop];rw[if_neg (by omega),if_pos (by omega)];subst h2 h3;rw[hv2,hX0];simp
  ·simp only;rw[run_over hi q 0 p _ hq (by simp) (by simp)];simp only[stepS,pdiS,Int.reduceEq,if_false,if_true];rw[if_pos (by omega)];simp
theorem run_bal {N B:Nat}: ∀(q:List Int) (outs:List Int) (X P:List Nat),Bal X.length q→(∀x∈X,B≤x)→B≤outs.length→
 ∃outs2,q.foldl (mStep N) (outs,X++P)=(outs2,P)∧outs2.length=outs.length+q.length∧ ∀i,i<B→outs2[i]?=outs[i]?
 |[],outs,X,P,hb,_,_=>by
  simp only[Bal]at hb;have:X=[]:=List.eq_nil_of_length_eq_zero hb;subst this;exact⟨outs,rfl,by simp,fun _ _=>rfl⟩
 |c::q,outs,X,P,hb,hX,hB=>by
  unfold Bal at hb;simp only[List.foldl_cons];have app: ∀x:Int,∀i,i<B→(outs++[x])[i]?=outs[i]?:=fun x i hi=>List.getElem?_append_left (by omega)
  by_cases hbg:begins c=true
  ·rw[if_pos hbg]at hb
   have hs:mStep N (outs,X++P) c=(outs++[(N:Int)],(outs.length::X)++P):=by simp[mStep,hbg]
   obtain⟨o2,h1,h2,h3⟩:=run_bal q (outs++[(N:Int)]) (outs.length::X) P hb (fun x hx=>by rcases List.mem_cons.1 hx with rfl|hx;exact hB;exact hX x hx) (by simp;omega);exact⟨o2,by rw[hs,h1],by rw[h2];simp;omega,fun i hi=>(h3 i hi).trans (app _ i hi)⟩
  ·have hbg':begins c=false:=by simpa using hbg
   rw[if_neg hbg]at hb
   by_cases h23:c=23
   ·subst h23;rw[if_pos rfl]at hb;obtain⟨hd,hb⟩:=hb;obtain⟨x,X,rfl⟩:=List.exists_cons_of_ne_nil (List.length_pos_iff.1 hd)
    have hs:mStep N (outs,(x::X)++P) 23=(outs.set x (outs.length:Int)++[(x:Int)],X++P):=by simp[mStep,hbg']
    have hx:=hX x (by simp);obtain⟨o2,h1,h2,h3⟩:=run_bal q (outs.set x (outs.length:Int)++[(x:Int)]) X P (by simpa using hb) (fun y hy=>hX y (by simp[hy])) (by simp;omega);exact⟨o2,by rw[hs,h1],by rw[h2];simp;omega,fun i hi=>(h3 i hi).trans (by rw[List.getElem?_append_left (by simp;omega),List.getElem?_set_ne (by omega)])⟩
   ·rw[if_neg h23]at hb
    have hs:mStep N (outs,X++P) c=(outs++[-1],X++P):=by simp[mStep,hbg',h23,hb.1]
    obtain⟨o2,h1,h2,h3⟩:=run_bal q (outs++[-1]) X P hb.2 hX (by simp;omega);exact⟨o2,by rw[hs,h1],by rw[h2];simp;omega,fun i hi=>(h3 i hi).trans (app _ i hi)⟩
def phi (a d i:Nat):Nat:=if i≤a then i else i+d
theorem phi_lt {a d i j:Nat}:phi a d i<phi a d j↔i<j:=by unfold phi;split<;>split<;>omega
theorem phi_inj {a d i j:Nat}(h:phi a d i=phi a d j):i=j:=by unfold phi at h;split at h<;>split at h<;>omega
theorem phi_succ {a d i:Nat}(h:i≠a):phi a d (i+1)=phi a d i+1:=by unfold phi;split<;>split<;>omega
def Rm (a d:Nat)(x y:Int):Prop:=(x= -1∧y= -1)∨ ∃j:Nat,x=(j:Int)∧y=(phi a d j:Int)
structure Phi (a d:Nat) (s t:List Int×List Nat):Prop where
 len:t.1.length=s.1.length+d
 gt:a<s.1.length
 vals: ∀i,i<s.1.length→ ∃x y,s.1[i]?=some x∧t.1[phi a d i]?=some y∧Rm a d x y
 pile:t.2=s.2.map (phi a d)
theorem Phi.app {a d:Nat}{s t:List Int×List Nat}(h:Phi a d s t){x y:Int}(hxy:Rm a d x y)(P Q:List Nat)(hP:Q=P.map (phi a d)):Phi a d (s.1++[x],P) (t.1++[y],Q):=by
 have hl:=h.len;have hg:=h.gt;refine⟨by simp[hl];omega,by simp;omega,fun i hi=> ?_,hP⟩;simp only[List.length_append,List.length_cons,List.length_nil]at hi
 by_cases hlt:i<s.1.length
 ·obtain⟨u,v,h1,h2,h3⟩:=h.vals i hlt;have:=(List.getElem?_eq_some_iff.1 h2).1;exact⟨u,v,by rw[List.getElem?_append_left hlt];exact h1,by rw[List.getElem?_append_left this];exact h2,h3⟩
 ·have hi2:i=s.1.length:=by omega
  subst hi2
  have hp:phi a d s.1.length=t.1.length:=by unfold phi;rw[if_neg (by omega)];omega
  exact⟨x,y,by simp,by rw[hp];simp,hxy⟩
theorem Phi.set {a d:Nat}{s t:List Int×List Nat}(h:Phi a d s t)(k:Nat){x y:Int}(hxy:Rm a d x y)(P Q:List Nat)(hP:Q=P.map (phi a d)):Phi a d (s.1.set k x,P) (t.1.set (phi a d k) y,Q):=by
 refine⟨by simp[h.len],by simpa using h.gt,fun i hi=> ?_,hP⟩;simp only[List.length_set]at hi;obtain⟨u,v,h1,h2,h3⟩:=h.vals i hi
 by_cases hik:k=i
 ·subst hik;have:=(List.getElem?_eq_some_iff.1 h2).1;exact⟨x,y,by simp only;rw[List.getElem?_set_self hi],by simp only;rw[List.getElem?_set_self this],hxy⟩
 ·exact⟨u,v,by simp only;rw[List.getElem?_set_ne hik];exact h1,by simp only;rw[List.getElem?_set_ne (fun e=>hik (phi_inj e))];exact h2,h3⟩
theorem Phi.step {a d n n':Nat}(hn:n=phi a d n')(s t:List Int×List Nat)(c:Int)(h:Phi a d s t):Phi a d (mStep n' s c) (mStep n t c):=by
 have hp:phi a d s.1.length=t.1.length:=by have h1:=h.len;have h2:=h.gt;unfold phi;rw[if_neg (by omega)];omega
 unfold mStep
 split
 ·exact h.app (.inr ⟨n',rfl,by rw[hn]⟩) _ _ (by simp[h.pile,hp])
 ·split
  ·have hpl:=h.pile
   cases hs:s.2 with
   |nil=>
    rw[hs]at hpl;simp only[List.map_nil]at hpl;rw[hpl];exact h.app (.inl ⟨rfl,rfl⟩) _ _ rfl
   |cons k rest=>
    rw[hs]at hpl;simp only[List.map_cons]at hpl;rw[hpl];have h4:=h.set k (x:=(s.1.length:Int)) (y:=(t.1.length:Int)) (.inr ⟨_,rfl,by rw[hp]⟩) rest (rest.map (phi a d)) rfl;exact h4.app (.inr ⟨k,rfl,rfl⟩) _ _ rfl
  ·split
   ·exact h.app (.inl ⟨rfl,rfl⟩) _ _ rfl
   ·exact h.app (.inl ⟨rfl,rfl⟩) _ _ h.pile
section
variable{p q r:List Int} {a:Nat}
theorem without_getD (hp:p.length=a+1){i:Nat}:(p++23::r).getD i 0=(p++(q++23::r)).getD (phi a q.length i) 0:=by
 unfold phi
 by_cases hi:i≤a
 ·rw[if_pos hi];simp only[List.getD,List.getElem?_append_left (show i<p.length by omega)]
 ·rw[if_neg hi];simp only[List.getD];rw[List.getElem?_append_right (by omega),List.getElem?_append_right (by omega),List.getElem?_append_right (by omega)];congr 2;omega
theorem without_match (hp:p.length=a+1)(hq:Bal 0 q){i:Nat}(hi:i<(p++23::r).length):
 Rm a q.length ((matchL (p++23::r)).getD i 0) ((matchL (p++(q++23::r))).getD (phi a q.length i) 0):=by
 have hlen1:(p++23::r).length=a+2+r.length:=by simp[hp];omega
 have hlen2:(p++(q++23::r)).length=a+2+r.length+q.length:=by simp[hp];omega
 have hn:(p++(q++23::r)).length=phi a q.length (p++23::r).length:=by unfold phi;rw[if_neg (by omega)];omega
 generalize hN':(p++23::r).length=n' at hi hn hlen1;generalize hN:(p++(q++23::r)).length=n at hn hlen2;have h3:=mInv_run n' p (by omega);obtain⟨k1,k2,k3⟩:=mRun_two n' n p;obtain⟨o2,g1,g2,g3⟩:=run_bal (N:=n) (B:=a+1) q (mRun n p).1 [] (mRun n p).2 hq (by simp) (by rw[←k2,h3.len];omega)
 have hpl:(mRun n' p).1.length=a+1:=by rw[h3.len,hp]
 have hstart:Phi a q.length (mRun n' p) (o2,(mRun n p).2):=by
  refine⟨by simp only;rw[g2,←k2],by omega,fun i hi=> ?_,?_⟩
  ·rw[hpl]at hi
   have hphi:phi a q.length i=i:=by unfold phi;rw[if_pos (by omega)]
   obtain⟨v,hv⟩: ∃v,(mRun n' p).1[i]?=some v:=⟨_,List.getElem?_eq_getElem (by omega)⟩;simp only[hphi];rw[g3 i hi]
   rcases k3 i with h|⟨h1,h2⟩
   ·refine⟨v,v,hv,by rw[←h];exact hv,?_⟩
    rcases h3.kind i _ (get_getD (l:=p) (by omega))with⟨h4,_⟩|⟨h4,_⟩|⟨y,h4,_,hy,_⟩
    ·rw[hv]at h4;injection h4 with h4;exact .inl ⟨h4,h4⟩
    ·
     rw[hv]at h4;injection h4 with h4
     rw[h4]at hv
     rcases Nat.eq_zero_or_pos q.length with h0|h0
     ·refine .inr ⟨n',h4,?_⟩;rw[h4,←hn];omega
     ·exfalso;have h5:=mInv_run n p (by omega);rw[hv]at h
      rcases h5.kind i _ (get_getD (l:=p) (by omega))with⟨h6,_⟩|⟨h6,_⟩|⟨y,h6,_,hy,_⟩
      ·rw[h6]at h;injection h with h;omega
      ·rw[h6]at h;injection h with h;omega
      ·rw[h6]at h;injection h with h;omega
    ·rw[hv]at h4;injection h4 with h4
     refine .inr ⟨y,h4,?_⟩;unfold phi;rw[if_pos (by omega)];exact h4
   ·exact⟨n',n,h1,h2,.inr ⟨n',rfl,by rw[hn]⟩⟩
  ·simp only;rw[←k1];symm
   have: ∀x∈(mRun n' p).2,phi a q.length x=x:=fun x hx=>by have:=(h3.pile_lt x hx).1;unfold phi;rw[if_pos (by omega)]
   exact(List.map_congr_left this).trans (List.map_id' _)
 have hend:Phi a q.length ((23::r).foldl (mStep n') (mRun n' p)) ((23::r).foldl (mStep n) (o2,(mRun n p).2)):=foldl_rel (Phi.step hn) _ _ _ hstart
 have e1:matchL (p++23::r)=((23::r).foldl (mStep n') (mRun n' p)).1:=by unfold matchL;rw[hN'];unfold mRun;rw[List.foldl_append]
 have e2:matchL (p++(q++23::r))=((23::r).foldl (mStep n) (o2,(mRun n p).2)).1:=by
  unfold matchL;rw[hN]
  have:mRun n (p++(q++23::r))=(23::r).foldl (mStep n) (q.foldl (mStep n) (mRun n p)):=by unfold mRun;rw[List.foldl_append,List.foldl_append]
  rw[this];have g1':q.foldl (mStep n) (mRun n p)=(o2,(mRun n p).2):=g1;rw[g1']
 have hl:(matchL (p++23::r)).length=n':=by rw[matchL_length,hN']
 obtain⟨x,y,h1,h2,h5⟩:=hend.vals i (by rw[←e1,hl];exact hi);rw[←e1]at h1;rw[←e2]at h2;rw[getD_of h1,getD_of h2];exact h5
end
theorem runS_succ {base:Int}{l:List Int}{au:Nat→Int}(k:Nat):(runS base l au (k+1)).1=(stepS base (runS base l au k).1 (l.getD k 0) (au k)).s:=rfl
section
variable{p q r:List Int} {a:Nat}
theorem wlen (hp:p.length=a+1):(p++23::r).length=a+2+r.length∧(p++(q++23::r)).length=a+2+r.length+q.length:=by simp[hp];omega
theorem phi_end (hp:p.length=a+1):phi a q.length (p++23::r).length=(p++(q++23::r)).length:=by have:=wlen (q:=q) (r:=r) hp;unfold phi;rw[if_neg (by omega)];omega
theorem begin_match {l:List Int}{i:Nat}(hi:i<l.length)(hb:begins (l.getD i 0)=true): ∃j:Nat,(matchL l).getD i 0=j∧i<j∧j≤l.length∧(j<l.length→l.getD j 0=23):=by
 rcases(matchL_inv l).kind i _ (get_getD hi)with⟨_,h⟩|⟨h,_⟩|⟨y,h,_,hy,h2|h2⟩
 ·rw[hb]at h;cases h
 ·exact⟨l.length,by rw[getD_of h],hi,Nat.le_refl _,fun h=>by omega⟩
 ·exact⟨y,by rw[getD_of h],h2.1,by omega,fun _=>getD_of h2.2.2⟩
 ·rw[h2.2.1]at hb;cases hb
theorem without_begin (hp:p.length=a+1)(hq:Bal 0 q){i:Nat}(hi:i<(p++23::r).length)(hb:begins ((p++23::r).getD i 0)=true):
 ∃j:Nat,(matchL (p++23::r)).getD i 0=j∧(matchL (p++(q++23::r))).getD (phi a q.length i) 0=phi a q.length j∧i<j∧j≤(p++23::r).length∧(j<(p++23::r).length→(p++23::r).getD j 0=23):=by
 obtain⟨j,h1,h2,h3,h4⟩:=begin_match hi hb
 rcases without_match hp hq hi with⟨h5,_⟩|⟨k,h5,h6⟩
 ·rw[h1]at h5;omega
 ·have:k=j:=by rw[h1]at h5;omega
  subst this;exact⟨k,h1,h6,h2,h3,h4⟩
theorem scan_without (hp:p.length=a+1)(hq:Bal 0 q)(hba:begins (p.getD a 0)=true){e:Nat}(he:e≤(p++23::r).length): ∀(d f f' i:Nat),e≤i+d→d≤f→d≤f'→
 scan (p++(q++23::r)) (matchL (p++(q++23::r))) (phi a q.length e) f (phi a q.length i)=scan (p++23::r) (matchL (p++23::r)) e f' i
 |0,f,f',i,h,_,_=>by
  rw[scan_end _ _ _ _ _ (by
   intro hh
   have:phi a q.length i<phi a q.length e:=by omega
   rw[phi_lt]at this
   omega),scan_end _ _ _ _ _ (by omega)]
 |d+1,f,f',i,h,h1,h2=>by
  obtain⟨f,rfl⟩: ∃g,f=g+1:=⟨f-1,by omega⟩;obtain⟨f',rfl⟩: ∃g,f'=g+1:=⟨f'-1,by omega⟩
  by_cases hi:i<e
  ·have hin:i<(p++23::r).length:=by omega
   have hpe:phi a q.length i<phi a q.length e:=phi_lt.2 hi
   have hpn:phi a q.length i<(p++(q++23::r)).length:=by rw[←phi_end hp];exact phi_lt.2 hin
   have hg:=without_getD (q:=q) (r:=r) hp (i:=i);unfold scan;rw[←hg];simp only[show((phi a q.length i:Nat):Int)<((phi a q.length e:Nat):Int) by omega,hpn,hin,show(i:Int)<(e:Int) by omega,true_and]
   by_cases hb:begins ((p++23::r).getD i 0)=true
   ·obtain⟨j,m1,m2,hij,hjn,hj23⟩:=without_begin hp hq hin hb
    have hja:j≠a:=by
     rintro rfl;have h5:=hj23 (by have:=(wlen (q:=q) (r:=r) hp).1;omega)
     have h6:(p++23::r).getD j 0=p.getD j 0:=by simp only[List.getD,List.getElem?_append_left (show j<p.length by omega)]
     rw[h6]at h5;rw[h5]at hba;cases hba
    have hnext:scan (p++(q++23::r)) (matchL (p++(q++23::r))) (phi a q.length e) f (((matchL (p++(q++23::r))).getD (phi a q.length i) 0).toNat+1)=
     scan (p++23::r) (matchL (p++23::r)) e f' (((matchL (p++23::r)).getD i 0).toNat+1):=by
     rw[m1,m2];simp only[Int.toNat_natCast];rw[←phi_succ hja];exact scan_without hp hq hba he d f f' (j+1) (by omega) (by omega) (by omega)
    simp only[hb,if_true];rw[hnext]
   ·have hia:i≠a:=by
     rintro rfl
     have h6:(p++23::r).getD i 0=p.getD i 0:=by simp only[List.getD,List.getElem?_append_left (show i<p.length by omega)]
     rw[h6]at hb;exact hb hba
    have hnext:=scan_without hp hq hba he d f f' (i+1) (by omega) (by omega) (by omega);rw[phi_succ hia]at hnext;rw[hnext];simp only[hb];rfl
  ·rw[scan_end _ _ _ _ _ (by
    intro hh
    have:phi a q.length i<phi a q.length e:=by omega
    rw[phi_lt]at this
    omega),scan_end _ _ _ _ _ (by omega)]
theorem auR_without (hp:p.length=a+1)(hq:Bal 0 q)(hba:begins (p.getD a 0)=true){i:Nat}(hi:i<(p++23::r).length)(hia:i≠a):
 auR (p++(q++23::r)) (phi a q.length i)=auR (p++23::r) i:=by
 unfold auR;rw[←without_getD hp]
 split
 ·rename_i h22
  obtain⟨j,m1,m2,hij,hjn,_⟩:=without_begin hp hq hi (by rw[h22];rfl);unfold autoRef;rw[m1,m2,←phi_succ hia];have:=wlen (q:=q) (r:=r) hp;exact scan_without hp hq hba hjn (p++23::r).length _ _ _ (by omega) (by omega) (by omega)
 ·rfl
theorem without_run {base:Int}(hb:base=0∨base=1)(hp:p.length=a+1)(hq:Bal 0 q)(hba:begins (p.getD a 0)=true):
 (∀k,k≤a→(runS base (p++23::r) (auR (p++23::r)) k).1=(runS base (p++(q++23::r)) (auR (p++(q++23::r))) k).1)∧
 ∃e:Ent,(e.ov=0∨e.ov=1∨e.ov=2)∧
  (∀(l:List Int) (q':List Int) (r':List Int) (au:Nat→Int),l=p++(q'++23::r')→Bal 0 q'→(runS base l au a).1=(runS base (p++23::r) (auR (p++23::r)) a).1→
   (stepS base (runS base l au a).1 (l.getD a 0) (au a)).lv=e.lv∧(stepS base (runS base l au a).1 (l.getD a 0) (au a)).cl=plainCls (p.getD a 0) e.ov∧
   stepS base (runS base l au (a+1+q'.length)).1 (l.getD (a+1+q'.length) 0) (au (a+1+q'.length))=⟨(runS base (p++23::r) (auR (p++23::r)) a).1,e.lv,plainCls 23 e.ov,true⟩):=by
 have hw:=(runS_wf hb (p++23::r) (auR (p++23::r)) a).1;obtain⟨e0,l0,hl0,hov0,_⟩:=closed_stack hw hba 0 0 (q:=[]) rfl (fun _=>0) 0;refine⟨fun k hk=> ?_,e0,hov0,?_⟩
 ·refine congrArg (fun x=>x.1) (runS_congr k fun j hj=> ?_)
  have hphi:phi a q.length j=j:=by unfold phi;rw[if_pos (by omega)]
  have h1:=without_getD (q:=q) (r:=r) hp (i:=j);rw[hphi]at h1;refine⟨h1,fun _=> ?_⟩;have:=auR_without (r:=r) hp hq hba (i:=j) (by have:=(wlen (q:=q) (r:=r) hp).1;omega) (by omega);rw[hphi]at this;exact this.symm
 ·intro l q' r' au hl hq' hst
  have hla:l.getD a 0=p.getD a 0:=by rw[hl];simp only[List.getD,List.getElem?_append_left (show a<p.length by omega)]
  rw[hla]
  have hrun:=runS_runQ (base:=base) (l:=l) (au:=au) q' (a+1) (fun j hj=>by
   rw[hl];simp only[List.getD];rw[List.getElem?_append_right (by omega),List.getElem?_append_left (by omega)];congr 2
   omega)
  have hl23:l.getD (a+1+q'.length) 0=23:=by rw[hl];simp only[List.getD];rw[List.getElem?_append_right (by omega),List.getElem?_append_right (by omega),show a+1+q'.length-p.length-q'.length=0 by omega];rfl
  have h1:(runS base l au (a+1)).1=(stepS base (runS base l au a).1 (p.getD a 0) (au a)).s:=by rw[runS_succ,hla]
  rw[hrun,h1,hl23,hst];obtain⟨e,l1,hl1,_,h2,h3,h4⟩:=closed_stack hw hba (au a) (au (a+1+q'.length)) hq' au (a+1);rw[hl0]at hl1
  injection hl1 with h5 h6
  subst h5;exact⟨h2,h3,h4⟩
theorem without_state {base:Int}(hb:base=0∨base=1)(hp:p.length=a+1)(hq:Bal 0 q)(hba:begins (p.getD a 0)=true): ∀k,a+2+k≤(p++23::r).length→
 (runS base (p++23::r) (auR (p++23::r)) (a+2+k)).1=(runS base (p++(q++23::r)) (auR (p++(q++23::r))) (phi a q.length (a+2+k))).1
 |0,_=>by
  obtain⟨h1,e,_,h2⟩:=without_run (r:=r) hb hp hq hba
  have hphi:phi a q.length (a+2)=a+1+q.length+1:=by unfold phi;rw[if_neg (by omega)];omega
  have k1:=(h2 _ [] r (auR (p++23::r)) rfl rfl rfl).2.2;have k2:=(h2 _ q r (auR (p++(q++23::r))) rfl hq (h1 a (Nat.le_refl _)).symm).2.2;simp only[List.length_nil,Nat.add_zero,List.nil_append]at k1;rw[Nat.add_zero,hphi,show a+2=a+1+1 from rfl,runS_succ (a+1),k1,runS_succ (a+1+q.length),k2]
 |k+1,hk=>by
  have ih:=without_state (base:=base) hb hp hq hba k (by omega)
  have hphi:phi a q.length (a+2+(k+1))=phi a q.length (a+2+k)+1:=by rw[←phi_succ (by omega)];rfl
  have hg:=without_getD (q:=q) (r:=r) hp (i:=a+2+k);have hau:=auR_without (r:=r) hp hq hba (i:=a+2+k) (by omega) (by omega);rw[hphi];rw[show a+2+(k+1)=a+2+k+1 from rfl,runS_succ,runS_succ,ih,hg,hau]
end
theorem closed_all {base:Int}(hb:base=0∨base=1){l:List Int}{a e:Nat}(ha:a<l.length)(hbg:begins (l.getD a 0)=true)(hm:(matchL l).getD a 0=(e:Int))(he:e<l.length):
 a+1≤e∧l.getD e 0=23∧
 (∃x:Ent,(x.ov=0∨x.ov=1∨x.ov=2)∧(runS base l (auP l) l.length).2.1.getD a 0=x.lv∧(runS base l (auP l) l.length).2.2.getD a 0=plainCls (l.getD a 0) x.ov∧
  (runS base l (auP l) l.length).2.1.getD e 0=x.lv∧(runS base l (auP l) l.length).2.2.getD e 0=plainCls 23 x.ov)∧
 ∀W,W=l.take (a+1)++l.drop e→W.length+(e-a-1)=l.length∧ ∀i,i<W.length→
  (runS base W (auP W) W.length).2.1.getD i 0=(runS base l (auP l) l.length).2.1.getD (phi a (e-a-1) i) 0∧(runS base W (auP W) W.length).2.2.getD i 0=(runS base l (auP l) l.length).2.2.getD (phi a (e-a-1) i) 0:=by
 obtain⟨q,r,hl,hq,hee⟩:=bal_of_match ha hbg hm he
 have hp:(l.take (a+1)).length=a+1:=by simp;omega
 have hpa:(l.take (a+1)).getD a 0=l.getD a 0:=getD_take (by omega)
 have hdrop:l.drop e=23::r:=by
  conv=>lhs;rw[hl]
  rw[List.drop_append,List.drop_eq_nil_of_le (by omega),List.nil_append,List.drop_append,List.drop_eq_nil_of_le (by omega),List.nil_append,hp,show e-(a+1)-q.length=0 by omega];rfl
 rw[hdrop];rw[au_same]
 have hd:e-a-1=q.length:=by omega
 rw[hd];rw[←hpa]at hbg⊢;generalize l.take (a+1)=p at hl hp hbg⊢;have hlen:=wlen (q:=q) (r:=r) hp;have hR:=without_run (r:=r) hb hp hq hbg;have hS:=without_state (r:=r) hb hp hq hbg;have hphiL:=phi_end (q:=q) (r:=r) hp;have hG:=fun i=>without_getD (q:=q) (r:=r) hp (i:=i);have hA:=fun i hi hia=>auR_without (r:=r) hp hq hbg (i:=i) hi hia;subst hl;obtain⟨h1,x,hov,h2⟩:=hR;obtain⟨b1,b2,b3⟩:=h2 _ q r (auR (p++(q++23::r))) rfl hq (h1 a (Nat.le_refl _)).symm;obtain⟨c1,c2,c3⟩:=h2 _ [] r (auR (p++23::r)) rfl rfl rfl;simp only[List.length_nil,Nat.add_zero,List.nil_append]at c1 c2 c3
 have hl23:(p++(q++23::r)).getD e 0=23:=by simp only[List.getD];rw[List.getElem?_append_right (by omega),List.getElem?_append_right (by omega),show e-p.length-q.length=0 by omega];rfl
 have ga:=runS_get (base:=base) (l:=p++(q++23::r)) (au:=auR (p++(q++23::r))) (i:=a) (p++(q++23::r)).length (by omega);have ge:=runS_get (base:=base) (l:=p++(q++23::r)) (au:=auR (p++(q++23::r))) (i:=a+1+q.length) (p++(q++23::r)).length (by omega);refine⟨by omega,hl23,⟨x,hov,by rw[ga.1,b1],by rw[ga.2,b2],by rw[hee,ge.1,b3],by rw[hee,ge.2,b3]⟩,?_⟩;rintro W rfl;rw[au_same];refine⟨by omega,fun i hi=> ?_⟩;have gi:=runS_get (base:=base) (l:=p++23::r) (au:=auR (p++23::r)) (i:=i) _ hi;have gp:=runS_get (base:=base) (l:=p++(q++23::r)) (au:=auR (p++(q++23::r))) (i:=phi a q.length i) (p++(q++23::r)).length (by rw[←hphiL];exact phi_lt.2 hi);rw[gi.1,gi.2,gp.1,gp.2]
 rcases Nat.lt_trichotomy i a with hia|hia|hia
 ·have hphi:phi a q.length i=i:=by unfold phi;rw[if_pos (by omega)]
  have e1:=hG i;have e2:=hA i hi (by omega);rw[hphi]at e1 e2⊢;rw[h1 i (by omega),e1,e2];exact⟨rfl,rfl⟩
 ·subst hia
  have hphi:phi i q.length i=i:=by unfold phi;rw[if_pos (by omega)]
  rw[hphi,b1,b2,c1,c2];exact⟨rfl,rfl⟩
 ·by_cases hi1:i=a+1
  ·subst hi1
   have hphi:phi a q.length (a+1)=a+1+q.length:=by unfold phi;rw[if_neg (by omega)]
   rw[hphi,b3,c3];exact⟨rfl,rfl⟩
  ·obtain⟨k,rfl⟩: ∃k,i=a+2+k:=⟨i-a-2,by omega⟩;rw[hS k (by omega),hG (a+2+k),hA (a+2+k) hi (by omega)];exact⟨rfl,rfl⟩
end
end Go.Proofs.YtllolnkkepacjaaGreat
