/- Small words on memory: blocks, slices that read as lists. Slices of integers: that the call owns, that are read. append of one number inside a fence. -/
import Derived.Test.YtplpbmkdfabfpaaGreatRows
import Derived.WalkKit
import Derived.WalkSpells
import Derived.WalkLawsBesides
import Derived.BigRegion
import Derived.BigQuiet
import Derived.Deep.QuietTactic
import Derived.StillTailTactics
import Derived.Lib.Hide
import Derived.Deep.Draws
import Derived.Deep.AppendLies
import Derived.Maps.AppendAt
import Derived.Laws.OwnMore
import Derived.Deep.LoopGhost
import Derived.Deep.DeepCutAuto
import Derived.Deep.DeepMust
import Derived.Deep.DeepFit
import Derived.OwnWalkIn
namespace Go.Proofs.YtplpbmkdfabfpaaGreat
open Go.RowKit
section
def Blk (w:World)(g:Nat)(t:TypeId)(cs:Array Value):Prop:=w.heap[g]?=some (.cells cs t (0,0))
section
variable{w w':World} {g:Nat} {t:TypeId} {cs:Array Value}
theorem Blk.lt (h:Blk w g t cs):g<w.heap.size:=by
 rcases Nat.lt_or_ge g w.heap.size with hlt|hge
 ·exact hlt
 ·unfold Blk at h;rw[Array.getElem?_eq_none hge]at h;cases h
theorem Blk.cell (h:Blk w g t cs)(i:Nat):w.cell? ⟨g,i,none⟩=cs[i]?:=cell_of_row w g i cs t (0,0) h
theorem Blk.frozen (h:Blk w g t cs)(i:Nat):w.frozen? ⟨g,i,none⟩=false:=by unfold Blk at h;simp[World.frozen?,h]
theorem Blk.new (w:World)(t:TypeId)(cs:Array Value):Blk (w.alloc (.cells cs t)) w.heap.size t cs:=heap_alloc_new w _
theorem Blk.drew (h:Blk w g t cs):Blk w.drew g t cs:=h
theorem Blk.drewN (h:Blk w g t cs)(n:Nat):Blk (w.drewN n) g t cs:=h
theorem Blk.alloc (h:Blk w g t cs)(o:Obj):Blk (w.alloc o) g t cs:=(Below.heap_alloc w o g h.lt).trans h
theorem Blk.set_ (h:Blk w g t cs)(i:Nat)(u:Value):Blk (w.setCell ⟨g,i,none⟩ u) g t (cs.setIfInBounds i u):=by unfold Blk at h⊢;simp[World.setCell,Array.getElem?_modify,h]
theorem Blk.far (h:Blk w g t cs){p:Addr}(hp:g≠p.block)(u:Value):Blk (w.setCell p u) g t cs:=(Below.heap_setCell w p u g hp).trans h
theorem Blk.below {B:Nat}(h:Blk w g t cs)(hb:Below B w w')(hg:g<B):Blk w' g t cs:=(hb.block g hg).trans h
theorem Blk.grown {row:Option Nat}(h:Blk w g t cs)(hb:w.grownBy w' row)(hg:some g≠row):Blk w' g t cs:=(hb.block g h.lt hg).trans h
end
section
variable{P:Program} {ops:Array Oper} {w:World}
def QF:Exit→Act→World→Prop:=fun _ _ _=>False
def plainOp (o:Oper):Bool:=match o.op with
 |.move _|.assign _|.pick .. |.load .. |.nilCheck _|.binOp .. |.unOp .. |.convert .. |.makeInterface .. |.slice .. |.fieldAddr .. |.field .. |.indexAddr .. |.index .. |.extract .. |.build .. =>true
 |.call {callee:=.builtin .len,..}=>true
 |_=>false
theorem plain_value {o:Oper}(hp:plainOp o=true){ρ:Operand→Value}{n:Next}{w':World}(h:(execOp ρ o).run P w= .ok n w'): ∃v,n= .value v:=by
 have key: ∀s:Sem Value,(s>>=fun x=>(pure (Next.value x):Sem Next)).run P w= .ok n w'→ ∃v,n= .value v:=by
  intro s hs;rw[Sem.run_bind]at hs
  cases hr:s.run P w with
  |ok x w1=>rw[hr]at hs;simp[Result.andThen]at hs;exact⟨x,hs.1.symm⟩
  |halt x w1=>rw[hr]at hs;simp[Result.andThen]at hs
 obtain⟨dst,op,ty,pos,after,guard⟩:=o;cases op
 case call c=>
  obtain⟨callee,args,tys⟩:=c
  cases callee with
  |builtin b=>
   cases b<;>simp[plainOp]at hp;simp only[execOp,resolve,Sem.run_bind,Sem.run_pure,Result.andThen_ok,invoke,builtin]at h;exact key _ (by rw[Sem.run_bind];exact h)
  |_=>simp[plainOp]at hp
 case move x=>simp[execOp]at h;exact⟨_,h.1.symm⟩
 case assign x=>simp[execOp]at h;exact⟨_,h.1.symm⟩
 case pick c a b=>
  simp only[execOp,Sem.run_bind]at h
  cases hr:(asBool (ρ c)).run P w with
  |ok x w1=>rw[hr]at h;simp[Result.andThen]at h;exact⟨_,h.1.symm⟩
  |halt x w1=>rw[hr]at h;simp[Result.andThen]at h
 case nilCheck x=>
  have hpan: ∀{n':Next} {w1:World},((runtimePanic .nilDeref:Sem Next).run P w= .ok n' w1)→False:=fun{n' w1} hh=>by simp[runtimePanic,goPanic,program]at hh;cases hh
  simp only[execOp]at h
  split at h
  ·exact(hpan h).elim
  ·exact(hpan h).elim
  ·exact(hpan h).elim
  ·split at h
   ·exact(hpan h).elim
   ·simp only[Sem.run_bind]at h
    revert h
    generalize ((program:Sem Program).run P w)=r0;intro h
    cases r0 with
    |halt x w1=>simp[Result.andThen]at h
    |ok p w1=>
     simp only[Result.andThen]at h
     split at h
     ·simp at h
      split at h
      ·simp at h;exact⟨_,h.1.symm⟩
      ·simp at h
     ·simp at h
   ·simp at h;exact⟨_,h.1.symm⟩
  ·simp at h;exact⟨_,h.1.symm⟩
 all_goals first
  |(simp[plainOp]at hp;done)
  |exact key _ h
theorem still_of_wp {o:Oper}(hp:plainOp o=true){a:Act}{K:Act→Prop}(h:o.wp P a w (fun a' w'=>w'=w∧K a') QF):o.still P a w K:=by
 unfold Oper.wp at h;unfold Oper.still;generalize hr:(execOp a.eval o).run P w=r at h⊢
 cases r with
 |ok n w'=>
  obtain⟨v,rfl⟩:=plain_value hp hr;exact h
 |halt x w'=>
  cases x<;>first|exact h.elim|(simp only[Oper.upon,QF]at h)
theorem still_plain {o:Oper}{rest:List Oper}{a:Act}{Q:Act→Prop}(hg:o.guard=none)(hp:plainOp o=true)
 (h: ∀K:Act→World→Prop,(∀a',wpStill P ops w Q rest a'→K a' w)→o.wp P a w K QF):wpStill P ops w Q (o::rest) a:=by
 unfold wpStill;rw[if_pos (by simp[Region.wanted,hg])];exact still_of_wp hp (h (fun a' w'=>w'=w∧wpStill P ops w Q rest a') fun _ h'=>⟨rfl,h'⟩)
theorem still_guard {o:Oper}{rest:List Oper}{a:Act}{Q:Act→Prop}(hp:plainOp o=true)
 (h: ∀K:Act→World→Prop,(∀a',wpStill P ops w Q rest a'→K a' w)→if Region.wanted o (yielded ops a.tmps)then o.wp P a w K QF else K (a.put o.dst undef) w):wpStill P ops w Q (o::rest) a:=by
 have h1:=h (fun a' w'=>w'=w∧wpStill P ops w Q rest a') fun _ h'=>⟨rfl,h'⟩;unfold wpStill
 by_cases hw:Region.wanted o (yielded ops a.tmps)=true
 ·rw[if_pos hw]at h1⊢;exact still_of_wp hp h1
 ·rw[if_neg hw]at h1⊢;exact h1.2
theorem wp_region_tail {id:Nat}{Q:Exit→Act→World→Prop}{a:Act}{l:List Oper}(n:Nat)(hm:P.follows .mixedOrders=true)(hB:Region.lexTailB .any l.toArray n=true)
 (h:wpStill P l.toArray w.drew (fun a'=>wpList P l.toArray Q (l.drop n) a' w.drew) (l.take n) a):(Code.region id l.toArray true).wp P Q a w:=
 wp_region_still_tail n hm hB h
theorem wp_region_reads {id:Nat}{Q:Exit→Act→World→Prop}{a:Act}{l:List Oper}(hm:P.follows .mixedOrders=true)(hB:Region.lexB .any l.toArray=true)
 (h:wpStill P l.toArray w.drew (fun a'=>Q .normal a' w.drew) l a):(Code.region id l.toArray true).wp P Q a w:=
 wp_region_still_lit hm hB h
end
structure Frm (F:Nat→Prop) (w w':World):Prop where
 os:w'.os=w.os
 tape:w'.tape=w.tape
 output:w'.output=w.output
 size:w.heap.size≤w'.heap.size
 block: ∀k,k<w.heap.size→ ¬F k→w'.heap[k]?=w.heap[k]?
section
variable{F F':Nat→Prop} {w w1 w':World}
theorem Frm.refl (F:Nat→Prop)(w:World):Frm F w w:=⟨rfl,rfl,rfl,Nat.le_refl _,fun _ _ _=>rfl⟩
theorem Frm.trans (h:Frm F w w1)(k:Frm F' w1 w')(hF: ∀k,k<w.heap.size→F' k→F k):Frm F w w':=
 ⟨k.os.trans h.os,k.tape.trans h.tape,k.output.trans h.output,Nat.le_trans h.size k.size,
  fun i hi hn=>(k.block i (Nat.lt_of_lt_of_le hi h.size) (fun e=>hn (hF i hi e))).trans (h.block i hi hn)⟩
theorem Frm.mono (h:Frm F w w')(hF: ∀k,k<w.heap.size→F k→F' k):Frm F' w w':=⟨h.os,h.tape,h.output,h.size,fun k hk hn=>h.block k hk (fun e=>hn (hF k hk e))⟩
theorem Frm.of_below (h:Below w.heap.size w w'):Frm F w w':=⟨h.os,h.tape,h.output,h.size,fun k hk _=>h.block k hk⟩
theorem Frm.drew (h:Frm F w w'):Frm F w w'.drew:=⟨h.os,h.tape,h.output,h.size,h.block⟩
theorem Frm.drewN (h:Frm F w w')(n:Nat):Frm F w (w'.drewN n):=⟨h.os,h.tape,h.output,h.size,h.block⟩
theorem Frm.alloc (h:Frm F w w')(o:Obj):Frm F w (w'.alloc o):=⟨h.os,h.tape,h.output,Nat.le_trans h.size (by simp),fun k hk hn=>(Below.heap_alloc _ _ _ (Nat.lt_of_lt_of_le hk h.size)).trans (h.block k hk hn)⟩
theorem Frm.setCell (h:Frm F w w'){p:Addr}(hp:p.block<w.heap.size→F p.block)(u:Value):Frm F w (w'.setCell p u):=⟨h.os,h.tape,h.output,by simpa using h.size,fun k hk hn=>(Below.heap_setCell _ _ _ _ (by rintro rfl;exact hn (hp hk))).trans (h.block k hk hn)⟩
theorem Frm.set {b j:Nat}(h:Frm F w w')(hp:F b)(u:Value):Frm F w (w'.setCell ⟨b,j,none⟩ u):=h.setCell (p:=⟨b,j,none⟩) (fun _=>hp) u
theorem Frm.grown {row:Option Nat}(h:Frm F w w1)(hg:w1.grownBy w' row)(hr: ∀k,row=some k→k<w.heap.size→F k):Frm F w w':=
 ⟨hg.os.trans h.os,hg.tape.trans h.tape,hg.output.trans h.output,Nat.le_trans h.size hg.size,
  fun k hk hn=>(hg.block k (Nat.lt_of_lt_of_le hk h.size) (fun e=>hn (hr k e.symm hk))).trans (h.block k hk hn)⟩
theorem Frm.below {B:Nat}(h:Frm F w w')(hB:B≤w.heap.size)(hF: ∀k,k<B→ ¬F k):Below B w w':=⟨h.os,h.tape,h.output,h.size,fun k hk=>h.block k (Nat.lt_of_lt_of_le hk hB) (hF k hk)⟩
theorem Blk.frm {g:Nat}{t:TypeId}{cs:Array Value}(h:Blk w g t cs)(hf:Frm F w w')(hn: ¬F g):Blk w' g t cs:=(hf.block g h.lt hn).trans h
end
theorem add_lit (b off j:Nat):(⟨b,off,none⟩:Addr).add j=⟨b,off+j,none⟩:=by unfold Addr.add;split<;>simp_all
def Reads (w:World)(B size:Nat)(A:Option Addr)(n:Nat)(xs:List Value):Prop:=xs.length=n*size∧(0<n→ ∃b off,A=some ⟨b,off,none⟩∧b<B∧b<w.heap.size∧ ∀j u,xs[j]?=some u→w.cell? ⟨b,off+j,none⟩=some u)
section
variable{w w':World} {B B' size n:Nat} {A:Option Addr} {xs:List Value}
theorem Reads.none_:Reads w B size A 0 []:=⟨by simp,fun h=>absurd h (by omega)⟩
theorem Reads.at_ {k:Nat}(h:Reads w B 1 A n xs)(hk:k<n): ∃b off u,A=some ⟨b,off,none⟩∧b<B∧b<w.heap.size∧xs[k]?=some u∧w.cell? ⟨b,off+k,none⟩=some u:=by
 obtain⟨b,off,e,hb,hs,hc⟩:=h.2 (by omega)
 have hl:k<xs.length:=by have:=h.1;omega
 exact⟨b,off,xs[k],e,hb,hs,List.getElem?_eq_getElem hl,hc k _ (List.getElem?_eq_getElem hl)⟩
theorem Reads.keep (h:Reads w B size A n xs)(hs:w.heap.size≤w'.heap.size)(hk: ∀p:Addr,p.block<B→p.block<w.heap.size→w'.cell? p=w.cell? p):Reads w' B size A n xs:=
 ⟨h.1,fun hn=>by
  obtain⟨b,off,e,hb,hs',hc⟩:=h.2 hn
  exact⟨b,off,e,hb,by omega,fun j u hu=>(hk _ hb hs').trans (hc j u hu)⟩⟩
theorem Reads.more (h:Reads w B size A n xs)(hB:B≤B'):Reads w B' size A n xs:=
 ⟨h.1,fun hn=>by
  obtain⟨b,off,e,hb,hc⟩:=h.2 hn
  exact⟨b,off,e,by omega,hc⟩⟩
theorem Reads.below (h:Reads w B size A n xs){C:Nat}(hb:Below C w w')(hC:B≤C∨w.heap.size≤C):Reads w' B size A n xs:=h.keep hb.size fun p h1 h2=>hb.cell (p:=p) (by omega)
theorem Reads.frm {F:Nat→Prop}(h:Reads w B size A n xs)(hf:Frm F w w')(hF: ∀k,k<B→k<w.heap.size→ ¬F k):Reads w' B size A n xs:=h.keep hf.size fun p h1 h2=>World.cell?_of_block (hf.block p.block h2 (hF _ h1 h2))
theorem Reads.drew (h:Reads w B size A n xs):Reads w.drew B size A n xs:=h
theorem Reads.drewN (h:Reads w B size A n xs)(k:Nat):Reads (w.drewN k) B size A n xs:=h
theorem Reads.alloc (h:Reads w B size A n xs)(o:Obj):Reads (w.alloc o) B size A n xs:=h.keep (by simp) fun p _ hp=>World.cell?_alloc_lt w o p hp
theorem Reads.setCell (h:Reads w B size A n xs){p:Addr}(hB:B≤p.block)(u:Value):Reads (w.setCell p u) B size A n xs:=h.keep (by simp) fun q hq _=>World.cell?_setCell_other w p q u (fun e=>by subst e;omega)
theorem Reads.grown (h:Reads w B size A n xs){row:Option Nat}(hg:w.grownBy w' row)(hr: ∀g,row=some g→B≤g):Reads w' B size A n xs:=h.keep hg.size fun p hp hs=>World.cell?_of_block (hg.block p.block hs (fun e=>by have:=hr _ e.symm;omega))
theorem Reads.of_own {base:Nat}{e:TypeId}{c:Nat}(h:w.ownsRow base e size (.slice A n c) n xs):Reads w w.heap.size size A n xs:=by
 refine⟨h.1,fun hn=> ?_⟩;obtain⟨g,cap,hv,_,hlt⟩:=h.form hn
 have hA:A=some ⟨g,0,none⟩:=by injection hv
 subst hA;refine⟨_,_,rfl,hlt,hlt,fun j u hu=> ?_⟩;rw[←add_lit];exact h.cells (g:=g) rfl j u hu
end
structure ElemT (P:Program) (t e:TypeId) (size bytes:Nat):Prop where
 parts: ∃i z,P.underlying t=some (.slice e)∧P.info? e=some i∧i.zero=some z∧i.size=size∧i.bytes=bytes∧z.cells.size=size∧0<size
section
variable{P:Program}
theorem ElemT.mk' {t e:TypeId}{size bytes:Nat}(z:Value)(ht:P.underlying t=some (.slice e))(hi:(P.info? e).map (fun i=>(i.zero,i.size,i.bytes))=some (some z,size,bytes))(hz:z.cells.size=size)(h0:0<size):ElemT P t e size bytes:=by obtain⟨i,hi,h1,h2,h3⟩:=info_parts hi;exact⟨i,z,ht,hi,h1,h2,h3,hz,h0⟩
theorem run_append_of_nil {w:World}(base:Nat)(t ty e:TypeId)(i:TypeInfo)(size:Nat)(ht:P.underlying t=some (.slice e))(hi:P.info? e=some i)
 (v:Value) (n:Nat) (xs:List Value) (hown:w.ownsRow base e size v n xs) (c:Nat):(Builtin.append_ #[t,t] ty #[v,.slice none 0 c]).run P w= .ok v w:=by
 rcases hown.2 with⟨rfl,rfl⟩|⟨g,cap,cur,rfl,_,_,hnc,_⟩
 ·simp[Builtin.append_,run_underlying ht,sizeOf,typeInfo,hi,Builtin.lenOf,Builtin.firstCells]
 ·simp[Builtin.append_,run_underlying ht,sizeOf,typeInfo,hi,Builtin.lenOf,Builtin.firstCells,hnc,storeCells]
theorem run_app {t e:TypeId}{size bytes:Nat}(T:ElemT P t e size bytes){w:World}(ty:TypeId){base:Nat}{v:Value}{n:Nat}{xs:List Value}(hown:w.ownsRow base e size v n xs)
 {B:Nat} {A:Option Addr} {m c:Nat} {news:List Value} (hr:Reads w B size A m news) (h1: ∀u∈news,u.oneCell'=true)
 (h63:n+m≤maxLen) (hbytes:(n+m)*bytes≤140737488355328) (hbase:base≤w.heap.size):
 ∃v' w',(Builtin.append_ #[t,t] ty #[v,.slice A m c]).run P w= .ok v' w'∧w'.ownsRow base e size v' (n+m) (xs++news)∧w.grownBy w' v.ownBlock∧
  (v'.ownBlock=v.ownBlock∨v'.ownBlock=some w.heap.size):=by
 obtain⟨i,z,ht,hi,hz,hsize,hby,hzs,hsz⟩:=T.parts
 rcases A with _|ad
 ·have hm:m=0:=by
   rcases Nat.eq_zero_or_pos m with h0|h0
   ·exact h0
   ·obtain⟨b,off,h,_⟩:=hr.2 h0;cases h
  subst hm;have hn:news=[]:=List.eq_nil_of_length_eq_zero (by simpa using hr.1);subst hn;exact⟨v,w,run_append_of_nil base t ty e i size ht hi v n xs hown c,by simpa using hown,⟨rfl,rfl,rfl,Nat.le_refl _,fun _ _ _=>rfl⟩,.inl rfl⟩
 ·have hcells: ∀j u,news[j]?=some u→w.cell? (ad.add j)=some u:=by
   intro j u hu
   rcases Nat.eq_zero_or_pos m with h0|h0
   ·subst h0;have hn:news=[]:=List.eq_nil_of_length_eq_zero (by simpa using hr.1);subst hn;simp at hu
   ·obtain⟨b,off,h,_,_,hc⟩:=hr.2 h0
    injection h with h
    subst h;rw[add_lit];exact hc j u hu
  obtain⟨v',w',hrun,h2,h3,_,h5⟩:=run_append_own_at (P:=P) w base t ty e i z size bytes ht hi hz hsize hby hzs hsz v n xs hown ad m c news hr.1 hcells h1 h63 hbytes hbase;exact⟨v',w',hrun,h2,h3,h5⟩
theorem wp_app {t e:TypeId}{size bytes:Nat}(T:ElemT P t e size bytes){w:World}{o:Oper}{a:Act}{K:Act→World→Prop}{Q:Exit→Act→World→Prop}{s x:Operand}
 (ho:o.op= .call {callee:=.builtin .append,args:=#[s,x],argTypes:=#[t,t]}) {base:Nat} {v:Value} {n:Nat} {xs:List Value} (hs:a.eval s=v) (hown:w.ownsRow base e size v n xs)
 {B:Nat} {A:Option Addr} {m c:Nat} {news:List Value} (hx:a.eval x= .slice A m c) (hr:Reads w B size A m news) (h1: ∀u∈news,u.oneCell'=true)
 (h63:n+m≤maxLen) (hbytes:(n+m)*bytes≤140737488355328) (hbase:base≤w.heap.size)
 (h: ∀v' w',w'.ownsRow base e size v' (n+m) (xs++news)→w.grownBy w' v.ownBlock→(v'.ownBlock=v.ownBlock∨v'.ownBlock=some w.heap.size)→K (a.put o.dst v') w'):o.wp P a w K Q:=by
 obtain⟨v',w',hrun,h2,h3,h4⟩:=run_app T (w:=w) o.type hown (c:=c) hr h1 h63 hbytes hbase;unfold Oper.wp execOp;simp only[ho,resolve,invoke,builtin,Sem.run_bind,Sem.run_pure,Result.andThen_ok,List.map_toArray,List.map_cons,List.map_nil,hs,hx,hrun];exact h v' w' h2 h3 h4
theorem wpList_app {t e:TypeId}{size bytes:Nat}(T:ElemT P t e size bytes){w:World}{ops:Array Oper}{rest:List Oper}{o:Oper}{a:Act}{Q:Exit→Act→World→Prop}{s x:Operand}(hgd:o.guard=none)
 (ho:o.op= .call {callee:=.builtin .append,args:=#[s,x],argTypes:=#[t,t]}) {base:Nat} {v:Value} {n:Nat} {xs:List Value} (hs:a.eval s=v) (hown:w.ownsRow base e size v n xs)
 {B:Nat} {A:Option Addr} {m c:Nat} {news:List Value} (hx:a.eval x= .slice A m c) (hr:Reads w B size A m news) (h1: ∀u∈news,u.oneCell'=true)
 (h63:n+m≤maxLen) (hbytes:(n+m)*bytes≤140737488355328) (hbase:base≤w.heap.size)
 (h: ∀v' w',w'.ownsRow base e size v' (n+m) (xs++news)→w.grownBy w' v.ownBlock→(v'.ownBlock=v.ownBlock∨v'.ownBlock=some w.heap.size)→wpList P ops Q rest (a.put o.dst v') w'):wpList P ops Q (o::rest) a w:=
 wpList_plain hgd fun _ hK=>wp_app T ho hs hown hx hr h1 h63 hbytes hbase fun v' w' h2 h3 h4=>hK _ _ (h v' w' h2 h3 h4)
theorem Reads.blk {w:World}{g:Nat}{e:TypeId}{cs:Array Value}{n size:Nat}(h:Blk w g e cs)(hn:cs.size=n*size):Reads w w.heap.size size (some ⟨g,0,none⟩) n cs.toList:=⟨by simpa using hn,fun _=>⟨_,_,rfl,h.lt,h.lt,fun j u hu=>by rw[Nat.zero_add,h.cell,←Array.getElem?_toList];exact hu⟩⟩
theorem wpList_app1 {t e:TypeId}{size bytes:Nat}(T:ElemT P t e size bytes){w:World}{ops:Array Oper}{rest:List Oper}{o:Oper}{a:Act}{Q:Exit→Act→World→Prop}{s x:Operand}(hgd:o.guard=none)
 (ho:o.op= .call {callee:=.builtin .append,args:=#[s,x],argTypes:=#[t,t]}) {base:Nat} {v:Value} {n:Nat} {xs:List Value} (hs:a.eval s=v) (hown:w.ownsRow base e size v n xs)
 {k:Nat} {cs:Array Value} (hx:a.eval x= .slice (some ⟨k,0,none⟩) 1 1) (hk:Blk w k e cs) (hc:cs.size=size) (h1: ∀u∈cs.toList,u.oneCell'=true)
 (h63:n+1≤maxLen) (hbytes:(n+1)*bytes≤140737488355328) (hbase:base≤w.heap.size)
 (h: ∀g cap w',w'.ownsRow base e size (.slice (some ⟨g,0,none⟩) (n+1) cap) (n+1) (xs++cs.toList)→w.grownBy w' v.ownBlock→(v.ownBlock=some g∨g=w.heap.size)→
  wpList P ops Q rest (a.put o.dst (.slice (some ⟨g,0,none⟩) (n+1) cap)) w'):wpList P ops Q (o::rest) a w:=by
 refine wpList_app T hgd ho hs hown hx (Reads.blk hk (by rw[hc];omega)) h1 h63 hbytes hbase fun v' w' h2 h3 h4=> ?_;obtain⟨g,cap,rfl,_,_⟩:=h2.form (by omega);refine h g cap w' h2 h3 ?_
 rcases h4 with h4|h4
 ·exact .inl h4.symm
 ·right;simpa[Value.ownBlock]using h4
end
theorem Blk.c1 {w:World}{g:Nat}{t:TypeId}{a:Value}(h:Blk w g t #[a]):w.cell? ⟨g,0,none⟩=some a∧(∀j,w.frozen? ⟨g,j,none⟩=false)∧g<w.heap.size:=⟨by rw[h.cell];rfl,h.frozen,h.lt⟩
theorem Blk.c2 {w:World}{g:Nat}{t:TypeId}{a b:Value}(h:Blk w g t #[a,b]):w.cell? ⟨g,0,none⟩=some a∧w.cell? ⟨g,1,none⟩=some b∧(∀j,w.frozen? ⟨g,j,none⟩=false)∧g<w.heap.size:=⟨by rw[h.cell];rfl,by rw[h.cell];rfl,h.frozen,h.lt⟩
theorem Blk.c3 {w:World}{g:Nat}{t:TypeId}{a b c:Value}(h:Blk w g t #[a,b,c]):w.cell? ⟨g,0,none⟩=some a∧w.cell? ⟨g,1,none⟩=some b∧w.cell? ⟨g,2,none⟩=some c∧(∀j,w.frozen? ⟨g,j,none⟩=false)∧g<w.heap.size:=⟨by rw[h.cell];rfl,by rw[h.cell];rfl,by rw[h.cell];rfl,h.frozen,h.lt⟩
theorem Blk.c4 {w:World}{g:Nat}{t:TypeId}{a b c d:Value}(h:Blk w g t #[a,b,c,d]):w.cell? ⟨g,0,none⟩=some a∧w.cell? ⟨g,1,none⟩=some b∧w.cell? ⟨g,2,none⟩=some c∧w.cell? ⟨g,3,none⟩=some d∧(∀j,w.frozen? ⟨g,j,none⟩=false)∧g<w.heap.size:=⟨by rw[h.cell];rfl,by rw[h.cell];rfl,by rw[h.cell];rfl,by rw[h.cell];rfl,h.frozen,h.lt⟩
theorem Blk.c5 {w:World}{g:Nat}{t:TypeId}{a b c d e:Value}(h:Blk w g t #[a,b,c,d,e]):w.cell? ⟨g,0,none⟩=some a∧w.cell? ⟨g,1,none⟩=some b∧w.cell? ⟨g,2,none⟩=some c∧w.cell? ⟨g,3,none⟩=some d∧w.cell? ⟨g,4,none⟩=some e∧(∀j,w.frozen? ⟨g,j,none⟩=false)∧g<w.heap.size:=⟨by rw[h.cell];rfl,by rw[h.cell];rfl,by rw[h.cell];rfl,by rw[h.cell];rfl,by rw[h.cell];rfl,h.frozen,h.lt⟩
theorem Blk.c6 {w:World}{g:Nat}{t:TypeId}{a b c d e f:Value}(h:Blk w g t #[a,b,c,d,e,f]):w.cell? ⟨g,0,none⟩=some a∧w.cell? ⟨g,1,none⟩=some b∧w.cell? ⟨g,2,none⟩=some c∧w.cell? ⟨g,3,none⟩=some d∧w.cell? ⟨g,4,none⟩=some e∧w.cell? ⟨g,5,none⟩=some f∧(∀j,w.frozen? ⟨g,j,none⟩=false)∧g<w.heap.size:=⟨by rw[h.cell];rfl,by rw[h.cell];rfl,by rw[h.cell];rfl,by rw[h.cell];rfl,by rw[h.cell];rfl,by rw[h.cell];rfl,h.frozen,h.lt⟩
theorem bcell {B:Nat}{W w1:World}(hb:Below B W w1):(∀b o,b<B→w1.cell? ⟨b,o,none⟩=W.cell? ⟨b,o,none⟩)∧(∀b o,b<B→w1.frozen? ⟨b,o,none⟩=W.frozen? ⟨b,o,none⟩)∧W.heap.size≤w1.heap.size:=⟨fun b o h=>hb.cell (p:=⟨b,o,none⟩) h,fun b o h=>hb.frozen (p:=⟨b,o,none⟩) h,hb.size⟩
section
variable{w w':World}
theorem own_frm {F:Nat→Prop}{base e size n:Nat}{v:Value}{xs:List Value}(h:w.ownsRow base e size v n xs)(hf:Frm F w w')(hg: ∀k,v.ownBlock=some k→ ¬F k):w'.ownsRow base e size v n xs:=by
 refine⟨h.1,?_⟩
 rcases h.2 with h0|⟨g,cap,cur,rfl,hb,hh,r⟩
 ·exact .inl h0
 ·exact .inr ⟨g,cap,cur,rfl,hb,(hf.block g (Array.getElem?_eq_some_iff.1 hh).1 (hg g rfl)).trans hh,r⟩
theorem own_base {base base' e size n:Nat}{v:Value}{xs:List Value}(h:w.ownsRow base e size v n xs)(hb: ∀k,v.ownBlock=some k→base'≤k):w.ownsRow base' e size v n xs:=by
 refine⟨h.1,?_⟩
 rcases h.2 with h0|⟨g,cap,cur,rfl,_,r⟩
 ·exact .inl h0
 ·exact .inr ⟨g,cap,cur,rfl,hb g rfl,r⟩
theorem blk_put2 {g:Nat}{t:TypeId}{a' b':Value}(a b:Value)(h:Blk w g t #[a',b']):Blk ((w.setCell ⟨g,0,none⟩ a).setCell ⟨g,1,none⟩ b) g t #[a,b]:=by simpa using((h.set_ 0 a).set_ 1 b)
theorem frm_put2 (w:World)(g:Nat)(a b:Value):Frm (fun k=>k=g) w ((w.setCell ⟨g,0,none⟩ a).setCell ⟨g,1,none⟩ b):=(((Frm.refl (fun k=>k=g) w).set rfl a).set rfl b)
theorem blk_put3 {g:Nat}{t:TypeId}{a' b' c':Value}(a b c:Value)(h:Blk w g t #[a',b',c']):Blk (((w.setCell ⟨g,0,none⟩ a).setCell ⟨g,1,none⟩ b).setCell ⟨g,2,none⟩ c) g t #[a,b,c]:=by simpa using(((h.set_ 0 a).set_ 1 b).set_ 2 c)
theorem frm_put3 (w:World)(g:Nat)(a b c:Value):Frm (fun k=>k=g) w (((w.setCell ⟨g,0,none⟩ a).setCell ⟨g,1,none⟩ b).setCell ⟨g,2,none⟩ c):=((((Frm.refl (fun k=>k=g) w).set rfl a).set rfl b).set rfl c)
theorem blk_put5 {g:Nat}{t:TypeId}{a' b' c' d' e':Value}(a b c d e:Value)(h:Blk w g t #[a',b',c',d',e']):Blk (((((w.setCell ⟨g,0,none⟩ a).setCell ⟨g,1,none⟩ b).setCell ⟨g,2,none⟩ c).setCell ⟨g,3,none⟩ d).setCell ⟨g,4,none⟩ e) g t #[a,b,c,d,e]:=by simpa using(((((h.set_ 0 a).set_ 1 b).set_ 2 c).set_ 3 d).set_ 4 e)
theorem frm_put5 (w:World)(g:Nat)(a b c d e:Value):Frm (fun k=>k=g) w (((((w.setCell ⟨g,0,none⟩ a).setCell ⟨g,1,none⟩ b).setCell ⟨g,2,none⟩ c).setCell ⟨g,3,none⟩ d).setCell ⟨g,4,none⟩ e):=((((((Frm.refl (fun k=>k=g) w).set rfl a).set rfl b).set rfl c).set rfl d).set rfl e)
end
theorem own_blk {w:World}{base e size n cap g xs}(h:w.ownsRow base e size (.slice (some ⟨g,0,none⟩) n cap) n xs):
 ∃cur,base≤g∧Blk w g e cur∧n≤cap∧cap≤maxLen∧cur.size=cap*size∧cur.toList.take (n*size)=xs:=by
 rcases h.2 with⟨h0,_⟩|⟨g',cap',cur,hv,hb,hg,h1,h2,h3,h4⟩
 ·cases h0
 ·injection hv with e1 e2 e3
  injection e1 with e1
  injection e1 with e1
  subst e1 e3;exact⟨cur,hb,hg,h1,h2,h3,h4⟩
theorem results_row3 {P:Program}{fn:Func}{p u1 u2 u3:Tmp}{ty:TypeId}(h:fn.results=#[.cell p ty,.tmp u1,.tmp u2,.tmp u3])(tmps:Array Value)(w:World)(g:Nat)(t:TypeId)(cs:Array Value)(d:TypeDesc)
 (hp:tmps.getD p undef= .pointer (some ⟨g,0,none⟩)) (hg:Blk w g t cs)
 (hu:P.underlying ty=some d) (hd:(match d with|.struct _|.array _ _=>true|_=>false)=true) (hi:(P.info? ty).map (·.size)=some cs.size):
 (results fn tmps).run P w= .ok (.tuple #[.agg cs,tmps.getD u1 undef,tmps.getD u2 undef,tmps.getD u3 undef]) w:=by
 have hp':tmps[p]?.getD undef= .pointer (some ⟨g,0,none⟩):=by simpa using hp
 simp[results,h,hp',asAddr,run_loadVar_row w g t ty cs (0,0) d hg hu hd hi]
theorem results_row1 {P:Program}{fn:Func}{p u1:Tmp}{ty:TypeId}(h:fn.results=#[.cell p ty,.tmp u1])(tmps:Array Value)(w:World)(g:Nat)(t:TypeId)(cs:Array Value)(d:TypeDesc)
 (hp:tmps.getD p undef= .pointer (some ⟨g,0,none⟩)) (hg:Blk w g t cs)
 (hu:P.underlying ty=some d) (hd:(match d with|.struct _|.array _ _=>true|_=>false)=true) (hi:(P.info? ty).map (·.size)=some cs.size):
 (results fn tmps).run P w= .ok (.tuple #[.agg cs,tmps.getD u1 undef]) w:=by
 have hp':tmps[p]?.getD undef= .pointer (some ⟨g,0,none⟩):=by simpa using hp
 simp[results,h,hp',asAddr,run_loadVar_row w g t ty cs (0,0) d hg hu hd hi]
theorem Reads.frmA {F:Nat→Prop}{w w':World}{B size n:Nat}{A:Option Addr}{xs:List Value}(h:Reads w B size A n xs)(hf:Frm F w w')(hF: ∀b off,A=some ⟨b,off,none⟩→ ¬F b):Reads w' B size A n xs:=
 ⟨h.1,fun hn=>by
  obtain⟨b,off,e,hb,hs',hc⟩:=h.2 hn
  exact⟨b,off,e,hb,Nat.lt_of_lt_of_le hs' hf.size,fun j u hu=>(World.cell?_of_block (a:=⟨b,off+j,none⟩) (hf.block b hs' (hF b off e))).trans (hc j u hu)⟩⟩
end
section
theorem Blk.at_ {w:World}{t:TypeId}{cs:Array Value}{g:Nat}(hg:g=w.heap.size):Blk (w.alloc (.cells cs t)) g t cs:=by subst hg;exact Blk.new _ _ _
structure ElemI (P:Program) (t e:TypeId) (k:IntKind) (bytes:Nat):Prop where
 parts: ∃i,P.underlying t=some (.slice e)∧P.info? e=some i∧i.zero=some (.int k 0)∧i.size=1∧i.bytes=bytes
theorem ElemI.mk' {P:Program}{t e:TypeId}{k:IntKind}{bytes:Nat}(ht:P.underlying t=some (.slice e))(hi:(P.info? e).map (fun i=>(i.zero,i.size,i.bytes))=some (some (.int k 0),1,bytes)):ElemI P t e k bytes:=by obtain⟨i,hi,h1,h2,h3⟩:=info_parts hi;exact⟨i,ht,hi,h1,h2,h3⟩
theorem ElemI.t {P:Program}{t e:TypeId}{k:IntKind}{bytes:Nat}(h:ElemI P t e k bytes):ElemT P t e 1 bytes:=by obtain⟨i,h1,h2,h3,h4,h5⟩:=h.parts;exact⟨i,.int k 0,h1,h2,h3,h4,h5,rfl,by omega⟩
def Ints (w:World)(B:Nat)(e:TypeId)(k:IntKind)(v:Value)(l:List Int):Prop:=w.ownsRow B e 1 v l.length (l.map (.int k))
def RdInts (w:World)(B:Nat)(k:IntKind)(A:Option Addr)(l:List Int):Prop:=Reads w B 1 A l.length (l.map (.int k))
theorem ints_one (k:IntKind)(l:List Int): ∀u∈l.map (Value.int k),u.oneCell'=true:=by intro u hu;obtain⟨x,_,rfl⟩:=List.mem_map.1 hu;rfl
section
variable{w w':World} {B g n cap:Nat} {e:TypeId} {k:IntKind} {v:Value} {l:List Int} {A:Option Addr}
theorem Ints.nil (w:World)(B:Nat)(e:TypeId)(k:IntKind):Ints w B e k (.slice none 0 0) []:=World.ownsRow_nil _ _ _ _
theorem Ints.frm {F:Nat→Prop}(h:Ints w B e k v l)(hf:Frm F w w')(hg: ∀j,v.ownBlock=some j→ ¬F j):Ints w' B e k v l:=own_frm h hf hg
theorem Ints.alloc (h:Ints w B e k v l)(o:Obj):Ints (w.alloc o) B e k v l:=World.ownsRow.alloc h o
theorem Ints.drew (h:Ints w B e k v l):Ints w.drew B e k v l:=h
theorem Ints.drewN (h:Ints w B e k v l)(j:Nat):Ints (w.drewN j) B e k v l:=h
theorem Ints.kept {row:Option Nat}(h:Ints w B e k v l)(hg:w.grownBy w' row)(hne:v.ownBlock=none∨v.ownBlock≠row):Ints w' B e k v l:=World.ownsRow.kept h hg hne
theorem Ints.lt (h:Ints w B e k v l): ∀j,v.ownBlock=some j→B≤j∧j<w.heap.size:=World.ownsRow.lt h
theorem Ints.below {C:Nat}(h:Ints w B e k v l)(hb:Below C w w')(hC:w.heap.size≤C):Ints w' B e k v l:=own_frm h (Frm.of_below (F:=fun _=>False) (hb.mono hC)) (fun _ _ h=>h)
theorem Ints.base {B':Nat}(h:Ints w B e k v l)(hb: ∀j,v.ownBlock=some j→B'≤j):Ints w B' e k v l:=own_base h hb
theorem Ints.form (h:Ints w B e k v l)(hl:0<l.length): ∃g cap,v= .slice (some ⟨g,0,none⟩) l.length cap:=by obtain⟨g,cap,hv,_,_⟩:=World.ownsRow.form h hl;exact⟨g,cap,hv⟩
theorem Ints.cases' (h:Ints w B e k v l):(v= .slice none 0 0∧l=[])∨ ∃g cap,v= .slice (some ⟨g,0,none⟩) l.length cap:=by
 rcases h.2 with⟨rfl,h0⟩|⟨g,cap,cur,rfl,_⟩
 ·exact .inl ⟨rfl,List.eq_nil_of_length_eq_zero h0⟩
 ·exact .inr ⟨g,cap,rfl⟩
theorem Ints.val (h:Ints w B e k v l): ∃A cap,v= .slice A l.length cap∧l.length≤cap∧cap≤maxLen∧RdInts w w.heap.size k A l:=by
 have h1:=h
 rcases h.2 with⟨rfl,h0⟩|⟨g,cap,cur,rfl,_,_,h3,h4,_⟩
 ·have:l=[]:=List.eq_nil_of_length_eq_zero h0;subst this;exact⟨none,0,rfl,by simp,by simp,Reads.none_⟩
 ·exact⟨_,cap,rfl,h3,h4,Reads.of_own h1⟩
theorem Ints.at_ (h:Ints w B e k (.slice (some ⟨g,0,none⟩) n cap) l):n=l.length∧l.length≤cap∧cap≤maxLen∧B≤g∧g<w.heap.size∧(∀j,w.frozen? ⟨g,j,none⟩=false)∧ ∀i,i<l.length→w.cell? ⟨g,i,none⟩=some (.int k (l.getD i 0)):=by
 have hn:n=l.length:=by
  rcases h.2 with⟨h0,_⟩|⟨g',cap',cur,hv,_⟩
  ·cases h0
  ·injection hv
 subst hn;obtain⟨cur,h1,h2,h3,h4,h5,h6⟩:=own_blk h;refine⟨rfl,h3,h4,h1,h2.lt,h2.frozen,fun i hi=> ?_⟩;have:=World.ownsRow.cells h (g:=g) rfl i (.int k (l.getD i 0)) (by simp[hi])
 rwa [add_lit,Nat.zero_add]at this
theorem Ints.set (h:Ints w B e k (.slice (some ⟨g,0,none⟩) n cap) l)(i:Nat)(x:Int):Ints (w.setCell ⟨g,i,none⟩ (.int k x)) B e k (.slice (some ⟨g,0,none⟩) n cap) (l.set i x):=by obtain⟨rfl,_⟩:=h.at_;have:=(World.ownsRow.stored h i (.int k x)).1;unfold Ints;rw[List.map_set,List.length_set];exact this
theorem Ints.cut (h:Ints w B e k (.slice (some ⟨g,0,none⟩) n cap) l)(j:Nat)(hj:j≤l.length):Ints w B e k (.slice (some ⟨g,0,none⟩) j cap) (l.take j):=by
 obtain⟨rfl,h1,h2,_⟩:=h.at_;obtain⟨cur,k1,k2,k3,k4,k5,k6⟩:=own_blk h;unfold Ints
 have hl:(l.take j).length=j:=by simp;omega
 rw[hl];refine⟨by simp;omega,.inr ⟨g,cap,cur,rfl,k1,k2,by omega,k4,k5,?_⟩⟩;rw[List.map_take,←k6,List.take_take];congr 1;omega
theorem Ints.rd (h:Ints w B e k (.slice A n cap) l):RdInts w w.heap.size k A l:=by
 have hn:n=l.length:=by
  rcases h.2 with⟨h0,h1⟩|⟨g',cap',cur,hv,_⟩
  ·injection h0 with _ h2 _;omega
  ·injection hv
 subst hn;exact Reads.of_own h
theorem RdInts.at_ (h:RdInts w B k A l){i:Nat}(hi:i<l.length): ∃b off,A=some ⟨b,off,none⟩∧b<B∧b<w.heap.size∧w.cell? ⟨b,off+i,none⟩=some (.int k (l.getD i 0)):=by obtain⟨b,off,hA,hb,hs,hc⟩:=h.2 (by omega);exact⟨b,off,hA,hb,hs,hc i _ (by simp[hi])⟩
theorem RdInts.cells (h:RdInts w B k A l)(hl:0<l.length): ∃b off,A=some ⟨b,off,none⟩∧b<B∧b<w.heap.size∧ ∀i,i<l.length→w.cell? ⟨b,off+i,none⟩=some (.int k (l.getD i 0)):=by obtain⟨b,off,hA,hb,hs,hc⟩:=h.2 hl;exact⟨b,off,hA,hb,hs,fun i hi=>hc i _ (by simp[hi])⟩
theorem RdInts.below {C:Nat}(h:RdInts w B k A l)(hb:Below C w w')(hC:B≤C∨w.heap.size≤C):RdInts w' B k A l:=Reads.below h hb hC
theorem RdInts.frmA {F:Nat→Prop}(h:RdInts w B k A l)(hf:Frm F w w')(hF: ∀b off,A=some ⟨b,off,none⟩→ ¬F b):RdInts w' B k A l:=Reads.frmA h hf hF
theorem RdInts.alloc (h:RdInts w B k A l)(o:Obj):RdInts (w.alloc o) B k A l:=Reads.alloc h o
theorem RdInts.drew (h:RdInts w B k A l):RdInts w.drew B k A l:=h
theorem RdInts.more {B':Nat}(h:RdInts w B k A l)(hB:B≤B'):RdInts w B' k A l:=Reads.more h hB
end
section
variable{P:Program} {t e:TypeId} {k:IntKind} {bytes:Nat} {w:World} {ops:Array Oper} {rest:List Oper} {o:Oper} {a:Act} {Q:Exit→Act→World→Prop}
theorem wpList_appI (T:ElemI P t e k bytes){s x:Operand}(hgd:o.guard=none)
 (ho:o.op= .call {callee:=.builtin .append,args:=#[s,x],argTypes:=#[t,t]}) {base:Nat} {v:Value} {l:List Int} (hs:a.eval s=v) (hown:Ints w base e k v l)
 {q:Nat} {y:Int} (hx:a.eval x= .slice (some ⟨q,0,none⟩) 1 1) (hk:Blk w q e #[.int k y])
 (h63:l.length+1≤maxLen) (hbytes:(l.length+1)*bytes≤140737488355328) (hbase:base≤w.heap.size)
 (h: ∀g cap w',Ints w' base e k (.slice (some ⟨g,0,none⟩) (l.length+1) cap) (l++[y])→w.grownBy w' v.ownBlock→(v.ownBlock=some g∨g=w.heap.size)→
  wpList P ops Q rest (a.put o.dst (.slice (some ⟨g,0,none⟩) (l.length+1) cap)) w'):wpList P ops Q (o::rest) a w:=by
 refine wpList_app1 T.t hgd ho hs hown hx hk rfl (by simp[Value.oneCell']) h63 hbytes hbase fun g cap w' h1 h2 h3=>h g cap w' ?_ h2 h3;unfold Ints
 simpa using h1
theorem wpList_appIs (T:ElemI P t e k bytes){s x:Operand}(hgd:o.guard=none)
 (ho:o.op= .call {callee:=.builtin .append,args:=#[s,x],argTypes:=#[t,t]}) {base:Nat} {v:Value} {l:List Int} (hs:a.eval s=v) (hown:Ints w base e k v l)
 {B:Nat} {A:Option Addr} {m c:Nat} {l':List Int} (hm:m=l'.length) (hx:a.eval x= .slice A m c) (hr:RdInts w B k A l')
 (h63:l.length+l'.length≤maxLen) (hbytes:(l.length+l'.length)*bytes≤140737488355328) (hbase:base≤w.heap.size)
 (h: ∀v' w',Ints w' base e k v' (l++l')→w.grownBy w' v.ownBlock→(v'.ownBlock=v.ownBlock∨v'.ownBlock=some w.heap.size)→
  wpList P ops Q rest (a.put o.dst v') w'):wpList P ops Q (o::rest) a w:=by
 subst hm;refine wpList_app T.t hgd ho hs hown hx hr (ints_one _ _) h63 hbytes hbase fun v' w' h1 h2 h3=>h v' w' ?_ h2 h3;unfold Ints
 simpa using h1
theorem wpList_mkI (T:ElemI P t e k bytes)(B:Nat)(hg:o.guard=none){lo co:Operand}(hop:o.op=Op.makeSlice t lo co){kl kc:IntKind}{L C:Int}(n:Nat)(hl:a.eval lo= .int kl L)(hc:a.eval co= .int kc C)(hL:L=(n:Int))(hC:C=(n:Int))
 (b2:bytes*n≤281474976710656) (b3:n≤maxLen) (b4:B≤w.heap.size)
 (hK: ∀w',Ints w' B e k (.slice (some ⟨w.heap.size,0,none⟩) n n) (List.replicate n 0)→w.grownBy w' none→wpList P ops Q rest (a.put o.dst (.slice (some ⟨w.heap.size,0,none⟩) n n)) w'):wpList P ops Q (o::rest) a w:=by
 obtain⟨i,h1,h2,h3,h4,h5⟩:=T.parts;subst h5;refine wpList_make_full w hg lo co t hop B e i (.int k 0) 1 h1 h2 h3 h4 kl kc L C n hl hc hL hC b2 b3 b4 fun w' r1 r2=>hK w' ?_ r2;unfold Ints
 have hz:(madeCells (Value.int k 0).cells (n*1)).toList=(List.replicate n (0:Int)).map (.int k):=by rw[Nat.mul_one];exact(toList_madeCells_one (.int k 0) n).trans (by simp)
 rw[hz]at r1
 simpa using r1
end
end
section
section
variable{F:Fence} {n:Nat} {P:Program} {t e:TypeId} {k:IntKind} {bytes:Nat} {w:World} {ops:Array Oper} {rest:List Oper} {o:Oper} {a:Act} {Q:Exit→Act→World→Prop}
theorem wpListIn_app {t e:TypeId}{size bytes:Nat}(T:ElemT P t e size bytes){s x:Operand}(hgd:o.guard=none)
 (ho:o.op= .call {callee:=.builtin .append,args:=#[s,x],argTypes:=#[t,t]}) {base:Nat} {v:Value} {m':Nat} {xs:List Value} (hs:a.eval s=v) (hown:w.ownsRow base e size v m' xs)
 {B:Nat} {A:Option Addr} {m c:Nat} {news:List Value} (hx:a.eval x= .slice A m c) (hr:Reads w B size A m news) (h1: ∀u∈news,u.oneCell'=true)
 (h63:m'+m≤maxLen) (hbytes:(m'+m)*bytes≤140737488355328) (hbase:base≤w.heap.size)
 (h: ∀v' w',w'.ownsRow base e size v' (m'+m) (xs++news)→w.grownBy w' v.ownBlock→(v'.ownBlock=v.ownBlock∨v'.ownBlock=some w.heap.size)→wpListIn F n P ops Q rest (a.put o.dst v') w'):wpListIn F n P ops Q (o::rest) a w:=by
 refine wpListIn_plain hgd fun K hK'=> ?_;obtain⟨v',w',hrun,r1,r2,r3⟩:=run_app T (w:=w) (c:=c) o.type hown hr h1 h63 hbytes hbase;unfold Oper.wpIn;refine⟨?_,?_⟩
 ·simp[Oper.about,ho,resolve,Target.leads,Sem.run_pure]
 ·rw[Oper.semAt_plain F _ _ (by rw[ho];intro c hc';cases hc')];simp[execOp,ho,resolve,invoke,builtin,hs,hx,hrun,Result.andThen];exact hK' _ _ (h v' w' r1 r2 r3)
theorem wpListIn_appI (T:ElemI P t e k bytes){s x:Operand}(hgd:o.guard=none)
 (ho:o.op= .call {callee:=.builtin .append,args:=#[s,x],argTypes:=#[t,t]}) {base:Nat} {v:Value} {l:List Int} (hs:a.eval s=v) (hown:Ints w base e k v l)
 {q:Nat} {y:Int} (hx:a.eval x= .slice (some ⟨q,0,none⟩) 1 1) (hk:Blk w q e #[.int k y])
 (h63:l.length+1≤maxLen) (hbytes:(l.length+1)*bytes≤140737488355328) (hbase:base≤w.heap.size)
 (h: ∀g cap w',Ints w' base e k (.slice (some ⟨g,0,none⟩) (l.length+1) cap) (l++[y])→w.grownBy w' v.ownBlock→(v.ownBlock=some g∨g=w.heap.size)→
  wpListIn F n P ops Q rest (a.put o.dst (.slice (some ⟨g,0,none⟩) (l.length+1) cap)) w'):wpListIn F n P ops Q (o::rest) a w:=by
 refine wpListIn_app T.t hgd ho hs hown hx (Reads.blk hk (by simp)) (by simp[Value.oneCell']) h63 hbytes hbase fun v' w' h2 h3 h4=> ?_;obtain⟨g,cap,rfl,_,_⟩:=h2.form (by omega);refine h g cap w' ?_ h3 ?_
 ·unfold Ints
  simpa using h2
 ·rcases h4 with h4|h4
  ·exact .inl h4.symm
  ·right;simpa[Value.ownBlock]using h4
end
end
end Go.Proofs.YtplpbmkdfabfpaaGreat
