/- The stack's words, without the program. Isolates that belong together, as a plain function; what lies within a pair stays within it. -/
import Derived.Test.YtllolnkkepacjaaGreatKit3
namespace Go.Proofs.YtllolnkkepacjaaGreat
section
structure Ent where
 lv:Int
 ov:Int
 iso:Bool
def Ent.cells (e:Ent):List Value:=[.int .i8 e.lv,.int .u8 e.ov,.bool e.iso]
def entCells (l:List Ent):List Value:=l.reverse.flatMap Ent.cells
theorem entCells_cons (e:Ent)(l:List Ent):entCells (e::l)=entCells l++e.cells:=by simp[entCells]
theorem entCells_length (l:List Ent):(entCells l).length=l.length*3:=by
 induction l with
 |nil=>rfl
 |cons e l ih=>rw[entCells_cons,List.length_append,ih];simp[Ent.cells];omega
theorem ent_one (l:List Ent): ∀u∈entCells l,u.oneCell'=true:=by
 intro u hu;simp only[entCells,List.mem_flatMap]at hu;obtain⟨e,_,hu⟩:=hu;simp[Ent.cells]at hu
 rcases hu with rfl|rfl|rfl<;>rfl
def plainCls (c ov:Int):Int:=if ov≠0 then ov else if c<1∨23<c then 14 else c
def nextLv (odd:Bool)(lv:Int):Int:=if(decide (lv % 2=0))=odd then lv+1 else lv+1+1
def popTo:List Ent→List Ent
 |[]=>[]
 |e::l=>if e.iso then l else popTo l
end
section
def begins (c:Int):Bool:=c==20||c==21||c==22
def mStep (n:Nat)(st:List Int×List Nat)(c:Int):List Int×List Nat:=
 if begins c then(st.1++[(n:Int)],st.1.length::st.2)
 else if c=23 then
  match st.2 with
  |k::rest=>(st.1.set k (st.1.length:Int)++[(k:Int)],rest)
  |[]=>(st.1++[-1],[])
 else if c=11 then(st.1++[-1],[])
 else(st.1++[-1],st.2)
def mRun (n:Nat)(l:List Int):List Int×List Nat:=l.foldl (mStep n) ([],[])
def matchL (l:List Int):List Int:=(mRun l.length l).1
theorem mRun_snoc (n:Nat)(l:List Int)(c:Int):mRun n (l++[c])=mStep n (mRun n l) c:=by simp[mRun]
structure MInv (n:Nat) (l:List Int) (outs:List Int) (pile:List Nat):Prop where
 len:outs.length=l.length
 pile_lt: ∀p∈pile,p<l.length∧outs[p]?=some (n:Int)
 sorted:pile.Pairwise (· > ·)
 kind: ∀(x:Nat) (c:Int),l[x]?=some c→(outs[x]?=some (-1)∧begins c=false)∨(outs[x]?=some (n:Int)∧begins c=true)∨
  (∃y:Nat,outs[x]?=some (y:Int)∧outs[y]?=some (x:Int)∧y<l.length∧((x<y∧begins c=true∧l[y]?=some 23)∨(y<x∧c=23∧ ∃d,l[y]?=some d∧begins d=true)))
 within: ∀a b:Nat,a<b→outs[a]?=some (b:Int)→b<l.length→ ∀x:Nat,a<x→x<b→outs[x]?=some (-1)∨ ∃y:Nat,outs[x]?=some (y:Int)∧a<y∧y<b
 opens: ∀x:Nat,outs[x]?=some (n:Int)→x∈pile∨ ∀p∈pile,x<p
theorem get_snoc_lt {α:Type}{l:List α}{a:α}{x:Nat}(h:x<l.length):(l++[a])[x]?=l[x]?:=List.getElem?_append_left h
theorem get_snoc_at {α:Type}{l:List α}{a:α}{x:Nat}(h:x=l.length):(l++[a])[x]?=some a:=by subst h;simp
theorem get_lt {α:Type}{l:List α}{x:Nat}{a:α}(h:l[x]?=some a):x<l.length:=(List.getElem?_eq_some_iff.1 h).1
theorem MInv.none_ {n:Nat}{l outs:List Int}{pile pile':List Nat}(h:MInv n l outs pile)(c:Int)(hc:begins c=false)(hn:l.length<n)(hp:pile'=pile∨pile'=[]):MInv n (l++[c]) (outs++[-1]) pile':=by
 have hl:=h.len;have old: ∀x,x<l.length→(outs++[-1])[x]?=outs[x]?:=fun x hx=>get_snoc_lt (by omega);have new:(outs++[-1])[l.length]?=some (-1):=get_snoc_at (by omega);refine⟨by simp[hl],?_,?_,?_,?_,?_⟩
 ·intro p hp'
  rcases hp with rfl|rfl
  ·obtain⟨h1,h2⟩:=h.pile_lt p hp';exact⟨by simp;omega,by rw[old p h1];exact h2⟩
  ·cases hp'
 ·rcases hp with rfl|rfl
  ·exact h.sorted
  ·exact List.Pairwise.nil
 ·intro x d hx
  rcases Nat.lt_or_ge x l.length with hlt|hge
  ·rw[get_snoc_lt hlt]at hx;rw[old x hlt]
   rcases h.kind x d hx with h1|h1|⟨y,h1,h2,h3,h4⟩
   ·exact .inl h1
   ·exact .inr (.inl h1)
   ·refine .inr (.inr ⟨y,h1,by rw[old y h3];exact h2,by simp;omega,?_⟩);rw[get_snoc_lt h3];exact h4
  ·have hxe:x=l.length:=by have:=get_lt hx;simp at this;omega
   subst hxe;rw[get_snoc_at rfl]at hx
   injection hx with hx
   subst hx;exact .inl ⟨new,hc⟩
 ·intro a b hab ha hb x hx1 hx2
  have hb':b<l.length:=by
   rcases Nat.lt_or_ge b l.length with h1|h1
   ·exact h1
   ·exfalso;simp at hb
    have hbe:b=l.length:=by omega
    subst hbe;have halt:a<l.length:=hab;rw[old a halt]at ha;obtain⟨d,hd⟩: ∃d,l[a]?=some d:=⟨l[a],List.getElem?_eq_getElem halt⟩
    rcases h.kind a d hd with⟨h1,_⟩|⟨h1,_⟩|⟨y,h1,_,h3,_⟩
    ·rw[h1]at ha;injection ha with ha;omega
    ·rw[h1]at ha;injection ha with ha;omega
    ·rw[h1]at ha;injection ha with ha;omega
  rw[old x (by omega)];rw[old a (by omega)]at ha;exact h.within a b hab ha hb' x hx1 hx2
 ·intro x hx
  have hxl:x<l.length:=by
   rcases Nat.lt_or_ge x l.length with h1|h1
   ·exact h1
   ·have:=get_lt hx;simp at this
    have hxe:x=l.length:=by omega
    subst hxe
    rw[new]at hx;injection hx with hx;omega
  rw[old x hxl]at hx
  rcases hp with rfl|rfl
  ·exact h.opens x hx
  ·exact .inr (by simp)
theorem MInv.begin_ {n:Nat}{l outs:List Int}{pile:List Nat}(h:MInv n l outs pile)(c:Int)(hc:begins c=true)(hn:l.length<n):MInv n (l++[c]) (outs++[(n:Int)]) (outs.length::pile):=by
 have hl:=h.len;have old: ∀x,x<l.length→(outs++[(n:Int)])[x]?=outs[x]?:=fun x hx=>get_snoc_lt (by omega);have new:(outs++[(n:Int)])[l.length]?=some (n:Int):=get_snoc_at (by omega);rw[hl];refine⟨by simp[hl],?_,?_,?_,?_,?_⟩
 ·intro p hp'
  rcases List.mem_cons.1 hp' with rfl|hp'
  ·exact⟨by simp,new⟩
  ·obtain⟨h1,h2⟩:=h.pile_lt p hp';exact⟨by simp;omega,by rw[old p h1];exact h2⟩
 ·exact List.Pairwise.cons (fun p hp=>(h.pile_lt p hp).1) h.sorted
 ·intro x d hx
  rcases Nat.lt_or_ge x l.length with hlt|hge
  ·rw[get_snoc_lt hlt]at hx;rw[old x hlt]
   rcases h.kind x d hx with h1|h1|⟨y,h1,h2,h3,h4⟩
   ·exact .inl h1
   ·exact .inr (.inl h1)
   ·refine .inr (.inr ⟨y,h1,by rw[old y h3];exact h2,by simp;omega,?_⟩);rw[get_snoc_lt h3];exact h4
  ·have hxe:x=l.length:=by have:=get_lt hx;simp at this;omega
   subst hxe;rw[get_snoc_at rfl]at hx
   injection hx with hx
   subst hx;exact .inr (.inl ⟨new,hc⟩)
 ·intro a b hab ha hb x hx1 hx2
  have hb':b<l.length:=by
   rcases Nat.lt_or_ge b l.length with h1|h1
   ·exact h1
   ·exfalso;simp at hb
    have hbe:b=l.length:=by omega
    subst hbe;have halt:a<l.length:=hab;rw[old a halt]at ha;obtain⟨d,hd⟩: ∃d,l[a]?=some d:=⟨l[a],List.getElem?_eq_getElem halt⟩
    rcases h.kind a d hd with⟨h1,_⟩|⟨h1,_⟩|⟨y,h1,_,h3,_⟩
    ·rw[h1]at ha;injection ha with ha;omega
    ·rw[h1]at ha;injection ha with ha;omega
    ·rw[h1]at ha;injection ha with ha;omega
  rw[old x (by omega)];rw[old a (by omega)]at ha;exact h.within a b hab ha hb' x hx1 hx2
 ·intro x hx
  rcases Nat.lt_or_ge x l.length with h1|h1
  ·rw[old x h1]at hx
   rcases h.opens x hx with h2|h2
   ·exact .inl (by simp[h2])
   ·refine .inr fun p hp=> ?_
    rcases List.mem_cons.1 hp with rfl|hp
    ·exact h1
    ·exact h2 p hp
  ·have:=get_lt hx;simp at this;exact .inl (by simp;omega)
theorem MInv.end_ {n:Nat}{l outs:List Int}{k:Nat}{rest:List Nat}(h:MInv n l outs (k::rest))(hn:l.length<n):MInv n (l++[23]) (outs.set k (outs.length:Int)++[(k:Int)]) rest:=by
 have hl:=h.len;obtain⟨hk,hko⟩:=h.pile_lt k (by simp);obtain⟨hs1,hs2⟩:=List.pairwise_cons.1 h.sorted;obtain⟨dk,hdk⟩: ∃d,l[k]?=some d:=⟨l[k],List.getElem?_eq_getElem hk⟩
 have hbk:begins dk=true:=by
  rcases h.kind k dk hdk with⟨h1,_⟩|⟨_,h1⟩|⟨y,h1,_,h3,_⟩
  ·rw[h1]at hko;injection hko with hko;omega
  ·exact h1
  ·rw[h1]at hko;injection hko with hko;omega
 have old: ∀x,x<l.length→x≠k→(outs.set k (outs.length:Int)++[(k:Int)])[x]?=outs[x]?:=fun x hx hxk=>by rw[get_snoc_lt (by simp;omega),List.getElem?_set_ne (by omega)]
 have atk:(outs.set k (outs.length:Int)++[(k:Int)])[k]?=some (l.length:Int):=by rw[get_snoc_lt (by simp;omega),List.getElem?_set_self (by omega),hl]
 have new:(outs.set k (outs.length:Int)++[(k:Int)])[l.length]?=some (k:Int):=get_snoc_at (by simp[hl])
 have over: ∀a b:Nat,a<b→outs[a]?=some (b:Int)→b<l.length→a<k→k<b→False:=fun a b hab ha hb h1 h2=>by
  rcases h.within a b hab ha hb k h1 h2 with h3|⟨y,h3,_,h5⟩
  ·rw[h3]at hko;injection hko with hko;omega
  ·rw[h3]at hko;injection hko with hko;omega
 refine⟨by simp[hl],?_,hs2,?_,?_,?_⟩
 ·intro p hp;have hpk:=hs1 p hp;obtain⟨h1,h2⟩:=h.pile_lt p (by simp[hp]);exact⟨by simp;omega,by rw[old p h1 (by omega)];exact h2⟩
 ·intro x d hx
  rcases Nat.lt_or_ge x l.length with hlt|hge
  ·rw[get_snoc_lt hlt]at hx
   by_cases hxk:x=k
   ·subst hxk;rw[hdk]at hx
    injection hx with hx
    subst hx;refine .inr (.inr ⟨l.length,atk,new,by simp,.inl ⟨hk,hbk,get_snoc_at rfl⟩⟩)
   ·rw[old x hlt hxk]
    rcases h.kind x d hx with h1|h1|⟨y,h1,h2,h3,h4⟩
    ·exact .inl h1
    ·exact .inr (.inl h1)
    ·have hyk:y≠k:=by
      rintro rfl
      rw[h2]at hko;injection hko with hko;omega
     refine .inr (.inr ⟨y,h1,by rw[old y h3 hyk];exact h2,by simp;omega,?_⟩);rw[get_snoc_lt h3];exact h4
  ·have hxe:x=l.length:=by have:=get_lt hx;simp at this;omega
   subst hxe;rw[get_snoc_at rfl]at hx
   injection hx with hx
   subst hx;exact .inr (.inr ⟨k,new,atk,by simp;omega,.inr ⟨hk,rfl,dk,by rw[get_snoc_lt hk];exact hdk,hbk⟩⟩)
 ·intro a b hab ha hb x hx1 hx2
  have halt:a<l.length:=by simp at hb;omega
  by_cases hak:a=k
  ·subst hak;rw[atk]at ha
   injection ha with ha
   have hbe:b=l.length:=by omega
   subst hbe;rw[old x hx2 (by omega)];obtain⟨d,hd⟩: ∃d,l[x]?=some d:=⟨l[x],List.getElem?_eq_getElem hx2⟩
   rcases h.kind x d hd with⟨h1,_⟩|⟨h1,_⟩|⟨y,h1,h2,h3,h4⟩
   ·exact .inl h1
   ·exfalso
    rcases h.opens x h1 with h5|h5
    ·rcases List.mem_cons.1 h5 with h6|h6
     ·omega
     ·have:=hs1 x h6;omega
    ·have:=h5 a (by simp);omega
   ·refine .inr ⟨y,h1,?_,h3⟩
    rcases Nat.lt_trichotomy y a with h5|h5|h5
    ·exfalso;exact over y x (by omega) h2 hx2 h5 hx1
    ·subst h5;rw[h2]at hko;injection hko with hko;omega
    ·exact h5
  ·rw[old a halt hak]at ha
   have hb':b<l.length:=by
    obtain⟨d,hd⟩: ∃d,l[a]?=some d:=⟨l[a],List.getElem?_eq_getElem halt⟩;simp at hb
    rcases h.kind a d hd with⟨h1,_⟩|⟨h1,_⟩|⟨y,h1,_,h3,_⟩
    ·rw[h1]at ha;injection ha with ha;omega
    ·rw[h1]at ha;injection ha with ha;omega
    ·rw[h1]at ha;injection ha with ha;omega
   have hxk:x≠k:=fun e=>over a b hab ha hb' (by omega) (by omega);rw[old x (by omega) hxk];exact h.within a b hab ha hb' x hx1 hx2
 ·intro x hx
  have hxl:x<l.length:=by
   rcases Nat.lt_or_ge x l.length with h1|h1
   ·exact h1
   ·have:=get_lt hx;simp at this
    have hxe:x=l.length:=by omega
    subst hxe
    rw[new]at hx;injection hx with hx;omega
  by_cases hxk:x=k
  ·subst hxk;rw[atk]at hx;injection hx with hx;omega
  ·rw[old x hxl hxk]at hx
   rcases h.opens x hx with h2|h2
   ·rcases List.mem_cons.1 h2 with h3|h3
    ·omega
    ·exact .inl h3
   ·exact .inr fun p hp=>h2 p (by simp[hp])
theorem mInv_run (n:Nat)(l:List Int)(hn:l.length≤n):MInv n l (mRun n l).1 (mRun n l).2:=by
 have key: ∀k,k≤l.length→MInv n (l.take k) (mRun n (l.take k)).1 (mRun n (l.take k)).2:=by
  intro k
  induction k with
  |zero=>
   intro _;simp only[List.take_zero,mRun,List.foldl_nil];exact⟨rfl,by simp,List.Pairwise.nil,by simp,by simp,by simp⟩
  |succ k ih=>
   intro hk;have ih:=ih (by omega)
   have hlen:(l.take k).length=k:=by simp;omega
   rw[List.take_succ_eq_append_getElem (by omega),mRun_snoc];generalize l[k]=c;unfold mStep
   by_cases hb:begins c=true
   ·rw[if_pos hb];exact ih.begin_ c hb (by omega)
   ·have hb:begins c=false:=by simpa using hb
    rw[if_neg (by simp[hb])]
    by_cases h23:c=23
    ·rw[if_pos h23]
     cases hp:(mRun n (l.take k)).2 with
     |nil=>
      simp only;rw[hp]at ih;exact ih.none_ c hb (by omega) (.inr rfl)
     |cons p rest=>
      simp only;rw[hp]at ih;subst h23;exact ih.end_ (by omega)
    ·rw[if_neg h23]
     by_cases h11:c=11
     ·rw[if_pos h11];exact ih.none_ c hb (by omega) (.inr rfl)
     ·rw[if_neg h11];exact ih.none_ c hb (by omega) (.inl rfl)
 have:=key l.length (Nat.le_refl _)
 rwa [List.take_length]at this
end
end Go.Proofs.YtllolnkkepacjaaGreat
