/- The characters of a text: numbers, places, bytes; a part of a text; []rune(s), string(l). Paragraphs: where a text is cut (Split, program's), []rune (Runes), a text's places (New), a part (Slice). A text's places: New, Slice. paras.Each told, by whatever state its caller keeps. A region that draws its order within a round of a range over a function: the law with a condition that each operation keeps. The marks that ranges over functions leave with a call. engine.Text told, by whatever state its caller keeps. -/
import Derived.Test.YtllolnkkepacjaaGreatH6
import Derived.Lib.RuneCountTail
import Derived.Lib.QuoteLoop
import Derived.Shelf.Unicode.DecodeSlow
import Derived.Lib.DecodeN
import Derived.Lib.MapLaws
import Derived.Laws.Cover4
import Derived.Test.YtllolnkkepacjaaGreatR8
import Derived.Test.YtllolnkkepacjaaGreatEw1
import Derived.LoopTactic
import Derived.Lib.OthersKept
import Derived.Deep.QuietTactic
import Derived.BigQuiet
import Derived.Test.YtllolnkkepacjaaGreatEw2
import Derived.Test.YtllolnkkepacjaaGreatRng3
import Derived.RangeFuncCalls
import Derived.Deep.RegionHeld
import Derived.OwnWalkIn
import Derived.RangeFuncLeaves
import Derived.Sort.CutIn
set_option maxRecDepth 100000
set_option maxHeartbeats 4000000
namespace Go.Proofs.YtllolnkkepacjaaGreat
open Go.RowKit
section
open Go.RowKit Go.Lib
attribute [local go_sem] Oper.semAt_some
structure Ch where
 r:Nat
 b:Nat
 n:Nat
deriving Inhabited
def chF (s:ByteArray):Nat→Nat→List Ch
 |0,_=>[]
 |f+1,p=>if p<s.size then⟨(Utf8.decode s p).1,p,(Utf8.decode s p).2⟩::chF s f (p+(Utf8.decode s p).2)else []
def chA (s:ByteArray)(p:Nat):List Ch:=chF s (s.size-p) p
def chs (s:ByteArray):List Ch:=chA s 0
theorem dec_pos {s:ByteArray}{p:Nat}(h:p<s.size):1≤(Utf8.decode s p).2:=Lib.decode_width_pos s p h
theorem tail_size (s:ByteArray)(p:Nat):(s.extract p s.size).size=s.size-p:=by rw[ByteArray.size_extract];omega
theorem dec_le {s:ByteArray}{p:Nat}(h:p<s.size):p+(Utf8.decode s p).2≤s.size:=by have h1:=Lib.width_le (s.extract p s.size) (by rw[tail_size];omega);rw[Lib.tail_decode,tail_size]at h1;have:p+0=p:=rfl;rw[this]at h1;omega
theorem dec_go {s:ByteArray}{p:Nat}(h:p<s.size):Lib.decodeGo (s.extract p s.size)=Utf8.decode s p:=by unfold Lib.decodeGo;rw[tail_size,if_neg (by omega),Lib.tail_decode];rfl
theorem dec_small (s:ByteArray)(p:Nat):(Utf8.decode s p).1≤2147483647:=decode_le s p
theorem chF_fuel (s:ByteArray): ∀(f p:Nat),s.size-p≤f→chF s f p=chA s p
 |0,p,h=>by
  unfold chA;rw[show s.size-p=0 by omega]
 |f+1,p,h=>by
  by_cases hp:p<s.size
  ·have:=dec_pos hp;unfold chA;obtain⟨d,hd⟩: ∃d,s.size-p=d+1:=⟨s.size-p-1,by omega⟩;rw[hd];unfold chF;rw[if_pos hp,if_pos hp,chF_fuel s f _ (by omega),chF_fuel s d _ (by omega)]
  ·unfold chA;rw[show s.size-p=0 by omega];unfold chF;rw[if_neg hp]
termination_by f=>f
theorem chA_end {s:ByteArray}{p:Nat}(h: ¬p<s.size):chA s p=[]:=by unfold chA;rw[show s.size-p=0 by omega];rfl
theorem chA_go {s:ByteArray}{p:Nat}(h:p<s.size):chA s p=⟨(Utf8.decode s p).1,p,(Utf8.decode s p).2⟩::chA s (p+(Utf8.decode s p).2):=by
 have:=dec_pos h
 conv=>lhs;unfold chA
 obtain⟨d,hd⟩: ∃d,s.size-p=d+1:=⟨s.size-p-1,by omega⟩;rw[hd];unfold chF;rw[if_pos h,chF_fuel s d _ (by omega)]
theorem chA_ind {s:ByteArray}{P:Nat→Prop}(h0: ∀p,¬p<s.size→P p)(h1: ∀p,p<s.size→P (p+(Utf8.decode s p).2)→P p): ∀(d p:Nat),s.size-p≤d→P p
 |0,p,h=>h0 p (by omega)
 |d+1,p,h=>by
  by_cases hp:p<s.size
  ·have:=dec_pos hp;exact h1 p hp (chA_ind h0 h1 d _ (by omega))
  ·exact h0 p hp
theorem chA_len (s:ByteArray): ∀p,(chA s p).length≤s.size-p:=fun p=>by
 refine chA_ind (s:=s) (P:=fun p=>(chA s p).length≤s.size-p) (fun p h=> ?_) (fun p h ih=> ?_) _ p (Nat.le_refl _)
 ·rw[chA_end h];simp
 ·have:=dec_pos h;rw[chA_go h,List.length_cons];omega
theorem chs_len (s:ByteArray):(chs s).length≤s.size:=by have:=chA_len s 0;unfold chs;omega
theorem chA_mem (s:ByteArray): ∀p,∀c∈chA s p,p≤c.b∧c.b<s.size∧c.r=(Utf8.decode s c.b).1∧c.n=(Utf8.decode s c.b).2∧1≤c.n∧c.b+c.n≤s.size:=fun p=>by
 refine chA_ind (s:=s) (P:=fun p=> ∀c∈chA s p,p≤c.b∧c.b<s.size∧c.r=(Utf8.decode s c.b).1∧c.n=(Utf8.decode s c.b).2∧1≤c.n∧c.b+c.n≤s.size) (fun p h=> ?_) (fun p h ih=> ?_) _ p (Nat.le_refl _)
 ·rw[chA_end h];intro c hc;cases hc
 ·rw[chA_go h];intro c hc
  rcases List.mem_cons.1 hc with rfl|hc
  ·exact⟨Nat.le_refl _,h,rfl,rfl,dec_pos h,dec_le h⟩
  ·have:=ih c hc;have:=dec_pos h;omega
def cutB (s:ByteArray)(c:Ch):List UInt8:=(s.extract c.b (c.b+c.n)).data.toList
def txt (l:List UInt8):ByteArray:=⟨l.toArray⟩
theorem txt_list (l:List UInt8):(txt l).data.toList=l:=by unfold txt;simp
theorem txt_of (s:ByteArray):txt s.data.toList=s:=by unfold txt;simp
theorem txt_size (l:List UInt8):(txt l).size=l.length:=by unfold txt;simp[ByteArray.size]
def gn (l:List UInt8)(i:Nat):Nat:=(l.getD i 0).toNat
def dcl (l:List UInt8):Nat×Nat:=decodeN l.length (gn l 0) (gn l 1) (gn l 2) (gn l 3)
theorem gn_drop (l:List UInt8)(p i:Nat):gn (l.drop p) i=gn l (p+i):=by unfold gn;rw[List.getD_eq_getElem?_getD,List.getElem?_drop,List.getD_eq_getElem?_getD]
theorem get_gn (s:ByteArray)(i:Nat):(s.get! i).toNat=gn s.data.toList i:=by unfold gn;rw[List.getD_eq_getElem?_getD];show(s.data[i]!).toNat=_;rw[Array.getElem!_eq_getD,Array.getD_eq_getD_getElem?,←Array.getElem?_toList];rfl
theorem dcl_of (s:ByteArray)(p:Nat):Utf8.decode s p=dcl (s.data.toList.drop p):=by rw[decode_at];unfold dcl;rw[gn_drop,gn_drop,gn_drop,gn_drop,get_gn,get_gn,get_gn,get_gn,List.length_drop];rfl
theorem dcl_pos (l:List UInt8):1≤(dcl l).2:=by
 unfold dcl decodeN
 (repeat' split)<;>simp
theorem dcl_le {l:List UInt8}(h:l≠[]):(dcl l).2≤l.length:=by
 have:0<l.length:=by rcases l with _|_<;>simp_all
 unfold dcl decodeN
 (repeat' split)<;>simp only<;>omega
def plF:Nat→List UInt8→List (Nat×List UInt8)
 |0,_=>[]
 |f+1,l=>if l=[]then []else((dcl l).1,l.take (dcl l).2)::plF f (l.drop (dcl l).2)
def pl (l:List UInt8):List (Nat×List UInt8):=plF l.length l
theorem plF_fuel: ∀(f:Nat) (l:List UInt8),l.length≤f→plF f l=pl l
 |0,l,h=>by
  have:l=[]:=List.eq_nil_of_length_eq_zero (by omega);subst this;rfl
 |f+1,l,h=>by
  by_cases h0:l=[]
  ·subst h0;rfl
  ·have hp:=dcl_pos l
   have hl:0<l.length:=by rcases l with _|_<;>simp_all
   obtain⟨m,hm⟩: ∃m,l.length=m+1:=⟨l.length-1,by omega⟩;unfold pl;rw[hm];show(if l=[]then _ else _)=(if l=[]then _ else _);rw[if_neg h0,if_neg h0,plF_fuel f _ (by rw[List.length_drop];omega),plF_fuel m _ (by rw[List.length_drop];omega)]
theorem pl_nil:pl []=[]:=rfl
theorem pl_go {l:List UInt8}(h:l≠[]):pl l=((dcl l).1,l.take (dcl l).2)::pl (l.drop (dcl l).2):=by
 have hp:=dcl_pos l
 have hl:0<l.length:=by rcases l with _|_<;>simp_all
 obtain⟨m,hm⟩: ∃m,l.length=m+1:=⟨l.length-1,by omega⟩
 conv=>lhs;unfold pl
 rw[hm];show(if l=[]then _ else _)=_;rw[if_neg h,plF_fuel m _ (by rw[List.length_drop];omega)]
theorem pl_of (s:ByteArray): ∀p,(chA s p).map (fun c=>(c.r,cutB s c))=pl (s.data.toList.drop p):=fun p=>by
 refine chA_ind (s:=s) (P:=fun p=>(chA s p).map (fun c=>(c.r,cutB s c))=pl (s.data.toList.drop p)) (fun p h=> ?_) (fun p h ih=> ?_) _ p (Nat.le_refl _)
 ·rw[chA_end h,List.drop_eq_nil_of_le (by show s.data.size≤p;exact Nat.le_of_not_lt h)];rfl
 ·have hne:s.data.toList.drop p≠[]:=fun e=>by
   have:=congrArg List.length e;rw[List.length_drop]at this;have h:p<s.data.toList.length:=h;simp only[List.length_nil]at this;omega
  have e:=pl_go hne;rw[←dcl_of,List.drop_drop]at e;rw[chA_go h,List.map_cons,ih,e];congr 2;unfold cutB;simp
theorem pl_chs (s:ByteArray):(chs s).map (fun c=>(c.r,cutB s c))=pl s.data.toList:=by
 have:=pl_of s 0
 simpa[chs]using this
theorem gn_app {a b:List UInt8}{i:Nat}(h:i<a.length):gn (a++b) i=gn a i:=by unfold gn;rw[List.getD_eq_getElem?_getD,List.getElem?_append_left h,List.getD_eq_getElem?_getD]
theorem gn_take {l:List UInt8}{n i:Nat}(h:i<n):gn (l.take n) i=gn l i:=by unfold gn;rw[List.getD_eq_getElem?_getD,List.getElem?_take_of_lt h,List.getD_eq_getElem?_getD]
theorem gn_lt (l:List UInt8)(i:Nat):gn l i<256:=UInt8.toNat_lt _
theorem dcl_local {l l':List UInt8}(h:dcl l≠(65533,1))(hl: ∀i,i<(dcl l).2→gn l' i=gn l i)(hn:(dcl l).2≤l'.length):dcl l'=dcl l:=by
 unfold dcl at*;generalize hg0:gn l 0=b0 at*;generalize hg1:gn l 1=b1 at*;generalize hg2:gn l 2=b2 at*;generalize hg3:gn l 3=b3 at*;generalize l.length=n at*;generalize l'.length=n' at*
 have e0:gn l' 0=b0:=by
  rw[hl 0 (by have:1≤(decodeN n b0 b1 b2 b3).2:=by unfold decodeN;(repeat' split)<;>simp
              omega),hg0]
 rw[e0];unfold decodeN at h hl hn⊢
 by_cases c0:b0<128
 ·rw[if_pos c0,if_pos c0]
 rw[if_neg c0]at h hl hn⊢;rw[if_neg c0]
 by_cases c1:b0/32=6∧(1<n∧b1/64=2)
 ·rw[if_pos c1]at h hl hn⊢
  by_cases d:b0 % 32*64+b1 % 64≥128
  ·rw[if_pos d]at h hl hn⊢
   have e1:gn l' 1=b1:=by rw[hl 1 (by simp),hg1]
   have hn:2≤n':=hn;rw[e1,if_pos ⟨c1.1,by omega,c1.2.2⟩,if_pos d]
  ·rw[if_neg d]at h;exact absurd rfl h
 rw[if_neg c1]at h hl hn⊢
 by_cases c2:b0/16=14∧(1<n∧b1/64=2)∧(2<n∧b2/64=2)
 ·rw[if_pos c2]at h hl hn⊢
  split at h
  ·rename_i d
   rw[if_pos d]at hl hn⊢
   have e1:gn l' 1=b1:=by rw[hl 1 (by simp),hg1]
   have e2:gn l' 2=b2:=by rw[hl 2 (by simp),hg2]
   have hn:3≤n':=hn;rw[e1,e2,if_neg (by omega),if_pos ⟨c2.1,⟨by omega,c2.2.1.2⟩,⟨by omega,c2.2.2.2⟩⟩,if_pos d]
  ·exact absurd rfl h
 rw[if_neg c2]at h hl hn⊢
 by_cases c3:b0/8=30∧(1<n∧b1/64=2)∧(2<n∧b2/64=2)∧(3<n∧b3/64=2)
 ·rw[if_pos c3]at h hl hn⊢
  split at h
  ·rename_i d
   rw[if_pos d]at hl hn⊢
   have e1:gn l' 1=b1:=by rw[hl 1 (by simp),hg1]
   have e2:gn l' 2=b2:=by rw[hl 2 (by simp),hg2]
   have e3:gn l' 3=b3:=by rw[hl 3 (by simp),hg3]
   have hn:4≤n':=hn;rw[e1,e2,e3,if_neg (by omega),if_neg (by omega),if_pos ⟨c3.1,⟨by omega,c3.2.1.2⟩,⟨by omega,c3.2.2.1.2⟩,⟨by omega,c3.2.2.2.2⟩⟩,if_pos d]
  ·exact absurd rfl h
 ·rw[if_neg c3]at h;exact absurd rfl h
theorem pl_ind {Q:List UInt8→Prop}(h0:Q [])(h1: ∀l,l≠[]→Q (l.drop (dcl l).2)→Q l): ∀(n:Nat) (l:List UInt8),l.length≤n→Q l
 |0,l,h=>by
  have:l=[]:=List.eq_nil_of_length_eq_zero (by omega);subst this;exact h0
 |n+1,l,h=>by
  by_cases he:l=[]
  ·subst he;exact h0
  ·have hp:=dcl_pos l
   have hl:0<l.length:=by rcases l with _|_<;>simp_all
   exact h1 l he (pl_ind h0 h1 n _ (by rw[List.length_drop];omega))
def rneL (s:ByteArray):List Int:=(chs s).map fun c=>(c.r:Int)
theorem rneL_len (s:ByteArray):(rneL s).length=(chs s).length:=by simp[rneL]
theorem rneL_at {s:ByteArray}{k:Nat}:(rneL s).getD k 0=((chs s).getD k default).r:=by
 unfold rneL;rw[List.getD_eq_getElem?_getD,List.getElem?_map,List.getD_eq_getElem?_getD]
 rcases(chs s)[k]? with _|c<;>rfl
theorem runesFrom_go {s:ByteArray}{i:Nat}(bound:Nat)(acc:Array Value)(hi:i<s.size):Conv.runesFrom s (bound+1) i acc=Conv.runesFrom s bound (i+(Utf8.decode s i).2) (acc.push (.int .i32 ((Utf8.decode s i).1:Int))):=by
 conv=>lhs;unfold Conv.runesFrom
 rw[if_pos hi];generalize Utf8.decode s i=d;rfl
theorem runesFrom_chA (s:ByteArray): ∀(bound i:Nat) (acc:Array Value),s.size-i≤bound→Conv.runesFrom s bound i acc=acc++((chA s i).map fun c=>Value.int .i32 (c.r:Int)).toArray
 |0,i,acc,h=>by
  rw[chA_end (by omega)];simp[Conv.runesFrom]
 |bound+1,i,acc,h=>by
  by_cases hi:i<s.size
  ·have h1:=dec_pos hi;rw[runesFrom_go bound acc hi,chA_go hi];rw[runesFrom_chA s bound _ _ (by omega)];generalize Utf8.decode s i=d;simp
  ·unfold Conv.runesFrom;rw[if_neg hi,chA_end hi];simp
theorem runesFrom_eq (s:ByteArray):Conv.runesFrom s s.size 0 #[]=((rneL s).map (Value.int .i32)).toArray:=by rw[runesFrom_chA s s.size 0 #[] (by omega)];simp[rneL,chs]
theorem conv_runes (W:World){s:ByteArray}(hs:s.size≤1099511627776): ∃cap W',(convert 9 26 (.string s)).run Tryz.prog W= .ok (.slice (some ⟨W.heap.size,0,none⟩) (rneL s).length cap) W'∧
 Ints W' W.heap.size 21 .i32 (.slice (some ⟨W.heap.size,0,none⟩) (rneL s).length cap) (rneL s)∧Aft W W':=by
 have hsz:(Conv.runesFrom s s.size 0 #[]).size=(rneL s).length:=by rw[runesFrom_eq];simp
 have hl:(rneL s).length≤s.size:=by rw[rneL_len];exact chs_len s
 have h:=run_runes_of_string (P:=Tryz.prog) W 9 26 21 s (by kernel_rfl) (by kernel_rfl) (by kernel_rfl) (by omega);rw[hsz,runesFrom_eq]at h;refine⟨_,_,h,?_,((Aft.refl W).drew).alloc _⟩;obtain⟨G,hG⟩: ∃G,grownCap W (rneL s).length 0 21=G:=⟨_,rfl⟩;have hge:=grownCap_ge W (rneL s).length 0 21;have hle:=grownCap_le_maxLen W (rneL s).length 0 21 (by unfold maxLen;omega);rw[hG]at hge hle⊢;have hb:=Blk.new W.drew 21 (((rneL s).map (Value.int .i32)).toArray++Array.replicate (G-(rneL s).length) (.int .i32 0));refine⟨by simp,.inr ⟨W.heap.size,G,_,rfl,Nat.le_refl _,hb,hge,hle,?_,?_⟩⟩
 ·simp;omega
 ·simp
theorem Runes_ok {w:World}{s:ByteArray}(hs:s.size≤1099511627776):
 Calls Tryz.prog 94 #[.string s] w fun r w'=> ∃g cap,r= .returned (.slice (some ⟨g,0,none⟩) (rneL s).length cap)∧Ints w' w.heap.size 21 .i32 (.slice (some ⟨g,0,none⟩) (rneL s).length cap) (rneL s)∧Aft w w':=by
 obtain⟨cap,W',h1,h2,h3⟩:=conv_runes w hs;have H2:=Lib.hid h2;clear h2;generalize (rneL s).length=n at*
 go_enter Tryz.func94,Tryz.ntmps94
 go_wp2;go_ret;exact⟨_,_,rfl,H2.out,h3⟩
theorem dcl_take {l:List UInt8}{N:Nat}(h1:(dcl l).2≤N)(h2:N≤l.length):dcl (l.take N)=dcl l:=by
 have h0:=dcl_pos l
 have hne:l.take N≠[]:=fun e=>by have:=congrArg List.length e;rw[List.length_take]at this;simp only[List.length_nil]at this;omega
 have hle:=dcl_le hne;rw[List.length_take]at hle
 by_cases h:dcl l=(65533,1)
 ·by_cases h':dcl (l.take N)=(65533,1)
  ·rw[h,h']
  ·exact(dcl_local h' (l':=l) (fun i hi=>(gn_take (by omega)).symm) (by omega)).symm
 ·exact dcl_local h (fun i hi=>gn_take (by omega)) (by rw[List.length_take];omega)
def lenP (P:List (Nat×List UInt8))(k:Nat):Nat:=((P.take k).map (·.2.length)).sum
theorem lenP_zero (P:List (Nat×List UInt8)):lenP P 0=0:=by unfold lenP;simp
theorem lenP_cons (p:Nat×List UInt8)(P:List (Nat×List UInt8))(k:Nat):lenP (p::P) (k+1)=p.2.length+lenP P k:=by unfold lenP;simp
theorem pl_go2 {l:List UInt8}(h:l≠[]): ∃w,1≤w∧w≤l.length∧(dcl l).2=w∧(l.take w).length=w∧pl l=((dcl l).1,l.take w)::pl (l.drop w):=by have h1:=dcl_pos l;have h2:=dcl_le h;exact⟨_,h1,h2,rfl,by rw[List.length_take];omega,pl_go h⟩
theorem pl_drop: ∀(k:Nat) (l:List UInt8),pl (l.drop (lenP (pl l) k))=(pl l).drop k∧lenP (pl l) k≤l.length
 |0,l=>by rw[lenP_zero];simp
 |k+1,l=>by
  by_cases h:l=[]
  ·subst h;exact⟨rfl,Nat.le_refl _⟩
  ·obtain⟨w,h1,h2,_,h4,e⟩:=pl_go2 h;obtain⟨i1,i2⟩:=pl_drop k (l.drop w);rw[List.length_drop]at i2;rw[e,lenP_cons];simp only[h4];rw[←List.drop_drop,i1];exact⟨rfl,by omega⟩
theorem pl_take: ∀(k:Nat) (l:List UInt8),pl (l.take (lenP (pl l) k))=(pl l).take k
 |0,l=>by rw[lenP_zero];simp[pl_nil]
 |k+1,l=>by
  by_cases h:l=[]
  ·subst h;simp[pl_nil]
  ·obtain⟨w,h1,h2,h3,h4,e⟩:=pl_go2 h;have i1:=pl_take k (l.drop w);have i2:=(pl_drop k (l.drop w)).2;rw[List.length_drop]at i2;rw[e,lenP_cons];simp only[h4];generalize lenP (pl (l.drop w)) k=m at i1 i2⊢;have hd:dcl (l.take (w+m))=dcl l:=dcl_take (by omega) (by omega)
   have hne:l.take (w+m)≠[]:=fun e=>by have:=congrArg List.length e;rw[List.length_take]at this;simp only[List.length_nil]at this;omega
   rw[pl_go hne,hd,h3,List.take_succ_cons,←i1,List.take_take,Nat.min_eq_left (by omega),List.drop_take,Nat.add_sub_cancel_left]
theorem rneL_pl (s:ByteArray):rneL s=(pl s.data.toList).map fun p=>(p.1:Int):=by rw[←pl_chs,List.map_map];rfl
def bAt (s:ByteArray)(k:Nat):Nat:=if k<(chs s).length then((chs s).getD k default).b else s.size
theorem chs_sum (s:ByteArray): ∀p,p≤s.size→ ∀k,k≤(chA s p).length→(if k<(chA s p).length then((chA s p).getD k default).b else s.size)=p+(((chA s p).take k).map (·.n)).sum:=fun p hp=>by
 revert hp
 refine chA_ind (s:=s) (P:=fun p=>p≤s.size→ ∀k,k≤(chA s p).length→(if k<(chA s p).length then((chA s p).getD k default).b else s.size)=p+(((chA s p).take k).map (·.n)).sum) (fun p h hp k hk=> ?_) (fun p h ih hp k hk=> ?_) _ p (Nat.le_refl _)
 ·rw[chA_end h]at hk⊢;simp;omega
 ·have hle:=dec_le h;have ih:=ih hle;rw[chA_go h]at hk⊢
  cases k with
  |zero=>simp
  |succ k=>
   have:=ih k (by simpa using hk);simp only[List.length_cons,Nat.add_lt_add_iff_right,List.getD_cons_succ,List.take_succ_cons,List.map_cons,List.sum_cons];rw[this];omega
theorem cutB_len {s:ByteArray}{c:Ch}(h:c∈chs s):(cutB s c).length=c.n:=by obtain⟨_,_,_,_,_,h6⟩:=chA_mem s 0 c h;unfold cutB;show(s.extract c.b (c.b+c.n)).size=c.n;rw[ByteArray.size_extract];omega
theorem bAt_pl (s:ByteArray){k:Nat}(hk:k≤(chs s).length):bAt s k=lenP (pl s.data.toList) k:=by have h:=chs_sum s 0 (Nat.zero_le _) k hk;rw[Nat.zero_add]at h;have h:bAt s k=(((chs s).take k).map (·.n)).sum:=h;rw[h];unfold lenP;rw[←pl_chs,←List.map_take,List.map_map];congr 1;refine List.map_congr_left fun c hc=> ?_;exact(cutB_len (List.mem_of_mem_take hc)).symm
theorem bAt_le (s:ByteArray){k:Nat}(hk:k≤(chs s).length):bAt s k≤s.size:=by rw[bAt_pl s hk];exact(pl_drop k s.data.toList).2
theorem lenP_mono (P:List (Nat×List UInt8)){k m:Nat}(h:k≤m):lenP P k≤lenP P m:=by obtain⟨d,rfl⟩: ∃d,m=k+d:=⟨m-k,by omega⟩;unfold lenP;rw[List.take_add,List.map_append,List.sum_append];omega
theorem bAt_mono (s:ByteArray){k m:Nat}(h:k≤m)(hm:m≤(chs s).length):bAt s k≤bAt s m:=by rw[bAt_pl s hm,bAt_pl s (by omega)];exact lenP_mono _ h
theorem rneL_sub (s:ByteArray){k m:Nat}(h:k≤m)(hm:m≤(chs s).length):rneL (s.extract (bAt s k) (bAt s m))=((rneL s).take m).drop k:=by
 have e:(s.extract (bAt s k) (bAt s m)).data.toList=(s.data.toList.take (bAt s m)).drop (bAt s k):=by simp[List.drop_take]
 have h1:=pl_take m s.data.toList;have h2:=(pl_drop k (s.data.toList.take (lenP (pl s.data.toList) m))).1;rw[h1]at h2
 have h3:lenP ((pl s.data.toList).take m) k=lenP (pl s.data.toList) k:=by unfold lenP;rw[List.take_take,Nat.min_eq_left h]
 rw[h3]at h2;rw[rneL_pl,e,bAt_pl s hm,bAt_pl s (by omega),h2,rneL_pl,List.map_drop,List.map_take]
theorem dcl_enc {r:Nat}(h1:r<55296∨57344≤r)(h2:r≤1114111)(rest:List UInt8):dcl ((Utf8.encode (r:Int)).data.toList++rest)=(r,(Utf8.encode (r:Int)).size):=by
 have hv:Utf8.valid (r:Int)=true:=by simp[Utf8.valid];omega
 have tn: ∀x:Nat,x<256→(UInt8.ofNat x).toNat=x:=fun x hx=>by simp;omega
 unfold Utf8.encode;simp only[hv,if_true,Int.toNat_natCast];unfold dcl gn
 split
 ·rename_i c
  simp only[List.cons_append,List.nil_append,List.getD_cons_zero,List.length_cons];rw[tn _ (by omega)];unfold decodeN;rw[if_pos (by omega)];rfl
 split
 ·rename_i c c2
  simp only[List.cons_append,List.nil_append,List.getD_cons_zero,List.getD_cons_succ,List.length_cons];rw[tn _ (by omega),tn _ (by omega)];unfold decodeN;rw[if_neg (by omega),if_pos (by omega),if_pos (by omega)];refine Prod.ext ?_ rfl;simp only;omega
 split
 ·rename_i c c2 c3
  simp only[List.cons_append,List.nil_append,List.getD_cons_zero,List.getD_cons_succ,List.length_cons];rw[tn _ (by omega),tn _ (by omega),tn _ (by omega)];unfold decodeN;rw[if_neg (by omega),if_neg (by omega),if_pos (by omega),if_pos (by omega)];refine Prod.ext ?_ rfl;simp only;omega
 ·rename_i c c2 c3
  simp only[List.cons_append,List.nil_append,List.getD_cons_zero,List.getD_cons_succ,List.length_cons];rw[tn _ (by omega),tn _ (by omega),tn _ (by omega),tn _ (by omega)];unfold decodeN;rw[if_neg (by omega),if_neg (by omega),if_neg (by omega),if_pos (by omega),if_pos (by omega)];refine Prod.ext ?_ rfl;simp only;omega
theorem dcl_valid (l:List UInt8):((dcl l).1<55296∨57344≤(dcl l).1)∧(dcl l).1≤1114111:=by
 unfold dcl decodeN
 (repeat' split)<;>simp only<;>omega
theorem pl_valid: ∀(n:Nat) (l:List UInt8),l.length≤n→ ∀p∈pl l,(p.1<55296∨57344≤p.1)∧p.1≤1114111:=fun n l hn=>by
 refine pl_ind (Q:=fun l=> ∀p∈pl l,(p.1<55296∨57344≤p.1)∧p.1≤1114111) (fun p h=>by cases h) (fun l h ih p hp=> ?_) n l hn;rw[pl_go h]at hp
 rcases List.mem_cons.1 hp with rfl|hp
 ·exact dcl_valid l
 ·exact ih p hp
theorem runesBytes_list (ns:List Int):(runesBytes ns).data.toList=ns.flatMap fun n=>(Utf8.encode n).data.toList:=by
 have: ∀(ns:List Int) (s:ByteArray),(ns.foldl (fun r n=>r++Utf8.encode n) s).data.toList=s.data.toList++ns.flatMap fun n=>(Utf8.encode n).data.toList:=by
  intro ns
  induction ns with
  |nil=>intro s;simp
  |cons n ns ih=>intro s;rw[List.foldl_cons,ih];simp
 have h:=this ns ByteArray.empty;unfold runesBytes;rw[h];rfl
theorem pl_enc {E:ByteArray}{R:List UInt8}{r:Nat}(hd:dcl (E.data.toList++R)=(r,E.size)):(pl (E.data.toList++R)).map (fun p=>(p.1:Int))=(r:Int)::(pl R).map fun p=>(p.1:Int):=by
 have hne:E.data.toList++R≠[]:=fun e=>by have h9:=dcl_pos (E.data.toList++R);rw[hd]at h9;have h8:=congrArg List.length e;rw[List.length_append]at h8;have:E.data.toList.length=E.size:=rfl;simp only[List.length_nil]at h8;omega
 rw[pl_go hne,hd,List.map_cons];have:(E.data.toList++R).drop E.size=R:=List.drop_left' rfl;simp only[this]
def okR (r:Nat):Prop:=(r<55296∨57344≤r)∧r≤1114111
theorem enc_list: ∀ns:List Nat,(∀r∈ns,okR r)→(pl ((ns.map fun r:Nat=>(r:Int)).flatMap fun n=>(Utf8.encode n).data.toList)).map (fun p=>(p.1:Int))=ns.map fun r:Nat=>(r:Int)
 |[],_=>rfl
 |r::ns,h=>by
  have h1:=h r (List.mem_cons_self ..);have h2:=enc_list ns (fun x hx=>h x (List.mem_cons_of_mem _ hx));rw[List.map_cons,List.flatMap_cons,pl_enc (dcl_enc h1.1 h1.2 _),h2]
theorem rneL_bytes (ns:List Nat)(h: ∀r∈ns,okR r):rneL (runesBytes (ns.map fun r:Nat=>(r:Int)))=ns.map fun r:Nat=>(r:Int):=by rw[rneL_pl,runesBytes_list];exact enc_list ns h
theorem rneL_again (s:ByteArray):rneL (runesBytes (rneL s))=rneL s:=by
 have e:rneL s=((pl s.data.toList).map (·.1)).map fun r:Nat=>(r:Int):=by rw[rneL_pl,List.map_map];rfl
 rw[e]
 exact rneL_bytes _ fun r hr=>by obtain⟨p,hp,rfl⟩:=List.mem_map.1 hr;exact pl_valid _ _ (Nat.le_refl _) p hp
end
section
attribute [local go_sem] Oper.semAt_some
def pcC (x:Nat×Nat):List Value:=[.int .i64 x.1,.int .i64 x.2]
theorem encP:Enc pcC 2:=⟨fun _=>rfl,fun x u hu=>by simp[pcC]at hu;rcases hu with rfl|rfl<;>rfl⟩
theorem et70:ElemT Tryz.prog 70 44 2 16:=ElemT.mk' (.agg #[.int .i64 0,.int .i64 0]) Tryz.underlying70 (by kernel_rfl) rfl (by omega)
def endB (rs cl:List Int)(i:Nat):Bool:=cl.getD i 0==11 && !(decide (i+1<rs.length) && rs.getD i 0==13 && rs.getD (i+1) 0==10 && cl.getD (i+1) 0==11)
def spT (rs cl:List Int):Nat→List (Nat×Nat)×Nat
 |0=>([],0)
 |k+1=>if endB rs cl k=true then((spT rs cl k).1++[((spT rs cl k).2,k+1)],k+1)else spT rs cl k
def splitL (rs cl:List Int):List (Nat×Nat):=if(spT rs cl cl.length).2<cl.length then(spT rs cl cl.length).1++[((spT rs cl cl.length).2,cl.length)]else(spT rs cl cl.length).1
theorem spT_le (rs cl:List Int): ∀k,(spT rs cl k).2≤k∧(spT rs cl k).1.length≤k∧ ∀x∈(spT rs cl k).1,x.1<x.2∧x.2≤k
 |0=>⟨Nat.le_refl _,Nat.le_refl _,fun x h=>by cases h⟩
 |k+1=>by
  obtain⟨h1,h2,h3⟩:=spT_le rs cl k;unfold spT
  split
  ·refine⟨Nat.le_refl _,by simp;omega,fun x hx=> ?_⟩
   rcases List.mem_append.1 hx with hx|hx
   ·have:=h3 x hx;omega
   ·obtain rfl:=List.mem_singleton.1 hx;simp only;omega
  ·exact⟨by omega,by omega,fun x hx=>by have:=h3 x hx;omega⟩
theorem splitL_mem {rs cl:List Int}: ∀x∈splitL rs cl,x.1<x.2∧x.2≤cl.length:=fun x hx=>by
 obtain⟨_,_,h3⟩:=spT_le rs cl cl.length;unfold splitL at hx
 split at hx
 ·rcases List.mem_append.1 hx with hx|hx
  ·exact h3 x hx
  ·obtain rfl:=List.mem_singleton.1 hx;simp only;omega
 ·exact h3 x hx
theorem Split_ok {w:World}{B B2 n c c2:Nat}{A A2:Option Addr}{rs cl:List Int}(hR:RdInts w B .i32 A rs)(hC:RdInts w B2 .u8 A2 cl)(hn:n=rs.length)(hn2:n=cl.length)(hl:n≤1099511627776):
 Calls Tryz.prog 91 #[.slice A n c,.slice A2 n c2] w fun r w'=> ∃v,r= .returned (.tuple #[v,.int .i64 0])∧Rw pcC 2 w' w.heap.size 44 v (splitL rs cl)∧Aft w w':=by
 replace hR:RdInts w w.heap.size .i32 A rs:=Reads.clip hR;replace hC:RdInts w w.heap.size .u8 A2 cl:=Reads.clip hC;obtain⟨SP,hSP⟩: ∃z,splitL rs cl=z:=⟨_,rfl⟩;have HSP:=Lib.hid hSP;have HN:=Lib.hid hn;have HN2:=Lib.hid hn2;rw[hSP];clear hn hn2 hSP;have hne:((n:Int) !=(n:Int))=false:=bne_self_eq_false _
 rcases Nat.eq_zero_or_pos n with h0|hpos
 ·have hS:SP=[]:=by
   rw[←HSP.out];unfold splitL;rw[show cl.length=0 by rw[←HN2.out];exact h0];rfl
  subst h0 hS;clear HSP
  go_enter Tryz.func91,Tryz.ntmps91
  go_wp2
  go_loopg [6,7,22] 0 (fun gk ov fv iv wr=>gk=0∧ov= .slice none 0 0∧fv= .int .i64 0∧iv= .int .i64 0∧wr=w)
  case atStart=>exact⟨rfl,rfl,rfl,rfl,rfl⟩
  case round=>
   obtain⟨hk,rfl,rfl,rfl,rfl⟩:=hrel;go_wp2
   go_ret2
   exact⟨_,rfl,Rw.nil _ _ _,Aft.refl _⟩
 ·go_enter Tryz.func91,Tryz.ntmps91
  go_wp2
  go_loopg [6,7,22] n (fun gk ov fv iv wr=> ∃k:Nat,k+gk=n∧iv= .int .i64 k∧fv= .int .i64 (spT rs cl k).2∧Rw pcC 2 wr w.heap.size 44 ov (spT rs cl k).1∧Aft w wr)
  case atStart=>exact⟨0,by omega,rfl,rfl,Rw.nil _ _ _,Aft.refl _⟩
  case round=>
   obtain⟨k,hk,rfl,rfl,I,ar⟩:=hrel;have HK:=Lib.hid hk;obtain⟨hf1,hf2,-⟩:=spT_le rs cl k;have hws:=ar.size;clear hk
   by_cases hkn:k<n
   ·obtain⟨qa,oa,rfl,_,hq,k1⟩:=(hC.aft ar).at_ (i:=k) (by have:=HN2.out;omega);obtain⟨x,hx⟩: ∃x,cl.getD k 0=x:=⟨_,rfl⟩
    have hsp:spT rs cl (k+1)=if endB rs cl k=true then((spT rs cl k).1++[((spT rs cl k).2,k+1)],k+1)else spT rs cl k:=rfl
    have hen:endB rs cl k=(cl.getD k 0==11 && !(decide (k+1<rs.length) && rs.getD k 0==13 && rs.getD (k+1) 0==10 && cl.getD (k+1) 0==11)):=rfl;rw[hx]at k1 hen;rw[hen]at hsp;obtain⟨D,hD⟩: ∃D,(spT rs cl k).1=D:=⟨_,rfl⟩;obtain⟨f,hf⟩: ∃f,(spT rs cl k).2=f:=⟨_,rfl⟩
    have hgo:(spT rs cl k)=(D,f):=by rw[←hD,←hf]
    rw[hgo]at hsp I hf1 hf2⊢;simp only at hsp I hf1 hf2⊢;clear hgo hen hD hf
    have key:x≠11∨(x=11∧k+1=n)∨(x=11∧k+1<n∧rs.getD k 0≠13)∨(x=11∧k+1<n∧rs.getD k 0=13∧rs.getD (k+1) 0≠10)∨(x=11∧k+1<n∧rs.getD k 0=13∧rs.getD (k+1) 0=10∧cl.getD (k+1) 0≠11)∨(x=11∧k+1<n∧rs.getD k 0=13∧rs.getD (k+1) 0=10∧cl.getD (k+1) 0=11):=by omega
    have hE0:(∃b,(x==11 && !(decide (k+1<rs.length) && rs.getD k 0==13 && rs.getD (k+1) 0==10 && cl.getD (k+1) 0==11))=b∧spT rs cl (k+1)=if b=true then(D++[(f,k+1)],k+1)else(D,f)):=⟨_,rfl,hsp⟩;obtain⟨eb,heb,hsp⟩:=hE0;have HSPK:=Lib.hid hsp;clear hsp
    rcases key with d1|⟨rfl,d2⟩|⟨rfl,d2,d3⟩|⟨rfl,d2,d3,d4⟩|⟨rfl,d2,d3,d4,d5⟩|⟨rfl,d2,d3,d4,d5⟩
    ·have HE:=Lib.hid (show spT rs cl (k+1)=(D,f) by rw[HSPK.out,←heb,beq_eq_false_iff_ne.2 d1];rfl);have g1:(x !=11)=true:=bne_iff_ne.2 d1;clear d1 heb HSPK;go_wp2
     go_roundg (n-(k+1))
     case rel=>exact⟨k+1,by have:=HK.out;omega,by go_num,by rw[HE.out],by rw[HE.out];exact I,ar⟩
     case measure=>have:=HK.out;omega
    ·have HE:=Lib.hid (show spT rs cl (k+1)=(D++[(f,k+1)],k+1) by rw[HSPK.out,←heb,decide_eq_false (by rw[←HN.out];omega)];rfl)
     have d2': ¬(k:Int)+1<n:=by omega
     clear heb HSPK d2
     go_wp2_with(at_builtin;go_must (refine wpList_appR (y:=(f,k+1)) encP et70 rfl rfl rfl (I.alloc _) rfl (Blk.at_ (by simp)) (by simp[pcC]) ?_ ?_ ?_ ?_))
     ·unfold maxLen;omega
     ·omega
     ·try simp
      omega
     intro g cap w6 I6 g6 hg6;have a6:Aft w w6:=(ar.alloc _).grown g6 (fun j e=>by have:=(I.lt j e).1;omega);go_wp2
     go_roundg (n-(k+1))
     case rel=>exact⟨k+1,by have:=HK.out;omega,by go_num,by rw[HE.out];go_num,by rw[HE.out];exact I6,a6⟩
     case measure=>have:=HK.out;omega
    ·obtain⟨qr,orr,rfl,_,hqr,r1⟩:=(hR.aft ar).at_ (i:=k) (by have:=HN.out;omega);have HE:=Lib.hid (show spT rs cl (k+1)=(D++[(f,k+1)],k+1) by rw[HSPK.out,←heb,beq_eq_false_iff_ne.2 d3,Bool.and_false];rfl);obtain⟨y,hy⟩: ∃y,rs.getD k 0=y:=⟨_,rfl⟩;rw[hy]at r1 d3;have g2:(y==13)=false:=beq_eq_false_iff_ne.2 d3
     have d2':(k:Int)+1<n:=by omega
     clear heb HSPK hy d3
     go_wp2_with(at_builtin;go_must (refine wpList_appR (y:=(f,k+1)) encP et70 rfl rfl rfl (I.alloc _) rfl (Blk.at_ (by simp)) (by simp[pcC]) ?_ ?_ ?_ ?_))
     ·unfold maxLen;omega
     ·omega
     ·try simp
      omega
     intro g cap w6 I6 g6 hg6;have a6:Aft w w6:=(ar.alloc _).grown g6 (fun j e=>by have:=(I.lt j e).1;omega);go_wp2
     go_roundg (n-(k+1))
     case rel=>exact⟨k+1,by have:=HK.out;omega,by go_num,by rw[HE.out];go_num,by rw[HE.out];exact I6,a6⟩
     case measure=>have:=HK.out;omega
    ·obtain⟨qr,orr,rfl,_,hqr,r1⟩:=(hR.aft ar).at_ (i:=k) (by have:=HN.out;omega);obtain⟨qr',orr',hA',_,hqr',r2⟩:=(hR.aft ar).at_ (i:=k+1) (by have:=HN.out;omega);cases hA';have HE:=Lib.hid (show spT rs cl (k+1)=(D++[(f,k+1)],k+1) by rw[HSPK.out,←heb,beq_eq_false_iff_ne.2 d4,Bool.and_false];rfl);obtain⟨y,hy⟩: ∃y,rs.getD (k+1) 0=y:=⟨_,rfl⟩;rw[hy]at r2 d4;rw[d3]at r1;have g2:(y==10)=false:=beq_eq_false_iff_ne.2 d4
     have d2':(k:Int)+1<n:=by omega
     clear heb HSPK hy d3 d4
     go_wp2_with(at_builtin;go_must (refine wpList_appR (y:=(f,k+1)) encP et70 rfl rfl rfl (I.alloc _) rfl (Blk.at_ (by simp)) (by simp[pcC]) ?_ ?_ ?_ ?_))
     ·unfold maxLen;omega
     ·omega
     ·try simp
      omega
     intro g cap w6 I6 g6 hg6;have a6:Aft w w6:=(ar.alloc _).grown g6 (fun j e=>by have:=(I.lt j e).1;omega);go_wp2
     go_roundg (n-(k+1))
     case rel=>exact⟨k+1,by have:=HK.out;omega,by go_num,by rw[HE.out];go_num,by rw[HE.out];exact I6,a6⟩
     case measure=>have:=HK.out;omega
    ·obtain⟨qr,orr,rfl,_,hqr,r1⟩:=(hR.aft ar).at_ (i:=k) (by have:=HN.out;omega);obtain⟨qr',orr',hA',_,hqr',r2⟩:=(hR.aft ar).at_ (i:=k+1) (by have:=HN.out;omega);cases hA';obtain⟨qa',oa',hA',_,hqa',k2⟩:=(hC.aft ar).at_ (i:=k+1) (by have:=HN2.out;omega);cases hA';have HE:=Lib.hid (show spT rs cl (k+1)=(D++[(f,k+1)],k+1) by rw[HSPK.out,←heb,beq_eq_false_iff_ne.2 d5,Bool.and_false];rfl);obtain⟨y,hy⟩: ∃y,cl.getD (k+1) 0=y:=⟨_,rfl⟩;rw[hy]at k2 d5;rw[d3]at r1;rw[d4]at r2;have g2:(y==11)=false:=beq_eq_false_iff_ne.2 d5
     have d2':(k:Int)+1<n:=by omega
     clear heb HSPK hy d3 d4 d5
     go_wp2_with(at_builtin;go_must (refine wpList_appR (y:=(f,k+1)) encP et70 rfl rfl rfl (I.alloc _) rfl (Blk.at_ (by simp)) (by simp[pcC]) ?_ ?_ ?_ ?_))
     ·unfold maxLen;omega
     ·omega
     ·try simp
      omega
     intro g cap w6 I6 g6 hg6;have a6:Aft w w6:=(ar.alloc _).grown g6 (fun j e=>by have:=(I.lt j e).1;omega);go_wp2
     go_roundg (n-(k+1))
     case rel=>exact⟨k+1,by have:=HK.out;omega,by go_num,by rw[HE.out];go_num,by rw[HE.out];exact I6,a6⟩
     case measure=>have:=HK.out;omega
    ·obtain⟨qr,orr,rfl,_,hqr,r1⟩:=(hR.aft ar).at_ (i:=k) (by have:=HN.out;omega);obtain⟨qr',orr',hA',_,hqr',r2⟩:=(hR.aft ar).at_ (i:=k+1) (by have:=HN.out;omega);cases hA';obtain⟨qa',oa',hA',_,hqa',k2⟩:=(hC.aft ar).at_ (i:=k+1) (by have:=HN2.out;omega);cases hA';have HE:=Lib.hid (show spT rs cl (k+1)=(D,f) by rw[HSPK.out,←heb,decide_eq_true (by rw[←HN.out];exact d2),d3,d4,d5];rfl);rw[d3]at r1;rw[d4]at r2;rw[d5]at k2
     have d2':(k:Int)+1<n:=by omega
     clear heb HSPK d3 d4 d5;go_wp2
     go_roundg (n-(k+1))
     case rel=>exact⟨k+1,by have:=HK.out;omega,by go_num,by rw[HE.out],by rw[HE.out];exact I,ar⟩
     case measure=>have:=HK.out;omega
   ·have hke:k=n:=by have:=HK.out;omega
    subst hke
    have hS:SP=if(spT rs cl k).2<k then(spT rs cl k).1++[((spT rs cl k).2,k)]else(spT rs cl k).1:=by rw[←HSP.out];unfold splitL;rw[←HN2.out]
    obtain⟨D,hD⟩: ∃D,(spT rs cl k).1=D:=⟨_,rfl⟩;obtain⟨f,hf⟩: ∃f,(spT rs cl k).2=f:=⟨_,rfl⟩;rw[hD,hf]at hS;rw[hD]at I hf2;rw[hf]at hf1⊢;clear hD hf
    by_cases hlt:f<k
    ·rw[if_pos hlt]at hS;have HS:=Lib.hid hS;clear hS
     go_wp2_with(at_builtin;go_must (refine wpList_appR (y:=(f,k)) encP et70 rfl rfl rfl (I.alloc _) rfl (Blk.at_ (by simp)) (by simp[pcC]) ?_ ?_ ?_ ?_))
     ·unfold maxLen;omega
     ·omega
     ·try simp
      omega
     intro g cap w6 I6 g6 hg6;have a6:Aft w w6:=(ar.alloc _).grown g6 (fun j e=>by have:=(I.lt j e).1;omega);go_wp2
     go_ret2
     exact⟨_,rfl,by rw[HS.out];exact I6,a6⟩
    ·rw[if_neg hlt]at hS;have HS:=Lib.hid hS
     have hlt': ¬(f:Int)<k:=by omega
     clear hS;go_wp2
     go_ret2
     exact⟨_,rfl,by rw[HS.out];exact I,ar⟩
end
section
attribute [local go_sem] Oper.semAt_some
def offL (s:ByteArray):List Int:=(chs s).map (fun c=>(c.b:Int))++[(s.size:Int)]
theorem offL_len (s:ByteArray):(offL s).length=(chs s).length+1:=by simp[offL]
theorem offL_at (s:ByteArray){k:Nat}(hk:k≤(chs s).length):(offL s).getD k 0=bAt s k:=by
 unfold offL bAt
 by_cases h:k<(chs s).length
 ·rw[if_pos h,List.getD_eq_getElem?_getD,List.getElem?_append_left (by simpa using h),List.getElem?_map,List.getD_eq_getElem?_getD,List.getElem?_eq_getElem h];rfl
 ·rw[if_neg h,List.getD_eq_getElem?_getD,List.getElem?_append_right (by simp;omega),show k-((chs s).map fun c=>(c.b:Int)).length=0 by simp;omega];rfl
def PlacesAt (W:World)(B:Nat)(s:ByteArray)(pv:Value):Prop:= ∃g v1 v2,pv= .pointer (some ⟨g,0,none⟩)∧Blk W g 216 #[.string s,v1,v2]∧Ints W B 3 .i64 v1 (offL s)∧Ints W B 21 .i32 v2 (rneL s)∧B≤g
theorem PlacesAt.aft {W W':World}{B:Nat}{s:ByteArray}{pv:Value}(h:PlacesAt W B s pv)(a:Aft W W'):PlacesAt W' B s pv:=by obtain⟨g,v1,v2,e,h1,h2,h3,h4⟩:=h;exact⟨g,v1,v2,e,h1.aft a,h2.aft a,h3.aft a,h4⟩
theorem ei64:ElemI Tryz.prog 64 3 .i64 8:=ElemI.mk' Tryz.underlying64 (by kernel_rfl)
theorem PRunes_ok {w:World}{s:ByteArray}(hs:s.size≤1099511627776):
 Calls Tryz.prog 63 #[.string s] w fun r w'=> ∃g cap,r= .returned (.slice (some ⟨g,0,none⟩) (rneL s).length cap)∧Ints w' w.heap.size 21 .i32 (.slice (some ⟨g,0,none⟩) (rneL s).length cap) (rneL s)∧Aft w w':=by
 have C:=Runes_ok (w:=w) hs;generalize (rneL s).length=n at C⊢
 go_enter Tryz.func63,Tryz.ntmps63
 go_wp2_with(go_at_call 94;refine C.mono ?_;rintro r1 w1 ⟨g,cap,rfl,I,a⟩)
 go_ret;exact⟨_,_,rfl,I,a⟩
theorem TNew_ok {w:World}{s:ByteArray}(hs:s.size≤1099511627776):
 Calls Tryz.prog 92 #[.string s] w fun r w'=> ∃v,r= .returned v∧PlacesAt w' w.heap.size s v∧Aft w w':=by
 have hcl:=chs_len s;obtain⟨cap,W',h1,h2,h3⟩:=conv_runes w hs;obtain⟨m,hm⟩: ∃m,(rneL s).length=m:=⟨_,rfl⟩;rw[hm]at h1 h2;obtain⟨b0,hb0⟩: ∃b,w.heap.size=b:=⟨_,rfl⟩;rw[hb0]at h1 h2;have HB0:=Lib.hid hb0;have H2:=Lib.hid h2;clear h2 hm hb0
 go_enter Tryz.func92,Tryz.ntmps92
 go_upto_region 3 with(fail)
 obtain⟨g,hg⟩: ∃g,W'.heap.size=g:=⟨_,rfl⟩;have X0:=Blk.new W' 216 #[.string s,.slice none 0 0,.slice (some ⟨b0,0,none⟩) m cap];have a0:Aft W' (W'.alloc (.cells #[.string s,.slice none 0 0,.slice (some ⟨b0,0,none⟩) m cap] 216)):=(Aft.refl W').alloc _
 have hz:(W'.alloc (.cells #[.string s,.slice none 0 0,.slice (some ⟨b0,0,none⟩) m cap] 216)).heap.size=g+1:=by rw[World.size_alloc,hg]
 rw[hg]at X0;obtain⟨W2,hW2⟩: ∃W2,W'.alloc (.cells #[.string s,.slice none 0 0,.slice (some ⟨b0,0,none⟩) m cap] 216)=W2:=⟨_,rfl⟩;rw[hW2]at X0 a0 hz⊢;rw[hg];have aI:Aft W' (W2.iter s 0):=a0.trans ((Aft.refl W2).alloc _)
 have hI0:(W2.iter s 0).heap[g+1]?=some (.stringIter s 0):=by rw[←hz];exact World.iter_heap W2 s 0
 have XI:Blk (W2.iter s 0) g 216 #[.string s,.slice none 0 0,.slice (some ⟨b0,0,none⟩) m cap]:=X0.alloc _;have hsz0:g+1<(W2.iter s 0).heap.size:=(Array.getElem?_eq_some_iff.1 hI0).1;generalize W2.iter s 0=Wi at aI hI0 XI hsz0⊢;have HG:=Lib.hid hg;clear X0 a0 hz hW2 hg
 go_loopw [] (fun wr=> ∃(p:Nat) (dn:List Ch) (v1:Value),chs s=dn++chA s p∧Blk wr g 216 #[.string s,v1,.slice (some ⟨b0,0,none⟩) m cap]∧Ints wr (g+2) 3 .i64 v1 (dn.map fun c=>(c.b:Int))∧wr.heap[g+1]?=some (.stringIter s p)∧Aft W' wr) (fun wr=>s.size-wr.iterPos (g+1))
 case atStart=>exact⟨0,[],_,rfl,XI,Ints.nil _ _ _ _,hI0,aI⟩
 case round=>
  obtain⟨p,dn,v1,hd1,X,I,hI,a1⟩:=hrel;clear hI0 aI hsz0 XI;have hlt:g+1<wr.heap.size:=(Array.getElem?_eq_some_iff.1 hI).1
  have hdl:dn.length≤s.size:=by have:=hcl;rw[hd1,List.length_append]at this;omega
  by_cases hp:p<s.size
  ·have hnx: ∀ty,(Instr.next (.pointer (some ⟨g+1,0,none⟩)) true ty).run Tryz.prog wr=_:=fun ty=>Lib.run_next_any_at wr (g+1) s p ty hI hp;have hK1:=dec_pos hp
   have hip:wr.iterPos (g+1)=p:=by simp[World.iterPos,hI]
   have hch:=chA_go hp
   have hdn':chs s=(dn++[⟨(Utf8.decode s p).1,p,(Utf8.decode s p).2⟩])++chA s (p+(Utf8.decode s p).2):=by rw[hd1,hch];simp
   have hmap:(dn++[(⟨(Utf8.decode s p).1,p,(Utf8.decode s p).2⟩:Ch)]).map (fun c=>(c.b:Int))=dn.map (fun c=>(c.b:Int))++[(p:Int)]:=by simp
   have F3:Frm (fun j=>j=g+1) wr (wr.iterAt (g+1) s (p+(Utf8.decode s p).2)):=(Frm.refl (fun j=>j=g+1) wr).trans (F':=fun j=>j=g+1) ⟨rfl,rfl,rfl,by rw[Lib.iterAt_size];exact Nat.le_refl _,fun i hi hn=>Lib.iterAt_other wr (g+1) i s _ (fun e=>hn (by rw[e]))⟩ (fun _ _ h=>h);have hI3:=Lib.iterAt_heap wr (g+1) s p (p+(Utf8.decode s p).2) hI;have I3:Ints (wr.iterAt (g+1) s (p+(Utf8.decode s p).2)) (g+2) 3 .i64 v1 (dn.map fun c=>(c.b:Int)):=I.frm F3 (fun j e=>by have:=(I.lt j e).1;omega);have X3:=X.frm F3 (by omega);have a3:Aft W' (wr.iterAt (g+1) s (p+(Utf8.decode s p).2)):=Lib.below_iterAt a1 (k:=g+1) (by have:=HG.out;omega) s _;have hs3:(wr.iterAt (g+1) s (p+(Utf8.decode s p).2)).heap.size=wr.heap.size:=Lib.iterAt_size _ _ _ _;obtain⟨x0,x1,x2,xf,xl⟩:=X3.c3;have HM:=Lib.hid hmap;have HDN:=Lib.hid hdn'
   have hdl2:(dn.map fun c=>(c.b:Int)).length≤s.size:=by simpa using hdl
   generalize dn.map (fun c=>(c.b:Int))=D at I3 hdl2 HM;clear hch hd1 hdn' hmap I hI hdl
   go_wp2_with(at_builtin;go_must (refine wpList_appI ei64 rfl rfl rfl (I3.alloc _) rfl (Blk.at_ hs3.symm) ?_ ?_ ?_ ?_))
   ·unfold maxLen;omega
   ·omega
   ·rw[World.size_alloc];omega
   intro g8 cap8 w8 I8 k8 hg8
   have hlt8:g+1<((wr.iterAt (g+1) s (p+(Utf8.decode s p).2)).alloc (.cells #[.int .i64 p] 3)).heap.size:=by rw[World.size_alloc];omega
   have hI8:w8.heap[g+1]?=some (.stringIter s (p+(Utf8.decode s p).2)):=(k8.block (g+1) hlt8 (fun e=>by have:=(I3.lt _ e.symm).1;omega)).trans ((Lib.alloc_old _ _ _ (by omega)).trans hI3);have a8:Aft W' w8:=(a3.alloc _).grown k8 (fun j e=>by have:=(I3.lt j e).1;have:=HG.out;omega);have X8:Blk w8 g 216 #[.string s,v1,.slice (some ⟨b0,0,none⟩) m cap]:=(X3.alloc _).grown k8 (fun e=>by have:=(I3.lt _ e.symm).1;omega);clear x0 x1 x2 xf xl X3;obtain⟨x0,x1,x2,xf,xl⟩:=X8.c3;have F9:=(Frm.refl (fun k=>k=g) w8).set (b:=g) (j:=1) rfl (.slice (some ⟨g8,0,none⟩) (D.length+1) cap8);have a9:Aft W' (w8.setCell ⟨g,1,none⟩ (.slice (some ⟨g8,0,none⟩) (D.length+1) cap8)):=a8.set (by have:=HG.out;omega) _
   have X9:Blk (w8.setCell ⟨g,1,none⟩ (.slice (some ⟨g8,0,none⟩) (D.length+1) cap8)) g 216 #[.string s,.slice (some ⟨g8,0,none⟩) (D.length+1) cap8,.slice (some ⟨b0,0,none⟩) m cap]:=by simpa using X8.set_ 1 (.slice (some ⟨g8,0,none⟩) (D.length+1) cap8)
   have hlt9:g+1<w8.heap.size:=(Array.getElem?_eq_some_iff.1 hI8).1;have hI9:=(F9.block (g+1) hlt9 (by omega)).trans hI8;have I9:=I8.frm F9 (fun j e=>by have:=(I8.lt j e).1;omega);go_wp2
   go_roundw
   case rel=>exact⟨p+(Utf8.decode s p).2,_,_,HDN.out,X9,by rw[HM.out];exact I9,hI9,a9⟩
   case measure=>
    rw[hip]
    have:(w8.setCell ⟨g,1,none⟩ (.slice (some ⟨g8,0,none⟩) (D.length+1) cap8)).iterPos (g+1)=p+(Utf8.decode s p).2:=by simp only[World.iterPos,hI9]
    rw[this];omega
  ·have hnx: ∀ty,(Instr.next (.pointer (some ⟨g+1,0,none⟩)) true ty).run Tryz.prog wr=_:=fun ty=>Lib.run_next_end_at wr (g+1) s p ty hI hp
   have hde:chs s=dn:=by rw[hd1,chA_end hp,List.append_nil]
   have hoff:offL s=dn.map (fun c=>(c.b:Int))++[(s.size:Int)]:=by rw[←hde];rfl
   have hdl2:(dn.map fun c=>(c.b:Int)).length≤s.size:=by simpa using hdl
   generalize dn.map (fun c=>(c.b:Int))=D at I hdl2 hoff;have HOFF:=Lib.hid hoff;obtain⟨x0,x1,x2,xf,xl⟩:=X.c3;clear hd1 hde hdl hoff
   go_wp2_with(at_builtin;go_must (refine wpList_appI ei64 rfl rfl rfl (I.alloc _) rfl (Blk.at_ rfl) ?_ ?_ ?_ ?_))
   ·unfold maxLen;omega
   ·omega
   ·rw[World.size_alloc];omega
   intro g8 cap8 w8 I8 k8 hg8;have a8:Aft W' w8:=(a1.alloc _).grown k8 (fun j e=>by have:=(I.lt j e).1;have:=HG.out;omega);have X8:Blk w8 g 216 #[.string s,v1,.slice (some ⟨b0,0,none⟩) m cap]:=(X.alloc _).grown k8 (fun e=>by have:=(I.lt _ e.symm).1;omega);clear x0 x1 x2 xf xl X;obtain⟨x0,x1,x2,xf,xl⟩:=X8.c3;have F9:=(Frm.refl (fun k=>k=g) w8).set (b:=g) (j:=1) rfl (.slice (some ⟨g8,0,none⟩) (D.length+1) cap8);have a9:Aft W' (w8.setCell ⟨g,1,none⟩ (.slice (some ⟨g8,0,none⟩) (D.length+1) cap8)):=a8.set (by have:=HG.out;omega) _
   have X9:Blk (w8.setCell ⟨g,1,none⟩ (.slice (some ⟨g8,0,none⟩) (D.length+1) cap8)) g 216 #[.string s,.slice (some ⟨g8,0,none⟩) (D.length+1) cap8,.slice (some ⟨b0,0,none⟩) m cap]:=by simpa using X8.set_ 1 (.slice (some ⟨g8,0,none⟩) (D.length+1) cap8)
   have I9:=I8.frm F9 (fun j e=>by have:=(I8.lt j e).1;omega);have hsw:=h3.size;go_wp2;go_ret;refine⟨_,rfl,⟨g,_,_,rfl,X9,?_,?_,?_⟩,h3.trans a9⟩
   ·rw[HOFF.out];exact I9.base (fun j e=>by have:=(I9.lt j e).1;have:=HG.out;omega)
   ·have:=H2.out.aft a9;rw[HB0.out];exact this
   ·have:=HG.out;omega
theorem Slice_ok {w:World}{B f t:Nat}{s:ByteArray}{pv:Value}(hP:PlacesAt w B s pv)(hft:f≤t)(ht:t≤(chs s).length):
 Calls Tryz.prog 93 #[pv,.int .i64 f,.int .i64 t] w fun r w'=>r= .returned (.tuple #[.string (s.extract (bAt s f) (bAt s t)),.int .i64 0])∧Aft w w':=by
 obtain⟨g,v1,v2,rfl,X,I,J,-⟩:=hP;have hcl:=chs_len s;obtain⟨A1,c1,rfl,-,-,R1⟩:=I.val;obtain⟨A2,c2,rfl,-,-,R2⟩:=J.val;obtain⟨qb,o,rfl,_,hq,k1⟩:=R1.at_ (i:=f) (by rw[offL_len];omega);obtain⟨qb',o',hA',_,hq',k2⟩:=R1.at_ (i:=t) (by rw[offL_len];omega);cases hA';rw[offL_at s (by omega)]at k1;rw[offL_at s ht]at k2;have hb1:=bAt_mono s hft ht;have hb2:=bAt_le s ht;have hl1:=offL_len s;have hl2:=rneL_len s;rw[hl1,hl2]at X;generalize (chs s).length=n at X ht hcl hl1 hl2⊢;generalize bAt s f=bf at k1 hb1⊢;generalize bAt s t=bt at k2 hb1 hb2⊢;obtain⟨x0,x1,x2,xf,xl⟩:=X.c3;clear I J R1 R2 hl1 hl2 X
 have CN: ∀W:World,W.cell? ⟨g,1,none⟩=some (.slice (some ⟨qb,o,none⟩) (n+1) c1)→g<W.heap.size→Calls Tryz.prog 141 #[.pointer (some ⟨g,0,none⟩)] W fun r w'=>r= .returned (.bool false)∧w'=W:=fun W hx hl=>by
  go_enter Tryz.func141,Tryz.ntmps141
  go_wp2;go_ret;exact⟨rfl,rfl⟩
 have g1:((f:Int)<0)=False:=by simp
 have c2: ¬((t:Int)<(f:Int)):=by omega
 have c3: ¬((n:Int)<(t:Int)):=by omega
 have c4: ¬((bt:Int)<(bf:Int)):=by omega
 have c5: ¬((s.size:Int)<(bt:Int)):=by omega
 go_enter Tryz.func93,Tryz.ntmps93
 go_upto_region 5 with(go_at_call 141;refine(CN _ ‹_› ‹_›).mono ?_;rintro r1 w1 ⟨rfl,hw1⟩;subst hw1)
 go_quiet (fail)
 go_wp2
 go_ret2
 exact⟨rfl,((Frm.refl (fun _=>False) w1).drewN _).below (Nat.le_refl _) (fun _ _ h=>h)⟩
end
section
attribute [local go_sem] Oper.semAt_some
theorem RoundIn.wide {n m l f:Nat}{P:Program}{t:Array Value}{a b:Code}{w:World}{R:Ending→World→Prop}(h:RoundIn Fence.wide n P l f t a b w R):RoundIn Fence.wide m P l f t a b w R:=⟨h.1,fun c cs _=>h.2 c cs (room_wide _)⟩
theorem YieldAt.wide {n m l:Nat}{P:Program}{args:Array Value}{W:World}{R:Ending→World→Prop}(h:YieldAt Fence.wide n P l args W R):YieldAt Fence.wide m P l args W R:=by obtain⟨a,b,c,e,h1,h2⟩:=h;exact⟨a,b,c,e,h1,RoundIn.wide h2⟩
structure TellsB (B:Nat) (J:Nat→(Nat→Prop)→World→Prop):Prop where
 lt: ∀k S W,J k S W→ ∀j,S j→j<W.heap.size
 frm: ∀k S W W' F,J k S W→Frm F W W'→(∀j,F j→j<W.heap.size→B≤j∧ ¬S j)→J k S W'
theorem TellsB.aft {B:Nat}{J:Nat→(Nat→Prop)→World→Prop}(T:TellsB B J){k:Nat}{S:Nat→Prop}{W W':World}(h:J k S W)(a:Aft W W'):J k S W':=T.frm k S W W' (fun _=>False) h (Frm.of_below a) (fun _ h _=>h.elim)
theorem PlacesAt.frm {W W':World}{B:Nat}{s:ByteArray}{pv:Value}{F:Nat→Prop}(h:PlacesAt W B s pv)(a:Frm F W W')(hF: ∀j,B≤j→ ¬F j):PlacesAt W' B s pv:=by obtain⟨g,v1,v2,e,h1,h2,h3,h4⟩:=h;exact⟨g,v1,v2,e,h1.frm a (hF _ h4),h2.frm a (fun j hj=>hF j (h2.lt j hj).1),h3.frm a (fun j hj=>hF j (h3.lt j hj).1),h4⟩
theorem PlacesAt.base {W:World}{B B':Nat}{s:ByteArray}{pv:Value}(h:PlacesAt W B s pv)(hB:B'≤B):PlacesAt W B' s pv:=by obtain⟨g,v1,v2,e,h1,h2,h3,h4⟩:=h;exact⟨g,v1,v2,e,h1,h2.base (fun j hj=>Nat.le_trans hB (h2.lt j hj).1),h3.base (fun j hj=>Nat.le_trans hB (h3.lt j hj).1),Nat.le_trans hB h4⟩
def pcE (s:ByteArray)(x:Nat×Nat):Array Value:=#[.agg #[.int .i64 x.1,.int .i64 x.2],.string (s.extract (bAt s x.1) (bAt s x.2))]
theorem each_iter {W1:World}{b1 b2 yb:Nat}{pv:Value}{rest:Int}{ch:List Chr}{s:ByteArray}{ps:List (Nat×Nat)}(h1:Blk W1 b1 79 #[.iface 25 pv])(h2:Blk W1 b2 9 #[.string s])
 (hP:PropsIs W1 W1.heap.size pv rest ch) (hs:s.size≤1099511627776) (hps:splitL (rneL s) (clsL rest ch (rneL s))=ps)
 {J:Nat→(Nat→Prop)→World→Prop} (T:TellsB W1.heap.size J) {Jx:World→Prop} {S0:Nat→Prop} (h0:J 0 S0 W1) {d:Nat} (hd:1≤d)
 (hY: ∀k S W (hk:k<ps.length),J k S W→YieldAt Fence.wide 1 Tryz.prog yb (pcE s ps[k]) W fun e W'=>(e= .returned (.bool true)∧ ∃S',J (k+1) S' W'∧Frm S W W'∧ ∀j,S' j→S j∨W.heap.size≤j)∨(e= .returned (.bool false)∧Jx W')):
 CallsIn Fence.wide d Tryz.prog 90 #[.func (.yield yb) #[] #[],.pointer (some ⟨b1,0,none⟩),.pointer (some ⟨b2,0,none⟩)] W1 fun e W'=>(∃v,e= .returned v)∧((∃S,J ps.length S W')∨Jx W'):=by
 obtain⟨x0,xf,xl⟩:=h1.c1;obtain⟨y0,yf,yl⟩:=h2.c1
 have hrl:(rneL s).length≤1099511627776:=by rw[rneL_len];exact Nat.le_trans (chs_len s) hs
 have hcl:(clsL rest ch (rneL s)).length=(rneL s).length:=clsL_len ..
 have hmem: ∀x∈ps,x.1<x.2∧x.2≤(chs s).length:=fun x hx=>by rw[←hps]at hx;have:=splitL_mem x hx;rw[hcl,rneL_len]at this;exact this
 have hpl:ps.length≤1099511627777:=by
  rw[←hps];have h1:=(spT_le (rneL s) (clsL rest ch (rneL s)) (clsL rest ch (rneL s)).length).2.1;unfold splitL
  split
  ·rw[List.length_append,List.length_singleton];omega
  ·omega
 have hb0:Aft W1 W1:=Aft.refl _;have CC:=fun(W:World) (hW:Aft W1 W) (A:Option Addr) (c2 B:Nat) (hr:RdInts W B .i32 A (rneL s))=>Classes_ok (n:=(rneL s).length) (c2:=c2) (hP.below hW (.inl (Nat.le_refl _))) hr rfl (by omega);have CS:=fun(W:World) (A A2:Option Addr) (c c2 B B2:Nat) (h:RdInts W B .i32 A (rneL s)) (h':RdInts W B2 .u8 A2 (clsL rest ch (rneL s)))=>Split_ok (c:=c) (c2:=c2) h h' rfl hcl.symm (by omega);rw[hps]at CS;obtain⟨rs,hrs⟩: ∃rs,rneL s=rs:=⟨_,rfl⟩;obtain⟨cl,hcll⟩: ∃cl,clsL rest ch rs=cl:=⟨_,rfl⟩;have CR:=fun(W:World)=>PRunes_ok (w:=W) (s:=s) (by omega);rw[hrs]at CC CS CR hrl hcl;rw[hcll]at CC CS hcl;obtain⟨m,hm⟩: ∃m,rs.length=m:=⟨_,rfl⟩;rw[hm]at CC CS CR hrl hcl;have HCL:=Lib.hid hcl;have CN:=fun(W:World)=>TNew_ok (w:=W) (s:=s) (by omega);clear hrs hcll hps hm hcl;refine callsIn_of_wp Tryz.func90 rfl trivial ?_ rfl;simp only[Tryz.ntmps90,List.size_toArray,List.length_cons,List.length_nil,Nat.reduceAdd,Nat.reduceSub,Array.replicate_succ,Array.replicate_zero,List.push_toArray,List.append_toArray,List.nil_append,List.cons_append];refine wpIn_wide.2 ?_
 go_wp2_with(first
  |(go_at_call 63;refine(CR _).mono ?_;rintro r1 w1 ⟨g1,k1,rfl,I1,a1⟩;have R1:=I1.rd;obtain⟨x0,xf,xl⟩:=(h1.aft a1).c1;obtain⟨y0,yf,yl⟩:=(h2.aft a1).c1)
  |(go_at_call 41;refine(CC _ a1 _ _ _ R1).mono ?_;rintro r2 w2 ⟨v2,rfl,I2,a2⟩;obtain⟨A2,c2,hv2,-,-,R2⟩:=I2.val;rw[HCL.out]at hv2;subst hv2;obtain⟨y0,yf,yl⟩:=((h2.aft a1).aft a2).c1)
  |(go_at_call 91;refine(CS _ _ _ _ _ _ _ (R1.aft a2) R2).mono ?_;rintro r3 w3 ⟨v3,rfl,I3,a3⟩;obtain⟨A3,c3,rfl,hc3,hc3',-⟩:=I3.val;obtain⟨y0,yf,yl⟩:=(((h2.aft a1).aft a2).aft a3).c1)
  |(go_at_call 92;refine(CN _).mono ?_;rintro r4 w4 ⟨v4,rfl,P4,a4⟩))
 have s1:=a1.size;have s2:=a2.size;have s3:=a3.size;have s4:=a4.size;have a14:Aft W1 w4:=((a1.trans a2).trans a3).trans a4;have I4:Rw pcC 2 w4 W1.heap.size 44 (.slice A3 ps.length c3) ps:=(I3.below a4 (Nat.le_refl _)).base (fun j hj=>by have:=(I3.lt j hj).1;omega);have P5:PlacesAt w4 W1.heap.size s v4:=P4.base (by omega);have hJ0:J 0 S0 w4:=T.aft h0 a14;have hS0:=T.lt _ _ _ h0;clear CC CS CR CN I1 R1 I2 R2 I3 P4 hP h1 h2 x0 xf xl y0 yf yl h0 a1 a2 a3 a4 s1 s2 s3 s4 hb0;refine(wpIn_wide (n:=d)).1 ?_
 gi_loopw [34] (fun iv wr=> ∃(k:Nat) (S:Nat→Prop),iv= .int .i64 k∧k≤ps.length∧J k S wr∧Frm (fun j=>j<W1.heap.size) w4 wr∧(∀j,S j→j<W1.heap.size∨w4.heap.size≤j)) (fun iv _=>match iv with|.int _ z=>ps.length-z.toNat|_=>0)
 case atStart=>exact⟨0,S0,rfl,Nat.zero_le _,hJ0,Frm.refl _ _,fun j hj=>.inl (hS0 j hj)⟩
 case round=>
  obtain⟨k,S,rfl,hk,hJ,F,hS⟩:=hrel
  by_cases hlt:k<ps.length
  ·obtain⟨x,hx⟩: ∃x,ps[k]=x:=⟨_,rfl⟩
   have hxi:ps[k]?=some x:=by rw[List.getElem?_eq_getElem hlt,hx]
   obtain⟨h1,h2⟩:=hmem x (List.mem_of_getElem? hxi);have hY':=hY k S;obtain⟨f,t⟩:=x;have IR:=(I4.frm F (fun j hj=>by have:=(I4.lt j hj).1;omega)).rd;obtain⟨pb,po,rfl,hpb,-,hc⟩:=RdR.at_ encP IR hxi (by omega);have c0:=hc 0 _ rfl;have c1:=hc 1 _ rfl;rw[Nat.add_zero]at c0;rw[←Nat.add_assoc]at c1;simp only at h1 h2 c0 c1
   have hlt':(k:Int)<(ps.length:Int):=by omega
   have hw1:IntKind.i64.wrap ((k:Int)+1)=((k+1:Nat):Int):=by rw[IntWalk.i64_in _ (by omega)];omega
   have PA:PlacesAt (wr.alloc (.cells #[.int .i64 f,.int .i64 t] 44)) W1.heap.size s v4:=(P5.frm F (fun j h h'=>by omega)).aft ((Aft.refl wr).alloc _);have CL:=Slice_ok PA (f:=f) (t:=t) (by omega) h2;clear hc PA IR;gi_wp2;refine⟨trivial,callsIn_wide.2 (CL.mono ?_)⟩;rintro r5 w5 ⟨rfl,a5⟩;obtain⟨z0,z1,zf,zl⟩:=((Blk.new wr 44 #[.int .i64 f,.int .i64 t]).aft a5).c2;have a5':Aft wr w5:=((Aft.refl wr).alloc _).trans a5;have hJ5:J k S w5:=T.aft hJ a5';obtain⟨fn,tmps,assign,body,hy,hR⟩:=hY' w5 hlt hJ5;rw[hx]at hy;have hy:(Instr.yield yb #[.agg #[.int .i64 f,.int .i64 t],.string (s.extract (bAt s f) (bAt s t))]).run Tryz.prog w5= .ok (.round yb fn tmps assign body) w5:=hy
   have hR2:RoundIn Fence.wide 1 Tryz.prog yb fn tmps assign body w5 (fun e W'=> ∃bb,e= .returned (.bool bb)∧
    ((bb=true∧ ∃S',J (k+1) S' W'∧Frm S w5 W'∧ ∀j,S' j→S j∨w5.heap.size≤j)∨(bb=false∧Jx W'))):=hR.mono (fun e W' h=>by
    rcases h with⟨h1,h2⟩|⟨h1,h2⟩
    ·exact⟨true,h1,.inl ⟨rfl,h2⟩⟩
    ·exact⟨false,h1,.inr ⟨rfl,h2⟩⟩)
   clear hR hY' CL hx hxi c0 c1;gi_wp2;refine(RoundIn.wide hR2).mono ?_;rintro e3 W3 ⟨bb,rfl,hbb⟩;clear hR2 hy
   rcases hbb with⟨rfl,S',hJ4,hF4,hS4⟩|⟨rfl,hx⟩
   ·gi_wp2
    go_roundw
    case rel=>
     have s5:=a5'.size;have s6:=F.size;refine⟨k+1,S',by go_num,by omega,hJ4,(F.trans (Frm.of_below a5' (F:=fun _=>False)) (fun _ _ h=>h.elim)).trans hF4 (fun j hj e=> ?_),fun j hj=> ?_⟩
     ·rcases hS j e with h|h
      ·exact h
      ·omega
     ·rcases hS4 j hj with h|h
      ·exact hS j h
      ·right;omega
    case measure=>show ps.length-((k:Int)+1).toNat<ps.length-(k:Int).toNat;omega
   ·gi_wp2;refine bodyPost_ret (results_none (by kernel_rfl) _ _ _) rfl ?_;exact⟨⟨_,rfl⟩,.inr hx⟩
  ·obtain rfl:k=ps.length:=by omega
   have hlt': ¬((ps.length:Int)<(ps.length:Int)):=by omega
   gi_wp2
   go_end0
   exact⟨⟨_,rfl⟩,.inl ⟨_,hJ⟩⟩
end
section
section
variable{P:Program} {ops:Array Oper} {md:Region.Mode} {Q:Exit→Act→World→Prop} {d k:Nat}
def noDef (o:Oper):Bool:=match o.op with|.defer _=>false|_=>true
theorem noDef_ne {o:Oper}(h:noDef o=true): ∀c,o.op≠ .defer c:=fun c hc=>by unfold noDef at h;rw[hc]at h;cases h
theorem operR {o:Oper}{a:Act}{w:World}{K:Act→World→Prop}(hd:noDef o=true)(h:o.wp P a w K Q):o.wpIn (Fence.wide.inRound k) d P a w K Q:=by
 refine⟨fun _ _=>trivial,?_⟩;show o.uponIn (Fence.wide.inRound k) d P a K Q ((Oper.semAt (some k) a.eval o).run P w);rw[Oper.semAt_some k _ _ (noDef_ne hd)];unfold Oper.wp at h;generalize (execOp a.eval o).run P w=r at*
 cases r with
 |ok n w'=>
  cases n<;>simp only[Oper.upon]at h
  case value v=>exact h
  case skip=>exact h
  case defer x=>exact h
  case enter f args=>exact⟨fun e=>(by cases e),CallsIn.inRound k (callsIn_wide.2 h)⟩
  case row r args=>refine⟨fun e=>(by cases e),fun c cs _=> ?_⟩;obtain⟨v,w',h1,h2⟩:=h c cs;exact⟨v,w',h1,stepsIn_wide.2 h2⟩
 |halt x w'=>
  cases x<;>simp only[Oper.upon]at h
  case panic u=>exact h
theorem opR {i:Nat}{a:Act}{w:World}{K:Act→World→Prop}(hd: ∀(i:Nat) (o:Oper),ops[i]?=some o→noDef o=true)(hl: ¬LetsOut Q)(h:wpOp P ops Q i K a w):wpOpIn (Fence.wide.inRound k) d P ops Q i K a w:=by
 unfold wpOp at h;unfold wpOpIn
 split at h
 ·rename_i h0
  rw[h0];exact h
 ·rename_i o h0
  rw[h0];simp only
  split at h
  ·rename_i hw
   rw[if_pos hw];exact operR (hd i o h0) (h.resolve_right fun x=>hl x.2)
  ·rename_i hw
   rw[if_neg hw];exact⟨fun _ _=>trivial,h⟩
theorem anyR (hd: ∀(i:Nat) (o:Oper),ops[i]?=some o→noDef o=true)(hl: ¬LetsOut Q): ∀(fuel:Nat) (listed:Array Bool) (a:Act) (w:World),wpAny P md ops Q fuel listed a w→wpAnyIn (Fence.wide.inRound k) d P md ops Q fuel listed a w
 |0,_,_,_,h=>h
 |fuel+1,_,_,_,h=>⟨h.1,fun i hi=>opR hd hl (wpOp_mono (fun a' w' h'=>anyR hd hl fuel _ a' w' h') (h.2 i hi))⟩
theorem wpIn_region_heldR {id:Nat}{S:World→Prop}{a:Act}{w:World}(hm:P.follows .mixedOrders=true)(hnd:ops.toList.all noDef=true)(hl: ¬LetsOut Q)(hS:S w.drew)
 (h:S w.drew→wpAnyH P .any ops Q S ops.size (Array.replicate ops.size false) a w.drew):(Code.region id ops true).wpIn (Fence.wide.inRound k) d P Q a w:=
 wpIn_region_any hm (anyR (fun i o ho=>List.all_eq_true.1 hnd o (by rw[←Array.getElem?_toList]at ho;exact List.mem_of_getElem? ho)) hl _ _ _ _ (wpAny_of_held _ _ _ _ (h hS)))
end
end
section
attribute [local go_sem] Oper.semAt_some
def marksOf (qs:List Nat):List Deferred:=qs.map (fun q=>{target:=.collected q,args:=#[]})
structure Marks (D:Nat) (qs:List Nat) (W:World):Prop where
 nodup:qs.Nodup
 each: ∀q∈qs,D≤q∧W.heap[q]?=some (.deferred (some []))
theorem leaves_marks {F:Fence}{n D:Nat}{P:Program}{fn:Func}{tmps:Array Value}{R:Ending→World→Prop}: ∀(qs:List Nat) (W:World),Marks D qs W→
 (∀W',Frm (fun k=>k∈qs) W W'→ ∃v,(results fn tmps).run P W'= .ok v W'∧R (.returned v) W')→LeavesInM F n P fn tmps R (marksOf qs) .returning W
 |[],W,_,h=>h W (Frm.refl _ _)
 |q::qs,W,hm,h=>by
  have hK:=(hm.each q (by simp)).2;obtain⟨hq,hnd⟩:=List.nodup_cons.1 hm.nodup;refine⟨by simp,.inl ⟨q,_,rfl,run_takeDeferred hK,leaves_marks qs _ ⟨hnd,fun q' hq'=>⟨(hm.each q' (by simp[hq'])).1,(World.putObj_heap_other (fun e=>hq (by rw[←e];exact hq'))).trans (hm.each q' (by simp[hq'])).2⟩⟩ fun W' hF=> ?_⟩⟩;exact h W' (((Frm.refl (fun k=>k∈q::qs) W).put (k:=q) (by simp) (.deferred none)).trans hF (fun k _ hk=>List.mem_cons_of_mem _ hk))
theorem Marks.keep {D:Nat}{qs:List Nat}{W W':World}{F:Nat→Prop}(h:Marks D qs W)(hF:Frm F W W')(hn: ∀q∈qs,¬F q):Marks D qs W':=⟨h.nodup,fun q hq=>⟨(h.each q hq).1,(hF.block q (Array.getElem?_eq_some_iff.1 (h.each q hq).2).1 (hn q hq)).trans (h.each q hq).2⟩⟩
theorem results_cellb {fn:Func}{p:Tmp}(h:fn.results=#[.cell p 4])(tmps:Array Value)(w:World)(b:Nat)(v:Value)(hp:tmps.getD p undef= .pointer (some ⟨b,0,none⟩))(hc:w.cell? ⟨b,0,none⟩=some v):(results fn tmps).run Tryz.prog w= .ok v w:=by
 have hp':tmps[p]?.getD undef= .pointer (some ⟨b,0,none⟩):=by simpa using hp
 have hu:=run_underlying (P:=Tryz.prog) Tryz.underlying4 (w:=w);simp[results,h,hp',asAddr,loadVar,isAgg,hu,hc,go_sem]
end
section
attribute [local go_sem] Oper.semAt_some
def txL (rest:Int)(ch:List Chr)(s:ByteArray)(b:Int):List (Nat×Nat):=if okBase b then splitL (rneL s) (clsL rest ch (rneL s))else []
def txR (rest:Int)(ch:List Chr)(s:ByteArray)(b:Int)(x:Nat×Nat):Res:=runesX rest ch (((rneL s).take x.2).drop x.1) b
theorem Each_ok {w:World}{pv:Value}{s:ByteArray}:Calls Tryz.prog 62 #[.iface 25 pv,.string s] w fun r w'=>r= .returned (.func (.func 90) #[] #[.pointer (some ⟨w.heap.size,0,none⟩),.pointer (some ⟨w.heap.size+1,0,none⟩)])∧
 Blk w' w.heap.size 79 #[.iface 25 pv]∧Blk w' (w.heap.size+1) 9 #[.string s]∧Aft w w':=by
 go_enter Tryz.func62,Tryz.ntmps62
 go_wp2;go_ret;have h2:=Blk.new (w.alloc (.cells #[.iface 25 pv] 79)) 9 #[.string s];rw[World.size_alloc]at h2;exact⟨rfl,(Blk.new w 79 _).alloc _,h2,((Aft.refl w).alloc _).alloc _⟩
theorem Text_ok {w:World}{pv:Value}{s:ByteArray}{b:Int}:Calls Tryz.prog 35 #[.iface 25 pv,.string s,.int .i8 b] w fun r w'=>r= .returned (.func (.func 61) #[] #[.pointer (some ⟨w.heap.size,0,none⟩),.pointer (some ⟨w.heap.size+2,0,none⟩),.pointer (some ⟨w.heap.size+1,0,none⟩)])∧
 Blk w' w.heap.size 79 #[.iface 25 pv]∧Blk w' (w.heap.size+1) 9 #[.string s]∧Blk w' (w.heap.size+2) 28 #[.int .i8 b]∧Aft w w':=by
 go_enter Tryz.func35,Tryz.ntmps35
 go_wp2;go_ret;have h2:=Blk.new (w.alloc (.cells #[.iface 25 pv] 79)) 9 #[.string s];rw[World.size_alloc]at h2;have h3:=Blk.new ((w.alloc (.cells #[.iface 25 pv] 79)).alloc (.cells #[.string s] 9)) 28 #[.int .i8 b];rw[World.size_alloc,World.size_alloc]at h3;exact⟨rfl,((Blk.new w 79 _).alloc _).alloc _,h2.alloc _,h3,(((Aft.refl w).alloc _).alloc _).alloc _⟩
theorem RoundIn.wideR {n m l f k:Nat}{P:Program}{t:Array Value}{a b:Code}{w:World}{R:Ending→World→Prop}(h:RoundIn Fence.wide n P l f t a b w R):RoundIn (Fence.wide.inRound k) m P l f t a b w R:=⟨h.1,fun c cs _=>h.2 c cs (room_wide _)⟩
structure TxI (W1:World) (Bp b1 b2 q:Nat) (pv:Value) (rest:Int) (ch:List Chr) (b:Int) (yb:Nat) (J:Nat→(Nat→Prop)→World→Prop) (k:Nat) (S S1:Nat→Prop) (W:World):Prop where
 s: ∀j,S j↔S1 j∨j=q+1
 j:J k S1 W
 x1:Blk W b1 79 #[.iface 25 pv]
 x2:Blk W b2 28 #[.int .i8 b]
 x4:Blk W W1.heap.size 102 #[.func (.yield yb) #[] #[]]
 p:PropsIs W Bp pv rest ch
 z:q+1<W.heap.size
 d: ∀j,S1 j→(Bp≤j∧j≠b1∧j≠b2)∧(j<W1.heap.size∨q+2≤j)
theorem TxI.frm {W1 W W':World}{Bp b1 b2 q yb k:Nat}{pv:Value}{rest:Int}{ch:List Chr}{b:Int}{J:Nat→(Nat→Prop)→World→Prop}{S S1:Nat→Prop}{F:Nat→Prop}(T:TellsB W1.heap.size J)(h:TxI W1 Bp b1 b2 q pv rest ch b yb J k S S1 W)
 (hF:Frm F W W') (hf: ∀j,F j→j<W.heap.size→q+1≤j∧ ¬S1 j) (hb:b1<q∧b2<q∧W1.heap.size<q∧Bp≤q):TxI W1 Bp b1 b2 q pv rest ch b yb J k S S1 W':=by
 have hn: ∀i,i≤q→ ¬F i:=fun i hi h'=>by have h1:=h.z;have:=hf i h' (by omega);omega
 refine⟨h.s,T.frm _ _ _ _ _ h.j hF (fun j h1 h2=> ?_),h.x1.frm hF (hn _ (by omega)),h.x2.frm hF (hn _ (by omega)),h.x4.frm hF (hn _ (by omega)),?_,Nat.lt_of_lt_of_le h.z hF.size,h.d⟩
 ·have:=hf j h1 h2;exact⟨by omega,this.2⟩
 ·have h1:=h.z;exact h.p.below (C:=Bp) (hF.below (by omega) (fun i hi=>hn i (by omega))) (.inl (Nat.le_refl _))
theorem text_iter {W1:World}{b1 b2 b3 yb Bp:Nat}{pv:Value}{rest:Int}{ch:List Chr}{s:ByteArray}{b:Int}{ps:List (Nat×Nat)}(h1:Blk W1 b1 79 #[.iface 25 pv])(h2:Blk W1 b2 28 #[.int .i8 b])(h3:Blk W1 b3 9 #[.string s])
 (hP:PropsIs W1 Bp pv rest ch) (hBp:Bp≤W1.heap.size) (hs:s.size≤1099511627776) (hps:txL rest ch s b=ps)
 {J:Nat→(Nat→Prop)→World→Prop} (T:TellsB W1.heap.size J) {Jx:(Nat→Prop)→World→Prop} (TX:TellsB W1.heap.size (fun _=>Jx)) {S0:Nat→Prop} (h0:J 0 S0 W1) (hS0: ∀j,S0 j→Bp≤j∧j≠b1∧j≠b2) {d:Nat} (hd:3≤d)
 (hY: ∀k S W0 W v (hk:k<ps.length),J k S W0→Aft W0 W→ResOwn W W0.heap.size v (txR rest ch s b ps[k])→YieldAt Fence.wide 1 Tryz.prog yb #[.agg #[.int .i64 ps[k].1,.int .i64 ps[k].2],v] W fun e W'=>(e= .returned (.bool true)∧ ∃S',J (k+1) S' W'∧Frm (fun j=>S j∨W0.heap.size≤j) W W'∧ ∀j,S' j→S j∨W0.heap.size≤j)∨(e= .returned (.bool false)∧ ∃S',Jx S' W'∧Frm (fun j=>S j∨W0.heap.size≤j) W W'∧ ∀j,S' j→S j∨W0.heap.size≤j)):
 CallsIn Fence.wide d Tryz.prog 61 #[.func (.yield yb) #[] #[],.pointer (some ⟨b1,0,none⟩),.pointer (some ⟨b2,0,none⟩),.pointer (some ⟨b3,0,none⟩)] W1 fun e W'=>(∃v,e= .returned v)∧((∃S,J ps.length S W')∨ ∃S,Jx S W'):=by
 have CM:=fun W=>emay_ok W b;obtain⟨W2,hW2⟩: ∃W2,W1.alloc (.cells #[.func (.yield yb) #[] #[]] 102)=W2:=⟨_,rfl⟩
 have a2:Aft W1 W2:=by rw[←hW2];exact(Aft.refl W1).alloc _
 have X4:Blk W2 W1.heap.size 102 #[.func (.yield yb) #[] #[]]:=by rw[←hW2];exact Blk.new W1 102 _
 obtain⟨x0,xf,xl⟩:=(h1.aft a2).c1;obtain⟨y0,yf,yl⟩:=(h2.aft a2).c1;obtain⟨z0,zf,zl⟩:=(h3.aft a2).c1;have hb1:=h1.lt;have hb2:=h2.lt
 by_cases hb:okBase b
 ·have e1:decide (b= -1∨b=0∨b=1)=true:=decide_eq_true hb;rw[e1]at CM
  have hps':splitL (rneL s) (clsL rest ch (rneL s))=ps:=by rw[←hps];unfold txL;rw[if_pos hb]
  clear hps e1;refine callsIn_of_wp_marks Tryz.func61 rfl trivial ?_ rfl;simp only[Tryz.ntmps61,List.size_toArray,List.length_cons,List.length_nil,Nat.reduceAdd,Nat.reduceSub,Array.replicate_succ,Array.replicate_zero,List.push_toArray,List.append_toArray,List.nil_append,List.cons_append];refine wpIn_wide.2 ?_
  go_upto_region 1 with(fail)
  try rw[hW2]
  clear hW2
  go_wp2_with(first
   |(go_at_call 40;refine(CM _).mono ?_;rintro r2 w2 ⟨rfl,hw2⟩;subst hw2)
   |(go_at_call 62;refine Each_ok.mono ?_;rintro r3 w3 ⟨rfl,E1,E2,a3⟩))
  obtain⟨q,hq⟩: ∃q,w3.heap.size=q:=⟨_,rfl⟩;have a13:=a2.trans a3;have hz2:=a2.size;have hz3:=a3.size
  have hzq:W2.heap.size+1<q:=by rw[←hq];exact E2.lt
  have hX4:=X4.lt
  have hbq:b1<q∧b2<q∧W1.heap.size<q∧Bp≤q:=by omega
  have I0: ∀W,Frm (fun _=>False) w3 W→q+1<W.heap.size→TxI W1 Bp b1 b2 q pv rest ch b yb J 0 (fun j=>S0 j∨j=q+1) S0 W:=fun W hF hz=>
   ⟨fun _=>Iff.rfl,T.frm _ _ _ _ (fun _=>False) h0 ((Frm.of_below a13).trans hF (fun _ _ h=>h)) (fun _ h _=>h.elim),(h1.aft a13).frm hF id,(h2.aft a13).frm hF id,(X4.aft a3).frm hF id,
    (hP.below a13 (.inl hBp)).frm hF,hz,fun j hj=>⟨hS0 j hj,.inl (T.lt _ _ _ h0 j hj)⟩⟩
  have hPX:=hP.below a13 (.inl hBp);clear x0 xf xl y0 yf yl z0 zf zl CM
  refine wpIn_wide.1 (wpIn_rangeFunc_break (n:=d) (F:=Fence.wide) rfl (by omega) (gf:=90) (lb:=#[.pointer (some ⟨W2.heap.size,0,none⟩),.pointer (some ⟨W2.heap.size+1,0,none⟩)]) rfl trivial (enters_of Tryz.func90 (by kernel_rfl) rfl)
   (encs:=fun x:Nat×(Nat→Prop)×(Nat→Prop)=>pcE s (ps.getD x.1 (0,0))) (fun _=>rfl) Code.ret
   (fun x W=>TxI W1 Bp b1 b2 q pv rest ch b yb J x.1 x.2.1 x.2.2 W∧x.1<ps.length)
   (fun x W W'=>x.2.1 (q+1)∧ ∃S' S1',TxI W1 Bp b1 b2 q pv rest ch b yb J (x.1+1) S' S1' W'∧Frm x.2.1 W W'∧ ∀j,S' j→x.2.1 j∨W.heap.size≤j)
   (fun x W W'=> ∃S',Jx S' W'∧q+1<W'.heap.size∧ ¬S' q∧ ¬S' (q+1))
   (fun W=> ∃S S1,TxI W1 Bp b1 b2 q pv rest ch b yb J ps.length S S1 W)
   (fun W=> ∃S',Jx S' W∧q+1<W.heap.size∧ ¬S' q∧ ¬S' (q+1))
   ?round ?stay ?stayb ?call ?fin ?finb ?done ?stop)
  case stay=>rw[hq];rintro x W Wa Wb ⟨g1,S',S1',g2,g3,g4⟩ hF;exact⟨g1,S',S1',g2.frm T hF (fun j e h=>⟨by omega,fun h'=>by have:=(g2.d j h').2;omega⟩) hbq,g3.trans hF (fun j hj e=>by rw[e];exact g1),g4⟩
  case stayb=>rw[hq];rintro x W Wa Wb ⟨S',g1,g2,g3,g4⟩ hF;exact⟨S',TX.frm 0 _ _ _ _ g1 hF (fun j e h=>⟨by omega,by rw[e];exact g4⟩),Nat.lt_of_lt_of_le g2 hF.size,g3,g4⟩
  case fin=>rw[hq];rintro Wa Wb ⟨S',S1',g2⟩ hF;exact⟨S',S1',g2.frm T hF (fun j e h=>⟨by omega,fun h'=>by have:=(g2.d j h').2;omega⟩) hbq⟩
  case finb=>rw[hq];rintro Wa Wb ⟨S',g1,g2,g3,g4⟩ hF;exact⟨S',TX.frm 0 _ _ _ _ g1 hF (fun j e h=>⟨by omega,by rw[e];exact g4⟩),Nat.lt_of_lt_of_le g2 hF.size,g3,g4⟩
  case call=>
   intro Wc hF1 hW1 Rdy Dn hsz hst hR1 hY';rw[hq]at hW1 hsz hst hY'⊢
   have hIt:=each_iter (W1:=Wc) (yb:=q+1) (E1.frm hF1 id) (E2.frm hF1 id) (hPX.frm hF1).clip hs hps'
    (J:=fun k S W=> ∃S1,TxI W1 Bp b1 b2 q pv rest ch b yb J k S S1 W∧Rdy W)
    ⟨fun k S W ⟨S1,g,_⟩ j hj=>by
     rcases(g.s j).1 hj with h|h
     ·exact T.lt _ _ _ g.j j h
     ·have:=g.z;omega,
     fun k S W W' F ⟨S1,g,r⟩ hF hf=>⟨S1,g.frm T hF (fun j h h'=>⟨by have:=(hf j h h').1;omega,fun h2=>(hf j h h').2 ((g.s j).2 (.inl h2))⟩) hbq,
      hst _ _ r (Two.of_frm hF g.z (fun h=>by have h1:=g.z;have:=(hf _ h (by omega)).1;omega) (fun h=>(hf _ h g.z).2 ((g.s _).2 (.inr rfl))))⟩⟩
    (Jx:=fun W=>(∃S',Jx S' W∧q+1<W.heap.size∧ ¬S' q∧ ¬S' (q+1))∧Dn W) ⟨_,I0 Wc hF1 hW1,hR1⟩ (d:=d-1) (by omega) (fun k S W hk ⟨S1,g,r⟩=>by
     have e1:pcE s ps[k]=pcE s (ps.getD k (0,0)):=by rw[List.getD_eq_getElem?_getD,List.getElem?_eq_getElem hk];rfl
     rw[e1];obtain⟨fn,tmps,asg,bd,hy,hRo⟩:=hY' (k,S,S1) W ⟨g,hk⟩ r;refine⟨fn,tmps,asg,bd,hy,RoundIn.wide (hRo.mono fun e w' h=> ?_)⟩
     rcases h with⟨h1,⟨_,S',S1',g2,g3,g4⟩,h5⟩|⟨h1,h2,h3⟩
     ·exact .inl ⟨h1,S',⟨S1',g2,h5⟩,g3,g4⟩
     ·exact .inr ⟨h1,h2,h3⟩)
   refine hIt.mono ?_;rintro e W ⟨hv,(⟨S,S1,g,r⟩|⟨g,r⟩)⟩
   ·exact⟨hv,.inl ⟨⟨S,S1,g⟩,r⟩⟩
   ·exact⟨hv,.inr ⟨g,r⟩⟩
  case done=>rw[hq];rintro W ⟨S,S1,g⟩ hK;have FF:=(Frm.refl (fun k=>k=q) W).put (k:=q) rfl (.deferred none);have hJ:=T.frm _ _ _ _ _ g.j FF (fun j h _=>⟨by omega,fun h'=>by have:=(g.d _ h').2;omega⟩);refine⟨by simp,.inl ⟨_,_,rfl,run_takeDeferred hK,?_⟩⟩;exact⟨_,results_none (by kernel_rfl) _ _ _,⟨_,rfl⟩,.inl ⟨_,hJ⟩⟩
  case stop=>rw[hq];rintro W ⟨S',g1,g2,g3,g4⟩ hK;have FF:=(Frm.refl (fun k=>k=q) W).put (k:=q) rfl (.deferred none);have hJ:=TX.frm 0 _ _ _ _ g1 FF (fun j h _=>⟨by omega,by rw[h];exact g3⟩);refine wpIn_wide.2 ?_;go_wp2;refine⟨by simp,.inl ⟨_,_,rfl,run_takeDeferred hK,?_⟩⟩;exact⟨_,results_none (by kernel_rfl) _ _ _,⟨_,rfl⟩,.inr ⟨_,hJ⟩⟩
  case round=>
   rw[hq];rintro⟨k,S,S1⟩ W K hW ⟨g,hkl⟩ hK;obtain⟨⟨f,t⟩,hx⟩: ∃x,ps.getD k (0,0)=x:=⟨_,rfl⟩
   have hxi:ps[k]=(f,t):=by rw[←hx,List.getD_eq_getElem?_getD,List.getElem?_eq_getElem hkl];rfl
   have hmem:f<t∧t≤(chs s).length:=by have h:=splitL_mem (rs:=rneL s) (cl:=clsL rest ch (rneL s)) (f,t) (by rw[hps',←hxi];exact List.getElem_mem hkl);rw[clsL_len,rneL_len]at h;exact h
   simp only at g hkl hK⊢;rw[hx];have hY2:=fun W W0 v=>hY k S1 W W0 v hkl;rw[hxi]at hY2;simp only[pcE,List.zip_toArray,List.zip_cons_cons,List.zip_nil_right,List.foldl_toArray,List.foldl_cons,List.foldl_nil,List.setIfInBounds_toArray,List.set_cons_zero,List.set_cons_succ];gi_wp2;have FA:=(Frm.refl (fun _=>False) W).alloc (.cells #[.int .i64 f,.int .i64 t] 44);refine hK _ _ (Two.of_frm FA hW id id) ?_;intro W2x hF2;have FW:Frm (fun j=>j=q+1) W W2x:=(FA.mono (fun _ _ h=>h.elim)).trans hF2 (fun _ _ h=>h)
   have hnq: ¬S1 (q+1):=fun h=>by have:=(g.d _ h).2;omega
   have g2:=g.frm T FW (fun j e h=>⟨by omega,by rw[e];exact hnq⟩) hbq;have P5:=(Blk.new W 44 #[.int .i64 f,.int .i64 t]).frm hF2 (by omega);clear hK FA hF2;have hsub:=rneL_sub s (Nat.le_of_lt hmem.1) hmem.2;obtain⟨sub,hsubd⟩: ∃sub,s.extract (bAt s f) (bAt s t)=sub:=⟨_,rfl⟩
   have hss:sub.size≤1099511627776:=by rw[←hsubd,ByteArray.size_extract];omega
   rw[hsubd]at hsub⊢;obtain⟨X,hX⟩: ∃X,txR rest ch s b (f,t)=X:=⟨_,rfl⟩
   have hX2:runesX rest ch (rneL sub) b=X:=by rw[hsub];exact hX
   rw[hX]at hY2;have CR:=fun(W:World)=>PRunes_ok (w:=W) hss;have CE:=fun(W:World) (g:Nat) (c:Nat) (hW:Aft W2x W) (hr:RdInts W W.heap.size .i32 (some ⟨g,0,none⟩) (rneL sub))=>ERunes_ok (rc:=c) (g2.p.below hW (.inr (Nat.le_refl _))) hr rfl b;rw[hX2]at CE;obtain⟨m,hm⟩: ∃m,(rneL sub).length=m:=⟨_,rfl⟩;rw[hm]at CE CR;have HS: ∀W,Aft W2x W→Aft W2x W∧W.cell? ⟨b1,0,none⟩=some (.iface 25 pv)∧W.cell? ⟨b2,0,none⟩=some (.int .i8 b):=fun W hW=>⟨hW,(g2.x1.aft hW).c1.1,(g2.x2.aft hW).c1.1⟩;have HG2:=Lib.hid g2;have HG:=Lib.hid g;have HX:=Lib.hid hX;have HY2:=Lib.hid hY2;have P5':=P5;clear g g2 hX hX2 hm hsub hsubd hx hxi hY2 hY
   gi_upto_region 5 with(fail)
   gi_cut [7] from 29 (fun rv wx=> ∃g6 cA lA cc lc,rv= .pointer (some ⟨g6,0,none⟩)∧Blk wx g6 33 #[.int .i8 X.base,.slice cA X.cs.length cc,.slice lA X.lv.length lc]∧ResOwn wx W2x.heap.size (.agg #[.int .i8 X.base,.slice cA X.cs.length cc,.slice lA X.lv.length lc]) X∧Aft W2x wx)
   case first=>
    refine wpIn_region_heldR (S:=fun w'=>Aft W2x w'∧w'.cell? ⟨b1,0,none⟩=some (.iface 25 pv)∧w'.cell? ⟨b2,0,none⟩=some (.int .i8 b)) (by kernel_rfl) (by kernel_rfl) (by rintro⟨_,_,h⟩;exact h) (HS _ (Aft.refl _).drew) (fun hH0=> ?_)
    refine wpAnyH_take (i:=0) (oi:=⟨some 22,.load 79 (.tmp 1),79,"engine.go:126",#[],none⟩) (v:= ?_) rfl (by kernel_rfl) (by kernel_rfl) (by kernel_rfl) (fun _ _ _ h=>h) (Or.inl ⟨by rfl,?_⟩) (by assumption) ?_
    rotate_left
    ·(intro w hSw;(try dsimp only at hSw);go_simp;first|done|with_reducible rfl)
    try simp only[Act.put,List.setIfInBounds_toArray,List.set_cons_zero,List.set_cons_succ]
    refine wpAnyH_take (i:=1) (oi:=⟨some 23,.move (.tmp 6),9,"engine.go:126",#[],none⟩) (v:= ?_) rfl (by kernel_rfl) (by kernel_rfl) (by kernel_rfl) (fun _ _ _ h=>h) (Or.inl ⟨by rfl,?_⟩) (by assumption) ?_
    rotate_left
    ·(intro w hSw;(try dsimp only at hSw);go_simp;first|done|with_reducible rfl)
    try simp only[Act.put,List.setIfInBounds_toArray,List.set_cons_zero,List.set_cons_succ]
    refine wpAnyH_take (i:=3) (oi:=⟨some 25,.load 28 (.tmp 2),28,"engine.go:126",#[],none⟩) (v:= ?_) rfl (by kernel_rfl) (by kernel_rfl) (by kernel_rfl) (fun _ _ _ h=>h) (Or.inl ⟨by rfl,?_⟩) (by assumption) ?_
    rotate_left
    ·(intro w hSw;(try dsimp only at hSw);go_simp;first|done|with_reducible rfl)
    try simp only[Act.put,List.setIfInBounds_toArray,List.set_cons_zero,List.set_cons_succ]
    refine wpAnyH_ready (rs:=[2,8]) (by kernel_rfl) (by simp) ?_;refine AllReadyH.cons rfl (fun K hK=> ?_) ?_
    ·(go_simp;(go_at_call 63;refine(CR _).mono ?_;rintro r8 w8 ⟨g8,c8,rfl,I8,a8⟩);try go_wp2_with(fail))
     refine hK.out _ _ (HS _ (hH0.1.trans a8)) (fun hH1=> ?_);clear hK K
     try simp only[Act.put,List.setIfInBounds_toArray,List.set_cons_zero,List.set_cons_succ]
     refine wpAnyH_ready (rs:=[4,8]) (by kernel_rfl) (by simp) ?_;refine AllReadyH.cons rfl (fun K hK=> ?_) ?_
     ·(go_simp;(go_at_call 15;refine(CE _ _ _ hH1.1 I8.rd).mono ?_;rintro r9 w9 ⟨v9,rfl,⟨cA,lA,cc,lc,rfl,IC,IL,hne⟩,a9⟩);try go_wp2_with(fail))
      refine hK.out _ _ (HS _ (hH1.1.trans a9)) (fun hH2=> ?_);clear hK K
      try simp only[Act.put,List.setIfInBounds_toArray,List.set_cons_zero,List.set_cons_succ]
      have hbz:W2x.heap.size≤w8.heap.size:=hH1.1.size
      refine wpAnyH_take (i:=5) (oi:=⟨some 21,.move (.tmp 26),35,"engine.go:126",#[⟨4,.data⟩],none⟩) (v:= ?_) rfl (by kernel_rfl) (by kernel_rfl) (by kernel_rfl) (fun _ _ _ h=>h) (Or.inl ⟨by rfl,?_⟩) (by assumption) ?_
      rotate_left
      ·(intro w hSw;(try dsimp only at hSw);go_simp;first|done|with_reducible rfl)
      try simp only[Act.put,List.setIfInBounds_toArray,List.set_cons_zero,List.set_cons_succ]
      refine wpAnyH_take (i:=6) (oi:=⟨some 27,.extract (.tmp 21) 0,33,"engine.go:126",#[⟨5,.data⟩],none⟩) (v:= ?_) rfl (by kernel_rfl) (by kernel_rfl) (by kernel_rfl) (fun _ _ _ h=>h) (Or.inl ⟨by rfl,?_⟩) (by assumption) ?_
      rotate_left
      ·(intro w hSw;(try dsimp only at hSw);go_simp;first|done|with_reducible rfl)
      try simp only[Act.put,List.setIfInBounds_toArray,List.set_cons_zero,List.set_cons_succ]
      refine wpAnyH_take (i:=7) (oi:=⟨some 28,.extract (.tmp 21) 1,34,"engine.go:126",#[⟨5,.data⟩,⟨9,.gcOnly .lateStores⟩],none⟩) (v:= ?_) rfl (by kernel_rfl) (by kernel_rfl) (by kernel_rfl) (fun _ _ _ h=>h) (Or.inl ⟨by rfl,?_⟩) (by assumption) ?_
      rotate_left
      ·(intro w hSw;(try dsimp only at hSw);go_simp;first|done|with_reducible rfl)
      try simp only[Act.put,List.setIfInBounds_toArray,List.set_cons_zero,List.set_cons_succ]
      refine wpAnyH_ready (rs:=[8]) (by kernel_rfl) (by simp) ?_;refine AllReadyH.cons rfl (fun K hK=> ?_) ?_
      ·go_simp
       refine hK.out _ _ (HS _ (hH2.1.alloc _)) (fun hH3=> ?_);clear hK K
       try simp only[Act.put,List.setIfInBounds_toArray,List.set_cons_zero,List.set_cons_succ]
       have Z:Blk (w9.alloc (.cells #[.int .i8 0,.slice none 0 0,.slice none 0 0] 33)) w9.heap.size 33 #[.int .i8 0,.slice none 0 0,.slice none 0 0]:=Blk.new w9 33 _;have hgz:W2x.heap.size≤w9.heap.size:=hH2.1.size;have ICl:=IC.lt;have ILl:=IL.lt;have ICp:=IC;have ILp:=IL;replace IC:=IC.alloc (.cells #[.int .i8 0,.slice none 0 0,.slice none 0 0] 33);replace IL:=IL.alloc (.cells #[.int .i8 0,.slice none 0 0,.slice none 0 0] 33);refine wpAnyH_ready (rs:=[9]) (by kernel_rfl) (by simp) ?_;refine AllReadyH.cons rfl (fun K hK=> ?_) ?_
       ·(obtain⟨z0,z1,z2,zf,zl⟩:=Z.c3)
        go_simp
        refine hK.out _ _ (HS _ (hH2.1.alloc _)) (fun hH4=> ?_);clear hK K
        try simp only[Act.put,List.setIfInBounds_toArray,List.set_cons_zero,List.set_cons_succ]
        refine wpAnyH_take (i:=10) (oi:=⟨some 8,.assign (.tmp 28),34,"engine.go:126",#[⟨7,.data⟩,⟨9,.chain⟩,⟨0,.phase⟩,⟨1,.phase⟩,⟨2,.phase⟩,⟨3,.phase⟩,⟨4,.phase⟩,⟨5,.phase⟩,⟨6,.phase⟩,⟨7,.phase⟩,⟨8,.phase⟩,⟨9,.phase⟩],none⟩) (v:= ?_) rfl (by kernel_rfl) (by kernel_rfl) (by kernel_rfl) (fun _ _ _ h=>h) (Or.inl ⟨by rfl,?_⟩) (by assumption) ?_
        rotate_left
        ·(intro w hSw;(try dsimp only at hSw);go_simp;first|done|with_reducible rfl)
        try simp only[Act.put,List.setIfInBounds_toArray,List.set_cons_zero,List.set_cons_succ]
        refine wpAnyH_done (by kernel_rfl) ?_ _;gi_wp2
        gi_meet
        exact⟨w9.heap.size,cA,lA,cc,lc,rfl,Blk.new _ 33 _,⟨cA,lA,cc,lc,rfl,(ICp.alloc _).base (fun j e=>Nat.le_trans hbz (ICl j e).1),(ILp.alloc _).base (fun j e=>Nat.le_trans hbz (ILl j e).1),hne⟩,hH4.1⟩
       exact AllReadyH.nil
      exact AllReadyH.nil
     refine AllReadyH.cons rfl (fun K hK=> ?_) ?_
     ·go_simp
      refine hK.out _ _ (HS _ (hH1.1.alloc _)) (fun hH2=> ?_);clear hK K
      try simp only[Act.put,List.setIfInBounds_toArray,List.set_cons_zero,List.set_cons_succ]
      have Z:Blk (w8.alloc (.cells #[.int .i8 0,.slice none 0 0,.slice none 0 0] 33)) w8.heap.size 33 #[.int .i8 0,.slice none 0 0,.slice none 0 0]:=Blk.new w8 33 _;have hgz:W2x.heap.size≤w8.heap.size:=hH1.1.size;replace I8:=I8.alloc (.cells #[.int .i8 0,.slice none 0 0,.slice none 0 0] 33);refine wpAnyH_ready (rs:=[4]) (by kernel_rfl) (by simp) ?_;refine AllReadyH.cons rfl (fun K hK=> ?_) ?_
      ·(go_simp;(go_at_call 15;refine(CE _ _ _ hH2.1 I8.rd).mono ?_;rintro r9 w9 ⟨v9,rfl,⟨cA,lA,cc,lc,rfl,IC,IL,hne⟩,a9⟩);try go_wp2_with(fail))
       refine hK.out _ _ (HS _ (hH2.1.trans a9)) (fun hH3=> ?_);clear hK K
       try simp only[Act.put,List.setIfInBounds_toArray,List.set_cons_zero,List.set_cons_succ]
       have hbz:W2x.heap.size≤(w8.alloc (.cells #[.int .i8 0,.slice none 0 0,.slice none 0 0] 33)).heap.size:=hH2.1.size;have Zl:=Z.lt;have ICl:=IC.lt;have ILl:=IL.lt;replace Z:=Z.aft a9
       refine wpAnyH_take (i:=5) (oi:=⟨some 21,.move (.tmp 26),35,"engine.go:126",#[⟨4,.data⟩],none⟩) (v:= ?_) rfl (by kernel_rfl) (by kernel_rfl) (by kernel_rfl) (fun _ _ _ h=>h) (Or.inl ⟨by rfl,?_⟩) (by assumption) ?_
       rotate_left
       ·(intro w hSw;(try dsimp only at hSw);go_simp;first|done|with_reducible rfl)
       try simp only[Act.put,List.setIfInBounds_toArray,List.set_cons_zero,List.set_cons_succ]
       refine wpAnyH_take (i:=6) (oi:=⟨some 27,.extract (.tmp 21) 0,33,"engine.go:126",#[⟨5,.data⟩],none⟩) (v:= ?_) rfl (by kernel_rfl) (by kernel_rfl) (by kernel_rfl) (fun _ _ _ h=>h) (Or.inl ⟨by rfl,?_⟩) (by assumption) ?_
       rotate_left
       ·(intro w hSw;(try dsimp only at hSw);go_simp;first|done|with_reducible rfl)
       try simp only[Act.put,List.setIfInBounds_toArray,List.set_cons_zero,List.set_cons_succ]
       refine wpAnyH_take (i:=7) (oi:=⟨some 28,.extract (.tmp 21) 1,34,"engine.go:126",#[⟨5,.data⟩,⟨9,.gcOnly .lateStores⟩],none⟩) (v:= ?_) rfl (by kernel_rfl) (by kernel_rfl) (by kernel_rfl) (fun _ _ _ h=>h) (Or.inl ⟨by rfl,?_⟩) (by assumption) ?_
       rotate_left
       ·(intro w hSw;(try dsimp only at hSw);go_simp;first|done|with_reducible rfl)
       try simp only[Act.put,List.setIfInBounds_toArray,List.set_cons_zero,List.set_cons_succ]
       refine wpAnyH_ready (rs:=[9]) (by kernel_rfl) (by simp) ?_;refine AllReadyH.cons rfl (fun K hK=> ?_) ?_
       ·(obtain⟨z0,z1,z2,zf,zl⟩:=Z.c3)
        go_simp
        refine hK.out _ _ (HS _ (((hH3.1.set hgz _).set hgz _).set hgz _)) (fun hH4=> ?_);clear hK K
        try simp only[Act.put,List.setIfInBounds_toArray,List.set_cons_zero,List.set_cons_succ]
        have FZ:=frm_put3 w9 (w8.heap.size) (.int .i8 X.base) (.slice cA X.cs.length cc) (.slice lA X.lv.length lc);have NZ:=blk_put3 (.int .i8 X.base) (.slice cA X.cs.length cc) (.slice lA X.lv.length lc) Z
        refine wpAnyH_take (i:=10) (oi:=⟨some 8,.assign (.tmp 28),34,"engine.go:126",#[⟨7,.data⟩,⟨9,.chain⟩,⟨0,.phase⟩,⟨1,.phase⟩,⟨2,.phase⟩,⟨3,.phase⟩,⟨4,.phase⟩,⟨5,.phase⟩,⟨6,.phase⟩,⟨7,.phase⟩,⟨8,.phase⟩,⟨9,.phase⟩],none⟩) (v:= ?_) rfl (by kernel_rfl) (by kernel_rfl) (by kernel_rfl) (fun _ _ _ h=>h) (Or.inl ⟨by rfl,?_⟩) (by assumption) ?_
        rotate_left
        ·(intro w hSw;(try dsimp only at hSw);go_simp;first|done|with_reducible rfl)
        try simp only[Act.put,List.setIfInBounds_toArray,List.set_cons_zero,List.set_cons_succ]
        refine wpAnyH_done (by kernel_rfl) ?_ _;gi_wp2
        gi_meet
        exact⟨w8.heap.size,cA,lA,cc,lc,rfl,NZ,⟨cA,lA,cc,lc,rfl,(IC.frm FZ (fun j e h=>by have h1:=ICl j e;have h2:j=w8.heap.size:=h;have h3:=Zl;omega)).base (fun j e=>Nat.le_trans hbz (ICl j e).1),(IL.frm FZ (fun j e h=>by have h1:=ILl j e;have h2:j=w8.heap.size:=h;have h3:=Zl;omega)).base (fun j e=>Nat.le_trans hbz (ILl j e).1),hne⟩,hH4.1⟩
       exact AllReadyH.nil
      exact AllReadyH.nil
     exact AllReadyH.nil
    refine AllReadyH.cons rfl (fun K hK=> ?_) ?_
    ·go_simp
     refine hK.out _ _ (HS _ (hH0.1.alloc _)) (fun hH1=> ?_);clear hK K
     try simp only[Act.put,List.setIfInBounds_toArray,List.set_cons_zero,List.set_cons_succ]
     have Z:Blk (W2x.drew.alloc (.cells #[.int .i8 0,.slice none 0 0,.slice none 0 0] 33)) W2x.heap.size 33 #[.int .i8 0,.slice none 0 0,.slice none 0 0]:=Blk.new W2x.drew 33 _;have hgz:W2x.heap.size≤W2x.heap.size:=hH0.1.size;refine wpAnyH_ready (rs:=[2]) (by kernel_rfl) (by simp) ?_;refine AllReadyH.cons rfl (fun K hK=> ?_) ?_
     ·(go_simp;(go_at_call 63;refine(CR _).mono ?_;rintro r8 w8 ⟨g8,c8,rfl,I8,a8⟩);try go_wp2_with(fail))
      refine hK.out _ _ (HS _ (hH1.1.trans a8)) (fun hH2=> ?_);clear hK K
      try simp only[Act.put,List.setIfInBounds_toArray,List.set_cons_zero,List.set_cons_succ]
      replace Z:=Z.aft a8;refine wpAnyH_ready (rs:=[4]) (by kernel_rfl) (by simp) ?_;refine AllReadyH.cons rfl (fun K hK=> ?_) ?_
      ·(go_simp;(go_at_call 15;refine(CE _ _ _ hH2.1 I8.rd).mono ?_;rintro r9 w9 ⟨v9,rfl,⟨cA,lA,cc,lc,rfl,IC,IL,hne⟩,a9⟩);try go_wp2_with(fail))
       refine hK.out _ _ (HS _ (hH2.1.trans a9)) (fun hH3=> ?_);clear hK K
       try simp only[Act.put,List.setIfInBounds_toArray,List.set_cons_zero,List.set_cons_succ]
       have hbz:W2x.heap.size≤w8.heap.size:=hH2.1.size;have Zl:=Z.lt;have ICl:=IC.lt;have ILl:=IL.lt;replace Z:=Z.aft a9
       refine wpAnyH_take (i:=5) (oi:=⟨some 21,.move (.tmp 26),35,"engine.go:126",#[⟨4,.data⟩],none⟩) (v:= ?_) rfl (by kernel_rfl) (by kernel_rfl) (by kernel_rfl) (fun _ _ _ h=>h) (Or.inl ⟨by rfl,?_⟩) (by assumption) ?_
       rotate_left
       ·(intro w hSw;(try dsimp only at hSw);go_simp;first|done|with_reducible rfl)
       try simp only[Act.put,List.setIfInBounds_toArray,List.set_cons_zero,List.set_cons_succ]
       refine wpAnyH_take (i:=6) (oi:=⟨some 27,.extract (.tmp 21) 0,33,"engine.go:126",#[⟨5,.data⟩],none⟩) (v:= ?_) rfl (by kernel_rfl) (by kernel_rfl) (by kernel_rfl) (fun _ _ _ h=>h) (Or.inl ⟨by rfl,?_⟩) (by assumption) ?_
       rotate_left
       ·(intro w hSw;(try dsimp only at hSw);go_simp;first|done|with_reducible rfl)
       try simp only[Act.put,List.setIfInBounds_toArray,List.set_cons_zero,List.set_cons_succ]
       refine wpAnyH_take (i:=7) (oi:=⟨some 28,.extract (.tmp 21) 1,34,"engine.go:126",#[⟨5,.data⟩,⟨9,.gcOnly .lateStores⟩],none⟩) (v:= ?_) rfl (by kernel_rfl) (by kernel_rfl) (by kernel_rfl) (fun _ _ _ h=>h) (Or.inl ⟨by rfl,?_⟩) (by assumption) ?_
       rotate_left
       ·(intro w hSw;(try dsimp only at hSw);go_simp;first|done|with_reducible rfl)
       try simp only[Act.put,List.setIfInBounds_toArray,List.set_cons_zero,List.set_cons_succ]
       refine wpAnyH_ready (rs:=[9]) (by kernel_rfl) (by simp) ?_;refine AllReadyH.cons rfl (fun K hK=> ?_) ?_
       ·(obtain⟨z0,z1,z2,zf,zl⟩:=Z.c3)
        go_simp
        refine hK.out _ _ (HS _ (((hH3.1.set hgz _).set hgz _).set hgz _)) (fun hH4=> ?_);clear hK K
        try simp only[Act.put,List.setIfInBounds_toArray,List.set_cons_zero,List.set_cons_succ]
        have FZ:=frm_put3 w9 (W2x.heap.size) (.int .i8 X.base) (.slice cA X.cs.length cc) (.slice lA X.lv.length lc);have NZ:=blk_put3 (.int .i8 X.base) (.slice cA X.cs.length cc) (.slice lA X.lv.length lc) Z
        refine wpAnyH_take (i:=10) (oi:=⟨some 8,.assign (.tmp 28),34,"engine.go:126",#[⟨7,.data⟩,⟨9,.chain⟩,⟨0,.phase⟩,⟨1,.phase⟩,⟨2,.phase⟩,⟨3,.phase⟩,⟨4,.phase⟩,⟨5,.phase⟩,⟨6,.phase⟩,⟨7,.phase⟩,⟨8,.phase⟩,⟨9,.phase⟩],none⟩) (v:= ?_) rfl (by kernel_rfl) (by kernel_rfl) (by kernel_rfl) (fun _ _ _ h=>h) (Or.inl ⟨by rfl,?_⟩) (by assumption) ?_
        rotate_left
        ·(intro w hSw;(try dsimp only at hSw);go_simp;first|done|with_reducible rfl)
        try simp only[Act.put,List.setIfInBounds_toArray,List.set_cons_zero,List.set_cons_succ]
        refine wpAnyH_done (by kernel_rfl) ?_ _;gi_wp2
        gi_meet
        exact⟨W2x.heap.size,cA,lA,cc,lc,rfl,NZ,⟨cA,lA,cc,lc,rfl,(IC.frm FZ (fun j e h=>by have h1:=ICl j e;have h2:j=W2x.heap.size:=h;have h3:=Zl;omega)).base (fun j e=>Nat.le_trans hbz (ICl j e).1),(IL.frm FZ (fun j e h=>by have h1:=ILl j e;have h2:j=W2x.heap.size:=h;have h3:=Zl;omega)).base (fun j e=>Nat.le_trans hbz (ILl j e).1),hne⟩,hH4.1⟩
       exact AllReadyH.nil
      exact AllReadyH.nil
     exact AllReadyH.nil
    exact AllReadyH.nil
   case rest=>
    obtain⟨g6,cA,lA,cc,lc,rfl,B6,R6,a6⟩:=hcut;have g2:=HG2.out;have g:=HG.out;obtain⟨fn,tmps,asg,bd,hy,hR⟩:=HY2.out W2x wc _ g2.j a6 R6;have hz6:=a6.size;have hq2:=g2.z;have hS1: ∀j,S1 j→j<W2x.heap.size:=T.lt _ _ _ g2.j;obtain⟨x0,xf,xl⟩:=(g2.x4.aft a6).c1;obtain⟨y0,y1,yf,yl⟩:=(P5'.aft a6).c2;obtain⟨z0,z1,z2,zf,zl⟩:=B6.c3;have FWc:Frm (fun j=>S1 j∨W2x.heap.size≤j) W2x wc:=Frm.of_below a6
    have two: ∀W',Frm (fun j=>S1 j∨W2x.heap.size≤j) wc W'→Two q W2x W'∧q+1<W'.heap.size:=fun W' hF=>⟨Two.of_frm (FWc.trans hF (fun _ _ h=>h)) hq2 (fun h=>by
     rcases h with h|h
     ·have:=(g2.d _ h).2;omega
     ·omega) (fun h=>by
     rcases h with h|h
     ·have:=(g2.d _ h).2;omega
     ·omega),by have:=hF.size;omega⟩
    have hSq: ∀S':Nat→Prop,(∀j,S' j→S1 j∨W2x.heap.size≤j)→ ¬S' q∧ ¬S' (q+1):=fun S' h=>⟨fun h'=>by
     rcases h _ h' with h|h
     ·have:=(g2.d _ h).2;omega
     ·omega,fun h'=>by
     rcases h _ h' with h|h
     ·have:=(g2.d _ h).2;omega
     ·omega⟩
    have hgo: ∀S1' W',J (k+1) S1' W'→Frm (fun j=>S1 j∨W2x.heap.size≤j) wc W'→(∀j,S1' j→S1 j∨W2x.heap.size≤j)→S (q+1)∧ ∃S' S1',TxI W1 Bp b1 b2 q pv rest ch b yb J (k+1) S' S1' W'∧Frm S W W'∧ ∀j,S' j→S j∨W.heap.size≤j:=fun S1' W' hJ hF hd=>by
     have hsz:=hF.size
     have hn: ∀i,i≤q→(Bp≤i→i=b1∨i=b2∨i=W1.heap.size)→ ¬(S1 i∨W2x.heap.size≤i):=fun i hi hb h=>by
      rcases h with h|h
      ·have:=g2.d _ h;omega
      ·omega
     refine⟨(g.s _).2 (.inr rfl),fun j=>S1' j∨j=q+1,S1',⟨fun _=>Iff.rfl,hJ,(g2.x1.aft a6).frm hF (hn _ (by omega) (fun _=>.inl rfl)),(g2.x2.aft a6).frm hF (hn _ (by omega) (fun _=>.inr (.inl rfl))),(g2.x4.aft a6).frm hF (hn _ (by omega) (fun _=>.inr (.inr rfl))),
      (g2.p.below a6 (.inl (by omega))).below (C:=Bp) (hF.below (by omega) (fun i hi=>hn i (by omega) (fun h=>by omega))) (.inl (Nat.le_refl _)),by omega,fun j hj=> ?_⟩,?_,?_⟩
     ·rcases hd j hj with h|h
      ·exact g2.d j h
      ·omega
     ·refine(FW.mono (F':=S) (fun j _ e=>by rw[e];exact(g.s _).2 (.inr rfl))).trans (FWc.trans hF (fun _ _ h=>h)) (fun j hj e=> ?_)
      rcases e with e|e
      ·exact(g.s _).2 (.inl e)
      ·have:=FW.size;omega
     ·intro j hj;have:=FW.size
      rcases hj with hj|hj
      ·rcases hd j hj with h|h
       ·exact .inl ((g.s _).2 (.inl h))
       ·right;omega
      ·rw[hj];exact .inl ((g.s _).2 (.inr rfl))
    have hR2:RoundIn Fence.wide 1 Tryz.prog yb fn tmps asg bd wc (fun e W'=> ∃bb,e= .returned (.bool bb)∧Two q W2x W'∧
     ((bb=true∧S (q+1)∧ ∃S' S1',TxI W1 Bp b1 b2 q pv rest ch b yb J (k+1) S' S1' W'∧Frm S W W'∧ ∀j,S' j→S j∨W.heap.size≤j)∨(bb=false∧ ∃S',Jx S' W'∧q+1<W'.heap.size∧ ¬S' q∧ ¬S' (q+1)))):=hR.mono (fun e W' h=>by
     rcases h with⟨h1,S1',h2,h3,h4⟩|⟨h1,S1',h2,h3,h4⟩
     ·exact⟨true,h1,(two _ h3).1,.inl ⟨rfl,hgo _ _ h2 h3 h4⟩⟩
     ·exact⟨false,h1,(two _ h3).1,.inr ⟨rfl,S1',h2,(two _ h3).2,hSq _ h4⟩⟩)
    clear hR hgo two hSq FWc g g2 HG HG2 HY2 HS CE CR;gi_wp2;refine⟨fun e=>(by cases e),(RoundIn.wideR hR2).mono ?_⟩;rintro e3 W3 ⟨bb,rfl,ht,hbb⟩;clear hR2 hy
    rcases hbb with⟨rfl,hbb⟩|⟨rfl,hbb⟩
    ·gi_wp2;exact⟨ht,hbb⟩
    ·gi_wp2;exact⟨ht,rfl,hbb⟩
 ·have e1:decide (b= -1∨b=0∨b=1)=false:=decide_eq_false hb;rw[e1]at CM
  have hps':ps=[]:=by rw[←hps];unfold txL;rw[if_neg hb]
  subst hps';have hJ:=T.aft h0 a2;clear hps e1 hY;refine callsIn_of_wp_marks Tryz.func61 rfl trivial ?_ rfl;simp only[Tryz.ntmps61,List.size_toArray,List.length_cons,List.length_nil,Nat.reduceAdd,Nat.reduceSub,Array.replicate_succ,Array.replicate_zero,List.push_toArray,List.append_toArray,List.nil_append,List.cons_append];refine wpIn_wide.2 ?_
  go_upto_region 1 with(fail)
  try rw[hW2]
  clear hW2
  go_wp2_with(go_at_call 40;refine(CM _).mono ?_;rintro r2 w2 ⟨rfl,hw2⟩;subst hw2)
  exact⟨_,results_none (by kernel_rfl) _ _ _,⟨_,rfl⟩,.inl ⟨_,hJ⟩⟩
end
end Go.Proofs.YtllolnkkepacjaaGreat
