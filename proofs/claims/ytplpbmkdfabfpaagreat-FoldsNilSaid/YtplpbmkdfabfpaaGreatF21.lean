/- Marks set behind their own: the plain law. -/
import Derived.Test.YtplpbmkdfabfpaaGreatF19
import Derived.Test.YtplpbmkdfabfpaaGreatF20
namespace Go.Proofs.YtplpbmkdfabfpaaGreat
def psO (os:List Int)(i:Nat):Nat:=(os.getD i 0).toNat
def GoodO (n:Nat)(os:List Int)(k:Nat):Prop:= ∀i,i<k→(0≤os.getD i 0∧os.getD i 0<n)∧ ∀j,j<i→os.getD j 0≠os.getD i 0
theorem GoodO.at {n:Nat}{os:List Int}{k i:Nat}(h:GoodO n os k)(hi:i<k):os.getD i 0=(psO os i:Int)∧psO os i<n:=by have:=(h i hi).1;unfold psO;omega
def seg (xs:List Int)(f t:Nat):List Int:=(List.range xs.length).map (fun k=>if f≤k∧k≤t then xs.getD (f+t-k) 0 else xs.getD k 0)
theorem seg_length (xs:List Int)(f t:Nat):(seg xs f t).length=xs.length:=by simp[seg]
theorem seg_get {xs:List Int}{f t k:Nat}(hk:k<xs.length):(seg xs f t).getD k 0=if f≤k∧k≤t then xs.getD (f+t-k) 0 else xs.getD k 0:=by rw[List.getD_eq_getElem?_getD,seg,List.getElem?_map,List.getElem?_range hk];rfl
theorem ints_ext {a b:List Int}(h1:a.length=b.length)(h2: ∀k,k<b.length→a.getD k 0=b.getD k 0):a=b:=by
 apply List.ext_getElem h1;intro i h3 h4;have:=h2 i h4
 simpa[List.getD_eq_getElem?_getD,List.getElem?_eq_getElem h3,List.getElem?_eq_getElem h4]using this
section
variable(l v os:List Int)
def frmC:Nat→Nat
 |0=>0
 |f+1=>if l.getD (psO os f) 0=9∧flwB l v (psO os f) (psO os (f+1))=true then frmC f else f+1
def mrkT:Nat→List Int
 |0=>os
 |t+1=>if l.getD (psO os t) 0=9 then mrkT t else seg (mrkT t) (frmC l v os t) t
end
section
variable{l v os:List Int}
theorem frmC_le: ∀t,frmC l v os t≤t
 |0=>Nat.le_refl _
 |t+1=>by have:=frmC_le t;rw[frmC];split<;>omega
theorem frmC_mark: ∀t j,frmC l v os t≤j→j<t→l.getD (psO os j) 0=9
 |0,j,_,h=>by omega
 |t+1,j,h1,h2=>by
  rw[frmC]at h1
  split at h1
  ·rename_i hc
   by_cases e:j=t
   ·subst e;exact hc.1
   ·exact frmC_mark t j h1 (by omega)
  ·omega
theorem mrkT_length: ∀t,(mrkT l v os t).length=os.length
 |0=>rfl
 |t+1=>by
  have:=mrkT_length t;rw[mrkT]
  split
  ·exact this
  ·rw[seg_length];exact this
theorem mrkT_same: ∀t k,k<os.length→(∀j,k≤j→j<t→l.getD (psO os j) 0=9)→(mrkT l v os t).getD k 0=os.getD k 0
 |0,_,_,_=>rfl
 |t+1,k,hk,h=>by
  have ih:=mrkT_same t k hk;rw[mrkT]
  split
  ·exact ih (fun j h1 h2=>h j h1 (by omega))
  ·rename_i hn
   have hkt:t<k:=by
    rcases Nat.lt_or_ge t k with h1|h1
    ·exact h1
    ·exact absurd (h t h1 (by omega)) hn
   rw[seg_get (by rw[mrkT_length];exact hk),if_neg (by omega)];exact ih (fun j h1 h2=>by omega)
theorem mrkT_seg {t k:Nat}(ht:t<os.length)(h1:frmC l v os t≤k)(h2:k≤t):(mrkT l v os t).getD k 0=os.getD k 0:=mrkT_same t k (by omega) (fun j h3 h4=>frmC_mark (v:=v) t j (by omega) h4)
theorem cls9 (x:Int):clsC x=9↔x=9:=clsC_eq (by omega) (by omega) (by omega)
theorem frmC_map (h:GoodO l.length os os.length): ∀t,t<os.length→frmC (l.map clsC) v os t=frmC l v os t
 |0,_=>rfl
 |t+1,ht=>by
  have ih:=frmC_map h t (by omega);have h1:=(h.at (i:=t) (by omega)).2;simp only[frmC,ih,getD_map_cls l h1,flwB_map (v:=v) (Nat.le_of_lt h1),cls9]
theorem mrkT_map (h:GoodO l.length os os.length): ∀t,t≤os.length→mrkT (l.map clsC) v os t=mrkT l v os t
 |0,_=>rfl
 |t+1,ht=>by
  have ih:=mrkT_map h t (by omega);have h1:=(h.at (i:=t) (by omega)).2;simp only[mrkT,ih,getD_map_cls l h1,frmC_map h t (by omega),cls9]
end
end Go.Proofs.YtplpbmkdfabfpaaGreat
