/- What stands in an answer of sequences; levels put at their places one by one; the engine's steps as closures. -/
import Derived.Test.YtllolnkkepacjaaGreatEn2
import Derived.Test.YtllolnkkepacjaaGreatH6
import Derived.Test.YtllolnkkepacjaaGreatLv1
import Derived.Test.YtllolnkkepacjaaGreatD3
set_option maxRecDepth 100000
set_option maxHeartbeats 1000000
namespace Go.Proofs.YtllolnkkepacjaaGreat
open Go.RowKit
attribute [local go_sem] Oper.semAt_some
theorem rd_lit {w:World}{g:Nat}{t:TypeId}{k:IntKind}{l:List Int}(h:Blk w g t (l.map (.int k)).toArray):RdInts w w.heap.size k (some ⟨g,0,none⟩) l:=by
 have:=Reads.blk (n:=l.length) (size:=1) h (by simp)
 simpa[RdInts]using this
theorem sq_cells: ∀(L:List (Sq×Value×Value)) (i j:Nat) (e:Sq×Value×Value),L[i]?=some e→j<5→(L.flatMap sqCells)[i*5+j]?=(sqCells e)[j]?
 |[],i,j,e,h,_=>by simp at h
 |a::L,0,j,e,h,hj=>by
  have h:a=e:=by simpa using h
  subst h;rw[List.flatMap_cons,List.getElem?_append_left (by simp[sqCells,Sq.is];omega)];simp
 |a::L,i+1,j,e,h,hj=>by
  rw[List.flatMap_cons,List.getElem?_append_right (by simp[sqCells,Sq.is];omega)];have:=sq_cells L i j e (by simpa using h) hj;rw[←this];congr 1;simp[sqCells,Sq.is];omega
theorem SqsAt.get {W:World}{B n cap g:Nat}{L:List (Sq×Value×Value)}(h:SqsAt W B (.slice (some ⟨g,0,none⟩) n cap) L){i:Nat}{e:Sq×Value×Value}(he:L[i]?=some e):
 ∃A c C d,e.2.1= .slice A e.1.pl.length c∧e.2.2= .slice C e.1.cs.length d∧W.cell? ⟨g,i*5,none⟩=some (.slice A e.1.pl.length c)∧W.cell? ⟨g,i*5+1,none⟩=some (.slice C e.1.cs.length d)∧W.cell? ⟨g,i*5+2,none⟩=some (.int .i8 e.1.lv)∧W.cell? ⟨g,i*5+3,none⟩=some (.int .u8 e.1.so)∧W.cell? ⟨g,i*5+4,none⟩=some (.int .u8 e.1.eo)∧
  RdInts W W.heap.size .i64 A e.1.pl∧RdInts W W.heap.size .u8 C e.1.cs:=by
 obtain⟨i1,i2,_⟩:=h.each e (List.mem_of_getElem? he);obtain⟨A,c,e1,_,_,r1⟩:=i1.val;obtain⟨C,d,e2,_,_,r2⟩:=i2.val
 have hn:n=L.length:=by
  rcases h.row.2 with⟨h0,_⟩|⟨_,_,_,hv,_⟩
  ·cases h0
  ·injection hv
 subst hn
 have key: ∀j u,j<5→(sqCells e)[j]?=some u→W.cell? ⟨g,i*5+j,none⟩=some u:=fun j u hj hu=>by
  have:=World.ownsRow.cells h.row (g:=g) rfl (i*5+j) u (by rw[sq_cells L i j e he hj];exact hu)
  rwa [add_lit,Nat.zero_add]at this
 refine⟨A,c,C,d,e1,e2,key 0 _ (by omega) ?_,key 1 _ (by omega) ?_,key 2 _ (by omega) rfl,key 3 _ (by omega) rfl,key 4 _ (by omega) rfl,r1,r2⟩
 ·rw[←e1];rfl
 ·rw[←e2];rfl
theorem putL_take: ∀(ps vs o:List Int) (i:Nat),i<ps.length→i<vs.length→putL o (ps.take (i+1)) (vs.take (i+1))=(putL o (ps.take i) (vs.take i)).set (ps.getD i 0).toNat (vs.getD i 0)
 |[],_,_,i,h,_=>by simp at h
 |_::_,[],_,i,_,h=>by simp at h
 |p::ps,v::vs,o,0,_,_=>by
  rcases ps with _|⟨p',ps⟩<;>rcases vs with _|⟨v',vs⟩<;>rfl
 |p::ps,v::vs,o,i+1,h1,h2=>by
  have ih:=putL_take ps vs (o.set p.toNat v) i (by simpa using h1) (by simpa using h2);rw[List.take_succ_cons,List.take_succ_cons,List.take_succ_cons,List.take_succ_cons];unfold putL;exact ih
def clV (a b c:Value):Value:=.func (.func 45) #[] #[a,b,c]
theorem stepsR_ok (w:World)(A:Option Addr)(n c:Nat)(p1 p2:Value):Calls Tryz.prog 44 #[.slice A n c,p1,p2] w fun r w'=>r= .returned (.slice (some ⟨w.heap.size+1,0,none⟩) 3 3)∧
 Blk w' w.heap.size 30 #[.slice A n c]∧Blk w' (w.heap.size+1) 118 #[.func (.func 47) #[] #[],clV p1 p2 (.pointer (some ⟨w.heap.size,0,none⟩)),.func (.func 48) #[] #[]]∧Aft w w':=by
 go_enter Tryz.func44,Tryz.ntmps44
 go_wp2;go_ret;exact⟨rfl,(Blk.new w 30 _).alloc _,Blk.at_ (by simp),((Aft.refl w).alloc _).alloc _⟩
theorem stepsC_ok (w:World)(A:Option Addr)(n c:Nat):Calls Tryz.prog 60 #[.slice A n c] w fun r w'=>r= .returned (.slice (some ⟨w.heap.size,0,none⟩) 2 2)∧
 Blk w' w.heap.size 118 #[.func (.func 47) #[] #[],.func (.func 48) #[] #[]]∧Aft w w':=by
 go_enter Tryz.func60,Tryz.ntmps60
 go_wp2;go_ret;exact⟨rfl,Blk.at_ rfl,(Aft.refl w).alloc _⟩
theorem step_br {w:World}{Bp Br Bf Bs rc fc b1 b2 b3:Nat}{pv sv:Value}{rest:Int}{ch:List Chr}{rA fA:Option Addr}{rs fs:List Int}{s:Sq}{rn fn:Nat}(hrl:rn=rs.length)(hfl:fn=fs.length)(hP:PropsIs w Bp pv rest ch)(hR:RdInts w Br .i32 rA rs)(hFs:RdInts w Bf .u8 fA fs)(hS:SqIs w Bs sv s)
 (hn:s.pl.length≤1048576) (hrn:rn≤1048576) (hfn:fn≤1048576) (x1:Blk w b1 79 #[.iface 25 pv]) (x2:Blk w b2 26 #[.slice rA rn rc]) (x3:Blk w b3 30 #[.slice fA fn fc]):
 Calls Tryz.prog 45 #[sv,.pointer (some ⟨b1,0,none⟩),.pointer (some ⟨b2,0,none⟩),.pointer (some ⟨b3,0,none⟩)] w fun r w'=> ∃v,r= .returned (.tuple #[v,.int .i64 (resE rn fn s)])∧SqOwn w' w.heap.size v (resS ch rs fs s)∧Aft w w':=by
 have CP: ∀W,Aft w W→Calls Tryz.prog 46 #[.iface 25 pv,.slice rA rn rc,.slice fA fn fc,sv] W fun r w'=> ∃v,r= .returned (.tuple #[v,.int .i64 (resE rn fn s)])∧SqOwn w' W.heap.size v (resS ch rs fs s)∧Aft W w':=fun W hW=>by subst hrl hfl;exact PResolve_ok (hP.below hW (.inr (Nat.le_refl _))) (hR.aft hW) (hFs.aft hW) (hS.below hW (.inr (Nat.le_refl _))) hn (by omega) (by omega)
 obtain⟨A,A2,c,c2,hsv,-,-,-,-⟩:=hS;obtain⟨m1,hm1⟩: ∃m,s.pl.length=m:=⟨_,rfl⟩;obtain⟨m2,hm2⟩: ∃m,s.cs.length=m:=⟨_,rfl⟩;rw[hm1,hm2]at hsv;subst hsv;obtain⟨E,hE⟩: ∃E,resE rn fn s=E:=⟨_,rfl⟩;obtain⟨S,hS2⟩: ∃S,resS ch rs fs s=S:=⟨_,rfl⟩;rw[hE,hS2]at CP;rw[hE,hS2];simp only[Sq.is]at CP⊢;obtain⟨W1,hW1⟩: ∃W1,(w.alloc (.cells #[.slice A m1 c,.slice A2 m2 c2,.int .i8 s.lv,.int .u8 s.so,.int .u8 s.eo] 87)).alloc (.cells #[.slice none 0 0,.slice none 0 0,.int .i8 0,.int .u8 0,.int .u8 0] 87)=W1:=⟨_,rfl⟩
 have a1:Aft w W1:=by rw[←hW1];exact((Aft.refl w).alloc _).alloc _
 have X4:Blk W1 w.heap.size 87 #[.slice A m1 c,.slice A2 m2 c2,.int .i8 s.lv,.int .u8 s.so,.int .u8 s.eo]:=by rw[←hW1];exact(Blk.new w 87 _).alloc _
 have X5:Blk W1 (w.heap.size+1) 87 #[.slice none 0 0,.slice none 0 0,.int .i8 0,.int .u8 0,.int .u8 0]:=by rw[←hW1];exact Blk.at_ (by simp)
 obtain⟨y0,yf,yl⟩:=(x1.below a1 x1.lt).c1;obtain⟨z0,zf,zl⟩:=(x2.below a1 x2.lt).c1;obtain⟨v0,vf,vl⟩:=(x3.below a1 x3.lt).c1;obtain⟨p0,p1,p2,p3,p4,pf,pl⟩:=X4.c5;have CP1:=CP W1 a1;clear hm1 hm2 hE hS2 CP hrl hfl hP hR hFs x1 x2 x3
 go_enter Tryz.func45,Tryz.ntmps45
 go_upto_region 1 with(fail)
 clear hW1
 go_wp2_with(go_at_call 46;refine CP1.mono ?_;rintro r2 w2 ⟨v,rfl,SO,a2⟩;obtain⟨pv2,cv2,hv2,I2,J2,ne2⟩:=SO;simp only[Sq.is]at hv2;subst hv2;obtain⟨A3,c3,hp3,-,-,-⟩:=I2.val;obtain⟨A4,c4,hp4,-,-,-⟩:=J2.val;subst hp3 hp4;have X52:=X5.below a2 X5.lt;obtain⟨q0,q1,q2,q3,q4,qf,ql⟩:=X52.c5)
 have F:=frm_put5 w2 (w.heap.size+1) (.slice A3 S.pl.length c3) (.slice A4 S.cs.length c4) (.int .i8 S.lv) (.int .u8 S.so) (.int .u8 S.eo);have hz1:w.heap.size+1<W1.heap.size:=X5.lt;refine bodyPost_ret (results_row1 rfl _ _ (w.heap.size+1) 87 _ _ rfl (blk_put5 _ _ _ _ _ X52) Tryz.underlying87 rfl (by kernel_rfl)) rfl ?_;have a12:Aft w w2:=a1.trans a2;have hz2:w.heap.size+1<w2.heap.size:=X52.lt
 refine⟨_,rfl,⟨_,_,rfl,(I2.frm F (fun j e h=>by have:=(I2.lt j e).1;omega)).base (fun j e=>by have:=(I2.lt j e).1;omega),(J2.frm F (fun j e h=>by have:=(J2.lt j e).1;omega)).base (fun j e=>by have:=(J2.lt j e).1;omega),ne2⟩,
  Below.trans a12 (F.below a12.size (fun j hj e=>by omega))⟩
end Go.Proofs.YtllolnkkepacjaaGreat
