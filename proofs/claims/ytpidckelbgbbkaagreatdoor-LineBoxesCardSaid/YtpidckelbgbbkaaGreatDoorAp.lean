/- Part of LineBoxes. -/
import Derived.Test.YtpidckelbgbbkaaGreatDoorAn
import Derived.Deep.RegionLaw
namespace Go.Proofs.YtpidckelbgbbkaaGreatDoor
open Go.ChangeShapes Go.WideShapes Go.ChangeAt Go.RowKit Go.Proofs.Tryz
open Go.Value renaming int → ae
open Go.IntKind renaming i64 → aj
set_option linter.all false
set_option maxRecDepth 100000
set_option maxHeartbeats 16000000
variable{lv:aE}{k:Nat}
theorem qQ{p:Prop}(h:p:=by go_num):p:=h
theorem zq(x:Int)(w:World):Calls prog 132 #[ae aj x] w fun e a=>e= .returned (ae aj (dM x:Nat))/\a=w:=by
 go_enter func132,ntmps132;go_wp2_with fail
 all_goals
  go_ret;exact⟨aaA (by rw[tB];omega),rfl⟩
theorem yY(B g a m N c cap:Nat)(xs:aE)(W:World)(h:Own W B 3 .i64 (some ⟨g,0,none⟩) N c xs)(D:a+m<=N)(G:N<=4000000):
 Calls prog 133 #[.slice (some ⟨g,a,none⟩) m cap] W fun e k=>e= .returned (.tuple #[])/\Own k B 3 .i64 (some ⟨g,0,none⟩) N c (dg xs a (a+m))/\Below B W k:=by
 have x:=h.len;have l:ak (Bs (a+0) (a+m) xs=dg xs a (a+m)):=⟨xb aq aq⟩;have n:ak _:=⟨h⟩;generalize dg xs a (a+m)=d at*;clear h x;go_enter func133,ntmps133;go_wp2;go_loopg [2,3] (m+1) (fun gg v2 v3 wr=>∃(i q:Nat) (b:aE),q-i<gg/\i<=q/\q<=m/\v2=ae aj (i:Int)/\v3=ae aj ((q:Int)-1)/\ak (Bs (a+i) (a+q) b=d)/\ak (Own wr B 3 .i64 (some ⟨g,0,none⟩) N c b)/\ak (Below B W wr))
 ·exact⟨0,m,xs,aq,aq,aq,rfl,qQ,l,n,cB⟩
 obtain⟨i,q,b,A,v,y,rfl,rfl,SI,OM,o⟩:=hrel;clear n l;by_cases u:i+1<q
 ·obtain⟨r,rfl⟩:∃r,q=r+1:=⟨q-1,aq⟩
  rw[show((r+1:Nat):Int)-1=(r:Int)from aq];have F:=bI OM.o (j:=a+i) aq;have H:=bI OM.o (j:=a+r) aq;have f1:=aB.frozenAt OM.o (a+i);have f2:=aB.frozenAt OM.o (a+r);have hlen:=OM.o.len;have f:ak (Bs (a+(i+1)) (a+r) (swp b (a+i) (a+r))=d):=⟨by
   have:=SI.o;rw[tE aq]at this;rw[show a+i+1=a+(i+1) by omega,show a+(r+1)-1=a+r by omega]at this;exact this⟩
  have w:ak (Own ((wr.setCell ⟨g,a+i,none⟩ (ae aj (nth b (a+r)))).setCell ⟨g,a+r,none⟩ (ae aj (nth b (a+i)))) B 3 .i64 (some ⟨g,0,none⟩) N c (swp b (a+i) (a+r))):=⟨Own.nY (Own.nY OM.o (a+i) _) (a+r) _⟩;have t:a+i≠a+r:=aq;have s:=aR i r;have z:=aR i m;have C:=aR r m;clear SI hlen;go_wp2;go_region;go_wp2;go_roundg (r-i)
  ·exact⟨i+1,r,swp b (a+i) (a+r),aq,aq,aq,qQ,rfl,f,w,⟨bL (Below.setCell (Below.setCell o.o (p:=⟨g,a+i,none⟩) (aB.sY OM.o).1 _) (p:=⟨g,a+r,none⟩) (aB.sY OM.o).1 _)⟩⟩
  omega
 ·have E:ak (b=d):=⟨acx⟩
  have s:decide ((i:Int)<(q:Int)-1)=false:=fC;go_wp2;go_end0;exact⟨rfl,Xo,o.o⟩
def Uf(n i:Nat):aE:=nJ i++List.replicate (n-i) 0
theorem Ot(n:Nat):Uf n 0=List.replicate n 0:=by simp[Uf,nJ]
theorem KZ(n:Nat):Uf n n=nJ n:=by simp[Uf]
theorem QW{n i:Nat}(h:i<n):(Uf n i).set i (i:Int)=Uf n (i+1):=by
 obtain⟨d,a⟩:∃d,n-i=d+1:=⟨n-i-1,aq⟩;unfold Uf;rw[a,show n-(i+1)=d by omega,AV,List.set_append_right _ _ (by rw[xc];exact Nat.le_refl _),xc,Nat.sub_self];simp[List.replicate_succ]
theorem tX{N least:Nat}{o:aE}(h:least<=k+1):zD lv N least (k+1) o=zD lv N least k (ar lv (k+1) N o 0):=by simp[zD,h]
theorem EX{N least:Nat}{o:aE}(h:¬least<=k)(a:1<=least):zD lv N least k o=o:=by
 have _:=a;cases k with
 |zero=>rfl
 |succ k=>simp[zD,h]
theorem iv{a b:Int}(h:a=b):ae aj a=ae aj b:=by rw[h]
theorem Dl(v:Value)(w:World):Calls prog 73 #[v] w fun e a=>e= .returned (.tuple #[])/\a=w:=by
 go_enter func73,ntmps73;go_wp2;go_end0;exact⟨rfl,rfl⟩
theorem UA{P:Program}{t e:TypeId}{bytes:Nat}(T:aS P t e 1 bytes)(g n c a b:Nat)(d:a<b)(i:b<=n)(j:n<=c)(w:World):
 (Instr.slice t (.slice (some ⟨g,0,none⟩) n c) (some (ae aj (a:Int))) (some (ae aj (b:Int))) none).run P w= .ok (.slice (some ⟨g,a,none⟩) (b-a) (c-a)) w:=by
 rw[run_slice_lh w t _ n c (cP T) .i64 .i64 a b aq aq aq,cQ T];have f:¬c=a:=aq;simp[Result.andThen,sliced,f];unfold Addr.add;split
 ·rename_i h;subst h;rfl
 ·simp
theorem Dc(A:aC)(n c:Nat)(lv:aE)(w:World)(hx:bh w w.heap.size .i64 A n lv)(hn:n<=4000000):
 Calls prog 72 #[.slice A n c, .func (.func 73) #[] #[]] w (fH w 3 .i64 n (fN lv)):=by
 have HX:ak _:=⟨hx⟩;have FI:ak (zD lv n (cO lv n) (fZ lv n) (nJ n)=fN lv):=⟨by unfold fN;rw[hx.len]⟩;generalize fN lv=l at*;clear hx;go_enter func72,ntmps72;go_wp2_with (refine dw IW GD rfl (.tmp 14) (.tmp 14) rfl n rfl rfl rfl rfl aq w.heap.size cr ?_;intro g w1 o1 b1;have O1:ak _:=⟨o1⟩;have B1:ak _:=⟨b1⟩;clear o1 b1);go_loopg [6,7,8,9,18] (n+1) (fun gg v6 v7 _ _ v18 wr=>∃i:Nat,n-i<gg/\i<=n/\v6=ae aj (fZ lv i:Nat)/\v7=ae aj (cO lv i:Nat)/\v18=ae aj (i:Int)/\ak (Own wr w.heap.size 3 .i64 (some ⟨g,0,none⟩) n n (Uf n i))/\ak (aA w wr))
 ·exact⟨0,aq,aq,rfl,rfl,rfl,⟨by rw[Ot];exact O1.o⟩,B1⟩
 obtain⟨i,m,hi,rfl,rfl,rfl,C,Q⟩:=hrel;clear O1 B1;by_cases f:i<n
 ·obtain⟨ad,rfl,_,O⟩:=(HX.o.Z Q.o).2 aq
  have c1:=O i f;obtain⟨u,hu⟩:∃u,wr.cell? ⟨g,i,none⟩=some u:=⟨_,bI C.o f⟩;have f1:=aB.frozenAt C.o i;have SO:ak (Own (wr.setCell ⟨g,i,none⟩ (ae aj (i:Int))) w.heap.size 3 .i64 (some ⟨g,0,none⟩) n n (Uf n (i+1))):=⟨by rw[<-QW f];exact Own.nY C.o i _⟩;have SE:ak (aA w (wr.setCell ⟨g,i,none⟩ (ae aj (i:Int)))):=⟨Below.setCell Q.o (p:=⟨g,i,none⟩) (aB.sY C.o).1 _⟩;have i1:=aR i n;have hH:=uo (nth lv i);have EM:ak (fZ lv (i+1)=max (fZ lv i) (dM (nth lv i))):=⟨rfl⟩;have EL:ak (cO lv (i+1)=if dM (nth lv i)%2=1 then min (cO lv i) (dM (nth lv i))else cO lv i):=⟨rfl⟩;have J:ak (∀W,_):=⟨fun W=>zq (nth lv i) W⟩;generalize fZ lv i=M at*;generalize cO lv i=L at*;generalize dM (nth lv i)=H at*;generalize nth lv i=x at*;clear O;have m0:(M:Int)<(H:Int)∨(H:Int)<=(M:Int):=aq;have l0:(H:Int)<(L:Int)∨(L:Int)<=(H:Int):=aq;rcases m0 with m1|m1
  all_goals
   cases V:((H:Int)%2==1)with
   |false=>
    have hp:¬H%2=1:=by
     intro h;have h2:((H:Int)%2==1)=true:=cA;rw[h2]at V;cases V
    clear l0;go_wp2_with (go_at_call 132;refine(J.o _).mono ?_;rintro e Z ⟨rfl,rfl⟩);go_roundg (n-i)
    ·exact⟨i+1,aq,aq,iv Hr,iv Vv,qQ,SO,SE⟩
    omega
   |true=>
    have hp:H%2=1:=by have:=beq_iff_eq.1 V;omega
    rcases l0 with l1|l1
    all_goals
     go_wp2_with (go_at_call 132;refine(J.o _).mono ?_;rintro e Z ⟨rfl,rfl⟩);go_roundg (n-i)
     ·exact⟨i+1,aq,aq,iv Hr,iv Vv,qQ,SO,SE⟩
     omega
 ·obtain rfl:i=n:=by omega
  have LB:ak (1<=cO lv i/\cO lv i<=127):=⟨qu lv i⟩;have MB:ak (fZ lv i<=126):=⟨uw lv i⟩;rw[KZ]at C;have PM:ak ((nJ i).Perm (nJ i)):=⟨List.Perm.refl _⟩;generalize cO lv i=L at*;generalize fZ lv i=M at*;have hL:=LB.o.1;have hL2:=LB.o.2;have hM:=MB.o;obtain⟨wa,rfl⟩:=eX wr;clear f m hi;go_wp2;go_loopg [10,11,12] (M+1) (fun gg v10 _ _ wr=>∃(k:Nat) (o:aE),k<gg/\k<=126/\v10=ae aj (k:Int)/\ak (o.Perm (nJ i))/\ak (zD lv i L k o=l)/\ak (Own wr w.heap.size 3 .i64 (some ⟨g,0,none⟩) i i o)/\ak (aA w wr))
  ·exact⟨M,nJ i,aq,aq,rfl,PM,FI,C,Q⟩
  obtain⟨k,o,m,hk,rfl,PO,RF,OO,X⟩:=hrel;obtain⟨wo,rfl⟩:=eX wr;clear FI PM C Q;by_cases t:L<=k
  ·obtain⟨q,rfl⟩:∃q,k=q+1:=⟨k-1,aq⟩
   have s:ak (zD lv i L q (ar lv (q+1) i o 0)=l):=⟨by rw[<-tX t];exact RF.o⟩;have HG:ak (q+1<gk):=⟨m⟩;obtain⟨F,z⟩:=eY (ar lv (q+1) i o 0);rw[z]at s;have PP:ak (ar lv (q+1) i o 0=F):=⟨z⟩;clear z;have k1:(L:Int)<=(q:Int)+1:=aq;rw[show((q+1:Nat):Int)=(q:Int)+1 from rfl];clear m RF t;go_wp2;go_loopg [11,12] (i+1) (fun gg v11 _ wr=>∃(a:Nat) (b:aE),i-a<gg/\a<=i/\v11=ae aj (a:Int)/\ak (b.Perm (nJ i))/\ak (ar lv (q+1) i b a=F)/\ak (Own wr w.heap.size 3 .i64 (some ⟨g,0,none⟩) i i b)/\ak (aA w wr))
   ·exact⟨0,o,aq,aq,rfl,PO,PP,OO,X⟩
   obtain⟨a,b,m,ha,rfl,R,U,B,P⟩:=hrel;obtain⟨wp,rfl⟩:=eX wr;clear PO PP OO X;by_cases G:a<i
   ·have N:ak (i-a<gk):=⟨m⟩
    obtain⟨T,D⟩:=eY (nv lv b (q+1) i a);have S:=pd lv b (q+1) ha;rw[D]at S;have K:=S.1;have hT2:=S.2;have ST:ak (dP (zw lv b (q+1)) i a=T):=⟨D⟩;have PT:ak (ar lv (q+1) i (dg b a T) (T+1)=F):=⟨by rw[<-D,<-jA G];exact U.o⟩;have GB:ak (T<i->zw lv (dg b a T) (q+1) T=false):=⟨fun h=>by have:=Cr (lv:=lv) (k:=q+1) B.o.len ha (by rw[D];exact h);rwa [D]at this⟩;have OR:ak (vC b i):=⟨ku R.o⟩;have a1:=aR a i;clear D S m U;go_upto_block 6 with fail;go_cut [11] (fun v wx=>v=ae aj (T:Int)/\wx=wp)
    ·
     go_wp2;go_loopg [11] (i-a+1) (fun gg v wr=>∃j:Nat,i-j<gg/\a<=j/\j<=i/\v=ae aj (j:Int)/\ak (dP (zw lv b (q+1)) i j=T)/\wr=wp)
     ·exact⟨a,aq,aq,aq,rfl,ST,rfl⟩
     obtain⟨j,zY,haj,kF,rfl,SJ,rfl⟩:=hrel;by_cases hj:j<i
     ·obtain⟨y,hy⟩:∃y:Nat,nth b j=(y:Int):=⟨(nth b j).toNat,by have:=OR.o.ge j hj;omega⟩
      have hyi:y<i:=by have:=OR.o.lt j hj;omega
      have c1:=bI B.o hj;rw[hy]at c1;obtain⟨ad,rfl,_,O⟩:=(HX.o.Z P.o).2 aq;have c2:=O y hyi;have GE:ak (zw lv b (q+1) j=decide (q+1<=dM (nth lv y))):=⟨by unfold zw;rw[hy];rfl⟩;have J:ak (∀W,_):=⟨fun W=>zq (nth lv y) W⟩;generalize dM (nth lv y)=H at*;generalize nth lv y=x at*;have j1:=aR j i;have y0:=jB y;have y1:=aR y i;clear hy O;by_cases CY:q+1<=H
      ·have d:ak (dP (zw lv b (q+1)) i (j+1)=T):=⟨acY⟩
       have k2:(q:Int)+1<=(H:Int):=aq;clear SJ GE;go_wp2_with (go_at_call 132;refine(J.o _).mono ?_;rintro e Z ⟨rfl,rfl⟩);go_roundg (i-j)
       ·exact⟨j+1,aq,aq,aq,qQ,d,rfl⟩
       omega
      ·have d:ak (j=T):=⟨adJ⟩
       have k2:decide ((q:Int)+1<=(H:Int))=false:=fC;have k3:decide (q+1<=H)=false:=fC;clear SJ GE;go_wp2_with (go_at_call 132;refine(J.o _).mono ?_;rintro e Z ⟨rfl,rfl⟩);go_meet;exact⟨by rw[d.o],rfl⟩
     ·obtain rfl:j=i:=by omega
      have d:ak (j=T):=⟨by have:=SJ.o;rwa [uv cr]at this⟩;have j1:decide ((j:Int)<(j:Int))=false:=aD;clear hj;go_wp2;go_meet;exact⟨by rw[d.o],rfl⟩
    obtain⟨rfl,rfl⟩:=hcut;by_cases I:a<T
    ·have t1:=aR a T
     have CU:=UA IW g i i a T I hT2 cr;have Y:ak (∀W,Own W w.heap.size 3 .i64 (some ⟨g,0,none⟩) i i b->_):=⟨fun W h=>yY w.heap.size g a (T-a) i i (i-a) b W h aq hn⟩;rw[show a+(T-a)=T by omega]at Y;have PN:ak ((dg b a T).Perm (nJ i)):=⟨(kg K).trans R.o⟩;have r:ak (ar lv (q+1) i (dg b a T) T=F):=⟨by rw[Il (by rw[tA K];exact B.o.len) GB.o];exact PT.o⟩;generalize dg b a T=o3 at*;go_wp2_with (first
      |(go_at_call 133;refine(Y.o _ B.o).mono ?_;rintro e w5 ⟨rfl,o5,b5⟩;have O5:ak _:=⟨o5⟩;have B5:ak (aA w w5):=⟨P.o.trans b5⟩;clear o5 b5 Y)
      |(go_at_call 73;refine(Dl _ _).mono ?_;rintro e w6 ⟨rfl,rfl⟩))
     go_roundg (i-a)
     ·exact⟨T,o3,aq,aq,rfl,PN,r,O5,B5⟩
     exact N.o
    ·obtain rfl:T=a:=by omega
     have r:ak (ar lv (q+1) i b (T+1)=F):=⟨by have:=PT.o;rwa [rj (by omega) cr (by rw[B.o.len];omega)]at this⟩;clear I;go_wp2;go_roundg (i-T)
     ·exact⟨T+1,b,aq,aq,qQ,R,r,B,P⟩
     exact N.o
   ·have E:ak (zD lv i L q b=l):=⟨by have:=s.o;rwa [<-U.o,jQ (by omega)]at this⟩
    obtain rfl:a=i:=aq;have a1:decide ((a:Int)<(a:Int))=false:=aD;clear G s U m;go_wp2;go_roundg (q+1)
    ·exact⟨q,b,aq,aq,qQ,R,E,B,P⟩
    exact HG.o
  ·have E:ak (o=l):=⟨by have:=RF.o;rwa [EX t hL]at this⟩
   have k1:decide ((L:Int)<=(k:Int))=false:=fC;have k2:decide (L<=k)=false:=fC;go_wp2;go_ret;exact⟨_,_,rfl,by rw[<-E.o];exact OO.o,X.o⟩
def jq(lv:aE):aE:=lv.map fun x=>(dM x:Nat)
theorem Nb(lv:aE):(jq lv).length=lv.length:=by simp[jq]
theorem GF{i:Nat}(h:i<lv.length):nth (jq lv) i=(dM (nth lv i):Nat):=by
 rw[dQ (by rw[Nb];exact h),dQ h];simp[jq]
theorem I'(h:k<lv.length):jq (lv.take (k+1))=jq (lv.take k)++[((dM (nth lv k):Nat):Int)]:=by
 unfold jq;exact nK _ h
theorem aaO{G:Prop}(s:G:=by
 exact⟨k+1,A4,c4,aq,aq,rfl,qQ,⟨XH⟩,X4⟩):G:=s
theorem Cw(A:aC)(n c:Nat)(lv:aE)(w:World)(l:bh w w.heap.size .i64 A n lv)(F:n<=4000000):
 Calls prog 134 #[.slice A n c] w (fH w 3 .i64 n (jq lv)):=by
 have r:=sH l;have f:ak (∀k,k<n->jq (lv.take (k+1))=jq (lv.take k)++[((dM (nth lv k):Nat):Int)]):=⟨fun k p=>I' (by rw[l.len];exact p)⟩;have t:ak (jq (lv.take n)=jq lv):=⟨by rw[List.take_of_length_le (by rw[l.len];exact Nat.le_refl _)]⟩;clear l;go_enter func134,ntmps134;go_wp2;go_loopg [3,4] (n+1) (fun gg v3 v4 wr=>∃(k:Nat) (j:aC) (c':Nat),n-k<gg/\k<=n/\v3= .slice j k c'/\v4=ae aj (k:Int)/\ak (Own wr w.heap.size 3 .i64 j k c' (jq (lv.take k)))/\ak (aA w wr))
 ·exact⟨0,none,0,aq,aq,rfl,rfl,⟨Own.nil _ _ _ _⟩,cB⟩
 obtain⟨k,j,c',B,p,rfl,rfl,i,e⟩:=hrel;by_cases d:k<n
 ·obtain⟨z,rfl,_,o⟩:=(r.o.Z e.o).2 aq
  have D:=o k d;have E:=f.o k d;have m:=tB (nth lv k);generalize((dM (nth lv k):Nat):Int)=H at*;generalize nth lv k=x at*;have u:=aR k n;have v:=e.o.size;clear o;have s:126<x∨(x<=126/\0<x)∨x<=0:=aq;rcases s with q|⟨q,C⟩|q
  ·have h:ak (H=126):=⟨aq⟩
   have ER:ak (jq (lv.take (k+1))=jq (lv.take k)++[126]):=⟨by rw[E,h.o]⟩;clear E m f;go_wp2_with (at_builtin;refine dD IW rfl (.tmp 11) (.tmp 18) rfl rfl (i.o.alloc _) rfl (y:=126) (fF _ _ _ _ aD) aq cA ?_;intro A4 c4 g a b;have O4:=sH a;have X4:ak (aA w g):=⟨(e.o.alloc aq _).trans b⟩;clear a b);go_roundg (n-k)
   ·exact aaO
   omega
  ·have h:ak (H=x):=⟨aq⟩
   have ER:ak (jq (lv.take (k+1))=jq (lv.take k)++[x]):=⟨by rw[E,h.o]⟩;clear E m f;go_wp2_with (at_builtin;refine dD IW rfl (.tmp 11) (.tmp 18) rfl rfl (i.o.alloc _) rfl (y:=x) (fF _ _ _ _ aD) aq cA ?_;intro A4 c4 g a b;have O4:=sH a;have X4:ak (aA w g):=⟨(e.o.alloc aq _).trans b⟩;clear a b);go_roundg (n-k)
   ·exact aaO
   omega
  ·have h:ak (H=0):=⟨aq⟩
   have ER:ak (jq (lv.take (k+1))=jq (lv.take k)++[0]):=⟨by rw[E,h.o]⟩;have G:x<=126:=aq;clear E m f;go_wp2_with (at_builtin;refine dD IW rfl (.tmp 11) (.tmp 18) rfl rfl (i.o.alloc _) rfl (y:=0) (fF _ _ _ _ aD) aq cA ?_;intro A4 c4 g a b;have O4:=sH a;have X4:ak (aA w g):=⟨(e.o.alloc aq _).trans b⟩;clear a b);go_roundg (n-k)
   ·exact aaO
   omega
 ·obtain rfl:k=n:=by omega
  rw[t.o]at i;clear d f;go_wp2;go_ret;exact⟨j,c',rfl,i.o,e.o⟩
theorem CM(A:aC)(n c:Nat)(lv:aE)(w:World)(s:lv.length=n)(g:bh w w.heap.size .i64 A n (jq lv))(C:n<=4000000):
 Calls prog 135 #[.slice A n c] w fun e k=>e= .returned (.tuple #[ae aj (fZ lv n:Nat),ae aj (cO lv n:Nat)])/\aA w k:=by
 have l:=sH g;have d:ak (∀i,i<n->nth (jq lv) i=(dM (nth lv i):Nat)):=⟨fun i v=>GF aq⟩;clear g s;go_enter func135,ntmps135;go_wp2;go_loopg [4,5,6] (n+1) (fun gg v4 q m wr=>∃i:Nat,n-i<gg/\i<=n/\v4=ae aj (fZ lv i:Nat)/\q=ae aj (cO lv i:Nat)/\m=ae aj (i:Int)/\wr=w)
 ·exact⟨0,aq,aq,rfl,rfl,rfl,rfl⟩
 obtain⟨i,B,v,rfl,rfl,rfl,rfl⟩:=hrel;by_cases a:i<n
 ·obtain⟨z,rfl,_,f⟩:=l.o.2 aq
  have t:=f i a;rw[d.o i a]at t;have y:=aR i n;have D:=uo (nth lv i);have EM:ak (fZ lv (i+1)=max (fZ lv i) (dM (nth lv i))):=⟨rfl⟩;have EL:ak (cO lv (i+1)=if dM (nth lv i)%2=1 then min (cO lv i) (dM (nth lv i))else cO lv i):=⟨rfl⟩;generalize fZ lv i=M at*;generalize cO lv i=L at*;generalize dM (nth lv i)=H at*;clear f d;have u:(M:Int)<(H:Int)∨(H:Int)<=(M:Int):=aq;have j:(H:Int)<(L:Int)∨(L:Int)<=(H:Int):=aq;rcases u with x|x
  all_goals
   cases b:((H:Int)%2==1)with
   |false=>
    have r:¬H%2=1:=by
     intro h;have p:((H:Int)%2==1)=true:=cA;rw[p]at b;cases b
    clear j;go_wp2;go_roundg (n-i)
    ·exact⟨i+1,aq,aq,iv Hr,iv Vv,qQ,rfl⟩
    omega
   |true=>
    have r:H%2=1:=by have:=beq_iff_eq.1 b;omega
    rcases j with o|o
    all_goals
     go_wp2;go_roundg (n-i)
     ·exact⟨i+1,aq,aq,iv Hr,iv Vv,qQ,rfl⟩
     omega
 ·obtain rfl:i=n:=by omega
  clear a d;go_wp2;go_ret2;exact⟨rfl,Below.refl _ _⟩
theorem adV{G:Prop}(s:G:=by
 have E:ak (ys=o3):=⟨acx⟩
 have OE:ak (Own wr w2.heap.size 3 .i64 (some ⟨g,0,none⟩) k c' o3):=⟨Xo⟩;have i1:decide ((u:Int)<(z:Int)-1)=false:=fC;clear SI E;go_wp2;go_roundg (k+1-a)
 ·exact⟨T+1,_,o3,aq,aq,rfl,qQ,PN,PT,OE,BM⟩
 exact gI.o):G:=s
theorem zJ(A:aC)(n c:Nat)(lv:aE)(w:World)(S:bh w w.heap.size .i64 A n lv)(hn:n<=4000000):
 Calls prog 74 #[.slice A n c] w fun e w'=>∃(A2:aC) (N:Nat) (m:Int),e= .returned (.tuple #[.slice A2 n N,ae aj m])/\Own w' w.heap.size 3 .i64 A2 n N (fN lv)/\aA w w':=by
 have CO:ak _:=⟨Cw A n c lv w S hn⟩;have LN:ak (lv.length=n):=⟨S.len⟩;have FI:ak (zD lv n (cO lv n) (fZ lv n) (nJ n)=fN lv):=⟨by unfold fN;rw[S.len]⟩;generalize fN lv=f at*;clear S;go_enter func74,ntmps74;go_wp2_with fail;refine CO.o.mono ?_;rintro e V ⟨C,cc,rfl,oC,b1⟩;have HC:ak (bh V V.heap.size .i64 C n (jq lv)):=⟨oC.ints⟩;have B1:ak (aA w V):=⟨b1⟩;clear oC b1 CO;have BD:ak _:=⟨CM C n cc lv V LN.o HC.o hn⟩;go_wp2_with fail;refine BD.o.mono ?_;rintro e w2 ⟨rfl,b2⟩;have HC2:ak (bh w2 w2.heap.size .i64 C n (jq lv)):=⟨HC.o.Z (b2.mono cr)⟩;have Y:ak (aA w w2):=⟨B1.o.trans (b2.mono B1.o.size)⟩;have CA:ak (∀i,i<n->nth (jq lv) i=(dM (nth lv i):Nat)):=⟨fun i hi=>GF (by have:=LN.o;omega)⟩;have LB:ak (1<=cO lv n/\cO lv n<=127):=⟨qu lv n⟩;have MB:ak (fZ lv n<=126):=⟨uw lv n⟩;generalize cO lv n=L at*;generalize fZ lv n=M at*;have hL:=LB.o.1;have hL2:=LB.o.2;have hM:=MB.o;clear b2 BD HC B1;have iq:=Y.o.size;go_wp2;go_loopg [7,8] (n+1) (fun gg v7 v8 wr=>∃(k:Nat) (I:aC) (c':Nat),n-k<gg/\k<=n/\v7= .slice I k c'/\v8=ae aj (k:Int)/\ak (Own wr w2.heap.size 3 .i64 I k c' (nJ k))/\ak (aA w2 wr))
 ·exact⟨0,none,0,aq,aq,rfl,rfl,⟨Own.nil _ _ _ _⟩,cB⟩
 obtain⟨k,I,c',h,hk,rfl,rfl,RO,P⟩:=hrel;by_cases x:k<n
 ·have i1:=aR k n
  have hs:=P.o.size;have ER:ak (nJ (k+1)=nJ k++[(k:Int)]):=⟨AV k⟩;go_wp2_with (at_builtin;refine dD IW rfl (.tmp 29) (.tmp 31) rfl rfl (RO.o.alloc _) rfl (y:=(k:Int)) (fF _ _ _ _ aD) aq cA ?_;intro A4 c4 w4 o4 b4;have O4:ak _:=⟨o4⟩;have X4:ak (aA w2 w4):=⟨(P.o.alloc aq _).trans b4⟩;clear o4 b4);go_roundg (n-k)
  ·exact⟨k+1,A4,c4,aq,aq,rfl,qQ,⟨XH⟩,X4⟩
  omega
 ·obtain rfl:k=n:=by omega
  have PM:ak ((nJ k).Perm (nJ k)):=⟨List.Perm.refl _⟩;obtain⟨wa,rfl⟩:=eX wr;clear x h hk;go_wp2;go_loopg [9,10,11,12,13,14,15] (M+1) (fun gg v9 v10 _ _ _ _ _ wr=>∃(q:Nat) (m:Int) (o:aE),q<gg/\q<=126/\v9=ae aj m/\v10=ae aj (q:Int)/\ak (o.Perm (nJ k))/\ak (zD lv k L q o=f)/\ak (Own wr w2.heap.size 3 .i64 I k c' o)/\ak (aA w2 wr))
  ·exact⟨M,0,nJ k,aq,aq,rfl,rfl,PM,FI,RO,P⟩
  obtain⟨q,m,o,h,hq,rfl,rfl,PO,RF,OO,Z⟩:=hrel;obtain⟨wo,rfl⟩:=eX wr;clear FI PM RO P;by_cases D:L<=q
  ·obtain⟨q,rfl⟩:∃q',q=q'+1:=⟨q-1,aq⟩
   have B:ak (zD lv k L q (ar lv (q+1) k o 0)=f):=⟨by rw[<-tX D];exact RF.o⟩;have HG:ak (q+1<gk):=⟨h⟩;obtain⟨X,F⟩:=eY (ar lv (q+1) k o 0);rw[F]at B;have PP:ak (ar lv (q+1) k o 0=X):=⟨F⟩;clear F;have k1:(L:Int)<=(q:Int)+1:=aq;rw[show((q+1:Nat):Int)=(q:Int)+1 from rfl];clear h RF D;go_wp2;go_loopg [9,11,12,13,14,15] (k+2) (fun gg v9 v11 _ _ _ _ wr=>∃(a:Nat) (m:Int) (b:aE),k+1-a<gg/\a<=k+1/\v9=ae aj m/\v11=ae aj (a:Int)/\ak (b.Perm (nJ k))/\ak (ar lv (q+1) k b a=X)/\ak (Own wr w2.heap.size 3 .i64 I k c' b)/\ak (aA w2 wr))
   ·exact⟨0,m,o,aq,aq,rfl,rfl,PO,PP,OO,Z⟩
   obtain⟨a,m,b,h,ha,rfl,rfl,P2,U,G,O⟩:=hrel;obtain⟨wp,rfl⟩:=eX wr;clear PO PP OO Z;by_cases s:a<k
   ·have gI:ak (k+1-a<gk):=⟨h⟩
    obtain⟨T,Q⟩:=eY (nv lv b (q+1) k a);have R:=pd lv b (q+1) (Nat.le_of_lt s);rw[Q]at R;have J:=R.1;have hT2:=R.2;have ST:ak (dP (zw lv b (q+1)) k a=T):=⟨Q⟩;have PT:ak (ar lv (q+1) k (dg b a T) (T+1)=X):=⟨by rw[<-Q,<-jA s];exact U.o⟩;have OR:ak (vC b k):=⟨ku P2.o⟩;have a1:=aR a k;obtain⟨g,rfl,_,_⟩:=aB.form G.o aq;clear Q R h U;go_upto_block 6 with fail;go_cut [12] (fun v wx=>v=ae aj (T:Int)/\wx=wp)
    ·
     go_wp2;go_loopg [12] (k-a+1) (fun gg v wr=>∃j:Nat,k-j<gg/\a<=j/\j<=k/\v=ae aj (j:Int)/\ak (dP (zw lv b (q+1)) k j=T)/\wr=wp)
     ·exact⟨a,aq,aq,aq,rfl,ST,rfl⟩
     obtain⟨j,zY,haj,kF,rfl,SJ,rfl⟩:=hrel;by_cases hj:j<k
     ·obtain⟨y,hy⟩:∃y:Nat,nth b j=(y:Int):=⟨(nth b j).toNat,by have:=OR.o.ge j hj;omega⟩
      have K:y<k:=by have:=OR.o.lt j hj;omega
      have c1:=bI G.o hj;rw[hy]at c1;obtain⟨ad,rfl,_,hc⟩:=(HC2.o.Z O.o).2 aq;have N:=hc y K;rw[CA.o y K]at N;have GE:ak (zw lv b (q+1) j=decide (q+1<=dM (nth lv y))):=⟨by unfold zw;rw[hy];rfl⟩;generalize dM (nth lv y)=H at*;have j1:=aR j k;have y0:=jB y;have y1:=aR y k;clear hy hc;by_cases CY:q+1<=H
      ·have d:ak (dP (zw lv b (q+1)) k (j+1)=T):=⟨acY⟩
       have k2:(q:Int)+1<=(H:Int):=aq;clear SJ GE;go_wp2;go_roundg (k-j)
       ·exact⟨j+1,aq,aq,aq,qQ,d,rfl⟩
       omega
      ·have d:ak (j=T):=⟨adJ⟩
       have k2:decide ((q:Int)+1<=(H:Int))=false:=fC;have k3:decide (q+1<=H)=false:=fC;clear SJ GE;go_wp2;go_meet;exact⟨by rw[d.o],rfl⟩
     ·obtain rfl:j=k:=by omega
      have d:ak (j=T):=⟨by have:=SJ.o;rwa [uv cr]at this⟩;have j1:decide ((j:Int)<(j:Int))=false:=aD;clear hj;go_wp2;go_meet;exact⟨by rw[d.o],rfl⟩
    obtain⟨rfl,rfl⟩:=hcut;have SW:ak (Bs a T b=dg b a T):=⟨xb J (by rw[G.o.len];exact hT2)⟩;have PN:ak ((dg b a T).Perm (nJ k)):=⟨(kg J).trans P2.o⟩;generalize dg b a T=o3 at*;have t0:(a:Int)<(T:Int)∨(T:Int)<=(a:Int):=aq;rcases t0 with t1|t1
    ·go_wp2
     go_loopg [13,14,15] (T+1) (fun gg l t _ wr=>∃(u z:Nat) (ys:aE),z-u<gg/\a<=u/\u<=z/\z<=T/\l=ae aj (u:Int)/\t=ae aj ((z:Int)-1)/\ak (Bs u z ys=o3)/\ak (Own wr w2.heap.size 3 .i64 (some ⟨g,0,none⟩) k c' ys)/\ak (aA w2 wr))
     ·exact⟨a,T,b,aq,aq,aq,aq,rfl,qQ,SW,G,O⟩
     obtain⟨u,z,ys,Sl,hau,huz,hzT,rfl,rfl,SI,OM,BM⟩:=hrel;by_cases x:u+1<z
     ·obtain⟨r,rfl⟩:∃r,z=r+1:=⟨z-1,aq⟩
      rw[show((r+1:Nat):Int)-1=(r:Int)from aq];have c1:=bI OM.o (j:=u) aq;have N:=bI OM.o (j:=r) aq;have f1:=aB.frozenAt OM.o u;have f2:=aB.frozenAt OM.o r;have W:ak (Bs (u+1) r (swp ys u r)=o3):=⟨by
       have:=SI.o;rwa [tE aq,show r+1-1=r by omega]at this⟩
      have SO:ak (Own ((wr.setCell ⟨g,u,none⟩ (ae aj (nth ys r))).setCell ⟨g,r,none⟩ (ae aj (nth ys u))) w2.heap.size 3 .i64 (some ⟨g,0,none⟩) k c' (swp ys u r)):=⟨Own.nY (Own.nY OM.o u _) r _⟩;have SB:ak (aA w2 ((wr.setCell ⟨g,u,none⟩ (ae aj (nth ys r))).setCell ⟨g,r,none⟩ (ae aj (nth ys u)))):=⟨Below.setCell (Below.setCell BM.o (p:=⟨g,u,none⟩) (aB.sY OM.o).1 _) (p:=⟨g,r,none⟩) (aB.sY OM.o).1 _⟩;have dX:u≠r:=aq;have i1:=aR u r;have i2:=aR u k;have i3:=aR r k;clear SI;go_wp2;go_roundg (r-u)
      ·exact⟨u+1,r,swp ys u r,aq,aq,aq,aq,qQ,rfl,W,SO,SB⟩
      omega
     ·exact adV
    ·go_wp2
     go_loopg [13,14,15] (T+1) (fun gg l t _ wr=>∃(u z:Nat) (ys:aE),z-u<gg/\a<=u/\u<=z/\z<=T/\l=ae aj (u:Int)/\t=ae aj ((z:Int)-1)/\ak (Bs u z ys=o3)/\ak (Own wr w2.heap.size 3 .i64 (some ⟨g,0,none⟩) k c' ys)/\ak (aA w2 wr))
     ·exact⟨a,T,b,aq,aq,aq,aq,rfl,qQ,SW,G,O⟩
     obtain⟨u,z,ys,Sl,hau,huz,hzT,rfl,rfl,SI,OM,BM⟩:=hrel;by_cases x:u+1<z
     ·exfalso
      omega
     ·exact adV
   ·have E:ak (zD lv k L q b=f):=⟨by have:=B.o;rwa [<-U.o,jQ (by omega)]at this⟩
    have a1:decide ((a:Int)<(k:Int))=false:=fC;have a2:decide (a<k)=false:=fC;clear s B U h;go_wp2;go_roundg (q+1)
    ·exact⟨q,_,b,aq,aq,rfl,qQ,P2,E,G,O⟩
    exact HG.o
  ·have E:ak (o=f):=⟨by have:=RF.o;rwa [EX D hL]at this⟩
   have k1:decide ((L:Int)<=(q:Int))=false:=fC;have k2:decide (L<=q)=false:=fC;go_wp2;go_ret2;exact⟨_,_,_,rfl,by rw[<-E.o];exact Own.dU OO.o iq,Y.o.trans (Z.o.mono Y.o.size)⟩
end Go.Proofs.YtpidckelbgbbkaaGreatDoor
