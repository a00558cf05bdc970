/- Part of LineFills. -/
import Derived.Test.YtijcgdkpconjcaaGreatDoorAn
import Derived.Test.YtijcgdkpconjcaaGreatDoorAo
import Derived.Test.YtijcgdkpconjcaaGreatDoorAi
namespace Go.Proofs.YtijcgdkpconjcaaGreatDoor
open Go.ChangeShapes Go.WideShapes Go.ChangeAt Go.RowKit Go.Proofs.Tryz
open Go renaming World->EE,Value->EN,Calls->GK,TypeId->IQ,Ending->IS
open Go.RowKit renaming Below->EI,wrap64->IK
open Option renaming some->OH,none->OJ
open Bool renaming true->OX,false->OZ
open Go.Value renaming slice->Pl,bool->PF,pointer->PK,agg->Q4
open Go.Ending renaming returned->RE
open Go.Obj renaming cells->RM
open Go.Value renaming int->ae
open Go.IntKind renaming i64->aj
set_option linter.all false
set_option maxRecDepth 100000
set_option maxHeartbeats 16000000
variable{B b c n:Nat}{e:IQ}{G:Prop}{A:aB}{v:Int}
def lxT(x y:Int)(d:Option Tmp):Option (EN->Prop):=if d=OH 14 then OH (·=ae aj x)else if d=OH 17 then OH (·=ae aj y)else OJ
def Oo(T:aB)(f l:Nat)(ts:aC)(a b c d:Nat)(w:EE)(h:aJ .i32 w T f l ts)(ja:a<b)(p:b<=f)(Z:c<d)(hd:d<=f)(U:f<=100000):GK prog 41 #[Pl T f l,Q4 #[ae aj (a:Int),ae aj (b:Int)],Q4 #[ae aj (c:Int),ae aj (d:Int)]] w (PIi w (nP ts a b c d)):=by
 have R:=sH h;have⟨x,hx⟩:=eY (Rc ts a b OX);have⟨y,hy⟩:=eY (Rc ts c d OZ);have⟨bw,O⟩:∃b',ie ts a (b-a)=b':=⟨_,rfl⟩;have⟨L,m⟩:∃b,Lm (nth ts a)=b:=⟨_,rfl⟩;have⟨X,n⟩:∃b,Lm (nth ts c)=b:=⟨_,rfl⟩;have⟨z,M⟩:=eY (nP ts a b c d);have HC:ak (z=if bw=OX then 0 else if(jl x&&jr y)=OX then 1 else if(L&&X)=OX then 2 else-1):=⟨by
  have P:jl (Rc ts a b OX)=jl (vt ts a (b-a)):=acV ts a _;have s:jr (Rc ts c d OZ)=jr (Bd ts (d-c) c):=ac8 ts _ _;rw[<-M,nP,O,m,n,<-hx,<-hy,P,s]⟩
 have J1:ak (∀W,az w W->GK prog 101 #[Pl T f l,Q4 #[ae aj (a:Int),ae aj (b:Int)],PF OX] W (PIi W x)):=⟨λW j=>by rw[<-hx];exact xo T f l ts a b W OX (R.o.ar j) aq p U⟩;have J2:ak (∀W,az w W->GK prog 101 #[Pl T f l,Q4 #[ae aj (c:Int),ae aj (d:Int)],PF OZ] W (PIi W y)):=⟨λW j=>by rw[<-hy];exact xo T f l ts c d W OZ (R.o.ar j) aq hd U⟩;have WH:ak (∀W,az w W->GK prog 40 #[Pl T f l,Q4 #[ae aj (a:Int),ae aj (b:Int)]] W (PBb W bw)):=⟨λW j=>by rw[<-O];exact Co T f l ts a b W (R.o.ar j) aq p U⟩;obtain⟨u1,u2⟩:=bounds_i32 (R.o.cZ (show a<f by omega));obtain⟨u3,u4⟩:=bounds_i32 (R.o.cZ (show c<f by omega));have Q1:ak (∀W,GK prog 102 #[.int .i32 (nth ts a)] W (PBb W L)):=⟨λW=>by rw[<-m];exact IZ _ u1 u2 W⟩;have Q2:ak (∀W,GK prog 102 #[.int .i32 (nth ts c)] W (PBb W X)):=⟨λW=>by rw[<-n];exact IZ _ u3 u4 W⟩;have RA:ak (∀W,az w W->∃q,T=OH q/\W.cell? (q.add a)=OH (.int .i32 (nth ts a))/\W.cell? (q.add c)=OH (.int .i32 (nth ts c))):=⟨λW j=>by
  obtain⟨q,e,D⟩:=(R.o.ar j).ce (show a<f by omega);obtain⟨F,s,P⟩:=(R.o.ar j).ce (show c<f by omega);rw[e]at s;injection s with s
  subst s;exact⟨q,e,D,P⟩⟩
 have a0:=gT a;have a1:=aU a f;have c0:=gT c;have c1:=aU c f;rw[M];generalize nth ts a=za at*;generalize nth ts c=zc at*;have⟨G,aP⟩:=eX ((w.alloc (RM #[ae aj (a:Int),ae aj (b:Int)] 57)).alloc (RM #[ae aj (c:Int),ae aj (d:Int)] 57));have Y:ak (az w G):=⟨YW⟩;have B:ak (Bx G w.heap.size #[ae aj (a:Int),ae aj (b:Int)]):=⟨by rw[aP];exact(Bx.new _ _ _).ar (aw _ _) (by simp)⟩;have X2:ak (Bx G (w.heap.size+1) #[ae aj (c:Int),ae aj (d:Int)]):=⟨l7⟩;clear h hx hy O m n M u1 u2 u3 u4 R ja p Z hd;go_enter func41,ntmps41;go_upto_region 1 with fail;rw[<-aP];clear aP;have t:G.cell? ⟨w.heap.size,0,OJ⟩=OH (ae aj (a:Int)):=B.o.cell 0;have I:G.cell? ⟨w.heap.size,1,OJ⟩=OH (ae aj (b:Int)):=B.o.cell 1;go_wp2_with fail;refine callK (WH.o _ Y.o) Y λk V o=> ?_;have⟨C,A⟩:=K' (B.o.ar V B.o.lt) (X2.o.ar V X2.o.lt);clear V Y B X2 WH t I;cases bw;rotate_left
 .go_wp2
  go_ret;exact⟨Db,o.o⟩
 have t:k.cell? ⟨w.heap.size,0,OJ⟩=OH (ae aj (a:Int)):=C.o.cell 0;have I:k.cell? ⟨w.heap.size,1,OJ⟩=OH (ae aj (b:Int)):=C.o.cell 1;have J:k.cell? ⟨w.heap.size+1,0,OJ⟩=OH (ae aj (c:Int)):=A.o.cell 0;have y1:k.cell? ⟨w.heap.size+1,1,OJ⟩=OH (ae aj (d:Int)):=A.o.cell 1;have⟨K0,K1,M0,M1⟩:=lc4 t I J y1;have JA:ak (∀r:aI k,_):=⟨λr:aI k=>J1.o r.1 (o.o.trans (r.2.mono o.o.size))⟩;have JB:ak (∀r:aI k,_):=⟨λr:aI k=>J2.o r.1 (o.o.trans (r.2.mono o.o.size))⟩;clear t I J y1 J1 J2;go_wp2;refine aE (lxT x y) aF aF ?_
 repeat(refine cB aD aD aD ?_;intro K9 E;go_big_quiet_op;go_big_quiet_on)
 refine lsA (·=ae aj x) (λi=> ?_) (λN g=> ?_)
 .go_simp
  exact(JA.o i).mono λe Q ⟨S,p⟩=>⟨_,S,rfl,⟨Q,i.2.trans (p.mono i.2.size)⟩,rfl⟩
 have g:N=ae aj x:=g;subst g;simp[Act.put]
 repeat(refine cB aD aD aD ?_;intro K9 E;go_big_quiet_op;go_big_quiet_on)
 refine lsA (·=ae aj y) (λi=> ?_) (λN g=> ?_)
 .go_simp
  exact(JB.o i).mono λe Q ⟨S,p⟩=>⟨_,S,rfl,⟨Q,i.2.trans (p.mono i.2.size)⟩,rfl⟩
 have g:N=ae aj y:=g;subst g;simp[Act.put]
 repeat(refine cB aD aD aD ?_;intro K9 E;go_big_quiet_op;go_big_quiet_on)
 intro i;obtain⟨w3,H⟩:=i
 try dsimp only
 have K:=o.t H;have⟨Z1,Z2⟩:=K' (C.o.ar H C.o.lt) (A.o.ar H A.o.lt);clear H K0 K1 M0 M1 JA JB C A o;go_upto_region 4 with fail;go_cut[31](λv wx=>v=PF (jl x&&jr y)/\w3=wx)
 ·
  clear HC;cases h1:(x==1)<;>cases h3:(x==3)<;>cases k1:(y==1)<;>cases k2:(y==2)
  all_goals
   go_wp2;go_meet;exact⟨by simp[jl,jr,h1,h3,k1,k2],rfl⟩
 obtain⟨rfl,rfl⟩:=hcut;have⟨bb,u⟩:∃b,(jl x&&jr y)=b:=⟨_,rfl⟩;rw[u]at HC⊢;clear u;cases bb;rotate_left
 .go_wp2
  go_ret;exact⟨Db,K.o⟩
 obtain⟨q,rfl,D,_⟩:=RA.o _ K.o;have t:w3.cell? ⟨w.heap.size,0,OJ⟩=OH (ae aj (a:Int)):=Z1.o.cell 0;go_wp2_with fail;refine callK (Q1.o _) K λw4 b4 B4=> ?_;have J:w4.cell? ⟨w.heap.size+1,0,OJ⟩=OH (ae aj (c:Int)):=(Z2.o.ar b4 Z2.o.lt).cell 0;clear b4 D t;cases L
 .go_wp2
  go_ret;exact⟨Db,B4.o⟩
 obtain⟨F,e,_,D⟩:=RA.o _ B4.o;obtain rfl:q=F:=Option.some.inj e;clear e;go_wp2_with fail;refine callK (Q2.o _) B4 λw5 b5 B5=> ?_;clear b5 D J;cases X
 all_goals
  go_wp2;go_ret;exact⟨Db,B5.o⟩
def CtI(a:List (Nat×Nat))(f t:Nat):Prop:=∀j,j<a.length->f<=(cV a j).1/\(cV a j).1<(cV a j).2/\(cV a j).2<=t
def PRl(w:EE)(n:Nat)(e:IS)(a:EE):Prop:=∃(A:aB) (c:Nat),e=RE (Pl A n c)/\az w a
def TRl:aS prog 58 94 2 16:=bD underlying58 (z:=Q4 #[ae aj 0,ae aj 0]) aF rfl aq aq
def Ro(T:aB)(p F:Nat)(ts:aC)(f t:Nat)(A:aB)(n c:Nat)(g:List (Nat×Nat))(w:EE)(h:aJ .i32 w T p F ts)(hc:Rx w w.heap.size 2 (g.map cR) A n)(hi:CtI g f t)(ht:t<=p)(hn:p<=40)(hm:n<=40):GK prog 12 #[Pl T p F,ae aj (f:Int),ae aj (t:Int),Pl A n c] w (PRl w (gY ts g).length):=by
 have⟨R,C,CI⟩:=MO h hc hi;have Ph:g.length=n:=by have:=hc.1;simpa using this
 clear h hc hi;go_enter func12,ntmps12;go_wp2;go_loopg[9,10](n+1)(λgg v9 v10 wr=>∃(i:Nat) (A1:aB) (c1:Nat),n-i<gg/\i<=n/\v9=Pl A1 i c1/\v10=ae aj (i:Int)/\ak (OL wr w.heap.size 57 2 (·=(g.map cR).take i) A1 i c1)/\ak (az w wr))
 .exact⟨0,OJ,0,aq,aq,rfl,rfl,⟨OL.nil _ _ _ _ rfl⟩,cJ⟩
 obtain⟨i,A1,c1,N,ve,rfl,rfl,OO,y⟩:=hrel;by_cases J:i<n
 .have i4:=aU i n
  have i0:=gT i;have jL:ak (n-i<gk/\i<n):=⟨N,J⟩;obtain⟨B,rfl,u,r⟩:=(C.o.Z y.o y.o.size).vG J;rw[uK aq]at u r;obtain⟨l,o,H⟩:=CI.o i aq;have ET:ak ((g.map cR).take (i+1)=(g.map cR).take i++[[((cV g i).1:Int),((cV g i).2:Int)]]):=⟨IL aq⟩
  replace u:wr.cell? (B.add (i*2))=OH (ae aj ((cV g i).1:Int)):=u
  replace r:wr.cell? (bX (B.add (i*2)) 1)=OH (ae aj ((cV g i).2:Int)):=r
  generalize(cV g i).1=a at*;generalize(cV g i).2=b at*;have i5:(f:Int)<=(a:Int):=aq;have i6:(b:Int)<=(t:Int):=aq;have gz:=y.o.size;clear N l o H;go_wp2_with (at_builtin;refine cd (L':=(·=(g.map cR).take (i+1))) TY rfl (.tmp 37) (.tmp 42) rfl rfl (OO.o.alloc _) rfl [(a:Int),(b:Int)] rfl (cP _ _ _ _ _ aT rfl) (λxs _ _ h=>by rw[ET.o,h]) aq br ?_;intro A8 c8 w8 Z b8 _ _;have O8:=sH Z;have B8:ak (az w w8):=⟨(y.o.alloc aq _).trans b8⟩;clear Z b8);have:=jL.o;go_roundg(n-i)
  .exact⟨i+1,A8,c8,aq,aq,rfl,by first|go_num|(rw[IntWalk.wrap64_in _ (by omega)];rfl),O8,B8⟩
  omega
 have i4:=cI i n;have aeW:i=n:=aq;subst aeW;have RX:ak (Rx wr wr.heap.size 2 (g.map cR) A1 i):=⟨by
  obtain⟨gs,l,o⟩:=OO.o.rl aq;rw[List.take_of_length_le br]at l;subst l;exact o⟩
 have⟨I,dP⟩:=eX wr;rw[<-dP]at RX y⊢;have L:ak (∀W,az I W->∀j,j<i->∃(B:Addr) (a b:Nat),A1=OH B/\cV g j=(a,b)/\f<=a/\a<b/\b<=t/\W.cell? (B.add (j*2))=OH (ae aj (a:Int))/\W.cell? (bX (B.add (j*2)) 1)=OH (ae aj (b:Int))):=⟨λW O j Q=>by
  obtain⟨M,e,u,r⟩:=(RX.o.Z O O.size).vG Q;rw[uK aq]at u r;obtain⟨l,o,H⟩:=CI.o j aq;exact⟨M,_,_,e,rfl,l,o,H,u,r⟩⟩
 have HN:ak (i<=40/\p<=40/\t<=p/\g.length=i):=⟨aq⟩;have WC:ak (∀W,az I W->∀a b:Nat,a<=b->b<=p->GK prog 40 #[Pl T p F,Q4 #[ae aj (a:Int),ae aj (b:Int)]] W (PBb W (ie ts a (b-a)))):=⟨λW O a b l o=>Co T p F ts a b W (R.o.ar (y.o.trans (O.mono y.o.size))) l o aq⟩;clear OO J dP N RX CI C;go_upto_block 2 with fail;go_cut[11](λG wx=>∃k:Nat,k<=i/\G=ae aj (k:Int)/\ak (ef ts g i=k)/\ak (az I wx))
 ·
  go_wp2;go_loopg[11](i+1)(λgg G wr=>∃k:Nat,k<gg/\k<=i/\G=ae aj (k:Int)/\ak (ef ts g i=ef ts g k)/\ak (az I wr))
  .exact⟨i,aq,aq,rfl,⟨rfl⟩,cJ⟩
  obtain⟨k,dV,S,rfl,DW,U⟩:=hrel;rcases Nat.eq_zero_or_pos k with h0|h0
  .have T6:decide (0<k)=OZ:=ji
   have D0:ak (ef ts g i=k):=⟨by rw[DW.o,h0];rfl⟩;clear h0;go_wp2;go_meet;exact⟨_,S,rfl,D0,U⟩
  obtain⟨j,Q⟩:∃j,j+1=k:=⟨k-1,aq⟩;have T6:decide (0<k)=OX:=Je;have uR:(k:Int)-1=(j:Int):=aq;have oT:=aU j i;have hj0:=gT j;obtain⟨B,a,b,rfl,P,l,o,H,u,r⟩:=L.o wr U.o j aq;have⟨wb,D⟩:∃x,ie ts a (b-a)=x:=⟨_,rfl⟩;have WC1:ak (GK prog 40 #[Pl T p F,Q4 #[ae aj (a:Int),ae aj (b:Int)]] wr (PBb wr wb)):=⟨by rw[<-D];exact WC.o wr U.o a b (by omega) (by have:=HN.o;omega)⟩;have DY:ak (wb=OX->ef ts g i=ef ts g j):=⟨λh=>by rw[DW.o,<-Q];exact vU (by rw[P];exact D.trans h)⟩;have DN:ak (wb=OZ->ef ts g i=k):=⟨λh=>by rw[DW.o,<-Q];exact Af (by rw[P];exact D.trans h)⟩;have Mn:ak (k<gk/\k<=i/\j+1=k):=⟨dV,S,Q⟩;clear D P l o H dV S Q h0 DW;go_wp2_with fail;refine callK WC1.o U λw5 b5 B5=> ?_;clear b5 u r WC1;cases wb
  .have D9:ak (ef ts g i=k):=⟨DN.o rfl⟩
   clear DY DN;go_wp2;go_meet;exact⟨_,Mn.o.2.1,rfl,D9,B5⟩
  .have D9:ak (ef ts g i=ef ts g j):=⟨DY.o rfl⟩
   clear DY DN;go_wp2;have:=Mn.o;go_roundg(k)
   .exact⟨j,aq,aq,by first|rfl|(rw[IntWalk.wrap64_in _ (by omega)]),D9,B5⟩
   omega
 obtain⟨k,S,rfl,DK,U⟩:=hcut;have SA:ak (gY ts g=fW ts g (k-1)):=⟨by unfold gY;rw[Ph,DK.o]⟩;have HK:=sH S;have CC:ak (∀W,az I W->∀a b c d:Nat,a<b->b<=p->c<d->d<=p->GK prog 41 #[Pl T p F,Q4 #[ae aj (a:Int),ae aj (b:Int)],Q4 #[ae aj (c:Int),ae aj (d:Int)]] W (PIi W (nP ts a b c d))):=⟨λW O a b c d l o H h4=>Oo T p F ts a b c d W (R.o.ar (y.o.trans (O.mono y.o.size))) l o H h4 aq⟩;clear WC Ph S;go_wp2;go_loopg[12,13,14](k+1)(λgg mz kE _ wr=>∃(q m:Nat) (A5:aB) (c5:Nat),k-q<gg/\mz=Pl A5 m c5/\kE=ae aj (q:Int)/\ak ((fW ts g q).length=m/\m<=q/\(q=0∨q+1<=k))/\ak (OL wr I.heap.size 94 2 (λ_=>True) A5 m c5)/\ak (az I wr))
 .exact⟨0,0,OJ,0,aq,rfl,rfl,⟨rfl,aq,.inl rfl⟩,⟨OL.nil _ _ _ _ trivial⟩,U⟩
 obtain⟨q,m,A5,c5,N,rfl,rfl,SL,OS,s⟩:=hrel;have BW:=y.t s.o;by_cases Yl:q+1<k;rotate_left
 .have i4:¬((q:Int)+1)<(k:Int):=by omega
  have i6:IK ((q:Int)+1)=(q:Int)+1:=IntWalk.wrap64_in _ (by have:=HK.o;have:=HN.o;have:=SL.o;omega);have SE:ak ((gY ts g).length=m):=⟨by
   obtain⟨l,_,o⟩:=SL.o;rw[SA.o,<-l];rcases o with h|h
   .rw[show k-1=q by omega]
   .rw[show k-1=q by omega]⟩
  go_wp2;go_ret;exact⟨_,_,by rw[SE.o];rfl,BW.o⟩
 have i4:(q:Int)+1<(k:Int):=aq;have i6:IK ((q:Int)+1)=(q:Int)+1:=IntWalk.wrap64_in _ (by have:=HK.o;have:=HN.o;omega);have i7:IntKind.i64.wrap ((q:Int)+1)=(q:Int)+1:=IntWalk.i64_in _ (by have:=HK.o;have:=HN.o;omega);obtain⟨B,a,b,rfl,P,Zg,X,ha3,u,r⟩:=L.o wr s.o q Jm;obtain⟨M,c,d,e,er2,nT,mu,Fe,d0,d1⟩:=L.o wr s.o (q+1) Jm;obtain rfl:B=M:=Option.some.inj e;have⟨z,hz⟩:=eY (vL ts g q);have E:ak ((fW ts g (q+1)).length=m+if z<0 then 0 else 1):=⟨by
  rw[fW,List.length_append,SL.o.1,hz];split<;>rfl⟩
 have CZ:ak (∀n':aI wr,GK prog 41 #[Pl T p F,Q4 #[ae aj (a:Int),ae aj (b:Int)],Q4 #[ae aj (c:Int),ae aj (d:Int)]] n'.1 (PIi n'.1 z)):=⟨λn'=>by
  have l:=CC.o n'.1 (s.o.trans (n'.2.mono s.o.size)) a b c d X Cs mu Cs;have o:nP ts a b c d=z:=by rw[<-hz];unfold vL;rw[P,er2]
  rw[o]at l;exact l⟩
 have⟨L0,L1,M0,M1⟩:=lc4 u r d0 d1;have q0:=gT q;have q1:(q:Int)<(i:Int):=Jm;have q2:(0:Int)<=(q:Int)+1:=aq;have q3:(q:Int)+1<(i:Int):=Jm;have E1B:=sH r;have v:ak (k-q<gk/\q+1<k):=⟨N,Yl⟩;clear e P er2 hz Zg X ha3 nT mu Fe u r d0 d1 N Yl;go_wp2;refine aE (kC 75 (·=ae aj z)) aF aF ?_
 repeat(refine cB aD aD aD ?_;intro K9 bQ;go_big_quiet_op;go_big_quiet_on)
 refine lsA (·=ae aj z) (λnq=> ?_) (λv9 K=> ?_)
 .go_simp
  exact(CZ.o nq).mono λe w' ⟨he,hb⟩=>⟨_,he,rfl,⟨w',nq.2.trans (hb.mono nq.2.size)⟩,rfl⟩
 have K:v9=ae aj z:=K;subst K;simp[Act.put]
 repeat(refine cB aD aD aD ?_;intro K9 bQ;go_big_quiet_op;go_big_quiet_on)
 intro nq;obtain⟨w7,b7⟩:=nq
 try dsimp only
 have B7:=s.t b7;have Y:=sH (OS.o.ar b7);have r:=av E1B.o b7;have V:=B7.o.size;clear L0 L1 M0 M1 CZ b7 OS;by_cases pY:z<0
 .have gL:¬(0:Int)<=z:=by omega
  have S0:ak ((fW ts g (q+1)).length=m/\m<=q+1/\(q+1=0∨q+1+1<=k)):=⟨by have:=E.o;rw[if_pos pY]at this;exact this,Jr,.inr (by have:=v.o;omega)⟩;clear E;go_wp2;have:=v.o;go_roundg(k-q)
  .exact⟨q+1,m,A5,c5,aq,rfl,by first|go_num|rfl,S0,Y,B7⟩
  omega
 .have gL:(0:Int)<=z:=by omega
  have S0:ak ((fW ts g (q+1)).length=m+1/\m+1<=q+1/\(q+1=0∨q+1+1<=k)):=⟨by have:=E.o;rw[if_neg pY]at this;exact this,Jr,.inr (by have:=v.o;omega)⟩;have hm4:m<=40:=by have:=SL.o;have:=v.o;have:=HK.o;have:=HN.o;omega
  clear E;go_wp2_with (at_builtin;refine cd (L':=λ_=>True) TRl rfl (.tmp 78) (.tmp 86) rfl rfl (Y.o.alloc _) rfl [(b:Int),z] rfl (cP _ _ _ _ _ aT rfl) (λxs _ _ h=>trivial) aq (Nat.le_trans V (aw _ _).size) ?_;intro A8 c8 w8 Z b8 _ _;have O8:=sH Z;have B8:=sH ((B7.o.alloc V _).trans b8);clear Z b8);have:=v.o;go_roundg(k-q)
  .exact⟨q+1,m+1,A8,c8,aq,rfl,by first|go_num|rfl,S0,O8,B8⟩
  omega
def Nv(k v x wide a:Int)(i: -9223372036854775808<=wide/\wide<=9223372036854775807)(w:EE):GK prog 96 #[Q4 #[ae aj v,ae aj k],ae aj x,ae aj wide,ae aj a] w λe p=>e=RE (ae aj (kQ (v,k) x wide a))/\az w p:=by
 have⟨h,aP⟩:∃h,h=w.alloc (RM #[ae aj v,ae aj k] 168):=⟨_,rfl⟩;obtain⟨s,r⟩:=Ip aP;have f:ak (az w h):=⟨nR⟩;have m:ak _:=⟨λW=>Pz wide i W⟩;have⟨P,g⟩:∃P,kQ (v,k) x wide a=P:=⟨_,rfl⟩;have b:ak (P=max (if k=1 then IK (v-wide)else if k=2 then IK (v-wY wide)else if k=3 then IK (v-a)else v) x):=⟨g.symm⟩;rw[g];clear g i;generalize wY wide=n at*;go_enter func96,ntmps96;go_upto_region 1 with fail;rw[<-aP];clear aP;by_cases h1:k=1
 .have HQ:ak (P=max (IK (v-wide)) x):=⟨by rw[b.o,if_pos h1]⟩
  have l:(k==1)=OX:=mo;clear h1 b;go_wp2_with fail
  all_goals go_ret
  all_goals exact⟨YO,f.o⟩
 have l:(k==1)=OZ:=mo;by_cases c:k=2
 .have HQ:ak (P=max (IK (v-n)) x):=⟨by rw[b.o,if_neg h1,if_pos c]⟩
  have q:(k==2)=OX:=by simp[c]
  clear h1 c b;go_wp2_with fail;refine(m.o _).mono ?_;rintro e o ⟨rfl,t⟩;subst o;go_wp2_with fail
  all_goals go_ret
  all_goals exact⟨YO,f.o⟩
 have q:(k==2)=OZ:=by simp[c]
 by_cases d:k=3
 .have HQ:ak (P=max (IK (v-a)) x):=⟨by rw[b.o,if_neg h1,if_neg c,if_pos d]⟩
  have j:(k==3)=OX:=by simp[d]
  clear h1 c d b;go_wp2_with fail
  all_goals go_ret
  all_goals exact⟨YO,f.o⟩
 have HQ:ak (P=max v x):=⟨by rw[b.o,if_neg h1,if_neg c,if_neg d]⟩;have j:(k==3)=OZ:=by simp[d]
 clear h1 c d b;go_wp2_with fail
 all_goals go_ret
 all_goals exact⟨YO,f.o⟩
def WX(l:aC)(k:Nat)(x:Int):(l++List.replicate (k+1) 0).set l.length x=(l++[x])++List.replicate k 0:=by
 rw[List.set_append_right _ _ cr,Nat.sub_self,List.replicate_succ,List.set_cons_zero];simp
def Yp(l:aC)(x:Int)(r:aC):nth ((l++[x])++r) l.length=x:=uY
def St(l:aC)(k:Nat):nth (l++List.replicate (k+1) 0) l.length=0:=uY
structure LyI(w:EE)(l:List (Int×Int))(B:aB)(bn:Nat)(W Q:aC)(A C:aB)(m:Nat):Prop where
 tb:UB w w.heap.size l B
 tl:l.length=bn
 bl:bn<=1000
 wi:bO w w.heap.size .i64 A m W
 qi:bO w w.heap.size .i64 C m Q
 wr:∀i,i<m->-9223372036854775808<=nth W i/\nth W i<=9223372036854775807
 ml:m<=1000
def PLy(w:EE)(L:aC)(m:Nat)(e:IS)(a:EE):Prop:=∃(A:aB) (c:Nat),e=RE (Pl A m c)/\Own a w.heap.size 3 .i64 A m c L/\az w a
def Kv(l:List (Int×Int))(every:Int)(W Q:aC){i:Nat}(hi:i<Q.length)(x:Int)(a:x=if i=0 then 0 else kQ (jk l every (ee l every W Q i).2) (ee l every W Q i).2 (nth W i) (nth Q i)):ee l every W Q (i+1)=((ee l every W Q i).1++[x],IK (x+nth W i)):=by
 rw[a,ee];simp only[hi,if_true]
def DP(l:List (Int×Int))(every x:Int):∃v k,jk l every x=(v,k):=⟨_,_,rfl⟩
def aaF(l:aC)(k:Nat):l++List.replicate (k+1) 0=(l++[0])++List.replicate k 0:=by rw[List.replicate_succ];simp
def ab7(l:List (Int×Int))(B:aB)(V bc:Nat)(every:Int)(W Q:aC)(A C:aB)(m c d:Nat)(w:EE)(h:LyI w l B V W Q A C m):GK prog 37 #[Pl B V bc,ae aj every,Pl A m c,Pl C m d] w (PLy w (ee l every W Q m).1 m):=by
 have I:=sH h;have hm:=h.ml;have Vc:=h.qi.len;clear h;have zz:ak ((prog.info? 3).map (·.zero)=OH (OH (ae aj 0))):=⟨aF⟩;have⟨L,J⟩:=eY ((ee l every W Q m).1);have HL:=sH J;rw[J];clear J;go_enter func37,ntmps37;go_wp2_with (at_make;refine fe vr zz.o rfl _ _ rfl m rfl rfl rfl rfl aq w.heap.size cr ?_;intro g w1 o1 b1;have O1:=sH o1;have B1:=sH b1;clear o1 b1);go_loopg[10,11,12,13,19](m+1)(λgg v10 _ _ _ H wr=>∃(i:Nat) (X:Int),m-i<gg/\i<=m/\v10=ae aj X/\H=ae aj (i:Int)/\ak (X=(ee l every W Q i).2)/\ak (Own wr w.heap.size 3 .i64 (OH ⟨g,0,OJ⟩) m m ((ee l every W Q i).1++List.replicate (m-i) 0))/\ak (az w wr))
 .exact⟨0,0,aq,aq,rfl,rfl,⟨rfl⟩,⟨O1.o⟩,B1⟩
 obtain⟨i,X,hg,hi,rfl,rfl,HX,Z,o⟩:=hrel;have n:=o.o.size;by_cases a:i<m;rotate_left
 .have i4:=cI i m
  obtain rfl:i=m:=aq;have D:ak (Own wr w.heap.size 3 .i64 (OH ⟨g,0,OJ⟩) i i L):=⟨by have:=Z.o;rw[Nat.sub_self,List.replicate_zero,List.append_nil,HL.o]at this;exact this⟩;go_wp2;go_ret;exact⟨_,i,rfl,D.o,o.o⟩
 have i4:=aU i m;obtain⟨ad,eA,ja,r⟩:=I.o.wi.2 aq;obtain⟨ew,eC,_,q⟩:=(I.o.qi.Z o.o).2 aq;subst eA;subst eC;have e0:=(o.o.cell Ct).trans (r i a);have e1:=q i a;have N:=I.o.wr i a;have ST:ak (∀x,(x=if i=0 then 0 else kQ (jk l every X) X (nth W i) (nth Q i))->ee l every W Q (i+1)=((ee l every W Q i).1++[x],IK (x+nth W i))):=⟨λx b=>Kv l every W Q aq x (by rw[b,HX.o])⟩;generalize nth W i=y at*;generalize nth Q i=z at*;have K:=sH hg;clear r q hg ja;have⟨x,b⟩:∃x,(if i=0 then 0 else kQ (jk l every X) X y z)=x:=⟨_,rfl⟩;have f:=sH (ST.o x b.symm);have s:=mF l every W Q i;have O5:ak (∀O v,Own O w.heap.size 3 .i64 (OH ⟨g,0,OJ⟩) m m ((ee l every W Q i).1++List.replicate (m-i) 0)->v=x->Own (O.setCell ⟨g,i,OJ⟩ (ae aj v)) w.heap.size 3 .i64 (OH ⟨g,0,OJ⟩) m m ((ee l every W Q (i+1)).1++List.replicate (m-(i+1)) 0)):=⟨λO v h hv=>by
  have S:=Own.sI h i v;rw[show m-i=(m-(i+1))+1 by omega]at S;have k:=WX (ee l every W Q i).1 (m-(i+1)) v;rw[s]at k;rw[k]at S;rw[f.o,<-hv];exact S⟩
 have N0:ak (nth ((ee l every W Q i).1++List.replicate (m-i) 0) i=0):=⟨by
  have k:=St (ee l every W Q i).1 (m-(i+1));rw[s]at k;rwa [show m-i=(m-(i+1))+1 by omega]⟩
 have N1:ak (nth ((ee l every W Q (i+1)).1++List.replicate (m-(i+1)) 0) i=x):=⟨by
  have k:=Yp (ee l every W Q i).1 x (List.replicate (m-(i+1)) 0);rw[s]at k;rw[f.o];exact k⟩
 clear ST s;go_upto_if 25 with fail;go_cut[13](λ_ wx=>ak (Own wx w.heap.size 3 .i64 (OH ⟨g,0,OJ⟩) m m ((ee l every W Q (i+1)).1++List.replicate (m-(i+1)) 0))/\ak (az w wx))
 ·
  rcases Nat.eq_zero_or_pos i with Y|Y
  .rw[if_pos Y]at b
   have E:ak ((ee l every W Q i).1++List.replicate (m-i) 0=(ee l every W Q (i+1)).1++List.replicate (m-(i+1)) 0):=⟨by
    rw[f.o,<-b,show m-i=(m-(i+1))+1 by omega];exact aaF _ _⟩
   have D:=sH Z.o;rw[E.o]at D;have hni:¬0<i:=aq;clear Y b;go_wp2;go_meet;exact⟨D,o⟩
  .rw[if_neg aq]at b
   obtain⟨tv,tk,hT⟩:=DP l every X;have R:=sH (Ym l B V bc every X wr (I.o.tb.Z o.o n) I.o.tl I.o.bl);unfold PNt at R;rw[hT]at R b;have G:=sH b;have CP:=sH (λW=>Nv tk tv X y z N W);clear b hT;go_wp2_with fail;refine R.o.mono ?_;rintro e w2 ⟨rfl,t⟩;go_wp2_with fail;refine(CP.o _).mono ?_;rintro e w3 ⟨rfl,M⟩;have⟨u,B4⟩:=K' ((Z.o.ar t).ar M) ((o.o.trans (t.mono n)).trans (M.mono (Nat.le_trans n t.size)));have T:=(aA.yp u.o).1;have f1:=aA.frozenAt u.o i;have P:=bU u.o (j:=i) a;rw[N0.o]at P;rw[G.o];clear t M e0 e1;have F:=sH (O5.o w3 x u.o rfl);have U:=sH (Below.setCell B4.o (p:=⟨g,i,OJ⟩) T (ae aj x));go_wp2;go_meet;exact⟨F,U⟩
 obtain⟨F,U⟩:=hcut;have P:=bU F.o (j:=i) a;rw[N1.o]at P;clear e0 e1 b;go_wp2;go_roundg(m-i)
 .exact⟨i+1,_,aq,aq,rfl,aV,⟨by rw[f.o]⟩,F,U⟩
 have:=K.o;omega
abbrev mD(A:aB)(n c:Nat)(i e v:Int):Array EN:=#[Pl A n c,ae aj i,ae aj e,ae aj v]
abbrev En.row(x:En):Array EN:=#[ae aj x.1,ae aj x.2.1,PF x.2.2]
def vi(w:EE)(N:Nat)(A:aB)(n c:Nat)(v:Int):Prop:=n<=N/\n<=c/\c<=9223372036854775807/\∃es,zA w w.heap.size A n es/\iK es v
def Oe(w:EE)(N:Nat)(e:IS)(w':EE):Prop:=∃(A:aB) (n c:Nat) (i a v:Int),e=RE (Q4 (mD A n c i a v))/\vi w' N A n c v/\az w w'
section
variable{w w':EE}{N M n c B:Nat}{A:aB}{v:Int}{es:List En}{e:IQ}
def vi.ar(h:vi w N A n c v)(a:az w w'):vi w' N A n c v:=by
 obtain⟨f,g,b,es,i,d⟩:=h;exact⟨f,g,b,es,i.Z a a.size,d⟩
def vi.more(h:vi w N A n c v)(b:N<=M):vi w M A n c v:=by
 obtain⟨a,h⟩:=h;exact⟨aq,h⟩
def Bn(h:aA w B 139 3 A n c (es.flatMap Mv))(f:es.length=n)(k:∀g:Nat,B<=g->w'.heap[g]? =w.heap[g]?):zA w' w'.heap.size A n es:=by
 refine Uy (B:=B) (c:=c) ⟨h.1, ?_⟩ f;rcases h.2 with j|⟨b,cap,cur,d,a,i,r⟩
 .exact .inl j
 .exact .inr ⟨b,cap,cur,d,a,(k b a).trans i,r⟩
end
def zX{w W:EE}{a d:Array EN}{b g:IQ}(h:W=(w.alloc (RM a b)).alloc (RM d g)):az w W/\Bx W w.heap.size a/\Bx W (w.heap.size+1) d:=by
 have i:(w.alloc (RM a b)).heap.size=w.heap.size+1:=aT;have f:EI (w.alloc (RM a b)).heap.size (w.alloc (RM a b)) W:=LO;exact⟨(aw _ _).trans (f.mono aq),(Bx.new _ _ _).ar f aq,by rw[h];exact Bx.iR _ _ _ i⟩
def lC(w:EE)(cs:List EN)(t:IQ):∀j u,cs[j]? =OH u->(w.alloc (RM cs.toArray t)).cell? ⟨w.heap.size,j,OJ⟩=OH u:=λj u h=>by
 rw[cell_of_row _ _ _ _ _ _ (heap_alloc_new w _)];simpa using h
def aA.eN{w:EE}{B n c a:Nat}{e:IQ}{A:aB}{vs:List EN}(h:aA w B e a A n c vs)(i:b<=B):aA w b e a A n c vs:=by
 refine⟨h.1, ?_⟩;rcases h.2 with f|⟨g,cap,cur,d,j,r⟩
 .exact .inl f
 .exact .inr ⟨g,cap,cur,d,aq,r⟩
def Br(w:EE){g b:Nat}(d:b≠g)(o:Nat)(u:EN)(ds:Array EN){g2:Nat}(a:b≠g2):((w.setCell ⟨g,o,OJ⟩ u).setRow g2 ds).heap[b]? =w.heap[b]? :=(setRow_other _ _ _ _ a).trans (Below.heap_setCell w ⟨g,o,OJ⟩ u b d)
def Bx.q4{w:EE}{g f a d:EN}(h:Bx w b #[g,f,a,d]):w.cell? ⟨b,0,OJ⟩=OH g/\w.cell? ⟨b,1,OJ⟩=OH f/\w.cell? ⟨b,2,OJ⟩=OH a/\w.cell? ⟨b,3,OJ⟩=OH d:=⟨h.cell 0,h.cell 1,h.cell 2,h.cell 3⟩
def Vo{w:EE}{g B:Nat}{l o:Int}{b:Bool}(d:w.heap[g]? =OH (RM #[ae aj l,ae aj o,PF b] 139 (0,0)))(f:g<B):zA w B (OH ⟨g,0,OJ⟩) 1 [(l,o,b)]:=⟨rfl,λ_=>⟨_,rfl,f,⟨_,_,d⟩,λj e a=>by
 have h:Bx w g #[ae aj l,ae aj o,PF b]:=⟨_,d⟩;obtain rfl:j=0:=by have:=(List.getElem?_eq_some_iff.1 a).1;simpa using this
 simp at a;subst a;exact⟨h.cell 0,h.cell 1,h.cell 2⟩⟩⟩
def Xu:aS prog 134 139 3 24:=bD underlying134 (z:=Q4 #[ae aj 0,ae aj 0,PF OZ]) aF rfl aq aq
def kZ(z:Int)(w:EE):GK prog 30 #[ae aj z] w (PB w):=by
 go_enter func30,ntmps30;go_wp2_with fail
 all_goals
  go_ret;exact⟨_,rfl,Below.refl _ _⟩
def DB(z:Int)(b:Bool)(w:EE):GK prog 144 #[ae aj z,PF b] w (PI w):=by
 go_enter func144,ntmps144;go_wp2_with fail
 all_goals
  go_ret;exact⟨_,rfl,Below.refl _ _⟩
def IJ(b:Int)(w:EE):GK prog 66 #[ae aj b] w (Oe w 1):=by
 go_enter func66,ntmps66;go_wp2_with fail;have f:(w.alloc (RM #[Pl (OH ⟨w.heap.size+1,0,OJ⟩) 1 1,ae aj 0,ae aj 0,ae aj 0] 136)).heap.size=w.heap.size+1:=aT;have X:=heap_alloc_new (w.alloc (RM #[Pl (OH ⟨w.heap.size+1,0,OJ⟩) 1 1,ae aj 0,ae aj 0,ae aj 0] 136)) (RM #[ae aj b,ae aj 0,PF OZ] 139);rw[f]at X;have Y:=(Bx.new w #[Pl (OH ⟨w.heap.size+1,0,OJ⟩) 1 1,ae aj 0,ae aj 0,ae aj 0] 136).ar (aw _ (RM #[ae aj b,ae aj 0,PF OZ] 139)) aT;obtain⟨a,d⟩:=Y.heap;refine bodyPost_ret (results_cell_row results66 _ _ w.heap.size a _ (0,0) _ aD d underlying136 rfl aF) rfl ?_;exact⟨_,_,_,_,_,_,rfl,⟨aq,aq,aq,_,Vo X aT,Aa b⟩,(aw _ _).alloc aT _⟩
def ou(A:aB)(n c:Nat)(i r v:Int)(es:List En)(w:EE)(h:zA w w.heap.size A n es)(L:0<n)(K:n<=1000000):GK prog 67 #[Q4 (mD A n c i r v)] w (λe w'=>∃(l o:Int) (b:Bool),es[n-1]? =OH (l,o,b)/\e=RE (Q4 #[ae aj l,ae aj o,PF b])/\az w w'):=by
 have⟨O,a⟩:=eX ((w.alloc (RM #[Pl A n c,ae aj i,ae aj r,ae aj v] 136)).alloc (RM #[ae aj 0,ae aj 0,PF OZ] 139));have m:=zX a;have⟨f,C,q⟩:=MO m.1 m.2.1 m.2.2;have⟨c0,D,u,J⟩:=C.o.q4;obtain⟨k,rfl⟩:∃k,n=k+1:=⟨n-1,aq⟩;obtain⟨F,x,rfl,y,E,G,H⟩:=(h.Z f.o f.o.size).at (j:=k) aq;have z:=sH y;have wk:IK (k:Int)=(k:Int):=IntWalk.wrap64_in _ aq;have k0:=gT k;have I:(k:Int)<(k:Int)+1:=aq;obtain⟨d,t⟩:=q.o.heap;have s:=q.o.row (ds:=x.row);obtain⟨p,g⟩:=s.heap;go_enter func67,ntmps67;go_upto_region 1 with fail;rw[<-a];clear a;go_wp2_with (refine wpList_store_row rfl 139 (.tmp 2) (.tmp 10) rfl (w.heap.size+1) x.row rfl aD d _ t aF aD ed ?_);refine bodyPost_ret (results_cell_row results67 _ _ (w.heap.size+1) p _ (0,0) _ aD g underlying139 rfl aF) rfl ?_;exact⟨x.1,x.2.1,x.2.2,z.o,rfl,below_setRow f.o aq _⟩
def N7(A:aB)(n c:Nat)(i a v z:Int)(w:EE):GK prog 145 #[Q4 (mD A n c i a v),ae aj z] w (PB w):=by
 have⟨d,aP⟩:=eX (w.alloc (RM #[Pl A n c,ae aj i,ae aj a,ae aj v] 136));have b:ak (az w d):=⟨nR⟩;have g:ak (Bx d w.heap.size #[Pl A n c,ae aj i,ae aj a,ae aj v]):=⟨re⟩;have⟨c0,h,f,j⟩:=g.o.q4;go_enter func145,ntmps145;go_upto_region 1 with fail;rw[<-aP];clear aP;by_cases k:z<=125
 .by_cases hi:(i==0)=OX
  .go_wp2
   go_ret;exact⟨_,rfl,b.o⟩
  .have hi:(i==0)=OZ:=by simpa using hi
   go_wp2;go_ret;exact⟨_,rfl,b.o⟩
 .go_wp2
  go_ret;exact⟨_,rfl,b.o⟩
def Zm(A:aB)(n c:Nat)(x:En)(es:List En)(w:EE)(h:zA w w.heap.size A n es)(U:n<=1000000):GK prog 146 #[Pl A n c,Q4 x.row] w (λe w'=>∃(E:aB) (F:Nat),e=RE (Pl E (n+1) F)/\aA w' w.heap.size 139 3 E (n+1) F ((es++[x]).flatMap Mv)/\az w w'):=by
 have⟨k,g,i,z⟩:=box1 w x.row 139;have R:=sH h;have Q:=h.1;go_enter func146,ntmps146;go_upto_region 1 with fail;rw[<-g];clear g;go_wp2;go_loopg[5,6](n+1)(λgg I L wr=>∃(j:Nat) (C:aB) (d:Nat),n-j<gg/\j<=n/\I=Pl C j d/\L=ae aj (j:Int)/\ak (aA wr k.heap.size 139 3 C j d ((es.take j).flatMap Mv))/\ak (az k wr))
 .exact⟨0,OJ,0,aq,aq,rfl,rfl,⟨aA.nil _ _ _ _⟩,cJ⟩
 obtain⟨j,C,d,P,Y,rfl,rfl,t,a⟩:=hrel;have s:=i.t a.o;by_cases m:j<n
 .have O:=aU j n
  obtain⟨X,y,rfl,H,W,S,T⟩:=(R.o.Z s.o s.o.size).at m;have o:ak (es.take (j+1)=es.take j++[y]):=⟨by
   obtain⟨K,J⟩:=List.getElem?_eq_some_iff.1 H;rw[List.take_succ_eq_append_getElem K,J]⟩
  have r:=a.o.size;go_wp2_with (at_builtin;refine cG Xu rfl (.tmp 13) (.tmp 18) rfl rfl (aA.alloc t.o _) rfl (news:=Mv y) rfl (lC _ (Mv y) _) (λu hu=>aap) aq br ?_;intro D c8 l f b;have q:=sH f;have p:ak (az k l):=⟨(a.o.alloc aq _).trans b⟩;clear f b);go_roundg(n-j)
  .exact⟨j+1,D,c8,aq,aq,rfl,aV,⟨by rw[o.o,List.flatMap_append];simpa using q.o⟩,p⟩
  omega
 .have O:=cI j n
  obtain rfl:j=n:=aq;obtain⟨c0,V,G⟩:wr.cell? ⟨w.heap.size,0,OJ⟩=OH (ae aj x.1)/\wr.cell? ⟨w.heap.size,1,OJ⟩=OH (ae aj x.2.1)/\wr.cell? ⟨w.heap.size,2,OJ⟩=OH (PF x.2.2):=by
   have:=z.o.ar a.o z.o.lt;exact⟨this.cell 0,this.cell 1,this.cell 2⟩
  have r:=a.o.size;have o:ak (es.take j=es):=⟨List.take_of_length_le aq⟩;go_wp2_with (at_builtin;refine cG Xu rfl (.tmp 20) (.tmp 22) rfl rfl (aA.alloc t.o _) rfl (news:=Mv x) rfl (lC _ (Mv x) _) (λu hu=>aap) aq br ?_;intro D c8 l f b;have q:=sH f;have p:ak (az k l):=⟨(a.o.alloc aq _).trans b⟩;clear f b);go_ret;refine⟨_,_,rfl,aA.eN ?_ i.o.size,i.o.trans (p.o.mono i.o.size)⟩;have:=q.o;rw[o.o]at this;simpa using this
@[go_sem] theorem agN(a b : Int)(c : Bool)(w : EE) : (Instr.field 139 (Q4 #[ae aj a,ae aj b, PF c]) 0).run prog w = .ok (ae aj a) w := by kernel_rfl
@[go_sem] theorem agj(a b : Int)(c : Bool)(w : EE) : (Instr.field 139 (Q4 #[ae aj a,ae aj b, PF c]) 1).run prog w = .ok (ae aj b) w := by kernel_rfl
@[go_sem] theorem agG(a b : Int)(c : Bool)(w : EE) : (Instr.field 139 (Q4 #[ae aj a,ae aj b, PF c]) 2).run prog w = .ok (PF c) w := by kernel_rfl
def GF{W:EE}{e d a c:EN}(h:Bx W b #[e,d,a,c])(u:EN):Bx (W.setCell ⟨b,0,OJ⟩ u) b #[u,d,a,c]/\Bx (W.setCell ⟨b,1,OJ⟩ u) b #[e,u,a,c]/\Bx (W.setCell ⟨b,2,OJ⟩ u) b #[e,d,u,c]/\Bx (W.setCell ⟨b,3,OJ⟩ u) b #[e,d,a,u]:=⟨by simpa using h.jq 0 u,by simpa using h.jq 1 u,by simpa using h.jq 2 u,by simpa using h.jq 3 u⟩
def WS(A:aB)(n c N:Nat)(i a v Z:Int)(w:EE)(h:vi w N A n c v)(hN':N<=100000):GK prog 70 #[Q4 (mD A n c i a v),ae aj Z] w (Oe w (N+1)):=by
 have⟨C,aP⟩:=eX ((w.alloc (RM #[Pl A n c,ae aj i,ae aj a,ae aj v] 136)).alloc (RM #[Pl OJ 0 0,ae aj 0,ae aj 0,ae aj 0] 136));have BB:=zX aP;have J:=sH BB.1;have gL:w.heap.size+2<=C.heap.size:=oW;have⟨S,X2⟩:=K' BB.2.1 BB.2.2;obtain⟨hN,II,hcm,t,Uh,U9⟩:=h;have⟨y,R⟩:=K' Uh U9;have r:0<n:=TG;have⟨c0,U,s,Q⟩:=S.o.q4;go_enter func70,ntmps70;go_upto_region 1 with fail;rw[<-aP];clear aP;go_cut[5](λv M=>(∃z:Int,v=ae aj z)/\ak (EI C.heap.size C M))
 case first=>
  by_cases q1:(Z==17)=OX
  .go_wp2_with fail
   refine(ou A n c i a v t C (y.o.Z J.o J.o.size) r aq).mono ?_;rintro e H ⟨x0,x1,x2,_,rfl,T⟩;have m:=sH T;go_wp2_with fail;refine(DB _ _ _).mono ?_;rintro e D ⟨z,rfl,l⟩;have O:=m.t l;go_wp2;go_meet;exact⟨⟨_,rfl⟩,O⟩
  .have q1:(Z==17)=OZ:=by simpa using q1
   go_wp2_with fail;refine(ou A n c i a v t C (y.o.Z J.o J.o.size) r aq).mono ?_;rintro e H ⟨x0,x1,x2,_,rfl,T⟩;have m:=sH T;go_wp2_with fail;refine(DB _ _ _).mono ?_;rintro e D ⟨z,rfl,l⟩;have O:=m.t l;go_wp2;go_meet;exact⟨⟨_,rfl⟩,O⟩
 case rest=>
 obtain⟨⟨z,rfl⟩,m⟩:=hcut;have⟨X3,X4⟩:=K' (S.o.ar m.o S.o.lt) (X2.o.ar m.o X2.o.lt);have BG:=J.t m.o;have dZ:=m.o.size;generalize C.heap.size=S1 at*
 rename EE=>H
 have⟨c0,U,s,Q⟩:=X3.o.q4;go_upto_if 18 with fail;go_cut[6](λv M=>(∃z:Int,v=ae aj z)/\H=M)
 case first=>
  go_wp2_with fail
  all_goals
   go_meet;exact⟨⟨_,rfl⟩,rfl⟩
 case rest=>
 obtain⟨⟨o,rfl⟩,rfl⟩:=hcut;go_upto_if 20 with fail;go_cut[6](λv M=>(∃z:Int,v=ae aj z)/\H=M)
 case first=>
  go_wp2_with fail
  all_goals
   go_meet;exact⟨⟨_,rfl⟩,rfl⟩
 case rest=>
 obtain⟨⟨o,rfl⟩,rfl⟩:=hcut;go_wp2_with fail;refine(N7 A n c i a v z H).mono ?_;rintro e D ⟨b,rfl,l⟩;have O:=sH l;have k:=BG.t l;have⟨E,u⟩:=K' (X3.o.ar l X3.o.lt) (X4.o.ar l X4.o.lt);have⟨c0,U,s,Q⟩:=E.o.q4;cases b
 .by_cases q:(i==0)=OX
  .have f2:=E.o.fz 2
   have L:=(GF E.o (ae aj (IK (a+1)))).2.2.1;have F:Bx (D.setCell ⟨w.heap.size,2,OJ⟩ (ae aj (IK (a+1)))) (w.heap.size+1) _:=u.o.fL aq 2 _;have BI:EI w.heap.size w (D.setCell ⟨w.heap.size,2,OJ⟩ (ae aj (IK (a+1)))):=k.o.setCell (p:=⟨w.heap.size,2,OJ⟩) cr _;have⟨k0,k1,k2,k3⟩:=L.q4;obtain⟨d,G⟩:=(F).heap;have K:=(F).row (ds:=#[Pl A n c,ae aj i,ae aj (IK (a+1)),ae aj v]);obtain⟨f,j⟩:=K.heap;go_wp2_with (refine wpList_store_row rfl 136 (.tmp 4) (.tmp 38) rfl (w.heap.size+1) #[Pl A n c,ae aj i,ae aj (IK (a+1)),ae aj v] rfl aD d _ G aF aD ed ?_);refine bodyPost_ret (results_cell_row results70 _ _ (w.heap.size+1) f _ (0,0) _ aD j underlying136 rfl aF) rfl ?_;exact⟨_,_,_,_,_,_,rfl,⟨aq,aq,aq,t,y.o.Z (below_setRow (BI) aq _) YJ,R.o⟩,below_setRow (BI) aq _⟩
  .have q:(i==0)=OZ:=by simpa using q
   obtain⟨d,G⟩:=(u.o).heap;have K:=(u.o).row (ds:=#[Pl A n c,ae aj i,ae aj a,ae aj v]);obtain⟨f,j⟩:=K.heap;go_wp2_with (refine wpList_store_row rfl 136 (.tmp 4) (.tmp 38) rfl (w.heap.size+1) #[Pl A n c,ae aj i,ae aj a,ae aj v] rfl aD d _ G aF aD ed ?_);refine bodyPost_ret (results_cell_row results70 _ _ (w.heap.size+1) f _ (0,0) _ aD j underlying136 rfl aF) rfl ?_;exact⟨_,_,_,_,_,_,rfl,⟨aq,aq,aq,t,y.o.Z (below_setRow (k.o) aq _) (by have:=(k.o).size;simpa using this),R.o⟩,below_setRow (k.o) aq _⟩
 have HA:=sH (λx=>Zm A n c x t D (y.o.Z k.o k.o.size) aq);go_wp2_with fail;refine(HA.o (z,o,OZ)).mono ?_;rintro e w5 ⟨B,I,rfl,W,Y⟩;have BI:=k.t Y;have hz5:=aA.le W;have hy5:=aA.tE W
 have hle:(t++[(z,o,OZ)]).length=n+1:=by have:=y.o.1;simp[this]
 have sQ:=k.o.size;have HO:ak (∀P,(∀g:Nat,D.heap.size<=g->P.heap[g]? =w5.heap[g]?)->zA P P.heap.size B (n+1) (t++[(z,o,OZ)])):=⟨λP hk=>Bn W hle hk⟩;have HQ:=sH (R.o.add (z,o,OZ));have L:=E.o.ar Y E.o.lt;have V:=u.o.ar Y u.o.lt;have EU:=u.o.lt;have f0:=L.fz 0;have X:=(GF L (Pl B (n+1) I)).1;have F:Bx (w5.setCell ⟨w.heap.size,0,OJ⟩ (Pl B (n+1) I)) (w.heap.size+1) _:=V.fL aq 0 _;have BJ:EI w.heap.size w (w5.setCell ⟨w.heap.size,0,OJ⟩ (Pl B (n+1) I)):=BI.o.setCell (p:=⟨w.heap.size,0,OJ⟩) cr _;have⟨c0,U,s,Q⟩:=L.q4;have⟨k0,k1,k2,k3⟩:=X.q4;obtain⟨d,G⟩:=(F).heap;have K:=(F).row (ds:=#[Pl B (n+1) I,ae aj i,ae aj a,ae aj v]);obtain⟨f,j⟩:=K.heap;go_wp2_with (refine wpList_store_row rfl 136 (.tmp 4) (.tmp 38) rfl (w.heap.size+1) #[Pl B (n+1) I,ae aj i,ae aj a,ae aj v] rfl aD d _ G aF aD ed ?_);refine bodyPost_ret (results_cell_row results70 _ _ (w.heap.size+1) f _ (0,0) _ aD j underlying136 rfl aF) rfl ?_;exact⟨_,_,_,_,_,_,rfl,⟨aq,aq,aq,_,HO.o _ λg hg=>Br _ aq _ _ _ aq,HQ.o⟩,below_setRow BJ aq _⟩
def xy(A:aB)(n c N:Nat)(i j v:Int)(O:Bool)(w:EE)(h:vi w N A n c v)(hN':N<=100000):GK prog 71 #[Q4 (mD A n c i j v),PF O] w (Oe w (N+1)):=by
 have⟨W1,aP⟩:=eX ((w.alloc (RM #[Pl A n c,ae aj i,ae aj j,ae aj v] 136)).alloc (RM #[Pl OJ 0 0,ae aj 0,ae aj 0,ae aj 0] 136));have W:=zX aP;have R:=sH W.1;have gL:w.heap.size+2<=W1.heap.size:=oW;have⟨P,X2⟩:=K' W.2.1 W.2.2;obtain⟨hN,II,hcm,G,Uh,U9⟩:=h;have⟨B,K⟩:=K' Uh U9;have C:0<n:=TG;have⟨c0,L,d,J⟩:=P.o.q4;go_enter func71,ntmps71;go_upto_region 1 with fail;rw[<-aP];clear aP;go_wp2_with fail;refine(ou A n c i j v G W1 (B.o.Z R.o R.o.size) C aq).mono ?_;rintro e w2 ⟨x0,x1,x2,_,rfl,b2⟩;have B2:=sH b2;go_wp2_with fail;refine(DB _ _ _).mono ?_;rintro e w4 ⟨z,rfl,y⟩;have Y:=B2.t y;have BG:=R.t Y.o;have⟨V,X4⟩:=K' (P.o.ar Y.o P.o.lt) (X2.o.ar Y.o X2.o.lt);have⟨c0,L,d,J⟩:=V.o.q4;go_wp2_with fail;refine(N7 A n c i j v z w4).mono ?_;rintro e k ⟨b,rfl,y⟩;have m:=BG.t y;have⟨a,s⟩:=K' (V.o.ar y V.o.lt) (X4.o.ar y X4.o.lt);have⟨c0,L,d,J⟩:=a.o.q4;cases b
 .have f1:=a.o.fz 1
  have F:=(GF a.o (ae aj (IK (i+1)))).2.1;have u:Bx (k.setCell ⟨w.heap.size,1,OJ⟩ (ae aj (IK (i+1)))) (w.heap.size+1) _:=s.o.fL aq 1 _;have BI:az w (k.setCell ⟨w.heap.size,1,OJ⟩ (ae aj (IK (i+1)))):=m.o.setCell (p:=⟨w.heap.size,1,OJ⟩) cr _;have⟨k0,k1,k2,k3⟩:=F.q4;obtain⟨l,M⟩:=(u).heap;have S:=(u).row (ds:=#[Pl A n c,ae aj (IK (i+1)),ae aj j,ae aj v]);obtain⟨q,r⟩:=S.heap;go_wp2_with (refine wpList_store_row rfl 136 (.tmp 4) (.tmp 28) rfl (w.heap.size+1) #[Pl A n c,ae aj (IK (i+1)),ae aj j,ae aj v] rfl aD l _ M aF aD ed ?_);refine bodyPost_ret (results_cell_row results71 _ _ (w.heap.size+1) q _ (0,0) _ aD r underlying136 rfl aF) rfl ?_;exact⟨_,_,_,_,_,_,rfl,⟨aq,aq,aq,G,B.o.Z (below_setRow (BI) aq _) YJ,K.o⟩,below_setRow (BI) aq _⟩
 have hv:0<=v/\v<=100000:=by
  have h1:=K.o.aed;have h2:=B.o.1;have h3:=K.o.2.1
  omega
 have f3:=a.o.fz 3;have E:=(GF a.o (ae aj (v+1))).2.2.2;have f:Bx (k.setCell ⟨w.heap.size,3,OJ⟩ (ae aj (v+1))) (w.heap.size+1) _:=s.o.fL aq 3 _;have H:ak (az w (k.setCell ⟨w.heap.size,3,OJ⟩ (ae aj (v+1)))):=⟨m.o.setCell (p:=⟨w.heap.size,3,OJ⟩) cr _⟩;have wv:IK (v+1)=v+1:=IntWalk.wrap64_in _ aq;go_upto_region 4 with fail;have⟨k,o⟩:∃w6,w6=k.setCell ⟨w.heap.size,3,OJ⟩ (ae aj (v+1)):=⟨_,rfl⟩;rw[<-o]at E f H;rw[<-o];clear o;have⟨a,s⟩:=K' E f;have m:=H;have⟨c0,L,d,J⟩:=a.o.q4;have HA:=sH (λx=>Zm A n c x G k (B.o.Z m.o m.o.size) aq);go_wp2_with fail;refine(HA.o (z,0,OX)).mono ?_;rintro e X ⟨t,D,rfl,Q,U⟩;have BI:=m.t U;have hz5:=aA.le Q;have hy5:=aA.tE Q
 have hle:(G++[(z,0,OX)]).length=n+1:=by have:=B.o.1;simp[this]
 have sQ:=m.o.size;have HO:ak (∀I,(∀g:Nat,k.heap.size<=g->I.heap[g]? =X.heap[g]?)->zA I I.heap.size t (n+1) (G++[(z,0,OX)])):=⟨λI hk=>Bn Q hle hk⟩;have HQ:=sH (K.o.aha z 0);have F:=a.o.ar U a.o.lt;have f:=s.o.ar U s.o.lt;have Z:=s.o.lt;have f0:=F.fz 0;have T:=(GF F (Pl t (n+1) D)).1;have u:Bx (X.setCell ⟨w.heap.size,0,OJ⟩ (Pl t (n+1) D)) (w.heap.size+1) _:=f.fL aq 0 _;have BJ:az w (X.setCell ⟨w.heap.size,0,OJ⟩ (Pl t (n+1) D)):=BI.o.setCell (p:=⟨w.heap.size,0,OJ⟩) cr _;have⟨c0,L,d,J⟩:=F.q4;have⟨k0,k1,k2,k3⟩:=T.q4;obtain⟨l,M⟩:=(u).heap;have S:=(u).row (ds:=#[Pl t (n+1) D,ae aj i,ae aj j,ae aj (v+1)]);obtain⟨q,r⟩:=S.heap;go_wp2_with (refine wpList_store_row rfl 136 (.tmp 4) (.tmp 28) rfl (w.heap.size+1) #[Pl t (n+1) D,ae aj i,ae aj j,ae aj (v+1)] rfl aD l _ M aF aD ed ?_);refine bodyPost_ret (results_cell_row results71 _ _ (w.heap.size+1) q _ (0,0) _ aD r underlying136 rfl aF) rfl ?_;exact⟨_,_,_,_,_,_,rfl,⟨aq,aq,aq,_,HO.o _ λg hg=>Br _ aq _ _ _ aq,HQ.o⟩,below_setRow BJ aq _⟩
def ac9(A:aB)(n c N:Nat)(i q v:Int)(w:EE)(h:vi w N A n c v)(hN':N<=100000):GK prog 73 #[Q4 (mD A n c i q v)] w (Oe w N):=by
 have⟨u,aP⟩:=eX ((w.alloc (RM #[Pl A n c,ae aj i,ae aj q,ae aj v] 136)).alloc (RM #[Pl OJ 0 0,ae aj 0,ae aj 0,ae aj 0] 136));have R:=zX aP;have D:=sH R.1;have gL:w.heap.size+2<=u.heap.size:=oW;have⟨C,H⟩:=K' R.2.1 R.2.2;obtain⟨hN,M,hcm,F,Uh,U9⟩:=h;have⟨g,r⟩:=K' Uh U9;have X:0<n:=TG;have⟨c0,W,B,S⟩:=C.o.q4;go_enter func73,ntmps73;go_upto_region 1 with fail;rw[<-aP];clear aP;by_cases hi:0<i
 .have f1:=C.o.fz 1
  have Q:=(GF C.o (ae aj (IK (i-1)))).2.1;have x:Bx (u.setCell ⟨w.heap.size,1,OJ⟩ (ae aj (IK (i-1)))) (w.heap.size+1) _:=H.o.fL aq 1 _;have BI:az w (u.setCell ⟨w.heap.size,1,OJ⟩ (ae aj (IK (i-1)))):=D.o.setCell (p:=⟨w.heap.size,1,OJ⟩) cr _;have⟨k0,k1,k2,k3⟩:=Q.q4;obtain⟨a,z⟩:=(x).heap;have E:=(x).row (ds:=#[Pl A n c,ae aj (IK (i-1)),ae aj q,ae aj v]);obtain⟨d,e⟩:=E.heap;go_wp2_with (refine wpList_store_row rfl 136 (.tmp 2) (.tmp 11) rfl (w.heap.size+1) #[Pl A n c,ae aj (IK (i-1)),ae aj q,ae aj v] rfl aD a _ z aF aD ed ?_);refine bodyPost_ret (results_cell_row results73 _ _ (w.heap.size+1) d _ (0,0) _ aD e underlying136 rfl aF) rfl ?_;exact⟨_,_,_,_,_,_,rfl,⟨aq,aq,aq,F,g.o.Z (below_setRow (BI) aq _) YJ,r.o⟩,below_setRow (BI) aq _⟩
 by_cases l:(v==0)=OX
 .obtain⟨a,z⟩:=(H.o).heap
  have E:=(H.o).row (ds:=#[Pl A n c,ae aj i,ae aj q,ae aj v]);obtain⟨d,e⟩:=E.heap;go_wp2_with (refine wpList_store_row rfl 136 (.tmp 2) (.tmp 15) rfl (w.heap.size+1) #[Pl A n c,ae aj i,ae aj q,ae aj v] rfl aD a _ z aF aD ed ?_);refine bodyPost_ret (results_cell_row results73 _ _ (w.heap.size+1) d _ (0,0) _ aD e underlying136 rfl aF) rfl ?_;exact⟨_,_,_,_,_,_,rfl,⟨aq,aq,aq,F,g.o.Z (below_setRow (D.o) aq _) (by have:=(D.o).size;simpa using this),r.o⟩,below_setRow (D.o) aq _⟩
 have Z:0<v/\v<=100000:=by
  have h1:=r.o.aed;have h2:=g.o.1;have h3:=r.o.2.1
  have h4:v≠0:=by simpa using l
  omega
 have l:(v==0)=OZ:=by simpa using l
 have f2:=C.o.fz 2;have J:=sH ((GF C.o (ae aj 0)).2.2.1);have T:ak (Bx (u.setCell ⟨w.heap.size,2,OJ⟩ (ae aj 0)) (w.heap.size+1) _):=⟨H.o.fL aq 2 _⟩;have G:ak (az w (u.setCell ⟨w.heap.size,2,OJ⟩ (ae aj 0))):=⟨D.o.setCell (p:=⟨w.heap.size,2,OJ⟩) cr _⟩;go_upto_region 7 with fail;have⟨L,f⟩:=eX (u.setCell ⟨w.heap.size,2,OJ⟩ (ae aj 0));rw[<-f]at J T G;rw[<-f];clear f;have⟨c0,W,B,S⟩:=J.o.q4;go_wp2;go_loopg[3](n+1)(λgg v3 wr=>∃(m:Nat),m<gg/\v3=ae aj (m:Int)/\ak (tU F m)/\wr=L)
 .exact⟨n,aq,rfl,⟨by have:=tU.start F;rwa [g.o.1]at this⟩,rfl⟩
 obtain⟨m,hg,rfl,I,rfl⟩:=hrel;have Dm:=I.o.pos r.o Z.1;have hmn:m<=n:=by have:=I.o.1;have:=g.o.1;omega
 obtain⟨k,rfl⟩:∃k,m=k+1:=⟨m-1,aq⟩;obtain⟨ad,y,eA,U,e0,e1,e2⟩:=(g.o.Z G.o G.o.size).at (j:=k) aq;have⟨ES,EZ⟩:=K' (I.o.step U) (I.o.stop r.o Z.1 U);have wk:IK (k:Int)=(k:Int):=IntWalk.wrap64_in _ aq;have k0:=gT k;have k1:=aU k n;obtain⟨t,s,Y,DL,Mw,hcut⟩:=zA.cut (P:=prog) (A:=A) (n:=n) Xu (c:=c) (j:=k) aq M (k:Int) rfl;have HC:=sH (hcut w w.heap.size F g.o);subst eA;generalize y.2.2=b at*;cases b
 .have E2:=sH (ES.o rfl)
  go_wp2;go_roundg(k+1)
  .exact⟨k,aq,lZ,E2,rfl⟩
  omega
 have GZ:=sH (EZ.o rfl);have f0:=J.o.fz 0;have K:=(GF J.o (Pl t k s)).1;have V:Bx (wr.setCell ⟨w.heap.size,0,OJ⟩ (Pl t k s)) (w.heap.size+1) _:=T.o.fL aq 0 _;have BI:ak (az w (wr.setCell ⟨w.heap.size,0,OJ⟩ (Pl t k s))):=⟨G.o.setCell (p:=⟨w.heap.size,0,OJ⟩) cr _⟩;go_upto_region 11 with fail;have⟨L,o⟩:=eX (wr.setCell ⟨w.heap.size,0,OJ⟩ (Pl t k s));rw[<-o]at K V BI;rw[<-o];clear o;have⟨c0,W,B,S⟩:=K.q4;have f3:=K.fz 3;have wv:IK (v-1)=v-1:=IntWalk.wrap64_in _ aq;have Q:=(GF K (ae aj (v-1))).2.2.2;have x:Bx (L.setCell ⟨w.heap.size,3,OJ⟩ (ae aj (v-1))) (w.heap.size+1) _:=V.fL aq 3 _;have O:az w (L.setCell ⟨w.heap.size,3,OJ⟩ (ae aj (v-1))):=BI.o.setCell (p:=⟨w.heap.size,3,OJ⟩) cr _;have⟨k0',k1',k2',k3'⟩:=Q.q4;obtain⟨a,z⟩:=(x).heap;have E:=(x).row (ds:=#[Pl t k s,ae aj i,ae aj 0,ae aj (v-1)]);obtain⟨d,e⟩:=E.heap;go_wp2_with (refine wpList_store_row rfl 136 (.tmp 2) (.tmp 40) rfl (w.heap.size+1) #[Pl t k s,ae aj i,ae aj 0,ae aj (v-1)] rfl aD a _ z aF aD ed ?_);refine bodyPost_ret (results_cell_row results73 _ _ (w.heap.size+1) d _ (0,0) _ aD e underlying136 rfl aF) rfl ?_;exact⟨_,_,_,_,_,_,rfl,⟨aq,aq,aq,_,HC.o.Z (below_setRow O aq _) (by have:=O.size;simpa using this),GZ.o⟩,below_setRow O aq _⟩
def ra(s:G:=by
 obtain⟨fg,hX⟩:=(X4.o).heap
 have X9:=(X4.o).row (ds:=#[Pl A n c,ae aj i,ae aj em,ae aj v]);obtain⟨gv,dD⟩:=X9.heap;go_wp2_with (refine wpList_store_row rfl 136 (.tmp 2) (.tmp 34) rfl (w.heap.size+1) #[Pl A n c,ae aj i,ae aj em,ae aj v] rfl aD fg _ hX aF aD ed ?_);refine bodyPost_ret (results_cell_row results69 _ _ (w.heap.size+1) gv _ (0,0) _ aD dD underlying136 rfl aF) rfl ?_;exact⟨_,_,_,_,_,_,rfl,⟨aq,aq,aq,es,HE.o.Z (below_setRow (B2.o) aq _) ahC,HG.o⟩,below_setRow (B2.o) aq _⟩):G:=s
def aer(A:aB)(n c N:Nat)(i em v:Int)(w:EE)(h:vi w N A n c v)(G:N<=100000):GK prog 69 #[Q4 (mD A n c i em v)] w (Oe w N):=by
 have⟨r,aP⟩:=eX ((w.alloc (RM #[Pl A n c,ae aj i,ae aj em,ae aj v] 136)).alloc (RM #[Pl OJ 0 0,ae aj 0,ae aj 0,ae aj 0] 136));have B:=zX aP;have a:=sH B.1;have J:w.heap.size+2<=r.heap.size:=oW;have⟨d,o⟩:=K' B.2.1 B.2.2;obtain⟨hN,s,O,es,Uh,U9⟩:=h;have⟨HE,HG⟩:=K' Uh U9;have g:0<n:=TG;have⟨c0,R,t,I⟩:=d.o.q4;go_enter func69,ntmps69;go_upto_region 1 with fail;rw[<-aP];clear aP;by_cases hi:0<i
 .obtain⟨fg,hX⟩:=(o.o).heap
  have X9:=(o.o).row (ds:=#[Pl A n c,ae aj i,ae aj em,ae aj v]);obtain⟨gv,dD⟩:=X9.heap;go_wp2_with (refine wpList_store_row rfl 136 (.tmp 2) (.tmp 34) rfl (w.heap.size+1) #[Pl A n c,ae aj i,ae aj em,ae aj v] rfl aD fg _ hX aF aD ed ?_);refine bodyPost_ret (results_cell_row results69 _ _ (w.heap.size+1) gv _ (0,0) _ aD dD underlying136 rfl aF) rfl ?_;exact⟨_,_,_,_,_,_,rfl,⟨aq,aq,aq,es,HE.o.Z (below_setRow (a.o) aq _) (by have:=(a.o).size;simpa using this),HG.o⟩,below_setRow (a.o) aq _⟩
 by_cases Y:0<em
 .have f2:=d.o.fz 2
  have y:=(GF d.o (ae aj (IK (em-1)))).2.2.1;have b:Bx (r.setCell ⟨w.heap.size,2,OJ⟩ (ae aj (IK (em-1)))) (w.heap.size+1) _:=o.o.fL aq 2 _;have BI:az w (r.setCell ⟨w.heap.size,2,OJ⟩ (ae aj (IK (em-1)))):=a.o.setCell (p:=⟨w.heap.size,2,OJ⟩) cr _;have⟨k0,V,k2,Z⟩:=y.q4;obtain⟨fg,hX⟩:=(b).heap;have X9:=(b).row (ds:=#[Pl A n c,ae aj i,ae aj (IK (em-1)),ae aj v]);obtain⟨gv,dD⟩:=X9.heap;go_wp2_with (refine wpList_store_row rfl 136 (.tmp 2) (.tmp 34) rfl (w.heap.size+1) #[Pl A n c,ae aj i,ae aj (IK (em-1)),ae aj v] rfl aD fg _ hX aF aD ed ?_);refine bodyPost_ret (results_cell_row results69 _ _ (w.heap.size+1) gv _ (0,0) _ aD dD underlying136 rfl aF) rfl ?_;exact⟨_,_,_,_,_,_,rfl,⟨aq,aq,aq,es,HE.o.Z (below_setRow (BI) aq _) YJ,HG.o⟩,below_setRow (BI) aq _⟩
 go_wp2_with fail;refine(ou A n c i em v es r (HE.o.Z a.o a.o.size) g aq).mono ?_;rintro e C ⟨x0,x1,D,W,rfl,x⟩;have B2:=a.t x;have⟨z,X4,S⟩:=MO (d.o.ar x d.o.lt) (o.o.ar x o.o.lt) W;have⟨c0,R,t,I⟩:=z.o.q4;by_cases M:1<n;rotate_left
 .have f:=cI 1 n
  cases D
  .exact ra
  .exact ra
 cases D;rotate_left
 .exact ra
 have f:=aU 1 n;obtain⟨k,rfl⟩:∃k,n=k+1:=⟨n-1,aq⟩;have H:=sH (HG.o.pop (m:=k) HE.o.1 aq (by simpa using S.o) rfl);have wk:IK (k:Int)=(k:Int):=IntWalk.wrap64_in _ aq;have k0:=gT k;have V:(k:Int)<(k:Int)+1:=aq;obtain⟨q,l,E,K,F,hcut⟩:=zA.cut (P:=prog) (A:=A) (n:=k+1) Xu (c:=c) (j:=k) aq s (k:Int) rfl;have U:=sH (hcut w w.heap.size es HE.o);have f0:=z.o.fz 0;have y:=(GF z.o (Pl q k l)).1;have b:Bx (C.setCell ⟨w.heap.size,0,OJ⟩ (Pl q k l)) (w.heap.size+1) _:=X4.o.fL aq 0 _;have u:az w (C.setCell ⟨w.heap.size,0,OJ⟩ (Pl q k l)):=B2.o.setCell (p:=⟨w.heap.size,0,OJ⟩) cr _;have⟨Q,X,T,L⟩:=y.q4;obtain⟨fg,hX⟩:=(b).heap;have X9:=(b).row (ds:=#[Pl q k l,ae aj i,ae aj em,ae aj v]);obtain⟨gv,dD⟩:=X9.heap;go_wp2_with (refine wpList_store_row rfl 136 (.tmp 2) (.tmp 34) rfl (w.heap.size+1) #[Pl q k l,ae aj i,ae aj em,ae aj v] rfl aD fg _ hX aF aD ed ?_);refine bodyPost_ret (results_cell_row results69 _ _ (w.heap.size+1) gv _ (0,0) _ aD dD underlying136 rfl aF) rfl ?_;exact⟨_,_,_,_,_,_,rfl,⟨aq,aq,aq,_,U.o.Z (below_setRow u aq _) (by have:=u.size;simpa using this),H.o⟩,below_setRow u aq _⟩
def adQ(A:aB)(n c N:Nat)(i b v z:Int)(w:EE)(h:vi w N A n c v)(x:N<=100000):GK prog 68 #[Q4 (mD A n c i b v),ae aj z] w (PI w):=by
 have⟨k,aP⟩:=eX (w.alloc (RM #[Pl A n c,ae aj i,ae aj b,ae aj v] 136));have g:ak (az w k):=⟨nR⟩;have l:ak (Bx k w.heap.size #[Pl A n c,ae aj i,ae aj b,ae aj v]):=⟨re⟩;have⟨c0,r,j,y⟩:=l.o.q4;obtain⟨I,t,C,o,Uh,U9⟩:=h;have p:=sH Uh;have a:0<n:=TG;go_enter func68,ntmps68;go_upto_region 1 with fail;rw[<-aP];clear aP;go_wp2_with fail;refine(ou A n c i b v o k (p.o.Z g.o g.o.size) a aq).mono ?_;rintro e B ⟨G,m,E,_,rfl,d⟩;have f:=g.t d;have⟨c0,r,j,y⟩:=(l.o.ar d l.o.lt).q4;by_cases q:(m==0)=OX
 .have u:(m !=0)=OZ:=by simpa using q
  go_wp2;go_ret;exact⟨_,rfl,f.o⟩
 .have u:(m !=0)=OX:=by simpa using q
  go_wp2_with fail;refine(ou A n c i b v o B (p.o.Z f.o f.o.size) a aq).mono ?_;rintro e J ⟨H,F,D,_,rfl,d⟩;have s:=f.t d;go_wp2;go_ret;exact⟨_,rfl,s.o⟩
def afg(s:G:=by
 go_enter func72,ntmps72
 go_wp2_with fail;refine(Gt A n c _ _ w R.o hc hn).mono ?_;rintro e w2 ⟨x,rfl,b2⟩;have B2:=sH b2;go_wp2_with fail
 all_goals
  go_ret;exact⟨_,rfl,B2.o⟩):G:=s
def Vp(A C:aB)(n c m d j:Nat)(w:EE)(h:Iw w w.heap.size .i64 aK A n)(k:Iw w w.heap.size .i64 aK C m)(hc:n<=c)(hn:n<=100000)(a:j<m):GK prog 72 #[Pl A n c,Pl C m d,ae aj (j:Int)] w (PB w):=by
 obtain⟨l,z,rfl,_,g⟩:=k.get a;have R:=sH h;have b:=gT j;have i:=aU j m;by_cases f:z<0
 .exact afg
 .exact afg
section
variable{w0 w w':EE}{N B0 M M' n8 c8 n9 c9:Nat}{A8 A9:aB}
def vi.grown{C:aB}{m d G:Nat}{vs:List EN}(h:vi w M A n c v)(k:aA w B e G C m d vs)(i:e≠139)(x:w.grownBy w' (Value.slice C m d).ownBlock)(O:w.heap.size<=w'.heap.size):vi w' M A n c v:=by
 obtain⟨u,J,s,F,⟨q,H⟩,t⟩:=h;refine⟨u,J,s,F,⟨q,λK=> ?_⟩,t⟩;obtain⟨f,r,y,⟨cur,z,o⟩,I⟩:=H K;have key:w'.heap[f.block]? =w.heap[f.block]? :=x.block _ y (by
  rcases aA.dU k with rfl|⟨g,rfl⟩
  .simp[Value.ownBlock]
  .intro b
   simp only[Value.ownBlock]at b;injection b with b
   obtain⟨l,D,a⟩:=aA.typ k;rw[<-b,o]at a;injection a with a
   injection a with _ a
   exact i a.symm)
 refine⟨f,r,aq,⟨cur,z,key.trans o⟩,λj e i=> ?_⟩;obtain⟨E,p,L⟩:=I j e i;exact⟨(World.cell?_of_block Md).trans E,(World.cell?_of_block Md).trans p,(World.cell?_of_block Md).trans L⟩
def vi.put{N:Nat}{cs ds:Array EN}(h:vi w M A n c v)(bx:w.heap[N]? =OH (RM cs 136 (0,0))):vi (w.setRow N ds) M A n c v:=by
 obtain⟨l,u,i,q,⟨f,s⟩,k⟩:=h;refine⟨l,u,i,q,⟨f,λx=> ?_⟩,k⟩;obtain⟨b,g,hl,⟨cur,o,a⟩,t⟩:=s x;have key:(w.setRow N ds).heap[b.block]? =w.heap[b.block]? :=setRow_other _ _ _ _ (λm=>by
  rw[m,bx]at a;injection a with a
  injection a with _ a
  revert a;decide)
 refine⟨b,g,Cr,⟨cur,o,key.trans a⟩,λj e r=> ?_⟩;obtain⟨p,d,y⟩:=t j e r;exact⟨(World.cell?_of_block Md).trans p,(World.cell?_of_block Md).trans d,(World.cell?_of_block Md).trans y⟩
structure zw(w0 w:EE)(N B0 M:Nat)(A8:aB)(n8 c8:Nat)(A9:aB)(n9 c9:Nat):Prop where
 be:az w0 w
 lo:w0.heap.size<=N
 nb:N<B0
 hB:B0<=w.heap.size
 bx:∃(A:aB) (n c:Nat) (i em v:Int),w.heap[N]? =OH (RM (mD A n c i em v) 136 (0,0))/\vi w M A n c v
 l8:Ow w B0 3 .i64 aK A8 n8 c8
 l9:Ow w B0 3 .i64 aK A9 n9 c9
 ap:bR A8 A9
def Iw.put{P:Int->Prop}(h:Iw w N .i64 P A n)(cs:Array EN):Iw (w.setRow N cs) N .i64 P A n:=by
 obtain⟨xs,a,b⟩:=h;exact⟨xs,a.nL λp c=>World.cell?_of_block (setRow_other _ _ _ _ aq),b⟩
def zw.ar(h:zw w0 w N B0 M A8 n8 c8 A9 n9 c9)(a:az w w'):zw w0 w' N B0 M A8 n8 c8 A9 n9 c9:=by
 obtain⟨A,n,c,i,e,v,b,d⟩:=h.bx;have f:=a.size;have:=h.hB;have:=h.be.size;exact⟨h.be.trans (a.mono aq),h.lo,h.nb,aq,⟨A,n,c,i,e,v,(a.block _ (Array.getElem?_eq_some_iff.1 b).1).trans b,d.ar a⟩,h.l8.ar a,h.l9.ar a,h.ap⟩
def zw.more(h:zw w0 w N B0 M A8 n8 c8 A9 n9 c9)(e:M<=M'):zw w0 w N B0 M' A8 n8 c8 A9 n9 c9:=by
 obtain⟨A,n,c,i,d,v,a,b⟩:=h.bx;exact⟨h.be,h.lo,h.nb,h.hB,⟨A,n,c,i,d,v,a,b.more e⟩,h.l8,h.l9,h.ap⟩
def zw.swap(h:zw w0 w N B0 M A8 n8 c8 A9 n9 c9):zw w0 w N B0 M A9 n9 c9 A8 n8 c8:=⟨h.be,h.lo,h.nb,h.hB,h.bx,h.l9,h.l8,h.ap.symm⟩
def Ow.adW{g:Nat}(h:Ow w B e .i64 aK A n c)(l:g<B)(cs:Array EN):Ow (w.setRow g cs) B e .i64 aK A n c:=by
 obtain⟨xs,b,j⟩:=h;refine⟨xs,⟨b.1, ?_⟩,j⟩;rcases b.2 with f|⟨d,cap,cur,i,a,k,r⟩
 .exact .inl f
 .exact .inr ⟨d,cap,cur,i,a,by rw[setRow_other _ _ _ _ (by omega)];exact k,r⟩
def zw.put(h:zw w0 w N B0 M A8 n8 c8 A9 n9 c9){A:aB}{n c:Nat}{v:Int}(i a:Int)(e:vi w M' A n c v):zw w0 (w.setRow N (mD A n c i a v)) N B0 M' A8 n8 c8 A9 n9 c9:=by
 obtain⟨k,l,c',g,d,f,b,j⟩:=h.bx;exact⟨below_setRow h.be h.lo _,h.lo,h.nb,by have:=h.hB;simpa using this,⟨A,n,c,i,a,v,setRow_heap _ _ _ _ _ _ b,e.put b⟩,h.l8.adW h.nb _,h.l9.adW h.nb _,h.ap⟩
def zw.push(h:zw w0 w N B0 M A8 n8 c8 A9 n9 c9){xs f:aC}(k:Own w B0 3 .i64 A8 n8 c8 xs){d:aB}{c':Nat}(o:Own w' B0 3 .i64 d (n8+1) c' f)(b:EI B0 w w')(j:w.grownBy w' (Value.slice A8 n8 c8).ownBlock)(e:∀g,d=OH ⟨g,0,OJ⟩->A8=OH ⟨g,0,OJ⟩∨w.heap.size<=g):zw w0 w' N B0 M d (n8+1) c' A9 n9 c9:=by
 obtain⟨A,n,c,i,p,v,s,t⟩:=h.bx;have m:=b.size;have z:=h.hB;have x:=h.be.size;have r:=h.nb;have y:=h.lo
 obtain⟨q,a,l⟩:=h.l9;refine⟨h.be.trans (b.mono aq),h.lo,h.nb,aq,⟨A,n,c,i,p,v,(b.block _ r).trans s,t.grown k cF j m⟩,⟨f,o,λ_ _=>trivial⟩,⟨q,Own.kept a j h.ap.symm (aA.dU k),l⟩, ?_⟩;exact h.ap.grow (λg u=>by rw[u]at a;exact(aA.yp a).2) e
end
def PL2(w:EE)(n:Nat)(e:IS)(w':EE):Prop:=∃(A C:aB) (c d:Nat),e=RE (.tuple #[Pl A n c,Pl C n d])/\Ow w' w.heap.size 3 .i64 aK A n c/\Ow w' w.heap.size 3 .i64 aK C n d/\az w w'
def SE(v:EN):Prop:=∃(l o:Int) (b:Bool),v=Q4 #[ae aj l,ae aj o,PF b]
def lvT(a b:Nat)(d:Option Tmp):Option (EN->Prop):=if d=OH a then OH SE else if d=OH b then OH SI else OJ
def ZBo:Sat:=⟨λv _=>∃b:Bool,v=PF b,λ_ _ _ h _=>h⟩
def ZSt(M:Nat):Sat:=⟨λu w=>∃(A:aB) (n c:Nat) (i a v:Int),u=Q4 (mD A n c i a v)/\vi w M A n c v,λ_ _ _ ⟨A,n,c,i,a,v,d,e⟩ b=>⟨A,n,c,i,a,v,d,e.ar b⟩⟩
def ZSt.o{M:Nat}{i d:Int}{w:EE}(h:(ZSt M).p (Q4 (mD A n c i d v)) w):vi w M A n c v:=by
 obtain⟨p,m,c',o,b,l,a,g⟩:=h;simp at a;obtain⟨⟨j,k,f⟩,_,_,e⟩:=a;rw[j,k,f,e];exact g
def fsT(M:Nat)(d:Option Tmp):Option Sat:=if d=OH 72 then OH ZBo else if d=OH 73 then OH (ZSt M)else OJ
def afD(s:G:=by
 obtain⟨A,m,d,i,em,v,bx,hs⟩:=(L3.o).bx
 have BX:ak (Bx _ N (mD A m d i em v)):=⟨⟨_,bx⟩⟩;have HS:ak _:=⟨hs⟩;have⟨c0,c1,aW,c3⟩:=BX.o.q4;have hM0:m<=_:=hs.1;clear bx hs;go_wp2_with fail;refine(xy A m d _ i em v _ w4 HS.o aq).mono ?_;rintro e w5 ⟨A',n',d',i',e',v',rfl,sO,b5⟩;have L4:ak _:=⟨L3.o.ar b5⟩;have KG:ak (Iw w5 N .i64 aK MA n):=⟨zD.o.Z (b5.mono Gg) cr⟩;have L5:ak _:=⟨(L4.o.put i' e' sO).more (M':=j+2) aq⟩;obtain⟨A6,m6,d6,i6,em6,v6,hX,_⟩:=L4.o.bx;have GR:ak (Iw (w5.setRow N (mD A' n' d' i' e' v')) N .i64 aK MA n):=⟨KG.o.put _⟩;clear b5 sO;go_wp2_with (refine wpList_store_row rfl 136 (.tmp 7) (.tmp 64) rfl N (mD A' n' d' i' e' v') rfl aD 136 _ hX aF aD ed ?_);go_meet;exact⟨⟨_,rfl⟩,⟨_,rfl⟩,L5,GR⟩):G:=s
def afS(s:G:=by
 obtain⟨nq,rfl⟩:=cv
 go_simp;obtain⟨k1,k2,k3,es,k4,k5⟩:=HL.o nq.1 nq.2;refine(ou A m d i em v es nq.1 k4 (by rw[<-k4.1];exact k5.len) aq).mono ?_;rintro e w5 ⟨l,o,b,_,rfl,hb⟩;exact⟨_,rfl,⟨l,o,b,rfl⟩,⟨⟨w5,nq.2.trans (hb.mono nq.2.size)⟩,rfl⟩⟩):G:=s
def afn(s:G:=by
 obtain⟨nq,rfl⟩:=cv
 go_simp;refine(adQ A m d _ i em v _ nq.1 (HL.o nq.1 nq.2) aq).mono ?_;rintro e w5 ⟨z,rfl,hb⟩;exact⟨_,rfl,⟨z,rfl⟩,⟨⟨w5,nq.2.trans (hb.mono nq.2.size)⟩,rfl⟩⟩):G:=s
def OT(A:aB)(n c:Nat)(base:Int)(w:EE)(h:Iw w w.heap.size .i64 aK A n)(hc:n<=c)(hn:n<=10000):GK prog 27 #[Pl A n c,ae aj base] w (PL2 w n):=by
 have R:ak _:=⟨h⟩;obtain⟨xs,hx,_⟩:=h;have PM:ak _:=⟨oM A n c xs w hx aq⟩;clear hx;go_enter func27,ntmps27;go_wp2_with fail;refine PM.o.mono ?_;rintro e w1 ⟨MA,mc,rfl,om,b1⟩;have O:ak (Iw w1 w1.heap.size .i64 aK MA n):=⟨⟨_,om.ints,λ_ _=>trivial⟩⟩;have B1:ak _:=⟨b1⟩;clear om b1 PM;go_wp2_with fail;refine(IJ base w1).mono ?_;rintro e I ⟨A2,n2,c2,Y,V,v2,rfl,H,S⟩;have T:ak (az w I):=⟨B1.o.trans (S.mono B1.o.size)⟩;have p:ak _:=⟨O.o.Z S S.size⟩;have⟨N,t⟩:∃N,N=I.heap.size:=⟨_,rfl⟩;have Q:ak (zw w (I.alloc (RM (mD A2 n2 c2 Y V v2) 136)) N (N+1) 1 OJ 0 0 OJ 0 0):=⟨⟨T.o.alloc T.o.size _,by rw[t];exact T.o.size,aq,by simp[t],⟨_,_,_,_,_,_,by rw[t];exact heap_alloc_new _ _,H.ar (aw _ _)⟩,Ow.nil _ _ _ _ _,Ow.nil _ _ _ _ _,uP _⟩⟩;have zD:ak (Iw (I.alloc (RM (mD A2 n2 c2 Y V v2) 136)) N .i64 aK MA n):=⟨by rw[t];exact p.o.Z (aw _ _) cr⟩;clear S H O p B1 T;go_upto_region 3 with fail;have KG:ak _:=⟨zD⟩;rw[t]at Q;have⟨r,x⟩:∃r,r=I.alloc (RM (mD A2 n2 c2 Y V v2) 136):=⟨_,rfl⟩;rw[<-x]at Q zD;have q:=x;dsimp only[mD]at q;rw[<-q];rw[<-t]at Q;clear x q KG;go_wp2;rw[<-t];clear t;go_loopg[8,9,10,11,12,13](n+1)(λgg v8 B v10 _ _ _ wr=>∃(j:Nat) (A8:aB) (c8:Nat) (A9:aB) (c9:Nat),n-j<gg/\j<=n/\v8=Pl A8 j c8/\B=Pl A9 j c9/\v10=ae aj (j:Int)/\ak (zw w wr N (N+1) (j+1) A8 j c8 A9 j c9)/\ak (Iw wr N .i64 aK MA n))
 .exact⟨0,OJ,0,OJ,0,aq,aq,rfl,rfl,rfl,Q,zD⟩
 clear Q zD;obtain⟨j,A8,c8,A9,c9,hg,hj,rfl,rfl,rfl,L,O⟩:=hrel;by_cases K:j<n;rotate_left
 .have i4:=cI j n
  obtain rfl:j=n:=aq;have l4:=L.o.lo;go_wp2;go_ret2;exact⟨_,_,_,_,rfl,L.o.l8.cS aq,L.o.l9.cS aq,L.o.be⟩
 have i4:=aU j n;obtain⟨ad,g,rfl,_,e0⟩:=(R.o.Z L.o.be L.o.be.size).get K;go_upto_region 8 with fail;obtain⟨A,m,d,i,em,v,bx,hs⟩:=((L).o).bx;have BX:ak (Bx _ N (mD A m d i em v)):=⟨⟨_,bx⟩⟩;have HS:ak _:=⟨hs⟩;have⟨c0,c1,aW,c3⟩:=BX.o.q4;have hM0:m<=_:=hs.1;clear bx hs;have L0:=au c0;have L1:=au c1;have L3:=au aW;have L4:=au c3
 have HL:ak _:=⟨fun(W:EE) (hb:EI (wr).heap.size (wr) W)=>HS.o.ar hb⟩;clear c0 c1 aW c3;refine aE (lvT 29 33) aF aF ?_;refine ak.o ?_
 repeat first
  |(refine bG aD aD aD ?_;intro G a;go_big_quiet_op;refine a _ ?_)
  |(refine a7 aD ?_;simp[Act.put])
 refine⟨?_⟩;refine cK SE aD aD (λJ cv=> ?_) (λB f=> ?_)
 .exact afS
 obtain⟨l,o,b,rfl⟩:=f;simp[Act.put];refine ak.o ?_
 repeat first
  |(refine bG aD aD aD ?_;intro G a;go_big_quiet_op;refine a _ ?_)
  |(refine a7 aD ?_;simp[Act.put])
 refine⟨?_⟩;refine cK SI aD aD (λJ cv=> ?_) (λB f=> ?_)
 .exact afn
 obtain⟨z,rfl⟩:=f;simp[Act.put];refine ak.o ?_
 repeat first
  |(refine bG aD aD aD ?_;intro G a;go_big_quiet_op;refine a _ ?_)
  |(refine a7 aD ?_;simp[Act.put])
 refine⟨?_⟩
 first
  |(intro (nq:aI _);obtain⟨r,s⟩:=nq)
  |(rintro r ⟨⟨_,s⟩,rfl⟩)
 have F:ak _:=⟨(L).o.ar s⟩
 try dsimp only
 clear L0 L1 L3 L4 HL BX HS;have p:ak (Iw r N .i64 aK MA n):=⟨O.o.Z (s.mono (by have:=L.o.hB;omega)) cr⟩;clear s O L;go_upto_block 2 with fail;go_cut[12,13](λmz X U=>(∃z:Int,mz=ae aj z)/\(∃z:Int,X=ae aj z)/\ak (zw w U N (N+1) (j+2) (A8) j c8 A9 j c9)/\ak (Iw U N .i64 aK MA n))
 case first=>
  go_wp2_with fail;refine(kZ g r).mono ?_;rintro e w4 ⟨b,rfl,b3⟩;have L3:ak _:=⟨F.o.ar b3⟩;have zD:ak (Iw w4 N .i64 aK MA n):=⟨p.o.Z (b3.mono (by have:=F.o.hB;omega)) cr⟩;clear b3 F p e0;cases b
  .by_cases P:(g==20)=OX
   .exact afD
   have P:(g==20)=OZ:=(by simpa using P);by_cases u:(g==21)=OX
   .exact afD
   have u:(g==21)=OZ:=(by simpa using u);by_cases q3:(g==22)=OX
   .obtain⟨A,m,d,i,em,v,bx,hs⟩:=(L3.o).bx
    have BX:ak (Bx _ N (mD A m d i em v)):=⟨⟨_,bx⟩⟩;have HS:ak _:=⟨hs⟩;have⟨c0,c1,aW,c3⟩:=BX.o.q4;have hM0:m<=_:=hs.1;clear bx hs;go_upto_region 20 with fail;have P0:=au c0;have P1:=au c1;have P2:=au aW;have P3:=au c3
    clear c0 c1 aW c3;have RI:ak _:=⟨R.o.Z L3.o.be L3.o.be.size⟩;have MW:ak (Iw w4 w4.heap.size .i64 aK MA n):=⟨zD.o.Z (Below.refl _ _) Gg⟩;refine aQ (fsT (j+2)) 6 rfl aF aF aF aF aF rfl ?_
    repeat(refine cH aD aD aD ?_;intro G a;go_big_quiet_op;go_big_quiet_on)
    refine dA ZBo aD aD (λJ cv=> ?_) (λB f=> ?_)
    .obtain⟨nq,rfl⟩:=cv
     go_simp;refine aZ ZBo ((Vp (OH ad) MA n c n mc j nq.1 (RI.o.Z nq.2 nq.2.size) (MW.o.Z nq.2 nq.2.size) hc aq K).mono ?_);rintro e w5 ⟨b,rfl,hb⟩;exact⟨_,rfl,⟨b,rfl⟩,hb⟩
    obtain⟨_,_,b,rfl⟩:=f;simp[Act.put];refine dA (ZSt (j+2)) aD aD (λJ cv=> ?_) (λB f=> ?_)
    .obtain⟨nq,rfl⟩:=cv
     go_simp;refine aZ (ZSt (j+2)) ((xy A m d _ i em v b nq.1 (HS.o.ar nq.2) aq).mono ?_);rintro e w5 ⟨A',n',d',i',e',v',rfl,sO,hb⟩;exact⟨_,rfl,⟨_,_,_,_,_,_,rfl,sO⟩,hb⟩
    obtain⟨_,_,A',n',d',i',e',v',rfl,_⟩:=f;simp[Act.put];intro nq hE;have sO:=ZSt.o hE.2;clear hE;obtain⟨w5,b5⟩:=nq;dsimp only at sO⊢;have L4:ak _:=⟨L3.o.ar b5⟩;have KG:ak (Iw w5 N .i64 aK MA n):=⟨zD.o.Z (b5.mono Gg) cr⟩;have L5:ak _:=⟨(L4.o.put i' e' sO).more (M':=j+2) aq⟩;obtain⟨A6,m6,d6,i6,em6,v6,hX,_⟩:=L4.o.bx;have GR:ak (Iw (w5.setRow N (mD A' n' d' i' e' v')) N .i64 aK MA n):=⟨KG.o.put _⟩;clear b5 sO;clear P0 P1 P2 P3;refine wp_store_row 136 (.tmp 7) (.tmp 73) rfl N (mD A' n' d' i' e' v') rfl rfl 136 _ hX aF rfl ed ?_;go_wp2;go_meet;exact⟨⟨_,rfl⟩,⟨_,rfl⟩,L5,GR⟩
   have q3:(g==22)=OZ:=(by simpa using q3);by_cases q4:(g==23)=OX
   .obtain⟨A,m,d,i,em,v,bx,hs⟩:=(L3.o).bx
    have BX:ak (Bx _ N (mD A m d i em v)):=⟨⟨_,bx⟩⟩;have HS:ak _:=⟨hs⟩;have⟨c0,c1,aW,c3⟩:=BX.o.q4;have hM0:m<=_:=hs.1;clear bx hs;go_wp2_with fail;refine(ac9 A m d _ i em v w4 HS.o aq).mono ?_;rintro e w5 ⟨A',n',d',i',e',v',rfl,sO,b5⟩;have L4:ak _:=⟨L3.o.ar b5⟩;have KG:ak (Iw w5 N .i64 aK MA n):=⟨zD.o.Z (b5.mono Gg) cr⟩;have L5:ak _:=⟨(L4.o.put i' e' sO).more (M':=j+2) aq⟩;obtain⟨A6,m6,d6,i6,em6,v6,hX,_⟩:=L4.o.bx;have GR:ak (Iw (w5.setRow N (mD A' n' d' i' e' v')) N .i64 aK MA n):=⟨KG.o.put _⟩;clear b5 sO;go_upto_region 23 with(refine wpList_store_row rfl 136 (.tmp 7) (.tmp 78) rfl N (mD A' n' d' i' e' v') rfl aD 136 _ hX aF aD ed ?_)
    have⟨E,C⟩:∃E,E=w5.setRow N (mD A' n' d' i' e' v'):=⟨_,rfl⟩;rw[<-C]at L5 GR;rw[<-C];clear C c0 c1 aW c3 BX HS hX;simp only[Act.put];obtain⟨A,m,d,i,em,v,bx,hs⟩:=((L5).o).bx;have BX:ak (Bx _ N (mD A m d i em v)):=⟨⟨_,bx⟩⟩;have HS:ak _:=⟨hs⟩;have⟨c0,c1,aW,c3⟩:=BX.o.q4;have hM0:m<=_:=hs.1;clear bx hs;have L0:=au c0;have L1:=au c1;have L3:=au aW;have L4:=au c3
    have HL:ak _:=⟨fun(W:EE) (hb:EI (E).heap.size (E) W)=>HS.o.ar hb⟩;clear c0 c1 aW c3;refine aE (lvT 80 84) aF aF ?_;refine ak.o ?_
    repeat first
     |(refine bG aD aD aD ?_;intro G a;go_big_quiet_op;refine a _ ?_)
     |(refine a7 aD ?_;simp[Act.put])
    refine⟨?_⟩;refine cK SE aD aD (λJ cv=> ?_) (λB f=> ?_)
    .exact afS
    obtain⟨l,o,b,rfl⟩:=f;simp[Act.put];refine ak.o ?_
    repeat first
     |(refine bG aD aD aD ?_;intro G a;go_big_quiet_op;refine a _ ?_)
     |(refine a7 aD ?_;simp[Act.put])
    refine⟨?_⟩;refine cK SI aD aD (λJ cv=> ?_) (λB f=> ?_)
    .exact afn
    obtain⟨z,rfl⟩:=f;simp[Act.put];refine ak.o ?_
    repeat first
     |(refine bG aD aD aD ?_;intro G a;go_big_quiet_op;refine a _ ?_)
     |(refine a7 aD ?_;simp[Act.put])
    refine⟨?_⟩
    first
     |(intro (nq:aI _);obtain⟨r,s⟩:=nq)
     |(rintro r ⟨⟨_,s⟩,rfl⟩)
    have F:ak _:=⟨(L5).o.ar s⟩
    try dsimp only
    clear L0 L1 L3 L4 HL BX HS;have D:ak (Iw r N .i64 aK MA n):=⟨GR.o.Z (s.mono (by have:=L5.o.hB;omega)) cr⟩;go_wp2;go_meet;exact⟨⟨_,rfl⟩,⟨_,rfl⟩,F,D⟩
   have q4:(g==23)=OZ:=(by simpa using q4);by_cases q5:(g==11)=OX
   .go_wp2_with fail
    refine(IJ base w4).mono ?_;rintro e w5 ⟨A',n',d',i',e',v',rfl,sO,b5⟩;have L4:ak _:=⟨L3.o.ar b5⟩;have KG:ak (Iw w5 N .i64 aK MA n):=⟨zD.o.Z (b5.mono Gg) cr⟩;have L5:ak _:=⟨(L4.o.put i' e' sO).more (M':=j+2) aq⟩;obtain⟨A6,m6,d6,i6,em6,v6,hX,_⟩:=L4.o.bx;have GR:ak (Iw (w5.setRow N (mD A' n' d' i' e' v')) N .i64 aK MA n):=⟨KG.o.put _⟩;clear b5 sO;go_wp2_with (refine wpList_store_row rfl 136 (.tmp 7) (.tmp 91) rfl N (mD A' n' d' i' e' v') rfl aD 136 _ hX aF aD ed ?_);go_meet;exact⟨⟨_,rfl⟩,⟨_,rfl⟩,L5,GR⟩
   have q5:(g==11)=OZ:=(by simpa using q5);go_wp2;go_meet;exact⟨⟨_,rfl⟩,⟨_,rfl⟩,⟨L3.o.more aq⟩,zD⟩
  go_upto_if 39 with fail;go_cut[12](λv U=>(∃z:Int,v=ae aj z)/\w4=U)
  case first=>
   rcases j with _|k
   .go_wp2
    go_meet;exact⟨⟨_,rfl⟩,rfl⟩
   .obtain⟨ad8,y,rfl,_,y0⟩:=L3.o.l8.iw.get (show k<k+1 by omega)
    have wk:IK (k:Int)=(k:Int):=IntWalk.wrap64_in _ aq;have k0:=gT k;have k1:(k:Int)<(k:Int)+1:=aq;have k2:(0:Int)<(k:Int)+1:=aq;go_wp2;go_meet;exact⟨⟨_,rfl⟩,rfl⟩
  case rest=>
  obtain⟨⟨z,rfl⟩,rfl⟩:=hcut;by_cases P:(g==19)=OX
  .obtain⟨A,m,d,i,em,v,bx,hs⟩:=(L3.o).bx
   have BX:ak (Bx _ N (mD A m d i em v)):=⟨⟨_,bx⟩⟩;have HS:ak _:=⟨hs⟩;have⟨c0,c1,aW,c3⟩:=BX.o.q4;have hM0:m<=_:=hs.1;clear bx hs;go_wp2_with fail;refine(aer A m d _ i em v w4 HS.o aq).mono ?_;rintro e w5 ⟨A',n',d',i',e',v',rfl,sO,b5⟩;have L4:ak _:=⟨L3.o.ar b5⟩;have KG:ak (Iw w5 N .i64 aK MA n):=⟨zD.o.Z (b5.mono Gg) cr⟩;have L5:ak _:=⟨(L4.o.put i' e' sO).more (M':=j+2) aq⟩;obtain⟨A6,m6,d6,i6,em6,v6,hX,_⟩:=L4.o.bx;have GR:ak (Iw (w5.setRow N (mD A' n' d' i' e' v')) N .i64 aK MA n):=⟨KG.o.put _⟩;clear b5 sO;go_wp2_with (refine wpList_store_row rfl 136 (.tmp 7) (.tmp 48) rfl N (mD A' n' d' i' e' v') rfl aD 136 _ hX aF aD ed ?_);go_meet;exact⟨⟨_,rfl⟩,⟨_,rfl⟩,L5,GR⟩
  have P:(g==19)=OZ:=by simpa using P
  by_cases u:(g==10)=OX
  .have u:(g !=10)=OZ:=by simpa using u
   go_wp2;go_meet;exact⟨⟨_,rfl⟩,⟨_,rfl⟩,⟨L3.o.more aq⟩,zD⟩
  have u:(g !=10)=OX:=by simpa using u
  obtain⟨A,m,d,i,em,v,bx,hs⟩:=(L3.o).bx;have BX:ak (Bx _ N (mD A m d i em v)):=⟨⟨_,bx⟩⟩;have HS:ak _:=⟨hs⟩;have⟨c0,c1,aW,c3⟩:=BX.o.q4;have hM0:m<=_:=hs.1;clear bx hs;go_wp2_with fail;refine(WS A m d _ i em v g w4 HS.o aq).mono ?_;rintro e w5 ⟨A',n',d',i',e',v',rfl,sO,b5⟩;have L4:ak _:=⟨L3.o.ar b5⟩;have KG:ak (Iw w5 N .i64 aK MA n):=⟨zD.o.Z (b5.mono Gg) cr⟩;have L5:ak _:=⟨(L4.o.put i' e' sO).more (M':=j+2) aq⟩;obtain⟨A6,m6,d6,i6,em6,v6,hX,_⟩:=L4.o.bx;have GR:ak (Iw (w5.setRow N (mD A' n' d' i' e' v')) N .i64 aK MA n):=⟨KG.o.put _⟩;clear b5 sO;go_wp2_with (refine wpList_store_row rfl 136 (.tmp 7) (.tmp 53) rfl N (mD A' n' d' i' e' v') rfl aD 136 _ hX aF aD ed ?_);go_meet;exact⟨⟨_,rfl⟩,⟨_,rfl⟩,L5,GR⟩
 case rest=>
 obtain⟨⟨z1,rfl⟩,⟨z2,rfl⟩,L3,zD⟩:=hcut;obtain⟨xs8,o8,_⟩:=L3.o.l8;have Z:ak _:=⟨o8⟩;have hB3:=L3.o.hB;clear o8 F p e0;go_upto_region 28 with(at_builtin;refine bL l5 rfl (.tmp 92) (.tmp 94) rfl rfl (Z.o.alloc _) rfl (bk _ _ _) aq br ?_;intro A5 c5 w5 o5 b5 g5 t5;have L5:ak _:=⟨(L3.o.ar (aw _ _)).push (Z.o.alloc _) o5 b5 g5 t5⟩;have GR:ak (Iw w5 N .i64 aK MA n):=⟨(zD.o.Z ((aw _ _).mono aq) cr).Z (b5.mono aq) cr⟩;clear o5 b5 g5 t5)
 obtain⟨xs9,o9,_⟩:=L5.o.l9;have O9:ak _:=⟨o9⟩;have hB5:=L5.o.hB;clear o9 L3 zD Z;go_wp2_with (at_builtin;refine bL l5 rfl (.tmp 96) (.tmp 98) rfl rfl (O9.o.alloc _) rfl (bk _ _ _) aq br ?_;intro A6 c6 E o6 b6 g6 t6;have L6:ak _:=⟨(((L5.o.swap).ar (aw _ _)).push (O9.o.alloc _) o6 b6 g6 t6).swap⟩;have D:ak (Iw E N .i64 aK MA n):=⟨(GR.o.Z ((aw _ _).mono aq) cr).Z (b6.mono aq) cr⟩;clear o6 b6 g6 t6);go_roundg(n-j)
 case measure=>omega
 case rel=>exact⟨j+1,A5,c5,A6,c6,aq,aq,rfl,rfl,aV,L6,D⟩
def lK(n:Nat)(z:Int):Prop:=0<=z/\z<n
def sj(z:Int)(w:EE):GK prog 75 #[ae aj z] w (PB w):=by
 go_enter func75,ntmps75;by_cases a:(z==20)=OX
 .go_wp2
  go_ret;exact⟨_,rfl,Below.refl _ _⟩
 have a:(z==20)=OZ:=by simpa using a
 by_cases b:(z==21)=OX
 .go_wp2
  go_ret;exact⟨_,rfl,Below.refl _ _⟩
 have b:(z==21)=OZ:=by simpa using b
 go_wp2;go_ret;exact⟨_,rfl,Below.refl _ _⟩
def aad(a b:Int)(w:EE):GK prog 77 #[ae aj a,ae aj b] w (PI w):=by
 go_enter func77,ntmps77;go_wp2_with fail
 all_goals
  go_ret;exact⟨_,rfl,Below.refl _ _⟩
def acY(w:EE)(n:Nat)(e:IS)(a:EE):Prop:=∃(A:aB) (m c:Nat),m<=n/\e=RE (Pl A m c)/\Ow a w.heap.size 3 .i64 (lK n) A m c/\az w a
def aa0(A:aB)(n c:Nat)(w:EE)(h:Iw w w.heap.size .i64 aK A n)(G:n<=10000):GK prog 147 #[Pl A n c] w (acY w n):=by
 have R:=sH h;go_enter func147,ntmps147;go_wp2;go_loopg[3,4](n+1)(λgg v3 v4 wr=>∃(j m:Nat) (C:aB) (d:Nat),n-j<gg/\j<=n/\m<=j/\v3=Pl C m d/\v4=ae aj (j:Int)/\ak (Ow wr w.heap.size 3 .i64 (lK n) C m d)/\ak (az w wr))
 .exact⟨0,0,OJ,0,aq,aq,aq,rfl,rfl,⟨Ow.nil _ _ _ _ _⟩,cJ⟩
 obtain⟨j,m,C,d,D,E,F,rfl,rfl,o,a⟩:=hrel;by_cases g:j<n;rotate_left
 .have v:=cI j n
  go_wp2;go_ret;exact⟨_,_,_,aq,rfl,o.o,a.o⟩
 have v:=aU j n;obtain⟨B,z,rfl,_,y⟩:=(R.o.Z a.o a.o.size).get g;go_wp2_with fail;refine(kZ z wr).mono ?_;rintro e H ⟨b,rfl,i⟩;have f:=a.t i;have p:=sH (o.o.ar i);have u:=f.o.size;have q:ak (lK n (j:Int)):=⟨⟨aq,aq⟩⟩;cases b
 .go_wp2_with (at_builtin;refine bW l5 rfl (.tmp 17) (.tmp 19) rfl rfl (p.o.alloc _) rfl (bk _ _ _) q.o aq br ?_;intro t c8 r l k;have s:=sH l;have x:ak (az w r):=⟨(f.o.alloc aq _).trans k⟩;clear l k)
  go_roundg(n-j)
  .exact⟨j+1,m+1,t,c8,aq,aq,aq,rfl,aV,s,x⟩
  omega
 .go_wp2
  go_roundg(n-j)
  .exact⟨j+1,m,C,d,aq,aq,aq,rfl,aV,p,f⟩
  omega
def afL(s:G:=by
 obtain⟨ew,y,rfl,_,e1⟩:=(S.o.Z B2.o B2.o.size).get (show i<n by omega)
 go_wp2;go_ret;exact⟨_,rfl,B2.o⟩):G:=s
def Yx(s:G:=by
 go_wp2
 go_ret;exact⟨_,rfl,BE.o⟩):G:=s
def Ao(A C:aB)(n c d:Nat)(at_:Nat)(a base:Int)(w:EE)(h:Iw w w.heap.size .i64 aK A n)(k:Iw w w.heap.size .i64 aK C n)(D:n<=10000)(B:at_<n)(o:a=1∨a= -1):GK prog 78 #[Pl A n c,Pl C n d,ae aj (at_:Int),ae aj a,ae aj base] w (PI w):=by
 have⟨R,S⟩:=K' h k;rcases o with rfl|rfl
 .go_enter func78,ntmps78
  have t:IK ((at_:Int)+1)=(at_:Int)+1:=IntWalk.wrap64_in _ aq;go_wp2;go_loopg[11](n+2)(λgg f wr=>∃(x:Int),f=ae aj x/\-1<=x/\x<=n/\((n:Int)-x).toNat<gg/\ak (az w wr))
  .exact⟨_,rfl,aq,aq,aq,cJ⟩
  obtain⟨x,rfl,p,u,r,BE⟩:=hrel;by_cases s:0<=x;rotate_left
  .exact Yx
  by_cases j:x<n;rotate_left
  .exact Yx
  obtain⟨i,rfl⟩:∃i:Nat,x=i:=⟨x.toNat,aq⟩;obtain⟨q,z,rfl,_,m⟩:=(R.o.Z BE.o BE.o.size).get (show i<n by omega);go_wp2_with fail;refine(kZ z wr).mono ?_;rintro e v ⟨b,rfl,g⟩;have B2:=BE.t g;cases b
  .exact afL
  .have l:IK ((i:Int)+1)=(i:Int)+1:=IntWalk.wrap64_in _ aq
   go_wp2;go_roundg(gk-1)
   .exact⟨_,rfl,aq,aq,aq,B2⟩
   omega
 .go_enter func78,ntmps78
  have t:IK ((at_:Int)+(-1))=(at_:Int)+(-1):=IntWalk.wrap64_in _ aq;go_wp2;go_loopg[11](n+2)(λgg f wr=>∃(x:Int),f=ae aj x/\-1<=x/\x<=n/\(x+1).toNat<gg/\ak (az w wr))
  .exact⟨_,rfl,aq,aq,aq,cJ⟩
  obtain⟨x,rfl,p,u,r,BE⟩:=hrel;by_cases s:0<=x;rotate_left
  .exact Yx
  by_cases j:x<n;rotate_left
  .exact Yx
  obtain⟨i,rfl⟩:∃i:Nat,x=i:=⟨x.toNat,aq⟩;obtain⟨q,z,rfl,_,m⟩:=(R.o.Z BE.o BE.o.size).get (show i<n by omega);go_wp2_with fail;refine(kZ z wr).mono ?_;rintro e v ⟨b,rfl,g⟩;have B2:=BE.t g;cases b
  .exact afL
  .have l:IK ((i:Int)+(-1))=(i:Int)+(-1):=IntWalk.wrap64_in _ aq
   go_wp2;go_roundg(gk-1)
   .exact⟨_,rfl,aq,aq,aq,B2⟩
   omega
def aeA(w:EE)(B n M:Nat)(e:IS)(c:EE):Prop:=c=w/\∃(a:aB) (m b:Nat),e=RE (Pl a m b)/\m<=M/\Iw w B .i64 (lK n) a m
def abu(A:aB)(k c n M B:Nat)(at_:Int)(w:EE)(h:DJ w B (lK n) M A k)(F:k<=10000)(x:M<=10000):GK prog 76 #[Pl A k c,ae aj at_] w (aeA w B n M):=by
 have R:=sH h;go_enter func76,ntmps76;go_wp2;go_loopg[5,6](k+1)(λgg t _ wr=>∃(i:Nat),k-i<gg/\i<=k/\t=ae aj (i:Int)/\wr=w)
 .exact⟨0,aq,aq,rfl,rfl⟩
 obtain⟨i,D,hi,rfl,rfl⟩:=hrel;by_cases d:i<k;rotate_left
 .have p:=cI i k
  go_wp2;go_ret;exact⟨rfl,OJ,0,0,rfl,aq,[],bO.nil,aT⟩
 have p:=aU i k;obtain⟨C,G,m,H,rfl,_,y,u,f,l⟩:=R.o i d;have j:=sH l;go_wp2;go_loopg[6](m+1)(λgg o e=>∃(q:Nat),m-q<gg/\q<=m/\o=ae aj (q:Int)/\e=wr)
 .exact⟨0,aq,aq,rfl,rfl⟩
 obtain⟨q,v,I,rfl,rfl⟩:=hrel;by_cases b:q<m;rotate_left
 .have s:=cI q m
  go_wp2;go_roundg(k-i)
  .exact⟨i+1,aq,aq,aV,rfl⟩
  omega
 have s:=aU q m;obtain⟨r,z,rfl,_,E⟩:=j.o.get b;by_cases g:z=at_
 .have a:(z==at_)=OX:=by simp[g]
  go_wp2;go_ret;exact⟨rfl,_,_,_,rfl,f,j.o⟩
 .have a:(z==at_)=OZ:=by simp[g]
  go_wp2;go_roundg(m-q)
  .exact⟨q+1,aq,aq,aV,rfl⟩
  omega
def TII:aS prog 100 39 1 24:=bD underlying100 (z:=Pl OJ 0 0) aF rfl aq aq
def PRu(w:EE)(n:Nat)(e:IS)(a:EE):Prop:=∃(A:aB) (k c:Nat),k<=n/\e=RE (Pl A k c)/\DJ a a.heap.size (lK n) n A k/\az w a
def Pk{w:EE}{k M:Nat}{d:IQ}{P:Int->Prop}{b:List Rw}(h:wH w B d e P M b A (k+1) c):∃a r g,b=a++[r]/\A=OH ⟨g,0,OJ⟩/\B<=g/\w.cell? ⟨g,k,OJ⟩=OH (Vg r)/\w.frozen? ⟨g,k,OJ⟩=OZ:=by
 have hl:=h.len;obtain⟨a,r,rfl⟩:∃a r,b=a++[r]:=by
  rcases List.eq_nil_or_concat b with rfl|⟨l,x,h⟩
  .simp at hl
  .exact⟨l,x,zl⟩
 obtain⟨g,rfl,f,_⟩:=aA.form h.own aq;have i:a.length=k:=Cr;refine⟨a,r,g,rfl,rfl,f, ?_,aA.frozenAt h.own _⟩;rw[aA.cellAt h.own k aq];simp[i]
def Ss(w:EE)(e:IQ)(k:IntKind)(y:Int)(B:Nat)(a:B<=w.heap.size):Own (w.alloc (RM #[.int k y] e)) B e k (OH ⟨w.heap.size,0,OJ⟩) 1 1 [y]:=by
 refine⟨rfl,.inr ⟨w.heap.size,1,#[.int k y],rfl,a,heap_alloc_new w _, ?_⟩⟩;simp[maxLen]
def FQ(w:EE)(v:EN)(t:IQ)(N:Nat)(a:w.heap.size=N):∀j u,[v][j]? =OH u->(w.alloc (RM #[v] t)).cell? ⟨N,j,OJ⟩=OH u:=by
 intro j u h;subst a;rw[cell_of_row _ _ _ _ _ _ (heap_alloc_new w _)];simpa using h
def abR(A C:aB)(n c d:Nat)(w:EE)(h:Iw w w.heap.size .i64 aK A n)(k:Iw w w.heap.size .i64 aK C n)(hn:n<=10000):GK prog 74 #[Pl A n c,Pl C n d] w (PRu w n):=by
 have⟨R,S⟩:=K' h k;go_enter func74,ntmps74;go_wp2_with fail;refine(aa0 A n c w R.o hn).mono ?_;rintro e E ⟨L,m,ld,hm,rfl,o1,b1⟩;have⟨O1,B1⟩:=K' o1 b1;go_wp2;go_loopg[5,7](m+1)(λgg v5 v7 wr=>∃(i q:Nat) (D:aB) (e:Nat) (rs:List Rw),m-i<gg/\i<=m/\q<=i/\(0<i->0<q)/\v5=Pl D q e/\v7=ae aj (i:Int)/\ak (wH wr E.heap.size 39 3 (lK n) i rs D q e)/\ak (az E wr))
 .exact⟨0,0,OJ,0,[],aq,aq,aq,aq,rfl,rfl,⟨wH.nil _ _ _ _ _ _⟩,cJ⟩
 obtain⟨i,q,D,e,rs,hg,hi,hq,Gv,rfl,rfl,NS,BE⟩:=hrel;have BG:=B1.t BE.o;by_cases aG:i<m;rotate_left
 .have i4:=cI i m
  go_wp2;go_ret;exact⟨_,_,_,aq,rfl,(NS.o.more aq).rd,BG.o⟩
 have i4:=aU i m;have LI:=sH (O1.o.iw.Z BE.o BE.o.size);obtain⟨G,y,rfl,hy,Q⟩:=LI.o.get aG;have HY:=sH hy;go_upto_region 6 with fail;go_cut[35](λv wx=>(∃b:Bool,v=PF b/\(b=OX->0<i))/\ak (az wr wx))
 case first=>
  rcases i with _|i
  .refine aE (λ_=>OJ) aF aF ?_
   refine mSk ?_
   first
    |(intro (nq:aI _);obtain⟨w6,I⟩:=nq)
    |(rintro w6 ⟨⟨_,I⟩,rfl⟩)
   try dsimp only
   go_wp2;go_meet;exact⟨⟨_,rfl,aT⟩,⟨I⟩⟩
  obtain⟨ahV,y0,ea,hy0,e1⟩:=LI.o.get (show i<m by omega);injection ea with ea
  subst ea;obtain⟨hy1,Mk⟩:=hy;obtain⟨hy3,hy4⟩:=hy0;obtain⟨V,rfl⟩:∃V:Nat,y=V:=⟨y.toNat,aq⟩;obtain⟨y0n,rfl⟩:∃V:Nat,y0=V:=⟨y0.toNat,aq⟩;obtain⟨adc,l1,rfl,_,g1⟩:=(S.o.Z BG.o BG.o.size).get (show V<n by omega);obtain⟨JK,l0,ec,_,g0⟩:=(S.o.Z BG.o BG.o.size).get (show y0n<n by omega);injection ec with ec
  subst ec;have wk:IK (i:Int)=(i:Int):=IntWalk.wrap64_in _ aq;have k0:=gT i;have k1:=aU i m;have k2:(0:Int)<(i:Int)+1:=aq;have Q:wr.cell? {block:=G.block,off:=G.off+(i+1)}=OH (ae aj (V:Int)):=Q;have⟨L0,L1,L2,L3⟩:=lc4 Q e1 g0 g1;by_cases hl:l0=l1
  .subst hl
   refine aE (λ_=>OJ) aF aF ?_;refine mSk ?_
   first
    |(intro (nq:aI _);obtain⟨w6,I⟩:=nq)
    |(rintro w6 ⟨⟨_,I⟩,rfl⟩)
   try dsimp only
   go_wp2;go_meet;exact⟨⟨_,rfl,aT⟩,⟨I⟩⟩
  have hl:(l0==l1)=OZ:=Cr;refine aE (λ_=>OJ) aF aF ?_;refine mSk ?_
  first
   |(intro (nq:aI _);obtain⟨w6,I⟩:=nq)
   |(rintro w6 ⟨⟨_,I⟩,rfl⟩)
  try dsimp only
  go_wp2;go_meet;exact⟨⟨_,rfl,aT⟩,⟨I⟩⟩
 case rest=>
 obtain⟨⟨b,rfl,hb⟩,BQ⟩:=hcut
 rename EE=>w2
 have M:=sH (NS.o.ar BQ.o);have B2:=BE.t BQ.o;have Q:=av Q BQ.o;have HB:=sH hb;have O:=B2.o.size;cases b
 .have hls:=M.o.len
  have N3:=sH ((M.o.ar ((aw w2 (RM #[ae aj y] 3)).trans ((aw _ (RM #[Pl (OH ⟨w2.heap.size,0,OJ⟩) 1 1] 39)).mono aT))).more (show i<=i+1 by omega));have L3:ak (Ow ((w2.alloc (RM #[ae aj y] 3)).alloc (RM #[Pl (OH ⟨w2.heap.size,0,OJ⟩) 1 1] 39)) E.heap.size 3 .i64 (lK n) (OH ⟨w2.heap.size,0,OJ⟩) 1 1):=⟨⟨[y],(Ss w2 3 .i64 y _ O).ar (aw _ _),by simpa using HY.o⟩⟩;have AP:ak (∀s∈rs,bR s.1 (OH ⟨w2.heap.size,0,OJ⟩)):=⟨λs hs=>by
   obtain⟨xs,k1,_⟩:=(M.o.each s hs).2.2;exact aA.gX k1 cr⟩
  have B3:ak (az E ((w2.alloc (RM #[ae aj y] 3)).alloc (RM #[Pl (OH ⟨w2.heap.size,0,OJ⟩) 1 1] 39))):=⟨(B2.o.alloc O _).alloc br _⟩;go_wp2_with (at_builtin;refine bE TII rfl (.tmp 53) (.tmp 59) rfl rfl N3.o.own rfl (news:=[Pl (OH ⟨w2.heap.size,0,OJ⟩) 1 1]) rfl (FQ _ _ _ _ aT) (λu hu=>Ji) aq br ?_;intro Y c5 w5 o5 Z U t5;have N5:=sH (N3.o.push (r:=(OH ⟨w2.heap.size,0,OJ⟩,1,1)) (show 0<1 by omega) (show 1<=i+1 by omega) L3.o AP.o o5 U cF);have B5:=sH (B3.o.trans Z);clear o5 Z U t5);go_roundg(m-i)
  .exact⟨i+1,q+1,Y,c5,_,aq,aq,aq,aq,rfl,aV,N5,B5⟩
  omega
 have h0:=HB.o rfl;obtain⟨q,rfl⟩:∃q',q=q'+1:=⟨q-1,by have:=Gv h0;omega⟩;obtain⟨Zs,⟨X,F,ic⟩,B,rfl,rfl,lW,r0,f0⟩:=Pk M.o;obtain⟨ei1,ei2,xs,o1,p1⟩:=M.o.each (X,F,ic) aT;have⟨OI,PI1⟩:=K' o1 p1;simp only at ei1 ei2;simp only[Vg]at r0;have WQ:ak (IntKind.i64.wrap (q:Int)=(q:Int)):=⟨IntWalk.i64_in _ aq⟩;have wq:IK (q:Int)=(q:Int):=IntWalk.wrap64_in _ aq;have q0:(0:Int)<=(q:Int):=Int.natCast_nonneg q;have q1:(q:Int)<(q:Int)+1:=Int.lt_succ _;have⟨NO,HC⟩:=K' M.o.own (aA.dU o1);have AP:ak (bR (OH ⟨B,0,OJ⟩) X):=⟨(ca o1 M.o.own cF).symm⟩;have o1v:=o1;have OV:=sH o1v;go_upto_region 7 with fail;refine jS (N:=17) (k0:=36) (m:=17) [OH (Pl (OH ⟨B,0,OJ⟩) (q+1) e),OH (Pl (OH ⟨B,0,OJ⟩) (q+1) e),OH (ae aj ((q:Int)+1)),OH (ae aj (q:Int)),OH (Pl (OH ⟨B,0,OJ⟩) (q+1) e),OH (Pl (OH ⟨B,0,OJ⟩) (q+1) e),OH (ae aj ((q:Int)+1)),OH (ae aj (q:Int)),OH (PK (OH ⟨B,q,OJ⟩)),OH (Pl X F ic),OH (Pl (OH G) m ld),OH (ae aj (i:Int)),OH (PK (OH (G.add i))),OH (ae aj y),OJ,OJ,OH (PK (OH ⟨B,q,OJ⟩))] 14 15 F [ae aj y] w2 (λA c W=>∃Wp,az w2 Wp/\aA W E.heap.size 3 1 A (F+1) c (xs.map (ae aj)++[ae aj y])/\EI E.heap.size Wp W/\Wp.grownBy W (Value.slice X F ic).ownBlock/\∀g,A=OH ⟨g,0,OJ⟩->X=OH ⟨g,0,OJ⟩∨Wp.heap.size<=g) rfl aF rfl aF aq (Below.refl _ _) ?_ ?_
 .intro k o L bu W hk ho t f P j a' ha K hK
  have hk:k=0∨k=1∨k=2∨k=3∨k=4∨k=5∨k=6∨k=7∨k=8∨k=9∨k=10∨k=11∨k=12∨k=13∨k=14∨k=15∨k=16:=aq;simp only[cN,fV,List.setIfInBounds_toArray,List.set_cons_succ,List.set_cons_zero,Nat.reduceAdd,Nat.add_zero]at ha;subst ha;have d0:=j.dY 0 _ rfl;have d1:=j.dY 1 _ rfl;have d2:=j.dY 2 _ rfl;have d3:=j.dY 3 _ rfl;have d4:=j.dY 4 _ rfl;have d5:=j.dY 5 _ rfl;have d6:=j.dY 6 _ rfl;have d7:=j.dY 7 _ rfl;have d8:=j.dY 8 _ rfl;have d9:=j.dY 9 _ rfl;have d10:=j.dY 10 _ rfl;have d11:=j.dY 11 _ rfl;have d12:=j.dY 12 _ rfl;have H:=j.dY 13 _ rfl
  rcases hk with rfl|rfl|rfl|rfl|rfl|rfl|rfl|rfl|rfl|rfl|rfl|rfl|rfl|rfl|rfl|rfl|rfl
  all_goals(injection ho with ho;subst ho)
  all_goals(simp[Region.binds]at f)
  case' inr.inr.inr.inr.inr.inr.inr.inr.inr.inr.inr.inr.inr.inr.inr.inl=>
   obtain⟨b,eb,hc⟩:=j.box f.2 t;have T:=j.pre t;have OV2:aA W E.heap.size 3 1 X F ic (xs.map (ae aj)):=aA.ar OV.o T;have ib:E.heap.size<=W.heap.size:=by have:=T.size;omega
   simp only[d9 f.1,eb];refine wpOp_step rfl (λK9 l=> ?_);refine lG (news:=[ae aj y]) l5 rfl (.tmp 45) (.tmp 50) rfl rfl OV2 rfl rfl hc (λu hu=>Ji) aq ib ?_;intro Y c5 w5 o5 Z U t5;refine l _ _ ?_;change K (Act.put _ (OH 51) _) _;have x:=hK _ _ (j.app rfl ⟨W,T,o5,Z,U,t5⟩);simp only[Nat.reduceAdd,Act.put,List.setIfInBounds_toArray,List.set_cons_succ,List.set_cons_zero]at x
   try simp only[d9 f.1,eb]at x
   try simp only[Act.put,List.setIfInBounds_toArray,List.set_cons_succ,List.set_cons_zero]
   exact x
  case' inr.inr.inr.inr.inr.inr.inr.inr.inr.inr.inr.inr.inr.inr.inl=>
   have hp:=P.no (a:=15) t aF;simp only[H f];refine wpOp_step rfl (λK9 l=> ?_);go_simp;refine l _ _ ?_
   skip
   have x:=hK _ _ (j.lay 3 rfl rfl cF hp);simp only[Nat.reduceAdd,Act.put,List.setIfInBounds_toArray,List.set_cons_succ,List.set_cons_zero]at x
   try simp only[H f]at x
   try simp only[Act.put,List.setIfInBounds_toArray,List.set_cons_succ,List.set_cons_zero]
   exact x
  case' inr.inr.inr.inr.inr.inr.inr.inr.inr.inl=>
   have T:=j.pre (P.no (a:=15) t aF);have r0:=av r0 T
  case' inr.inr.inr.inr.inr.inr.inr.inr.inr.inr.inr.inr.inr.inl=>
   have T:=j.pre (P.no (a:=15) t aF);have Q:=av Q T
  all_goals have wq2:=WQ.o
  all_goals
   try simp only[d0,d1,d2,d3,d4,d5,d6,d7,d8,d9,d10,d11,d12,H,f]
   refine wpOp_step rfl (λK9 l=> ?_);go_simp;refine l _ _ ?_
   skip
   have x:=hK _ _ (j.pure rfl cF cF);simp only[Nat.reduceAdd,Act.put,List.setIfInBounds_toArray,List.set_cons_succ,List.set_cons_zero]at x
   try simp only[d0,d1,d2,d3,d4,d5,d6,d7,d8,d9,d10,d11,d12,H,f]at x
   try simp only[Act.put,List.setIfInBounds_toArray,List.set_cons_succ,List.set_cons_zero]
   exact x
 .clear wq
  intro L bu W J j a' ha;simp only[cN,fV,List.setIfInBounds_toArray,List.set_cons_succ,List.set_cons_zero,Nat.reduceAdd,Nat.add_zero]at ha;subst ha;obtain⟨Y,c5,Ey,Wp,bp,o5,Z,U,t5⟩:=j.post (J 15 aq);have d16:=j.dY 16 _ rfl (J 16 aq);simp only[d16,Ey];have NN:=aA.kept (aA.ar NO.o bp) U AP.o HC.o;have r5:=(aA.cellAt NN q aq).trans ((aA.cellAt NO.o q aq).symm.trans r0);have f5:=aA.frozenAt NN q;have N5:ak (wH (W.setCell ⟨B,q,OJ⟩ (Pl Y (F+1) c5)) E.heap.size 39 3 (lK n) (i+1) (Zs++[(Y,F+1,c5)]) (OH ⟨B,0,OJ⟩) (q+1) e):=⟨((M.o.ar bp).more (Nat.le_succ i)).grow (c':=e) ⟨xs++[y],by unfold Own;rw[List.map_append];exact o5,λz hz=>by
   rcases List.mem_append.1 hz with hz|hz
   .exact PI1.o z hz
   .obtain rfl:=List.mem_singleton.1 hz;exact HY.o⟩ (Nat.succ_pos _) aq U t5 cF⟩
  have B5:ak (az E (W.setCell ⟨B,q,OJ⟩ (Pl Y (F+1) c5))):=⟨Below.setCell ((B2.o.trans (bp.mono O)).trans Z) (p:=⟨B,q,OJ⟩) lW _⟩;refine wpOp_step rfl (λK9 l=> ?_);go_simp;refine l _ _ ?_;go_wp2;go_roundg(m-i)
  .exact⟨i+1,q+1,_,e,_,aq,aq,aq,aq,rfl,aV,N5,B5⟩
  omega
def oQ(z:Int)(w:EE):GK prog 156 #[ae aj z] w (PB w):=by
 have e:z=11∨z=12∨z=13∨z=14∨z=20∨z=21∨z=22∨(z≠11/\z≠12/\z≠13/\z≠14/\z≠20/\z≠21/\z≠22):=aq;rcases e with rfl|rfl|rfl|rfl|rfl|rfl|rfl|⟨b,h2,h3,h4,a,c,d⟩
 rotate_right
 .have b:(z==11)=OZ:=by simpa using b
  have h2:(z==12)=OZ:=vN;have h3:(z==13)=OZ:=Gi;have h4:(z==14)=OZ:=Jn;have a:(z==20)=OZ:=by simpa using a
  have c:(z==21)=OZ:=by simpa using c
  have d:(z==22)=OZ:=by simpa using d
  go_enter func156,ntmps156;go_wp2;go_ret;exact⟨_,rfl,Below.refl _ _⟩
 all_goals
  go_enter func156,ntmps156;go_wp2;go_ret;exact⟨_,rfl,Below.refl _ _⟩
def aeS(z:Int)(w:EE):GK prog 158 #[ae aj z] w (PI w):=by
 have b:z=2∨z=3∨z=4∨(z≠2/\z≠3/\z≠4):=aq;rcases b with rfl|rfl|rfl|⟨a,h2,h3⟩
 rotate_right
 .have a:(z==2)=OZ:=by simpa using a
  have h2:(z==3)=OZ:=vN;have h3:(z==4)=OZ:=Gi;go_enter func158,ntmps158;go_wp2_with fail
  all_goals
   go_ret;exact⟨_,rfl,Below.refl _ _⟩
 all_goals
  go_enter func158,ntmps158;go_wp2;go_ret;exact⟨_,rfl,Below.refl _ _⟩
def VW(z:Int)(w:EE):GK prog 159 #[ae aj z] w (PI w):=by
 go_enter func159,ntmps159;go_wp2_with fail
 all_goals
  go_ret;exact⟨_,rfl,Below.refl _ _⟩
def So(z:Int)(w:EE):GK prog 157 #[ae aj z] w (PI w):=by
 go_enter func157,ntmps157;go_wp2_with fail
 all_goals
  go_ret;exact⟨_,rfl,Below.refl _ _⟩
def afm(s:G:=by
 go_wp2_with fail
 refine(aeS z3 _).mono ?_;rintro e w8 ⟨b,rfl,b3⟩;have B8:=B7.t b3;have O8:=sH (O7.o.ar b3);go_wp2;go_meet;exact⟨⟨_,rfl⟩,O8,B8⟩):G:=s
def ae'(s:G:=by
 have i4:=cI i n
 obtain rfl:i=n:=aq;go_wp2;go_ret;exact⟨_,_,rfl,OE.o,BE.o⟩):G:=s
def KZ(A:aB)(n c:Nat)(lv F H:Int)(w:EE)(h:Iw w w.heap.size .i64 aK A n)(hn:n<=10000):GK prog 81 #[Pl A n c,ae aj lv,ae aj F,ae aj H] w (Nw w 3 .i64 aK n):=by
 have R:=sH h;have J:ak ((prog.info? 3).map (·.zero)=OH (OH (ae aj 0))):=⟨aF⟩;go_enter func81,ntmps81;go_wp2_with (refine dx (p:=aK) l5 J.o trivial rfl (.tmp 16) (.tmp 16) rfl n rfl rfl rfl rfl aq w.heap.size cr ?_;intro g w1 o1 L;have T:=sH o1;have Z:=sH L;clear o1 L);go_loopg[10,11,12,13,14](n+1)(λgg v10 _ _ _ _ wr=>∃(i:Nat),n-i<gg/\i<=n/\v10=ae aj (i:Int)/\ak (Ow wr w.heap.size 3 .i64 aK (OH ⟨g,0,OJ⟩) n n)/\ak (az w wr))
 .exact⟨0,aq,aq,rfl,T,Z⟩
 obtain⟨i,hg,hi,rfl,OE,BE⟩:=hrel;by_cases d:i<n;rotate_left
 .exact ae'
 have i4:=aU i n;obtain⟨ad,z,rfl,_,r⟩:=(R.o.Z BE.o BE.o.size).get d;obtain⟨Q,_,M⟩:=OE.o.get d;have f1:=OE.o.fz i;have m:ak (az w ((wr).setCell ⟨g,i,OJ⟩ (ae aj (z)))):=⟨Below.setCell (BE.o) (p:=⟨g,i,OJ⟩) (OE.o).lt.1 _⟩;have u:=sH ((OE.o).set (P:=aK) i (y:=z) trivial);go_upto_region 6 with fail;have⟨V,o⟩:=eX (wr.setCell ⟨g,i,OJ⟩ (ae aj z));rw[<-o]at m u;rw[<-o];clear o;obtain⟨ew,W,f,_,r⟩:=(R.o.Z m.o m.o.size).get d;injection f with f
 subst f;go_wp2_with fail;refine(oQ W V).mono ?_;rintro e w3 ⟨b,rfl,b3⟩;have S:=m.t b3;have O:=sH (u.o.ar b3);cases b
 .go_wp2
  go_roundg(n-i)
  .exact⟨i+1,aq,aq,aV,O,S⟩
  omega
 go_wp2_with fail;refine(So _ _).mono ?_;rintro e w4 ⟨x,rfl,b3⟩;have U:=S.t b3;have O5:=sH (O.o.ar b3);go_wp2_with fail;refine(So _ _).mono ?_;rintro e w5 ⟨y,rfl,b3⟩;have s:=U.t b3;have l:=sH (O5.o.ar b3);go_upto_region 8 with fail;go_upto_block 2 with fail;go_cut[11,13](λa _ C=>(∃z:Int,a=ae aj z)/\ak (Ow C w.heap.size 3 .i64 aK (OH ⟨g,0,OJ⟩) n n)/\ak (az w C))
 case first=>
  go_wp2;go_loopg[11,13](i+2)(λgg a q wr=>∃(k:Nat) (z:Int),k<gg/\k<=i/\a=ae aj z/\q=ae aj ((k:Int)-1)/\ak (Ow wr w.heap.size 3 .i64 aK (OH ⟨g,0,OJ⟩) n n)/\ak (az w wr))
  .exact⟨i,x,aq,aq,rfl,rfl,l,s⟩
  obtain⟨k,J,I,hk,rfl,rfl,D,j⟩:=hrel;rcases k with _|k
  .go_wp2
   go_meet;exact⟨⟨_,rfl⟩,D,j⟩
  have Y:(((k+1:Nat):Int)-1)=(k:Int):=aq;rw[Y];obtain⟨K,z3,f,_,r⟩:=(R.o.Z j.o j.o.size).get (show k<n by omega);injection f with f
  subst f;go_wp2_with fail;refine(oQ z3 _).mono ?_;rintro e G ⟨b,rfl,b3⟩;have B7:=j.t b3;have O7:=sH (D.o.ar b3);have r:=av r b3;cases b
  .exact afm
  .go_wp2
   go_roundg(k+1)
   .exact⟨k,_,aq,aq,rfl,aV,O7,B7⟩
   omega
 case rest=>
 obtain⟨⟨E,rfl⟩,l,s⟩:=hcut;go_upto_block 4 with fail;go_cut[12,14](λa _ C=>(∃z:Int,a=ae aj z)/\ak (Ow C w.heap.size 3 .i64 aK (OH ⟨g,0,OJ⟩) n n)/\ak (az w C))
 case first=>
  go_wp2;go_loopg[12,14](n+1)(λgg a q wr=>∃(k:Nat) (z:Int),n-k<gg/\k<=n/\a=ae aj z/\q=ae aj (k:Int)/\ak (Ow wr w.heap.size 3 .i64 aK (OH ⟨g,0,OJ⟩) n n)/\ak (az w wr))
  .exact⟨i+1,y,aq,aq,rfl,lZ,l,s⟩
  obtain⟨k,J,I,hk,rfl,rfl,D,j⟩:=hrel;by_cases X:k<n;rotate_left
  .have i5:=cI k n
   go_wp2;go_meet;exact⟨⟨_,rfl⟩,D,j⟩
  have i5:=aU k n;obtain⟨K,z3,f,_,r⟩:=(R.o.Z j.o j.o.size).get (show k<n by omega);injection f with f
  subst f;go_wp2_with fail;refine(oQ z3 _).mono ?_;rintro e G ⟨b,rfl,b3⟩;have B7:=j.t b3;have O7:=sH (D.o.ar b3);have r:=av r b3;cases b
  .exact afm
  .go_wp2
   go_roundg(n-k)
   .exact⟨k+1,_,aq,aq,rfl,aV,O7,B7⟩
   omega
 case rest=>
 obtain⟨⟨N,rfl⟩,l,s⟩:=hcut
 rename EE=>w6
 obtain⟨Q,_,M⟩:=l.o.get d;have f1:=l.o.fz i;by_cases B:(E==N)=OX
 .have m:ak (az w ((w6).setCell ⟨g,i,OJ⟩ (ae aj (E)))):=⟨Below.setCell (s.o) (p:=⟨g,i,OJ⟩) (l.o).lt.1 _⟩
  have u:=sH ((l.o).set (P:=aK) i (y:=E) trivial);go_wp2;go_roundg(n-i)
  .exact⟨i+1,aq,aq,aV,u,m⟩
  omega
 have B:(E==N)=OZ:=by simpa using B
 go_wp2_with fail;refine(VW lv _).mono ?_;rintro e G ⟨v,rfl,b3⟩;have B7:=s.t b3;have O7:=sH (l.o.ar b3);obtain⟨Q,_,M⟩:=O7.o.get d;have f1:=O7.o.fz i;have m:ak (az w ((G).setCell ⟨g,i,OJ⟩ (ae aj (v)))):=⟨Below.setCell (B7.o) (p:=⟨g,i,OJ⟩) (O7.o).lt.1 _⟩;have u:=sH ((O7.o).set (P:=aK) i (y:=v) trivial);go_wp2;go_roundg(n-i)
 .exact⟨i+1,aq,aq,aV,u,m⟩
 omega
def DI(A:aB)(n c:Nat)(lv:Int)(w:EE)(h:Iw w w.heap.size .i64 aK A n)(H:n<=10000):GK prog 82 #[Pl A n c,ae aj lv] w (Nw w 3 .i64 aK n):=by
 have R:=sH h;have B:ak ((prog.info? 3).map (·.zero)=OH (OH (ae aj 0))):=⟨aF⟩;go_enter func82,ntmps82;go_wp2_with (refine dx (p:=aK) l5 B.o trivial rfl (.tmp 9) (.tmp 9) rfl n rfl rfl rfl rfl aq w.heap.size cr ?_;intro g G o1 j;have x:=sH o1;have s:=sH j;clear o1 j);go_loopg[6,7](n+1)(λgg t _ wr=>∃(i:Nat),n-i<gg/\i<=n/\t=ae aj (i:Int)/\ak (Ow wr w.heap.size 3 .i64 aK (OH ⟨g,0,OJ⟩) n n)/\ak (az w wr))
 .exact⟨0,aq,aq,rfl,x,s⟩
 obtain⟨i,F,hi,rfl,OE,BE⟩:=hrel;by_cases b:i<n;rotate_left
 .exact ae'
 have i4:=aU i n;obtain⟨E,z,rfl,_,D⟩:=(R.o.Z BE.o BE.o.size).get b;obtain⟨C,_,u⟩:=OE.o.get b;have f1:=OE.o.fz i;have f:ak (az w ((wr).setCell ⟨g,i,OJ⟩ (ae aj (lv)))):=⟨Below.setCell (BE.o) (p:=⟨g,i,OJ⟩) (OE.o).lt.1 _⟩;have o:=sH ((OE.o).set (P:=aK) i (y:=lv) trivial);go_upto_region 7 with fail;have⟨q,a⟩:=eX (wr.setCell ⟨g,i,OJ⟩ (ae aj lv));rw[<-a]at f o;rw[<-a];clear a;have d:=o;have e:=f;obtain⟨C,_,u⟩:=d.o.get b;have f1:=d.o.fz i;have l:ak (∀v:Int,Ow (q.setCell ⟨g,i,OJ⟩ (ae aj v)) w.heap.size 3 .i64 aK (OH ⟨g,0,OJ⟩) n n):=⟨λv=>d.o.set i trivial⟩;have m:ak (∀v:Int,az w (q.setCell ⟨g,i,OJ⟩ (ae aj v))):=⟨λv=>Below.setCell e.o (p:=⟨g,i,OJ⟩) d.o.lt.1 _⟩;have r:z=1∨z=2∨z=4∨z=7∨(z≠1/\z≠2/\z≠4/\z≠7):=aq;rcases r with rfl|rfl|rfl|rfl|⟨k,h2,h3,h4⟩
 rotate_right
 .have k:(z==1)=OZ:=by simpa using k
  have h2:(z==2)=OZ:=vN;have h3:(z==4)=OZ:=Gi;have h4:(z==7)=OZ:=Jn;go_wp2_with fail
  all_goals
   (go_roundg(n-i)<;>first|omega|exact⟨i+1,aq,aq,aV,d,e⟩|exact⟨i+1,aq,aq,aV,⟨l.o _⟩,⟨m.o _⟩⟩)
 all_goals
  go_wp2_with fail
  all_goals
   (go_roundg(n-i)<;>first|omega|exact⟨i+1,aq,aq,aV,d,e⟩|exact⟨i+1,aq,aq,aV,⟨l.o _⟩,⟨m.o _⟩⟩)
