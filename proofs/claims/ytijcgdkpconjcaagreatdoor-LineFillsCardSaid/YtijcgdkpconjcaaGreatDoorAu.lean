/- Part of LineFills. -/
import Derived.Test.YtijcgdkpconjcaaGreatDoorAk
import Derived.Test.YtijcgdkpconjcaaGreatDoorAq
import Derived.Test.YtijcgdkpconjcaaGreatDoorAr
namespace Go.Proofs.YtijcgdkpconjcaaGreatDoor
open Go.ChangeShapes Go.WideShapes Go.ChangeAt Go.RowKit Go.Proofs.Tryz
open Go renaming World->EE,Value->EN,Calls->GK,TypeId->IQ,Ending->IS,Program->I3
open Go.RowKit renaming Below->EI,wrap64->IK
open Option renaming some->OH,none->OJ
open Bool renaming true->OX,false->OZ
open Go.Value renaming slice->Pl,bool->PF,tuple->P8,agg->Q4
open Go.Ending renaming returned->RE
open Go.Obj renaming cells->RM
open Go.Value renaming int->ae
open Go.IntKind renaming i64->aj
set_option linter.all false
set_option maxRecDepth 100000
set_option maxHeartbeats 16000000
variable{a b w w0 wr:EE}{A C:aB}{B N c d f g i j k m n q:Nat}{x:Int}{s:cM}{p:jz}{ts:aC}{G:Prop}{e:IQ}{Q:aC->Prop}{P:Int->Prop}
def vz(a:Nat)(v:Int):Prop:=0<=v/\v<=(a:Int)-1
def ox(w:EE)(A:aB)(n:Nat):Prop:=∀i,i<n->∀a x,A=OH a->w.cell? (a.add (i*2))=OH (ae aj x)->0<=x/\x<=268435456
def ox.back(h:ox a A n)(b:az w a):ox w A n:=λi hi c x d e=>h i hi c x d (av e b)
def ox.snoc{c:Addr}(h:ox w A k)(e:A=OH c)(f:w.cell? (c.add (k*2))=OH (ae aj x))(g:0<=x/\x<=268435456):ox w A (k+1):=λi hi a d f1 f2=>by
 rcases Nat.lt_or_ge i k with b|b
 .exact h i b a d f1 f2
 .obtain rfl:i=k:=by omega
  rw[e]at f1;obtain rfl:=Option.some.inj f1;rw[f]at f2;injection f2 with f2;injection f2 with _ f2
  omega
def FmF(w:EE)(s:cM)(p:jz)(ts:aC):Prop:=Yh w p.S p.sn (vz s.yn)/\tY ts p.tn p.tn/\(0<=p.dir/\p.dir<=2)/\ox w p.B p.bn/\1<=p.wd/\p.wd<=268435456
def FmF.back(h:FmF b s p ts)(a:az w b):FmF w s p ts:=⟨λj d e v f c=>h.1 j d e v f (av c a),h.2.1,h.2.2.1,h.2.2.2.1.back a,h.2.2.2.2⟩
def PFm(w:EE)(s:cM)(p:jz)(ts:aC)(e:IS)(a:EE):Prop:=∃z:Bool,e=RE (PF z)/\(z=OX->FmF w s p ts)/\az w a
def SBp(Q:Prop)(v:EN):Prop:=∃b:Bool,v=PF b/\(b=OX->Q)
def EJ{N:aI w0}(n lo hi:Int):GK prog 178 #[ae aj n,ae aj lo,ae aj hi] N.1 λe a=>∃v,e=RE v/\SBp (lo<=n/\n<=hi) v/\∃m:aI w0,a=m.1:=by
 refine(fF n lo hi N.1).mono ?_;rintro e a ⟨z,rfl,b,rfl⟩;exact⟨_,rfl,⟨z,rfl,b⟩,N,rfl⟩
def aej(Q:Prop)(d:Option Tmp):Option (EN->Prop):=if d=OH 78 then OH (SBp Q)else if d=OH 83 then OH SB else if d=OH 99 then OH SB else OJ
def vW{N:aI w0}(n lo hi:Int):GK prog 178 #[ae aj n,ae aj lo,ae aj hi] N.1 λe a=>∃v,e=RE v/\SB v/\∃m:aI w0,a=m.1:=by
 refine(fF n lo hi N.1).mono ?_;rintro e a ⟨z,rfl,_,rfl⟩;exact⟨_,rfl,⟨z,rfl⟩,N,rfl⟩
def Tf(s:G:=by
 simp[Act.put]
 refine ak.o ?_
 repeat first
  |(refine bG aD aD aD ?_;intro K9 bQ;go_big_quiet_op;refine bQ _ ?_)
  |(refine a7 aD ?_;simp[Act.put])
 refine⟨?_⟩
 first
  |(intro (nq:aI _);obtain⟨w6,bq⟩:=nq)
  |(rintro w6 ⟨⟨_,bq⟩,rfl⟩)
 have BX:ak (az W1 w6):=⟨BF.o.trans (bq.mono BF.o.size)⟩;have BH:ak (az w w6):=⟨B1.o.trans (BX.o.mono B1.o.size)⟩
 try dsimp only
 clear bq L1 L2 L3;go_wp2;go_ret;exact⟨_,rfl,aT,BH.o⟩):G:=s
def Tp(s:G:=by
 go_wp2
 go_ret;exact⟨_,rfl,aT,BI.o⟩):G:=s
def pw(s:G:=by
 obtain⟨nq,rfl⟩:=cv
 go_simp;exact EJ _ _ _):G:=s
def ab5(s:cM)(p:jz)(ts:aC)(w:EE)(h:gA w w.heap.size s)(R:kf w p ts)(hn:p.tn<=60):GK prog 105 #[s.v,p.v] w (PFm w s p ts):=by
 have⟨W1,D⟩:∃W1,W1=(w.alloc (RM s.row 26)).alloc (RM p.row 31):=⟨_,rfl⟩;have A:=Fm D;have B1:ak (az w W1):=⟨A.1⟩;have X1:ak (Bx W1 w.heap.size s.row):=⟨A.2.1⟩;have r:ak (Bx W1 (w.heap.size+1) p.row):=⟨A.2.2⟩;clear A;have⟨l,g,d,n,q,o,m,t⟩:=r.o.c8;have R0:ak _:=⟨h⟩;have O:ak _:=⟨R⟩;have h2:=h.rY.bd;have h5:=R.rS.bd;have h6:=R.rB.bd
 clear h R;go_enter func105,ntmps105;go_upto_region 1 with fail;rw[<-D];clear D;go_wp2_with fail;refine(adJ p.T p.tn p.tc ts W1 (O.o.ar B1.o).rT aq).mono ?_;rintro e F ⟨z,rfl,ho,C⟩;have HO:ak _:=⟨ho⟩;clear ho;have Q:ak (az W1 F):=⟨C⟩;have BH:ak (az w F):=⟨B1.o.trans (C.mono B1.o.size)⟩;clear C;cases z
 .go_wp2
  go_ret;exact⟨_,rfl,aT,BH.o⟩
 clear l g d n q o m t;have⟨l,g,d,n,q,o,m,t⟩:=(r.o.ar Q.o r.o.lt).c8;go_wp2_with fail;refine(Yf p.S p.sn p.sc _ F (O.o.ar BH.o).rS).mono ?_;rintro e w4 ⟨z,rfl,C⟩;have B4:ak (az W1 w4):=⟨Q.o.trans (C.mono Q.o.size)⟩;have BI:ak (az w w4):=⟨BH.o.trans (C.mono BH.o.size)⟩;clear C Q BH;cases z
 .exact Tp
 clear l g d n q o m t;have⟨l,g,d,n,q,o,m,t⟩:=(r.o.ar B4.o r.o.lt).c8;go_wp2_with fail;refine(fF _ _ _ _).mono ?_;rintro e F ⟨z,rfl,hd,rfl⟩;have HD:ak _:=⟨hd⟩;clear hd;cases z
 .exact Tp
 go_wp2_with fail;refine(fF _ _ _ _).mono ?_;rintro e F ⟨z,rfl,M,rfl⟩;have Z:ak _:=⟨M⟩;clear M;cases z
 .exact Tp
 go_wp2_with fail;refine(fF _ _ _ _).mono ?_;rintro e F ⟨z,rfl,_,rfl⟩;cases z
 .exact Tp
 go_wp2_with fail;refine(fF _ _ _ _).mono ?_;rintro e F ⟨z,rfl,_,rfl⟩;cases z
 .exact Tp
 go_wp2;clear l g d n q o m t;go_loopg[5](p.sn+1)(λgg v5 wr=>∃(i:Nat),p.sn-i<gg/\i<=p.sn/\v5=ae aj (i:Int)/\ak (az W1 wr)/\ak (Yh w p.S i (vz s.yn)))
 .exact⟨0,aq,aq,rfl,B4,⟨λj hj=>by omega⟩⟩
 clear B4 BI;obtain⟨i,hg,hi,rfl,f,SV⟩:=hrel;have u:ak (az w wr):=⟨B1.o.trans (f.o.mono B1.o.size)⟩;have⟨c0,c1,X,c3,c4⟩:=(X1.o.ar f.o X1.o.lt).c5;have⟨l,g,d,n,q,o,m,t⟩:=(r.o.ar f.o r.o.lt).c8;clear c0 X c3 c4 l d n q o m t;by_cases W:i<p.sn
 .have i4:(i:Int)<(p.sn:Int):=by omega
  obtain⟨ad,c,S,N,eS,e0,V,K⟩:=lQ O.o.rS W;have T:ak (vz s.yn N->Yh w p.S (i+1) (vz s.yn)):=⟨λh j hj P v ea E=>by
   by_cases oT:j<i
   .exact SV.o j oT P v ea E
   .obtain rfl:j=i:=by omega
    rw[eS]at ea;obtain rfl:=Option.some.inj ea;rw[K]at E;injection E with E
    injection E with _ E
    subst E;exact h⟩
  have K:=av K u.o;rw[eS]at g;clear eS e0 V;go_wp2;have L1:=au g;have L2:=au c1;have L3:=au K
  clear g c1 K;refine aE (kC 62 (SBp (0<=N/\N<=(s.yn:Int)-1))) aF aF ?_;refine ak.o ?_
  repeat first
   |(refine bG aD aD aD ?_;intro K9 bQ;go_big_quiet_op;refine bQ _ ?_)
   |(refine a7 aD ?_;simp[Act.put])
  refine⟨?_⟩;refine cK (SBp (0<=N/\N<=(s.yn:Int)-1)) aD aD (λH cv=> ?_) (λJ a=> ?_)
  .exact pw
  obtain⟨b,rfl,y⟩:=a;have B:ak _:=⟨y⟩;clear y;cases b
  .simp[Act.put]
   refine ak.o ?_
   repeat first
    |(refine bG aD aD aD ?_;intro K9 bQ;go_big_quiet_op;refine bQ _ ?_)
    |(refine a7 aD ?_;simp[Act.put])
   refine⟨?_⟩
   first
    |(intro (nq:aI _);obtain⟨w6,bq⟩:=nq)
    |(rintro w6 ⟨⟨_,bq⟩,rfl⟩)
   have BX:ak (az w w6):=⟨u.o.trans (bq.mono u.o.size)⟩
   try dsimp only
   clear bq L1 L2 L3;go_wp2;go_ret;exact⟨_,rfl,aT,BX.o⟩
  simp[Act.put];refine ak.o ?_
  repeat first
   |(refine bG aD aD aD ?_;intro K9 bQ;go_big_quiet_op;refine bQ _ ?_)
   |(refine a7 aD ?_;simp[Act.put])
  refine⟨?_⟩
  first
   |(intro (nq:aI _);obtain⟨w6,bq⟩:=nq)
   |(rintro w6 ⟨⟨_,bq⟩,rfl⟩)
  have BX:ak (az W1 w6):=⟨f.o.trans (bq.mono f.o.size)⟩
  try dsimp only
  clear bq L1 L2 L3;go_wp2;go_roundg(p.sn-i)
  case measure=>omega
  case rel=>exact⟨i+1,aq,aq,aV,BX,⟨T.o (by first|exact B.o rfl|exact B.o|simpa[vz]using B.o)⟩⟩
 .have i4:¬(i:Int)<(p.sn:Int):=by omega
  obtain rfl:i=p.sn:=aq;go_wp2;clear c1 g;go_loopg[6,7](p.bn+1)(λgg v6 _ wr=>∃(j:Nat),p.bn-j<gg/\j<=p.bn/\v6=ae aj (j:Int)/\ak (az W1 wr)/\ak (ox w p.B j))
  .exact⟨0,aq,aq,rfl,f,⟨λi hi=>by omega⟩⟩
  clear f u;obtain⟨j,dV,hj,rfl,f,TU⟩:=hrel;have u:ak (az w wr):=⟨B1.o.trans (f.o.mono B1.o.size)⟩;have⟨l,g,d,n,q,o,m,t⟩:=(r.o.ar f.o r.o.lt).c8;clear l g n q o m t;by_cases Y:j<p.bn;rotate_left
  .have i5:¬(j:Int)<(p.bn:Int):=by omega
   have FF:ak (FmF w s p ts):=⟨⟨SV.o,HO.o aT,HD.o aT,λi hi=>TU.o i aq,Z.o aT⟩⟩;go_wp2;go_ret;exact⟨_,rfl,λ_=>FF.o,u.o⟩
  have i5:(j:Int)<(p.bn:Int):=aq;obtain⟨ad,c,S,eB,G,L⟩:=Ek O.o.rB Y;have T:ak (0<=c/\c<=268435456->ox w p.B (j+1)):=⟨λhx=>TU.o.snoc eB G hx⟩;have e0:=av G u.o;have V:=av L u.o
  clear G L;have EB:ak _:=⟨eB⟩;rw[eB]at d;clear eB;go_upto_region 12 with fail;have⟨x,cg⟩:∃x,x=wr.alloc (RM #[ae aj c,ae aj S] 168):=⟨_,rfl⟩;have A:az wr x:=jT;have X3:Bx x wr.heap.size #[ae aj c,ae aj S]:=lY;rw[<-cg];have g0:x.cell? ⟨wr.heap.size,0,OJ⟩=OH (ae aj c):=X3.cell 0;have g1:x.cell? ⟨wr.heap.size,1,OJ⟩=OH (ae aj S):=X3.cell 1;have BF:ak (az W1 x):=⟨f.o.trans (A.mono f.o.size)⟩;have d:=av d A;have I:ak (az w x):=⟨B1.o.trans (BF.o.mono B1.o.size)⟩;clear cg A X3 e0 V;have L1:=au d;have L2:=au g0;have L3:=au g1
  clear d g0 g1;rcases j with _|k
  .refine aE (aej (0<=c/\c<=268435456)) aF aF ?_
   refine ak.o ?_
   repeat first
    |(refine bG aD aD aD ?_;intro K9 bQ;go_big_quiet_op;refine bQ _ ?_)
    |(refine a7 aD ?_;simp[Act.put])
   refine⟨?_⟩;refine cK (SBp (0<=c/\c<=268435456)) aD aD (λH cv=> ?_) (λJ a=> ?_)
   .exact pw
   obtain⟨b,rfl,y⟩:=a;have B:ak _:=⟨y⟩;clear y;cases b
   .exact Tf
   simp[Act.put];refine ak.o ?_
   repeat first
    |(refine bG aD aD aD ?_;intro K9 bQ;go_big_quiet_op;refine bQ _ ?_)
    |(refine a7 aD ?_;simp[Act.put])
   refine⟨?_⟩;refine cK SB aD aD (λH cv=> ?_) (λJ a=> ?_)
   .obtain⟨nq,rfl⟩:=cv
    go_simp;exact vW _ _ _
   obtain⟨b,rfl⟩:=a;cases b
   .exact Tf
   simp[Act.put];refine ak.o ?_
   repeat first
    |(refine bG aD aD aD ?_;intro K9 bQ;go_big_quiet_op;refine bQ _ ?_)
    |(refine a7 aD ?_;simp[Act.put])
   refine⟨?_⟩
   first
    |(intro (nq:aI _);obtain⟨w6,bq⟩:=nq)
    |(rintro w6 ⟨⟨_,bq⟩,rfl⟩)
   have BX:ak (az W1 w6):=⟨BF.o.trans (bq.mono BF.o.size)⟩;have BH:ak (az w w6):=⟨B1.o.trans (BX.o.mono B1.o.size)⟩
   try dsimp only
   clear bq L1 L2 L3;go_wp2;go_roundg(p.bn-0)
   case measure=>omega
   case rel=>exact⟨0+1,aq,aq,aV,BX,⟨T.o (B.o aT)⟩⟩
  .obtain⟨P,y0,y1,U,G,L⟩:=Ek O.o.rB (show k<p.bn by omega)
   have q0:=av G I.o;have q1:=av L I.o
   rw[EB.o]at U;obtain rfl:=Option.some.inj U;clear G L;have wk:IntKind.i64.wrap ((k:Int)+1-1)=(k:Int):=zo;have k0:=gT k;have k1:(k:Int)<(p.bn:Int):=aq;have L4:=au q0;clear q0 q1 U;refine aE (aej (0<=c/\c<=268435456)) aF aF ?_;refine ak.o ?_
   repeat first
    |(refine bG aD aD aD ?_;intro K9 bQ;go_big_quiet_op;refine bQ _ ?_)
    |(refine a7 aD ?_;simp[Act.put])
   refine⟨?_⟩;refine cK (SBp (0<=c/\c<=268435456)) aD aD (λH cv=> ?_) (λJ a=> ?_)
   .exact pw
   obtain⟨b,rfl,y⟩:=a;have B:ak _:=⟨y⟩;clear y;cases b
   .exact Tf
   simp[Act.put];refine ak.o ?_
   repeat first
    |(refine bG aD aD aD ?_;intro K9 bQ;go_big_quiet_op;refine bQ _ ?_)
    |(refine a7 aD ?_;simp[Act.put])
   refine⟨?_⟩;refine cK SB aD aD (λH cv=> ?_) (λJ a=> ?_)
   .obtain⟨nq,rfl⟩:=cv
    go_simp;exact vW _ _ _
   obtain⟨b,rfl⟩:=a;cases b
   .exact Tf
   simp[Act.put];refine ak.o ?_
   repeat first
    |(refine bG aD aD aD ?_;intro K9 bQ;go_big_quiet_op;refine bQ _ ?_)
    |(refine a7 aD ?_;simp[Act.put])
   refine⟨?_⟩;refine cK SB aD aD (λH cv=> ?_) (λJ a=> ?_)
   .obtain⟨nq,rfl⟩:=cv
    go_simp;exact⟨_,rfl⟩
   obtain⟨b,rfl⟩:=a;cases b
   .simp[Act.put]
    refine ak.o ?_
    repeat first
     |(refine bG aD aD aD ?_;intro K9 bQ;go_big_quiet_op;refine bQ _ ?_)
     |(refine a7 aD ?_;simp[Act.put])
    refine⟨?_⟩
    first
     |(intro (nq:aI _);obtain⟨w6,bq⟩:=nq)
     |(rintro w6 ⟨⟨_,bq⟩,rfl⟩)
    have BX:ak (az W1 w6):=⟨BF.o.trans (bq.mono BF.o.size)⟩;have BH:ak (az w w6):=⟨B1.o.trans (BX.o.mono B1.o.size)⟩
    try dsimp only
    clear bq L1 L2 L3;go_wp2;go_roundg(p.bn-(k+1))
    case measure=>omega
    case rel=>exact⟨k+1+1,aq,aq,aV,BX,⟨T.o (B.o aT)⟩⟩
   .exact Tf
def TQ.snoc{o:Addr}{f:dv}(h:TQ w B {s with fn:=i})(y:cU w B uv s.F s.fn s.fc)(hi:i<s.fn)(C:s.F=OH o)(I:FU w o i f)(U:FOk w B f):TQ w B {s with fn:=i+1}:=λj H l a=>by
 obtain⟨J,n,t,_⟩:=y.2.2.2 aq;by_cases g:j<i
 .exact h j g l a
 .obtain rfl:j=i:=by simp at H;omega
  rw[C]at a n;obtain rfl:=Option.some.inj a;obtain rfl:=Option.some.inj n;refine⟨t,λx K=> ?_⟩;obtain⟨v,q,E,p,z,F⟩:=I;obtain⟨m,b,e,d,c,k⟩:=K;rw[v]at m;rw[q]at b;rw[E]at e;rw[p]at d;rw[z]at c;rw[F]at k
  simp at m b e d c k;obtain⟨V,P,T,O,N,Q,S,R,M,W,u,D,A,r,L,G⟩:=x;obtain⟨f0,f1,f2,f3,f4,f5,f6,f7,f8,f9,f10,f11,f12,f13,f14,f15⟩:=f;simp at m b e d c k
  simp_all
def ry.ar{d:EE}(h:ry w s j)(m:cU w w.heap.size .str s.P s.pn s.pc)(f:j<s.pn)(k:az w d):ry d s j:=λl z c i=>by
 obtain⟨g,n,e,_,b,_⟩:=yL m f;rw[c]at e;obtain rfl:=Option.some.inj e;have a:=av b k;rw[i]at a;injection a with a
 injection a with a
 subst a;exact h l z c b
def ZJ(w a:EE)(s:cM)(p:jz)(ts:aC):Prop:=TQ a a.heap.size s/\(0<s.yn/\0<s.fn/\Bs a a.heap.size s)/\(Fp ts p.tn/\0<=s.ev/\s.ev<=1048576)/\FmF w s p ts
def PCh(w:EE)(s:cM)(p:jz)(ts:aC)(e:IS)(a:EE):Prop:=∃z:Int,e=RE (ae aj z)/\(z=0->ZJ w a s p ts)/\az w a
def Ze(s:G:=by
 go_wp2
 go_ret;exact⟨_,rfl,aT,BI.o⟩):G:=s
def yT(hB:rR)(hP:qG)(s:cM)(p:jz)(ts:aC)(w:EE)(h:gA w w.heap.size s)(W:kf w p ts)(hs:zt w s p):GK prog 43 #[s.v,p.v] w (PCh w s p ts):=by
 have⟨g,t⟩:∃g,g=(w.alloc (RM s.row 26)).alloc (RM p.row 31):=⟨_,rfl⟩;have N:=Fm t;have d:ak (az w g):=⟨N.1⟩;have q:ak (Bx g w.heap.size s.row):=⟨N.2.1⟩;have C:ak (Bx g (w.heap.size+1) p.row):=⟨N.2.2⟩;clear N;have⟨c0,r,b,o,c4⟩:=q.o.c5;have⟨G,P,J,I,L,K,H,O⟩:=C.o.c8;have B:ak _:=⟨h⟩;have P0:ak _:=⟨W⟩;obtain⟨t1,t2,t3,t4,t5,t6,T⟩:=hs;have SL:ak _:=⟨T⟩;clear h W T;go_enter func43,ntmps43;go_upto_region 1 with fail;rw[<-t];clear t;go_wp2_with fail;refine(Ca p.T p.tn p.tc ts g (P0.o.ar d.o).rT aq).mono ?_;rintro e c ⟨z,rfl,Y,rfl⟩;have HR:ak (_↔_):=⟨Y⟩;clear Y;cases z
 .go_wp2
  go_ret;exact⟨_,rfl,aT,d.o⟩
 go_wp2;go_loopg[5](s.fn+1)(λgg v5 wr=>∃(i:Nat),s.fn-i<gg/\i<=s.fn/\v5=ae aj (i:Int)/\ak (az g wr)/\ak (TQ wr wr.heap.size {s with fn:=i}))
 .exact⟨0,aq,aq,rfl,cJ,⟨λj M=>by simp at M⟩⟩
 clear c0 r b o c4 G P J I L K H O;obtain⟨i,hg,hi,rfl,v,n⟩:=hrel;have l:ak (az w wr):=⟨d.o.trans (v.o.mono d.o.size)⟩;have⟨c0,r,b,o,c4⟩:=(q.o.ar v.o q.o.lt).c5;by_cases y:i<s.fn
 .have i4:(i:Int)<(s.fn:Int):=by omega
  obtain⟨ad,f,R,hf,e0,U,V,X,e4,Z⟩:=qz (B.o.Z l.o l.o.size).rF y;have FC:ak (FU wr ad i f):=⟨⟨e0,U,V,X,e4,Z⟩⟩;have SN:ak _:=⟨λh=>n.o.snoc (B.o.Z l.o l.o.size).rF y R FC.o h⟩;rw[R]at c0;have HF:ak _:=⟨hf⟩;clear R hf r b o c4;go_wp2_with fail;refine(Wq hB f wr HF.o).mono ?_;rintro e c ⟨z,rfl,x,a⟩;have k:ak (az g c):=⟨v.o.trans (a.mono v.o.size)⟩;have m:ak (az w c):=⟨d.o.trans (k.o.mono d.o.size)⟩;have u:ak _:=⟨λh=>(SN.o (x h)).Z a a.size⟩;clear x a e0 U V X e4 Z c0;by_cases D:z=0
  .have Q:(z !=0)=OZ:=by simp[D]
   have F2:ak _:=⟨u.o D⟩;clear D;go_wp2;go_roundg(s.fn-i)
   case measure=>omega
   case rel=>exact⟨i+1,aq,aq,aV,k,F2⟩
  .have Q:(z !=0)=OX:=by simp[D]
   clear D;go_wp2;go_ret;exact⟨_,rfl,aT,m.o⟩
 .have i4:¬(i:Int)<(s.fn:Int):=by omega
  obtain rfl:i=s.fn:=aq;go_wp2_with fail;refine(Jx hP s wr (B.o.Z l.o l.o.size) (λj M=>(SL.o j M).ar B.o.rP M l.o)).mono ?_;rintro e c ⟨z,rfl,x,a⟩;have k:ak (az g c):=⟨v.o.trans (a.mono v.o.size)⟩;have m:ak (az w c):=⟨d.o.trans (k.o.mono d.o.size)⟩;have F3:ak _:=⟨n.o.Z a a.size⟩;have E:ak (Bs wr wr.heap.size s->Bs c c.heap.size s):=⟨λh=>h.Z a a.size⟩;clear a c0 r b o c4;cases z
  .go_wp2
   go_ret;exact⟨_,rfl,aT,m.o⟩
  have u:ak _:=⟨x rfl⟩;clear x;have⟨c0,r,b,o,c4⟩:=(q.o.ar k.o q.o.lt).c5;have⟨G,P,J,I,L,K,H,O⟩:=(C.o.ar k.o C.o.lt).c8;go_wp2_with fail;refine(ab5 s p ts c (B.o.Z m.o m.o.size) (P0.o.ar m.o) t1).mono ?_;rintro e F ⟨z,rfl,hv,a⟩;have S:ak (az g F):=⟨k.o.trans (a.mono k.o.size)⟩;have BI:ak (az w F):=⟨d.o.trans (S.o.mono d.o.size)⟩;have F4:ak _:=⟨F3.o.Z a a.size⟩;have A:ak (Bs c c.heap.size s->Bs F F.heap.size s):=⟨λh=>h.Z a a.size⟩;clear a c0 r b o c4 G P J I L K H O;cases z
  .exact Ze
  have HV:ak _:=⟨(hv rfl).back m.o⟩;clear hv;have CF:ak (ZJ w F s p ts):=⟨⟨F4.o,⟨u.o.1,u.o.2.1,A.o (E.o u.o.2.2.1)⟩,⟨HR.o.1 aT,u.o.2.2.2⟩,HV.o⟩⟩;have⟨c0,r,b,o,c4⟩:=(q.o.ar S.o q.o.lt).c5;have⟨G,P,J,I,L,K,H,O⟩:=(C.o.ar S.o C.o.lt).c8;clear E A u HV F3 F4 k m n v l;have k1:¬(512:Int)<(s.pn:Int):=aq;have k2:¬(4096:Int)<(p.tn:Int):=aq;by_cases q1:(8:Int)<(s.fn:Int)
  .exact Ze
  by_cases q2:(64:Int)<(s.yn:Int)
  .exact Ze
  by_cases q3:(32:Int)<(p.bn:Int)
  .exact Ze
  go_wp2;go_ret;exact⟨_,rfl,λ_=>CF.o,BI.o⟩
def zt.ar(h:zt w s p)(k:gA w w.heap.size s)(i:az w b):zt b s p:=by
 obtain⟨g,e,d,m,c,l,f⟩:=h;exact⟨g,e,d,m,c,l,λj a=>(f j a).ar k.rP a i⟩
def zt.back(h:zt a s p)(l:az w a):zt w s p:=by
 obtain⟨k,f,d,o,c,n,i⟩:=h;exact⟨k,f,d,o,c,n,λj b m z e g=>i j b m z e (av g l)⟩
def MyF(w a:EE)(s:cM)(p:jz)(ts:aC):Prop:=zt w s p/\ZJ w a s p ts
def PMy(w:EE)(s:cM)(p:jz)(ts:aC)(e:IS)(a:EE):Prop:=∃z:Bool,e=RE (PF z)/\(z=OX->MyF w a s p ts)/\az w a
def acZ(F:rR)(v:qG)(s:cM)(p:jz)(ts:aC)(w:EE)(h:gA w w.heap.size s)(E:kf w p ts):GK prog 14 #[s.v,p.v] w (PMy w s p ts):=by
 have⟨M,c,d,q,k⟩:=box2 w s.row 26 p.row 31;have⟨c0,u,n,D,c4⟩:=q.o.c5;have⟨y,K,x,J,B,C,H,I⟩:=k.o.c8;have⟨i,t⟩:=K' h E;go_enter func14,ntmps14;go_upto_region 1 with fail;rw[<-c];clear c;go_wp2_with fail;refine(H9 s p ts M (i.o.Z d.o d.o.size) (t.o.ar d.o)).mono ?_;rintro e N ⟨z,rfl,b,l⟩;have o:=sH l;have a:=d.t o.o;cases z
 .go_wp2
  go_ret;exact⟨_,rfl,aT,a.o⟩
 have g:=sH (b rfl);have f:=sH (g.o.back d.o);have⟨c0,u,n,D,c4⟩:=(q.o.ar o.o q.o.lt).c5;have⟨y,K,x,J,B,C,H,I⟩:=(k.o.ar o.o k.o.lt).c8;go_wp2_with fail;refine(yT F v s p ts N (i.o.Z a.o a.o.size) (t.o.ar a.o) (f.o.ar i.o a.o)).mono ?_;rintro e L ⟨z,rfl,b,l⟩;have r:=a.t l;have A:ak (z=0->MyF w L s p ts):=⟨λh=>⟨f.o,(b h).1,(b h).2.1,(b h).2.2.1,(b h).2.2.2.back a.o⟩⟩;by_cases m:z=0
 .have j:(z==0)=OX:=by simp[m]
  have G:=sH (A.o m);go_wp2;go_ret;exact⟨_,rfl,λ_=>G.o,r.o⟩
 .have j:(z==0)=OZ:=by simp[m]
  go_wp2;go_ret;exact⟨_,rfl,aT,r.o⟩
def aba(a b:Rn)(w:EE):GK prog 51 #[Q4 a.row,Q4 b.row] w (PB w):=by
 have⟨c,d,f,g,e⟩:=box2 w a.row 68 b.row 68;have g2:c.cell? ⟨w.heap.size,2,OJ⟩=OH (ae aj a.lv):=g.o.cell 2;have j:c.cell? ⟨w.heap.size,3,OJ⟩=OH (ae aj a.sp):=g.o.cell 3;have h:c.cell? ⟨w.heap.size,4,OJ⟩=OH (ae aj a.fo):=g.o.cell 4;have p:c.cell? ⟨w.heap.size,5,OJ⟩=OH (ae aj a.st):=g.o.cell 5;have k:c.cell? ⟨w.heap.size+1,2,OJ⟩=OH (ae aj b.lv):=e.o.cell 2;have o:c.cell? ⟨w.heap.size+1,3,OJ⟩=OH (ae aj b.sp):=e.o.cell 3;have k4:c.cell? ⟨w.heap.size+1,4,OJ⟩=OH (ae aj b.fo):=e.o.cell 4;have n:c.cell? ⟨w.heap.size+1,5,OJ⟩=OH (ae aj b.st):=e.o.cell 5;go_enter func51,ntmps51;go_upto_region 1 with fail;rw[<-d];clear d;cases m:(a.lv==b.lv)
 .go_wp2
  go_ret;exact⟨_,rfl,f.o⟩
 cases i:(a.sp==b.sp)
 .go_wp2
  go_ret;exact⟨_,rfl,f.o⟩
 cases l:(a.fo==b.fo)
 .go_wp2
  go_ret;exact⟨_,rfl,f.o⟩
 go_wp2;go_ret;exact⟨_,rfl,f.o⟩
def ZS(P:Int->Prop):Sat:=⟨λv _=>∃z:Int,v=ae aj z/\P z,λ_ _ _ h _=>h⟩
def Wt(h:cU w B ym A n c)(d:j<n):∃(a:Addr) (x:Int),A=OH a/\Wf .i64 x/\w.cell? (a.add (j*4))=OH (ae aj x):=by
 obtain⟨a,e,_,f⟩:=h.2.2.2 aq;obtain⟨m,g,k⟩:=f j d;obtain⟨_,_,rfl,⟨l,rfl,i⟩,_⟩:=g;have b:=k 0 _ rfl;rw[fA]at b;exact⟨a,l,e,i,b⟩
def Oq.apart(h:Oq w B e k Q A n c)(b:g<B):bR A (OH ⟨g,0,OJ⟩):=by
 obtain⟨gs,d,f,a⟩:=h;exact aA.oB a b
def Yh.ar{e:EE}(h:Yh w A n P)(m:cU w w.heap.size uF A n c)(k:az w e):Yh e A n P:=λj b l v d i=>by
 obtain⟨g,q,p,o,f,_,_,g2⟩:=lQ m b;rw[d]at f;obtain rfl:=Option.some.inj f;have a:=av g2 k;rw[i]at a;injection a with a
 injection a with _ a
 subst a;exact h j b l _ d g2
def N'(hB:rR)(hP:qG)(s:cM)(p:jz)(ts:aC)(w:EE)(h:gA w w.heap.size s)(hp:kf w p ts)(hs:zt w s p):GK prog 48 #[s.v,p.v] w (PJo w p.tn):=by
 have⟨W1,F,t,S,X2⟩:=box2 w s.row 26 p.row 31;have⟨c0,J,E,c3,c4⟩:=S.o.c5;have⟨O,I,U,d3,d4,W,Q,d7⟩:=X2.o.c8;have⟨K,M,S0⟩:=MO h hp hs;have ht:p.tn<=60:=hs.1;have zz:ak ((prog.info? 3).map (·.zero)=OH (OH (ae aj 0))):=⟨aF⟩;go_enter func48,ntmps48;go_upto_region 1 with fail;rw[<-F];clear F;go_wp2_with fail;refine(yT hB hP s p ts W1 (K.o.Z t.o t.o.size) (M.o.ar t.o) (S0.o.ar K.o t.o)).mono ?_;rintro e l ⟨z,rfl,n,Z⟩;have v:=t.t Z;have⟨A,o⟩:=K' (S.o.ar Z S.o.lt) (X2.o.ar Z X2.o.lt);have HZ:ak (z=0->(0<s.yn)/\Yh w p.S p.sn (vz s.yn)):=⟨λh=>⟨(n h).2.1.1,((n h).2.2.2.back t.o).1⟩⟩;by_cases L:z=0;rotate_left
 .have P:(z !=0)=OX:=by simp[L]
  go_wp2;go_ret;exact⟨_,_,_,aq,rfl,Oq.nil _ _ _ _ _,v.o⟩
 have P:(z !=0)=OZ:=by simp[L]
 have hy:=(HZ.o L).1;have SV:=sH ((HZ.o L).2);have⟨c0,J,E,c3,c4⟩:=A.o.c5;have⟨O,I,U,d3,d4,W,Q,d7⟩:=o.o.c8;go_upto_region 4 with(refine dx (p:=Wf .i64) l5 zz.o cF rfl (.tmp 15) (.tmp 15) rfl p.tn rfl rfl rfl rfl aq l.heap.size cr ?_;intro g w4 o4 b4;have O4:=sH o4;have N:=sH b4;clear o4 b4)
 have mU:=O4.o.lt;have⟨YA,YB⟩:=K' (A.o.ar N.o A.o.lt) (o.o.ar N.o o.o.lt);have BI:=v.t N.o;have D:=v.o.size;have tC:w.heap.size+2<=l.heap.size:=by have:=o.o.lt;omega
 have⟨O,I,U,d3,d4,W,Q,d7⟩:=YB.o.c8;go_wp2_with fail;refine(Oi p.T p.tn p.tc ts w4 (M.o.ar BI.o).rT aq).mono ?_;rintro e w5 ⟨C,m,d,hm,rfl,oc,X⟩;have f:=sH oc;have B5:=N.t X;have BJ:=BI.t X;have O5:=sH (O4.o.ar X);obtain⟨ady,eY,_⟩:=K.o.rY.2.2.2 hy;have f:ak (Oq w5 (g+1) 57 2 (WL p.tn) C m d):=⟨f.o.cS aq⟩;have EY:=sH eY;go_wp2;go_loopg[7,8](m+1)(λgg v7 _ wr=>∃(i:Nat),m-i<gg/\i<=m/\v7=ae aj (i:Int)/\ak (Ow wr l.heap.size 3 .i64 (Wf .i64) (OH ⟨g,0,OJ⟩) p.tn p.tn)/\ak (az l wr)/\ak (Oq wr (g+1) 57 2 (WL p.tn) C m d))
 .exact⟨0,aq,aq,rfl,O5,B5,f⟩
 obtain⟨i,hg,hi,rfl,y,j,f⟩:=hrel;by_cases B:i<m;rotate_left
 .have i4:=cI i m
  obtain⟨xs,hS⟩:=y.o.sl;have HS:=sH hS;have ib:=j.o.size;have r:=sH (v.o.trans (j.o.mono D));go_wp2_with fail;refine(aaO _ p.tn p.tn xs wr HS.o aq).mono ?_;rintro e w6 ⟨A6,m6,c6,R,rfl,o6,b6⟩;have u:=sH (o6.cS (show w.heap.size<=wr.heap.size by omega));have V:=r.t b6;go_wp2;go_ret;exact⟨_,_,_,R,rfl,u.o,V.o⟩
 have i4:=aU i m;obtain⟨gc,a,b,rfl,ja,zr,e0,e1⟩:=f.o.cut B;go_wp2;go_loopg[8](p.tn+1)(λgg v8 wr=>∃(k:Nat),p.tn-k<gg/\k<=p.tn/\v8=ae aj (k:Int)/\ak (Ow wr l.heap.size 3 .i64 (Wf .i64) (OH ⟨g,0,OJ⟩) p.tn p.tn)/\ak (az l wr)/\ak (Oq wr (g+1) 57 2 (WL p.tn) (OH ⟨gc,0,OJ⟩) m d))
 .exact⟨a,aq,aq,rfl,y,j,f⟩
 obtain⟨k,DQ,hk,rfl,y,j,f⟩:=hrel;obtain⟨gc2,a2,b2,G,ahu,agL,e0,e1⟩:=f.o.cut B;injection G with G
 injection G with G
 subst G;by_cases hkb:k<b2;rotate_left
 .have i5:=cI k b2
  go_wp2;go_roundg(m-i)
  .exact⟨i+1,aq,aq,aV,y,j,f⟩
  omega
 have i5:=aU k b2;have T:k<p.tn:=aq;have r:=sH (v.o.trans (j.o.mono D));have⟨c0,J,E,c3,c4⟩:=(A.o.ar j.o A.o.lt).c5;have⟨O,I,U,d3,d4,W,Q,d7⟩:=(o.o.ar j.o o.o.lt).c8;have⟨SW,PS,RY⟩:=MO (SV.o.ar M.o.rS r.o) ((M.o.ar r.o).rS) ((K.o.Z r.o r.o.size).rY);rw[EY.o]at J;have i6:(k:Int)<(p.tn:Int):=aq;go_upto_region 11 with fail;have⟨L0,L1,L2⟩:=lc3 J I e0;refine aQ (jD 51 (ZS (vz s.yn))) 16 rfl aF aF aF aF aF rfl ?_;refine mLw ?_;refine lwA (ZS (vz s.yn)) (λc=> ?_) (λv9 Y=> ?_)
 .go_simp
  refine aZ (ZS (vz s.yn)) ((ael p.S p.sn p.sc _ (vz s.yn) c.1 (PS.o.Z c.2 c.2.size) (SW.o.ar PS.o c.2)).mono ?_);rintro e w5 ⟨z,rfl,n,hb⟩;exact⟨_,rfl,⟨z,rfl,by rcases n with h|h;exact h;subst h;exact⟨by omega,by omega⟩⟩,hb⟩
 obtain⟨_,_,z,rfl,n⟩:=Y;obtain⟨q,rfl⟩:∃q:Nat,z=q:=⟨z.toNat,by have:=n.1;omega⟩;have hq:q<s.yn:=by have:=n.2;omega
 obtain⟨ew,x,H,hx,y0⟩:=Wt RY.o hq;rw[EY.o]at H;injection H with H
 subst H;have HX:=sH hx;have L3:=au y0;have i7:(q:Int)<(s.yn:Int):=aq;simp[Act.put];refine mLw ?_;intro c hE;have u:=sH (y.o.ar c.2);have V:=j.t c.2;have C6:=sH (f.o.ar c.2);obtain⟨z5,_,e5⟩:=u.o.get T;have f5:=u.o.fz k;have O7:=sH (u.o.set k HX.o);have B7:ak (az l (c.1.setCell ⟨g,k,OJ⟩ (ae aj x))):=⟨Below.setCell V.o (p:=⟨g,k,OJ⟩) u.o.lt.1 _⟩;have C7:ak (Oq (c.1.setCell ⟨g,k,OJ⟩ (ae aj x)) (g+1) 57 2 (WL p.tn) (OH ⟨gc,0,OJ⟩) m d):=⟨C6.o.mj (C6.o.apart aq) k _⟩;go_simp;go_wp2;go_roundg(p.tn-k)
 .exact⟨k+1,aq,aq,aV,O7,B7,C7⟩
 omega
def Sp3(P:Int->Prop)(r:aC):Prop:=P (nth r 2)
def PSv(w:EE)(P:Int->Prop)(n:Nat)(e:IS)(a:EE):Prop:=∃(A:aB) (m c:Nat),m<=n/\e=RE (Pl A m c)/\Oq a w.heap.size 196 3 (Sp3 P) A m c/\az w a
def adO(A:aB)(n c:Nat)(P:Int->Prop)(w:EE)(h:Iw w w.heap.size .i64 P A n)(Z:n<=100000):GK prog 112 #[Pl A n c] w (PSv w P n):=by
 have D:=sH h;go_enter func112,ntmps112;go_wp2;go_loopg[3,4](n+1)(λgg v3 v4 wr=>∃(i m:Nat) (C:aB) (d:Nat),n-i<gg/\i<=n/\m<=i/\(0<i->0<m)/\v4=ae aj (i:Int)/\v3=Pl C m d/\ak (Oq wr w.heap.size 196 3 (Sp3 P) C m d)/\ak (az w wr))
 .exact⟨0,0,OJ,0,aq,aq,aq,aq,rfl,rfl,⟨Oq.nil _ _ _ _ _⟩,cJ⟩
 obtain⟨i,m,C,d,U,hi,Y,S,rfl,rfl,b,a⟩:=hrel;have T:=a.o.size;by_cases K:i<n;rotate_left
 .have O:=cI i n
  go_wp2;go_ret;exact⟨_,_,_,aq,rfl,b.o,a.o⟩
 have O:=aU i n;obtain⟨H,z,rfl,E,l⟩:=(D.o.Z a.o a.o.size).get (show i<n by omega);rcases i with _|i
 .obtain rfl:m=0:=by omega
  have v:=sH E;go_wp2;go_region
  try clear wk
  have⟨e,B⟩:=K' (bJ a.o) (b.o.ar (bJ (Below.refl _ _)));have F:=av l (bJ (Below.refl _ _));have y:=e.o.size;generalize wr.drew=R at*;rw[fA]at F;go_wp2_with (at_builtin;refine jN UM rfl (.tmp 33) (.tmp 42) rfl rfl (B.o.alloc _) rfl [0,1,z] rfl (cP _ _ _ _ _ aT rfl) v.o aq br ?_;intro x c8 o j f;have u:=sH j;have s:ak (az w o):=⟨(e.o.alloc aq _).trans f⟩;clear j f);go_roundg(n-0)
  .exact⟨0+1,0+1,x,c8,aq,aq,aq,aq,aV,rfl,u,s⟩
  omega
 obtain⟨m,rfl⟩:∃k,m=k+1:=⟨m-1,aq⟩;obtain⟨Q,G,t,_,W⟩:=(D.o.Z a.o a.o.size).get (show i<n by omega);injection t with t
 subst t;have l:wr.cell? {block:=H.block,off:=H.off+(i+1)}=OH (ae aj z):=l;have wk:IK (i:Int)=(i:Int):=IntWalk.wrap64_in _ aq;have k0:=gT i;have k1:=aU i n;have k2:(0:Int)<(i:Int)+1:=aq;by_cases I:z=G
 .subst I
  obtain⟨g,rfl,q,L⟩:=b.o.form aq;obtain⟨x0,x1,x2,_,r0,r1,X⟩:=b.o.kb (show m<m+1 by omega);have fz:=b.o.fz (m*3+1);have N:=sH ((b.o.set (show m<m+1 by omega) (show 1<3 by omega) ((i:Int)+1+1) (λr V h=>by simpa[Sp3,nth]using h)).ar (bJ (Below.refl _ _)));have J:=sH (bJ<|a.o.setCell (p:=⟨g,m*3+1,OJ⟩) q (ae aj ((i:Int)+1+1)));go_wp2;go_region;go_wp2;go_roundg(n-(i+1))
  .exact⟨i+1+1,m+1,_,d,aq,aq,aq,aq,aV,rfl,N,J⟩
  omega
 .have M:(z==G)=OZ:=by simp[I]
  have v:=sH E;go_wp2;go_region
  try clear wk
  have⟨e,B⟩:=K' (bJ a.o) (b.o.ar (bJ (Below.refl _ _)));have F:=av l (bJ (Below.refl _ _));have y:=e.o.size;generalize wr.drew=R at*
  skip
  go_wp2_with (at_builtin;refine jN UM rfl (.tmp 33) (.tmp 42) rfl rfl (B.o.alloc _) rfl [(i:Int)+1,(i:Int)+1+1,z] rfl (cP _ _ _ _ _ aT rfl) v.o aq br ?_;intro x c8 o j f;have u:=sH j;have s:ak (az w o):=⟨(e.o.alloc aq _).trans f⟩;clear j f);go_roundg(n-(i+1))
  .exact⟨(i+1)+1,(m+1)+1,x,c8,aq,aq,aq,aq,aV,rfl,u,s⟩
  omega
def agw(d:Option Tmp):Option (EN->Prop):=if d=OH 16 then OH SB else if d=OH 23 then OH SI else OJ
def aff(s:G:=by
 simp[Act.put]
 refine mSk ?_;intro nq;obtain⟨w6,bq⟩:=nq;have BX:=BE.t bq
 try dsimp only
 go_wp2;go_roundg(n-i)
 .exact⟨i+1,aq,aq,aV,BX⟩
 omega):G:=s
def DE(f:dv)(A:aB)(n c:Nat)(ts:aC)(w:EE)(h:cC w w.heap.size f)(k:aJ .i32 w A n c ts)(J:n<=100000):GK prog 187 #[f.v,Pl A n c] w (PB w):=by
 have⟨G,g,d,p⟩:=box1 w f.row 102;have⟨R,T⟩:=K' (h.Z d.o d.o.size) (k.ar d.o);go_enter func187,ntmps187;go_wp2;rw[<-g];clear g;go_loopg[5](n+1)(λgg x wr=>∃(i:Nat),n-i<gg/\i<=n/\x=ae aj (i:Int)/\ak (az G wr))
 .exact⟨0,aq,aq,rfl,cJ⟩
 obtain⟨i,H,hi,rfl,BE⟩:=hrel;have s:=d.t BE.o;by_cases j:i<n;rotate_left
 .have F:=cI i n
  go_wp2;go_ret;exact⟨_,rfl,s.o⟩
 have F:=aU i n;obtain⟨N,z,rfl,r,C⟩:=(T.o.ar BE.o).iw.get j;obtain⟨m,o⟩:=vo r;have⟨c0,B,l,v,c4,c5⟩:=(p.o.ar BE.o p.o.lt).f6;have⟨L0,L1,L,O,M,P,Q⟩:=lc7 c0 B l v c4 c5 C;have E:=sH (R.o.Z BE.o BE.o.size);go_wp2;refine aE agw aF aF ?_;refine mSk ?_;refine lsA SB (λnq=> ?_) (λu a=> ?_)
 .go_simp
  exact bP ((tG z m o nq.1).mono λe I ⟨D,y⟩=>⟨_,D,y⟩)
 obtain⟨b,rfl⟩:=a;cases b
 .exact aff
 simp[Act.put];refine mSk ?_;refine lsA SI (λnq=> ?_) (λu a=> ?_)
 .go_simp
  exact fb (td f z nq.1 (E.o.Z nq.2 nq.2.size))
 obtain⟨q,rfl⟩:=a;cases K:(q==0)
 .exact aff
 .simp[Act.put]
  refine mSk ?_;intro nq;obtain⟨w6,bq⟩:=nq;have BX:=BE.t bq
  try dsimp only
  go_wp2;go_ret;exact⟨_,rfl,d.o.trans (BX.o.mono d.o.size)⟩
def qZ(z:Int)(n:Nat):Bool:=decide (0<=z)&&decide (z<(n:Int))
def qZ.t{z:Int}(h:qZ z n=OX):0<=z/\z<n:=by simpa[qZ]using h
def M9(A:aB)(n c:Nat)(z:Int)(w:EE):GK prog 186 #[Pl A n c,ae aj z] w λe b=>e=RE (PF (qZ z n))/\b=w:=by
 go_enter func186,ntmps186;by_cases d:0<=z
 .by_cases f:z<(n:Int)
  .have a:qZ z n=OX:=by simp[qZ];omega
   rw[a];go_wp2;go_ret;exact⟨rfl,rfl⟩
  .have a:qZ z n=OZ:=by simp[qZ];omega
   rw[a];go_wp2;go_ret;exact⟨rfl,rfl⟩
 .have a:qZ z n=OZ:=by simp[qZ];omega
  rw[a];go_wp2;go_ret;exact⟨rfl,rfl⟩
def PPk(w:EE)(n:Nat)(e:IS)(a:EE):Prop:=∃z:Int,e=RE (ae aj z)/\vz n z/\az w a
def pkT(a:Int)(b:Nat)(d:Option Tmp):Option (EN->Prop):=if d=OH 37 then OH (λv=>v=PF (qZ a b))else if d=OH 51 then OH SI else OJ
def qZ.st{z:Int}(h:qZ z n=OX):vz n z:=⟨(qZ.t h).1,by have:=(qZ.t h).2;omega⟩
def afr(s:G:=by
 simp[Act.put]
 refine mSk ?_;intro nq;obtain⟨w6,b6⟩:=nq
 try dsimp only
 have B6:=BE.t b6;go_wp2;go_meet;exact⟨⟨_,rfl,aaj⟩,B6⟩):G:=s
def abD(F:aB)(a o:Nat)(d:Int)(A:aB)(n c:Nat)(ts:aC)(l:Int)(w:EE)(h:cU w w.heap.size uv F a o)(k:aJ .i32 w A n c ts)(P:n<=100000)(p:0<a)(S:a<=1000):GK prog 111 #[Pl F a o,ae aj d,Pl A n c,ae aj l] w (PPk w a):=by
 have⟨L,T⟩:=K' h k;go_enter func111,ntmps111;go_upto_region 1 with fail;go_cut[20](λv O=>(∃b:Bool,v=PF b/\(b=OX->vz a d))/\ak (az w O))
 case first=>
  go_wp2_with fail;cases hi:qZ d a
  .refine(M9 _ a o d _).mono ?_
   rintro e _ ⟨rfl,rfl⟩;rw[hi];go_wp2;go_meet;exact⟨⟨_,rfl,aT⟩,cJ⟩
  have s:=sH (qZ.st hi);obtain⟨j,rfl⟩:∃k:Nat,d=k:=⟨d.toNat,by have:=(qZ.t hi).1;omega⟩;have N:j<a:=by have:=(qZ.t hi).2;omega
  have K:=aU j a;obtain⟨z,f,rfl,p,M,x,u,H,B,J⟩:=qz L.o N;have y:=sH p;refine(M9 _ a o (j:Int) _).mono ?_;rintro e _ ⟨rfl,rfl⟩;rw[hi];go_wp2_with fail;refine(DE f A n c ts _ y.o T.o P).mono ?_;rintro e U ⟨b,rfl,G⟩;have g:=sH G;go_wp2;go_meet;exact⟨⟨_,rfl,λ_=>s.o⟩,g⟩
 case rest=>
 obtain⟨⟨b,rfl,I⟩,R⟩:=hcut;have C:=sH I;cases b;rotate_left
 .go_wp2
  go_ret;exact⟨_,rfl,C.o aT,R.o⟩
 rename EE=>w1
 go_wp2;go_loopg[9](a+1)(λgg D wr=>∃(i:Nat),a-i<gg/\i<=a/\D=ae aj (i:Int)/\ak (az w wr))
 .exact⟨0,aq,aq,rfl,R⟩
 obtain⟨i,X,hi,rfl,BE⟩:=hrel;by_cases E:i<a
 .have V:=aU i a
  obtain⟨z,f,rfl,p,M,x,u,H,B,J⟩:=qz (L.o.Z BE.o BE.o.size) E;have y:=sH p;go_wp2_with fail;refine(DE f A n c ts wr y.o (T.o.ar BE.o) P).mono ?_;rintro e U ⟨b,rfl,G⟩;have g:=BE.t G;cases b
  .go_wp2
   go_roundg(a-i)
   .exact⟨i+1,aq,aq,aV,g⟩
   omega
  .go_wp2
   go_ret;exact⟨_,rfl,⟨aq,aq⟩,g.o⟩
 have V:=cI i a;go_upto_region 8 with fail;go_cut[53](λv O=>(∃b:Bool,v=PF b/\(b=OX->qZ l a=OX))/\ak (az w O))
 case first=>
  refine aE (pkT l a) aF aF ?_;refine mSk ?_;refine lsA (λv=>v=PF (qZ l a)) (λnq=> ?_) (λD m=> ?_)
  .go_simp
   exact(M9 _ a o l nq.1).mono λe Y ⟨x,u⟩=>⟨_,x,rfl,nq,u⟩
  subst m;cases hi:qZ l a
  .exact afr
  obtain⟨j,rfl⟩:∃k:Nat,l=k:=⟨l.toNat,by have:=(qZ.t hi).1;omega⟩;have N:j<a:=by have:=(qZ.t hi).2;omega
  have K:=aU j a;obtain⟨z,f,rfl,p,M,x,u,H,B,J⟩:=qz (L.o.Z BE.o BE.o.size) N;have y:=sH p;have⟨L0,L1,L2,L3,L4,L5⟩:=lc6 M x u H B J;rcases n with _|n
  .exact afr
  obtain⟨W,r,rfl,_,Q⟩:=(T.o.ar BE.o).iw.get (show 0<n+1 by omega);rw[fA]at Q;have Z:=au Q;have n4:(0:Int)<(n:Int)+1:=aq;simp[Act.put];refine mSk ?_;refine lsA SI (λnq=> ?_) (λD m=> ?_)
  .go_simp
   exact fb (td f r nq.1 (y.o.Z nq.2 nq.2.size))
  obtain⟨q,rfl⟩:=m;simp[Act.put];refine mSk ?_;intro nq;obtain⟨w6,b6⟩:=nq
  try dsimp only
  have B6:=BE.t b6;go_wp2;go_meet;exact⟨⟨_,rfl,aaj⟩,B6⟩
 case rest=>
 obtain⟨⟨b,rfl,I⟩,g⟩:=hcut;have C:=sH I;cases b;rotate_left
 .have s:=sH (qZ.st (C.o aT))
  go_wp2;go_ret;exact⟨_,rfl,s.o,g.o⟩
 cases hi:qZ d a
 .go_wp2_with fail
  refine(M9 _ a o d _).mono ?_;rintro e _ ⟨rfl,rfl⟩;rw[hi];go_wp2;go_ret;exact⟨_,rfl,⟨aq,aq⟩,g.o⟩
 .have s:=sH (qZ.st hi)
  go_wp2_with fail;refine(M9 _ a o d _).mono ?_;rintro e _ ⟨rfl,rfl⟩;rw[hi];go_wp2;go_ret;exact⟨_,rfl,s.o,g.o⟩
def Cf(A:aB)(n c:Nat)(ts:aC)(w:EE)(h:aJ .i32 w A n c ts)(j:n<=100000):GK prog 110 #[Pl A n c] w λe a=>∃(bs:List Nat) (D:aB) (d:Nat),e=RE (Pl D bs.length d)/\Own a w.heap.size 3 .i64 D bs.length d (bs.map Int.ofNat)/\(∀i,i+1<bs.length->dw bs i<dw bs (i+1))/\(∀i,i<bs.length->dw bs i<=n)/\(0<n->dw bs 0=0/\0<bs.length/\dw bs (bs.length-1)=n)/\bs.length<=n+1/\az w a:=by
 refine(rz A n c ts w h aq).mono ?_;rintro e a ⟨D,d,rfl,o,b⟩;have f:(ks ts).length=n:=Te;refine⟨dC (ks ts),D,d,rfl,o,λi hi=>qO hi,λi hi=>by have:=Ir hi;omega,λg=>⟨(oJ aq).1,(oJ aq).2,by rw[(qk (by omega)).2,f]⟩, ?_,b⟩;have:=kY (ks ts) ((ks ts).length+1);unfold dC;omega
def R9(w:EE)(B:Nat)(P:Int->Prop)(A:aB)(n:Nat):Prop:=∀j,j<n->∃(a:Addr) (c d b:Int),A=OH a/\a.block<B/\P b/\w.cell? (a.add (j*3))=OH (ae aj c)/\w.cell? (bX (a.add (j*3)) 1)=OH (ae aj d)/\w.cell? (bX (a.add (j*3)) 2)=OH (ae aj b)
def R9.Z{d:EE}(h:R9 w B P A n)(a:EI B w d)(p:B<=c):R9 d c P A n:=λj f=>by
 obtain⟨b,o,m,g,l,h2,k,c0,e,i⟩:=h j f;exact⟨b,o,m,g,l,aq,k,(a.cell zk).trans c0,(a.cell (by show(b.add (j*3)).block<B;rw[aL];exact h2)).trans e,(a.cell (by show(b.add (j*3)).block<B;rw[aL];exact h2)).trans i⟩
def R9.of(h:cU w w.heap.size uF A n c)(i:Yh w A n P):R9 w w.heap.size P A n:=λj a=>by
 obtain⟨f,l,k,b,e,c0,g,d⟩:=lQ h a;exact⟨f,l,k,b,e,by have:=block_lt_of_cell c0;rwa [aL]at this,i j a f b e d,c0,g,d⟩
def Oq.mf(h:Oq w B 196 3 Q A n c)(l:∀r,Q r->P (nth r 2)):R9 w w.heap.size P A n:=λj b=>by
 obtain⟨g,rfl,_,k⟩:=h.form aq;obtain⟨o,m,d,i,c0,a,f⟩:=h.kb b;have e:(⟨g,0,OJ⟩:Addr).add (j*3)=⟨g,j*3,OJ⟩:=bC _ _;exact⟨_,o,m,d,rfl,k,l _ i,by rw[e];exact c0,by rw[e];exact a,by rw[e];exact f⟩
def OU(A:aB)(n c:Nat)(i:Int)(P:Int->Prop)(w:EE)(h:R9 w w.heap.size P A n)(v:n<=100000):GK prog 50 #[Pl A n c,ae aj i] w (PAt w P):=by
 have RL:=sH h;go_enter func50,ntmps50;go_wp2;go_loopg[5](n+1)(λgg g wr=>∃(k:Nat),n-k<gg/\k<=n/\g=ae aj (k:Int)/\wr=w)
 .exact⟨0,aq,aq,rfl,rfl⟩
 obtain⟨k,q,s,rfl,rfl⟩:=hrel;by_cases a:k<n;rotate_left
 .have b:=cI k n
  go_wp2;go_ret;exact⟨_,rfl,.inr rfl,Below.refl _ _⟩
 have b:=aU k n;obtain⟨p,d,j,m,rfl,_,e,l,r,t⟩:=RL.o k a;have f:=sH e;by_cases o:d<=i
 .by_cases u:i<j
  .go_wp2
   go_ret;exact⟨_,rfl,.inl f.o,Below.refl _ _⟩
  .go_wp2
   go_roundg(n-k)
   .exact⟨k+1,aq,aq,aV,rfl⟩
   omega
 .go_wp2
  go_roundg(n-k)
  .exact⟨k+1,aq,aq,aV,rfl⟩
  omega
def ofT(a:Nat)(d:Option Tmp):Option (EN->Prop):=if d=OH 27 then OH SI else if d=OH 40 then OH (λv=>∃z:Int,v=ae aj z/\vz a z)else OJ
def adN:aS prog 27 21 1 4:=Mp
def af9(F:aB)(g R:Nat)(A:aB)(n c:Nat)(ts:aC)(S:aB)(K sc:Nat)(w:EE)(h:cU w w.heap.size uv F g R)(k:aJ .i32 w A n c ts)(p:R9 w w.heap.size aK S K)(O:K<=100000)(hn:n<=10000)(hf:0<g)(N:g<=1000):GK prog 47 #[Pl F g R,Pl A n c,Pl S K sc] w (PSv w (vz g) n):=by
 have⟨RF,T,SP⟩:=MO h k p;go_enter func47,ntmps47;go_wp2_with fail;refine(Cf A n c ts w T.o aq).mono ?_;rintro e J ⟨bs,D,d,rfl,l,y,hle,_,P,b1⟩;have⟨m,hm⟩:=eY bs.length;rw[hm]at l y hle P⊢;have⟨M,RI,LE,B1,Y⟩:=MR l y hle b1 hm;go_wp2;go_loopg[8,9,10,11](m+1)(λgg Q L v10 _ wr=>∃(i q:Nat) (C:aB) (e:Nat) (a:Int),m-i<gg/\i<=m/\q<=n/\(i<m->q<=dw bs i)/\Q=Pl C q e/\L=ae aj a/\v10=ae aj (i:Int)/\ak (Ow wr J.heap.size 3 .i64 (vz g) C q e)/\ak (az J wr))
 .exact⟨0,0,OJ,0,_,aq,aq,aq,λ_=>by omega,rfl,rfl,rfl,⟨Ow.nil _ _ _ _ _⟩,cJ⟩
 obtain⟨i,q,C,e,a,hg,hi,hqn,hq,rfl,rfl,rfl,G,o⟩:=hrel;have r:=B1.t o.o;by_cases B:i+1<m;rotate_left
 .have i4:¬(i:Int)+1<(m:Int):=by omega
  have OW:=sH G.o.iw;go_wp2_with fail;refine(adO C q e (vz g) wr OW.o aq).mono ?_;rintro e w2 ⟨A2,m2,c2,Um,rfl,o2,b2⟩;have O2:=sH o2;have B2:=r.t b2;go_wp2;go_ret;exact⟨_,_,_,aq,rfl,O2.o.cS r.o.size,B2.o⟩
 have i4:(i:Int)+1<(m:Int):=aq;have i5:=aU i m;have l:=M.o.ar o.o;obtain⟨gb,rfl,_⟩:=aA.form l aq;have c0:=iV l (j:=i) aq;have H:=iV l (j:=i+1) aq;rw[pt (by rw[Y.o];omega)]at c0 H;have u:=RI.o i B;have I:=LE.o (i+1) B;obtain⟨A4,c4,CH⟩:=jC adN A n c (dw bs i) (dw bs (i+1)) (Nat.le_of_lt u) I T.o.le (dw bs i) (dw bs (i+1)) rfl rfl;have rh:=CH.run;have Z:=sH (CH.gI (T.o.ar r.o));have QI:ak (q<=dw bs i):=⟨hq aq⟩;have⟨f,x⟩:=eY (dw bs i);have⟨t,E⟩:=eY (dw bs (i+1));have⟨FE,TE⟩:=K' x E;rw[x]at c0 rh u Z QI;rw[E]at H rh u I Z;have⟨L0,L1⟩:=lc2 c0 H;go_wp2;refine aE (ofT g) aF aF ?_;refine mSk ?_;refine lsA SI (λb=> ?_) (λL s=> ?_)
 .go_simp
  exact fb ((OU S K sc _ aK b.1 ((SP.o.Z r.o r.o.size).Z b.2 b.2.size) O).mono λe w' ⟨z,X,_,W⟩=>⟨z,X,W⟩)
 obtain⟨pr,rfl⟩:=s;simp[Act.put];refine mSk ?_;refine lsA (λv=>∃z:Int,v=ae aj z/\vz g z) (λb=> ?_) (λL s=> ?_)
 .go_simp
  exact(abD F g R pr A4 (t-f) c4 _ a b.1 ((RF.o.Z r.o r.o.size).Z b.2 b.2.size) (Z.o.ar b.2) aq hf N).mono λe w' ⟨z,X,h2,W⟩=>⟨_,X,⟨z,rfl,h2⟩,⟨⟨w',b.2.trans (W.mono b.2.size)⟩,rfl⟩⟩
 obtain⟨z,rfl,hz⟩:=s;have HZ:=sH hz;simp[Act.put];refine mSk ?_;intro b;obtain⟨w6,b6⟩:=b
 try dsimp only
 have B6:=o.t b6;have O6:=sH (G.o.ar b6);have l:=M.o.ar B6.o;have c0:=iV l (j:=i) aq;rw[pt (by rw[Y.o];omega),FE.o]at c0;go_wp2;go_loopg[8,11](n+1)(λgg Q U wr=>∃(k q:Nat) (C:aB) (e:Nat),t-k<gg/\k<=t/\q<=k/\Q=Pl C q e/\U=ae aj (k:Int)/\ak (Ow wr J.heap.size 3 .i64 (vz g) C q e)/\ak (az J wr))
 .exact⟨f,q,_,e,aq,aq,QI.o,rfl,rfl,O6,B6⟩
 obtain⟨k,q,C,e,DQ,hk,V,rfl,rfl,G,o⟩:=hrel;have hs:=o.o.size;have l:=M.o.ar o.o;have H:=iV l (j:=i+1) aq;rw[pt (by rw[Y.o];omega),TE.o]at H;by_cases hkt:k<t
 .have k4:=aU k t
  go_wp2_with (at_builtin;refine bW l5 rfl (.tmp 54) (.tmp 56) rfl rfl (G.o.alloc _) rfl (bk _ _ _) HZ.o aq br ?_;intro A8 c8 w8 o8 b8;have O8:=sH o8;have B8:ak (az J w8):=⟨(o.o.alloc aq _).trans b8⟩;clear o8 b8);go_roundg(t-k)
  .exact⟨k+1,q+1,A8,c8,aq,aq,aq,rfl,aV,O8,B8⟩
  omega
 .have k4:=cI k t
  obtain rfl:k=t:=aq;have HQ:ak (q<=dw bs (i+1)):=⟨by rw[TE.o];exact V⟩;go_wp2;go_roundg(m-i)
  .exact⟨i+1,q,C,e,z,aq,aq,aq,λ_=>HQ.o,rfl,rfl,aV,G,o⟩
  omega
def Jb(r:Int)(w:EE):GK prog 253 #[.int .i32 r] w (λe a=>∃z:Int,e=RE (.int .i32 z)/\az w a):=by
 go_enter func253,ntmps253;go_wp2_with fail
 all_goals
  go_ret;exact⟨_,rfl,Below.refl _ _⟩
def zO(z:Int)(w:EE):GK prog 233 #[ae aj z] w (PI w):=by
 go_enter func233,ntmps233;go_wp2_with fail
 all_goals
  go_ret;exact⟨_,rfl,Below.refl _ _⟩
def Lo(e:Int×Int):List EN:=[ae aj e.1,.int .i32 e.2]
def yV(e:Int×Int):(Lo e).length=2:=rfl
def Ub(w:EE)(B N:Nat)(A:aB)(n c:Nat):Prop:=∃a:List (Int×Int),a.length=n/\(∀e∈a,lK N e.1)/\aA w B 245 2 A n c (a.flatMap Lo)
def Ub.ar(h:Ub w B N A n c)(d:az w a):Ub a B N A n c:=by
 obtain⟨g,e,f,b⟩:=h;exact⟨g,e,f,b.ar d⟩
def Ub.at(h:Ub w B N A n c)(e:j<n):∃(g:Nat) (x s:Int),A=OH ⟨g,0,OJ⟩/\lK N x/\w.cell? ⟨g,j*2,OJ⟩=OH (ae aj x)/\w.cell? ⟨g,j*2+1,OJ⟩=OH (.int .i32 s):=by
 obtain⟨a,f,d,b⟩:=h;obtain⟨g,rfl,_⟩:=aA.form b aq;refine⟨g,(a[j]).1,(a[j]).2,rfl,d _ (List.getElem_mem _), ?_, ?_⟩
 .have:=aA.cellAt b (j*2+0) aq
  rwa [je Lo yV a j 0 _ (List.getElem?_eq_getElem aq) aq]at this
 .have:=aA.cellAt b (j*2+1) aq
  rwa [je Lo yV a j 1 _ (List.getElem?_eq_getElem aq) aq]at this
def ag6(w:EE)(n:Nat)(e:IS)(a:EE):Prop:=∃z:Int,e=RE (ae aj z)/\(-1<=z/\z<n)/\az w a
def XP(A:aB)(n c N B:Nat)(r:Int)(w:EE)(h:Ub w B N A n c)(C:n<=10000):GK prog 184 #[Pl A n c,.int .i32 r] w (ag6 w n):=by
 have R:=sH h;have w0:IK ((n:Int)-1)=(n:Int)-1:=IntWalk.wrap64_in _ aq;go_enter func184,ntmps184;go_wp2;go_loopg[5](n+1)(λgg o wr=>∃(k:Nat),k<gg/\k<=n/\o=ae aj ((k:Int)-1)/\ak (az w wr))
 .exact⟨n,aq,aq,rfl,cJ⟩
 obtain⟨k,t,v,rfl,b⟩:=hrel;rcases k with _|k
 .go_wp2
  go_ret;exact⟨_,rfl,⟨aq,aq⟩,b.o⟩
 have m:(((k+1:Nat):Int)-1)=(k:Int):=aq;rw[m];obtain⟨g,x,s,rfl,_,q,u⟩:=(R.o.ar b.o).at (j:=k) aq;have k0:=gT k;have y:=aU k n;go_wp2_with fail;refine(Jb s wr).mono ?_;rintro e p ⟨z,rfl,a⟩;have l:=b.t a;go_wp2_with fail;refine(Jb r p).mono ?_;rintro e D ⟨f,rfl,a⟩;have d:=l.t a;by_cases i:(z==f)=OX
 .go_wp2
  go_ret;exact⟨_,rfl,⟨aq,aq⟩,d.o⟩
 have i:(z==f)=OZ:=by simpa using i
 go_wp2;go_roundg(k+1)
 .exact⟨k,aq,aq,lZ,d⟩
 omega
def afz(s:G:=by
 have Zw:(s !=0)=OZ:=by simpa using Zw
 go_wp2;go_roundg(n+1-i)
 .exact⟨i+1,_,aq,aq,rfl,aV,B2⟩
 omega):G:=s
def afB(s:G:=by
 have Zw:(s !=0)=OX:=by simpa using Zw
 go_wp2;go_roundg(n+1-i)
 .exact⟨i+1,_,aq,aq,rfl,aV,B2⟩
 omega):G:=s
def aex(A:aB)(n c a b:Nat)(own k:Int)(w:EE)(h:Iw w w.heap.size .i64 aK A n)(H:a<n)(G:b<n)(J:n<=10000):GK prog 155 #[Pl A n c,Q4 #[ae aj (a:Int),ae aj (b:Int)],ae aj own,ae aj k] w (PI w):=by
 have⟨j,aP⟩:=eX (w.alloc (RM #[ae aj (a:Int),ae aj (b:Int)] 227));have m:ak (az w j):=⟨nR⟩;have g:ak (Bx j w.heap.size #[ae aj (a:Int),ae aj (b:Int)]):=⟨re⟩;have R:=sH h;go_enter func155,ntmps155;go_upto_region 1 with fail;rw[<-aP];clear aP;have u:j.cell? ⟨w.heap.size,0,OJ⟩=OH (ae aj (a:Int)):=g.o.cell 0;have E:j.cell? ⟨w.heap.size,1,OJ⟩=OH (ae aj (b:Int)):=g.o.cell 1;go_wp2;have I:IK ((a:Int)+1)=(a:Int)+1:=IntWalk.wrap64_in _ aq;go_loopg[9,10,11](n+2)(λgg C v10 _ wr=>∃(i:Nat) (z:Bool),n+1-i<gg/\i<=n/\C=PF z/\v10=ae aj (i:Int)/\ak (az j wr))
 .exact⟨a+1,_,aq,aq,rfl,lZ,cJ⟩
 obtain⟨i,z,B,hi,rfl,rfl,d⟩:=hrel;have f:=m.t d.o;have u:wr.cell? ⟨w.heap.size,0,OJ⟩=OH (ae aj (a:Int)):=(g.o.ar d.o g.o.lt).cell 0;have E:wr.cell? ⟨w.heap.size,1,OJ⟩=OH (ae aj (b:Int)):=(g.o.ar d.o g.o.lt).cell 1;by_cases q:i<b
 .have r:=aU i b
  obtain⟨y,x,rfl,_,v⟩:=(R.o.Z f.o f.o.size).get (show i<n by omega);have D:=aU i n;go_wp2_with fail;refine(zO x wr).mono ?_;rintro e F ⟨s,rfl,o⟩;have B2:=d.t o;by_cases hs:(s==own)=OX
  .go_wp2
   go_ret;exact⟨_,rfl,m.o.trans (B2.o.mono m.o.size)⟩
  have hs:(s==own)=OZ:=rk;by_cases Zw:(s==0)=OX
  .exact afz
  .exact afB
 have r:=cI i b;cases z
 .go_wp2
  go_ret;exact⟨_,rfl,f.o⟩
 go_wp2;go_loopg[12,13,14](n+2)(λgg p t _ wr=>∃(i:Nat) (z:Int),n+1-i<gg/\i<=n/\p=ae aj z/\t=ae aj (i:Int)/\ak (az j wr))
 .exact⟨0,k,aq,aq,rfl,rfl,d⟩
 obtain⟨i,z,B,hi,rfl,rfl,d⟩:=hrel;have f:=m.t d.o;have u:wr.cell? ⟨w.heap.size,0,OJ⟩=OH (ae aj (a:Int)):=(g.o.ar d.o g.o.lt).cell 0;by_cases q:i<a
 .have r:=aU i a
  obtain⟨y,x,rfl,_,v⟩:=(R.o.Z f.o f.o.size).get (show i<n by omega);have D:=aU i n;go_wp2_with fail;refine(zO x wr).mono ?_;rintro e F ⟨s,rfl,o⟩;have B2:=d.t o;by_cases Zw:(s==0)=OX
  .exact afz
  .exact afB
 have r:=cI i a;by_cases l:(z==own)=OX
 .have l:(z !=own)=OZ:=by simpa using l
  go_wp2;go_ret;exact⟨_,rfl,f.o⟩
 .have l:(z !=own)=OX:=by simpa using l
  go_wp2;go_ret;exact⟨_,rfl,f.o⟩
def PrQ(N:Nat)(g:aC):Prop:=∀x∈g,lK N x
def PrQ.set{g:aC}{v:Int}(h:PrQ N g)(b:lK N v):PrQ N (g.set q v):=λx a=>by
 rcases List.mem_or_eq_of_mem_set a with a|rfl
 .exact h x a
 .exact b
abbrev nr(w:EE)(B N:Nat)(A:aB)(n c:Nat):Prop:=Oq w B 227 2 (PrQ N) A n c
def nr.at(h:nr w B N A n c)(d:j<n):∃(g:Nat) (x y:Int),A=OH ⟨g,0,OJ⟩/\lK N x/\lK N y/\w.cell? ⟨g,j*2,OJ⟩=OH (ae aj x)/\w.cell? ⟨g,j*2+1,OJ⟩=OH (ae aj y):=by
 obtain⟨i,e,_,f⟩:=h.rq aq aq;obtain⟨g,rfl,_⟩:=h.form aq;obtain rfl:(⟨g,0,OJ⟩:Addr)=i:=CJ;obtain⟨r,k,a,b⟩:=f j d
 match r,k with
 |[x,y],_=>
  refine⟨g,x,y,rfl,a x aT,a y aT, ?_, ?_⟩
  .have:=b 0 _ rfl
   rwa [aY,bC]at this
  .have:=b 1 _ rfl
   rwa [aY,bC]at this
def nr.set{v:Int}(h:nr w B N (OH ⟨g,0,OJ⟩) n c)(b:j<n)(d:q<2)(a:lK N v):nr (w.setCell ⟨g,j*2+q,OJ⟩ (ae aj v)) B N (OH ⟨g,0,OJ⟩) n c:=Oq.set h b d v λ_ _ e=>PrQ.set e a
def nr.there(h:nr w B N (OH ⟨g,0,OJ⟩) n c)(b:j<n):w.there g (j*2) 2:=λi hi=>by
 obtain⟨_,x,y,a,_,_,e,d⟩:=nr.at h b;injection a with a
 injection a with a
 subst a;refine⟨?_,Oq.fz h _⟩
 match i,hi with
 |0,_=>rw[Nat.add_zero,e];rfl
 |1,_=>rw[d];rfl
def nr.row{y:Int}(h:nr w B N (OH ⟨g,0,OJ⟩) n c)(a:j<n)(d:lK N x)(b:lK N y):nr (w.setCells g (j*2) [ae aj x,ae aj y]) B N (OH ⟨g,0,OJ⟩) n c:=
 (h.set (q:=0) a aq d).set (q:=1) a aq b
def PSo(w:EE)(B N:Nat)(A:aB)(n c:Nat)(e:IS)(a:EE):Prop:=e=RE (Pl A n c)/\nr a B N A n c/\EI B w a
def sb(s:G:=by
 refine aE (λ_=>OJ) aF aF ?_
 refine mSk ?_
 first
  |(intro (nq:aI _);obtain⟨w6,bq⟩:=nq)
  |(rintro w6 ⟨⟨_,bq⟩,rfl⟩)
 try dsimp only
 go_wp2;go_meet;exact⟨⟨_,rfl,iY⟩,⟨bq⟩⟩):G:=s
def zI(A:aB)(n c N B:Nat)(w:EE)(h:nr w B N A n c)(hB:B<=w.heap.size)(hn:n<=10000):GK prog 185 #[Pl A n c] w (PSo w B N A n c):=by
 have R:=sH h;clear h;go_enter func185,ntmps185;go_wp2;go_loopg[3,4,5](n+2)(λgg v3 _ _ wr=>∃(i:Nat),n+1-i<gg/\v3=ae aj (i:Int)/\(i<=n∨i=1)/\ak (nr wr B N A n c)/\ak (EI B w wr))
 .exact⟨1,aq,rfl,aq,R,cJ⟩
 clear R;obtain⟨i,hg,rfl,hi,R,m⟩:=hrel;by_cases Z:i<n;rotate_left
 .have i4:=cI i n
  go_wp2;go_ret;exact⟨rfl,R.o,m.o⟩
 have i4:=aU i n;obtain⟨g,rfl,F,_⟩:=R.o.form aq;go_wp2;go_loopg[4,5](n+2)(λgg v4 _ wr=>∃(k:Nat),k<gg/\k<=i/\v4=ae aj (k:Int)/\ak (nr wr B N (OH ⟨g,0,OJ⟩) n c)/\ak (EI B w wr))
 .exact⟨i,aq,aq,rfl,R,m⟩
 clear R m;obtain⟨k,DQ,hk,rfl,R,m⟩:=hrel;go_upto_region 5 with fail;go_cut[28](λv wx=>(∃b:Bool,v=PF b/\(b=OX->0<k))/\ak (az wr wx))
 case first=>
  rcases Nat.eq_zero_or_pos k with rfl|T
  .exact sb
  obtain⟨j,E⟩:∃j,j+1=k:=⟨k-1,aq⟩;obtain⟨_,x,y,a,I,J,r,z⟩:=nr.at (R).o (j:=k) aq;injection a with a
  injection a with a
  subst a;obtain⟨_,l,t,a,f,d,s,D⟩:=nr.at (R).o (j:=j) aq;injection a with a
  injection a with a
  subst a;have wk:(k:Int)-1=(j:Int):=aq;have k0:=gT j;have k1:=aU j n;have k3:=aU k n;have HJ:ak (j+1=k):=⟨E⟩;clear E;have k2:=aU 0 k;have⟨L0,L1⟩:=lc2 r s;clear r z s D I J f d HJ;by_cases hl:x<l
  .exact sb
  .exact sb
 case rest=>
 obtain⟨⟨b,rfl,U⟩,M⟩:=hcut
 rename EE=>w2
 have q:=sH (R.o.ar M.o);have hsr:=m.o.size;have H:ak (EI B w w2):=⟨m.o.trans (M.o.mono aq)⟩;have S:ak (b=OX->0<k):=⟨U⟩;clear U R m M;cases b
 .go_wp2
  go_roundg(n+1-i)
  .exact⟨i+1,aq,aV,aq,q,H⟩
  omega
 have h0:=S.o rfl;obtain⟨j,E⟩:∃j,j+1=k:=⟨k-1,aq⟩;obtain⟨_,x,y,a,I,J,r,z⟩:=nr.at (q).o (j:=k) aq;injection a with a
 injection a with a
 subst a;obtain⟨_,l,t,a,f,d,s,D⟩:=nr.at (q).o (j:=j) aq;injection a with a
 injection a with a
 subst a;have wk:(k:Int)-1=(j:Int):=aq;have k0:=gT j;have k1:=aU j n;have k3:=aU k n;have HJ:ak (j+1=k):=⟨E⟩;clear E;have G:ak (lK N x/\lK N y/\lK N l/\lK N t):=⟨⟨I,J,f,d⟩⟩;clear I J f d S h0;go_upto_region 8 with fail;have⟨p,e⟩:=eX (w2.alloc (RM #[ae aj x,ae aj y] 227));have bw:az w2 p:=by rw[e];exact aw _ _
 have V:ak (Bx p w2.heap.size #[ae aj x,ae aj y]):=⟨by rw[e];exact Bx.new _ _ _⟩;have K:ak (nr p B N (OH ⟨g,0,OJ⟩) n c):=⟨q.o.ar bw⟩;have Y:=H.o.size;have Q:ak (EI B w p):=⟨H.o.trans (bw.mono aq)⟩;have hgs:g<w2.heap.size:=q.o.lt.2;have s:=av s bw;have D:=av D bw;have r:=av r bw;have z:=av z bw
 rw[<-e];clear e bw q H;have C:k<n:=Lz;have u:j<n:=Lz;have⟨X,O⟩:=K' (nr.there K.o C) (nr.row K.o C G.o.2.2.1 G.o.2.2.2);have W:ak (EI B w (p.setCells g (k*2) [ae aj l,ae aj t])):=⟨dO F _ _ _ Q.o⟩;have L:ak (Bx (p.setCells g (k*2) [ae aj l,ae aj t]) w2.heap.size #[ae aj x,ae aj y]):=⟨Bx.uJ aq _ _ V.o⟩;go_upto_region 9 with(refine wpList_store_mid rfl 227 (.tmp 42) (.tmp 41) rfl g (k*2) #[ae aj l,ae aj t] rfl rfl X.o aF ed ?_)
 have⟨P,o⟩:=eX (p.setCells g (k*2) [ae aj l,ae aj t]);rw[<-o]at O W L;rw[<-o];clear o K Q V X r z s D;have d0:P.cell? ⟨w2.heap.size,0,OJ⟩=OH (ae aj x):=L.o.cell 0;have d1:P.cell? ⟨w2.heap.size,1,OJ⟩=OH (ae aj y):=L.o.cell 1;have⟨T5,R5⟩:=K' (nr.there O.o u) (nr.row O.o u G.o.1 G.o.2.1);have B5:ak (EI B w (P.setCells g (j*2) [ae aj x,ae aj y])):=⟨dO F _ _ _ W.o⟩
 try simp only[Act.put]
 go_wp2_with (refine wpList_store_mid rfl 227 (.tmp 47) (.tmp 46) rfl g (j*2) #[ae aj x,ae aj y] rfl rfl T5.o aF ed ?_);go_roundg(k)
 .exact⟨j,Lz,Lz,lZ,R5,B5⟩
 omega
def Sy{size:Nat}{vs:List EN}{P:I3}{t:IQ}{bytes:Nat}(T:aS P t e size bytes)(h:aA w B e size A n c vs)(o:k<=n)(C:0<n)(l:Int)(m:l=k):
 (∀a:EE,(Instr.slice t (Pl A n c) OJ (OH (ae aj l)) OJ).run P a=.ok (Pl A k c) a)/\aA w B e size A k c (vs.take (k*size)):=by
 subst m;have hle:=aA.le h;obtain⟨g,v,p,q⟩:=aA.form h aq;subst v;refine⟨λa=> ?_, ?_⟩
 .rw[run_slice_h a t _ _ _ (cY T) .i64 k aq aq,de T]
  have r:¬c=0:=aq;simp[Result.andThen,sliced,r,Addr.add]
 .have x:k*size<=n*size:=Nat.mul_le_mul_right _ o
  rcases h.2 with⟨b,z⟩|⟨d,cap,cur,b,j,u,y,s,i,f⟩
  .cases b
  .injection b with e1 e2 e3
   refine⟨by rw[List.length_take,h.1];omega,.inr ⟨d,cap,cur,by rw[e1,e3],j,u,aq,s,i, ?_⟩⟩;rw[<-f,List.take_take]
   congr 1
   omega
def TOp:aS prog 243 245 2 16:=bD underlying243 (z:=Q4 #[ae aj 0,.int .i32 0]) aF rfl aq aq
def TPr:aS prog 187 227 2 16:=bD underlying187 (z:=Q4 #[ae aj 0,ae aj 0]) aF rfl aq aq
def Ub.cut(h:Ub w B N A n c)(q:k<=n)(m:0<n)(l:Int)(o:l=k):(∀b:EE,(Instr.slice 243 (Pl A n c) OJ (OH (ae aj l)) OJ).run prog b=.ok (Pl A k c) b)/\Ub w B N A k c:=by
 obtain⟨a,r,j,i⟩:=h;obtain⟨d,f⟩:=Sy TOp i q m l o;refine⟨d,a.take k,Ta,λe g=>j e (List.mem_of_mem_take g), ?_⟩;have e:(a.flatMap Lo).take (k*2)=(a.take k).flatMap Lo:=by
  have p:a=a.take k++a.drop k:=(List.take_append_drop k a).symm
  conv=>lhs;rw[p,List.flatMap_append]
  rw[List.take_append_of_le_length aai,List.take_of_length_le aai]
 rw[<-e];exact f
structure Mr(w0 w:EE)(N:Nat)(A:aB)(n c:Nat)(C:aB)(m d:Nat):Prop where
 be:az w0 w
 pr:nr w w0.heap.size N A n c
 op:Ub w w0.heap.size N C m d
def Mr.ar(h:Mr w0 w N A n c C m d)(a:az w b):Mr w0 b N A n c C m d:=⟨h.be.trans (a.mono h.be.size),h.pr.ar a,h.op.ar a⟩
def Mr.QO{c':Nat}{f:aB}{y:Int}(h:Mr w0 w N A n c C m d){gs:List aC}(k:gs.length=n)(l:∀g∈gs,g.length=2/\PrQ N g)(i:aA w w0.heap.size 227 2 A n c (gs.flatMap dt))(j:lK N x/\lK N y)(o:aA a w0.heap.size 227 2 f (n+1) c' (gs.flatMap dt++dt [x,y]))(q:EI w0.heap.size w a)(t:w.grownBy a (Value.slice A n c).ownBlock):Mr w0 a N f (n+1) c' C m d:=by
 obtain⟨p,r,s,e⟩:=h.op;refine⟨h.be.trans q,Oq.more k l rfl (λz b=> ?_) o,⟨p,r,s,aA.kept e t (ca e i cF) (aA.dU i)⟩⟩;simp at b;rcases b with rfl|rfl
 .exact j.1
 .exact j.2
def Mr.MU{f:EE}{k:aB}{x:Int×Int}(h:Mr w0 w N A n c C m d){a:List (Int×Int)}(l:a.length=m)(p:∀e∈a,lK N e.1)(j:aA w w0.heap.size 245 2 C m d (a.flatMap Lo))(u:lK N x.1)(o:aA f w0.heap.size 245 2 k (m+1) i (a.flatMap Lo++Lo x))(q:EI w0.heap.size w f)(t:w.grownBy f (Value.slice C m d).ownBlock):Mr w0 f N A n c k (m+1) i:=by
 obtain⟨gs,r,s,g⟩:=h.pr;refine⟨h.be.trans q,⟨gs,r,s,aA.kept g t (ca g j cF) (aA.dU j)⟩,⟨a++[x],by simp[l],λe b=> ?_,by rw[List.flatMap_append];simpa using o⟩⟩;rcases List.mem_append.1 b with b|b
 .exact p e b
 .obtain rfl:=List.mem_singleton.1 b
  exact u
def PPr(w:EE)(N:Nat)(e:IS)(a:EE):Prop:=∃(A:aB) (n c:Nat),n<=N/\e=RE (Pl A n c)/\nr a w.heap.size N A n c/\az w a
def Ik(A C:aB)(n c d:Nat)(ts:aC)(w:EE)(h:aJ .i32 w A n c ts)(k:Iw w w.heap.size .i64 aK C n)(hn:n<=10000):GK prog 107 #[Pl A n c,Pl C n d] w (PPr w n):=by
 have⟨R,S⟩:=K' h k;go_enter func107,ntmps107;go_wp2;go_loopg[5,6,7,8,9](n+1)(λgg v5 v6 v7 _ _ wr=>∃(i q m:Nat) (D E:aB) (j b:Nat),n-i<gg/\i<=n/\q<=i/\m<=i/\v5=Pl D q j/\v6=Pl E m b/\v7=ae aj (i:Int)/\ak (Mr w wr n D q j E m b))
 .exact⟨0,0,0,OJ,OJ,0,0,aq,aq,aq,aq,rfl,rfl,rfl,⟨⟨Below.refl _ _,Oq.nil _ _ _ _ _,[],rfl,aT,aA.nil _ _ _ _⟩⟩⟩
 obtain⟨i,q,m,D,E,j,b,hg,hi,hq,hm,rfl,rfl,rfl,P⟩:=hrel;by_cases l:i<n;rotate_left
 .have i4:=cI i n
  have o:=P;go_wp2_with fail;refine(zI _ _ _ n w.heap.size _ o.o.pr o.o.be.size aq).mono ?_;rintro e w9 ⟨rfl,W,b9⟩;have⟨T,U⟩:=K' W (o.o.be.trans b9);go_wp2;go_ret;exact⟨_,_,_,aq,rfl,T.o,U.o⟩
 have i4:=aU i n;obtain⟨ad,z,rfl,hz,e0⟩:=(R.o.ar P.o.be).iw.get l;obtain⟨V,X⟩:=vo hz;have OF:=sH (dX z V X wr);go_wp2_with fail;refine OF.o.mono ?_;rintro e I ⟨rfl,b2⟩;have P2:=sH (P.o.ar b2);generalize aN z=p at*;go_upto_region 9 with fail;have⟨N,f⟩:=eX (I.alloc (RM #[ae aj p.jv,ae aj p.bT,ae aj p.xc,ae aj p.script,ae aj p.join,ae aj p.word,.int .i32 p.fM,.int .i32 p.pair,PF p.opens] 129));have a:ak (Mr w N n D q j E m b):=⟨by rw[f];exact P2.o.ar (aw _ _)⟩;have X3:ak (Bx N I.heap.size #[ae aj p.jv,ae aj p.bT,ae aj p.xc,ae aj p.script,ae aj p.join,ae aj p.word,.int .i32 p.fM,.int .i32 p.pair,PF p.opens]):=⟨by rw[f];exact Bx.new _ _ _⟩;rw[<-f];clear f;have d7:N.cell? ⟨I.heap.size,7,OJ⟩=OH (.int .i32 p.pair):=X3.o.cell 7;have d8:N.cell? ⟨I.heap.size,8,OJ⟩=OH (PF p.opens):=X3.o.cell 8;generalize I.heap.size=r at*;obtain⟨adc,x,rfl,_,f0⟩:=(S.o.Z a.o.be a.o.be.size).get l;obtain⟨ew,z2,ea,_,e0⟩:=(R.o.ar a.o.be).iw.get l;injection ea with ea
 subst ea;have HI:ak (lK n (i:Int)):=⟨⟨aq,aq⟩⟩;by_cases hx:(x==14)=OX;rotate_left
 .have hx:(x !=14)=OX:=by simpa using hx
  go_wp2;go_roundg(n-i)
  .exact⟨i+1,q,m,D,E,j,b,aq,aq,aq,aq,rfl,rfl,aV,a⟩
  omega
 have hx:(x !=14)=OZ:=Gh;by_cases hp:(p.pair==0)=OX
 .go_wp2
  go_roundg(n-i)
  .exact⟨i+1,q,m,D,E,j,b,aq,aq,aq,aq,rfl,rfl,aV,a⟩
  omega
 have hp:(p.pair==0)=OZ:=Tt;cases Q:p.opens;rotate_left
 .rw[Q]at d8
  by_cases J:(m:Int)=63
  .have v:((m:Int)==63)=OX:=by simp[J]
   have o:=a;go_wp2_with fail;refine(zI _ _ _ n w.heap.size _ o.o.pr o.o.be.size aq).mono ?_;rintro e w9 ⟨rfl,W,b9⟩;have⟨T,U⟩:=K' W (o.o.be.trans b9);go_wp2;go_ret;exact⟨_,_,_,aq,rfl,T.o,U.o⟩
  have v:((m:Int)==63)=OZ:=by simpa using J
  obtain⟨es,k1,Z,Y⟩:=a.o.op;have B:=sH Y;have L:ak (es.length=m/\∀e∈es,lK n e.1):=⟨⟨k1,Z⟩⟩;have ib:=a.o.be.size;go_wp2_with (at_builtin;refine bE TOp rfl (.tmp 41) (.tmp 48) rfl rfl (aA.alloc B.o _) rfl (news:=Lo ((i:Int),z2)) rfl (lC _ (Lo ((i:Int),z2)) _) (λu M=>by simp[Lo]at M;rcases M with rfl|rfl<;>rfl) aq br ?_;intro O c8 w8 F t r _;have G:=sH ((a.o.ar (aw _ _)).MU L.o.1 L.o.2 (aA.alloc B.o _) HI.o F t r);clear F t r);go_roundg(n-i)
  .exact⟨i+1,q,m+1,D,O,j,c8,aq,aq,aq,aq,rfl,rfl,aV,G⟩
  omega
 rw[Q]at d8;have X4:=X3;go_wp2_with fail;refine(XP E m b n w.heap.size p.pair N a.o.op aq).mono ?_;rintro e w4 ⟨k,rfl,hk,b4⟩;have H:=sH (a.o.ar b4);by_cases Gr:0<=k;rotate_left
 .go_wp2
  go_roundg(n-i)
  .exact⟨i+1,q,m,D,E,j,b,aq,aq,aq,aq,rfl,rfl,aV,H⟩
  omega
 obtain⟨k,rfl⟩:∃k':Nat,k=k':=⟨k.toNat,aq⟩;obtain⟨_,hkm⟩:=hk;have K:k<m:=aq;obtain⟨ge,y,s,rfl,hy,e0,e1⟩:=H.o.op.at K;obtain⟨gs,k1,Z,Y⟩:=H.o.pr;have B:=sH Y;have L:ak (gs.length=q/\∀g∈gs,g.length=2/\PrQ n g):=⟨⟨k1,Z⟩⟩;have HY:=sH hy;have ib:=H.o.be.size;go_upto_region 16 with(at_builtin;refine bE TPr rfl (.tmp 56) (.tmp 64) rfl rfl (aA.alloc B.o _) rfl (news:=dt [y,(i:Int)]) rfl (lC _ (dt [y,(i:Int)]) _) (λu M=>by simp[dt]at M;rcases M with rfl|rfl<;>rfl) aq br ?_;intro O c8 w8 F t r _;have G:=sH ((H.o.ar (aw _ _)).QO L.o.1 L.o.2 (aA.alloc B.o _) ⟨HY.o,HI.o⟩ F t r);clear F t r)
 obtain⟨fB,Q⟩:=G.o.op.cut (show k<=m by omega) aq (k:Int) rfl;have P9:ak (Mr w w8 n O (q+1) c8 (OH ⟨ge,0,OJ⟩) k b):=⟨⟨G.o.be,G.o.pr,Q⟩⟩;go_wp2;go_roundg(n-i)
 .exact⟨i+1,q+1,k,O,_,c8,b,aq,aq,aq,aq,rfl,rfl,aV,P9⟩
 omega
structure N9(w0 w:EE)(B2 n:Nat)(A:aB)(c:Nat)(P:aB)(q pc:Nat):Prop where
 be:az w0 w
 ow:Ow w w0.heap.size 3 .i64 aK A n c
 lt:∀g,A=OH ⟨g,0,OJ⟩->g<B2
 op:nr w B2 n P q pc
def N9.ar{e:EE}{b:Nat}{P:aB}(h:N9 w0 w b n A c P q d)(a:az w e):N9 w0 e b n A c P q d:=⟨h.be.trans (a.mono h.be.size),h.ow.ar a,h.lt,Oq.ar h.op a⟩
def N9.set{a b:Nat}{P:aB}(h:N9 w0 w a n (OH ⟨g,0,OJ⟩) c P q b)(k:Nat)(v:Int):N9 w0 (w.setCell ⟨g,k,OJ⟩ (ae aj v)) a n (OH ⟨g,0,OJ⟩) c P q b:=
 ⟨Below.setCell h.be (p:=⟨g,k,OJ⟩) h.ow.lt.1 _,h.ow.set k trivial,h.lt,Oq.mj h.op (Oq.apart h.op (h.lt g rfl)) k _⟩
def aft(s:G:=by
 subst hb
 obtain⟨u,_,u0⟩:=V4.o.ow.get lz;have f0:=V4.o.ow.fz k;have V5:=sH (V4.o.set k cl);go_wp2;go_roundg(n-k)
 .exact⟨k+1,aq,aq,aV,V5⟩
 omega):G:=s
def KY(A C:aB)(n c d:Nat)(lv G:Int)(ts:aC)(w:EE)(h:aJ .i32 w A n c ts)(k:Iw w w.heap.size .i64 aK C n)(hn:n<=10000):GK prog 80 #[Pl A n c,Pl C n d,ae aj lv,ae aj G] w (Nw w 3 .i64 aK n):=by
 have⟨R,S⟩:=K' h k;obtain⟨xs,hx,_⟩:=k;have XS:=sH hx;go_enter func80,ntmps80;go_upto_if 23 with fail;go_cut[9](λv wx=>(∃z:Int,v=ae aj z)/\w=wx)
 case first=>
  go_wp2_with fail
  all_goals
   go_meet;exact⟨⟨_,rfl⟩,rfl⟩
 case rest=>
 obtain⟨⟨own,rfl⟩,rfl⟩:=hcut;go_upto_region 8 with(at_builtin;refine ig l5 rfl (.tmp 24) (.tmp 25) rfl rfl (Own.nil w w.heap.size 3 .i64) rfl XS.o aq cr ?_;intro A1 m L o1 b1;have O1:ak (Ow L w.heap.size 3 .i64 aK A1 n m):=⟨⟨_,by simpa using o1,λ_ _=>trivial⟩⟩;have J:=sH b1;clear o1 b1)
 go_wp2_with fail;refine(Ik A C n c d ts L (R.o.ar J.o) (S.o.Z J.o J.o.size) hn).mono ?_;rintro e w2 ⟨P,q,I,hq,rfl,op,b2⟩;have V:ak (N9 w w2 L.heap.size n A1 m P q I):=⟨⟨J.o.trans (b2.mono J.o.size),O1.o.ar b2,λg e=>by have:=O1.o;rw[e]at this;exact this.lt.2,op⟩⟩;generalize L.heap.size=K at*;go_wp2;go_loopg[12,13,14,15](q+1)(λgg M _ _ _ wr=>∃(i:Nat),q-i<gg/\i<=q/\M=ae aj (i:Int)/\ak (N9 w wr K n A1 m P q I))
 .exact⟨0,aq,aq,rfl,V⟩
 obtain⟨i,hg,hi,rfl,V⟩:=hrel;by_cases f:i<q;rotate_left
 .have i4:=cI i q
  go_wp2;go_ret;exact⟨_,_,rfl,V.o.ow,V.o.be⟩
 have i4:=aU i q;obtain⟨gp,x,y,rfl,px,py,F,E⟩:=nr.at V.o.op f;obtain⟨xn,rfl⟩:∃k:Nat,x=k:=⟨x.toNat,Cx⟩;obtain⟨yn,rfl⟩:∃k:Nat,y=k:=⟨y.toNat,by have:=py.1;omega⟩;have AB:xn<n:=Cu;have X:yn<n:=by have:=py.2;omega
 obtain⟨g,rfl,eU,dV⟩:=V.o.ow.form aq;go_wp2_with fail;refine(aex _ n m xn yn own G _ V.o.ow.iw AB X hn).mono ?_;rintro e w5 ⟨cl,rfl,b5⟩;have V2:=sH (V.o.ar b5);by_cases hc:(cl==0)=OX
 .go_wp2
  go_roundg(q-i)
  .exact⟨i+1,aq,aq,aV,V2⟩
  omega
 have hc:(cl==0)=OZ:=by simpa using hc
 go_wp2;go_loopg[14,15](3)(λgg O _ wr=>∃(s:Nat),2-s<gg/\s<=2/\O=ae aj (s:Int)/\ak (N9 w wr K n (OH ⟨g,0,OJ⟩) m (OH ⟨gp,0,OJ⟩) q I))
 .exact⟨0,aq,aq,rfl,V2⟩
 obtain⟨s,hgs,hs,rfl,V⟩:=hrel;have W:s=2∨s=0∨s=1:=aq;rcases W with rfl|rfl|rfl
 .go_wp2
  go_roundg(q-i)
  .exact⟨i+1,aq,aq,aV,V⟩
  omega
 .obtain⟨t,x,y,a,px,py,F,E⟩:=nr.at V.o.op f
  injection a with a
  injection a with a
  subst a;obtain⟨z,j,B⟩:∃z:Nat,x=z/\z<n:=⟨(x).toNat,Zc,YH⟩;rw[j]at F;have H:=aU z n;obtain⟨u,_,u0⟩:=V.o.ow.get B;have f0:=V.o.ow.fz z;have p:=sH (V.o.set z cl);go_upto_region 18 with fail;have⟨w6,b⟩:=eX (wr.setCell ⟨g,z,OJ⟩ (ae aj cl));rw[<-b]at p;rw[<-b];clear b;obtain⟨t,x,y,a,px,py,F,E⟩:=nr.at p.o.op f;injection a with a
  injection a with a
  subst a;obtain⟨U,j,T⟩:∃z:Nat,x=z/\z<n:=⟨(x).toNat,Zc,YH⟩;rw[j]at F;go_wp2;go_loopg[15](n+1)(λgg o wr=>∃(k:Nat),n-k<gg/\k<=n/\o=ae aj (k:Int)/\ak (N9 w wr K n (OH ⟨g,0,OJ⟩) m (OH ⟨gp,0,OJ⟩) q I))
  .exact⟨U+1,aq,aq,lZ,p⟩
  obtain⟨k,Y,hk,rfl,V⟩:=hrel;by_cases lz:k<n;rotate_left
  .have N:=cI k n
   go_wp2;go_roundg(2-0)
   .exact⟨0+1,aq,aq,lZ,V⟩
   omega
  have N:=aU k n;obtain⟨adt,r,rfl,Q,t0⟩:=(R.o.ar V.o.be).iw.get lz;obtain⟨l,D⟩:=vo Q;have Z:=sH (dX r l D wr);go_wp2_with fail;refine Z.o.mono ?_;rintro e w7 ⟨rfl,b7⟩;have V4:=sH (V.o.ar b7);generalize(aN r).jv=bd;by_cases hb:bd=9
  .exact aft
  .have hb:(bd==9)=OZ:=by simpa using hb
   go_wp2;go_roundg(2-0)
   .exact⟨0+1,aq,aq,lZ,V4⟩
   omega
 .obtain⟨t,x,y,a,px,py,F,E⟩:=nr.at V.o.op f
  injection a with a
  injection a with a
  subst a;obtain⟨z,j,B⟩:∃z:Nat,y=z/\z<n:=⟨(y).toNat,Zc,YH⟩;rw[j]at E;have H:=aU z n;obtain⟨u,_,u0⟩:=V.o.ow.get B;have f0:=V.o.ow.fz z;have p:=sH (V.o.set z cl);go_upto_region 18 with fail;have⟨w6,b⟩:=eX (wr.setCell ⟨g,z,OJ⟩ (ae aj cl));rw[<-b]at p;rw[<-b];clear b;obtain⟨t,x,y,a,px,py,F,E⟩:=nr.at p.o.op f;injection a with a
  injection a with a
  subst a;obtain⟨U,j,T⟩:∃z:Nat,y=z/\z<n:=⟨(y).toNat,Zc,YH⟩;rw[j]at E;go_wp2;go_loopg[15](n+1)(λgg o wr=>∃(k:Nat),n-k<gg/\k<=n/\o=ae aj (k:Int)/\ak (N9 w wr K n (OH ⟨g,0,OJ⟩) m (OH ⟨gp,0,OJ⟩) q I))
  .exact⟨U+1,aq,aq,lZ,p⟩
  obtain⟨k,Y,hk,rfl,V⟩:=hrel;by_cases lz:k<n;rotate_left
  .have N:=cI k n
   go_wp2;go_roundg(2-1)
   .exact⟨1+1,aq,aq,lZ,V⟩
   omega
  have N:=aU k n;obtain⟨adt,r,rfl,Q,t0⟩:=(R.o.ar V.o.be).iw.get lz;obtain⟨l,D⟩:=vo Q;have Z:=sH (dX r l D wr);go_wp2_with fail;refine Z.o.mono ?_;rintro e w7 ⟨rfl,b7⟩;have V4:=sH (V.o.ar b7);generalize(aN r).jv=bd;by_cases hb:bd=9
  .exact aft
  .have hb:(bd==9)=OZ:=by simpa using hb
   go_wp2;go_roundg(2-1)
   .exact⟨1+1,aq,aq,lZ,V4⟩
   omega
def abJ(A:aB)(n c:Nat)(d:Int)(ts:aC)(w:EE)(h:aJ .i32 w A n c ts)(o:n<=10000):GK prog 26 #[Pl A n c,ae aj d] w (PI w):=by
 have R:=sH h;by_cases h1:(d==1)=OX
 .go_enter func26,ntmps26
  go_wp2;go_ret;exact⟨_,rfl,Below.refl _ _⟩
 have h1:(d==1)=OZ:=Gf;by_cases h2:(d==2)=OX
 .go_enter func26,ntmps26
  go_wp2;go_ret;exact⟨_,rfl,Below.refl _ _⟩
 have h2:(d==2)=OZ:=vN;go_enter func26,ntmps26;go_wp2_with fail;refine(FG A n c ts w R.o aq).mono ?_;rintro e m ⟨D,f,rfl,a,j⟩;have⟨l,k⟩:=K' a.iw j;have hle:=a.le;go_wp2_with fail;refine(VI D n f m l.o hle.1 aq).mono ?_;rintro e p ⟨z,b,rfl,i⟩;have g:=k.t i;go_wp2;go_ret;exact⟨_,rfl,g.o⟩
def PSq(w:EE)(B:Nat)(A:aB)(n c:Nat)(e:IS)(a:EE):Prop:=e=RE (Pl A n c)/\Ow a B 3 .i64 aK A n c/\EI B w a
structure SqR(w0 w:EE)(i:Nat)(D:aB)(dc:Nat)(E:aB)(ec:Nat):Prop where
 be:az w0 w
 sg:Ow w w0.heap.size 21 .i32 (Wf .i32) D i dc
 cl:Ow w w0.heap.size 3 .i64 aK E i ec
def SqR.ar{c:EE}{b:Nat}{D E:aB}(h:SqR w0 w i D d E b)(a:az w c):SqR w0 c i D d E b:=⟨h.be.trans (a.mono h.be.size),h.sg.ar a,h.cl.ar a⟩
def xm{b:IQ}{q k:IntKind}{Q:Int->Prop}(h:Ow w B e k Q A n c)(j:Ow w f b q P C m d)(a:e≠b):bR A C:=by
 obtain⟨gs,i,o⟩:=h;obtain⟨xs,g,l⟩:=j;exact ca i g a
def aen(TA CA s t:aB)(n tc cc m sc M B:Nat)(lv b o:Int)(ts:aC)(w:EE)(h:aJ .i32 w TA n tc ts)(hc:Iw w w.heap.size .i64 aK CA n)(hs:Iw w w.heap.size .i64 (lK n) s m)(ho:Ow w B 3 .i64 aK t n M)(hB:B<=w.heap.size)(hn:n<=5000)(hm:m<=4000)(hsb:∀g,t=OH ⟨g,0,OJ⟩->∀u,s=OH u->0<m->u.block≠g):
 GK prog 29 #[Pl TA n tc,Pl CA n cc,Q4 #[Pl s m sc,ae aj lv,ae aj b,ae aj o],Pl t n M] w (PSq w B t n M):=by
 have⟨H,aP⟩:=eX (w.alloc (RM #[Pl s m sc,ae aj lv,ae aj b,ae aj o] 81));have P:ak (az w H):=⟨nR⟩;have c:ak (Bx H w.heap.size #[Pl s m sc,ae aj lv,ae aj b,ae aj o]):=⟨re⟩;have⟨R,S,Q,O0,HSB⟩:=MR h hc hs ho hsb;go_enter func29,ntmps29;go_upto_region 1 with fail;rw[<-aP];clear aP;go_wp2;go_loopg[9,10,11](m+1)(λgg v9 v10 v11 wr=>∃(i:Nat) (D E:aB) (L W:Nat),m-i<gg/\i<=m/\v9=Pl D i L/\v10=Pl E i W/\v11=ae aj (i:Int)/\ak (SqR H wr i D L E W))
 .exact⟨0,OJ,OJ,0,0,aq,aq,rfl,rfl,rfl,⟨⟨Below.refl _ _,Ow.nil _ _ _ _ _,Ow.nil _ _ _ _ _⟩⟩⟩
 obtain⟨i,D,E,L,W,hg,hi,rfl,rfl,rfl,V⟩:=hrel;have I:=P.t V.o.be;have⟨v,G,C,J⟩:=(c.o.ar V.o.be c.o.lt).q4;by_cases d:i<m
 .have i4:=aU i m
  obtain⟨ads,x,rfl,px,s0⟩:=(Q.o.Z I.o I.o.size).get d;obtain⟨q,rfl⟩:∃k:Nat,x=k:=⟨x.toNat,Cx⟩;have a:q<n:=Cu;have p:=aU q n;obtain⟨adt,r,rfl,hr,t0⟩:=(R.o.ar I.o).iw.get a;obtain⟨adc,y,rfl,_,c0⟩:=(S.o.Z I.o I.o.size).get a;have HR:=sH hr;have ib:=V.o.be.size;have hE:bR E D:=xm V.o.cl V.o.sg cF;have hD:=V.o.sg.head;go_wp2_with (at_builtin;refine dR Mp rfl (.tmp 21) (.tmp 30) rfl rfl (V.o.sg.alloc _) rfl (bk _ _ _) HR.o aq br ?_);intro A8 c8 w8 o8 b8 g8;have⟨E8,O8⟩:=K' ((V.o.cl.alloc _).kept g8 hE hD) o8;have O:ak (az H w8):=⟨(V.o.be.alloc aq _).trans b8⟩;have l:=P.t O.o;have ahO:=O.o.size;have⟨v,G,C,J⟩:=(c.o.ar O.o c.o.lt).q4;obtain⟨ah0,x,he,px,s0⟩:=(Q.o.Z l.o l.o.size).get d;obtain rfl:=Option.some.inj he;obtain⟨A,rfl⟩:∃k:Nat,x=k:=⟨x.toNat,Cx⟩;have a:A<n:=Cu;have p:=aU A n;obtain⟨JK,y2,he2,_,c0⟩:=(S.o.Z l.o l.o.size).get a;obtain rfl:=Option.some.inj he2;have mA:bR A8 E:=xm O8.o E8.o cF;have hD2:=E8.o.head;go_wp2_with (at_builtin;refine dR l5 rfl (.tmp 32) (.tmp 41) rfl rfl (E8.o.alloc _) rfl (bk _ _ _) trivial aq br ?_);intro A9 c9 w9 o9 b9 g9;have⟨E9,O9⟩:=K' ((O8.o.alloc _).kept g9 mA hD2) o9;have B9:ak (az H w9):=⟨(O.o.alloc aq _).trans b9⟩;go_wp2;go_roundg(m-i)
  .exact⟨i+1,A8,A9,c8,c9,aq,aq,rfl,rfl,rfl,⟨⟨B9.o,E9.o,O9.o⟩⟩⟩
  omega
 obtain rfl:i=m:=aq;have Wk:=V.o.cl.iw;have ib:=V.o.be.size;go_wp2_with fail;refine(abh E i W b wr Wk hm).mono ?_;rintro e w2 ⟨A2,c2,rfl,o2,b2⟩;have⟨O2,B2,S2⟩:=MO o2 (V.o.be.trans (b2.mono V.o.be.size)) (V.o.sg.ar b2);have Y:=B2.o.size;have⟨v,G,C,J⟩:=(c.o.ar B2.o c.o.lt).q4;go_wp2_with fail;obtain⟨sg,gx,gw⟩:=S2.o;refine(KY D A2 i L c2 lv b sg w2 (Own.gI gx gw) O2.o.iw aq).mono ?_;rintro e w3 ⟨A3,c3,rfl,o3,b3⟩;have⟨O3,B3⟩:=K' o3 (B2.o.trans (b3.mono Y));have sS:=B3.o.size;have⟨v,G,C,J⟩:=(c.o.ar B3.o c.o.lt).q4;go_wp2_with fail;refine(KZ A3 i c3 lv b o w3 O3.o.iw aq).mono ?_;rintro e w4 ⟨A4,c4,rfl,o4,b4⟩;have⟨O4,B4⟩:=K' o4 (B3.o.trans (b4.mono sS));have JY:=B4.o.size;have⟨v,G,C,J⟩:=(c.o.ar B4.o c.o.lt).q4;go_wp2_with fail;refine(DI A4 i c4 lv w4 O4.o.iw aq).mono ?_;rintro e w5 ⟨A5,c5,rfl,o5,b5⟩;have⟨O5,Z⟩:=K' o5 (B4.o.trans (b5.mono JY));have sO:=Z.o.size;have X5:=sH (c.o.ar Z.o c.o.lt);have f:=P.t Z.o;have QW5:=Q.o.Z f.o f.o.size;have OW5:=sH (O0.o.ar f.o);obtain⟨g,Ul,hBg,hgs,tS,rO⟩:∃g,(0<i->t=OH ⟨g,0,OJ⟩)/\B<=g/\g≠w.heap.size/\mI g s i/\mI g A5 i:=by
  rcases Nat.eq_zero_or_pos i with U|U
  .exact⟨B+w.heap.size+1,aq,aq,aq,λh2=>by omega,λh2=>by omega⟩
  .obtain⟨u,z,e1,e2,_⟩:=Q.o.get U
   have X:0<n:=by have:=e2.1;have:=e2.2;omega
   obtain⟨g,e3,e4,e5⟩:=O0.o.form X;obtain⟨g5,e6,e7,e8⟩:=O5.o.form U;have:=P.o.size;refine⟨g,λ_=>e3,e4,aq,λh2 u T=>HSB.o g e3 u T U,λh2 u T=> ?_⟩;rw[e6]at T;obtain rfl:=Option.some.inj T;show g5≠g;omega
 have H0:=sH Ul;obtain⟨qs,qa,qp⟩:=QW5;obtain⟨ls,la,lp⟩:=O5.o.iw;have⟨QA,LA,QP,LP⟩:=MQ qa la qp lp;go_wp2;go_loopg[13](i+1)(λgg kE wr=>∃j:Nat,i-j<gg/\j<=i/\kE=ae aj (j:Int)/\ak (Ow wr B 3 .i64 aK t n M)/\ak (dk g w5 wr))
 .exact⟨0,aq,aq,rfl,OW5,⟨dk.refl _ _⟩⟩
 obtain⟨j,hg,hj,rfl,K,F⟩:=hrel;have⟨v,G,C,J⟩:=(X5.o.ky aq F.o).q4;by_cases d:j<i
 .have j4:=aU j i
  obtain rfl:=H0.o aq;have Q9:Iw _ _ .i64 (lK n) s i:=⟨qs,QA.o.ky tS F.o,QP.o⟩;have L9:Iw _ _ .i64 aK A5 i:=⟨ls,LA.o.ky rO F.o,LP.o⟩;obtain⟨ads,x,rfl,px,s0⟩:=Q9.get d;obtain⟨q,rfl⟩:∃k:Nat,x=k:=⟨x.toNat,Cx⟩;have a:q<n:=Cu;have p:=aU q n;obtain⟨qS,y,rfl,_,l0⟩:=L9.get d;have fz:=K.o.fz q;obtain⟨z,_,z0⟩:=K.o.get a;have N:=sH (K.o.set q (y:=y) trivial);have NB:=sH (F.o.set q (ae aj y));go_wp2;go_region_law (fail)
  all_goals
   try simp only[Act.put]
   go_wp2
   (go_roundg(i-j)<;>first|omega|exact⟨j+1,aq,aq,rfl,N.o|>λh=>⟨h.ar (Below.refl _ _).drew⟩,⟨NB.o.trans (dk.of (Below.refl _ _).drew)⟩⟩)
 obtain rfl:j=i:=aq;go_wp2;go_ret;exact⟨rfl,K.o,(f.o.mono hB).trans (F.o.below hBg (by have:=f.o.size;omega))⟩
def Iv{ts:aC}{n:Nat}(h:tY ts n n)(e:ts.length=n):∀k,k+1<=n->par ts k=[]
 |0,_=>rfl
 |k+1,hk=>by
  have c:fQ ts k=OZ:=by
   unfold fQ;rw[Bool.or_eq_false_iff];refine⟨?_,br⟩;by_cases a:tQ ts k=11
   .obtain⟨f,d,b⟩:=h k aq aq a
    have:gE ts k=OX:=by unfold gE;simp[d,b];omega
    simp[this]
   .simp[a]
  rw[um c];exact Iv h e k aq
def Kz(h:tY ts n n)(a:ts.length=n):(sr ts).length<=1:=by
 unfold sr;rw[a];rcases n with _|n
 .simp[par]
 .have:=Iv h a n aq
  simp only[par,this];split<;>simp
def agd(w:EE)(n:Nat)(e:IS)(a:EE):Prop:=∃(A:aB) (c:Nat) (b:Int),e=RE (P8 #[Pl A n c,ae aj b,ae aj 0])/\Ow a w.heap.size 3 .i64 aK A n c/\az w a
def Uv(s:SqD):(sqF s).length=4:=rfl
def ad9(A:aB)(n c:Nat)(dir:Int)(ts:aC)(w:EE)(h:aJ .i32 w A n c ts)(hn:n<=60)(hr:Fp ts n)(hd:0<=dir/\dir<=2)(ho:tY ts n n):GK prog 7 #[Pl A n c,ae aj dir] w (agd w n):=by
 have hp:=Kz ho h.at_.len;have⟨R,HR⟩:=K' h hr;obtain⟨DL,Mw⟩:=hd;have i1:decide (dir<0)=OZ:=iY;have i2:decide (2<dir)=OZ:=iY;have i3:decide ((4096:Int)<(n:Int))=OZ:=iY;have i3b:decide (4096<n)=OZ:=iY;have X:=sH hp;clear h hr ho hp;go_enter func7,ntmps7;go_wp2_with fail;refine(Ca A n c ts w R.o aq).mono ?_;rintro e _ ⟨z,rfl,hz,rfl⟩;obtain rfl:z=OX:=hz.2 HR.o;clear hz;go_wp2_with fail;have S:=Fb A n c ts _ R.o aq;unfold GH at S;refine S.mono ?_;clear S;rintro e w1 ⟨D0,d0,rfl,_,I⟩;have⟨B1,Y⟩:=K' I (R.o.ar I);have p1:decide ((1:Int)<((sr ts).length:Int))=OZ:=by have:=X.o;simp<;>omega
 have P:decide (1<(sr ts).length)=OZ:=by have:=X.o;simp<;>omega
 clear I X;generalize(sr ts).length=pl at*;go_wp2_with fail;refine(FG A n c ts w1 Y.o aq).mono ?_;rintro e w2 ⟨OA,oc,rfl,L,V⟩;have M:=L.le.1;have B2:=B1.t V;have⟨R2,C2⟩:=K' (Y.o.ar V) L.iw;clear L V B1 Y p1 P;go_wp2_with fail;refine(abJ A n c dir ts w2 R2.o aq).mono ?_;rintro e w3 ⟨base,rfl,G⟩;have B3:=B2.t G;have J:=sH (C2.o.Z G G.size);clear G B2 R2 C2;go_wp2_with fail;refine(OT OA n oc base w3 J.o M aq).mono ?_;rintro e w4 ⟨LA,CA,lc,cc,rfl,ol,v,F⟩;have B4:=B3.t F;have⟨Z,O,K4⟩:=MO (J.o.Z F F.size) ol.iw v.iw;clear ol v F J B3;go_wp2_with fail;refine(ahc OA LA n oc lc base w4 Z.o O.o hn).mono ?_;rintro e k ⟨D,q,dc,B,ss,hq,rfl,hB,gs,l⟩;have C:=B4.t l;have⟨C5,K5,GS⟩:=MO (Z.o.Z l l.size) (K4.o.Z l l.size) gs;obtain⟨xs,hx,_⟩:=O.o.Z l l.size;have XS:=sH hx;clear l gs hx Z O K4 B4 hB;have R5:=sH (R.o.ar C.o);go_wp2_with (at_builtin;refine ig l5 rfl (.tmp 47) (.tmp 48) rfl rfl (Own.nil k k.heap.size 3 .i64) rfl XS.o aq cr ?_;intro s u w6 o1 b6;have O6:ak (Ow w6 k.heap.size 3 .i64 aK s n u):=⟨⟨_,by simpa using o1,λ_ _=>trivial⟩⟩;have B6:=sH b6;clear o1 b6 XS);go_loopg[12,13](q+1)(λgg Q N wr=>∃(i:Nat),q-i<gg/\i<=q/\Q=Pl s n u/\N=ae aj (i:Int)/\ak (Ow wr k.heap.size 3 .i64 aK s n u)/\ak (az k wr))
 .exact⟨0,aq,aq,by first|rfl|simp,rfl,O6,B6⟩
 clear O6 B6;obtain⟨i,hg,hi,rfl,rfl,j,d⟩:=hrel;by_cases f:i<q
 .have i4:=aU i q
  obtain⟨g,r,rfl,mU,H,x⟩:=GS.o.at Uv f;have E:=av (x 0 _ rfl) d.o;have e1:=av (x 1 _ rfl) d.o;have e2:=av (x 2 _ rfl) d.o;have e3:=av (x 3 _ rfl) d.o;rw[Nat.add_zero]at E;have SQ:ak _:=⟨aen A CA r.A s n c cc r.m r.c u k.heap.size r.lv r.so r.eo ts wr (R5.o.ar d.o) (K5.o.Z d.o d.o.size) (H.1.iw.Z d.o d.o.size) j.o d.o.size aq H.2 (λg2 h2 ad h3 h4=>by
   obtain⟨g3,h5,_,h6⟩:=H.1.form h4;rw[h5]at h3;obtain rfl:=Option.some.inj h3;have h7:=j.o;rw[h2]at h7;have:=h7.lt.1;show g3≠g2;omega)⟩
  clear x H;go_wp2_with fail;refine SQ.o.mono ?_;rintro e T ⟨rfl,o7,o⟩;have⟨m,t⟩:=K' o7 (d.o.trans o);clear o7 o SQ E e1 e2 e3;go_wp2;go_roundg(q-i)
  .exact⟨i+1,aq,aq,rfl,aV,m,t⟩
  omega
 have i4:=cI i q;go_wp2;go_loopg[14,15](n+1)(λgg U W wr=>∃(i:Nat) (a:Int),n-i<gg/\i<=n/\U=ae aj a/\W=ae aj (i:Int)/\ak (Ow wr k.heap.size 3 .i64 aK s n u)/\ak (az k wr))
 .exact⟨0,base,aq,aq,rfl,rfl,j,d⟩
 clear j d;obtain⟨i,a,hg,hi,rfl,rfl,j,d⟩:=hrel;by_cases f:i<n;rotate_left
 .have i5:=cI i n
  go_wp2;go_ret3;exact⟨_,_,_,rfl,j.o.cS C.o.size,C.o.trans (d.o.mono C.o.size)⟩
 have i5:=aU i n;obtain⟨ado,z,rfl,_,E⟩:=(C5.o.Z d.o d.o.size).get f;obtain⟨K,rfl,_,_⟩:=j.o.form aq;go_wp2_with fail;refine(kZ z wr).mono ?_;rintro e T ⟨b,rfl,o⟩;have m:=sH (j.o.ar o);have t:=d.t o;clear o E j d;obtain⟨y,_,y0⟩:=m.o.get f;cases b
 .go_wp2
  go_roundg(n-i)
  .exact⟨i+1,_,aq,aq,rfl,aV,m,t⟩
  omega
 have f0:=m.o.fz i;have O8:=sH (m.o.set i (y:=a) trivial);have B8:ak (az k (T.setCell ⟨K,i,OJ⟩ (ae aj a))):=⟨Below.setCell t.o (p:=⟨K,i,OJ⟩) m.o.lt.1 _⟩;go_upto_region 25 with fail;generalize T.setCell ⟨K,i,OJ⟩ (ae aj a)=w8 at*;clear y0 f0 m t;obtain⟨y,_,y0⟩:=O8.o.get f;go_wp2;go_roundg(n-i)
 .exact⟨i+1,_,aq,aq,rfl,aV,O8,B8⟩
 omega
def aeU(w:EE)(n:Nat)(e:IS)(a:EE):Prop:=∃x:Int,e=RE (ae aj x)/\(x= -1∨lK n x)/\a=w
def UU(A:aB)(n c N B:Nat)(z:Int)(w:EE)(h:nr w B N A n c)(o:n<=10000):GK prog 109 #[Pl A n c,ae aj z] w (aeU w N):=by
 have R:=sH h;go_enter func109,ntmps109;go_wp2;go_loopg[5](n+1)(λgg f wr=>∃(i:Nat),n-i<gg/\i<=n/\f=ae aj (i:Int)/\wr=w)
 .exact⟨0,aq,aq,rfl,rfl⟩
 obtain⟨i,l,hi,rfl,rfl⟩:=hrel;by_cases a:i<n;rotate_left
 .have d:=cI i n
  go_wp2;go_ret;exact⟨_,rfl,.inl rfl,rfl⟩
 have d:=aU i n;obtain⟨g,x,y,rfl,e,p,k,m⟩:=nr.at R.o a;have j:=sH e;by_cases b:(y==z)=OX
 .go_wp2
  go_ret;exact⟨_,rfl,.inr j.o,rfl⟩
 have b:(y==z)=OZ:=by simpa using b
 go_wp2;go_roundg(n-i)
 .exact⟨i+1,aq,aq,aV,rfl⟩
 omega
def Zo(A:aB)(n c a b:Nat)(ts:aC)(w:EE)(h:aJ .i32 w A n c ts)(u:a<=b)(B:b<=n)(G:n<=10000):GK prog 108 #[Pl A n c,Q4 #[ae aj (a:Int),ae aj (b:Int)]] w (PI w):=by
 have⟨d,aP⟩:=eX (w.alloc (RM #[ae aj (a:Int),ae aj (b:Int)] 57));have m:ak (az w d):=⟨nR⟩;have k:ak (Bx d w.heap.size #[ae aj (a:Int),ae aj (b:Int)]):=⟨re⟩;have R:=sH h;go_enter func108,ntmps108;go_upto_region 1 with fail;rw[<-aP];clear aP;have y:d.cell? ⟨w.heap.size,0,OJ⟩=OH (ae aj (a:Int)):=k.o.cell 0;go_wp2;go_loopg[5,6](n+1)(λgg v _ wr=>∃(i:Nat),n-i<gg/\i<=b/\v=ae aj (i:Int)/\ak (az d wr))
 .exact⟨a,aq,aq,rfl,cJ⟩
 obtain⟨i,D,hi,rfl,f⟩:=hrel;have l:=m.t f.o;have F:wr.cell? ⟨w.heap.size,1,OJ⟩=OH (ae aj (b:Int)):=(k.o.ar f.o k.o.lt).cell 1;by_cases r:i<b;rotate_left
 .have q:=cI i b
  go_wp2;go_ret;exact⟨_,rfl,l.o⟩
 have q:=aU i b;have E:=aU i n;obtain⟨C,z,rfl,o,x⟩:=(R.o.ar l.o).iw.get (show i<n by omega);obtain⟨g,j⟩:=vo o;have s:=sH (dX z g j wr);go_wp2_with fail;refine callK s.o f λH I e=> ?_;have p:=m.t e.o;generalize(aN z).script=sc at*;have t:sc=0∨sc=1∨(sc≠0/\sc≠1):=aq;rcases t with rfl|rfl|⟨h1,h2⟩
 .go_wp2
  go_roundg(n-i)
  .exact⟨i+1,aq,aq,aV,e⟩
  omega
 .go_wp2
  go_roundg(n-i)
  .exact⟨i+1,aq,aq,aV,e⟩
  omega
 have h1:(sc !=0)=OX:=Gf;have h2:(sc !=1)=OX:=vN;go_wp2;go_ret;exact⟨_,rfl,p.o⟩
structure Ue(w0 w:EE)(g n:Nat)(C:aB)(m d:Nat)(P:aB)(q pc:Nat):Prop where
 be:az w0 w
 ow:Ow w w0.heap.size 3 .i64 aK (OH ⟨g,0,OJ⟩) n n
 oc:Oq w (g+1) 57 2 (WL n) C m d
 op:nr w (g+1) n P q pc
def Ue.ar{c:EE}{b:Nat}{P:aB}(h:Ue w0 w g n C m d P q b)(a:az w c):Ue w0 c g n C m d P q b:=⟨h.be.trans (a.mono h.be.size),h.ow.ar a,h.oc.ar a,Oq.ar h.op a⟩
def Ue.set{a:Nat}{P:aB}(h:Ue w0 w g n C m d P q a)(k:Nat)(v:Int):Ue w0 (w.setCell ⟨g,k,OJ⟩ (ae aj v)) g n C m d P q a:=
 ⟨Below.setCell h.be (p:=⟨g,k,OJ⟩) h.ow.lt.1 _,h.ow.set k trivial,h.oc.mj (h.oc.apart aq) k _,Oq.mj h.op (Oq.apart h.op aq) k _⟩
def JH(A:aB)(n c:Nat)(ts:aC)(w:EE)(h:aJ .i32 w A n c ts)(hn:n<=10000):GK prog 46 #[Pl A n c] w (Nw w 3 .i64 aK n):=by
 have R:=sH h;have zz:ak ((prog.info? 3).map (·.zero)=OH (OH (ae aj 0))):=⟨aF⟩;go_enter func46,ntmps46;go_wp2_with (refine dx (p:=aK) l5 zz.o trivial rfl (.tmp 15) (.tmp 15) rfl n rfl rfl rfl rfl aq w.heap.size cr ?_;intro g w1 o1 Y;have O1:=sH o1;have B1:=sH Y;clear o1 Y);refine(Oi A n c ts w1 (R.o.ar B1.o) aq).mono ?_;rintro e w2 ⟨C,m,d,hm,rfl,oc,G⟩;have hg:=O1.o.lt;have OC:ak (Oq w2 (g+1) 57 2 (WL n) C m d):=⟨oc.cS aq⟩;have O2:=sH (O1.o.ar G);have B2:=B1.t G;have gz:=G.size;go_wp2_with fail;refine(FG A n c ts w2 (R.o.ar B2.o) aq).mono ?_;rintro e w3 ⟨D,dd,rfl,od,f⟩;have OD:=sH od.iw;have H:=B2.t f;have⟨O3,I⟩:=K' (O2.o.ar f) (OC.o.ar f);have sS:=f.size;go_wp2_with fail;refine(Ik A D n c dd ts w3 (R.o.ar H.o) OD.o hn).mono ?_;rintro e w4 ⟨P,q,B,hq,rfl,op,K⟩;have V:ak (Ue w w4 g n C m d P q B):=⟨⟨H.o.trans (K.mono H.o.size),O3.o.ar K,I.o.ar K,Oq.cS op aq⟩⟩;have w0:IK ((m:Int)-1)=(m:Int)-1:=IntWalk.wrap64_in _ aq;go_wp2;go_loopg[6,7,8](m+1)(λgg Q v7 _ wr=>∃(k:Nat) (z:Int),k<gg/\k<=m/\Q=ae aj z/\v7=ae aj ((k:Int)-1)/\ak (Ue w wr g n C m d P q B))
 .exact⟨m,0,aq,aq,rfl,rfl,V⟩
 obtain⟨k,z,T,hk,rfl,rfl,V⟩:=hrel;rcases k with _|k
 rotate_left
 .have ei:(((k+1:Nat):Int)-1)=(k:Int):=by omega
  rw[ei];obtain⟨gc,a,S,rfl,U,l,u,t⟩:=V.o.oc.cut (j:=k) aq;have k0:=gT k;have k1:=aU k m;go_wp2_with fail;refine(Zo A n c a S ts _ (R.o.ar V.o.be) aq l aq).mono ?_;rintro e w5 ⟨s,rfl,o⟩;have r:=sH (V.o.ar o);have u:=av u o;have t:=av t o
  by_cases hs:(s== -1)=OX
  .have hs:(s != -1)=OZ:=by simpa using hs
   go_wp2;go_roundg(k+1)
   .exact⟨k,_,aq,aq,rfl,lZ,r⟩
   omega
  .have hs:(s != -1)=OX:=by simpa using hs
   go_wp2;go_roundg(k+1)
   .exact⟨k,_,aq,aq,rfl,lZ,r⟩
   omega
 go_wp2;go_loopg[6,9,10,11,12,13](m+1)(λgg Q J v10 _ _ _ wr=>∃(i:Nat) (z:Int) (b:Bool),m-i<gg/\i<=m/\Q=ae aj z/\J=PF b/\v10=ae aj (i:Int)/\ak (Ue w wr g n C m d P q B))
 .exact⟨0,z,_,aq,aq,rfl,rfl,rfl,V⟩
 obtain⟨i,z,b,hgi,hi,rfl,rfl,rfl,V⟩:=hrel;by_cases L:i<m;rotate_left
 .have i4:=cI i m
  go_wp2;go_ret;exact⟨_,_,rfl,V.o.ow,V.o.be⟩
 have i4:=aU i m;obtain⟨gc,a,S,rfl,U,l,u,t⟩:=V.o.oc.cut (j:=i) aq;have k0:=gT i;have k1:=aU i m;go_wp2_with fail;refine(Zo A n c a S ts _ (R.o.ar V.o.be) aq l aq).mono ?_;rintro e w5 ⟨s,rfl,o⟩;have r:=sH (V.o.ar o);have u:=av u o;have t:=av t o
 go_wp2_with fail;refine(UU P q B n (g+1) (a:Int) w5 r.o.op aq).mono ?_;rintro e _ ⟨x,rfl,hx,rfl⟩
 rename EE=>w6
 have HX:=sH hx;go_upto_if 59 with fail;go_cut[9,11](λJ N wx=>(∃b:Bool,J=PF b)/\(∃z:Int,N=ae aj z)/\w6=wx)
 case first=>
  by_cases hs:(s== -1)=OX;rotate_left
  .have hs:(s != -1)=OX:=by simpa using hs
   go_wp2;go_meet;exact⟨⟨_,rfl⟩,⟨_,rfl⟩,rfl⟩
  have hs:(s != -1)=OZ:=rk;by_cases v:x= -1
  .subst v
   go_wp2;go_meet;exact⟨⟨_,rfl⟩,⟨_,rfl⟩,rfl⟩
  have sC:(x != -1)=OX:=by simpa using v
  obtain⟨F,rfl⟩:∃F:Nat,x=F:=⟨x.toNat,by rcases HX.o with h|⟨h,_⟩<;>omega⟩;have W:F<n:=by rcases HX.o with h|⟨_,h⟩<;>omega
  have Z:=aU F n;obtain⟨y,_,y0⟩:=r.o.ow.get W;cases b
  .go_wp2
   go_meet;exact⟨⟨_,rfl⟩,⟨_,rfl⟩,rfl⟩
  .go_wp2
   go_meet;exact⟨⟨_,rfl⟩,⟨_,rfl⟩,rfl⟩
 case rest=>
 obtain⟨⟨G,rfl⟩,⟨s2,rfl⟩,rfl⟩:=hcut;go_wp2;go_loopg[13](n+1)(λgg M wr=>∃(k:Nat),n-k<gg/\k<=n/\M=ae aj (k:Int)/\ak (Ue w wr g n (OH ⟨gc,0,OJ⟩) m d P q B))
 .exact⟨a,aq,aq,rfl,r⟩
 obtain⟨k,T,hk,rfl,V⟩:=hrel;obtain⟨gc2,a2,f,E,ahu,X,u,t⟩:=V.o.oc.cut L;injection E with E
 injection E with E
 subst E;by_cases hkb:k<f;rotate_left
 .have i5:=cI k f
  go_wp2;go_roundg(m-i)
  .exact⟨i+1,_,_,aq,aq,rfl,rfl,aV,V⟩
  omega
 have i5:=aU k f;have O:k<n:=aq;have i6:=aU k n;obtain⟨y,_,y0⟩:=V.o.ow.get O;have f0:=V.o.ow.fz k;have V3:=sH (V.o.set k s2);go_wp2;go_roundg(n-k)
 .exact⟨k+1,aq,aq,aV,V3⟩
 omega
def UZ(A:aB)(n c:Nat)(ts:aC)(w:EE)(h:aJ .i32 w A n c ts)(q:n<=100000):GK prog 49 #[Pl A n c] w λe a=>∃(bs:List Nat) (m:Nat) (D:aB) (d:Nat),e=RE (Pl D m d)/\aA a w.heap.size 57 2 D m d (dG (uf bs m))/\(∀i,i<m->dw bs i<dw bs (i+1)/\dw bs (i+1)<=n)/\(0<n->0<m/\dw bs 0=0/\dw bs m=n)/\m<=n/\az w a:=by
 refine(wU A n c ts w h aq).mono ?_;rintro e a ⟨D,d,rfl,o,b⟩;have f:(ks ts).length=n:=Te;have g:(uL (ks ts)).length=(dC (ks ts)).length-1:=by unfold uL;rw[jg]
 rw[g]at o⊢;have p:(dC (ks ts)).length<=n+1:=by
  have:=kY (ks ts) ((ks ts).length+1);unfold dC;omega
 refine⟨dC (ks ts),(dC (ks ts)).length-1,D,d,rfl,o,λi hi=>⟨qO aq,by have:=Ir (l:=ks ts) (k:=i+1) (by omega);omega⟩,λj=>⟨by have:=QB (ks:=ks ts) (by omega);omega,(oJ aq).1,by rw[(qk (by omega)).2,f]⟩,aq,b⟩
def RnQ(n:Nat)(r:aC):Prop:=(0<=nth r 0/\nth r 0<=n)/\(0<=nth r 1/\nth r 1<=n)
def mi(w:EE)(A:aB)(m t:Nat):Prop:=0<m/\∃g,A=OH ⟨g,0,OJ⟩/\w.cell? ⟨g,(m-1)*6+1,OJ⟩=OH (ae aj (t:Int))
def PRn(w:EE)(s:cM)(p:jz)(ts:aC)(e:IS)(a:EE):Prop:=∃(A:aB) (m c:Nat) (z:Int),e=RE (P8 #[Pl A m c,ae aj z])/\(z=0->ZJ w a s p ts/\m<=p.tn/\Oq a w.heap.size 68 6 (RnQ p.tn) A m c/\(0<p.tn->mi a A m p.tn))/\az w a
def ZJ.Z{c:EE}(h:ZJ w c s p ts)(a:az c b):ZJ w b s p ts:=⟨h.1.Z a a.size,⟨h.2.1.1,h.2.1.2.1,h.2.1.2.2.Z a a.size⟩,h.2.2⟩
def j'(N:Nat)(P:Int->Prop):Sat:=⟨λv w=>∃(A:aB) (m c:Nat),v=Pl A m c/\m<=N/\R9 w w.heap.size P A m,λ_ _ _ ⟨A,m,c,d,e,b⟩ a=>⟨A,m,c,d,e,b.Z a a.size⟩⟩
def Oq.im(h:Oq w B e 6 Q (OH ⟨g,0,OJ⟩) n c){j:Nat}(a:j<n):∃x:Rn,Q [x.f,x.t,x.lv,x.sp,x.fo,x.st]/\w.cell? ⟨g,j*6,OJ⟩=OH (ae aj x.f)/\w.cell? ⟨g,j*6+1,OJ⟩=OH (ae aj x.t)/\w.cell? ⟨g,j*6+2,OJ⟩=OH (ae aj x.lv)/\w.cell? ⟨g,j*6+3,OJ⟩=OH (ae aj x.sp)/\w.cell? ⟨g,j*6+4,OJ⟩=OH (ae aj x.fo)/\w.cell? ⟨g,j*6+5,OJ⟩=OH (ae aj x.st):=by
 obtain⟨f,e,_,d⟩:=h.rq aq aq;obtain rfl:(⟨g,0,OJ⟩:Addr)=f:=CJ;obtain⟨r,i,b,k⟩:=d j a;have key:∀q x,r[q]? =OH x->w.cell? ⟨g,j*6+q,OJ⟩=OH (ae aj x):=λq x l=>by
  have:=k q x l;rwa [aY,bC]at this
 match r,i with
 |[x0,x1,x2,x3,x4,x5],_=>exact⟨⟨x0,x1,x2,x3,x4,x5⟩,b,key 0 _ rfl,key 1 _ rfl,key 2 _ rfl,key 3 _ rfl,key 4 _ rfl,key 5 _ rfl⟩
def nV{P:I3}{ops:Array Oper}{rest:List Oper}{o:Oper}{a:Act}{K:Exit->Act->EE->Prop}{t:IQ}{b bytes:Nat}(T:aS P t e b bytes)(v:o.guard=OJ)(s x:Operand)
 (X:o.op=.call {callee:=.builtin .append,args:=#[s,x],argTypes:=#[t,t]}) {B:Nat} {Q:aC->Prop} {A:aB} {n c:Nat} (N:a.eval s=Pl A n c) (i:Oq w B e b Q A n c)
 {g:Nat} (W:a.eval x=Pl (OH ⟨g,0,OJ⟩) 1 1) (r:aC) (d:r.length=b) (S:∀j u,(dt r)[j]? =OH u->w.cell? ⟨g,j,OJ⟩=OH u) (V:Q r)
 (U:(n+1)*bytes<=140737488355328) (O:B<=w.heap.size)
 (h:∀m c' f,Oq f B e b Q m (n+1) c'->(∀C,m=OH ⟨C,0,OJ⟩->∀q u,r[q]? =OH u->f.cell? ⟨C,n*b+q,OJ⟩=OH (ae aj u))->EI B w f->wpList P ops K rest (a.put o.dst (Pl m (n+1) c')) f):wpList P ops K (o::rest) a w:=by
 obtain⟨gs,h1,F,H⟩:=i;refine bE T v s x X N H W (news:=dt r) (by simp[dt,d]) S (λu p=> ?_) U O λm c' f E G _ _=>h m c' f ⟨gs++[r],mo,λz k=> ?_,by rw[List.flatMap_append];simpa using E⟩ (λC J q u p=> ?_) G
 .simp only[dt,List.mem_map]at p
  obtain⟨z,_,rfl⟩:=p;rfl
 .rcases List.mem_append.1 k with k|k
  .exact F z k
  .obtain rfl:=List.mem_singleton.1 k
   exact⟨d,V⟩
 .subst J
  have L:q<b:=by rw[<-d];exact(List.getElem?_eq_some_iff.1 p).1
  have I:n*b+q<(n+1)*b:=Jq;have M:∀l:List aC,(∀g∈l,g.length=b)->(l.flatMap dt).length=l.length*b:=λl=>by
   induction l with
   |nil=>simp
   |cons y l ih=>
    intro d;rw[List.flatMap_cons,List.length_append,ih (λg D=>d g (by simp[D])),List.length_cons,Nat.add_mul];have:=d y aT;simp[dt,this];omega
  have R:(gs.flatMap dt).length=n*b:=by rw[M gs (λg D=>(F g D).1),h1]
  rw[aA.cellAt E _ I,List.getElem?_append_right aq,R,Nat.add_sub_cancel_left];simp[dt,p]
def TRn:aS prog 35 68 6 48:=bD underlying35 (z:=Q4 #[ae aj 0,ae aj 0,ae aj 0,ae aj 0,ae aj 0,ae aj 0]) aF rfl aq aq
def afA(s:G:=by
 exact⟨i+1,m+1,A12,c12,aq,aq,aq,rfl,aV,O12,⟨λ_=>by rw[HBE.o];exact UW.o⟩,B12⟩):G:=s
def abL(hB:rR)(hP:qG)(s:cM)(p:jz)(ts:aC)(w:EE)(h:gA w w.heap.size s)(hp:kf w p ts)(hs:zt w s p):GK prog 16 #[s.v,p.v] w (PRn w s p ts):=by
 have⟨W1,aP⟩:∃W1,W1=(w.alloc (RM s.row 26)).alloc (RM p.row 31):=⟨_,rfl⟩;have BB:=Fm aP;have B1:ak (az w W1):=⟨BB.1⟩;have X1:ak (Bx W1 w.heap.size s.row):=⟨BB.2.1⟩;have X2:ak (Bx W1 (w.heap.size+1) p.row):=⟨BB.2.2⟩;clear BB;have⟨c0,c1,aW,c3,c4⟩:=X1.o.c5;have⟨H,C,J,M,N,K,I,O⟩:=X2.o.c8;have R0:ak _:=⟨h⟩;have P0:ak _:=⟨hp⟩;have S0:ak _:=⟨hs⟩;have ht:p.tn<=60:=hs.1;have oE:p.sn<=60:=hs.2.1;have TR:s.fn<=10:=hs.2.2.2.1;clear h hp hs;go_enter func16,ntmps16;go_upto_region 1 with fail;rw[<-aP];clear aP;go_wp2_with fail;refine(yT hB hP s p ts W1 (R0.o.Z B1.o B1.o.size) (P0.o.ar B1.o) (S0.o.ar R0.o B1.o)).mono ?_;rintro e w3 ⟨z,rfl,hz,b3⟩;have BH:ak (az w w3):=⟨B1.o.trans (b3.mono B1.o.size)⟩;have XA:ak _:=⟨X1.o.ar b3 X1.o.lt⟩;have XB:ak _:=⟨X2.o.ar b3 X2.o.lt⟩;have HZ:ak (z=0->ZJ w w3 s p ts):=⟨λh=>⟨(hz h).1,(hz h).2.1,(hz h).2.2.1,(hz h).2.2.2.back B1.o⟩⟩;clear hz b3 c0 c1 aW c3 c4 H C J M N K I O X1 X2;by_cases h0:z=0;rotate_left
 .have Fu:(z !=0)=OX:=by simp[h0]
  clear h0;have h0:ak (z≠0):=⟨by simpa using Fu⟩;go_wp2;go_ret2;exact⟨_,_,_,_,rfl,λh=>absurd h h0.o,BH.o⟩
 have Fu:(z !=0)=OZ:=by simp[h0]
 have CH:ak _:=⟨HZ.o h0⟩;clear h0 HZ;have⟨H,C,J,M,N,K,I,O⟩:=XB.o.c8;go_wp2_with fail;refine(ad9 p.T p.tn p.tc p.dir ts w3 (P0.o.ar BH.o).rT ht CH.o.2.2.1.1 CH.o.2.2.2.2.2.1 CH.o.2.2.2.2.1).mono ?_;rintro e w4 ⟨LA,lc,base,rfl,ol,b4⟩;have B4:ak (az w w4):=⟨BH.o.trans (b4.mono BH.o.size)⟩;have L4:ak _:=⟨ol.iw⟩;have Y4:ak _:=⟨XB.o.ar b4 XB.o.lt⟩;have X4:ak _:=⟨XA.o.ar b4 XA.o.lt⟩;have C4:ak _:=⟨CH.o.Z b4⟩;clear ol b4 XA XB CH BH H C J M N K I O;have⟨H,C,J,M,N,K,I,O⟩:=Y4.o.c8;go_wp2_with fail;refine(JH p.T p.tn p.tc ts w4 (P0.o.ar B4.o).rT aq).mono ?_;rintro e w5 ⟨SA,sc,rfl,os,b5⟩;have B5:ak (az w w5):=⟨B4.o.trans (b5.mono B4.o.size)⟩;have L5:ak _:=⟨L4.o.Z b5 b5.size⟩;have S5:ak _:=⟨os.iw⟩;have Y5:ak _:=⟨Y4.o.ar b5 Y4.o.lt⟩;have X5:ak _:=⟨X4.o.ar b5 X4.o.lt⟩;have C5:ak _:=⟨C4.o.Z b5⟩;clear os b5 L4 X4 Y4 C4 B4 H C J M N K I O;have⟨c0,c1,aW,c3,c4⟩:=X5.o.c5;have⟨H,C,J,M,N,K,I,O⟩:=Y5.o.c8;go_wp2;have SW5:ak _:=⟨S0.o.ar R0.o B5.o⟩;have RW5:ak _:=⟨R0.o.Z B5.o B5.o.size⟩;have PW5:ak _:=⟨P0.o.ar B5.o⟩;have K0:=au c0;have K1:=au c1;have K2:=au aW;have K3:=au c3;have K4:=au c4
 have L0:=au H;have L1:=au C;have L2:=au J;have L3:=au M;have L4:=au N;have L6:=au K;have L7:=au I;have L8:=au O
 clear c0 c1 aW c3 c4 H C J M N K I O;refine sT (jD 42 (j' p.tn aK)) 7 rfl aF aF aF aF aF rfl rfl ?_
 repeat(refine cH aD aD aD ?_;intro K9 o;go_big_quiet_op;go_big_quiet_on)
 refine dA (j' p.tn aK) aD aD (λq l=> ?_) (λv9 n=> ?_)
 .obtain⟨f,rfl⟩:=l
  go_simp;refine aZ (j' p.tn aK) ((N' hB hP s p ts f.1 (RW5.o.Z f.2 f.2.size) (PW5.o.ar f.2) (SW5.o.ar RW5.o f.2)).mono ?_);rintro e w6 ⟨A6,m6,c6,hm6,rfl,o6,b6⟩;exact⟨_,rfl,⟨A6,m6,c6,rfl,hm6,o6.mf (λ_ _=>trivial)⟩,b6⟩
 obtain⟨_,_,A6,m6,c6,rfl,hm6,_⟩:=n;simp[Act.put];intro f hE;obtain⟨A7,m7,c7,e7,_,sp6⟩:=hE;simp at e7;obtain⟨r1,r2,_⟩:=e7;rw[<-r1,<-r2]at sp6;have SP:ak _:=⟨sp6⟩;have B6:ak (az w f.1):=⟨B5.o.trans (f.2.mono B5.o.size)⟩;have RW6:ak _:=⟨(RW5.o.Z f.2 f.2.size).rF⟩;have PW6:ak _:=⟨(PW5.o.ar f.2).rT⟩;have Y6:ak _:=⟨Y5.o.ar f.2 Y5.o.lt⟩;have L9:ak _:=⟨L5.o.Z f.2 f.2.size⟩;have S6:ak _:=⟨S5.o.Z f.2 f.2.size⟩;have C6:ak _:=⟨C5.o.Z f.2⟩;have hf0:=C5.o.2.1.2;clear sp6 r1 r2 K0 K1 K2 K3 K4 L0 L1 L2 L3 L4 L6 L7 L8 SW5 RW5 PW5 X5 Y5 L5 S5 C5 B5;generalize f.1=w6 at*;clear f;go_simp;refine(af9 s.F s.fn s.fc p.T p.tn p.tc ts A6 m6 _ w6 RW6.o PW6.o SP.o aq aq aq aq).mono ?_;rintro e w7 ⟨FA,fm,fc,hfm,rfl,of,b7⟩;have B7:ak (az w w7):=⟨B6.o.trans (b7.mono B6.o.size)⟩;have Ud:ak (R9 w7 w7.heap.size (vz s.fn) FA fm):=⟨of.mf (λ_ h=>h)⟩;have Y7:ak _:=⟨Y6.o.ar b7 Y6.o.lt⟩;have L7:ak _:=⟨L9.o.Z b7 b7.size⟩;have S7:ak _:=⟨S6.o.Z b7 b7.size⟩;have C7:ak _:=⟨C6.o.Z b7⟩;clear of b7 RW6 PW6 Y6 L9 S6 C6 B6 SP;go_simp;have⟨H,C,J,M,N,K,I,O⟩:=Y7.o.c8;go_wp2_with fail;refine(UZ p.T p.tn p.tc ts w7 (P0.o.ar B7.o).rT aq).mono ?_;rintro e G ⟨bs,k,D,dd,rfl,oc,DO,WE,hk,Y⟩;have OC:ak _:=⟨oc⟩;have B8:ak (az w G):=⟨B7.o.trans (Y.mono B7.o.size)⟩;have F8:ak _:=⟨Ud.o.Z Y Y.size⟩;have Y8:ak _:=⟨Y7.o.ar Y Y7.o.lt⟩;have L8:ak _:=⟨L7.o.Z Y Y.size⟩;have S8:ak _:=⟨S7.o.Z Y Y.size⟩;have C8:ak _:=⟨C7.o.Z Y⟩;have HB:ak _:=⟨DO⟩;have H0:ak _:=⟨WE⟩;clear oc Y Ud Y7 L7 S7 C7 B7 DO WE H C J M N K I O;obtain rfl:z=0:=by simpa using Fu
 go_wp2;go_loopg[7,14,15,16,17](k+1)(λgg v7 Ap _ _ _ wr=>∃(i m:Nat) (A:aB) (c:Nat),k-i<gg/\i<=k/\m<=i/\v7=Pl A m c/\Ap=ae aj (i:Int)/\ak (Oq wr G.heap.size 68 6 (RnQ p.tn) A m c)/\ak (0<i->mi wr A m (dw bs i))/\ak (az G wr))
 .exact⟨0,0,OJ,0,aq,aq,aq,rfl,rfl,⟨Oq.nil _ _ _ _ _⟩,⟨λh=>absurd h aq⟩,cJ⟩
 obtain⟨i,m,A,c,hg,hi,hm,rfl,rfl,OE,LT,BE⟩:=hrel;by_cases aG:i<k;rotate_left
 .have i4:=cI i k
  obtain rfl:i=k:=aq;go_wp2;go_ret2;exact⟨_,_,_,_,rfl,λ_=>⟨C8.o.Z BE.o,aq,OE.o.cS B8.o.size,λh=>by have:=LT.o (H0.o h).1;rwa [(H0.o h).2.2]at this⟩,B8.o.trans (BE.o.mono B8.o.size)⟩
 have i4:=aU i k;obtain⟨gD,rfl,_,_⟩:=aA.form OC.o aq;have q0:=(aA.cellAt OC.o (i*2) aq).trans (jY (uf bs k) i (by rw[jg];omega)).1;have q1:=(aA.cellAt OC.o (i*2+1) aq).trans (jY (uf bs k) i (by rw[jg];omega)).2;rw[kN _ _ _ aG]at q0 q1;have q0:=av q0 BE.o;have q1:=av q1 BE.o;dsimp only at q0 q1;have⟨a,ha⟩:∃a,dw bs i=a:=⟨_,rfl⟩;have⟨b,hb⟩:∃b,dw bs (i+1)=b:=⟨_,rfl⟩;have ja:=HB.o i aG;rw[ha,hb]at ja;rw[ha]at q0;rw[hb]at q1;have HBE:ak _:=⟨hb⟩;clear ha hb LT;have⟨q,l⟩:∃q,q=wr.alloc (RM #[ae aj (a:Int),ae aj (b:Int)] 57):=⟨_,rfl⟩;have R:ak (az G q):=⟨by rw[l];exact BE.o.alloc BE.o.size _⟩;have O9:ak (Oq q G.heap.size 68 6 (RnQ p.tn) A m c):=⟨by rw[l];exact OE.o.ar (aw _ _)⟩;have X9:ak (Bx q wr.heap.size #[ae aj (a:Int),ae aj (b:Int)]):=⟨by rw[l];exact Bx.new _ _ _⟩;go_upto_region 13 with fail;rw[<-l];clear l q0 q1 OE BE;have BG:ak (az w q):=⟨B8.o.trans (R.o.mono B8.o.size)⟩;obtain⟨qS,lv,rfl,_,e0⟩:=(L8.o.Z R.o R.o.size).get (show a<p.tn by omega);obtain⟨ads,X,rfl,_,e1⟩:=(S8.o.Z R.o R.o.size).get (show a<p.tn by omega);have x0:q.cell? ⟨wr.heap.size,0,OJ⟩=OH (ae aj (a:Int)):=X9.o.cell 0;have x1:q.cell? ⟨wr.heap.size,1,OJ⟩=OH (ae aj (b:Int)):=X9.o.cell 1;have⟨H,C,J,M,N,K,I,O⟩:=(Y8.o.ar R.o Y8.o.lt).c8;have F9:ak _:=⟨F8.o.Z R.o R.o.size⟩;have PS:ak _:=⟨R9.of (P:=aK) (P0.o.ar BG.o).rS (λ_ _ _ _ _ _=>trivial)⟩;have i5:(a:Int)<(p.tn:Int):=aq;have K0:=au x0;have K1:=au x1;have K2:=au e0;have K3:=au e1;have K4:=au C
 clear x0 x1 e0 e1 H C J M N K I O;refine aQ (λd=>if d=OH 74 then OH ZI else if d=OH 79 then OH ZI else if d=OH 16 then OH (ZX q.heap.size #[ae aj 0,ae aj 0,ae aj 0,ae aj 0,ae aj 0,ae aj 0])else OJ) 25 rfl aF aF aF aF aF rfl ?_
 repeat(refine cH aD aD aD ?_;intro K9 o;go_big_quiet_op;go_big_quiet_on)
 refine dA ZI aD aD (λq l=> ?_) (λv9 n=> ?_)
 .obtain⟨f,rfl⟩:=l
  go_simp;refine aZ ZI ((OU FA fm fc _ (vz s.fn) f.1 (F9.o.Z f.2 f.2.size) aq).mono ?_);rintro e w6 ⟨z,rfl,_,hb⟩;exact⟨_,rfl,⟨z,rfl⟩,hb⟩
 obtain⟨_,_,z1,rfl⟩:=n;simp[Act.put]
 repeat(refine cH aD aD aD ?_;intro K9 o;go_big_quiet_op;go_big_quiet_on)
 refine dA ZI aD aD (λq l=> ?_) (λv9 n=> ?_)
 .obtain⟨f,rfl⟩:=l
  go_simp;refine aZ ZI ((OU p.S p.sn p.sc _ aK f.1 (PS.o.Z f.2 f.2.size) aq).mono ?_);rintro e w6 ⟨z,rfl,_,hb⟩;exact⟨_,rfl,⟨z,rfl⟩,hb⟩
 obtain⟨_,_,z2,rfl⟩:=n;simp[Act.put]
 repeat(refine cH aD aD aD ?_;intro K9 o;go_big_quiet_op;go_big_quiet_on)
 refine dA (ZX q.heap.size #[ae aj 0,ae aj 0,ae aj 0,ae aj 0,ae aj 0,ae aj 0]) aD aD (λq l=> ?_) (λv9 n=> ?_)
 .obtain⟨f,rfl⟩:=l
  go_simp;exact tL f _ _
 obtain⟨_,_,g,rfl,eU,_⟩:=n;simp[Act.put];intro f hE;have mA:=ZX.get hE.2;obtain⟨fg,zR⟩:=mA.heap;clear hE K0 K1 K2 K3 K4 F9 PS;refine wp_store_row 68 (.tmp 16) (.tmp 80) rfl g _ rfl rfl fg _ zR aF rfl ed ?_;have XR:ak _:=⟨mA.row (ds:=(⟨a,b,lv,X,z1,z2⟩:Rn).row)⟩;have⟨Z,u⟩:∃Z,Z=f.1.setRow g (⟨a,b,lv,X,z1,z2⟩:Rn).row:=⟨_,rfl⟩;have UT:ak (az q Z):=⟨by rw[u];exact below_setRow f.2 eU _⟩;rw[<-u]at XR;rw[<-u];clear u mA zR;have v:ak _:=⟨O9.o.ar UT.o⟩;have E:ak _:=⟨X9.o.ar UT.o X9.o.lt⟩;have BX:ak (az G Z):=⟨R.o.trans (UT.o.mono R.o.size)⟩;clear O9 X9 R UT BG;go_wp2_with fail;rcases Nat.eq_zero_or_pos m with Dm|Dm
 .have Um:decide (0<m)=OZ:=ji
  clear Dm;refine aE (λ_=>OJ) aF aF ?_;refine ak.o ?_
  repeat first
   |(refine bG aD aD aD ?_;intro K9 o;go_big_quiet_op;refine o _ ?_)
   |(refine a7 aD ?_;simp[Act.put])
  refine⟨?_⟩
  first
   |(intro (f:aI _);obtain⟨t,L⟩:=f)
   |(rintro t ⟨⟨_,L⟩,rfl⟩)
  try dsimp only
  have r:ak _:=⟨v.o.ar L⟩;have X11:ak _:=⟨E.o.ar L E.o.lt⟩;have T:ak _:=⟨XR.o.ar L XR.o.lt⟩;have B:ak (az G t):=⟨BX.o.trans (L.mono BX.o.size)⟩;have⟨g0,g1,g2,g3,g4,g5⟩:=T.o.c6;have V:=B.o.size;clear L v E XR BX;go_step;go_wp2_with (at_builtin;refine nV TRn rfl (.tmp 101) (.tmp 103) rfl rfl (r.o.alloc _) rfl [(a:Int),(b:Int),lv,X,z1,z2] rfl (cP _ _ _ _ _ aT rfl) ⟨⟨uY,Jg⟩,uY,Jg⟩ aq br ?_;intro A12 c12 U S W Q;have O12:ak _:=⟨S⟩;have T12:ak _:=⟨W⟩;have B12:ak (az G U):=⟨(B.o.alloc V _).trans Q⟩;clear S W Q);have UW:ak (mi U A12 (m+1) b):=⟨by
   obtain⟨F,rfl,_,_⟩:=O12.o.form aq;exact⟨aq,F,rfl,T12.o F rfl 1 _ rfl⟩⟩
  go_roundg(k-i)
  case measure=>omega
  case rel=>exact afA
 .obtain⟨j,hj⟩:∃j,j+1=m:=⟨m-1,aq⟩
  have Ja:(m:Int)-1=(j:Int):=aq;have Um:decide (0<m)=OX:=Je;have hjm:=aU j m;have hj0:=gT j;obtain⟨F,rfl,_,_⟩:=v.o.form aq;obtain⟨x,_,e0,e1,e2,e3,e4,e5⟩:=v.o.im (show j<m by omega);have⟨g0,g1,g2,g3,g4,g5⟩:=XR.o.c6;have K0:=au e0;have K1:=au e1;have K2:=au e2;have K3:=au e3;have K4:=au e4;have K5:=au e5
  have L0:=au g0;have L1:=au g1;have L2:=au g2;have L3:=au g3;have L4:=au g4;have L5:=au g5
  have HJ:ak _:=⟨hj⟩;clear e0 e1 e2 e3 e4 e5 g0 g1 g2 g3 g4 g5 hj Dm;refine aE (kC 92 SB) aF aF ?_;refine ak.o ?_
  repeat first
   |(refine bG aD aD aD ?_;intro K9 o;go_big_quiet_op;refine o _ ?_)
   |(refine a7 aD ?_;simp[Act.put])
  refine⟨?_⟩;refine cK SB aD aD (λq l=> ?_) (λv9 n=> ?_)
  .obtain⟨f,rfl⟩:=l
   go_simp;exact bP (aba x ⟨a,b,lv,X,z1,z2⟩ f.1)
  obtain⟨b9,rfl⟩:=n;simp[Act.put];refine ak.o ?_
  repeat first
   |(refine bG aD aD aD ?_;intro K9 o;go_big_quiet_op;refine o _ ?_)
   |(refine a7 aD ?_;simp[Act.put])
  refine⟨?_⟩;intro f;obtain⟨t,L⟩:=f
  try dsimp only
  clear K0 K1 K2 K3 K4 K5 L0 L1 L2 L3 L4 L5;have r:ak _:=⟨v.o.ar L⟩;have X11:ak _:=⟨E.o.ar L E.o.lt⟩;have T:ak _:=⟨XR.o.ar L XR.o.lt⟩;have B:ak (az G t):=⟨BX.o.trans (L.mono BX.o.size)⟩;have⟨g0,g1,g2,g3,g4,g5⟩:=T.o.c6;have V:=B.o.size;clear L v E XR BX;cases b9
  .go_step
   go_wp2_with (at_builtin;refine nV TRn rfl (.tmp 101) (.tmp 103) rfl rfl (r.o.alloc _) rfl [(a:Int),(b:Int),lv,X,z1,z2] rfl (cP _ _ _ _ _ aT rfl) ⟨⟨uY,Jg⟩,uY,Jg⟩ aq br ?_;intro A12 c12 U S W Q;have O12:ak _:=⟨S⟩;have T12:ak _:=⟨W⟩;have B12:ak (az G U):=⟨(B.o.alloc V _).trans Q⟩;clear S W Q);have UW:ak (mi U A12 (m+1) b):=⟨by
    obtain⟨F,rfl,_,_⟩:=O12.o.form aq;exact⟨aq,F,rfl,T12.o F rfl 1 _ rfl⟩⟩
   go_roundg(k-i)
   case measure=>omega
   case rel=>exact afA
  .clear g0 g1 g2 g3 g4 g5
   obtain⟨y,hQ,_,e1,_⟩:=r.o.im (show j<m by have:=HJ.o;omega);have f1:=r.o.fz (j*6+1);have J7:=r.o.lt;have x1:=(X11.o.cell 1);have O12:ak (Oq (t.setCell ⟨F,j*6+1,OJ⟩ (ae aj (b:Int))) G.heap.size 68 6 (RnQ p.tn) (OH ⟨F,0,OJ⟩) m c):=⟨r.o.set Lz aq (b:Int) λx hx hq=>by
    unfold RnQ nth at*;simp[List.getElem?_set,hx]at hq⊢;exact⟨hq.1,aq⟩⟩
   have B12:ak (az G (t.setCell ⟨F,j*6+1,OJ⟩ (ae aj (b:Int)))):=⟨Below.setCell B.o (p:=⟨F,j*6+1,OJ⟩) J7.1 _⟩;have UW:ak (mi (t.setCell ⟨F,j*6+1,OJ⟩ (ae aj (b:Int))) (OH ⟨F,0,OJ⟩) m b):=⟨⟨Lz,F,rfl,by
    rw[show m-1=j by have:=HJ.o;omega];exact World.cell?_setCell_same' _ _ _ (by rw[e1];rfl)⟩⟩
   go_step;go_wp2;go_roundg(k-i)
   case measure=>omega
   case rel=>exact⟨i+1,m,_,c,aq,aq,aq,rfl,aV,O12,⟨λ_=>by rw[HBE.o];exact UW.o⟩,B12⟩
def Du(w:EE)(B:Nat)(A:aB)(n c:Nat):Prop:=∃bs:List Bool,aA w B 4 1 A n c (bs.map Value.bool)
def TBn:aS prog 112 4 1 1:=bD underlying112 (z:=PF OZ) aF rfl aq aq
def Du.ar(h:Du w B A n c)(b:az w a):Du a B A n c:=by
 obtain⟨bs,h⟩:=h;exact⟨bs,aA.ar h b⟩
def Du.at(h:Du w B (OH ⟨g,0,OJ⟩) n c)(a:j<n):(B<=g/\g<w.heap.size)/\w.frozen? ⟨g,j,OJ⟩=OZ/\∃b:Bool,w.cell? ⟨g,j,OJ⟩=OH (PF b):=by
 obtain⟨bs,h⟩:=h;have d:bs.length=n:=by have:=h.1;simpa using this
 refine⟨aA.yp h,aA.frozenAt h j,bs[j], ?_⟩;rw[aA.cellAt h j aq,List.getElem?_map,List.getElem?_eq_getElem aq];rfl
def Du.set(h:Du w B (OH ⟨g,0,OJ⟩) n c)(j:Nat)(b:Bool):Du (w.setCell ⟨g,j,OJ⟩ (PF b)) B (OH ⟨g,0,OJ⟩) n c:=by
 obtain⟨bs,h⟩:=h;refine⟨bs.set j b, ?_⟩;rw[List.map_set];exact(World.ownsRow.stored (cap:=c) h j (PF b)).1
def pa{P:I3}{ops:Array Oper}{rest:List Oper}{o:Oper}{a:Act}{Q:Exit->Act->EE->Prop}{t:IQ}(T:aS P t 4 1 1)(b:(P.info? 4).map (·.zero)=OH (OH (PF OZ)))(e:o.guard=OJ)(l c:Operand)
 (H:o.op=.makeSlice t l c) {p s:IntKind} {L C:Int} (n:Nat) (v:a.eval l=.int p L) (E:a.eval c=.int s C) (A:L=(n:Int)) (G:C=(n:Int)) (I:n<=140737488355328) (B:Nat) (u:B<=w.heap.size)
 (h:∀g d,Du d B (OH ⟨g,0,OJ⟩) n n->EI B w d->wpList P ops Q rest (a.put o.dst (Pl (OH ⟨g,0,OJ⟩) n n)) d):wpList P ops Q (o::rest) a w:=by
 obtain⟨i,z,hi,q,m,j,D⟩:=T.info;have f:z=PF OZ:=by
  rw[hi]at b;simp[q]at b;exact b
 refine wpList_make_full w e l c t H B 4 i z 1 T.ht hi q m p s L C n v E A G (by rw[j];omega) ri u λd r F=>
  h _ d ⟨List.replicate n OZ, ?_⟩ ((Below.refl B w).grown F u (λk y=>by cases y))
 subst f;unfold aA;have x:(madeCells (Value.bool OZ).cells (n*1)).toList=(List.replicate n OZ).map Value.bool:=by
  rw[Nat.mul_one,List.map_replicate];exact toList_madeCells_one _ _
 rw[x]at r;exact r
structure Z9 where
 A:aB
 n:Nat
 c:Nat
 C:aB
 m:Nat
 d:Nat
def Z9.F(r:Z9):List EN:=[Pl r.A r.n r.c,Pl r.C r.m r.d]
def PtI(B N:Nat)(w:EE)(r:Z9):Prop:=XY w B N r.A r.n r.c r.C r.m r.d
def s'(B N:Nat):Kpt 207 (PtI B N):=⟨λw f r h b=>⟨h.1,h.2.1,h.2.2.1.ar b,h.2.2.2.ar b⟩,λw f r B g A n c vs h k d=>⟨h.1,h.2.1,h.2.2.1.kept d (by obtain⟨xs,a,e⟩:=h.2.2.1;exact ca a k (by decide)) (aA.dU k),h.2.2.2.kept d (by obtain⟨xs,a,e⟩:=h.2.2.2;exact ca a k (by decide)) (aA.dU k)⟩⟩
abbrev GnP(w:EE)(B N:Nat)(a:List Z9)(A:aB)(n c:Nat):Prop:=Gn w B 207 2 Z9.F (PtI B N) a A n c
def DH(w:EE)(B N:Nat)(A:aB)(k:Nat):Prop:=∀j,j<k->∃(a:Addr) (r:Z9),A=OH a/\a.block<B/\w.cell? (a.add (j*2))=OH (Pl r.A r.n r.c)/\w.cell? (bX (a.add (j*2)) 1)=OH (Pl r.C r.m r.d)/\r.n<=N/\r.m=r.n+1/\Iw w B .i32 (Wf .i32) r.A r.n/\Iw w B .i64 aK r.C r.m
def DH.Z{e:EE}(h:DH w B N A k)(a:EI B w e)(b:B<=c):DH e c N A k:=λj f=>by
 obtain⟨d,r,p,h2,n,l,o,m,i,g⟩:=h j f;exact⟨d,r,p,aq,(a.cell zk).trans n,(a.cell (by show(d.add (j*2)).block<B;rw[aL];exact h2)).trans l,o,m,i.Z a b,g.Z a b⟩
def Qa{i:List Z9}(h:GnP w B N i A n c):DH w w.heap.size N A n:=λj d=>by
 obtain⟨g,r,rfl,f,a,b⟩:=Gn.at h (λ_=>rfl) d;have e:(⟨g,0,OJ⟩:Addr).add (j*2)=⟨g,j*2,OJ⟩:=bC _ _;exact⟨_,r,rfl,f,by rw[e];exact b 0 _ rfl,by rw[e];exact b 1 _ rfl,a.1,a.2.1,a.2.2.1.iw,a.2.2.2.iw⟩
def PNw(w:EE)(N k:Nat)(e:IS)(a:EE):Prop:=∃(A:aB) (n c:Nat) (t z:Int),e=RE (P8 #[Pl A n c,ae aj t,ae aj z])/\n<=k/\DH a a.heap.size N A n/\az w a
def PBz(w:EE)(e:IS)(a:EE):Prop:=(∃b:Bool,e=RE (PF b))/\az w a
def Wg(A C:aB)(n m c d:Nat)(w:EE)(h:Iw w w.heap.size .i32 (Wf .i32) A n)(k:Iw w w.heap.size .i32 (Wf .i32) C m)(t:n<=100000):GK prog 126 #[Pl A n c,Pl C m d] w (PBz w):=by
 have⟨X,Y⟩:=K' h k;by_cases p:n=m;rotate_left
 .have u:((n:Int) !=(m:Int))=OX:=by simp;omega
  go_enter func126,ntmps126;go_wp2;go_ret;exact⟨⟨_,rfl⟩,Below.refl _ _⟩
 subst p;go_enter func126,ntmps126;go_wp2;go_loopg[5](n+1)(λgg v wr=>∃i:Nat,n-i<gg/\i<=n/\v=ae aj (i:Int)/\ak (az w wr))
 .exact⟨0,aq,aq,rfl,cJ⟩
 obtain⟨i,s,hi,rfl,a⟩:=hrel;by_cases b:i<n;rotate_left
 .have l:=cI i n
  go_wp2;go_ret;exact⟨⟨_,rfl⟩,a.o⟩
 have l:=aU i n;obtain⟨r,x,rfl,_,g⟩:=(X.o.Z a.o a.o.size).get b;obtain⟨o,y,rfl,_,j⟩:=(Y.o.Z a.o a.o.size).get b;have⟨L0,L1⟩:=lc2 g j;cases q:(x !=y)
 .go_wp2
  refine mRl ?_;rintro _ ⟨e,rfl⟩;have f:=a.t e.2;go_wp2;go_roundg(n-i)
  .exact⟨i+1,aq,aq,aV,f⟩
  omega
 .go_wp2
  refine mRl ?_;rintro _ ⟨e,rfl⟩;go_wp2;go_ret;exact⟨⟨_,rfl⟩,a.o.trans (e.2.mono a.o.size)⟩
def ahz:aS prog 117 207 2 48:=bD underlying117 (z:=Q4 #[Pl OJ 0 0,Pl OJ 0 0]) aF rfl aq aq
def abr(s:cM)(w:EE)(h:cU w w.heap.size .str s.P s.pn s.pc)(hl:∀j,j<s.pn->ry w s j)(hn:s.pn<=60):GK prog 56 #[Pl s.P s.pn s.pc] w (PNw w 200 s.pn):=by
 have⟨X,N⟩:=K' h hl;have⟨n,p⟩:=eY s.pn;have HN:=sH p;have⟨P,q⟩:=eY s.P;have J:=sH q;rw[p]at hn X N⊢;rw[q]at X⊢;go_enter func56,ntmps56;go_wp2;go_loopg[5,6](n+1)(λgg v5 v6 wr=>∃(i m:Nat) (A:aB) (c:Nat) (Y:List Z9),n-i<gg/\i<=n/\m<=i/\v5=Pl A m c/\v6=ae aj (i:Int)/\ak (GnP wr w.heap.size 200 Y A m c)/\ak (az w wr))
 .exact⟨0,0,OJ,0,[],aq,aq,aq,rfl,rfl,⟨Gn.nil _ _ _ _ _ _⟩,cJ⟩
 obtain⟨i,m,A,c,Y,L,hi,hm,rfl,rfl,G,D⟩:=hrel;by_cases t:i<n;rotate_left
 .have i4:=cI i n
  go_wp2;go_ret3;exact⟨_,_,_,_,_,rfl,aq,Qa G.o,D.o⟩
 have i4:=aU i n;obtain⟨S,z,U,ja,E,_⟩:=yL X.o t;have hz:z.size<=200:=N.o i t S z (J.o.trans U) E;have E:=(D.o.cell Ct).trans E;subst U;go_wp2_with fail;refine(AA z aq wr).mono ?_;rintro e T ⟨f,l,a,d,g,o,b,rfl,x,H⟩;have R:=D.t H;have G1:=sH (G.o.ar (s' _ _) H);cases b
 .clear x H E
  go_wp2;go_ret3;exact⟨OJ,0,0,_,_,rfl,aq,λj h=>by omega,R.o⟩
 have B:ak (XY T w.heap.size 200 f a d l g o):=⟨⟨by have:=(x rfl).1;omega,(x rfl).2.1,(x rfl).2.2.1.cS D.o.size,(x rfl).2.2.2.cS D.o.size⟩⟩;have HG:=sH L;go_wp2;go_loopg[10](m+1)(λgg v wr=>∃k:Nat,m-k<gg/\k<=m/\v=ae aj (k:Int)/\ak (az T wr))
 .exact⟨0,aq,aq,rfl,cJ⟩
 obtain⟨k,L,hk,rfl,C⟩:=hrel;have K:=R.t C.o;have O:=sH (G1.o.ar (s' _ _) C.o);have y:ak (XY wr w.heap.size 200 f a d l g o):=⟨⟨B.o.1,B.o.2.1,B.o.2.2.1.ar C.o,B.o.2.2.2.ar C.o⟩⟩;have I:=K.o.size;have tS:=B.o.1;by_cases F:k<m
 .have i5:=aU k m
  obtain⟨S,r,rfl,_,q0,q1,hr,_,ir,_⟩:=Qa O.o k F;have IR:=sH ir;go_wp2_with fail;refine(Wg r.A f r.n a r.c d wr IR.o y.o.2.2.1.iw aq).mono ?_;rintro e w3 ⟨⟨b,rfl⟩,M⟩;have B3:=K.t M;have B4:=C.t M;cases b
  .go_wp2
   go_roundg(m-k)
   .exact⟨k+1,aq,aq,aV,B4⟩
   omega
  .go_wp2
   go_ret3;exact⟨OJ,0,0,_,_,rfl,aq,λj h=>by omega,B3.o⟩
 .have i5:=cI k m
  have GA:=sH (O.o.ar (s' _ _) (aw wr (RM #[Pl f a d,Pl l g o] 207)));have PA:ak (PtI w.heap.size 200 (wr.alloc (RM #[Pl f a d,Pl l g o] 207)) ⟨f,a,d,l,g,o⟩):=⟨⟨y.o.1,y.o.2.1,y.o.2.2.1.alloc _,y.o.2.2.2.alloc _⟩⟩;go_wp2_with (at_builtin;refine bE ahz rfl (.tmp 46) (.tmp 50) rfl rfl GA.o.own rfl (news:=[Pl f a d,Pl l g o]) rfl (λj u h=>by rw[cell_of_row _ _ _ _ _ _ (heap_alloc_new wr _)];simpa using h) (λu Z=>by simp at Z;rcases Z with rfl|rfl<;>rfl) aq br ?_;intro A5 c5 w5 Q W V _;have G5:=sH (GA.o.push (s' _ _) PA.o Q V);have B5:=sH ((K.o.alloc I _).trans W);clear Q W V);go_roundg(n-i)
  .exact⟨i+1,m+1,A5,c5,_,aq,aq,aq,rfl,aV,G5,B5⟩
  have:=HG.o;omega
def R'(r:Int)(h:Wf .i32 r)(w:EE):GK prog 194 #[.int .i32 r] w (ac7 w):=by
 have H:=sH h;obtain⟨b,c⟩:=wf_i32 r h;by_cases a:65<=r
 .by_cases d:r<=90
  .go_enter func194,ntmps194
   go_wp2;go_ret;exact⟨_,by simp[Wf,Lit.wf,IntKind.min,IntKind.max,IntKind.signed,IntKind.bits];omega,rfl,rfl⟩
  .go_enter func194,ntmps194
   go_wp2;go_ret;exact⟨_,H.o,rfl,rfl⟩
 .go_enter func194,ntmps194
  go_wp2;go_ret;exact⟨_,H.o,rfl,rfl⟩
def agF(w:EE)(n m a:Nat)(e:IS)(c:EE):Prop:=∃b:Bool,e=RE (PF b)/\(b=OX->a+n<=m)/\az w c
def J0(A C:aB)(n m c d a:Nat)(w:EE)(h:Iw w w.heap.size .i32 (Wf .i32) A n)(k:Iw w w.heap.size .i32 (Wf .i32) C m)(I:n<=100000)(H:m<=100000)(D:a<=100000):GK prog 195 #[Pl A n c,Pl C m d,ae aj (a:Int)] w (agF w n m a):=by
 have⟨X,Y⟩:=K' h k;by_cases g:m<a+n
 .have z:(m:Int)<(a:Int)+(n:Int):=by omega
  go_enter func195,ntmps195;go_wp2;go_ret;exact⟨_,rfl,aT,Below.refl _ _⟩
 have z:¬(m:Int)<(a:Int)+(n:Int):=aq;go_enter func195,ntmps195;go_wp2;go_loopg[7](n+1)(λgg v wr=>∃i:Nat,n-i<gg/\i<=n/\v=ae aj (i:Int)/\ak (az w wr))
 .exact⟨0,aq,aq,rfl,cJ⟩
 obtain⟨i,F,hi,rfl,b⟩:=hrel;by_cases f:i<n;rotate_left
 .have s:=cI i n
  go_wp2;go_ret;exact⟨_,rfl,λ_=>by omega,b.o⟩
 have s:=aU i n;have⟨q,J⟩:=eY (a+i);have e:q<m:=aq;obtain⟨E,x,rfl,_,o⟩:=(X.o.Z b.o b.o.size).get f;obtain⟨t,y,rfl,_,r⟩:=(Y.o.Z b.o b.o.size).get e;have⟨L0,L1⟩:=lc2 o r;have G:(a:Int)+(i:Int)=(q:Int):=aq;have p:=gT q;have u:=aU q m;cases B:(y !=x)
 .go_wp2
  refine mRl ?_;rintro _ ⟨j,rfl⟩;have l:=b.t j.2;go_wp2;go_roundg(n-i)
  .exact⟨i+1,aq,aq,aV,l⟩
  omega
 .go_wp2
  refine mRl ?_;rintro _ ⟨j,rfl⟩;go_wp2;go_ret;exact⟨_,rfl,aT,b.o.trans (j.2.mono b.o.size)⟩
def PPo(w:EE)(n:Nat)(e:IS)(a:EE):Prop:=∃(A:aB) (m c:Nat),e=RE (Pl A m c)/\m<=n/\Ow a w.heap.size 3 .i64 (λx=>0<=x/\x<=n) A m c/\az w a
def abb:(prog.info? 3).map (·.zero)=OH (OH (ae aj 0)):=by kernel_rfl
structure Hy(w wr:EE)(A:aB)(m c g k:Nat):Prop where
 ot:Ow wr w.heap.size 21 .i32 (Wf .i32) A m c
 om:Ow wr w.heap.size 3 .i64 aK (OH ⟨g,0,OJ⟩) k k
 be:az w wr
def Hy.ar(h:Hy w wr A m c g k)(a:az wr b):Hy w b A m c g k:=⟨h.ot.ar a,h.om.ar a,h.be.trans (a.mono h.be.size)⟩
def Hy.set(h:Hy w wr A m c g k)(j:Nat)(x:Int):Hy w (wr.setCell ⟨g,j,OJ⟩ (ae aj x)) A m c g k:=⟨by
 obtain⟨xs,a,d⟩:=h.ot;obtain⟨f,b,e⟩:=h.om;exact⟨xs,aA.mj a (ca a b cF) _,d⟩,h.om.set j trivial,Below.setCell h.be (p:=⟨g,j,OJ⟩) h.om.lt.1 _⟩
def Hy.drew(h:Hy w wr A m c g k):Hy w wr.drew A m c g k:=h.ar (aO (Below.refl _ _) 1)
def afi(s:G:=by
 go_wp2
 go_still_tail 20,aF;change wpList _ _ _ _ _ wr.drew;go_wp2;go_roundg(r.m-i)
 case measure=>omega
 case rel=>exact⟨i+1,aq,aq,aV,⟨UN.o _⟩⟩):G:=s
def Lu(P:aB)(a pc:Nat)(A:aB)(n c:Nat)(w:EE)(h:DH w w.heap.size 200 P a)(k:Iw w w.heap.size .i32 (Wf .i32) A n)(hp:a<=1000):GK prog 127 #[Pl P a pc,Pl A n c] w (PPo w n):=by
 have PR:ak _:=⟨h⟩;have X:ak _:=⟨k⟩;clear h k;by_cases h64:64<n
 .have C:=aU 64 n
  go_enter func127,ntmps127;go_wp2;go_ret;exact⟨OJ,0,0,rfl,aq,Ow.nil _ _ _ _ _,Below.refl _ _⟩
 have C:=cI 64 n;go_enter func127,ntmps127;go_wp2;go_loopg[6,7](n+1)(λgg v6 v7 wr=>∃(k:Nat) (Z:aB) (c1:Nat),n-k<gg/\k<=n/\v6=Pl Z (k+1) c1/\v7=ae aj (k:Int)/\ak (Ow wr w.heap.size 21 .i32 (Wf .i32) Z (k+1) c1)/\ak (az w wr))
 .exact⟨0,_,1,aq,aq,rfl,rfl,⟨[46],⟨aT,.inr ⟨w.heap.size,1,#[.int .i32 46],rfl,Nat.le_refl _,heap_alloc_new w _,aq,ri,aT,aT⟩⟩,by simp[Wf];decide⟩,⟨aw w _⟩⟩
 obtain⟨k,Z,c1,hg,hk,rfl,rfl,O1,I⟩:=hrel;have hz:=I.o.size;by_cases j:k<n
 .have i4:=aU k n
  obtain⟨ad,x,rfl,hx,e0⟩:=(X.o.Z I.o I.o.size).get j;have HX:ak _:=⟨hx⟩;clear hx;go_wp2_with fail;refine(R' x HX.o _).mono ?_;rintro e w2 ⟨y,hy,rfl,rfl⟩;have HY:ak _:=⟨hy⟩;clear hy;go_wp2_with (at_builtin;refine bW Mp rfl (.tmp 24) (.tmp 30) rfl rfl (O1.o.alloc _) rfl (bk _ _ _) HY.o aq br ?_;intro g f N D H;have o:ak _:=⟨D⟩;have d:ak (az w N):=⟨(I.o.alloc hz _).trans H⟩;clear D H);go_roundg(n-k)
  case measure=>omega
  case rel=>exact⟨k+1,g,f,aq,aq,rfl,aV,o,d⟩
 have i4:=cI k n;obtain rfl:k=n:=aq;have W46:ak (Wf .i32 46):=⟨cF⟩;go_wp2_with (first
  |(at_builtin;refine bW Mp rfl (.tmp 32) (.tmp 33) rfl rfl (O1.o.alloc _) rfl (bk _ _ _) W46.o aq br ?_;intro g f N D H;have o:ak _:=⟨D⟩;have d:ak (az w N):=⟨(I.o.alloc hz _).trans H⟩;have z3:=d.o.size;clear D H)
  |(at_make;refine dx l5 abb (p:=aK) trivial rfl _ _ rfl (k+3) rfl rfl aq aq aq N.heap.size cr ?_;intro s w4 o4 b4;have M4:ak (Hy w w4 g (k+2) f s (k+3)):=⟨⟨o.o.ar b4,o4.cS z3,d.o.trans (b4.mono z3)⟩⟩;clear o4 b4))
 go_loopg[9,10,11](a+1)(λgg v9 _ _ wr=>∃q:Nat,a-q<gg/\q<=a/\v9=ae aj (q:Int)/\ak (Hy w wr g (k+2) f s (k+3)))
 .exact⟨0,aq,aq,rfl,M4⟩
 obtain⟨q,v,hq,rfl,E⟩:=hrel;obtain⟨u,rfl⟩:∃u:EE,u=wr:=⟨_,rfl⟩;by_cases hqp:q<a
 .have q4:=aU q a
  have O:ak (a-q<gk):=⟨v⟩;obtain⟨pad,r,rfl,ja,p0,p1,Up,hrm,pi,pj⟩:=PR.o q hqp;have PQ:ak (∀W,az w W->W.cell? (pad.add (q*2))=OH (Pl r.A r.n r.c)/\W.cell? (bX (pad.add (q*2)) 1)=OH (Pl r.C r.m r.d)/\Iw W w.heap.size .i32 (Wf .i32) r.A r.n/\Iw W w.heap.size .i64 aK r.C r.m):=⟨λW M=>⟨(M.cell Ct).trans p0,(M.cell (by show(pad.add (q*2)).block<_;rw[aL];exact ja)).trans p1,pi.Z M cr,pj.Z M cr⟩⟩;clear v ja p0 p1 pi pj;go_wp2;go_loopg[10,11](k+3)(λgg v10 _ wr=>∃m:Nat,k+2-m<gg/\m<=k+2/\v10=ae aj (m:Int)/\ak (Hy w wr g (k+2) f s (k+3)))
  .exact⟨0,aq,aq,rfl,E⟩
  obtain⟨m,l,hm,rfl,V⟩:=hrel;obtain⟨wp,rfl⟩:∃wp:EE,wp=wr:=⟨_,rfl⟩;by_cases J:m<k+2;rotate_left
  .have i5:¬(m:Int)<(k:Int)+2:=by omega
   go_wp2;go_roundg(a-q)
   case measure=>have:=O.o;omega
   case rel=>exact⟨q+1,aq,aq,aV,V⟩
  have i5:(m:Int)<(k:Int)+2:=aq;have F:ak (k+2-m<gk):=⟨l⟩;obtain⟨d1,Y,ir,_⟩:=PQ.o _ V.o.be;have IR:ak _:=⟨ir⟩;clear l ir;go_wp2_with fail;refine(J0 r.A g r.n (k+2) r.c f m wp (IR.o.Z (Below.refl _ _) V.o.be.size) V.o.ot.iw aq aq aq).mono ?_;rintro e w5 ⟨b,rfl,B,b5⟩;have V5:ak _:=⟨V.o.ar b5⟩;clear b5 d1 Y;cases b
  .go_wp2
   go_roundg(k+2-m)
   case measure=>exact F.o
   case rel=>exact⟨m+1,aq,aq,aV,V5⟩
  have hml:=B rfl;clear B;go_wp2;go_loopg[11](r.m+1)(λgg S wr=>∃i:Nat,r.m-i<gg/\i<=r.m/\S=ae aj (i:Int)/\ak (Hy w wr g (k+2) f s (k+3)))
  .exact⟨0,aq,aq,rfl,V5⟩
  obtain⟨i,hg4,hi,rfl,U⟩:=hrel;obtain⟨_,Y,_,T⟩:=PQ.o _ U.o.be;by_cases Q:i<r.m;rotate_left
  .have i6:¬(i:Int)<(r.m:Int):=by omega
   clear T;go_wp2;go_roundg(k+2-m)
   case measure=>exact F.o
   case rel=>exact⟨m+1,aq,aq,aV,U⟩
  have i6:(i:Int)<(r.m:Int):=aq;obtain⟨ad,x,hC,_,e1⟩:=T.get Q;rw[hC]at Y;have⟨t,ht⟩:∃t,m+i=t:=⟨_,rfl⟩;obtain⟨y,_,e2⟩:=U.o.om.get (show t<k+3 by omega);have f2:=U.o.om.fz t;have mU:=U.o.om.lt.2;have es:(m:Int)+(i:Int)=(t:Int):=aq;have hwr:IntKind.i64.wrap (t:Int)=(t:Int):=by rw[IntWalk.i64_in _ (by omega)]
  have Gv:=gT t;have zu:(t:Int)<(k:Int)+3:=aq;have UN:ak (∀z,Hy w (wr.setCell ⟨s,t,OJ⟩ (ae aj z)).drew g (k+2) f s (k+3)):=⟨λz=>(U.o.set t z).drew⟩;clear hC T ht;by_cases Um:y<x
  .exact afi
  .exact afi
 have q4:=cI q a;go_wp2;go_loopg[12,13](k+1)(λgg mz R wr=>∃(i m:Nat) (L:aB) (K:Nat),k-i<gg/\2<=i/\(i<=2∨i+2<=k)/\m+2<=i/\mz=Pl L m K/\R=ae aj (i:Int)/\ak (Ow wr u.heap.size 3 .i64 (λx=>0<=x/\x<=k) L m K)/\ak (az u wr))
 .exact⟨2,0,OJ,0,aq,aq,aq,aq,rfl,rfl,⟨Ow.nil _ _ _ _ _⟩,cJ⟩
 obtain⟨i,m,L,K,l,ux,G,hmi,rfl,rfl,o,d⟩:=hrel;have sQ:=d.o.size;by_cases j:(i:Int)<=(k:Int)-3
 .obtain⟨y,_,e2⟩:=(E.o.ar d.o).om.get (show i+1<k+3 by omega)
  have ei:(i:Int)+1<(k:Int)+3:=aq;have ahW:i<k:=aq;have HI:ak ((0:Int)<=(i:Int)/\(i:Int)<=k):=⟨aq⟩;clear G;cases B:(y.tmod 2==1)
  .go_wp2
   clear B;go_roundg(k-i)
   case measure=>omega
   case rel=>exact⟨i+1,m,L,K,aq,aq,aq,aq,rfl,aV,o,d⟩
  .go_wp2_with (at_builtin;refine bW l5 rfl (.tmp 102) (.tmp 104) rfl rfl (o.o.alloc _) rfl (bk _ _ _) HI.o aq br ?_;intro A4 c4 w6 o6 b6;have O6:ak _:=⟨o6⟩;have B6:ak (az u w6):=⟨(d.o.alloc sQ _).trans b6⟩;clear o6 b6)
   clear B;go_roundg(k-i)
   case measure=>omega
   case rel=>exact⟨i+1,m+1,A4,c4,aq,aq,aq,aq,rfl,aV,O6,B6⟩
 .have xw:decide ((i:Int)<=(k:Int)-3)=OZ:=by simpa using j
  have J:m<=k:=aq;clear G;go_wp2;go_ret;exact⟨_,_,_,rfl,J,o.o.cS E.o.be.size,E.o.be.trans (d.o.mono E.o.be.size)⟩
def PPz(w:EE)(n:Nat)(e:IS)(a:EE):Prop:=∃(A:aB) (m c:Nat),e=RE (Pl A m c)/\m<=n+1/\Ow a w.heap.size 3 .i64 aK A m c/\az w a
def aet(P:aB)(T pc:Nat)(A:aB)(n c:Nat)(ts:aC)(w:EE)(h:DH w w.heap.size 200 P T)(k:aJ .i32 w A n c ts)(hp:T<=1000)(hn:n<=10000):GK prog 57 #[Pl P T pc,Pl A n c] w (PPz w n):=by
 have⟨PR,J⟩:=K' h k;have zz:ak ((prog.info? 4).map (·.zero)=OH (OH (PF OZ))):=⟨aF⟩;clear h k;go_enter func57,ntmps57;go_wp2_with (refine pa TBn zz.o rfl (.tmp 16) (.tmp 16) rfl (n+1) rfl rfl aV aV aq w.heap.size cr ?_;intro B w1 o1 b1;have O1:=sH o1;have B1:=sH b1;clear o1 b1);go_loopg[6](n+1)(λg v wr=>∃k:Nat,n-k<g/\k<=n/\v=ae aj (k:Int)/\ak (Du wr w.heap.size (OH ⟨B,0,OJ⟩) (n+1) (n+1))/\ak (az w wr))
 .exact⟨0,aq,aq,rfl,O1,B1⟩
 obtain⟨k,hg,hk,rfl,L,E⟩:=hrel;have hwz:=E.o.size;by_cases aG:k<n
 .have i4:=aU k n
  obtain⟨ad,z,rfl,_,e0⟩:=(J.o.ar E.o).iw.get aG;by_cases h1:z=173
  .subst h1
   by_cases h2:k+1<n
   .obtain⟨⟨X,s⟩,f1,b,R⟩:=L.o.at (show k+1<n+1 by omega)
    have i5:(k:Int)+1<(n:Int):=aq;have i6:(k:Int)+1<(n:Int)+1:=aq;have O2:=sH (L.o.set (k+1) OX);have B2:=sH (Below.setCell E.o (p:=⟨B,k+1,OJ⟩) X (PF OX));go_wp2;go_roundg(n-k)
    .exact⟨k+1,aq,aq,aV,O2,B2⟩
    omega
   .have i5:decide ((k:Int)+1<(n:Int))=OZ:=ji
    go_wp2;go_roundg(n-k)
    .exact⟨k+1,aq,aq,aV,L,E⟩
    omega
  .have hb:(z==173)=OZ:=by simpa using h1
   clear h1;go_wp2;go_roundg(n-k)
   .exact⟨k+1,aq,aq,aV,L,E⟩
   omega
 obtain rfl:k=n:=aq;go_wp2;go_loopg[7](k+2)(λg v wr=>∃a:Nat,k+1-a<g/\a<=k+1/\v=ae aj (a:Int)/\ak (Du wr w.heap.size (OH ⟨B,0,OJ⟩) (k+1) (k+1))/\ak (az w wr))
 .exact⟨0,aq,aq,rfl,L,E⟩
 obtain⟨a,s,ha,rfl,OA,K⟩:=hrel;have H:=K.o.size;by_cases nK:a<k
 .have i1:=aU a k
  obtain⟨wi,rfl⟩:=eX wr;go_upto_block 4 with fail;go_cut[8](λv wx=>∃j:Nat,a<=j/\j<=k/\v=ae aj (j:Int)/\ak (az wi wx))
  ·
   go_wp2;go_loopg[8](k+1)(λg v wr=>∃j:Nat,k-j<g/\a<=j/\j<=k/\v=ae aj (j:Int)/\ak (az wi wr))
   .exact⟨a,aq,aq,aq,rfl,cJ⟩
   obtain⟨j,tC,l,f,rfl,u⟩:=hrel;have C:=sH (K.o.trans (u.o.mono H));by_cases hj:j<k
   .have i2:=aU j k
    obtain⟨ad,z,rfl,hz,e0⟩:=(J.o.ar C.o).iw.get hj;obtain⟨z1,z2⟩:=wf_i32 z hz;have OF:=sH (dX z z1 z2 wr);clear hz z1 z2;go_wp2_with fail;refine OF.o.mono ?_;rintro e w4 ⟨rfl,b4⟩;have B4:=u.t b4;clear b4 OF e0;generalize(aN z).word=x at*;by_cases F:x=1
    .subst F
     go_wp2;go_roundg(k-j)
     .exact⟨j+1,aq,aq,aq,aV,B4⟩
     omega
    .have sC:(x==1)=OZ:=by simpa using F
     clear F;go_wp2;go_meet;exact⟨j,l,f,rfl,B4⟩
   .have i2:decide (j<k)=OZ:=ji
    go_wp2;go_meet;exact⟨j,l,f,rfl,u⟩
  obtain⟨j,l,f,rfl,u⟩:=hcut;have C:=sH (K.o.trans (u.o.mono H));obtain⟨A5,c5,V⟩:=jC Mp A k c a j l f J.o.le (a:Int) (j:Int) rfl rfl;have fB:=V.run;have XC:=sH ((V.gI (J.o.ar C.o)).iw);have G:=C.o.size;have⟨M,W⟩:=K' (OA.o.ar u.o) s;clear V s;go_wp2_with fail;refine(Lu P T pc A5 (j-a) c5 wc (PR.o.Z C.o G) XC.o hp).mono ?_;rintro e w6 ⟨A6,m,c6,rfl,O,o6,b6⟩;have⟨O6,P6,B6⟩:=MO (M.o.ar b6) o6 (C.o.trans (b6.mono G));clear o6 b6 M;go_wp2;go_loopg[10](m+1)(λg v wr=>∃q:Nat,m-q<g/\q<=m/\v=ae aj (q:Int)/\ak (Du wr w.heap.size (OH ⟨B,0,OJ⟩) (k+1) (k+1))/\ak (Ow wr wc.heap.size 3 .i64 (λx=>0<=x/\x<=(j-a:Nat)) A6 m c6)/\ak (az w wr))
  .exact⟨0,aq,aq,rfl,O6,P6,B6⟩
  obtain⟨q,tC,hq,rfl,o,PQ,i⟩:=hrel;by_cases hlq:q<m
  .have i7:=aU q m
   obtain⟨gp,rfl,_⟩:=PQ.o.form aq;obtain⟨y,⟨y0,y1⟩,R⟩:=PQ.o.get hlq;obtain⟨x,F⟩:∃x:Nat,(a:Int)+y=(x:Int):=⟨((a:Int)+y).toNat,aq⟩;obtain⟨⟨hh1,hh2⟩,f1,b,e2⟩:=o.o.at (show x<k+1 by omega);have S:=sH (o.o.set x OX);have P7:ak (Ow (wr.setCell ⟨B,x,OJ⟩ (PF OX)) wc.heap.size 3 .i64 (λx=>0<=x/\x<=(j-a:Nat)) (OH ⟨gp,0,OJ⟩) m c6):=⟨by
    obtain⟨xs,u1,u2⟩:=PQ.o;obtain⟨bs,u3⟩:=o.o;exact⟨xs,aA.mj u1 (ca u1 u3 cF) _,u2⟩⟩
   have N:=sH (Below.setCell i.o (p:=⟨B,x,OJ⟩) hh1 (PF OX));have i8:(x:Int)<(k:Int)+1:=aq;go_wp2;go_roundg(m-q)
   .exact⟨q+1,aq,aq,aV,S,P7,N⟩
   omega
  .have i7:=cI q m
   go_wp2;go_roundg(k+1-a)
   .exact⟨j+1,aq,aq,aV,o,i⟩
   exact W.o
 .have i1:=cI a k
  go_wp2_with fail;refine(Cf A k c ts wr (J.o.ar K.o) aq).mono ?_;rintro e w7 ⟨bs,D,d,rfl,o7,_,hle,_,Y,b7⟩;have N:=K.t b7;have⟨S,O8⟩:=K' o7 (OA.o.ar b7);have⟨m,O⟩:=eY bs.length;rw[O]at S hle Y⊢;have⟨HM,LE⟩:=K' O hle;clear o7 b7 O hle;go_wp2;go_loopg[12,13](m+1)(λg mz Z wr=>∃(q t:Nat) (U:aB) (Q:Nat),m-q<g/\q<=m/\t<=q/\Z=ae aj (q:Int)/\mz=Pl U t Q/\ak (Ow wr w7.heap.size 3 .i64 aK U t Q)/\ak (az w7 wr))
  .exact⟨0,0,OJ,0,aq,aq,aq,rfl,rfl,⟨Ow.nil _ _ _ _ _⟩,cJ⟩
  obtain⟨q,t,U,Q,hg4,hq,htq,rfl,rfl,o,i⟩:=hrel;have hzq:=i.o.size;by_cases r:q<m
  .have i7:=aU q m
   have ob:=S.o.ar i.o;obtain⟨gb,rfl,_⟩:=aA.form ob aq;have R:=iV ob (j:=q) r;rw[pt (by rw[HM.o];omega)]at R;have F:=LE.o q r;have⟨x,I⟩:=eY (dw bs q);rw[I]at R F;obtain⟨_,_,b,e2⟩:=(O8.o.ar i.o).at (show x<k+1 by omega);have i8:(x:Int)<(k:Int)+1:=aq;clear ob I;cases b
   .go_wp2
    go_roundg(m-q)
    .exact⟨q+1,t,U,Q,aq,aq,aq,aV,rfl,o,i⟩
    omega
   .go_wp2_with (at_builtin;refine bW l5 rfl (.tmp 97) (.tmp 102) rfl rfl (o.o.alloc _) rfl (bk _ _ _) trivial aq br ?_;intro A9 c9 w9 o9 b9;have O9:=sH o9;have B9:=sH ((i.o.alloc hzq _).trans b9);clear o9 b9)
    go_roundg(m-q)
    .exact⟨q+1,t+1,A9,c9,aq,aq,aq,aV,rfl,O9,B9⟩
    omega
  .have i7:=cI q m
   go_wp2;go_ret;exact⟨_,_,_,rfl,aq,o.o.cS N.o.size,N.o.trans (i.o.mono N.o.size)⟩
def Sn(bs:List Nat)(m i:Nat)(h:bs.length=m+1):uf (bs++[i]) (m+1)=uf bs m++[(dw bs m,i)]:=by
 rw[ik];have a:dw (bs++[i]) (m+1)=i:=by rw[<-h];exact iE bs i
 rw[cA aq,a,yt (bs++[i]) bs m λk b=>cA aq]
structure Pe(w:EE)(B:Nat)(bs:List Nat)(m f n:Nat)(A:aB)(c:Nat):Prop where
 len:bs.length=m+1
 own:aA w B 57 2 A m c (dG (uf bs m))
 up:∀i,i<m->dw bs i<dw bs (i+1)/\dw bs (i+1)<=n
 la:dw bs m=f
def Pe.nil(w:EE)(B n:Nat):Pe w B [0] 0 0 n OJ 0:=⟨rfl,aA.nil _ _ _ _,λi h=>by omega,rfl⟩
def Pe.ar{bs:List Nat}(h:Pe w B bs m f n A c)(b:az w a):Pe a B bs m f n A c:=⟨h.len,aA.ar h.own b,h.up,h.la⟩
def Pe.push{d:EE}{c':Nat}{bs:List Nat}{b:aB}(h:Pe w B bs m f n A c)(hi:f<i)(g:i<=n)(o:aA d B 57 2 b (m+1) c' (dG (uf bs m)++qF (f,i))):Pe d B (bs++[i]) (m+1) i n b c':=by
 have e:dw (bs++[i]) (m+1)=i:=by rw[<-h.len];exact iE bs i
 refine⟨sy, ?_,λk j=> ?_,e⟩
 .rw[Sn _ _ _ h.len,nw,h.la]
  exact o
 .rcases Nat.lt_or_ge k m with a|a
  .rw[cA Jj,cA Jj]
   exact h.up k a
  .obtain rfl:k=m:=by omega
   rw[cA Jj,e,h.la];exact⟨hi,g⟩
def Rq.aeG(h:Rq w B 6 Q A m)(d:j<m):∃(a:Addr) (g:aC),A=OH a/\Q g/\w.cell? (a.add (j*6))=OH (ae aj (nth g 0))/\w.cell? (bX (a.add (j*6)) 1)=OH (ae aj (nth g 1)):=by
 obtain⟨a,e,_,f⟩:=h aq;obtain⟨g,k,i,c⟩:=f j d
 match g,k with
 |[x0,x1,x2,x3,x4,x5],_=>
  have b:=c 0 _ rfl;rw[fA]at b;exact⟨a,_,e,i,b,c 1 _ rfl⟩
def PCu(w:EE)(n:Nat)(e:IS)(a:EE):Prop:=∃(bs:List Nat) (m f:Nat) (A:aB) (c:Nat),e=RE (Pl A m c)/\m<=n/\Pe a w.heap.size bs m f n A c/\az w a
def U'(A:aB)(n c:Nat)(ts:aC)(R:aB)(u rc:Nat)(w:EE)(h:aJ .i32 w A n c ts)(k:Rq w w.heap.size 6 (RnQ n) R u)(hn:n<=1000)(hr:u<=1000):GK prog 17 #[Pl A n c,Pl R u rc] w (PCu w n):=by
 have⟨HX,RX⟩:=K' h k;have zz:ak ((prog.info? 4).map (·.zero)=OH (OH (PF OZ))):=⟨aF⟩;go_enter func17,ntmps17;go_wp2_with fail;refine(ae0 A n c ts w HX.o aq).mono ?_;rintro e D ⟨km,F,K,kc,rfl,ok,b1⟩;have⟨C,OK,HK⟩:=MO b1 ok.iw F;have G:=b1.size;go_wp2_with (refine pa TBn zz.o rfl (.tmp 17) (.tmp 17) rfl (n+1) rfl rfl aV aV aq D.heap.size cr ?_;intro x w2 o2 b2;have O2:=sH o2;have B2:=sH b2;clear o2 b2);go_loopg[7](n+2)(λg v wr=>∃k:Nat,n+1-k<g/\1<=k/\k<=n+1/\v=ae aj (k:Int)/\ak (Du wr D.heap.size (OH ⟨x,0,OJ⟩) (n+1) (n+1))/\ak (az D wr))
 .exact⟨1,aq,aq,aq,rfl,O2,B2⟩
 obtain⟨k,T,uR,hk,rfl,l,j⟩:=hrel;by_cases aG:k<=n
 .have i4:(k:Int)<=(n:Int):=by omega
  have F:=HK.o aq;obtain⟨ad,z,rfl,_,M⟩:=(OK.o.Z j.o j.o.size).get (show k<km by omega);obtain⟨⟨N,h2⟩,f1,b,J⟩:=l.o.at (show k<n+1 by omega);have i5:(k:Int)<(n:Int)+1:=aq;have Q:=aU k km;have s:=sH (λb=>l.o.set k b);have o:=sH (λb=>Below.setCell j.o (p:=⟨x,k,OJ⟩) N (PF b));go_wp2;go_roundg(n+1-k)
  .exact⟨k+1,aq,aq,aq,aV,⟨s.o _⟩,⟨o.o _⟩⟩
  omega
 have i4:¬(k:Int)<=(n:Int):=aq;go_wp2;go_loopg[8](u+1)(λg v wr=>∃i:Nat,u-i<g/\i<=u/\v=ae aj (i:Int)/\ak (Du wr D.heap.size (OH ⟨x,0,OJ⟩) (n+1) (n+1))/\ak (az D wr))
 .exact⟨0,aq,aq,rfl,l,j⟩
 obtain⟨i,T,hi,rfl,l,j⟩:=hrel;by_cases y:i<u
 .have i5:=aU i u
  obtain⟨ad,g,rfl,H,M,_⟩:=(RX.o.Z C.o C.o.size|>.Z j.o j.o.size).aeG y;obtain⟨a,ha⟩:∃a:Nat,nth g 0=(a:Int):=⟨(nth g 0).toNat,by have:=H.1.1;omega⟩;have han:a<=n:=by have:=H.1.2;omega
  rw[ha]at M;obtain⟨⟨N,h2⟩,f1,b,J⟩:=l.o.at (show a<n+1 by omega);have Q:(a:Int)<(n:Int)+1:=aq;have s:=l.o.set a OX;have o:=Below.setCell j.o (p:=⟨x,a,OJ⟩) N (PF OX);go_upto_region 11 with fail;have⟨w5,r⟩:=eX (wr.setCell ⟨x,a,OJ⟩ (PF OX));rw[<-r]at s o⊢;clear r;have⟨s,o⟩:=K' s o;obtain⟨Y,g,ea,H,_,M⟩:=(RX.o.Z C.o C.o.size|>.Z o.o o.o.size).aeG y;obtain rfl:ad=Y:=by injection ea
  obtain⟨d,hd⟩:∃d:Nat,nth g 1=(d:Int):=⟨(nth g 1).toNat,by have:=H.2.1;omega⟩;have hdn:d<=n:=by have:=H.2.2;omega
  rw[hd]at M;obtain⟨⟨Z,h4⟩,f1,b,J⟩:=s.o.at (show d<n+1 by omega);have Q:(d:Int)<(n:Int)+1:=aq;have X:=sH (s.o.set d OX);have B4:=sH (Below.setCell o.o (p:=⟨x,d,OJ⟩) Z (PF OX));go_wp2;go_roundg(u-i)
  .exact⟨i+1,aq,aq,aV,X,B4⟩
  omega
 have i5:=cI i u;go_wp2;go_loopg[9](n+1)(λg v wr=>∃q:Nat,n-q<g/\q<=n/\v=ae aj (q:Int)/\ak (Du wr D.heap.size (OH ⟨x,0,OJ⟩) (n+1) (n+1))/\ak (az D wr))
 .exact⟨0,aq,aq,rfl,l,j⟩
 obtain⟨q,T,hq,rfl,l,j⟩:=hrel;by_cases I:q<n
 .have Q:=aU q n
  obtain⟨ad,z,rfl,_,M⟩:=((HX.o.ar C.o).ar j.o).iw.get I;by_cases hz:z=9;rotate_left
  .have dZ:(z==9)=OZ:=by simpa using hz
   go_wp2;go_roundg(n-q)
   .exact⟨q+1,aq,aq,aV,l,j⟩
   omega
  subst hz;obtain⟨⟨N,h2⟩,f1,b,J⟩:=l.o.at (show q<n+1 by omega);have i7:(q:Int)<(n:Int)+1:=aq;have s:=l.o.set q OX;have o:=Below.setCell j.o (p:=⟨x,q,OJ⟩) N (PF OX);go_upto_region 17 with fail;have⟨w5,r⟩:=eX (wr.setCell ⟨x,q,OJ⟩ (PF OX));rw[<-r]at s o⊢;clear r;obtain⟨⟨Z,h4⟩,f1,b,J⟩:=s.at (show q+1<n+1 by omega);have i7:(q:Int)+1<(n:Int)+1:=aq;have X:=sH (s.set (q+1) OX);have B4:=sH (Below.setCell o (p:=⟨x,q+1,OJ⟩) Z (PF OX));go_wp2;go_roundg(n-q)
  .exact⟨q+1,aq,aq,aV,X,B4⟩
  omega
 have Q:=cI q n;obtain⟨w4,rfl⟩:=eX wr;go_wp2;go_loopg[10,11,12](n+2)(λg v10 W S wr=>∃(t m f:Nat) (bs:List Nat) (O:aB) (P:Nat),n+1-t<g/\1<=t/\t<=n+1/\f<t/\m<=f/\f<=n/\v10=Pl O m P/\W=ae aj (f:Int)/\S=ae aj (t:Int)/\ak (Pe wr w4.heap.size bs m f n O P)/\ak (az w4 wr))
 .exact⟨1,0,0,_,OJ,0,aq,aq,aq,aq,aq,aq,rfl,rfl,rfl,⟨Pe.nil _ _ _⟩,cJ⟩
 obtain⟨t,m,f,bs,O,P,T,ht1,iG,sN,hmf,TR,rfl,rfl,rfl,B,L⟩:=hrel;have V:=L.o.size;by_cases E:t<=n
 .have i7:(t:Int)<=(n:Int):=by omega
  have i8:(t:Int)<(n:Int)+1:=aq;obtain⟨_,_,b,J⟩:=(l.o.ar L.o).at (show t<n+1 by omega);cases b
  .go_wp2
   go_roundg(n+1-t)
   .exact⟨t+1,m,f,bs,O,P,aq,aq,aq,aq,aq,aq,rfl,rfl,aV,B,L⟩
   omega
  .go_wp2_with (at_builtin;refine cG TY rfl (.tmp 81) (.tmp 85) rfl rfl (aA.alloc B.o.own _) rfl (news:=qF (f,t)) rfl (gM _ _ _ _) (lq _ _) aq br ?_;intro A8 c8 w8 o8 b8;have C8:=sH (B.o.push sN E o8);have B8:=sH ((L.o.alloc V _).trans b8);clear o8 b8)
   go_roundg(n+1-t)
   .exact⟨t+1,m+1,t,_,A8,c8,aq,aq,aq,aq,aq,aq,rfl,rfl,aV,C8,B8⟩
   omega
 have i7:¬(t:Int)<=(n:Int):=aq;have G:=C.o.size;have U:=j.o.size;go_wp2;go_ret;exact⟨bs,m,f,O,P,rfl,aq,⟨B.o.len,aA.eN B.o.own aq,B.o.up,B.o.la⟩,C.o.trans ((j.o.trans (L.o.mono U)).mono G)⟩
def Ku(s:cM)(p:jz)(ts:aC)(w:EE)(h:gA w w.heap.size s)(hp:kf w p ts)(E:zt w s p):GK prog 20 #[s.v,p.v] w (PPz w p.tn):=by
 have⟨W1,l,a,X1,q⟩:=box2 w s.row 26 p.row 31;have⟨c0,c1,aW,c3,c4⟩:=X1.o.c5;have⟨t,V,O,J,T,S,I,F⟩:=q.o.c8;have⟨R0,U,X⟩:=MO (h.Z a.o a.o.size) (hp.ar a.o) (E.ar h a.o);have ht:p.tn<=60:=E.1;have u:s.pn<=60:=E.2.2.2.2.2.1;go_enter func20,ntmps20;go_upto_region 1 with fail;rw[<-l];clear l;have⟨hy,x⟩:=eY p.hy;rw[x]at F;cases hy
 .go_wp2
  go_ret;exact⟨OJ,0,0,rfl,aq,Ow.nil _ _ _ _ _,a.o⟩
 go_wp2_with fail;refine(abr s W1 R0.o.rP X.o.2.2.2.2.2.2 u).mono ?_;rintro e w2 ⟨N,nn,nc,t1,z1,rfl,hnn,Y,L⟩;have⟨M,PR⟩:=K' L Y;have⟨t,V,O,J,T,S,I,F⟩:=(q.o.ar L q.o.lt).c8;go_wp2_with fail;refine(aet N nn nc p.T p.tn p.tc ts w2 PR.o (U.o.ar M.o).rT aq aq).mono ?_;rintro e W ⟨D,m,d,rfl,hm,o3,b3⟩;have H:=M.t b3;have O3:=sH o3.iw;go_wp2;go_loopg[9,10](m+1)(λg v9 v10 wr=>∃(i k:Nat) (A:aB) (c:Nat),m-i<g/\i<=m/\k<=i/\v9=Pl A k c/\v10=ae aj (i:Int)/\ak (Ow wr W.heap.size 3 .i64 aK A k c)/\ak (az W wr))
 .exact⟨0,0,OJ,0,aq,aq,aq,rfl,rfl,⟨Ow.nil _ _ _ _ _⟩,cJ⟩
 obtain⟨i,k,A,c,hg,hi,hk,rfl,rfl,y,f⟩:=hrel;have o:=f.o.size;have G:=H.t f.o;by_cases v:i<m;rotate_left
 .have i4:=cI i m
  go_wp2;go_ret;exact⟨A,k,c,rfl,aq,y.o.cS (by have:=a.o.size;have:=H.o.size;omega),a.o.trans (G.o.mono a.o.size)⟩
 have i4:=aU i m;obtain⟨ad,z,rfl,_,e0⟩:=(O3.o.Z f.o f.o.size).get v;have⟨t,V,O,J,T,S,I,F⟩:=(q.o.ar G.o q.o.lt).c8;have Z:=sH ((U.o.ar G.o).rT);have⟨L0,L1⟩:=lc2 e0 t;have⟨b,Q⟩:=eY (Ms (ks ts) z);have P:ak (∀n:aI wr,GK prog 58 #[Pl p.T p.tn p.tc,ae aj z] n.1 λe w'=>e=RE (PF b)/\EI n.1.heap.size n.1 w'):=⟨λn=>by rw[<-Q];exact tA p.T p.tn p.tc ts z n.1 (Z.o.ar n.2) aq⟩;clear Q;cases b
 .go_wp2
  refine bS aF aF ?_
  repeat(go_big_quiet_step (with_reducible exact dN (P.o _)))
  refine wpQuiet_nil ?_;rintro _ ⟨j,rfl⟩;have⟨C,r⟩:=K' (y.o.ar j.2) (f.o.trans (j.2.mono o));go_wp2;go_roundg(m-i)
  .exact⟨i+1,k,A,c,aq,aq,aq,rfl,aV,C,r⟩
  omega
 .go_wp2
  refine bS aF aF ?_
  repeat(go_big_quiet_step (with_reducible exact dN (P.o _)))
  refine wpQuiet_nil ?_;rintro _ ⟨j,rfl⟩;have⟨C,r⟩:=K' (y.o.ar j.2) (f.o.trans (j.2.mono o));have B:=r.o.size;have e1:=L0 j;go_wp2_with (at_builtin;refine bW l5 rfl (.tmp 38) (.tmp 43) rfl rfl (C.o.alloc _) rfl (bk _ _ _) trivial aq br ?_;intro A9 c9 w9 K R;have O9:=sH K;have B9:=sH ((r.o.alloc B _).trans R);clear K R);go_roundg(m-i)
  .exact⟨i+1,k+1,A9,c9,aq,aq,aq,rfl,aV,O9,B9⟩
  omega
