/- Part of LineFills. -/
import Derived.Test.YtijcgdkpconjcaaGreatDoorAj
namespace Go.Proofs.YtijcgdkpconjcaaGreatDoor
open Go.ChangeShapes Go.WideShapes Go.ChangeAt Go.RowKit Go.Proofs.Tryz
open Go renaming World->EE,Value->EN,Calls->GK,TypeId->IQ,Ending->IS
open Option renaming some->OH,none->OJ
open Bool renaming true->OX,false->OZ
open Go.Value renaming slice->Pl,bool->PF
open Go.Ending renaming returned->RE
open Go.Obj renaming cells->RM
open Go.Value renaming int->ae
open Go.IntKind renaming i64->aj
set_option linter.all false
set_option maxRecDepth 100000
set_option maxHeartbeats 16000000
variable{w:EE}{B c i n:Nat}{G:Prop}{T:aB}{kind:Int}
def Bx.Zl{b:Nat}{j i a e f c g d:EN}(h:Bx w b #[j,i,a,e,f,c,g,d]):w.cell? ⟨b,0,OJ⟩=OH j/\w.cell? ⟨b,1,OJ⟩=OH i/\w.cell? ⟨b,2,OJ⟩=OH a/\w.cell? ⟨b,3,OJ⟩=OH e/\w.cell? ⟨b,4,OJ⟩=OH f/\w.cell? ⟨b,5,OJ⟩=OH c/\w.cell? ⟨b,6,OJ⟩=OH g/\w.cell? ⟨b,7,OJ⟩=OH d:=⟨h.cell 0,h.cell 1,h.cell 2,h.cell 3,h.cell 4,h.cell 5,h.cell 6,h.cell 7⟩
def YV(s:G:=by
 go_wp2
 go_ret;exact⟨_,rfl,B1.o.trans (B2.o.mono B1.o.size)⟩):G:=s
def V'(f:dv)(A:aB)(n c:Nat)(w:EE)(h:cC w w.heap.size f)(U:cU w w.heap.size IW A n c):GK prog 292 #[f.v,Pl A n c] w (PB w):=by
 have⟨W1,s,B1,g⟩:=box1 w f.row 102;have⟨R,RL⟩:=K' (h.Z B1.o B1.o.size) (U.Z B1.o B1.o.size);have hn:=U.bd;go_enter func292,ntmps292;go_wp2;rw[<-s];clear s;go_loopg[5,6](n+1)(λgg v5 _ wr=>∃(i:Nat),n-i<gg/\i<=n/\v5=ae aj (i:Int)/\ak (az W1 wr))
 .exact⟨0,aq,aq,rfl,cJ⟩
 obtain⟨i,hg,hi,rfl,G⟩:=hrel;by_cases K:i<n;rotate_left
 .have i4:=cI i n
  go_wp2;go_ret;exact⟨_,rfl,B1.o.trans (G.o.mono B1.o.size)⟩
 have i4:=aU i n;obtain⟨ad,m,M,Q,L,J,N,P,O,rfl,e0,e1,e2,e3,e4,e5,e6,e7⟩:=ze (RL.o.Z G.o G.o.size) K;have⟨W,cg⟩:=eX (wr.alloc (RM #[ae aj m,ae aj M,ae aj Q,ae aj L,ae aj J,ae aj N,ae aj P,ae aj O] 333));have b2:az wr W:=jT;have a:ak (Bx W wr.heap.size #[ae aj m,ae aj M,ae aj Q,ae aj L,ae aj J,ae aj N,ae aj P,ae aj O]):=⟨lY⟩;have B2:=G.t b2;have⟨c0,C,l,y,c4,c5⟩:=(g.o.ar B2.o g.o.lt).f6;have⟨t,u,E,B,x,F,D,H⟩:=a.o.Zl;go_upto_region 5 with fail;rw[<-cg];clear cg;go_wp2_with fail;refine(kK f m _ (R.o.Z B2.o B2.o.size)).mono ?_;rintro e T ⟨z,rfl,b⟩;have p:=B2.t b;have⟨q,B2⟩:=K' (a.o.ar b a.o.lt) p.o;have a:=sH q.o;have⟨c0,C,l,y,c4,c5⟩:=(g.o.ar B2.o g.o.lt).f6;have⟨t,u,E,B,x,F,D,H⟩:=a.o.Zl;cases z
 .exact YV
 go_wp2_with fail;refine(kK f M _ (R.o.Z B2.o B2.o.size)).mono ?_;rintro e T ⟨z,rfl,b⟩;have p:=B2.t b;have⟨q,B2⟩:=K' (a.o.ar b a.o.lt) p.o;have a:=sH q.o;have⟨c0,C,l,y,c4,c5⟩:=(g.o.ar B2.o g.o.lt).f6;have⟨t,u,E,B,x,F,D,H⟩:=a.o.Zl;cases z
 .exact YV
 go_wp2_with fail;refine(yZ Q L J _).mono ?_;rintro e T ⟨z,rfl,b⟩;have p:=B2.t b;have⟨q,B2⟩:=K' (a.o.ar b a.o.lt) p.o;have a:=sH q.o;have⟨c0,C,l,y,c4,c5⟩:=(g.o.ar B2.o g.o.lt).f6;have⟨t,u,E,B,x,F,D,H⟩:=a.o.Zl;cases z
 .exact YV
 go_wp2_with fail;refine(yZ N P O _).mono ?_;rintro e T ⟨z,rfl,b⟩;have p:=B2.t b;have⟨q,B2⟩:=K' (a.o.ar b a.o.lt) p.o;have a:=sH q.o;have⟨c0,C,l,y,c4,c5⟩:=(g.o.ar B2.o g.o.lt).f6;have⟨t,u,E,B,x,F,D,H⟩:=a.o.Zl;cases z
 .exact YV
 have⟨P0,P1⟩:=lc2 t u;rcases i with _|k
 .go_wp2
  refine aE (λ_=>OJ) aF aF ?_;refine mSk ?_
  first
   |(intro (r:aI _);obtain⟨o,d⟩:=r)
   |(rintro o ⟨⟨_,d⟩,rfl⟩)
  have j:=B2.t d
  try dsimp only
  go_wp2;go_roundg(n-0)
  .exact⟨0+1,aq,aq,aV,j⟩
  omega
 .obtain⟨ew,v,y1,_,_,_,_,_,_,I,g0,Z,_⟩:=ze (RL.o.Z B2.o B2.o.size) (show k<n by omega)
  injection I with I
  subst I;have wk:IntKind.i64.wrap ((k:Int)+1-1)=(k:Int):=zo;have k0:=gT k;have k1:=aU k n;have⟨G0,G1⟩:=lc2 g0 Z;by_cases Y:m<v
  .go_wp2
   refine aE (λ_=>OJ) aF aF ?_;refine mSk ?_
   first
    |(intro (r:aI _);obtain⟨o,d⟩:=r)
    |(rintro o ⟨⟨_,d⟩,rfl⟩)
   have j:=B2.t d
   try dsimp only
   go_wp2_with fail
   all_goals first
    |(go_roundg(n-(k+1))<;>first|omega|exact⟨k+1+1,aq,aq,aV,j⟩)
    |(go_ret;exact⟨_,rfl,B1.o.trans (j.o.mono B1.o.size)⟩)
  have X:decide (m<v)=OZ:=by simpa using Y
  by_cases V:m=v
  .have S:(m==v)=OX:=by simp[V]
   go_wp2;refine aE (λ_=>OJ) aF aF ?_;refine mSk ?_
   first
    |(intro (r:aI _);obtain⟨o,d⟩:=r)
    |(rintro o ⟨⟨_,d⟩,rfl⟩)
   have j:=B2.t d
   try dsimp only
   go_wp2_with fail
   all_goals first
    |(go_roundg(n-(k+1))<;>first|omega|exact⟨k+1+1,aq,aq,aV,j⟩)
    |(go_ret;exact⟨_,rfl,B1.o.trans (j.o.mono B1.o.size)⟩)
  .have S:(m==v)=OZ:=by simp[V]
   go_wp2;refine aE (λ_=>OJ) aF aF ?_;refine mSk ?_
   first
    |(intro (r:aI _);obtain⟨o,d⟩:=r)
    |(rintro o ⟨⟨_,d⟩,rfl⟩)
   have j:=B2.t d
   try dsimp only
   go_wp2_with fail
   all_goals first
    |(go_roundg(n-(k+1))<;>first|omega|exact⟨k+1+1,aq,aq,aV,j⟩)
    |(go_ret;exact⟨_,rfl,B1.o.trans (j.o.mono B1.o.size)⟩)
def cuT(d:Option Tmp):Option (EN->Prop):=if d=OH 20 then OH SB else if d=OH 27 then OH SB else if d=OH 35 then OH SB else OJ
def qf(s:G:=by
 simp[Act.put]
 refine mSk ?_
 first
  |(intro (nq:aI _);obtain⟨w6,bq⟩:=nq)
  |(rintro w6 ⟨⟨_,bq⟩,rfl⟩)
 have BX:=B2.t bq
 try dsimp only
 go_wp2;go_ret;exact⟨_,rfl,B1.o.trans (BX.o.mono B1.o.size)⟩):G:=s
def aaV(f:dv)(A:aB)(n c:Nat)(w:EE)(h:cC w w.heap.size f)(z:cU w w.heap.size IU A n c):GK prog 293 #[f.v,Pl A n c] w (PB w):=by
 have⟨K,j,B1,C⟩:=box1 w f.row 102;have⟨R,RL⟩:=K' (h.Z B1.o B1.o.size) (z.Z B1.o B1.o.size);have Q:=z.bd;go_enter func293,ntmps293;go_wp2;rw[<-j];clear j;go_loopg[5,6](n+1)(λgg E _ wr=>∃(i:Nat),n-i<gg/\i<=n/\E=ae aj (i:Int)/\ak (az K wr))
 .exact⟨0,aq,aq,rfl,cJ⟩
 obtain⟨i,L,hi,rfl,q⟩:=hrel;by_cases u:i<n;rotate_left
 .have G:=cI i n
  go_wp2;go_ret;exact⟨_,rfl,B1.o.trans (q.o.mono B1.o.size)⟩
 have G:=aU i n;obtain⟨Z,g,m,o,x,y,l,p,rfl,W,M,N,P,X,V,e6⟩:=yu (RL.o.Z q.o q.o.size) u;have⟨d,cg⟩:=eX (wr.alloc (RM #[ae aj g,PF m,PF o,ae aj x,ae aj y,ae aj l,ae aj p] 337));have s:az wr d:=jT;have e:ak (Bx d wr.heap.size #[ae aj g,PF m,PF o,ae aj x,ae aj y,ae aj l,ae aj p]):=⟨lY⟩;have B2:=q.t s;have J:=sH (R.o.Z B2.o B2.o.size);have⟨c0,F,v,D,c4,c5⟩:=(C.o.ar B2.o C.o.lt).f6;have⟨L0,L1,U,L3,Y,L5,P0,T⟩:=lc8 c0 F v D c4 c5 (show d.cell? ⟨wr.heap.size,0,OJ⟩=OH (ae aj g)from e.o.cell 0) (show d.cell? ⟨wr.heap.size,1,OJ⟩=OH (PF m)from e.o.cell 1);have⟨P2,P3,O,P5,S⟩:=lc5 (show d.cell? ⟨wr.heap.size,2,OJ⟩=OH (PF o)from e.o.cell 2) (show d.cell? ⟨wr.heap.size,3,OJ⟩=OH (ae aj x)from e.o.cell 3) (show d.cell? ⟨wr.heap.size,4,OJ⟩=OH (ae aj y)from e.o.cell 4) (show d.cell? ⟨wr.heap.size,5,OJ⟩=OH (ae aj l)from e.o.cell 5) (show d.cell? ⟨wr.heap.size,6,OJ⟩=OH (ae aj p)from e.o.cell 6);go_wp2_with fail;rw[<-cg];clear cg;rcases i with _|k
 case' succ=>
  obtain⟨I,y0,_,_,_,_,_,_,r,H,_⟩:=yu (RL.o.Z B2.o B2.o.size) (show k<n by omega);injection r with r
  subst r;have wk:IntKind.i64.wrap ((k:Int)+1-1)=(k:Int):=zo;have k0:=gT k;have k1:=aU k n;have G0:=au H
 all_goals
  refine aE cuT aF aF ?_;refine mSk ?_;refine lsA SB (λnq=> ?_) (λB a=> ?_)
  .go_simp
   exact bP (kK f g nq.1 (J.o.Z nq.2 nq.2.size))
  obtain⟨b,rfl⟩:=a;cases b
  .exact qf
  simp[Act.put];refine mSk ?_;refine lsA SB (λnq=> ?_) (λB a=> ?_)
  .go_simp
   exact bP (pQ x y m nq.1)
  obtain⟨b,rfl⟩:=a;cases b
  .exact qf
  simp[Act.put];refine mSk ?_;refine lsA SB (λnq=> ?_) (λB a=> ?_)
  .go_simp
   exact bP (pQ l p o nq.1)
  obtain⟨b,rfl⟩:=a;cases b
  .exact qf
  simp[Act.put];refine mSk ?_
  first
   |(intro (nq:aI _);obtain⟨w6,bq⟩:=nq)
   |(rintro w6 ⟨⟨_,bq⟩,rfl⟩)
  have BX:=B2.t bq
  try dsimp only
  go_wp2_with fail
  all_goals first
   |(go_roundg(n-0)<;>first|omega|exact⟨0+1,aq,aq,aV,BX⟩)
   |(go_roundg(n-(k+1))<;>first|omega|exact⟨k+1+1,aq,aq,aV,BX⟩)
   |(go_ret;exact⟨_,rfl,B1.o.trans (BX.o.mono B1.o.size)⟩)
def mkT(d:Option Tmp):Option (EN->Prop):=if d=OH 39 then OH SB else if d=OH 44 then OH SB else if d=OH 50 then OH SB else if d=OH 87 then OH SB else if d=OH 94 then OH SB else if d=OH 155 then OH SB else OJ
def kq(s:G:=by
 simp[Act.put]
 refine ak.o ?_
 repeat first
  |(refine bG aD aD aD ?_;intro K9 bQ;go_big_quiet_op;refine bQ _ ?_)
  |(refine a7 aD ?_;simp[Act.put])
 refine⟨?_⟩
 first
  |(intro (nq:aI _);obtain⟨w6,bq⟩:=nq)
  |(rintro w6 ⟨⟨_,bq⟩,rfl⟩)
 have BX:ak (az W1 w6):=⟨B2.o.trans (bq.mono B2.o.size)⟩
 try dsimp only
 clear bq L0 L1 L2 L3 L4 L5;go_wp2;go_ret;exact⟨_,rfl,B1.o.trans (BX.o.mono B1.o.size)⟩):G:=s
def ae9(s:G:=by
 simp[Act.put]
 refine ak.o ?_
 repeat first
  |(refine bG aD aD aD ?_;intro K9 bQ;go_big_quiet_op;refine bQ _ ?_)
  |(refine a7 aD ?_;simp[Act.put])
 refine⟨?_⟩
 first
  |(intro (nq:aI _);obtain⟨w6,bq⟩:=nq)
  |(rintro w6 ⟨⟨_,bq⟩,rfl⟩)
 have BX:ak (az W2 w6):=⟨bq⟩
 try dsimp only
 clear bq L0 L1 L2 L3 L4 L5;go_step;go_step;go_meet;exact⟨⟨_,rfl⟩,BX⟩):G:=s
def W9(f:dv)(k:Lk)(s:Sb)(w:EE)(h:cC w w.heap.size f)(M:nH w w.heap.size s):GK prog 294 #[f.v,k.v,s.v] w (PB w):=by
 have⟨W1,o⟩:∃W1,W1=((w.alloc (RM f.row 102)).alloc (RM k.row 175)).alloc (RM s.row 184):=⟨_,rfl⟩;obtain⟨b1,x1,x2,x3,iW⟩:=qq o;have B1:ak _:=⟨b1⟩;have Z:ak _:=⟨x1⟩;have X2:ak _:=⟨x2⟩;have V:ak _:=⟨x3⟩;clear x1 x2 x3;have R:ak (cC W1 W1.heap.size f):=⟨h.Z B1.o B1.o.size⟩;have X:ak (nH W1 W1.heap.size s):=⟨M.Z B1.o B1.o.size⟩;have hmn:=M.rM.bd;have hhn:=M.rH.bd;have⟨_,_,_,_,_,_,_,_,_,_,g,l⟩:=V.o.nv;clear h M b1;by_cases q1:s.mn<=4096;rotate_left
 .have U:(4096:Int)<(s.mn:Int):=by omega
  go_enter func294,ntmps294;go_wp2_with fail;rw[<-o];clear o;go_wp2;go_ret;exact⟨_,rfl,B1.o⟩
 by_cases q2:s.hn<=4096;rotate_left
 .have U:¬(4096:Int)<(s.mn:Int):=by omega
  have q2':(4096:Int)<(s.hn:Int):=aq;go_enter func294,ntmps294;go_wp2_with fail;rw[<-o];clear o;go_wp2;go_ret;exact⟨_,rfl,B1.o⟩
 have U:¬(4096:Int)<(s.mn:Int):=aq;have q2':¬(4096:Int)<(s.hn:Int):=aq;go_enter func294,ntmps294;go_upto_region 3 with fail;rw[<-o];clear o;go_wp2;go_loopg[7,8](s.mn+1)(λgg v7 _ wr=>∃(i:Nat),s.mn-i<gg/\i<=s.mn/\v7=ae aj (i:Int)/\ak (az W1 wr))
 .exact⟨0,aq,aq,rfl,cJ⟩
 obtain⟨i,hg,hi,rfl,n⟩:=hrel;clear g l;have⟨_,_,_,_,_,_,_,_,_,_,g,l⟩:=(V.o.ar n.o V.o.lt).nv;by_cases aG:i<s.mn;rotate_left
 .have i4:¬(i:Int)<(s.mn:Int):=by omega
  go_wp2;clear g l;have⟨wo,G⟩:∃wo:EE,wo=wr:=⟨_,rfl⟩;rw[<-G]at n;rw[<-G];clear G;go_loopg[9,10,11,12,13](s.hn+1)(λgg I _ _ _ _ wr=>∃(i:Nat),s.hn-i<gg/\i<=s.hn/\I=ae aj (i:Int)/\ak (az W1 wr))
  .exact⟨0,aq,aq,rfl,n⟩
  clear n;obtain⟨m,dV,hm,rfl,n⟩:=hrel;have⟨_,_,_,_,_,_,_,_,_,_,g,l⟩:=(V.o.ar n.o V.o.lt).nv;clear g;by_cases hlm:m<s.hn;rotate_left
  .have i5:¬(m:Int)<(s.hn:Int):=by omega
   go_wp2;go_ret;exact⟨_,rfl,B1.o.trans (n.o.mono B1.o.size)⟩
  have i5:(m:Int)<(s.hn:Int):=aq;obtain⟨ad,x,eH,hx,A,e1⟩:=Su (X.o.Z n.o n.o.size).rH hlm;rw[eH]at l;have SH:ak _:=⟨eH⟩;clear eH;have⟨W2,cg⟩:∃W2,W2=wr.alloc (RM #[ae aj x.gl,Pl x.S x.sn x.sc] 343):=⟨_,rfl⟩;have e:az wr W2:=jT;have u:ak (Bx W2 wr.heap.size #[ae aj x.gl,Pl x.S x.sn x.sc]):=⟨lY⟩;have B2:ak (az W1 W2):=⟨n.o.trans (e.mono n.o.size)⟩;have RX:ak _:=⟨hx.rS.Z e e.size⟩;have AB:=hx.rS.bd;have RR:ak _:=⟨R.o.Z B2.o B2.o.size⟩;have r:=av l e;have⟨T,_⟩:=(X2.o.ar B2.o X2.o.lt).k4;go_upto_region 14 with fail;rw[<-cg];clear e cg hx A e1 l;go_upto_if 83 with fail;go_cut[11](λv wx=>(∃z:Int,v=ae aj z)/\W2=wx)
  ·
   go_wp2_with fail
   all_goals
    go_meet;exact⟨⟨_,rfl⟩,rfl⟩
  obtain⟨⟨z,rfl⟩,rfl⟩:=hcut;go_upto_region 16 with fail;go_cut[112](λv wx=>(∃b:Bool,v=PF b)/\ak (az W2 wx))
  ·
   have⟨c0,S,p,N,c4,c5⟩:=(Z.o.ar B2.o Z.o.lt).f6;have L0:=au c0;have L1:=au S;have L2:=au p;have L3:=au N;have L4:=au c4;have L5:=au c5
   have P0:=au (show W2.cell? ⟨wr.heap.size,0,OJ⟩=OH (ae aj x.gl)from u.o.cell 0);have P1:=au (show W2.cell? ⟨wr.heap.size,1,OJ⟩=OH (Pl x.S x.sn x.sc)from u.o.cell 1);have DA:=au r;clear c0 S p N c4 c5 r T;rcases m with _|j
   case' succ=>
    obtain⟨ew,y,B,_,C,_⟩:=Su (X.o.Z B2.o B2.o.size).rH (show j<s.hn by omega);rw[SH.o]at B;injection B with B
    subst B;have wk:IntKind.i64.wrap ((j:Int)+1-1)=(j:Int):=zo;have k0:=gT j;have k1:(j:Int)<(s.hn:Int):=aq;have G0:=au C;clear C
   all_goals
    refine aE mkT aF aF ?_;refine ak.o ?_
    repeat first
     |(refine bG aD aD aD ?_;intro K9 bQ;go_big_quiet_op;refine bQ _ ?_)
     |(refine a7 aD ?_;simp[Act.put])
    refine⟨?_⟩;refine cK SB aD aD (λO c=> ?_) (λI d=> ?_)
    .obtain⟨nq,rfl⟩:=c
     go_simp;exact bP (kK f x.gl nq.1 (RR.o.Z nq.2 nq.2.size))
    obtain⟨b,rfl⟩:=d;cases b
    .exact ae9
    simp[Act.put];refine ak.o ?_
    repeat first
     |(refine bG aD aD aD ?_;intro K9 bQ;go_big_quiet_op;refine bQ _ ?_)
     |(refine a7 aD ?_;simp[Act.put])
    refine⟨?_⟩;refine cK SB aD aD (λO c=> ?_) (λI d=> ?_)
    .obtain⟨nq,rfl⟩:=c
     go_simp;exact bP ((dm _ _ _ nq.1).mono λ_ _ h=>h.pb)
    obtain⟨b,rfl⟩:=d;cases b
    .exact ae9
    simp[Act.put];refine ak.o ?_
    repeat first
     |(refine bG aD aD aD ?_;intro K9 bQ;go_big_quiet_op;refine bQ _ ?_)
     |(refine a7 aD ?_;simp[Act.put])
    refine⟨?_⟩
    first
     |(intro (nq:aI _);obtain⟨w6,bq⟩:=nq)
     |(rintro w6 ⟨⟨_,bq⟩,rfl⟩)
    have BX:ak (az W2 w6):=⟨bq⟩
    try dsimp only
    clear bq L0 L1 L2 L3 L4 L5;go_step;go_step;go_meet;exact⟨⟨_,rfl⟩,BX⟩
  obtain⟨⟨b,rfl⟩,L⟩:=hcut;have⟨wa,E⟩:∃wa:EE,wa=wc:=⟨_,rfl⟩;rw[<-E]at L;rw[<-E];clear E;have BA:ak (az W1 wa):=⟨B2.o.trans (L.o.mono B2.o.size)⟩;have ZA:ak _:=⟨u.o.ar L.o u.o.lt⟩;have RA:ak _:=⟨RX.o.Z L.o L.o.size⟩;have hza:=ZA.o.lt;clear r T L RX RR;cases b;rotate_left
  .go_wp2
   go_ret;exact⟨_,rfl,B1.o.trans (BA.o.mono B1.o.size)⟩
  go_wp2;go_loopg[12,13](x.sn+1)(λgg mz _ F=>∃(a:Nat),x.sn-a<gg/\a<=x.sn/\mz=ae aj (a:Int)/\ak (az wa F))
  .exact⟨0,aq,aq,rfl,cJ⟩
  obtain⟨a,tC,ha,rfl,D⟩:=hrel;have⟨P,J⟩:∃P:EE,P=wr:=⟨_,rfl⟩;rw[<-J]at D;rw[<-J];clear J;have Y:ak (az W1 P):=⟨BA.o.trans (D.o.mono BA.o.size)⟩;have H:=(ZA.o.ar D.o ZA.o.lt).cell 1;simp at H;by_cases hla:a<x.sn;rotate_left
  .have i6:¬(a:Int)<(x.sn:Int):=by omega
   go_wp2;go_roundg(s.hn-m)
   case measure=>omega
   case rel=>exact⟨m+1,aq,aq,aV,Y⟩
  have i6:(a:Int)<(x.sn:Int):=aq;obtain⟨yd,A2,t,k2,eS,h2,A⟩:=fR (RA.o.Z D.o D.o.size) hla;rw[eS]at H;by_cases h16:t<=16;rotate_left
  .have Q:=aU 16 t
   go_wp2;go_ret;exact⟨_,rfl,B1.o.trans (Y.o.mono B1.o.size)⟩
  have Q:=cI 16 t;have S1:ak _:=⟨H⟩;have E0:ak _:=⟨A⟩;have R2:ak _:=⟨h2⟩;clear h2 eS;go_wp2;clear H A;go_loopg[13](t+1)(λgg kE F=>∃(b:Nat),t-b<gg/\b<=t/\kE=ae aj (b:Int)/\ak (az P F))
  .exact⟨0,aq,aq,rfl,cJ⟩
  obtain⟨b,hg4,hb,rfl,K⟩:=hrel;have H:=av S1.o K.o;have A:=av E0.o K.o;by_cases hlb:b<t;rotate_left
  .have i7:=cI b t
   go_wp2;go_roundg(x.sn-a)
   case measure=>omega
   case rel=>exact⟨a+1,aq,aq,aV,⟨D.o.trans (K.o.mono D.o.size)⟩⟩
  have i7:=aU b t;obtain⟨adB,M,z1,z2,eB,C,g1,g2⟩:=Hn (R2.o.Z K.o K.o.size) hlb;subst eB;have L0:=au H;have L1:=au A;have L2:=au C;have L3:=au g1;have L4:=au g2
  go_wp2;clear H A C g1 g2;refine aE mkT aF aF ?_;refine ak.o ?_
  repeat first
   |(refine bG aD aD aD ?_;intro K9 bQ;go_big_quiet_op;refine bQ _ ?_)
   |(refine a7 aD ?_;simp[Act.put])
  refine⟨?_⟩;refine cK SB aD aD (λO c=> ?_) (λI d=> ?_)
  .obtain⟨nq,rfl⟩:=c
   go_simp;exact bP (pQ z1 z2 M nq.1)
  obtain⟨q,rfl⟩:=d;simp[Act.put];refine ak.o ?_
  repeat first
   |(refine bG aD aD aD ?_;intro K9 bQ;go_big_quiet_op;refine bQ _ ?_)
   |(refine a7 aD ?_;simp[Act.put])
  refine⟨?_⟩
  first
   |(intro (nq:aI _);obtain⟨w6,bq⟩:=nq)
   |(rintro w6 ⟨⟨_,bq⟩,rfl⟩)
  have BX:ak (az P w6):=⟨K.o.trans (bq.mono K.o.size)⟩
  try dsimp only
  clear bq L0 L1 L2 L3 L4;cases q
  .go_wp2
   go_ret;exact⟨_,rfl,B1.o.trans ((Y.o.trans (BX.o.mono Y.o.size)).mono B1.o.size)⟩
  .go_wp2
   go_roundg(t-b)
   case measure=>omega
   case rel=>exact⟨b+1,aq,aq,aV,BX⟩
 have i4:(i:Int)<(s.mn:Int):=aq;obtain⟨ad,y0,W,y2,y3,eM,A,e1,e2,e3⟩:=zd (X.o.Z n.o n.o.size).rM aG;rw[eM]at g;have SM:ak _:=⟨eM⟩;clear eM;have⟨W2,cg⟩:∃W2,W2=wr.alloc (RM #[ae aj y0,ae aj W,ae aj y2,ae aj y3] 340):=⟨_,rfl⟩;have e:az wr W2:=jT;have u:ak (Bx W2 wr.heap.size #[ae aj y0,ae aj W,ae aj y2,ae aj y3]):=⟨lY⟩;have B2:ak (az W1 W2):=⟨n.o.trans (e.mono n.o.size)⟩;have RR:ak _:=⟨R.o.Z B2.o B2.o.size⟩;have⟨c0,S,p,N,c4,c5⟩:=(Z.o.ar B2.o Z.o.lt).f6;have L0:=au c0;have L1:=au S;have L2:=au p;have L3:=au N;have L4:=au c4;have L5:=au c5
 have P0:=au (show W2.cell? ⟨wr.heap.size,0,OJ⟩=OH (ae aj y0)from u.o.cell 0);have P1:=au (show W2.cell? ⟨wr.heap.size,1,OJ⟩=OH (ae aj W)from u.o.cell 1);have P2:=au (show W2.cell? ⟨wr.heap.size,2,OJ⟩=OH (ae aj y2)from u.o.cell 2);have P3:=au (show W2.cell? ⟨wr.heap.size,3,OJ⟩=OH (ae aj y3)from u.o.cell 3);have DA:=au (av g e);clear l;go_wp2_with fail;rw[<-cg];clear e cg A e1 e2 e3 c0 S p N c4 c5 g;rcases i with _|j
 case' succ=>
  obtain⟨ew,z0,_,_,_,B,C,_⟩:=zd (X.o.Z B2.o B2.o.size).rM (show j<s.mn by omega);rw[SM.o]at B;injection B with B
  subst B;have wk:IntKind.i64.wrap ((j:Int)+1-1)=(j:Int):=zo;have k0:=gT j;have k1:(j:Int)<(s.mn:Int):=aq;have G0:=au C;clear C
 all_goals
  refine aE mkT aF aF ?_;refine ak.o ?_
  repeat first
   |(refine bG aD aD aD ?_;intro K9 bQ;go_big_quiet_op;refine bQ _ ?_)
   |(refine a7 aD ?_;simp[Act.put])
  refine⟨?_⟩;refine cK SB aD aD (λO c=> ?_) (λI d=> ?_)
  .obtain⟨nq,rfl⟩:=c
   go_simp;exact bP (kK f y0 nq.1 (RR.o.Z nq.2 nq.2.size))
  obtain⟨b,rfl⟩:=d;cases b
  .exact kq
  simp[Act.put];refine ak.o ?_
  repeat first
   |(refine bG aD aD aD ?_;intro K9 bQ;go_big_quiet_op;refine bQ _ ?_)
   |(refine a7 aD ?_;simp[Act.put])
  refine⟨?_⟩;refine cK SB aD aD (λO c=> ?_) (λI d=> ?_)
  .obtain⟨nq,rfl⟩:=c
   go_simp;exact bP ((dm W 0 15 nq.1).mono λ_ _ h=>h.pb)
  obtain⟨b,rfl⟩:=d;cases b
  .exact kq
  simp[Act.put];refine ak.o ?_
  repeat first
   |(refine bG aD aD aD ?_;intro K9 bQ;go_big_quiet_op;refine bQ _ ?_)
   |(refine a7 aD ?_;simp[Act.put])
  refine⟨?_⟩;refine cK SB aD aD (λO c=> ?_) (λI d=> ?_)
  .obtain⟨nq,rfl⟩:=c
   go_simp;exact bP (pQ y2 y3 OX nq.1)
  obtain⟨b,rfl⟩:=d;cases b
  .exact kq
  simp[Act.put];refine ak.o ?_
  repeat first
   |(refine bG aD aD aD ?_;intro K9 bQ;go_big_quiet_op;refine bQ _ ?_)
   |(refine a7 aD ?_;simp[Act.put])
  refine⟨?_⟩
  first
   |(intro (nq:aI _);obtain⟨w6,bq⟩:=nq)
   |(rintro w6 ⟨⟨_,bq⟩,rfl⟩)
  have BX:ak (az W1 w6):=⟨B2.o.trans (bq.mono B2.o.size)⟩
  try dsimp only
  clear bq L0 L1 L2 L3 L4 L5;clear P0 P1 P2 P3 DA;go_wp2_with fail
  all_goals first
   |(go_roundg(s.mn-0)<;>first|omega|exact⟨0+1,aq,aq,aV,BX⟩)
   |(go_roundg(s.mn-(j+1))<;>first|omega|exact⟨j+1+1,aq,aq,aV,BX⟩)
   |(go_ret;exact⟨_,rfl,B1.o.trans (BX.o.mono B1.o.size)⟩)
def rR:Prop:=∀(k:Int) (s:Sb) (w:EE),nH w w.heap.size s->GK prog 286 #[ae aj k,s.v] w (PB w)
def PSu(w:EE)(kind:Int)(s:Sb)(e:IS)(a:EE):Prop:=∃z:Bool,e=RE (PF z)/\(z=OX->Mx kind->s.tn=s.cn/\Ef w w.heap.size kind s.T s.tn)/\az w a
def Fg{d:Nat}{lo hi:Int}(h:∀i,i<d->ToL w T lo hi i)(l:hi<=16)(m:kind=2∨1<=lo):Ef w w.heap.size kind T d:=λi b=>by
 obtain⟨a,A,n,c,f,g,e,k,j⟩:=h i b;exact⟨a,A,n,c,f,g,e,aq,aq⟩
def ToL.back{f:EE}{j t:Nat}{lo hi:Int}(e:cU w w.heap.size (.arr eD) T j t)(q:az w f)(b:i<j)(h:ToL f T lo hi i):ToL w T lo hi i:=by
 obtain⟨a,A,n,c,g,_,r,o,l⟩:=h;obtain⟨s,k,u,p,f1,_,f3⟩:=fR e b;obtain⟨m,d,g2,_⟩:=e.2.2.2 aq;rw[f1]at g d;obtain rfl:=Option.some.inj g;obtain rfl:=Option.some.inj d;have:=av f3 q;rw[r]at this;injection this with this
 injection this with h1 h2 h3
 subst h2;exact⟨s,k,n,p,f1,g2,f3,o,l⟩
def adb(hB:rR)(f:dv)(k:Lk)(s:Sb)(w:EE)(h:cC w w.heap.size f)(Q:nH w w.heap.size s):GK prog 250 #[f.v,k.v,s.v] w (PSu w k.kind s):=by
 have⟨W1,M⟩:=eX (((w.alloc (RM f.row 102)).alloc (RM k.row 175)).alloc (RM s.row 184));obtain⟨b1,x1,x2,x3,iW⟩:=qq M;have⟨O,S,Z,P⟩:=MQ b1 x1 x2 x3;clear x1 x2 x3;have⟨HB,R,RS,T⟩:=MQ hB (h.Z O.o O.o.size) (Q.Z O.o O.o.size) Q;have hvn:=Q.rV.bd;have TZ:=Q.rC.bd;have⟨e0,_⟩:=Z.o.k4;have⟨g0,g1,g2,g3,g4,g5,g6,g7,g8,g9,U,X⟩:=P.o.nv;clear h Q b1 hB;have Y:k.kind=1∨k.kind=2∨k.kind=3∨k.kind=4∨k.kind=12∨k.kind=5∨k.kind=6∨k.kind=7∨k.kind=8∨((k.kind==1)=OZ/\(k.kind==2)=OZ/\(k.kind==3)=OZ/\(k.kind==4)=OZ/\(k.kind==12)=OZ/\(k.kind==5)=OZ/\(k.kind==6)=OZ/\(k.kind==7)=OZ/\(k.kind==8)=OZ):=br;obtain⟨kk,V,st,KS,N,L⟩:=k;dsimp only at*;rcases Y with rfl|rfl|rfl|rfl|rfl|rfl|rfl|rfl|rfl|⟨n1,n2,n3,n4,n5,n6,n7,n8,n9⟩
 all_goals
  go_enter func250,ntmps250;go_wp2_with fail;rw[<-M];clear M;go_wp2_with fail;refine(HB.o _ s W1 RS.o).mono ?_;rintro e D ⟨z,rfl,F⟩;have B2:=sH F;have q:=O.t F;have⟨B,A⟩:=K' (R.o.Z F F.size) (RS.o.Z F F.size);have⟨c0,p,b,o,c4,c5⟩:=(S.o.ar F S.o.lt).f6;have⟨k0,H,G,E⟩:=(Z.o.ar F Z.o.lt).k4;have⟨n,r,v,j,y,l,u,m,x,t,d,c⟩:=(P.o.ar F P.o.lt).nv;clear F e0 g0 g1 g2 g3 g4 g5 g6 g7 g8 g9 U X;cases z
  .go_wp2
   go_ret;exact⟨_,rfl,uZ,q.o⟩
  go_wp2_with fail
 .refine(t9o f s 1 1 D B.o A.o).mono ?_
  rintro e C ⟨z,rfl,J,a⟩;have g:=q.t a;have K:=sH J;clear J a c0 p b o c4 c5 k0 H G E n r v j y l u m x t d c;go_wp2;go_ret;exact⟨_,rfl,λh _=>⟨(K.o h).1,Fg (λi hi=>((K.o h).2 i hi).back T.o.rT q.o hi) aq (.inr aq)⟩,g.o⟩
 .refine(t9o f s 0 16 D B.o A.o).mono ?_
  rintro e C ⟨z,rfl,J,a⟩;have g:=q.t a;have K:=sH J;clear J a c0 p b o c4 c5 k0 H G E n r v j y l u m x t d c;go_wp2;go_ret;exact⟨_,rfl,λh _=>⟨(K.o h).1,Fg (λi hi=>((K.o h).2 i hi).back T.o.rT q.o hi) aq (.inl rfl)⟩,g.o⟩
 .refine(abe f s D B.o A.o).mono ?_
  rintro e C ⟨z,rfl,a⟩;have g:=q.t a;clear a c0 p b o c4 c5 k0 H G E n r v j y l u m x t d c;go_wp2;go_ret;exact⟨_,rfl,uZ,g.o⟩
 .refine(Aq f ⟨4,V,st,KS,N,L⟩ s D B.o A.o).mono ?_
  rintro e C ⟨z,rfl,a⟩;have g:=q.t a;clear a c0 p b o c4 c5 k0 H G E n r v j y l u m x t d c;go_wp2;go_ret;exact⟨_,rfl,uZ,g.o⟩
 .refine(Aq f ⟨12,V,st,KS,N,L⟩ s D B.o A.o).mono ?_
  rintro e C ⟨z,rfl,a⟩;have g:=q.t a;clear a c0 p b o c4 c5 k0 H G E n r v j y l u m x t d c;go_wp2;go_ret;exact⟨_,rfl,uZ,g.o⟩
 .refine(t9o f s 1 1 D B.o A.o).mono ?_
  rintro e C ⟨z,rfl,J,a⟩;have K:=sH J;have g:=q.t a;have⟨R3,S3⟩:=K' (B.o.Z a a.size) (A.o.Z a a.size);have c0:=av c0 a;have p:=av p a;have b:=av b a;have o:=av o a;have c4:=av c4 a;have c5:=av c5 a
  have j:=av j a;have l:=av l a;have k0:=av k0 a;have n:=av n a;have r:=av r a;have m:=av m a
  clear J a H G E v y u x t d c;cases z
  .go_wp2
   go_ret;exact⟨_,rfl,uZ,g.o⟩
  have HK:=sH (K.o rfl);clear K;go_wp2_with fail;refine(mR f s.B s.bn s.bc 0 C R3.o S3.o.rB).mono ?_;rintro e w4 ⟨z,rfl,a⟩;have B4:=g.t a;have⟨R4,S4⟩:=K' (R3.o.Z a a.size) (S3.o.Z a a.size);have c0:=av c0 a;have p:=av p a;have b:=av b a;have o:=av o a;have c4:=av c4 a;have c5:=av c5 a
  have j:=av j a;have l:=av l a
  clear a;cases z
  .go_wp2
   go_ret;exact⟨_,rfl,uZ,B4.o⟩
  go_wp2_with fail;refine(mR f s.A s.an s.ac 0 w4 R4.o S4.o.rA).mono ?_;rintro e w5 ⟨z,rfl,a⟩;have B5:=B4.t a;clear a c0 p b o c4 c5 k0 n r j l m;go_wp2;go_ret;exact⟨_,rfl,λ_ _=>⟨HK.o.1,Fg (λi hi=>(HK.o.2 i hi).back T.o.rT q.o hi) aq (.inr aq)⟩,B5.o⟩
 .clear k0 H G E c0 p b o c4 c5 n m
  go_loopg[7](s.vn+1)(λgg v7 wr=>∃(i:Nat),s.vn-i<gg/\i<=s.vn/\v7=ae aj (i:Int)/\ak (az D wr))
  .exact⟨0,aq,aq,rfl,cJ⟩
  obtain⟨i,hg,hi,rfl,I⟩:=hrel;have BG:=q.t I.o;have BV:=B2.t I.o;clear r v j y l u x t d c;have⟨n,r,v,j,y,l,u,m,x,t,d,c⟩:=(P.o.ar BV.o P.o.lt).nv;by_cases W:i<s.vn;rotate_left
  .have i4:¬(i:Int)<(s.vn:Int):=by omega
   have⟨c0,p,b,o,c4,c5⟩:=(S.o.ar BV.o S.o.lt).f6;go_wp2_with fail;refine(pG f s.C s.cn s.cc wr (B.o.Z I.o I.o.size) (A.o.Z I.o I.o.size).rC).mono ?_;rintro e C ⟨z,rfl,a⟩;have g:=BG.t a;have n:=av n a;have m:=av m a
   clear a c0 p b o c4 c5 r v j y l u x t d c;cases z
   .go_wp2
    go_ret;exact⟨_,rfl,uZ,g.o⟩
   .go_wp2
    go_ret;exact⟨_,rfl,uZ,g.o⟩
  have i4:(i:Int)<(s.vn:Int):=aq;obtain⟨ad,y0,y1,y2,eV,q0,q1,q2⟩:=NR (A.o.Z I.o I.o.size).rV W;rw[eV]at m;clear eV n r v j y l u x t d c;go_wp2_with fail;refine(yZ y0 y1 y2 wr).mono ?_;rintro e C ⟨z,rfl,a⟩;have g:=I.t a;clear a q0 q1 q2 m;cases z
  .go_wp2
   go_ret;exact⟨_,rfl,uZ,q.o.trans (g.o.mono q.o.size)⟩
  go_wp2;go_roundg(s.vn-i)
  .exact⟨i+1,aq,aq,aV,g⟩
  omega
 .refine(V' f s.P s.pn s.pc D B.o A.o.rP).mono ?_
  rintro e C ⟨z,rfl,a⟩;have g:=q.t a;clear a c0 p b o c4 c5 k0 H G E n r v j y l u m x t d c;go_wp2;go_ret;exact⟨_,rfl,uZ,g.o⟩
 .refine(aaV f s.U s.un s.uc D B.o A.o.rU).mono ?_
  rintro e C ⟨z,rfl,a⟩;have g:=q.t a;clear a c0 p b o c4 c5 k0 H G E n r v j y l u m x t d c;go_wp2;go_ret;exact⟨_,rfl,uZ,g.o⟩
 .have hk:¬Mx kk:=by unfold Mx;simp at n1 n2 n6;omega
  refine(W9 f ⟨kk,V,st,KS,N,L⟩ s D B.o A.o).mono ?_;rintro e C ⟨z,rfl,a⟩;have g:=q.t a;clear a c0 p b o c4 c5 k0 H G E n r v j y l u m x t d c;go_wp2;go_ret;exact⟨_,rfl,λ_ h=>absurd h hk,g.o⟩
def Ef.back{g:EE}{k:Nat}{d t:Nat}(f:cU w w.heap.size (.arr eD) T d t)(q:az w g)(h:Ef g k kind T d):Ef w w.heap.size kind T d:=λi b=>by
 obtain⟨a,A,n,c,j,_,r,o⟩:=h i b;obtain⟨s,l,u,p,f1,_,f3⟩:=fR f b;obtain⟨m,e,g2,_⟩:=f.2.2.2 aq;rw[f1]at j e;obtain rfl:=Option.some.inj j;obtain rfl:=Option.some.inj e;have:=av f3 q;rw[r]at this;injection this with this
 injection this with h1 h2 h3
 subst h2;exact⟨s,l,n,p,f1,g2,f3,o⟩
def SSu(w:EE)(kind:Int)(s:Sb)(v:EN):Prop:=∃z:Bool,v=PF z/\(z=OX->Mx kind->s.tn=s.cn/\Ef w w.heap.size kind s.T s.tn)
def Kf{w0:EE}{n:aI w0}{f:FuncId}{args:Array EN}{s:Sb}(c:cU w w.heap.size (.arr eD) s.T s.tn s.tc)(g:az w n.1)(h:GK prog f args n.1 (PSu n.1 kind s)):GK prog f args n.1 λe a=>∃v,e=RE v/\SSu w kind s v/\∃m:aI w0,a=m.1:=
 h.mono λe a ⟨z,i,b,d⟩=>⟨_,i,⟨z,rfl,λe k=>⟨(b e k).1,(b e k).2.back c g⟩⟩,⟨⟨a,n.2.trans (d.mono n.2.size)⟩,rfl⟩⟩
def PLz(w:EE)(f:dv)(e:IS)(a:EE):Prop:=∃z:Bool,e=RE (PF z)/\(z=OX->Mj w w.heap.size f)/\az w a
def ad0(w:EE)(f:dv)(j:Nat):Prop:=∃(a:Addr) (k:Lk),f.L=OH a/\a.block<w.heap.size/\w.cell? (a.add (j*4))=OH (ae aj k.kind)/\w.cell? (bX (a.add (j*4)) 1)=OH (ae aj k.flags)/\w.cell? (bX (a.add (j*4)) 2)=OH (ae aj k.set)/\w.cell? (bX (a.add (j*4)) 3)=OH (Pl k.S k.sn k.sc)/\FK w w.heap.size k
def adE(w:EE)(k:Lk)(j:Nat):Prop:=Mx k.kind->∃(a:Addr) (C:aB) (b d:Nat) (T:aB) (c:Nat),k.S=OH a/\a.block<w.heap.size/\w.cell? (a.add (j*12))=OH (Pl C b d)/\w.cell? (bX (a.add (j*12)) 1)=OH (Pl T b c)/\Ef w w.heap.size k.kind T b
def Kt(hB:rR)(f:dv)(w:EE)(h:cC w w.heap.size f):GK prog 176 #[f.v] w (PLz w f):=by
 have⟨p,aP⟩:∃p,p=w.alloc (RM f.row 102):=⟨_,rfl⟩;have x:ak (az w p):=⟨nR⟩;have B:ak (Bx p w.heap.size f.row):=⟨re⟩;have HB:ak _:=⟨hB⟩;have R0:ak _:=⟨h⟩;have R:ak (cC p p.heap.size f):=⟨h.Z x.o x.o.size⟩;have S:=h.rL.bd;have oE:=h.rS.bd;have⟨c0,A,c,o,c4,c5⟩:=B.o.f6;clear h hB;by_cases q1:f.ln<=64;rotate_left
 .have Jy:(64:Int)<(f.ln:Int):=by omega
  go_enter func176,ntmps176;go_wp2_with fail;rw[<-aP];clear aP;go_wp2;go_ret;exact⟨_,rfl,aT,x.o⟩
 have Jy:¬(64:Int)<(f.ln:Int):=aq;go_enter func176,ntmps176;go_upto_region 3 with fail;rw[<-aP];clear aP;go_wp2;go_loopg[3,4,5](f.ln+1)(λgg v3 _ _ wr=>∃(i:Nat),f.ln-i<gg/\i<=f.ln/\v3=ae aj (i:Int)/\ak (az p wr)/\ak (∀j,j<i->ad0 w f j))
 .exact⟨0,aq,aq,rfl,cJ,⟨λj hj=>by omega⟩⟩
 obtain⟨i,hg,hi,rfl,BE,LA⟩:=hrel;clear c0 A c o c4 c5;have P:ak (az w wr):=⟨x.o.trans (BE.o.mono x.o.size)⟩;have⟨c0,A,c,o,c4,c5⟩:=(B.o.ar BE.o B.o.lt).f6;by_cases aG:i<f.ln;rotate_left
 .have i4:¬(i:Int)<(f.ln:Int):=by omega
  go_wp2;go_ret;exact⟨_,rfl,λ_ j hj=>LA.o j aq,P.o⟩
 have i4:(i:Int)<(f.ln:Int):=aq;obtain⟨ad,k,Z,C,e0,e1,X,e3⟩:=ru R0.o.rL aG;have I:ad.block<w.heap.size:=by
  obtain⟨jo,K,hl,_⟩:=R0.o.rL.2.2.2 aq;rw[Z]at K;obtain rfl:=Option.some.inj K;exact hl
 have LI:ak (FK w w.heap.size k->ad0 w f i):=⟨λh=>⟨ad,k,Z,I,e0,e1,X,e3,h⟩⟩;have e0:=av e0 P.o;have e1:=av e1 P.o;have X:=av X P.o;have e3:=av e3 P.o
 rw[Z]at o;have SK:ak _:=⟨C.rS⟩;have se:=C.rS.bd;clear Z I C;obtain⟨y,H,st,V,a,g⟩:=k;dsimp only at*;have⟨l,cg⟩:∃l,l=wr.alloc (RM (Lk.row ⟨y,H,st,V,a,g⟩) 175):=⟨_,rfl⟩;have G:az wr l:=jT;have Z2:ak (Bx l wr.heap.size (Lk.row ⟨y,H,st,V,a,g⟩)):=⟨lY⟩;have B2:ak (az p l):=⟨BE.o.trans (G.mono BE.o.size)⟩;have r:ak (az w l):=⟨x.o.trans (B2.o.mono x.o.size)⟩;have dZ:=Z2.o.lt;have⟨k0,M,Q,J⟩:=Z2.o.k4;go_upto_region 7 with fail;rw[<-cg];clear G cg e0 e1 X e3 c0 A c o c4 c5;go_cut[50](λv wx=>(∃b:Bool,v=PF b)/\l=wx)
 ·
  go_wp2_with fail;refine(yx _ _).mono ?_;rintro e _ ⟨q,rfl,rfl⟩;by_cases hq:q=0
  .have zu:(q==0)=OX:=by simp[hq]
   clear hq;go_wp2;go_meet;exact⟨⟨_,rfl⟩,rfl⟩
  have zu:(q==0)=OZ:=by simp[hq]
  clear hq;go_wp2_with fail;refine(dm _ _ _ _).mono ?_;rintro e _ ⟨z,rfl,_,rfl⟩;cases z
  .go_wp2
   go_meet;exact⟨⟨_,rfl⟩,rfl⟩
  go_wp2_with fail
  all_goals
   go_meet;exact⟨⟨_,rfl⟩,rfl⟩
 obtain⟨⟨b,rfl⟩,rfl⟩:=hcut;cases b;rotate_left
 .go_wp2
  go_ret;exact⟨_,rfl,aT,r.o⟩
 have⟨c0,A,c,o,c4,c5⟩:=(B.o.ar B2.o B.o.lt).f6;go_upto_region 9 with fail;go_cut[77](λv wx=>(∃b:Bool,v=PF b)/\l=wx)
 ·
  go_wp2_with fail
  all_goals first
   |(refine(dm _ _ _ _).mono ?_;rintro e _ ⟨z,rfl,_,rfl⟩;cases z<;>(go_wp2_with fail;all_goals(go_meet;exact⟨⟨_,rfl⟩,rfl⟩)))
   |(go_meet;exact⟨⟨_,rfl⟩,rfl⟩)
 obtain⟨⟨b,rfl⟩,rfl⟩:=hcut;cases b;rotate_left
 .go_wp2
  go_ret;exact⟨_,rfl,aT,r.o⟩
 go_wp2;clear c0 A c o c4 c5 k0 M Q J;go_loopg[5](a+1)(λgg v5 JV=>∃(n:Nat),a-n<gg/\n<=a/\v5=ae aj (n:Int)/\ak (az l JV)/\ak (∀j,j<n->adE w ⟨y,H,st,V,a,g⟩ j))
 .exact⟨0,aq,aq,rfl,cJ,⟨λj hj=>by omega⟩⟩
 obtain⟨n,dV,hn,rfl,T,LN⟩:=hrel;have⟨wq,E⟩:∃wq:EE,wq=wr:=⟨_,rfl⟩;rw[<-E]at T;rw[<-E];clear E;have BX:ak (az p wq):=⟨B2.o.trans (T.o.mono B2.o.size)⟩;have d:ak (az w wq):=⟨x.o.trans (BX.o.mono x.o.size)⟩;have⟨k0,M,Q,J⟩:=(Z2.o.ar T.o dZ).k4;dsimp only at k0 M Q J;by_cases S:n<a;rotate_left
 .have i5:=cI n a
  have LF:ak _:=⟨LI.o λC j hj=>LN.o j (by have:j<a:=hj;omega) C⟩;go_wp2;go_roundg(f.ln-i)
  case measure=>omega
  case rel=>exact⟨i+1,aq,aq,aV,BX,⟨nh LA.o LF.o⟩⟩
 have i5:=aU n a;obtain⟨u,s,W,hs,U,F,g2,g3,Y,g5,g6,g7,g8,g9,t,m⟩:=ko SK.o S;have L:u.block<w.heap.size:=by
  obtain⟨jo,K,hl,_⟩:=SK.o.2.2.2 aq;rw[W]at K;obtain rfl:=Option.some.inj K;exact hl
 have LB:ak ((Mx y->s.tn=s.cn/\Ef w w.heap.size y s.T s.tn)->adE w ⟨y,H,st,V,a,g⟩ n):=⟨λh C=>by
  obtain⟨h1,h2⟩:=h C;rw[h1]at h2 F;exact⟨u,s.C,s.cn,s.cc,s.T,s.tc,W,L,U,F,h2⟩⟩
 have HT:ak _:=⟨hs.rT⟩;have HS:ak _:=⟨hs⟩;have U:=av U d.o;have F:=av F d.o;have g2:=av g2 d.o;have g3:=av g3 d.o;have Y:=av Y d.o;have g5:=av g5 d.o;have g6:=av g6 d.o;have g7:=av g7 d.o;have g8:=av g8 d.o;have g9:=av g9 d.o;have t:=av t d.o;have m:=av m d.o
 clear hs L;have W:V=OH u:=W;subst W;have⟨c0,A,c,o,c4,c5⟩:=(B.o.ar BX.o B.o.lt).f6;go_wp2;have L0:=au c0;have L1:=au A;have L2:=au c;have L3:=au o;have L4:=au c4;have L5:=au c5
 have K0:=au k0;have K1:=au M;have K2:=au Q;have K3:=au J
 have G0:=au U;have G1:=au F;have G2:=au g2;have G3:=au g3;have G4:=au Y;have G5:=au g5;have G6:=au g6;have G7:=au g7;have G8:=au g8;have G9:=au g9;have G10:=au t;have G11:=au m
 clear c0 A c o c4 c5 k0 M Q J U F g2 g3 Y g5 g6 g7 g8 g9 t m;refine aE (kC 92 (SSu w y s)) aF aF ?_;refine ak.o ?_
 repeat first
  |(refine bG aD aD aD ?_;intro K9 D;go_big_quiet_op;refine D _ ?_)
  |(refine a7 aD ?_;simp[Act.put])
 refine⟨?_⟩;refine cK (SSu w y s) aD aD (λw9 cv=> ?_) (λv9 aX=> ?_)
 .obtain⟨N,rfl⟩:=cv
  go_simp;have O:az w N.1:=d.o.trans (N.2.mono d.o.size);exact Kf HT.o O (adb HB.o f ⟨y,H,st,OH u,a,g⟩ s N.1 (R0.o.Z O O.size) (HS.o.Z O O.size))
 obtain⟨z,rfl,hz⟩:=aX;have HZ:ak _:=⟨hz⟩;clear hz;simp[Act.put];refine ak.o ?_
 repeat first
  |(refine bG aD aD aD ?_;intro K9 D;go_big_quiet_op;refine D _ ?_)
  |(refine a7 aD ?_;simp[Act.put])
 refine⟨?_⟩
 first
  |(intro (N:aI _);obtain⟨w6,bq⟩:=N)
  |(rintro w6 ⟨⟨_,bq⟩,rfl⟩)
 have BY:ak (az l w6):=⟨T.o.trans (bq.mono T.o.size)⟩
 try dsimp only
 clear bq L0 L1 L2 L3 L4 L5 K0 K1 K2 K3 G0 G1 G2 G3 G4 G5 G6 G7 G8 G9 G10 G11;cases z
 .go_wp2
  go_ret;exact⟨_,rfl,aT,r.o.trans (BY.o.mono r.o.size)⟩
 .have LX:ak _:=⟨LB.o (HZ.o rfl)⟩
  go_wp2;go_roundg(a-n)
  case measure=>omega
  case rel=>exact⟨n+1,aq,aq,aV,BY,⟨nh LN.o LX.o⟩⟩
def PFt(w:EE)(f:dv)(e:IS)(a:EE):Prop:=∃z:Bool,e=RE (PF z)/\(z=OX->T8 w w.heap.size f)/\az w a
def aeN(w:EE)(f:dv)(j:Nat):Prop:=∃(a:Addr) (A:aB) (n c:Nat),f.F=OH a/\a.block<w.heap.size/\w.cell? (bX (a.add (j*3)) 2)=OH (Pl A n c)/\n<=64
def WN{b:Nat}{z:ByteArray}{x:Int}{A:aB}(h:Bx w b (pA z x A n c)):w.cell? ⟨b,0,OJ⟩=OH (.string z)/\w.cell? ⟨b,1,OJ⟩=OH (ae aj x)/\w.cell? ⟨b,2,OJ⟩=OH (Pl A n c):=⟨h.cell 0,h.cell 1,h.cell 2⟩
def Yq(f:dv)(w:EE)(h:cC w w.heap.size f):GK prog 177 #[f.v] w (PFt w f):=by
 have⟨W1,t,B1,B⟩:=box1 w f.row 102;have R0:=sH h;have TR:=h.rF.bd;have vC:=h.rL.bd;have⟨c0,v,a,l,c4,c5⟩:=B.o.f6;clear h;by_cases q1:f.fn<=64;rotate_left
 .have Jy:(64:Int)<(f.fn:Int):=by omega
  go_enter func177,ntmps177;go_wp2_with fail;rw[<-t];clear t;go_wp2;go_ret;exact⟨_,rfl,aT,B1.o⟩
 have Jy:¬(64:Int)<(f.fn:Int):=aq;go_enter func177,ntmps177;go_upto_region 3 with fail;rw[<-t];clear t;go_wp2;go_loopg[3,4,5,6,7](f.fn+1)(λgg v3 _ _ _ _ wr=>∃(i:Nat),f.fn-i<gg/\i<=f.fn/\v3=ae aj (i:Int)/\ak (az W1 wr)/\ak (∀j,j<i->aeN w f j))
 .exact⟨0,aq,aq,rfl,cJ,⟨λj hj=>by omega⟩⟩
 obtain⟨i,hg,hi,rfl,BE,LA⟩:=hrel;clear c0 v a l c4 c5;have V:=B1.t BE.o;have⟨c0,v,a,l,c4,c5⟩:=(B.o.ar BE.o B.o.lt).f6;by_cases aG:i<f.fn;rotate_left
 .have i4:¬(i:Int)<(f.fn:Int):=by omega
  go_wp2;go_ret;exact⟨_,rfl,λ_=>⟨q1,λj hj=>LA.o j aq⟩,V.o⟩
 have i4:(i:Int)<(f.fn:Int):=aq;obtain⟨ad,z,x1,r,b,U,R,hL,o,G,S⟩:=sY R0.o.rF aG;have L:ad.block<w.heap.size:=by
  obtain⟨jo,e',hl,_⟩:=R0.o.rF.2.2.2 aq;rw[R]at e';obtain rfl:=Option.some.inj e';exact hl
 have LI:ak (b<=64->aeN w f i):=⟨λh=>⟨ad,r,b,U,R,L,S,h⟩⟩;have EF:=sH R;have o:=av o V.o;have G:=av G V.o;have S:=av S V.o
 rw[R]at c4;have SK:=sH hL;have se:=hL.bd;clear R L hL;have⟨W2,cg⟩:=eX (wr.alloc (RM (pA z x1 r b U) 256));have I:az wr W2:=jT;have Z2:ak (Bx W2 wr.heap.size (pA z x1 r b U)):=⟨lY⟩;have B2:=BE.t I;have c:=B1.t B2.o;have dZ:=Z2.o.lt;obtain⟨k0,p,s⟩:=WN Z2.o;go_upto_region 7 with fail;rw[<-cg];clear I cg o G S c0 v a l c4 c5;by_cases X:z.size=4;rotate_left
 .have Yo:((z.size:Int) !=4)=OX:=by simp;omega
  clear X;go_wp2;go_ret;exact⟨_,rfl,aT,c.o⟩
 have Yo:((z.size:Int) !=4)=OZ:=br;have H4:=sH X;clear X;go_wp2_with fail;refine(dm _ _ _ _).mono ?_;rintro e _ ⟨q,rfl,_,rfl⟩;cases q
 .go_wp2
  go_ret;exact⟨_,rfl,aT,c.o⟩
 by_cases Z:b<=64;rotate_left
 .have O:=aU 64 b
  go_wp2;go_ret;exact⟨_,rfl,aT,c.o⟩
 have O:=cI 64 b;have LX:=sH (LI.o Z);go_wp2_with fail;refine(xR r b U W2 (SK.o.Z c.o c.o.size)).mono ?_;rintro e w3 ⟨q,rfl,W⟩;have BK:=sH W;have H:=c.t W;have P:=sH (Z2.o.ar W dZ);clear W k0 p s;cases q
 .go_wp2
  go_ret;exact⟨_,rfl,aT,H.o⟩
 obtain⟨k0,p,s⟩:=WN P.o;have hz4:=H4.o;go_wp2;go_loopg[5] 5 (λgg v5 g=>∃(n:Nat),4-n<gg/\n<=4/\v5=ae aj (n:Int)/\g=w3)
 .exact⟨0,aq,aq,rfl,rfl⟩
 obtain⟨n,dV,hn,rfl,rfl⟩:=hrel;by_cases hn4:n<4
 .have i5:(n:Int)<4:=by omega
  have i6:n<z.size:=aq;go_wp2_with fail
  all_goals first
   |(go_roundg(4-n)<;>first|omega|exact⟨n+1,aq,aq,aV,rfl⟩)
   |(go_ret;exact⟨_,rfl,aT,H.o⟩)
 .have i5:¬(n:Int)<4:=by omega
  go_wp2;have⟨w4,x⟩:=eX wr;rw[<-x]at BK H P;rw[<-x];clear x k0 p s hz4;have Q:=P.o.lt;have B3:=B2.t BK.o;go_loopg[6](b+1)(λgg v6 g=>∃(m:Nat),b-m<gg/\m<=b/\v6=ae aj (m:Int)/\ak (az w4 g))
  .exact⟨0,aq,aq,rfl,cJ⟩
  obtain⟨m,tC,hm,rfl,F⟩:=hrel;have d:=H.t F.o;have A:=B3.t F.o;obtain⟨k0,p,s⟩:=WN (P.o.ar F.o Q);have⟨c0,v,a,l,c4,c5⟩:=(B.o.ar A.o B.o.lt).f6;by_cases Y:m<b
  .have i6:=aU m b
   obtain⟨qS,y,rfl,o⟩:=il (SK.o.Z d.o d.o.size) Y;go_wp2;have wk:IntKind.i64.wrap ((f.ln:Int)-1)=(f.ln:Int)-1:=IntWalk.i64_in _ aq;have⟨L0,L1,T⟩:=lc3 s o l;clear c0 v a l c4 c5 k0 p s o;refine aE (kC 78 SB) aF aF ?_;refine mSk ?_;refine lsA SB (λu=> ?_) (λv9 D=> ?_)
   .go_simp
    exact bP ((dm _ _ _ u.1).mono λ_ _ h=>h.pb)
   obtain⟨q,rfl⟩:=D;simp[Act.put];refine mSk ?_
   first
    |(intro (u:aI _);obtain⟨K,k⟩:=u)
    |(rintro K ⟨⟨_,k⟩,rfl⟩)
   have C:=F.t k
   try dsimp only
   clear k wk L0 L1 T;cases q
   .go_wp2
    go_ret;exact⟨_,rfl,aT,H.o.trans (C.o.mono H.o.size)⟩
   .go_wp2
    go_roundg(b-m)
    .exact⟨m+1,aq,aq,aV,C⟩
    omega
  .have i6:=cI m b
   go_wp2;have⟨w5,E⟩:=eX wr;rw[<-E]at F d A;rw[<-E];clear E c0 v a l c4 c5 k0 p s;go_loopg[7](i+1)(λgg v7 g=>∃(j:Nat),i-j<gg/\j<=i/\v7=ae aj (j:Int)/\ak (az w5 g))
   .exact⟨0,aq,aq,rfl,cJ⟩
   obtain⟨j,hg4,hj,rfl,N⟩:=hrel;have M:=A.t N.o;have J:=d.t N.o;by_cases UD:j<i;rotate_left
   .have i7:=cI j i
    go_wp2;go_roundg(f.fn-i)
    .exact⟨i+1,aq,aq,aV,M,⟨nh LA.o LX.o⟩⟩
    omega
   have i7:=aU j i;have i8:(j:Int)<(f.fn:Int):=aq;obtain⟨k0,p,s⟩:=WN ((P.o.ar F.o Q).ar N.o (by have:=F.o.size;omega));have⟨c0,v,a,l,c4,c5⟩:=(B.o.ar M.o B.o.lt).f6;obtain⟨ad3,z3,x3,_,_,_,eA,_,o,G,_⟩:=sY (R0.o.Z J.o J.o.size).rF (show j<f.fn by omega);rw[eA]at c4;clear eA;go_wp2;have⟨L0,L1,T,L3,L4⟩:=lc5 k0 p c4 o G;clear c0 v a l c4 c5 k0 p s o G;refine aE (kC 93 SB) aF aF ?_;refine mSk ?_;refine lsA SB (λu=> ?_) (λv9 D=> ?_)
   .go_simp
    exact⟨_,rfl⟩
   obtain⟨q,rfl⟩:=D;cases q
   .simp[Act.put]
    refine mSk ?_
    first
     |(intro (u:aI _);obtain⟨K,k⟩:=u)
     |(rintro K ⟨⟨_,k⟩,rfl⟩)
    have C:=N.t k
    try dsimp only
    clear k L0 L1 T L3 L4;go_wp2;go_roundg(i-j)
    .exact⟨j+1,aq,aq,aV,C⟩
    omega
   .simp[Act.put]
    refine mSk ?_
    first
     |(intro (u:aI _);obtain⟨K,k⟩:=u)
     |(rintro K ⟨⟨_,k⟩,rfl⟩)
    have C:=N.t k
    try dsimp only
    clear k L0 L1 T L3 L4;go_wp2_with fail
    all_goals first
     |(go_roundg(i-j)<;>first|omega|exact⟨j+1,aq,aq,aV,C⟩)
     |(go_ret;exact⟨_,rfl,aT,d.o.trans (C.o.mono d.o.size)⟩)
def PCk(w:EE)(f:dv)(e:IS)(a:EE):Prop:=∃z:Int,e=RE (ae aj z)/\(z=0->FOk w w.heap.size f)/\az w a
def T8.back{b:EE}{f:dv}(g:cU w w.heap.size Ic f.F f.fn f.fc)(q:az w b)(h:T8 b b.heap.size f):T8 w w.heap.size f:=⟨h.1,λj e=>by
 obtain⟨a,A,n,c,i,_,p,l⟩:=h.2 j e;obtain⟨r,z,t,k,s,o,f1,_,_,_,f2⟩:=sY g e;obtain⟨m,d,g2,_⟩:=g.2.2.2 aq;rw[f1]at i d;obtain rfl:=Option.some.inj i;obtain rfl:=Option.some.inj d;have:=av f2 q;rw[p]at this;injection this with this
 injection this with _ h5 _
 subst h5;exact⟨r,k,n,o,f1,g2,f2,l⟩⟩
def Mj.back{r:EE}{f:dv}(v:cU w w.heap.size Bk f.L f.ln f.lc)(e:az w r)(h:Mj r r.heap.size f):Mj w w.heap.size f:=λj F=>by
 obtain⟨a,k,B,_,Y,h4,h5,P,O⟩:=h j F;obtain⟨ad,x,f1,E,f2,f3,f4,f5⟩:=ru v F;obtain⟨W,y,g2,_⟩:=v.2.2.2 aq;rw[f1]at B y;obtain rfl:=Option.some.inj B;obtain rfl:=Option.some.inj y;refine⟨ad,x,f1,g2,f2,f3,f4,f5,λhk i hi=> ?_⟩;have p:=av f2 e;have n:=av f5 e
 rw[Y]at p;rw[P]at n;obtain⟨kk,fl,st,S,sn,sc⟩:=x;obtain⟨N,U,R,q,b,K⟩:=k;simp at p n;obtain⟨L,M,Q⟩:=n;subst p;subst L;subst M;subst Q
 obtain⟨D,C,V,cc,T,tc,m,_,I,Z,z⟩:=O hk i hi;obtain⟨u,s,g,J,A,G,_⟩:=ko E.rS hi;obtain⟨c,l,X,_⟩:=E.rS.2.2.2 (by have:i<b:=hi;show 0<b;omega);have m:q=OH D:=m;have g:q=OH u:=g;have l:q=OH c:=l;rw[m]at g l;obtain rfl:=Option.some.inj g;obtain rfl:=Option.some.inj l;have o:=av A e;have t:=av G e
 rw[I]at o;rw[Z]at t;simp at o t;obtain⟨u1,u2,u3⟩:=o;obtain⟨H,v2,v3⟩:=t;refine⟨D,s.C,V,s.cc,s.T,s.tc,m,X,by rw[A,u2],by rw[G,v2], ?_⟩;rw[H]at z;have d:=J.rT;rw[<-v2]at d;exact z.back d e
def YE(s:G:=by
 go_wp2
 go_ret;exact⟨_,rfl,aT,B1.o⟩):G:=s
def Wq(q:rR)(f:dv)(w:EE)(h:cC w w.heap.size f):GK prog 103 #[f.v] w (PCk w f):=by
 have⟨t,j,B1,x⟩:=box1 w f.row 102;have⟨n,i⟩:=K' q h;have⟨c0,c,b,d,c4,c5⟩:=x.o.f6;go_enter func103,ntmps103;go_wp2_with fail;rw[<-j];clear j;go_wp2_with fail;refine(MZ f t (i.o.Z B1.o B1.o.size)).mono ?_;rintro e s ⟨z,rfl,k,a⟩;have u:=sH k;have g:=B1.t a;have c0:=av c0 a;have c:=av c a;have b:=av b a;have d:=av d a;have c4:=av c4 a;have c5:=av c5 a
 have B1:=sH g.o;cases z
 .exact YE
 go_wp2_with fail;refine(aat f s (i.o.Z B1.o B1.o.size)).mono ?_;rintro e v ⟨z,rfl,a⟩;have g:=B1.t a;have c0:=av c0 a;have c:=av c a;have b:=av b a;have d:=av d a;have c4:=av c4 a;have c5:=av c5 a
 have B1:=sH g.o;cases z
 .exact YE
 go_wp2_with fail;have m:=sH B1.o;refine(Kt n.o f v (i.o.Z B1.o B1.o.size)).mono ?_;rintro e r ⟨z,rfl,k,a⟩;have p:=sH k;have g:=B1.t a;have c0:=av c0 a;have c:=av c a;have b:=av b a;have d:=av d a;have c4:=av c4 a;have c5:=av c5 a
 have B1:=sH g.o;cases z
 .exact YE
 go_wp2_with fail;have l:=sH B1.o;refine(Yq f r (i.o.Z B1.o B1.o.size)).mono ?_;rintro e y ⟨z,rfl,k,a⟩;have o:=sH k;have g:=B1.t a;have c0:=av c0 a;have c:=av c a;have b:=av b a;have d:=av d a;have c4:=av c4 a;have c5:=av c5 a
 have B1:=sH g.o;cases z
 .exact YE
 go_wp2;go_ret;exact⟨_,rfl,λ_=>⟨u.o trivial,(o.o trivial).back i.o.rF l.o,(p.o trivial).back i.o.rL m.o⟩,B1.o⟩
def Ye(f:dv)(w:EE)(h:cC w w.heap.size f):GK prog 42 #[f.v] w (PB w):=by
 have⟨B,g,c,q⟩:=box1 w f.row 102;have R:=sH (h.Z c.o c.o.size);have h1:=h.rG.bd;have h2:=h.rM.bd;have h3:=h.rL.bd;have X:=h.rF.bd;have h5:=h.rS.bd
 have⟨c0,M,o,u,c4,c5⟩:=q.o.f6;go_enter func42,ntmps42;go_upto_region 1 with fail;rw[<-g];clear g;go_cut[34](λv Q=>(∃b:Bool,v=PF b)/\B=Q)
 ·
  go_wp2_with fail
  all_goals
   go_meet;exact⟨⟨_,rfl⟩,rfl⟩
 obtain⟨⟨b,rfl⟩,rfl⟩:=hcut;cases b;rotate_left
 .go_wp2
  go_ret;exact⟨_,rfl,c.o⟩
 go_wp2;go_loopg[3,4,5,6](f.ln+1)(λgg v3 _ _ _ wr=>∃(i:Nat),f.ln-i<gg/\i<=f.ln/\v3=ae aj (i:Int)/\ak (az B wr))
 .exact⟨0,aq,aq,rfl,cJ⟩
 obtain⟨i,hg,hi,rfl,d⟩:=hrel;have⟨c0,M,o,u,c4,c5⟩:=(q.o.ar d.o q.o.lt).f6;by_cases m:i<f.ln;rotate_left
 .have O:¬(i:Int)<(f.ln:Int):=by omega
  go_wp2;go_ret;exact⟨_,rfl,c.o.trans (d.o.mono c.o.size)⟩
 have O:(i:Int)<(f.ln:Int):=aq;obtain⟨ad,k,I,z,e0,e1,e2,e3⟩:=ru (R.o.Z d.o d.o.size).rL m;rw[I]at u;have A:=sH z.rS;have L:=z.rS.bd;by_cases q1:k.sn<=10;rotate_left
 .have t:(10:Int)<(k.sn:Int):=by omega
  go_wp2;go_ret;exact⟨_,rfl,c.o.trans (d.o.mono c.o.size)⟩
 have t:¬(10:Int)<(k.sn:Int):=aq;go_wp2;have⟨G,e⟩:=eX wr;rw[<-e]at d A;rw[<-e];clear e;go_loopg[5,6](k.sn+1)(λgg K _ p=>∃(n:Nat),k.sn-n<gg/\n<=k.sn/\K=ae aj (n:Int)/\ak (az G p))
 .exact⟨0,aq,aq,rfl,cJ⟩
 obtain⟨n,J,hn,rfl,j⟩:=hrel;have U:=d.t j.o;by_cases r:n<k.sn;rotate_left
 .have S:¬(n:Int)<(k.sn:Int):=by omega
  go_wp2;go_roundg(f.ln-i)
  .exact⟨i+1,aq,aq,aV,U⟩
  omega
 have S:(n:Int)<(k.sn:Int):=aq;obtain⟨E,s,T,a,g0,g1,g2,g3,g4,g5,g6,g7,g8,g9,C,H⟩:=ko (A.o.Z j.o j.o.size) r;have SE:=sH T;have⟨y,cg⟩:=eX (wr.alloc (RM s.row 184));have l:az wr y:=jT;have N:ak (Bx y wr.heap.size s.row):=⟨lY⟩;have x:=j.t l;have W:=a.rC.bd;have j1:=a.rT.bd;have j2:=a.rL.bd;have j3:=a.rB.bd;have j4:=a.rJ.bd;have j5:=a.rA.bd;have j6:=a.rN.bd;have j7:=a.rV.bd;have j8:=a.rP.bd;have Y:=a.rU.bd;have P:=a.rM.bd;have D:=a.rH.bd
 have⟨d0,d1,d2,d3,d4,d5,d6,d7,d8,Z,V,F⟩:=N.o.nv;go_upto_region 13 with fail;rw[<-cg];clear cg;go_wp2_with fail
 all_goals first
  |(go_roundg(k.sn-n)<;>first|omega|exact⟨n+1,aq,aq,aV,x⟩)
  |(go_ret;exact⟨_,rfl,c.o.trans ((d.o.trans (x.o.mono d.o.size)).mono c.o.size)⟩)
def fF(n lo hi:Int)(w:EE):GK prog 178 #[ae aj n,ae aj lo,ae aj hi] w (PWi w n lo hi):=by
 go_enter func178,ntmps178;go_wp2_with fail
 all_goals
  go_ret;exact⟨_,rfl,iY,rfl⟩
def tY(ts:aC)(n i:Nat):Prop:=∀k,k<i->k+1<n->(aN (nth ts k)).jv=11->k+2=n/\nth ts k=13/\nth ts (k+1)=10
def tY.snoc{ts:aC}(h:tY ts n i)(c:(aN (nth ts i)).jv=11->i+2=n/\nth ts i=13/\nth ts (i+1)=10):tY ts n (i+1):=λk e d b=>by
 rcases Nat.lt_or_ge k i with a|a
 .exact h k a d b
 .obtain rfl:k=i:=by omega
  exact c b
def PO1(w:EE)(ts:aC)(n:Nat)(e:IS)(a:EE):Prop:=∃z:Bool,e=RE (PF z)/\(z=OX->tY ts n n)/\az w a
def adJ(A:aB)(n c:Nat)(ts:aC)(w:EE)(h:aJ .i32 w A n c ts)(L:n<=100000):GK prog 180 #[Pl A n c] w (PO1 w ts n):=by
 have f:=sH h;go_enter func180,ntmps180;go_wp2;go_loopg[3](n+1)(λgg v3 wr=>∃(i:Nat),n-i<gg/\i<=n/\v3=ae aj (i:Int)/\ak (az w wr)/\ak (tY ts n i))
 .exact⟨0,aq,aq,rfl,cJ,⟨λk J=>by omega⟩⟩
 obtain⟨i,I,hi,rfl,r,x⟩:=hrel;by_cases C:i+1<n;rotate_left
 .have B:¬(i:Int)+1<(n:Int):=by omega
  have F:ak (tY ts n n):=⟨λk h1 b=>x.o k aq b⟩;go_wp2;go_ret;exact⟨_,rfl,λ_=>F.o,r.o⟩
 have B:(i:Int)+1<(n:Int):=aq;have K:=aU i n;obtain⟨H,rfl,u⟩:=(f.o.ar r.o).iC (show i<n by omega);obtain⟨s,t⟩:=vo (f.o.cZ (show i<n by omega));have⟨D,v⟩:=K' (dX (nth ts i) s t wr) x.o.snoc;generalize nth ts i=z at*;go_wp2_with fail;refine callK D.o r λM G a=> ?_;have u:=av u G;obtain⟨E,j,y⟩:=(f.o.ar a.o).iC (show i+1<n by omega);injection j with j
 subst j;rw[add_succ]at y;generalize nth ts (i+1)=o at*;generalize(aN z).jv=bd at*;by_cases h1:bd=11;rotate_left
 .have e:(bd==11)=OZ:=by simp[h1]
  have d:=sH (v.o λh=>absurd h h1);go_wp2;go_roundg(n-i)
  .exact⟨i+1,aq,aq,aV,a,d⟩
  omega
 have e:(bd==11)=OX:=mo;by_cases b:(i:Int)+2=(n:Int);rotate_left
 .have m:((i:Int)+2==(n:Int))=OZ:=by simp[b]
  go_wp2;go_ret;exact⟨_,rfl,aT,a.o⟩
 have m:((i:Int)+2==(n:Int))=OX:=by simp[b]
 by_cases l:z=13;rotate_left
 .have p:(z==13)=OZ:=by simp[l]
  go_wp2;go_ret;exact⟨_,rfl,aT,a.o⟩
 have p:(z==13)=OX:=by simp[l]
 by_cases g:o=10;rotate_left
 .have q:(o==10)=OZ:=by simp[g]
  go_wp2;go_ret;exact⟨_,rfl,aT,a.o⟩
 have q:(o==10)=OX:=by simp[g]
 have d:=sH (v.o λ_=>⟨aq,l,g⟩);go_wp2;go_roundg(n-i)
 .exact⟨i+1,aq,aq,aV,a,d⟩
 omega
def whT(d:Option Tmp):Option (EN->Prop):=if d=OH 21 then OH SB else if d=OH 29 then OH SB else OJ
def afk(s:G:=by
 simp[Act.put]
 refine ak.o ?_
 repeat first
  |(refine bG aD aD aD ?_;intro K9 bQ;go_big_quiet_op;refine bQ _ ?_)
  |(refine a7 aD ?_;simp[Act.put])
 refine⟨?_⟩
 first
  |(intro (nq:aI _);obtain⟨w6,bq⟩:=nq)
  |(rintro w6 ⟨⟨_,bq⟩,rfl⟩)
 have BX:ak (az w w6):=⟨BE.o.trans (bq.mono BE.o.size)⟩
 try dsimp only
 clear bq L0 L1 L2;go_wp2;go_ret;exact⟨_,rfl,BX.o⟩):G:=s
def Yf(A:aB)(n c:Nat)(m:Int)(w:EE)(h:cU w w.heap.size uF A n c):GK prog 181 #[Pl A n c,ae aj m] w (PB w):=by
 have RL:ak _:=⟨h⟩;have F:=h.bd;clear h;by_cases E:m<0
 .go_enter func181,ntmps181
  go_wp2;go_ret;exact⟨_,rfl,Below.refl _ _⟩
 go_enter func181,ntmps181;go_wp2;go_loopg[5,6](n+1)(λgg r t wr=>∃(i:Nat) (z:Int),n-i<gg/\i<=n/\r=ae aj z/\t=ae aj (i:Int)/\ak (az w wr))
 .exact⟨0,0,aq,aq,rfl,rfl,cJ⟩
 obtain⟨i,z,C,hi,rfl,rfl,BE⟩:=hrel;by_cases e:i<n;rotate_left
 .have u:=cI i n
  go_wp2;go_ret;exact⟨_,rfl,BE.o⟩
 have u:=aU i n;obtain⟨I,J,G,H,rfl,l,g,j⟩:=lQ (RL.o.Z BE.o BE.o.size) e;go_wp2_with fail;have L0:=au l;have L1:=au g;have L2:=au j
 clear l g j;rcases i with _|k
 case' zero=>rw[Nat.zero_mul,fA]at L0 L1 L2
 case' succ=>
  obtain⟨x,N,B,D,f,v,q,g2⟩:=lQ (RL.o.Z BE.o BE.o.size) (show k<n by omega);injection f with f
  subst f;have wk:IntKind.i64.wrap ((k:Int)+1-1)=(k:Int):=zo;have k0:=gT k;have K:=aU k n;have M:=au g2;clear v q g2
 all_goals
  refine aE whT aF aF ?_;refine ak.o ?_
  repeat first
   |(refine bG aD aD aD ?_;intro K9 bQ;go_big_quiet_op;refine bQ _ ?_)
   |(refine a7 aD ?_;simp[Act.put])
  refine⟨?_⟩;refine cK SB aD aD (λo a=> ?_) (λp d=> ?_)
  .obtain⟨nq,rfl⟩:=a
   go_simp;exact⟨_,rfl⟩
  obtain⟨b,rfl⟩:=d;cases b;rotate_left
  .exact afk
  simp[Act.put];refine ak.o ?_
  repeat first
   |(refine bG aD aD aD ?_;intro K9 bQ;go_big_quiet_op;refine bQ _ ?_)
   |(refine a7 aD ?_;simp[Act.put])
  refine⟨?_⟩;refine cK SB aD aD (λo a=> ?_) (λp d=> ?_)
  .obtain⟨nq,rfl⟩:=a
   go_simp;exact⟨_,rfl⟩
  obtain⟨b,rfl⟩:=d;cases b;rotate_left
  .exact afk
  simp[Act.put];refine ak.o ?_
  repeat first
   |(refine bG aD aD aD ?_;intro K9 bQ;go_big_quiet_op;refine bQ _ ?_)
   |(refine a7 aD ?_;simp[Act.put])
  refine⟨?_⟩
  first
   |(intro (nq:aI _);obtain⟨w6,bq⟩:=nq)
   |(rintro w6 ⟨⟨_,bq⟩,rfl⟩)
  have BX:ak (az w w6):=⟨BE.o.trans (bq.mono BE.o.size)⟩
  try dsimp only
  clear bq L0 L1 L2;obtain⟨y,_,L,_,eB,_,s,_⟩:=lQ (RL.o.Z BX.o BX.o.size) e;injection eB with eB
  subst eB
  try rw[Nat.zero_mul,fA]at s
  go_wp2_with fail
  all_goals first
   |(go_roundg(n-0)<;>first|omega|exact⟨0+1,_,aq,aq,rfl,aV,BX⟩)
   |(go_roundg(n-(k+1))<;>first|omega|exact⟨k+1+1,_,aq,aq,rfl,aV,BX⟩)
   |(go_ret;exact⟨_,rfl,BX.o⟩)
def yL{j:Nat}{A:aB}(h:cU w B .str A n c)(d:j<n):∃(a:Addr) (z:ByteArray),A=OH a/\a.block<B/\w.cell? (a.add j)=OH (.string z)/\z.size<=maxLen:=by
 obtain⟨a,e,i,g⟩:=h.2.2.2 aq;obtain⟨l,⟨z,rfl,f⟩,k⟩:=g j d;have b:=k 0 _ rfl;rw[fA]at b;simp[Ty.n]at b;exact⟨a,z,e,i,b,f⟩
def ry(w:EE)(s:cM)(j:Nat):Prop:=∀a z,s.P=OH a->w.cell? (a.add j)=OH (.string z)->z.size<=200
def zt(w:EE)(s:cM)(p:jz):Prop:=p.tn<=60/\p.sn<=60/\p.bn<=40/\s.fn<=10/\s.yn<=70/\s.pn<=60/\∀j,j<s.pn->ry w s j
def PSm(w:EE)(s:cM)(p:jz)(e:IS)(a:EE):Prop:=∃z:Bool,e=RE (PF z)/\(z=OX->zt w s p)/\az w a
def H9(s:cM)(p:jz)(ts:aC)(w:EE)(h:gA w w.heap.size s)(n:kf w p ts):GK prog 13 #[s.v,p.v] w (PSm w s p):=by
 have⟨W1,a,c,A,X2⟩:=box2 w s.row 26 p.row 31;have⟨c0,r,b,q,c4⟩:=A.o.c5;have⟨N,d1,Z,W,d4,d5,T,d7⟩:=X2.o.c8;have G:=sH h;have h1:=h.rF.bd;have h2:=h.rY.bd;have h3:=h.rP.bd
 have h4:=Nat.le_trans n.rT.le n.rT.cap;have h5:=n.rS.bd;have h6:=n.rB.bd
 clear h n;by_cases Y:p.tn<=60;rotate_left
 .have l:(60:Int)<(p.tn:Int):=by omega
  go_enter func13,ntmps13;go_wp2_with fail;rw[<-a];clear a;go_wp2;go_ret;exact⟨_,rfl,aT,c.o⟩
 have Jy:¬(60:Int)<(p.tn:Int):=aq;by_cases P:p.sn<=60;rotate_left
 .have l:(60:Int)<(p.sn:Int):=by omega
  go_enter func13,ntmps13;go_wp2_with fail;rw[<-a];clear a;go_wp2;go_ret;exact⟨_,rfl,aT,c.o⟩
 have M:¬(60:Int)<(p.sn:Int):=aq;by_cases J:p.bn<=40;rotate_left
 .have l:(40:Int)<(p.bn:Int):=by omega
  go_enter func13,ntmps13;go_wp2_with fail;rw[<-a];clear a;go_wp2;go_ret;exact⟨_,rfl,aT,c.o⟩
 have q3':¬(40:Int)<(p.bn:Int):=aq;by_cases q4:s.fn<=10;rotate_left
 .have l:(10:Int)<(s.fn:Int):=by omega
  go_enter func13,ntmps13;go_wp2_with fail;rw[<-a];clear a;go_wp2;go_ret;exact⟨_,rfl,aT,c.o⟩
 have q4':¬(10:Int)<(s.fn:Int):=aq;by_cases q5:s.yn<=70;rotate_left
 .have l:(70:Int)<(s.yn:Int):=by omega
  go_enter func13,ntmps13;go_wp2_with fail;rw[<-a];clear a;go_wp2;go_ret;exact⟨_,rfl,aT,c.o⟩
 have q5':¬(70:Int)<(s.yn:Int):=aq;by_cases q6:s.pn<=60;rotate_left
 .have l:(60:Int)<(s.pn:Int):=by omega
  go_enter func13,ntmps13;go_wp2_with fail;rw[<-a];clear a;go_wp2;go_ret;exact⟨_,rfl,aT,c.o⟩
 have Q:¬(60:Int)<(s.pn:Int):=aq;go_enter func13,ntmps13;go_upto_region 3 with fail;rw[<-a];clear a N d1 Z W d4 d5 T d7 r q c4;go_wp2;go_loopg[5](s.fn+1)(λgg S wr=>∃(i:Nat),s.fn-i<gg/\i<=s.fn/\S=ae aj (i:Int)/\ak (az W1 wr))
 .exact⟨0,aq,aq,rfl,cJ⟩
 obtain⟨i,hg,hi,rfl,t⟩:=hrel;have k:=c.t t.o;clear c0 b;have⟨c0,r,b,q,c4⟩:=(A.o.ar t.o A.o.lt).c5;by_cases u:i<s.fn
 .have i4:(i:Int)<(s.fn:Int):=by omega
  obtain⟨ad,f,E,H,e0,o,d,U,e4,X⟩:=qz (G.o.Z k.o k.o.size).rF u;rw[E]at c0;have HF:=sH H;clear E H;go_wp2_with fail;refine(Ye f wr HF.o).mono ?_;rintro e w3 ⟨z,rfl,D⟩;have I:=t.t D;clear D e0 o d U e4 X c0 r b q c4;cases z
  .go_wp2
   go_ret;exact⟨_,rfl,aT,c.o.trans (I.o.mono c.o.size)⟩
  go_wp2;go_roundg(s.fn-i)
  .exact⟨i+1,aq,aq,aV,I⟩
  omega
 have i4:¬(i:Int)<(s.fn:Int):=aq;go_wp2;have⟨O,g⟩:=eX wr;rw[<-g]at t k b;rw[<-g];clear g c0 r q c4;go_loopg[6](s.pn+1)(λgg v6 wr=>∃(j:Nat),s.pn-j<gg/\j<=s.pn/\v6=ae aj (j:Int)/\wr=O/\ak (∀m,m<j->ry w s m))
 .exact⟨0,aq,aq,rfl,rfl,⟨λm V=>by omega⟩⟩
 obtain⟨j,R,hj,rfl,rfl,F⟩:=hrel;by_cases y:j<s.pn;rotate_left
 .have i5:¬(j:Int)<(s.pn:Int):=by omega
  have K:ak (zt w s p):=⟨⟨Y,P,J,q4,q5,q6,λm V=>F.o m aq⟩⟩;go_wp2;go_ret;exact⟨_,rfl,λ_=>K.o,k.o⟩
 have i5:(j:Int)<(s.pn:Int):=aq;obtain⟨adP,z,B,_,C,L⟩:=yL G.o.rP y;have SJ:ak (z.size<=200->ry w s j):=⟨λh ad z2 o d=>by
  rw[B]at o;obtain rfl:=Option.some.inj o;rw[C]at d;injection d with d
  injection d with d
  subst d;exact h⟩
 have C:=av C k.o;rw[B]at b;unfold maxLen at L;clear B;by_cases x:z.size<=200
 .have v:¬(200:Int)<(z.size:Int):=by omega
  have SK:=sH (SJ.o x);go_wp2;go_roundg(s.pn-j)
  .exact⟨j+1,aq,aq,aV,rfl,⟨nh F.o SK.o⟩⟩
  omega
 .have v:(200:Int)<(z.size:Int):=by omega
  go_wp2;go_ret;exact⟨_,rfl,aT,k.o⟩
def Yh(w:EE)(A:aB)(n:Nat)(P:Int->Prop):Prop:=∀j,j<n->∀a v,A=OH a->w.cell? (bX (a.add (j*3)) 2)=OH (ae aj v)->P v
def PAt(w:EE)(P:Int->Prop)(e:IS)(a:EE):Prop:=∃z:Int,e=RE (ae aj z)/\(P z∨z=0)/\az w a
def ael(A:aB)(n c:Nat)(i:Int)(P:Int->Prop)(w:EE)(h:cU w w.heap.size uF A n c)(o:Yh w A n P):GK prog 50 #[Pl A n c,ae aj i] w (PAt w P):=by
 have⟨RL,d⟩:=K' h o;have x:=h.bd;go_enter func50,ntmps50;go_wp2;go_loopg[5](n+1)(λgg m wr=>∃(k:Nat),n-k<gg/\k<=n/\m=ae aj (k:Int)/\wr=w)
 .exact⟨0,aq,aq,rfl,rfl⟩
 obtain⟨k,s,u,rfl,rfl⟩:=hrel;by_cases a:k<n;rotate_left
 .have f:=cI k n
  go_wp2;go_ret;exact⟨_,rfl,.inr rfl,Below.refl _ _⟩
 have f:=aU k n;obtain⟨e,g,p,b,rfl,q,t,j⟩:=lQ RL.o a;have l:ak (P b):=⟨d.o k a e b rfl j⟩;by_cases r:g<=i
 .by_cases v:i<p
  .go_wp2
   go_ret;exact⟨_,rfl,.inl l.o,Below.refl _ _⟩
  .go_wp2
   go_roundg(n-k)
   .exact⟨k+1,aq,aq,aV,rfl⟩
   omega
 .go_wp2
  go_roundg(n-k)
  .exact⟨k+1,aq,aq,aV,rfl⟩
  omega
def UM:aS prog 28 196 3 24:=bD underlying28 (z:=.agg #[ae aj 0,ae aj 0,ae aj 0]) aF rfl aq aq
def Oq.kb{e:IQ}{Q:aC->Prop}{g:Nat}(h:Oq w B e 3 Q (OH ⟨g,0,OJ⟩) n c){j:Nat}(f:j<n):∃d b a:Int,Q [d,b,a]/\w.cell? ⟨g,j*3,OJ⟩=OH (ae aj d)/\w.cell? ⟨g,j*3+1,OJ⟩=OH (ae aj b)/\w.cell? ⟨g,j*3+2,OJ⟩=OH (ae aj a):=by
 obtain⟨l,e,_,k⟩:=h.rq aq aq;obtain rfl:(⟨g,0,OJ⟩:Addr)=l:=CJ;obtain⟨r,m,i,o⟩:=k j f;have key:∀q x,r[q]? =OH x->w.cell? ⟨g,j*3+q,OJ⟩=OH (ae aj x):=λq x p=>by
  have:=o q x p;rwa [aY,bC]at this
 match r,m with
 |[d,b,a],_=>exact⟨d,b,a,i,key 0 _ rfl,key 1 _ rfl,key 2 _ rfl⟩
abbrev aeq(_:aC):Prop:=True
def PJo(w:EE)(n:Nat)(e:IS)(a:EE):Prop:=∃(A:aB) (m c:Nat),m<=n/\e=RE (Pl A m c)/\Oq a w.heap.size 196 3 aeq A m c/\az w a
def aaO(A:aB)(n c:Nat)(ts:aC)(w:EE)(h:aJ .i64 w A n c ts)(U:n<=100000):GK prog 113 #[Pl A n c] w (PJo w n):=by
 have D:=sH h;go_enter func113,ntmps113;go_wp2;go_loopg[3,4,5](n+1)(λgg v3 v4 _ wr=>∃(i m:Nat) (C:aB) (d:Nat),n-i<gg/\i<=n/\m<=i/\v4=ae aj (i:Int)/\v3=Pl C m d/\ak (Oq wr w.heap.size 196 3 aeq C m d)/\ak (az w wr))
 .exact⟨0,0,OJ,0,aq,aq,aq,rfl,rfl,⟨Oq.nil _ _ _ _ _⟩,cJ⟩
 obtain⟨i,m,C,d,O,hi,T,rfl,rfl,a,b⟩:=hrel;have K:=b.o.size;by_cases H:i<n;rotate_left
 .have G:=cI i n
  go_wp2;go_ret;exact⟨_,_,_,aq,rfl,a.o,b.o⟩
 have G:=aU i n;obtain⟨N,z,rfl,M,y⟩:=(D.o.ar b.o).iw.get (show i<n by omega);rcases m with _|k
 .go_wp2
  go_region;have⟨e,u⟩:=K' (bJ b.o) (a.o.ar (bJ (Below.refl _ _)));have L:=av y (bJ (Below.refl _ _));have t:=e.o.size;generalize wr.drew=J at*;go_wp2_with (at_builtin;refine jN UM rfl (.tmp 36) (.tmp 45) rfl rfl (u.o.alloc _) rfl [(i:Int),(i:Int)+1,z] rfl (cP _ _ _ _ _ aT rfl) trivial aq br ?_;intro s c8 l j f;have q:=sH j;have x:ak (az w l):=⟨(e.o.alloc aq _).trans f⟩;clear j f);go_roundg(n-i)
  .exact⟨i+1,0+1,s,c8,aq,aq,aq,aV,rfl,q,x⟩
  omega
 obtain⟨g,rfl,v,I⟩:=a.o.form aq;obtain⟨P,V,o,_,S,R,Q⟩:=a.o.kb (show k<k+1 by omega);have fz:=a.o.fz (k*3+1);by_cases B:o=z
 .have r:(o==z)=OX:=by simp[B]
  have E:=sH ((a.o.set (show k<k+1 by omega) (show 1<3 by omega) ((i:Int)+1) (λ_ _ _=>trivial)).ar (bJ (Below.refl _ _)));have F:=sH (bJ<|b.o.setCell (p:=⟨g,k*3+1,OJ⟩) v (ae aj ((i:Int)+1)));go_wp2;go_region;go_wp2;go_roundg(n-i)
  .exact⟨i+1,k+1,_,d,aq,aq,aq,aV,rfl,E,F⟩
  omega
 .have r:(o==z)=OZ:=by simp[B]
  go_wp2;go_region;have⟨e,u⟩:=K' (bJ b.o) (a.o.ar (bJ (Below.refl _ _)));have L:=av y (bJ (Below.refl _ _));have t:=e.o.size;generalize wr.drew=J at*;go_wp2_with (at_builtin;refine jN UM rfl (.tmp 36) (.tmp 45) rfl rfl (u.o.alloc _) rfl [(i:Int),(i:Int)+1,z] rfl (cP _ _ _ _ _ aT rfl) trivial aq br ?_;intro s c8 l j f;have q:=sH j;have x:ak (az w l):=⟨(e.o.alloc aq _).trans f⟩;clear j f);go_roundg(n-i)
  .exact⟨i+1,(k+1)+1,s,c8,aq,aq,aq,aV,rfl,q,x⟩
  omega
def qG:Prop:=∀(z:ByteArray) (w:EE),z.size<=200->GK prog 125 #[.string z] w λe a=>∃(A C:aB) (n c m d:Nat) (b:Bool),e=RE (.tuple #[Pl A n c,Pl C m d,PF b])/\az w a
def PSe(w:EE)(s:cM)(e:IS)(a:EE):Prop:=∃z:Bool,e=RE (PF z)/\(z=OX->0<s.yn/\0<s.fn/\Bs w w.heap.size s/\0<=s.ev/\s.ev<=1048576)/\az w a
def Ks(n:Int)(w:EE):GK prog 179 #[ae aj n] w (PWi w n (-1048576) 1048576):=by
 go_enter func179,ntmps179;go_wp2_with fail
 all_goals
  go_ret;exact⟨_,rfl,iY,rfl⟩
def Bs.snoc{s:cM}{d:Addr}{x:Int}(h:Bs w B {s with yn:=i})(k:s.Y=OH d)(l:d.block<B)(n:w.cell? (bX (d.add (i*4)) 2)=OH (ae aj x))(m: -1048576<=x/\x<=1048576):Bs w B {s with yn:=i+1}:=λj e c a=>by
 have e:j<i+1:=e;have a:s.Y=OH c:=a;rcases Nat.lt_or_ge j i with f|f
 .exact h j f c a
 .obtain rfl:j=i:=by omega
  rw[k]at a;injection a with a
  subst a;refine⟨l,λz g=> ?_⟩;have b:=n.symm.trans g;injection b with b
  injection b with _ b
  subst b;exact m
def Tm(s:G:=by
 go_wp2
 go_ret;exact⟨_,rfl,aT,BH.o⟩):G:=s
def Jx(hP:qG)(s:cM)(w:EE)(h:gA w w.heap.size s)(S:∀j,j<s.pn->ry w s j):GK prog 104 #[s.v] w (PSe w s):=by
 have⟨q,aP⟩:∃q,q=w.alloc (RM s.row 26):=⟨_,rfl⟩;have f:ak (az w q):=⟨nR⟩;have t:ak (Bx q w.heap.size s.row):=⟨re⟩;have⟨c0,l,a,p,c4⟩:=t.o.c5;have X:ak _:=⟨h⟩;have SL:ak _:=⟨S⟩;have h1:=h.rF.bd;have h2:=h.rY.bd;have h3:=h.rP.bd
 clear h S;by_cases F:s.fn=0
 .have J:((s.fn:Int)==0)=OX:=by simp[F]
  clear F;go_enter func104,ntmps104;go_upto_region 1 with fail;rw[<-aP];clear aP;go_wp2;go_ret;exact⟨_,rfl,aT,f.o⟩
 have J:((s.fn:Int)==0)=OZ:=pW;by_cases Q:s.yn=0
 .have M:((s.yn:Int)==0)=OX:=by simp[Q]
  clear F Q;go_enter func104,ntmps104;go_upto_region 1 with fail;rw[<-aP];clear aP;go_wp2;go_ret;exact⟨_,rfl,aT,f.o⟩
 have M:((s.yn:Int)==0)=OZ:=pW;have U:ak (0<s.yn/\0<s.fn):=⟨⟨aq,aq⟩⟩;clear F Q;go_enter func104,ntmps104;go_upto_region 1 with fail;rw[<-aP];clear aP;go_wp2_with fail;refine(fF _ _ _ _).mono ?_;rintro e r ⟨z,rfl,v,rfl⟩;have L:ak _:=⟨v⟩;clear v;cases z
 .go_wp2
  go_ret;exact⟨_,rfl,aT,f.o⟩
 go_wp2_with fail;refine(fF _ _ _ _).mono ?_;rintro e r ⟨z,rfl,_,rfl⟩;cases z
 .go_wp2
  go_ret;exact⟨_,rfl,aT,f.o⟩
 go_wp2;go_loopg[3,4](s.yn+1)(λgg v3 _ wr=>∃(i:Nat),s.yn-i<gg/\i<=s.yn/\v3=ae aj (i:Int)/\ak (Bs w w.heap.size {s with yn:=i})/\ak (az q wr))
 .exact⟨0,aq,aq,rfl,⟨λj hj=>absurd hj (Nat.not_lt_zero j)⟩,cJ⟩
 obtain⟨i,hg,hi,rfl,SI,g⟩:=hrel;have o:ak (az w wr):=⟨f.o.trans (g.o.mono f.o.size)⟩;clear c0 l a p c4;have⟨c0,l,a,p,c4⟩:=(t.o.ar g.o t.o.lt).c5;by_cases H:i<s.yn
 .have i4:(i:Int)<(s.yn:Int):=by omega
  obtain⟨ad,P,K,y,I,eY,k0,Z,E,V⟩:=Cb X.o.rY H;have e0:=av k0 o.o;have e1:=av Z o.o;have e2:=av E o.o;have e3:=av V o.o;have W:ak (-1048576<=y/\y<=1048576->Bs w w.heap.size {s with yn:=i+1}):=⟨λG=>SI.o.snoc eY (by have:=block_lt_of_cell E;rw[aL]at this;exact this) E G⟩;clear k0 Z E V;rw[eY]at l;clear eY;go_upto_region 7 with fail;have⟨k,cg⟩:∃k,k=wr.alloc (RM #[ae aj P,ae aj K,ae aj y,ae aj I] 194):=⟨_,rfl⟩;have BB:az wr k:=jT;have D:Bx k wr.heap.size #[ae aj P,ae aj K,ae aj y,ae aj I]:=lY;rw[<-cg];have B:k.cell? ⟨wr.heap.size,0,OJ⟩=OH (ae aj P):=D.cell 0;have g1:k.cell? ⟨wr.heap.size,1,OJ⟩=OH (ae aj K):=D.cell 1;have g2:k.cell? ⟨wr.heap.size,2,OJ⟩=OH (ae aj y):=D.cell 2;have g3:k.cell? ⟨wr.heap.size,3,OJ⟩=OH (ae aj I):=D.cell 3;have u:ak (az q k):=⟨g.o.trans (BB.mono g.o.size)⟩;have BH:ak (az w k):=⟨f.o.trans (u.o.mono f.o.size)⟩;clear cg BB D c0 l a p c4 e0 e1 e2 e3;have⟨c0,l,a,p,c4⟩:=(t.o.ar u.o t.o.lt).c5;clear l a p c4;go_wp2_with fail;refine(fF _ _ _ _).mono ?_;rintro e r ⟨z,rfl,_,rfl⟩;cases z
  .exact Tm
  go_wp2_with fail;refine(fF _ _ _ _).mono ?_;rintro e r ⟨z,rfl,_,rfl⟩;cases z
  .exact Tm
  go_wp2_with fail;refine(Ks _ _).mono ?_;rintro e r ⟨z,rfl,G,rfl⟩;have Y:ak _:=⟨G⟩;clear G;cases z
  .exact Tm
  have S2:ak _:=⟨W.o (Y.o rfl)⟩;clear W Y;go_wp2_with fail;refine(fF _ _ _ _).mono ?_;rintro e r ⟨z,rfl,_,rfl⟩;cases z
  .exact Tm
  go_wp2;go_roundg(s.yn-i)
  case measure=>omega
  case rel=>exact⟨i+1,aq,aq,aV,S2,u⟩
 .have i4:¬(i:Int)<(s.yn:Int):=by omega
  have SF:ak (Bs w w.heap.size s):=⟨by
   have R:=SI.o;have h8:i=s.yn:=(by omega);rw[h8]at R;exact R⟩
  clear SI;go_wp2;clear c0 l a p c4;go_loopg[5](s.pn+1)(λgg v5 wr=>∃(j:Nat),s.pn-j<gg/\j<=s.pn/\v5=ae aj (j:Int)/\ak (az q wr))
  .exact⟨0,aq,aq,rfl,g⟩
  clear g o;obtain⟨j,dV,hj,rfl,g⟩:=hrel;have o:ak (az w wr):=⟨f.o.trans (g.o.mono f.o.size)⟩;have⟨c0,l,a,p,c4⟩:=(t.o.ar g.o t.o.lt).c5;by_cases x:j<s.pn;rotate_left
  .have i5:¬(j:Int)<(s.pn:Int):=by omega
   go_wp2;go_ret;exact⟨_,rfl,λ_=>⟨U.o.1,U.o.2,SF.o,L.o aT⟩,o.o⟩
  have i5:(j:Int)<(s.pn:Int):=aq;obtain⟨N,z,O,hb,B,hz⟩:=yL X.o.rP x;have SZ:ak _:=⟨SL.o j x N z O B⟩;have B:=av B o.o;rw[O]at a;clear O hz hb c0 l p c4;go_wp2_with fail;refine(hP z wr SZ.o).mono ?_;rintro e r ⟨A,C,n,c,m,d,b,rfl,T⟩;have u:ak (az q r):=⟨g.o.trans (T.mono g.o.size)⟩;have BH:ak (az w r):=⟨f.o.trans (u.o.mono f.o.size)⟩;clear T B a;cases b
  .exact Tm
  go_wp2;go_roundg(s.pn-j)
  case measure=>omega
  case rel=>exact⟨j+1,aq,aq,aV,u⟩
