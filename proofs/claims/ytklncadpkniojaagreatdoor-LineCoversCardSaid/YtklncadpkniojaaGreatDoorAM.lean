/- Part of LineCovers. -/
import Derived.Test.YtklncadpkniojaaGreatDoorAK
namespace Go.Proofs.YtklncadpkniojaaGreatDoor
open Go.ChangeShapes Go.WideShapes Go.ChangeAt Go.RowKit Go.Proofs.Tryz
open Go renaming World->ahh,Value->ahj,Calls->ahk,Ending->ahn
open Go.Value renaming int->ae
open Go.IntKind renaming i64->aj
set_option linter.all false
set_option maxRecDepth 100000
set_option maxHeartbeats 16000000
variable{G:Prop}{w:ahh}{T:aA}{kind:Int}
def mkT(d:Option Tmp):Option (ahj->Prop):=if d=some 39 then some SB else if d=some 44 then some SB else if d=some 50 then some SB else if d=some 87 then some SB else if d=some 94 then some SB else if d=some 155 then some SB else none
theorem Km(s:G:=by
 simp[Act.put]
 refine mSk ?_
 first
  |(intro (nq:aG _);obtain⟨w6,bq⟩:=nq)
  |(rintro w6 ⟨⟨_,bq⟩,rfl⟩)
 have BX:=B2.t bq
 try dsimp only
 clear bq L0 L1 L2 L3 L4 L5;go_wp2;go_ret;exact⟨_,rfl,B1.o.trans (BX.o.mono B1.o.size)⟩):G:=s
theorem WT(s:G:=by
 simp[Act.put]
 refine mSk ?_
 first
  |(intro (nq:aG _);obtain⟨w6,bq⟩:=nq)
  |(rintro w6 ⟨⟨_,bq⟩,rfl⟩)
 have BX:=sH bq
 try dsimp only
 clear bq L0 L1 L2 L3 L4 L5;go_step;go_step;go_meet;exact⟨⟨_,rfl⟩,BX⟩):G:=s
theorem WM(f:cY)(k:Lk)(s:Sb)(w:ahh)(h:bZ w w.heap.size f)(L:nQ w w.heap.size s):ahk prog 286 #[f.v,k.v,s.v] w (PB w):=by
 have⟨W1,l⟩:=eX (((w.alloc (.cells f.row 96)).alloc (.cells k.row 161)).alloc (.cells s.row 170));obtain⟨b1,x1,x2,x3,kU⟩:=qC l;have B1:=sH b1;have X1:=sH x1;have X2:=sH x2;have T:=sH x3;clear x1 x2 x3;have R:=sH (h.Z B1.o B1.o.size);have RS:=sH (L.Z B1.o B1.o.size);have XO:=L.rM.bd;have hhn:=L.rH.bd;have⟨_,_,_,_,_,_,_,_,_,_,g,e⟩:=T.o.ns;clear h L b1;by_cases q1:s.mn<=4096;rotate_left
 .have U:(4096:Int)<(s.mn:Int):=by omega
  go_enter func286,ntmps286;go_wp2_with fail;rw[<-l];clear l;go_wp2;go_ret;exact⟨_,rfl,B1.o⟩
 by_cases q2:s.hn<=4096;rotate_left
 .have U:¬(4096:Int)<(s.mn:Int):=by omega
  have q2':(4096:Int)<(s.hn:Int):=ak;go_enter func286,ntmps286;go_wp2_with fail;rw[<-l];clear l;go_wp2;go_ret;exact⟨_,rfl,B1.o⟩
 have U:¬(4096:Int)<(s.mn:Int):=ak;have q2':¬(4096:Int)<(s.hn:Int):=ak;go_enter func286,ntmps286;go_upto_region 3 with fail;rw[<-l];clear l;go_wp2;go_loopg[7,8](s.mn+1)(fun gg v7 _ wr=>∃(i:Nat),s.mn-i<gg/\i<=s.mn/\v7=ae aj (i:Int)/\aq (az W1 wr))
 .exact⟨0,ak,ak,rfl,cA⟩
 obtain⟨i,hg,hi,rfl,n⟩:=hrel;clear g e;have⟨_,_,_,_,_,_,_,_,_,_,g,e⟩:=(T.o.ar n.o T.o.lt).ns;by_cases aK:i<s.mn;rotate_left
 .have i4:¬(i:Int)<(s.mn:Int):=by omega
  go_wp2;clear g e;have⟨wo,J⟩:=eX wr;rw[<-J]at n;rw[<-J];clear J;go_loopg[9,10,11,12,13](s.hn+1)(fun gg p _ _ _ _ wr=>∃(i:Nat),s.hn-i<gg/\i<=s.hn/\p=ae aj (i:Int)/\aq (az W1 wr))
  .exact⟨0,ak,ak,rfl,n⟩
  clear n;obtain⟨m,dw,hm,rfl,n⟩:=hrel;have⟨_,_,_,_,_,_,_,_,_,_,g,e⟩:=(T.o.ar n.o T.o.lt).ns;clear g;by_cases hlm:m<s.hn;rotate_left
  .have i5:¬(m:Int)<(s.hn:Int):=by omega
   go_wp2;go_ret;exact⟨_,rfl,B1.o.trans (n.o.mono B1.o.size)⟩
  have i5:(m:Int)<(s.hn:Int):=ak;obtain⟨ad,x,eH,hx,D,e1⟩:=Qb (RS.o.Z n.o n.o.size).rH hlm;rw[eH]at e;have SH:=sH eH;clear eH;have⟨o,bU⟩:=eX (wr.alloc (.cells #[ae aj x.gl,.slice x.S x.sn x.sc] 337));have d:az wr o:=jx;have C:aq (Bx o wr.heap.size #[ae aj x.gl,.slice x.S x.sn x.sc]):=⟨mf⟩;have B2:=n.t d;have RX:=sH (hx.rS.Z d d.size);have Ay:=hx.rS.bd;have M:=sH (R.o.Z B2.o B2.o.size);have r:=au e d;have⟨X,_⟩:=(X2.o.ar B2.o X2.o.lt).k4;go_upto_region 14 with fail;rw[<-bU];clear d bU hx D e1 e;go_upto_if 83 with fail;go_cut[11](fun v wx=>(∃z:Int,v=ae aj z)/\o=wx)
  ·
   go_wp2_with fail
   all_goals
    go_meet;exact⟨⟨_,rfl⟩,rfl⟩
  obtain⟨⟨z,rfl⟩,rfl⟩:=hcut;go_upto_region 16 with fail;go_cut[112](fun v wx=>(∃b:Bool,v=.bool b)/\aq (az o wx))
  ·
   have⟨c0,S,u,Z,c4,c5⟩:=(X1.o.ar B2.o X1.o.lt).f6;have⟨L0,L1,L2,L3,L4⟩:=lc5 c0 S u Z c4;have⟨L5,P0,P1,DA⟩:=lc4 c5 (show o.cell? ⟨wr.heap.size,0,none⟩=some (ae aj x.gl)from C.o.cell 0) (show o.cell? ⟨wr.heap.size,1,none⟩=some (.slice x.S x.sn x.sc)from C.o.cell 1) r;clear c0 S u Z c4 c5 r X;rcases m with _|j
   .refine aD mkT aF aF ?_
    refine mSk ?_;refine lsA SB (fun nq=> ?_) (fun p c=> ?_)
    .go_simp
     exact bg (gM f x.gl nq.1 (M.o.Z nq.2 nq.2.size))
    obtain⟨b,rfl⟩:=c;cases b
    .exact WT
    simp[Act.put];refine mSk ?_;refine lsA SB (fun nq=> ?_) (fun p c=> ?_)
    .go_simp
     exact bg ((cI _ _ _ nq.1).mono fun _ _ h=>h.pb)
    obtain⟨b,rfl⟩:=c;cases b
    .exact WT
    simp[Act.put];refine mSk ?_
    first
     |(intro (nq:aG _);obtain⟨w6,bq⟩:=nq)
     |(rintro w6 ⟨⟨_,bq⟩,rfl⟩)
    have BX:=sH bq
    try dsimp only
    clear bq L0 L1 L2 L3 L4 L5;go_step;go_step;go_meet;exact⟨⟨_,rfl⟩,BX⟩
   .obtain⟨eJ,y,B,_,E,_⟩:=Qb (RS.o.Z B2.o B2.o.size).rH (show j<s.hn by omega)
    rw[SH.o]at B;injection B with B
    subst B;have wk:IntKind.i64.wrap ((j:Int)+1-1)=(j:Int):=yC;have k0:=ie j;have k1:(j:Int)<(s.hn:Int):=ak;have G0:=aE E;clear E;refine aD mkT aF aF ?_;refine mSk ?_;refine lsA SB (fun nq=> ?_) (fun p c=> ?_)
    .go_simp
     exact bg (gM f x.gl nq.1 (M.o.Z nq.2 nq.2.size))
    obtain⟨b,rfl⟩:=c;cases b
    .exact WT
    simp[Act.put];refine mSk ?_;refine lsA SB (fun nq=> ?_) (fun p c=> ?_)
    .go_simp
     exact bg ((cI _ _ _ nq.1).mono fun _ _ h=>h.pb)
    obtain⟨b,rfl⟩:=c;cases b
    .exact WT
    simp[Act.put];refine mSk ?_
    first
     |(intro (nq:aG _);obtain⟨w6,bq⟩:=nq)
     |(rintro w6 ⟨⟨_,bq⟩,rfl⟩)
    have BX:=sH bq
    try dsimp only
    clear bq L0 L1 L2 L3 L4 L5;go_step;go_step;go_meet;exact⟨⟨_,rfl⟩,BX⟩
  obtain⟨⟨b,rfl⟩,N⟩:=hcut;have⟨wa,G⟩:=eX wc;rw[<-G]at N;rw[<-G];clear G;have BA:=B2.t N.o;have ZA:=sH (C.o.ar N.o C.o.lt);have RA:=sH (RX.o.Z N.o N.o.size);have hza:=ZA.o.lt;clear r X N RX M;cases b;rotate_left
  .go_wp2
   go_ret;exact⟨_,rfl,B1.o.trans (BA.o.mono B1.o.size)⟩
  go_wp2;go_loopg[12,13](x.sn+1)(fun gg mN _ K=>∃(a:Nat),x.sn-a<gg/\a<=x.sn/\mN=ae aj (a:Int)/\aq (az wa K))
  .exact⟨0,ak,ak,rfl,cA⟩
  obtain⟨a,si,ha,rfl,F⟩:=hrel;have⟨wb,H⟩:=eX wr;rw[<-H]at F;rw[<-H];clear H;have BJ:=BA.t F.o;have I:=(ZA.o.ar F.o ZA.o.lt).cell 1;simp at I;by_cases hla:a<x.sn;rotate_left
  .have i6:¬(a:Int)<(x.sn:Int):=by omega
   go_wp2;go_roundg(s.hn-m)
   .exact⟨m+1,ak,ak,aT,BJ⟩
   omega
  have i6:(a:Int)<(x.sn:Int):=ak;obtain⟨vm,A2,A,k2,eS,h2,D⟩:=fi (RA.o.Z F.o F.o.size) hla;rw[eS]at I;by_cases h16:A<=16;rotate_left
  .have Y:=aU 16 A
   go_wp2;go_ret;exact⟨_,rfl,B1.o.trans (BJ.o.mono B1.o.size)⟩
  have Y:=cv 16 A;have S1:=sH I;have E0:=sH D;have R2:=sH h2;clear h2 eS;go_wp2;clear I D;go_loopg[13](A+1)(fun gg ko K=>∃(b:Nat),A-b<gg/\b<=A/\ko=ae aj (b:Int)/\aq (az wb K))
  .exact⟨0,ak,ak,rfl,cA⟩
  obtain⟨b,YO,hb,rfl,O⟩:=hrel;have I:=au S1.o O.o;have D:=au E0.o O.o;by_cases hlb:b<A;rotate_left
  .have i7:=cv b A
   go_wp2;go_roundg(x.sn-a)
   .exact⟨a+1,ak,ak,aT,⟨F.o.trans (O.o.mono F.o.size)⟩⟩
   omega
  have i7:=aU b A;obtain⟨adB,L,z1,z2,eB,E,g1,g2⟩:=GP (R2.o.Z O.o O.o.size) hlb;subst eB;have⟨L0,L1,L2,L3,L4⟩:=lc5 I D E g1 g2;go_wp2;clear I D E g1 g2;refine aD mkT aF aF ?_;refine mSk ?_;refine lsA SB (fun nq=> ?_) (fun p c=> ?_)
  .go_simp
   exact bg (jT z1 z2 L nq.1)
  obtain⟨q,rfl⟩:=c;simp[Act.put];refine mSk ?_
  first
   |(intro (nq:aG _);obtain⟨w6,bq⟩:=nq)
   |(rintro w6 ⟨⟨_,bq⟩,rfl⟩)
  have BX:=O.t bq
  try dsimp only
  clear bq L0 L1 L2 L3 L4;cases q
  .go_wp2
   go_ret;exact⟨_,rfl,B1.o.trans ((BJ.o.trans (BX.o.mono BJ.o.size)).mono B1.o.size)⟩
  .go_wp2
   go_roundg(A-b)
   .exact⟨b+1,ak,ak,aT,BX⟩
   omega
 have i4:(i:Int)<(s.mn:Int):=ak;obtain⟨ad,P,W,V,Q,eM,D,e1,e2,e3⟩:=xv (RS.o.Z n.o n.o.size).rM aK;rw[eM]at g;have SM:=sH eM;clear eM;have⟨o,bU⟩:=eX (wr.alloc (.cells #[ae aj P,ae aj W,ae aj V,ae aj Q] 334));have d:az wr o:=jx;have C:aq (Bx o wr.heap.size #[ae aj P,ae aj W,ae aj V,ae aj Q]):=⟨mf⟩;have B2:=n.t d;have M:=sH (R.o.Z B2.o B2.o.size);have⟨c0,S,u,Z,c4,c5⟩:=(X1.o.ar B2.o X1.o.lt).f6;have⟨L0,L1,L2,L3,L4,L5,P0,P1⟩:=lc8 c0 S u Z c4 c5 (show o.cell? ⟨wr.heap.size,0,none⟩=some (ae aj P)from C.o.cell 0) (show o.cell? ⟨wr.heap.size,1,none⟩=some (ae aj W)from C.o.cell 1);have⟨P2,P3,DA⟩:=lc3 (show o.cell? ⟨wr.heap.size,2,none⟩=some (ae aj V)from C.o.cell 2) (show o.cell? ⟨wr.heap.size,3,none⟩=some (ae aj Q)from C.o.cell 3) (au g d);clear e;go_wp2_with fail;rw[<-bU];clear d bU D e1 e2 e3 c0 S u Z c4 c5 g;rcases i with _|j
 .refine aD mkT aF aF ?_
  refine mSk ?_;refine lsA SB (fun nq=> ?_) (fun p c=> ?_)
  .go_simp
   exact bg (gM f P nq.1 (M.o.Z nq.2 nq.2.size))
  obtain⟨b,rfl⟩:=c;cases b
  .exact Km
  simp[Act.put];refine mSk ?_;refine lsA SB (fun nq=> ?_) (fun p c=> ?_)
  .go_simp
   exact bg ((cI W 0 15 nq.1).mono fun _ _ h=>h.pb)
  obtain⟨b,rfl⟩:=c;cases b
  .exact Km
  simp[Act.put];refine mSk ?_;refine lsA SB (fun nq=> ?_) (fun p c=> ?_)
  .go_simp
   exact bg (jT V Q true nq.1)
  obtain⟨b,rfl⟩:=c;cases b
  .exact Km
  simp[Act.put];refine mSk ?_
  first
   |(intro (nq:aG _);obtain⟨w6,bq⟩:=nq)
   |(rintro w6 ⟨⟨_,bq⟩,rfl⟩)
  have BX:=B2.t bq
  try dsimp only
  clear bq L0 L1 L2 L3 L4 L5;clear P0 P1 P2 P3 DA;go_wp2;go_roundg(s.mn-0)
  .exact⟨0+1,ak,ak,aT,BX⟩
  omega
 .obtain⟨eJ,z0,_,_,_,B,E,_⟩:=xv (RS.o.Z B2.o B2.o.size).rM (show j<s.mn by omega)
  rw[SM.o]at B;injection B with B
  subst B;have wk:IntKind.i64.wrap ((j:Int)+1-1)=(j:Int):=yC;have k0:=ie j;have k1:(j:Int)<(s.mn:Int):=ak;have G0:=aE E;clear E;refine aD mkT aF aF ?_;refine mSk ?_;refine lsA SB (fun nq=> ?_) (fun p c=> ?_)
  .go_simp
   exact bg (gM f P nq.1 (M.o.Z nq.2 nq.2.size))
  obtain⟨b,rfl⟩:=c;cases b
  .exact Km
  simp[Act.put];refine mSk ?_;refine lsA SB (fun nq=> ?_) (fun p c=> ?_)
  .go_simp
   exact bg ((cI W 0 15 nq.1).mono fun _ _ h=>h.pb)
  obtain⟨b,rfl⟩:=c;cases b
  .exact Km
  simp[Act.put];refine mSk ?_;refine lsA SB (fun nq=> ?_) (fun p c=> ?_)
  .go_simp
   exact bg (jT V Q true nq.1)
  obtain⟨b,rfl⟩:=c;cases b
  .exact Km
  simp[Act.put];refine mSk ?_
  first
   |(intro (nq:aG _);obtain⟨w6,bq⟩:=nq)
   |(rintro w6 ⟨⟨_,bq⟩,rfl⟩)
  have BX:=B2.t bq
  try dsimp only
  clear bq L0 L1 L2 L3 L4 L5;clear P0 P1 P2 P3 DA;go_wp2_with fail
  all_goals first
   |(go_roundg(s.mn-(j+1))<;>first|omega|exact⟨j+1+1,ak,ak,aT,BX⟩)
   |(go_ret;exact⟨_,rfl,B1.o.trans (BX.o.mono B1.o.size)⟩)
def rI:Prop:=∀(k:Int) (s:Sb) (w:ahh),nQ w w.heap.size s->ahk prog 278 #[ae aj k,s.v] w (PB w)
def PSu(w:ahh)(kind:Int)(s:Sb)(e:ahn)(a:ahh):Prop:=∃z:Bool,e=.returned (.bool z)/\(z=true->KU kind->s.tn=s.cn/\As w w.heap.size kind s.T s.tn)/\az w a
theorem Du{d:Nat}{lo e:Int}(h:∀i,i<d->ZO w T lo e i)(k:e<=16)(o:kind=2∨1<=lo):As w w.heap.size kind T d:=fun i b=>by
 obtain⟨a,A,n,c,g,f,j,l,m⟩:=h i b;exact⟨a,A,n,c,g,f,j,ak,ak⟩
theorem ZO.back{d:ahh}{e u i:Nat}{lo k:Int}(f:cK w w.heap.size (.arr dR) T e u)(t:az w d)(b:i<e)(h:ZO d T lo k i):ZO w T lo k i:=by
 obtain⟨a,A,n,c,g,_,r,m,s⟩:=h;obtain⟨q,l,v,p,f1,_,f3⟩:=fi f b;obtain⟨o,j,g2,_⟩:=f.2.2.2 ak;rw[f1]at g j;obtain rfl:=Option.some.inj g;obtain rfl:=Option.some.inj j;have:=au f3 t;rw[r]at this;injection this with this
 injection this with h1 h2 h3
 subst h2;exact⟨q,l,n,p,f1,g2,f3,m,s⟩
theorem acd(hB:rI)(f:cY)(k:Lk)(s:Sb)(w:ahh)(h:bZ w w.heap.size f)(M:nQ w w.heap.size s):ahk prog 240 #[f.v,k.v,s.v] w (PSu w k.kind s):=by
 have⟨W1,J⟩:=eX (((w.alloc (.cells f.row 96)).alloc (.cells k.row 161)).alloc (.cells s.row 170));obtain⟨b1,x1,x2,x3,kU⟩:=qC J;have O:=sH b1;have P:=sH x1;have W:=sH x2;have N:=sH x3;clear x1 x2 x3;have HB:=sH hB;have R:=sH (h.Z O.o O.o.size);have RS:=sH (M.Z O.o O.o.size);have S:=sH M;have hvn:=M.rV.bd;have RQ:=M.rC.bd;have⟨e0,_⟩:=W.o.k4;have⟨g0,g1,g2,g3,g4,g5,g6,g7,g8,g9,U,V⟩:=N.o.ns;clear h M b1 hB;have X:k.kind=1∨k.kind=2∨k.kind=3∨k.kind=4∨k.kind=12∨k.kind=5∨k.kind=6∨k.kind=7∨k.kind=8∨((k.kind==1)=false/\(k.kind==2)=false/\(k.kind==3)=false/\(k.kind==4)=false/\(k.kind==12)=false/\(k.kind==5)=false/\(k.kind==6)=false/\(k.kind==7)=false/\(k.kind==8)=false):=cw;obtain⟨kk,Y,st,Q,K,L⟩:=k;dsimp only at*;rcases X with rfl|rfl|rfl|rfl|rfl|rfl|rfl|rfl|rfl|⟨n1,n2,n3,n4,n5,n6,n7,n8,n9⟩
 all_goals
  go_enter func240,ntmps240;go_wp2_with fail;rw[<-J];clear J;go_wp2_with fail;refine(HB.o _ s W1 RS.o).mono ?_;rintro e D ⟨z,rfl,E⟩;have B2:=sH E;have p:=O.t E;have B:=sH (R.o.Z E E.size);have A:=sH (RS.o.Z E E.size);have⟨c0,n,b,q,c4,c5⟩:=(P.o.ar E P.o.lt).f6;have⟨k0,k1,k2,k3⟩:=(W.o.ar E W.o.lt).k4;have⟨o,r,y,m,x,j,v,l,t,u,d,c⟩:=(N.o.ar E N.o.lt).ns;clear E e0 g0 g1 g2 g3 g4 g5 g6 g7 g8 g9 U V;cases z
  .go_wp2
   go_ret;exact⟨_,rfl,uK,p.o⟩
  go_wp2_with fail
 .refine(aaS f s 1 1 D B.o A.o).mono ?_
  rintro e C ⟨z,rfl,I,a⟩;have g:=p.t a;have H:=sH I;clear I a c0 n b q c4 c5 k0 k1 k2 k3 o r y m x j v l t u d c;go_wp2;go_ret;exact⟨_,rfl,fun h _=>⟨(H.o h).1,Du (fun i G=>((H.o h).2 i G).back S.o.rT p.o G) ak (.inr ak)⟩,g.o⟩
 .refine(aaS f s 0 16 D B.o A.o).mono ?_
  rintro e C ⟨z,rfl,I,a⟩;have g:=p.t a;have H:=sH I;clear I a c0 n b q c4 c5 k0 k1 k2 k3 o r y m x j v l t u d c;go_wp2;go_ret;exact⟨_,rfl,fun h _=>⟨(H.o h).1,Du (fun i G=>((H.o h).2 i G).back S.o.rT p.o G) ak (.inl rfl)⟩,g.o⟩
 .refine(Zo f s D B.o A.o).mono ?_
  rintro e C ⟨z,rfl,a⟩;have g:=p.t a;clear a c0 n b q c4 c5 k0 k1 k2 k3 o r y m x j v l t u d c;go_wp2;go_ret;exact⟨_,rfl,uK,g.o⟩
 .refine(zE f ⟨4,Y,st,Q,K,L⟩ s D B.o A.o).mono ?_
  rintro e C ⟨z,rfl,a⟩;have g:=p.t a;clear a c0 n b q c4 c5 k0 k1 k2 k3 o r y m x j v l t u d c;go_wp2;go_ret;exact⟨_,rfl,uK,g.o⟩
 .refine(zE f ⟨12,Y,st,Q,K,L⟩ s D B.o A.o).mono ?_
  rintro e C ⟨z,rfl,a⟩;have g:=p.t a;clear a c0 n b q c4 c5 k0 k1 k2 k3 o r y m x j v l t u d c;go_wp2;go_ret;exact⟨_,rfl,uK,g.o⟩
 .refine(aaS f s 1 1 D B.o A.o).mono ?_
  rintro e C ⟨z,rfl,I,a⟩;have H:=sH I;have g:=p.t a;have R3:=sH (B.o.Z a a.size);have S3:=sH (A.o.Z a a.size);have c0:=au c0 a;have n:=au n a;have b:=au b a;have q:=au q a;have c4:=au c4 a;have c5:=au c5 a
  have m:=au m a;have j:=au j a;have k0:=au k0 a;have o:=au o a;have r:=au r a;have l:=au l a
  clear I a k1 k2 k3 y x v t u d c;cases z
  .go_wp2
   go_ret;exact⟨_,rfl,uK,g.o⟩
  have HK:=sH (H.o rfl);clear H;go_wp2_with fail;refine(mW f s.B s.bn s.bc 0 C R3.o S3.o.rB).mono ?_;rintro e w4 ⟨z,rfl,a⟩;have Z:=g.t a;have R4:=sH (R3.o.Z a a.size);have S4:=sH (S3.o.Z a a.size);have c0:=au c0 a;have n:=au n a;have b:=au b a;have q:=au q a;have c4:=au c4 a;have c5:=au c5 a
  have m:=au m a;have j:=au j a
  clear a;cases z
  .go_wp2
   go_ret;exact⟨_,rfl,uK,Z.o⟩
  go_wp2_with fail;refine(mW f s.A s.an s.ac 0 w4 R4.o S4.o.rA).mono ?_;rintro e w5 ⟨z,rfl,a⟩;have B5:=Z.t a;clear a c0 n b q c4 c5 k0 o r m j l;go_wp2;go_ret;exact⟨_,rfl,fun _ _=>⟨HK.o.1,Du (fun i G=>(HK.o.2 i G).back S.o.rT p.o G) ak (.inr ak)⟩,B5.o⟩
 .clear k0 k1 k2 k3 c0 n b q c4 c5 o l
  go_loopg[7](s.vn+1)(fun gg v7 wr=>∃(i:Nat),s.vn-i<gg/\i<=s.vn/\v7=ae aj (i:Int)/\aq (az D wr))
  .exact⟨0,ak,ak,rfl,cA⟩
  obtain⟨i,hg,G,rfl,F⟩:=hrel;have BG:=p.t F.o;have BV:=B2.t F.o;clear r y m x j v t u d c;have⟨o,r,y,m,x,j,v,l,t,u,d,c⟩:=(N.o.ar BV.o N.o.lt).ns;by_cases T:i<s.vn;rotate_left
  .have i4:¬(i:Int)<(s.vn:Int):=by omega
   have⟨c0,n,b,q,c4,c5⟩:=(P.o.ar BV.o P.o.lt).f6;go_wp2_with fail;refine(pF f s.C s.cn s.cc wr (B.o.Z F.o F.o.size) (A.o.Z F.o F.o.size).rC).mono ?_;rintro e C ⟨z,rfl,a⟩;have g:=BG.t a;have o:=au o a;have l:=au l a
   clear a c0 n b q c4 c5 r y m x j v t u d c;cases z
   .go_wp2
    go_ret;exact⟨_,rfl,uK,g.o⟩
   .go_wp2
    go_ret;exact⟨_,rfl,uK,g.o⟩
  have i4:(i:Int)<(s.vn:Int):=ak;obtain⟨ad,y0,y1,y2,eV,q0,q1,q2⟩:=Mz (A.o.Z F.o F.o.size).rV T;rw[eV]at l;clear eV o r y m x j v t u d c;go_wp2_with fail;refine(ym y0 y1 y2 wr).mono ?_;rintro e C ⟨z,rfl,a⟩;have g:=F.t a;clear a q0 q1 q2 l;cases z
  .go_wp2
   go_ret;exact⟨_,rfl,uK,p.o.trans (g.o.mono p.o.size)⟩
  go_wp2;go_roundg(s.vn-i)
  .exact⟨i+1,ak,ak,aT,g⟩
  omega
 .refine(Vt f s.P s.pn s.pc D B.o A.o.rP).mono ?_
  rintro e C ⟨z,rfl,a⟩;have g:=p.t a;clear a c0 n b q c4 c5 k0 k1 k2 k3 o r y m x j v l t u d c;go_wp2;go_ret;exact⟨_,rfl,uK,g.o⟩
 .refine(aas f s.U s.un s.uc D B.o A.o.rU).mono ?_
  rintro e C ⟨z,rfl,a⟩;have g:=p.t a;clear a c0 n b q c4 c5 k0 k1 k2 k3 o r y m x j v l t u d c;go_wp2;go_ret;exact⟨_,rfl,uK,g.o⟩
 .have hk:¬KU kk:=by unfold KU;simp at n1 n2 n6;omega
  refine(WM f ⟨kk,Y,st,Q,K,L⟩ s D B.o A.o).mono ?_;rintro e C ⟨z,rfl,a⟩;have g:=p.t a;clear a c0 n b q c4 c5 k0 k1 k2 k3 o r y m x j v l t u d c;go_wp2;go_ret;exact⟨_,rfl,fun _ h=>absurd h hk,g.o⟩
theorem As.back{e:ahh}{s:Nat}{d t:Nat}(f:cK w w.heap.size (.arr dR) T d t)(r:az w e)(h:As e s kind T d):As w w.heap.size kind T d:=fun i b=>by
 obtain⟨a,A,n,c,g,_,q,l⟩:=h i b;obtain⟨p,k,u,o,f1,_,f3⟩:=fi f b;obtain⟨m,j,g2,_⟩:=f.2.2.2 ak;rw[f1]at g j;obtain rfl:=Option.some.inj g;obtain rfl:=Option.some.inj j;have:=au f3 r;rw[q]at this;injection this with this
 injection this with h1 h2 h3
 subst h2;exact⟨p,k,n,o,f1,g2,f3,l⟩
def SSu(w:ahh)(kind:Int)(s:Sb)(v:ahj):Prop:=∃z:Bool,v=.bool z/\(z=true->KU kind->s.tn=s.cn/\As w w.heap.size kind s.T s.tn)
theorem I8{w0:ahh}{n:aG w0}{f:FuncId}{args:Array ahj}{s:Sb}(g:cK w w.heap.size (.arr dR) s.T s.tn s.tc)(i:az w n.1)(h:ahk prog f args n.1 (PSu n.1 kind s)):ahk prog f args n.1 fun e a=>∃v,e=.returned v/\SSu w kind s v/\∃m:aG w0,a=m.1:=
 h.mono fun e a ⟨z,c,b,d⟩=>⟨_,c,⟨z,rfl,fun e k=>⟨(b e k).1,(b e k).2.back g i⟩⟩,⟨⟨a,n.2.trans (d.mono n.2.size)⟩,rfl⟩⟩
def PLs(w:ahh)(f:cY)(e:ahn)(a:ahh):Prop:=∃z:Bool,e=.returned (.bool z)/\(z=true->KO w w.heap.size f)/\az w a
def abY(w:ahh)(f:cY)(j:Nat):Prop:=∃(a:Addr) (k:Lk),f.L=some a/\a.block<w.heap.size/\w.cell? (a.add (j*4))=some (ae aj k.kind)/\w.cell? (bP (a.add (j*4)) 1)=some (ae aj k.flags)/\w.cell? (bP (a.add (j*4)) 2)=some (ae aj k.set)/\w.cell? (bP (a.add (j*4)) 3)=some (.slice k.S k.sn k.sc)/\Bz w w.heap.size k
def acm(w:ahh)(k:Lk)(j:Nat):Prop:=KU k.kind->∃(a:Addr) (C:aA) (b d:Nat) (T:aA) (c:Nat),k.S=some a/\a.block<w.heap.size/\w.cell? (a.add (j*12))=some (.slice C b d)/\w.cell? (bP (a.add (j*12)) 1)=some (.slice T b c)/\As w w.heap.size k.kind T b
theorem Jf(hB:rI)(f:cY)(w:ahh)(h:bZ w w.heap.size f):ahk prog 180 #[f.v] w (PLs w f):=by
 have⟨W1,r,D,A⟩:=box1 w f.row 96;have HB:=sH hB;have R0:=sH h;have R:=sH (h.Z D.o D.o.size);have G:=h.rL.bd;have ox:=h.rS.bd;have⟨c0,x,c,u,c4,c5⟩:=A.o.f6;clear h hB;by_cases q1:f.ln<=64;rotate_left
 .have J0:(64:Int)<(f.ln:Int):=by omega
  go_enter func180,ntmps180;go_wp2_with fail;rw[<-r];clear r;go_wp2;go_ret;exact⟨_,rfl,aQ,D.o⟩
 have J0:¬(64:Int)<(f.ln:Int):=ak;go_enter func180,ntmps180;go_upto_region 3 with fail;rw[<-r];clear r;go_wp2;go_loopg[3,4,5](f.ln+1)(fun gg v3 _ _ wr=>∃(i:Nat),f.ln-i<gg/\i<=f.ln/\v3=ae aj (i:Int)/\aq (az W1 wr)/\aq (∀j,j<i->abY w f j))
 .exact⟨0,ak,ak,rfl,cA,⟨fun j hj=>by omega⟩⟩
 obtain⟨i,hg,hi,rfl,BE,LA⟩:=hrel;clear c0 x c u c4 c5;have L:=D.t BE.o;have⟨c0,x,c,u,c4,c5⟩:=(A.o.ar BE.o A.o.lt).f6;by_cases aK:i<f.ln;rotate_left
 .have i4:¬(i:Int)<(f.ln:Int):=by omega
  go_wp2;go_ret;exact⟨_,rfl,fun _ j hj=>LA.o j ak,L.o⟩
 have i4:(i:Int)<(f.ln:Int):=ak;obtain⟨ad,k,Z,B,e0,e1,Y,T⟩:=rD R0.o.rL aK;have O:ad.block<w.heap.size:=by
  obtain⟨ik,M,hl,_⟩:=R0.o.rL.2.2.2 ak;rw[Z]at M;obtain rfl:=Option.some.inj M;exact hl
 have LI:aq (Bz w w.heap.size k->abY w f i):=⟨fun h=>⟨ad,k,Z,O,e0,e1,Y,T,h⟩⟩;have e0:=au e0 L.o;have e1:=au e1 L.o;have Y:=au Y L.o;have T:=au T L.o
 rw[Z]at u;have SK:=sH B.rS;have oR:=B.rS.bd;clear Z O B;obtain⟨p,I,st,E,a,g⟩:=k;dsimp only at*;have⟨J,bU⟩:=eX (wr.alloc (.cells (Lk.row ⟨p,I,st,E,a,g⟩) 161));have N:az wr J:=jx;have Z2:aq (Bx J wr.heap.size (Lk.row ⟨p,I,st,E,a,g⟩)):=⟨mf⟩;have B2:=BE.t N;have m:=D.t B2.o;have eQ:=Z2.o.lt;have⟨k0,k1,k2,k3⟩:=Z2.o.k4;go_upto_region 7 with fail;rw[<-bU];clear N bU e0 e1 Y T c0 x c u c4 c5;go_cut[50](fun v wx=>(∃b:Bool,v=.bool b)/\J=wx)
 ·
  go_wp2_with fail;refine(yg _ _).mono ?_;rintro e _ ⟨q,rfl,rfl⟩;by_cases U:q=0
  .have Ry:(q==0)=true:=by simp[U]
   clear U;go_wp2;go_meet;exact⟨⟨_,rfl⟩,rfl⟩
  have Ry:(q==0)=false:=by simp[U]
  clear U;go_wp2_with fail;refine(cI _ _ _ _).mono ?_;rintro e _ ⟨z,rfl,_,rfl⟩;cases z
  .go_wp2
   go_meet;exact⟨⟨_,rfl⟩,rfl⟩
  go_wp2_with fail
  all_goals
   go_meet;exact⟨⟨_,rfl⟩,rfl⟩
 obtain⟨⟨b,rfl⟩,rfl⟩:=hcut;cases b;rotate_left
 .go_wp2
  go_ret;exact⟨_,rfl,aQ,m.o⟩
 have⟨c0,x,c,u,c4,c5⟩:=(A.o.ar B2.o A.o.lt).f6;go_upto_region 9 with fail;go_cut[77](fun v wx=>(∃b:Bool,v=.bool b)/\J=wx)
 ·
  go_wp2_with fail
  all_goals first
   |(refine(cI _ _ _ _).mono ?_;rintro e _ ⟨z,rfl,_,rfl⟩;cases z<;>(go_wp2_with fail;all_goals(go_meet;exact⟨⟨_,rfl⟩,rfl⟩)))
   |(go_meet;exact⟨⟨_,rfl⟩,rfl⟩)
 obtain⟨⟨b,rfl⟩,rfl⟩:=hcut;cases b;rotate_left
 .go_wp2
  go_ret;exact⟨_,rfl,aQ,m.o⟩
 go_wp2;clear c0 x c u c4 c5 k0 k1 k2 k3;go_loopg[5](a+1)(fun gg v5 JK=>∃(n:Nat),a-n<gg/\n<=a/\v5=ae aj (n:Int)/\aq (az J JK)/\aq (∀j,j<n->acm w ⟨p,I,st,E,a,g⟩ j))
 .exact⟨0,ak,ak,rfl,cA,⟨fun j hj=>by omega⟩⟩
 obtain⟨n,dw,hn,rfl,BK,LN⟩:=hrel;have⟨wq,y⟩:=eX wr;rw[<-y]at BK;rw[<-y];clear y;have BX:=B2.t BK.o;have d:=D.t BX.o;have⟨k0,k1,k2,k3⟩:=(Z2.o.ar BK.o eQ).k4;dsimp only at k0 k1 k2 k3;by_cases G:n<a;rotate_left
 .have i5:=cv n a
  have LF:=sH (LI.o fun B j hj=>LN.o j (by have:j<a:=hj;omega) B);go_wp2;go_roundg(f.ln-i)
  .exact⟨i+1,ak,ak,aT,BX,⟨mS LA.o LF.o⟩⟩
  omega
 have i5:=aU n a;obtain⟨l,s,Q,hs,F,C,g2,S,g4,g5,W,V,g8,X,t,o⟩:=jk SK.o G;have H:l.block<w.heap.size:=by
  obtain⟨ik,M,hl,_⟩:=SK.o.2.2.2 ak;rw[Q]at M;obtain rfl:=Option.some.inj M;exact hl
 have LB:aq ((KU p->s.tn=s.cn/\As w w.heap.size p s.T s.tn)->acm w ⟨p,I,st,E,a,g⟩ n):=⟨fun h B=>by
  obtain⟨h1,h2⟩:=h B;rw[h1]at h2 C;exact⟨l,s.C,s.cn,s.cc,s.T,s.tc,Q,H,F,C,h2⟩⟩
 have HT:=sH hs.rT;have HS:=sH hs;have F:=au F d.o;have C:=au C d.o;have g2:=au g2 d.o;have S:=au S d.o;have g4:=au g4 d.o;have g5:=au g5 d.o;have W:=au W d.o;have V:=au V d.o;have g8:=au g8 d.o;have X:=au X d.o;have t:=au t d.o;have o:=au o d.o
 clear hs H;have Q:E=some l:=Q;subst Q;have⟨c0,x,c,u,c4,c5⟩:=(A.o.ar BX.o A.o.lt).f6;go_wp2;have⟨L0,L1,L2,L3,L4,L5,K0,K1⟩:=lc8 c0 x c u c4 c5 k0 k1;have⟨K2,K3,G0,G1,G2,G3,G4,G5⟩:=lc8 k2 k3 F C g2 S g4 g5;have⟨G6,G7,G8,G9,G10,G11⟩:=lc6 W V g8 X t o;clear c0 x c u c4 c5 k0 k1 k2 k3 F C g2 S g4 g5 W V g8 X t o;refine aD (kF 92 (SSu w p s)) aF aF ?_;refine mSk ?_;refine lsA (SSu w p s) (fun K=> ?_) (fun v9 aV=> ?_)
 .go_simp
  have P:az w K.1:=d.o.trans (K.2.mono d.o.size);exact I8 HT.o P (acd HB.o f ⟨p,I,st,some l,a,g⟩ s K.1 (R0.o.Z P P.size) (HS.o.Z P P.size))
 obtain⟨z,rfl,hz⟩:=aV;have HZ:=sH hz;clear hz;simp[Act.put];refine mSk ?_
 first
  |(intro (K:aG _);obtain⟨w6,bq⟩:=K)
  |(rintro w6 ⟨⟨_,bq⟩,rfl⟩)
 have BY:=BK.t bq
 try dsimp only
 clear bq L0 L1 L2 L3 L4 L5 K0 K1 K2 K3 G0 G1 G2 G3 G4 G5 G6 G7 G8 G9 G10 G11;cases z
 .go_wp2
  go_ret;exact⟨_,rfl,aQ,m.o.trans (BY.o.mono m.o.size)⟩
 .have LX:=sH (LB.o (HZ.o rfl))
  go_wp2;go_roundg(a-n)
  .exact⟨n+1,ak,ak,aT,BY,⟨mS LN.o LX.o⟩⟩
  omega
def PFt(w:ahh)(f:cY)(e:ahn)(a:ahh):Prop:=∃z:Bool,e=.returned (.bool z)/\(z=true->R' w w.heap.size f)/\az w a
def adf(w:ahh)(f:cY)(j:Nat):Prop:=∃(a:Addr) (A:aA) (n c:Nat),f.F=some a/\a.block<w.heap.size/\w.cell? (bP (a.add (j*3)) 2)=some (.slice A n c)/\n<=64
theorem Uo{b:Nat}{z:ByteArray}{x:Int}{A:aA}{n c:Nat}(h:Bx w b (oU z x A n c)):w.cell? ⟨b,0,none⟩=some (.string z)/\w.cell? ⟨b,1,none⟩=some (ae aj x)/\w.cell? ⟨b,2,none⟩=some (.slice A n c):=⟨h.cell 0,h.cell 1,h.cell 2⟩
theorem Td(f:cY)(w:ahh)(h:bZ w w.heap.size f):ahk prog 181 #[f.v] w (PFt w f):=by
 have⟨W1,l,B1,B⟩:=box1 w f.row 96;have V:=sH h;have RO:=h.rF.bd;have vX:=h.rL.bd;have⟨c0,t,a,r,c4,c5⟩:=B.o.f6;clear h;by_cases q1:f.fn<=64;rotate_left
 .have J0:(64:Int)<(f.fn:Int):=by omega
  go_enter func181,ntmps181;go_wp2_with fail;rw[<-l];clear l;go_wp2;go_ret;exact⟨_,rfl,aQ,B1.o⟩
 have J0:¬(64:Int)<(f.fn:Int):=ak;go_enter func181,ntmps181;go_upto_region 3 with fail;rw[<-l];clear l;go_wp2;go_loopg[3,4,5,6,7](f.fn+1)(fun gg v3 _ _ _ _ wr=>∃(i:Nat),f.fn-i<gg/\i<=f.fn/\v3=ae aj (i:Int)/\aq (az W1 wr)/\aq (∀j,j<i->adf w f j))
 .exact⟨0,ak,ak,rfl,cA,⟨fun j hj=>by omega⟩⟩
 obtain⟨i,hg,hi,rfl,BE,LA⟩:=hrel;clear c0 t a r c4 c5;have T:=B1.t BE.o;have⟨c0,t,a,r,c4,c5⟩:=(B.o.ar BE.o B.o.lt).f6;by_cases W:i<f.fn;rotate_left
 .have i4:¬(i:Int)<(f.fn:Int):=by omega
  go_wp2;go_ret;exact⟨_,rfl,fun _=>⟨q1,fun j hj=>LA.o j ak⟩,T.o⟩
 have i4:(i:Int)<(f.fn:Int):=ak;obtain⟨ad,z,x1,o,b,U,K,hL,p,F,S⟩:=sT V.o.rF W;have O:ad.block<w.heap.size:=by
  obtain⟨ik,e',hl,_⟩:=V.o.rF.2.2.2 ak;rw[K]at e';obtain rfl:=Option.some.inj e';exact hl
 have LI:aq (b<=64->adf w f i):=⟨fun h=>⟨ad,o,b,U,K,O,S,h⟩⟩;have EF:=sH K;have p:=au p T.o;have F:=au F T.o;have S:=au S T.o
 rw[K]at c4;have SK:=sH hL;have oR:=hL.bd;clear K O hL;have⟨W2,bU⟩:=eX (wr.alloc (.cells (oU z x1 o b U) 249));have N:az wr W2:=jx;have Z2:aq (Bx W2 wr.heap.size (oU z x1 o b U)):=⟨mf⟩;have B2:=BE.t N;have c:=B1.t B2.o;have Y:=Z2.o.lt;obtain⟨k0,k1,k2⟩:=Uo Z2.o;go_upto_region 7 with fail;rw[<-bU];clear N bU p F S c0 t a r c4 c5;by_cases Z:z.size=4;rotate_left
 .have Wn:((z.size:Int) !=4)=true:=by simp;omega
  clear Z;go_wp2;go_ret;exact⟨_,rfl,aQ,c.o⟩
 have Wn:((z.size:Int) !=4)=false:=cw;have H4:=sH Z;clear Z;go_wp2_with fail;refine(cI _ _ _ _).mono ?_;rintro e _ ⟨q,rfl,_,rfl⟩;cases q
 .go_wp2
  go_ret;exact⟨_,rfl,aQ,c.o⟩
 by_cases h64:b<=64;rotate_left
 .have J:=aU 64 b
  go_wp2;go_ret;exact⟨_,rfl,aQ,c.o⟩
 have J:=cv 64 b;have LX:=sH (LI.o h64);go_wp2_with fail;refine(xV o b U W2 (SK.o.Z c.o c.o.size)).mono ?_;rintro e w3 ⟨q,rfl,Q⟩;have BK:=sH Q;have E:=c.t Q;have H:=sH (Z2.o.ar Q Y);clear Q k0 k1 k2;cases q
 .go_wp2
  go_ret;exact⟨_,rfl,aQ,E.o⟩
 obtain⟨k0,k1,k2⟩:=Uo H.o;have XD:=H4.o;go_wp2;go_loopg[5] 5 (fun gg v5 k=>∃(n:Nat),4-n<gg/\n<=4/\v5=ae aj (n:Int)/\k=w3)
 .exact⟨0,ak,ak,rfl,rfl⟩
 obtain⟨n,dw,hn,rfl,rfl⟩:=hrel;by_cases hn4:n<4
 .have i5:(n:Int)<4:=by omega
  have i6:n<z.size:=ak;go_wp2_with fail
  all_goals first
   |(go_roundg(4-n)<;>first|omega|exact⟨n+1,ak,ak,aT,rfl⟩)
   |(go_ret;exact⟨_,rfl,aQ,E.o⟩)
 .have i5:¬(n:Int)<4:=by omega
  go_wp2;have⟨w4,x⟩:=eX wr;rw[<-x]at BK E H;rw[<-x];clear x k0 k1 k2 XD;have M:=H.o.lt;have B3:=B2.t BK.o;go_loopg[6](b+1)(fun gg v6 k=>∃(m:Nat),b-m<gg/\m<=b/\v6=ae aj (m:Int)/\aq (az w4 k))
  .exact⟨0,ak,ak,rfl,cA⟩
  obtain⟨m,si,hm,rfl,u⟩:=hrel;have d:=E.t u.o;have C:=B3.t u.o;obtain⟨k0,k1,k2⟩:=Uo (H.o.ar u.o M);have⟨c0,t,a,r,c4,c5⟩:=(B.o.ar C.o B.o.lt).f6;by_cases X:m<b
  .have i6:=aU m b
   obtain⟨qd,y,rfl,p⟩:=gT (SK.o.Z d.o d.o.size) X;go_wp2;have wk:IntKind.i64.wrap ((f.ln:Int)-1)=(f.ln:Int)-1:=IntWalk.i64_in _ ak;have⟨L0,L1,R⟩:=lc3 k2 p r;clear c0 t a r c4 c5 k0 k1 k2 p;refine aD (kF 78 SB) aF aF ?_;refine mSk ?_;refine lsA SB (fun s=> ?_) (fun v9 A=> ?_)
   .go_simp
    exact bg ((cI _ _ _ s.1).mono fun _ _ h=>h.pb)
   obtain⟨q,rfl⟩:=A;simp[Act.put];refine mSk ?_
   first
    |(intro (s:aG _);obtain⟨G,g⟩:=s)
    |(rintro G ⟨⟨_,g⟩,rfl⟩)
   have D:=u.t g
   try dsimp only
   clear g wk L0 L1 R;cases q
   .go_wp2
    go_ret;exact⟨_,rfl,aQ,E.o.trans (D.o.mono E.o.size)⟩
   .go_wp2
    go_roundg(b-m)
    .exact⟨m+1,ak,ak,aT,D⟩
    omega
  .have i6:=cv m b
   go_wp2;have⟨w5,v⟩:=eX wr;rw[<-v]at u d C;rw[<-v];clear v c0 t a r c4 c5 k0 k1 k2;go_loopg[7](i+1)(fun gg v7 k=>∃(j:Nat),i-j<gg/\j<=i/\v7=ae aj (j:Int)/\aq (az w5 k))
   .exact⟨0,ak,ak,rfl,cA⟩
   obtain⟨j,YO,hj,rfl,L⟩:=hrel;have I:=C.t L.o;have P:=d.t L.o;by_cases Vy:j<i;rotate_left
   .have i7:=cv j i
    go_wp2;go_roundg(f.fn-i)
    .exact⟨i+1,ak,ak,aT,I,⟨mS LA.o LX.o⟩⟩
    omega
   have i7:=aU j i;have i8:(j:Int)<(f.fn:Int):=ak;obtain⟨k0,k1,k2⟩:=Uo ((H.o.ar u.o M).ar L.o (by have:=u.o.size;omega));have⟨c0,t,a,r,c4,c5⟩:=(B.o.ar I.o B.o.lt).f6;obtain⟨Ut,z3,x3,_,_,_,eA,_,p,F,_⟩:=sT (V.o.Z P.o P.o.size).rF (show j<f.fn by omega);rw[eA]at c4;clear eA;go_wp2;have⟨L0,L1,R,L3,L4⟩:=lc5 k0 k1 c4 p F;clear c0 t a r c4 c5 k0 k1 k2 p F;refine aD (kF 93 SB) aF aF ?_;refine mSk ?_;refine lsA SB (fun s=> ?_) (fun v9 A=> ?_)
   .go_simp
    exact⟨_,rfl⟩
   obtain⟨q,rfl⟩:=A;cases q
   .simp[Act.put]
    refine mSk ?_
    first
     |(intro (s:aG _);obtain⟨G,g⟩:=s)
     |(rintro G ⟨⟨_,g⟩,rfl⟩)
    have D:=L.t g
    try dsimp only
    clear g L0 L1 R L3 L4;go_wp2;go_roundg(i-j)
    .exact⟨j+1,ak,ak,aT,D⟩
    omega
   .simp[Act.put]
    refine mSk ?_
    first
     |(intro (s:aG _);obtain⟨G,g⟩:=s)
     |(rintro G ⟨⟨_,g⟩,rfl⟩)
    have D:=L.t g
    try dsimp only
    clear g L0 L1 R L3 L4;go_wp2_with fail
    all_goals first
     |(go_roundg(i-j)<;>first|omega|exact⟨j+1,ak,ak,aT,D⟩)
     |(go_ret;exact⟨_,rfl,aQ,d.o.trans (D.o.mono d.o.size)⟩)
def PCk(w:ahh)(f:cY)(e:ahn)(a:ahh):Prop:=∃z:Int,e=.returned (ae aj z)/\(z=0->FOk w w.heap.size f)/\az w a
theorem R'.back{b:ahh}{f:cY}(e:cK w w.heap.size FR f.F f.fn f.fc)(q:az w b)(h:R' b b.heap.size f):R' w w.heap.size f:=⟨h.1,fun j g=>by
 obtain⟨a,A,n,c,d,_,l,r⟩:=h.2 j g;obtain⟨p,z,t,k,s,o,f1,_,_,_,f2⟩:=sT e g;obtain⟨m,i,g2,_⟩:=e.2.2.2 ak;rw[f1]at d i;obtain rfl:=Option.some.inj d;obtain rfl:=Option.some.inj i;have:=au f2 q;rw[l]at this;injection this with this
 injection this with _ h5 _
 subst h5;exact⟨p,k,n,o,f1,g2,f2,r⟩⟩
theorem KO.back{o:ahh}{f:cY}(D:cK w w.heap.size Az f.L f.ln f.lc)(e:az w o)(h:KO o o.heap.size f):KO w w.heap.size f:=fun j F=>by
 obtain⟨a,k,B,_,I,h4,h5,N,X⟩:=h j F;obtain⟨Q,x,f1,A,f2,f3,f4,f5⟩:=rD D F;obtain⟨Y,H,g2,_⟩:=D.2.2.2 ak;rw[f1]at B H;obtain rfl:=Option.some.inj B;obtain rfl:=Option.some.inj H;refine⟨Q,x,f1,g2,f2,f3,f4,f5,fun hk i t=> ?_⟩;have q:=au f2 e;have p:=au f5 e
 rw[I]at q;rw[N]at p;obtain⟨kk,fl,st,S,sn,sc⟩:=x;obtain⟨J,W,K,v,c,R⟩:=k;simp at q p;obtain⟨e1,L,O⟩:=p;subst q;subst e1;subst L;subst O
 obtain⟨G,C,V,cc,T,tc,m,_,Z,P,E⟩:=X hk i t;obtain⟨u,s,g,M,y,z,_⟩:=jk A.rS t;obtain⟨d,l,t2,_⟩:=A.rS.2.2.2 (by have:i<c:=t;show 0<c;omega);have m:v=some G:=m;have g:v=some u:=g;have l:v=some d:=l;rw[m]at g l;obtain rfl:=Option.some.inj g;obtain rfl:=Option.some.inj l;have r:=au y e;have n:=au z e
 rw[Z]at r;rw[P]at n;simp at r n;obtain⟨u1,u2,u3⟩:=r;obtain⟨U,v2,v3⟩:=n;refine⟨G,s.C,V,s.cc,s.T,s.tc,m,t2,by rw[y,u2],by rw[z,v2], ?_⟩;rw[U]at E;have b:=M.rT;rw[<-v2]at b;exact E.back b e
theorem WR(s:G:=by
 go_wp2
 go_ret;exact⟨_,rfl,aQ,B1.o⟩):G:=s
theorem US(u:rI)(f:cY)(w:ahh)(h:bZ w w.heap.size f):ahk prog 91 #[f.v] w (PCk w f):=by
 have⟨t,k,B1,x⟩:=box1 w f.row 96;have v:=sH u;have i:=sH h;have⟨c0,c,b,d,c4,c5⟩:=x.o.f6;go_enter func91,ntmps91;go_wp2_with fail;rw[<-k];clear k;go_wp2_with fail;refine(Mr f t (i.o.Z B1.o B1.o.size)).mono ?_;rintro e s ⟨z,rfl,j,a⟩;have q:=sH j;have g:=B1.t a;have c0:=au c0 a;have c:=au c a;have b:=au b a;have d:=au d a;have c4:=au c4 a;have c5:=au c5 a
 have B1:=sH g.o;cases z
 .exact WR
 go_wp2_with fail;refine(aaI f s (i.o.Z B1.o B1.o.size)).mono ?_;rintro e p ⟨z,rfl,a⟩;have g:=B1.t a;have c0:=au c0 a;have c:=au c a;have b:=au b a;have d:=au d a;have c4:=au c4 a;have c5:=au c5 a
 have B1:=sH g.o;cases z
 .exact WR
 go_wp2_with fail;have l:=sH B1.o;refine(Jf v.o f p (i.o.Z B1.o B1.o.size)).mono ?_;rintro e o ⟨z,rfl,j,a⟩;have n:=sH j;have g:=B1.t a;have c0:=au c0 a;have c:=au c a;have b:=au b a;have d:=au d a;have c4:=au c4 a;have c5:=au c5 a
 have B1:=sH g.o;cases z
 .exact WR
 go_wp2_with fail;have m:=sH B1.o;refine(Td f o (i.o.Z B1.o B1.o.size)).mono ?_;rintro e y ⟨z,rfl,j,a⟩;have r:=sH j;have g:=B1.t a;have c0:=au c0 a;have c:=au c a;have b:=au b a;have d:=au d a;have c4:=au c4 a;have c5:=au c5 a
 have B1:=sH g.o;cases z
 .exact WR
 go_wp2;go_ret;exact⟨_,rfl,fun _=>⟨q.o trivial,(r.o trivial).back i.o.rF m.o,(n.o trivial).back i.o.rL l.o⟩,B1.o⟩
theorem Tn(f:cY)(w:ahh)(h:bZ w w.heap.size f):ahk prog 36 #[f.v] w (PB w):=by
 have⟨y,g,d,m⟩:=box1 w f.row 96;have R:=sH (h.Z d.o d.o.size);have h1:=h.rG.bd;have h2:=h.rM.bd;have Z:=h.rL.bd;have h4:=h.rF.bd;have h5:=h.rS.bd
 have⟨c0,D,t,B,c4,c5⟩:=m.o.f6;go_enter func36,ntmps36;go_upto_region 1 with fail;rw[<-g];clear g;go_cut[34](fun v N=>(∃b:Bool,v=.bool b)/\y=N)
 ·
  go_wp2_with fail
  all_goals
   go_meet;exact⟨⟨_,rfl⟩,rfl⟩
 obtain⟨⟨b,rfl⟩,rfl⟩:=hcut;cases b;rotate_left
 .go_wp2
  go_ret;exact⟨_,rfl,d.o⟩
 go_wp2;go_loopg[3,4,5,6](f.ln+1)(fun gg v3 _ _ _ wr=>∃(i:Nat),f.ln-i<gg/\i<=f.ln/\v3=ae aj (i:Int)/\aq (az y wr))
 .exact⟨0,ak,ak,rfl,cA⟩
 obtain⟨i,hg,hi,rfl,c⟩:=hrel;have⟨c0,D,t,B,c4,c5⟩:=(m.o.ar c.o m.o.lt).f6;by_cases l:i<f.ln;rotate_left
 .have S:¬(i:Int)<(f.ln:Int):=by omega
  go_wp2;go_ret;exact⟨_,rfl,d.o.trans (c.o.mono d.o.size)⟩
 have S:(i:Int)<(f.ln:Int):=ak;obtain⟨ad,k,E,A,e0,e1,e2,e3⟩:=rD (R.o.Z c.o c.o.size).rL l;rw[E]at B;have x:=sH A.rS;have K:=A.rS.bd;by_cases q1:k.sn<=10;rotate_left
 .have q:(10:Int)<(k.sn:Int):=by omega
  go_wp2;go_ret;exact⟨_,rfl,d.o.trans (c.o.mono d.o.size)⟩
 have q:¬(10:Int)<(k.sn:Int):=ak;go_wp2;have⟨H,e⟩:=eX wr;rw[<-e]at c x;rw[<-e];clear e;go_loopg[5,6](k.sn+1)(fun gg M _ p=>∃(n:Nat),k.sn-n<gg/\n<=k.sn/\M=ae aj (n:Int)/\aq (az H p))
 .exact⟨0,ak,ak,rfl,cA⟩
 obtain⟨n,J,hn,rfl,j⟩:=hrel;have P:=c.t j.o;by_cases o:n<k.sn;rotate_left
 .have Q:¬(n:Int)<(k.sn:Int):=by omega
  go_wp2;go_roundg(f.ln-i)
  .exact⟨i+1,ak,ak,aT,P⟩
  omega
 have Q:(n:Int)<(k.sn:Int):=ak;obtain⟨C,s,U,a,g0,g1,g2,W,g4,g5,X,g7,g8,g9,I,L⟩:=jk (x.o.Z j.o j.o.size) o;have SE:=sH U;have⟨z,bU⟩:=eX (wr.alloc (.cells s.row 170));have r:az wr z:=jx;have O:aq (Bx z wr.heap.size s.row):=⟨mf⟩;have u:=j.t r;have j0:=a.rC.bd;have j1:=a.rT.bd;have j2:=a.rL.bd;have j3:=a.rB.bd;have j4:=a.rJ.bd;have j5:=a.rA.bd;have j6:=a.rN.bd;have j7:=a.rV.bd;have j8:=a.rP.bd;have j9:=a.rU.bd;have F:=a.rM.bd;have T:=a.rH.bd
 have⟨d0,Y,d2,d3,d4,d5,d6,d7,d8,d9,V,G⟩:=O.o.ns;go_upto_region 13 with fail;rw[<-bU];clear bU;go_wp2_with fail
 all_goals first
  |(go_roundg(k.sn-n)<;>first|omega|exact⟨n+1,ak,ak,aT,u⟩)
  |(go_ret;exact⟨_,rfl,d.o.trans ((c.o.trans (u.o.mono c.o.size)).mono d.o.size)⟩)
end Go.Proofs.YtklncadpkniojaaGreatDoor
