/- Part of LineCovers. -/
import Derived.Test.YtklncadpkniojaaGreatDoorAB
import Derived.Deep.MidRow
namespace Go.Proofs.YtklncadpkniojaaGreatDoor
open Go.ChangeShapes Go.WideShapes Go.ChangeAt Go.RowKit Go.Proofs.Tryz
open Go renaming World->ahh,Value->ahj,Calls->ahk,TypeId->ahm,Ending->ahn,Program->aho
open Go.RowKit renaming Below->ahi,wrap64->ahl
open Go.Value renaming int->ae
open Go.IntKind renaming i64->aj
set_option linter.all false
set_option maxRecDepth 100000
set_option maxHeartbeats 16000000
variable{B b c g i j n u:Nat}{K Q:(ahh->Prop)->Act->Prop}{A:aA}{w w0:ahh}{f:cY}{at_:Int}{a:Act}{G:ahj->(ahh->Prop)->ahh->Prop}{cs:Array ahj}{o:Oper}{E:ahh->Prop}{Q':Exit->Act->ahh->Prop}{V:ahj->Prop}{rest:List Oper}
def Ho(B:Nat)(Q:List aC->Prop)(N:Nat):Sat:=⟨fun v w=>∃(A:aA) (m c x:Nat) (b:Bool),v=.tuple #[.slice A m c,ae aj (x:Int),.bool b]/\(b=true->m<=N/\x<=1000000/\fR w B Q A m c),fun v w g ⟨A,m,c,x,b,f,a⟩ d=>⟨A,m,c,x,b,f,fun e=>⟨(a e).1,(a e).2.1,(a e).2.2.ar d⟩⟩⟩
theorem Ho.get{Q:List aC->Prop}{N:Nat}{m x:Nat}{b:Bool}(h:(Ho B Q N).p (.tuple #[.slice A m c,ae aj (x:Int),.bool b]) w):b=true->m<=N/\x<=1000000/\fR w B Q A m c:=by
 obtain⟨o,k,c',i,l,e,h⟩:=h;simp at e;obtain⟨⟨f,j,d⟩,n,g⟩:=e;have a:x=i:=ak;subst a;subst f;subst j;subst d;subst g
 exact h
def ZRp(B:Nat)(Q:List aC->Prop)(n:Nat):Sat:=⟨fun v w=>∃(A:aA) (c:Nat) (b:Bool),v=.tuple #[.slice A n c,.bool b]/\fR w B Q A n c,fun v w f ⟨A,c,b,d,e⟩ a=>⟨A,c,b,d,e.ar a⟩⟩
theorem ZRp.get{Q:List aC->Prop}{b:Bool}(h:(ZRp B Q n).p (.tuple #[.slice A n c,.bool b]) w):fR w B Q A n c:=by
 obtain⟨i,c',g,e,h⟩:=h;simp at e;obtain⟨⟨a,f⟩,d⟩:=e;subst a;subst f;subst d
 exact h
theorem RB.imp{Q:List aC->Prop}{i rv':Prop}{e:ahn}{d:ahh}(h:RB w g f u Q n at_ i e d)(o:rv'->i):RB w g f u Q n at_ rv' e d:=by
 obtain⟨A,m,c,x,b,q,j,p,k,l,a⟩:=h;exact⟨A,m,c,x,b,q,j,p,k,l,fun e=>⟨(a e).1,(a e).2.1,fun r=>(a e).2.2.1 (o r),(a e).2.2.2⟩⟩
theorem RB.Z{i:ahh}{Q:List aC->Prop}{d:Prop}{e:ahn}{a:ahh}(h:RB i g f u Q n at_ d e a)(o:cW g w i):RB w g f u Q n at_ d e a:=by
 obtain⟨A,m,c,x,b,r,j,q,k,p,l⟩:=h;exact⟨A,m,c,x,b,r,j,q,k,o.trans p,l⟩
theorem lQ{a:ahh}{Q:List aC->Prop}{c:Prop}(h:Mc a g f u)(b:cW g w a):RB w g f u Q n at_ c (.returned (.tuple #[.slice none 0 0,ae aj 0,.bool false])) a:=
 ⟨none,0,0,0,false,u,rfl,Nat.le_refl _,h,b,aQ⟩
theorem abG{G:Prop}(s:G:=by
 have hx6:=(OE.o rfl).2.1
 have BU:=(Bu.own (OE.o rfl).2.2 ak hm).kS ((cW.refl g w4).set 6 (ae aj ((u:Int)+1)));have BS:=sH BU;clear BU;go_wp2;go_ret3;exact⟨A6,m6,c6,x6,true,u+1,rfl,ak,MN.o.set h6,B4.o.set 6 _,fun _=>⟨ak,BS.o,fun r=>by have:=HK5.o r;omega,hx6,ak,ak⟩⟩):G:=s
theorem Xt{G:Prop}(s:G:=by
 go_wp2
 go_ret3;exact lQ MN.o B4.o):G:=s
theorem kJ(d:Nat)(hd:d<=9)(H:d<=8->tC (d+1)):tC d:=by
 intro g f u lo D lk at_ A n c rv w h hl hr;have HO:=sH H;have M:=sH h;have BL:=sH hl;have RV:=sH hr;have hn:=hl.nn;have YT:=h.bx.lt;have hu:=h.hu;have vX:=h.fr.rL.bd;clear H h hl hr;obtain⟨m0,m1,m2,m3,m4,m5,m6⟩:=M.o.m7;by_cases h1:lk<0
 .go_enter func289,ntmps289
  go_wp2;go_ret3;exact lQ M.o (cW.refl _ _)
 obtain⟨j,rfl⟩:∃j:Nat,lk=(j:Int):=⟨lk.toNat,ak⟩;by_cases h2:j<f.ln;rotate_left
 .have Dl:(f.ln:Int)<=(j:Int):=by omega
  go_enter func289,ntmps289;go_wp2;go_ret3;exact lQ M.o (cW.refl _ _)
 have Dl:¬(f.ln:Int)<=(j:Int):=ak;by_cases h3:at_<0
 .go_enter func289,ntmps289
  go_wp2;go_ret3;exact lQ M.o (cW.refl _ _)
 obtain⟨a,rfl⟩:∃a:Nat,at_=(a:Int):=⟨at_.toNat,ak⟩;by_cases h4:a<n;rotate_left
 .have Wn:(n:Int)<=(a:Int):=by omega
  go_enter func289,ntmps289;go_wp2;go_ret3;exact lQ M.o (cW.refl _ _)
 have Wn:¬(n:Int)<=(a:Int):=ak;by_cases h5:d<=8;rotate_left
 .have h5':=aU 8 d
  go_enter func289,ntmps289;go_wp2;go_ret3;exact lQ M.o (cW.refl _ _)
 have h5':=cv 8 d;by_cases h6:u<65536;rotate_left
 .have h6':(65536:Int)<=(u:Int):=by omega
  go_enter func289,ntmps289;go_wp2;go_ret3;exact lQ M.o (cW.refl _ _)
 have h6':¬(65536:Int)<=(u:Int):=ak;clear h1 h3;obtain⟨E,k,eL,hk,e0,e1,e2,e3⟩:=rD M.o.fr.rL h2;have KC:aq (Bz w g k):=⟨M.o.ls.at h2 eL e0 e1 e2 e3⟩;have RK:aq (mA w g k):=⟨hk⟩;have HK5:aq (rv->k.kind=5):=⟨fun r=>RV.o r j E k.kind rfl h2 eL e0⟩;obtain⟨R,G,U,Z,X,Q,Y,L,J,lc,F,W,V,S,T,sc⟩:=f;obtain⟨I,fl,st,KS,s,t⟩:=k;dsimp only at*;subst eL;have⟨W2,bU⟩:=eX (w.alloc (.cells (Lk.row ⟨I,fl,st,KS,s,t⟩) 161));have B2:aq (az w W2):=⟨jx⟩;have X2:aq (Bx W2 w.heap.size (Lk.row ⟨I,fl,st,KS,s,t⟩)):=⟨mf⟩;have ij:W2.heap.size=w.heap.size+1:=by rw[bU];simp
 have M2:=sH (M.o.Z B2.o);have T8:=sH (BL.o.kS (cW.of B2.o));have po:=aU j J;have IJ:=aU a n;go_enter func289,ntmps289;go_wp2;rw[<-bU];clear bU m0 m1 m2 m3 m4 m5 m6 e0 e1 e2 e3;obtain⟨m0,m1,m2,m3,m4,m5,m6⟩:=M2.o.m7;have⟨q,m,p,o⟩:=X2.o.k4;dsimp only at m0 m1 m2 m3 m4 m5 m6 q m p o;obtain⟨qd,x0,x1,x2,x3,x4,x5,x6,x7,x8,x9,rfl,hQ,y,_⟩:=T8.o.gl.iX.bD h4;have⟨L0,L1,L2,L3,L4,L5,M0,M1⟩:=lc8 m0 m1 m2 m3 m4 m5 q m;have⟨v,M3,LQ⟩:=lc3 p o y;clear m0 m1 m2 m3 m4 m5 m6 q m p o y hQ;refine aD (kF 73 SB) aF aF ?_
 repeat(refine cF aB aB aB ?_;intro K9 di;go_big_quiet_op;go_big_quiet_on)
 refine lsA SB (fun nq=> ?_) (fun v9 x=> ?_)
 .go_simp
  exact bg (pH ⟨R,G,U,Z,X,Q,Y,some E,J,lc,F,W,V,S,T,sc⟩ ⟨I,fl,st,KS,s,t⟩ x0 nq.1 (M2.o.Z nq.2).fnt)
 obtain⟨b,rfl⟩:=x;simp[Act.put]
 repeat(refine cF aB aB aB ?_;intro K9 di;go_big_quiet_op;go_big_quiet_on)
 intro nq;obtain⟨C,bq⟩:=nq;have i:=sH (M2.o.Z bq);have B3:aq (cW g w C):=⟨(cW.of B2.o).trans (cW.of bq)⟩;have z:=sH (T8.o.kS (cW.of (g:=g) bq));have X3:=sH (X2.o.ar bq X2.o.lt);have uV:=bq.size;have Ku:aq (mA C g ⟨I,fl,st,KS,s,t⟩):=⟨RK.o.Z (B3.o.below bW ak) bW⟩;have KC3:aq (Bz C g ⟨I,fl,st,KS,s,t⟩):=⟨KC.o.Z (B3.o.below bW ak) bW⟩
 try dsimp only
 clear bq L0 L1 L2 L3 L4 L5 M0 M1 v M3 LQ M2 T8 X2 RK KC;cases b;rotate_left
 .go_wp2
  go_ret3;exact lQ i.o B3.o
 have Gc:I=1∨I=2∨I=3∨I=4∨I=5∨((I==1)=false/\(I==2)=false/\(I==3)=false/\(I==4)=false/\(I==5)=false):=cw;have hn3:w.heap.size+1<=C.heap.size:=ak;rcases Gc with rfl|rfl|rfl|rfl|rfl|⟨k1,k2,k3,k4,k5⟩
 .obtain⟨y,P,K,N,q4,O,q6⟩:=i.o.m7
  have⟨q,m,p,o⟩:=X3.o.k4;dsimp only at y P K N q4 O q6 q m p o;go_wp2;have⟨L0,L1,L2,L3,L4,L5,M0,M1⟩:=lc8 y P K N q4 O q m;have⟨v,M3⟩:=lc2 p o;clear y P K N q4 O q6 q m p o;refine ba (iZ 87 (Ho C.heap.size (bk lo D) (n+16))) aF aF ?_;refine mLw ?_;refine lwA (Ho C.heap.size (bk lo D) (n+16)) (fun nq=> ?_) (fun v9 x=> ?_)
  .go_simp
   refine aX (Ho C.heap.size (bk lo D) (n+16)) ((He ⟨R,G,U,Z,X,Q,Y,some E,J,lc,F,W,V,S,T,sc⟩ ⟨1,fl,st,KS,s,t⟩ lo D (some qd) n c a nq.1 (i.o.Z nq.2).fnt ((Ku.o.Z (nq.2.mono ak) bW).more Bw) ((KC3.o.Z (nq.2.mono ak) bW).Z (Below.refl _ _) Bw) (z.o.kS (cW.of (g:=g) nq.2)).gl ak h4 z.o.nc).mono ?_);rintro e w5 ⟨A6,m6,c6,x6,B,rfl,h6,hb⟩;exact⟨_,rfl,⟨A6,m6,c6,x6,B,rfl,fun e=>⟨by have:=(h6 e).1;omega,(h6 e).2.1,(h6 e).2.2.cJ nq.2.size⟩⟩,hb⟩
  obtain⟨_,_,A6,m6,c6,x6,B,rfl,_⟩:=x;simp[Act.put];refine mLw ?_;intro nq hE;have OE:=sH (Ho.get hE);have MN:aq (Mc nq.1 g ⟨R,G,U,Z,X,Q,Y,some E,J,lc,F,W,V,S,T,sc⟩ u):=⟨i.o.Z nq.2⟩;have B4:aq (cW g w nq.1):=⟨B3.o.trans (cW.of nq.2)⟩;have⟨w4,l⟩:=eX nq.1;rw[<-l]at MN B4 OE
  try dsimp only
  rw[<-l];clear l hE L0 L1 L2 L3 L4 L5 M0 M1 v M3;go_wp2_with fail;refine(nk g ⟨R,G,U,Z,X,Q,Y,some E,J,lc,F,W,V,S,T,sc⟩ u A6 m6 c6 (x6:Int) B w4 MN.o).mono ?_;rintro e w5 (⟨rfl,hm,rfl,rfl⟩|⟨rfl,rfl⟩)
  .exact abG
  .exact Xt
 .obtain⟨y,P,K,N,q4,O,q6⟩:=i.o.m7
  have⟨q,m,p,o⟩:=X3.o.k4;dsimp only at y P K N q4 O q6 q m p o;go_wp2;have⟨L0,L1,L2,L3,L4,L5,M0,M1⟩:=lc8 y P K N q4 O q m;have⟨v,M3⟩:=lc2 p o;clear y P K N q4 O q6 q m p o;refine ba (iZ 87 (Ho C.heap.size (bk lo D) (n+16))) aF aF ?_;refine mLw ?_;refine lwA (Ho C.heap.size (bk lo D) (n+16)) (fun nq=> ?_) (fun v9 x=> ?_)
  .go_simp
   refine aX (Ho C.heap.size (bk lo D) (n+16)) ((He ⟨R,G,U,Z,X,Q,Y,some E,J,lc,F,W,V,S,T,sc⟩ ⟨2,fl,st,KS,s,t⟩ lo D (some qd) n c a nq.1 (i.o.Z nq.2).fnt ((Ku.o.Z (nq.2.mono ak) bW).more Bw) ((KC3.o.Z (nq.2.mono ak) bW).Z (Below.refl _ _) Bw) (z.o.kS (cW.of (g:=g) nq.2)).gl ak h4 z.o.nc).mono ?_);rintro e w5 ⟨A6,m6,c6,x6,B,rfl,h6,hb⟩;exact⟨_,rfl,⟨A6,m6,c6,x6,B,rfl,fun e=>⟨by have:=(h6 e).1;omega,(h6 e).2.1,(h6 e).2.2.cJ nq.2.size⟩⟩,hb⟩
  obtain⟨_,_,A6,m6,c6,x6,B,rfl,_⟩:=x;simp[Act.put];refine mLw ?_;intro nq hE;have OE:=sH (Ho.get hE);have MN:aq (Mc nq.1 g ⟨R,G,U,Z,X,Q,Y,some E,J,lc,F,W,V,S,T,sc⟩ u):=⟨i.o.Z nq.2⟩;have B4:aq (cW g w nq.1):=⟨B3.o.trans (cW.of nq.2)⟩;have⟨w4,l⟩:=eX nq.1;rw[<-l]at MN B4 OE
  try dsimp only
  rw[<-l];clear l hE L0 L1 L2 L3 L4 L5 M0 M1 v M3;go_wp2_with fail;refine(nk g ⟨R,G,U,Z,X,Q,Y,some E,J,lc,F,W,V,S,T,sc⟩ u A6 m6 c6 (x6:Int) B w4 MN.o).mono ?_;rintro e w5 (⟨rfl,hm,rfl,rfl⟩|⟨rfl,rfl⟩)
  .exact abG
  .exact Xt
 .obtain⟨y,P,K,N,q4,O,q6⟩:=i.o.m7
  have⟨q,m,p,o⟩:=X3.o.k4;dsimp only at y P K N q4 O q6 q m p o;go_wp2;have⟨L0,L1,L2,L3,L4,L5,M0,M1⟩:=lc8 y P K N q4 O q m;have⟨v,M3⟩:=lc2 p o;clear y P K N q4 O q6 q m p o;refine ba (iZ 109 (Ho C.heap.size (bk lo D) (n+16))) aF aF ?_;refine mLw ?_;refine lwA (Ho C.heap.size (bk lo D) (n+16)) (fun nq=> ?_) (fun v9 x=> ?_)
  .go_simp
   refine aX (Ho C.heap.size (bk lo D) (n+16)) ((Wa ⟨R,G,U,Z,X,Q,Y,some E,J,lc,F,W,V,S,T,sc⟩ ⟨3,fl,st,KS,s,t⟩ lo D (some qd) n c a nq.1 (i.o.Z nq.2).fnt ((Ku.o.Z (nq.2.mono ak) bW).more Bw) (z.o.kS (cW.of (g:=g) nq.2)).gl ak h4 z.o.nc).mono ?_);rintro e w5 ⟨A6,m6,c6,x6,B,rfl,h6,hb⟩;exact⟨_,rfl,⟨A6,m6,c6,x6,B,rfl,fun e=>⟨by have:=(h6 e).1;omega,(h6 e).2.1,(h6 e).2.2.cJ nq.2.size⟩⟩,hb⟩
  obtain⟨_,_,A6,m6,c6,x6,B,rfl,_⟩:=x;simp[Act.put];refine mLw ?_;intro nq hE;have OE:=sH (Ho.get hE);have MN:aq (Mc nq.1 g ⟨R,G,U,Z,X,Q,Y,some E,J,lc,F,W,V,S,T,sc⟩ u):=⟨i.o.Z nq.2⟩;have B4:aq (cW g w nq.1):=⟨B3.o.trans (cW.of nq.2)⟩;have⟨w4,l⟩:=eX nq.1;rw[<-l]at MN B4 OE
  try dsimp only
  rw[<-l];clear l hE L0 L1 L2 L3 L4 L5 M0 M1 v M3;go_wp2_with fail;refine(nk g ⟨R,G,U,Z,X,Q,Y,some E,J,lc,F,W,V,S,T,sc⟩ u A6 m6 c6 (x6:Int) B w4 MN.o).mono ?_;rintro e w5 (⟨rfl,hm,rfl,rfl⟩|⟨rfl,rfl⟩)
  .exact abG
  .exact Xt
 .have CX:=sH (Jq d (HO.o h5) g ⟨R,G,U,Z,X,Q,Y,some E,J,lc,F,W,V,S,T,sc⟩ u ⟨4,fl,st,KS,s,t⟩ lo D (some qd) n c a C i.o Ku.o z.o h4 h5 h6)
  have⟨q,m,p,o⟩:=X3.o.k4;dsimp only at q m p o;go_wp2_with fail;refine CX.o.mono ?_;rintro e w5 hp;have hp2:=(hp.Z B3.o).imp (rv':=rv) (fun r=>by have:=HK5.o r;omega);obtain⟨A6,m6,c6,x6,B,u6,rfl,g1,g2,g3,g4⟩:=hp2;have PP:=sH g2;have PB:=sH g3;have PC:=sH g4;clear hp g2 g3 g4 CX;go_wp2;go_ret3;exact⟨A6,m6,c6,x6,B,u6,rfl,g1,PP.o,PB.o,PC.o⟩
 .obtain⟨y,P,K,N,q4,O,q6⟩:=i.o.m7
  have⟨q,m,p,o⟩:=X3.o.k4;dsimp only at y P K N q4 O q6 q m p o;go_wp2;have⟨L0,L1,L2,L3,L4,L5,M0,M1⟩:=lc8 y P K N q4 O q m;have⟨v,M3⟩:=lc2 p o;clear y P K N q4 O q6 q m p o;refine ba (iZ 142 (ZRp C.heap.size (bk lo D) n)) aF aF ?_;refine mLw ?_;refine lwA (ZRp C.heap.size (bk lo D) n) (fun nq=> ?_) (fun v9 x=> ?_)
  .go_simp
   refine aX (ZRp C.heap.size (bk lo D) n) ((Vm ⟨R,G,U,Z,X,Q,Y,some E,J,lc,F,W,V,S,T,sc⟩ ⟨5,fl,st,KS,s,t⟩ lo D (some qd) n c a nq.1 (i.o.Z nq.2).fnt ((Ku.o.Z (nq.2.mono ak) bW).more Bw) ((KC3.o.Z (nq.2.mono ak) bW).Z (Below.refl _ _) Bw) (z.o.kS (cW.of (g:=g) nq.2)).gl ak h4).mono ?_);rintro e w5 ⟨A6,c6,B,rfl,h6,hb⟩;exact⟨_,rfl,⟨A6,c6,B,rfl,h6.cJ nq.2.size⟩,hb⟩
  obtain⟨_,_,A6,c6,B,rfl,_⟩:=x;simp[Act.put];refine mLw ?_;intro nq hE;have OE:=sH (ZRp.get hE);have MN:aq (Mc nq.1 g ⟨R,G,U,Z,X,Q,Y,some E,J,lc,F,W,V,S,T,sc⟩ u):=⟨i.o.Z nq.2⟩;have B4:aq (cW g w nq.1):=⟨B3.o.trans (cW.of nq.2)⟩;have⟨w4,l⟩:=eX nq.1;rw[<-l]at MN B4 OE
  try dsimp only
  rw[<-l];clear l hE L0 L1 L2 L3 L4 L5 M0 M1 v M3;go_wp2_with fail;refine(nk g ⟨R,G,U,Z,X,Q,Y,some E,J,lc,F,W,V,S,T,sc⟩ u A6 n c6 ((a:Int)+1) B w4 MN.o).mono ?_;rintro e w5 (⟨rfl,hm,rfl,rfl⟩|⟨rfl,rfl⟩)
  .have BU:=(Bu.own OE.o ak hm).kS ((cW.refl g w4).set 6 (ae aj ((u:Int)+1)))
   have BS:=sH BU;clear BU;go_wp2;go_ret3;exact⟨A6,n,c6,a+1,true,u+1,rfl,ak,MN.o.set h6,B4.o.set 6 _,fun _=>⟨ak,BS.o,fun _=>rfl,ak,ak,ak⟩⟩
  .exact Xt
 .have⟨q,m,p,o⟩:=X3.o.k4
  dsimp only at q m p o;go_wp2;go_ret3;exact lQ i.o B3.o
theorem Ac:tC 0:=
 kJ 0 ak fun _=>kJ 1 ak fun _=>kJ 2 ak fun _=>kJ 3 ak fun _=>kJ 4 ak fun _=>kJ 5 ak fun _=>kJ 6 ak fun _=>kJ 7 ak fun _=>kJ 8 ak fun _=>kJ 9 ak fun h=>absurd h ak
theorem Rev.kS{e:ahh}{i:Int}(h:Rev w f i)(k:Mc w g f u)(p:cW g w e):Rev e f i:=fun j d o q n l c=>by
 obtain⟨a,m,b,_⟩:=k.fr.rL.2.2.2 ak;obtain rfl:d=a:=by rw[l]at m;exact Option.some.inj m
 have r:=k.bx.lt;rw[(p.below (Nat.le_refl g) ak).cell (by rw[aO];exact b)]at c;exact h j d o q n l c
theorem Lr(g:Nat)(f:cY)(u:Nat)(lo l:Int)(a q:Int)(A:aA)(n c:Nat)(w:ahh)(h:Mc w g f u)(B:Bu w g (bk lo l) A n c)(J:Rev w f a):
 ahk prog 288 #[.pointer (some ⟨g,0,none⟩),.agg #[ae aj a,ae aj q],.slice A n c] w (PNe w g f u (bk lo l)):=by
 have⟨d,aP⟩:=eX (w.alloc (.cells #[ae aj a,ae aj q] 264));have s:az w d:=qS;have U:aq (Bx d w.heap.size #[ae aj a,ae aj q]):=⟨vz⟩;have M:aq (Mc d g f u):=⟨h.Z s⟩;have j:aq (Bu d g (bk lo l) A n c):=⟨B.kS (cW.of s)⟩;have Z:aq (cW g w d):=⟨cW.of s⟩;have S:aq (Rev d f a):=⟨J.kS h (cW.of s)⟩;have L:=h.bx.lt;have hn:=B.nn;clear h B J s;go_enter func288,ntmps288;go_wp2;rw[<-aP];clear aP;go_loopg[2,7,8,9,10](n+1)(fun gg v2 v7 _ _ _ wr=>∃(i:Nat) (A:aA) (c k:Nat),i<gg/\i<=n/\v2=.slice A n c/\v7=ae aj ((i:Int)-1)/\u<=k/\aq (Mc wr g f k)/\aq (cW g d wr)/\aq (Bu wr g (bk lo l) A n c))
 .exact⟨n,A,c,u,ak,ak,rfl,aT,ak,M,⟨cW.refl _ _⟩,j⟩
 obtain⟨i,A,c,k,hg,V,rfl,rfl,y,v,r,j⟩:=hrel;have O:aq (cW g w wr):=⟨Z.o.trans r.o⟩;rcases i with _|i
 .go_wp2
  go_ret;exact⟨_,_,_,k,rfl,y,v.o,O.o,j.o⟩
 .have I:(((i+1:Nat):Int)-1)=(i:Int):=by omega
  rw[I];clear I;have x:i<n:=ak;have i4:=aU i n;have i5:=ie i;have G:aq (Bx wr w.heap.size #[ae aj a,ae aj q]):=⟨U.o.kS ak r.o⟩;have Y:wr.cell? ⟨w.heap.size,0,none⟩=some (ae aj a):=G.o.cell 0;have Q:wr.cell? ⟨w.heap.size,1,none⟩=some (ae aj q):=G.o.cell 1;obtain⟨t,x0,x1,x2,x3,x4,x5,x6,x7,x8,x9,rfl,X,_,_,_,_,_,_,_,_,_,R⟩:=j.o.gl.iX.bD x;clear X;go_wp2;go_quiet (fail);go_wp2_with fail
  .refine(Ac g f k lo l a (i:Int) (some t) n c True _ (v.o.Z (aN (Below.refl _ _) _)) (j.o.kS (cW.of (aN (Below.refl _ _) _))) (fun _=>(S.o.kS M.o r.o).kS v.o (cW.of (aN (Below.refl _ _) _)))).mono ?_
   rintro e H ⟨N,m1,P,y1,b,u1,rfl,W,F,D,E⟩;have K:=sH F;have o:aq (cW g d H):=⟨r.o.trans ((cW.of (aN (Below.refl _ _) _)).trans D)⟩;have C:aq (Bu H g (bk lo l) (some t) n c):=⟨j.o.kS ((cW.of (aN (Below.refl _ _) _)).trans D)⟩;clear F D Y Q R;cases b
   .clear E
    go_wp2;go_roundg(i+1)
    .exact⟨i,some t,c,u1,ak,ak,rfl,aT,ak,K,o,C⟩
    omega
   .obtain⟨T,p,m,_⟩:=E rfl
    obtain rfl:=m trivial;have z:=sH p;clear E p m;go_wp2;go_roundg(i+1)
    .exact⟨i,N,P,u1,ak,ak,rfl,aT,ak,K,o,z⟩
    omega
  .go_roundg(i+1)
   case measure=>omega
   case rel=>exact⟨i,some t,c,k,ak,ak,rfl,aT,ak,⟨v.o.Z (aN (Below.refl _ _) _)⟩,⟨r.o.trans (cW.of (aN (Below.refl _ _) _))⟩,⟨j.o.kS (cW.of (aN (Below.refl _ _) _))⟩⟩
theorem La(g:Nat)(f:cY)(u:Nat)(lo x:Int)(y v:Int)(A:aA)(n c:Nat)(w:ahh)(h:Mc w g f u)(X:Bu w g (bk lo x) A n c):
 ahk prog 249 #[.pointer (some ⟨g,0,none⟩),.agg #[ae aj y,ae aj v],.slice A n c] w (PNe w g f u (bk lo x)):=by
 have⟨l,aP⟩:=eX (w.alloc (.cells #[ae aj y,ae aj v] 264));have Q:az w l:=qS;have R:aq (Bx l w.heap.size #[ae aj y,ae aj v]):=⟨vz⟩;have M:aq (Mc l g f u):=⟨h.Z Q⟩;have o:aq (Bu l g (bk lo x) A n c):=⟨X.kS (cW.of Q)⟩;have O:aq (cW g w l):=⟨cW.of Q⟩;have YT:=h.bx.lt;have hn:=X.nn;have vX:=h.fr.rL.bd;have D:l.cell? ⟨w.heap.size,0,none⟩=some (ae aj y):=R.o.cell 0;have K:l.cell? ⟨w.heap.size,1,none⟩=some (ae aj v):=R.o.cell 1;obtain⟨q0,q1,q2,N,q4,q5,q6⟩:=M.o.m7;clear h X Q;by_cases h1:y<0
 .go_enter func249,ntmps249
  go_wp2;rw[<-aP];clear aP;go_quiet (fail);go_wp2;go_ret;exact⟨_,_,_,u,rfl,Nat.le_refl _,M.o.Z (aN (Below.refl _ _) _),O.o.trans (cW.of (aN (Below.refl _ _) _)),o.o.kS (cW.of (aN (Below.refl _ _) _))⟩
 obtain⟨j,rfl⟩:∃j:Nat,y=(j:Int):=⟨y.toNat,ak⟩;by_cases h2:j<f.ln;rotate_left
 .have H:(f.ln:Int)<=(j:Int):=by omega
  go_enter func249,ntmps249;go_wp2;rw[<-aP];clear aP;go_quiet (fail);go_wp2;go_ret;exact⟨_,_,_,u,rfl,Nat.le_refl _,M.o.Z (aN (Below.refl _ _) _),O.o.trans (cW.of (aN (Below.refl _ _) _)),o.o.kS (cW.of (aN (Below.refl _ _) _))⟩
 have H:¬(f.ln:Int)<=(j:Int):=ak;have I:(j:Int)<(f.ln:Int):=ak;obtain⟨ad,k,eL,hk,B,_⟩:=rD M.o.fr.rL h2;have EL:=sH eL;have E0:=sH B;rw[eL]at N;clear eL hk h1;by_cases s:k.kind=5
 .rw[s]at B
  go_enter func249,ntmps249;go_wp2;rw[<-aP];clear aP;go_quiet (fail);go_wp2;generalize lf:l.drewN _=G;have i:az l G:=YX;have E:=au N i;have C:=au B i;have t:=au D i;clear lf;go_quiet (fail);generalize m:G.drewN _=r;have d:az l r:=by rw[<-m];exact aN i _
  clear m E C t i;have F:Rev r f (j:Int):=fun j2 eJ kk f1 f2 f3 f4=>by
   obtain rfl:j=j2:=ak;rw[EL.o]at f3;obtain rfl:=Option.some.inj f3;have:=au B d;rw[this]at f4;injection f4 with f4
   injection f4 with _ f4
   exact f4.symm
  have BH:=sH (Lr g f u lo x (j:Int) v A n c r (M.o.Z d) (o.o.kS (cW.of d)) F);have D3:aq (az l r):=⟨d⟩;have D:=au D d;have K:=au K d;clear d F B q0 q1 q2 N q4 q5 q6;go_wp2_with fail;refine BH.o.mono ?_;rintro e w5 ⟨A6,m6,c6,u6,rfl,g1,g2,g3,g4⟩;have G2:=sH g2;have G3:aq (cW g w w5):=⟨(O.o.trans (cW.of D3.o)).trans g3⟩;have G4:=sH g4;clear g2 g3 g4 BH;go_wp2;go_ret;exact⟨_,_,_,u6,rfl,g1,G2.o,G3.o,G4.o⟩
 .have Z:(k.kind==5)=false:=by simp[s]
  go_enter func249,ntmps249;go_wp2;rw[<-aP];clear aP;go_quiet (fail);go_wp2;generalize lf:l.drewN _=G;have i:az l G:=YX;have E:=au N i;have C:=au B i;have t:=au D i;clear lf;go_quiet (fail);generalize m:G.drewN _=r;have d:az l r:=by rw[<-m];exact aN i _
  clear m E C t i;have M3:=sH (M.o.Z d);have B3:aq (cW g w r):=⟨O.o.trans (cW.of d)⟩;have U:=sH (o.o.kS (cW.of (g:=g) d));have X3:=sH (R.o.ar d R.o.lt);have uV:=d.size;have kU:w.heap.size<=l.heap.size:=O.o.size;clear d B q0 q1 q2 N q4 q5 q6 D K;go_wp2;have J:decide (f.ln<=j)=false:=gW;simp only[J,Bool.or_false];clear h2 H I s Z J;go_loopg[2,7,8,9,10](65536*20000+20000)(fun gg v2 v7 _ _ _ wr=>∃(a:Nat) (A:aA) (n c p:Nat),(65536-p)*20000+(n-a)<gg/\v2=.slice A n c/\v7=ae aj (a:Int)/\a<=1000000/\u<=p/\aq (Mc wr g f p)/\aq (cW g r wr)/\aq (Bu wr g (bk lo x) A n c))
  .exact⟨0,A,n,c,u,ak,rfl,rfl,ak,ak,M3,⟨cW.refl _ _⟩,U⟩
  obtain⟨a,A,n,c,p,hg,rfl,rfl,ha,W,S,P,o⟩:=hrel;have B2:aq (cW g w wr):=⟨B3.o.trans P.o⟩;have hu':=S.o.hu;by_cases V:a<n;rotate_left
  .have i4:=cv a n
   go_wp2;go_ret;exact⟨_,_,_,p,rfl,W,S.o,B2.o,o.o⟩
  have i4:=aU a n;have hn3:=o.o.nn;have XR:aq (Bx wr w.heap.size #[ae aj (j:Int),ae aj v]):=⟨X3.o.kS ak P.o⟩;have D:wr.cell? ⟨w.heap.size,0,none⟩=some (ae aj (j:Int)):=XR.o.cell 0;have K:wr.cell? ⟨w.heap.size,1,none⟩=some (ae aj v):=XR.o.cell 1;obtain⟨q,x0,x1,x2,x3,x4,x5,x6,x7,x8,x9,rfl,hQ,_,_,_,_,_,_,_,_,_,e9⟩:=o.o.gl.iX.bD V;clear hQ;go_wp2;go_quiet (fail);go_wp2_with fail
  .refine(Ac g f p lo x (j:Int) (a:Int) (some q) n c False _ (S.o.Z (aN (Below.refl _ _) _)) (o.o.kS (cW.of (aN (Below.refl _ _) _))) (fun h=>h.elim)).mono ?_
   rintro e w1 ⟨A1,m1,c1,y1,b,u1,rfl,hu1,T,hB,hb⟩;have M1:=sH T;have L:aq (cW g r w1):=⟨P.o.trans ((cW.of (aN (Below.refl _ _) _)).trans hB)⟩;have Y:aq (Bu w1 g (bk lo x) (some q) n c):=⟨o.o.kS ((cW.of (aN (Below.refl _ _) _)).trans hB)⟩;have ahc:=T.hu;clear T hB D K e9;cases b
   .clear hb
    go_wp2;go_roundg((65536-p)*20000+(n-a))
    .exact⟨a+1,some q,n,c,u1,ak,rfl,aT,ak,ak,M1,L,Y⟩
    omega
   .obtain⟨hu2,z,_,hy1,_⟩:=hb rfl
    have T8:=sH z;have Hx:=z.nn;clear hb z;go_wp2;go_roundg((65536-p)*20000+(n-a))
    .exact⟨y1,A1,m1,c1,u1,ak,rfl,rfl,ak,ak,M1,L,T8⟩
    omega
  .go_roundg((65536-p)*20000+(n-a))
   case measure=>omega
   case rel=>exact⟨a+1,some q,n,c,p,ak,rfl,aT,ak,ak,⟨S.o.Z (aN (Below.refl _ _) _)⟩,⟨P.o.trans (cW.of (aN (Below.refl _ _) _))⟩,⟨o.o.kS (cW.of (aN (Below.refl _ _) _))⟩⟩
theorem Rq.AQ{Q:aC->Prop}(h:Rq w B 2 Q A n){j:Nat}(k:j<n):∃(a:Addr) (b c:Int),A=some a/\Q [b,c]/\w.cell? (a.add (j*2))=some (ae aj b)/\w.cell? (bP (a.add (j*2)) 1)=some (ae aj c):=by
 obtain⟨a,e,_,l⟩:=h ak;obtain⟨g,i,m,d⟩:=l j k
 match g,i with
 |[b,c],_=>
  have f:=d 0 _ rfl;rw[ew]at f;exact⟨a,b,c,e,m,f,d 1 _ rfl⟩
abbrev Oi(_:aC):Prop:=True
theorem aaR(g:Nat)(f:cY)(u:Nat)(lo j:Int)(p:aA)(a H:Nat)(A:aA)(n c:Nat)(w:ahh)(h:Mc w g f u)(s:Bu w g (bk lo j) A n c)(z:Rq w g 2 Oi p a)(v:a<=1000000000):
 ahk prog 208 #[.pointer (some ⟨g,0,none⟩),.slice p a H,.slice A n c] w (PNe w g f u (bk lo j)):=by
 have M:=sH h;have d:=sH s;have B:=sH z;have t:=h.bx.lt;go_enter func208,ntmps208;go_wp2;go_loopg[2,7](a+1)(fun gg v2 v7 wr=>∃(i:Nat) (A:aA) (n c b:Nat),a-i<gg/\i<=a/\v2=.slice A n c/\v7=ae aj (i:Int)/\u<=b/\aq (Mc wr g f b)/\aq (cW g w wr)/\aq (Bu wr g (bk lo j) A n c))
 .exact⟨0,A,n,c,u,ak,ak,rfl,rfl,ak,M,⟨cW.refl _ _⟩,d⟩
 obtain⟨i,A,n,c,b,N,D,rfl,rfl,m,o,k,d⟩:=hrel;by_cases l:i<a
 .obtain⟨O,x,y,rfl,_,L,Q⟩:=(B.o.Z (k.o.below bW ak) bW).AQ l
  have P:=aU i a;have r:=sH (La g f b lo j x y A n c wr o.o d.o);go_wp2_with fail;refine r.o.mono ?_;rintro e K ⟨E,C,c6,u6,rfl,R,g2,q,I⟩;have G:=sH g2;have J:=sH (k.o.trans q);have F:=sH I;go_wp2;go_roundg(a-i)
  .exact⟨i+1,E,C,c6,u6,ak,ak,rfl,aT,ak,G,J,F⟩
  omega
 .go_wp2
  go_ret;exact⟨_,_,_,b,rfl,m,o.o,k.o,d.o⟩
def PGl(w:ahh)(Q:List aC->Prop)(e:ahn)(a:ahh):Prop:=∃(A:aA) (m c:Nat),e=.returned (.slice A m c)/\kT a Q A m/\m<=c/\m<=16384/\az w a
theorem acr(f:cY)(lo i:Int)(j:aA)(g r:Nat)(A:aA)(n c:Nat)(w:ahh)(h:bZ w w.heap.size f)(l:KO w w.heap.size f)(q:kT w (bk lo i) A n)(m:n<=c)(G:n<=16384)(v:Rq w w.heap.size 2 Oi j g)(k:g<=1000000000):
 ahk prog 119 #[f.v,.slice j g r,.slice A n c] w (PGl w (bk lo i)):=by
 have⟨b,aP⟩:=eX ((w.alloc (.cells f.row 96)).alloc (.cells #[ae aj f.em,.slice f.G f.gn f.gc,.slice f.M f.mn f.mc,.slice f.L f.ln f.lc,.slice f.F f.fn f.fc,.slice f.S f.sn f.sc,ae aj 0] 254));have a:az w b:=aee;have B:aq (Mc b (w.heap.size+1) f 0):=⟨⟨by rw[aP];exact Bx.gY _ _ _ (by simp),h.Z a ak,l.Z a ak,ak⟩⟩;have z:aq (Bu b (w.heap.size+1) (bk lo i) A n c):=⟨⟨q.Z a a.size,fun y M J=>by
  obtain⟨E,d,C,_⟩:=q.iX y;rw[J]at d;obtain rfl:=Option.some.inj d;omega,m,G⟩⟩
 have x:aq (Rq b (w.heap.size+1) 2 Oi j g):=⟨v.Z a ak⟩;have D:=sH a;have u:=sH (aaR (w.heap.size+1) f 0 lo i j g r A n c b B.o z.o x.o k);have F:=a.size;have p:b.heap.size=w.heap.size+2:=oO;go_enter func119,ntmps119;go_wp2_with fail;rw[<-aP];clear aP;refine u.o.mono ?_;rintro e s ⟨L,K,c6,u6,rfl,N,g2,t,H⟩;have I:aq (az w s):=⟨D.o.trans (t.below ak ak)⟩;have o:=sH H;go_wp2;go_ret;exact⟨_,_,_,rfl,o.o.gl,o.o.nc,o.o.nn,I.o⟩
namespace Kx
def kd:ahj->Nat
 | ae aj _=>0
 | .bool _=>1
 |_=>2
def Ext(w c:ahh):Prop:=∀b cs,Bx w b cs->(∀v∈cs.toList,kd v≠2)->∃a:Array ahj,Bx c b a/\a.toList.map kd=cs.toList.map kd
theorem Ext.of{c:ahh}(h:az w c):Ext w c:=fun b cs a _=>⟨cs,a.ar h a.lt,rfl⟩
theorem Ext.row{ds:Array ahj}(h:Bx w g cs)(i:ds.toList.map kd=cs.toList.map kd):Ext w (w.setRow g ds):=fun b f d _=>by
 by_cases c:b=g
 .subst c
  refine⟨ds,h.row, ?_⟩;obtain⟨t,e⟩:=h;obtain⟨j,a⟩:=d;rw[e]at a;injection a with a
  injection a with a
  rw[i,a]
 .obtain⟨t,d⟩:=d
  exact⟨f,⟨t,by rw[setRow_other _ _ _ _ c];exact d⟩,rfl⟩
structure Sat where
 p:ahj->ahh->Prop
 st:∀v w w',p v w->Ext w w'->p v w'
section
variable{P:aho}{ops:Array Oper}{md:Region.Mode}{C:ahh -> Prop}{T:Option Tmp -> Option Sat}
def iy(P:aho)(C:ahh->Prop)(w:ahh)(S:Sat):Result Next->Prop
 | .ok (.value u) w'=>S.p u w'/\C w'/\Ext w w'
 | .ok (.enter f args) w'=>w'=w/\ahk P f args w (fun e a=>∃v,e=.returned v/\S.p v a/\C a/\Ext w a)
 |_=>False
attribute [go_sem] iy
@[go_sem] def mE(P : aho)(o : Oper)(a : Act)(C : ahh -> Prop)(w : ahh)(S : Sat) : Prop := iy P C w S ((execOp a.eval o).run P w)
def yB(C:ahh->Prop)(w:ahh):Result Next->Prop
 | .ok .skip w'=>C w'/\Ext w w'
 |_=>False
attribute [go_sem] yB
@[go_sem] def zD(P : aho)(o : Oper)(a : Act)(C : ahh -> Prop)(w : ahh) : Prop := yB C w ((execOp a.eval o).run P w)
def Has(C:ahh->Prop)(S:Sat)(v:ahj):Prop:=∃w,C w/\S.p v w
def fN(P:aho)(T:Option Tmp->Option Sat)(C:ahh->Prop)(o:Oper)(E:ahh->Prop)(a:Act)(K:(ahh->Prop)->Act->Prop):Prop:=
 if o.dst=none then(∀w,C w->E w->zD P o a C w)/\K E (a.put o.dst undef)else
 match T o.dst with
 |some S=>(∀w,C w->mE P o a C w S)/\∀v,Has C S v->K (fun w=>E w/\S.p v w) (a.put o.dst v)
 |none=>eU o=true/\o.quiet P a C (K E)
def dA(P:aho)(ops:Array Oper)(T:Option Tmp->Option Sat)(C:ahh->Prop)(Q:(ahh->Prop)->Act->Prop):List Oper->(ahh->Prop)->Act->Prop
 |[],E,a=>Q E a
 |o::rest,E,a=>if Region.wanted o (yielded ops a.tmps)then fN P T C o E a (dA P ops T C Q rest)else dA P ops T C Q rest E (a.put o.dst undef)
def fL(P:aho)(ops:Array Oper)(T:Option Tmp->Option Sat)(C:ahh->Prop)(i:Nat)(K:(ahh->Prop)->Act->Prop)(E:ahh->Prop)(a:Act):Prop:=
 match ops[i]? with
 |none=>K E a
 |some o=>if Region.wanted o (yielded ops a.tmps)then fN P T C o E a K else K E (a.put o.dst undef)
theorem nr{d:(ahh->Prop)->Act->Prop}(h:∀E a,K E a->d E a)(b:fN P T C o E a K):fN P T C o E a d:=by
 unfold fN at*;by_cases c:o.dst=none
 .rw[if_pos c]at*
  exact⟨b.1,h _ _ b.2⟩
 rw[if_neg c]at*;split
 .rename_i S e
  rw[e]at b;exact⟨b.1,fun v f=>h _ _ (b.2 v f)⟩
 .rename_i e
  rw[e]at b;exact⟨b.1,Oper.quiet_mono (h E) b.2⟩
theorem qL{d:(ahh->Prop)->Act->Prop}(h:∀E a,K E a->d E a)(b:fL P ops T C i K E a):fL P ops T C i d E a:=by
 unfold fL at*;split
 .exact h _ _ (by simpa[*]using b)
 .rename_i o e
  simp only[e]at b;split
  .rename_i c;simp only[c,if_true]at b;exact nr h b
  .rename_i c;simp only[c]at b;exact h _ _ b
def fI(P:aho)(md:Region.Mode)(ops:Array Oper)(T:Option Tmp->Option Sat)(C:ahh->Prop)(Q:(ahh->Prop)->Act->Prop):Nat->Array Bool->(ahh->Prop)->Act->Prop
 |0,listed,E,a=>Region.ready md ops listed=[]/\Q E a
 |fuel+1,listed,E,a=>
  (Region.ready md ops listed=[]->Q E a)/\
  ∀i∈Region.ready md ops listed,fL P ops T C i (fI P md ops T C Q fuel (listed.setIfInBounds i true)) E a
def nD(E:ahh->Prop):Prop:=∀w a,E w->Ext w a->E a
theorem nV{t:Act->ahh->Prop}(p:C w)(l:E w)(g:nD E)(h:∀E a c,C c->E c->nD E->K E a->t a c)(i:fN P T C o E a K):o.wp P a w t Q':=by
 unfold fN at i;by_cases z:o.dst=none
 .rw[if_pos z]at i
  obtain⟨m,k⟩:=i;have b:=m w p l;unfold zD at b;unfold Oper.wp;generalize(execOp a.eval o).run P w=r at*;cases r with
  |ok n c=>
   cases n<;>simp only[yB]at b<;>simp only[Oper.upon]
   case skip=>exact h E _ _ b.1 (g _ _ l b.2) g k
  |halt x c=>simp only[yB]at b
 rw[if_neg z]at i;split at i
 .obtain⟨m,k⟩:=i
  have b:=m w p;unfold mE at b;unfold Oper.wp;generalize(execOp a.eval o).run P w=r at*;cases r with
  |ok n c=>
   cases n<;>simp only[iy]at b<;>simp only[Oper.upon]
   case value u=>
    rename_i S e;exact h (fun w=>E w/\S.p u w) _ _ b.2.1 ⟨g _ _ l b.2.2,b.1⟩ (fun u F q j=>⟨g _ _ q.1 j,S.st _ _ _ q.2 j⟩) (k _ ⟨_,b.2.1,b.1⟩)
   case enter f args=>
    rename_i S e;rw[b.1];refine b.2.mono fun e B ⟨v,A,y,d,j⟩=> ?_;subst A;exact h (fun w=>E w/\S.p v w) _ _ d ⟨g _ _ l j,y⟩ (fun u F q j=>⟨g _ _ q.1 j,S.st _ _ _ q.2 j⟩) (k _ ⟨_,d,y⟩)
  |halt x c=>simp only[iy]at b
 .obtain⟨D,v,m,k⟩:=i
  have b:=m w p;unfold Oper.quietAt at b;unfold Oper.wp;have s:=kx (P:=P) D a.eval w;generalize(execOp a.eval o).run P w=r at*;cases r with
  |ok n c=>
   cases n<;>simp only[Oper.quietUpon]at b<;>simp only[Oper.upon]
   case value u=>rw[b.1,b.2];exact h _ _ _ p l g k
   case skip=>rw[b.1,<-b.2];exact h _ _ _ p l g k
   case enter f args=>exact absurd rfl (s f args c)
  |halt x c=>simp only[Oper.quietUpon]at b
theorem dU{k:Act->ahh->Prop}(g:C w)(j:E w)(f:nD E)(h:∀E a d,C d->E d->nD E->K E a->k a d)(b:fL P ops T C i K E a):wpOp P ops Q' i k a w:=by
 unfold fL at b;unfold wpOp;split
 .rename_i c;simp only[c]at b;exact h _ _ _ g j f b
 .rename_i o c
  simp only[c]at b;split
  .rename_i e;simp only[e,if_true]at b;exact .inl (nV g j f h b)
  .rename_i e;simp only[e]at b;exact h _ _ _ g j f b
theorem gz{Q:(ahh->Prop)->Act->Prop}{Q':Exit->Act->ahh->Prop}(d:∀E a w,C w->E w->Q E a->Q' .normal a w):∀(fuel:Nat) (listed:Array Bool) (E:ahh->Prop) (a:Act) (w:ahh),C w->E w->nD E->
 fI P md ops T C Q fuel listed E a->wpAny P md ops Q' fuel listed a w
 |0,_,_,_,_,hw,hE,_,h=>⟨h.1,d _ _ _ hw hE h.2⟩
 |fuel+1,_,_,_,_,hw,hE,hs,h=>⟨fun k=>d _ _ _ hw hE (h.1 k),fun i l=>dU hw hE hs (fun f j g b e c=>gz d fuel _ f j g b e c) (h.2 i l)⟩
def eZ(P:aho)(ops:Array Oper)(T:Option Tmp->Option Sat)(C:ahh->Prop)(o:Oper)(V:ahj->Prop)(G:ahj->(ahh->Prop)->ahh->Prop)(E:ahh->Prop)(a:Act):Prop:=
 (Region.wanted o (yielded ops a.tmps)=true/\o.dst≠none/\∃S,T o.dst=some S/\V=Has C S/\G=(fun v E w=>E w/\S.p v w)/\∀w,C w->mE P o a C w S)∨
 (Region.wanted o (yielded ops a.tmps)=true/\o.dst≠none/\T o.dst=none/\eU o=true/\(G=fun _ E=>E)/\∃v,(V=fun u=>u=v)/\∀w,C w->o.quietAt P a C w v)∨
 (Region.wanted o (yielded ops a.tmps)=false/\(G=fun _ E=>E)/\V=fun v=>v=undef)∨
 (Region.wanted o (yielded ops a.tmps)=true/\o.dst=none/\(G=fun _ E=>E)/\(V=fun v=>v=undef)/\∀w,C w->E w->zD P o a C w)
theorem eZ.mono{b:ahh->Prop}(h:eZ P ops T C o V G E a)(c:∀w,b w->E w):eZ P ops T C o V G b a:=by
 rcases h with h|h|h|⟨d,j,e,k,f⟩
 .exact .inl h
 .exact .inr (.inl h)
 .exact .inr (.inr (.inl h))
 .exact .inr (.inr (.inr ⟨d,j,e,k,fun w g i=>f w g (c w i)⟩))
theorem eZ.has(h:eZ P ops T C o V G E a)(g:∃w,C w):∃v,V v:=by
 rcases h with⟨_,_,S,_,rfl,_,h⟩|⟨_,_,_,_,_,v,rfl,_⟩|⟨_,_,rfl⟩|⟨_,_,_,rfl,_⟩
 .obtain⟨w,d⟩:=g
  have:=h w d;unfold mE at this;generalize(execOp a.eval o).run P w=r at*;cases r with
  |ok n b=>
   cases n<;>simp only[iy]at this
   case value u=>exact⟨u,b,this.2.1,this.1⟩
   case enter f args=>
    obtain⟨e,b,j,⟨v,_,c,i,_⟩,_⟩:=this.2 [];exact⟨v,b,i,c⟩
  |halt x b=>simp only[iy]at this
 .exact⟨v,rfl⟩
 .exact⟨_,rfl⟩
 .exact⟨_,rfl⟩
theorem eZ.comm{e:ahh->Prop}(h:eZ P ops T C o V G e a)(v:ahj)(E X:ahh->Prop):G v (fun w=>E w/\X w)=fun w=>G v E w/\X w:=by
 rcases h with⟨_,_,S,_,_,rfl,_⟩|⟨_,_,_,_,rfl,_⟩|⟨_,rfl,_⟩|⟨_,_,rfl,_⟩
 .funext w
  exact propext ⟨fun⟨⟨b,d⟩,c⟩=>⟨⟨b,c⟩,d⟩,fun⟨⟨b,c⟩,d⟩=>⟨⟨b,d⟩,c⟩⟩
 .rfl
 .rfl
 .rfl
theorem eZ.of_same{b:Act}(d:eZ P ops T C o V G E a)(c:execOp b.eval o=execOp a.eval o)
 (e:Region.wanted o (yielded ops b.tmps)=Region.wanted o (yielded ops a.tmps)):eZ P ops T C o V G E b:=by
 unfold eZ mE zD Oper.quietAt at*;rw[c,e];exact d
theorem eZ.lv(j:ops[i]? =some o)(f:eZ P ops T C o V G E a){K:(ahh->Prop)->Act->Prop}(h:∀v,V v->K (G v E) (a.put o.dst v)):fL P ops T C i K E a:=by
 unfold fL;simp only[j];rcases f with⟨b,d,S,e,rfl,rfl,c⟩|⟨b,d,e,g,rfl,v,rfl,c⟩|⟨b,rfl,rfl⟩|⟨b,d,rfl,rfl,c⟩
 .simp only[b,if_true]
  unfold fN;rw[if_neg d];simp only[e];exact⟨c,h⟩
 .simp only[b,if_true]
  unfold fN;rw[if_neg d];simp only[e];exact⟨g,v,c,h v rfl⟩
 .simp only[b,Bool.false_eq_true,if_false]
  exact h _ rfl
 .simp only[b,if_true]
  unfold fN;rw[if_pos d];exact⟨c,h _ rfl⟩
theorem js(k:ops[i]? =some o)(h:fL P ops T C i K E a):∃V G,eZ P ops T C o V G E a/\∀v,V v->K (G v E) (a.put o.dst v):=by
 unfold fL at h;simp only[k]at h;by_cases b:Region.wanted o (yielded ops a.tmps)=true
 .simp only[b,if_true]at h
  unfold fN at h;by_cases c:o.dst=none
  .rw[if_pos c]at h
   exact⟨fun v=>v=undef,fun _ E=>E,.inr (.inr (.inr ⟨b,c,rfl,rfl,h.1⟩)),fun u d=>by rw[d];exact h.2⟩
  rw[if_neg c]at h;split at h
  .rename_i S e
   exact⟨_,_,.inl ⟨b,c,S,e,rfl,rfl,h.1⟩,h.2⟩
  .rename_i e
   obtain⟨g,v,f,j⟩:=h;exact⟨fun u=>u=v,fun _ E=>E,.inr (.inl ⟨b,c,e,g,rfl,v,rfl,f⟩),fun u d=>by rw[d];exact j⟩
 .simp only[b]at h
  exact⟨fun v=>v=undef,fun _ E=>E,.inr (.inr (.inl ⟨by simpa using b,rfl,rfl⟩)),fun u d=>by rw[d];exact h⟩
theorem tA{c d:Oper}(J:∃w,C w)(Q:ops[j]? =some d)(t:c.apart ops d=true)(R:d.dst=none->T c.dst=none∨c.dst=none)
 (A:∀cs b,c.op≠ .select cs b) (i:∀cs b,d.op≠ .select cs b) {K:(ahh->Prop)->Act->Prop} {E:ahh->Prop} {a:Act}
 (k:eZ P ops T C c V G E a) (h:∀v,V v->fL P ops T C j K (G v E) (a.put c.dst v)):
 fL P ops T C j (fun I M=>eZ P ops T C c V G I M/\∀v,V v->K (G v I) (M.put c.dst v)) E a:=by
 obtain⟨q,r,H⟩:=Oper.apart_spec t;have jS:∀(a:Act),eZ P ops T C c V G E a->∀u,eZ P ops T C c V G E (a.put d.dst u):=fun a k u=>
  k.of_same (execOp_put c A a d.dst u H) (wanted_put c a d.dst u H)
 obtain⟨o,n⟩:=k.has J;obtain⟨w0,p⟩:=J;unfold fL at*;simp only[Q]at*;have f:∀v,V v->if Region.wanted d (yielded ops a.tmps)=true then fN P T C d (G v E) (a.put c.dst v) K else K (G v E) ((a.put c.dst v).put d.dst undef):=fun v l=>by
  have:=h v l;rwa [wanted_put d a c.dst v q]at this
 split
 .rename_i x
  simp only[x,if_true]at f;unfold fN at*;by_cases y:d.dst=none
  .simp only[if_pos y]at f⊢
   have N:∀v,G v E=E:=fun v=>by
    rcases k with⟨_,D,S,s,_⟩|⟨_,_,_,_,rfl,_⟩|⟨_,rfl,_⟩|⟨_,_,rfl,_⟩
    .rcases R y with h|h
     .rw[s]at h;cases h
     .exact absurd h D
    .rfl
    .rfl
    .rfl
   refine⟨fun w g U=> ?_,jS a k _,fun v l=> ?_⟩
   .have:=(f o n).1 w g (by rw[N];exact U)
    unfold zD at*;rwa [execOp_put d i a c.dst o q]at this
   .rw[<-Act.put_comm a v undef r]
    exact(f v l).2
  simp only[if_neg y]at f⊢;cases s:T d.dst with
  |some S'=>
   simp only[s]at f⊢;refine⟨fun w g=> ?_,fun u B=>⟨(jS a k u).mono fun w h=>h.1,fun v l=> ?_⟩⟩
   .have:=(f o n).1 w g
    unfold mE at*;rwa [execOp_put d i a c.dst o q]at this
   .rw[<-Act.put_comm a v u r,k.comm]
    exact(f v l).2 u B
  |none=>
   simp only[s]at f⊢;obtain⟨L,u0,z,O⟩:=f o n;have m:∀w,C w->d.quietAt P a C w u0:=fun w g=>by
    have:=z w g;unfold Oper.quietAt at*;rwa [execOp_put d i a c.dst o q]at this
   refine⟨L,u0,m,jS a k u0,fun v l=> ?_⟩;obtain⟨_,u,B,W⟩:=f v l;have F:d.quietAt P a C w0 u:=by
    have:=B w0 p;unfold Oper.quietAt at*;rwa [execOp_put d i a c.dst v q]at this
   have e:=mH L (m w0 p) F;subst e;rw[<-Act.put_comm a v u0 r];exact W
 .rename_i x
  simp only[x]at f;exact⟨jS a k _,fun v l=>by rw[<-Act.put_comm a v undef r];exact f v l⟩
theorem jw{g:Oper}(K:∃w,C w)(D:ops[i]? =some g)(q:∀(j:Nat) (o:Oper) cs b,ops[j]? =some o->o.op≠ .select cs b):
 ∀(fuel:Nat) (listed:Array Bool) (E:ahh->Prop) (a:Act),
  (∀j n,ops[j]? =some n->j≠i->listed.getD j true=false->(∀e∈n.after,Region.binds md e=true->e.on≠i)->g.apart ops n=true/\(n.dst=none->T g.dst=none∨g.dst=none))->
  i∈Region.ready md ops listed->eZ P ops T C g V G E a->
  (∀v,V v->fI P md ops T C Q fuel (listed.setIfInBounds i true) (G v E) (a.put g.dst v))->fI P md ops T C Q (fuel+1) listed E a:=by
 intro fuel
 induction fuel with
 |zero=>
  intro listed E a _ hr u H;refine⟨fun h=>Ki,fun j z=> ?_⟩;by_cases c:j=i
  .subst c;exact u.lv D H
  .have:=ready_mono z c
   obtain⟨v,F⟩:=u.has K;rw[(H v F).1]at this;cases this
 |succ fuel ih=>
  intro listed E a d hr u H;refine⟨fun h=>Ki,fun j z=> ?_⟩;by_cases c:j=i
  .subst c;exact u.lv D H
  .have r:=fun v F=>(H v F).2 j (ready_mono z c)
   obtain⟨f,n,l,t⟩:=mem_ready.1 z;have p:∀e∈n.after,Region.binds md e=true->e.on≠i:=fun e M R heq=>by
    have r:=t e M R;have L:=(mem_ready.1 hr).1;rw[heq]at r;rcases Nat.lt_or_ge i listed.size with I|I
    .simp[I]at L r;rw[L]at r;cases r
    .simp[Array.getElem?_eq_none I]at r
   have O:=tA K l (d j n l c f p).1 (d j n l c f p).2 (fun cs b=>q i g cs b D) (fun cs b=>q j n cs b l) u r;have m:∀k s,ops[k]? =some s->k≠i->(listed.setIfInBounds j true).getD k true=false->
    (∀e∈s.after,Region.binds md e=true->e.on≠i)->g.apart ops s=true/\(s.dst=none->T g.dst=none∨g.dst=none):=fun k s U A y B=>by
    refine d k s U A ?_ B;by_cases x:j=k
    .subst x;exact f
    .rw[getD_set_ne true x]at y;exact y
   refine qL (fun N S J=>ih (listed.setIfInBounds j true) N S m (ready_mono hr (Ne.symm c)) J.1 ?_) O;rw[Array.setIfInBounds_comm _ _ c];exact J.2
def stB(md:Region.Mode)(ops:Array Oper)(c:Option Tmp->Bool):Bool:=(List.range ops.size).all fun j=>(List.range ops.size).all fun i=>((ops[j]?).bind fun b=>(ops[i]?).map fun a=>b.dst.isSome||a.dst.isNone|| !c a.dst||b.after.any (fun e=>Region.binds md e&&e.on==i)).getD true
theorem Ld{n:Option Tmp->Bool}(h:stB md ops n=true)(r:∀d,n d=false->T d=none){i j:Nat}{a f:Oper}(o:ops[i]? =some a)(m:ops[j]? =some f)(b:∀e∈f.after,Region.binds md e=true->e.on≠i)(p:f.dst=none):T a.dst=none∨a.dst=none:=by
 have c:=(Array.getElem?_eq_some_iff.1 o).1;have l:=(Array.getElem?_eq_some_iff.1 m).1;have h1:=(List.all_eq_true.1 ((List.all_eq_true.1 h) j (List.mem_range.2 l))) i (List.mem_range.2 c);simp only[o,m,Option.bind_some,Option.map_some,Option.getD_some,p,Option.isSome_none,Bool.false_or,Bool.or_eq_true]at h1;rcases h1 with(h1|h1)|h1
 .exact .inr Fa
 .exact .inl (r _ Fa)
 .exfalso
  rw[Array.any_eq_true]at h1;obtain⟨k,q,g⟩:=h1;rw[Bool.and_eq_true]at g;exact b _ (Array.getElem_mem q) g.1 (by simpa using g.2)
theorem iA{Q:(ahh->Prop)->Act->Prop}{r:Option Tmp->Bool}(b:stB md ops r=true)(e:∀d,r d=false->T d=none)(q:∃w,C w)(p:Region.noSelect ops=true):∀(l:List Oper) (k:Nat) (listed:Array Bool) (E:ahh->Prop) (a:Act),(∀j,l[j]? =ops[k+j]?)->
 Region.lexFrom md ops l.length k listed=true->dA P ops T C Q l E a->fI P md ops T C Q l.length listed E a
 |[],_,_,_,_,_,hB,h=>⟨Xo,h⟩
 |o::l,k,listed,E,a,hl,hB,h=>by
  have h0:ops[k]? =some o:=by simpa using (hl 0).symm
  simp only[List.length_cons,Region.lexFrom,Bool.and_eq_true]at hB;obtain⟨⟨u,s⟩,n⟩:=hB;have g:fL P ops T C k (dA P ops T C Q l) E a:=abv;obtain⟨V,G,x,hK⟩:=js h0 g;exact jw q h0 (Region.noSelect_spec p) l.length listed E a (fun j y f m i c=>⟨Region.free_spec h0 s j y f m i c,Ld b e h0 f c⟩) (by simpa using u) x
   (fun v t=>iA b e q p l (k+1) _ _ _ (fun j=>abu) n (hK v t))
theorem ba{k:Nat}{Q:Exit->Act->ahh->Prop}{l:List Oper}(T:Option Tmp->Option Sat)(j:Option Tmp->Bool)(g:∀d,j d=false->T d=none)(m:P.follows .mixedOrders=true)(c:stB .any l.toArray j=true)(f:Region.lexB .any l.toArray=true)
 (h:dA P l.toArray T (fun b=>∃n:aG w,b=n.1) (fun E e=>∀n:aG w,E n.1->Q .normal e n.1) l (fun _=>True) a):(Code.region k l.toArray true).wp P Q a w:=by
 simp only[Region.lexB,Bool.and_eq_true]at f;have i:(fun b=>∃n:aG w,b=n.1) {w with drawn:=w.drawn+1}:=⟨⟨{w with drawn:=w.drawn+1},⟨rfl,rfl,rfl,Nat.le_refl _,fun _ _=>rfl⟩⟩,rfl⟩;refine wp_region_any m (gz (T:=T) (C:=fun b=>∃n:aG w,b=n.1) (Q:=fun E e=>∀n:aG w,E n.1->Q .normal e n.1) (fun E e b jV hE h=>QE) _ _ (fun _=>True) _ _ i trivial (fun _ _ _ _=>trivial) ?_);have:=iA (md:=.any) c g ⟨_,i⟩ f.1 l 0 (Array.replicate l.toArray.size false) (fun _=>True) a aQ (by simpa using f.2) h;simpa using this
theorem fU(e:Region.wanted o (yielded ops a.tmps)=true)(b:o.dst≠none)(c:T o.dst=none)(d:eU o=true)
 (h:∀K:Act->Prop,(∀a,dA P ops T C Q rest E a->K a)->o.quiet P a C K):dA P ops T C Q (o::rest) E a:=by
 unfold dA;rw[if_pos e];unfold fN;rw[if_neg b,c];exact⟨d,h _ fun _ h=>h⟩
theorem kD(S:Sat)(f:Region.wanted o (yielded ops a.tmps)=true)(b:o.dst≠none)(c:T o.dst=some S)
 (d:∀w,C w->mE P o a C w S) (e:∀v,Has C S v->dA P ops T C Q rest (fun w=>E w/\S.p v w) (a.put o.dst v)):dA P ops T C Q (o::rest) E a:=by
 unfold dA;rw[if_pos f];unfold fN;rw[if_neg b,c];exact⟨d,e⟩
theorem dP(e:Region.wanted o (yielded ops a.tmps)=true)(b:o.dst=none)
 (c:∀w,C w->E w->zD P o a C w) (d:dA P ops T C Q rest E (a.put o.dst undef)):dA P ops T C Q (o::rest) E a:=by
 unfold dA;rw[if_pos e];unfold fN;rw[if_pos b];exact⟨c,d⟩
theorem uY{q:Nat}{Q:Exit->Act->ahh->Prop}{l:List Oper}(T:Option Tmp->Option Sat)(p:Option Tmp->Bool)(e:ahh->Prop)(g:az w0 w)(j:e w)(f:nD e)(m:∀d,p d=false->T d=none)(r:P.follows .mixedOrders=true)(c:stB .any l.toArray p=true)(k:Region.lexB .any l.toArray=true)
 (h:dA P l.toArray T (fun b=>∃n:aG w0,b=n.1) (fun E i=>∀n:aG w0,E n.1->Q .normal i n.1) l e a):(Code.region q l.toArray true).wp P Q a w:=by
 simp only[Region.lexB,Bool.and_eq_true]at k;have o:(fun b=>∃n:aG w0,b=n.1) {w with drawn:=w.drawn+1}:=⟨⟨{w with drawn:=w.drawn+1},⟨g.os,g.tape,g.output,g.size,g.block⟩⟩,rfl⟩;refine wp_region_any r (gz (T:=T) (C:=fun b=>∃n:aG w0,b=n.1) (Q:=fun E i=>∀n:aG w0,E n.1->Q .normal i n.1) (fun E i b jV hE h=>QE) _ _ e _ _ o (f _ _ j (Ext.of ⟨rfl,rfl,rfl,Nat.le_refl _,fun _ _=>rfl⟩)) f ?_);have:=iA (md:=.any) c m ⟨_,o⟩ k.1 l 0 (Array.replicate l.toArray.size false) e a aQ (by simpa using k.2) h;simpa using this
end
def ZP(p:ahj->Prop):Sat:=⟨fun v _=>p v,fun _ _ _ h _=>h⟩
def ZK(N:Nat)(ks:List Nat):Sat:=⟨fun v w=>∃g:Nat,v=.pointer (some ⟨g,0,none⟩)/\N<=g/\2∉ks/\∃cs:Array ahj,Bx w g cs/\cs.toList.map kd=ks,fun v w m ⟨g,f,j,b,cs,k,c⟩ i=>by
 obtain⟨a,l,d⟩:=i g cs k (fun v h e=>b (by rw[<-c,<-e];exact List.mem_map_of_mem h));exact⟨g,f,j,b,a,l,d.trans c⟩⟩
theorem ZK.get{N:Nat}{ks:List Nat}(h:(ZK N ks).p (.pointer (some ⟨g,0,none⟩)) w):∃cs:Array ahj,Bx w g cs/\cs.toList.map kd=ks:=by
 obtain⟨a,e,_,_,h⟩:=h;injection e with e
 injection e with e
 injection e with e
 subst e;exact h
theorem aX{n:aG w0}{P:aho}{f:FuncId}{args:Array ahj}(S:Sat)(h:ahk P f args n.1 fun e a=>∃v,e=.returned v/\S.p v a/\ahi n.1.heap.size n.1 a):ahk P f args n.1 fun e a=>∃v,e=.returned v/\S.p v a/\(∃m:aG w0,a=m.1)/\Ext n.1 a:=
 h.mono fun e a ⟨v,c,d,b⟩=>⟨v,c,d,⟨⟨a,n.2.trans (b.mono n.2.size)⟩,rfl⟩,Ext.of b⟩
theorem jU(n:aG w0)(t:ahm)(cs:Array ahj)(ks:List Nat)(a:cs.toList.map kd=ks)(b:2∉ks):(ZK w0.heap.size ks).p (.pointer (some ⟨n.1.heap.size,0,none⟩)) (n.1.alloc (.cells cs t))/\(∃m:aG w0,n.1.alloc (.cells cs t)=m.1)/\Ext n.1 (n.1.alloc (.cells cs t)):=
 ⟨⟨_,rfl,n.2.size,b,cs,Bx.new _ _ _,a⟩,⟨⟨_,n.2.trans ((av _ _).mono n.2.size)⟩,rfl⟩,Ext.of (av _ _)⟩
theorem dQ{P:aho}{n:aG w0}(b:ahm)(x y:Operand)(h:o.op=.store b x y)(g:Nat)(cells:Array ahj)(r:a.eval x=.pointer (some ⟨g,0,none⟩))(q:a.eval y=.agg cells)
 (p:∃cs:Array ahj,Bx n.1 g cs/\cs.toList.map kd=cells.toList.map kd) (s:(P.info? b).map (·.size)=some cells.size) (i:cells.all (·.oneCell')=true) (l:w0.heap.size<=g):zD P o a (fun j=>∃m:aG w0,j=m.1) n.1:=by
 obtain⟨cs,d,e⟩:=p;have c:=d;obtain⟨t,f⟩:=d;have k:cs.size=cells.size:=by have:=congrArg List.length e;simpa using this
 unfold zD execOp;simp only[h,r,q,Instr.storeAt,Instr.sureAddr,Sem.run_bind,Sem.run_pure,Result.andThen_ok,run_storeVar_row n.1 g t b cs cells f s k i];exact⟨⟨⟨_,below_setRow n.2 l _⟩,rfl⟩,Ext.row c e.symm⟩
theorem XQ{c:ahh}(h:∃cs:Array ahj,Bx w b cs/\cs.toList.map kd=[0,0,0])(i:Ext w c):∃cs:Array ahj,Bx c b cs/\cs.toList.map kd=[0,0,0]:=by
 obtain⟨cs,j,d⟩:=h;obtain⟨a,k,g⟩:=i b cs j (fun v l e=>by have:=List.mem_map_of_mem (f:=kd) l;rw[d,e]at this;simp at this);exact⟨a,k,g.trans d⟩
theorem AA(h:cs.toList.map kd=[0,0,0]):∃a b c:Int,cs=#[ae aj a,ae aj b,ae aj c]:=by
 have key:∀v:ahj,kd v=0->∃z,v=ae aj z:=fun v d=>by
  unfold kd at d;split at d
  .exact⟨_,rfl⟩
  .cases d
  .cases d
 have⟨l,hl⟩:=eY cs.toList;rw[hl]at h;rcases l with _|⟨u,_|⟨v,_|⟨x,_|⟨y,l⟩⟩⟩⟩<;>simp at h
 obtain⟨a,rfl⟩:=key _ h.1;obtain⟨b,rfl⟩:=key _ h.2.1;obtain⟨c,rfl⟩:=key _ h.2.2;exact⟨a,b,c,Xb⟩
end Kx
theorem mKx{R G:Prop}(h:R)(s:R->G:=by
 intro a
 repeat(refine Kx.fU aB aQ aB aB ?_;intro c b;go_big_quiet_op;go_big_quiet_on)
 exact a):G:=s h
theorem kxA{P:aho}{ops:Array Oper}{T:Option Tmp->Option Kx.Sat}(S:Kx.Sat)
 (c:∀g:aG w0,Kx.mE P o a (fun b=>∃n:aG w0,b=n.1) g.1 S) (h:∀v,Kx.Has (fun b=>∃n:aG w0,b=n.1) S v->Kx.dA P ops T (fun b=>∃n:aG w0,b=n.1) Q rest (fun w=>E w/\S.p v w) (a.put o.dst v)) (d:Region.wanted o (yielded ops a.tmps)=true:=by rfl) (f:o.dst≠none:=by simp) (i:T o.dst=some S:=by rfl):Kx.dA P ops T (fun b=>∃n:aG w0,b=n.1) Q (o::rest) E a:=
 Kx.kD S d f i (fun _ ⟨n,e⟩=>e▸c n) h
def agq(w:ahh)(e:ahn)(c:ahh):Prop:=∃(a d y:Int) (b:Bool),e=.returned (.tuple #[.agg #[ae aj a,ae aj d,ae aj y],.bool b])/\az w c
abbrev v3(a d y:Int):Array ahj:=#[ae aj a,ae aj d,ae aj y]
theorem acX(k:Lk)(g:Int)(w:ahh)(h:mA w w.heap.size k):ahk prog 331 #[k.v,ae aj g] w (agq w):=by
 have⟨H,aP,Z,I⟩:=box1 w k.row 161;have⟨u,bU⟩:=eX (H.alloc (.cells (v3 0 0 0) 303));have G:az H u:=jx;have hN:H.heap.size=w.heap.size+1:=oO;have Fj:u.heap.size=w.heap.size+2:=Bo;have o:=Z.t G;have t:aq (Bx u (w.heap.size+1) (v3 0 0 0)):=⟨Q3⟩;have P:=sH (I.o.ar G I.o.lt);rw[aP]at bU;have R:=sH (h.Z o.o o.o.size);have J:=h.rS.bd;clear h G hN aP I Z;obtain⟨kk,fl,st,S,a,sc⟩:=k;dsimp only at J bU;go_enter func331,ntmps331;go_wp2;rw[<-bU];clear bU;go_loopg[6,7,8](a+1)(fun gg v6 _ _ wr=>∃i:Nat,a-i<gg/\i<=a/\v6=ae aj (i:Int)/\aq (az u wr))
 .exact⟨0,ak,ak,rfl,cA⟩
 obtain⟨i,hg,hi,rfl,l⟩:=hrel;have⟨Y,O,d2,d3⟩:=(P.o.ar l.o P.o.lt).k4;dsimp only at Y O d2 d3;have BW:=o.t l.o;by_cases D:i<a
 .obtain⟨ad,x,rfl,Q,e0,e1,e2,e3,e4,e5,e6,e7,e8,e9,C,F⟩:=jk (A:=S) (n:=a) (c:=sc) (R.o.rS.Z l.o l.o.size) D
  have⟨W3,d⟩:=eX (wr.alloc (.cells x.row 170));obtain⟨U,T,s⟩:=sW Q d;have q:=l.t U;have X5:=sH T;have W:=sH s;have RQ:=s.rC.bd;have hvn:=s.rV.bd;have i4:=aU i a;clear Q T s U;go_wp2;rw[<-d];clear d e0 e1 e2 e3 e4 e5 e6 e7 e8 e9 C F Y O d2 d3;go_loopg[8](x.cn+1)(fun gg v8 wr=>∃j:Nat,x.cn-j<gg/\j<=x.cn/\v8=ae aj (j:Int)/\wr=W3)
  .exact⟨0,ak,ak,rfl,rfl⟩
  obtain⟨j,hgj,hj,rfl,rfl⟩:=hrel;have⟨c0,_,_,_,_,_,_,c7,_⟩:=X5.o.ns;by_cases K:j<x.cn
  .obtain⟨ady,y,X,dy⟩:=gT W.o.rC K
   rw[X]at c0;clear X;by_cases r:y=g
   .have z:(y !=g)=false:=by simp[r]
    by_cases L:j<x.vn
    .obtain⟨adv,v,M,N,V,f0,f1,f2⟩:=Mz W.o.rV L
     rw[V]at c7;clear V;have m:(j:Int)<(x.vn:Int):=ak;have p:=t.o.ar q.o t.o.lt;obtain⟨b,B⟩:=p.heap;have gH:=q.o.size;clear r;go_wp2_with (refine wpList_store_row rfl 303 (.tmp 4) (.tmp 44) rfl (w.heap.size+1) (v3 v M N) rfl rfl b _ B aF aB dJ ?_;have E:=p.row (ds:=v3 v M N));obtain⟨f,e⟩:=E.heap;refine bodyPost_ret (bR results331 _ _ (w.heap.size+1) f _ (0,0) _ aB e underlying303 rfl aF) rfl ?_;exact⟨v,M,N,true,rfl,below_setRow (o.o.trans (q.o.mono o.o.size)) ak _⟩
    .have m:¬(j:Int)<(x.vn:Int):=by omega
     clear r;go_wp2;go_roundg(a-i)
     .exact⟨i+1,ak,ak,aT,q⟩
     omega
   .have z:(y !=g)=true:=by simp[r]
    go_wp2;go_roundg(x.cn-j)
    .exact⟨j+1,ak,ak,aT,rfl⟩
    omega
  .go_wp2
   go_roundg(a-i)
   .exact⟨i+1,ak,ak,aT,q⟩
   omega
 .have p:=t.o.ar l.o t.o.lt
  obtain⟨b,B⟩:=p.heap;go_wp2_with (refine wpList_store_row rfl 303 (.tmp 4) (.tmp 45) rfl (w.heap.size+1) (v3 0 0 0) rfl aB b _ B aF aB dJ ?_;have E:=p.row (ds:=v3 0 0 0));obtain⟨f,e⟩:=E.heap;refine bodyPost_ret (bR results331 _ _ (w.heap.size+1) f _ (0,0) _ aB e underlying303 rfl aF) rfl ?_;exact⟨0,0,0,false,rfl,below_setRow BW.o ak _⟩
abbrev v10(i e h f a c j g d b:Int):Array ahj:=#[ae aj i,ae aj e,ae aj h,ae aj f,ae aj a,ae aj c,ae aj j,ae aj g,ae aj d,ae aj b]
def TY(h:Int)(v:ahj):Prop:=∃i g d a c j f e b:Int,v=.agg (v10 i h g d a c j f e b)
def PAg(w:ahh)(b:Int)(e:ahn)(a:ahh):Prop:=∃v,e=.returned v/\TY b v/\az w a
theorem Xz(l b i g c e j h f k a d y:Int)(w:ahh):ahk prog 332 #[.agg (v10 l b i g c e j h f k),.agg (v3 a d y)] w (PAg w b):=by
 have o:∀o1 n:Obj,(((w.alloc o1).alloc n).alloc (.cells (v10 l b (ahl (i+a)) (ahl (g+d)) (ahl (c+y)) e j h f k) 120)).heap[w.heap.size+2]? =some (.cells (v10 l b (ahl (i+a)) (ahl (g+d)) (ahl (c+y)) e j h f k) 120 (0,0)):=fun o1 n=>by
  have:=heap_alloc_new ((w.alloc o1).alloc n) (.cells (v10 l b (ahl (i+a)) (ahl (g+d)) (ahl (c+y)) e j h f k) 120);simpa using this
 have m:=Lib.hid o;go_enter func332,ntmps332;go_wp2_with fail;refine bodyPost_ret (results_cell_row results332 _ _ (w.heap.size+2) 120 _ (0,0) _ aB (m.out _ _) underlying120 rfl aF) rfl ?_;exact⟨_,rfl,⟨_,_,_,_,_,_,_,_,_,rfl⟩,((av _ _).alloc aQ _).alloc cw _⟩
theorem lg{P:aho}{k:Func}{p q b:Tmp}{a:ahm}(h:k.results=#[.cell p a,.cell q a,.tmp b])(tmps:Array ahj)(w:ahh)(g g2:Nat)(t l:ahm)(cs ds:Array ahj)(o c:Nat×Nat)(d:TypeDesc)
 (hp:tmps.getD p undef=.pointer (some ⟨g,0,none⟩)) (r:tmps.getD q undef=.pointer (some ⟨g2,0,none⟩)) (s:w.heap[g]? =some (.cells cs t o)) (j:w.heap[g2]? =some (.cells ds l c))
 (n:P.underlying a=some d) (m:(match d with| .struct _| .array _ _=>true|_=>false)=true) (u:(P.info? a).map (·.size)=some cs.size) (e:(P.info? a).map (·.size)=some ds.size):
 (results k tmps).run P w=.ok (.tuple #[.agg cs,.agg ds,tmps.getD b undef]) w:=by
 have i:tmps[p]?.getD undef=.pointer (some ⟨g,0,none⟩):=QV;have f:tmps[q]?.getD undef=.pointer (some ⟨g2,0,none⟩):=by simpa using r
 simp[results,h,i,f,asAddr,run_loadVar_row w g t a cs o d s n m u,run_loadVar_row w g2 l a ds c d j n m e]
theorem xr(h:cK w B GR A n c)(q:j<n):∃(a:Addr) (i o l g d f m k:Int),A=some a/\w.cell? (a.add (j*8))=some (ae aj i)/\w.cell? (bP (a.add (j*8)) 1)=some (ae aj o)/\w.cell? (bP (a.add (j*8)) 2)=some (ae aj l)/\w.cell? (bP (a.add (j*8)) 3)=some (ae aj g)/\w.cell? (bP (a.add (j*8)) 4)=some (ae aj d)/\w.cell? (bP (a.add (j*8)) 5)=some (ae aj f)/\w.cell? (bP (a.add (j*8)) 6)=some (ae aj m)/\w.cell? (bP (a.add (j*8)) 7)=some (ae aj k):=by
 obtain⟨a,e,_,r⟩:=h.2.2.2 ak;obtain⟨t,s,b⟩:=r j q;obtain⟨_,_,rfl,⟨i,rfl,_⟩,⟨_,_,rfl,⟨o,rfl,_⟩,⟨_,_,rfl,⟨_,_,rfl,⟨l,rfl,_⟩,⟨_,_,rfl,⟨g,rfl,_⟩,⟨d,rfl,_⟩⟩⟩,⟨_,_,rfl,⟨f,rfl,_⟩,⟨_,_,rfl,⟨m,rfl,_⟩,⟨k,rfl,_⟩⟩⟩⟩⟩⟩:=s;have p:=b 0 _ rfl;rw[ew]at p;exact⟨a,i,o,l,g,d,f,m,k,e,p,b 1 _ rfl,b 2 _ rfl,b 3 _ rfl,b 4 _ rfl,b 5 _ rfl,b 6 _ rfl,b 7 _ rfl⟩
theorem Bx.ac8(h:Bx w b cs)(a:b≠g)(ds:Array ahj):Bx (w.setRow g ds) b cs:=by
 obtain⟨t,h⟩:=h;exact⟨t,by rw[setRow_other _ _ _ _ a];exact h⟩
def acA(w:ahh)(e:ahn)(g:ahh):Prop:=∃(a d y c h f:Int) (b:Bool),e=.returned (.tuple #[.agg (v3 a d y),.agg (v3 c h f),.bool b])/\az w g
theorem aar(k:Lk)(t g2:Int)(w:ahh)(h:mA w w.heap.size k):ahk prog 334 #[k.v,ae aj t,ae aj g2] w (acA w):=by
 have⟨K,aP,B1,X1⟩:=box1 w k.row 161;have⟨s,bU⟩:=eX ((K.alloc (.cells (v3 0 0 0) 303)).alloc (.cells (v3 0 0 0) 303));have bb:az K s:=Zd;have hN:K.heap.size=w.heap.size+1:=oO;have Fj:s.heap.size=w.heap.size+3:=Bo;have v:=B1.t bb;have Z:aq (Bx s (w.heap.size+1) (v3 0 0 0)):=⟨by rw[bU];exact(Bx.gY _ _ _ hN).ar ((Below.refl (w.heap.size+2) _).alloc (by simp;omega) _) (by omega)⟩;have q:aq (Bx s (w.heap.size+2) (v3 0 0 0)):=⟨by rw[bU];exact Bx.gY _ _ _ (by simp;omega)⟩;have X4:=sH (X1.o.ar bb X1.o.lt);rw[aP]at bU;have R:=sH h;have ox:=h.rS.bd;clear h bb hN aP X1 B1;obtain⟨kk,fl,st,S,d,sc⟩:=k;dsimp only at ox bU;go_enter func334,ntmps334;go_wp2;rw[<-bU];clear bU;go_loopg[9,10,11](d+1)(fun gg v9 _ _ wr=>∃i:Nat,d-i<gg/\i<=d/\v9=ae aj (i:Int)/\wr=s)
 .exact⟨0,ak,ak,rfl,rfl⟩
 obtain⟨i,hg,hi,rfl,rfl⟩:=hrel;have⟨d0,d1,d2,d3⟩:=X4.o.k4;dsimp only at d0 d1 d2 d3;by_cases H:i<d
 .obtain⟨ad,x,rfl,X,e0,e1,e2,e3,e4,e5,e6,e7,V,e9,W,su⟩:=jk (A:=S) (n:=d) (c:=sc) R.o.rS H
  have V:=au V v.o;have RP:=sH X.rP;have UM:=X.rP.bd;generalize x.P=PA at*;have i4:=aU i d;clear X;go_wp2;clear d0 d1 d2 d3 e0 e1 e2 e3 e4 e5 e6 e7 V e9 W su;go_loopg[11](x.pn+1)(fun gg I J=>∃j:Nat,x.pn-j<gg/\j<=x.pn/\I=ae aj (j:Int)/\J=wr)
  .exact⟨0,ak,ak,rfl,rfl⟩
  obtain⟨j,hgj,hj,rfl,rfl⟩:=hrel;by_cases P:j<x.pn
  .obtain⟨adp,F,N,x2,x3,x4,x5,x6,x7,rfl,p0,M,p2,p3,p4,p5,p6,p7⟩:=xr RP.o P
   have agh:(j:Int)<(x.pn:Int):=ak;have⟨E,C,B,z,G,D⟩:=lc6 p2 p3 p4 p5 p6 p7;have LS:=sH (And.intro E (And.intro C (And.intro B (And.intro z (And.intro G D)))));have p0:=au p0 v.o;have M:=au M v.o;clear E C B z G D p2 p3 p4 p5 p6 p7;by_cases p:F=t
   .by_cases y:N=g2
    .have r:(F==t)=true:=by simp[p]
     have L:(N==g2)=true:=(by simp[y]);clear p y;go_wp2;obtain⟨E,C,B,z,G,D⟩:=LS.o;clear p0 M;refine Kx.uY (w0:=w) (fun _=>none) (fun _=>false) (fun w'=>(∃cs:Array ahj,Bx w' (w.heap.size+1) cs/\cs.toList.map Kx.kd=[0,0,0])/\(∃cs:Array ahj,Bx w' (w.heap.size+2) cs/\cs.toList.map Kx.kd=[0,0,0])) v.o ⟨⟨_,Z.o,rfl⟩,⟨_,q.o,rfl⟩⟩ (fun u u' hu he=>⟨Kx.XQ hu.1 he,Kx.XQ hu.2 he⟩) (fun _ _=>rfl) aF aF aF ?_;refine mKx ?_;refine Kx.dP aB aB (fun w9 l m=> ?_) ?_
     .obtain⟨T,rfl⟩:=l
      exact Kx.dQ 303 (.tmp 6) (.tmp 51) rfl (w.heap.size+1) (v3 x2 x3 x4) rfl rfl m.1 aF dJ ak
     simp[Act.put];refine mKx ?_;refine Kx.dP aB aB (fun w9 l m=> ?_) ?_
     .obtain⟨T,rfl⟩:=l
      exact Kx.dQ 303 (.tmp 7) (.tmp 56) rfl (w.heap.size+2) (v3 x5 x6 x7) rfl rfl m.2 aF dJ ak
     simp[Act.put];refine mKx ?_;intro T hE;obtain⟨⟨cs,Q,k1⟩,⟨ds,hX2,k2⟩⟩:=hE;obtain⟨a,b,c,rfl⟩:=Kx.AA k1;obtain⟨a',b',c',rfl⟩:=Kx.AA k2;obtain⟨o,Y⟩:=Q.heap;obtain⟨f,e⟩:=hX2.heap;have BN:=sH T.2;clear E C B z G D k1 k2;go_wp2_with fail;refine bodyPost_ret (lg results334 _ _ (w.heap.size+1) (w.heap.size+2) o f _ _ (0,0) (0,0) _ aB aB Y e underlying303 rfl aF aF) rfl ?_;exact⟨a,b,c,a',b',c',true,rfl,BN.o⟩
    .have r:(F==t)=true:=by simp[p]
     have L:(N==g2)=false:=(by simp[y]);clear p y;go_wp2;go_roundg(x.pn-j)
     .exact⟨j+1,ak,ak,aT,rfl⟩
     omega
   .have r:(F==t)=false:=by simp[p]
    clear p;go_wp2;go_roundg(x.pn-j)
    .exact⟨j+1,ak,ak,aT,rfl⟩
    omega
  .go_wp2
   go_roundg(d-i)
   .exact⟨i+1,ak,ak,aT,rfl⟩
   omega
 .obtain⟨U,hX⟩:=Z.o.heap
  go_wp2_with (first
   |(refine wpList_store_row rfl 303 (.tmp 6) (.tmp 57) rfl (w.heap.size+1) (v3 0 0 0) rfl aB U _ hX aF aB dJ ?_;have X5:=Z.o.row (ds:=v3 0 0 0);have X6:=q.o.ac8 (g:=w.heap.size+1) ak (v3 0 0 0);obtain⟨O,hY⟩:=X6.heap)
   |(refine wpList_store_row rfl 303 (.tmp 7) (.tmp 58) rfl (w.heap.size+2) (v3 0 0 0) rfl aB O _ hY aF aB dJ ?_;have X7:=X6.row (ds:=v3 0 0 0);have X8:=X5.ac8 (g:=w.heap.size+2) ak (v3 0 0 0)))
  obtain⟨o,Y⟩:=X8.heap;obtain⟨f,e⟩:=X7.heap;refine bodyPost_ret (lg results334 _ _ (w.heap.size+1) (w.heap.size+2) o f _ _ (0,0) (0,0) _ aB aB Y e underlying303 rfl aF aF) rfl ?_;exact⟨0,0,0,0,0,0,false,rfl,below_setRow (below_setRow v.o ak _) ak _⟩
section
open Go.Deep
theorem OL.Ew{e:ahm}{cs:aC}(h:OL w B e 10 (fun xs=>aL xs=cs) (some ⟨g,0,none⟩) n c){j:Nat}(a:j<n)(t o l i p d m r f s:Int)(D:o=nth cs j):
 OL (w.setCells g (j*10) (v10 t o l i p d m r f s).toList) B e 10 (fun xs=>aL xs=cs) (some ⟨g,0,none⟩) n c:=by
 have k:∀(q:Nat) (v:Int),q≠1->∀(xs:List aC) (u:xs.length=n),(∀g∈xs,g.length=10)->aL xs=cs->aL (xs.set j ((xs[j]' ak).set q v))=cs:=fun q v G xs u _ b=>by rw[qA xs ak G,b]
 have z:=h.set (L':=fun xs=>aL xs=cs) a (q:=0) ak t (k 0 t ak);have H:=z.set (L':=fun xs=>aL xs=cs) a (q:=1) ak o (fun xs u x b=>by
  have E:=dM xs;rw[ui xs j ak x,b,D,cB (by rw[<-b];omega),List.set_getElem_self])
 have A:=H.set (L':=fun xs=>aL xs=cs) a (q:=2) ak l (k 2 l ak);have y:=A.set (L':=fun xs=>aL xs=cs) a (q:=3) ak i (k 3 i ak);have K:=y.set (L':=fun xs=>aL xs=cs) a (q:=4) ak p (k 4 p ak);have I:=K.set (L':=fun xs=>aL xs=cs) a (q:=5) ak d (k 5 d ak);have C:=I.set (L':=fun xs=>aL xs=cs) a (q:=6) ak m (k 6 m ak);have F:=C.set (L':=fun xs=>aL xs=cs) a (q:=7) ak r (k 7 r ak);have J:=F.set (L':=fun xs=>aL xs=cs) a (q:=8) ak f (k 8 f ak);exact J.set (L':=fun xs=>aL xs=cs) a (q:=9) ak s (k 9 s ak)
theorem Oq.xY{e:ahm}{Q:aC->Prop}(h:Oq w B e 10 Q (some ⟨g,0,none⟩) n c){j:Nat}(l:j<n):w.there g (j*10) 10:=fun i p=>by
 obtain⟨E,z,x,v,A,t,y,C,u,D,_,a,s,f,o,b,k,r,d,m,q⟩:=h.bD l;refine⟨?_,h.fz _⟩
 match i,p with
 |0,_=>rw[Nat.add_zero,a];rfl
 |1,_=>rw[s];rfl
 |2,_=>rw[f];rfl
 |3,_=>rw[o];rfl
 |4,_=>rw[b];rfl
 |5,_=>rw[k];rfl
 |6,_=>rw[r];rfl
 |7,_=>rw[d];rfl
 |8,_=>rw[m];rfl
 |9,_=>rw[q];rfl
theorem dB{B g:Nat}{a:ahh}(b:B<=g):∀(vs:List ahj) (o:Nat) (w:ahh),ahi B a w->ahi B a (w.setCells g o vs)
 |[],_,_,h=>h
 |v::vs,o,w,h=>dB b vs (o+1) _ (Below.setCell h (p:=⟨g,o,none⟩) b v)
def PAs(w:ahh)(B:Nat)(Q:List aC->Prop)(n:Nat)(e:ahn)(a:ahh):Prop:=∃(A:aA) (m c x:Nat) (b:Bool),e=.returned (.tuple #[.slice A m c,ae aj (x:Int),.bool b])/\(b=true->m=n/\x<=n+1/\fR a B Q A m c)/\az w a
theorem Bx.fE(h:Bx w b cs)(a:b≠g)(o:Nat)(v:ahj):Bx (w.setCell ⟨g,o,none⟩ v) b cs:=by
 obtain⟨t,h⟩:=h;exact⟨t,(Below.heap_setCell _ _ _ _ a).trans h⟩
theorem Bx.tB{b g:Nat}{cs:Array ahj}(a:b≠g):∀(vs:List ahj) (o:Nat) {w:ahh},Bx w b cs->Bx (w.setCells g o vs) b cs
 |[],_,_,h=>h
 |v::vs,o,w,h=>Bx.tB a vs (o+1) (h.fE a o v)
def ZQ(p:ahj->Prop):Sat:=⟨fun v _=>p v,fun _ _ _ h _=>h⟩
def aab(v:ahj):Prop:=∃(a d y:Int) (b:Bool),v=.tuple #[.agg (v3 a d y),.bool b]
def Pm(v:ahj):Prop:=∃(a d y c e f:Int) (b:Bool),v=.tuple #[.agg (v3 a d y),.agg (v3 c e f),.bool b]
theorem aei{G:Prop}(s:G:=by
 go_simp
 refine aX (ZQ (TY x1)) ((Xz x0 x1 x2 x3 x4 x5 x6 x7 x8 x9 a1 a2 a3 nq.1).mono ?_);rintro e w5 ⟨v,rfl,hv,hb⟩;exact⟨_,rfl,hv,hb⟩):G:=s
theorem We(f:cY)(k:Lk)(lo hi:Int)(A:aA)(n c at_:Nat)(w:ahh)(h:bZ w w.heap.size f)(hk:mA w w.heap.size k)(hl:kT w (bk lo hi) A n)(hn:n<=50000)(ha:at_<n):
 ahk prog 311 #[f.v,k.v,.slice A n c,ae aj (at_:Int)] w (PAs w w.heap.size (bk lo hi) n):=by
 have⟨W,aP,U,X1,X2⟩:=box2 w f.row 96 k.row 161;have R:=sH (h.Z U.o U.o.size);have RK:=sH (hk.Z U.o U.o.size);have GL:=sH (hl.iX.Z U.o U.o.size);obtain⟨gs,hS,hx0⟩:=hl;have GX:=sH (hx0.Z U.o U.o.size);have HN:=sH hx0.1;have Cg:aq (∀xs,aL xs=aL gs->bk lo hi xs):=⟨fun xs h=>by show CS _ _ _;rw[h];exact hS⟩;clear h hk hS hx0;have i1:¬((n:Int)<=(at_:Int)):=ak;have i3:=aU at_ n;obtain⟨kk,fl,st,S,sn,sc⟩:=k;have Gc:kk=6∨kk=7∨((kk==6)=false/\(kk==7)=false):=cw;rcases Gc with rfl|rfl|⟨k1,k2⟩
 rotate_left 2
 .go_enter func311,ntmps311
  go_wp2_with (at_builtin;rw[<-aP];refine cd (M:=fun xs=>xs=gs) (L':=fun xs=>aL xs=aL gs) my rfl (.tmp 26) (.tmp 27) rfl rfl (OL.nil (L:=fun xs=>xs=[]) W W.heap.size _ _ rfl) rfl ⟨gs,rfl,GX.o⟩ (fun xs ys _ _ _ _ h1 h2=>by subst h1;subst h2;rfl) ak bW ?_;intro A7 c7 w7 o7 Q;rw[Nat.zero_add]at o7;have O7:=sH o7;have G:=sH Q;have⟨Z,V,Y,X⟩:=(X2.o.ar Q X2.o.lt).k4;have⟨c0,c1,c2,c3,c4,c5⟩:=(X1.o.ar Q X1.o.lt).f6;dsimp only at Z V Y X;clear o7 Q);go_ret3;exact⟨none,0,0,0,false,rfl,aQ,U.o.trans (G.o.mono U.o.size)⟩
 .go_enter func311,ntmps311
  go_wp2_with (at_builtin;rw[<-aP];refine cd (M:=fun xs=>xs=gs) (L':=fun xs=>aL xs=aL gs) my rfl (.tmp 26) (.tmp 27) rfl rfl (OL.nil (L:=fun xs=>xs=[]) W W.heap.size _ _ rfl) rfl ⟨gs,rfl,GX.o⟩ (fun xs ys _ _ _ _ h1 h2=>by subst h1;subst h2;rfl) ak bW ?_;intro A7 c7 w7 o7 Q;rw[Nat.zero_add]at o7;have O7:=sH o7;have G:=sH Q;have⟨Z,V,Y,X⟩:=(X2.o.ar Q X2.o.lt).k4;have⟨c0,c1,c2,c3,c4,c5⟩:=(X1.o.ar Q X1.o.lt).f6;dsimp only at Z V Y X;clear o7 Q);have Sl:=G.o.size;have⟨M0,M1,M2,M3⟩:=lc4 Z V Y X;have BV7:=U.t G.o;have G7:=sH (GL.o.Z G.o G.o.size);have YH:=sH (RK.o.Z G.o G.o.size);obtain⟨ad,x0,x1,x2,x3,x4,x5,x6,x7,x8,x9,rfl,hQ,T,_⟩:=G7.o.bD ha;have E0:=aE T;clear Z V Y X c0 c1 c2 c3 c4 c5 T hQ;refine Kx.ba (fun d=>if d=some 40 then some (Kx.ZP aab)else if d=some 12 then some (Kx.ZK w7.heap.size [0,0,0])else none) (fun d=>d==some 40||d==some 12) (fun d hd=>vu) aF aF aF ?_;refine mKx ?_;refine kxA (Kx.ZP aab) (fun nq=> ?_) (fun v9 j=> ?_)
  .go_simp
   refine Kx.aX (Kx.ZP aab) ((acX ⟨6,fl,st,S,sn,sc⟩ x0 nq.1 (YH.o.Z nq.2 nq.2.size)).mono ?_);rintro e w5 ⟨a,d,y,b,rfl,hb⟩;exact⟨_,rfl,⟨a,d,y,b,rfl⟩,hb⟩
  obtain⟨_,_,va,vd,vy,b,rfl⟩:=j;simp[Act.put];refine mKx ?_;refine kxA (Kx.ZK w7.heap.size [0,0,0]) (fun nq=> ?_) (fun v9 j=> ?_)
  .go_simp
   exact Kx.jU nq _ _ _ rfl aQ
  obtain⟨_,_,g2,rfl,dw,_⟩:=j;simp[Act.put];refine Kx.dP aB aB (fun w9 i K=> ?_) ?_
  .obtain⟨nq,rfl⟩:=i
   exact Kx.dQ 303 (.tmp 12) (.tmp 41) rfl g2 (v3 va vd vy) rfl rfl (Kx.ZK.get K.2) aF dJ dw
  simp[Act.put];refine mKx ?_;intro nq P;obtain⟨cs,hX,oR⟩:=Kx.ZK.get P.2;obtain⟨a1,a2,a3,rfl⟩:=Kx.AA oR;have X8:=sH hX;have I:=sH (G.o.trans (nq.2.mono Sl));have O8:=sH (O7.o.ar nq.2);have l:=BV7.t nq.2;have⟨w8,J⟩:=eX nq.1;rw[<-J]at I O8 l X8
  try dsimp only
  rw[<-J];clear J P E0 M0 M1 M2 M3 hX oR;have kU:=U.o.size;cases b
  .go_wp2
   go_ret3;exact⟨none,0,0,0,false,rfl,aQ,l.o⟩
  go_wp2;obtain⟨m,rfl,AO,Pa⟩:=O8.o.form ak;obtain⟨ad8,x0,x1,x2,x3,x4,x5,x6,x7,x8,x9,p,hQ,T,e1,e2,e3,e4,e5,e6,e7,e8,e9⟩:=(GX.o.Z I.o I.o.size).bD ha;obtain rfl:ad=ad8:=Option.some.inj p;have QX:aq (x1=nth (aL gs) at_):=⟨by rw[fS (by rw[HN.o];exact ha),<-hQ];rfl⟩;have⟨F0,F1,F2,F3,F4,F5,F6,F7⟩:=lc8 T e1 e2 e3 e4 e5 e6 e7;have⟨F8,F9,H0,H1,H2⟩:=lc5 e8 e9 (X8.o.cell 0) (X8.o.cell 1) (X8.o.cell 2);clear T e1 e2 e3 e4 e5 e6 e7 e8 e9 p hQ;refine aS (iZ 51 (ZQ (TY x1))) 9 rfl aF aF aF aF aF rfl ?_;refine mLw ?_;refine lwA (ZQ (TY x1)) (fun nq=> ?_) (fun v9 j=> ?_)
  .exact aei
  obtain⟨_,_,C,r,s,E,u,x,D,B,F,rfl⟩:=j;simp[Act.put];refine mLw ?_;intro nq P;have o:fR nq.1 W.heap.size (fun xs=>aL xs=aL gs) (some ⟨m,0,none⟩) n c7:=O8.o.ar nq.2;have TH:=o.o.xY ha;have O9:=sH (o.Ew ha C x1 r s E u x D B F QX.o);have q:aq (az w (nq.1.setCells m (at_*10) (v10 C x1 r s E u x D B F).toList)):=⟨dB ak _ _ _ (l.o.trans (nq.2.mono l.o.size))⟩;have O:aq (az W (nq.1.setCells m (at_*10) (v10 C x1 r s E u x D B F).toList)):=⟨dB ak _ _ _ (I.o.trans (nq.2.mono I.o.size))⟩;have KB:aq (∀(b:Nat) (cs:Array ahj),Bx w8 b cs->b≠m->Bx (nq.1.setCells m (at_*10) (v10 C x1 r s E u x D B F).toList) b cs):=⟨fun b cs hb hn=>Bx.tB hn _ _ (hb.ar nq.2 hb.lt)⟩;clear F0 F1 F2 F3 F4 F5 F6 F7 F8 F9 H0 H1 H2;refine wp_store_mid 120 (.tmp 52) (.tmp 51) rfl m (at_*10) (v10 C x1 r s E u x D B F) rfl rfl TH aF dJ ?_;have⟨w9,i⟩:=eX (nq.1.setCells m (at_*10) (v10 C x1 r s E u x D B F).toList);rw[<-i]at O9 q O KB
  try dsimp only
  rw[<-i]
  try simp only[Act.put]
  clear i TH o P;go_wp2;go_ret3;exact⟨_,n,c7,at_+1,true,rfl,fun _=>⟨rfl,ak,(O9.o.imp fun xs _ _ h=>Cg.o xs h).cJ ak⟩,q.o⟩
 .go_enter func311,ntmps311
  go_wp2_with (at_builtin;rw[<-aP];refine cd (M:=fun xs=>xs=gs) (L':=fun xs=>aL xs=aL gs) my rfl (.tmp 26) (.tmp 27) rfl rfl (OL.nil (L:=fun xs=>xs=[]) W W.heap.size _ _ rfl) rfl ⟨gs,rfl,GX.o⟩ (fun xs ys _ _ _ _ h1 h2=>by subst h1;subst h2;rfl) ak bW ?_;intro A7 c7 w7 o7 Q;rw[Nat.zero_add]at o7;have O7:=sH o7;have G:=sH Q;have⟨Z,V,Y,X⟩:=(X2.o.ar Q X2.o.lt).k4;have⟨c0,c1,c2,c3,c4,c5⟩:=(X1.o.ar Q X1.o.lt).f6;dsimp only at Z V Y X;clear o7 Q);have Sl:=G.o.size;have BV7:=U.t G.o;have G7:=sH (GL.o.Z G.o G.o.size);have YH:=sH (RK.o.Z G.o G.o.size);have NX:=sH (xq f ⟨7,fl,st,S,sn,sc⟩ (Fq lo hi) A n c at_ w7 (R.o.Z G.o G.o.size) G7.o ak ha);refine NX.o.mono ?_;rintro e w6 ⟨z,rfl,hz,H⟩;have B6:=sH (G.o.trans (H.mono Sl));have zo:=BV7.t H;have O6:=sH (O7.o.ar H);have G6:=sH (G7.o.Z H H.size);have RK6:=sH (YH.o.Z H H.size);clear NX H c0 c1 c2 c3 c4 c5 Z V Y X;rcases hz with rfl|⟨gJ,eQ⟩
  .go_wp2
   go_ret3;exact⟨none,0,0,0,false,rfl,aQ,zo.o⟩
  obtain⟨t,rfl⟩:∃t:Nat,z=(t:Int):=⟨z.toNat,ak⟩;have fZ:t<n:=ak;have i5:=aU t n;have i6:((t:Int)== -1)=false:=gZ;have⟨Z,V,Y,X⟩:=(X2.o.ar B6.o X2.o.lt).k4;dsimp only at Z V Y X;obtain⟨ad,x0,x1,x2,x3,x4,x5,x6,x7,x8,x9,rfl,hQ,T,_⟩:=G6.o.bD ha;obtain⟨ik,y0,y1,y2,y3,y4,y5,y6,y7,y8,y9,p,hQ',f0,_⟩:=G6.o.bD fZ;obtain rfl:ad=ik:=Option.some.inj p;have⟨E0,E1,M0,M1,M2,M3⟩:=lc6 T f0 Z V Y X;clear Z V Y X T f0 hQ hQ' p gJ eQ;go_wp2;refine Kx.ba (fun d=>if d=some 77 then some (Kx.ZP Pm)else if d=some 15 then some (Kx.ZK w6.heap.size [0,0,0])else if d=some 16 then some (Kx.ZK w6.heap.size [0,0,0])else none) (fun d=>d==some 77||d==some 15||d==some 16) (fun d hd=>vu) aF aF aF ?_;refine mKx ?_;refine kxA (Kx.ZP Pm) (fun nq=> ?_) (fun v9 j=> ?_)
  .go_simp
   refine Kx.aX (Kx.ZP Pm) ((aar ⟨7,fl,st,S,sn,sc⟩ x0 y0 nq.1 (RK6.o.Z nq.2 nq.2.size)).mono ?_);rintro e w5 ⟨a,d,y,a',d',y',b,rfl,hb⟩;exact⟨_,rfl,⟨a,d,y,a',d',y',b,rfl⟩,hb⟩
  obtain⟨_,_,va,vd,vy,va',vd',vy',b,rfl⟩:=j;simp[Act.put];refine mKx ?_;refine kxA (Kx.ZK w6.heap.size [0,0,0]) (fun nq=> ?_) (fun v9 j=> ?_)
  .go_simp
   exact Kx.jU nq _ _ _ rfl aQ
  obtain⟨_,_,g2,rfl,dw,_⟩:=j;simp[Act.put];refine kxA (Kx.ZK w6.heap.size [0,0,0]) (fun nq=> ?_) (fun v9 j=> ?_)
  .go_simp
   exact Kx.jU nq _ _ _ rfl aQ
  obtain⟨_,_,g3,rfl,si,_⟩:=j;simp[Act.put];refine Kx.dP aB aB (fun w9 i K=> ?_) ?_
  .obtain⟨nq,rfl⟩:=i
   exact Kx.dQ 303 (.tmp 15) (.tmp 78) rfl g2 (v3 va vd vy) rfl rfl (Kx.ZK.get (by first|exact K.1.2|exact K.2.1)) aF dJ dw
  simp[Act.put];refine Kx.dP aB aB (fun w9 i K=> ?_) ?_
  .obtain⟨nq,rfl⟩:=i
   exact Kx.dQ 303 (.tmp 16) (.tmp 79) rfl g3 (v3 va' vd' vy') rfl rfl (Kx.ZK.get (by first|exact K.2|exact K.2.2)) aF dJ si
  simp[Act.put];refine mKx ?_;intro nq P;obtain⟨cs,hX,oR⟩:=Kx.ZK.get (w:=nq.1) (g:=g2) (N:=w6.heap.size) (by first|exact P.1.2|exact P.2.1);obtain⟨a1,a2,a3,rfl⟩:=Kx.AA oR;obtain⟨ds,hX',acH⟩:=Kx.ZK.get (w:=nq.1) (g:=g3) (N:=w6.heap.size) (by first|exact P.2.2|exact P.2);obtain⟨b1,b2,b3,rfl⟩:=Kx.AA acH;have X8:=sH hX;have X9:=sH hX';have Si:=B6.o.size;have I:=sH (B6.o.trans (nq.2.mono Si));have O8:=sH (O6.o.ar nq.2);have l:=zo.t nq.2;have hO6:∀g,A7=some ⟨g,0,none⟩->g<w6.heap.size:=fun g e=>by
   obtain⟨g',e',_,h⟩:=O6.o.form ak;rw[e]at e';injection e' with e'
   injection e' with e'
   omega
  have HO6:=sH hO6;have⟨w8,J⟩:=eX nq.1;rw[<-J]at I O8 l X8 X9
  try dsimp only
  rw[<-J];clear J P E0 E1 M0 M1 M2 M3 hX oR hX' acH hO6;have kU:=U.o.size;cases b
  .go_wp2
   go_ret3;exact⟨none,0,0,0,false,rfl,aQ,l.o⟩
  go_wp2;obtain⟨m,rfl,AO,Pa⟩:=O8.o.form ak;have dY:g3≠m:=by have:=HO6.o m rfl;omega
  obtain⟨ad8,x0,x1,x2,x3,x4,x5,x6,x7,x8,x9,p,hQ,T,e1,e2,e3,e4,e5,e6,e7,e8,e9⟩:=(GX.o.Z I.o I.o.size).bD ha;obtain rfl:ad=ad8:=Option.some.inj p;have QX:aq (x1=nth (aL gs) at_):=⟨by rw[fS (by rw[HN.o];exact ha),<-hQ];rfl⟩;have⟨F0,F1,F2,F3,F4,F5,F6,F7⟩:=lc8 T e1 e2 e3 e4 e5 e6 e7;have⟨F8,F9,H0,H1,H2⟩:=lc5 e8 e9 (X8.o.cell 0) (X8.o.cell 1) (X8.o.cell 2);clear T e1 e2 e3 e4 e5 e6 e7 e8 e9 p hQ;refine aS (iZ 89 (ZQ (TY x1))) 9 rfl aF aF aF aF aF rfl ?_;refine mLw ?_;refine lwA (ZQ (TY x1)) (fun nq=> ?_) (fun v9 j=> ?_)
  .exact aei
  obtain⟨_,_,C,r,s,E,u,x,D,B,F,rfl⟩:=j;simp[Act.put];refine mLw ?_;intro nq P;have o:fR nq.1 W.heap.size (fun xs=>aL xs=aL gs) (some ⟨m,0,none⟩) n c7:=O8.o.ar nq.2;have TH:=o.o.xY ha;have O9:=sH (o.Ew ha C x1 r s E u x D B F QX.o);have q:aq (az w (nq.1.setCells m (at_*10) (v10 C x1 r s E u x D B F).toList)):=⟨dB ak _ _ _ (l.o.trans (nq.2.mono l.o.size))⟩;have O:aq (az W (nq.1.setCells m (at_*10) (v10 C x1 r s E u x D B F).toList)):=⟨dB ak _ _ _ (I.o.trans (nq.2.mono I.o.size))⟩;have KB:aq (∀(b:Nat) (cs:Array ahj),Bx w8 b cs->b≠m->Bx (nq.1.setCells m (at_*10) (v10 C x1 r s E u x D B F).toList) b cs):=⟨fun b cs hb hn=>Bx.tB hn _ _ (hb.ar nq.2 hb.lt)⟩;clear F0 F1 F2 F3 F4 F5 F6 F7 F8 F9 H0 H1 H2;refine wp_store_mid 120 (.tmp 90) (.tmp 89) rfl m (at_*10) (v10 C x1 r s E u x D B F) rfl rfl TH aF dJ ?_;have⟨w9,i⟩:=eX (nq.1.setCells m (at_*10) (v10 C x1 r s E u x D B F).toList);rw[<-i]at O9 q O KB
  try dsimp only
  rw[<-i]
  try simp only[Act.put]
  clear i TH o P;have OY:=sH (KB.o g3 _ X9.o dY);have O8:=O9;have I:=O;have l:=q;clear O9 O q KB;go_wp2;obtain⟨ad8,x0,x1,x2,x3,x4,x5,x6,x7,x8,x9,p,hQ,T,e1,e2,e3,e4,e5,e6,e7,e8,e9⟩:=(GX.o.Z I.o I.o.size).bD fZ;obtain rfl:ad=ad8:=Option.some.inj p;have QX:aq (x1=nth (aL gs) t):=⟨by rw[fS (by rw[HN.o];exact fZ),<-hQ];rfl⟩;have⟨F0,F1,F2,F3,F4,F5,F6,F7⟩:=lc8 T e1 e2 e3 e4 e5 e6 e7;have⟨F8,F9,H0,H1,H2⟩:=lc5 e8 e9 (OY.o.cell 0) (OY.o.cell 1) (OY.o.cell 2);clear T e1 e2 e3 e4 e5 e6 e7 e8 e9 p hQ;refine aS (iZ 98 (ZQ (TY x1))) 9 rfl aF aF aF aF aF rfl ?_;refine mLw ?_;refine lwA (ZQ (TY x1)) (fun nq=> ?_) (fun v9 j=> ?_)
  .go_simp
   refine aX (ZQ (TY x1)) ((Xz x0 x1 x2 x3 x4 x5 x6 x7 x8 x9 b1 b2 b3 nq.1).mono ?_);rintro e w5 ⟨v,rfl,hv,hb⟩;exact⟨_,rfl,hv,hb⟩
  obtain⟨_,_,C,r,s,E,u,x,D,B,F,rfl⟩:=j;simp[Act.put];refine mLw ?_;intro nq P;have o:fR nq.1 W.heap.size (fun xs=>aL xs=aL gs) (some ⟨m,0,none⟩) n c7:=O8.o.ar nq.2;have TH:=o.o.xY fZ;have O9:=sH (o.Ew fZ C x1 r s E u x D B F QX.o);have q:aq (az w (nq.1.setCells m (t*10) (v10 C x1 r s E u x D B F).toList)):=⟨dB ak _ _ _ (l.o.trans (nq.2.mono l.o.size))⟩;have O:aq (az W (nq.1.setCells m (t*10) (v10 C x1 r s E u x D B F).toList)):=⟨dB ak _ _ _ (I.o.trans (nq.2.mono I.o.size))⟩;have KB:aq (∀(b:Nat) (cs:Array ahj),Bx w9 b cs->b≠m->Bx (nq.1.setCells m (t*10) (v10 C x1 r s E u x D B F).toList) b cs):=⟨fun b cs hb hn=>Bx.tB hn _ _ (hb.ar nq.2 hb.lt)⟩;clear F0 F1 F2 F3 F4 F5 F6 F7 F8 F9 H0 H1 H2;refine wp_store_mid 120 (.tmp 99) (.tmp 98) rfl m (t*10) (v10 C x1 r s E u x D B F) rfl rfl TH aF dJ ?_;have⟨w9,i⟩:=eX (nq.1.setCells m (t*10) (v10 C x1 r s E u x D B F).toList);rw[<-i]at O9 q O KB
  try dsimp only
  rw[<-i]
  try simp only[Act.put]
  clear i TH o P;have X11:=KB.o g3 _ OY.o dY;have q0:=X11.cell 0;have q1:=X11.cell 1;have q2:=X11.cell 2;simp at q0 q1 q2;go_wp2_with fail
  all_goals first
   |(go_ret3;exact⟨_,n,c7,t+1,true,rfl,fun _=>⟨rfl,ak,(O9.o.imp fun xs _ _ h=>Cg.o xs h).cJ ak⟩,q.o⟩)
   |(go_ret3;exact⟨_,n,c7,t,true,rfl,fun _=>⟨rfl,ak,(O9.o.imp fun xs _ _ h=>Cg.o xs h).cJ ak⟩,q.o⟩)
end
abbrev v7(g:Int)(a c:Bool)(x y b d:Int):Array ahj:=#[ae aj g,.bool a,.bool c,ae aj x,ae aj y,ae aj b,ae aj d]
theorem xc(h:cK w B GJ A n c)(q:j<n):∃(a:Addr) (g:Int) (f d:Bool) (x y r p:Int),A=some a/\w.cell? (a.add (j*7))=some (ae aj g)/\w.cell? (bP (a.add (j*7)) 1)=some (.bool f)/\w.cell? (bP (a.add (j*7)) 2)=some (.bool d)/\w.cell? (bP (a.add (j*7)) 3)=some (ae aj x)/\w.cell? (bP (a.add (j*7)) 4)=some (ae aj y)/\w.cell? (bP (a.add (j*7)) 5)=some (ae aj r)/\w.cell? (bP (a.add (j*7)) 6)=some (ae aj p):=by
 obtain⟨a,e,_,s⟩:=h.2.2.2 ak;obtain⟨v,t,b⟩:=s j q;obtain⟨_,_,rfl,⟨u,rfl,_⟩,⟨_,_,rfl,⟨f,rfl⟩,⟨_,_,rfl,⟨d,rfl⟩,⟨_,_,rfl,⟨_,_,rfl,⟨m,rfl,_⟩,⟨k,rfl,_⟩⟩,⟨_,_,rfl,⟨l,rfl,_⟩,⟨o,rfl,_⟩⟩⟩⟩⟩⟩:=t;have i:=b 0 _ rfl;rw[ew]at i;exact⟨a,u,f,d,m,k,l,o,e,i,b 1 _ rfl,b 2 _ rfl,b 3 _ rfl,b 4 _ rfl,b 5 _ rfl,b 6 _ rfl⟩
def sq(v:ahj):Prop:=∃(g:Int) (a d:Bool) (x y c e:Int) (b:Bool),v=.tuple #[.agg (v7 g a d x y c e),.bool b]
def af5(w:ahh)(e:ahn)(f:ahh):Prop:=∃(g:Int) (a h:Bool) (x y c d:Int) (b:Bool),e=.returned (.tuple #[.agg (v7 g a h x y c d),.bool b])/\az w f
abbrev k7:List Nat:=[0,1,1,0,0,0,0]
theorem UD(h:cs.toList.map Kx.kd=k7):∃(g:Int) (e d:Bool) (x y i f:Int),cs=v7 g e d x y i f:=by
 have key:∀v:ahj,Kx.kd v=0->∃z,v=ae aj z:=fun v b=>by
  unfold Kx.kd at b;split at b
  .exact⟨_,rfl⟩
  .cases b
  .cases b
 have c:∀v:ahj,Kx.kd v=1->∃z,v=.bool z:=fun v b=>by
  unfold Kx.kd at b;split at b
  .cases b
  .exact⟨_,rfl⟩
  .cases b
 have⟨l,hl⟩:=eY cs.toList;rw[hl]at h;rcases l with _|⟨u0,_|⟨u1,_|⟨u2,_|⟨u3,_|⟨u4,_|⟨u5,_|⟨u6,_|⟨y,l⟩⟩⟩⟩⟩⟩⟩⟩<;>simp[k7]at h
 obtain⟨k,o,m,j,q,p,n⟩:=h;obtain⟨a,rfl⟩:=key _ k;obtain⟨e,rfl⟩:=c _ o;obtain⟨d,rfl⟩:=c _ m;obtain⟨x,rfl⟩:=key _ j;obtain⟨y,rfl⟩:=key _ q;obtain⟨i,rfl⟩:=key _ p;obtain⟨f,rfl⟩:=key _ n;exact⟨a,e,d,x,y,i,f,Xb⟩
theorem xU(k:Lk)(g:Int)(w:ahh)(h:mA w w.heap.size k):ahk prog 336 #[k.v,ae aj g] w (af5 w):=by
 have⟨F,aP,T,G⟩:=box1 w k.row 161;have⟨u,bU⟩:=eX (F.alloc (.cells (v7 0 false false 0 0 0 0) 331));have E:az F u:=jx;have hN:F.heap.size=w.heap.size+1:=oO;have Fj:u.heap.size=w.heap.size+2:=Bo;have o:=T.t E;have t:aq (Bx u (w.heap.size+1) (v7 0 false false 0 0 0 0)):=⟨Q3⟩;have V:=sH (G.o.ar E G.o.lt);rw[aP]at bU;have R:=sH (h.Z o.o o.o.size);have I:=h.rS.bd;clear h E hN aP G T;obtain⟨P,fl,st,S,l,sc⟩:=k;dsimp only at I bU;by_cases e:P=8;rotate_left
 .have h8:(P !=8)=true:=by simp[e]
  have f:=t.o;have q:=o.o;rw[bU]at f q;obtain⟨d,r⟩:=f.heap;have p:=f.row (ds:=v7 0 false false 0 0 0 0);clear e;go_enter func336,ntmps336;go_wp2_with (refine wpList_store_row rfl 331 (.tmp 4) (.tmp 11) rfl (w.heap.size+1) (v7 0 false false 0 0 0 0) rfl aB d _ r aF aB dJ ?_);obtain⟨b,a⟩:=p.heap;refine bodyPost_ret (bR results336 _ _ (w.heap.size+1) b _ (0,0) _ aB a underlying331 rfl aF) rfl ?_;exact⟨0,false,false,0,0,0,0,false,rfl,below_setRow q ak _⟩
 subst e;go_enter func336,ntmps336;go_wp2;rw[<-bU];clear bU;go_loopg[6,7](l+1)(fun gg v6 _ wr=>∃i:Nat,l-i<gg/\i<=l/\v6=ae aj (i:Int)/\wr=u)
 .exact⟨0,ak,ak,rfl,rfl⟩
 obtain⟨i,hg,hi,rfl,rfl⟩:=hrel;have⟨d0,U,d2,d3⟩:=V.o.k4;dsimp only at d0 U d2 d3;obtain⟨d,r⟩:=t.o.heap;by_cases B:i<l
 .obtain⟨ad,x,rfl,z,e0,e1,W,e3,e4,X,e6,e7,Z,e9,y,C⟩:=jk (A:=S) (n:=l) (c:=sc) R.o.rS B
  have RP:=sH z.rU;have UM:=z.rU.bd;generalize x.U=PA at*;have i4:=aU i l;clear z e0 e1 W e3 e4 X e6 e7 Z y C;go_wp2;go_loopg[7](x.un+1)(fun gg v7 D=>∃j:Nat,x.un-j<gg/\j<=x.un/\v7=ae aj (j:Int)/\D=wr)
  .exact⟨0,ak,ak,rfl,rfl⟩
  obtain⟨j,Y,hj,rfl,rfl⟩:=hrel;by_cases M:j<x.un
  .obtain⟨adp,m,L,J,H,N,v,K,rfl,p0,p1,p2,p3,p4,p5,p6⟩:=xc RP.o M
   have Q:(j:Int)<(x.un:Int):=ak;by_cases s:m=g
   .have O:(m==g)=true:=by simp[s]
    clear s;have p:=t.o.row (ds:=v7 m L J H N v K);obtain⟨b,a⟩:=p.heap;go_wp2_with (refine wpList_store_row rfl 331 (.tmp 4) (.tmp 50) rfl (w.heap.size+1) (v7 m L J H N v K) rfl aB d _ r aF aB dJ ?_);refine bodyPost_ret (bR results336 _ _ (w.heap.size+1) b _ (0,0) _ aB a underlying331 rfl aF) rfl ?_;exact⟨m,L,J,H,N,v,K,true,rfl,below_setRow o.o ak _⟩
   .have O:(m==g)=false:=by simp[s]
    clear s;go_wp2;go_roundg(x.un-j)
    .exact⟨j+1,ak,ak,aT,rfl⟩
    omega
  .go_wp2
   go_roundg(l-i)
   .exact⟨i+1,ak,ak,aT,rfl⟩
   omega
 .have p:=t.o.row (ds:=v7 0 false false 0 0 0 0)
  obtain⟨b,a⟩:=p.heap;go_wp2_with (refine wpList_store_row rfl 331 (.tmp 4) (.tmp 51) rfl (w.heap.size+1) (v7 0 false false 0 0 0 0) rfl aB d _ r aF aB dJ ?_);refine bodyPost_ret (bR results336 _ _ (w.heap.size+1) b _ (0,0) _ aB a underlying331 rfl aF) rfl ?_;exact⟨0,false,false,0,0,0,0,false,rfl,below_setRow o.o ak _⟩
theorem abA{G:Prop}(s:G:=by
 go_wp2
 go_ret;exact⟨_,rfl,.inl rfl,zo.o⟩):G:=s
theorem abn(f:cY)(k:Lk)(Q:aC->Prop)(A:aA)(n c at_:Nat)(w:ahh)(h:bZ w w.heap.size f)(hk:mA w w.heap.size k)(hl:uU w Q A n)(hn:n<=50000)(ha:at_<n):
 ahk prog 335 #[f.v,k.v,.slice A n c,ae aj (at_:Int)] w (PNx w at_ n):=by
 have⟨W1,L,F,X1,M⟩:=box2 w f.row 96 k.row 161;have R:=sH (h.Z F.o F.o.size);have RK:=sH (hk.Z F.o F.o.size);have GL:=sH (hl.Z F.o F.o.size);clear h hl hk;have i1:¬((n:Int)<=(at_:Int)):=ak;have i3:=aU at_ n;have⟨D,p,x,v⟩:=M.o.k4;obtain⟨ad,x0,x1,x2,x3,x4,x5,x6,x7,x8,x9,rfl,hQ,e0,_⟩:=GL.o.bD ha;clear hQ;go_enter func335,ntmps335;go_wp2;rw[<-L];clear L;have⟨U,X,Z,W,E0⟩:=lc5 D p x v e0;clear D p x v e0;refine Kx.ba (fun d=>if d=some 29 then some (Kx.ZP sq)else if d=some 9 then some (Kx.ZK W1.heap.size k7)else none) (fun d=>d==some 29||d==some 9) (fun d hd=>vu) aF aF aF ?_;refine mKx ?_;refine kxA (Kx.ZP sq) (fun a=> ?_) (fun P j=> ?_)
 .go_simp
  refine Kx.aX (Kx.ZP sq) ((xU k x0 a.1 (RK.o.Z a.2 a.2.size)).mono ?_);rintro e w5 ⟨u,o,G,q,r,l,i,b,rfl,hb⟩;exact⟨_,rfl,⟨u,o,G,q,r,l,i,b,rfl⟩,hb⟩
 obtain⟨_,_,u,o,G,q,r,l,i,b,rfl⟩:=j;simp[Act.put];refine mKx ?_;refine kxA (Kx.ZK W1.heap.size k7) (fun a=> ?_) (fun P j=> ?_)
 .go_simp
  exact Kx.jU a _ _ _ rfl aQ
 obtain⟨_,_,g2,rfl,dw,_⟩:=j;simp[Act.put];refine Kx.dP aB aB (fun w9 B C=> ?_) ?_
 .obtain⟨a,rfl⟩:=B
  exact Kx.dQ 331 (.tmp 9) (.tmp 30) rfl g2 (v7 u o G q r l i) rfl rfl (Kx.ZK.get C.2) aF dJ dw
 simp[Act.put];refine mKx ?_;intro a I;obtain⟨cs,J,m⟩:=Kx.ZK.get I.2;obtain⟨a0,ab,ac,ax,ay,ax',ay',rfl⟩:=UD m;have B8:=sH a.2;have X8:=sH J;have⟨w8,s⟩:=eX a.1;rw[<-s]at B8 X8
 try dsimp only
 rw[<-s];clear s I E0 U X Z W J m;have g:=B8.o;have NX:=sH (xq f k Q (some ad) n c at_ w8 (R.o.Z g g.size) (GL.o.Z g g.size) ak ha);have⟨c0,c1,aW,c3,c4,c5⟩:=(X1.o.ar g X1.o.lt).f6;have⟨D,p,x,v⟩:=(M.o.ar g M.o.lt).k4;clear g;go_wp2_with fail;refine NX.o.mono ?_;rintro e w6 ⟨z,rfl,hz,E⟩;have H:=B8.t E;have zo:=F.t H.o;have X6:=X8.o.ar E X8.o.lt;have q2:=X6.cell 2;simp at q2;clear NX E c0 c1 aW c3 c4 c5 D p x v X6;rcases hz with rfl|⟨gJ,T⟩
 .cases b<;>cases ac<;>
  .exact abA
 obtain⟨t,rfl⟩:∃t:Nat,z=(t:Int):=⟨z.toNat,ak⟩;have V:t<n:=ak;have wF:at_<t:=ak;have i5:=aU t n;have i6:((t:Int)== -1)=false:=gZ;clear gJ T;cases b
 .exact abA
 cases ac
 .exact abA
 have⟨D,p,x,v⟩:=(M.o.ar H.o M.o.lt).k4;obtain⟨Y,y0,y1,y2,y3,y4,y5,y6,y7,y8,y9,K,S,f0,_⟩:=(GL.o.Z H.o H.o.size).bD V;obtain rfl:ad=Y:=Option.some.inj K;have RK6:=sH (RK.o.Z H.o H.o.size);go_wp2;have⟨E1,U,X,Z,W⟩:=lc5 f0 D p x v;clear D p x v f0 S K q2;refine Kx.ba (fun d=>if d=some 55 then some (Kx.ZP sq)else if d=some 12 then some (Kx.ZK w6.heap.size k7)else none) (fun d=>d==some 55||d==some 12) (fun d hd=>vu) aF aF aF ?_;refine mKx ?_;refine kxA (Kx.ZP sq) (fun a=> ?_) (fun P j=> ?_)
 .go_simp
  refine Kx.aX (Kx.ZP sq) ((xU k y0 a.1 (RK6.o.Z a.2 a.2.size)).mono ?_);rintro e w5 ⟨u,o,G,q,r,l,i,b,rfl,hb⟩;exact⟨_,rfl,⟨u,o,G,q,r,l,i,b,rfl⟩,hb⟩
 obtain⟨_,_,u,o,G,q,r,l,i,b',rfl⟩:=j;simp[Act.put];refine mKx ?_;refine kxA (Kx.ZK w6.heap.size k7) (fun a=> ?_) (fun P j=> ?_)
 .go_simp
  exact Kx.jU a _ _ _ rfl aQ
 obtain⟨_,_,g3,rfl,O,_⟩:=j;simp[Act.put];refine Kx.dP aB aB (fun w9 B C=> ?_) ?_
 .obtain⟨a,rfl⟩:=B
  exact Kx.dQ 331 (.tmp 12) (.tmp 56) rfl g3 (v7 u o G q r l i) rfl rfl (Kx.ZK.get C.2) aF dJ O
 simp[Act.put];refine mKx ?_;intro a I;obtain⟨cs,J,m⟩:=Kx.ZK.get I.2;obtain⟨c0,cb,cc,cx,cy,cx',cy',rfl⟩:=UD m;have N:=zo.t a.2;have q1:=J.cell 1;simp at q1;have⟨w7,y⟩:=eX a.1;rw[<-y]at N q1
 try dsimp only
 rw[<-y];clear y I E1 U X Z W J m;cases b'
 .go_wp2
  go_ret;exact⟨_,rfl,.inl rfl,N.o⟩
 cases cb
 .go_wp2
  go_ret;exact⟨_,rfl,.inl rfl,N.o⟩
 .go_wp2
  go_ret;exact⟨_,rfl,.inr ⟨ak,ak⟩,N.o⟩
theorem Tf(f:cY)(k:Lk)(lo I:Int)(A:aA)(n c at_:Nat)(w:ahh)(h:bZ w w.heap.size f)(hk:mA w w.heap.size k)(hl:kT w (bk lo I) A n)(hn:n<=50000)(ha:at_<n):
 ahk prog 312 #[f.v,k.v,.slice A n c,ae aj (at_:Int)] w (PAs w w.heap.size (bk lo I) n):=by
 have⟨W1,aP,O,X1,X2⟩:=box2 w f.row 96 k.row 161;have R:=sH (h.Z O.o O.o.size);have RK:=sH (hk.Z O.o O.o.size);have GL:=sH (hl.Z O.o O.o.size);have i3:=aU at_ n;go_enter func312,ntmps312;go_wp2_with fail;rw[<-aP];clear aP;refine(EJ (bk lo I) A n c W1 GL.o ak).mono ?_;rintro e w2 ⟨A2,K,rfl,o2,L⟩;have B2:=sH L;have O2:=sH o2;have NX:=sH (abn f k (Fq lo I) A n c at_ w2 (R.o.Z L L.size) (RK.o.Z L L.size) (GL.o.Z L L.size).iX ak ha);have⟨c0,c1,aW,c3,c4,c5⟩:=(X1.o.ar L X1.o.lt).f6;have⟨d0,d1,d2,d3⟩:=(X2.o.ar L X2.o.lt).k4;go_wp2_with fail;refine NX.o.mono ?_;rintro e w6 ⟨z,rfl,hz,yv⟩;have N:=B2.t yv;have J:=O.t N.o;have O6:=sH ((O2.o.ar yv).cJ O.o.size);rcases hz with rfl|⟨gJ,eQ⟩
 .go_wp2
  go_ret3;exact⟨A2,n,K,at_,false,rfl,aQ,J.o⟩
 obtain⟨t,rfl⟩:∃t:Nat,z=(t:Int):=⟨z.toNat,ak⟩;have o:t<n:=ak;have i5:=aU t n;have i6:((t:Int)== -1)=false:=gZ;have⟨d0,d1,d2,d3⟩:=(X2.o.ar N.o X2.o.lt).k4;obtain⟨ad,x0,x1,x2,x3,x4,x5,x6,x7,x8,x9,rfl,hQ,e0,_⟩:=(GL.o.Z N.o N.o.size).iX.bD ha;obtain⟨ik,y0,y1,y2,y3,y4,y5,y6,y7,y8,y9,uS,hQ',f0,_⟩:=(GL.o.Z N.o N.o.size).iX.bD o;obtain rfl:ad=ik:=Option.some.inj uS;have RK6:=sH (RK.o.Z N.o N.o.size);go_wp2;have⟨E0,E1,M0,M1,M2,M3⟩:=lc6 e0 f0 d0 d1 d2 d3;have Rz:=sH f0;have DS:=sH (And.intro d0 (And.intro d1 (And.intro d2 d3)));refine Kx.ba (fun d=>if d=some 35 then some (Kx.ZP sq)else if d=some 13 then some (Kx.ZK w6.heap.size k7)else none) (fun d=>d==some 35||d==some 13) (fun d hd=>vu) aF aF aF ?_;refine mKx ?_;refine kxA (Kx.ZP sq) (fun a=> ?_) (fun u r=> ?_)
 .go_simp
  refine Kx.aX (Kx.ZP sq) ((xU k x0 a.1 (RK6.o.Z a.2 a.2.size)).mono ?_);rintro e w5 ⟨U,P,Y,Q,S,F,D,b,rfl,hb⟩;exact⟨_,rfl,⟨U,P,Y,Q,S,F,D,b,rfl⟩,hb⟩
 obtain⟨_,_,U,P,Y,Q,S,F,D,b,rfl⟩:=r;simp[Act.put];refine mKx ?_;refine kxA (Kx.ZK w6.heap.size k7) (fun a=> ?_) (fun u r=> ?_)
 .go_simp
  exact Kx.jU a _ _ _ rfl aQ
 obtain⟨_,_,g2,rfl,dw,_⟩:=r;simp[Act.put];refine Kx.dP aB aB (fun w9 s X=> ?_) ?_
 .obtain⟨a,rfl⟩:=s
  exact Kx.dQ 331 (.tmp 13) (.tmp 36) rfl g2 (v7 U P Y Q S F D) rfl rfl (Kx.ZK.get X.2) aF dJ dw
 simp[Act.put];refine mKx ?_;intro a hE;obtain⟨cs,hX,W⟩:=Kx.ZK.get hE.2;obtain⟨a0,ab,ac,ax,ay,ax',ay',rfl⟩:=UD W;have B7:=sH a.2;have X7:=sH hX;have YH:=sH (RK6.o.Z a.2 a.2.size);have f0:=au Rz.o a.2;have d0:=au DS.o.1 a.2;have d1:=au DS.o.2.1 a.2;have d2:=au DS.o.2.2.1 a.2;have d3:=au DS.o.2.2.2 a.2;have⟨w7,V⟩:=eX a.1;rw[<-V]at B7 X7 YH f0 d0 d1 d2 d3
 try dsimp only
 rw[<-V];clear V;go_wp2;have⟨E1,M0,M1,M2,M3⟩:=lc5 f0 d0 d1 d2 d3;refine Kx.ba (fun d=>if d=some 45 then some (Kx.ZP sq)else if d=some 15 then some (Kx.ZK w7.heap.size k7)else none) (fun d=>d==some 45||d==some 15) (fun d hd=>vu) aF aF aF ?_;refine mKx ?_;refine kxA (Kx.ZP sq) (fun a=> ?_) (fun u r=> ?_)
 .go_simp
  refine Kx.aX (Kx.ZP sq) ((xU k y0 a.1 (YH.o.Z a.2 a.2.size)).mono ?_);rintro e w5 ⟨U,P,Y,Q,S,F,D,b,rfl,hb⟩;exact⟨_,rfl,⟨U,P,Y,Q,S,F,D,b,rfl⟩,hb⟩
 obtain⟨_,_,U,P,Y,Q,S,F,D,b',rfl⟩:=r;simp[Act.put];refine mKx ?_;refine kxA (Kx.ZK w7.heap.size k7) (fun a=> ?_) (fun u r=> ?_)
 .go_simp
  exact Kx.jU a _ _ _ rfl aQ
 obtain⟨_,_,Z,rfl,si,_⟩:=r;simp[Act.put];refine Kx.dP aB aB (fun w9 s X=> ?_) ?_
 .obtain⟨a,rfl⟩:=s
  exact Kx.dQ 331 (.tmp 15) (.tmp 46) rfl Z (v7 U P Y Q S F D) rfl rfl (Kx.ZK.get X.2) aF dJ si
 simp[Act.put];refine mKx ?_;intro a hE;obtain⟨cs,hX,W⟩:=Kx.ZK.get hE.2;obtain⟨c0,cb,cc,cx,cy,cx',cy',rfl⟩:=UD W;have O8a:fR a.1 w.heap.size (bk lo I) A2 n K:=(O6.o.ar B7.o).ar a.2;obtain⟨g7,rfl,AO,Pa⟩:=O6.o.form ak;have Sl:=B7.o.size;have G:g2≠g7:=ak;have H:Z≠g7:=ak;have x:=sH O8a;have j:=sH ((J.o.trans (B7.o.mono J.o.size)).trans (a.2.mono (J.o.trans (B7.o.mono J.o.size)).size));have i:=sH (X7.o.ar a.2 X7.o.lt);have g:=sH hX;have⟨w8,T⟩:=eX a.1;rw[<-T]at x j i g
 try dsimp only
 rw[<-T];clear T;go_wp2_with fail;obtain⟨z0,z1,z2,z3,z4,z5,z6,z7,z8,z9,_,_,_,_,r3,_⟩:=x.o.iX.bD ha;have u5:=i.o.cell 5;simp at u5;have⟨R3,U5⟩:=lc2 r3 u5;refine aS (fun _=>none) 13 rfl aF aF aF aF aF rfl ?_;refine mLw ?_;intro a hE;have l:fR a.1 w.heap.size (bk lo I) (some ⟨g7,0,none⟩) n K:=x.o.ar a.2;have y:az w a.1:=j.o.trans (a.2.mono j.o.size);have C:=i.o.ar a.2 i.o.lt;have B:=g.o.ar a.2 g.o.lt;obtain⟨y0,y1,y2,y3,y4,y5,y6,y7,y8,y9,_,s0,s1,s2,s3,s4,s5,s6,s7,s8,s9⟩:=l.iX.bD ha;have fz:=l.fz (at_*10+2);have E:aq (∀v:Int,fR (a.1.setCell ⟨g7,at_*10+2,none⟩ (ae aj v)) w.heap.size (bk lo I) (some ⟨g7,0,none⟩) n K):=⟨fun v=>l.iS ha (q:=2) ak ak v⟩;have m:aq (∀v:Int,az w (a.1.setCell ⟨g7,at_*10+2,none⟩ (ae aj v))):=⟨fun v=>Below.setCell y (p:=⟨g7,at_*10+2,none⟩) QF _⟩;have M:aq (∀v:Int,Bx (a.1.setCell ⟨g7,at_*10+2,none⟩ (ae aj v)) g2 _/\Bx (a.1.setCell ⟨g7,at_*10+2,none⟩ (ae aj v)) Z _):=⟨fun v=>⟨C.fE G _ _,B.fE H _ _⟩⟩;go_simp;generalize r:ahl _=u;have x:=sH (E.o u);have j:=sH (m.o u);have i:=sH ((M.o u).1);have g:=sH ((M.o u).2);generalize s:a.1.setCell _ _=w9;rw[s]at x j i g;go_wp2_with fail;obtain⟨z0,z1,z2,z3,z4,z5,z6,z7,z8,z9,_,_,_,r2,_⟩:=x.o.iX.bD o;have u3:=g.o.cell 3;simp at u3;have⟨R3,U5⟩:=lc2 r2 u3;refine aS (fun _=>none) 13 rfl aF aF aF aF aF rfl ?_;refine mLw ?_;intro a hE;have l:fR a.1 w.heap.size (bk lo I) (some ⟨g7,0,none⟩) n K:=x.o.ar a.2;have y:az w a.1:=j.o.trans (a.2.mono j.o.size);have C:=i.o.ar a.2 i.o.lt;have B:=g.o.ar a.2 g.o.lt;obtain⟨y0,y1,y2,y3,y4,y5,y6,y7,y8,y9,_,s0,s1,s2,s3,s4,s5,s6,s7,s8,s9⟩:=l.iX.bD o;have fz:=l.fz (t*10+2);have E:aq (∀v:Int,fR (a.1.setCell ⟨g7,t*10+2,none⟩ (ae aj v)) w.heap.size (bk lo I) (some ⟨g7,0,none⟩) n K):=⟨fun v=>l.iS o (q:=2) ak ak v⟩;have m:aq (∀v:Int,az w (a.1.setCell ⟨g7,t*10+2,none⟩ (ae aj v))):=⟨fun v=>Below.setCell y (p:=⟨g7,t*10+2,none⟩) QF _⟩;have M:aq (∀v:Int,Bx (a.1.setCell ⟨g7,t*10+2,none⟩ (ae aj v)) g2 _/\Bx (a.1.setCell ⟨g7,t*10+2,none⟩ (ae aj v)) Z _):=⟨fun v=>⟨C.fE G _ _,B.fE H _ _⟩⟩;go_simp;generalize r:ahl _=u;have x:=sH (E.o u);have j:=sH (m.o u);have i:=sH ((M.o u).1);have g:=sH ((M.o u).2);generalize s:a.1.setCell _ _=w9;rw[s]at x j i g;go_wp2_with fail;obtain⟨z0,z1,z2,z3,z4,z5,z6,z7,z8,z9,_,_,_,_,r3,_⟩:=x.o.iX.bD o;have u3:=g.o.cell 3;simp at u3;have⟨R3,U5⟩:=lc2 r3 u3;refine aS (fun _=>none) 13 rfl aF aF aF aF aF rfl ?_;refine mLw ?_;intro a hE;have l:fR a.1 w.heap.size (bk lo I) (some ⟨g7,0,none⟩) n K:=x.o.ar a.2;have y:az w a.1:=j.o.trans (a.2.mono j.o.size);have C:=i.o.ar a.2 i.o.lt;have B:=g.o.ar a.2 g.o.lt;obtain⟨y0,y1,y2,y3,y4,y5,y6,y7,y8,y9,_,s0,s1,s2,s3,s4,s5,s6,s7,s8,s9⟩:=l.iX.bD o;have fz:=l.fz (t*10+3);have E:aq (∀v:Int,fR (a.1.setCell ⟨g7,t*10+3,none⟩ (ae aj v)) w.heap.size (bk lo I) (some ⟨g7,0,none⟩) n K):=⟨fun v=>l.iS o (q:=3) ak ak v⟩;have m:aq (∀v:Int,az w (a.1.setCell ⟨g7,t*10+3,none⟩ (ae aj v))):=⟨fun v=>Below.setCell y (p:=⟨g7,t*10+3,none⟩) QF _⟩;have M:aq (∀v:Int,Bx (a.1.setCell ⟨g7,t*10+3,none⟩ (ae aj v)) g2 _/\Bx (a.1.setCell ⟨g7,t*10+3,none⟩ (ae aj v)) Z _):=⟨fun v=>⟨C.fE G _ _,B.fE H _ _⟩⟩;go_simp;generalize r:ahl _=u;have x:=sH (E.o u);have j:=sH (m.o u);have i:=sH ((M.o u).1);have g:=sH ((M.o u).2);generalize s:a.1.setCell _ _=w9;rw[s]at x j i g;have u6:=i.o.cell 6;have u4:=g.o.cell 4;simp at u6 u4;obtain⟨z0,z1,z2,z3,z4,z5,z6,z7,z8,z9,_,s0,s1,s2,s3,s4,s5,s6,s7,s8,s9⟩:=x.o.iX.bD o;have fz4:=x.o.fz (t*10+4);have fz6:=x.o.fz (t*10+6);have E:aq (∀v v':Int,fR ((w9.setCell ⟨g7,t*10+4,none⟩ (ae aj v)).setCell ⟨g7,t*10+6,none⟩ (ae aj v')) w.heap.size (bk lo I) (some ⟨g7,0,none⟩) n K):=⟨fun v v'=>(x.o.iS o (q:=4) ak ak v).iS o (q:=6) ak ak v'⟩;have m:aq (∀v v':Int,az w ((w9.setCell ⟨g7,t*10+4,none⟩ (ae aj v)).setCell ⟨g7,t*10+6,none⟩ (ae aj v'))):=⟨fun v v'=>Below.setCell (Below.setCell j.o (p:=⟨g7,t*10+4,none⟩) QF _) (p:=⟨g7,t*10+6,none⟩) QF _⟩;have agL:¬g2=g7:=G;have agM:¬Z=g7:=H;go_wp2;go_ret3;exact⟨some ⟨g7,0,none⟩,n,K,t,true,rfl,fun _=>⟨rfl,ak,E.o _ _⟩,m.o _ _⟩
end Go.Proofs.YtklncadpkniojaaGreatDoor
