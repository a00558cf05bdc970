/- Part of LineFills. -/
import Derived.Test.YtijcgdkpconjcaaGreatDoorAh
namespace Go.Proofs.YtijcgdkpconjcaaGreatDoor
open Go.ChangeShapes Go.WideShapes Go.ChangeAt Go.RowKit Go.Proofs.Tryz
open Go renaming World->EE,Value->EN,Calls->GK,TypeId->IQ,Ending->IS,Program->I3
open Go.RowKit renaming Below->EI,wrap64->IK
open Option renaming some->OH,none->OJ
open Bool renaming true->OX,false->OZ
open Go.Value renaming slice->Pl,bool->PF,pointer->PK,tuple->P8,agg->Q4
open Go.Ending renaming returned->RE
open Go.Obj renaming cells->RM
open Go.Value renaming int->ae
open Go.IntKind renaming i64->aj
set_option linter.all false
set_option maxRecDepth 100000
set_option maxHeartbeats 16000000
variable{P Q:aC->Prop}{ops:Array Oper}{A C:aB}{a:Act}{o:Oper}{rest:List Oper}{G:Prop}{W f w:EE}{B N c d g i j k m n:Nat}{cs:Array EN}{hi l lo:Int}{gs xs:List aC}{e:IQ}{L:List aC->Prop}
def a7{P:I3}{C:EE->Prop}{T:Option Tmp->Option (EN->Prop)}{Q:Act->Prop}(b:Region.wanted o (yielded ops a.tmps)=OZ)(h:ak (pH P ops T C Q rest (a.put o.dst undef))):ak (pH P ops T C Q (o::rest) a):=⟨UQ b h.o⟩
def mSk{R:Prop}(h:R)(s:R->G:=by
 intro b;refine ak.o ?_
 repeat first
  |(refine bG aD aD aD ?_;intro c a;go_big_quiet_op;refine a _ ?_)
  |(refine a7 aD ?_;simp[Act.put])
 refine⟨?_⟩;exact b):G:=s h
def bG{P:I3}{C:EE->Prop}{T:Option Tmp->Option (EN->Prop)}{Q:Act->Prop}(d:Region.wanted o (yielded ops a.tmps)=OX)(e:T o.dst=OJ)(c:iu o=OX)
 (h:∀K:Act->Prop,(∀a,ak (pH P ops T C Q rest a)->K a)->o.quiet P a C K):ak (pH P ops T C Q (o::rest) a):=⟨cB d e c λK hK=>h K λa b=>hK a b.o⟩
def hoT(d:Option Tmp):Option (EN->Prop):=if d=OH 26 then OH SI else if d=OH 37 then OH SB else OJ
def PHs(w:EE)(n:Nat)(e:IS)(a:EE):Prop:=∃(p:Nat) (b:Bool),e=RE (P8 #[ae aj (p:Int),PF b])/\(b=OX->p<n)/\az w a
def afY(s:G:=by
 have hd:decide (0<=z)=OZ:=ji
 go_wp2;go_quiet (fail);have BQ:ak _:=⟨λm=>aO BM.o m⟩;go_wp2;go_ret2;exact⟨0,OZ,rfl,aT,BQ.o _⟩):G:=s
def abH(f:dv)(k:Lk)(Q:aC->Prop)(A:aB)(n c at_:Nat)(w:EE)(h:cC w w.heap.size f)(hl:vv w Q A n)(hn:n<=50000)(O:at_<n):
 GK prog 343 #[f.v,k.v,Pl A n c,ae aj (at_:Int)] w (PHs w n):=by
 have⟨W1,L,s,x,E⟩:=box2 w f.row 102 k.row 175;have⟨R,H⟩:=K' (h.Z s.o s.o.size) (hl.Z s.o s.o.size);have i1:decide (n<=at_)=OZ:=ji;have i0:decide ((at_:Int)<0)=OZ:=ji;have i3:=aU at_ n;have⟨c0,G,j,F,c4,c5⟩:=x.o.f6;have⟨o,q,p,r⟩:=E.o.k4;obtain⟨J,x0,x1,x2,x3,x4,x5,x6,x7,x8,x9,rfl,hQ,e0,_⟩:=H.o.bK O;have M:k.kind=9∨k.kind=10∨k.kind=11∨((k.kind==9)=OZ/\(k.kind==10)=OZ/\(k.kind==11)=OZ):=br;obtain⟨kk,P,st,S,T,sc⟩:=k;dsimp only at M o q p r;go_enter func343,ntmps343;go_wp2;rw[<-L];clear L;have E0:=au e0;have⟨L0,L1,L2,L3,L4,L5,M0,M1⟩:=lc8 c0 G j F c4 c5 o q;have⟨M2,M3⟩:=lc2 p r;refine aE hoT aF aF ?_;refine mSk ?_;refine lsA SI (λa=> ?_) (λv9 i=> ?_)
 .go_simp
  exact fb (uA f x0 a.1 (R.o.Z a.2 a.2.size))
 obtain⟨y,rfl⟩:=i;by_cases hy:y=3;rotate_left
 .have C:(y !=3)=OX:=by simp[hy]
  simp[Act.put];refine mSk ?_;intro a;obtain⟨K,u⟩:=a;have BM:=s.t u
  try dsimp only
  go_wp2;go_ret2;exact⟨0,OZ,rfl,aT,BM.o⟩
 have C:(y !=3)=OZ:=by simp[hy]
 simp[Act.put];refine mSk ?_;refine lsA SB (λa=> ?_) (λv9 i=> ?_)
 .go_simp
  exact bP (pO f ⟨kk,P,st,S,T,sc⟩ x0 a.1 (R.o.Z a.2 a.2.size))
 obtain⟨b,rfl⟩:=i;simp[Act.put];refine mSk ?_;intro a;obtain⟨K,u⟩:=a;have U:=sH u;have BM:=s.t u
 try dsimp only
 cases b;rotate_left
 .go_wp2
  go_ret2;exact⟨0,OZ,rfl,aT,BM.o⟩
 have d:=U.o;have⟨c0,G,j,F,c4,c5⟩:=(x.o.ar d x.o.lt).f6;have⟨o,q,p,r⟩:=(E.o.ar d E.o.lt).k4;dsimp only at o q p r;have⟨BS,PV⟩:=K' (ab1 f ⟨kk,P,st,S,T,sc⟩ Q (OH J) n c at_ K (R.o.Z d d.size) (H.o.Z d d.size) aq O) (yG f ⟨kk,P,st,S,T,sc⟩ Q (OH J) n c at_ K (R.o.Z d d.size) (H.o.Z d d.size) aq O);rcases M with rfl|rfl|rfl|⟨k1,k2,k3⟩
 iterate 2
  .go_wp2_with fail
   refine BS.o.mono ?_;rintro e w6 ⟨z,rfl,V,I,B⟩;have Zp:z<n:=I;have g:=U.t B;have BM:=s.t g.o;by_cases hz:z<0
   .exact afY
   obtain⟨t,rfl⟩:∃t:Nat,z=(t:Int):=⟨z.toNat,aq⟩;have l:t<n:=aq;have i5:=aU t n;have⟨c0,G,j,F,c4,c5⟩:=(x.o.ar g.o x.o.lt).f6;have⟨o,q,p,r⟩:=(E.o.ar g.o E.o.lt).k4;dsimp only at o q p r;obtain⟨D,Z,y1,y2,y3,y4,y5,y6,y7,y8,y9,v,Y,f0,_,_,_,_,_,_,f7,f8,_⟩:=(H.o.Z g.o g.o.size).bK l;obtain rfl:J=D:=Option.some.inj v;have W:=sH (R.o.Z g.o g.o.size);go_wp2;have⟨F0,F7,F8⟩:=lc3 f0 f7 f8;have⟨L0,L1,L2,L3,L4,L5,M0,M1⟩:=lc8 c0 G j F c4 c5 o q;have⟨M2,M3⟩:=lc2 p r;refine aE (kC 58 SI) aF aF ?_;refine mSk ?_;refine lsA SI (λa=> ?_) (λv9 i=> ?_)
   .go_simp
    exact fb (uA f Z a.1 (W.o.Z a.2 a.2.size))
   obtain⟨y,rfl⟩:=i;cases C:(y==2)
   all_goals
    simp[Act.put];refine mSk ?_;intro a;obtain⟨K,u⟩:=a;have X:=g.t u;have BM:=s.t X.o
    try dsimp only
    go_wp2;go_ret2
    first
     |exact⟨0,OZ,rfl,aT,BM.o⟩
     |exact⟨t,OX,rfl,λ_=>l,BM.o⟩
 .go_wp2_with fail
  refine PV.o.mono ?_;rintro e w6 ⟨z,rfl,V,I,B⟩;have Zp:z<n:=aq;have g:=U.t B;have BM:=s.t g.o;by_cases hz:z<0
  .exact afY
  obtain⟨t,rfl⟩:∃t:Nat,z=(t:Int):=⟨z.toNat,aq⟩;have l:t<n:=aq;have i5:=aU t n;have⟨c0,G,j,F,c4,c5⟩:=(x.o.ar g.o x.o.lt).f6;have⟨o,q,p,r⟩:=(E.o.ar g.o E.o.lt).k4;dsimp only at o q p r;obtain⟨D,Z,y1,y2,y3,y4,y5,y6,y7,y8,y9,v,Y,f0,_,_,_,_,_,_,f7,f8,_⟩:=(H.o.Z g.o g.o.size).bK l;obtain rfl:J=D:=Option.some.inj v;have W:=sH (R.o.Z g.o g.o.size);go_wp2;have⟨F0,F7,F8⟩:=lc3 f0 f7 f8;have⟨L0,L1,L2,L3,L4,L5,M0,M1⟩:=lc8 c0 G j F c4 c5 o q;have⟨M2,M3⟩:=lc2 p r;obtain⟨ew,u0,u1,u2,u3,u4,u5,u6,u7,u8,u9,N,hQ2,_,_,_,_,_,_,_,r7,r8,_⟩:=(H.o.Z g.o g.o.size).bK O;obtain rfl:J=ew:=Option.some.inj N;have⟨U7,U8⟩:=lc2 r7 r8;refine aE (kC 81 SI) aF aF ?_;refine mSk ?_;refine lsA SI (λa=> ?_) (λv9 i=> ?_)
  .go_simp
   exact fb (uA f Z a.1 (W.o.Z a.2 a.2.size))
  obtain⟨y,rfl⟩:=i;cases C:(y !=3)<;>cases xw:(y7 !=u7)<;>cases mu:(y8 !=u8)
  all_goals
   simp[Act.put];refine mSk ?_;intro a;obtain⟨K,u⟩:=a;have X:=g.t u;have BM:=s.t X.o
   try dsimp only
   go_wp2;go_ret2
   first
    |exact⟨0,OZ,rfl,aT,BM.o⟩
    |exact⟨t,OX,rfl,λ_=>l,BM.o⟩
 .go_wp2
  go_ret2;exact⟨0,OZ,rfl,aT,BM.o⟩
abbrev v4(a b c d:Int):Array EN:=#[ae aj a,ae aj b,ae aj c,ae aj d]
def TMk(v:EN):Prop:=∃(a b c d:Int) (z:Bool),v=P8 #[Q4 (v4 a b c d),PF z]
def PMk(w:EE)(e:IS)(f:EE):Prop:=∃(a b c d:Int) (z:Bool),e=RE (P8 #[Q4 (v4 a b c d),PF z])/\az w f
def zd(h:cU w B R7 A n c)(l:j<n):∃(a:Addr) (i g f d:Int),A=OH a/\w.cell? (a.add (j*4))=OH (ae aj i)/\w.cell? (bX (a.add (j*4)) 1)=OH (ae aj g)/\w.cell? (bX (a.add (j*4)) 2)=OH (ae aj f)/\w.cell? (bX (a.add (j*4)) 3)=OH (ae aj d):=by
 obtain⟨a,e,_,m⟩:=h.2.2.2 aq;obtain⟨p,o,b⟩:=m j l;obtain⟨_,_,rfl,⟨i,rfl,_⟩,⟨_,_,rfl,⟨g,rfl,_⟩,⟨_,_,rfl,⟨f,rfl,_⟩,⟨d,rfl,_⟩⟩⟩⟩:=o;have k:=b 0 _ rfl;rw[fA]at k;exact⟨a,i,g,f,d,e,k,b 1 _ rfl,b 2 _ rfl,b 3 _ rfl⟩
def Hn(h:cU w B uu A n c)(k:j<n):∃(a:Addr) (b:Bool) (g d:Int),A=OH a/\w.cell? (a.add (j*3))=OH (PF b)/\w.cell? (bX (a.add (j*3)) 1)=OH (ae aj g)/\w.cell? (bX (a.add (j*3)) 2)=OH (ae aj d):=by
 obtain⟨a,e,_,l⟩:=h.2.2.2 aq;obtain⟨o,m,f⟩:=l j k;obtain⟨_,_,rfl,⟨b,rfl⟩,⟨_,_,rfl,⟨g,rfl,_⟩,⟨d,rfl,_⟩⟩⟩:=m;have i:=f 0 _ rfl;rw[fA]at i;exact⟨a,b,g,d,e,i,f 1 _ rfl,f 2 _ rfl⟩
def aa5(x:Sb)(g:Int)(w:EE)(h:nH w w.heap.size x):GK prog 344 #[x.v,ae aj g] w (PMk w):=by
 have⟨t,aP⟩:=eX (w.alloc (RM x.row 184));obtain⟨b,a,j⟩:=th h aP;have⟨n,cg⟩:=eX (t.alloc (RM (v4 0 0 0 0) 340));have k:az t n:=jT;have hN:t.heap.size=w.heap.size+1:=oW;have y:=sH (b.trans (k.mono b.size));have s:ak (Bx n (w.heap.size+1) (v4 0 0 0 0)):=⟨Tj⟩;have⟨C,B⟩:=K' (a.ar k a.lt) ((j.Z k k.size).rM);rw[aP]at cg;have D:=h.rM.bd;clear h k hN aP b a j;have⟨_,_,_,_,_,_,_,_,_,_,Gs,_⟩:=C.o.nv;obtain⟨f,z⟩:=s.o.heap;go_enter func344,ntmps344;go_wp2;rw[<-cg];clear cg;go_loopg[6](x.mn+1)(λgg A wr=>∃i:Nat,x.mn-i<gg/\i<=x.mn/\A=ae aj (i:Int)/\wr=n)
 .exact⟨0,aq,aq,rfl,rfl⟩
 obtain⟨i,H,hi,rfl,rfl⟩:=hrel;by_cases q:i<x.mn
 .obtain⟨G,e,u,o,r,v,E,F,J,K⟩:=zd B.o q
  rw[v]at Gs;clear v;have I:(i:Int)<(x.mn:Int):=aq;by_cases l:e=g
  .have m:(e==g)=OX:=by simp[l]
   clear l;have p:=s.o.row (ds:=v4 e u o r);obtain⟨d,c⟩:=p.heap;go_wp2_with (refine wpList_store_row rfl 340 (.tmp 4) (.tmp 26) rfl (w.heap.size+1) (v4 e u o r) rfl aD f _ z aF aD ed ?_);refine bodyPost_ret (bY results344 _ _ (w.heap.size+1) d _ (0,0) _ aD c underlying340 rfl aF) rfl ?_;exact⟨e,u,o,r,OX,rfl,below_setRow y.o aq _⟩
  .have m:(e==g)=OZ:=by simp[l]
   clear l;go_wp2;go_roundg(x.mn-i)
   .exact⟨i+1,aq,aq,aV,rfl⟩
   omega
 .have p:=s.o.row (ds:=v4 0 0 0 0)
  obtain⟨d,c⟩:=p.heap;go_wp2_with (refine wpList_store_row rfl 340 (.tmp 4) (.tmp 27) rfl (w.heap.size+1) (v4 0 0 0 0) rfl aD f _ z aF aD ed ?_);refine bodyPost_ret (bY results344 _ _ (w.heap.size+1) d _ (0,0) _ aD c underlying340 rfl aF) rfl ?_;exact⟨0,0,0,0,OZ,rfl,below_setRow y.o aq _⟩
abbrev Hs.row(x:Hs):Array EN:=#[ae aj x.gl,Pl x.S x.sn x.sc]
def Wl(k:Lk)(x:Hs)(m:Int)(w:EE)(h:HsR w w.heap.size x):GK prog 354 #[k.v,x.v,ae aj m] w (PRd w uu):=by
 have e:ak (∀o1 g,az w ((w.alloc o1).alloc g)):=⟨λo1 g=>(aw _ _).alloc aT _⟩;have R:=sH h;have s:=h.rS.bd;obtain⟨z,J,st,M,G,I⟩:=k;obtain⟨K,S,a,l⟩:=x;dsimp only at s⊢;by_cases y:a=0
 .subst y
  go_enter func354,ntmps354;go_wp2;go_ret;exact⟨_,_,_,rfl,cU.nil _ _ _,e.o _ _⟩
 have E:((a:Int)==0)=OZ:=by simp[y]
 by_cases v:z=10;rotate_left
 .have C:(z !=10)=OX:=by simp[v]
  obtain⟨o,t,r,u,rfl,b,d⟩:=fR (A:=S) (n:=a) (c:=l) R.o.rS (j:=0) aq
  try rw[fA]at d
  have D:=λo1 g=>aH (aH d o1) g
  have i:=sH b;have f:=aU 0 a;go_enter func354,ntmps354;go_wp2;go_ret;exact⟨_,_,_,rfl,i.o.Z (e.o _ _) (e.o _ _).size,e.o _ _⟩
 subst v;by_cases L:m<0
 .have H:(a:Int)-1=((a-1:Nat):Int):=by omega
  have B:((a-1:Nat):Int)<(a:Int):=aq;obtain⟨o,t,r,u,rfl,b,d⟩:=fR (A:=S) (n:=a) (c:=l) R.o.rS (j:=a-1) aq
  try rw[fA]at d
  have D:=λo1 g=>aH (aH d o1) g
  have i:=sH b;have f:=aU 0 a;go_enter func354,ntmps354;go_wp2;go_ret;exact⟨_,_,_,rfl,i.o.Z (e.o _ _) (e.o _ _).size,e.o _ _⟩
 obtain⟨q,rfl⟩:∃q:Nat,m=(q:Int):=⟨m.toNat,aq⟩;by_cases N:q<a
 .have p:¬(a:Int)<=(q:Int):=by omega
  have F:=aU q a;obtain⟨o,t,r,u,rfl,b,d⟩:=fR (A:=S) (n:=a) (c:=l) R.o.rS (j:=q) aq
  try rw[fA]at d
  have D:=λo1 g=>aH (aH d o1) g
  have i:=sH b;have f:=aU 0 a;go_enter func354,ntmps354;go_wp2;go_ret;exact⟨_,_,_,rfl,i.o.Z (e.o _ _) (e.o _ _).size,e.o _ _⟩
 .have p:(a:Int)<=(q:Int):=by omega
  have H:(a:Int)-1=((a-1:Nat):Int):=aq;have B:((a-1:Nat):Int)<(a:Int):=aq;obtain⟨o,t,r,u,rfl,b,d⟩:=fR (A:=S) (n:=a) (c:=l) R.o.rS (j:=a-1) aq
  try rw[fA]at d
  have D:=λo1 g=>aH (aH d o1) g
  have i:=sH b;have f:=aU 0 a;go_enter func354,ntmps354;go_wp2;go_ret;exact⟨_,_,_,rfl,i.o.Z (e.o _ _) (e.o _ _).size,e.o _ _⟩
abbrev v2(a b:Int):Array EN:=#[ae aj a,ae aj b]
def TAn(v:EN):Prop:=∃(a b:Int) (z:Bool),v=P8 #[Q4 (v2 a b),PF z]
def PAn(w:EE)(e:IS)(c:EE):Prop:=∃(a b:Int) (z:Bool),e=RE (P8 #[Q4 (v2 a b),PF z])/\az w c
def afR(s:G:=by
 have X9:=X7.o.row (ds:=v2 0 0)
 obtain⟨gv,dD⟩:=X9.heap;go_wp2_with (refine wpList_store_row rfl 335 (.tmp 10) (.tmp 67) rfl (w.heap.size+1) (v2 0 0) rfl aD fg _ hX aF aD ed ?_);refine bodyPost_ret (bY results345 _ _ (w.heap.size+1) gv _ (0,0) _ aD dD underlying335 rfl aF) rfl ?_;exact⟨0,0,OZ,rfl,below_setRow BM.o aq _⟩):G:=s
def Pg(k:Lk)(sub:Nat)(z u V:Int)(w:EE)(h:ny w w.heap.size k)(hs:sub<k.sn):GK prog 345 #[k.v,ae aj (sub:Int),ae aj z,ae aj u,ae aj V] w (PAn w):=by
 obtain⟨R,E,st,S,g,t⟩:=k;dsimp only at hs;obtain⟨P,x,rfl,U,e0,e1,e2,e3,e4,e5,e6,e7,e8,e9,I,r⟩:=ko (A:=S) (n:=g) (c:=t) h.rS hs;have J:=h.rS.bd;dsimp only at J;have m:=sH U.rH;have hhn:=U.rH.bd;generalize x.H=HA at*;generalize x.hn=j at*;generalize x.hc=hc at*;have L:=λo1 o2=>aH (aH r o1) o2
 clear h U e0 e1 e2 e3 e4 e5 e6 e7 e8 e9 I r;have⟨p,cg⟩:=eX ((w.alloc (RM (Lk.row ⟨R,E,st,OH P,g,t⟩) 175)).alloc (RM (v2 0 0) 335));have s:az w p:=aam;have B2:=sH s;have v:ak (Bx p (w.heap.size+1) (v2 0 0)):=⟨by rw[cg];exact Bx.iR _ _ _ (by simp)⟩;have X:ak (Bx p w.heap.size (Lk.row ⟨R,E,st,OH P,g,t⟩)):=⟨by rw[cg];exact(Bx.new _ _ _).ar ((Below.refl (w.heap.size+1) _).alloc (by simp) _) (by simp)⟩;have RH:=sH (m.o.Z s s.size);have Iu:p.heap.size=w.heap.size+2:=by rw[cg];simp
 have i0:decide ((sub:Int)<0)=OZ:=ji;have i1:¬(g:Int)<=(sub:Int):=aq;have i2:=aU sub g;clear s m;go_enter func345,ntmps345;go_wp2;rw[<-cg];clear cg i1 i2 i0 L;go_loopg[13,14](j+1)(λgg K _ wr=>∃i:Nat,j-i<gg/\i<=j/\K=ae aj (i:Int)/\ak (az p wr))
 .exact⟨0,aq,aq,rfl,cJ⟩
 obtain⟨i,hg,hi,rfl,a⟩:=hrel;have Z:=B2.t a.o;have F:=v.o.ar a.o v.o.lt;obtain⟨fg,hX⟩:=F.heap;by_cases G:i<j;rotate_left
 .go_wp2_with (refine wpList_store_row rfl 335 (.tmp 10) (.tmp 73) rfl (w.heap.size+1) (v2 0 0) rfl aD fg _ hX aF aD ed ?_;have X9:=F.row (ds:=v2 0 0))
  obtain⟨gv,dD⟩:=X9.heap;refine bodyPost_ret (bY results345 _ _ (w.heap.size+1) gv _ (0,0) _ aD dD underlying335 rfl aF) rfl ?_;exact⟨0,0,OZ,rfl,below_setRow Z.o aq _⟩
 obtain⟨adh,y,rfl,hy,g0,W⟩:=Su (RH.o.Z a.o a.o.size) G;have HY:=sH hy;have i4:=aU i j;clear hy;by_cases h1:y.gl=z;rotate_left
 .have B:(y.gl !=z)=OX:=by simp[h1]
  clear h1;go_wp2;go_roundg(j-i)
  .exact⟨i+1,aq,aq,aV,a⟩
  omega
 have B:(y.gl !=z)=OZ:=mo;have⟨D,T,N,M⟩:=(X.o.ar a.o X.o.lt).k4;dsimp only at D T N M;clear h1;go_wp2;have⟨M0,M1,M2,M3,G0,G1⟩:=lc6 D T N M g0 W;clear D T N M g0 W F hX;refine bm (jD 50 (Un uu)) aF aF ?_;refine mLw ?_;refine lwA (Un uu) (λf=> ?_) (λv9 H=> ?_)
 .go_simp
  refine aZ (Un uu) ((Wl ⟨R,E,st,OH P,g,t⟩ y V f.1 (HY.o.Z f.2 f.2.size)).mono ?_);rintro e w5 ⟨Y,l,c5,rfl,h5,hb⟩;exact⟨_,rfl,⟨Y,l,c5,rfl,h5⟩,hb⟩
 obtain⟨_,_,Y,l,c5,rfl,o⟩:=H;have hm5:=o.bd;clear o;simp[Act.put];refine mLw ?_;intro f hE;have RL:=sH (Un.get hE);have BM:=Z.t f.2;have X7:=sH (v.o.ar (a.o.trans (f.2.mono a.o.size)) v.o.lt);have⟨w3,d⟩:=eX f.1;rw[<-d]at BM RL X7
 try dsimp only
 rw[<-d];clear d hE M0 M1 M2 M3 G0 G1;obtain⟨fg,hX⟩:=X7.o.heap;by_cases oz:u<0
 .exact afR
 obtain⟨q,rfl⟩:∃q:Nat,u=(q:Int):=⟨u.toNat,aq⟩;by_cases hq:q<l;rotate_left
 .have Q:(l:Int)<=(q:Int):=by omega
  have X9:=X7.o.row (ds:=v2 0 0);obtain⟨gv,dD⟩:=X9.heap;go_wp2_with (refine wpList_store_row rfl 335 (.tmp 10) (.tmp 67) rfl (w.heap.size+1) (v2 0 0) rfl aD fg _ hX aF aD ed ?_);refine bodyPost_ret (bY results345 _ _ (w.heap.size+1) gv _ (0,0) _ aD dD underlying335 rfl aF) rfl ?_;exact⟨0,0,OZ,rfl,below_setRow BM.o aq _⟩
 have Q:¬(l:Int)<=(q:Int):=aq;have qA:=aU q l;obtain⟨ads,b,C,O,rfl,t0,t1,t2⟩:=Hn RL.o hq;cases b
 .exact afR
 .have X9:=X7.o.row (ds:=v2 C O)
  obtain⟨gv,dD⟩:=X9.heap;go_wp2_with (refine wpList_store_row rfl 335 (.tmp 10) (.tmp 72) rfl (w.heap.size+1) (v2 C O) rfl aD fg _ hX aF aD ed ?_);refine bodyPost_ret (bY results345 _ _ (w.heap.size+1) gv _ (0,0) _ aD dD underlying335 rfl aF) rfl ?_;exact⟨C,O,OX,rfl,below_setRow BM.o aq _⟩
def qH:∀v:EN,Kx.kd v=0->∃z,v=ae aj z:=λv a=>by
 unfold Kx.kd at a;split at a
 .exact⟨_,rfl⟩
 .cases a
 .cases a
def adi(h:cs.toList.map Kx.kd=[0,0]):∃a b:Int,cs=v2 a b:=by
 have⟨l,hl⟩:=eY cs.toList;rw[hl]at h;rcases l with _|⟨u,_|⟨v,_|⟨y,l⟩⟩⟩<;>simp at h
 obtain⟨a,rfl⟩:=qH _ h.1;obtain⟨b,rfl⟩:=qH _ h.2;exact⟨a,b,YX⟩
def aeK(h:cs.toList.map Kx.kd=[0,0,0,0]):∃a b c d:Int,cs=v4 a b c d:=by
 have⟨l,hl⟩:=eY cs.toList;rw[hl]at h;rcases l with _|⟨u,_|⟨v,_|⟨x,_|⟨y,_|⟨z,l⟩⟩⟩⟩⟩<;>simp at h
 obtain⟨a,rfl⟩:=qH _ h.1;obtain⟨b,rfl⟩:=qH _ h.2.1;obtain⟨c,rfl⟩:=qH _ h.2.2.1;obtain⟨d,rfl⟩:=qH _ h.2.2.2;exact⟨a,b,c,d,YX⟩
def PRs(w:EE)(B:Nat)(Q:List aC->Prop)(n:Nat)(e:IS)(a:EE):Prop:=∃(A:aB) (m c:Nat) (b:Bool),e=RE (P8 #[Pl A m c,PF b])/\(b=OX->m=n/\iZ a B Q A m c)/\az w a
def UR(f:dv)(k:Lk)(lo hi:Int)(A:aB)(n c at_:Nat)(w:EE)(h:cC w w.heap.size f)(hk:ny w w.heap.size k)(hl:lF w (bI lo hi) A n)(hn:n<=50000)(C:at_<n):
 GK prog 324 #[f.v,k.v,Pl A n c,ae aj (at_:Int)] w (PRs w w.heap.size (bI lo hi) n):=by
 have⟨W1,aP,B,X1,X2⟩:=box2 w f.row 102 k.row 175;have⟨R,RK,GL⟩:=MO (h.Z B.o B.o.size) (hk.Z B.o B.o.size) (hl.Z B.o B.o.size);have oE:=hk.rS.bd;have i3:=aU at_ n;obtain⟨kk,fl,st,S,t,sc⟩:=k;dsimp only at oE;go_enter func324,ntmps324;go_wp2_with fail;rw[<-aP];clear aP;refine(abH f ⟨kk,fl,st,S,t,sc⟩ (Lq lo hi) A n c at_ W1 R.o GL.o.jB aq C).mono ?_;rintro e w2 ⟨p,b,rfl,hp,P⟩;have Y:=sH P;have BV2:=B.t P;cases b
 .go_wp2
  go_ret2;exact⟨OJ,0,0,OZ,rfl,aT,BV2.o⟩
 have XM:=hp rfl;have i4:=aU p n;obtain⟨ad,x0,x1,x2,x3,x4,x5,x6,H,x8,x9,rfl,hQ,e0,_,_,_,_,_,_,e7,e8,_⟩:=(GL.o.Z Y.o Y.o.size).jB.bK C;obtain⟨jo,y0,y1,y2,y3,y4,y5,y6,y7,y8,y9,vj,hQ',f0,_,_,_,_,_,_,f7,_⟩:=(GL.o.Z Y.o Y.o.size).jB.bK XM;obtain rfl:ad=jo:=Option.some.inj vj;have⟨E0,F0,E8⟩:=MO e0 f0 e8;have nT:((H !=0)=OZ)∨((H !=0)=OX/\(H==y7)=OZ)∨((H !=0)=OX/\(H==y7)=OX):=by
  cases H !=0<;>cases H==y7<;>simp
 go_upto_region 5 with fail;go_cut[47](λv wx=>(∃b:Bool,v=PF b)/\ak (az w2 wx))
 ·
  rcases nT with k1|⟨k1,k2⟩|⟨k1,k2⟩
  all_goals
   go_wp2;go_quiet (fail);go_wp2;go_meet;exact⟨⟨_,rfl⟩,⟨aO (Below.refl _ _) _⟩⟩
 obtain⟨⟨tb,rfl⟩,BC⟩:=hcut;obtain⟨w3,rfl⟩:=eX wc;have e8:=av E8.o BC.o;go_upto_if 47 with fail;go_cut[12](λv wx=>(∃z:Int,v=ae aj z)/\w3=wx)
 ·
  cases tb
  all_goals
   go_wp2;go_meet;exact⟨⟨_,rfl⟩,rfl⟩
 obtain⟨⟨cm,rfl⟩,rfl⟩:=hcut;have B3:=Y.t BC.o;have b3:az w2 w3:=BC.o;have G0:=av E0.o b3;have H0:=av F0.o b3;have⟨G0s,H0s⟩:=K' G0 H0;go_wp2;go_loopg[13,14,15,16,17,18](t+1)(λgg kE _ _ _ _ _ wr=>∃i:Nat,t-i<gg/\i<=t/\kE=ae aj (i:Int)/\ak (az w3 wr))
 .exact⟨0,aq,aq,rfl,cJ⟩
 obtain⟨i,hg,Zv,rfl,BE⟩:=hrel;have BF:=B3.t BE.o;have BW:=B.t BF.o;have⟨d0,d1,d2,d3⟩:=(X2.o.ar BF.o X2.o.lt).k4;dsimp only at d0 d1 d2 d3;by_cases X:i<t;rotate_left
 .go_wp2
  go_ret2;exact⟨OJ,0,0,OZ,rfl,aT,BW.o⟩
 obtain⟨yd,x,rfl,hx,e0,e1,e2,e3,e4,e5,e6,e7,e8,e9,sV,rX⟩:=ko (A:=S) (n:=t) (c:=sc) (RK.o.rS.Z BF.o BF.o.size) X;have HX:=sH hx;have i5:=aU i t;have g0:=av G0s.o BE.o;have D0s:=sH (And.intro d0 (And.intro d1 (And.intro d2 d3)));go_wp2;have⟨M0,M1,M2,M3,LG,E0,E1,E2⟩:=lc8 d0 d1 d2 d3 g0 e0 e1 e2;have⟨E3,E4,E5,E6,E7⟩:=lc5 e3 e4 e5 e6 e7;have⟨E8,E9,E10,E11⟩:=lc4 e8 e9 sV rX;refine Kx.bm (λd=>if d=OH 71 then OH (Kx.ZP TMk)else if d=OH 14 then OH (Kx.ZK wr.heap.size [0,0,0,0])else OJ) (λd=>d==OH 71||d==OH 14) (λd hd=>C9) aF aF aF ?_;refine mKx ?_;refine kxA (Kx.ZP TMk) (λj=> ?_) (λv9 o=> ?_)
 .go_simp
  refine Kx.aZ (Kx.ZP TMk) ((aa5 x x0 j.1 (HX.o.Z j.2 j.2.size)).mono ?_);rintro e w5 ⟨W,U,mc,md,z,rfl,P⟩;exact⟨_,rfl,⟨W,U,mc,md,z,rfl⟩,P⟩
 obtain⟨_,_,W,U,mc,md,b,rfl⟩:=o;simp[Act.put];refine mKx ?_;refine kxA (Kx.ZK wr.heap.size [0,0,0,0]) (λj=> ?_) (λv9 o=> ?_)
 .go_simp
  exact Kx.lN j _ _ _ rfl aT
 obtain⟨_,_,g4,rfl,hg4,_⟩:=o;simp[Act.put];refine Kx.fN aD aD (λw9 J N=> ?_) ?_
 .obtain⟨j,rfl⟩:=J
  exact Kx.fK 340 (.tmp 14) (.tmp 72) rfl g4 (v4 W U mc md) rfl rfl (Kx.ZK.get N.2) aF ed hg4
 simp[Act.put];refine mKx ?_;intro j hE;obtain⟨cs,hX,G⟩:=Kx.ZK.get hE.2;obtain⟨q1,q2,q3,q4,rfl⟩:=aeK G;have y:=sH hX;have Q:=BE.t j.2;have h0:=av H0s.o Q.o;have m0:=M0 j;have m1:=M1 j;have m2:=M2 j;have m3:=M3 j;have⟨w5,F⟩:=eX j.1;rw[<-F]at y Q h0 m0 m1 m2 m3
 try dsimp only
 rw[<-F];clear F;cases b
 .go_wp2
  go_roundg(t-i)
  .exact⟨i+1,aq,aq,aV,Q⟩
  omega
 have I:=B3.t Q.o;have c1:=y.o.cell 1;simp at c1;have RK5:=sH (RK.o.Z I.o I.o.size);go_wp2;have⟨M0,M1,M2,M3,LH,LC⟩:=lc6 m0 m1 m2 m3 h0 c1;refine Kx.bm (λd=>if d=OH 87 then OH (Kx.ZP TAn)else if d=OH 16 then OH (Kx.ZK w5.heap.size [0,0])else OJ) (λd=>d==OH 87||d==OH 16) (λd hd=>C9) aF aF aF ?_;refine mKx ?_;refine kxA (Kx.ZP TAn) (λj=> ?_) (λv9 o=> ?_)
 .go_simp
  refine Kx.aZ (Kx.ZP TAn) ((Pg ⟨kk,fl,st,OH yd,t,sc⟩ i y0 q2 cm j.1 (RK5.o.Z j.2 j.2.size) X).mono ?_);rintro e w5 ⟨W,U,z,rfl,P⟩;exact⟨_,rfl,⟨W,U,z,rfl⟩,P⟩
 obtain⟨_,_,aa,ab,b,rfl⟩:=o;simp[Act.put];refine mKx ?_;refine kxA (Kx.ZK w5.heap.size [0,0]) (λj=> ?_) (λv9 o=> ?_)
 .go_simp
  exact Kx.lN j _ _ _ rfl aT
 obtain⟨_,_,g6,rfl,hg6,_⟩:=o;simp[Act.put];refine Kx.fN aD aD (λw9 J N=> ?_) ?_
 .obtain⟨j,rfl⟩:=J
  exact Kx.fK 335 (.tmp 16) (.tmp 88) rfl g6 (v2 aa ab) rfl rfl (Kx.ZK.get N.2) aF ed hg6
 simp[Act.put];refine mKx ?_;intro j hE;obtain⟨cs,hX,G⟩:=Kx.ZK.get hE.2;obtain⟨r1,r2,rfl⟩:=adi G;have⟨r,m⟩:=K' hX (y.o.ar j.2 y.o.lt);have B6:=Q.t j.2;have u:=I.t j.2;have⟨O,K⟩:=eX j.1;rw[<-K]at r m B6 u
 try dsimp only
 rw[<-K];clear K;cases b
 .go_wp2
  go_roundg(t-i)
  .exact⟨i+1,aq,aq,aV,B6⟩
  omega
 have T:=B.t u.o;have GL6:=sH (GL.o.Z u.o u.o.size);have h14:=m.o.lt;have h16:=r.o.lt;have V:=T.o.size;have FX:ak (∀(Z:aB) (M:Nat) (l:EE),iZ l O.heap.size (bI lo hi) Z (0+n) M->az O l->∃(g:Nat) (z0 z1 z2 z3 z4 z5 z6 z7 z8 z9:Int),Z=OH ⟨g,0,OJ⟩/\O.heap.size<=g/\ak (iZ l O.heap.size (bI lo hi) (OH ⟨g,0,OJ⟩) n M)/\ak (az w l)/\
  l.cell? ⟨g,at_*10+2,OJ⟩=OH (ae aj z2)/\l.cell? ⟨g,at_*10+3,OJ⟩=OH (ae aj z3)/\l.cell? ⟨g,at_*10+4,OJ⟩=OH (ae aj z4)/\l.cell? ⟨g,at_*10+5,OJ⟩=OH (ae aj z5)/\l.cell? ⟨g,at_*10+6,OJ⟩=OH (ae aj z6)/\
  l.frozen? ⟨g,at_*10+2,OJ⟩=OZ/\l.frozen? ⟨g,at_*10+3,OJ⟩=OZ/\l.frozen? ⟨g,at_*10+4,OJ⟩=OZ/\l.frozen? ⟨g,at_*10+5,OJ⟩=OZ/\l.frozen? ⟨g,at_*10+6,OJ⟩=OZ/\
  l.cell? ⟨g4,2,OJ⟩=OH (ae aj q3)/\l.cell? ⟨g4,3,OJ⟩=OH (ae aj q4)/\l.cell? ⟨g6,0,OJ⟩=OH (ae aj r1)/\l.cell? ⟨g6,1,OJ⟩=OH (ae aj r2)/\(¬g4=g)/\(¬g6=g)):=⟨λZ M l s E=>by
  rw[Nat.zero_add]at s;obtain⟨g,rfl,D,Vt⟩:=s.form aq;obtain⟨z0,z1,z2,z3,z4,z5,z6,z7,z8,z9,_,s0,s1,s2,s3,s4,s5,s6,s7,s8,s9⟩:=s.jB.bK C;exact⟨g,z0,z1,z2,z3,z4,z5,z6,z7,z8,z9,rfl,D,⟨s⟩,⟨T.o.trans (E.mono V)⟩,s2,s3,s4,s5,s6,s.fz _,s.fz _,s.fz _,s.fz _,s.fz _,(m.o.ar E m.o.lt).cell 2,(m.o.ar E m.o.lt).cell 3,(r.o.ar E r.o.lt).cell 0,(r.o.ar E r.o.lt).cell 1,aq,aq⟩⟩
 go_wp2_with (at_builtin;refine cL (L':=bI lo hi) pT rfl (.tmp 92) (.tmp 93) rfl rfl (OL.nil (L:=λxs=>xs=[]) O O.heap.size _ _ rfl) rfl GL6.o (λxs ys _ _ _ _ h1 h2=>Dd) aq cr ?_;intro Z M l s E;obtain⟨g,z0,z1,z2,z3,z4,z5,z6,z7,z8,z9,rfl,D,O7,BV7,s2,s3,s4,s5,s6,fz2,fz3,fz4,fz5,fz6,u2,u3,t0,t1,ah1,ah'⟩:=FX.o Z M l s E;clear s E);have OF:∀a b c d e:Int,iZ (((((l.setCell ⟨g,at_*10+2,OJ⟩ (ae aj a)).setCell ⟨g,at_*10+3,OJ⟩ (ae aj b)).setCell ⟨g,at_*10+4,OJ⟩ (ae aj c)).setCell ⟨g,at_*10+5,OJ⟩ (ae aj d)).setCell ⟨g,at_*10+6,OJ⟩ (ae aj e)) w.heap.size (bI lo hi) (OH ⟨g,0,OJ⟩) n M:=λa b c d e=>
  (((((O7.o.cS V).me C (q:=2) aq aq a).me C (q:=3) aq aq b).me C (q:=4) aq aq c).me C (q:=5) aq aq d).me C (q:=6) aq aq e
 have hB:w.heap.size<=g:=aq;have BF9:∀a b c d e:Int,az w (((((l.setCell ⟨g,at_*10+2,OJ⟩ (ae aj a)).setCell ⟨g,at_*10+3,OJ⟩ (ae aj b)).setCell ⟨g,at_*10+4,OJ⟩ (ae aj c)).setCell ⟨g,at_*10+5,OJ⟩ (ae aj d)).setCell ⟨g,at_*10+6,OJ⟩ (ae aj e)):=λa b c d e=>
  Below.setCell (Below.setCell (Below.setCell (Below.setCell (Below.setCell BV7.o (p:=⟨g,at_*10+2,OJ⟩) hB _) (p:=⟨g,at_*10+3,OJ⟩) hB _) (p:=⟨g,at_*10+4,OJ⟩) hB _) (p:=⟨g,at_*10+5,OJ⟩) hB _) (p:=⟨g,at_*10+6,OJ⟩) hB _
 go_ret2;exact⟨_,n,M,OX,rfl,λ_=>⟨rfl,OF _ _ _ _ _⟩,BF9 _ _ _ _ _⟩
def fY(P:aC->Prop)(lo hi:Int)(gs:List aC):Prop:=bI lo hi gs/\∀g∈gs,P g
def Lw(g:aC):Prop:= -1<=nth g 5/\nth g 5<=50000
def fY.each(gs:List aC)(h:fY P lo hi gs):∀g∈gs,Lq lo hi g/\P g:=λg a=>⟨h.1.1 (nth g 1) (List.mem_map.2 ⟨g,a,rfl⟩),h.2 g a⟩
def GU(P:aC->Prop)(cs:aC)(i:Nat)(xs:List aC):Prop:=aM xs=cs.take i/\∀g∈xs,P g
def GU.nil(P:aC->Prop)(cs:aC):GU P cs 0 []:=⟨rfl,aT⟩
def GU.more{cs:aC}(h:GU P cs i xs){g:aC}(hi:i<cs.length)(c:nth g 1=nth cs i)(b:P g):GU P cs (i+1) (xs++[g]):=by
 refine⟨?_,λx a=> ?_⟩
 .rw[gB,h.1,List.take_succ_eq_append_getElem hi,<-bZ hi,<-c]
  rfl
 .rcases List.mem_append.1 a with a|a
  .exact h.2 x a
  .simp at a;subst a;exact b
def GU.full{cs:aC}(h:GU P cs n xs)(a:CS lo hi cs)(b:cs.length=n):fY P lo hi xs:=⟨by show CS _ _ _;rw[h.1,List.take_of_length_le (by omega)];exact a,h.2⟩
def nD(a:j<gs.length):dS gs j∈gs:=by
 have e:dS gs j=gs[j]:=by simp[dS,a]
 rw[e];exact List.getElem_mem a
def afP(s:G:=by
 obtain⟨t,rfl⟩:=Int.eq_ofNat_of_zero_le h5
 by_cases h6:t<i
 all_goals
  go_wp2;go_meet;exact⟨⟨_,rfl,⟨λh=>by simp at h<;>omega⟩⟩,rfl⟩):G:=s
def Pf(lo hi:Int)(A:aB)(n c:Nat)(w:EE)(h:lF w (bI lo hi) A n)(hn:n<=50000):GK prog 134 #[Pl A n c] w (Uk w (fY Lw lo hi) n):=by
 obtain⟨gs,hS,hx⟩:=h;have⟨R,HN,HS⟩:=MO hx hx.1 hS;go_enter func134,ntmps134;go_wp2;go_loopg[3,4,5](n+1)(λgg v3 v4 _ wr=>∃(i:Nat) (Z:aB) (Q:Nat),n-i<gg/\i<=n/\v3=Pl Z i Q/\v4=ae aj (i:Int)/\ak (iZ wr w.heap.size (GU Lw (aM gs) i) Z i Q)/\ak (az w wr))
 .exact⟨0,OJ,0,aq,aq,rfl,rfl,⟨OL.nil _ _ _ _ (GU.nil _ _)⟩,cJ⟩
 obtain⟨i,Z,Q,hg,Zv,rfl,rfl,D,K⟩:=hrel;by_cases aG:i<n;rotate_left
 .obtain rfl:i=n:=by omega
  go_wp2;go_ret;exact⟨_,_,rfl,D.o.imp λxs _ _ h=>h.full HS.o (by rw[dK,HN.o]),K.o⟩
 obtain⟨ad,r,g,q,E,y,z,f,m,l,o,rfl,hQ,e0,e1,e2,e3,e4,e5,e6,e7,e8,e9⟩:=(R.o.Z K.o K.o.size).bK aG;have QX:ak (g=nth (aM gs) i/\i<(aM gs).length):=⟨BR⟩;have hs:=K.o.size;have i4:=aU i n;go_upto_region 6 with fail;have⟨O,s⟩:=eX (wr.alloc (RM (v10 r g q E y z f m l o) 126));have a:ak (Bx O wr.heap.size (v10 r g q E y z f m l o)):=⟨by rw[s];exact Bx.new _ _ _⟩;have d:ak (az wr O):=⟨by rw[s];exact aw _ _⟩;rw[<-s];clear s;have q5:=a.o.cell 5;have f5:=a.o.fz 5;simp at q5;go_cut[24](λv G=>(∃b:Bool,v=PF b/\ak (b=OX->0<=z/\z<(i:Int)))/\O=G)
 ·
  by_cases h5:0<=z
  .exact afP
  .have i5:decide (0<=z)=OZ:=ji
   go_wp2;go_meet;exact⟨⟨_,rfl,⟨aT⟩⟩,rfl⟩
 obtain⟨⟨b,rfl,H5⟩,rfl⟩:=hcut;go_upto_if 24 with fail;go_cut[24](λ_ G=>ak (∃P S F X:Int,(-1<=F/\F<=50000)/\Bx G wr.heap.size (v10 r g q P S F X m l o))/\ak (az wr G))
 ·
  cases b
  .go_upto_region 10 with fail
   have⟨V,x⟩:=eX (O.setCell ⟨wr.heap.size,5,OJ⟩ (ae aj (-1)));have X3:ak (Bx V wr.heap.size (v10 r g q E y (-1) f m l o)):=⟨by rw[x];exact a.o.jq 5 _⟩;have B3:ak (az wr V):=⟨by rw[x];exact Below.setCell d.o (p:=⟨wr.heap.size,5,OJ⟩) cr _⟩;rw[<-x];clear x;have a:=X3;have d:=B3;have q6:=a.o.cell 6;simp at q6;go_cut[54](λv G=>(∃b:Bool,v=PF b/\ak (b=OX->0<=f/\f<(i:Int)))/\V=G)
   ·
    by_cases h5:0<=f
    .exact afP
    .have i5:decide (0<=f)=OZ:=ji
     go_wp2;go_meet;exact⟨⟨_,rfl,⟨aT⟩⟩,rfl⟩
   obtain⟨⟨b,rfl,H6⟩,rfl⟩:=hcut;cases b
   .go_wp2
    go_meet;exact⟨⟨E,y,-1,f,aq,a.o⟩,d⟩
   .have h6:=H6.o rfl
    obtain⟨u,rfl⟩:∃u:Nat,f=(u:Int):=⟨f.toNat,aq⟩;have U:u<i:=aq;have i6:=aU u i;obtain⟨g2,rfl,_,_⟩:=D.o.form aq;go_wp2_with fail;obtain⟨z0,z1,z2,z3,z4,z5,z6,z7,z8,z9,_,_,_,_,T,k4,_⟩:=(D.o.ar d.o).o.bK U;have C:=a.o.cell 4;have B:=a.o.cell 6;simp at C B;have⟨K3,S3,S5⟩:=lc3 k4 C B;refine aQ (λ_=>OJ) 10 rfl aF aF aF aF aF rfl ?_;refine mLw ?_;intro e hE;have J:=d.o.trans (e.2.mono d.o.size);have j:=a.o.ar e.2 a.o.lt;have H:=j.cell 4;simp at H;have fz:=j.fz 4;have I:ak (∀v:Int,Bx (e.1.setCell ⟨wr.heap.size,4,OJ⟩ (ae aj v)) wr.heap.size ((v10 r g q E y (-1) (u:Int) m l o).setIfInBounds 4 (ae aj v))):=⟨λv=>j.jq 4 _⟩;have L:ak (∀v:Int,az wr (e.1.setCell ⟨wr.heap.size,4,OJ⟩ (ae aj v))):=⟨λv=>Below.setCell J (p:=⟨wr.heap.size,4,OJ⟩) cr _⟩;go_simp;generalize M:IK _=v4;have⟨a,d⟩:=K' (I.o v4) (L.o v4);generalize k:e.1.setCell _ _=W;rw[k]at a d;go_wp2;go_meet;exact⟨⟨E,v4,-1,u,aq,a.o⟩,d⟩
  .have h5:=H5.o rfl
   obtain⟨t,rfl⟩:∃t:Nat,z=(t:Int):=⟨z.toNat,aq⟩;have N:t<i:=aq;have i6:=aU t i;obtain⟨g2,rfl,_,_⟩:=D.o.form aq;go_wp2_with fail;obtain⟨z0,z1,z2,z3,z4,z5,z6,z7,z8,z9,_,_,_,_,T,k4,_⟩:=(D.o.ar d.o).o.bK N;have C:=a.o.cell 3;have B:=a.o.cell 5;simp at C B;have⟨K3,S3,S5⟩:=lc3 T C B;refine aQ (λ_=>OJ) 10 rfl aF aF aF aF aF rfl ?_;refine mLw ?_;intro e hE;have J:=d.o.trans (e.2.mono d.o.size);have j:=a.o.ar e.2 a.o.lt;have H:=j.cell 3;simp at H;have fz:=j.fz 3;have I:ak (∀v:Int,Bx (e.1.setCell ⟨wr.heap.size,3,OJ⟩ (ae aj v)) wr.heap.size ((v10 r g q E y (t:Int) f m l o).setIfInBounds 3 (ae aj v))):=⟨λv=>j.jq 3 _⟩;have L:ak (∀v:Int,az wr (e.1.setCell ⟨wr.heap.size,3,OJ⟩ (ae aj v))):=⟨λv=>Below.setCell J (p:=⟨wr.heap.size,3,OJ⟩) cr _⟩;go_simp;generalize M:IK _=v3;have⟨a,d⟩:=K' (I.o v3) (L.o v3);generalize k:e.1.setCell _ _=W;rw[k]at a d;have a:ak (Bx W wr.heap.size (v10 r g q v3 y (t:Int) f m l o)):=a;go_wp2_with fail;obtain⟨z0,z1,z2,z3,z4,z5,z6,z7,z8,z9,_,_,_,_,T,k4,_⟩:=(D.o.ar d.o).o.bK N;have C:=a.o.cell 4;have B:=a.o.cell 5;simp at C B;have⟨K3,S3,S5⟩:=lc3 k4 C B;refine aQ (λ_=>OJ) 10 rfl aF aF aF aF aF rfl ?_;refine mLw ?_;intro e hE;have J:=d.o.trans (e.2.mono d.o.size);have j:=a.o.ar e.2 a.o.lt;have H:=j.cell 4;simp at H;have fz:=j.fz 4;have I:ak (∀v:Int,Bx (e.1.setCell ⟨wr.heap.size,4,OJ⟩ (ae aj v)) wr.heap.size ((v10 r g q v3 y (t:Int) f m l o).setIfInBounds 4 (ae aj v))):=⟨λv=>j.jq 4 _⟩;have L:ak (∀v:Int,az wr (e.1.setCell ⟨wr.heap.size,4,OJ⟩ (ae aj v))):=⟨λv=>Below.setCell J (p:=⟨wr.heap.size,4,OJ⟩) cr _⟩;go_simp;generalize M:IK _=v4;have⟨a,d⟩:=K' (I.o v4) (L.o v4);generalize k:e.1.setCell _ _=W;rw[k]at a d;go_wp2;go_meet;exact⟨⟨v3,v4,t,f,aq,a.o⟩,d⟩
 obtain⟨Y,d⟩:=hcut;obtain⟨P,S,F,X,hy,xx⟩:=Y.o;have⟨a,HY⟩:=K' xx hy;have a:ak (Bx wc wr.heap.size (v10 r g q P S F X m l o)):=a;have⟨q0,q1,q2,q3,q4,q5,q6,q7,q8,q9⟩:=a.o.Gs;have f6:=a.o.fz 6;have O5:ak (iZ (wc.setCell ⟨wr.heap.size,6,OJ⟩ (ae aj (-1))) w.heap.size (GU Lw (aM gs) i) _ i Q):=⟨D.o.ar (Below.setCell d.o (p:=⟨wr.heap.size,6,OJ⟩) cr _)⟩;have B5:ak (az w (wc.setCell ⟨wr.heap.size,6,OJ⟩ (ae aj (-1)))):=⟨K.o.trans ((Below.setCell d.o (p:=⟨wr.heap.size,6,OJ⟩) cr _).mono hs)⟩;have hs9:=d.o.size;go_wp2_with (at_builtin;refine cd (L':=GU Lw (aM gs) (i+1)) pT rfl (.tmp 66) (.tmp 68) rfl rfl (O5.o.alloc _) rfl [r,g,q,P,S,F,-1,m,l,o] rfl (cP _ _ _ _ _ aT rfl) (λxs _ _ h=>h.more QX.o.2 QX.o.1 (by have:=HY.o;simp[Lw,nth]<;>omega)) aq br ?_;intro A8 c8 w8 o8 b8 _ _;have O8:=sH o8;have B8:ak (az w w8):=⟨(B5.o.alloc br _).trans b8⟩;clear o8 b8);go_roundg(n-i)
 .exact⟨i+1,A8,c8,aq,aq,rfl,aV,O8,B8⟩
 omega
abbrev bM(A:aB)(m c:Nat)(x:Int)(b:Bool)(l:Int):Array EN:=#[Pl A m c,ae aj x,PF b,ae aj l]
def PDn(w:EE)(Q:List aC->Prop)(n:Nat)(e:IS)(a:EE):Prop:=∃(A:aB) (m c x:Nat) (b:Bool) (l:Int),e=RE (Q4 (bM A m c x b l))/\(b=OX->m=n/\n<=c/\x<=n+1/\lF a Q A n)/\az w a
def Oq.gU(h:Oq w B e k Q A n c)(o:g<B):bR A (OH ⟨g,0,OJ⟩):=by
 obtain⟨gs,a,m,d⟩:=h;rcases d.2 with⟨b,_⟩|⟨l,cap,cur,b,j,p,r⟩
 .injection b with a
  rw[a];exact jV _
 .injection b with a
  rw[a];intro x f i;simp at f i;omega
def kB:(prog.info? 296).map (·.size)=OH 4:=by kernel_rfl
def OL.gU(h:OL w B e k L A n c)(a:g<B):bR A (OH ⟨g,0,OJ⟩):=h.o.gU a
def Rb(f:dv)(k:Lk)(lo hi:Int)(A:aB)(n c at_:Nat)(w:EE)(h:cC w w.heap.size f)(X:ny w w.heap.size k)(U:lF w (bI lo hi) A n)(I:n<=50000)(L:at_<n):
 GK prog 301 #[f.v,k.v,Pl A n c,ae aj (at_:Int)] w (PDn w (bI lo hi) n):=by
 have⟨O,aP,r,V,p⟩:=box2 w f.row 102 k.row 175;have⟨R,W,Y⟩:=MO (h.Z r.o r.o.size) (X.Z r.o r.o.size) (U.Z r.o r.o.size);have E:O.heap.size=w.heap.size+1+1:=oW;have⟨c0,T,u,Q,c4,c5⟩:=V.o.f6;have⟨D,N,J,H⟩:=p.o.k4;have z:k.kind=6∨k.kind=7∨k.kind=8∨k.kind=9∨k.kind=10∨k.kind=11∨((k.kind==6)=OZ/\(k.kind==7)=OZ/\(k.kind==8)=OZ/\(k.kind==9)=OZ/\(k.kind==10)=OZ/\(k.kind==11)=OZ):=br;obtain⟨kk,Z,st,S,sn,sc⟩:=k;dsimp only at z D N J H;rcases z with rfl|rfl|rfl|rfl|rfl|rfl|⟨k1,k2,k3,k4,k5,k6⟩
 all_goals
  go_enter func301,ntmps301;go_wp2_with fail;rw[<-aP];clear aP;generalize B:O.alloc (RM (bM OJ 0 0 0 OZ 0) 296)=t;have p:ak (Bx t (w.heap.size+1+1) (bM OJ 0 0 0 OZ 0)):=⟨by rw[<-B];exact Bx.iR _ _ _ E⟩;have b:az O t:=by rw[<-B];exact aw _ _
  have x:=r.t b;have⟨F,P,M⟩:=MO (R.o.Z b b.size) (W.o.Z b b.size) (Y.o.Z b b.size);have c0:=av c0 b;have T:=av T b;have u:=av u b;have Q:=av Q b;have c4:=av c4 b;have c5:=av c5 b
  have D:=av D b;have N:=av N b;have J:=av J b;have H:=av H b
  have o:w.heap.size+1+1<t.heap.size:=p.o.lt
 rotate_right
 .obtain⟨m,j⟩:=p.o.heap
  refine bodyPost_ret (results_cell_row results301 _ _ (w.heap.size+1+1) m _ (0,0) _ aD j underlying296 rfl aF) rfl ?_;exact⟨OJ,0,0,0,OZ,0,rfl,aT,x.o⟩
 iterate 3
  .first
    |refine(Yg f _ lo hi A n c at_ t F.o P.o M.o I L).mono ?_
    |refine(Yj f _ lo hi A n c at_ t F.o P.o M.o I L).mono ?_
   rintro e C ⟨i,g,a,v,l,rfl,K,y⟩;have s:=sH K;obtain⟨m,d⟩:=(p.o.ar y p.o.lt).heap;have G:ak (az w (C.setRow (w.heap.size+1+1) (bM i g a (v:Int) l 0))):=⟨below_setRow (x.o.trans (y.mono x.o.size)) aq _⟩;go_wp2_with (refine wpList_store_row rfl 296 (.tmp 8) _ rfl (w.heap.size+1+1) (bM i g a (v:Int) l 0) rfl rfl m _ d kB aD ed ?_);have j:(C.setRow (w.heap.size+1+1) (bM i g a (v:Int) l 0)).heap[w.heap.size+1+1]? =OH (RM (bM i g a (v:Int) l 0) m (0,0)):=setRow_heap _ _ _ _ _ _ d;refine bodyPost_ret (results_cell_row results301 _ _ (w.heap.size+1+1) m _ (0,0) _ aD j underlying296 rfl aF) rfl ?_;exact⟨i,g,a,v,l,0,rfl,λe=>by obtain⟨rfl,g2,q⟩:=s.o e;exact⟨rfl,q.le,g2,(q.iA (q.gU o) _).rl aq⟩,G.o⟩
 all_goals
  refine(UR f _ lo hi A n c at_ t F.o P.o M.o I L).mono ?_;rintro e C ⟨i,g,a,l,rfl,K,y⟩;have s:=sH K;obtain⟨m,d⟩:=(p.o.ar y p.o.lt).heap;have G:ak (az w (C.setRow (w.heap.size+1+1) (bM i g a ((at_:Int)+1) l 0))):=⟨below_setRow (x.o.trans (y.mono x.o.size)) aq _⟩;go_wp2_with (refine wpList_store_row rfl 296 (.tmp 8) _ rfl (w.heap.size+1+1) (bM i g a ((at_:Int)+1) l 0) rfl rfl m _ d kB aD ed ?_);have j:(C.setRow (w.heap.size+1+1) (bM i g a ((at_:Int)+1) l 0)).heap[w.heap.size+1+1]? =OH (RM (bM i g a ((at_:Int)+1) l 0) m (0,0)):=setRow_heap _ _ _ _ _ _ d;refine bodyPost_ret (results_cell_row results301 _ _ (w.heap.size+1+1) m _ (0,0) _ aD j underlying296 rfl aF) rfl ?_;exact⟨i,g,a,at_+1,l,0,rfl,λe=>by obtain⟨rfl,q⟩:=s.o e;exact⟨rfl,q.le,aq,(q.iA (q.gU o) _).rl aq⟩,G.o⟩
def ZX(N:Nat)(cs:Array EN):Sat:=⟨λv w=>∃g:Nat,v=PK (OH ⟨g,0,OJ⟩)/\N<=g/\Bx w g cs,λv w e ⟨g,c,d,a⟩ b=>⟨g,c,d,a.ar b a.lt⟩⟩
def tL{w0:EE}(n:aI w0)(cs:Array EN)(t:IQ):(ZX w0.heap.size cs).p (PK (OH ⟨n.1.heap.size,0,OJ⟩)) (n.1.alloc (RM cs t))/\(∃m:aI w0,n.1.alloc (RM cs t)=m.1)/\EI n.1.heap.size n.1 (n.1.alloc (RM cs t)):=
 ⟨⟨_,rfl,n.2.size,Bx.new _ _ _⟩,⟨⟨_,n.2.trans ((aw _ _).mono n.2.size)⟩,rfl⟩,aw _ _⟩
def ZX.get(h:(ZX N cs).p (PK (OH ⟨g,0,OJ⟩)) w):Bx w g cs:=by
 obtain⟨a,e,_,h⟩:=h;injection e with e
 injection e with e
 injection e with e
 subst e;exact h
def Jv(Q:List aC->Prop)(n:Nat)(w:EE)(A:aB)(m c x:Nat)(b:Bool):Prop:=b=OX->m=n/\n<=c/\x<=n+1/\lF w Q A n
def Ug(Q:List aC->Prop)(n:Nat):Sat:=⟨λv w=>∃(A:aB) (m c x:Nat) (b:Bool) (l:Int),v=Q4 (bM A m c x b l)/\Jv Q n w A m c x b,λv w g ⟨A,m,c,x,b,l,f,a⟩ d=>⟨A,m,c,x,b,l,f,λe=>⟨(a e).1,(a e).2.1,(a e).2.2.1,(a e).2.2.2.Z d d.size⟩⟩⟩
def Ug.get{Q:List aC->Prop}{x:Nat}{b:Bool}(h:(Ug Q n).p (Q4 (bM A m c x b l)) w):Jv Q n w A m c x b:=by
 obtain⟨r,p,c',d,o,q,e,h⟩:=h;simp[bM]at e;obtain⟨⟨j,i,g⟩,s,f,k⟩:=e;have a:x=d:=aq;subst a;subst j;subst i;subst g;subst f
 exact h
def Bx.dn{b:Nat}{x:Int}{z:Bool}(h:Bx w b (bM A m c x z l)):w.cell? ⟨b,0,OJ⟩=OH (Pl A m c)/\w.cell? ⟨b,1,OJ⟩=OH (ae aj x)/\w.cell? ⟨b,2,OJ⟩=OH (PF z)/\w.cell? ⟨b,3,OJ⟩=OH (ae aj l):=⟨h.cell 0,h.cell 1,h.cell 2,h.cell 3⟩
def Rq.ne(h:Rq w B k Q A n)(m:Bx w g cs)(s:cs.size<k)(i:0<n){d:Addr}(j:A=OH d):d.block≠g:=by
 obtain⟨c,f,r,o⟩:=h i;obtain rfl:d=c:=Option.some.inj (j.symm.trans f);intro e;obtain⟨l,u,_,q⟩:=o 0 i;have a:=q (k-1) (l[k-1]' aq) (by rw[List.getElem?_eq_getElem]);obtain⟨t,p⟩:=m;unfold World.cell? at a;rw[aL,aL,e,p]at a;simp only at a;split at a
 .cases a
 .have b:=(Array.getElem?_eq_some_iff.1 a).1
  unfold Addr.add at b;split at b<;>split at b<;>(try simp only[Nat.zero_mul]at b)<;>omega
def AH{d:EE}{q:Nat}{c:Addr}{v:EN}(e:∀b,b≠g->d.heap[b]? =w.heap[b]?)(a:c.block≠g)(h:w.cell? ((c.add i).add q)=OH v):d.cell? ((c.add i).add q)=OH v:=by
 unfold World.cell? at h⊢;rw[aL,aL]at h⊢;rw[e _ a];exact h
def Rq.off(h:Rq w B k Q A n)(p:Bx w g cs)(m:cs.size<k)(v:∀b,b≠g->f.heap[b]? =w.heap[b]?):Rq f B k Q A n:=λe=>by
 obtain⟨t,d,c,s⟩:=h e;have a:=h.ne p m e d;refine⟨t,d,c,λj i=> ?_⟩;obtain⟨l,r,u,o⟩:=s j i;exact⟨l,r,u,λq x y=>AH v a (o q x y)⟩
def RL.off{d:EE}(h:RL w B k L A n)(l:Bx w g cs)(f:cs.size<k)(p:∀b,b≠g->d.heap[b]? =w.heap[b]?):RL d B k L A n:=by
 have y:Rq w B k (λ_=>True) A n:=h.rq λ_ _ _ _=>trivial
 obtain⟨gs,s,m,t,i⟩:=h;refine⟨gs,s,m,t,λe=> ?_⟩;obtain⟨o,c,a,u⟩:=i e;exact⟨o,c,a,λj r v q x z=>AH p (y.ne l f e c) (u j r v q x z)⟩
def RL.row(h:lF w L A n)(a:Bx w g cs)(c:cs.size<10)(ds:Array EN):lF (w.setRow g ds) L A n:=by
 have:=RL.off h a c λb a=>setRow_other w g b ds a
 unfold lF;simpa using this
def XQ(d:Nat):Prop:=∀(f:dv) (lo hi:Int) (a at_ l:Int) (A:aB) (n c:Nat) (w:EE),cC w w.heap.size f->lF w (bI lo hi) A n->n<=c->n<=50000->
 GK prog 262 #[f.v,ae aj a,Pl A n c,ae aj at_,ae aj l,ae aj (d:Int)] w (PDn w (bI lo hi) n)
def neT(N:Nat)(Q:List aC->Prop)(n:Nat)(d:Option Tmp):Option Sat:=if d=OH 55 then OH (Ug Q n)else if d=OH 14 then OH (ZX N (bM OJ 0 0 0 OZ 0))else OJ
def RZ(d:Nat)(H:XQ (d+1))(f:dv)(lo hi:Int)(l:Int)(A:aB)(n c:Nat)(NA:aB)(j nc:Nat)(P:aB)(m pc:Nat)(w:EE)(h:cC w w.heap.size f)(hl:lF w (bI lo hi) A n)(hN:cU w w.heap.size As NA j nc)(hP:Ha w 0 n P m pc)(F:n<=c)(hn:n<=50000)(hd:d<=8):
 GK prog 300 #[f.v,Pl A n c,Pl P m pc,Pl NA j nc,ae aj l,ae aj (d:Int)] w (PDn w (bI lo hi) n):=by
 have HO:=sH H;have⟨O,v⟩:=eX ((w.alloc (RM f.row 102)).alloc (RM (bM OJ 0 0 0 OZ 0) 296));have⟨J,q⟩:=eX (w.alloc (RM f.row 102));have bF:az w J:=by rw[q];exact aw _ _
 have xF:Bx J w.heap.size f.row:=by rw[q];exact Bx.new _ _ _
 have hsF:J.heap.size=w.heap.size+1:=by rw[q];simp
 have cg:O=J.alloc (RM (bM OJ 0 0 0 OZ 0) 296):=by rw[v,q]
 have b2:az J O:=jT;have X1:=sH (xF.ar b2 xF.lt);have N:ak (Bx O (w.heap.size+1) (bM OJ 0 0 0 OZ 0)):=⟨by rw[cg];exact Bx.iR _ _ _ hsF⟩;have s:=sH (bF.trans (b2.mono bF.size));have⟨R,B,RN,RP⟩:=MQ (h.Z s.o s.o.size) (hl.Z s.o s.o.size) (hN.Z s.o s.o.size) (hP.ar s.o);have hnn:=hN.bd;have iW:=N.o.lt;go_enter func300,ntmps300;go_wp2;rw[<-v];clear v;go_loopg[1,4,13,14](j+1)(λgg v1 v4 V _ wr=>∃(i:Nat) (A:aB) (c:Nat) (l:Int),j-i<gg/\i<=j/\v1=Pl A n c/\v4=ae aj l/\V=ae aj (i:Int)/\n<=c/\ak (az O wr)/\ak (lF wr (bI lo hi) A n))
 .exact⟨0,A,c,l,aq,aq,rfl,rfl,rfl,aq,cJ,B⟩
 obtain⟨i,A,c,l,hg,Zv,rfl,rfl,rfl,F,b,B⟩:=hrel;have T:=b.o.size;have K:=sH (RP.o.ar b.o);by_cases aG:i<j
 .obtain⟨ad,y,z,rfl,e0,e1⟩:=yP (RN.o.Z b.o b.o.size) aG
  have i4:=aU i j;by_cases hy0:y<0
  .go_wp2
   go_roundg(j-i)
   .exact⟨i+1,A,c,l,aq,aq,rfl,rfl,aV,F,b,B⟩
   omega
  obtain⟨a,rfl⟩:∃a:Nat,y=(a:Int):=⟨y.toNat,aq⟩;by_cases ham:a<m;rotate_left
  .have h1:((m:Int)<=(a:Int)):=by omega
   go_wp2;go_roundg(j-i)
   .exact⟨i+1,A,c,l,aq,aq,rfl,rfl,aV,F,b,B⟩
   omega
  have h1:¬((m:Int)<=(a:Int)):=aq;have h2:((a:Int)<(m:Int)):=aq;obtain⟨xs,_,_,t,_⟩:=K.o;obtain⟨gp,rfl,_,_⟩:=aA.form t aq;have X:=bU t ham;generalize nth xs a=p at*;have⟨c0,c1,aW,c3,c4,c5⟩:=(X1.o.ar b.o X1.o.lt).f6;have⟨RW,hO'⟩:=K' (R.o.Z b.o b.o.size) t;go_wp2;have⟨L0,L1,L2,L3,L4⟩:=lc5 c0 c1 aW c3 c4;have⟨L5,M0,M1,MP⟩:=lc4 c5 e0 e1 X;refine aQ (neT wr.heap.size (bI lo hi) n) 20 rfl aF aF aF aF aF rfl ?_;refine mLw ?_;refine lwA (Ug (bI lo hi) n) (λo=> ?_) (λv9 u=> ?_)
  .go_simp
   refine aZ (Ug (bI lo hi) n) ((HO.o f lo hi z p l A n c o.1 (RW.o.Z o.2 o.2.size) (B.o.Z o.2 o.2.size) F aq).mono ?_);rintro e w5 ⟨C,M,c6,I,D,E,rfl,h6,hb⟩;exact⟨_,rfl,⟨C,M,c6,I,D,E,rfl,h6⟩,hb⟩
  obtain⟨_,_,C,M,c6,I,D,E,rfl,_⟩:=u;simp[Act.put];refine lwA (ZX wr.heap.size (bM OJ 0 0 0 OZ 0)) (λo=> ?_) (λv9 u=> ?_)
  .go_simp
   exact tL o _ _
  obtain⟨_,_,g,rfl,U,_⟩:=u;simp[Act.put];intro o Z;have x:=ZX.get Z.2;have r:=sH (Ug.get (by first|exact Z.1.2|exact Z.1));obtain⟨Q,zR⟩:=x.heap;refine wp_store_row 296 (.tmp 14) (.tmp 55) rfl g _ rfl rfl Q _ zR kB rfl ed ?_;have X8:=sH (x.row (ds:=bM C M c6 (I:Int) D E));have⟨w8,k⟩:=eX (o.1.setRow g (bM C M c6 (I:Int) D E));have b8:az wr w8:=by rw[k];exact below_setRow o.2 U _
  have⟨B8,G8⟩:=K' (b.o.trans (b8.mono T)) (B.o.Z b8 b8.size);have H8:ak (Jv (bI lo hi) n w8 C M c6 I D):=⟨λe=>⟨(r.o e).1,(r.o e).2.1,(r.o e).2.2.1,by rw[k];exact((r.o e).2.2.2).row x (by decide) _⟩⟩;rw[<-k]at X8;rw[<-k];clear k;have⟨q0,q1,q2,q3⟩:=X8.o.dn;cases D
  .go_wp2
   go_roundg(j-i)
   .exact⟨i+1,A,c,E,aq,aq,rfl,rfl,aV,F,B8,G8⟩
   omega
  .obtain⟨rfl,S,h62,h63⟩:=H8.o rfl
   have G9:=sH h63;go_wp2;go_roundg(j-i)
   .exact⟨i+1,C,c6,E,aq,aq,rfl,rfl,aV,S,B8,G9⟩
   omega
 .obtain rfl:i=j:=by omega
  obtain⟨xs,Ja,_,t,hx⟩:=K.o;obtain⟨gp,rfl,_,_⟩:=aA.form t aq;obtain⟨L,hL,hLn⟩:∃L:Nat,nth xs (m-1)=L/\L<n:=by
   have hl:=t.len;have:=hx (nth xs (m-1)) Cw;exact⟨(nth xs (m-1)).toNat,aq,aq⟩
  have X:=bU t (show m-1<m by omega);rw[hL]at X;have em:(((m:Int)-1)=((m-1:Nat):Int)):=aq;have i4:((m-1:Nat):Int)<(m:Int):=aq;obtain⟨W,G⟩:=(N.o.ar b.o N.o.lt).heap;have Y:(wr.setRow (w.heap.size+1) (bM A n c ((L:Int)+1) OX l)).heap[w.heap.size+1]? =OH (RM (bM A n c ((L:Int)+1) OX l) W (0,0)):=setRow_heap _ _ _ _ _ _ G;have B5:ak (az w (wr.setRow (w.heap.size+1) (bM A n c ((L:Int)+1) OX l))):=⟨below_setRow (s.o.trans (b.o.mono s.o.size)) aq _⟩;have G5:ak (lF (wr.setRow (w.heap.size+1) (bM A n c ((L:Int)+1) OX l)) (bI lo hi) A n):=⟨B.o.row (N.o.ar b.o N.o.lt) cF _⟩;go_wp2_with (refine wpList_store_row rfl 296 (.tmp 12) (.tmp 71) rfl (w.heap.size+1) (bM A n c ((L:Int)+1) OX l) rfl rfl W _ G kB aD ed ?_);refine bodyPost_ret (results_cell_row results300 _ _ (w.heap.size+1) W _ (0,0) _ aD Y underlying296 rfl aF) rfl ?_;exact⟨A,n,c,L+1,OX,l,rfl,λ_=>⟨rfl,F,aq,G5.o⟩,B5.o⟩
def Xw(w:EE)(o1 b:Obj)(cs:Array EN)(t:IQ):az w (((w.alloc o1).alloc (RM cs t)).alloc b)/\Bx (((w.alloc o1).alloc (RM cs t)).alloc b) (w.heap.size+1) cs:=by
 have⟨a,e1⟩:=eX (w.alloc o1);rw[<-e1];have d:a.heap.size=w.heap.size+1:=by rw[e1];simp
 have c:az w a:=Ts;have x:=Bx.iR a cs t d;exact⟨(c.alloc aq _).alloc br _,x.ar (aw _ _) x.lt⟩
def DM{o1:Obj}{d f e c4:Array EN}{p n u r:IQ}(h:W=(((w.alloc (RM d r)).alloc (RM f p)).alloc (RM e n)).alloc (RM c4 u)):az w W/\Bx W w.heap.size d/\Bx W (w.heap.size+1) f/\Bx W (w.heap.size+1+1) e/\Bx W (w.heap.size+1+1+1) c4/\W.heap.size=w.heap.size+4:=by
 have⟨b,e1⟩:=eX (w.alloc (RM d r));have⟨a,j⟩:=eX (b.alloc (RM f p));have⟨c,g⟩:=eX (a.alloc (RM e n));have h:W=c.alloc (RM c4 u):=by rw[h,g,j,e1]
 have m:b.heap.size=w.heap.size+1:=by rw[e1];simp
 have o:a.heap.size=w.heap.size+1+1:=by rw[j];simp[m]
 have s:c.heap.size=w.heap.size+1+1+1:=by rw[g];simp[o]
 have x:az w b:=Ts;have v:az b a:=by rw[j];exact aw _ _
 have k:az a c:=by rw[g];exact aw _ _
 have i:az c W:=LO;have t:Bx b w.heap.size d:=by rw[e1];exact Bx.new _ _ _
 have q:Bx a (w.heap.size+1) f:=by rw[j];exact Bx.iR _ _ _ m
 have l:Bx c (w.heap.size+1+1) e:=by rw[g];exact Bx.iR _ _ _ o
 have y:Bx W (w.heap.size+1+1+1) c4:=by rw[h];exact Bx.iR _ _ _ s
 exact⟨x.trans (((v.mono aq).trans (k.mono aq)).trans (i.mono aq)),((t.ar v t.lt).ar k aq).ar i aq,(q.ar k q.lt).ar i aq,l.ar i l.lt,y,by rw[h];simp[s]⟩
def ae6(s:G:=by
 go_enter func262,ntmps262
 go_wp2_with fail
 all_goals(
  obtain⟨b9,hX⟩:=Xw w (RM f.row 102) (RM (bM OJ 0 0 0 OZ l) 296) (bM OJ 0 0 0 OZ l) 296;obtain⟨ty,dD⟩:=hX.heap;refine bodyPost_ret (results_cell_row results262 _ _ (w.heap.size+1) ty _ (0,0) _ aD dD underlying296 rfl aF) rfl ?_;exact⟨OJ,0,0,0,OZ,l,rfl,aT,b9⟩)):G:=s
def jf(d:Nat)(hd:d<=9)(H:d<=8->XQ (d+1)):XQ d:=by
 intro f lo hi lk at_ l A n c w h hl hc hn;have HO:=sH H;have vC:=h.rL.bd;by_cases h1:lk<0
 .exact ae6
 obtain⟨j,rfl⟩:∃j:Nat,lk=(j:Int):=⟨lk.toNat,aq⟩;by_cases h2:j<f.ln;rotate_left
 .have Eb:(f.ln:Int)<=(j:Int):=by omega
  go_enter func262,ntmps262;go_wp2_with fail
  all_goals(
   obtain⟨b9,hX⟩:=Xw w (RM f.row 102) (RM (bM OJ 0 0 0 OZ l) 296) (bM OJ 0 0 0 OZ l) 296;obtain⟨ty,dD⟩:=hX.heap;refine bodyPost_ret (results_cell_row results262 _ _ (w.heap.size+1) ty _ (0,0) _ aD dD underlying296 rfl aF) rfl ?_;exact⟨OJ,0,0,0,OZ,l,rfl,aT,b9⟩)
 have Eb:¬(f.ln:Int)<=(j:Int):=aq;by_cases h3:at_<0
 .exact ae6
 obtain⟨a,rfl⟩:∃a:Nat,at_=(a:Int):=⟨at_.toNat,aq⟩;by_cases h4:a<n;rotate_left
 .have Yo:(n:Int)<=(a:Int):=by omega
  go_enter func262,ntmps262;go_wp2_with fail
  all_goals(
   obtain⟨b9,hX⟩:=Xw w (RM f.row 102) (RM (bM OJ 0 0 0 OZ l) 296) (bM OJ 0 0 0 OZ l) 296;obtain⟨ty,dD⟩:=hX.heap;refine bodyPost_ret (results_cell_row results262 _ _ (w.heap.size+1) ty _ (0,0) _ aD dD underlying296 rfl aF) rfl ?_;exact⟨OJ,0,0,0,OZ,l,rfl,aT,b9⟩)
 have Yo:¬(n:Int)<=(a:Int):=aq;by_cases h5:d<=8;rotate_left
 .have h5':=aU 8 d
  go_enter func262,ntmps262;go_wp2_with fail
  all_goals(
   obtain⟨b9,hX⟩:=Xw w (RM f.row 102) (RM (bM OJ 0 0 0 OZ l) 296) (bM OJ 0 0 0 OZ l) 296;obtain⟨ty,dD⟩:=hX.heap;refine bodyPost_ret (results_cell_row results262 _ _ (w.heap.size+1) ty _ (0,0) _ aD dD underlying296 rfl aF) rfl ?_;exact⟨OJ,0,0,0,OZ,l,rfl,aT,b9⟩)
 have h5':=cI 8 d;clear h1 h3;obtain⟨ad,k,eL,hk,e0,e1,e2,e3⟩:=ru h.rL h2;obtain⟨M,x0,x1,x2,x3,x4,x5,x6,p,x8,x9,rfl,hQ,eg,_⟩:=hl.jB.bK h4;have⟨N,aP⟩:=eX ((((w.alloc (RM f.row 102)).alloc (RM (bM OJ 0 0 0 OZ 0) 296)).alloc (RM (bM OJ 0 0 0 OZ l) 296)).alloc (RM k.row 175));obtain⟨V,xf,x2',x3',xk,iW⟩:=DM (o1:=RM f.row 102) aP;have y:ak (az w N):=⟨V⟩;have X1:ak (Bx N w.heap.size f.row):=⟨xf⟩;have z:ak (Bx N (w.heap.size+1) (bM OJ 0 0 0 OZ 0)):=⟨x2'⟩;have I:ak (Bx N (w.heap.size+1+1) (bM OJ 0 0 0 OZ l)):=⟨x3'⟩;have X4:ak (Bx N (w.heap.size+1+1+1) k.row):=⟨xk⟩;have R:ak (cC N N.heap.size f):=⟨h.Z V V.size⟩;have RK:ak (ny N N.heap.size k):=⟨hk.Z V V.size⟩;have GL:ak (lF N (bI lo hi) (OH M) n):=⟨hl.Z V V.size⟩;have EG:ak (N.cell? (M.add (a*10))=OH (ae aj x0)):=⟨av eg V⟩;have nK:(j:Int)<(f.ln:Int):=aq;have KM:=aU a n;have oE:=hk.rS.bd;clear H h hl hk V xf x2' x3' xk hQ eg;obtain⟨em,G,gn,gc,MM,mn,mc,L,ln,lc,F,fn,fc,S,sn,sc⟩:=f;obtain⟨kk,fl,st,KS,X,sD⟩:=k;dsimp only at*;subst eL;have b3:az w (((w.alloc (RM #[ae aj em,Pl G gn gc,Pl MM mn mc,Pl (OH ad) ln lc,Pl F fn fc,Pl S sn sc] 102)).alloc (RM #[Pl OJ 0 0,ae aj 0,PF OZ,ae aj 0] 296)).alloc (RM #[Pl OJ 0 0,ae aj 0,PF OZ,ae aj l] 296)):=((aw _ _).alloc aT _).alloc br _;have e0:=av e0 b3;have e1:=av e1 b3;have e2:=av e2 b3;have e3:=av e3 b3
 clear b3;have dj:decide ((j:Int)<0)=OZ:=ji;have da:decide ((a:Int)<0)=OZ:=ji;go_enter func262,ntmps262;go_wp2;rw[<-aP];clear aP e0 e1 e2 e3;have⟨c0,P,m,J,c4,c5⟩:=X1.o.f6;have⟨Q,U,T,O⟩:=X4.o.k4;have eg:=EG.o;dsimp only at c0 P m J c4 c5 Q U T O eg;have⟨L0,L1,L2,L3,L4,L5,M0,M1⟩:=lc8 c0 P m J c4 c5 Q U;have⟨M2,M3,LQ⟩:=lc3 T O eg;clear c0 P m J c4 c5 Q U T O eg;refine aE (kC 57 SB) aF aF ?_
 repeat(refine cB aD aD aD ?_;intro K9 bQ;go_big_quiet_op;go_big_quiet_on)
 refine lsA SB (λs=> ?_) (λv9 aX=> ?_)
 .go_simp
  exact bP (pO ⟨em,G,gn,gc,MM,mn,mc,OH ad,ln,lc,F,fn,fc,S,sn,sc⟩ ⟨kk,fl,st,KS,X,sD⟩ x0 s.1 (R.o.Z s.2 s.2.size))
 obtain⟨b,rfl⟩:=aX;simp[Act.put]
 repeat(refine cB aD aD aD ?_;intro K9 bQ;go_big_quiet_op;go_big_quiet_on)
 intro s;obtain⟨D,C⟩:=s;clear L0 L1 L2 L3 L4 L5 M0 M1 M2 M3 LQ EG;have b3:az w D:=y.o.trans (C.mono y.o.size);have r3:=R.o.Z C C.size;have k3:=RK.o.Z C C.size;have g3:=GL.o.Z C C.size;have x1:=X1.o.ar C X1.o.lt;have x2:=z.o.ar C z.o.lt;have x3:=I.o.ar C I.o.lt;have x4:=X4.o.ar C X4.o.lt;clear y R RK GL X1 z I X4;have⟨y,R,RK,GL,X1,z⟩:=NT b3 r3 k3 g3 x1 x2;have⟨I,X4⟩:=K' x3 x4;have sS:=C.size;dsimp only;clear b3 r3 k3 g3 x1 x2 x3 x4 C;cases b;rotate_left
 .have⟨q0,q1,q2,q3⟩:=(I.o.ar (Below.refl D.heap.size D) I.o.lt).dn
  obtain⟨ty,g⟩:=(z.o.ar (Below.refl D.heap.size D) z.o.lt).heap;have dD:(D.setRow (w.heap.size+1) (bM OJ 0 0 0 OZ l)).heap[w.heap.size+1]? =OH (RM (bM OJ 0 0 0 OZ l) ty (0,0)):=setRow_heap _ _ _ _ _ _ g;have W:ak (az w (D.setRow (w.heap.size+1) (bM OJ 0 0 0 OZ l))):=⟨below_setRow (y.o.trans (Below.mono (Below.refl D.heap.size D) y.o.size)) aq _⟩;go_wp2_with (refine wpList_store_row rfl 296 (.tmp 12) (.tmp 58) rfl (w.heap.size+1) (bM OJ 0 0 0 OZ l) rfl rfl ty _ g kB aD ed ?_);refine bodyPost_ret (results_cell_row results262 _ _ (w.heap.size+1) ty _ (0,0) _ aD dD underlying296 rfl aF) rfl ?_;exact⟨OJ,0,0,0,OZ,l,rfl,aT,W.o⟩
 have⟨c0,P,m,J,c4,c5⟩:=X1.o.f6;have⟨Q,U,T,O⟩:=X4.o.k4;dsimp only at c0 P m J c4 c5 Q U T O;by_cases h12:kk=12
 .subst h12
  have MT:=sH (Ht ⟨em,G,gn,gc,MM,mn,mc,OH ad,ln,lc,F,fn,fc,S,sn,sc⟩ ⟨12,fl,st,KS,X,sD⟩ (Lq lo hi) (OH M) n c a D R.o RK.o GL.o.jB aq h4);go_wp2_with fail;refine MT.o.mono ?_;rintro e w4 ⟨i,A6,m6,c6,b6,rfl,h6,K⟩;have⟨Z,u⟩:=K' h6 K;clear h6 K MT c0 P m J c4 c5 Q U T O;cases b6
  .clear Z
   have⟨q0,q1,q2,q3⟩:=(I.o.ar u.o I.o.lt).dn;obtain⟨ty,g⟩:=(z.o.ar u.o z.o.lt).heap;have dD:(w4.setRow (w.heap.size+1) (bM OJ 0 0 0 OZ l)).heap[w.heap.size+1]? =OH (RM (bM OJ 0 0 0 OZ l) ty (0,0)):=setRow_heap _ _ _ _ _ _ g;have W:ak (az w (w4.setRow (w.heap.size+1) (bM OJ 0 0 0 OZ l))):=⟨below_setRow (y.o.trans (Below.mono u.o y.o.size)) aq _⟩;go_wp2_with (refine wpList_store_row rfl 296 (.tmp 12) (.tmp 77) rfl (w.heap.size+1) (bM OJ 0 0 0 OZ l) rfl rfl ty _ g kB aD ed ?_);refine bodyPost_ret (results_cell_row results262 _ _ (w.heap.size+1) ty _ (0,0) _ aD dD underlying296 rfl aF) rfl ?_;exact⟨OJ,0,0,0,OZ,l,rfl,aT,W.o⟩
  by_cases t:l=0
  .have hl1:(l==0)=OX:=by simp[t]
   clear t Z;have⟨q0,q1,q2,q3⟩:=(I.o.ar u.o I.o.lt).dn;obtain⟨ty,g⟩:=(z.o.ar u.o z.o.lt).heap;have dD:(w4.setRow (w.heap.size+1) (bM OJ 0 0 0 OZ l)).heap[w.heap.size+1]? =OH (RM (bM OJ 0 0 0 OZ l) ty (0,0)):=setRow_heap _ _ _ _ _ _ g;have W:ak (az w (w4.setRow (w.heap.size+1) (bM OJ 0 0 0 OZ l))):=⟨below_setRow (y.o.trans (Below.mono u.o y.o.size)) aq _⟩;go_wp2_with (refine wpList_store_row rfl 296 (.tmp 12) (.tmp 77) rfl (w.heap.size+1) (bM OJ 0 0 0 OZ l) rfl rfl ty _ g kB aD ed ?_);refine bodyPost_ret (results_cell_row results262 _ _ (w.heap.size+1) ty _ (0,0) _ aD dD underlying296 rfl aF) rfl ?_;exact⟨OJ,0,0,0,OZ,l,rfl,aT,W.o⟩
  have hl1:(l==0)=OZ:=by simp[t]
  clear t;obtain⟨ux,hP⟩:=Z.o rfl;have⟨c0,P,m,J,c4,c5⟩:=(X1.o.ar u.o X1.o.lt).f6;have⟨Q,U,T,O⟩:=(X4.o.ar u.o X4.o.lt).k4;dsimp only at ux c0 P m J c4 c5 Q U T O;obtain⟨yd,x,rfl,hx,_,_,_,_,_,_,e6,_⟩:=ko (RK.o.Z u.o u.o.size).rS ux;have HN:=sH hx.rN;have HP:ak (Ha w4 0 n A6 m6 c6):=⟨hP.cS (Nat.zero_le _)⟩;have⟨R4,G4⟩:=K' (R.o.Z u.o u.o.size) (GL.o.Z u.o u.o.size);have i5:=aU i X;obtain⟨ty,g⟩:=(z.o.ar u.o z.o.lt).heap;have HX5:=sH g;have JY:=u.o.size;clear Z hP hx g;go_wp2;have⟨L0,L1,L2,L3,L4,L5,M3,M6⟩:=lc8 c0 P m J c4 c5 O e6;clear c0 P m J c4 c5 Q U T O e6;refine aQ (jD 90 (Ug (bI lo hi) n)) 13 rfl aF aF aF aF aF rfl ?_;refine mLw ?_;refine lwA (Ug (bI lo hi) n) (λs=> ?_) (λv9 aX=> ?_)
  .go_simp
   refine aZ (Ug (bI lo hi) n) ((RZ d (HO.o h5) ⟨em,G,gn,gc,MM,mn,mc,OH ad,ln,lc,F,fn,fc,S,sn,sc⟩ lo hi _ (OH M) n c x.N x.nn x.nc A6 m6 c6 s.1 (R4.o.Z s.2 s.2.size) (G4.o.Z s.2 s.2.size) (HN.o.Z s.2 s.2.size) (HP.o.ar s.2) hc aq h5).mono ?_);rintro e Y ⟨q,m7,r,p,B,E,rfl,h7,K⟩;exact⟨_,rfl,⟨q,m7,r,p,B,E,rfl,h7⟩,K⟩
  obtain⟨_,_,q,m7,r,p,B,E,rfl,_⟩:=aX;simp[Act.put];intro s hE;have VC:=sH (Ug.get (by first|exact hE.2|exact hE));have v:=(s.2.block (w.heap.size+1) aq).trans HX5.o;clear hE L0 L1 L2 L3 L4 L5 M3 M6;refine wp_store_row 296 (.tmp 12) (.tmp 90) rfl (w.heap.size+1) _ rfl rfl ty _ v kB rfl ed ?_;have dD:(s.1.setRow (w.heap.size+1) (bM q m7 r (p:Int) B E)).heap[w.heap.size+1]? =OH (RM (bM q m7 r (p:Int) B E) ty (0,0)):=setRow_heap _ _ _ _ _ _ v;have W:ak (az w (s.1.setRow (w.heap.size+1) (bM q m7 r (p:Int) B E))):=⟨below_setRow (y.o.trans ((u.o.trans (s.2.mono u.o.size)).mono y.o.size)) aq _⟩;have G5:ak (Jv (bI lo hi) n (s.1.setRow (w.heap.size+1) (bM q m7 r (p:Int) B E)) q m7 r p B):=⟨λe=>⟨(VC.o e).1,(VC.o e).2.1,(VC.o e).2.2.1,(VC.o e).2.2.2.row ⟨ty,v⟩ cF _⟩⟩;go_wp2_with fail;refine bodyPost_ret (results_cell_row results262 _ _ (w.heap.size+1) ty _ (0,0) _ aD dD underlying296 rfl aF) rfl ?_;exact⟨q,m7,r,p,B,E,rfl,G5.o,W.o⟩
 have Zu:(kk==12)=OZ:=by simp[h12]
 clear h12;have SG:=sH (Rb ⟨em,G,gn,gc,MM,mn,mc,OH ad,ln,lc,F,fn,fc,S,sn,sc⟩ ⟨kk,fl,st,KS,X,sD⟩ lo hi (OH M) n c a D R.o RK.o GL.o hn h4);go_wp2_with fail;refine SG.o.mono ?_;rintro e Y ⟨q,m7,r,p,B,E,rfl,h7,K⟩;have H7:=sH h7;have bw:az D (Y.alloc (RM (bM q m7 r (p:Int) B E) 296)):=K.alloc K.size _;have X8:ak (Bx (Y.alloc (RM (bM q m7 r (p:Int) B E) 296)) Y.heap.size (bM q m7 r (p:Int) B E)):=⟨Bx.new _ _ _⟩;have B8:=y.t bw;obtain⟨ty,g⟩:=(z.o.ar bw z.o.lt).heap;have⟨q0,q1,q2,q3⟩:=(I.o.ar K I.o.lt).dn;have q0:=λo=>aH q0 o;have q1:=λo=>aH q1 o;have q2:=λo=>aH q2 o;have q3:=λo=>aH q3 o
 have hb5:=K.size;have B9:=y.t K;have hX4:ak (Y.heap[w.heap.size+1]? =OH (RM (bM OJ 0 0 0 OZ 0) ty (0,0))):=⟨((aw Y _).block _ aq).symm.trans g⟩;clear h7 K bw SG c0 P m J c4 c5 Q U T O;have BN:ak (az w ((Y.alloc (RM (bM q m7 r (p:Int) B E) 296)).setRow (w.heap.size+1) (bM OJ 0 0 0 OZ l))):=⟨below_setRow B8.o aq _⟩;cases B
 .clear H7 X8
  have dD:=setRow_heap _ _ _ (bM OJ 0 0 0 OZ l) _ _ g;go_wp2_with (refine wpList_store_row rfl 296 (.tmp 12) (.tmp 103) rfl (w.heap.size+1) (bM OJ 0 0 0 OZ l) rfl rfl ty _ g kB aD ed ?_);refine bodyPost_ret (results_cell_row results262 _ _ (w.heap.size+1) ty _ (0,0) _ aD dD underlying296 rfl aF) rfl ?_;exact⟨OJ,0,0,0,OZ,l,rfl,aT,BN.o⟩
 by_cases t:l=0
 .have hl1:(l==0)=OX:=by simp[t]
  clear t H7 X8;have dD:=setRow_heap _ _ _ (bM OJ 0 0 0 OZ l) _ _ g;go_wp2_with (refine wpList_store_row rfl 296 (.tmp 12) (.tmp 103) rfl (w.heap.size+1) (bM OJ 0 0 0 OZ l) rfl rfl ty _ g kB aD ed ?_);refine bodyPost_ret (results_cell_row results262 _ _ (w.heap.size+1) ty _ (0,0) _ aD dD underlying296 rfl aF) rfl ?_;exact⟨OJ,0,0,0,OZ,l,rfl,aT,BN.o⟩
 have hl1:(l==0)=OZ:=by simp[t]
 clear t X8;have⟨w6,jh⟩:=eX (Y.alloc (RM (bM q m7 r (p:Int) OX (IK (l-1))) 296));have b6:az Y w6:=by rw[jh];exact aw _ _
 have B6:ak (az w w6):=⟨B9.o.trans (b6.mono aq)⟩;have v:=(b6.block (w.heap.size+1) aq).trans hX4.o;have Z:ak (Jv (bI lo hi) n w6 q m7 r p OX):=⟨λe=>⟨(H7.o e).1,(H7.o e).2.1,(H7.o e).2.2.1,(H7.o e).2.2.2.Z b6 b6.size⟩⟩;have dD:=setRow_heap _ _ _ (bM q m7 r (p:Int) OX (IK (l-1))) _ _ v;have W:ak (az w (w6.setRow (w.heap.size+1) (bM q m7 r (p:Int) OX (IK (l-1))))):=⟨below_setRow B6.o aq _⟩;have G5:ak (Jv (bI lo hi) n (w6.setRow (w.heap.size+1) (bM q m7 r (p:Int) OX (IK (l-1)))) q m7 r p OX):=⟨λe=>⟨(Z.o e).1,(Z.o e).2.1,(Z.o e).2.2.1,(Z.o e).2.2.2.row ⟨ty,v⟩ cF _⟩⟩;clear b6 H7 g;go_wp2_with (rw[<-jh];refine wpList_store_row rfl 296 (.tmp 12) (.tmp 107) rfl (w.heap.size+1) (bM q m7 r (p:Int) OX (IK (l-1))) rfl rfl ty _ v kB aD ed ?_);refine bodyPost_ret (results_cell_row results262 _ _ (w.heap.size+1) ty _ (0,0) _ aD dD underlying296 rfl aF) rfl ?_;exact⟨q,m7,r,p,OX,IK (l-1),rfl,G5.o,W.o⟩
def Kh:XQ 0:=
 jf 0 aq λ_=>jf 1 aq λ_=>jf 2 aq λ_=>jf 3 aq λ_=>jf 4 aq λ_=>jf 5 aq λ_=>jf 6 aq λ_=>jf 7 aq λ_=>jf 8 aq λ_=>jf 9 aq λh=>absurd h aq
def PSp(w:EE)(Q:List aC->Prop)(n:Nat)(e:IS)(a:EE):Prop:=∃(A:aB) (c:Nat) (l:Int),e=RE (P8 #[Pl A n c,ae aj l])/\n<=c/\lF a Q A n/\az w a
def ZSp(Q:List aC->Prop)(n:Nat):Sat:=⟨λv w=>∃(A:aB) (c:Nat) (l:Int),v=P8 #[Pl A n c,ae aj l]/\n<=c/\lF w Q A n,λv w f ⟨A,c,l,d,e,b⟩ a=>⟨A,c,l,d,e,b.Z a a.size⟩⟩
def ZSp.get{Q:List aC->Prop}(h:(ZSp Q n).p (P8 #[Pl A n c,ae aj l]) w):n<=c/\lF w Q A n:=by
 obtain⟨g,c',f,e,h⟩:=h;simp at e;obtain⟨⟨d,a⟩,b⟩:=e;subst b;subst d;subst a
 exact h
def ab4(f:dv)(lo hi:Int)(E P l:Int)(A:aB)(n c:Nat)(w:EE)(h:cC w w.heap.size f)(J:lF w (bI lo hi) A n)(m:n<=c)(M:n<=50000):
 GK prog 210 #[f.v,ae aj E,ae aj P,Pl A n c,ae aj l] w (PSp w (bI lo hi) n):=by
 have⟨T,q,g,F⟩:=box1 w f.row 102;have⟨R,d⟩:=K' (h.Z g.o g.o.size) (J.Z g.o g.o.size);go_enter func210,ntmps210;go_wp2;rw[<-q];clear q;go_loopg[3,4,12,13,14](n+3)(λgg v3 v4 s _ _ wr=>∃(i:Nat) (A:aB) (c:Nat) (l:Int),n+2-i<gg/\i<=n+1/\v3=Pl A n c/\v4=ae aj l/\s=ae aj (i:Int)/\n<=c/\ak (lF wr (bI lo hi) A n)/\ak (az T wr))
 .exact⟨0,A,c,l,aq,aq,rfl,rfl,rfl,m,d,cJ⟩
 obtain⟨i,A,c,l,W,Q,rfl,rfl,rfl,m,d,k⟩:=hrel;by_cases v:i<n;rotate_left
 .have G:=cI i n
  go_wp2;go_ret2;exact⟨A,c,l,rfl,m,d.o,g.o.trans (k.o.mono g.o.size)⟩
 obtain⟨y,x0,x1,x2,x3,Y,x5,b,x7,U,x9,rfl,V,_,_,_,_,_,_,_,_,_,X⟩:=d.o.jB.bK v;have i4:=aU i n;have⟨c0,c1,K,Z,c4,c5⟩:=(F.o.ar k.o F.o.lt).f6;have O:=sH (Kh f lo hi E (i:Int) l (OH y) n c wr (R.o.Z k.o k.o.size) d.o m M);go_wp2_with fail
 .refine O.o.mono ?_
  rintro e I ⟨p,o,c6,b,B,j,rfl,L,H⟩;have D:=sH L;have C:az wr (I.alloc (RM (bM p o c6 (b:Int) B j) 296)):=H.alloc H.size _;have r:=k.t C;have N:=sH (d.o.Z C C.size);have t:=aw I (RM (bM p o c6 (b:Int) B j) 296);cases B
  .clear D t
   go_wp2;go_roundg(n+2-i)
   .exact⟨i+1,OH y,c,j,aq,aq,rfl,rfl,aV,m,N,r⟩
   omega
  obtain⟨rfl,a,S,z⟩:=D.o rfl;have u:=sH (z.Z t t.size);by_cases hx:i+1<=b
  .have x:(i:Int)+1<=(b:Int):=by omega
   go_wp2_with fail
   all_goals first
    |(go_roundg(o+2-i)<;>first|omega|exact⟨b,p,c6,j,aq,aq,rfl,rfl,rfl,a,u,r⟩)
    |(go_roundg(o+2-i)<;>first|omega|exact⟨i+1,p,c6,j,aq,aq,rfl,rfl,aV,a,u,r⟩)
  .have x:¬(i:Int)+1<=(b:Int):=by omega
   go_wp2;go_roundg(o+2-i)
   .exact⟨i+1,p,c6,j,aq,aq,rfl,rfl,aV,a,u,r⟩
   omega
 .go_roundg(n+2-i)
  case measure=>omega
  case rel=>exact⟨i+1,OH y,c,l,aq,aq,rfl,rfl,aV,m,d,k⟩
def aei(f:dv)(lo hi:Int)(B:aB)(a O:Nat)(A:aB)(n c:Nat)(w:EE)(h:cC w w.heap.size f)(G:lF w (bI lo hi) A n)(p:n<=c)(M:n<=50000)(T:Rq w w.heap.size 2 Sv B a)(K:a<=1000000000):
 GK prog 135 #[f.v,Pl B a O,Pl A n c] w (λe z=>∃(A:aB) (c:Nat),e=RE (Pl A n c)/\n<=c/\lF z (bI lo hi) A n/\az w z):=by
 have⟨W,o,b,C⟩:=box1 w f.row 102;have⟨R,q,I⟩:=MO (h.Z b.o b.o.size) (G.Z b.o b.o.size) (T.Z b.o b.o.size);go_enter func135,ntmps135;go_wp2;rw[<-o];clear o;go_loopg[2,7,8,15](a+1)(λgg v2 v7 L _ wr=>∃(i:Nat) (A:aB) (c:Nat) (l:Int),a-i<gg/\i<=a/\v2=Pl A n c/\v7=ae aj l/\L=ae aj (i:Int)/\n<=c/\ak (lF wr (bI lo hi) A n)/\ak (az W wr))
 .exact⟨0,A,c,65536,aq,aq,rfl,rfl,rfl,p,q,cJ⟩
 obtain⟨i,A,c,l,X,U,rfl,rfl,rfl,p,q,m⟩:=hrel;by_cases r:i<a;rotate_left
 .have D:=cI i a
  go_wp2;go_ret;exact⟨A,c,rfl,p,q.o,b.o.trans (m.o.mono b.o.size)⟩
 obtain⟨ad,x,y,rfl,_,P,H⟩:=(I.o.Z m.o m.o.size).vG r;have i4:=aU i a;have⟨c0,N,t,J,c4,c5⟩:=(C.o.ar m.o C.o.lt).f6;have Q:=sH (R.o.Z m.o m.o.size);go_wp2;have⟨L0,L1,L2,L3,L4,L5,M0,M1⟩:=lc8 c0 N t J c4 c5 P H;refine bm (jD 29 (ZSp (bI lo hi) n)) aF aF ?_;refine mLw ?_;refine lwA (ZSp (bI lo hi) n) (λd=> ?_) (λY s=> ?_)
 .go_simp
  refine aZ (ZSp (bI lo hi) n) ((ab4 f lo hi x y l A n c d.1 (Q.o.Z d.2 d.2.size) (q.o.Z d.2 d.2.size) p M).mono ?_);rintro e w5 ⟨u,c6,v,rfl,g,k,S⟩;exact⟨_,rfl,⟨u,c6,v,rfl,g,k⟩,S⟩
 obtain⟨_,_,u,c6,v,rfl,_⟩:=s;simp[Act.put];refine mLw ?_;intro d V;obtain⟨g,k⟩:=ZSp.get V;have E:=sH k;have F:=m.t d.2;have⟨Z,j⟩:=eX d.1;rw[<-j]at E F
 try dsimp only
 rw[<-j];clear j;go_wp2;go_roundg(a-i)
 .exact⟨i+1,u,c6,v,aq,aq,rfl,rfl,aV,g,E,F⟩
 omega
def PUU(w:EE)(e:IS)(a:EE):Prop:=∃q r:Int,e=RE (P8 #[.int .u64 q,.int .u64 r])/\w=a
def PU(w:EE)(e:IS)(a:EE):Prop:=∃q:Int,e=RE (.int .u64 q)/\w=a
def PZ(w:EE)(e:IS)(a:EE):Prop:=∃q:Int,e=RE (ae aj q)/\w=a
def UO(a b den c:Int)(w:EE)(g:1<=den)(h:den<=16384):GK prog 263 #[.int .u64 a,.int .u64 b,.int .u64 den,.int .u64 c] w (PUU w):=by
 go_enter func263,ntmps263;go_wp2;go_loopg[10,11,12] 65 (λgg v10 e d wr=>∃(i:Nat) (x y:Int),i<gg/\i<=64/\v10=.int .u64 x/\e=.int .u64 y/\d=ae aj ((i:Int)-1)/\wr=w)
 .exact⟨64,0,0,aq,aq,rfl,rfl,rfl,rfl⟩
 obtain⟨i,x,y,j,hi,rfl,rfl,rfl,rfl⟩:=hrel;rcases i with _|i
 .go_wp2
  go_ret2;exact⟨_,_,rfl,rfl⟩
 .have f:(((i+1:Nat):Int)-1)=(i:Int):=by omega
  rw[f];go_wp2_with fail
  all_goals
   go_roundg(i+1)
   .exact⟨i,_,_,aq,aq,rfl,rfl,aV,rfl⟩
   omega
def NV(n:Int)(w:EE):GK prog 264 #[ae aj n] w (PU w):=by
 go_enter func264,ntmps264;go_wp2_with fail
 all_goals
  go_ret;exact⟨_,rfl,rfl⟩
def VR(q:Int):Prop:= -1099511627776<=q/\q<=1099511627776
def PZs(w:EE)(e:IS)(a:EE):Prop:=∃q:Int,e=RE (ae aj q)/\VR q/\w=a
def kv(s:G:=by
 go_enter func265,ntmps265
 go_wp2_with fail
 all_goals
  go_ret;exact⟨_,rfl,HQ.o _ aq aq,rfl⟩):G:=s
def UX(n:Int)(w:EE):GK prog 265 #[ae aj n,ae aj (-1099511627776),ae aj 1099511627776] w (PZs w):=by
 have HQ:ak (∀q,-1099511627776<=q->q<=1099511627776->VR q):=⟨λ_ a b=>⟨a,b⟩⟩;by_cases a:n<=-1099511627776
 .exact kv
 by_cases b:1099511627776<n
 .exact kv
 .exact kv
def yH(n s:Int)(a:Int)(w:EE)(i:1<=a)(j:a<=16384):GK prog 212 #[ae aj n,ae aj s,ae aj a] w (PZs w):=by
 have h:¬a<1:=aq;go_enter func212,ntmps212;go_wp2_with fail;refine(NV _ _).mono ?_;rintro e _ ⟨q,rfl,rfl⟩;go_wp2_with fail;refine(NV _ _).mono ?_;rintro e _ ⟨d,rfl,rfl⟩;go_wp2_with fail;refine(UO _ _ _ _ _ aq aq).mono ?_;rintro e _ ⟨f,g,rfl,rfl⟩;go_wp2_with fail
 all_goals
  refine(UX _ _).mono ?_;rintro e _ ⟨q4,rfl,c,rfl⟩;have b:=sH c;go_wp2;go_ret;exact⟨_,rfl,b.o,rfl⟩
def Kk(r:Int):Wf .i32 (aN r).fM:=by
 have h:iX.all (λx=>(Lit.int .i32 x.2.2.fM).wf)=OX:=zm;cases a:look iX r with
 |none=>rw[mN a];decide
 |some p=>
  obtain⟨lo,hi,b,_,_⟩:=pL _ _ _ a;have:=List.all_eq_true.1 h _ b;rw[ng a];split<;>exact this
def PR(w:EE)(e:IS)(a:EE):Prop:=∃q:Int,e=RE (.int .i32 q)/\Wf .i32 q/\az w a
def ZR:Sat:=⟨λv _=>∃z:Int,v=.int .i32 z/\Wf .i32 z,λ_ _ _ h _=>h⟩
def vo{r:Int}(h:Wf .i32 r): -2147483648<=r/\r<=2147483647:=by
 unfold Wf Lit.wf at h;simp at h;exact h
def aeF(r l:Int)(w:EE)(h:Wf .i32 r):GK prog 260 #[.int .i32 r,ae aj l] w (PR w):=by
 obtain⟨c,d⟩:=vo h;have⟨f,b⟩:=K' (Kk r) h;go_enter func260,ntmps260;go_wp2_with fail;refine(dX r c d w).mono ?_;rintro e g ⟨rfl,a⟩;generalize(aN r).fM=m at*;go_wp2_with fail
 all_goals
  go_ret
  first
   |exact⟨_,rfl,f.o,a⟩
   |exact⟨_,rfl,b.o,a⟩
def WR(B:aB)(a H:Nat)(ts:aC)(F:aB)(m K:Nat)(w:EE)(h:aJ .i32 w B a H ts)(I:Iw w w.heap.size .i64 aK F m)(hn:a<=100000)(hm:m<=100000):
 GK prog 205 #[Pl B a H,Pl F m K] w (Nw w 21 .i32 (Wf .i32) a):=by
 have D:ak _:=⟨h⟩;have O:ak _:=⟨I⟩;have W:ak ((prog.info? 21).map (·.zero)=OH (OH (.int .i32 0))):=⟨aF⟩;go_enter func205,ntmps205;go_wp2_with (refine dx (p:=Wf .i32) Mp W.o cF rfl (.tmp 8) (.tmp 8) rfl a rfl rfl rfl rfl aq w.heap.size cr ?_;intro g w1 o1 C;have J:ak _:=⟨o1⟩;have R:ak _:=⟨C⟩;clear o1 C);go_loopg[6](a+1)(λgg T wr=>∃(i:Nat),a-i<gg/\i<=a/\T=ae aj (i:Int)/\ak (Ow wr w.heap.size 21 .i32 (Wf .i32) (OH ⟨g,0,OJ⟩) a a)/\ak (az w wr))
 .exact⟨0,aq,aq,rfl,J,R⟩
 obtain⟨i,hg,hi,rfl,f,v⟩:=hrel;by_cases b:i<a;rotate_left
 .obtain rfl:i=a:=by omega
  go_wp2;go_ret;exact⟨_,_,rfl,f.o,v.o⟩
 have i4:=aU i a;obtain⟨S,z,rfl,E,G⟩:=(D.o.Iq v.o).iw.get b;obtain⟨z1,L,e1⟩:=f.o.get b;have f1:=f.o.fz i;have HZ:ak _:=⟨E⟩;have x:ak _:=⟨f.o.set i E⟩;have c:ak (az w (wr.setCell ⟨g,i,OJ⟩ (.int .i32 z))):=⟨Below.setCell v.o (p:=⟨g,i,OJ⟩) f.o.lt.1 _⟩;by_cases r:i<m;rotate_left
 .have Y:=cI i m
  go_wp2;go_roundg(a-i)
  case measure=>omega
  case rel=>exact⟨i+1,aq,aq,aV,x,c⟩
 have Y:=aU i m;go_wp2;generalize k:wr.setCell ⟨g,i,OJ⟩ (.int .i32 z)=w2;rw[k]at x c;obtain⟨A,U,M,o,G⟩:=(D.o.Iq c.o).iw.get b;obtain rfl:S=A:=by injection M
 obtain⟨V,y,rfl,_,N⟩:=(O.o.Z c.o c.o.size).get r;have t:ak _:=⟨o⟩;have L0:=au G;have L1:=au N
 refine aQ (jD 37 ZR) 12 rfl aF aF aF aF aF rfl ?_
 repeat(refine cH aD aD aD ?_;intro X u;go_big_quiet_op;go_big_quiet_on)
 refine dA ZR aD aD (λw9 l=> ?_) (λv9 n=> ?_)
 .obtain⟨d,rfl⟩:=l
  go_simp;refine aZ ZR ((aeF U y d.1 t.o).mono ?_);rintro e w5 ⟨q,rfl,s,P⟩;exact⟨_,rfl,⟨q,rfl,s⟩,P⟩
 obtain⟨_,_,q,rfl,s⟩:=n;simp[Act.put]
 repeat(refine cH aD aD aD ?_;intro X u;go_big_quiet_op;go_big_quiet_on)
 intro d hE;have j:ak _:=⟨x.o.ar d.2⟩;have B4:ak (az w d.1):=⟨c.o.trans (d.2.mono c.o.size)⟩;obtain⟨z5,_,e5⟩:=j.o.get b;have f5:=j.o.fz i;have Z:ak _:=⟨j.o.set i s⟩;have Q:ak (az w (d.1.setCell ⟨g,i,OJ⟩ (.int .i32 q))):=⟨Below.setCell B4.o (p:=⟨g,i,OJ⟩) j.o.lt.1 _⟩;go_simp;go_wp2;go_roundg(a-i)
 case measure=>omega
 case rel=>exact⟨i+1,aq,aq,aV,Z,Q⟩
def Oz(s:ByteArray)(w:EE):GK prog 201 #[.string s] w (PB w):=by
 go_enter func201,ntmps201;go_wp2_with fail
 all_goals
  go_ret;exact⟨_,rfl,Below.refl _ _⟩
def yo(s:ByteArray)(w:EE):GK prog 258 #[.string s] w (PZ w):=by
 go_enter func258,ntmps258;go_wp2_with fail
 all_goals
  go_ret;exact⟨_,rfl,rfl⟩
def PBe(w:EE)(e:IS)(a:EE):Prop:=∃z:Bool,e=RE (PF z)/\w=a
def ZC(n:Int)(k:Nat)(w:EE)(b:k<=1000000):GK prog 202 #[ae aj n,ae aj (k:Int)] w (PBe w):=by
 go_enter func202,ntmps202;by_cases h:k<16
 .have a:(k:Int)<16:=by omega
  go_wp2;go_ret;exact⟨_,rfl,rfl⟩
 .have a:¬(k:Int)<16:=by omega
  go_wp2;go_ret;exact⟨_,rfl,rfl⟩
def aaA(a i b e l c j d k g:Int)(w:EE):GK prog 213 #[Q4 #[ae aj a,ae aj i,ae aj b,ae aj e,ae aj l,ae aj c,ae aj j,ae aj d,ae aj k,ae aj g]] w (PB w):=by
 go_enter func213,ntmps213;by_cases h:a=0
 .have f:(a==0)=OX:=by simp[h]
  go_wp2;go_ret;exact⟨_,rfl,aw _ _⟩
 .have f:(a==0)=OZ:=by simp[h]
  go_wp2;go_ret;exact⟨_,rfl,aw _ _⟩
def Vd(A:aB)(n c:Nat)(w:EE)(h:Iw w w.heap.size .i64 aK A n)(u:n<=100000):GK prog 206 #[Pl A n c] w (Nw w 3 .i64 aK n):=by
 have R:=sH h;go_enter func206,ntmps206;go_wp2;go_loopg[3,4,5](n+1)(λgg v3 v4 _ wr=>∃(i:Nat) (d:aB) (e:Nat),n-i<gg/\i<=n/\v3=Pl d i e/\v4=ae aj (i:Int)/\ak (Ow wr w.heap.size 3 .i64 aK d i e)/\ak (az w wr))
 .exact⟨0,OJ,0,aq,aq,rfl,rfl,⟨Ow.nil _ _ _ _ _⟩,cJ⟩
 obtain⟨i,d,e,s,hi,rfl,rfl,j,a⟩:=hrel;by_cases b:i<n;rotate_left
 .obtain rfl:i=n:=by omega
  go_wp2;go_ret;exact⟨_,_,rfl,j.o,a.o⟩
 have t:=aU i n;obtain⟨r,z,rfl,_,q⟩:=(R.o.Z a.o a.o.size).get b;have m:=a.o.size;go_wp2_with (at_builtin;refine bW l5 rfl (.tmp 24) (.tmp 26) rfl rfl (j.o.alloc _) rfl (bk _ _ _) trivial aq br ?_;intro l c8 p g f;have k:=sH g;have o:=sH ((a.o.alloc m _).trans f);clear g f)
 all_goals
  go_roundg(n-i)
  .exact⟨i+1,l,c8,aq,aq,rfl,aV,k,o⟩
  omega
def TSt:aS prog 209 271 2 16:=bD underlying209 (z:=Q4 #[ae aj 0,ae aj 0]) aF rfl aq aq
abbrev Dk(w:EE)(B:Nat)(A:aB)(n c:Nat):Prop:=Oq w B 271 2 Sv A n c
def Off(lo hi:Nat)(A:aB):Prop:=∀g,A=OH ⟨g,0,OJ⟩->g<lo∨hi<=g
def Off.apart{lo hi:Nat}{A:aB}(h:Off lo hi A)(f:lo<=g)(i:g<hi):bR A (OH ⟨g,0,OJ⟩):=λb e a=>by
 have d:=h b e;injection a with a
 injection a with a
 omega
def Off.grow{lo hi N:Nat}{A b:aB}(h:Off lo hi A)(f:hi<=N)(d:∀g,b=OH ⟨g,0,OJ⟩->A=OH ⟨g,0,OJ⟩∨N<=g):Off lo hi b:=λg e=>by
 rcases d g e with a|a
 .exact h g a
 .omega
def Oq.kept{w w':EE}{B n c:Nat}{A:aB}(h:Oq w B e k Q A n c)(l:w.grownBy w' (Value.slice C m d).ownBlock)(b:bR A C)(j:C=OJ∨∃g,C=OH ⟨g,0,OJ⟩):Oq w' B e k Q A n c:=by
 obtain⟨gs,f,i,a⟩:=h;exact⟨gs,f,i,aA.kept a l b j⟩
def Oq.lt2{w:EE}{B n c:Nat}{A:aB}(h:Oq w B e k Q A n c)(e:A=OH ⟨g,0,OJ⟩):B<=g/\g<w.heap.size:=by subst e;exact h.lt
abbrev dq(A:aB)(n c:Nat)(A2:aB)(n2 c2:Nat):Array EN:=#[Pl A n c,Pl A2 n2 c2]
structure Pw(B N:Nat)(fr tr:Array EN)(A:aB)(n c:Nat)(A2:aB)(n2 c2:Nat)(w:EE):Prop where
 bf:Bx w N fr
 bp:Bx w (N+1) (dq A n c A2 n2 c2)
 bt:Bx w (N+1+1) tr
 bz:Bx w (N+1+1+1) (dq OJ 0 0 OJ 0 0)
 o1:Dk w B A n c
 o2:Dk w B A2 n2 c2
 ap:bR A A2
 f1:Off N (N+4) A
 f2:Off N (N+4) A2
section
variable{B N n c n2 c2:Nat}{fr tr:Array EN}{A A2:aB}{w w':EE}
def Pw.ar(h:Pw B N fr tr A n c A2 n2 c2 w)(a:az w w'):Pw B N fr tr A n c A2 n2 c2 w':=
 ⟨h.bf.ar a h.bf.lt,h.bp.ar a h.bp.lt,h.bt.ar a h.bt.lt,h.bz.ar a h.bz.lt,h.o1.ar a,h.o2.ar a,h.ap,h.f1,h.f2⟩
def Pw.QO(h:Pw B N fr tr A n c A2 n2 c2 w)(l:B<=N){i:aB}{c':Nat}(o:Dk w' B i (n+1) c')(b:w.grownBy w' (Value.slice A n c).ownBlock)(k:∀g,i=OH ⟨g,0,OJ⟩->A=OH ⟨g,0,OJ⟩∨w.heap.size<=g):
 Pw B N fr tr i (n+1) c' A2 n2 c2 (w'.setCell ⟨N+1,0,OJ⟩ (Pl i (n+1) c')):=by
 have m:=h.bz.lt;have j:=h.o1.head;have d:=h.f1.grow aq k;have a:∀g,g≠N+1->(w'.setCell ⟨N+1,0,OJ⟩ (Pl i (n+1) c')).heap[g]? =w'.heap[g]? :=λg b=>Below.heap_setCell _ _ _ _ b
 refine⟨?_,(h.bp.kept b (h.f1.apart aq aq) j).jq 0 _, ?_, ?_,Oq.mj o (d.apart aq aq) 0 _,Oq.mj (h.o2.kept b h.ap.symm j) (h.f2.apart aq aq) 0 _,h.ap.grow (λg e=>(h.o2.lt2 e).2) k,d,h.f2⟩
 .obtain⟨t,f⟩:=h.bf.kept b (h.f1.apart aq aq) j
  exact⟨t,(a _ aq).trans f⟩
 .obtain⟨t,f⟩:=h.bt.kept b (h.f1.apart aq aq) j
  exact⟨t,(a _ aq).trans f⟩
 .obtain⟨t,f⟩:=h.bz.kept b (h.f1.apart aq aq) j
  exact⟨t,(a _ aq).trans f⟩
def Pw.MU(h:Pw B N fr tr A n c A2 n2 c2 w)(l:B<=N){i:aB}{c':Nat}(o:Dk w' B i (n2+1) c')(b:w.grownBy w' (Value.slice A2 n2 c2).ownBlock)(k:∀g,i=OH ⟨g,0,OJ⟩->A2=OH ⟨g,0,OJ⟩∨w.heap.size<=g):
 Pw B N fr tr A n c i (n2+1) c' (w'.setCell ⟨N+1,1,OJ⟩ (Pl i (n2+1) c')):=by
 have m:=h.bz.lt;have j:=h.o2.head;have d:=h.f2.grow aq k;have a:∀g,g≠N+1->(w'.setCell ⟨N+1,1,OJ⟩ (Pl i (n2+1) c')).heap[g]? =w'.heap[g]? :=λg b=>Below.heap_setCell _ _ _ _ b
 refine⟨?_,(h.bp.kept b (h.f2.apart aq aq) j).jq 1 _, ?_, ?_,Oq.mj (h.o1.kept b h.ap j) (h.f1.apart aq aq) 1 _,Oq.mj o (d.apart aq aq) 1 _,(h.ap.symm.grow (λg e=>(h.o1.lt2 e).2) k).symm,h.f1,d⟩
 .obtain⟨t,f⟩:=h.bf.kept b (h.f2.apart aq aq) j
  exact⟨t,(a _ aq).trans f⟩
 .obtain⟨t,f⟩:=h.bt.kept b (h.f2.apart aq aq) j
  exact⟨t,(a _ aq).trans f⟩
 .obtain⟨t,f⟩:=h.bz.kept b (h.f2.apart aq aq) j
  exact⟨t,(a _ aq).trans f⟩
end
def PPn(w:EE)(B N:Nat)(e:IS)(w':EE):Prop:=∃(A:aB) (n c:Nat) (A2:aB) (n2 c2:Nat),e=RE (Q4 (dq A n c A2 n2 c2))/\n<=N/\n2<=N/\Dk w' B A n c/\Dk w' B A2 n2 c2/\bR A A2/\EI B w w'
abbrev pA(tag:ByteArray)(d:Int)(a:aB)(b e:Nat):Array EN:=#[.string tag,ae aj d,Pl a b e]
def yO:(prog.info? 211).map (·.size)=OH 2:=by kernel_rfl
def aep{w:EE}{a c2 b c4:Array EN}{d g f:IQ}(h:W=(((w.alloc (RM a d)).alloc (RM c2 e)).alloc (RM b g)).alloc (RM c4 f)):az w W/\Bx W w.heap.size a/\Bx W (w.heap.size+1) c2/\Bx W (w.heap.size+1+1) b/\Bx W (w.heap.size+1+1+1) c4/\W.heap.size=w.heap.size+4:=DM (o1:=RM a d) h
def fp(w:EE)(a b:Obj):az w ((w.alloc a).alloc b):=(aw _ _).alloc aT _
def NQ(f:dv)(A:aB)(n c:Nat)(A2:aB)(n2 c2:Nat)(tag:ByteArray)(O:Int)(y:aB)(b x:Nat)(B N:Nat)(w:EE)(M:B<=w.heap.size)(h:cC w B f)(hL:cU w B eD y b x)(vC:b<=64)(o1:Dk w B A n c)(o2:Dk w B A2 n2 c2)(ap:bR A A2)(hN:N<=1000000)(hn:n<=N)(rO:n2<=N):
 GK prog 203 #[f.v,Q4 (dq A n c A2 n2 c2),Q4 (pA tag O y b x)] w (PPn w B (N+64)):=by
 have⟨P,J⟩:=eX ((((w.alloc (RM f.row 102)).alloc (RM (dq A n c A2 n2 c2) 211)).alloc (RM (pA tag O y b x) 256)).alloc (RM (dq OJ 0 0 OJ 0 0) 211));obtain⟨z,xf,x2,x3,x4,iW⟩:=aep J;have a:ak (Pw B w.heap.size f.row (pA tag O y b x) A n c A2 n2 c2 P):=⟨⟨xf,x2,x3,x4,o1.ar z,o2.ar z,ap,λg e=> .inl (o1.lt2 e).2,λg e=> .inl (o2.lt2 e).2⟩⟩;have⟨R,RL,B1⟩:=MO (h.Z (z.mono M) cr) (hL.Z (z.mono M) cr) (z.mono M);have hfl:=h.rL.bd;go_enter func203,ntmps203;go_wp2;rw[<-J];go_loopg[7,8,9,10](b+1)(λgg v7 _ _ _ wr=>∃(i:Nat) (A:aB) (n c:Nat) (A2:aB) (n2 c2:Nat),b-i<gg/\i<=b/\v7=ae aj (i:Int)/\n<=N+i/\n2<=N+i/\ak (Pw B w.heap.size f.row (pA tag O y b x) A n c A2 n2 c2 wr)/\ak (EI B P wr))
 .exact⟨0,A,n,c,A2,n2,c2,aq,aq,rfl,aq,aq,a,cJ⟩
 obtain⟨i,A,n,c,A2,n2,c2,hg,hi,rfl,hn,rO,a,l⟩:=hrel;have⟨c0,c1,aW,m,c4,c5⟩:=a.o.bf.f6;have t0:wr.cell? ⟨w.heap.size+1+1,0,OJ⟩=OH (.string tag):=a.o.bt.cell 0;have t2:wr.cell? ⟨w.heap.size+1+1,2,OJ⟩=OH (Pl y b x):=a.o.bt.cell 2;have s:wr.cell? ⟨w.heap.size+1,0,OJ⟩=OH (Pl A n c):=a.o.bp.cell 0;have t:wr.cell? ⟨w.heap.size+1,1,OJ⟩=OH (Pl A2 n2 c2):=a.o.bp.cell 1;have hsW:=a.o.bz.lt;by_cases S:i<b;rotate_left
 .obtain⟨V,I⟩:=a.o.bz.heap
  have Y:(wr.setRow (w.heap.size+1+1+1) (dq A n c A2 n2 c2)).heap[w.heap.size+1+1+1]? =OH (RM (dq A n c A2 n2 c2) V (0,0)):=setRow_heap _ _ _ _ _ _ I;have B5:ak (EI B w (wr.setRow (w.heap.size+1+1+1) (dq A n c A2 n2 c2))):=⟨below_setRow (B1.o.trans l.o) aq _⟩;have O1:ak (Dk (wr.setRow (w.heap.size+1+1+1) (dq A n c A2 n2 c2)) B A n c):=⟨a.o.o1.iA (a.o.f1.apart aq aq) (dq A n c A2 n2 c2)⟩;have O2:ak (Dk (wr.setRow (w.heap.size+1+1+1) (dq A n c A2 n2 c2)) B A2 n2 c2):=⟨a.o.o2.iA (a.o.f2.apart aq aq) (dq A n c A2 n2 c2)⟩;go_wp2_with (refine wpList_store_row rfl 211 (.tmp 6) (.tmp 67) rfl (w.heap.size+1+1+1) (dq A n c A2 n2 c2) rfl rfl V _ I yO aD ed ?_);refine bodyPost_ret (results_cell_row results203 _ _ (w.heap.size+1+1+1) V _ (0,0) _ aD Y underlying211 rfl aF) rfl ?_;exact⟨A,n,c,A2,n2,c2,rfl,aq,aq,O1.o,O2.o,a.o.ap,B5.o⟩
 have i4:=aU i b;obtain⟨qS,Q,rfl,e0⟩:=il (RL.o.Z l.o cr) S;by_cases h1:Q<0
 .go_wp2
  go_roundg(b-i)
  .exact⟨i+1,A,n,c,A2,n2,c2,aq,aq,aV,aq,aq,a,l⟩
  omega
 obtain⟨j,rfl⟩:∃j:Nat,Q=(j:Int):=⟨Q.toNat,aq⟩;by_cases h2:j<f.ln;rotate_left
 .have W:(f.ln:Int)<=(j:Int):=by omega
  go_wp2;go_roundg(b-i)
  .exact⟨i+1,A,n,c,A2,n2,c2,aq,aq,aV,aq,aq,a,l⟩
  omega
 have W:¬(f.ln:Int)<=(j:Int):=aq;have ac3:(j:Int)<(f.ln:Int):=aq;obtain⟨ad,k,eL,hk,r,_⟩:=ru (R.o.Z l.o cr).rL h2;rw[eL]at m;by_cases Z:1<=k.kind/\k.kind<=5
 .obtain⟨Z,k2⟩:=Z
  go_wp2_with fail;refine(yo tag wr).mono ?_;rintro e _ ⟨q,rfl,rfl⟩;have m:=λo=>aH m o;have r:=λo=>aH r o;have s:=λo=>aH s o;have t:=λo=>aH t o
  have d:=sH (a.o.ar (fp wr (RM #[ae aj (j:Int),ae aj q] 271) (RM #[ae aj (j:Int),ae aj q] 271)));have K:=sH (l.o.trans ((fp wr (RM #[ae aj (j:Int),ae aj q] 271) (RM #[ae aj (j:Int),ae aj q] 271)).mono (show B<=wr.heap.size by omega)));have D:=sH (a.o.ar (aw wr (RM #[ae aj (j:Int),ae aj q] 271)));have G:=sH (l.o.trans ((aw wr (RM #[ae aj (j:Int),ae aj q] 271)).mono (show B<=wr.heap.size by omega)));go_wp2_with (at_builtin;refine nW TSt rfl (.tmp 50) (.tmp 52) rfl rfl d.o.o1 rfl [(j:Int),q] rfl (cP _ _ _ _ _ aT rfl) trivial aq br ?_;intro L c8 C H E u F;have v:=d.o.bp.kept u (d.o.f1.apart aq aq) d.o.o1.head;have q0:C.cell? ⟨w.heap.size+1,0,OJ⟩=OH (Pl A n c):=v.cell 0;have g0:=v.fz 0;have T:=sH (d.o.QO M H u F);have U:ak (EI B P (C.setCell ⟨w.heap.size+1,0,OJ⟩ (Pl L (n+1) c8))):=⟨Below.setCell (K.o.trans E) (p:=⟨w.heap.size+1,0,OJ⟩) (by show B<=w.heap.size+1;omega) _⟩;clear H E u F v);go_roundg(b-i)
  .exact⟨i+1,L,n+1,c8,A2,n2,c2,aq,aq,aV,aq,aq,T,U⟩
  omega
 .by_cases k6:6<=k.kind/\k.kind<=12
  .obtain⟨Z,k2⟩:=k6
   have k3:¬k.kind<=5:=aq;have k4:1<=k.kind:=aq;go_wp2_with fail;refine(yo tag wr).mono ?_;rintro e _ ⟨q,rfl,rfl⟩;have m:=λo=>aH m o;have r:=λo=>aH r o;have s:=λo=>aH s o;have t:=λo=>aH t o
   have d:=sH (a.o.ar (fp wr (RM #[ae aj (j:Int),ae aj q] 271) (RM #[ae aj (j:Int),ae aj q] 271)));have K:=sH (l.o.trans ((fp wr (RM #[ae aj (j:Int),ae aj q] 271) (RM #[ae aj (j:Int),ae aj q] 271)).mono (show B<=wr.heap.size by omega)));have D:=sH (a.o.ar (aw wr (RM #[ae aj (j:Int),ae aj q] 271)));have G:=sH (l.o.trans ((aw wr (RM #[ae aj (j:Int),ae aj q] 271)).mono (show B<=wr.heap.size by omega)));go_wp2_with (at_builtin;refine nW TSt rfl (.tmp 62) (.tmp 64) rfl rfl d.o.o2 rfl [(j:Int),q] rfl (cP _ _ _ _ _ aT rfl) trivial aq br ?_;intro L c8 C H E u F;have v:=d.o.bp.kept u (d.o.f2.apart aq aq) d.o.o2.head;have q0:C.cell? ⟨w.heap.size+1,1,OJ⟩=OH (Pl A2 n2 c2):=v.cell 1;have g0:=v.fz 1;have T:=sH (d.o.MU M H u F);have U:ak (EI B P (C.setCell ⟨w.heap.size+1,1,OJ⟩ (Pl L (n2+1) c8))):=⟨Below.setCell (K.o.trans E) (p:=⟨w.heap.size+1,1,OJ⟩) (by show B<=w.heap.size+1;omega) _⟩;clear H E u F v);go_roundg(b-i)
   .exact⟨i+1,A,n,c,L,n2+1,c8,aq,aq,aV,aq,aq,T,U⟩
   omega
  .have X:k.kind<1∨12<k.kind:=by omega
   rcases X with X|X
   .have k3:¬1<=k.kind:=by omega
    have k4:¬6<=k.kind:=aq;go_wp2_with fail;refine(yo tag wr).mono ?_;rintro e _ ⟨q,rfl,rfl⟩;have m:=λo=>aH m o;have r:=λo=>aH r o;have s:=λo=>aH s o;have t:=λo=>aH t o
    have d:=sH (a.o.ar (fp wr (RM #[ae aj (j:Int),ae aj q] 271) (RM #[ae aj (j:Int),ae aj q] 271)));have K:=sH (l.o.trans ((fp wr (RM #[ae aj (j:Int),ae aj q] 271) (RM #[ae aj (j:Int),ae aj q] 271)).mono (show B<=wr.heap.size by omega)));have D:=sH (a.o.ar (aw wr (RM #[ae aj (j:Int),ae aj q] 271)));have G:=sH (l.o.trans ((aw wr (RM #[ae aj (j:Int),ae aj q] 271)).mono (show B<=wr.heap.size by omega)));go_wp2;go_roundg(b-i)
    .exact⟨i+1,A,n,c,A2,n2,c2,aq,aq,aV,aq,aq,D,G⟩
    omega
   .have k3:1<=k.kind:=by omega
    have k4:6<=k.kind:=aq;have k5:¬k.kind<=5:=aq;have k6:¬k.kind<=12:=aq;go_wp2_with fail;refine(yo tag wr).mono ?_;rintro e _ ⟨q,rfl,rfl⟩;have m:=λo=>aH m o;have r:=λo=>aH r o;have s:=λo=>aH s o;have t:=λo=>aH t o
    have d:=sH (a.o.ar (fp wr (RM #[ae aj (j:Int),ae aj q] 271) (RM #[ae aj (j:Int),ae aj q] 271)));have K:=sH (l.o.trans ((fp wr (RM #[ae aj (j:Int),ae aj q] 271) (RM #[ae aj (j:Int),ae aj q] 271)).mono (show B<=wr.heap.size by omega)));have D:=sH (a.o.ar (aw wr (RM #[ae aj (j:Int),ae aj q] 271)));have G:=sH (l.o.trans ((aw wr (RM #[ae aj (j:Int),ae aj q] 271)).mono (show B<=wr.heap.size by omega)));go_wp2;go_roundg(b-i)
    .exact⟨i+1,A,n,c,A2,n2,c2,aq,aq,aV,aq,aq,D,G⟩
    omega
def sY(h:cU w B Ic A n c)(l:j<n):∃(a:Addr) (z:ByteArray) (i:Int) (b:aB) (f d:Nat),A=OH a/\cU w B eD b f d/\w.cell? (a.add (j*3))=OH (.string z)/\w.cell? (bX (a.add (j*3)) 1)=OH (ae aj i)/\w.cell? (bX (a.add (j*3)) 2)=OH (Pl b f d):=by
 obtain⟨a,e,_,o⟩:=h.2.2.2 aq;obtain⟨s,q,g⟩:=o j l;obtain⟨u0,r,rfl,⟨z,rfl,_⟩,u1,m,rfl,⟨i,rfl,_⟩,b,f,d,rfl,p⟩:=q;have k:=g 0 _ rfl;rw[fA]at k;exact⟨a,z,i,b,f,d,e,p,k,g 1 _ rfl,g 2 _ rfl⟩
def qq{c e d:Array EN}{n l j:IQ}(h:W=((w.alloc (RM c n)).alloc (RM e l)).alloc (RM d j)):az w W/\Bx W w.heap.size c/\Bx W (w.heap.size+1) e/\Bx W (w.heap.size+1+1) d/\W.heap.size=w.heap.size+3:=by
 have⟨b,e1⟩:=eX (w.alloc (RM c n));have⟨a,f⟩:=eX (b.alloc (RM e l));have h:W=a.alloc (RM d j):=by rw[h,f,e1]
 have i:b.heap.size=w.heap.size+1:=by rw[e1];simp
 have k:a.heap.size=w.heap.size+1+1:=by rw[f];simp[i]
 have r:az w b:=Ts;have p:az b a:=by rw[f];exact aw _ _
 have g:az a W:=LO;have o:Bx b w.heap.size c:=by rw[e1];exact Bx.new _ _ _
 have m:Bx a (w.heap.size+1) e:=by rw[f];exact Bx.iR _ _ _ i
 have q:Bx W (w.heap.size+1+1) d:=by rw[h];exact Bx.iR _ _ _ k
 exact⟨r.trans ((p.mono aq).trans (g.mono aq)),(o.ar p o.lt).ar g aq,m.ar g m.lt,q,by rw[h];simp[k]⟩
structure Pu(N:Nat)(fr:Array EN)(A:aB)(n c:Nat)(A2:aB)(n2 c2:Nat)(w:EE):Prop where
 bf:Bx w N fr
 bz:Bx w (N+1) (dq OJ 0 0 OJ 0 0)
 bp:Bx w (N+1+1) (dq A n c A2 n2 c2)
 o1:Dk w (N+3) A n c
 o2:Dk w (N+3) A2 n2 c2
 ap:bR A A2
def Pu.ar{b:Nat}{g:Array EN}{e:aB}(h:Pu N g A n c e d b w)(a:az w f):Pu N g A n c e d b f:=
 ⟨h.bf.ar a h.bf.lt,h.bz.ar a h.bz.lt,h.bp.ar a h.bp.lt,h.o1.ar a,h.o2.ar a,h.ap⟩
def Pu.put{s r:Nat}{m:Array EN}{p:aB}(h:Pu N m A n c p s r w)(i:EI (N+3) w f){B k d a g:Nat}{C e:aB}(l:N+3<=B)(o1:Dk f B C k d)(b:Dk f B e a g)(o:bR C e):Pu N m C k d e a g (f.setRow (N+1+1) (dq C k d e a g)):=by
 have q:=h.bp.ar i aq;have o1:=o1.cS l;have b:=b.cS l;refine⟨?_, ?_,q.row,o1.iA (o1.gU aq) _,b.iA (b.gU aq) _,o⟩
 .obtain⟨t,j⟩:=h.bf.ar i aq
  exact⟨t,(setRow_other _ _ _ _ aq).trans j⟩
 .obtain⟨t,j⟩:=h.bz.ar i aq
  exact⟨t,(setRow_other _ _ _ _ aq).trans j⟩
def afx(s:G:=by
 go_wp2_with fail
 refine(ZC ft k w4 aq).mono ?_;rintro e _ ⟨b,rfl,rfl⟩;cases b
 .go_wp2
  go_roundg(f.fn-i)
  case measure=>omega
  case rel=>exact⟨i+1,k+1,A,n,c,A2,n2,c2,aq,aq,aq,aV,aV,aq,aq,P4,B4⟩
 .go_wp2_with fail
  refine(NQ f A n c A2 n2 c2 tag sc LA ln lc (w.heap.size+3) (64*i) w4 aq R4.o H4.o vC P4.o.o1 P4.o.o2 P4.o.ap aq hn rO).mono ?_;rintro e w5 ⟨A6,n6,c6,A7,n7,c7,rfl,hn6,hn7,g1,g2,g3,g4⟩;obtain⟨ty,my⟩:=(P4.o.bp.ar g4 aq).heap;have P5:ak _:=⟨P4.o.put g4 cr g1 g2 g3⟩;have B5:ak (EI w.heap.size W1 (w5.setRow (w.heap.size+1+1) (dq A6 n6 c6 A7 n7 c7))):=⟨below_setRow (B4.o.trans (g4.mono aq)) aq _⟩;clear g1 g2 g3 g4 c0 c1 aW c3 c4 c5 p0 p1 t0 t1 t2;go_wp2_with (refine wpList_store_row rfl 211 (.tmp 7) (.tmp 49) rfl (w.heap.size+1+1) (dq A6 n6 c6 A7 n7 c7) rfl rfl ty _ my yO aD ed ?_);go_roundg(f.fn-i)
  case measure=>omega
  case rel=>exact⟨i+1,k+1,A6,n6,c6,A7,n7,c7,aq,aq,aq,aV,aV,aq,aq,P5,B5⟩):G:=s
def afO(s:G:=by
 go_wp2_with fail
 refine(NQ f A n c A2 n2 c2 tag sc LA ln lc (w.heap.size+3) (64*i) w4 aq R4.o H4.o vC P4.o.o1 P4.o.o2 P4.o.ap aq hn rO).mono ?_;rintro e w5 ⟨A6,n6,c6,A7,n7,c7,rfl,hn6,hn7,g1,g2,g3,g4⟩;obtain⟨ty,my⟩:=(P4.o.bp.ar g4 aq).heap;have P5:ak _:=⟨P4.o.put g4 cr g1 g2 g3⟩;have B5:ak (EI w.heap.size W1 (w5.setRow (w.heap.size+1+1) (dq A6 n6 c6 A7 n7 c7))):=⟨below_setRow (B4.o.trans (g4.mono aq)) aq _⟩;clear g1 g2 g3 g4 c0 c1 aW c3 c4 c5 p0 p1 t0 t1 t2;go_wp2_with (refine wpList_store_row rfl 211 (.tmp 7) (.tmp 49) rfl (w.heap.size+1+1) (dq A6 n6 c6 A7 n7 c7) rfl rfl ty _ my yO aD ed ?_);go_roundg(f.fn-i)
 case measure=>omega
 case rel=>exact⟨i+1,k,A6,n6,c6,A7,n7,c7,aq,aq,aq,aV,aV,aq,aq,P5,B5⟩):G:=s
def afc(s:G:=by
 go_wp2
 go_roundg(f.fn-i)
 case measure=>omega
 case rel=>exact⟨i+1,k+1,A,n,c,A2,n2,c2,aq,aq,aq,aV,aV,aq,aq,P4,B4⟩):G:=s
def agC(f:dv)(t:Int)(ft:Int)(w:EE)(h:cC w w.heap.size f)(B:T8 w w.heap.size f):
 GK prog 130 #[f.v,ae aj t,ae aj ft] w (PPn w w.heap.size 5000):=by
 have⟨W1,g⟩:∃W1,W1=((w.alloc (RM f.row 102)).alloc (RM (dq OJ 0 0 OJ 0 0) 211)).alloc (RM (dq OJ 0 0 OJ 0 0) 211):=⟨_,rfl⟩;obtain⟨p,I,H,F,K⟩:=qq g;have d:ak (Pu w.heap.size f.row OJ 0 0 OJ 0 0 W1):=⟨⟨I,H,F,Oq.nil _ _ _ _ _,Oq.nil _ _ _ _ _,jV _⟩⟩;have R:ak (cC W1 w.heap.size f):=⟨h.Z p cr⟩;have X:ak (T8 W1 w.heap.size f):=⟨B.Z p cr⟩;have V:ak (az w W1):=⟨p⟩;have N:=B.1;clear h B p I H F;go_enter func130,ntmps130;go_wp2;rw[<-g];clear g;go_loopg[8,9,10,11](f.fn+1)(λgg P L _ _ wr=>∃(i k:Nat) (A:aB) (n c:Nat) (A2:aB) (n2 c2:Nat),f.fn-i<gg/\i<=f.fn/\k<=i/\P=ae aj (k:Int)/\L=ae aj (i:Int)/\n<=64*i/\n2<=64*i/\ak (Pu w.heap.size f.row A n c A2 n2 c2 wr)/\ak (EI w.heap.size W1 wr))
 .exact⟨0,0,OJ,0,0,OJ,0,0,aq,aq,aq,rfl,rfl,aq,aq,d,cJ⟩
 clear d;obtain⟨i,k,A,n,c,A2,n2,c2,hg,hi,hk,rfl,rfl,hn,rO,d,l⟩:=hrel;have S:=d.o.bp.lt;by_cases m:i<f.fn;rotate_left
 .have⟨c0,c1,aW,c3,c4,c5⟩:=d.o.bf.f6
  have p0:wr.cell? ⟨w.heap.size+1+1,0,OJ⟩=OH (Pl A n c):=d.o.bp.cell 0;have p1:wr.cell? ⟨w.heap.size+1+1,1,OJ⟩=OH (Pl A2 n2 c2):=d.o.bp.cell 1;obtain⟨ty,my⟩:=d.o.bz.heap;have z:(wr.setRow (w.heap.size+1) (dq A n c A2 n2 c2)).heap[w.heap.size+1]? =OH (RM (dq A n c A2 n2 c2) ty (0,0)):=setRow_heap _ _ _ _ _ _ my;have B5:ak (az w (wr.setRow (w.heap.size+1) (dq A n c A2 n2 c2))):=⟨below_setRow (V.o.trans l.o) aq _⟩;have O:ak (Dk (wr.setRow (w.heap.size+1) (dq A n c A2 n2 c2)) w.heap.size A n c):=⟨(d.o.o1.iA (d.o.o1.gU aq) _).cS aq⟩;have Y:ak (Dk (wr.setRow (w.heap.size+1) (dq A n c A2 n2 c2)) w.heap.size A2 n2 c2):=⟨(d.o.o2.iA (d.o.o2.gU aq) _).cS aq⟩;go_wp2_with (refine wpList_store_row rfl 211 (.tmp 6) (.tmp 50) rfl (w.heap.size+1) (dq A n c A2 n2 c2) rfl rfl ty _ my yO aD ed ?_);refine bodyPost_ret (results_cell_row results130 _ _ (w.heap.size+1) ty _ (0,0) _ aD z underlying211 rfl aF) rfl ?_;exact⟨A,n,c,A2,n2,c2,rfl,aq,aq,O.o,Y.o,d.o.ap,B5.o⟩
 have i4:(i:Int)<(f.fn:Int):=aq;have⟨c0,c1,aW,c3,c4,c5⟩:=d.o.bf.f6;obtain⟨Z,tag,sc,LA,ln,lc,y,E,T,M,D⟩:=sY (R.o.Z l.o cr).rF m;have vC:ln<=64:=by
  obtain⟨a,A',n',c',g1,_,g3,g4⟩:=(X.o.Z l.o cr).2 i m;rw[y]at g1;obtain rfl:=Option.some.inj g1;rw[D]at g3;injection g3 with g3
  injection g3 with _ g3 _
  omega
 rw[y]at c4;have G:ak _:=⟨E⟩;clear E y;have⟨j,cg⟩:∃j,j=wr.alloc (RM (pA tag sc LA ln lc) 256):=⟨_,rfl⟩;have s:az wr j:=jT;have r:ak (Bx j wr.heap.size (pA tag sc LA ln lc)):=⟨lY⟩;have x:ak _:=⟨d.o.ar s⟩;have W:ak (EI w.heap.size W1 j):=⟨l.o.trans (s.mono aq)⟩;have t0:j.cell? ⟨wr.heap.size,0,OJ⟩=OH (.string tag):=r.o.cell 0;go_wp2_with (refine(Oz tag _).mono ?_);rintro e w4 ⟨b,rfl,o⟩;rw[<-cg]at o;have P4:ak _:=⟨x.o.ar o⟩;have v:EI w.heap.size wr w4:=(s.mono aq).trans (o.mono (by have:=x.o.bp.lt;omega));have B4:ak (EI w.heap.size W1 w4):=⟨l.o.trans v⟩;have C:ak _:=⟨r.o.ar o r.o.lt⟩;have H4:ak _:=⟨G.o.Z v (show w.heap.size<=w.heap.size+3 by omega)⟩;have R4:ak _:=⟨R.o.Z B4.o (show w.heap.size<=w.heap.size+3 by omega)⟩;have Q:=P4.o.bp.lt;clear v o x W r G s cg T M D c0 c1 aW c3 c4 c5 t0 d l;have⟨c0,c1,aW,c3,c4,c5⟩:=P4.o.bf.f6;have p0:w4.cell? ⟨w.heap.size+1+1,0,OJ⟩=OH (Pl A n c):=P4.o.bp.cell 0;have p1:w4.cell? ⟨w.heap.size+1+1,1,OJ⟩=OH (Pl A2 n2 c2):=P4.o.bp.cell 1;have t0:w4.cell? ⟨wr.heap.size,0,OJ⟩=OH (.string tag):=C.o.cell 0;have t1:w4.cell? ⟨wr.heap.size,1,OJ⟩=OH (ae aj sc):=C.o.cell 1;have t2:w4.cell? ⟨wr.heap.size,2,OJ⟩=OH (Pl LA ln lc):=C.o.cell 2;by_cases q:sc= -1
 .have U:(sc== -1)=OX:=by simp[q]
  clear q;cases b
  .exact afx
  .exact afO
 have U:(sc== -1)=OZ:=by simp[q]
 clear q;by_cases u:sc=t
 .have J:(sc==t)=OX:=by simp[u]
  clear u;cases b
  .exact afx
  .exact afO
 have J:(sc==t)=OZ:=by simp[u]
 clear u;cases b
 .go_wp2_with fail
  refine(ZC ft k w4 aq).mono ?_;rintro e _ ⟨b,rfl,rfl⟩;cases b
  .exact afc
  .exact afc
 .go_wp2
  go_roundg(f.fn-i)
  case measure=>omega
  case rel=>exact⟨i+1,k,A,n,c,A2,n2,c2,aq,aq,aq,aV,aV,aq,aq,P4,B4⟩
def Qg(gs:List aC)(A:aB)(n c:Nat)(w:EE)(h:Rx w w.heap.size 10 gs A n)(hn:n<=100000):
 GK prog 211 #[Pl A n c] w (uO w (dI (aM gs) n)):=by
 have R:ak _:=⟨h⟩;have O:ak (∀j,j<n->nth (aM gs) j=nth (dS gs j) 1):=⟨λj hj=>gK Dc⟩;clear h;generalize aM gs=a at*;go_enter func211,ntmps211;go_wp2;go_loopg[3,4,5](n+1)(λgg v3 v4 _ wr=>∃(i m:Nat) (D:aB) (l:Nat),n-i<gg/\i<=n/\m<=i/\v3=Pl D m l/\v4=ae aj (i:Int)/\ak ((dI a i).length=m)/\ak (Dl wr w.heap.size (dI a i) D m l)/\ak (az w wr))
 .exact⟨0,0,OJ,0,aq,aq,aq,rfl,rfl,⟨rfl⟩,⟨aA.nil _ _ _ _⟩,cJ⟩
 obtain⟨i,m,D,l,hg,hi,hm,rfl,rfl,ML,E,BE⟩:=hrel;by_cases x:i<n;rotate_left
 .obtain rfl:i=n:=by omega
  go_wp2;go_ret;exact⟨D,l,by rw[ML.o];rfl,by rw[ML.o];exact E.o,BE.o⟩
 obtain⟨T,rfl,M,_,e⟩:=(R.o.Z BE.o BE.o.size).at_ x;have F:wr.cell? (bX (T.add (i*10)) 1)=OH (ae aj (nth (dS gs i) 1)):=e 1 aq;rw[<-O.o i x]at F;have i4:=aU i n;have Z:=BE.o.size;rcases i with _|i
 .have K:m=0:=by omega
  subst K;clear M e;have PH:ak _:=⟨pq a 0 aq⟩;have wk:IntKind.i64.wrap ((0:Int)+1)=1:=cF;go_wp2;go_quiet (fail);generalize hW:wr.drewN _=W;have k:ak (az w W):=⟨CE⟩;have I:ak _:=⟨E.o.ar (show az wr W by rw[<-hW];exact aO (Below.refl _ _) _)⟩;have f:=k.o.size;clear hW;go_wp2_with (at_builtin;refine cG TY rfl (.tmp 37) (.tmp 42) rfl rfl (aA.alloc I.o _) rfl (news:=qF (0,0+1)) rfl (gM _ _ _ _) (lq _ _) aq br ?_;intro z c8 u y v;have O8:ak _:=⟨y⟩;have r:ak (az w u):=⟨(k.o.alloc f _).trans v⟩;clear y v);have b:ak ((dI a (0+1)).length=0+1):=⟨Yv⟩;have t:ak (Dl u w.heap.size (dI a (0+1)) z (0+1) c8):=⟨YQ⟩;go_roundg(n-0)
  case measure=>omega
  case rel=>exact⟨0+1,0+1,z,c8,aq,aq,aq,rfl,aV,b,t,r⟩
 obtain⟨Y,J,_,_,d⟩:=(R.o.Z BE.o BE.o.size).at_ (show i<n by omega);injection J with J
 subst J;have L:wr.cell? (bX (T.add (i*10)) 1)=OH (ae aj (nth (dS gs i) 1)):=d 1 aq;rw[<-O.o i aq]at L;clear M e d;have B:0<m:=by have:=lI a (i+1) (by omega);have:=kH a (i+1);have:=ML.o;omega
 have P:decide (0<m)=OX:=by simp;exact B
 have wk:IntKind.i64.wrap ((i:Int)+1-1)=(i:Int):=zo;have Q:=gT i;have S:=aU i n;by_cases s:nth a i=nth a (i+1)
 .have o:(nth a i==nth a (i+1))=OX:=by simp[s]
  have U:ak _:=⟨Av a (i+1) ⟨aq,s⟩⟩;clear s;go_wp2;go_quiet (fail);clear wk Q S F L o P;obtain⟨q,rfl⟩:∃q,m=q+1:=⟨m-1,aq⟩;generalize hW:wr.drewN _=W;have k:ak (az w W):=⟨CE⟩;have ow:=E.o.ar (show az wr W by rw[<-hW];exact aO (Below.refl _ _) _);clear hW;obtain⟨g,rfl,G,X⟩:=aA.form ow B;have H:=qI (dI a (i+1)) q (i+1+1) (by rw[ML.o];omega);have C:=U.o;rw[ML.o,Nat.add_sub_cancel]at C;rw[<-C]at H;have V:=aA.cellAt ow (q*2+1) aq;rw[(jY (dI a (i+1)) q (by rw[ML.o];omega)).2]at V;have fq:=aA.frozenAt ow (q*2+1);have st:=(World.ownsRow.stored (cap:=l) ow (q*2+1) (ae aj ((i+1+1:Nat):Int))).1;rw[H]at st;have b:ak ((dI a (i+1+1)).length=q+1):=⟨by rw[C,List.length_set];exact ML.o⟩;have t:ak (Dl (W.setCell ⟨g,q*2+1,OJ⟩ (ae aj ((i+1+1:Nat):Int))) w.heap.size (dI a (i+1+1)) (OH ⟨g,0,OJ⟩) (q+1) l):=⟨st⟩;have r:ak (az w (W.setCell ⟨g,q*2+1,OJ⟩ (ae aj ((i+1+1:Nat):Int)))):=⟨Below.setCell k.o (p:=⟨g,q*2+1,OJ⟩) G _⟩;clear ow H C st;have N:(((i+1+1:Nat):Int))=(i:Int)+1+1:=aq;rw[N]at t r;clear N;go_wp2;go_roundg(n-(i+1))
  case measure=>omega
  case rel=>exact⟨i+1+1,q+1,_,l,aq,aq,aq,rfl,aV,b,t,r⟩
 .have o:(nth a i==nth a (i+1))=OZ:=by simp[s]
  have PH:ak _:=⟨pq a (i+1) (by intro h;exact s h.2)⟩;clear s;go_wp2;go_quiet (fail);clear wk Q S F L o P;generalize hW:wr.drewN _=W;have k:ak (az w W):=⟨CE⟩;have I:ak _:=⟨E.o.ar (show az wr W by rw[<-hW];exact aO (Below.refl _ _) _)⟩;have f:=k.o.size;clear hW;go_wp2_with (at_builtin;refine cG TY rfl (.tmp 37) (.tmp 42) rfl rfl (aA.alloc I.o _) rfl (news:=qF ((i+1),(i+1)+1)) rfl (gM _ _ _ _) (lq _ _) aq br ?_;intro z c8 u y v;have O8:ak _:=⟨y⟩;have r:ak (az w u):=⟨(k.o.alloc f _).trans v⟩;clear y v);have b:ak ((dI a ((i+1)+1)).length=m+1):=⟨Yv⟩;have t:ak (Dl u w.heap.size (dI a ((i+1)+1)) z (m+1) c8):=⟨YQ⟩;go_roundg(n-(i+1))
  case measure=>omega
  case rel=>exact⟨(i+1)+1,m+1,z,c8,aq,aq,aq,rfl,aV,b,t,r⟩
def VZ(f:dv)(s:Int)(P x:aC->Prop)(lo hi:Int)(z:∀r d y v u k m l j t a b c,VR a->P [r,d,y,v,u,k,m,l,j,t]->x [r,d,a,b,c,k,m,l,j,t])(A:aB)(n c:Nat)(w:EE)(C:1<=f.em)(B:f.em<=16384)(U:lF w (fY P lo hi) A n)(hn:n<=50000):
 GK prog 137 #[f.v,ae aj s,Pl A n c] w (Uk w (fY x lo hi) n):=by
 have⟨O,p,q,L⟩:=box1 w f.row 102;obtain⟨gs,⟨Y,R⟩,Q⟩:=U;have⟨GL,V,HN,T,HP⟩:=MR (Q.Z q.o q.o.size) z Q.1 Y R;go_enter func137,ntmps137;go_wp2;rw[<-p];clear p;go_loopg[7,8,9](n+1)(λgg v7 X _ wr=>∃(i:Nat) (E:aB) (F:Nat),n-i<gg/\i<=n/\v7=Pl E i F/\X=ae aj (i:Int)/\ak (iZ wr O.heap.size (GU x (aM gs) i) E i F)/\ak (az O wr))
 .exact⟨0,OJ,0,aq,aq,rfl,rfl,⟨OL.nil _ _ _ _ (GU.nil _ _)⟩,cJ⟩
 obtain⟨i,E,F,hg,hi,rfl,rfl,N,g⟩:=hrel;by_cases aG:i<n;rotate_left
 .obtain rfl:i=n:=by omega
  go_wp2;go_ret;exact⟨_,_,rfl,(N.o.imp λxs _ _ h=>h.full T.o (by rw[dK,HN.o])).cS q.o.size,q.o.trans (g.o.mono q.o.size)⟩
 obtain⟨ad,r,d,y,v,u,k,m,l,j,t,rfl,hQ,e0,e1,e2,e3,e4,e5,e6,e7,e8,e9⟩:=(GL.o.Z g.o g.o.size).bK aG;have S:ak (P [r,d,y,v,u,k,m,l,j,t]):=⟨by rw[hQ];exact HP.o _ (nD (by rw[HN.o];exact aG))⟩;have M:ak (d=nth (aM gs) i/\i<(aM gs).length):=⟨BR⟩;have i4:=aU i n;have hs:=g.o.size;have⟨c0,c1,W,c3,c4,c5⟩:=(L.o.ar g.o L.o.lt).f6;have d0:=λo=>aH c0 o
 go_wp2_with fail;refine(yH y s f.em _ C B).mono ?_;rintro e _ ⟨J,rfl,D,rfl⟩;have G:=sH D;go_wp2_with fail;refine(yH v s f.em _ C B).mono ?_;rintro e _ ⟨H,rfl,-,rfl⟩;go_wp2_with fail;refine(yH u s f.em _ C B).mono ?_;rintro e _ ⟨q4,rfl,-,rfl⟩;have QN:=sH (V.o _ _ _ _ _ _ _ _ _ _ J H q4 G.o S.o);go_wp2_with (at_builtin;refine cd (L':=GU x (aM gs) (i+1)) pT rfl (.tmp 41) (.tmp 43) rfl rfl ((N.o.alloc _).alloc _) rfl [r,d,J,H,q4,k,m,l,j,t] rfl (cP _ _ _ _ _ aT rfl) (λxs _ _ h=>h.more M.o.2 M.o.1 QN.o) aq br ?_;intro A8 c8 w8 K I _ _;have O8:=sH K;have Z:=sH ((g.o.trans ((fp wr _ _).mono hs)).trans I);clear K I);go_roundg(n-i)
 .exact⟨i+1,A8,c8,aq,aq,rfl,aV,O8,Z⟩
 omega
def Ow.head{k:IntKind}{P:Int->Prop}(h:Ow w B e k P A n c):A=OJ∨∃g,A=OH ⟨g,0,OJ⟩:=by
 obtain⟨xs,a,b⟩:=h;exact aA.dU a
def Ow.kept{a:EE}{k:IntKind}{P:Int->Prop}(h:Ow w B e k P A n c)(l:w.grownBy a (Value.slice C m d).ownBlock)(f:bR A C)(j:C=OJ∨∃g,C=OH ⟨g,0,OJ⟩):Ow a B e k P A n c:=by
 obtain⟨xs,b,i⟩:=h;exact⟨xs,aA.kept b l f j,i⟩
def mO{f:Nat}{b:IQ}{q:IntKind}{P:Int->Prop}(h:Oq w B e k Q A n c)(j:Ow w f b q P C m d)(a:e≠b):bR A C:=by
 obtain⟨gs,p,o,i⟩:=h;obtain⟨xs,g,l⟩:=j;exact ca i g a
def dR{P:I3}{K:Exit->Act->EE->Prop}{t:IQ}{bytes:Nat}(T:aS P t e 1 bytes)(m:o.guard=OJ)(s x:Operand)
 (I:o.op=.call {callee:=.builtin .append,args:=#[s,x],argTypes:=#[t,t]}) {B:Nat} {k:IntKind} {p:Int->Prop} {A:aB} {n c:Nat} (C:a.eval s=Pl A n c) (i:Ow w B e k p A n c)
 {g:Nat} (H:a.eval x=Pl (OH ⟨g,0,OJ⟩) 1 1) {y:Int} (E:w.cell? ⟨g,0,OJ⟩=OH (.int k y)) (r:p y)
 (G:(n+1)*bytes<=140737488355328) (D:B<=w.heap.size)
 (h:∀l c' f,Ow f B e k p l (n+1) c'->EI B w f->w.grownBy f (Value.slice A n c).ownBlock->wpList P ops K rest (a.put o.dst (Pl l (n+1) c')) f):wpList P ops K (o::rest) a w:=by
 obtain⟨xs,q,F⟩:=i;refine bE T m s x I C q H (news:=[.int k y]) rfl (λj u hu=> ?_) (λu hu=>Ji) G D λl c' f o b v J=>h l c' f ⟨xs++[y],by unfold Own;rw[List.map_append];exact o,λz d=> ?_⟩ b v
 .match j with
  |0=>simp at hu;subst hu;exact E
  |j+1=>simp at hu
 .rw[List.mem_append]at d
  rcases d with d|d
  .exact F z d
  .simp at d;subst d;exact r
def OL.kept{a:EE}(h:OL w B e k L A n c)(o:w.grownBy a (Value.slice C m d).ownBlock)(j:bR A C)(p:C=OJ∨∃g,C=OH ⟨g,0,OJ⟩):OL a B e k L A n c:=by
 obtain⟨gs,i,l,f,b⟩:=h;exact⟨gs,i,l,f,aA.kept b o j p⟩
def Mz(P:aC->Prop)(cs:aC)(i:Nat)(xs:List aC):Prop:=(aM xs).Sublist (cs.take i)/\∀g∈xs,P g
def Mz.skip{cs:aC}(h:Mz P cs i xs):Mz P cs (i+1) xs:=⟨h.1.trans (List.take_prefix_take_left aq).sublist,h.2⟩
def Mz.more{cs:aC}(h:Mz P cs i xs){g:aC}(hi:i<cs.length)(c:nth g 1=nth cs i)(b:P g):Mz P cs (i+1) (xs++[g]):=by
 refine⟨?_,λx a=> ?_⟩
 .rw[gB,List.take_succ_eq_append_getElem hi,<-bZ hi,<-c]
  exact h.1.append (List.Sublist.refl _)
 .rcases List.mem_append.1 a with a|a
  .exact h.2 x a
  .simp at a;subst a;exact b
def Mz.full{cs:aC}(h:Mz P cs n xs)(a:CS lo hi cs):fY P lo hi xs:=⟨a.sub (h.1.trans (List.take_sublist _ _)),h.2⟩
def PKp(w:EE)(Q:List aC->Prop)(n:Nat)(e:IS)(a:EE):Prop:=∃m,m<=n/\Uk w Q m e a
def k8(s:G:=by
 exact⟨i+1,m+1,A9,c9,_,c8,aq,aq,aq,rfl,rfl,aV,O9,P9,B9⟩):G:=s
def ab9(P:aC->Prop)(lo hi:Int)(Vv:∀U J Q H G x5 M K E V a,-1<=a->a<=50000->P [U,J,Q,H,G,x5,M,K,E,V]->P [U,J,Q,H,G,a,M,K,E,V])(A:aB)(n c:Nat)(w:EE)(hl:lF w (fY P lo hi) A n)(hn:n<=50000):
 GK prog 138 #[Pl A n c] w (PKp w (fY P lo hi) n):=by
 obtain⟨gs,⟨hS,hP⟩,hx⟩:=hl;have⟨GL,QQ,HN,HS,HP⟩:=MR hx Vv hx.1 hS hP;have g:126≠3:=cF;go_enter func138,ntmps138;go_wp2;go_loopg[3,4,5,6](n+1)(λgg v3 v4 v5 _ wr=>∃(i m:Nat) (W:aB) (c2:Nat) (A3:aB) (c3:Nat),n-i<gg/\i<=n/\m<=i/\v3=Pl W m c2/\v4=Pl A3 i c3/\v5=ae aj (i:Int)/\ak (iZ wr w.heap.size (Mz P (aM gs) i) W m c2)/\ak (Ow wr w.heap.size 3 .i64 (λz=> -1<=z/\z<=50000) A3 i c3)/\ak (az w wr))
 .exact⟨0,0,OJ,0,OJ,0,aq,aq,aq,rfl,rfl,rfl,⟨OL.nil _ _ _ _ ⟨by simp[aM],aT⟩⟩,⟨Ow.nil _ _ _ _ _⟩,cJ⟩
 obtain⟨i,m,W,c2,A3,c3,hg,hi,hm,rfl,rfl,rfl,d,O3,BE⟩:=hrel;by_cases aG:i<n;rotate_left
 .obtain rfl:i=n:=by omega
  go_wp2;go_ret;exact⟨m,hm,_,_,rfl,d.o.imp λxs _ _ h=>h.full HS.o,BE.o⟩
 obtain⟨ad,U,J,Q,H,G,x5,M,K,E,V,rfl,hQ,e0,e1,e2,e3,e4,e5,e6,e7,e8,e9⟩:=(GL.o.Z BE.o BE.o.size).bK aG;have i4:=aU i n;go_wp2_with fail;refine(aaA U J Q H G x5 M K E V wr).mono ?_;rintro e w2 ⟨b,rfl,b2⟩;have B2:=BE.t b2;have⟨X,v⟩:=K' (d.o.ar b2) (O3.o.ar b2);have B:=B2.o.size;cases b;rotate_left
 .go_wp2_with (at_builtin;refine dR l5 rfl (.tmp 18) (.tmp 19) rfl rfl (v.o.alloc _) rfl (bk _ _ _) ⟨aq,aq⟩ aq br ?_;intro A8 c8 s C y D;have k:=sH C;have q:=sH ((B2.o.alloc B _).trans y);have d:=sH ((X.o.alloc _).kept D (mO X.o.o v.o g) v.o.head);clear C y D)
  go_roundg(n-i)
  .exact⟨i+1,m,W,c2,A8,c8,aq,aq,aq,rfl,rfl,aV,⟨d.o.imp λxs _ _ h=>h.skip⟩,k,q⟩
  omega
 go_upto_region 9 with(at_builtin;refine dR l5 rfl (.tmp 21) (.tmp 24) rfl rfl (v.o.alloc _) rfl (bk _ _ _) ⟨aq,aq⟩ aq br ?_;intro A8 c8 s C y D;have k:=sH C;have q:=sH ((B2.o.alloc B _).trans y);have d:=sH ((X.o.alloc _).kept D (mO X.o.o v.o g) v.o.head);clear C y D)
 obtain⟨ad4,R,x,I,Y,S,f,F,T,Z,N,e4',hQ,e0,e1,e2,e3,e4,e5,e6,e7,e8,e9⟩:=(GL.o.Z q.o q.o.size).bK aG;obtain rfl:ad=ad4:=by injection e4'
 have QY:ak (P [R,x,I,Y,S,f,F,T,Z,N]):=⟨by rw[hQ];exact HP.o _ (nD (by rw[HN.o];exact aG))⟩;have u:ak (x=nth (aM gs) i/\i<(aM gs).length):=⟨BR⟩;have t:=q.o.size;by_cases hT:0<=f/\f<i
 .obtain⟨j,rfl⟩:∃j:Nat,f=(j:Int):=⟨f.toNat,aq⟩
  have oT:j<i:=aq;have j1:=aU j i;have j2:(j:Int)<(i:Int)+1:=aq;obtain⟨l,rfl,_⟩:=k.o.form aq;obtain⟨z,⟨gL,dZ⟩,ez⟩:=k.o.get (show j<i+1 by omega);have ez:=λo=>aH ez o
  have O:=sH (QQ.o _ _ _ _ _ _ _ _ _ _ z gL dZ QY.o);go_wp2_with (at_builtin;refine cd (L':=Mz P (aM gs) (i+1)) pT rfl (.tmp 45) (.tmp 47) rfl rfl (d.o.ar (fp _ _ _)) rfl [R,x,I,Y,S,z,F,T,Z,N] rfl (cP _ _ _ _ _ aT rfl) (λxs _ _ h=>h.more u.o.2 u.o.1 O.o) aq br ?_;intro A9 c9 w9 p r l _;have O9:=sH p;have B9:=sH ((q.o.trans ((fp s _ _).mono t)).trans r);have P9:=sH ((k.o.ar (fp s _ _)).kept l (mO d.o.o k.o g).symm d.o.head);clear p r l);go_roundg(n-i)
  .exact k8
  omega
 .have L:decide (0<=f)=OZ∨(decide (0<=f)=OX/\decide (f<(i:Int))=OZ):=by
   rcases Int.lt_or_le f 0 with h|h
   .left;simp;omega
   .right;simp;omega
  have O:=sH QY.o;rcases L with L|⟨L,Mw⟩
  .clear hT
   go_wp2_with (at_builtin;refine cd (L':=Mz P (aM gs) (i+1)) pT rfl (.tmp 45) (.tmp 47) rfl rfl (d.o.ar (fp _ _ _)) rfl [R,x,I,Y,S,f,F,T,Z,N] rfl (cP _ _ _ _ _ aT rfl) (λxs _ _ h=>h.more u.o.2 u.o.1 O.o) aq br ?_;intro A9 c9 w9 p r l _;have O9:=sH p;have B9:=sH ((q.o.trans ((fp s _ _).mono t)).trans r);have P9:=sH ((k.o.ar (fp s _ _)).kept l (mO d.o.o k.o g).symm d.o.head);clear p r l);go_roundg(n-i)
   .exact k8
   omega
  .obtain⟨j,rfl⟩:∃j:Nat,f=(j:Int):=⟨f.toNat,by simp at L;omega⟩
   have hd3:decide (j<i)=OZ:=by simp at Mw⊢;omega
   go_wp2_with (at_builtin;refine cd (L':=Mz P (aM gs) (i+1)) pT rfl (.tmp 45) (.tmp 47) rfl rfl (d.o.ar (fp _ _ _)) rfl [R,x,I,Y,S,(j:Int),F,T,Z,N] rfl (cP _ _ _ _ _ aT rfl) (λxs _ _ h=>h.more u.o.2 u.o.1 O.o) aq br ?_;intro A9 c9 w9 p r l _;have O9:=sH p;have B9:=sH ((q.o.trans ((fp s _ _).mono t)).trans r);have P9:=sH ((k.o.ar (fp s _ _)).kept l (mO d.o.o k.o g).symm d.o.head);clear p r l);go_roundg(n-i)
   .exact k8
   omega
def PSd(w:EE)(B:Nat)(Q:List aC->Prop)(A:aB)(n c:Nat)(e:IS)(a:EE):Prop:=e=RE (Pl A n c)/\iZ a B Q A n c/\EI B w a
def Oq.rx(h:Oq w B e k Q A n c)(a:0<k):∃gs,Rx w w.heap.size k gs A n/\∀g∈gs,Q g:=(h.rq a).rx
def Dl.at_{ps:List (Nat×Nat)}(h:Dl w B ps (OH ⟨g,0,OJ⟩) n c)(d:ps.length=n)(e:k<n):w.cell? ⟨g,k*2,OJ⟩=OH (ae aj ((cV ps k).1:Int))/\w.cell? ⟨g,k*2+1,OJ⟩=OH (ae aj ((cV ps k).2:Int)):=by
 obtain⟨a,b⟩:=jY ps k aq;exact⟨(aA.cellAt h (k*2) aq).trans a,(aA.cellAt h (k*2+1) aq).trans b⟩
def fY.adD{v:Int}(h:fY P lo hi gs)(c:k<gs.length)(b:P (gs[k].set 2 v)):fY P lo hi (gs.set k (gs[k].set 2 v)):=⟨by show CS _ _ _;rw[qN gs c (by omega)];exact h.1,λg a=>by
 rcases List.mem_or_eq_of_mem_set a with a|rfl
 .exact h.2 g a
 .exact b⟩
def OL.agS{L':List aC->Prop}(h:OL w B e k L (OH ⟨g,0,OJ⟩) n c){j q:Nat}(t:j<n)(l:q<k){y:Int}(d:w.cell? ⟨g,j*k+q,OJ⟩=OH (ae aj y))(v:Int)(s:∀gs,(z:gs.length=n)->(∀g∈gs,g.length=k)->nth (gs[j]' aq) q=y->L gs->L' (gs.set j ((gs[j]' aq).set q v))):
 OL (w.setCell ⟨g,j*k+q,OJ⟩ (ae aj v)) B e k L' (OH ⟨g,0,OJ⟩) n c:=by
 obtain⟨gs,h1,b,m,i⟩:=h;have a:j<gs.length:=aq;have r:=b _ (List.getElem_mem a);have o:j*k+q<n*k:=by
  have:(j+1)*k<=n*k:=Nat.mul_le_mul_right _ t;rw[Nat.add_mul,Nat.one_mul]at this;omega
 have u:w.cell? ⟨g,j*k+q,OJ⟩=OH (ae aj (nth gs[j] q)):=by
  rw[aA.cellAt i _ o,wT gs b j q _ (List.getElem?_eq_getElem a) l,List.getElem?_eq_getElem aq,bZ aq];rfl
 have e:nth gs[j] q=y:=by
  rw[u]at d;injection d with d
  injection d
 refine⟨gs.set j (gs[j].set q v),mo,λx f=> ?_,s gs h1 b e m, ?_⟩
 .rcases List.mem_or_eq_of_mem_set f with f|rfl
  .exact b x f
  .simp[r]
 .have p:=(World.ownsRow.stored (cap:=c) i (j*k+q) (ae aj v)).1
  rwa [pd v l gs j b a]at p
def fY.up{b:aC->Prop}(h:fY P lo hi gs)(c:∀g∈gs,P g->b g):fY b lo hi gs:=⟨h.1,λg a=>c g a (h.2 g a)⟩
def QS(P:Nat->aC->Prop)(lo up s:Int)(K:∀i x,P i x->P (i+1) x)(D:∀i (x:aC),x.length=10->P i x->P (i+1) (x.set 2 (IK (nth x 2+s))))(A:aB)(n c:Nat)(B:Nat)(w:EE)(hB:B<=w.heap.size)(u:iZ w B (fY (P 0) lo up) A n c)(hn:n<=50000):
 GK prog 136 #[Pl A n c,ae aj s] w (PSd w B (λxs=>∃m,m<=n/\fY (P m) lo up xs) A n c):=by
 obtain⟨gs,_,t⟩:=u.rl aq;have I:=mV (aM gs) n;have r:(dI (aM gs) n).length<=n:=Tz;have⟨GC,S,R,Y,M⟩:=MR (Qg gs A n c w t aq) I u D K;generalize dI (aM gs) n=ps at*;go_enter func136,ntmps136;go_wp2_with fail;refine GC.o.mono ?_;rintro e w1 ⟨T,N,rfl,hc,C⟩;have⟨Q,Z,B1⟩:=MO hc (R.o.ar C) (C.mono hB);have⟨m,H⟩:=eY ps.length;rw[H]at Q S r;rw[H];have LM:=sH H;have U:=C.size;go_wp2;go_loopg[6,7](m+1)(λgg v6 _ wr=>∃(i:Nat),m-i<gg/\i<=m/\v6=ae aj (i:Int)/\ak (iZ wr B (fY (P i) lo up) A n c)/\ak (Dl wr w.heap.size ps T m N)/\ak (EI B w wr))
 .exact⟨0,aq,aq,rfl,Z,Q,B1⟩
 obtain⟨i,hg,hi,rfl,d,j,z⟩:=hrel;by_cases l:i<m;rotate_left
 .obtain rfl:i=m:=by omega
  go_wp2;go_ret;exact⟨rfl,d.o.imp λxs _ _ h=>⟨i,r,h⟩,z.o⟩
 have i4:=aU i m;obtain⟨gc,rfl,L,O⟩:=aA.form j.o aq;obtain⟨k1,k2⟩:=Dl.at_ j.o LM.o l;obtain⟨r1,r2,_⟩:=S.o i l;generalize(cV ps i).1=a at*;generalize(cV ps i).2=b at*;obtain⟨g,rfl,G,dV⟩:=d.o.form aq;have⟨X,f⟩:=eX wr;rw[<-f]at d j z k1 k2;rw[<-f];clear f;go_wp2;go_loopg[7](b+1)(λgg v7 wr=>∃(q:Nat),q<gg/\a<=q/\q<=b/\v7=ae aj ((q:Int)-1)/\wr=X)
 .exact⟨b,aq,aq,aq,aV,rfl⟩
 obtain⟨q,Lx,zu,qA,rfl,rfl⟩:=hrel;by_cases haq:a<q;rotate_left
 .have h1:decide ((a:Int)<=(q:Int)-1)=OZ:=ji
  have h2:¬((a:Int)<=(q:Int)-1):=aq;have W:ak (iZ wr B (fY (P (i+1)) lo up) (OH ⟨g,0,OJ⟩) n c):=⟨d.o.imp λxs _ _ h=>h.up λx _ t=>M.o i x t⟩;go_wp2;go_roundg(m-i)
  .exact⟨i+1,aq,aq,aV,W,j,z⟩
  omega
 obtain⟨k,rfl⟩:∃k,q=k+1:=⟨q-1,aq⟩;have E:(((k+1:Nat):Int)-1)=(k:Int):=aq;rw[E];have h1:(a:Int)<=(k:Int):=aq;have h2:=aU k n;have o:k<n:=aq;obtain⟨y0,y1,y2,y3,y4,J,y6,y7,y8,y9,_,e0,e1,V,e3,e4,e5,e6,e7,e8,e9⟩:=d.o.o.bK o;by_cases y:J= -1
 .have F:(J != -1)=OZ:=by simp[y]
  have f2:=d.o.fz (k*10+2);have S2:ak (iZ (wr.setCell ⟨g,k*10+2,OJ⟩ (ae aj (IK (y2+s)))) B (fY (P (i+1)) lo up) (OH ⟨g,0,OJ⟩) n c):=⟨d.o.agS o aq V _ λxs hn u y h=>(h.up λx _ t=>M.o i x t).adD aq (by rw[<-y];exact Y.o i _ (u _ (List.getElem_mem _)) (h.2 _ (List.getElem_mem _)))⟩;have S3:ak (∀v,Dl (wr.setCell ⟨g,k*10+2,OJ⟩ (ae aj v)) w.heap.size ps (OH ⟨gc,0,OJ⟩) m N):=⟨λv=>aA.mj j.o (aA.oB j.o R.o.lt.2) _⟩;have S4:ak (∀v,EI B w (wr.setCell ⟨g,k*10+2,OJ⟩ (ae aj v))):=⟨λv=>Below.setCell z.o (p:=⟨g,k*10+2,OJ⟩) G _⟩;go_wp2;go_roundg(m-i)
  .exact⟨i+1,aq,aq,aV,S2,⟨S3.o _⟩,⟨S4.o _⟩⟩
  omega
 .have F:(J != -1)=OX:=by simp[y]
  go_wp2;go_roundg(k+1)
  .exact⟨k,aq,aq,aq,rfl,rfl⟩
  omega
