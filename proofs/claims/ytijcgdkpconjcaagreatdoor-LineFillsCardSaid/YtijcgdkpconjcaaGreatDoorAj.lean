/- Part of LineFills. -/
import Derived.Test.YtijcgdkpconjcaaGreatDoorAi
import Derived.Deep.RegionHeld3
namespace Go.Proofs.YtijcgdkpconjcaaGreatDoor
open Go.ChangeShapes Go.WideShapes Go.ChangeAt Go.RowKit Go.Proofs.Tryz
open Go renaming World->EE,Value->EN,Calls->GK,TypeId->IQ,Ending->IS,Program->I3
open Go.RowKit renaming Below->EI,wrap64->IK
open Option renaming some->OH,none->OJ
open Bool renaming true->OX,false->OZ
open Go.Value renaming slice->Pl,bool->PF,pointer->PK,agg->Q4
open Go.Ending renaming returned->RE
open Go.Obj renaming cells->RM
open Go.Value renaming int->ae
open Go.IntKind renaming i64->aj
set_option linter.all false
set_option maxRecDepth 100000
set_option maxHeartbeats 16000000
variable{a w:EE}{b i:Nat}{x:aC}{G:Prop}
def Zt(r:Int)(w:EE):GK prog 62 #[.int .i32 r] w (PBe w):=by
 have h:(0<=r/\r<55296)∨(r<0/\¬57343<r)∨(55296<=r/\0<=r/\¬57343<r)∨(57343<r/\0<=r/\55296<=r):=aq;rcases h with⟨a,b⟩|⟨a,b⟩|⟨a,b,c⟩|⟨a,b,c⟩
 all_goals
  go_enter func62,ntmps62;go_wp2;go_ret;exact⟨_,rfl,rfl⟩
def Vr(A:aB)(n c:Nat)(w:EE)(h:Iw w w.heap.size .i32 (Wf .i32) A n)(k:n<=1000000000):GK prog 23 #[Pl A n c] w (PBe w):=by
 have R:=sH h;go_enter func23,ntmps23;go_wp2;go_loopg[3](n+1)(λgg v3 wr=>∃(i:Nat),n-i<gg/\i<=n/\v3=ae aj (i:Int)/\wr=w)
 .exact⟨0,aq,aq,rfl,rfl⟩
 obtain⟨i,j,hi,rfl,rfl⟩:=hrel;by_cases a:i<n;rotate_left
 .have d:=cI i n
  go_wp2;go_ret;exact⟨_,rfl,rfl⟩
 have d:=aU i n;obtain⟨g,z,rfl,_,f⟩:=R.o.get a;go_wp2_with fail;refine(Zt z _).mono ?_;rintro e _ ⟨b,rfl,rfl⟩;cases b
 .go_wp2
  go_ret;exact⟨_,rfl,rfl⟩
 .go_wp2
  go_roundg(n-i)
  .exact⟨i+1,aq,aq,aV,rfl⟩
  omega
structure jz where
 T:aB
 tn:Nat
 tc:Nat
 S:aB
 sn:Nat
 sc:Nat
 B:aB
 bn:Nat
 bc:Nat
 dir:Int
 wd:Int
 al:Int
 md:Int
 hy:Bool
abbrev jz.row(x:jz):Array EN:=#[Pl x.T x.tn x.tc,Pl x.S x.sn x.sc,Pl x.B x.bn x.bc,ae aj x.dir,ae aj x.wd,ae aj x.al,ae aj x.md,PF x.hy]
abbrev jz.v(x:jz):EN:=Q4 x.row
abbrev cM.row(x:cM):Array EN:=#[Pl x.F x.fn x.fc,Pl x.Y x.yn x.yc,Pl x.P x.pn x.pc,ae aj x.ev,ae aj x.ld]
structure kf(w:EE)(x:jz)(ts:aC):Prop where
 rT:aJ .i32 w x.T x.tn x.tc ts
 rS:cU w w.heap.size uF x.S x.sn x.sc
 rB:cU w w.heap.size MX x.B x.bn x.bc
def kf.ar{b:EE}{x:jz}{ts:aC}(h:kf w x ts)(a:az w b):kf b x ts:=⟨h.rT.ar a,h.rS.Z a a.size,h.rB.Z a a.size⟩
structure Rn where
 f:Int
 t:Int
 lv:Int
 sp:Int
 fo:Int
 st:Int
abbrev Rn.row(x:Rn):Array EN:=#[ae aj x.f,ae aj x.t,ae aj x.lv,ae aj x.sp,ae aj x.fo,ae aj x.st]
def Bx.c8{x:jz}(h:Bx w b x.row):w.cell? ⟨b,0,OJ⟩=OH (Pl x.T x.tn x.tc)/\w.cell? ⟨b,1,OJ⟩=OH (Pl x.S x.sn x.sc)/\w.cell? ⟨b,2,OJ⟩=OH (Pl x.B x.bn x.bc)/\w.cell? ⟨b,3,OJ⟩=OH (ae aj x.dir)/\w.cell? ⟨b,4,OJ⟩=OH (ae aj x.wd)/\w.cell? ⟨b,5,OJ⟩=OH (ae aj x.al)/\w.cell? ⟨b,6,OJ⟩=OH (ae aj x.md)/\w.cell? ⟨b,7,OJ⟩=OH (PF x.hy):=⟨h.cell 0,h.cell 1,h.cell 2,h.cell 3,h.cell 4,h.cell 5,h.cell 6,h.cell 7⟩
def Bx.c5{x:cM}(h:Bx w b x.row):w.cell? ⟨b,0,OJ⟩=OH (Pl x.F x.fn x.fc)/\w.cell? ⟨b,1,OJ⟩=OH (Pl x.Y x.yn x.yc)/\w.cell? ⟨b,2,OJ⟩=OH (Pl x.P x.pn x.pc)/\w.cell? ⟨b,3,OJ⟩=OH (ae aj x.ev)/\w.cell? ⟨b,4,OJ⟩=OH (ae aj x.ld):=⟨h.cell 0,h.cell 1,h.cell 2,h.cell 3,h.cell 4⟩
def Bx.c6{x:Rn}(h:Bx w b x.row):w.cell? ⟨b,0,OJ⟩=OH (ae aj x.f)/\w.cell? ⟨b,1,OJ⟩=OH (ae aj x.t)/\w.cell? ⟨b,2,OJ⟩=OH (ae aj x.lv)/\w.cell? ⟨b,3,OJ⟩=OH (ae aj x.sp)/\w.cell? ⟨b,4,OJ⟩=OH (ae aj x.fo)/\w.cell? ⟨b,5,OJ⟩=OH (ae aj x.st):=⟨h.cell 0,h.cell 1,h.cell 2,h.cell 3,h.cell 4,h.cell 5⟩
def PWr(w:EE)(s:cM)(r:Rn)(e:IS)(a:EE):Prop:=∃z:Int,e=RE (ae aj z)/\(z=0->(0<=r.fo/\r.fo<s.fn)/\0<=r.st/\r.st<s.yn)/\az w a
def Ti(s:G:=by
 go_wp2
 go_ret;exact⟨_,rfl,aT,B1.o⟩):G:=s
def zx(s:G:=by
 go_wp2
 go_ret;exact⟨_,rfl,λ_=>HH.o,B1.o⟩):G:=s
def Ya(s:cM)(p:jz)(ts:aC)(l:aB)(x:Nat)(r:Rn)(a b:Nat)(w:EE)(h:gA w w.heap.size s)(u:kf w p ts)(E:a<=b)(Q:b<=p.tn)(M:p.tn<=100000):
 GK prog 129 #[s.v,p.v,Pl l p.tn x,Q4 r.row,ae aj (a:Int),ae aj (b:Int)] w (PWr w s r):=by
 have⟨Y,c⟩:=eX (((w.alloc (RM s.row 26)).alloc (RM p.row 31)).alloc (RM r.row 68));obtain⟨d,i,j,f,_⟩:=qq c;have⟨B1,N,U,V,TI⟩:=MR d i j f ((u.ar d).rT.iw);have o:=h.rF.bd;have D:=h.rY.bd;have⟨c0,O,t,I,c4⟩:=i.c5;have⟨F,X,P,L,S,T,K,W⟩:=j.c8;have⟨A,n,q,v,B,z⟩:=f.c6;obtain⟨f0,f1,f2,f3,f4,f5⟩:=r;dsimp only at A n q v B z;go_enter func129,ntmps129;go_wp2_with fail;rw[<-c];clear c;go_wp2_with fail;refine(Vr _ _ _ _ TI.o aq).mono ?_;rintro e _ ⟨k,rfl,rfl⟩;have g:¬((b:Int)<(a:Int)):=aq;have C:¬((p.tn:Int)<(b:Int)):=aq;have y:¬((a:Int)<0):=aq;have m:decide ((a:Int)<0)=OZ:=aT;cases k
 .exact Ti
 by_cases H:f4<0
 .exact Ti
 by_cases g2:(s.fn:Int)<=f4
 .exact Ti
 by_cases J:f5<0
 .exact Ti
 by_cases G:(s.yn:Int)<=f5
 .exact Ti
 have HH:ak ((0<=f4/\f4<s.fn)/\0<=f5/\f5<s.yn):=⟨aq⟩;by_cases R:(a:Int)<f0
 .exact zx
 by_cases Z:f1<(b:Int)
 .exact zx
 .exact zx
def laT(d:Option Tmp):Option (EN->Prop):=if d=OH 41 then OH SB else if d=OH 49 then OH SI else OJ
def acd(f:dv)(F:aB)(a Q:Nat)(ts:aC)(H:aB)(Y:Nat)(lv:Int)(s:Nat)(w:EE)(h:cC w w.heap.size f)(ht:aJ .i32 w F a Q ts)(hf:Iw w w.heap.size .i64 aK H a)(hn:a<=5000)(hfr:s<=100000):
 GK prog 132 #[f.v,Pl F a Q,Pl H a Y,ae aj lv,ae aj (s:Int)] w (Uk w (bI s (s+a)) a):=by
 have⟨W1,r,d,Z⟩:=box1 w f.row 102;have⟨R,TS,I⟩:=MO (h.Z d.o d.o.size) (ht.ar d.o) (hf.Z d.o d.o.size);go_enter func132,ntmps132;go_wp2;rw[<-r];clear r;go_loopg[11,12](a+1)(λgg O G wr=>∃(i:Nat) (B:aB) (C:Nat),a-i<gg/\i<=a/\O=Pl B i C/\G=ae aj (i:Int)/\ak (Ow wr W1.heap.size 3 .i64 aK B i C)/\ak (az W1 wr))
 .exact⟨0,OJ,0,aq,aq,rfl,rfl,⟨Ow.nil _ _ _ _ _⟩,cJ⟩
 obtain⟨i,B,C,hg,hi,rfl,rfl,O2,c⟩:=hrel;have hs:=c.o.size;by_cases j:i<a
 .have i4:=aU i a
  go_wp2_with (at_builtin;refine bW l5 rfl (.tmp 22) (.tmp 24) rfl rfl (O2.o.alloc _) rfl (bk _ _ _) trivial aq br ?_;intro A8 c8 w8 X V;have O8:=sH X;have B8:=sH ((c.o.alloc hs _).trans V);clear X V);go_roundg(a-i)
  .exact⟨i+1,A8,c8,aq,aq,rfl,aV,O8,B8⟩
  omega
 have i4:=cI i a;go_wp2_with fail;refine(WR F a Q ts B i C wr (TS.o.ar c.o) (O2.o.imp λ_ _=>trivial).iw aq aq).mono ?_;rintro e n ⟨A3,c3,rfl,o3,b3⟩;have A:=sH (c.o.trans (b3.mono hs));obtain⟨cs,U⟩:=o3.sl;have CS:=sH U;go_wp2_with fail;refine(Vd H a Y n (I.o.Z A.o A.o.size) aq).mono ?_;rintro e w3 ⟨W,c4,rfl,o4,b4⟩;have⟨B4,O4⟩:=K' b4 o4;have J:=A.o.size;go_wp2;go_loopg[15](a+1)(λgg P wr=>∃(i:Nat),a-i<gg/\i<=a/\P=ae aj (i:Int)/\ak (Ow wr n.heap.size 3 .i64 aK W a c4)/\ak (az n wr))
 .exact⟨0,aq,aq,rfl,O4,B4⟩
 obtain⟨i,hg,hi,rfl,x,c⟩:=hrel;have m:=sH (A.o.trans (c.o.mono J));have o:=c.o.size;have⟨c0,c1,L,E,T,c5⟩:=(Z.o.ar m.o Z.o.lt).f6;by_cases j:i<a;rotate_left
 .obtain rfl:i=a:=by omega
  obtain⟨ms,S,_⟩:=x.o.iw;have NW:=sH (adX f A3 i c3 cs s W i c4 ms wr (R.o.Z m.o m.o.size) (CS.o.ar c.o) S aq aq aq);go_wp2_with fail;refine NW.o.mono ?_;rintro e w5 ⟨A6,c6,rfl,o6,b6⟩;have⟨O6,B6⟩:=K' o6 b6;go_wp2;go_ret;exact⟨_,_,rfl,O6.o.cS (by have:=d.o.size;omega),(d.o.trans (m.o.mono d.o.size)).trans (B6.o.mono (by have:=d.o.size;omega))⟩
 have i4:=aU i a;obtain⟨ad3,z,rfl,hz,e0⟩:=(CS.o.ar c.o).iw.get j;obtain⟨u,rfl,_,_⟩:=x.o.form aq;obtain⟨M,N⟩:=vo hz;have⟨L0,L1,L2,L3,L4,L5,M0⟩:=lc7 c0 c1 L E T c5 e0;have RW:=sH (R.o.Z m.o m.o.size);go_wp2;refine aE laT aF aF ?_;refine mSk ?_;refine lsA SB (λg=> ?_) (λv9 k=> ?_)
 .go_simp
  exact bP ((tG z M N g.1).mono λe w' ⟨h1,h2⟩=>⟨_,h1,h2⟩)
 obtain⟨b,rfl⟩:=k;cases b;rotate_left
 .simp[Act.put]
  refine mSk ?_;intro g;obtain⟨K,t⟩:=g;have⟨D,l⟩:=K' (c.o.trans (t.mono o)) (x.o.ar t)
  try dsimp only
  go_wp2;go_roundg(a-i)
  .exact⟨i+1,aq,aq,aV,l,D⟩
  omega
 simp[Act.put];refine mSk ?_;refine lsA SI (λg=> ?_) (λv9 k=> ?_)
 .go_simp
  exact fb (td f z g.1 (RW.o.Z g.2 g.2.size))
 obtain⟨q,rfl⟩:=k;simp[Act.put];refine mSk ?_;intro g;obtain⟨K,t⟩:=g;have⟨D,l⟩:=K' (c.o.trans (t.mono o)) (x.o.ar t)
 try dsimp only
 obtain⟨y,_,ey⟩:=l.o.get j;have fy:=l.o.fz i;have OS:ak (∀v,Ow (K.setCell ⟨u,i,OJ⟩ (ae aj v)) n.heap.size 3 .i64 aK (OH ⟨u,0,OJ⟩) a c4):=⟨λv=>l.o.set i trivial⟩;have BS:ak (∀v,az n (K.setCell ⟨u,i,OJ⟩ (ae aj v))):=⟨λv=>Below.setCell D.o (p:=⟨u,i,OJ⟩) l.o.lt.1 _⟩;go_wp2_with fail
 .generalize IK _=v
  go_roundg(a-i)
  .exact⟨i+1,aq,aq,aV,⟨OS.o v⟩,⟨BS.o v⟩⟩
  omega
 .go_roundg(a-i)
  case measure=>omega
  case rel=>exact⟨i+1,aq,aq,aV,l,D⟩
def FU(w:EE)(a:Addr)(j:Nat)(x:dv):Prop:=w.cell? (a.add (j*6))=OH (ae aj x.em)/\w.cell? (bX (a.add (j*6)) 1)=OH (Pl x.G x.gn x.gc)/\w.cell? (bX (a.add (j*6)) 2)=OH (Pl x.M x.mn x.mc)/\w.cell? (bX (a.add (j*6)) 3)=OH (Pl x.L x.ln x.lc)/\w.cell? (bX (a.add (j*6)) 4)=OH (Pl x.F x.fn x.fc)/\w.cell? (bX (a.add (j*6)) 5)=OH (Pl x.S x.sn x.sc)
def FOk(w:EE)(B:Nat)(x:dv):Prop:=(1<=x.em/\x.em<=16384)/\T8 w B x/\Mj w B x
def TQ(w:EE)(B:Nat)(s:cM):Prop:=∀j,j<s.fn->∀a,s.F=OH a->a.block<B/\∀x,FU w a j x->FOk w B x
def TQ.Z{d:EE}{B k:Nat}{s:cM}(h:TQ w B s)(c:EI B w d)(g:B<=k):TQ d k s:=λj l b o=>by
 obtain⟨t,u⟩:=h j l b o;refine⟨aq,λx ⟨c0,e,i,f,c4,c5⟩=> ?_⟩;have key:∀p:Addr,p.block=b.block->d.cell? p=w.cell? p:=λp m=>c.cell (by rw[m];exact t)
 have a:(b.add (j*6)).block=b.block:=aL _ _;rw[key _ a]at c0;rw[key _ (by exact a)]at e i f c4 c5;obtain⟨q,n,r⟩:=u x ⟨c0,e,i,f,c4,c5⟩;exact⟨q,n.Z c g,r.Z c g⟩
def Bs(w:EE)(B:Nat)(s:cM):Prop:=∀j,j<s.yn->∀a,s.Y=OH a->a.block<B/\∀z,w.cell? (bX (a.add (j*4)) 2)=OH (ae aj z)->-1048576<=z/\z<=1048576
def Bs.Z{c:EE}{B a:Nat}{s:cM}(h:Bs w B s)(g:EI B w c)(l:B<=a):Bs c a s:=λj d b f=>by
 obtain⟨i,k⟩:=h j d b f;refine⟨aq,λz e=>k z ?_⟩;rw[<-e];exact(g.cell (by show(b.add (j*4)).block<B;rw[aL];exact i)).symm
def Ui(i:Nat)(x:aC):Prop:=Lw x/\-(1099511627776+(i:Int)*1048576)<=nth x 2/\nth x 2<=1099511627776+(i:Int)*1048576
def Yt(x:aC):Prop:=Lw x/\-2199023255552<=nth x 2/\nth x 2<=2199023255552
def Ui.up(h:Ui i x):Ui (i+1) x:=⟨h.1,by have:=h.2;omega⟩
def Ui.set(g:x.length=10)(h:Ui i x){s:Int}(f: -1048576<=s/\s<=1048576):Ui (i+1) (x.set 2 (IK (nth x 2+s))):=by
 obtain⟨b,d,c⟩:=h;have e:nth (x.set 2 (IK (nth x 2+s))) 2=IK (nth x 2+s):=by rw[bZ (by rw[List.length_set];omega)];simp
 refine⟨?_, ?_⟩
 .have a:nth (x.set 2 (IK (nth x 2+s))) 5=nth x 5:=by unfold nth;simp[List.getElem?_set]
  unfold Lw;rw[a];exact b
 .rw[e]
  unfold IK;omega
def Ui.p(h:Ui i x)(hi:i<=50000):Yt x:=⟨h.1,by have:=h.2;omega⟩
abbrev Xm:=Int×Int×Int×Int
abbrev Xm.row(y:Xm):Array EN:=#[ae aj y.1,ae aj y.2.1,ae aj y.2.2.1,ae aj y.2.2.2]
def PPt(w:EE)(a b:Nat)(e:IS)(d:EE):Prop:=∃(A:aB) (n c:Nat) (z:Int),e=RE (.tuple #[Pl A n c,ae aj z])/\n<=c/\n<=20000/\iZ d w.heap.size (fY Yt a b) A n c/\az w d
abbrev bh:Array EN:=#[ae aj 0,Pl OJ 0 0,Pl OJ 0 0,Pl OJ 0 0,Pl OJ 0 0,Pl OJ 0 0]
abbrev ah:Array EN:=#[ae aj 0,ae aj 0,ae aj 0,ae aj 0]
def Xa:(prog.info? 102).map (·.size)=OH 6:=by kernel_rfl
def UI:(prog.info? 194).map (·.size)=OH 4:=by kernel_rfl
def Bx.c4{y:Xm}(h:Bx w b y.row):w.cell? ⟨b,0,OJ⟩=OH (ae aj y.1)/\w.cell? ⟨b,1,OJ⟩=OH (ae aj y.2.1)/\w.cell? ⟨b,2,OJ⟩=OH (ae aj y.2.2.1)/\w.cell? ⟨b,3,OJ⟩=OH (ae aj y.2.2.2):=⟨h.cell 0,h.cell 1,h.cell 2,h.cell 3⟩
structure I4(N:Nat)(Ll WG:Addr)(s:cM)(f:dv)(y:Xm)(j q:Nat)(w2:EE)(L:Nat->Bool)(kD nN wC wD vV vX wK xt vY vk wy xb xg xE:EN)(W:EE):Prop where
 be:az w2 W
 f0:L 0=OX->wC=PK (OH ⟨N,0,OJ⟩)
 f1:L 1=OX->wD=Pl (OH Ll) s.fn s.fc
 f2:L 2=OX->vV=PK (OH ⟨N+1+1,4,OJ⟩)
 f3:L 3=OX->vX=ae aj (j:Int)
 f4:L 4=OX->wK=PK (OH (Ll.add (j*6)))
 f5:L 5=OX->xt=f.v
 f6:L 6=OX->vY=PK (OH ⟨N,1,OJ⟩)
 f7:L 7=OX->vk=Pl (OH WG) s.yn s.yc
 f8:L 8=OX->wy=PK (OH ⟨N+1+1,5,OJ⟩)
 f9:L 9=OX->xb=ae aj (q:Int)
 f10:L 10=OX->xg=PK (OH (WG.add (q*4)))
 f11:L 11=OX->xE=Q4 y.row
 f12:L 12=OX->∃g,kD=PK (OH ⟨g,0,OJ⟩)/\w2.heap.size<=g/\Bx W g (if L 14 then f.row else bh)
 f13:L 13=OX->∃g,nN=PK (OH ⟨g,0,OJ⟩)/\w2.heap.size<=g/\Bx W g (if L 15 then y.row else ah)
 f14:L 14=OX->L 12=OX
 f15:L 15=OX->L 13=OX
def Bx.aah{cs ds:Array EN}(h:Bx w b cs)(k:Bx w b ds):cs.size=ds.size:=by
 obtain⟨t,h⟩:=h;obtain⟨u,k⟩:=k;rw[h]at k;injection k with k
 injection k with k
 rw[k]
def Pc(b:Bool)(f:dv):(if b then f.row else bh).size=6:=by cases b<;>rfl
def Qw(b:Bool)(y:Xm):(if b then y.row else ah).size=4:=by cases b<;>rfl
def Bx.Ad{g:Nat}{cs:Array EN}(h:Bx w b cs)(a:b≠g)(ds:Array EN):Bx (w.setRow g ds) b cs:=by
 obtain⟨t,h⟩:=h;exact⟨t,(setRow_other _ _ _ _ a).trans h⟩
def aaI(s:cM)(p:jz)(ts:aC)(FA:aB)(fc:Nat)(r:Rn)(a b:Nat)(w:EE)(h:gA w w.heap.size s)(hp:kf w p ts)(hf:Iw w w.heap.size .i64 aK FA p.tn)(hc:TQ w w.heap.size s)(hsb:Bs w w.heap.size s)(hfc:p.tn<=fc)(ja:a<=b)(hb:b<=p.tn)(hn:p.tn<=5000):
 GK prog 59 #[s.v,p.v,Pl FA p.tn fc,Q4 r.row,ae aj (a:Int),ae aj (b:Int)] w (PPt w a b):=by
 have⟨W1,aP⟩:∃W1,W1=((w.alloc (RM s.row 26)).alloc (RM p.row 31)).alloc (RM r.row 68):=⟨_,rfl⟩;obtain⟨b1,x1,x2,x3,iW⟩:=qq aP;have B1:ak _:=⟨b1⟩;have X1:ak _:=⟨x1⟩;have X2:ak _:=⟨x2⟩;have X3:ak _:=⟨x3⟩;have RS:ak _:=⟨h.Z b1 b1.size⟩;have RP:ak _:=⟨hp.ar b1⟩;have RF:ak _:=⟨hf.Z b1 b1.size⟩;have RC:ak _:=⟨hc.Z b1 b1.size⟩;have RB:ak _:=⟨hsb.Z b1 b1.size⟩;have TR:=h.rF.bd;have IV:=h.rY.bd;have⟨c0,Y,M,c3,c4⟩:=x1.c5;have⟨d0,d1,d2,d3,d4,d5,d6,d7⟩:=x2.c8;have⟨e0,e1,e2,e3,e4,e5⟩:=x3.c6;have WC:ak _:=⟨Ya s p ts FA fc r a b W1 RS.o RP.o ja hb aq⟩;clear h hp hf hc hsb b1 x1 x2 x3;go_enter func59,ntmps59;go_wp2_with fail;rw[<-aP];clear aP;go_wp2_with fail;refine WC.o.mono ?_;rintro e w2 ⟨z,rfl,hz,b2⟩;have HZ:ak _:=⟨hz⟩;have P:ak _:=⟨b2⟩;clear hz b2 WC c0 Y M c3 c4 d0 d1 d2 d3 d4 d5 d6 d7 e0 e1 e2 e3 e4 e5;by_cases pY:z=0;rotate_left
 .have gL:(z !=0)=OX:=by simp[pY]
  clear pY;go_wp2;go_ret2;exact⟨OJ,0,0,z,rfl,aq,aq,OL.nil _ _ _ _ ⟨CS.nil _ _,aT⟩,B1.o.trans (P.o.mono B1.o.size)⟩
 subst pY;obtain⟨⟨g1,g2⟩,g3,g4⟩:=HZ.o rfl;clear HZ;obtain⟨f0,f1,f2,f3,f4,f5⟩:=r;dsimp only at g1 g2 g3 g4;obtain⟨j,rfl⟩:∃j:Nat,f4=(j:Int):=⟨f4.toNat,aq⟩;obtain⟨q,rfl⟩:∃q:Nat,f5=(q:Int):=⟨f5.toNat,aq⟩;have hj:j<s.fn:=aq;have hq:q<s.yn:=aq;have gz:=P.o.size;have⟨c0,Y,M,c3,c4⟩:=(X1.o.ar P.o X1.o.lt).c5;have⟨e0,e1,e2,e3,e4,e5⟩:=(X3.o.ar P.o X3.o.lt).c6;obtain⟨U,f,eF,hf,h0,h1,h2,h3,h4,h5⟩:=qz (RS.o.Z P.o P.o.size).rF hj;obtain⟨X,y0,y1,y2,y3,eY,k0,k1,k2,k3⟩:=Cb (RS.o.Z P.o P.o.size).rY hq;have HY2:ak (-1048576<=y2/\y2<=1048576):=⟨((RB.o.Z P.o P.o.size) q hq X eY).2 y2 k2⟩;obtain⟨_,fo⟩:=(RC.o.Z P.o P.o.size) j hj U eF;obtain⟨⟨agD,ahl⟩,sN,hls⟩:=fo f ⟨h0,h1,h2,h3,h4,h5⟩;rw[eF]at c0;rw[eY]at Y;have HF:ak _:=⟨hf⟩;have HT:ak _:=⟨sN⟩;have HL:ak _:=⟨hls⟩;clear M c3 c4 e0 e1 e2 e3 fo hf sN hls eF eY RS RC RB;go_wp2;refine kz aF aF (λL a' W=>∃G F B u D v C n A m t l y E:EN,I4 w.heap.size U X s f (y0,y1,y2,y3) j q w2 L G F B u D v C n A m t l y E W/\a'=⟨#[s.v,p.v,Pl FA p.tn fc,Q4 (Rn.row ⟨f0,f1,f2,f3,(j:Int),(q:Int)⟩),ae aj (a:Int),ae aj (b:Int),PK (OH ⟨w.heap.size,0,OJ⟩),PK (OH ⟨w.heap.size+1,0,OJ⟩),undef,PK (OH ⟨w.heap.size+1+1,0,OJ⟩),undef,undef,Pl OJ 0 0,ae aj 0,ae aj 0,G,F,undef,undef,undef,undef,Q4 #[Pl s.F s.fn s.fc,Pl s.Y s.yn s.yc,Pl s.P s.pn s.pc,ae aj s.ev,ae aj s.ld],Q4 #[Pl p.T p.tn p.tc,Pl p.S p.sn p.sc,Pl p.B p.bn p.bc,ae aj p.dir,ae aj p.wd,ae aj p.al,ae aj p.md,PF p.hy],Pl FA p.tn fc,Q4 #[ae aj f0,ae aj f1,ae aj f2,ae aj f3,ae aj (j:Int),ae aj (q:Int)],ae aj (a:Int),ae aj (b:Int),ae aj 0,ae aj 0,PF OZ,undef,B,u,D,v,C,n,A,m,t,l,y,E,undef,undef,undef,undef,undef,undef,undef,undef,undef,undef,undef,undef,undef,undef,undef,undef,undef,undef,undef,undef,undef,undef,undef,undef,undef,undef,undef,undef,undef,undef,undef,undef,undef,undef,undef,undef,undef,undef,undef,undef,undef,undef,undef,undef,undef,undef,undef,undef,undef,undef,undef,undef,undef,undef,undef,undef,undef,undef,undef],[]⟩) ?_ ?_ ?_
 .exact⟨undef,undef,undef,undef,undef,undef,undef,undef,undef,undef,undef,undef,undef,undef,{be:=aO (Below.refl _ _) 1,f0:=λh=>fD,f1:=λh=>fD,f2:=λh=>fD,f3:=λh=>fD,f4:=λh=>fD,f5:=λh=>fD,f6:=λh=>fD,f7:=λh=>fD,f8:=λh=>fD,f9:=λh=>fD,f10:=λh=>fD,f11:=λh=>fD,f12:=λh=>fD,f13:=λh=>fD,f14:=λh=>fD,f15:=λh=>fD},rfl⟩
 .rintro i o L a' W ho jx d ⟨G,F,B,u,D,v,C,n,A,m,t,l,y,E,c,rfl⟩
  have hi:i<16:=by
   have:=(Array.getElem?_eq_some_iff.1 ho).1;simpa using this
  have yE:i=0∨i=1∨i=2∨i=3∨i=4∨i=5∨i=6∨i=7∨i=8∨i=9∨i=10∨i=11∨i=12∨i=13∨i=14∨i=15:=aq;rcases yE with rfl|rfl|rfl|rfl|rfl|rfl|rfl|rfl|rfl|rfl|rfl|rfl|rfl|rfl|rfl|rfl
  all_goals(injection ho with ho;subst ho)
  all_goals(simp[Region.binds]at d)
  .refine wpOp_step rfl (λK hK=> ?_)
   go_simp;exact hK _ _ ⟨G,F,(PK (OH ⟨w.heap.size,0,OJ⟩)),u,D,v,C,n,A,m,t,l,y,E,{c with f0:=λ_=>rfl},rfl⟩
  .obtain rfl:=c.f0 d
   have c0:=av c0 c.be;refine wpOp_step rfl (λK hK=> ?_);go_simp;exact hK _ _ ⟨G,F,(PK (OH ⟨w.heap.size,0,OJ⟩)),(Pl (OH U) s.fn s.fc),D,v,C,n,A,m,t,l,y,E,{c with f1:=λ_=>rfl},rfl⟩
  .refine wpOp_step rfl (λK hK=> ?_)
   go_simp;exact hK _ _ ⟨G,F,B,u,(PK (OH ⟨w.heap.size+1+1,4,OJ⟩)),v,C,n,A,m,t,l,y,E,{c with f2:=λ_=>rfl},rfl⟩
  .obtain rfl:=c.f2 d
   have e4:=av e4 c.be;refine wpOp_step rfl (λK hK=> ?_);go_simp;exact hK _ _ ⟨G,F,B,u,(PK (OH ⟨w.heap.size+1+1,4,OJ⟩)),(ae aj (j:Int)),C,n,A,m,t,l,y,E,{c with f3:=λ_=>rfl},rfl⟩
  .obtain rfl:=c.f1 d.1
   obtain rfl:=c.f3 d.2;refine wpOp_step rfl (λK hK=> ?_);go_simp;exact hK _ _ ⟨G,F,B,(Pl (OH U) s.fn s.fc),D,(ae aj (j:Int)),(PK (OH (U.add (j*6)))),n,A,m,t,l,y,E,{c with f4:=λ_=>rfl},rfl⟩
  .obtain rfl:=c.f4 d
   have h0:=av h0 c.be;have h1:=av h1 c.be;have h2:=av h2 c.be;have h3:=av h3 c.be;have h4:=av h4 c.be;have h5:=av h5 c.be;refine wpOp_step rfl (λK hK=> ?_);go_simp;exact hK _ _ ⟨G,F,B,u,D,v,(PK (OH (U.add (j*6)))),f.v,A,m,t,l,y,E,{c with f5:=λ_=>rfl},rfl⟩
  .refine wpOp_step rfl (λK hK=> ?_)
   go_simp;exact hK _ _ ⟨G,F,B,u,D,v,C,n,(PK (OH ⟨w.heap.size,1,OJ⟩)),m,t,l,y,E,{c with f6:=λ_=>rfl},rfl⟩
  .obtain rfl:=c.f6 d
   have Y:=av Y c.be;refine wpOp_step rfl (λK hK=> ?_);go_simp;exact hK _ _ ⟨G,F,B,u,D,v,C,n,(PK (OH ⟨w.heap.size,1,OJ⟩)),(Pl (OH X) s.yn s.yc),t,l,y,E,{c with f7:=λ_=>rfl},rfl⟩
  .refine wpOp_step rfl (λK hK=> ?_)
   go_simp;exact hK _ _ ⟨G,F,B,u,D,v,C,n,A,m,(PK (OH ⟨w.heap.size+1+1,5,OJ⟩)),l,y,E,{c with f8:=λ_=>rfl},rfl⟩
  .obtain rfl:=c.f8 d
   have e5:=av e5 c.be;refine wpOp_step rfl (λK hK=> ?_);go_simp;exact hK _ _ ⟨G,F,B,u,D,v,C,n,A,m,(PK (OH ⟨w.heap.size+1+1,5,OJ⟩)),(ae aj (q:Int)),y,E,{c with f9:=λ_=>rfl},rfl⟩
  .obtain rfl:=c.f7 d.1
   obtain rfl:=c.f9 d.2;refine wpOp_step rfl (λK hK=> ?_);go_simp;exact hK _ _ ⟨G,F,B,u,D,v,C,n,A,(Pl (OH X) s.yn s.yc),t,(ae aj (q:Int)),(PK (OH (X.add (q*4)))),E,{c with f10:=λ_=>rfl},rfl⟩
  .obtain rfl:=c.f10 d
   have k0:=av k0 c.be;have k1:=av k1 c.be;have k2:=av k2 c.be;have k3:=av k3 c.be;refine wpOp_step rfl (λK hK=> ?_);go_simp;exact hK _ _ ⟨G,F,B,u,D,v,C,n,A,m,t,l,(PK (OH (X.add (q*4)))),(Q4 (Xm.row (y0,y1,y2,y3))),{c with f11:=λ_=>rfl},rfl⟩
  .refine wpOp_step rfl (λK hK=> ?_)
   go_simp;have l14:L 14=OZ:=by cases h:L 14 with|false=>rfl|true=>(have:=c.f14 h;rw[jx]at this;cases this)
   have bn:=aw W (RM bh 102);exact hK _ _ ⟨PK (OH ⟨W.heap.size,0,OJ⟩),F,B,u,D,v,C,n,A,m,t,l,y,E,{c with be:=c.be.trans (bn.mono c.be.size),f12:=λ_=>⟨_,rfl,c.be.size,by show Bx _ _ (if L 14 then _ else _);rw[l14];exact Bx.new _ _ _⟩,f13:=λh=>(by obtain⟨g,h1,h2,h3⟩:=c.f13 h;exact⟨g,h1,h2,h3.ar bn h3.lt⟩),f14:=λ_=>rfl},rfl⟩
  .refine wpOp_step rfl (λK hK=> ?_)
   go_simp;have l15:L 15=OZ:=by cases h:L 15 with|false=>rfl|true=>(have:=c.f15 h;rw[jx]at this;cases this)
   have bn:=aw W (RM ah 194);exact hK _ _ ⟨G,PK (OH ⟨W.heap.size,0,OJ⟩),B,u,D,v,C,n,A,m,t,l,y,E,{c with be:=c.be.trans (bn.mono c.be.size),f13:=λ_=>⟨_,rfl,c.be.size,by show Bx _ _ (if L 15 then _ else _);rw[l15];exact Bx.new _ _ _⟩,f12:=λh=>(by obtain⟨g,h1,h2,h3⟩:=c.f12 h;exact⟨g,h1,h2,h3.ar bn h3.lt⟩),f15:=λ_=>rfl},rfl⟩
  .have hp5:=c.f5 d.2.1
   subst hp5;obtain⟨H,rfl,tS,J⟩:=c.f12 d.1;obtain⟨n2,rfl,Z,I⟩:=c.f13 d.2.2.2.2.2.2.2.2.2;have fh:n2≠H:=λe=>by subst e;have:=J.aah I;rw[Pc,Qw]at this;omega
   obtain⟨ty,hg⟩:=J;have hr:=setRow_heap _ _ _ f.row _ _ hg;refine wpOp_step rfl (λK hK=> ?_);refine wp_store_row 102 (.tmp 15) (.tmp 36) rfl H f.row rfl rfl ty _ hg Xa (by rw[Pc];rfl) ed ?_;exact hK _ _ ⟨_,_,B,u,D,v,C,f.v,A,m,t,l,y,E,{c with be:=below_setRow c.be tS _,f12:=λ_=>⟨H,rfl,tS,⟨ty,hr⟩⟩,f13:=λ_=>⟨n2,rfl,Z,I.Ad fh _⟩,f14:=λ_=>d.1},rfl⟩
  .have hp5:=c.f11 d.2.1
   subst hp5;obtain⟨H,rfl,tS,J⟩:=c.f12 d.2.2.2.2.2.2.2.2.2.2.2.2.2.2.2.1;obtain⟨n2,rfl,Z,I⟩:=c.f13 d.1;have fh:H≠n2:=λe=>by subst e;have:=J.aah I;rw[Pc,Qw]at this;omega
   obtain⟨ty,hg⟩:=I;have hr:=setRow_heap _ _ _ (Xm.row (y0,y1,y2,y3)) _ _ hg;refine wpOp_step rfl (λK hK=> ?_);refine wp_store_row 194 (.tmp 16) (.tmp 42) rfl n2 (Xm.row (y0,y1,y2,y3)) rfl rfl ty _ hg UI (by rw[Qw];rfl) ed ?_;exact hK _ _ ⟨_,_,B,u,D,v,C,n,A,m,t,l,y,(Q4 (Xm.row (y0,y1,y2,y3))),{c with be:=below_setRow c.be Z _,f13:=λ_=>⟨n2,rfl,Z,⟨ty,hr⟩⟩,f12:=λ_=>⟨H,rfl,tS,J.Ad fh _⟩,f15:=λ_=>d.1},rfl⟩
 rintro L a' W Q ⟨G,F,B,u,D,v,C,n,A,m,t,l,y,E,c,rfl⟩;have l12:=Q 12 aT;have l13:=Q 13 aT;have l14:=Q 14 aT;have l15:=Q 15 aT;clear Q;obtain⟨H,rfl,tS,J⟩:=c.f12 l12;obtain⟨n2,rfl,Z,I⟩:=c.f13 l13;rw[if_pos l14]at J;rw[if_pos l15]at I;have be:=c.be;have B5:ak (az w W):=⟨B1.o.trans ((P.o.trans (be.mono gz)).mono B1.o.size)⟩;have Y1:ak _:=⟨J⟩;have Y2:ak _:=⟨I⟩;have Y3:ak _:=⟨(X2.o.ar P.o X2.o.lt).ar be (by have:=X2.o.lt;omega)⟩;have Y4:ak _:=⟨(X3.o.ar P.o X3.o.lt).ar be (by have:=X3.o.lt;omega)⟩;have RF5:ak _:=⟨HF.o.Z be be.size⟩;have RT5:ak _:=⟨HT.o.Z be be.size⟩;have RL5:ak _:=⟨HL.o.Z be be.size⟩;have RP5:ak _:=⟨(RP.o.ar P.o).ar be⟩;have RG5:ak _:=⟨(RF.o.Z P.o gz).Z be be.size⟩;have sO:=be.size;clear c l12 l13 l14 l15 J I be c0 Y e4 e5 h0 h1 h2 h3 h4 h5 k0 k1 k2 k3 X1 X2 X3 B1 P HF HT HL RP RF;dsimp only;have⟨c0,Y,M,c3,c4,c5⟩:=Y1.o.f6;have⟨e0,e1,e2,e3,e4,e5⟩:=Y4.o.c6;have⟨k0,k1,k2,k3⟩:=Y2.o.c4;dsimp only at e0 e1 e2 e3 e4 e5 k0 k1 k2 k3;have OC:ak _:=⟨agC f f3 y3 W RF5.o RT5.o⟩;go_wp2_with fail;refine OC.o.mono ?_;rintro e w6 ⟨A1,m1,d1,A2,m2,d2,rfl,Ja,Um,o1,o2,_,b6⟩;have bx:az W (w6.alloc (RM (dq A1 m1 d1 A2 m2 d2) 211)):=b6.alloc b6.size _;have Z5:ak (Bx (w6.alloc (RM (dq A1 m1 d1 A2 m2 d2) 211)) w6.heap.size (dq A1 m1 d1 A2 m2 d2)):=⟨Bx.new _ _ _⟩;have S1:ak _:=⟨(o1.alloc (RM (dq A1 m1 d1 A2 m2 d2) 211)).rq aq⟩;have S2:ak _:=⟨(o2.alloc (RM (dq A1 m1 d1 A2 m2 d2) 211)).rq aq⟩;generalize zv:w6.alloc (RM (dq A1 m1 d1 A2 m2 d2) 211)=w7 at*;have B7:ak (az w w7):=⟨B5.o.trans (bx.mono B5.o.size)⟩;have Z1:ak _:=⟨Y1.o.ar bx Y1.o.lt⟩;have Z2:ak _:=⟨Y2.o.ar bx Y2.o.lt⟩;have Z3:ak _:=⟨Y3.o.ar bx Y3.o.lt⟩;have Z4:ak _:=⟨Y4.o.ar bx Y4.o.lt⟩;have RF7:ak _:=⟨RF5.o.Z bx bx.size⟩;have RL7:ak _:=⟨RL5.o.Z bx bx.size⟩;have RP7:ak _:=⟨RP5.o.ar bx⟩;have RG7:ak _:=⟨RG5.o.Z bx bx.size⟩;have HW7:ak _:=⟨zv⟩;clear o1 o2 b6 bx c0 Y M c3 c4 c5 e0 e1 e2 e3 e4 e5 k0 k1 k2 k3 OC Y1 Y2 Y3 Y4 RF5 RT5 RL5 RP5 RG5 zv;go_wp2_with fail;rw[HW7.o];clear HW7;obtain⟨AT,ct,CT⟩:=jC Mp p.T p.tn p.tc a b ja hb RP7.o.rT.le (a:Int) (b:Int) rfl rfl;obtain⟨AF,cf,CF⟩:=jC l5 FA p.tn fc a b ja hb hfc (a:Int) (b:Int) rfl rfl;have rt:=CT.run;have rf:=CF.run;have TT:ak _:=⟨CT.gI RP7.o.rT⟩;have TF:ak (Iw w7 w7.heap.size .i64 aK AF (b-a)):=⟨by obtain⟨xs,h1,h2⟩:=RG7.o;exact⟨_,CF.at_ h1,λ_ _=>trivial⟩⟩;clear CT CF;have ecl:(a:Int)+((b-a:Nat):Int)=(b:Int):=aq;have LD:ak (∀W',az w7 W'->GK prog 132 #[f.v,Pl AT (b-a) ct,Pl AF (b-a) cf,ae aj f2,ae aj (a:Int)] W' (Uk W' (bI a b) (b-a))):=⟨λW' hb=>by
  have h:=acd f AT (b-a) ct _ AF cf f2 a W' (RF7.o.Z hb hb.size) (TT.o.ar hb) (TF.o.Z hb hb.size) aq aq;rwa [ecl]at h⟩
 clear ecl;have CF7:ak _:=⟨And.intro Z1.o.f6 (And.intro (Z5.o.cell 0) (And.intro (Z3.o.cell 0) (Z4.o.cell 2)))⟩;go_region_held3 (λN=>(N.cell? ⟨H,0,OJ⟩=OH (ae aj f.em)/\N.cell? ⟨H,1,OJ⟩=OH (Pl f.G f.gn f.gc)/\N.cell? ⟨H,2,OJ⟩=OH (Pl f.M f.mn f.mc)/\N.cell? ⟨H,3,OJ⟩=OH (Pl f.L f.ln f.lc)/\N.cell? ⟨H,4,OJ⟩=OH (Pl f.F f.fn f.fc)/\N.cell? ⟨H,5,OJ⟩=OH (Pl f.S f.sn f.sc))/\N.cell? ⟨w6.heap.size,0,OJ⟩=OH (Pl A1 m1 d1)/\N.cell? ⟨w.heap.size+1,0,OJ⟩=OH (Pl p.T p.tn p.tc)/\N.cell? ⟨w.heap.size+1+1,2,OJ⟩=OH (ae aj f2))
  (first|exact CF9.o|exact CF8.o|exact CF7.o)
  (first
   |(go_at_call 132;refine(LD.o _ (aO (Below.refl _ _) 1)).mono ?_;rintro e w8 ⟨A8,c8,rfl,o8,b8⟩;have GL8:ak _:=⟨o8.rl aq⟩;have hc8:=o8.le;have O:ak (az w7 w8):=⟨(aO (Below.refl _ _) 1).trans b8⟩;have CF8:ak _:=⟨And.intro (Z1.o.ar O.o Z1.o.lt).f6 (And.intro ((Z5.o.ar O.o Z5.o.lt).cell 0) (And.intro ((Z3.o.ar O.o Z3.o.lt).cell 0) ((Z4.o.ar O.o Z4.o.lt).cell 2)))⟩;clear o8 b8 LD)
   |(go_at_call 131;refine(ac5 f (a:Int) (b:Int) A1 m1 d1 A8 (b-a) c8 _ (RF7.o.Z O.o O.o.size) (RL7.o.Z O.o O.o.size) GL8.o aq aq (S1.o.Z O.o O.o.size) aq).mono ?_;rintro e V ⟨A9,m9,c9,rfl,g9,hc9,hm9,b9⟩;have GL9:ak _:=⟨g9⟩;have T:ak (az w7 V):=⟨O.o.trans (b9.mono O.o.size)⟩;have CF9:ak _:=⟨And.intro (Z1.o.ar T.o Z1.o.lt).f6 (And.intro ((Z5.o.ar T.o Z5.o.lt).cell 0) (And.intro ((Z3.o.ar T.o Z3.o.lt).cell 0) ((Z4.o.ar T.o Z4.o.lt).cell 2)))⟩;clear g9 b9))
 have hs9:=T.o.size;have BT:ak (az w V):=⟨B7.o.trans (T.o.mono B7.o.size)⟩;have V1:ak _:=⟨Z1.o.ar T.o Z1.o.lt⟩;have V2:ak _:=⟨Z2.o.ar T.o Z2.o.lt⟩;have V5:ak _:=⟨Z5.o.ar T.o Z5.o.lt⟩;have RF9:ak _:=⟨RF7.o.Z T.o T.o.size⟩;have S9:ak _:=⟨S2.o.Z T.o T.o.size⟩;clear CF7 CF8 CF9 T O B7 Z1 Z2 Z3 Z4 Z5 RF7 RL7 RP7 RG7 TT TF S1 S2 GL8 rt rf;go_wp2_with (at_builtin;refine cL (L':=bI a b) pT rfl (.tmp 67) (.tmp 68) rfl rfl (OL.nil (L:=λxs=>xs=[]) V V.heap.size _ _ rfl) rfl GL9.o (λxs ys _ _ _ _ h1 h2=>Dd) aq cr ?_;intro A0 k0 w0 o0 b0;have O0:ak _:=⟨o0⟩;have B0:ak (az V w0):=⟨b0⟩;clear o0 b0);rw[Nat.zero_add]at*;go_loopg[20](m9+1)(λgg v20 wr=>∃(i:Nat),m9-i<gg/\i<=m9/\v20=ae aj (i:Int)/\ak (iZ wr V.heap.size (bI a b) A0 m9 k0)/\ak (az V wr))
 .exact⟨0,aq,aq,rfl,O0,B0⟩
 clear O0 B0;obtain⟨i,hg,hi,rfl,OE,BE⟩:=hrel;have hsr:=BE.o.size;have⟨c0,Y,M,c3,c4,c5⟩:=(V1.o.ar BE.o V1.o.lt).f6;have RR:ak _:=⟨RF9.o.Z BE.o BE.o.size⟩;by_cases aG:i<m9
 .have i4:=aU i m9
  obtain⟨g,rfl,eU,dV⟩:=OE.o.form aq;obtain⟨x0,x1,x2,x3,x4,x5,x6,x7,x8,x9,_,e0,_⟩:=OE.o.o.bK aG;have L0:=au c0;have L1:=au Y;have L2:=au M;have L3:=au c3;have L4:=au c4;have L5:=au c5;have LE:=au e0
  clear c0 Y M c3 c4 c5 e0;go_wp2;refine aQ (jD 84 ZI) 11 rfl aF aF aF aF aF rfl ?_
  repeat(refine cH aD aD aD ?_;intro K9 bQ;go_big_quiet_op;go_big_quiet_on)
  refine dA ZI aD aD (λV cv=> ?_) (λv9 aX=> ?_)
  .obtain⟨nq,rfl⟩:=cv
   go_simp;refine aZ ZI ((ac0 f x0 nq.1 (RR.o.Z nq.2 nq.2.size)).mono ?_);rintro e w5 ⟨z,rfl,hb⟩;exact⟨_,rfl,⟨z,rfl⟩,hb⟩
  obtain⟨_,_,z,rfl⟩:=aX;simp[Act.put]
  repeat(refine cH aD aD aD ?_;intro K9 bQ;go_big_quiet_op;go_big_quiet_on)
  intro nq hE;have O4:ak _:=⟨OE.o.ar nq.2⟩;have B4:ak (az V nq.1):=⟨BE.o.trans (nq.2.mono hsr)⟩;obtain⟨_,_,y2,_,_,_,_,_,_,_,_,_,_,e2,_⟩:=O4.o.o.bK aG;have f2':=O4.o.fz (i*10+2);have O6:ak (iZ (nq.1.setCell ⟨g,i*10+2,OJ⟩ (ae aj z)) V.heap.size (bI a b) (OH ⟨g,0,OJ⟩) m9 k0):=⟨O4.o.me aG aq aq z⟩;have B6:ak (az V (nq.1.setCell ⟨g,i*10+2,OJ⟩ (ae aj z))):=⟨Below.setCell B4.o (p:=⟨g,i*10+2,OJ⟩) O4.o.lt.1 _⟩;clear hE L0 L1 L2 L3 L4 L5 LE;go_simp;go_wp2;go_roundg(m9-i)
  case measure=>omega
  case rel=>exact⟨i+1,aq,aq,aV,O6,B6⟩
 obtain rfl:i=m9:=aq;have p1:wr.cell? ⟨w6.heap.size,1,OJ⟩=OH (Pl A2 m2 d2):=(V5.o.ar BE.o V5.o.lt).cell 1;have nE:i<=k0:=OE.o.le;go_wp2_with fail;refine(aei f (a:Int) (b:Int) A2 m2 d2 A0 i k0 wr RR.o (OE.o.rl aq) nE aq (S9.o.Z BE.o BE.o.size) aq).mono ?_;rintro e w3 ⟨A3,k3,rfl,hk3,g3,b3⟩;have G3:ak _:=⟨g3⟩;have B3:ak (az V w3):=⟨BE.o.trans (b3.mono hsr)⟩;clear g3 b3 c0 Y M c3 c4 c5 p1 RR;go_wp2_with fail;refine(Pf (a:Int) (b:Int) A3 i k3 w3 G3.o aq).mono ?_;rintro e w4 ⟨A4,k4,rfl,o4,b4⟩;have G4:ak (lF w4 (fY Lw a b) A4 i):=⟨o4.rl aq⟩;have B4:ak (az V w4):=⟨B3.o.trans (b4.mono B3.o.size)⟩;have U1:ak _:=⟨V1.o.ar B4.o V1.o.lt⟩;have S:ak _:=⟨V2.o.ar B4.o V2.o.lt⟩;have JY:=B4.o.size;clear o4 b4 V1 V2 V5;go_wp2;have CF7:ak _:=⟨And.intro U1.o.f6 (And.intro (S.o.cell 1) (S.o.cell 2))⟩;go_region_held3 (λN=>(N.cell? ⟨H,0,OJ⟩=OH (ae aj f.em)/\N.cell? ⟨H,1,OJ⟩=OH (Pl f.G f.gn f.gc)/\N.cell? ⟨H,2,OJ⟩=OH (Pl f.M f.mn f.mc)/\N.cell? ⟨H,3,OJ⟩=OH (Pl f.L f.ln f.lc)/\N.cell? ⟨H,4,OJ⟩=OH (Pl f.F f.fn f.fc)/\N.cell? ⟨H,5,OJ⟩=OH (Pl f.S f.sn f.sc))/\N.cell? ⟨n2,1,OJ⟩=OH (ae aj y1)/\N.cell? ⟨n2,2,OJ⟩=OH (ae aj y2))
  (first|exact agu.o|exact CF9.o|exact CF8.o|exact CF7.o)
  (first
   |(go_at_call 138;refine(ab9 Lw a b (λ_ _ _ _ _ _ _ _ _ _ _ h1 h2 h=>⟨h1,h2⟩) A4 i k4 _ (G4.o.Z (aO (Below.refl _ _) 1) cr) aq).mono ?_;rintro e w5 ⟨m5,hm5,A5,c5,rfl,o5,b5⟩;have G5:ak _:=⟨o5.rl aq⟩;have R:ak (az w4 w5):=⟨(aO (Below.refl _ _) 1).trans b5⟩;have CF8:ak _:=⟨And.intro (U1.o.ar R.o U1.o.lt).f6 (And.intro ((S.o.ar R.o S.o.lt).cell 1) ((S.o.ar R.o S.o.lt).cell 2))⟩;clear o5 b5)
   |(go_at_call 137;refine(VZ f y1 Lw (Ui 0) a b (λ_ _ _ _ _ _ _ _ _ _ _ _ _ hq h=>⟨h,by have:=hq;unfold VR at this;show-_<=_/\_<=_;simp[nth];omega⟩) A5 m5 c5 _ agD ahl G5.o aq).mono ?_;rintro e w8 ⟨A8',Zl,rfl,o8,b8⟩;have O8:ak _:=⟨o8⟩;have O:ak (az w4 w8):=⟨R.o.trans (b8.mono R.o.size)⟩;have HB8:ak _:=⟨b8.size⟩;have CF9:ak _:=⟨And.intro (U1.o.ar O.o U1.o.lt).f6 (And.intro ((S.o.ar O.o S.o.lt).cell 1) ((S.o.ar O.o S.o.lt).cell 2))⟩;clear o8 b8)
   |(go_at_call 136;refine(QS Ui a b y2 (λ_ _ h=>h.up) (λ_ _ hx h=>h.set hx HY2.o) A8' m5 Zl w5.heap.size _ HB8.o O8.o aq).mono ?_;rintro e Zn ⟨rfl,o10,b10⟩;have G10:ak _:=⟨o10⟩;have HB5:=R.o.size;have agZ:=o10.le;have UT:ak (az w4 Zn):=⟨O.o.trans (b10.mono R.o.size)⟩;have agu:ak _:=⟨And.intro (U1.o.ar UT.o U1.o.lt).f6 (And.intro ((S.o.ar UT.o S.o.lt).cell 1) ((S.o.ar UT.o S.o.lt).cell 2))⟩;clear o10 b10))
 go_wp2;go_ret2;exact⟨A8',m5,Zl,0,rfl,agZ,aq,(G10.o.imp λxs _ _ h=>by obtain⟨k,hk,h⟩:=h;exact h.up λx _ hx=>hx.p (by omega)).cS (by have:=BT.o.size;omega),BT.o.trans ((B4.o.trans (UT.o.mono JY)).mono BT.o.size)⟩
def iN(n:Int)(w:EE):GK prog 179 #[ae aj n] w (PBe w):=by
 go_enter func179,ntmps179;go_wp2_with fail
 all_goals
  go_ret;exact⟨_,rfl,rfl⟩
def PWi(w:EE)(n lo hi:Int)(e:IS)(a:EE):Prop:=∃z:Bool,e=RE (PF z)/\(z=OX->lo<=n/\n<=hi)/\w=a
def dm(n lo hi:Int)(w:EE):GK prog 245 #[ae aj n,ae aj lo,ae aj hi] w (PWi w n lo hi):=by
 go_enter func245,ntmps245;go_wp2_with fail
 all_goals
  go_ret;exact⟨_,rfl,iY,rfl⟩
def kK(f:dv)(g:Int)(w:EE)(h:cC w w.heap.size f):GK prog 247 #[f.v,ae aj g] w (PB w):=by
 have a:=h.rG.bd;go_enter func247,ntmps247;go_wp2_with fail
 all_goals
  go_ret;exact⟨_,rfl,aw _ _⟩
def Qo(f:dv)(A:aB)(n c:Nat)(w:EE)(h:cC w w.heap.size f)(o:cU w w.heap.size eD A n c):GK prog 285 #[f.v,Pl A n c] w (PB w):=by
 have⟨C,e,a,q⟩:=box1 w f.row 102;have⟨R,RL⟩:=K' (h.Z a.o a.o.size) (o.Z a.o a.o.size);have M:=o.bd;go_enter func285,ntmps285;go_wp2;rw[<-e];clear e;go_loopg[5](n+1)(λgg x wr=>∃(i:Nat),n-i<gg/\i<=n/\x=ae aj (i:Int)/\ak (az C wr))
 .exact⟨0,aq,aq,rfl,cJ⟩
 obtain⟨i,G,hi,rfl,d⟩:=hrel;by_cases j:i<n;rotate_left
 .have t:=cI i n
  go_wp2;go_ret;exact⟨_,rfl,a.o.trans (d.o.mono a.o.size)⟩
 have t:=aU i n;have⟨c0,r,m,u,c4,c5⟩:=(q.o.ar d.o q.o.lt).f6;obtain⟨F,z,rfl,s⟩:=il (RL.o.Z d.o d.o.size) j;have B:=sH (R.o.Z d.o d.o.size);have⟨L0,L1,D,I,E,J⟩:=lc6 c0 r m u c4 c5;have L:=au s;go_wp2;refine aE (kC 17 SB) aF aF ?_
 repeat(refine cB aD aD aD ?_;intro v l;go_big_quiet_op;go_big_quiet_on)
 refine lsA SB (λg=> ?_) (λH k=> ?_)
 .go_simp
  exact bP (kK f z g.1 (B.o.Z g.2 g.2.size))
 obtain⟨b,rfl⟩:=k;simp[Act.put]
 repeat(refine cB aD aD aD ?_;intro v l;go_big_quiet_op;go_big_quiet_on)
 intro g;obtain⟨K,y⟩:=g;have p:=d.t y
 try dsimp only
 cases b
 .go_wp2
  go_ret;exact⟨_,rfl,a.o.trans (p.o.mono a.o.size)⟩
 .go_wp2
  go_roundg(n-i)
  .exact⟨i+1,aq,aq,aV,p⟩
  omega
def xR(A:aB)(n c:Nat)(w:EE)(f:cU w w.heap.size eD A n c):GK prog 246 #[Pl A n c] w (PB w):=by
 have RL:=sH f;have t:=f.bd;go_enter func246,ntmps246;go_wp2;go_loopg[3](n+1)(λgg v3 wr=>∃(i:Nat),n-i<gg/\1<=i/\v3=ae aj (i:Int)/\ak (az w wr))
 .exact⟨1,aq,aq,rfl,cJ⟩
 obtain⟨i,r,hi,rfl,a⟩:=hrel;by_cases e:i<n;rotate_left
 .have j:=cI i n
  go_wp2;go_ret;exact⟨_,rfl,a.o⟩
 have j:=aU i n;obtain⟨q,z,rfl,h⟩:=il (RL.o.Z a.o a.o.size) e;obtain⟨k,rfl⟩:∃k,i=k+1:=⟨i-1,aq⟩;obtain⟨m,y,d,s⟩:=il (RL.o.Z a.o a.o.size) (show k<n by omega);injection d with d
 subst d;rw[add_succ]at h;have wk:IntKind.i64.wrap ((k:Int)+1-1)=(k:Int):=zo;have o:=gT k;have p:=aU k n;go_wp2;go_quiet (fail);generalize b:wr.drewN _=l;have g:ak (az w l):=⟨by rw[<-b];exact aO a.o _⟩;clear b;go_wp2_with fail
 .go_ret
  exact⟨_,rfl,g.o⟩
 .go_roundg(n-(k+1))
  case measure=>omega
  case rel=>exact⟨k+1+1,aq,aq,aV,g⟩
def pG(f:dv)(A:aB)(n c:Nat)(w:EE)(h:cC w w.heap.size f)(o:cU w w.heap.size eD A n c):GK prog 248 #[f.v,Pl A n c] w (PB w):=by
 have⟨r,a,d,s⟩:=box1 w f.row 102;have⟨R,RL⟩:=K' (h.Z d.o d.o.size) (o.Z d.o d.o.size);have⟨c0,l,j,m,c4,c5⟩:=s.o.f6;have u:=o.bd;by_cases t:n<=4096;rotate_left
 .have k:¬(n:Int)<=4096:=by omega
  go_enter func248,ntmps248;go_wp2_with fail;rw[<-a];clear a;go_wp2;go_ret;exact⟨_,rfl,d.o⟩
 have k:(n:Int)<=4096:=aq;go_enter func248,ntmps248;go_wp2_with fail;rw[<-a];clear a;go_wp2_with fail;refine(xR A n c r RL.o).mono ?_;rintro e q ⟨b,rfl,i⟩;have g:=sH i;have c0:=av c0 i;have l:=av l i;have j:=av j i;have m:=av m i;have c4:=av c4 i;have c5:=av c5 i
 cases b
 .go_wp2
  go_ret;exact⟨_,rfl,d.o.trans (g.o.mono d.o.size)⟩
 .go_wp2_with fail
  refine(Qo f A n c q (R.o.Z g.o g.o.size) (RL.o.Z g.o g.o.size)).mono ?_;rintro e v ⟨b,rfl,p⟩;go_wp2;go_ret;exact⟨_,rfl,d.o.trans ((g.o.trans (p.mono g.o.size)).mono d.o.size)⟩
def PBe.pb{e:IS}(h:PBe w e a):PB w e a:=by
 obtain⟨z,b,rfl⟩:=h;exact⟨z,b,Below.refl _ _⟩
def mR(f:dv)(A:aB)(n c:Nat)(lo:Int)(w:EE)(h:cC w w.heap.size f)(p:cU w w.heap.size (.arr eD) A n c):GK prog 290 #[f.v,Pl A n c,ae aj lo] w (PB w):=by
 have⟨H,j,a,q⟩:=box1 w f.row 102;have⟨R,RL⟩:=K' (h.Z a.o a.o.size) (p.Z a.o a.o.size);have M:=p.bd;go_enter func290,ntmps290;go_wp2;rw[<-j];clear j;go_loopg[7](n+1)(λgg v7 wr=>∃(i:Nat),n-i<gg/\i<=n/\v7=ae aj (i:Int)/\ak (az H wr))
 .exact⟨0,aq,aq,rfl,cJ⟩
 obtain⟨i,I,hi,rfl,d⟩:=hrel;by_cases k:i<n;rotate_left
 .have C:=cI i n
  go_wp2_with fail;refine(dm _ _ _ _).mono ?_;rintro e _ ⟨z,rfl,_,rfl⟩;go_wp2;go_ret;exact⟨_,rfl,a.o.trans (d.o.mono a.o.size)⟩
 have C:=aU i n;have⟨c0,x,m,u,c4,c5⟩:=(q.o.ar d.o q.o.lt).f6;obtain⟨P,E,s,y,rfl,v,B⟩:=fR (RL.o.Z d.o d.o.size) k;have⟨G,t⟩:=K' (R.o.Z d.o d.o.size) v;have⟨L0,L1,N,Q,O,S⟩:=lc6 c0 x m u c4 c5;have L:=au B;go_wp2;refine aE (kC 19 SB) aF aF ?_
 repeat(refine cB aD aD aD ?_;intro D o;go_big_quiet_op;go_big_quiet_on)
 refine lsA SB (λg=> ?_) (λJ l=> ?_)
 .go_simp
  exact bP (pG f E s y g.1 (G.o.Z g.2 g.2.size) (t.o.Z g.2 g.2.size))
 obtain⟨b,rfl⟩:=l;simp[Act.put]
 repeat(refine cB aD aD aD ?_;intro D o;go_big_quiet_op;go_big_quiet_on)
 intro g;obtain⟨K,F⟩:=g;have r:=d.t F
 try dsimp only
 cases b
 .go_wp2
  go_ret;exact⟨_,rfl,a.o.trans (r.o.mono a.o.size)⟩
 .go_wp2
  go_roundg(n-i)
  .exact⟨i+1,aq,aq,aV,r⟩
  omega
def PGy(w:EE)(f:dv)(e:IS)(a:EE):Prop:=∃z:Bool,e=RE (PF z)/\(z=OX->1<=f.em/\f.em<=16384)/\az w a
def afh(s:G:=by
 have i5:¬(k:Int)<(x.kn:Int):=by omega
 go_wp2;go_roundg(n-i)
 .exact⟨i+1,aq,aq,aV,B3⟩
 omega):G:=s
def MZ(f:dv)(w:EE)(h:cC w w.heap.size f):GK prog 174 #[f.v] w (PGy w f):=by
 have⟨W1,C,j,N⟩:=box1 w f.row 102;have R:=sH (h.Z j.o j.o.size);have hn:=h.rG.bd;have⟨n,s⟩:=eY f.gn;have L:=sH s;have⟨c0,t,o,I,c4,c5⟩:=N.o.f6;rw[s]at hn;clear h s;go_enter func174,ntmps174;go_wp2_with fail;rw[<-C];clear C;go_wp2_with fail;refine(dm _ _ _ _).mono ?_;rintro e _ ⟨z,rfl,c,rfl⟩;cases z
 .go_wp2
  go_ret;exact⟨_,rfl,aT,j.o⟩
 have HE:=sH (c rfl);clear c;go_wp2_with fail;refine(dm _ _ _ _).mono ?_;rintro e _ ⟨z,rfl,_,rfl⟩;cases z
 .go_wp2
  go_ret;exact⟨_,rfl,aT,j.o⟩
 rw[L.o]at t;go_wp2;go_loopg[3,4,5](n+1)(λgg v3 _ _ wr=>∃(i:Nat),n-i<gg/\i<=n/\v3=ae aj (i:Int)/\ak (az W1 wr))
 .exact⟨0,aq,aq,rfl,cJ⟩
 obtain⟨i,hg,hi,rfl,u⟩:=hrel;clear c0 t o I c4 c5;have⟨c0,t,o,I,c4,c5⟩:=(N.o.ar u.o N.o.lt).f6;rw[L.o]at t;have hs:=u.o.size;by_cases G:i<n;rotate_left
 .have i4:=cI i n
  go_wp2;go_ret;exact⟨_,rfl,λ_=>HE.o,j.o.trans (u.o.mono j.o.size)⟩
 have i4:=aU i n;obtain⟨adG,x,T,S,Y,e1,e2,e3⟩:=Zq (R.o.Z u.o u.o.size).rG (by rw[L.o];exact G);rw[T]at t;have X:=sH S.rK;have lz:=S.rK.bd;clear T S;have⟨g,cg⟩:=eX (wr.alloc (RM #[ae aj x.adv,ae aj x.kind,ae aj x.att,Pl x.K x.kn x.kc] 266));have A:az wr g:=jT;have r:ak (Bx g wr.heap.size #[ae aj x.adv,ae aj x.kind,ae aj x.att,Pl x.K x.kn x.kc]):=⟨lY⟩;have⟨W,p⟩:=K' (u.o.trans (A.mono hs)) (X.o.Z A A.size);have gz:=A.size;have O:wr.heap.size<g.heap.size:=r.o.lt;have d0:g.cell? ⟨wr.heap.size,0,OJ⟩=OH (ae aj x.adv):=r.o.cell 0;have Z:g.cell? ⟨wr.heap.size,1,OJ⟩=OH (ae aj x.kind):=r.o.cell 1;have d2:g.cell? ⟨wr.heap.size,2,OJ⟩=OH (ae aj x.att):=r.o.cell 2;have M:g.cell? ⟨wr.heap.size,3,OJ⟩=OH (Pl x.K x.kn x.kc):=r.o.cell 3;have d:=j.t W.o;clear X A;go_wp2_with fail;refine(iN _ _).mono ?_;rintro e _ ⟨z,rfl,c⟩;rw[<-c,<-cg];clear c cg Y e1 e2 e3 c0 t o I c4 c5;cases z
 .go_wp2
  go_ret;exact⟨_,rfl,aT,d.o⟩
 go_wp2_with fail;refine(dm _ _ _ _).mono ?_;rintro e _ ⟨z,rfl,_,rfl⟩;cases z
 .go_wp2
  go_ret;exact⟨_,rfl,aT,d.o⟩
 go_wp2_with fail;refine(dm _ _ _ _).mono ?_;rintro e _ ⟨z,rfl,_,rfl⟩;cases z
 .go_wp2
  go_ret;exact⟨_,rfl,aT,d.o⟩
 by_cases h15:x.kn<=15;rotate_left
 .have B:(15:Int)<(x.kn:Int):=by omega
  go_wp2;go_ret;exact⟨_,rfl,aT,d.o⟩
 have B:¬(15:Int)<(x.kn:Int):=aq;go_wp2_with fail;refine(xR x.K x.kn x.kc g p.o).mono ?_;rintro e E ⟨z,rfl,y⟩;have B3:ak (az W1 E):=⟨W.o.trans (y.mono aq)⟩;have m:=j.t B3.o;have⟨P,Q⟩:=K' (r.o.ar y O) (p.o.Z y y.size);clear y d0 Z d2 M r p;have Z:E.cell? ⟨wr.heap.size,1,OJ⟩=OH (ae aj x.kind):=P.o.cell 1;have M:E.cell? ⟨wr.heap.size,3,OJ⟩=OH (Pl x.K x.kn x.kc):=P.o.cell 3;cases z
 .go_wp2
  go_ret;exact⟨_,rfl,aT,m.o⟩
 by_cases D:0<x.kn/\x.kind≠2
 .have F:decide (0<x.kn)=OX:=Je
  have q2:(x.kind !=2)=OX:=br;clear D;go_wp2;go_ret;exact⟨_,rfl,aT,m.o⟩
 have q:(decide (0<x.kn)&&(x.kind !=2))=OZ:=by
  rcases Nat.eq_zero_or_pos x.kn with h|h
  .simp[h]
  .have:x.kind=2:=by omega
   simp[this]
 clear D;have⟨kd,v⟩:=eY x.kn;have V:=P.o.lt;rcases Nat.eq_zero_or_pos x.kn with c|c
 .have F:decide (0<x.kn)=OZ:=by simp[c]
  clear q v;go_wp2;have⟨H,a⟩:=eX E;rw[<-a];clear F;go_loopg[5](x.kn+1)(λgg K wr=>∃(k:Nat),x.kn-k<gg/\k<=x.kn/\K=ae aj (k:Int)/\wr=H)
  .exact⟨0,aq,aq,rfl,rfl⟩
  obtain⟨k,J,hk,rfl,rfl⟩:=hrel;subst a;by_cases l:k<x.kn;rotate_left
  .exact afh
  exact absurd l aq
 .have F:decide (0<x.kn)=OX:=by simp[c]
  have q2:(x.kind !=2)=OZ:=by simpa[c]using q
  clear q v;go_wp2;have⟨H,a⟩:=eX E;rw[<-a];clear F;go_loopg[5](x.kn+1)(λgg K wr=>∃(k:Nat),x.kn-k<gg/\k<=x.kn/\K=ae aj (k:Int)/\wr=H)
  .exact⟨0,aq,aq,rfl,rfl⟩
  obtain⟨k,J,hk,rfl,rfl⟩:=hrel;subst a;by_cases l:k<x.kn;rotate_left
  .exact afh
  have i5:(k:Int)<(x.kn:Int):=aq;obtain⟨adk,z,U,Y⟩:=il Q.o l;rw[U]at M;clear U;go_wp2_with fail;refine(iN _ _).mono ?_;rintro e _ ⟨b,rfl,rfl⟩;cases b
  .go_wp2
   go_ret;exact⟨_,rfl,aT,m.o⟩
  .go_wp2
   go_roundg(x.kn-k)
   .exact⟨k+1,aq,aq,aV,rfl⟩
   omega
def Tv(s:G:=by
 go_wp2
 go_ret;exact⟨_,rfl,aw _ _⟩):G:=s
def yZ(x y z:Int)(w:EE):GK prog 291 #[Q4 #[ae aj x,ae aj y,ae aj z]] w (PB w):=by
 go_enter func291,ntmps291;go_wp2_with fail;refine(iN _ _).mono ?_;rintro e _ ⟨z,rfl,rfl⟩;cases z
 .exact Tv
 go_wp2_with fail;refine(iN _ _).mono ?_;rintro e _ ⟨z,rfl,rfl⟩;cases z
 .exact Tv
 go_wp2_with fail;refine(iN _ _).mono ?_;rintro e _ ⟨z,rfl,rfl⟩;go_wp2;go_ret;exact⟨_,rfl,aw _ _⟩
def pQ(x y:Int)(h:Bool)(w:EE):GK prog 311 #[Q4 #[ae aj x,ae aj y],PF h] w (PB w):=by
 go_enter func311,ntmps311;go_wp2_with fail;refine(iN _ _).mono ?_;rintro e _ ⟨z,rfl,rfl⟩;cases z
 .exact Tv
 go_wp2_with fail;refine(iN _ _).mono ?_;rintro e _ ⟨z,rfl,rfl⟩;cases z
 .exact Tv
 cases h
 .by_cases a:x=0
  .have b:(x==0)=OX:=by simp[a]
   go_wp2;go_ret;exact⟨_,rfl,aw _ _⟩
  .have b:(x==0)=OZ:=by simp[a]
   go_wp2;go_ret;exact⟨_,rfl,aw _ _⟩
 .exact Tv
def maT(d:Option Tmp):Option (EN->Prop):=if d=OH 30 then OH SB else if d=OH 36 then OH SB else OJ
def afb(s:G:=by
 simp[Act.put]
 refine mSk ?_;intro nq;obtain⟨w6,bq⟩:=nq;have BX:=B2.t bq
 try dsimp only
 go_wp2;go_ret;exact⟨_,rfl,B1.o.trans (BX.o.mono B1.o.size)⟩):G:=s
def aat(f:dv)(w:EE)(h:cC w w.heap.size f):GK prog 175 #[f.v] w (PB w):=by
 have⟨N,c,B1,r⟩:=box1 w f.row 102;have R:=sH (h.Z B1.o B1.o.size);have hn:=h.rM.bd;have hm:=h.rS.bd;obtain⟨X,G,gn,gc,M,n,W,L,Q,T,F,fn,Y,S,m,sc⟩:=f;dsimp only at*;by_cases q1:4096<n
 .have I:=aU 4096 n
  go_enter func175,ntmps175;go_wp2_with fail;rw[<-c];clear c;go_wp2;go_ret;exact⟨_,rfl,B1.o⟩
 have I:=cI 4096 n;by_cases q2:16<m
 .have z:=aU 16 m
  go_enter func175,ntmps175;go_wp2_with fail;rw[<-c];clear c;go_wp2;go_ret;exact⟨_,rfl,B1.o⟩
 have z:=cI 16 m;go_enter func175,ntmps175;go_wp2_with fail;rw[<-c];clear c;go_wp2;go_loopg[3,4](n+1)(λgg v3 _ wr=>∃(i:Nat),n-i<gg/\i<=n/\v3=ae aj (i:Int)/\ak (az N wr))
 .exact⟨0,aq,aq,rfl,cJ⟩
 obtain⟨i,hg,hi,rfl,a⟩:=hrel;have⟨c0,q,e,p,c4,c5⟩:=(r.o.ar a.o r.o.lt).f6;dsimp only at c0 q e p c4 c5;have hs:=a.o.size;by_cases B:i<n;rotate_left
 .have i4:=cI i n
  go_wp2;have⟨wo,g⟩:=eX wr;have BO:ak (az N wo):=⟨by rw[g];exact a.o⟩;rw[<-g];clear g;go_loopg[5](m+1)(λgg v5 wr=>∃(j:Nat),m-j<gg/\j<=m/\v5=ae aj (j:Int)/\ak (az N wr))
  .exact⟨0,aq,aq,rfl,BO⟩
  obtain⟨j,dV,hj,rfl,a⟩:=hrel;have⟨c0,q,e,p,c4,c5⟩:=(r.o.ar a.o r.o.lt).f6;dsimp only at c0 q e p c4 c5;by_cases H:j<m;rotate_left
  .have i5:=cI j m
   go_wp2;go_ret;exact⟨_,rfl,B1.o.trans (a.o.mono B1.o.size)⟩
  have i5:=aU j m;obtain⟨y,A2,n2,k2,eS,h2,e0⟩:=fR (R.o.Z a.o a.o.size).rS H;dsimp only at eS;subst eS;have⟨K,R2⟩:=K' (R.o.Z a.o a.o.size) h2;go_wp2;have⟨L0,L1,L2,L3,L4,L5⟩:=lc6 c0 q e p c4 c5;have LE:=au e0;refine aE (kC 68 SB) aF aF ?_
  repeat(refine cB aD aD aD ?_;intro K9 J;go_big_quiet_op;go_big_quiet_on)
  refine lsA SB (λnq=> ?_) (λV d=> ?_)
  .go_simp
   exact bP (pG ⟨X,G,gn,gc,M,n,W,L,Q,T,F,fn,Y,OH y,m,sc⟩ A2 n2 k2 nq.1 (K.o.Z nq.2 nq.2.size) (R2.o.Z nq.2 nq.2.size))
  obtain⟨b,rfl⟩:=d;simp[Act.put]
  repeat(refine cB aD aD aD ?_;intro K9 J;go_big_quiet_op;go_big_quiet_on)
  intro nq;obtain⟨w6,bq⟩:=nq;have BX:=a.t bq
  try dsimp only
  cases b
  .go_wp2
   go_ret;exact⟨_,rfl,B1.o.trans (BX.o.mono B1.o.size)⟩
  .go_wp2
   go_roundg(m-j)
   .exact⟨j+1,aq,aq,aV,BX⟩
   omega
 have i4:=aU i n;obtain⟨D,v,s,Z,e0,e1⟩:=yY (R.o.Z a.o a.o.size).rM B;dsimp only at Z;subst Z;have⟨u,cg⟩:=eX (wr.alloc (RM #[.int .i32 v,ae aj s] 234));have l:az wr u:=jT;have X2:ak (Bx u wr.heap.size #[.int .i32 v,ae aj s]):=⟨lY⟩;have B2:=sH (a.o.trans (l.mono hs));have BB2:=B1.t B2.o;have d0:u.cell? ⟨wr.heap.size,0,OJ⟩=OH (.int .i32 v):=X2.o.cell 0;have d1:u.cell? ⟨wr.heap.size,1,OJ⟩=OH (ae aj s):=X2.o.cell 1;have K:=sH (R.o.Z B2.o B2.o.size);have C:=av c0 l;have O:=av q l;have E:=av e l;have x:=av p l;have P:=av c4 l;have A:=av c5 l
 go_wp2_with fail;rw[<-cg];clear cg;rcases i with _|k
 case' succ=>
  obtain⟨U,y0,y1,o,g0,g1⟩:=yY (R.o.Z B2.o B2.o.size).rM (show k<n by omega);injection o with o
  subst o;have wk:IntKind.i64.wrap ((k:Int)+1-1)=(k:Int):=zo;have p0:=gT k;have p1:=aU k n;have G0:=au g0
 all_goals
  have⟨L0,L1,L2,L3,L4,L5,D0,D1⟩:=lc8 C O E x P A d0 d1;refine aE maT aF aF ?_;refine mSk ?_;refine lsA SB (λnq=> ?_) (λV d=> ?_)
  .go_simp
   exact bP ((Zt v nq.1).mono λ_ _ h=>h.pb)
  obtain⟨b,rfl⟩:=d;cases b
  .exact afb
  simp[Act.put];refine mSk ?_;refine lsA SB (λnq=> ?_) (λV d=> ?_)
  .go_simp
   exact bP (kK ⟨X,G,gn,gc,OH D,n,W,L,Q,T,F,fn,Y,S,m,sc⟩ s nq.1 (K.o.Z nq.2 nq.2.size))
  obtain⟨b,rfl⟩:=d;cases b
  .exact afb
  simp[Act.put];refine mSk ?_;intro nq;obtain⟨w6,bq⟩:=nq;have BX:=B2.t bq
  try dsimp only
  go_wp2_with fail
  all_goals first
   |(go_roundg(n-0)<;>first|omega|exact⟨0+1,aq,aq,aV,BX⟩)
   |(go_roundg(n-(k+1))<;>first|omega|exact⟨k+1+1,aq,aq,aV,BX⟩)
   |(go_ret;exact⟨_,rfl,B1.o.trans (BX.o.mono B1.o.size)⟩)
def nh{P:Nat->Prop}(h:∀k,k<i->P k)(hi:P i):∀k,k<i+1->P k:=λk a=>by
 by_cases e:k=i
 .subst e;exact hi
 .exact h k aq
def Fm{W:EE}{a c:Array EN}{b e:IQ}(h:W=(w.alloc (RM a b)).alloc (RM c e)):az w W/\Bx W w.heap.size a/\Bx W (w.heap.size+1) c:=by
 have f:(w.alloc (RM a b)).heap.size=w.heap.size+1:=aT;have d:EI (w.alloc (RM a b)).heap.size (w.alloc (RM a b)) W:=LO;exact⟨(aw _ _).trans (d.mono aq),(Bx.new _ _ _).ar d aq,by rw[h];exact Bx.iR _ _ _ f⟩
def SW(n lo hi:Int)(v:EN):Prop:=∃z:Bool,v=PF z/\(z=OX->lo<=n/\n<=hi)
def Cd{w0:EE}{n:aI w0}{P:I3}{f:FuncId}{args:Array EN}{x lo hi:Int}(h:GK P f args n.1 (PWi n.1 x lo hi)):GK P f args n.1 λe a=>∃v,e=RE v/\SW x lo hi v/\∃m:aI w0,a=m.1:=
 h.mono λe a ⟨z,c,d,b⟩=>⟨_,c,⟨z,rfl,d⟩,n,b.symm⟩
def toT(n lo hi:Int)(d:Option Tmp):Option (EN->Prop):=if d=OH 39 then OH (SW n lo hi)else if d=OH 48 then OH SB else OJ
def ToL(w:EE)(T:aB)(lo hi:Int)(i:Nat):Prop:=∃(a:Addr) (A:aB) (n c:Nat),T=OH a/\a.block<w.heap.size/\w.cell? (a.add i)=OH (Pl A n c)/\lo<=n/\n<=hi
def agU(w:EE)(s:Sb)(lo hi:Int)(e:IS)(a:EE):Prop:=∃z:Bool,e=RE (PF z)/\(z=OX->s.tn=s.cn/\∀i,i<s.tn->ToL w s.T lo hi i)/\az w a
def afK(s:G:=by
 simp[Act.put]
 refine mSk ?_;intro nq;obtain⟨w6,bq⟩:=nq;have BX:=BE.t bq;have BZ:=B1.t BX.o
 try dsimp only
 clear bq L0 L1 L2 L3 L4 L5 LE LD;go_wp2;go_ret;exact⟨_,rfl,aT,BZ.o⟩):G:=s
def t9o(f:dv)(s:Sb)(lo hi:Int)(w:EE)(h:cC w w.heap.size f)(p:nH w w.heap.size s):GK prog 287 #[f.v,s.v,ae aj lo,ae aj hi] w (agU w s lo hi):=by
 have⟨Q,m,B1,D,F⟩:=box2 w f.row 102 s.row 184;have⟨R,W,L⟩:=MO (h.Z B1.o B1.o.size) (p.Z B1.o B1.o.size) p.rT;have X:=p.rC.bd;have Y:=p.rT.bd;have⟨c0,v,a,r,c4,c5⟩:=D.o.f6;have⟨j,g,_⟩:=F.o.nv;clear h p;go_enter func287,ntmps287;go_wp2_with fail;rw[<-m];clear m;go_wp2_with fail;refine(pG f s.C s.cn s.cc Q R.o W.o.rC).mono ?_;rintro e w2 ⟨z,rfl,u⟩;have I:=sH u;have j:=av j u;have g:=av g u
 clear u c0 v a r c4 c5;have K:=B1.t I.o;cases z
 .go_wp2
  go_ret;exact⟨_,rfl,aT,K.o⟩
 by_cases C:s.tn=s.cn;rotate_left
 .have E:((s.tn:Int) !=(s.cn:Int))=OX:=by simp;omega
  clear C;go_wp2;go_ret;exact⟨_,rfl,aT,K.o⟩
 have HQ:=sH C;have E:((s.tn:Int) !=(s.cn:Int))=OZ:=br;clear C;go_wp2;have⟨n,G⟩:=eY s.tn;have HN:=sH G;clear G;go_loopg[9](s.tn+1)(λgg y wr=>∃(i:Nat),s.tn-i<gg/\i<=s.tn/\y=ae aj (i:Int)/\ak (az Q wr)/\ak (∀k,k<i->ToL w s.T lo hi k))
 .exact⟨0,aq,aq,rfl,I,⟨λk hk=>by omega⟩⟩
 obtain⟨i,hg,S,rfl,BE,O⟩:=hrel;clear j g;have q:=B1.t BE.o;have⟨j,g,_⟩:=(F.o.ar BE.o F.o.lt).nv;by_cases A:i<s.tn;rotate_left
 .have i4:¬(i:Int)<(s.tn:Int):=by omega
  go_wp2;go_ret;exact⟨_,rfl,λ_=>⟨HQ.o,λk hk=>O.o k aq⟩,q.o⟩
 have i4:(i:Int)<(s.tn:Int):=aq;have⟨c0,v,a,r,c4,c5⟩:=(D.o.ar BE.o D.o.lt).f6;obtain⟨N,P,c,J,x,B,o⟩:=fR L.o A;have l:N.block<w.heap.size:=by
  obtain⟨Z,H,U,_⟩:=L.o.2.2.2 aq;rw[x]at H;obtain rfl:=Option.some.inj H;exact U
 have TI:ak (lo<=(c:Int)/\(c:Int)<=hi->ToL w s.T lo hi i):=⟨λh=>⟨N,P,c,J,x,l,o,h.1,h.2⟩⟩;rw[x]at g;have o:=av o q.o;have⟨RR,V⟩:=K' (R.o.Z BE.o BE.o.size) (B.Z q.o q.o.size);have rO:=B.bd;clear x B l j;go_wp2;have⟨L0,L1,L2,L3,L4,L5⟩:=lc6 c0 v a r c4 c5;clear c0 v a r c4 c5;have⟨LE,LD⟩:=lc2 o g;clear o g;refine aE (toT c lo hi) aF aF ?_;refine mSk ?_;refine lsA (SW c lo hi) (λnq=> ?_) (λy d=> ?_)
 .go_simp
  exact Cd (dm c lo hi nq.1)
 obtain⟨b,rfl,M⟩:=d;have T:=sH M;clear M;cases b
 .exact afK
 have TK:=sH (TI.o (T.o rfl));simp[Act.put];refine mSk ?_;refine lsA SB (λnq=> ?_) (λy d=> ?_)
 .go_simp
  exact bP (Qo f P c J nq.1 (RR.o.Z nq.2 nq.2.size) (V.o.Z nq.2 nq.2.size))
 obtain⟨b,rfl⟩:=d;cases b
 .exact afK
 simp[Act.put];refine mSk ?_;intro nq;obtain⟨w6,bq⟩:=nq;have BX:=BE.t bq;have BZ:=B1.t BX.o
 try dsimp only
 clear bq L0 L1 L2 L3 L4 L5 LE LD;go_wp2;go_roundg(s.tn-i)
 .exact⟨i+1,aq,aq,aV,BX,⟨nh O.o TK.o⟩⟩
 omega
def abe(f:dv)(s:Sb)(w:EE)(h:cC w w.heap.size f)(F:nH w w.heap.size s):GK prog 288 #[f.v,s.v] w (PB w):=by
 have⟨W1,v,c,t,N⟩:=box2 w f.row 102 s.row 184;have⟨R,X⟩:=K' (h.Z c.o c.o.size) (F.Z c.o c.o.size);have TZ:=F.rC.bd;have vC:=F.rL.bd;have⟨c0,u,a,r,c4,c5⟩:=t.o.f6;have⟨q,P,b,_⟩:=N.o.nv;clear h F;go_enter func288,ntmps288;go_wp2_with fail;rw[<-v];clear v;go_wp2_with fail;refine(pG f s.C s.cn s.cc W1 R.o X.o.rC).mono ?_;rintro e w2 ⟨z,rfl,g⟩;have Z:=sH g;have q:=av q g;have b:=av b g
 clear g c0 u a r c4 c5 P;have BF:=c.t Z.o;cases z
 .go_wp2
  go_ret;exact⟨_,rfl,BF.o⟩
 by_cases Y:s.ln=s.cn;rotate_left
 .have A:((s.ln:Int) !=(s.cn:Int))=OX:=by simp;omega
  clear Y;go_wp2;go_ret;exact⟨_,rfl,BF.o⟩
 have A:((s.ln:Int) !=(s.cn:Int))=OZ:=br;clear Y;go_wp2;go_loopg[5,6,7,8](s.ln+1)(λgg v5 v6 _ _ wr=>∃(i:Nat) (z:Int),s.ln-i<gg/\i<=s.ln/\v5=ae aj z/\v6=ae aj (i:Int)/\ak (az W1 wr))
 .exact⟨0,0,aq,aq,rfl,rfl,Z⟩
 obtain⟨i,z,hg,Dp,rfl,rfl,d⟩:=hrel;clear q b A;have U:=c.t d.o;have⟨q,P,b,_⟩:=(N.o.ar d.o N.o.lt).nv;clear q P;by_cases H:i<s.ln;rotate_left
 .have i4:¬(i:Int)<(s.ln:Int):=by omega
  go_wp2;go_ret;exact⟨_,rfl,U.o⟩
 have i4:(i:Int)<(s.ln:Int):=aq;obtain⟨ad,A2,n,k2,J,K,y⟩:=fR (X.o.Z d.o d.o.size).rL H;rw[J]at b;have⟨W,EL⟩:=K' K J;have rO:=K.bd;clear J K;go_wp2;have⟨wo,o⟩:=eX wr;rw[<-o]at W d U b y;rw[<-o];clear o;have⟨E0,D2⟩:=K' y b;have l:=d.o.size;clear EL b y;generalize IK (z+(n:Int))=z2;go_loopg[7,8](n+1)(λgg v7 _ wr=>∃(k:Nat),n-k<gg/\k<=n/\v7=ae aj (k:Int)/\ak (az wo wr))
 .exact⟨0,aq,aq,rfl,cJ⟩
 obtain⟨k,dV,hk,rfl,p⟩:=hrel;have y:=av E0.o p.o;have b:=av D2.o p.o;have BX:=sH (d.o.trans (p.o.mono l));by_cases G:k<n;rotate_left
 .have i5:=cI k n
  go_wp2;go_roundg(s.ln-i)
  .exact⟨i+1,_,aq,aq,rfl,aV,BX⟩
  omega
 have i5:=aU k n;obtain⟨qS,x,eA,S,g0,g1⟩:=CL (W.o.Z p.o p.o.size) G;subst eA;have XM:=S.rP.bd;have⟨E,cg⟩:=eX (wr.alloc (RM #[Pl x.P x.pn x.pc,ae aj x.gl] 329));have g:az wr E:=jT;have O:ak (Bx E wr.heap.size #[Pl x.P x.pn x.pc,ae aj x.gl]):=⟨lY⟩;have B:=p.t g;have j:=sH (d.o.trans (B.o.mono l));have Q:=c.t j.o;have RP:=sH (S.rP.Z g g.size);clear g S;go_wp2_with fail;refine(dm _ _ _ _).mono ?_;rintro e _ ⟨z,rfl,_,T⟩;rw[<-T,<-cg];clear T cg y b g0 g1;have p0:E.cell? ⟨wr.heap.size,0,OJ⟩=OH (Pl x.P x.pn x.pc):=O.o.cell 0;have⟨c0,u,a,r,c4,c5⟩:=(t.o.ar j.o t.o.lt).f6;cases z
 .go_wp2
  go_ret;exact⟨_,rfl,Q.o⟩
 go_wp2_with fail;refine(Qo f x.P x.pn x.pc E (R.o.Z j.o j.o.size) RP.o).mono ?_;rintro e w3 ⟨z,rfl,I⟩;have C:=B.t I;have m:=sH (d.o.trans (C.o.mono l));have M:=c.t m.o;have p1:w3.cell? ⟨wr.heap.size,1,OJ⟩=OH (ae aj x.gl):=(O.o.ar I O.o.lt).cell 1;clear I p0 c0 u a r c4 c5;cases z
 .go_wp2
  go_ret;exact⟨_,rfl,M.o⟩
 have⟨c0,u,a,r,c4,c5⟩:=(t.o.ar m.o t.o.lt).f6;go_wp2_with fail;refine(kK f x.gl w3 (R.o.Z m.o m.o.size)).mono ?_;rintro e w4 ⟨z,rfl,V⟩;have D:=C.t V;have L:=sH (c.o.trans ((d.o.trans (D.o.mono l)).mono c.o.size));clear V p1 c0 u a r c4 c5;cases z
 .go_wp2
  go_ret;exact⟨_,rfl,L.o⟩
 go_wp2;go_roundg(n-k)
 .exact⟨k+1,aq,aq,aV,D⟩
 omega
def yx(k:Int)(w:EE):GK prog 249 #[ae aj k] w (PZ w):=by
 go_enter func249,ntmps249;go_wp2_with fail;refine(dm _ _ _ _).mono ?_;rintro e _ ⟨z,rfl,_,rfl⟩;cases z;rotate_left
 .go_wp2
  go_ret;exact⟨_,rfl,rfl⟩
 go_wp2_with fail;refine(dm _ _ _ _).mono ?_;rintro e _ ⟨z,rfl,_,rfl⟩;cases z
 .go_wp2
  go_ret;exact⟨_,rfl,rfl⟩
 .go_wp2
  go_ret;exact⟨_,rfl,rfl⟩
def arT(a hi:Int)(d:Option Tmp):Option (EN->Prop):=if d=OH 52 then OH SB else if d=OH 61 then OH (SW a 0 hi)else if d=OH 72 then OH SI else if d=OH 75 then OH SI else OJ
def PWi.pb{n lo hi:Int}{e:IS}(h:PWi w n lo hi e a):PB w e a:=by
 obtain⟨z,b,_,rfl⟩:=h;exact⟨z,b,Below.refl _ _⟩
def PZ.pi{e:IS}(h:PZ w e a):PI w e a:=by
 obtain⟨z,b,rfl⟩:=h;exact⟨z,b,Below.refl _ _⟩
def afI(s:G:=by
 simp[Act.put]
 refine mSk ?_;intro nq;obtain⟨w6,bq⟩:=nq;have BX:=B2.t bq;have BZ:=B1.t BX.o
 try dsimp only
 clear bq wk L0 L1 L2 L3 L4 L5 D0 D1 D2 D3;go_wp2;go_ret;exact⟨_,rfl,BZ.o⟩):G:=s
def qt(s:G:=by
 go_wp2
 go_ret;exact⟨_,rfl,B1.o.trans (B5.o.mono B1.o.size)⟩):G:=s
def Aq(f:dv)(k:Lk)(s:Sb)(w:EE)(h:cC w w.heap.size f)(E:nH w w.heap.size s):GK prog 289 #[f.v,k.v,s.v] w (PB w):=by
 have⟨x,y⟩:=eX (((w.alloc (RM f.row 102)).alloc (RM k.row 175)).alloc (RM s.row 184));obtain⟨K,g,U,O,iW⟩:=qq y;have⟨B1,q,W,l⟩:=MQ K g U O;clear g U O;have R:ak (cC x x.heap.size f):=⟨h.Z B1.o B1.o.size⟩;have C:ak (nH x x.heap.size s):=⟨E.Z B1.o B1.o.size⟩;have hjn:=E.rJ.bd;have hnn:=E.rN.bd;have vC:=h.rL.bd;have B5:ak (az x x):=cJ;have⟨c0,o,a,m,c4,c5⟩:=q.o.f6;have⟨_,_,_,p,d,r,n,_⟩:=l.o.nv;clear h E K;go_enter func289,ntmps289;go_wp2_with fail;rw[<-y];clear y;go_wp2_with fail;refine(mR f s.J s.jn s.jc 1 x R.o C.o.rJ).mono ?_;rintro e X ⟨z,rfl,v⟩;have u:=B5.t v;clear v B5 c0 o a m c4 c5 p d r n;have B5:=sH u.o;clear u;have⟨c0,o,a,m,c4,c5⟩:=(q.o.ar B5.o q.o.lt).f6;have⟨_,_,_,p,d,r,n,_⟩:=(l.o.ar B5.o l.o.lt).nv;cases z
 .exact qt
 go_wp2_with fail;refine(mR f s.B s.bn s.bc 0 _ (R.o.Z B5.o B5.o.size) (C.o.Z B5.o B5.o.size).rB).mono ?_;rintro e X ⟨z,rfl,v⟩;have u:=B5.t v;clear v B5 c0 o a m c4 c5 p d r n;have B5:=sH u.o;clear u;have⟨c0,o,a,m,c4,c5⟩:=(q.o.ar B5.o q.o.lt).f6;have⟨_,_,_,p,d,r,n,_⟩:=(l.o.ar B5.o l.o.lt).nv;cases z
 .exact qt
 go_wp2_with fail;refine(mR f s.A s.an s.ac 0 _ (R.o.Z B5.o B5.o.size) (C.o.Z B5.o B5.o.size).rA).mono ?_;rintro e X ⟨z,rfl,v⟩;have u:=B5.t v;clear v B5 c0 o a m c4 c5 p d r n;have B5:=sH u.o;clear u;have⟨c0,o,a,m,c4,c5⟩:=(q.o.ar B5.o q.o.lt).f6;have⟨_,_,_,p,d,r,n,_⟩:=(l.o.ar B5.o l.o.lt).nv;cases z
 .exact qt
 by_cases h16:s.nn<=16;rotate_left
 .have A:(16:Int)<(s.nn:Int):=by omega
  go_wp2;go_ret;exact⟨_,rfl,B1.o.trans (B5.o.mono B1.o.size)⟩
 have A:¬(16:Int)<(s.nn:Int):=aq;go_wp2;go_loopg[7,8](s.nn+1)(λgg v7 _ wr=>∃(i:Nat),s.nn-i<gg/\i<=s.nn/\v7=ae aj (i:Int)/\ak (az x wr))
 .exact⟨0,aq,aq,rfl,B5⟩
 obtain⟨i,hg,Z,rfl,B⟩:=hrel;clear c0 o a m c4 c5 p d r n B5;have⟨_,_,_,p,d,r,n,_⟩:=(l.o.ar B.o l.o.lt).nv;by_cases G:i<s.nn;rotate_left
 .have i4:¬(i:Int)<(s.nn:Int):=by omega
  go_wp2;go_ret;exact⟨_,rfl,B1.o.trans (B.o.mono B1.o.size)⟩
 have i4:(i:Int)<(s.nn:Int):=aq;obtain⟨ad,H,g,T,e0,e1⟩:=yP (C.o.Z B.o B.o.size).rN G;rw[T]at n;have⟨D,cg⟩:=eX (wr.alloc (RM #[ae aj H,ae aj g] 331));have Q:az wr D:=jT;have S:ak (Bx D wr.heap.size #[ae aj H,ae aj g]):=⟨lY⟩;have B2:=B.t Q;clear T Q;go_wp2;rw[<-cg];clear cg e0 e1 p d r n;have⟨c0,o,a,m,c4,c5⟩:=(q.o.ar B2.o q.o.lt).f6;have⟨_,_,_,_,d,_,_,_⟩:=(l.o.ar B2.o l.o.lt).nv;have⟨k0,k1,k2,k3⟩:=(W.o.ar B2.o W.o.lt).k4;have Y:D.cell? ⟨wr.heap.size,0,OJ⟩=OH (ae aj H):=S.o.cell 0;have L:D.cell? ⟨wr.heap.size,1,OJ⟩=OH (ae aj g):=S.o.cell 1;have wk:IntKind.i64.wrap ((f.ln:Int)-1)=(f.ln:Int)-1:=IntWalk.i64_in _ aq;have⟨L0,L1,L2,L3,L4,L5,D0,D1⟩:=lc8 c0 o a m c4 c5 d k0;have⟨D2,D3⟩:=lc2 Y L;clear c0 o a m c4 c5 d k0 k1 k2 k3 Y L;refine aE (arT g ((f.ln:Int)-1)) aF aF ?_;refine mSk ?_;refine lsA SB (λnq=> ?_) (λF c=> ?_)
 .go_simp
  exact bP ((dm _ _ _ nq.1).mono λ_ _ h=>h.pb)
 obtain⟨b,rfl⟩:=c;cases b
 .exact afI
 simp[Act.put];refine mSk ?_;refine lsA (SW g 0 ((f.ln:Int)-1)) (λnq=> ?_) (λF c=> ?_)
 .go_simp
  exact Cd (dm g 0 ((f.ln:Int)-1) nq.1)
 obtain⟨b,rfl,V⟩:=c;have M:=sH V;clear V;cases b
 .exact afI
 obtain⟨I,J⟩:=M.o rfl;obtain⟨j,rfl⟩:∃j:Nat,g=(j:Int):=⟨g.toNat,aq⟩;have hj:j<f.ln:=aq;have hj':(j:Int)<(f.ln:Int):=aq;obtain⟨adL,kk,P,_,N,_⟩:=ru (R.o.Z B2.o B2.o.size).rL hj;have Q0:=au N;simp only[P]at L3;clear M I J N P;simp[Act.put];refine mSk ?_;refine lsA SI (λnq=> ?_) (λF c=> ?_)
 .go_simp
  exact fb ((yx _ nq.1).mono λ_ _ h=>h.pi)
 obtain⟨y1,rfl⟩:=c;simp[Act.put];refine mSk ?_;refine lsA SI (λnq=> ?_) (λF c=> ?_)
 .go_simp
  exact fb ((yx _ nq.1).mono λ_ _ h=>h.pi)
 obtain⟨y2,rfl⟩:=c;simp[Act.put];refine mSk ?_;intro nq;obtain⟨w6,bq⟩:=nq;have BX:=B2.t bq;have BZ:=B1.t BX.o
 try dsimp only
 clear bq wk L0 L1 L2 L3 L4 L5 D0 D1 D2 D3;go_wp2_with fail
 all_goals first
  |(go_roundg(s.nn-i)<;>first|omega|exact⟨i+1,aq,aq,aV,BX⟩)
  |(go_ret;exact⟨_,rfl,BZ.o⟩)
