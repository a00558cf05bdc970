/- Part of LineCovers. -/
import Derived.Test.YtklncadpkniojaaGreatDoorAr
import Derived.Test.YtklncadpkniojaaGreatDoorAQ
import Derived.Test.YtklncadpkniojaaGreatDoorAR
namespace Go.Proofs.YtklncadpkniojaaGreatDoor
open Go.ChangeShapes Go.WideShapes Go.ChangeAt Go.RowKit Go.Proofs.Tryz
open Go renaming World->ahh,Value->ahj,Calls->ahk,TypeId->ahm,Ending->ahn,Program->aho
open Go.RowKit renaming Below->ahi,wrap64->ahl
open Go.Value renaming int->ae
open Go.IntKind renaming i64->aj
set_option linter.all false
set_option maxRecDepth 100000
set_option maxHeartbeats 16000000
variable{w w0 wr:ahh}{B a b c d g k m n q r:Nat}{P:Int->Prop}{A C:aA}{Q:aC->Prop}{e:ahm}{G:Prop}{ts:aC}{p:jA}
theorem zH(A:aA)(n c:Nat)(ts:aC)(w:ahh)(h:aM .i32 w A n c ts)(j:n<=100000):ahk prog 98 #[.slice A n c] w fun e a=>∃(bs:List Nat) (D:aA) (d:Nat),e=.returned (.slice D bs.length d)/\Own a w.heap.size 3 .i64 D bs.length d (bs.map Int.ofNat)/\(∀i,i+1<bs.length->cZ bs i<cZ bs (i+1))/\(∀i,i<bs.length->cZ bs i<=n)/\(0<n->cZ bs 0=0/\0<bs.length/\cZ bs (bs.length-1)=n)/\bs.length<=n+1/\az w a:=by
 refine(rE A n c ts w h ak).mono ?_;rintro e a ⟨D,d,rfl,o,b⟩;have g:(ks ts).length=n:=Rc;refine⟨de (ks ts),D,d,rfl,o,fun i f=>qk f,fun i f=>by have:=FG f;omega,fun k=>⟨(oo ak).1,(oo ak).2,by rw[(qH (by omega)).2,g]⟩, ?_,b⟩;have:=lB (ks ts) ((ks ts).length+1);unfold de;omega
def Nt(w:ahh)(B:Nat)(P:Int->Prop)(A:aA)(n:Nat):Prop:=∀j,j<n->∃(a:Addr) (d c b:Int),A=some a/\a.block<B/\P b/\w.cell? (a.add (j*3))=some (ae aj d)/\w.cell? (bP (a.add (j*3)) 1)=some (ae aj c)/\w.cell? (bP (a.add (j*3)) 2)=some (ae aj b)
theorem Nt.Z{d:ahh}(h:Nt w B P A n)(b:ahi B w d)(p:B<=c):Nt d c P A n:=fun j l=>by
 obtain⟨a,f,m,k,e,h2,g,c0,o,i⟩:=h j l;exact⟨a,f,m,k,e,ak,g,(b.cell yD).trans c0,(b.cell (by show(a.add (j*3)).block<B;rw[aO];exact h2)).trans o,(b.cell (by show(a.add (j*3)).block<B;rw[aO];exact h2)).trans i⟩
theorem Nt.of(h:cK w w.heap.size tz A n c)(g:UF w A n P):Nt w w.heap.size P A n:=fun j f=>by
 obtain⟨d,l,i,b,e,c0,k,a⟩:=kB h f;exact⟨d,l,i,b,e,by have:=block_lt_of_cell c0;rwa [aO]at this,g j f d b e a,c0,k,a⟩
theorem Oq.gG(h:Oq w B 182 3 Q A n c)(a:∀r,Q r->P (nth r 2)):Nt w w.heap.size P A n:=fun j k=>by
 obtain⟨g,rfl,_,b⟩:=h.form ak;obtain⟨d,l,i,o,c0,m,f⟩:=h.aaZ k;have e:(⟨g,0,none⟩:Addr).add (j*3)=⟨g,j*3,none⟩:=bj _ _;exact⟨_,d,l,i,rfl,b,a _ o,by rw[e];exact c0,by rw[e];exact m,by rw[e];exact f⟩
theorem Oy(A:aA)(n c:Nat)(i:Int)(P:Int->Prop)(w:ahh)(h:Nt w w.heap.size P A n)(t:n<=100000):ahk prog 44 #[.slice A n c,ae aj i] w (PAt w P):=by
 have RL:=sH h;go_enter func44,ntmps44;go_wp2;go_loopg[5](n+1)(fun gg e wr=>∃(k:Nat),n-k<gg/\k<=n/\e=ae aj (k:Int)/\wr=w)
 .exact⟨0,ak,ak,rfl,rfl⟩
 obtain⟨k,o,u,rfl,rfl⟩:=hrel;by_cases a:k<n;rotate_left
 .have g:=cv k n
  go_wp2;go_ret;exact⟨_,rfl,.inr rfl,Below.refl _ _⟩
 have g:=aU k n;obtain⟨s,d,f,m,rfl,_,j,l,v,p⟩:=RL.o k a;have b:=sH j;by_cases r:d<=i
 .by_cases q:i<f
  .go_wp2
   go_ret;exact⟨_,rfl,.inl b.o,Below.refl _ _⟩
  .go_wp2
   go_roundg(n-k)
   .exact⟨k+1,ak,ak,aT,rfl⟩
   omega
 .go_wp2
  go_roundg(n-k)
  .exact⟨k+1,ak,ak,aT,rfl⟩
  omega
def ofT(a:Nat)(d:Option Tmp):Option (ahj->Prop):=if d=some 27 then some SI else if d=some 40 then some (fun v=>∃z:Int,v=ae aj z/\vp a z)else none
theorem ab9:aR prog 27 21 1 4:=Ko
theorem agE(F:aA)(g Z:Nat)(A:aA)(n c:Nat)(ts:aC)(S:aA)(K sc:Nat)(w:ahh)(h:cK w w.heap.size tO F g Z)(k:aM .i32 w A n c ts)(p:Nt w w.heap.size aH S K)(V:K<=100000)(hn:n<=10000)(hf:0<g)(R:g<=1000):ahk prog 41 #[.slice F g Z,.slice A n c,.slice S K sc] w (PSv w (vp g) n):=by
 have RF:=sH h;have T:=sH k;have SP:=sH p;go_enter func41,ntmps41;go_wp2_with fail;refine(zH A n c ts w T.o ak).mono ?_;rintro e E ⟨bs,D,d,rfl,l,x,hle,_,W,b1⟩;have⟨m,hm⟩:=eY bs.length;rw[hm]at l x hle W⊢;have Y:=sH l;have RI:=sH x;have LE:=sH hle;have B1:=sH b1;have X:=sH hm;go_wp2;go_loopg[8,9,10,11](m+1)(fun gg N M v10 _ wr=>∃(i q:Nat) (C:aA) (e:Nat) (a:Int),m-i<gg/\i<=m/\q<=n/\(i<m->q<=cZ bs i)/\N=.slice C q e/\M=ae aj a/\v10=ae aj (i:Int)/\aq (Ow wr E.heap.size 3 .i64 (vp g) C q e)/\aq (az E wr))
 .exact⟨0,0,none,0,_,ak,ak,ak,fun _=>by omega,rfl,rfl,rfl,⟨Ow.nil _ _ _ _ _⟩,cA⟩
 obtain⟨i,q,C,e,a,hg,hi,hqn,hq,rfl,rfl,rfl,J,o⟩:=hrel;have s:=B1.t o.o;by_cases B:i+1<m;rotate_left
 .have i4:¬(i:Int)+1<(m:Int):=by omega
  have OW:=sH J.o.iw;go_wp2_with fail;refine(acK C q e (vp g) wr OW.o ak).mono ?_;rintro e w2 ⟨A2,m2,c2,Rs,rfl,o2,b2⟩;have O2:=sH o2;have B2:=s.t b2;go_wp2;go_ret;exact⟨_,_,_,ak,rfl,O2.o.cJ s.o.size,B2.o⟩
 have i4:(i:Int)+1<(m:Int):=ak;have i5:=aU i m;have l:=Y.o.ar o.o;obtain⟨gb,rfl,_⟩:=aw.form l ak;have c0:=iB l (j:=i) ak;have y:=iB l (j:=i+1) ak;rw[oV (by rw[X.o];omega)]at c0 y;have u:=RI.o i B;have G:=LE.o (i+1) B;obtain⟨A4,c4,CH⟩:=jj ab9 A n c (cZ bs i) (cZ bs (i+1)) (Nat.le_of_lt u) G T.o.le (cZ bs i) (cZ bs (i+1)) rfl rfl;have rh:=CH.run;have O:=sH (CH.fT (T.o.ar s.o));have QI:aq (q<=cZ bs i):=⟨hq ak⟩;have⟨f,H⟩:=eY (cZ bs i);have⟨t,I⟩:=eY (cZ bs (i+1));have FE:=sH H;have TE:=sH I;rw[H]at c0 rh u O QI;rw[I]at y rh u G O;have⟨L0,L1⟩:=lc2 c0 y;go_wp2;refine aD (ofT g) aF aF ?_;refine mSk ?_;refine lsA SI (fun b=> ?_) (fun M r=> ?_)
 .go_simp
  exact ed ((Oy S K sc _ aH b.1 ((SP.o.Z s.o s.o.size).Z b.2 b.2.size) V).mono fun e w' ⟨z,P,_,L⟩=>⟨z,P,L⟩)
 obtain⟨pr,rfl⟩:=r;simp[Act.put];refine mSk ?_;refine lsA (fun v=>∃z:Int,v=ae aj z/\vp g z) (fun b=> ?_) (fun M r=> ?_)
 .go_simp
  exact(abm F g Z pr A4 (t-f) c4 _ a b.1 ((RF.o.Z s.o s.o.size).Z b.2 b.2.size) (O.o.ar b.2) ak hf R).mono fun e w' ⟨z,P,h2,L⟩=>⟨_,P,⟨z,rfl,h2⟩,⟨⟨w',b.2.trans (L.mono b.2.size)⟩,rfl⟩⟩
 obtain⟨z,rfl,hz⟩:=r;have HZ:=sH hz;simp[Act.put];refine mSk ?_;intro b;obtain⟨w6,b6⟩:=b
 try dsimp only
 have B6:=o.t b6;have O6:=sH (J.o.ar b6);have l:=Y.o.ar B6.o;have c0:=iB l (j:=i) ak;rw[oV (by rw[X.o];omega),FE.o]at c0;go_wp2;go_loopg[8,11](n+1)(fun gg N Q wr=>∃(k q:Nat) (C:aA) (e:Nat),t-k<gg/\k<=t/\q<=k/\N=.slice C q e/\Q=ae aj (k:Int)/\aq (Ow wr E.heap.size 3 .i64 (vp g) C q e)/\aq (az E wr))
 .exact⟨f,q,_,e,ak,ak,QI.o,rfl,rfl,O6,B6⟩
 obtain⟨k,q,C,e,DH,hk,U,rfl,rfl,J,o⟩:=hrel;have hs:=o.o.size;have l:=Y.o.ar o.o;have y:=iB l (j:=i+1) ak;rw[oV (by rw[X.o];omega),TE.o]at y;by_cases hkt:k<t
 .have k4:=aU k t
  go_wp2_with (at_builtin;refine bO lO rfl (.tmp 54) (.tmp 56) rfl rfl (J.o.alloc _) rfl (bh _ _ _) HZ.o ak cw ?_;intro A8 c8 w8 o8 b8;have O8:=sH o8;have B8:aq (az E w8):=⟨(o.o.alloc ak _).trans b8⟩;clear o8 b8);go_roundg(t-k)
  .exact⟨k+1,q+1,A8,c8,ak,ak,ak,rfl,aT,O8,B8⟩
  omega
 .have k4:=cv k t
  obtain rfl:k=t:=ak;have HQ:aq (q<=cZ bs (i+1)):=⟨by rw[TE.o];exact U⟩;go_wp2;go_roundg(m-i)
  .exact⟨i+1,q,C,e,z,ak,ak,ak,fun _=>HQ.o,rfl,rfl,aT,J,o⟩
  omega
structure On(w0 w:ahh)(B2 n:Nat)(A:aA)(c:Nat)(P:aA)(q pc:Nat):Prop where
 be:az w0 w
 ow:Ow w w0.heap.size 3 .i64 aH A n c
 lt:∀g,A=some ⟨g,0,none⟩->g<B2
 op:mV w B2 n P q pc
theorem On.ar{e:ahh}{P:aA}(h:On w0 w b n A c P q d)(a:az w e):On w0 e b n A c P q d:=⟨h.be.trans (a.mono h.be.size),h.ow.ar a,h.lt,Oq.ar h.op a⟩
theorem On.set{P:aA}(h:On w0 w a n (some ⟨g,0,none⟩) c P q b)(k:Nat)(v:Int):On w0 (w.setCell ⟨g,k,none⟩ (ae aj v)) a n (some ⟨g,0,none⟩) c P q b:=
 ⟨Below.setCell h.be (p:=⟨g,k,none⟩) h.ow.lt.1 _,h.ow.set k trivial,h.lt,Oq.mu h.op (Oq.apart h.op (h.lt g rfl)) k _⟩
theorem aeX(s:G:=by
 subst hb
 obtain⟨u,_,u0⟩:=V4.o.ow.get kQ;have f0:=V4.o.ow.fz k;have V5:=sH (V4.o.set k cl);go_wp2;go_roundg(n-k)
 .exact⟨k+1,ak,ak,aT,V5⟩
 omega):G:=s
theorem JB(A C:aA)(n c d:Nat)(lv I:Int)(ts:aC)(w:ahh)(h:aM .i32 w A n c ts)(k:Iw w w.heap.size .i64 aH C n)(hn:n<=10000):ahk prog 72 #[.slice A n c,.slice C n d,ae aj lv,ae aj I] w (Nw w 3 .i64 aH n):=by
 have R:=sH h;have S:=sH k;obtain⟨xs,hx,_⟩:=k;have XS:=sH hx;go_enter func72,ntmps72;go_upto_if 23 with fail;go_cut[9](fun v wx=>(∃z:Int,v=ae aj z)/\w=wx)
 case first=>
  go_wp2_with fail
  all_goals
   go_meet;exact⟨⟨_,rfl⟩,rfl⟩
 case rest=>
 obtain⟨⟨own,rfl⟩,rfl⟩:=hcut;go_upto_region 8 with(at_builtin;refine gS lO rfl (.tmp 24) (.tmp 25) rfl rfl (Own.nil w w.heap.size 3 .i64) rfl XS.o ak bW ?_;intro N l L o1 b1;have O1:aq (Ow L w.heap.size 3 .i64 aH N n l):=⟨⟨_,by simpa using o1,fun _ _=>trivial⟩⟩;have J:=sH b1;clear o1 b1)
 go_wp2_with fail;refine(Fx A C n c d ts L (R.o.ar J.o) (S.o.Z J.o J.o.size) hn).mono ?_;rintro e w2 ⟨P,q,H,hq,rfl,op,b2⟩;have V:aq (On w w2 L.heap.size n N l P q H):=⟨⟨J.o.trans (b2.mono J.o.size),O1.o.ar b2,fun g e=>by have:=O1.o;rw[e]at this;exact this.lt.2,op⟩⟩;generalize L.heap.size=K at*;go_wp2;go_loopg[12,13,14,15](q+1)(fun gg mN _ _ _ wr=>∃(i:Nat),q-i<gg/\i<=q/\mN=ae aj (i:Int)/\aq (On w wr K n N l P q H))
 .exact⟨0,ak,ak,rfl,V⟩
 obtain⟨i,hg,hi,rfl,V⟩:=hrel;by_cases f:i<q;rotate_left
 .have i4:=cv i q
  go_wp2;go_ret;exact⟨_,_,rfl,V.o.ow,V.o.be⟩
 have i4:=aU i q;obtain⟨O,x,y,rfl,px,py,E,F⟩:=mV.at V.o.op f;obtain⟨xn,rfl⟩:∃k:Nat,x=k:=⟨x.toNat,Bs⟩;obtain⟨yn,rfl⟩:∃k:Nat,y=k:=⟨y.toNat,by have:=py.1;omega⟩;have Ay:xn<n:=Bt;have Hw:yn<n:=by have:=py.2;omega
 obtain⟨g,rfl,dW,dw⟩:=V.o.ow.form ak;go_wp2_with fail;refine(acV _ n l xn yn own I _ V.o.ow.iw Ay Hw hn).mono ?_;rintro e w5 ⟨cl,rfl,b5⟩;have V2:=sH (V.o.ar b5);by_cases hc:(cl==0)=true
 .go_wp2
  go_roundg(q-i)
  .exact⟨i+1,ak,ak,aT,V2⟩
  omega
 have hc:(cl==0)=false:=by simpa using hc
 go_wp2;go_loopg[14,15](3)(fun gg Y _ wr=>∃(s:Nat),2-s<gg/\s<=2/\Y=ae aj (s:Int)/\aq (On w wr K n (some ⟨g,0,none⟩) l (some ⟨O,0,none⟩) q H))
 .exact⟨0,ak,ak,rfl,V2⟩
 obtain⟨s,YT,hs,rfl,V⟩:=hrel;have M:s=2∨s=0∨s=1:=ak;rcases M with rfl|rfl|rfl
 .go_wp2
  go_roundg(q-i)
  .exact⟨i+1,ak,ak,aT,V⟩
  omega
 .obtain⟨D,x,y,a,px,py,E,F⟩:=mV.at V.o.op f
  injection a with a
  injection a with a
  subst a;obtain⟨z,o,p⟩:∃z:Nat,x=z/\z<n:=⟨(x).toNat,Xu,Xe⟩;rw[o]at E;have G:=aU z n;obtain⟨u,_,u0⟩:=V.o.ow.get p;have f0:=V.o.ow.fz z;have m:=sH (V.o.set z cl);go_upto_region 18 with fail;have⟨w6,b⟩:=eX (wr.setCell ⟨g,z,none⟩ (ae aj cl));rw[<-b]at m;rw[<-b];clear b;obtain⟨D,x,y,a,px,py,E,F⟩:=mV.at m.o.op f;injection a with a
  injection a with a
  subst a;obtain⟨Q,o,U⟩:∃z:Nat,x=z/\z<n:=⟨(x).toNat,Xu,Xe⟩;rw[o]at E;go_wp2;go_loopg[15](n+1)(fun gg B wr=>∃(k:Nat),n-k<gg/\k<=n/\B=ae aj (k:Int)/\aq (On w wr K n (some ⟨g,0,none⟩) l (some ⟨O,0,none⟩) q H))
  .exact⟨Q+1,ak,ak,jy,m⟩
  obtain⟨k,X,hk,rfl,V⟩:=hrel;by_cases kQ:k<n;rotate_left
  .have T:=cv k n
   go_wp2;go_roundg(2-0)
   .exact⟨0+1,ak,ak,jy,V⟩
   omega
  have T:=aU k n;obtain⟨Z,r,rfl,hr,t0⟩:=(R.o.ar V.o.be).iw.get kQ;obtain⟨j,t⟩:=vg hr;have OF:=sH (fD r j t wr);go_wp2_with fail;refine OF.o.mono ?_;rintro e w7 ⟨rfl,W⟩;have V4:=sH (V.o.ar W);generalize(a7 r).iU=bd;by_cases hb:bd=9
  .exact aeX
  .have hb:(bd==9)=false:=by simpa using hb
   go_wp2;go_roundg(2-0)
   .exact⟨0+1,ak,ak,jy,V4⟩
   omega
 .obtain⟨D,x,y,a,px,py,E,F⟩:=mV.at V.o.op f
  injection a with a
  injection a with a
  subst a;obtain⟨z,o,p⟩:∃z:Nat,y=z/\z<n:=⟨(y).toNat,Xu,Xe⟩;rw[o]at F;have G:=aU z n;obtain⟨u,_,u0⟩:=V.o.ow.get p;have f0:=V.o.ow.fz z;have m:=sH (V.o.set z cl);go_upto_region 18 with fail;have⟨w6,b⟩:=eX (wr.setCell ⟨g,z,none⟩ (ae aj cl));rw[<-b]at m;rw[<-b];clear b;obtain⟨D,x,y,a,px,py,E,F⟩:=mV.at m.o.op f;injection a with a
  injection a with a
  subst a;obtain⟨Q,o,U⟩:∃z:Nat,y=z/\z<n:=⟨(y).toNat,Xu,Xe⟩;rw[o]at F;go_wp2;go_loopg[15](n+1)(fun gg B wr=>∃(k:Nat),n-k<gg/\k<=n/\B=ae aj (k:Int)/\aq (On w wr K n (some ⟨g,0,none⟩) l (some ⟨O,0,none⟩) q H))
  .exact⟨Q+1,ak,ak,jy,m⟩
  obtain⟨k,X,hk,rfl,V⟩:=hrel;by_cases kQ:k<n;rotate_left
  .have T:=cv k n
   go_wp2;go_roundg(2-1)
   .exact⟨1+1,ak,ak,jy,V⟩
   omega
  have T:=aU k n;obtain⟨Z,r,rfl,hr,t0⟩:=(R.o.ar V.o.be).iw.get kQ;obtain⟨j,t⟩:=vg hr;have OF:=sH (fD r j t wr);go_wp2_with fail;refine OF.o.mono ?_;rintro e w7 ⟨rfl,W⟩;have V4:=sH (V.o.ar W);generalize(a7 r).iU=bd;by_cases hb:bd=9
  .exact aeX
  .have hb:(bd==9)=false:=by simpa using hb
   go_wp2;go_roundg(2-1)
   .exact⟨1+1,ak,ak,jy,V4⟩
   omega
theorem ZY(A:aA)(n c:Nat)(d:Int)(ts:aC)(w:ahh)(h:aM .i32 w A n c ts)(o:n<=10000):ahk prog 23 #[.slice A n c,ae aj d] w (PI w):=by
 have R:=sH h;by_cases h1:(d==1)=true
 .go_enter func23,ntmps23
  go_wp2;go_ret;exact⟨_,rfl,Below.refl _ _⟩
 have h1:(d==1)=false:=Fa;by_cases h2:(d==2)=true
 .go_enter func23,ntmps23
  go_wp2;go_ret;exact⟨_,rfl,Below.refl _ _⟩
 have h2:(d==2)=false:=vv;go_enter func23,ntmps23;go_wp2_with fail;refine(CZ A n c ts w R.o ak).mono ?_;rintro e f ⟨D,j,rfl,a,g⟩;have l:=sH a.iw;have k:=sH g;have hle:=a.le;go_wp2_with fail;refine(U9 D n j f l.o hle.1 ak).mono ?_;rintro e p ⟨z,b,rfl,m⟩;have i:=k.t m;go_wp2;go_ret;exact⟨_,rfl,i.o⟩
def PSq(w:ahh)(B:Nat)(A:aA)(n c:Nat)(e:ahn)(a:ahh):Prop:=e=.returned (.slice A n c)/\Ow a B 3 .i64 aH A n c/\ahi B w a
structure SqR(w0 w:ahh)(i:Nat)(D:aA)(dc:Nat)(E:aA)(ec:Nat):Prop where
 be:az w0 w
 sg:Ow w w0.heap.size 21 .i32 (Wf .i32) D i dc
 cl:Ow w w0.heap.size 3 .i64 aH E i ec
theorem wR{b:ahm}{q k:IntKind}{Q:Int->Prop}(h:Ow w B e k Q A n c)(i:Ow w g b q P C m d)(a:e≠b):bM A C:=by
 obtain⟨gs,f,o⟩:=h;obtain⟨xs,j,l⟩:=i;exact bS f j a
theorem acC(TA CA s u:aA)(n tc cc m sc P B:Nat)(lv b o:Int)(ts:aC)(w:ahh)(h:aM .i32 w TA n tc ts)(hc:Iw w w.heap.size .i64 aH CA n)(hs:Iw w w.heap.size .i64 (lK n) s m)(ho:Ow w B 3 .i64 aH u n P)(hB:B<=w.heap.size)(hn:n<=5000)(hm:m<=4000)(hsb:∀g,u=some ⟨g,0,none⟩->∀t,s=some t->0<m->t.block≠g):
 ahk prog 26 #[.slice TA n tc,.slice CA n cc,.agg #[.slice s m sc,ae aj lv,ae aj b,ae aj o],.slice u n P] w (PSq w B u n P):=by
 have⟨A,aP⟩:=eX (w.alloc (.cells #[.slice s m sc,ae aj lv,ae aj b,ae aj o] 77));have U:aq (az w A):=⟨qS⟩;have c:aq (Bx A w.heap.size #[.slice s m sc,ae aj lv,ae aj b,ae aj o]):=⟨vz⟩;have R:=sH h;have S:=sH hc;have Q:=sH hs;have O0:=sH ho;have HSB:=sH hsb;go_enter func26,ntmps26;go_upto_region 1 with fail;rw[<-aP];clear aP;go_wp2;go_loopg[9,10,11](m+1)(fun gg v9 v10 v11 wr=>∃(i:Nat) (D E:aA) (O M:Nat),m-i<gg/\i<=m/\v9=.slice D i O/\v10=.slice E i M/\v11=ae aj (i:Int)/\aq (SqR A wr i D O E M))
 .exact⟨0,none,none,0,0,ak,ak,rfl,rfl,rfl,⟨⟨Below.refl _ _,Ow.nil _ _ _ _ _,Ow.nil _ _ _ _ _⟩⟩⟩
 obtain⟨i,D,E,O,M,hg,hi,rfl,rfl,rfl,V⟩:=hrel;have I:=U.t V.o.be;have⟨J,v,G,F⟩:=(c.o.ar V.o.be c.o.lt).q4;by_cases d:i<m
 .have i4:=aU i m
  obtain⟨ads,x,rfl,px,s0⟩:=(Q.o.Z I.o I.o.size).get d;obtain⟨q,rfl⟩:∃k:Nat,x=k:=⟨x.toNat,Bs⟩;have a:q<n:=Bt;have p:=aU q n;obtain⟨adt,r,rfl,hr,t0⟩:=(R.o.ar I.o).iw.get a;obtain⟨adc,y,rfl,_,c0⟩:=(S.o.Z I.o I.o.size).get a;have HR:=sH hr;have gH:=V.o.be.size;have hE:bM E D:=wR V.o.cl V.o.sg cr;have hD:=V.o.sg.head;go_wp2_with (at_builtin;refine dI Ko rfl (.tmp 21) (.tmp 30) rfl rfl (V.o.sg.alloc _) rfl (bh _ _ _) HR.o ak cw ?_);intro A8 c8 w8 o8 b8 g8;have E8:=sH ((V.o.cl.alloc _).kept g8 hE hD);have O8:=sH o8;have T:aq (az A w8):=⟨(V.o.be.alloc ak _).trans b8⟩;have l:=U.t T.o;have ahf:=T.o.size;have⟨J,v,G,F⟩:=(c.o.ar T.o c.o.lt).q4;obtain⟨ag3,x,he,px,s0⟩:=(Q.o.Z l.o l.o.size).get d;obtain rfl:=Option.some.inj he;obtain⟨H,rfl⟩:∃k:Nat,x=k:=⟨x.toNat,Bs⟩;have a:H<n:=Bt;have p:=aU H n;obtain⟨JW,y2,he2,_,c0⟩:=(S.o.Z l.o l.o.size).get a;obtain rfl:=Option.some.inj he2;have mh:bM A8 E:=wR O8.o E8.o cr;have hD2:=E8.o.head;go_wp2_with (at_builtin;refine dI lO rfl (.tmp 32) (.tmp 41) rfl rfl (E8.o.alloc _) rfl (bh _ _ _) trivial ak cw ?_);intro A9 c9 w9 o9 b9 g9;have E9:=sH ((O8.o.alloc _).kept g9 mh hD2);have O9:=sH o9;have B9:aq (az A w9):=⟨(T.o.alloc ak _).trans b9⟩;go_wp2;go_roundg(m-i)
  .exact⟨i+1,A8,A9,c8,c9,ak,ak,rfl,rfl,rfl,⟨⟨B9.o,E9.o,O9.o⟩⟩⟩
  omega
 obtain rfl:i=m:=ak;have Wk:=V.o.cl.iw;have gH:=V.o.be.size;go_wp2_with fail;refine(abc E i M b wr Wk hm).mono ?_;rintro e w2 ⟨A2,c2,rfl,o2,b2⟩;have O2:=sH o2;have B2:=sH (V.o.be.trans (b2.mono V.o.be.size));have S2:=sH (V.o.sg.ar b2);have ij:=B2.o.size;have⟨J,v,G,F⟩:=(c.o.ar B2.o c.o.lt).q4;go_wp2_with fail;obtain⟨sg,gx,gw⟩:=S2.o;refine(JB D A2 i O c2 lv b sg w2 (Own.fT gx gw) O2.o.iw ak).mono ?_;rintro e w3 ⟨A3,c3,rfl,o3,b3⟩;have O3:=sH o3;have B3:=sH (B2.o.trans (b3.mono ij));have Y:=B3.o.size;have⟨J,v,G,F⟩:=(c.o.ar B3.o c.o.lt).q4;go_wp2_with fail;refine(Jk A3 i c3 lv b o w3 O3.o.iw ak).mono ?_;rintro e w4 ⟨A4,c4,rfl,o4,b4⟩;have O4:=sH o4;have X:=sH (B3.o.trans (b4.mono Y));have IC:=X.o.size;have⟨J,v,G,F⟩:=(c.o.ar X.o c.o.lt).q4;go_wp2_with fail;refine(EK A4 i c4 lv w4 O4.o.iw ak).mono ?_;rintro e w5 ⟨A5,c5,rfl,o5,b5⟩;have O5:=sH o5;have B5:=sH (X.o.trans (b5.mono IC));have rZ:=B5.o.size;have X5:=sH (c.o.ar B5.o c.o.lt);have f:=U.t B5.o;have QW5:=Q.o.Z f.o f.o.size;have OW5:=sH (O0.o.ar f.o);obtain⟨g,Rv,hBg,YT,qM,sj⟩:∃g,(0<i->u=some ⟨g,0,none⟩)/\B<=g/\g≠w.heap.size/\nL g s i/\nL g A5 i:=by
  rcases Nat.eq_zero_or_pos i with K|K
  .exact⟨B+w.heap.size+1,ak,ak,ak,fun Z=>by omega,fun Z=>by omega⟩
  .obtain⟨t,z,e1,e2,_⟩:=Q.o.get K
   have we:0<n:=by have:=e2.1;have:=e2.2;omega
   obtain⟨g,e3,e4,e5⟩:=O0.o.form we;obtain⟨g5,e6,e7,e8⟩:=O5.o.form K;have:=U.o.size;refine⟨g,fun _=>e3,e4,ak,fun Z t L=>HSB.o g e3 t L K,fun Z t L=> ?_⟩;rw[e6]at L;obtain rfl:=Option.some.inj L;show g5≠g;omega
 have H0:=sH Rv;obtain⟨qs,qa,qp⟩:=QW5;obtain⟨ls,la,lp⟩:=O5.o.iw;have QA:=sH qa;have LA:=sH la;have QP:=sH qp;have LP:=sH lp;go_wp2;go_loopg[13](i+1)(fun gg ko wr=>∃j:Nat,i-j<gg/\j<=i/\ko=ae aj (j:Int)/\aq (Ow wr B 3 .i64 aH u n P)/\aq (cW g w5 wr))
 .exact⟨0,ak,ak,rfl,OW5,⟨cW.refl _ _⟩⟩
 obtain⟨j,hg,hj,rfl,W,C⟩:=hrel;have⟨J,v,G,F⟩:=(X5.o.kS ak C.o).q4;by_cases d:j<i
 .have j4:=aU j i
  obtain rfl:=H0.o ak;have Q9:Iw _ _ .i64 (lK n) s i:=⟨qs,QA.o.kS qM C.o,QP.o⟩;have L9:Iw _ _ .i64 aH A5 i:=⟨ls,LA.o.kS sj C.o,LP.o⟩;obtain⟨ads,x,rfl,px,s0⟩:=Q9.get d;obtain⟨q,rfl⟩:∃k:Nat,x=k:=⟨x.toNat,Bs⟩;have a:q<n:=Bt;have p:=aU q n;obtain⟨qd,y,rfl,_,l0⟩:=L9.get d;have fz:=W.o.fz q;obtain⟨z,_,z0⟩:=W.o.get a;have N:=sH (W.o.set q (y:=y) trivial);have NB:=sH (C.o.set q (ae aj y));go_wp2;go_region_law (fail)
  all_goals
   try simp only[Act.put]
   go_wp2
   (go_roundg(i-j)<;>first|omega|exact⟨j+1,ak,ak,rfl,N.o|>fun h=>⟨h.ar (Below.refl _ _).drew⟩,⟨NB.o.trans (cW.of (Below.refl _ _).drew)⟩⟩)
 obtain rfl:j=i:=ak;go_wp2;go_ret;exact⟨rfl,W.o,(f.o.mono hB).trans (C.o.below hBg (by have:=f.o.size;omega))⟩
theorem GU{ts:aC}{n:Nat}(h:tZ ts n n)(c:ts.length=n):∀k,k+1<=n->par ts k=[]
 |0,_=>rfl
 |k+1,hk=>by
  have b:fw ts k=false:=by
   unfold fw;rw[Bool.or_eq_false_iff];refine⟨?_,cw⟩;by_cases a:tU ts k=11
   .obtain⟨f,e,d⟩:=h k ak ak a
    have:fO ts k=true:=by unfold fO;simp[e,d];omega
    simp[this]
   .simp[a]
  rw[tV b];exact GU h c k ak
theorem ID(h:tZ ts n n)(a:ts.length=n):(rz ts).length<=1:=by
 unfold rz;rw[a];rcases n with _|n
 .simp[par]
 .have:=GU h a n ak
  simp only[par,this];split<;>simp
def afz(w:ahh)(n:Nat)(e:ahn)(a:ahh):Prop:=∃(A:aA) (c:Nat) (b:Int),e=.returned (.tuple #[.slice A n c,ae aj b,ae aj 0])/\Ow a w.heap.size 3 .i64 aH A n c/\az w a
theorem WE(s:SqD):(Zy s).length=4:=rfl
theorem acI(A:aA)(n c:Nat)(dir:Int)(ts:aC)(w:ahh)(h:aM .i32 w A n c ts)(hn:n<=60)(hr:Cq ts n)(hd:0<=dir/\dir<=2)(ho:tZ ts n n):ahk prog 7 #[.slice A n c,ae aj dir] w (afz w n):=by
 have hp:=ID ho h.at_.len;have R:=sH h;have HR:=sH hr;obtain⟨Dp,JG⟩:=hd;have i1:decide (dir<0)=false:=gZ;have i2:decide (2<dir)=false:=gZ;have i3:decide ((4096:Int)<(n:Int))=false:=gZ;have i3b:decide (4096<n)=false:=gZ;have Z:=sH hp;clear h hr ho hp;go_enter func7,ntmps7;go_wp2_with fail;refine(AR A n c ts w R.o ak).mono ?_;rintro e _ ⟨z,rfl,hz,rfl⟩;obtain rfl:z=true:=hz.2 HR.o;clear hz;go_wp2_with fail;have K:=Es A n c ts _ R.o ak;unfold Hl at K;refine K.mono ?_;clear K;rintro e w1 ⟨D0,d0,rfl,_,N⟩;have B1:=sH N;have V:=sH (R.o.ar N);have p1:decide ((1:Int)<((rz ts).length:Int))=false:=by have:=Z.o;simp<;>omega
 have W:decide (1<(rz ts).length)=false:=by have:=Z.o;simp<;>omega
 clear N Z;generalize(rz ts).length=pl at*;go_wp2_with fail;refine(CZ A n c ts w1 V.o ak).mono ?_;rintro e w2 ⟨OA,oc,rfl,I,Y⟩;have Q:=I.le.1;have B2:=B1.t Y;have R2:=sH (V.o.ar Y);have C2:=sH I.iw;clear I Y B1 V p1 W;go_wp2_with fail;refine(ZY A n c dir ts w2 R2.o ak).mono ?_;rintro e w3 ⟨base,rfl,H⟩;have B3:=B2.t H;have J:=sH (C2.o.Z H H.size);clear H B2 R2 C2;go_wp2_with fail;refine(Qa OA n oc base w3 J.o Q ak).mono ?_;rintro e w4 ⟨LA,CA,lc,cc,rfl,ol,s,C⟩;have B4:=B3.t C;have P:=sH (J.o.Z C C.size);have M:=sH ol.iw;have K4:=sH s.iw;clear ol s C J B3;go_wp2_with fail;refine(af4 OA LA n oc lc base w4 P.o M.o hn).mono ?_;rintro e k ⟨D,q,dc,B,ss,hq,rfl,hB,gs,m⟩;have E:=B4.t m;have C5:=sH (P.o.Z m m.size);have K5:=sH (K4.o.Z m m.size);have GS:=sH gs;obtain⟨xs,hx,_⟩:=M.o.Z m m.size;have XS:=sH hx;clear m gs hx P M K4 B4 hB;have R5:=sH (R.o.ar E.o);go_wp2_with (at_builtin;refine gS lO rfl (.tmp 47) (.tmp 48) rfl rfl (Own.nil k k.heap.size 3 .i64) rfl XS.o ak bW ?_;intro t u w6 o1 b6;have O6:aq (Ow w6 k.heap.size 3 .i64 aH t n u):=⟨⟨_,by simpa using o1,fun _ _=>trivial⟩⟩;have B6:=sH b6;clear o1 b6 XS);go_loopg[12,13](q+1)(fun gg S L wr=>∃(i:Nat),q-i<gg/\i<=q/\S=.slice t n u/\L=ae aj (i:Int)/\aq (Ow wr k.heap.size 3 .i64 aH t n u)/\aq (az k wr))
 .exact⟨0,ak,ak,by first|rfl|simp,rfl,O6,B6⟩
 clear O6 B6;obtain⟨i,hg,hi,rfl,rfl,j,d⟩:=hrel;by_cases f:i<q
 .have i4:=aU i q
  obtain⟨g,r,rfl,mL,F,x⟩:=GS.o.at WE f;have G:=au (x 0 _ rfl) d.o;have e1:=au (x 1 _ rfl) d.o;have e2:=au (x 2 _ rfl) d.o;have e3:=au (x 3 _ rfl) d.o;rw[Nat.add_zero]at G;have SQ:aq _:=⟨acC A CA r.A t n c cc r.m r.c u k.heap.size r.lv r.so r.eo ts wr (R5.o.ar d.o) (K5.o.Z d.o d.o.size) (F.1.iw.Z d.o d.o.size) j.o d.o.size ak F.2 (fun g2 h2 ad h3 h4=>by
   obtain⟨g3,h5,_,h6⟩:=F.1.form h4;rw[h5]at h3;obtain rfl:=Option.some.inj h3;have h7:=j.o;rw[h2]at h7;have:=h7.lt.1;show g3≠g2;omega)⟩
  clear x F;go_wp2_with fail;refine SQ.o.mono ?_;rintro e O ⟨rfl,o7,o⟩;have l:=sH o7;have v:=sH (d.o.trans o);clear o7 o SQ G e1 e2 e3;go_wp2;go_roundg(q-i)
  .exact⟨i+1,ak,ak,rfl,aT,l,v⟩
  omega
 have i4:=cv i q;go_wp2;go_loopg[14,15](n+1)(fun gg X T wr=>∃(i:Nat) (a:Int),n-i<gg/\i<=n/\X=ae aj a/\T=ae aj (i:Int)/\aq (Ow wr k.heap.size 3 .i64 aH t n u)/\aq (az k wr))
 .exact⟨0,base,ak,ak,rfl,rfl,j,d⟩
 clear j d;obtain⟨i,a,hg,hi,rfl,rfl,j,d⟩:=hrel;by_cases f:i<n;rotate_left
 .have i5:=cv i n
  go_wp2;go_ret3;exact⟨_,_,_,rfl,j.o.cJ E.o.size,E.o.trans (d.o.mono E.o.size)⟩
 have i5:=aU i n;obtain⟨ado,z,rfl,_,G⟩:=(C5.o.Z d.o d.o.size).get f;obtain⟨U,rfl,_,_⟩:=j.o.form ak;go_wp2_with fail;refine(lD z wr).mono ?_;rintro e O ⟨b,rfl,o⟩;have l:=sH (j.o.ar o);have v:=d.t o;clear o G j d;obtain⟨y,_,y0⟩:=l.o.get f;cases b
 .go_wp2
  go_roundg(n-i)
  .exact⟨i+1,_,ak,ak,rfl,aT,l,v⟩
  omega
 have f0:=l.o.fz i;have O8:=sH (l.o.set i (y:=a) trivial);have B8:aq (az k (O.setCell ⟨U,i,none⟩ (ae aj a))):=⟨Below.setCell v.o (p:=⟨U,i,none⟩) l.o.lt.1 _⟩;go_upto_region 25 with fail;generalize O.setCell ⟨U,i,none⟩ (ae aj a)=w8 at*;clear y0 f0 l v;obtain⟨y,_,y0⟩:=O8.o.get f;go_wp2;go_roundg(n-i)
 .exact⟨i+1,_,ak,ak,rfl,aT,O8,B8⟩
 omega
def adR(w:ahh)(n:Nat)(e:ahn)(a:ahh):Prop:=∃x:Int,e=.returned (ae aj x)/\(x= -1∨lK n x)/\a=w
theorem Uq(A:aA)(n c N B:Nat)(z:Int)(w:ahh)(h:mV w B N A n c)(p:n<=10000):ahk prog 97 #[.slice A n c,ae aj z] w (adR w N):=by
 have R:=sH h;go_enter func97,ntmps97;go_wp2;go_loopg[5](n+1)(fun gg d wr=>∃(i:Nat),n-i<gg/\i<=n/\d=ae aj (i:Int)/\wr=w)
 .exact⟨0,ak,ak,rfl,rfl⟩
 obtain⟨i,m,o,rfl,rfl⟩:=hrel;by_cases a:i<n;rotate_left
 .have f:=cv i n
  go_wp2;go_ret;exact⟨_,rfl,.inl rfl,rfl⟩
 have f:=aU i n;obtain⟨g,x,y,rfl,j,l,k,q⟩:=mV.at R.o a;have e:=sH j;by_cases b:(y==z)=true
 .go_wp2
  go_ret;exact⟨_,rfl,.inr e.o,rfl⟩
 have b:(y==z)=false:=by simpa using b
 go_wp2;go_roundg(n-i)
 .exact⟨i+1,ak,ak,aT,rfl⟩
 omega
theorem YR(A:aA)(n c a b:Nat)(ts:aC)(w:ahh)(h:aM .i32 w A n c ts)(q:a<=b)(I:b<=n)(J:n<=10000):ahk prog 96 #[.slice A n c,.agg #[ae aj (a:Int),ae aj (b:Int)]] w (PI w):=by
 have⟨d,aP⟩:=eX (w.alloc (.cells #[ae aj (a:Int),ae aj (b:Int)] 64));have m:aq (az w d):=⟨qS⟩;have k:aq (Bx d w.heap.size #[ae aj (a:Int),ae aj (b:Int)]):=⟨vz⟩;have R:=sH h;go_enter func96,ntmps96;go_upto_region 1 with fail;rw[<-aP];clear aP;have E:d.cell? ⟨w.heap.size,0,none⟩=some (ae aj (a:Int)):=k.o.cell 0;go_wp2;go_loopg[5,6](n+1)(fun gg o _ wr=>∃(i:Nat),n-i<gg/\i<=b/\o=ae aj (i:Int)/\aq (az d wr))
 .exact⟨a,ak,ak,rfl,cA⟩
 obtain⟨i,C,D,rfl,f⟩:=hrel;have l:=m.t f.o;have y:wr.cell? ⟨w.heap.size,1,none⟩=some (ae aj (b:Int)):=(k.o.ar f.o k.o.lt).cell 1;by_cases s:i<b;rotate_left
 .have v:=cv i b
  go_wp2;go_ret;exact⟨_,rfl,l.o⟩
 have v:=aU i b;have H:=aU i n;obtain⟨G,z,rfl,r,x⟩:=(R.o.ar l.o).iw.get (show i<n by omega);obtain⟨e,j⟩:=vg r;have u:=sH (fD z e j wr);go_wp2_with fail;refine callK u.o f fun F B g=> ?_;have t:=m.t g.o;generalize(a7 z).script=sc at*;have p:sc=0∨sc=1∨(sc≠0/\sc≠1):=ak;rcases p with rfl|rfl|⟨h1,h2⟩
 .go_wp2
  go_roundg(n-i)
  .exact⟨i+1,ak,ak,aT,g⟩
  omega
 .go_wp2
  go_roundg(n-i)
  .exact⟨i+1,ak,ak,aT,g⟩
  omega
 have h1:(sc !=0)=true:=Fa;have h2:(sc !=1)=true:=vv;go_wp2;go_ret;exact⟨_,rfl,t.o⟩
structure Sd(w0 w:ahh)(g n:Nat)(C:aA)(m d:Nat)(P:aA)(q pc:Nat):Prop where
 be:az w0 w
 ow:Ow w w0.heap.size 3 .i64 aH (some ⟨g,0,none⟩) n n
 oc:Oq w (g+1) 64 2 (VO n) C m d
 op:mV w (g+1) n P q pc
theorem Sd.ar{c:ahh}{P:aA}(h:Sd w0 w g n C m d P q b)(a:az w c):Sd w0 c g n C m d P q b:=⟨h.be.trans (a.mono h.be.size),h.ow.ar a,h.oc.ar a,Oq.ar h.op a⟩
theorem Sd.set{P:aA}(h:Sd w0 w g n C m d P q a)(k:Nat)(v:Int):Sd w0 (w.setCell ⟨g,k,none⟩ (ae aj v)) g n C m d P q a:=
 ⟨Below.setCell h.be (p:=⟨g,k,none⟩) h.ow.lt.1 _,h.ow.set k trivial,h.oc.mu (h.oc.apart ak) k _,Oq.mu h.op (Oq.apart h.op ak) k _⟩
theorem Jx(A:aA)(n c:Nat)(ts:aC)(w:ahh)(h:aM .i32 w A n c ts)(hn:n<=10000):ahk prog 40 #[.slice A n c] w (Nw w 3 .i64 aH n):=by
 have R:=sH h;have zz:aq ((prog.info? 3).map (·.zero)=some (some (ae aj 0))):=⟨aF⟩;go_enter func40,ntmps40;go_wp2_with (refine cS (p:=aH) lO zz.o trivial rfl (.tmp 15) (.tmp 15) rfl n rfl rfl rfl rfl ak w.heap.size bW ?_;intro g w1 o1 b1;have O1:=sH o1;have B1:=sH b1;clear o1 b1);refine(Pt A n c ts w1 (R.o.ar B1.o) ak).mono ?_;rintro e Z ⟨C,m,d,hm,rfl,oc,G⟩;have hg:=O1.o.lt;have OC:aq (Oq Z (g+1) 64 2 (VO n) C m d):=⟨oc.cJ ak⟩;have O2:=sH (O1.o.ar G);have Y:=B1.t G;have ij:=G.size;go_wp2_with fail;refine(CZ A n c ts Z (R.o.ar Y.o) ak).mono ?_;rintro e w3 ⟨D,dd,rfl,od,f⟩;have OD:=sH od.iw;have U:=Y.t f;have O3:=sH (O2.o.ar f);have I:=sH (OC.o.ar f);have uV:=f.size;go_wp2_with fail;refine(Fx A D n c dd ts w3 (R.o.ar U.o) OD.o hn).mono ?_;rintro e w4 ⟨P,q,v,hq,rfl,op,Q⟩;have V:aq (Sd w w4 g n C m d P q v):=⟨⟨U.o.trans (Q.mono U.o.size),O3.o.ar Q,I.o.ar Q,Oq.cJ op ak⟩⟩;have w0:ahl ((m:Int)-1)=(m:Int)-1:=IntWalk.wrap64_in _ ak;go_wp2;go_loopg[6,7,8](m+1)(fun gg W v7 _ wr=>∃(k:Nat) (z:Int),k<gg/\k<=m/\W=ae aj z/\v7=ae aj ((k:Int)-1)/\aq (Sd w wr g n C m d P q v))
 .exact⟨m,0,ak,ak,rfl,rfl,V⟩
 obtain⟨k,z,O,hk,rfl,rfl,V⟩:=hrel;rcases k with _|k
 rotate_left
 .have ei:(((k+1:Nat):Int)-1)=(k:Int):=by omega
  rw[ei];obtain⟨gc,a,H,rfl,K,o,r,u⟩:=V.o.oc.cut (j:=k) ak;have k0:=ie k;have k1:=aU k m;go_wp2_with fail;refine(YR A n c a H ts _ (R.o.ar V.o.be) ak o ak).mono ?_;rintro e w5 ⟨s,rfl,l⟩;have t:=sH (V.o.ar l);have r:=au r l;have u:=au u l
  by_cases hs:(s== -1)=true
  .have hs:(s != -1)=false:=by simpa using hs
   go_wp2;go_roundg(k+1)
   .exact⟨k,_,ak,ak,rfl,jy,t⟩
   omega
  .have hs:(s != -1)=true:=by simpa using hs
   go_wp2;go_roundg(k+1)
   .exact⟨k,_,ak,ak,rfl,jy,t⟩
   omega
 go_wp2;go_loopg[6,9,10,11,12,13](m+1)(fun gg W J v10 _ _ _ wr=>∃(i:Nat) (z:Int) (b:Bool),m-i<gg/\i<=m/\W=ae aj z/\J=.bool b/\v10=ae aj (i:Int)/\aq (Sd w wr g n C m d P q v))
 .exact⟨0,z,_,ak,ak,rfl,rfl,rfl,V⟩
 obtain⟨i,z,b,XH,hi,rfl,rfl,rfl,V⟩:=hrel;by_cases L:i<m;rotate_left
 .have i4:=cv i m
  go_wp2;go_ret;exact⟨_,_,rfl,V.o.ow,V.o.be⟩
 have i4:=aU i m;obtain⟨gc,a,H,rfl,K,o,r,u⟩:=V.o.oc.cut (j:=i) ak;have k0:=ie i;have k1:=aU i m;go_wp2_with fail;refine(YR A n c a H ts _ (R.o.ar V.o.be) ak o ak).mono ?_;rintro e w5 ⟨s,rfl,l⟩;have t:=sH (V.o.ar l);have r:=au r l;have u:=au u l
 go_wp2_with fail;refine(Uq P q v n (g+1) (a:Int) w5 t.o.op ak).mono ?_;rintro e _ ⟨x,rfl,hx,rfl⟩
 rename ahh=>w6
 have HX:=sH hx;go_upto_if 59 with fail;go_cut[9,11](fun J M wx=>(∃b:Bool,J=.bool b)/\(∃z:Int,M=ae aj z)/\w6=wx)
 case first=>
  by_cases hs:(s== -1)=true;rotate_left
  .have hs:(s != -1)=true:=by simpa using hs
   go_wp2;go_meet;exact⟨⟨_,rfl⟩,⟨_,rfl⟩,rfl⟩
  have hs:(s != -1)=false:=oP;by_cases E:x= -1
  .subst E
   go_wp2;go_meet;exact⟨⟨_,rfl⟩,⟨_,rfl⟩,rfl⟩
  have uR:(x != -1)=true:=by simpa using E
  obtain⟨F,rfl⟩:∃F:Nat,x=F:=⟨x.toNat,by rcases HX.o with h|⟨h,_⟩<;>omega⟩;have S:F<n:=by rcases HX.o with h|⟨_,h⟩<;>omega
  have X:=aU F n;obtain⟨y,_,y0⟩:=t.o.ow.get S;cases b
  .go_wp2
   go_meet;exact⟨⟨_,rfl⟩,⟨_,rfl⟩,rfl⟩
  .go_wp2
   go_meet;exact⟨⟨_,rfl⟩,⟨_,rfl⟩,rfl⟩
 case rest=>
 obtain⟨⟨G,rfl⟩,⟨s2,rfl⟩,rfl⟩:=hcut;go_wp2;go_loopg[13](n+1)(fun gg N wr=>∃(k:Nat),n-k<gg/\k<=n/\N=ae aj (k:Int)/\aq (Sd w wr g n (some ⟨gc,0,none⟩) m d P q v))
 .exact⟨a,ak,ak,rfl,t⟩
 obtain⟨k,O,hk,rfl,V⟩:=hrel;obtain⟨gc2,a2,f,B,afl,afE,r,u⟩:=V.o.oc.cut L;injection B with B
 injection B with B
 subst B;by_cases hkb:k<f;rotate_left
 .have i5:=cv k f
  go_wp2;go_roundg(m-i)
  .exact⟨i+1,_,_,ak,ak,rfl,rfl,aT,V⟩
  omega
 have i5:=aU k f;have T:k<n:=ak;have i6:=aU k n;obtain⟨y,_,y0⟩:=V.o.ow.get T;have f0:=V.o.ow.fz k;have V3:=sH (V.o.set k s2);go_wp2;go_roundg(n-k)
 .exact⟨k+1,ak,ak,aT,V3⟩
 omega
theorem Vl(A:aA)(n c:Nat)(ts:aC)(w:ahh)(h:aM .i32 w A n c ts)(p:n<=100000):ahk prog 43 #[.slice A n c] w fun e a=>∃(bs:List Nat) (m:Nat) (D:aA) (d:Nat),e=.returned (.slice D m d)/\aw a w.heap.size 64 2 D m d (dx (uj bs m))/\(∀i,i<m->cZ bs i<cZ bs (i+1)/\cZ bs (i+1)<=n)/\(0<n->0<m/\cZ bs 0=0/\cZ bs m=n)/\m<=n/\az w a:=by
 refine(wj A n c ts w h ak).mono ?_;rintro e a ⟨D,d,rfl,o,b⟩;have f:(ks ts).length=n:=Rc;have g:(uH (ks ts)).length=(de (ks ts)).length-1:=by unfold uH;rw[iJ]
 rw[g]at o⊢;have j:(de (ks ts)).length<=n+1:=by
  have:=lB (ks ts) ((ks ts).length+1);unfold de;omega
 refine⟨de (ks ts),(de (ks ts)).length-1,D,d,rfl,o,fun i r=>⟨qk ak,by have:=FG (l:=ks ts) (k:=i+1) (by omega);omega⟩,fun q=>⟨by have:=Qu (ks:=ks ts) (by omega);omega,(oo ak).1,by rw[(qH (by omega)).2,f]⟩,ak,b⟩
def ZC(n:Nat)(r:aC):Prop:=(0<=nth r 0/\nth r 0<=n)/\(0<=nth r 1/\nth r 1<=n)
def mi(w:ahh)(A:aA)(m t:Nat):Prop:=0<m/\∃g,A=some ⟨g,0,none⟩/\w.cell? ⟨g,(m-1)*6+1,none⟩=some (ae aj (t:Int))
def PRn(w:ahh)(s:cN)(p:jA)(ts:aC)(e:ahn)(a:ahh):Prop:=∃(A:aA) (m c:Nat) (z:Int),e=.returned (.tuple #[.slice A m c,ae aj z])/\(z=0->XL w a s p ts/\m<=p.tn/\Oq a w.heap.size 62 6 (ZC p.tn) A m c/\(0<p.tn->mi a A m p.tn))/\az w a
theorem XL.Z{c b:ahh}{s:cN}(h:XL w c s p ts)(a:az c b):XL w b s p ts:=⟨h.1.Z a a.size,h.2⟩
def aaP(N:Nat)(P:Int->Prop):Sat:=⟨fun v w=>∃(A:aA) (m c:Nat),v=.slice A m c/\m<=N/\Nt w w.heap.size P A m,fun _ _ _ ⟨A,m,c,b,e,d⟩ a=>⟨A,m,c,b,e,d.Z a a.size⟩⟩
theorem Oq.ZW(h:Oq w B e 6 Q (some ⟨g,0,none⟩) n c){j:Nat}(f:j<n):∃x:Rn,Q [x.f,x.t,x.lv,x.sp,x.fo,x.st]/\w.cell? ⟨g,j*6,none⟩=some (ae aj x.f)/\w.cell? ⟨g,j*6+1,none⟩=some (ae aj x.t)/\w.cell? ⟨g,j*6+2,none⟩=some (ae aj x.lv)/\w.cell? ⟨g,j*6+3,none⟩=some (ae aj x.sp)/\w.cell? ⟨g,j*6+4,none⟩=some (ae aj x.fo)/\w.cell? ⟨g,j*6+5,none⟩=some (ae aj x.st):=by
 obtain⟨d,e,_,i⟩:=h.rq ak ak;obtain rfl:(⟨g,0,none⟩:Addr)=d:=Br;obtain⟨r,b,l,a⟩:=i j f;have key:∀q x,r[q]? =some x->w.cell? ⟨g,j*6+q,none⟩=some (ae aj x):=fun q x k=>by
  have:=a q x k;rwa [aY,bj]at this
 match r,b with
 |[x0,x1,x2,x3,x4,x5],_=>exact⟨⟨x0,x1,x2,x3,x4,x5⟩,l,key 0 _ rfl,key 1 _ rfl,key 2 _ rfl,key 3 _ rfl,key 4 _ rfl,key 5 _ rfl⟩
theorem nI{P:aho}{ops:Array Oper}{rest:List Oper}{o:Oper}{a:Act}{K:Exit->Act->ahh->Prop}{t:ahm}{bytes:Nat}(T:aR P t e b bytes)(v:o.guard=none)(s x:Operand)
 (S:o.op=.call {callee:=.builtin .append,args:=#[s,x],argTypes:=#[t,t]}) {B:Nat} {Q:aC->Prop} {A:aA} {n c:Nat} (H:a.eval s=.slice A n c) (i:Oq w B e b Q A n c)
 {g:Nat} (L:a.eval x=.slice (some ⟨g,0,none⟩) 1 1) (r:aC) (d:r.length=b) (I:∀j u,(dk r)[j]? =some u->w.cell? ⟨g,j,none⟩=some u) (R:Q r)
 (W:(n+1)*bytes<=140737488355328) (V:B<=w.heap.size)
 (h:∀p c' f,Oq f B e b Q p (n+1) c'->(∀D,p=some ⟨D,0,none⟩->∀q u,r[q]? =some u->f.cell? ⟨D,n*b+q,none⟩=some (ae aj u))->ahi B w f->wpList P ops K rest (a.put o.dst (.slice p (n+1) c')) f):wpList P ops K (o::rest) a w:=by
 obtain⟨gs,h1,E,G⟩:=i;refine br T v s x S H G L (news:=dk r) (by simp[dk,d]) I (fun u m=> ?_) W V fun p c' f F J _ _=>h p c' f ⟨gs++[r],nd,fun z k=> ?_,by rw[List.flatMap_append];simpa using F⟩ (fun D X q u m=> ?_) J
 .simp only[dk,List.mem_map]at m
  obtain⟨z,_,rfl⟩:=m;rfl
 .rcases List.mem_append.1 k with k|k
  .exact E z k
  .obtain rfl:=List.mem_singleton.1 k
   exact⟨d,R⟩
 .subst X
  have N:q<b:=by rw[<-d];exact(List.getElem?_eq_some_iff.1 m).1
  have U:n*b+q<(n+1)*b:=QT;have O:∀l:List aC,(∀g∈l,g.length=b)->(l.flatMap dk).length=l.length*b:=fun l=>by
   induction l with
   |nil=>simp
   |cons y l ih=>
    intro d;rw[List.flatMap_cons,List.length_append,ih (fun g C=>d g (by simp[C])),List.length_cons,Nat.add_mul];have:=d y aQ;simp[dk,this];omega
  have M:(gs.flatMap dk).length=n*b:=by rw[O gs (fun g C=>(E g C).1),h1]
  rw[aw.cellAt F _ U,List.getElem?_append_right ak,M,Nat.add_sub_cancel_left];simp[dk,m]
theorem TRn:aR prog 35 62 6 48:=bu underlying35 (z:=.agg #[ae aj 0,ae aj 0,ae aj 0,ae aj 0,ae aj 0,ae aj 0]) aF rfl ak ak
theorem aeV(s:G:=by
 exact⟨i+1,m+1,A12,c12,ak,ak,ak,rfl,aT,O12,⟨fun _=>by rw[HBE.o];exact Tw.o⟩,B12⟩):G:=s
theorem aaB(hB:rI)(hP:qJ)(s:cN)(p:jA)(ts:aC)(w:ahh)(h:gL w w.heap.size s)(hp:lh w p ts)(hs:yI w s p):ahk prog 13 #[s.v,p.v] w (PRn w s p ts):=by
 have⟨W1,aP,B1,X1,X2⟩:=box2 w s.row 26 p.row 31;have⟨c0,c1,X,c3,c4⟩:=X1.o.c5;have⟨J,q,H,G,F,B,I,C⟩:=X2.o.c8;have R0:=sH h;have P0:=sH hp;have S0:=sH hs;have ht:p.tn<=60:=hs.1;have ox:p.sn<=60:=hs.2.1;have RO:s.fn<=10:=hs.2.2.2.1;clear h hp hs;go_enter func13,ntmps13;go_upto_region 1 with fail;rw[<-aP];clear aP;go_wp2_with fail;refine(yp hB hP s p ts W1 (R0.o.Z B1.o B1.o.size) (P0.o.ar B1.o) (S0.o.ar R0.o B1.o)).mono ?_;rintro e w3 ⟨z,rfl,hz,b3⟩;have BH:=B1.t b3;have XA:=sH (X1.o.ar b3 X1.o.lt);have XB:=sH (X2.o.ar b3 X2.o.lt);have HZ:aq (z=0->XL w w3 s p ts):=⟨fun h=>⟨(hz h).1,(hz h).2.1,(hz h).2.2.1,(hz h).2.2.2.back B1.o⟩⟩;clear hz b3 c0 c1 X c3 c4 J q H G F B I C X1 X2;by_cases h0:z=0;rotate_left
 .have Dm:(z !=0)=true:=by simp[h0]
  clear h0;have h0:aq (z≠0):=⟨by simpa using Dm⟩;go_wp2;go_ret2;exact⟨_,_,_,_,rfl,fun h=>absurd h h0.o,BH.o⟩
 have Dm:(z !=0)=false:=by simp[h0]
 have CH:=sH (HZ.o h0);clear h0 HZ;have⟨J,q,H,G,F,B,I,C⟩:=XB.o.c8;go_wp2_with fail;refine(acI p.T p.tn p.tc p.dir ts w3 (P0.o.ar BH.o).rT ht CH.o.2.2.1 CH.o.2.2.2.2.2.1 CH.o.2.2.2.2.1).mono ?_;rintro e w4 ⟨LA,lc,base,rfl,ol,b4⟩;have B4:=BH.t b4;have L4:=sH ol.iw;have Y4:=sH (XB.o.ar b4 XB.o.lt);have X4:=sH (XA.o.ar b4 XA.o.lt);have C4:=sH (CH.o.Z b4);clear ol b4 XA XB CH BH J q H G F B I C;have⟨J,q,H,G,F,B,I,C⟩:=Y4.o.c8;go_wp2_with fail;refine(Jx p.T p.tn p.tc ts w4 (P0.o.ar B4.o).rT ak).mono ?_;rintro e w5 ⟨SA,sc,rfl,os,b5⟩;have B5:=B4.t b5;have L5:=sH (L4.o.Z b5 b5.size);have S5:=sH os.iw;have Y5:=sH (Y4.o.ar b5 Y4.o.lt);have X5:=sH (X4.o.ar b5 X4.o.lt);have C5:=sH (C4.o.Z b5);clear os b5 L4 X4 Y4 C4 B4 J q H G F B I C;have⟨c0,c1,X,c3,c4⟩:=X5.o.c5;have⟨J,q,H,G,F,B,I,C⟩:=Y5.o.c8;go_wp2;have SW5:=sH (S0.o.ar R0.o B5.o);have W:=sH (R0.o.Z B5.o B5.o.size);have PW5:=sH (P0.o.ar B5.o);have⟨K0,K1,K2,K3,K4,L0,L1,L2⟩:=lc8 c0 c1 X c3 c4 J q H;have⟨L3,L4,L6,L7,L8⟩:=lc5 G F B I C;clear c0 c1 X c3 c4 J q H G F B I C;refine sB (iZ 42 (aaP p.tn aH)) 7 rfl aF aF aF aF aF rfl rfl ?_;refine mLw ?_;refine lwA (aaP p.tn aH) (fun f=> ?_) (fun v9 l=> ?_)
 .go_simp
  refine aX (aaP p.tn aH) ((Pz hB hP s p ts f.1 (W.o.Z f.2 f.2.size) (PW5.o.ar f.2) (SW5.o.ar W.o f.2)).mono ?_);rintro e w6 ⟨A6,m6,c6,hm6,rfl,o6,b6⟩;exact⟨_,rfl,⟨A6,m6,c6,rfl,hm6,o6.gG (fun _ _=>trivial)⟩,b6⟩
 obtain⟨_,_,A6,m6,c6,rfl,hm6,_⟩:=l;simp[Act.put];intro f hE;obtain⟨A7,m7,c7,e7,_,sp6⟩:=hE;simp at e7;obtain⟨r1,r2,_⟩:=e7;rw[<-r1,<-r2]at sp6;have SP:=sH sp6;have B6:=B5.t f.2;have RW6:=sH ((W.o.Z f.2 f.2.size).rF);have PW6:=sH ((PW5.o.ar f.2).rT);have Y6:=sH (Y5.o.ar f.2 Y5.o.lt);have L9:=sH (L5.o.Z f.2 f.2.size);have S6:=sH (S5.o.Z f.2 f.2.size);have C6:=sH (C5.o.Z f.2);have hf0:=C5.o.2.1.2;clear sp6 r1 r2 K0 K1 K2 K3 K4 L0 L1 L2 L3 L4 L6 L7 L8 SW5 W PW5 X5 Y5 L5 S5 C5 B5;generalize f.1=w6 at*;clear f;go_simp;refine(agE s.F s.fn s.fc p.T p.tn p.tc ts A6 m6 _ w6 RW6.o PW6.o SP.o ak ak ak ak).mono ?_;rintro e w7 ⟨FA,fm,fc,hfm,rfl,of,b7⟩;have B7:=B6.t b7;have Rz:aq (Nt w7 w7.heap.size (vp s.fn) FA fm):=⟨of.gG (fun _ h=>h)⟩;have Y7:=sH (Y6.o.ar b7 Y6.o.lt);have L7:=sH (L9.o.Z b7 b7.size);have S7:=sH (S6.o.Z b7 b7.size);have C7:=sH (C6.o.Z b7);clear of b7 RW6 PW6 Y6 L9 S6 C6 B6 SP;go_simp;have⟨J,q,H,G,F,B,I,C⟩:=Y7.o.c8;go_wp2_with fail;refine(Vl p.T p.tn p.tc ts w7 (P0.o.ar B7.o).rT ak).mono ?_;rintro e w8 ⟨bs,k,D,dd,rfl,oc,Gg,Vo,hk,T⟩;have OC:=sH oc;have B8:=B7.t T;have F8:=sH (Rz.o.Z T T.size);have Y8:=sH (Y7.o.ar T Y7.o.lt);have L8:=sH (L7.o.Z T T.size);have S8:=sH (S7.o.Z T T.size);have C8:=sH (C7.o.Z T);have HB:=sH Gg;have H0:=sH Vo;clear oc T Rz Y7 L7 S7 C7 B7 Gg Vo J q H G F B I C;obtain rfl:z=0:=by simpa using Dm
 go_wp2;go_loopg[7,14,15,16,17](k+1)(fun gg v7 yS _ _ _ wr=>∃(i m:Nat) (A:aA) (c:Nat),k-i<gg/\i<=k/\m<=i/\v7=.slice A m c/\yS=ae aj (i:Int)/\aq (Oq wr w8.heap.size 62 6 (ZC p.tn) A m c)/\aq (0<i->mi wr A m (cZ bs i))/\aq (az w8 wr))
 .exact⟨0,0,none,0,ak,ak,ak,rfl,rfl,⟨Oq.nil _ _ _ _ _⟩,⟨fun h=>absurd h ak⟩,cA⟩
 obtain⟨i,m,A,c,hg,hi,hm,rfl,rfl,OE,LT,BE⟩:=hrel;by_cases aK:i<k;rotate_left
 .have i4:=cv i k
  obtain rfl:i=k:=ak;go_wp2;go_ret2;exact⟨_,_,_,_,rfl,fun _=>⟨C8.o.Z BE.o,ak,OE.o.cJ B8.o.size,fun h=>by have:=LT.o (H0.o h).1;rwa [(H0.o h).2.2]at this⟩,B8.o.trans (BE.o.mono B8.o.size)⟩
 have i4:=aU i k;obtain⟨gD,rfl,_,_⟩:=aw.form OC.o ak;have q0:=(aw.cellAt OC.o (i*2) ak).trans (jX (uj bs k) i (by rw[iJ];omega)).1;have q1:=(aw.cellAt OC.o (i*2+1) ak).trans (jX (uj bs k) i (by rw[iJ];omega)).2;rw[ky _ _ _ aK]at q0 q1;have q0:=au q0 BE.o;have q1:=au q1 BE.o;dsimp only at q0 q1;have⟨a,ha⟩:=eY (cZ bs i);have⟨b,hb⟩:=eY (cZ bs (i+1));have jB:=HB.o i aK;rw[ha,hb]at jB;rw[ha]at q0;rw[hb]at q1;have HBE:=sH hb;clear ha hb LT;have⟨Z,S⟩:=eX (wr.alloc (.cells #[ae aj (a:Int),ae aj (b:Int)] 64));have U:aq (az w8 Z):=⟨by rw[S];exact BE.o.alloc BE.o.size _⟩;have O9:aq (Oq Z w8.heap.size 62 6 (ZC p.tn) A m c):=⟨by rw[S];exact OE.o.ar (av _ _)⟩;have X9:aq (Bx Z wr.heap.size #[ae aj (a:Int),ae aj (b:Int)]):=⟨by rw[S];exact Bx.new _ _ _⟩;go_upto_region 13 with fail;rw[<-S];clear S q0 q1 OE BE;have BG:=B8.t U.o;obtain⟨qd,lv,rfl,_,e0⟩:=(L8.o.Z U.o U.o.size).get (show a<p.tn by omega);obtain⟨ads,R,rfl,_,e1⟩:=(S8.o.Z U.o U.o.size).get (show a<p.tn by omega);have x0:Z.cell? ⟨wr.heap.size,0,none⟩=some (ae aj (a:Int)):=X9.o.cell 0;have x1:Z.cell? ⟨wr.heap.size,1,none⟩=some (ae aj (b:Int)):=X9.o.cell 1;have⟨J,q,H,G,F,B,I,C⟩:=(Y8.o.ar U.o Y8.o.lt).c8;have F9:=sH (F8.o.Z U.o U.o.size);have PS:=sH (Nt.of (P:=aH) (P0.o.ar BG.o).rS (fun _ _ _ _ _ _=>trivial));have i5:(a:Int)<(p.tn:Int):=ak;have⟨K0,K1,K2,K3,K4⟩:=lc5 x0 x1 e0 e1 q;clear x0 x1 e0 e1 J q H G F B I C;refine aS (fun d=>if d=some 74 then some ZI else if d=some 79 then some ZI else if d=some 16 then some (ZX Z.heap.size #[ae aj 0,ae aj 0,ae aj 0,ae aj 0,ae aj 0,ae aj 0])else none) 25 rfl aF aF aF aF aF rfl ?_;refine mLw ?_;refine lwA ZI (fun f=> ?_) (fun v9 l=> ?_)
 .go_simp
  refine aX ZI ((Oy FA fm fc _ (vp s.fn) f.1 (F9.o.Z f.2 f.2.size) ak).mono ?_);rintro e w6 ⟨z,rfl,_,hb⟩;exact⟨_,rfl,⟨z,rfl⟩,hb⟩
 obtain⟨_,_,z1,rfl⟩:=l;simp[Act.put];refine mLw ?_;refine lwA ZI (fun f=> ?_) (fun v9 l=> ?_)
 .go_simp
  refine aX ZI ((Oy p.S p.sn p.sc _ aH f.1 (PS.o.Z f.2 f.2.size) ak).mono ?_);rintro e w6 ⟨z,rfl,_,hb⟩;exact⟨_,rfl,⟨z,rfl⟩,hb⟩
 obtain⟨_,_,z2,rfl⟩:=l;simp[Act.put];refine mLw ?_;refine lwA (ZX Z.heap.size #[ae aj 0,ae aj 0,ae aj 0,ae aj 0,ae aj 0,ae aj 0]) (fun f=> ?_) (fun v9 l=> ?_)
 .go_simp
  exact xe f _ _
 obtain⟨_,_,g,rfl,dW,_⟩:=l;simp[Act.put];intro f hE;have mh:=ZX.get hE.2;obtain⟨eD,zt⟩:=mh.heap;clear hE K0 K1 K2 K3 K4 F9 PS;refine wp_store_row 62 (.tmp 16) (.tmp 80) rfl g _ rfl rfl eD _ zt aF rfl dJ ?_;have Y:=sH (mh.row (ds:=(⟨a,b,lv,R,z1,z2⟩:Rn).row));have⟨w10,o⟩:=eX (f.1.setRow g (⟨a,b,lv,R,z1,z2⟩:Rn).row);have V:aq (az Z w10):=⟨by rw[o];exact below_setRow f.2 dW _⟩;rw[<-o]at Y;rw[<-o];clear o mh zt;have t:=sH (O9.o.ar V.o);have v:=sH (X9.o.ar V.o X9.o.lt);have BX:=U.t V.o;clear O9 X9 U V BG;go_wp2_with fail;rcases Nat.eq_zero_or_pos m with Ch|Ch
 .have Rs:decide (0<m)=false:=gW
  clear Ch;refine aD (fun _=>none) aF aF ?_;refine mSk ?_
  first
   |(intro (f:aG _);obtain⟨O,E⟩:=f)
   |(rintro O ⟨⟨_,E⟩,rfl⟩)
  try dsimp only
  have n:=sH (t.o.ar E);have X11:=sH (v.o.ar E v.o.lt);have K:=sH (Y.o.ar E Y.o.lt);have r:=BX.t E;have⟨g0,g1,g2,g3,g4,g5⟩:=K.o.c6;have M:=r.o.size;clear E t v Y BX;go_step;go_wp2_with (at_builtin;refine nI TRn rfl (.tmp 101) (.tmp 103) rfl rfl (n.o.alloc _) rfl [(a:Int),(b:Int),lv,R,z1,z2] rfl (cg _ _ _ _ _ aQ rfl) ⟨⟨xa,H'⟩,xa,H'⟩ ak cw ?_;intro A12 c12 w12 L Q N;have O12:=sH L;have T12:=sH Q;have B12:=sH ((r.o.alloc M _).trans N);clear L Q N);have Tw:aq (mi w12 A12 (m+1) b):=⟨by
   obtain⟨u,rfl,_,_⟩:=O12.o.form ak;exact⟨ak,u,rfl,T12.o u rfl 1 _ rfl⟩⟩
  go_roundg(k-i)
  .exact aeV
  omega
 .obtain⟨j,hj⟩:∃j,j+1=m:=⟨m-1,ak⟩
  have Hx:(m:Int)-1=(j:Int):=ak;have Rs:decide (0<m)=true:=Kc;have hjm:=aU j m;have hj0:=ie j;obtain⟨u,rfl,_,_⟩:=t.o.form ak;obtain⟨x,_,e0,e1,e2,e3,e4,e5⟩:=t.o.ZW (show j<m by omega);have⟨g0,g1,g2,g3,g4,g5⟩:=Y.o.c6;have⟨K0,K1,K2,K3,K4,K5,L0,L1⟩:=lc8 e0 e1 e2 e3 e4 e5 g0 g1;have⟨L2,L3,L4,L5⟩:=lc4 g2 g3 g4 g5;have HJ:=sH hj;clear e0 e1 e2 e3 e4 e5 g0 g1 g2 g3 g4 g5 hj Ch;refine aD (kF 92 SB) aF aF ?_;refine mSk ?_;refine lsA SB (fun f=> ?_) (fun v9 l=> ?_)
  .go_simp
   exact bg (aaO x ⟨a,b,lv,R,z1,z2⟩ f.1)
  obtain⟨b9,rfl⟩:=l;simp[Act.put];refine mSk ?_;intro f;obtain⟨O,E⟩:=f
  try dsimp only
  clear K0 K1 K2 K3 K4 K5 L0 L1 L2 L3 L4 L5;have n:=sH (t.o.ar E);have X11:=sH (v.o.ar E v.o.lt);have K:=sH (Y.o.ar E Y.o.lt);have r:=BX.t E;have⟨g0,g1,g2,g3,g4,g5⟩:=K.o.c6;have M:=r.o.size;clear E t v Y BX;cases b9
  .go_step
   go_wp2_with (at_builtin;refine nI TRn rfl (.tmp 101) (.tmp 103) rfl rfl (n.o.alloc _) rfl [(a:Int),(b:Int),lv,R,z1,z2] rfl (cg _ _ _ _ _ aQ rfl) ⟨⟨xa,H'⟩,xa,H'⟩ ak cw ?_;intro A12 c12 w12 L Q N;have O12:=sH L;have T12:=sH Q;have B12:=sH ((r.o.alloc M _).trans N);clear L Q N);have Tw:aq (mi w12 A12 (m+1) b):=⟨by
    obtain⟨u,rfl,_,_⟩:=O12.o.form ak;exact⟨ak,u,rfl,T12.o u rfl 1 _ rfl⟩⟩
   go_roundg(k-i)
   .exact aeV
   omega
  .clear g0 g1 g2 g3 g4 g5
   obtain⟨y,hQ,_,e1,_⟩:=n.o.ZW (show j<m by have:=HJ.o;omega);have f1:=n.o.fz (j*6+1);have JJ:=n.o.lt;have x1:=(X11.o.cell 1);have O12:aq (Oq (O.setCell ⟨u,j*6+1,none⟩ (ae aj (b:Int))) w8.heap.size 62 6 (ZC p.tn) (some ⟨u,0,none⟩) m c):=⟨n.o.set Kn ak (b:Int) fun x hx hq=>by
    unfold ZC nth at*;simp[List.getElem?_set,hx]at hq⊢;exact⟨hq.1,ak⟩⟩
   have B12:aq (az w8 (O.setCell ⟨u,j*6+1,none⟩ (ae aj (b:Int)))):=⟨Below.setCell r.o (p:=⟨u,j*6+1,none⟩) JJ.1 _⟩;have Tw:aq (mi (O.setCell ⟨u,j*6+1,none⟩ (ae aj (b:Int))) (some ⟨u,0,none⟩) m b):=⟨⟨Kn,u,rfl,by
    rw[show m-1=j by have:=HJ.o;omega];exact World.cell?_setCell_same' _ _ _ (by rw[e1];rfl)⟩⟩
   go_step;go_wp2;go_roundg(k-i)
   .exact⟨i+1,m,_,c,ak,ak,ak,rfl,aT,O12,⟨fun _=>by rw[HBE.o];exact Tw.o⟩,B12⟩
   omega
theorem MH(r:Int)(h:Wf .i32 r)(w:ahh):ahk prog 198 #[.int .i32 r] w (acD w):=by
 have H:=sH h;obtain⟨c,b⟩:=wf_i32 r h;by_cases a:65<=r
 .by_cases d:r<=90
  .go_enter func198,ntmps198
   go_wp2;go_ret;exact⟨_,by simp[Wf,Lit.wf,IntKind.min,IntKind.max,IntKind.signed,IntKind.bits];omega,rfl,rfl⟩
  .go_enter func198,ntmps198
   go_wp2;go_ret;exact⟨_,H.o,rfl,rfl⟩
 .go_enter func198,ntmps198
  go_wp2;go_ret;exact⟨_,H.o,rfl,rfl⟩
def afc(w:ahh)(n m a:Nat)(e:ahn)(c:ahh):Prop:=∃b:Bool,e=.returned (.bool b)/\(b=true->a+n<=m)/\az w c
theorem Jr(A C:aA)(n m c d a:Nat)(w:ahh)(h:Iw w w.heap.size .i32 (Wf .i32) A n)(k:Iw w w.heap.size .i32 (Wf .i32) C m)(K:n<=100000)(E:m<=100000)(I:a<=100000):ahk prog 199 #[.slice A n c,.slice C m d,ae aj (a:Int)] w (afc w n m a):=by
 have X:=sH h;have Y:=sH k;by_cases f:m<a+n
 .have r:(m:Int)<(a:Int)+(n:Int):=by omega
  go_enter func199,ntmps199;go_wp2;go_ret;exact⟨_,rfl,aQ,Below.refl _ _⟩
 have r:¬(m:Int)<(a:Int)+(n:Int):=ak;go_enter func199,ntmps199;go_wp2;go_loopg[7](n+1)(fun gg v wr=>∃i:Nat,n-i<gg/\i<=n/\v=ae aj (i:Int)/\aq (az w wr))
 .exact⟨0,ak,ak,rfl,cA⟩
 obtain⟨i,B,F,rfl,b⟩:=hrel;by_cases g:i<n;rotate_left
 .have u:=cv i n
  go_wp2;go_ret;exact⟨_,rfl,fun _=>by omega,b.o⟩
 have u:=aU i n;have⟨q,G⟩:=eY (a+i);have e:q<m:=ak;obtain⟨H,x,rfl,_,l⟩:=(X.o.Z b.o b.o.size).get g;obtain⟨s,y,rfl,_,z⟩:=(Y.o.Z b.o b.o.size).get e;have⟨L0,L1⟩:=lc2 l z;have D:(a:Int)+(i:Int)=(q:Int):=ak;have p:=ie q;have t:=aU q m;cases J:(y !=x)
 .go_wp2
  refine mRl ?_;rintro _ ⟨j,rfl⟩;have o:=b.t j.2;go_wp2;go_roundg(n-i)
  .exact⟨i+1,ak,ak,aT,o⟩
  omega
 .go_wp2
  refine mRl ?_;rintro _ ⟨j,rfl⟩;go_wp2;go_ret;exact⟨_,rfl,aQ,b.o.trans (j.2.mono b.o.size)⟩
def PPo(w:ahh)(n:Nat)(e:ahn)(a:ahh):Prop:=∃(A:aA) (m c:Nat),e=.returned (.slice A m c)/\m<=n/\Ow a w.heap.size 3 .i64 (fun x=>0<=x/\x<=n) A m c/\az w a
theorem aal:(prog.info? 3).map (·.zero)=some (some (ae aj 0)):=by kernel_rfl
structure FM(w wr:ahh)(A:aA)(m c g k:Nat):Prop where
 ot:Ow wr w.heap.size 21 .i32 (Wf .i32) A m c
 om:Ow wr w.heap.size 3 .i64 aH (some ⟨g,0,none⟩) k k
 be:az w wr
theorem FM.ar{b:ahh}(h:FM w wr A m c g k)(a:az wr b):FM w b A m c g k:=⟨h.ot.ar a,h.om.ar a,h.be.trans (a.mono h.be.size)⟩
theorem FM.set(h:FM w wr A m c g k)(j:Nat)(x:Int):FM w (wr.setCell ⟨g,j,none⟩ (ae aj x)) A m c g k:=⟨by
 obtain⟨xs,a,d⟩:=h.ot;obtain⟨e,b,f⟩:=h.om;exact⟨xs,aw.mu a (bS a b cr) _,d⟩,h.om.set j trivial,Below.setCell h.be (p:=⟨g,j,none⟩) h.om.lt.1 _⟩
theorem FM.drew(h:FM w wr A m c g k):FM w wr.drew A m c g k:=h.ar (aN (Below.refl _ _) 1)
theorem aeC(s:G:=by
 go_wp2
 go_still_tail 20,aF;change wpList _ _ _ _ _ wr.drew;go_wp2;go_roundg(r.m-i)
 case measure=>omega
 case rel=>exact⟨i+1,ak,ak,aT,⟨UN.o _⟩⟩):G:=s
theorem IG(P:aA)(a pc:Nat)(A:aA)(n c:Nat)(w:ahh)(h:Dy w w.heap.size 200 P a)(k:Iw w w.heap.size .i32 (Wf .i32) A n)(hp:a<=1000):ahk prog 115 #[.slice P a pc,.slice A n c] w (PPo w n):=by
 have PR:aq _:=⟨h⟩;have X:aq _:=⟨k⟩;clear h k;by_cases h64:64<n
 .have C:=aU 64 n
  go_enter func115,ntmps115;go_wp2;go_ret;exact⟨none,0,0,rfl,ak,Ow.nil _ _ _ _ _,Below.refl _ _⟩
 have C:=cv 64 n;go_enter func115,ntmps115;go_wp2;go_loopg[6,7](n+1)(fun gg v6 v7 wr=>∃(k:Nat) (A1:aA) (c1:Nat),n-k<gg/\k<=n/\v6=.slice A1 (k+1) c1/\v7=ae aj (k:Int)/\aq (Ow wr w.heap.size 21 .i32 (Wf .i32) A1 (k+1) c1)/\aq (az w wr))
 .exact⟨0,_,1,ak,ak,rfl,rfl,⟨[46],⟨aQ,.inr ⟨w.heap.size,1,#[.int .i32 46],rfl,Nat.le_refl _,heap_alloc_new w _,ak,qT,aQ,aQ⟩⟩,by simp[Wf];decide⟩,⟨av w _⟩⟩
 obtain⟨k,A1,c1,hg,hk,rfl,rfl,O1,F⟩:=hrel;have hz:=F.o.size;by_cases l:k<n
 .have i4:=aU k n
  obtain⟨ad,x,rfl,hx,e0⟩:=(X.o.Z F.o F.o.size).get l;have HX:aq _:=⟨hx⟩;clear hx;go_wp2_with fail;refine(MH x HX.o _).mono ?_;rintro e w2 ⟨y,hy,rfl,rfl⟩;have HY:aq _:=⟨hy⟩;clear hy;go_wp2_with (at_builtin;refine bO Ko rfl (.tmp 24) (.tmp 30) rfl rfl (O1.o.alloc _) rfl (bh _ _ _) HY.o ak cw ?_;intro f g K B J;have o:aq _:=⟨B⟩;have d:aq (az w K):=⟨(F.o.alloc hz _).trans J⟩;clear B J);go_roundg(n-k)
  case measure=>omega
  case rel=>exact⟨k+1,f,g,ak,ak,rfl,aT,o,d⟩
 have i4:=cv k n;obtain rfl:k=n:=ak;have W46:aq (Wf .i32 46):=⟨cr⟩;go_wp2_with (first
  |(at_builtin;refine bO Ko rfl (.tmp 32) (.tmp 33) rfl rfl (O1.o.alloc _) rfl (bh _ _ _) W46.o ak cw ?_;intro f g K B J;have o:aq _:=⟨B⟩;have d:aq (az w K):=⟨(F.o.alloc hz _).trans J⟩;have z3:=d.o.size;clear B J)
  |(at_make;refine cS lO aal (p:=aH) trivial rfl _ _ rfl (k+3) rfl rfl ak ak ak K.heap.size bW ?_;intro s w4 o4 S;have M4:aq (FM w w4 f (k+2) g s (k+3)):=⟨⟨o.o.ar S,o4.cJ z3,d.o.trans (S.mono z3)⟩⟩;clear o4 S))
 go_loopg[9,10,11](a+1)(fun gg v9 _ _ wr=>∃q:Nat,a-q<gg/\q<=a/\v9=ae aj (q:Int)/\aq (FM w wr f (k+2) g s (k+3)))
 .exact⟨0,ak,ak,rfl,M4⟩
 obtain⟨q,E,hq,rfl,H⟩:=hrel;obtain⟨D,rfl⟩:∃D:ahh,D=wr:=⟨_,rfl⟩;by_cases T:q<a
 .have q4:=aU q a
  have jG:aq (a-q<gk):=⟨E⟩;obtain⟨pad,r,rfl,jB,p0,p1,RT,hrm,pi,pj⟩:=PR.o q T;have PQ:aq (∀W,az w W->W.cell? (pad.add (q*2))=some (.slice r.A r.n r.c)/\W.cell? (bP (pad.add (q*2)) 1)=some (.slice r.C r.m r.d)/\Iw W w.heap.size .i32 (Wf .i32) r.A r.n/\Iw W w.heap.size .i64 aH r.C r.m):=⟨fun W L=>⟨(L.cell Bq).trans p0,(L.cell (by show(pad.add (q*2)).block<_;rw[aO];exact jB)).trans p1,pi.Z L bW,pj.Z L bW⟩⟩;clear E jB p0 p1 pi pj;go_wp2;go_loopg[10,11](k+3)(fun gg v10 _ wr=>∃m:Nat,k+2-m<gg/\m<=k+2/\v10=ae aj (m:Int)/\aq (FM w wr f (k+2) g s (k+3)))
  .exact⟨0,ak,ak,rfl,H⟩
  obtain⟨m,j,hm,rfl,V⟩:=hrel;obtain⟨O,rfl⟩:∃O:ahh,O=wr:=⟨_,rfl⟩;by_cases u:m<k+2;rotate_left
  .have i5:¬(m:Int)<(k:Int)+2:=by omega
   go_wp2;go_roundg(a-q)
   case measure=>have:=jG.o;omega
   case rel=>exact⟨q+1,ak,ak,aT,V⟩
  have i5:(m:Int)<(k:Int)+2:=ak;have G:aq (k+2-m<gk):=⟨j⟩;obtain⟨d1,d2,ir,_⟩:=PQ.o _ V.o.be;have IR:aq _:=⟨ir⟩;clear j ir;go_wp2_with fail;refine(Jr r.A f r.n (k+2) r.c g m O (IR.o.Z (Below.refl _ _) V.o.be.size) V.o.ot.iw ak ak ak).mono ?_;rintro e w5 ⟨b,rfl,I,b5⟩;have V5:aq _:=⟨V.o.ar b5⟩;clear b5 d1 d2;cases b
  .go_wp2
   go_roundg(k+2-m)
   case measure=>exact G.o
   case rel=>exact⟨m+1,ak,ak,aT,V5⟩
  have hml:=I rfl;clear I;go_wp2;go_loopg[11](r.m+1)(fun gg Q wr=>∃i:Nat,r.m-i<gg/\i<=r.m/\Q=ae aj (i:Int)/\aq (FM w wr f (k+2) g s (k+3)))
  .exact⟨0,ak,ak,rfl,V5⟩
  obtain⟨i,YO,hi,rfl,U⟩:=hrel;obtain⟨_,d2,_,Z⟩:=PQ.o _ U.o.be;by_cases KA:i<r.m;rotate_left
  .have i6:¬(i:Int)<(r.m:Int):=by omega
   clear Z;go_wp2;go_roundg(k+2-m)
   case measure=>exact G.o
   case rel=>exact⟨m+1,ak,ak,aT,U⟩
  have i6:(i:Int)<(r.m:Int):=ak;obtain⟨ad,x,hC,_,e1⟩:=Z.get KA;rw[hC]at d2;have⟨t,ht⟩:∃t,m+i=t:=⟨_,rfl⟩;obtain⟨y,_,e2⟩:=U.o.om.get (show t<k+3 by omega);have f2:=U.o.om.fz t;have mL:=U.o.om.lt.2;have es:(m:Int)+(i:Int)=(t:Int):=ak;have hwr:IntKind.i64.wrap (t:Int)=(t:Int):=by rw[IntWalk.i64_in _ (by omega)]
  have Yo:=ie t;have Ry:(t:Int)<(k:Int)+3:=ak;have UN:aq (∀z,FM w (wr.setCell ⟨s,t,none⟩ (ae aj z)).drew f (k+2) g s (k+3)):=⟨fun z=>(U.o.set t z).drew⟩;clear hC Z ht;by_cases Rs:y<x
  .exact aeC
  .exact aeC
 have q4:=cv q a;go_wp2;go_loopg[12,13](k+1)(fun gg Y R wr=>∃(i m:Nat) (M:aA) (N:Nat),k-i<gg/\2<=i/\(i<=2∨i+2<=k)/\m+2<=i/\Y=.slice M m N/\R=ae aj (i:Int)/\aq (Ow wr D.heap.size 3 .i64 (fun x=>0<=x/\x<=k) M m N)/\aq (az D wr))
 .exact⟨2,0,none,0,ak,ak,ak,ak,rfl,rfl,⟨Ow.nil _ _ _ _ _⟩,cA⟩
 obtain⟨i,m,M,N,j,tJ,v,hmi,rfl,rfl,o,d⟩:=hrel;have qo:=d.o.size;by_cases l:(i:Int)<=(k:Int)-3
 .obtain⟨y,_,e2⟩:=(H.o.ar d.o).om.get (show i+1<k+3 by omega)
  have ei:(i:Int)+1<(k:Int)+3:=ak;have ag1:i<k:=ak;have HI:aq ((0:Int)<=(i:Int)/\(i:Int)<=k):=⟨ak⟩;clear v;cases I:(y.tmod 2==1)
  .go_wp2
   clear I;go_roundg(k-i)
   case measure=>omega
   case rel=>exact⟨i+1,m,M,N,ak,ak,ak,ak,rfl,aT,o,d⟩
  .go_wp2_with (at_builtin;refine bO lO rfl (.tmp 102) (.tmp 104) rfl rfl (o.o.alloc _) rfl (bh _ _ _) HI.o ak cw ?_;intro A4 c4 w6 o6 b6;have O6:aq _:=⟨o6⟩;have B6:aq (az D w6):=⟨(d.o.alloc qo _).trans b6⟩;clear o6 b6)
   clear I;go_roundg(k-i)
   case measure=>omega
   case rel=>exact⟨i+1,m+1,A4,c4,ak,ak,ak,ak,rfl,aT,O6,B6⟩
 .have yG:decide ((i:Int)<=(k:Int)-3)=false:=by simpa using l
  have u:m<=k:=ak;clear v;go_wp2;go_ret;exact⟨_,_,_,rfl,u,o.o.cJ H.o.be.size,H.o.be.trans (d.o.mono H.o.be.size)⟩
def PPz(w:ahh)(n:Nat)(e:ahn)(a:ahh):Prop:=∃(A:aA) (m c:Nat),e=.returned (.slice A m c)/\m<=n+1/\Ow a w.heap.size 3 .i64 aH A m c/\az w a
theorem acF(P:aA)(R pc:Nat)(A:aA)(n c:Nat)(ts:aC)(w:ahh)(h:Dy w w.heap.size 200 P R)(k:aM .i32 w A n c ts)(hp:R<=1000)(hn:n<=10000):ahk prog 51 #[.slice P R pc,.slice A n c] w (PPz w n):=by
 have PR:=sH h;have I:=sH k;have zz:aq ((prog.info? 4).map (·.zero)=some (some (.bool false))):=⟨aF⟩;clear h k;go_enter func51,ntmps51;go_wp2_with (refine pz TBn zz.o rfl (.tmp 16) (.tmp 16) rfl (n+1) rfl rfl aT aT ak w.heap.size bW ?_;intro E w1 o1 b1;have O1:=sH o1;have B1:=sH b1;clear o1 b1);go_loopg[6](n+1)(fun g v wr=>∃k:Nat,n-k<g/\k<=n/\v=ae aj (k:Int)/\aq (DW wr w.heap.size (some ⟨E,0,none⟩) (n+1) (n+1))/\aq (az w wr))
 .exact⟨0,ak,ak,rfl,O1,B1⟩
 obtain⟨k,hg,hk,rfl,M,B⟩:=hrel;have hwz:=B.o.size;by_cases X:k<n
 .have i4:=aU k n
  obtain⟨ad,z,rfl,_,e0⟩:=(I.o.ar B.o).iw.get X;by_cases Y:z=173
  .subst Y
   by_cases h2:k+1<n
   .obtain⟨⟨W,s⟩,f1,b,U⟩:=M.o.at (show k+1<n+1 by omega)
    have i5:(k:Int)+1<(n:Int):=ak;have i6:(k:Int)+1<(n:Int)+1:=ak;have O2:=sH (M.o.set (k+1) true);have B2:=sH (Below.setCell B.o (p:=⟨E,k+1,none⟩) W (.bool true));go_wp2;go_roundg(n-k)
    .exact⟨k+1,ak,ak,aT,O2,B2⟩
    omega
   .have i5:decide ((k:Int)+1<(n:Int))=false:=gW
    go_wp2;go_roundg(n-k)
    .exact⟨k+1,ak,ak,aT,M,B⟩
    omega
  .have hb:(z==173)=false:=by simpa using Y
   clear Y;go_wp2;go_roundg(n-k)
   .exact⟨k+1,ak,ak,aT,M,B⟩
   omega
 obtain rfl:k=n:=ak;go_wp2;go_loopg[7](k+2)(fun g v wr=>∃a:Nat,k+1-a<g/\a<=k+1/\v=ae aj (a:Int)/\aq (DW wr w.heap.size (some ⟨E,0,none⟩) (k+1) (k+1))/\aq (az w wr))
 .exact⟨0,ak,ak,rfl,M,B⟩
 obtain⟨a,s,ha,rfl,OA,G⟩:=hrel;have H:=G.o.size;by_cases po:a<k
 .have i1:=aU a k
  obtain⟨wi,rfl⟩:=eX wr;go_upto_block 4 with fail;go_cut[8](fun v wx=>∃j:Nat,a<=j/\j<=k/\v=ae aj (j:Int)/\aq (az wi wx))
  ·
   go_wp2;go_loopg[8](k+1)(fun g v wr=>∃j:Nat,k-j<g/\a<=j/\j<=k/\v=ae aj (j:Int)/\aq (az wi wr))
   .exact⟨a,ak,ak,ak,rfl,cA⟩
   obtain⟨j,V,l,i,rfl,C⟩:=hrel;have u:=sH (G.o.trans (C.o.mono H));by_cases hj:j<k
   .have i2:=aU j k
    obtain⟨ad,z,rfl,hz,e0⟩:=(I.o.ar u.o).iw.get hj;obtain⟨z1,z2⟩:=wf_i32 z hz;have OF:=sH (fD z z1 z2 wr);clear hz z1 z2;go_wp2_with fail;refine OF.o.mono ?_;rintro e w4 ⟨rfl,b4⟩;have B4:=C.t b4;clear b4 OF e0;generalize(a7 z).word=x at*;by_cases F:x=1
    .subst F
     go_wp2;go_roundg(k-j)
     .exact⟨j+1,ak,ak,ak,aT,B4⟩
     omega
    .have uR:(x==1)=false:=by simpa using F
     clear F;go_wp2;go_meet;exact⟨j,l,i,rfl,B4⟩
   .have i2:decide (j<k)=false:=gW
    go_wp2;go_meet;exact⟨j,l,i,rfl,C⟩
  obtain⟨j,l,i,rfl,C⟩:=hcut;have u:=sH (G.o.trans (C.o.mono H));obtain⟨A5,c5,CR⟩:=jj Ko A k c a j l i I.o.le (a:Int) (j:Int) rfl rfl;have eW:=CR.run;have XC:=sH ((CR.fT (I.o.ar u.o)).iw);have L:=u.o.size;have J:=sH (OA.o.ar C.o);have jG:=sH s;clear CR s;go_wp2_with fail;refine(IG P R pc A5 (j-a) c5 wc (PR.o.Z u.o L) XC.o hp).mono ?_;rintro e w6 ⟨A6,m,c6,rfl,S,o6,b6⟩;have O6:=sH (J.o.ar b6);have P6:=sH o6;have B6:=sH (u.o.trans (b6.mono L));clear o6 b6 J;go_wp2;go_loopg[10](m+1)(fun g v wr=>∃q:Nat,m-q<g/\q<=m/\v=ae aj (q:Int)/\aq (DW wr w.heap.size (some ⟨E,0,none⟩) (k+1) (k+1))/\aq (Ow wr wc.heap.size 3 .i64 (fun x=>0<=x/\x<=(j-a:Nat)) A6 m c6)/\aq (az w wr))
  .exact⟨0,ak,ak,rfl,O6,P6,B6⟩
  obtain⟨q,V,hq,rfl,o,PQ,f⟩:=hrel;by_cases hlq:q<m
  .have i7:=aU q m
   obtain⟨gp,rfl,_⟩:=PQ.o.form ak;obtain⟨y,⟨y0,y1⟩,U⟩:=PQ.o.get hlq;obtain⟨x,F⟩:∃x:Nat,(a:Int)+y=(x:Int):=⟨((a:Int)+y).toNat,ak⟩;obtain⟨⟨hh1,hh2⟩,f1,b,e2⟩:=o.o.at (show x<k+1 by omega);have Q:=sH (o.o.set x true);have P7:aq (Ow (wr.setCell ⟨E,x,none⟩ (.bool true)) wc.heap.size 3 .i64 (fun x=>0<=x/\x<=(j-a:Nat)) (some ⟨gp,0,none⟩) m c6):=⟨by
    obtain⟨xs,u1,u2⟩:=PQ.o;obtain⟨bs,u3⟩:=o.o;exact⟨xs,aw.mu u1 (bS u1 u3 cr) _,u2⟩⟩
   have N:=sH (Below.setCell f.o (p:=⟨E,x,none⟩) hh1 (.bool true));have i8:(x:Int)<(k:Int)+1:=ak;go_wp2;go_roundg(m-q)
   .exact⟨q+1,ak,ak,aT,Q,P7,N⟩
   omega
  .have i7:=cv q m
   go_wp2;go_roundg(k+1-a)
   .exact⟨j+1,ak,ak,aT,o,f⟩
   exact jG.o
 .have i1:=cv a k
  go_wp2_with fail;refine(zH A k c ts wr (I.o.ar G.o) ak).mono ?_;rintro e w7 ⟨bs,D,d,rfl,o7,_,hle,_,xT,b7⟩;have N:=G.t b7;have Q:=sH o7;have O8:=sH (OA.o.ar b7);have⟨m,S⟩:=eY bs.length;rw[S]at Q hle xT⊢;have HM:=sH S;have LE:=sH hle;clear o7 b7 S hle;go_wp2;go_loopg[12,13](m+1)(fun g mN ko wr=>∃(q t:Nat) (O:aA) (T:Nat),m-q<g/\q<=m/\t<=q/\ko=ae aj (q:Int)/\mN=.slice O t T/\aq (Ow wr w7.heap.size 3 .i64 aH O t T)/\aq (az w7 wr))
  .exact⟨0,0,none,0,ak,ak,ak,rfl,rfl,⟨Ow.nil _ _ _ _ _⟩,cA⟩
  obtain⟨q,t,O,T,YO,hq,htq,rfl,rfl,o,f⟩:=hrel;have hzq:=f.o.size;by_cases r:q<m
  .have i7:=aU q m
   have Z:=Q.o.ar f.o;obtain⟨gb,rfl,_⟩:=aw.form Z ak;have U:=iB Z (j:=q) r;rw[oV (by rw[HM.o];omega)]at U;have F:=LE.o q r;have⟨x,K⟩:=eY (cZ bs q);rw[K]at U F;obtain⟨_,_,b,e2⟩:=(O8.o.ar f.o).at (show x<k+1 by omega);have i8:(x:Int)<(k:Int)+1:=ak;clear Z K;cases b
   .go_wp2
    go_roundg(m-q)
    .exact⟨q+1,t,O,T,ak,ak,ak,aT,rfl,o,f⟩
    omega
   .go_wp2_with (at_builtin;refine bO lO rfl (.tmp 97) (.tmp 102) rfl rfl (o.o.alloc _) rfl (bh _ _ _) trivial ak cw ?_;intro A9 c9 w9 o9 b9;have O9:=sH o9;have B9:=sH ((f.o.alloc hzq _).trans b9);clear o9 b9)
    go_roundg(m-q)
    .exact⟨q+1,t+1,A9,c9,ak,ak,ak,aT,rfl,O9,B9⟩
    omega
  .have i7:=cv q m
   go_wp2;go_ret;exact⟨_,_,_,rfl,ak,o.o.cJ N.o.size,N.o.trans (f.o.mono N.o.size)⟩
theorem MV(bs:List Nat)(m i:Nat)(h:bs.length=m+1):uj (bs++[i]) (m+1)=uj bs m++[(cZ bs m,i)]:=by
 rw[gO];have a:cZ (bs++[i]) (m+1)=i:=by rw[<-h];exact gP bs i
 rw[bY ak,a,xS (bs++[i]) bs m fun k b=>bY ak]
structure Qq(w:ahh)(B:Nat)(bs:List Nat)(m f n:Nat)(A:aA)(c:Nat):Prop where
 len:bs.length=m+1
 own:aw w B 64 2 A m c (dx (uj bs m))
 up:∀i,i<m->cZ bs i<cZ bs (i+1)/\cZ bs (i+1)<=n
 la:cZ bs m=f
theorem Qq.nil(w:ahh)(B n:Nat):Qq w B [0] 0 0 n none 0:=⟨rfl,aw.nil _ _ _ _,fun i h=>by omega,rfl⟩
theorem Qq.ar{a:ahh}{f:Nat}{bs:List Nat}(h:Qq w B bs m f n A c)(b:az w a):Qq a B bs m f n A c:=⟨h.len,aw.ar h.own b,h.up,h.la⟩
theorem Qq.push{b:ahh}{f c' i:Nat}{bs:List Nat}{e:aA}(h:Qq w B bs m f n A c)(j:f<i)(g:i<=n)(o:aw b B 64 2 e (m+1) c' (dx (uj bs m)++qK (f,i))):Qq b B (bs++[i]) (m+1) i n e c':=by
 have d:cZ (bs++[i]) (m+1)=i:=by rw[<-h.len];exact gP bs i
 refine⟨rX, ?_,fun k l=> ?_,d⟩
 .rw[MV _ _ _ h.len,ny,h.la]
  exact o
 .rcases Nat.lt_or_ge k m with a|a
  .rw[bY Ii,bY Ii]
   exact h.up k a
  .obtain rfl:k=m:=by omega
   rw[bY Ii,d,h.la];exact⟨j,g⟩
theorem Rq.acM{j:Nat}(h:Rq w B 6 Q A m)(f:j<m):∃(a:Addr) (g:aC),A=some a/\Q g/\w.cell? (a.add (j*6))=some (ae aj (nth g 0))/\w.cell? (bP (a.add (j*6)) 1)=some (ae aj (nth g 1)):=by
 obtain⟨a,e,_,i⟩:=h ak;obtain⟨g,d,k,b⟩:=i j f
 match g,d with
 |[x0,x1,x2,x3,x4,x5],_=>
  have c:=b 0 _ rfl;rw[ew]at c;exact⟨a,_,e,k,c,b 1 _ rfl⟩
def PCu(w:ahh)(n:Nat)(e:ahn)(a:ahh):Prop:=∃(bs:List Nat) (m f:Nat) (A:aA) (c:Nat),e=.returned (.slice A m c)/\m<=n/\Qq a w.heap.size bs m f n A c/\az w a
theorem SY(A:aA)(n c:Nat)(ts:aC)(R:aA)(x rc:Nat)(w:ahh)(h:aM .i32 w A n c ts)(k:Rq w w.heap.size 6 (ZC n) R x)(hn:n<=1000)(hr:x<=1000):ahk prog 14 #[.slice A n c,.slice R x rc] w (PCu w n):=by
 have HX:=sH h;have RX:=sH k;have zz:aq ((prog.info? 4).map (·.zero)=some (some (.bool false))):=⟨aF⟩;go_enter func14,ntmps14;go_wp2_with fail;refine(adO A n c ts w HX.o ak).mono ?_;rintro e B ⟨km,N,K,kc,rfl,ok,b1⟩;have D:=sH b1;have OK:=sH ok.iw;have HK:=sH N;have O:=b1.size;go_wp2_with (refine pz TBn zz.o rfl (.tmp 17) (.tmp 17) rfl (n+1) rfl rfl aT aT ak B.heap.size bW ?_;intro u w2 o2 b2;have O2:=sH o2;have B2:=sH b2;clear o2 b2);go_loopg[7](n+2)(fun g v wr=>∃k:Nat,n+1-k<g/\1<=k/\k<=n+1/\v=ae aj (k:Int)/\aq (DW wr B.heap.size (some ⟨u,0,none⟩) (n+1) (n+1))/\aq (az B wr))
 .exact⟨1,ak,ak,ak,rfl,O2,B2⟩
 obtain⟨k,Y,uX,hk,rfl,l,j⟩:=hrel;by_cases aK:k<=n
 .have i4:(k:Int)<=(n:Int):=by omega
  have N:=HK.o ak;obtain⟨V,z,rfl,_,I⟩:=(OK.o.Z j.o j.o.size).get (show k<km by omega);obtain⟨⟨F,h2⟩,f1,b,P⟩:=l.o.at (show k<n+1 by omega);have i5:(k:Int)<(n:Int)+1:=ak;have Q:=aU k km;have o:=sH (fun b=>l.o.set k b);have r:=sH (fun b=>Below.setCell j.o (p:=⟨u,k,none⟩) F (.bool b));go_wp2;go_roundg(n+1-k)
  .exact⟨k+1,ak,ak,ak,aT,⟨o.o _⟩,⟨r.o _⟩⟩
  omega
 have i4:¬(k:Int)<=(n:Int):=ak;go_wp2;go_loopg[8](x+1)(fun g v wr=>∃i:Nat,x-i<g/\i<=x/\v=ae aj (i:Int)/\aq (DW wr B.heap.size (some ⟨u,0,none⟩) (n+1) (n+1))/\aq (az B wr))
 .exact⟨0,ak,ak,rfl,l,j⟩
 obtain⟨i,Y,hi,rfl,l,j⟩:=hrel;by_cases y:i<x
 .have i5:=aU i x
  obtain⟨V,g,rfl,M,I,_⟩:=(RX.o.Z D.o D.o.size|>.Z j.o j.o.size).acM y;obtain⟨a,ha⟩:∃a:Nat,nth g 0=(a:Int):=⟨(nth g 0).toNat,by have:=M.1.1;omega⟩;have han:a<=n:=by have:=M.1.2;omega
  rw[ha]at I;obtain⟨⟨F,h2⟩,f1,b,P⟩:=l.o.at (show a<n+1 by omega);have Q:(a:Int)<(n:Int)+1:=ak;have o:=l.o.set a true;have r:=Below.setCell j.o (p:=⟨u,a,none⟩) F (.bool true);go_upto_region 11 with fail;have⟨w5,s⟩:=eX (wr.setCell ⟨u,a,none⟩ (.bool true));rw[<-s]at o r⊢;clear s;have o:=sH o;have r:=sH r;obtain⟨ik,g,ea,M,_,I⟩:=(RX.o.Z D.o D.o.size|>.Z r.o r.o.size).acM y;obtain rfl:V=ik:=by injection ea
  obtain⟨d,hd⟩:∃d:Nat,nth g 1=(d:Int):=⟨(nth g 1).toNat,by have:=M.2.1;omega⟩;have hdn:d<=n:=by have:=M.2.2;omega
  rw[hd]at I;obtain⟨⟨S,h4⟩,f1,b,P⟩:=o.o.at (show d<n+1 by omega);have Q:(d:Int)<(n:Int)+1:=ak;have X:=sH (o.o.set d true);have T:=sH (Below.setCell r.o (p:=⟨u,d,none⟩) S (.bool true));go_wp2;go_roundg(x-i)
  .exact⟨i+1,ak,ak,aT,X,T⟩
  omega
 have i5:=cv i x;go_wp2;go_loopg[9](n+1)(fun g v wr=>∃q:Nat,n-q<g/\q<=n/\v=ae aj (q:Int)/\aq (DW wr B.heap.size (some ⟨u,0,none⟩) (n+1) (n+1))/\aq (az B wr))
 .exact⟨0,ak,ak,rfl,l,j⟩
 obtain⟨q,Y,hq,rfl,l,j⟩:=hrel;by_cases G:q<n
 .have Q:=aU q n
  obtain⟨V,z,rfl,_,I⟩:=((HX.o.ar D.o).ar j.o).iw.get G;by_cases hz:z=9;rotate_left
  .have eQ:(z==9)=false:=by simpa using hz
   go_wp2;go_roundg(n-q)
   .exact⟨q+1,ak,ak,aT,l,j⟩
   omega
  subst hz;obtain⟨⟨F,h2⟩,f1,b,P⟩:=l.o.at (show q<n+1 by omega);have i7:(q:Int)<(n:Int)+1:=ak;have o:=l.o.set q true;have r:=Below.setCell j.o (p:=⟨u,q,none⟩) F (.bool true);go_upto_region 17 with fail;have⟨w5,s⟩:=eX (wr.setCell ⟨u,q,none⟩ (.bool true));rw[<-s]at o r⊢;clear s;obtain⟨⟨S,h4⟩,f1,b,P⟩:=o.at (show q+1<n+1 by omega);have i7:(q:Int)+1<(n:Int)+1:=ak;have X:=sH (o.set (q+1) true);have T:=sH (Below.setCell r (p:=⟨u,q+1,none⟩) S (.bool true));go_wp2;go_roundg(n-q)
  .exact⟨q+1,ak,ak,aT,X,T⟩
  omega
 have Q:=cv q n;obtain⟨w4,rfl⟩:=eX wr;go_wp2;go_loopg[10,11,12](n+2)(fun g v10 U mN wr=>∃(t m f:Nat) (bs:List Nat) (E:aA) (H:Nat),n+1-t<g/\1<=t/\t<=n+1/\f<t/\m<=f/\f<=n/\v10=.slice E m H/\U=ae aj (f:Int)/\mN=ae aj (t:Int)/\aq (Qq wr w4.heap.size bs m f n E H)/\aq (az w4 wr))
 .exact⟨1,0,0,_,none,0,ak,ak,ak,ak,ak,ak,rfl,rfl,rfl,⟨Qq.nil _ _ _⟩,cA⟩
 obtain⟨t,m,f,bs,E,H,Y,ht1,fZ,qh,hmf,RO,rfl,rfl,rfl,C,L⟩:=hrel;have W:=L.o.size;by_cases J:t<=n
 .have i7:(t:Int)<=(n:Int):=by omega
  have i8:(t:Int)<(n:Int)+1:=ak;obtain⟨_,_,b,P⟩:=(l.o.ar L.o).at (show t<n+1 by omega);cases b
  .go_wp2
   go_roundg(n+1-t)
   .exact⟨t+1,m,f,bs,E,H,ak,ak,ak,ak,ak,ak,rfl,rfl,aT,C,L⟩
   omega
  .go_wp2_with (at_builtin;refine ca YK rfl (.tmp 81) (.tmp 85) rfl rfl (aw.alloc C.o.own _) rfl (news:=qK (f,t)) rfl (fX _ _ _ _) (lC _ _) ak cw ?_;intro A8 c8 w8 o8 b8;have C8:=sH (C.o.push qh J o8);have B8:=sH ((L.o.alloc W _).trans b8);clear o8 b8)
   go_roundg(n+1-t)
   .exact⟨t+1,m+1,t,_,A8,c8,ak,ak,ak,ak,ak,ak,rfl,rfl,aT,C8,B8⟩
   omega
 have i7:¬(t:Int)<=(n:Int):=ak;have O:=D.o.size;have Z:=j.o.size;go_wp2;go_ret;exact⟨bs,m,f,E,H,rfl,ak,⟨C.o.len,aw.aa9 C.o.own ak,C.o.up,C.o.la⟩,D.o.trans ((j.o.trans (L.o.mono Z)).mono O)⟩
theorem JT(s:cN)(p:jA)(ts:aC)(w:ahh)(h:gL w w.heap.size s)(hp:lh w p ts)(t:yI w s p):ahk prog 17 #[s.v,p.v] w (PPz w p.tn):=by
 have⟨W1,o,a,X1,q⟩:=box2 w s.row 26 p.row 31;have⟨c0,c1,aW,c3,c4⟩:=X1.o.c5;have⟨E,I,W,S,Q,L,O,x⟩:=q.o.c8;have X:=sH (h.Z a.o a.o.size);have J:=sH (hp.ar a.o);have S0:=sH (t.ar h a.o);have ht:p.tn<=60:=t.1;have u:s.pn<=60:=t.2.2.2.2.2.1;go_enter func17,ntmps17;go_upto_region 1 with fail;rw[<-o];clear o;have⟨hy,B⟩:=eY p.hy;rw[B]at x;cases hy
 .go_wp2
  go_ret;exact⟨none,0,0,rfl,ak,Ow.nil _ _ _ _ _,a.o⟩
 go_wp2_with fail;refine(aay s W1 X.o.rP S0.o.2.2.2.2.2.2 u).mono ?_;rintro e w2 ⟨N,nn,nc,t1,z1,rfl,Y,pr,M⟩;have K:=sH M;have PR:=sH pr;have⟨E,I,W,S,Q,L,O,x⟩:=(q.o.ar M q.o.lt).c8;go_wp2_with fail;refine(acF N nn nc p.T p.tn p.tc ts w2 PR.o (J.o.ar K.o).rT ak ak).mono ?_;rintro e P ⟨D,m,d,rfl,hm,o3,b3⟩;have U:=K.t b3;have O3:=sH o3.iw;go_wp2;go_loopg[9,10](m+1)(fun g Z v10 wr=>∃(i k:Nat) (A:aA) (c:Nat),m-i<g/\i<=m/\k<=i/\Z=.slice A k c/\v10=ae aj (i:Int)/\aq (Ow wr P.heap.size 3 .i64 aH A k c)/\aq (az P wr))
 .exact⟨0,0,none,0,ak,ak,ak,rfl,rfl,⟨Ow.nil _ _ _ _ _⟩,cA⟩
 obtain⟨i,k,A,c,hg,hi,hk,rfl,rfl,G,f⟩:=hrel;have l:=f.o.size;have F:=U.t f.o;by_cases v:i<m;rotate_left
 .have i4:=cv i m
  go_wp2;go_ret;exact⟨A,k,c,rfl,ak,G.o.cJ (by have:=a.o.size;have:=U.o.size;omega),a.o.trans (F.o.mono a.o.size)⟩
 have i4:=aU i m;obtain⟨ad,z,rfl,_,e0⟩:=(O3.o.Z f.o f.o.size).get v;have⟨E,I,W,S,Q,L,O,x⟩:=(q.o.ar F.o q.o.lt).c8;have HT:=sH ((J.o.ar F.o).rT);have⟨L0,L1⟩:=lc2 e0 E;have⟨b,T⟩:=eY (Ks (ks ts) z);have V:aq (∀n:aG wr,ahk prog 52 #[.slice p.T p.tn p.tc,ae aj z] n.1 fun e w'=>e=.returned (.bool b)/\ahi n.1.heap.size n.1 w'):=⟨fun n=>by rw[<-T];exact tf p.T p.tn p.tc ts z n.1 (HT.o.ar n.2) ak⟩;clear T;cases b
 .go_wp2
  refine bQ aF aF ?_
  repeat(go_big_quiet_step (with_reducible exact dG (V.o _)))
  refine wpQuiet_nil ?_;rintro _ ⟨j,rfl⟩;have C:=sH (G.o.ar j.2);have r:=sH (f.o.trans (j.2.mono l));go_wp2;go_roundg(m-i)
  .exact⟨i+1,k,A,c,ak,ak,ak,rfl,aT,C,r⟩
  omega
 .go_wp2
  refine bQ aF aF ?_
  repeat(go_big_quiet_step (with_reducible exact dG (V.o _)))
  refine wpQuiet_nil ?_;rintro _ ⟨j,rfl⟩;have C:=sH (G.o.ar j.2);have r:=sH (f.o.trans (j.2.mono l));have y:=r.o.size;have e1:=L0 j;go_wp2_with (at_builtin;refine bO lO rfl (.tmp 38) (.tmp 43) rfl rfl (C.o.alloc _) rfl (bh _ _ _) trivial ak cw ?_;intro A9 c9 w9 R H;have O9:=sH R;have B9:=sH ((r.o.alloc y _).trans H);clear R H);go_roundg(m-i)
  .exact⟨i+1,k+1,A9,c9,ak,ak,ak,rfl,aT,O9,B9⟩
  omega
def PWd(w:ahh)(e:ahn)(a:ahh):Prop:=∃z:Int,e=.returned (ae aj z)/\w=a
theorem Zp(Q:aC->Prop)(A:aA)(n c:Nat)(w:ahh)(h:uU w Q A n)(u:n<=100000):ahk prog 54 #[.slice A n c] w (PWd w):=by
 have R:=sH h;go_enter func54,ntmps54;go_wp2;go_loopg[3,4](n+1)(fun gg v3 v4 wr=>∃(i:Nat) (z:Int),n-i<gg/\i<=n/\v3=ae aj z/\v4=ae aj (i:Int)/\wr=w)
 .exact⟨0,_,ak,ak,rfl,rfl,rfl⟩
 obtain⟨i,z,l,p,rfl,rfl,rfl⟩:=hrel;by_cases a:i<n
 .have b:=aU i n
  obtain⟨s,g,o,j,f,q,d,k,r,e,t,rfl,_,_,_,m,_⟩:=R.o.bD a;go_wp2;go_roundg(n-i)
  .exact⟨i+1,_,ak,ak,rfl,aT,rfl⟩
  omega
 .have b:=cv i n
  go_wp2;go_ret;exact⟨_,rfl,rfl⟩
abbrev je(f t r:Int)(G:aA)(n c:Nat)(e a b:Int)(iF:Bool)(P:aA)(m d:Nat):Array ahj:=#[ae aj f,ae aj t,ae aj r,.slice G n c,ae aj e,ae aj a,ae aj b,.bool iF,.slice P m d]
def ZPt(B a b:Nat):Sat:=⟨fun v w=>∃(A:aA) (n c:Nat) (z:Int),v=.tuple #[.slice A n c,ae aj z]/\n<=c/\n<=20000/\fR w B (iP qX a b) A n c,fun _ _ _ ⟨A,n,c,z,f,h,g,d⟩ e=>⟨A,n,c,z,f,h,g,d.ar e⟩⟩
structure R9 where
 f:Int
 t:Int
 r:Int
 G:aA
 n:Nat
 c:Nat
 wd:Int
 nv:Int
 en:Int
 iF:Bool
 P:aA
 m:Nat
 d:Nat
abbrev R9.row(y:R9):Array ahj:=je y.f y.t y.r y.G y.n y.c y.wd y.nv y.en y.iF y.P y.m y.d
def Jp(w:ahh)(B a b r:Nat)(c:Int)(y:R9):Prop:=y.f=(a:Int)/\y.t=(b:Int)/\y.r=(r:Int)/\y.en=c/\y.P=none/\y.m=0/\y.d=0/\y.n<=y.c/\y.n<=20000/\fR w B (iP qX a b) y.G y.n y.c
theorem Jp.ar{e:ahh}{d:Int}{y:R9}(h:Jp w B a b r d y)(k:az w e):Jp e B a b r d y:=by
 obtain⟨g,o,i,l,j,p,f,n,m,c⟩:=h;exact⟨g,o,i,l,j,p,f,n,m,c.ar k⟩
theorem Jp.cJ{e:Int}{y:R9}(h:Jp w B a b r e y)(k:d<=B):Jp w d a b r e y:=by
 obtain⟨g,o,i,l,j,p,f,n,m,c⟩:=h;exact⟨g,o,i,l,j,p,f,n,m,c.cJ k⟩
def PPc(w:ahh)(a b r:Nat)(d:Int)(e:ahn)(c:ahh):Prop:=∃(y:R9) (z:Int),e=.returned (.tuple #[.agg y.row,ae aj z])/\(z=0->Jp c w.heap.size a b r d y)/\az w c
theorem ab3{j:Nat}(h:Rq w B 6 Q A m)(f:j<m):∃(a:Addr) (x:Rn),A=some a/\Q [x.f,x.t,x.lv,x.sp,x.fo,x.st]/\w.cell? (a.add (j*6))=some (ae aj x.f)/\w.cell? (bP (a.add (j*6)) 1)=some (ae aj x.t)/\w.cell? (bP (a.add (j*6)) 2)=some (ae aj x.lv)/\w.cell? (bP (a.add (j*6)) 3)=some (ae aj x.sp)/\w.cell? (bP (a.add (j*6)) 4)=some (ae aj x.fo)/\w.cell? (bP (a.add (j*6)) 5)=some (ae aj x.st):=by
 obtain⟨a,e,_,i⟩:=h ak;obtain⟨g,d,k,b⟩:=i j f
 match g,d with
 |[x0,x1,x2,x3,x4,x5],_=>
  have c:=b 0 _ rfl;rw[ew]at c;exact⟨a,⟨x0,x1,x2,x3,x4,x5⟩,e,k,c,b 1 _ rfl,b 2 _ rfl,b 3 _ rfl,b 4 _ rfl,b 5 _ rfl⟩
structure Kp(w0 w:ahh)(N2 N3 B:Nat)(row:Array ahj)(p:jA)(a b:Nat)(A:aA)(n c:Nat):Prop where
 x3:Bx w N3 row
 x2:Bx w N2 (je 0 0 0 none 0 0 0 0 0 false none 0 0)
 xp:Bx w (w0.heap.size+1) p.row
 be:az w0 w
 gl:fR w B (iP qX a b) A n c
 n2:N2≠N3
 np:w0.heap.size+1≠N3
 lo:w0.heap.size<=N3
 hi:N3<B
theorem Kp.set{e:Nat}{row:Array ahj}(h:Kp w0 w e d B row p a b A n c)(q:Nat)(v:ahj):Kp w0 (w.setCell ⟨d,q,none⟩ v) e d B (row.setIfInBounds q v) p a b A n c:=
 ⟨h.x3.jR q v,h.x2.fE h.n2 q v,h.xp.fE h.np q v,Below.setCell h.be (p:=⟨d,q,none⟩) h.lo v,h.gl.mu (by obtain⟨gs,g,i,_,f⟩:=h.gl;exact aw.oB f h.hi) q v,h.n2,h.np,h.lo,h.hi⟩
theorem Kp.ar{f:ahh}{e:Nat}{row:Array ahj}(h:Kp w0 w e g B row p a b A n c)(d:az w f):Kp w0 f e g B row p a b A n c:=
 ⟨h.x3.ar d h.x3.lt,h.x2.ar d h.x2.lt,h.xp.ar d h.xp.lt,h.be.trans (d.mono h.be.size),h.gl.ar d,h.n2,h.np,h.lo,h.hi⟩
theorem MX(s:cN)(p:jA)(ts:aC)(FA:aA)(fc:Nat)(R:aA)(rm rc r a b:Nat)(k:Int)(w:ahh)(h:gL w w.heap.size s)(hp:lh w p ts)(hf:Iw w w.heap.size .i64 aH FA p.tn)(hc:Sh w w.heap.size s)(hfc:p.tn<=fc)(hR:Rq w w.heap.size 6 (ZC p.tn) R rm)(hr:r<rm)(jB:a<b)(hb:b<=p.tn)(hn:p.tn<=60):
 ahk prog 18 #[s.v,p.v,.slice FA p.tn fc,.slice R rm rc,ae aj (r:Int),ae aj (a:Int),ae aj (b:Int),ae aj k] w (PPc w a b r k):=by
 have⟨W2,P⟩:=eX ((w.alloc (.cells s.row 26)).alloc (.cells p.row 31));have BB:=acy P;have b2:az w W2:=BB.1;have O:W2.heap.size=w.heap.size+2:=by rw[P];simp
 have⟨W3,J⟩:=eX (W2.alloc (.cells (je 0 0 0 none 0 0 0 0 0 false none 0 0) 48));have x3:Bx W3 (w.heap.size+2) (je 0 0 0 none 0 0 0 0 0 false none 0 0):=by rw[J];exact Bx.gY _ _ _ O
 have b3:az W2 W3:=by rw[J];exact av _ _
 have X:W3.heap.size=w.heap.size+3:=by rw[J];simp[O]
 have⟨d,I⟩:=eX (W3.alloc (.cells (je a b r none 0 0 0 0 k false none 0 0) 48));have b4:az W3 d:=by rw[I];exact av _ _
 have V:aq (Bx d (w.heap.size+3) (je a b r none 0 0 0 0 k false none 0 0)):=⟨by rw[I];exact Bx.gY _ _ _ X⟩;have X3:aq (Bx d (w.heap.size+2) (je 0 0 0 none 0 0 0 0 0 false none 0 0)):=⟨x3.ar b4 ak⟩;have S:az W2 d:=b3.trans (b4.mono b3.size);have X1:aq (Bx d w.heap.size s.row):=⟨BB.2.1.ar S ak⟩;have X2:aq (Bx d (w.heap.size+1) p.row):=⟨BB.2.2.ar S ak⟩;have H:aq (az w d):=⟨b2.trans (S.mono b2.size)⟩;have XD:d.heap.size=w.heap.size+4:=by rw[I];simp[X]
 have R0:=sH (h.Z H.o H.o.size);have P0:=sH (hp.ar H.o);have HP:=sH hp;have F0:=sH (hf.Z H.o H.o.size);have C0:=sH (hc.Z H.o H.o.size);have RR:=sH (hR.Z H.o H.o.size);have hW:d=(((w.alloc (.cells s.row 26)).alloc (.cells p.row 31)).alloc (.cells (je 0 0 0 none 0 0 0 0 0 false none 0 0) 48)).alloc (.cells (je a b r none 0 0 0 0 k false none 0 0) 48):=by rw[I,J,P]
 clear h hp hf hc hR BB b2 b3 b4 S x3 P J I O X;have⟨l,Fj⟩:=eY (w.heap.size+1+1);have⟨f,hN3⟩:=eY (l+1);rw[show w.heap.size+2=l by omega]at X3;rw[show w.heap.size+3=f by omega]at V;have Z:l≠f:=ak;have HZ4:=sH XD;have Q:=sH Fj;have N:=sH hN3;clear XD;go_enter func18,ntmps18;go_upto_region 2 with fail;rw[<-hW];clear hW;obtain⟨adT,eT,e0⟩:=P0.o.rT.ce (show a<p.tn by omega);have⟨U,d1,d2,d3,d4,d5,d6,d7⟩:=X2.o.c8;rw[eT]at U;have i4:(a:Int)<(p.tn:Int):=ak;generalize nth ts a=z at*;clear eT d1 d2 d3 d4 d5 d6 d7;by_cases hz:z=9
 .subst hz
  have X5:aq (Bx (d.setCell ⟨f,7,none⟩ (.bool true)) f (je a b r none 0 0 0 0 k true none 0 0)):=⟨V.o.jR 7 (.bool true)⟩;have W:aq (Bx (d.setCell ⟨f,7,none⟩ (.bool true)) l (je 0 0 0 none 0 0 0 0 0 false none 0 0)):=⟨X3.o.fE Z 7 _⟩;have B5:aq (az w (d.setCell ⟨f,7,none⟩ (.bool true))):=⟨Below.setCell H.o (p:=⟨f,7,none⟩) (by show w.heap.size<=f;omega) _⟩;have⟨E,F,B,C,q4,D,q,u,t⟩:=V.o.p9;have f7:=V.o.fz 7;go_upto_region 4 with fail;generalize d.setCell ⟨f,7,none⟩ (.bool true)=W5 at*;clear E F B C q4 D q u t f7 U e0;have⟨E,F,B,C,q4,D,q,u,t⟩:=X5.o.p9;obtain⟨L,hX⟩:=W.o.heap;go_wp2_with (refine wpList_store_row rfl 48 (.tmp 16) (.tmp 35) rfl l (je a b r none 0 0 0 0 k true none 0 0) rfl aB L _ hX aF aB dJ ?_;have X9:=W.o.row (ds:=je a b r none 0 0 0 0 k true none 0 0));obtain⟨K,M⟩:=X9.heap;refine bodyPost_ret (bR results18 _ _ l K _ (0,0) _ aB M underlying48 rfl aF) rfl ?_;exact⟨⟨a,b,r,none,0,0,0,0,k,true,none,0,0⟩,0,rfl,fun _=>⟨rfl,rfl,rfl,rfl,rfl,rfl,rfl,aQ,aQ,OL.nil _ _ _ _ ⟨CS.nil _ _,aQ⟩⟩,below_setRow B5.o ak _⟩
 have O:(z==9)=false:=by simpa using hz
 clear hz;go_upto_region 5 with fail;clear U e0;have⟨c0,c1,aW,c3,c4⟩:=X1.o.c5;have⟨U,d1,d2,d3,d4,d5,d6,d7⟩:=X2.o.c8;obtain⟨ad6,x,rfl,_,e0,e1,e2,e3,e4,e5⟩:=ab3 RR.o hr;have⟨K0,K1,K2,K3,K4,L0,L1,L2⟩:=lc8 c0 c1 aW c3 c4 U d1 d2;have⟨L3,L4,L6,L7,L8,M0,M1,M2⟩:=lc8 d3 d4 d5 d6 d7 e0 e1 e2;have⟨M3,M4,M5⟩:=lc3 e3 e4 e5;have i5:=aU r rm;clear c0 c1 aW c3 c4 U d1 d2 d3 d4 d5 d6 d7 e0 e1 e2 e3 e4 e5;refine ba (iZ 46 (ZPt d.heap.size a b)) aF aF ?_;refine mLw ?_;refine lwA (ZPt d.heap.size a b) (fun j=> ?_) (fun v9 aV=> ?_)
 .go_simp
  refine aX (ZPt d.heap.size a b) ((aaz s p ts FA fc x a b j.1 (R0.o.Z j.2 j.2.size) (P0.o.ar j.2) (F0.o.Z j.2 j.2.size) (C0.o.Z j.2 j.2.size) hfc ak hb ak).mono ?_);rintro e w5 ⟨A,n,c,z,rfl,h1,h2,h3,hb⟩;exact⟨_,rfl,⟨A,n,c,z,rfl,h1,h2,h3.cJ j.2.size⟩,hb⟩
 obtain⟨_,_,A,n,c,z5,rfl,Hg,sj,_⟩:=aV;simp[Act.put];refine mLw ?_;intro j hE;obtain⟨A7,n7,c7,z7,e7,_,_,o7⟩:=hE;simp at e7;obtain⟨⟨r1,r2,r3⟩,r4⟩:=e7;subst r1 r2 r3 r4;have O5:=sH o7;have B5:aq (az d j.1):=⟨j.2⟩;have X5:=sH (V.o.ar j.2 V.o.lt);have W:=sH (X3.o.ar j.2 X3.o.lt);have U5:=sH (X2.o.ar j.2 X2.o.lt);have B6:=H.t j.2;clear o7 K0 K1 K2 K3 K4 L0 L1 L2 L3 L4 L6 L7 L8 M0 M1 M2 M3 M4 M5 X1 X2 X3 V;generalize j.1=w5 at*;clear j;go_step;by_cases h0:z5=0;rotate_left
 .have Dm:(z5 !=0)=true:=by simp[h0]
  have H0:=sH h0;clear h0;obtain⟨L,hX⟩:=W.o.heap;go_wp2_with (refine wpList_store_row rfl 48 (.tmp 16) (.tmp 51) rfl l (je 0 0 0 none 0 0 0 0 0 false none 0 0) rfl aB L _ hX aF aB dJ ?_;have X9:=W.o.row (ds:=je 0 0 0 none 0 0 0 0 0 false none 0 0));obtain⟨K,M⟩:=X9.heap;refine bodyPost_ret (bR results18 _ _ l K _ (0,0) _ aB M underlying48 rfl aF) rfl ?_;exact⟨⟨0,0,0,none,0,0,0,0,0,false,none,0,0⟩,_,rfl,fun h=>absurd h H0.o,below_setRow B6.o ak _⟩
 have P5:aq (Kp w w5 l f d.heap.size (je a b r none 0 0 0 0 k false none 0 0) p a b A n c):=⟨⟨X5.o,W.o,U5.o,B6.o,O5.o,Z,by have:=Q.o;have:=N.o;omega,by have:=Q.o;have:=N.o;omega,by have:=Q.o;have:=N.o;have:=HZ4.o;omega⟩⟩;have HI:aq (w.heap.size<=l):=⟨by have:=Q.o;omega⟩;have HB4:aq (w.heap.size<=d.heap.size):=⟨by have:=HZ4.o;omega⟩;clear Fj hN3 X5 W U5 B6 B5 O5 Z;subst h0;have⟨E,F,B,C,q4,D,q,u,t⟩:=P5.o.x3.p9;have fq:=P5.o.x3.fz 3;have T:Kp w ((w5:ahh).setCell ⟨f,3,none⟩ (.slice A n c)) l f d.heap.size (je a b r A n c 0 0 k false none 0 0) p a b A n c:=P5.o.set 3 (.slice A n c);go_upto_region 9 with fail;have⟨w6,m⟩:∃wz,wz=(w5:ahh).setCell ⟨f,3,none⟩ (.slice A n c):=⟨_,rfl⟩;rw[<-m]at T⊢;have T:=sH T;clear m E F B C q4 D q u t fq;go_wp2_with fail;refine(Zp (fun _=>True) A n c w6 (T.o.gl.o.rq ak) ak).mono ?_;rintro e w7 ⟨o,rfl,e7⟩;subst w7;have⟨E,F,B,C,q4,D,q,u,t⟩:=T.o.x3.p9;have fq:=T.o.x3.fz 4;have P7:Kp w ((w6:ahh).setCell ⟨f,4,none⟩ (ae aj o)) l f d.heap.size (je a b r A n c o 0 k false none 0 0) p a b A n c:=T.o.set 4 (ae aj o);go_upto_region 10 with fail;have⟨w7,m⟩:∃wz,wz=(w6:ahh).setCell ⟨f,4,none⟩ (ae aj o):=⟨_,rfl⟩;rw[<-m]at P7⊢;have P7:=sH P7;clear m E F B C q4 D q u t fq;clear P5 T;have⟨E,F,B,C,q4,D,q,u,t⟩:=P7.o.x3.p9;have fq:=P7.o.x3.fz 5;have Y:Kp w ((w7:ahh).setCell ⟨f,5,none⟩ (ae aj o)) l f d.heap.size (je a b r A n c o o k false none 0 0) p a b A n c:=P7.o.set 5 (ae aj o);go_upto_region 11 with fail;have⟨w8,m⟩:∃wz,wz=(w7:ahh).setCell ⟨f,5,none⟩ (ae aj o):=⟨_,rfl⟩;rw[<-m]at Y⊢;have Y:=sH Y;clear m E F B C q4 D q u t fq;clear P7;have⟨U,d1,d2,d3,d4,d5,d6,d7⟩:=Y.o.xp.c8;go_wp2_with fail;refine(GO p.T p.tn p.tc a b ts w8 (HP.o.ar Y.o.be).rT ak hb ak).mono ?_;rintro e w9 ⟨rfl,b9⟩;have P9:=sH (Y.o.ar b9);have⟨sp,hsp⟩:=eY (gG ts a b);rw[hsp];clear b9 Y U d1 d2 d3 d4 d5 d6 d7 hsp;go_wp2;go_loopg[22](n+1)(fun gg v wr=>∃(i:Nat) (y:Int),n-i<gg/\i<=n/\v=ae aj (i:Int)/\aq (Kp w wr l f d.heap.size (je a b r A n c o y k false none 0 0) p a b A n c))
 .exact⟨0,o,ak,ak,rfl,P9⟩
 clear P9;obtain⟨i,y,hg,hi,rfl,G⟩:=hrel;by_cases aK:i<n;rotate_left
 .have i5:=cv i n
  have⟨E,F,B,C,q4,D,q,u,t⟩:=G.o.x3.p9;obtain⟨L,hX⟩:=G.o.x2.heap;go_wp2_with (refine wpList_store_row rfl 48 (.tmp 16) (.tmp 88) rfl l (je a b r A n c o y k false none 0 0) rfl aB L _ hX aF aB dJ ?_;have X9:=G.o.x2.row (ds:=je a b r A n c o y k false none 0 0));obtain⟨K,M⟩:=X9.heap;refine bodyPost_ret (bR results18 _ _ l K _ (0,0) _ aB M underlying48 rfl aF) rfl ?_;exact⟨⟨a,b,r,A,n,c,o,y,k,false,none,0,0⟩,_,rfl,fun _=>⟨rfl,rfl,rfl,rfl,rfl,rfl,rfl,Hg,sj,(G.o.gl.fH (by obtain⟨gs,h1,h2,_,h3⟩:=G.o.gl;exact aw.oB h3 (by have:=N.o;have:=G.o.hi;omega)) _).cJ HB4.o⟩,below_setRow G.o.be HI.o _⟩
 have i5:=aU i n;obtain⟨g,rfl,_⟩:=G.o.gl.form ak;obtain⟨x0,x1,x2,x3,x4,x5,x6,x7,x8,x9,_,g0,g1,g2,_⟩:=G.o.gl.o.bD aK;by_cases hs:(sp:Int)<=x1;rotate_left
 .go_wp2
  go_roundg(n-i)
  .exact⟨i+1,y,ak,ak,aT,G⟩
  omega
 have⟨E,F,B,C,q4,D,q,u,t⟩:=G.o.x3.p9;go_upto_region 16 with fail;have⟨K5,L2⟩:=lc2 D g2;clear E F B C q4 D q u t g0 g1 g2;refine aS (fun _=>none) 9 rfl aF aF aF aF aF rfl ?_;refine mLw ?_;intro j hE;have p6:=G.o.ar j.2;have⟨E,F,B,C,q4,D,q,u,t⟩:=p6.x3.p9;have fq:=p6.x3.fz 5;have PN:aq (∀v:Int,Kp w (j.1.setCell ⟨f,5,none⟩ (ae aj v)) l f d.heap.size (je a b r (some ⟨g,0,none⟩) n c o v k false none 0 0) p a b (some ⟨g,0,none⟩) n c):=⟨fun v=>p6.set 5 (ae aj v)⟩;clear hE K5 L2 p6 E F B C q4 q u t;go_simp;go_wp2;go_roundg(n-i)
 .exact⟨i+1,_,ak,ak,aT,⟨PN.o _⟩⟩
 omega
theorem ME:qJ:=fun z w g=>(zM z ak w).mono fun e h ⟨A,C,n,c,m,d,b,a,_,f⟩=>⟨A,C,n,c,m,d,b,a,f⟩
def POf(w:ahh)(p:jA)(e:ahn)(a:ahh):Prop:=∃(A:aA) (m c:Nat) (R:aA) (b d:Nat) (z:Int),e=.returned (.tuple #[.slice A m c,.slice R b d,ae aj z])/\(z=0->∃(xs:List fp) (f:List aC),xs.length=m/\m<=c/\m<=p.tn/\b<=p.tn/\vl a a.heap.size xs 0 m A/\Rx a a.heap.size 6 f R b/\jd p.tn b xs)/\az w a
def ZPc(B a b r:Nat)(c:Int):Sat:=⟨fun v w=>∃(y:R9) (z:Int),v=.tuple #[.agg y.row,ae aj z]/\(z=0->Jp w B a b r c y),fun _ _ _ ⟨y,z,f,g⟩ d=>⟨y,z,f,fun e=>(g e).ar d⟩⟩
theorem mi.Z{a:ahh}{t:Nat}(h:mi w A m t)(b:az w a):mi a A m t:=by
 obtain⟨c,g,e,d⟩:=h;exact⟨c,g,e,au d b⟩
theorem Jp.row{d:Int}{y:R9}{cs:Array ahj}(h:Jp w B a b r d y)(m:Tx w g cs 48)(ds:Array ahj):Jp (w.setRow g ds) B a b r d y:=by
 obtain⟨f,o,i,k,j,p,e,n,l,c⟩:=h;exact⟨f,o,i,k,j,p,e,n,l,c.fH (by obtain⟨gs,k1,k2,_,k3⟩:=c;exact m.apart k3 (by decide)) ds⟩
theorem ZPc.get{j:Int}{y:R9}{z:Int}(h:(ZPc B a b r j).p (.tuple #[.agg y.row,ae aj z]) w):z=0->Jp w B a b r j y:=by
 obtain⟨⟨f2,T,G,U,H,Q,o,C,x,p,I,K,W⟩,L,e,h⟩:=h;obtain⟨f1,O,S,V,R,N,k,u,l,D,M,P,J⟩:=y;simp at e;obtain⟨⟨F,q,v,⟨m,s,E⟩,n,t,A,c,d,i,f⟩,g⟩:=e;subst F q v m s E n t A c d i f g;exact h
def ZWn(B N:Nat):Sat:=⟨fun v w=>∃(A:aA) (k c:Nat),v=.slice A k c/\k<=N/\Ow w B 3 .i64 aH A k c,fun _ _ _ ⟨A,k,c,b,e,d⟩ a=>⟨A,k,c,b,e,d.ar a⟩⟩
theorem ZWn.get{N:Nat}(h:(ZWn B N).p (.slice A k c) w):Ow w B 3 .i64 aH A k c:=by
 obtain⟨a,k2,b,e,_,h⟩:=h;injection e with e1 e2 e3
 subst e1 e2 e3;exact h
theorem Zh(s:G:=by
 refine wp_store_row 48 (.tmp 16) (.tmp 84) rfl g y.row rfl rfl 48 _ hx aF rfl dJ ?_
 clear hx;go_simp;go_step;go_meet;exact⟨g,y,z,rfl,rfl,HG1,⟨HX.o.row _⟩,⟨fun h=>(HP.o h).row HX.o _⟩,⟨below_setRow HN.o HG1.o _⟩⟩):G:=s
theorem afv(s:cN)(p:jA)(ts:aC)(w:ahh)(h:gL w w.heap.size s)(hp:lh w p ts)(hs:yI w s p):ahk prog 6 #[s.v,p.v] w (POf w p):=by
 have⟨W1,aP,B1,X1,X2⟩:=box2 w s.row 26 p.row 31;have⟨c0,c1,L,c3,c4⟩:=X1.o.c5;have⟨d0,U,X,T,S,P,Z,Q⟩:=X2.o.c8;have R0:=sH (h.Z B1.o B1.o.size);have P0:=sH (hp.ar B1.o);have S0:=sH (hs.ar h B1.o);have ht:p.tn<=60:=hs.1;clear h hp hs;go_enter func6,ntmps6;go_upto_region 1 with fail;rw[<-aP];clear aP;go_wp2_with fail;refine(aaB MK ME s p ts W1 R0.o P0.o S0.o).mono ?_;rintro e w2 ⟨R,o,rc,z,rfl,hz,b2⟩;have Y:=sH b2;clear b2 c0 c1 L c3 c4 d0 U X T S P Z Q;by_cases h0:z=0;rotate_left
 .have Dm:(z !=0)=true:=by simp[h0]
  have H0:=sH h0;clear h0 hz;go_wp2;go_ret3;exact⟨none,0,0,none,0,0,_,rfl,fun h=>absurd h H0.o,B1.o.trans (Y.o.mono B1.o.size)⟩
 obtain⟨ch,hrm,oq,lt⟩:=hz h0;have C2:=sH ch.1;have O2:=sH oq;have L2:=sH lt;clear hz ch oq lt;subst h0;have⟨d0,U,X,T,S,P,Z,Q⟩:=(X2.o.ar Y.o X2.o.lt).c8;go_wp2_with fail;refine(SY p.T p.tn p.tc ts R o rc w2 (P0.o.ar Y.o).rT (O2.o.rq ak) ak ak).mono ?_;rintro e w3 ⟨bs,k,f9,C,cc,rfl,hk,cu,b3⟩;have B3:=Y.t b3;have C3:=sH (C2.o.Z b3 b3.size);have O3:=sH (O2.o.ar b3);have L3:aq (0<p.tn->mi w3 R o p.tn):=⟨fun h=>(L2.o h).Z b3⟩;have CU:=sH cu;clear b3 cu d0 U X T S P Z Q C2 O2 L2;have⟨d0,U,X,T,S,P,Z,Q⟩:=(X2.o.ar B3.o X2.o.lt).c8;go_wp2_with fail;refine(adO p.T p.tn p.tc ts w3 (P0.o.ar B3.o).rT ak).mono ?_;rintro e w4 ⟨km,XY,K,kc,rfl,ok,b4⟩;have B4:=B3.t b4;have C4:=sH (C3.o.Z b4 b4.size);have O4:=sH (O3.o.ar b4);have L4:aq (0<p.tn->mi w4 R o p.tn):=⟨fun h=>(L3.o h).Z b4⟩;have U4:=sH (CU.o.ar b4);have K4:=sH ok.iw;have HK:aq (0<p.tn->km=p.tn+1):=⟨XY⟩;clear b4 ok d0 U X T S P Z Q C3 O3 L3 CU XY;have⟨d0,U,X,T,S,P,Z,Q⟩:=(X2.o.ar B4.o X2.o.lt).c8;go_wp2_with fail;refine(UC p.T p.tn p.tc ts w4 (P0.o.ar B4.o).rT ak).mono ?_;rintro e w5 ⟨F,fc,rfl,of,b5⟩;have B5:=B4.t b5;have C5:=sH (C4.o.Z b5 b5.size);have O5:=sH (O4.o.ar b5);have L5:aq (0<p.tn->mi w5 R o p.tn):=⟨fun h=>(L4.o h).Z b5⟩;have U5:=sH (U4.o.ar b5);have K5:=sH (K4.o.Z b5 b5.size);have F5:=sH of.iw;have hfc:p.tn<=fc:=of.le.1;clear b5 of d0 U X T S P Z Q C4 O4 L4 U4 K4;have⟨d0,U,X,T,S,P,Z,Q⟩:=(X2.o.ar B5.o X2.o.lt).c8;have⟨c0,c1,L,c3,c4⟩:=(X1.o.ar B5.o X1.o.lt).c5;go_wp2_with fail;refine(JT s p ts w5 (R0.o.Z B5.o B5.o.size) (P0.o.ar B5.o) (S0.o.ar R0.o B5.o)).mono ?_;rintro e w6 ⟨M,mm,mc,rfl,hmm,om,b6⟩;have B6:=B5.t b6;have C6:=sH (C5.o.Z b6 b6.size);have O6:=sH (O5.o.ar b6);have L6:aq (0<p.tn->mi w6 R o p.tn):=⟨fun h=>(L5.o h).Z b6⟩;have U6:=sH (U5.o.ar b6);have K6:=sH (K5.o.Z b6 b6.size);have F6:=sH (F5.o.Z b6 b6.size);have M6:=sH om.iw;have Cc:=sH (X1.o.ar B6.o X1.o.lt);have X26:=sH (X2.o.ar B6.o X2.o.lt);have R6:=sH (R0.o.Z B6.o B6.o.size);have P6:=sH (P0.o.ar B6.o);have BW:=B1.t B6.o;clear b6 om d0 U X T S P Z Q c0 c1 L c3 c4 C5 O5 L5 U5 K5 F5 Y B3 B4 B5 X1 X2 R0 P0 S0;go_wp2;go_loopg[13,14,15,16,17](k+1)(fun gg ko yS kf _ _ wr=>∃(i at_:Nat) (A:aA) (c:Nat) (xs:List fp),k-i<gg/\i<=k/\ko=.slice A i c/\yS=ae aj (at_:Int)/\kf=ae aj (i:Int)/\(0<k->at_<o)/\aq (PcO wr w6.heap.size xs A i c)/\aq (jd p.tn o xs/\(∀x∈xs,x.q.t<=cZ bs i)/\∀j,j+1=xs.length->(kR xs j).q.t=cZ bs i)/\aq (az w6 wr))
 .exact⟨0,0,none,0,[],ak,ak,rfl,rfl,rfl,fun h=>(L6.o ak).1,⟨Gn.nil _ _ _ _ _ _⟩,⟨jd.nil _ _,aQ,aQ⟩,cA⟩
 obtain⟨i,at_,A,c,xs,hg,hi,rfl,rfl,rfl,wF,PO,OK,BE⟩:=hrel;have Cp:=BE.o.size;by_cases aK:i<k;rotate_left
 .have i4:=cv i k
  obtain rfl:i=k:=ak;have hx:xs.length=i:=PO.o.len;obtain⟨rs,hrx,_⟩:=((O6.o.ar BE.o).rq ak).rx;have RX:=sH hrx;have hle:=aw.le PO.o.own;clear hrx;go_wp2;go_ret3;exact⟨A,i,c,R,o,rc,0,rfl,fun _=>⟨xs,rs,hx,hle,hk,hrm,PO.o.rd,RX.o,OK.o.1⟩,BW.o.trans (BE.o.mono BW.o.size)⟩
 have i4:=aU i k;have wF:=wF ak;obtain⟨jB,xh⟩:=U6.o.up i aK;obtain⟨gC,rfl,_,_⟩:=aw.form U6.o.own ak;obtain⟨r,D⟩:=Cm.at_ (aw.ar U6.o.own BE.o) (iJ _ _) aK;rw[ky _ _ _ aK]at r D;dsimp only at r D;have⟨a,ha⟩:=eY (cZ bs i);have⟨b,hb⟩:=eY (cZ bs (i+1));rw[ha]at r jB OK;rw[hb]at D jB xh;have HB:=sH hb;have HA:=sH ha;have HG:aq (k-i<gk):=⟨hg⟩;clear ha hb hg;obtain⟨gR,hR,_⟩:=O6.o.form ak;subst hR;obtain⟨wo,rfl⟩:=eX wr;have Q0:aq (∀W,az wo W->W.cell? ⟨gC,i*2,none⟩=some (ae aj (a:Int))/\W.cell? ⟨gC,i*2+1,none⟩=some (ae aj (b:Int))):=⟨fun W hW=>⟨au r hW,au D hW⟩⟩;clear r D;go_wp2;go_loopg[14](o+1)(fun g v wx=>∃t:Nat,o-t<g/\t<o/\v=ae aj (t:Int)/\aq (az wo wx))
 .exact⟨at_,ak,wF,rfl,cA⟩
 obtain⟨t,hgt,V,rfl,BT⟩:=hrel;have E:aq (az w6 wr):=⟨BE.o.trans (BT.o.mono Cp)⟩;obtain⟨x,_,e0,e1,_⟩:=(O6.o.ar E.o).ZW V;obtain⟨_,g',eg,ec⟩:=(L6.o ak).Z E.o;have LT:aq (t+1=o->x.t=(p.tn:Int)):=⟨fun h=>by
  injection eg with eg
  injection eg with eg
  subst eg;rw[show o-1=t by omega,e1]at ec;injection ec with ec
  injection ec⟩
 obtain⟨r,D⟩:=Q0.o _ BT.o;have⟨K1,K2⟩:=lc2 e1 r;have t4:=aU t o;clear e0 e1 eg ec r D;by_cases hx:x.t<=(a:Int)
 .have dY:t+1<o:=by
   rcases Nat.lt_or_ge (t+1) o with h1|h1
   .exact h1
   .have:=LT.o ak;omega
  go_wp2;refine mRl ?_;rintro _ ⟨m,rfl⟩;have Y:=BT.t m.2;go_wp2;go_roundg(o-t)
  .exact⟨t+1,ak,dY,aT,Y⟩
  omega
 go_wp2;refine mRl ?_;rintro _ ⟨m,rfl⟩;have Y:=BT.t m.2;generalize m.1=wv at*;clear m K1 K2 LT BT E;have E:aq (az w6 wv):=⟨BE.o.trans (Y.o.mono Cp)⟩;have H:=E.o.size;go_upto_region 15 with fail;clear hx;obtain⟨adK,en,eK,_,ek⟩:=(K6.o.Z E.o H).get (show b<km by have:=HK.o ak;omega);have b4:(b:Int)<(km:Int):=by have:=HK.o (by omega);omega
 subst eK;have⟨c0,c1,L,c3,c4⟩:=(Cc.o.ar E.o Cc.o.lt).c5;have⟨d0,U,X,T,S,P,Z,Q⟩:=(X26.o.ar E.o X26.o.lt).c8;obtain⟨r,D⟩:=Q0.o _ Y.o;have RW:=sH (R6.o.Z E.o H);have PW:=sH (P6.o.ar E.o);have FW:=sH (F6.o.Z E.o H);have CW:=sH (C6.o.Z E.o H);have OW:=sH ((O6.o.ar E.o).rq ak);have MW:=sH (M6.o.Z E.o H);have t4:=aU t o;go_cut[16,17](fun nE v17 wx=>∃(g:Nat) (y:R9) (z:Int),nE=.pointer (some ⟨g,0,none⟩)/\v17=ae aj z/\aq (wv.heap.size<=g)/\aq (Tx wx g y.row 48)/\aq (z=0->Jp wx wv.heap.size a b t en y)/\aq (az wv wx))
 ·
  have⟨K0,K1,K2,K3,K4,L0,L1,L2⟩:=lc8 c0 c1 L c3 c4 d0 U X;have⟨L3,L4,L6,L7,L8,M0,M1,M2⟩:=lc8 T S P Z Q r D ek;clear c0 c1 L c3 c4 d0 U X T S P Z Q r D ek;refine sA (fun d=>if d=some 83 then some (ZPc wv.heap.size a b t en)else if d=some 16 then some (ZT wv.heap.size (je 0 0 0 none 0 0 0 0 0 false none 0 0) 48)else none) 28 26 85 rfl aF aF aF aF aF rfl rfl rfl rfl ?_;refine mLw ?_;refine lwA (ZPc wv.heap.size a b t en) (fun m=> ?_) (fun v9 aV=> ?_)
  .go_simp
   refine aX (ZPc wv.heap.size a b t en) ((MX s p ts F fc _ o rc t a b en m.1 (RW.o.Z m.2 m.2.size) (PW.o.ar m.2) (FW.o.Z m.2 m.2.size) (CW.o.Z m.2 m.2.size) hfc (OW.o.Z m.2 m.2.size) V jB xh ht).mono ?_);rintro e w9 ⟨y,z,rfl,h1,hb⟩;exact⟨_,rfl,⟨y,z,rfl,fun h=>(h1 h).cJ m.2.size⟩,hb⟩
  obtain⟨_,_,y,z,rfl,_⟩:=aV;simp[Act.put];refine mLw ?_;refine lwA (ZT wv.heap.size (je 0 0 0 none 0 0 0 0 0 false none 0 0) 48) (fun m=> ?_) (fun v9 aV=> ?_)
  .go_simp
   exact Cv m _ _
  obtain⟨_,_,g,rfl,dW,_⟩:=aV;simp[Act.put];intro m hE;have hp:=ZPc.get hE.1;have hx:=ZT.get hE.2;have HP:=sH hp;have HX:=sH hx;have HG1:=sH dW;have HN:=sH m.2;clear hE hp K0 K1 K2 K3 K4 L0 L1 L2 L3 L4 L6 L7 L8 M0 M1 M2 dW;refine⟨?_,fun u=> ?_⟩
  .exact Zh
  .exact Zh
 clear c0 c1 L c3 c4 d0 U X T S P Z Q r D ek;obtain⟨g,y,z,rfl,rfl,HG1,TXc,PG,BC⟩:=hcut;have BY:aq (az w6 wc):=⟨E.o.trans (BC.o.mono H)⟩;have POc:=sH ((PO.o.ar (gQ _) Y.o).ar (gQ _) BC.o);have B3:=Y.t BC.o;by_cases h0:z=0;rotate_left
 .have Dm:(z !=0)=true:=by simp[h0]
  have H0:=sH h0;clear h0;go_wp2;go_ret3;exact⟨none,0,0,none,0,0,_,rfl,fun h=>absurd h H0.o,BW.o.trans (BY.o.mono BW.o.size)⟩
 subst h0;obtain⟨f',t',r',G,n,c',q,l,f,iF,P',m',d'⟩:=y;obtain⟨h1,h2,h3,h4,h5,h6,h7,h8,h9,gs,k1,k2,kL,k3⟩:=PG.o rfl;dsimp only at h1 h2 h3 h4 h5 h6 h7 h8 h9 k1 k2 kL k3;subst h1 h2 h3 h4 h5 h6 h7 k1;have TX0:aq (Tx wc g (fp.row ⟨⟨a,b,t,q,l,iF,gs⟩,G,c',f,none,0,0⟩) 48):=⟨TXc.o⟩;have PI0:aq (PcI w6.heap.size wc ⟨⟨a,b,t,q,l,iF,gs⟩,G,c',f,none,0,0⟩):=⟨⟨k2,aw.aa9 k3 H,Ow.nil _ _ _ _ _⟩⟩;have GL:aq (gs.length<=c'/\gs.length<=20000/\iP qX a b gs):=⟨⟨h8,h9,kL⟩⟩;clear TXc PG h8 h9 k2 kL k3;have⟨r,D,q2,q3,q4,q5,q6,q7,q8⟩:=TX0.o.bx.p9;cases iF;rotate_left
 .go_upto_region 20 with fail
  have GA:=sH (POc.o.ar (gQ _) (av wc (.cells (fp.row ⟨⟨a,b,t,q,l,true,gs⟩,G,c',f,none,0,0⟩) 48)));have PA:=sH ((gQ _).b _ _ _ PI0.o (av wc (.cells (fp.row ⟨⟨a,b,t,q,l,true,gs⟩,G,c',f,none,0,0⟩) 48)));have hz9:=B3.o.size;go_wp2_with (at_builtin;refine br TPc rfl (.tmp 105) (.tmp 107) rfl rfl GA.o.own rfl (news:=fp.F ⟨⟨a,b,t,q,l,true,gs⟩,G,c',f,none,0,0⟩) rfl (fun j u h=>aeU) (fun u hu=>aex) ak cw ?_;intro A8 c8 w8 o8 b8 g8 _;have PO8:=sH (GA.o.push (gQ _) PA.o o8 g8);have B8:aq (az w6 w8):=⟨BE.o.trans (((B3.o.alloc hz9 _).mono Cp).trans b8)⟩;clear o8 b8 g8);have OK8:aq (jd p.tn o (xs++[⟨⟨a,b,t,q,l,true,gs⟩,G,c',f,none,0,0⟩])/\(∀x∈(xs++[⟨⟨a,b,t,q,l,true,gs⟩,G,c',f,none,0,0⟩]:List fp),x.q.t<=cZ bs (i+1))/\∀j,j+1=(xs++[⟨⟨a,b,t,q,l,true,gs⟩,G,c',f,none,0,0⟩]:List fp).length->(kR (xs++[⟨⟨a,b,t,q,l,true,gs⟩,G,c',f,none,0,0⟩]) j).q.t=cZ bs (i+1)):=⟨OK.o.1.more V ⟨jB,xh⟩ GL.o OK.o.2.1 OK.o.2.2,fun x hx=>by
   rw[HB.o];rcases List.mem_append.1 hx with hx|hx
   .have:=OK.o.2.1 x hx;omega
   .obtain rfl:=List.mem_singleton.1 hx;exact Nat.le_refl _,fun j hj=>by
   rw[HB.o,fe ak,List.getElem_append_right (by simp at hj;omega)];simp⟩
  go_roundg(k-i)
  .exact⟨i+1,t,A8,c8,_,ak,ak,rfl,rfl,aT,fun _=>V,PO8,OK8,B8⟩
  have:=HG.o;omega
 go_upto_region 19 with fail;obtain⟨r0,r1⟩:=Q0.o _ B3.o;have⟨K0,K1⟩:=lc2 r0 r1;have MC:=sH (MW.o.Z BC.o BC.o.size);clear r D q2 q3 q4 q5 q6 q7 q8 r0 r1;refine aS (iZ 103 (ZWn wc.heap.size mm)) 13 rfl aF aF aF aF aF rfl ?_;refine mLw ?_;refine lwA (ZWn wc.heap.size mm) (fun m=> ?_) (fun v9 aV=> ?_)
 .go_simp
  refine aX (ZWn wc.heap.size mm) ((Of M mm mc _ _ m.1 (MC.o.Z m.2 m.2.size) ak).mono ?_);rintro e w9 ⟨J,O,I,h1,rfl,o9,hb⟩;exact⟨_,rfl,⟨J,O,I,rfl,h1,o9.cJ m.2.size⟩,hb⟩
 obtain⟨_,_,J,O,I,rfl,hk9,_⟩:=aV;simp[Act.put];refine mLw ?_;intro m hE;have o9:=ZWn.get (B:=wc.heap.size) (N:=mm) hE;have tx:=TX0.o.ar m.2;have⟨r,D,q2,q3,q4,q5,q6,q7,q8⟩:=tx.bx.p9;have f8:=tx.bx.fz 8;have pi:=(gQ _).b _ _ _ PI0.o m.2;have RB:=sH ((POc.o.ar (gQ _) m.2));have X9:aq (Bx (m.1.setCell ⟨g,8,none⟩ (.slice J O I)) g (fp.row ⟨⟨a,b,t,q,l,false,gs⟩,G,c',f,J,O,I⟩)):=⟨tx.bx.jR 8 _⟩;have PI9:aq (PcI w6.heap.size (m.1.setCell ⟨g,8,none⟩ (.slice J O I)) ⟨⟨a,b,t,q,l,false,gs⟩,G,c',f,J,O,I⟩):=⟨⟨pi.1,aw.mu pi.2.1 (tx.apart pi.2.1 cr) _,by
  obtain⟨xs9,u1,u2⟩:=o9.cJ (show w6.heap.size<=wc.heap.size from BY.o.size);exact⟨xs9,aw.mu u1 (tx.apart u1 cr) _,u2⟩⟩⟩
 have hgB:wo.heap.size<=g:=Nat.le_trans Y.o.size HG1.o;have B9:aq (az wo (m.1.setCell ⟨g,8,none⟩ (.slice J O I))):=⟨Below.setCell (B3.o.trans (m.2.mono B3.o.size)) (p:=⟨g,8,none⟩) hgB _⟩;have POs:=sH (PO.o.ar (gQ _) B9.o);clear hE K0 K1 o9 pi r D q2 q3 q4 q5 q6 q7 MC tx;go_simp;clear q8 f8;generalize m.1.setCell ⟨g,8,none⟩ (.slice J O I)=wz at*;have⟨r,D,q2,q3,q4,q5,q6,q7,q8⟩:=X9.o.p9;go_step;go_upto_region 20 with fail;have GA:=sH (POs.o.ar (gQ _) (av wz (.cells (fp.row ⟨⟨a,b,t,q,l,false,gs⟩,G,c',f,J,O,I⟩) 48)));have PA:=sH ((gQ _).b _ _ _ PI9.o (av wz (.cells (fp.row ⟨⟨a,b,t,q,l,false,gs⟩,G,c',f,J,O,I⟩) 48)));have hz9:=B9.o.size;go_wp2_with (at_builtin;refine br TPc rfl (.tmp 105) (.tmp 107) rfl rfl GA.o.own rfl (news:=fp.F ⟨⟨a,b,t,q,l,false,gs⟩,G,c',f,J,O,I⟩) rfl (fun j u h=>aeU) (fun u hu=>aex) ak cw ?_;intro A8 c8 w8 o8 b8 g8 _;have PO8:=sH (GA.o.push (gQ _) PA.o o8 g8);have B8:aq (az w6 w8):=⟨BE.o.trans (((B9.o.alloc hz9 _).mono Cp).trans b8)⟩;clear o8 b8 g8);have OK8:aq (jd p.tn o (xs++[⟨⟨a,b,t,q,l,false,gs⟩,G,c',f,J,O,I⟩])/\(∀x∈(xs++[⟨⟨a,b,t,q,l,false,gs⟩,G,c',f,J,O,I⟩]:List fp),x.q.t<=cZ bs (i+1))/\∀j,j+1=(xs++[⟨⟨a,b,t,q,l,false,gs⟩,G,c',f,J,O,I⟩]:List fp).length->(kR (xs++[⟨⟨a,b,t,q,l,false,gs⟩,G,c',f,J,O,I⟩]) j).q.t=cZ bs (i+1)):=⟨OK.o.1.more V ⟨jB,xh⟩ GL.o OK.o.2.1 OK.o.2.2,fun x hx=>by
  rw[HB.o];rcases List.mem_append.1 hx with hx|hx
  .have:=OK.o.2.1 x hx;omega
  .obtain rfl:=List.mem_singleton.1 hx;exact Nat.le_refl _,fun j hj=>by
  rw[HB.o,fe ak,List.getElem_append_right (by simp at hj;omega)];simp⟩
 go_roundg(k-i)
 .exact⟨i+1,t,A8,c8,_,ak,ak,rfl,rfl,aT,fun _=>V,PO8,OK8,B8⟩
 have:=HG.o;omega
def TxF(p:jA)(ts:aC):Prop:=Cq ts p.tn/\(0<=p.dir/\p.dir<=2)/\tZ ts p.tn p.tn
def afq(w:ahh)(s:cN)(p:jA)(ts:aC)(e:ahn)(a:ahh):Prop:=∃z:Bool,e=.returned (.bool z)/\(z=true->yI a s p/\p.tn<=40/\TxF p ts)/\az w a
theorem Uz(s:cN)(p:jA)(ts:aC)(w:ahh)(h:gL w w.heap.size s)(F:lh w p ts):ahk prog 4 #[s.v,p.v] w (afq w s p ts):=by
 have⟨c,f⟩:∃c,c=(w.alloc (.cells s.row 26)).alloc (.cells p.row 31):=⟨_,rfl⟩;have k:=acy f;have a:aq (az w c):=⟨k.1⟩;have C:aq (Bx c w.heap.size s.row):=⟨k.2.1⟩;have g:aq (Bx c (w.heap.size+1) p.row):=⟨k.2.2⟩;clear k;have⟨c0,q,d,D,c4⟩:=C.o.c5;have⟨i,m,B,x,t,y,o,A⟩:=g.o.c8;have l:aq _:=⟨h.Z a.o a.o.size⟩;have H:aq _:=⟨F.ar a.o⟩;clear h F;go_enter func4,ntmps4;go_upto_region 1 with fail;rw[<-f];clear f;go_wp2_with fail;refine(FO s p ts c l.o H.o).mono ?_;rintro e u ⟨z,rfl,I,G⟩;have b:aq (az c u):=⟨G⟩;have T:aq _:=⟨I⟩;clear G I c0 q d D c4 i m B x t y o A;cases z with
 |false=>
  go_wp2;go_ret;exact⟨false,rfl,aQ,a.o.trans (b.o.mono a.o.size)⟩
 |true=>
  have O:aq (yI u s p):=⟨(T.o rfl).ar l.o b.o⟩;have E:aq _:=⟨l.o.Z b.o b.o.size⟩;have K:aq _:=⟨H.o.ar b.o⟩;have⟨c0,q,d,D,c4⟩:=(C.o.ar b.o C.o.lt).c5;have⟨i,m,B,x,t,y,o,A⟩:=(g.o.ar b.o g.o.lt).c8;go_wp2_with fail;refine(ab4 MK ME s p ts u E.o K.o).mono ?_;rintro e r ⟨z,rfl,J,n⟩;have j:aq (az c r):=⟨b.o.trans (n.mono b.o.size)⟩;have S:aq (yI r s p):=⟨O.o.ar E.o n⟩;have M:aq (z=true->TxF p ts):=⟨fun h=>by obtain⟨_,_,_,R,_,P,L,_⟩:=J h;exact⟨R,L,P⟩⟩;clear n J c0 q d D c4 i m B x t y o A;have i:r.cell? ⟨w.heap.size+1,0,none⟩=some (.slice p.T p.tn p.tc):=(g.o.ar j.o g.o.lt).cell 0;cases z with
  |false=>
   go_wp2;go_ret;exact⟨false,rfl,aQ,a.o.trans (j.o.mono a.o.size)⟩
  |true=>
   have N:aq _:=⟨M.o rfl⟩;by_cases v:p.tn<=40
   .have Q:(p.tn:Int)<=40:=by omega
    go_wp2;go_ret;exact⟨true,gZ,fun _=>⟨S.o,v,N.o⟩,a.o.trans (j.o.mono a.o.size)⟩
   .have Q:¬(p.tn:Int)<=40:=by omega
    go_wp2;go_ret;exact⟨false,gZ,aQ,a.o.trans (j.o.mono a.o.size)⟩
theorem Rm(s:G:=by
 exact⟨i+1,ak,ak,by rw[HN1.o,E.o],Xx,rfl⟩):G:=s
theorem LineCovers_walk(s:cN)(p:jA)(ts:aC)(a:Int)(_:(Lit.int .i64 a).wf=true)(b:Int)(_:(Lit.int .i64 b).wf=true)(last:Bool)(w:ahh)(h:gL w w.heap.size s)(hp:lh w p ts)(hL:Laid w):ahk prog 3 #[s.v,p.v,ae aj a,ae aj b,.bool last] w fun e w'=>e=.returned (.bool true)/\az w w':=by
 have⟨W1,aP,B1,X1,D⟩:=box2 w s.row 26 p.row 31;have⟨c0,Z,I,c3,c4⟩:=X1.o.c5;have⟨O,d1,d2,d3,d4,d5,d6,d7⟩:=D.o.c8;have R0:=sH (h.Z B1.o B1.o.size);have P0:=sH (hp.ar B1.o);have L0:aq (Laid W1):=⟨hL.ar B1.o⟩;clear h hp hL;go_enter func3,ntmps3;go_upto_region 1 with fail;rw[<-aP];clear aP;go_wp2_with fail;refine(Uz s p ts W1 R0.o P0.o).mono ?_;rintro e w2 ⟨z,rfl,y,b2⟩;have B2:aq (az W1 w2):=⟨b2⟩;have zG:=B1.t b2;have HZ:=sH y;clear b2 y c0 Z I c3 c4 O d1 d2 d3 d4 d5 d6 d7;cases z with
 |false=>
  go_wp2_with fail;refine(jz _).mono ?_;rintro e wA ⟨rfl,L⟩;go_wp2;go_ret;exact⟨rfl,zG.o.trans (L.mono zG.o.size)⟩
 |true=>
  obtain⟨sm,h40,htx⟩:=HZ.o rfl;have S2:aq (yI w2 s p):=⟨sm⟩;have TX:=sH htx;have xh:p.bn<=40:=sm.2.2.1;have R2:=sH (R0.o.Z B2.o B2.o.size);have P2:=sH (P0.o.ar B2.o);have⟨c0,Z,I,c3,c4⟩:=(X1.o.ar B2.o X1.o.lt).c5;have⟨O,d1,d2,d3,d4,d5,d6,d7⟩:=(D.o.ar B2.o D.o.lt).c8;clear sm HZ htx;go_wp2_with fail;refine(afv s p ts w2 R2.o P2.o S2.o).mono ?_;rintro e w3 ⟨A,m,c,R,rm,rc,z,rfl,y,b3⟩;have B3:=B2.t b3;have HZ:=sH y;clear b3 y c0 Z I c3 c4 O d1 d2 d3 d4 d5 d6 d7;have O:w3.cell? ⟨w.heap.size+1,0,none⟩=some (.slice p.T p.tn p.tc):=(D.o.ar B3.o D.o.lt).cell 0;have d3:w3.cell? ⟨w.heap.size+1,3,none⟩=some (ae aj p.dir):=(D.o.ar B3.o D.o.lt).cell 3;have OC:=sH (acI p.T p.tn p.tc p.dir ts w3 (P0.o.ar B3.o).rT ak TX.o.1 TX.o.2.1 TX.o.2.2);go_wp2_with fail;refine OC.o.mono ?_;rintro e K ⟨V,vc,base,rfl,ov,b4⟩;have B4:=B3.t b4;have J:aq (az w3 K):=⟨b4⟩;have o:=B1.t B4.o;have OV:aq (Iw K K.heap.size .i64 aH V p.tn/\p.tn<=vc):=⟨ov.iw,ov.le.1⟩;clear ov b4 O d3 OC;by_cases h0:z=0;rotate_left
  .have Dm:(z !=0)=true:=by simp[h0]
   clear h0 HZ;go_wp2_with fail;refine(jz _).mono ?_;rintro e wA ⟨rfl,L⟩;go_wp2;go_ret;exact⟨rfl,o.o.trans (L.mono o.o.size)⟩
  have y:=HZ.o h0;subst h0;have N:=sH y;clear HZ y;by_cases t1:a<0
  .clear N
   go_wp2_with fail;refine(jz _).mono ?_;rintro e wA ⟨rfl,L⟩;go_wp2;go_ret;exact⟨rfl,o.o.trans (L.mono o.o.size)⟩
  obtain⟨a,rfl⟩:=Int.eq_ofNat_of_zero_le (show 0<=a by omega);have i2:decide ((a:Int)<0)=false:=gW;by_cases t2:b<=(a:Int)
  .clear N t1
   go_wp2_with fail;refine(jz _).mono ?_;rintro e wA ⟨rfl,L⟩;go_wp2;go_ret;exact⟨rfl,o.o.trans (L.mono o.o.size)⟩
  obtain⟨b,rfl⟩:=Int.eq_ofNat_of_zero_le (show 0<=b by omega);have i3:decide ((b:Int)<=(a:Int))=false:=gW;have i3b:decide (b<=a)=false:=gW;by_cases t3:(m:Int)<(b:Int)
  .clear N t1 t2
   go_wp2_with fail;refine(jz _).mono ?_;rintro e wA ⟨rfl,L⟩;go_wp2;go_ret;exact⟨rfl,o.o.trans (L.mono o.o.size)⟩
  have i4:decide ((m:Int)<(b:Int))=false:=gW;have i4b:decide (m<b)=false:=gW;have P4:=sH (P0.o.ar B4.o);have LW:=sH (L0.o.ar B4.o);obtain⟨A2,c2,k,hk,Yi,eW,f,t,qh,fZ,HC,LC⟩:∃(A2:aA) (c2 k:Nat),0<k/\k<=40/\(∀W:ahh,(Instr.slice 34 (.slice A m c) (some (ae aj (a:Int))) (some (ae aj (b:Int))) none).run prog W=.ok (.slice A2 k c2) W)/\∃f t:Nat,f<t/\t<=p.tn/\(∃S eJ,A2=some S/\eJ=S.add ((k-1)*9)/\K.cell? (S.add (0*9))=some (ae aj (f:Int))/\K.cell? (bP eJ 1)=some (ae aj (t:Int)))/\∀W,az K W->ahk prog 8 #[.agg s.row,.agg p.row,.slice R rm rc,.slice A2 k c2,.slice V p.tn vc,ae aj base,ae aj (f:Int),ae aj (t:Int),.bool false,.bool last] W (PLn W ts f t):=by
   obtain⟨xs,rs,Ul,hmc,hmt,hrt,px,rx,ok⟩:=N.o;obtain⟨A2,c2,CR⟩:=sM TPc A m c a b ak ak hmc (a:Int) (b:Int) rfl rfl;have px2:=(CR.pcs (px.Z J.o J.o.size) ak).drop;rw[Nat.zero_add]at px2;have hyl:((xs.drop a).take (b-a)).length=b-a:=Xa;exact⟨A2,c2,b-a,ak,ak,CR.run,T6 P4.o LW.o px2 hyl ak CR.2.1 ak (rx.Z J.o J.o.size) (ok.part a (b-a)) OV.o.1 OV.o.2 h40 xh⟩
  obtain⟨S,eJ,rfl,rfl,e0,e1⟩:=HC;rw[Nat.zero_mul,ri]at e0;have LCS:=sH LC;have uX:(k:Int)-1=((k-1:Nat):Int):=ak;have⟨j,hj⟩:=eY (k-1);rw[hj]at uX e1;have hkj:=aU j k;have EU:=aU 0 k;clear LC N t1 t2 t3 hj;have⟨c0,Z,I,c3,c4⟩:=(X1.o.ar B4.o X1.o.lt).c5;have⟨O,d1,d2,d3,d4,d5,d6,d7⟩:=(D.o.ar B4.o D.o.lt).c8;go_upto_region 8 with fail;have⟨C0,C1,C2,C3,C4,D0,D1,D2⟩:=lc8 c0 Z I c3 c4 O d1 d2;have⟨D3,D4,D5,D6,D7,E0,E1⟩:=lc7 d3 d4 d5 d6 d7 e0 e1;clear c0 Z I c3 c4 O d1 d2 d3 d4 d5 d6 d7 e0 e1;have LC1:aq (∀l:aG K,_):=⟨fun l:aG K=>LCS.o l.1 l.2⟩;refine aS (fun d=>if d=some 91 then some (ZLn ts f t)else if d=some 18 then some (ZX K.heap.size zL)else none) 20 rfl aF aF aF aF aF rfl ?_;refine mLw ?_;refine lwA (ZLn ts f t) (fun l=> ?_) (fun v9 u=> ?_)
  .go_simp
   exact aX (ZLn ts f t) ((LC1.o l).mono fun _ _ h=>h.x)
  obtain⟨_,_,bs0,sh0,M,en,x,wd,C,cc,rfl,-⟩:=u;have⟨n,hn⟩:=eY bs0.length;rw[hn];clear hn bs0 sh0;simp[Act.put];refine mLw ?_;refine lwA (ZX K.heap.size zL) (fun l=> ?_) (fun v9 u=> ?_)
  .go_simp
   exact xe l _ _
  obtain⟨_,_,g,rfl,dW,_⟩:=u;simp[Act.put];intro l hE;have Y:=ZX.get hE.2;obtain⟨xs,e,hbx,hcv,hnt⟩:=ZLn.get hE.1;obtain⟨eD,zt⟩:=Y.heap;refine wp_store_row 44 (.tmp 18) (.tmp 91) rfl g _ rfl rfl eD _ zt tF rfl (Mx _ _ _ _ _ _ _ _ _) ?_;have⟨Q,H⟩:=eX (l.1.setRow g (jL f t M en x wd (.slice C n cc)));have X5:aq (Bx Q g (jL f t M en x wd (.slice C n cc))):=⟨by rw[H];exact Y.row⟩;have BX:aq (uA Q Q.heap.size C n xs):=⟨by
   have gH:Q.heap.size=l.1.heap.size:=by rw[H];simp[World.setRow]
   rw[gH,H];exact hbx.r.row Y _⟩
  have B5:aq (az K Q):=⟨by rw[H];exact below_setRow l.2 dW _⟩;rw[<-H];clear H hE Y zt hbx C0 C1 C2 C3 C4 D0 D1 D2 D3 D4 D5 D6 D7 E0 E1 LC1 LCS eW hkj EU uX hk Yi OV;have Wm:=o.t B5.o;have X6:aq (Bx Q (w.heap.size+1) p.row):=⟨(D.o.ar B4.o D.o.lt).ar B5.o (by have h1:=D.o.lt;have h2:=B4.o.size;omega)⟩;have⟨z,y⟩:=eY (gG ts f t);rw[y]at hcv;have SP:aq (∀W:ahh,az Q W->ahk prog 9 #[.slice p.T p.tn p.tc,ae aj (f:Int),ae aj (t:Int)] W (Bd W z)):=⟨fun W hb=>by rw[<-y];exact GO p.T p.tn p.tc f t ts W ((P4.o.rT.ar B5.o).ar hb) (Nat.le_of_lt qh) fZ ak⟩;have CV:=sH hcv;have HN:aq (n<=40):=⟨ak⟩;have⟨p1,vU⟩:=eY (w.heap.size+1);rw[vU]at X6⊢;clear y hcv vU hnt X1 D B1 R0 P0 L0 B2 S2 R2 P2 B3 J B4 P4 LW TX zG o B5 h40 xh
  try dsimp only
  obtain⟨U,T,-,-,-,-,-,r7⟩:=X5.o.KF;go_wp2;go_loopg[19,21,22](n+1)(fun gg v19 _ _ wr=>∃k:Nat,n-k<gg/\k<=n/\v19=ae aj (e k)/\Q=wr)
  .exact⟨0,ak,ak,by rw[CV.o.e0],rfl⟩
  obtain⟨k,hg,hk,rfl,rfl⟩:=hrel;by_cases F:k<n
  .have HK:aq (n-k<gk/\k<n):=⟨hg,F⟩
   have LT:=CV.o.adI k F;have NX:aq (nW xs (e k) n=e (k+1)/\e k<e (k+1)):=⟨CV.o.nx k F,CV.o.up k F⟩;have⟨nx,hnx⟩:=eY (e (k+1));rw[hnx]at NX;have HE:=sH hnx;clear hnx;generalize e k=at_ at*;clear hg hk F;go_wp2;go_loopg[21,22](n+1)(fun gg v21 v22 wr=>∃i:Nat,n-i<gg/\i<=n/\v21=ae aj (nW xs at_ i)/\v22=ae aj (i:Int)/\Q=wr)
   .exact⟨0,ak,ak,rfl,rfl,rfl⟩
   obtain⟨i,B,hi,rfl,rfl,rfl⟩:=hrel;by_cases r:i<n;rotate_left
   .have ti:i=n:=by omega
    subst ti;have i5:=cv i i;rw[NX.o.1];have ne:(nx==at_)=false:=by have:=NX.o.2;simp;omega
    clear B hi r;go_wp2;have:=HK.o;go_roundg(i-k)
    .exact⟨k+1,ak,ak,by rw[HE.o],rfl⟩
    omega
   obtain⟨S,rfl,-,hc⟩:=BX.o ak;obtain⟨G,gc,c0,Z,-⟩:=hc i r;have i5:=aU i n;have i0:=ie i;have P:aq ((aJ xs i).f=at_->at_<(aJ xs i).t->nW xs at_ (i+1)=(aJ xs i).t):=⟨N8⟩;have NO:aq (¬((aJ xs i).f=at_/\at_<(aJ xs i).t)->nW xs at_ (i+1)=nW xs at_ i):=⟨Th⟩;generalize(aJ xs i).f=bf at*;generalize(aJ xs i).t=bt at*;have⟨n1,qM⟩:=eY (nW xs at_ (i+1));rw[qM]at P NO;have HN1:=sH qM;clear qM;generalize nW xs at_ i=n0 at*;have HI:aq (n-i<gk/\i<n):=⟨B,r⟩;clear hc B hi r;by_cases y1:bf=at_
   .have y2:(bf==at_)=true:=by simp[y1]
    by_cases y3:at_<bt
    .have E:aq (n1=bt):=⟨P.o y1 y3⟩
     clear P NO y1;go_wp2;have:=HI.o;have:=HN.o
     go_roundg(n-i)
     .exact Rm
     omega
    .have E:aq (n1=n0):=⟨NO.o fun h=>y3 h.2⟩
     clear P NO y1;go_wp2;have:=HI.o;have:=HN.o
     go_roundg(n-i)
     .exact Rm
     omega
   .have y2:(bf==at_)=false:=by simp[y1]
    have E:aq (n1=n0):=⟨NO.o fun h=>y1 h.1⟩;clear P NO y1;go_wp2;have:=HI.o;have:=HN.o
    go_roundg(n-i)
    .exact Rm
    omega
  have kQ:k=n:=ak;subst kQ;rw[CV.o.en];have i5:=cv t t;clear hg hk F;go_wp2;go_loopg[20,23,24,25](k+1)(fun gg v20 v23 v24 _ wr=>∃i:Nat,k-i<gg/\i<=k/\v20=ae aj (ahl (IE xs z i))/\v23=ae aj (ahl (Zv xs i))/\v24=ae aj (i:Int)/\aq (az Q wr))
  .exact⟨0,ak,ak,iv Iy.symm,iv Iy.symm,rfl,cA⟩
  clear U T r7;obtain⟨i,B,hi,rfl,rfl,rfl,BE⟩:=hrel;obtain⟨U,T,-,-,-,r5,-,r7⟩:=(X5.o.ar BE.o X5.o.lt).KF;have BWE:=Wm.t BE.o;by_cases r:i<k;rotate_left
  .have ti:i=k:=by omega
   subst ti;rw[CV.o.sg,CV.o.wd];have i7:=cv i i;clear B hi r;go_wp2_with fail;refine(jz _).mono ?_;rintro ea wA ⟨rfl,L⟩;go_wp2;go_ret;exact⟨rfl,BWE.o.trans (L.mono BWE.o.size)⟩
  have HI:aq (k-i<gk/\i<k):=⟨B,r⟩;have i7:=aU i k;have i0:=ie i;obtain⟨S,rfl,-,hc⟩:=(BX.o.Z BE.o BE.o.size) ak;obtain⟨G,gc,c0,Z,c2,c3,c4,c5⟩:=hc i r;have PRE:aq (∀q,q+1=i->wr.cell? (bP (S.add (q*6)) 3)=some (ae aj (aJ xs q).x)/\wr.cell? (bP (S.add (q*6)) 4)=some (ae aj (aJ xs q).wd)/\ahl ((aJ xs q).x+(aJ xs q).wd)=(aJ xs i).x):=⟨fun q hq=>by
   obtain⟨_,_,_,_,_,h3,h4,_⟩:=hc q ak;refine⟨h3,h4, ?_⟩;subst hq;exact CV.o.adj q r⟩
  have SG:=sH (ac2 xs i);have WI:aq ((aJ xs i).f<(z:Int)->_):=⟨fun h=>Zq (xs:=xs) (i:=i) h⟩;have WO:aq (¬(aJ xs i).f<(z:Int)->_):=⟨fun h=>VJ (xs:=xs) (i:=i) h⟩;have⟨sg,hsg⟩:∃v,ahl (Zv xs (i+1))=v:=⟨_,rfl⟩;have⟨wg,X⟩:∃v,ahl (IE xs z (i+1))=v:=⟨_,rfl⟩;rw[hsg]at SG;have HS:=sH hsg;have HW:=sH X;have WI2:aq ((aJ xs i).f<(z:Int)->ahl (ahl (IE xs z i)+(aJ xs i).wd)=wg):=⟨fun h=>by rw[<-X];exact WI.o h⟩;have WO2:aq (¬(aJ xs i).f<(z:Int)->ahl (IE xs z i)=wg):=⟨fun h=>by rw[<-X,WO.o h]⟩;clear hsg X WI WO;generalize ahl (Zv xs i)=s0 at*;generalize ahl (IE xs z i)=g0 at*;generalize(aJ xs i).gs.length=gn at*;generalize aJ xs i=bx at*;have⟨W6,hW6⟩:=eX ((wr:ahh).alloc (.cells #[ae aj bx.f,ae aj bx.t,ae aj bx.lv,ae aj bx.x,ae aj bx.wd,.slice G gn gc] 51));have b6:az wr W6:=by rw[hW6];exact av _ _
  have X7:aq (Bx W6 wr.heap.size #[ae aj bx.f,ae aj bx.t,ae aj bx.lv,ae aj bx.x,ae aj bx.wd,.slice G gn gc]):=⟨by rw[hW6];exact Bx.new _ _ _⟩;have B6:=BE.t b6;have afH:aq (∀q,q+1=i->W6.cell? (bP (S.add (q*6)) 3)=some (ae aj (aJ xs q).x)/\W6.cell? (bP (S.add (q*6)) 4)=some (ae aj (aJ xs q).wd)/\ahl ((aJ xs q).x+(aJ xs q).wd)=bx.x):=⟨fun q hq=>by
   obtain⟨h1,h2,h3⟩:=PRE.o q hq;exact⟨au h1 b6,au h2 b6,h3⟩⟩
  clear hc PRE B r;go_upto_region 25 with fail;rw[<-hW6];clear hW6 b6 c0 Z c2 c3 c4 c5 U T r5 r7;obtain⟨k0,k1,-,k3,k4,-⟩:=X7.o.kN;obtain⟨U,T,-,-,-,-,-,r7⟩:=(X5.o.ar B6.o X5.o.lt).KF;go_cut[167](fun v wx=>v=.bool false/\aq (az W6 wx))
  ·
   have⟨K3,R7⟩:=lc2 k3 r7;rcases Nat.eq_zero_or_pos i with h0|h0
   .subst h0
    clear k0 k1 k3 k4 U T r7;go_wp2;refine mRl ?_;rintro _ ⟨l,rfl⟩;go_wp2;go_meet;exact⟨rfl,⟨l.2⟩⟩
   .obtain⟨q,hq⟩:∃q,q+1=i:=⟨i-1,ak⟩
    obtain⟨h1,h2,h3⟩:=afH.o q hq;have⟨H1,H2⟩:=lc2 h1 h2;have hd:decide ((0:Int)<(i:Int))=true:=gZ;have JG:decide (0<i)=true:=gZ;have Ry:(i:Int)-1=(q:Int):=ak;have hqk:=aU q k;have Yo:=ie q;have wk:ahl (q:Int)=(q:Int):=IntWalk.wrap64_in _ (by have:=HN.o;omega);have dY:(ahl ((aJ xs q).x+(aJ xs q).wd) !=bx.x)=false:=(by simp[h3]);generalize(aJ xs q).x=qx at*;generalize(aJ xs q).wd=qw at*;clear k0 k1 k3 k4 U T r7 h1 h2 h3 h0 i7 i0 hq;go_wp2;refine mRl ?_;rintro _ ⟨l,rfl⟩;go_wp2;go_meet;exact⟨rfl,⟨l.2⟩⟩
  obtain⟨rfl,bq⟩:=hcut;have BC:=B6.t bq.o;obtain⟨k0,k1,-,-,k4,-⟩:=(X7.o.ar bq.o X7.o.lt).kN;obtain⟨U,T,-⟩:=(X5.o.ar BC.o X5.o.lt).KF;have O:wc.cell? ⟨p1,0,none⟩=some (.slice p.T p.tn p.tc):=(X6.o.ar BC.o X6.o.lt).cell 0;have⟨D0,K0,R0,R1⟩:=lc4 O k0 U T;have K4:aq (∀W,az wc W->W.cell? ⟨wr.heap.size,4,none⟩=some (ae aj bx.wd)):=⟨fun W hb=>au k4 hb⟩;have SC:aq (∀l:aG wc,_):=⟨fun l:aG wc=>SP.o l.1 (BC.o.trans (l.2.mono BC.o.size))⟩;go_upto_region 28 with fail;clear O k0 k1 k4 U T;refine aD (kF 183 (·=ae aj (z:Int))) aF aF ?_
  repeat(refine cF aB aB aB ?_;intro K9 di;go_big_quiet_op;go_big_quiet_on)
  refine lsA (·=ae aj (z:Int)) (fun l=> ?_) (fun v9 u=> ?_)
  .go_simp
   exact(SC.o l).mono fun e w' ⟨he,hb⟩=>⟨_,he,rfl,⟨w',l.2.trans (hb.mono l.2.size)⟩,rfl⟩
  have u:v9=ae aj (z:Int):=u;subst u;simp[Act.put]
  repeat(refine cF aB aB aB ?_;intro K9 di;go_big_quiet_op;go_big_quiet_on)
  intro l;have BN:=BC.t l.2;have k4:=K4.o l.1 l.2;rw[SG.o];clear D0 K0 R0 R1 SC;by_cases y:bx.f<(z:Int)
  .have E:aq (ahl (g0+bx.wd)=wg):=⟨WI2.o y⟩
   go_wp2;have:=HI.o;have:=HN.o
   go_roundg(k-i)
   .exact⟨i+1,ak,ak,by rw[HW.o,<-E.o],by rw[HS.o],Xx,BN⟩
   omega
  .have E:aq (g0=wg):=⟨WO2.o y⟩
   go_wp2;have:=HI.o;have:=HN.o
   go_roundg(k-i)
   .exact⟨i+1,ak,ak,by rw[HW.o,<-E.o],by rw[HS.o],Xx,BN⟩
   omega
end Go.Proofs.YtklncadpkniojaaGreatDoor
