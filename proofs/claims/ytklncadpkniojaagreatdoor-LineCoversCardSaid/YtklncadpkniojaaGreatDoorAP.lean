/- Part of LineCovers. -/
import Derived.Test.YtklncadpkniojaaGreatDoorAM
import Derived.Test.YtklncadpkniojaaGreatDoorAL
namespace Go.Proofs.YtklncadpkniojaaGreatDoor
open Go.ChangeShapes Go.WideShapes Go.ChangeAt Go.RowKit Go.Proofs.Tryz
open Go renaming World->ahh,Value->ahj,Calls->ahk,TypeId->ahm,Ending->ahn,Program->aho
open Go.RowKit renaming Below->ahi,wrap64->ahl
open Go.Value renaming int->ae
open Go.IntKind renaming i64->aj
set_option linter.all false
set_option maxRecDepth 100000
set_option maxHeartbeats 16000000
variable{B N c d g i j k m n:Nat}{G:Prop}{a b w w0:ahh}{A C:aA}{e:ahm}{x y:Int}{s:cN}{p:jA}
theorem fh(n lo a:Int)(w:ahh):ahk prog 182 #[ae aj n,ae aj lo,ae aj a] w (PWi w n lo a):=by
 go_enter func182,ntmps182;go_wp2_with fail
 all_goals
  go_ret;exact⟨_,rfl,gZ,rfl⟩
def tZ(ts:aC)(n i:Nat):Prop:=∀k,k<i->k+1<n->(a7 (nth ts k)).iU=11->k+2=n/\nth ts k=13/\nth ts (k+1)=10
theorem tZ.snoc{ts:aC}(h:tZ ts n i)(d:(a7 (nth ts i)).iU=11->i+2=n/\nth ts i=13/\nth ts (i+1)=10):tZ ts n (i+1):=fun k e c a=>by
 rcases Nat.lt_or_ge k i with b|b
 .exact h k b c a
 .obtain rfl:k=i:=by omega
  exact d a
def PO1(w:ahh)(ts:aC)(n:Nat)(e:ahn)(a:ahh):Prop:=∃z:Bool,e=.returned (.bool z)/\(z=true->tZ ts n n)/\az w a
theorem acU(A:aA)(n c:Nat)(ts:aC)(w:ahh)(h:aM .i32 w A n c ts)(M:n<=100000):ahk prog 184 #[.slice A n c] w (PO1 w ts n):=by
 have l:=sH h;go_enter func184,ntmps184;go_wp2;go_loopg[3](n+1)(fun gg v3 wr=>∃(i:Nat),n-i<gg/\i<=n/\v3=ae aj (i:Int)/\aq (az w wr)/\aq (tZ ts n i))
 .exact⟨0,ak,ak,rfl,cA,⟨fun k N=>by omega⟩⟩
 obtain⟨i,H,I,rfl,j,v⟩:=hrel;by_cases B:i+1<n;rotate_left
 .have E:¬(i:Int)+1<(n:Int):=by omega
  have F:aq (tZ ts n n):=⟨fun k h1 b=>v.o k ak b⟩;go_wp2;go_ret;exact⟨_,rfl,fun _=>F.o,j.o⟩
 have E:(i:Int)+1<(n:Int):=ak;have L:=aU i n;obtain⟨K,rfl,u⟩:=(l.o.ar j.o).fP (show i<n by omega);obtain⟨d,m⟩:=vg (l.o.dt (show i<n by omega));have C:=sH (fD (nth ts i) d m wr);have x:=sH v.o.snoc;generalize nth ts i=z at*;go_wp2_with fail;refine callK C.o j fun J y a=> ?_;have u:=au u y;obtain⟨D,t,G⟩:=(l.o.ar a.o).fP (show i+1<n by omega);injection t with t
 subst t;rw[add_succ]at G;generalize nth ts (i+1)=f at*;generalize(a7 z).iU=bd at*;by_cases h1:bd=11;rotate_left
 .have r:(bd==11)=false:=by simp[h1]
  have o:=sH (x.o fun h=>absurd h h1);go_wp2;go_roundg(n-i)
  .exact⟨i+1,ak,ak,aT,a,o⟩
  omega
 have r:(bd==11)=true:=nd;by_cases b:(i:Int)+2=(n:Int);rotate_left
 .have p:((i:Int)+2==(n:Int))=false:=by simp[b]
  go_wp2;go_ret;exact⟨_,rfl,aQ,a.o⟩
 have p:((i:Int)+2==(n:Int))=true:=by simp[b]
 by_cases e:z=13;rotate_left
 .have g:(z==13)=false:=by simp[e]
  go_wp2;go_ret;exact⟨_,rfl,aQ,a.o⟩
 have g:(z==13)=true:=by simp[e]
 by_cases s:f=10;rotate_left
 .have q:(f==10)=false:=by simp[s]
  go_wp2;go_ret;exact⟨_,rfl,aQ,a.o⟩
 have q:(f==10)=true:=by simp[s]
 have o:=sH (x.o fun _=>⟨ak,e,s⟩);go_wp2;go_roundg(n-i)
 .exact⟨i+1,ak,ak,aT,a,o⟩
 omega
def whT(d:Option Tmp):Option (ahj->Prop):=if d=some 21 then some SB else if d=some 29 then some SB else none
theorem WN(s:G:=by
 simp[Act.put]
 refine mSk ?_
 first
  |(intro (nq:aG _);obtain⟨w6,bq⟩:=nq)
  |(rintro w6 ⟨⟨_,bq⟩,rfl⟩)
 have BX:=BE.t bq
 try dsimp only
 go_wp2;go_ret;exact⟨_,rfl,BX.o⟩):G:=s
theorem VQ(A:aA)(n c:Nat)(m:Int)(w:ahh)(h:cK w w.heap.size tz A n c):ahk prog 185 #[.slice A n c,ae aj m] w (PB w):=by
 have RL:=sH h;have M:=h.bd;by_cases G:m<0
 .go_enter func185,ntmps185
  go_wp2;go_ret;exact⟨_,rfl,Below.refl _ _⟩
 go_enter func185,ntmps185;go_wp2;go_loopg[5,6](n+1)(fun gg o x wr=>∃(i:Nat) (z:Int),n-i<gg/\i<=n/\o=ae aj z/\x=ae aj (i:Int)/\aq (az w wr))
 .exact⟨0,0,ak,ak,rfl,rfl,cA⟩
 obtain⟨i,z,E,J,rfl,rfl,BE⟩:=hrel;by_cases d:i<n;rotate_left
 .have u:=cv i n
  go_wp2;go_ret;exact⟨_,rfl,BE.o⟩
 have u:=aU i n;obtain⟨K,y,F,B,rfl,l,v,q⟩:=kB (RL.o.Z BE.o BE.o.size) d;go_wp2_with fail;have⟨L0,L1,p⟩:=lc3 l v q;rcases i with _|k
 .rw[Nat.zero_mul,ew]at L0 L1 p
  refine aD whT aF aF ?_;refine mSk ?_;refine lsA SB (fun nq=> ?_) (fun e a=> ?_)
  .go_simp
   exact⟨_,rfl⟩
  obtain⟨b,rfl⟩:=a;cases b;rotate_left
  .exact WN
  simp[Act.put];refine mSk ?_;refine lsA SB (fun nq=> ?_) (fun e a=> ?_)
  .go_simp
   exact⟨_,rfl⟩
  obtain⟨b,rfl⟩:=a;cases b;rotate_left
  .exact WN
  simp[Act.put];refine mSk ?_
  first
   |(intro (nq:aG _);obtain⟨w6,bq⟩:=nq)
   |(rintro w6 ⟨⟨_,bq⟩,rfl⟩)
  have BX:=BE.t bq
  try dsimp only
  obtain⟨f,_,r,_,eB,_,g,_⟩:=kB (RL.o.Z BX.o BX.o.size) d;injection eB with eB
  subst eB
  try rw[Nat.zero_mul,ew]at g
  go_wp2_with fail
  all_goals first
   |(go_roundg(n-(0))<;>first|omega|exact⟨0+1,_,ak,ak,rfl,aT,BX⟩)
   |(go_ret;exact⟨_,rfl,BX.o⟩)
 .obtain⟨s,D,I,H,j,C,N,g2⟩:=kB (RL.o.Z BE.o BE.o.size) (show k<n by omega)
  injection j with j
  subst j;have wk:IntKind.i64.wrap ((k:Int)+1-1)=(k:Int):=yC;have k0:=ie k;have k1:=aU k n;have L:=aE g2;refine aD whT aF aF ?_;refine mSk ?_;refine lsA SB (fun nq=> ?_) (fun e a=> ?_)
  .go_simp
   exact⟨_,rfl⟩
  obtain⟨b,rfl⟩:=a;cases b;rotate_left
  .exact WN
  simp[Act.put];refine mSk ?_;refine lsA SB (fun nq=> ?_) (fun e a=> ?_)
  .go_simp
   exact⟨_,rfl⟩
  obtain⟨b,rfl⟩:=a;cases b;rotate_left
  .exact WN
  simp[Act.put];refine mSk ?_
  first
   |(intro (nq:aG _);obtain⟨w6,bq⟩:=nq)
   |(rintro w6 ⟨⟨_,bq⟩,rfl⟩)
  have BX:=BE.t bq
  try dsimp only
  obtain⟨f,_,r,_,eB,_,g,_⟩:=kB (RL.o.Z BX.o BX.o.size) d;injection eB with eB
  subst eB
  try rw[Nat.zero_mul,ew]at g
  go_wp2_with fail
  all_goals first
   |(go_roundg(n-(k+1))<;>first|omega|exact⟨k+1+1,_,ak,ak,rfl,aT,BX⟩)
   |(go_ret;exact⟨_,rfl,BX.o⟩)
theorem yy(h:cK w B .str A n c)(g:j<n):∃(a:Addr) (z:ByteArray),A=some a/\a.block<B/\w.cell? (a.add j)=some (.string z)/\z.size<=maxLen:=by
 obtain⟨a,e,f,k⟩:=h.2.2.2 ak;obtain⟨l,⟨z,rfl,i⟩,d⟩:=k j g;have b:=d 0 _ rfl;rw[ew]at b;simp[Ty.n]at b;exact⟨a,z,e,f,b,i⟩
def rR(w:ahh)(s:cN)(j:Nat):Prop:=∀a z,s.P=some a->w.cell? (a.add j)=some (.string z)->z.size<=200
def yI(w:ahh)(s:cN)(p:jA):Prop:=p.tn<=60/\p.sn<=60/\p.bn<=40/\s.fn<=10/\s.yn<=70/\s.pn<=60/\∀j,j<s.pn->rR w s j
def PSm(w:ahh)(s:cN)(p:jA)(e:ahn)(a:ahh):Prop:=∃z:Bool,e=.returned (.bool z)/\(z=true->yI w s p)/\az w a
theorem FO(s:cN)(p:jA)(ts:aC)(w:ahh)(h:gL w w.heap.size s)(n:lh w p ts):ahk prog 10 #[s.v,p.v] w (PSm w s p):=by
 have⟨X,a,c,B,X2⟩:=box2 w s.row 26 p.row 31;have⟨c0,o,b,q,c4⟩:=B.o.c5;have⟨d0,J,d2,d3,d4,U,d6,V⟩:=X2.o.c8;have E:=sH h;have h1:=h.rF.bd;have h2:=h.rY.bd;have h3:=h.rP.bd
 have h4:=Nat.le_trans n.rT.le n.rT.cap;have h5:=n.rS.bd;have h6:=n.rB.bd
 clear h n;by_cases q1:p.tn<=60;rotate_left
 .have l:(60:Int)<(p.tn:Int):=by omega
  go_enter func10,ntmps10;go_wp2_with fail;rw[<-a];clear a;go_wp2;go_ret;exact⟨_,rfl,aQ,c.o⟩
 have J0:¬(60:Int)<(p.tn:Int):=ak;by_cases Q:p.sn<=60;rotate_left
 .have l:(60:Int)<(p.sn:Int):=by omega
  go_enter func10,ntmps10;go_wp2_with fail;rw[<-a];clear a;go_wp2;go_ret;exact⟨_,rfl,aQ,c.o⟩
 have L:¬(60:Int)<(p.sn:Int):=ak;by_cases Z:p.bn<=40;rotate_left
 .have l:(40:Int)<(p.bn:Int):=by omega
  go_enter func10,ntmps10;go_wp2_with fail;rw[<-a];clear a;go_wp2;go_ret;exact⟨_,rfl,aQ,c.o⟩
 have q3':¬(40:Int)<(p.bn:Int):=ak;by_cases q4:s.fn<=10;rotate_left
 .have l:(10:Int)<(s.fn:Int):=by omega
  go_enter func10,ntmps10;go_wp2_with fail;rw[<-a];clear a;go_wp2;go_ret;exact⟨_,rfl,aQ,c.o⟩
 have T:¬(10:Int)<(s.fn:Int):=ak;by_cases q5:s.yn<=70;rotate_left
 .have l:(70:Int)<(s.yn:Int):=by omega
  go_enter func10,ntmps10;go_wp2_with fail;rw[<-a];clear a;go_wp2;go_ret;exact⟨_,rfl,aQ,c.o⟩
 have K:¬(70:Int)<(s.yn:Int):=ak;by_cases P:s.pn<=60;rotate_left
 .have l:(60:Int)<(s.pn:Int):=by omega
  go_enter func10,ntmps10;go_wp2_with fail;rw[<-a];clear a;go_wp2;go_ret;exact⟨_,rfl,aQ,c.o⟩
 have q6':¬(60:Int)<(s.pn:Int):=ak;go_enter func10,ntmps10;go_upto_region 3 with fail;rw[<-a];clear a d0 J d2 d3 d4 U d6 V o q c4;go_wp2;go_loopg[5](s.fn+1)(fun gg v5 wr=>∃(i:Nat),s.fn-i<gg/\i<=s.fn/\v5=ae aj (i:Int)/\aq (az X wr))
 .exact⟨0,ak,ak,rfl,cA⟩
 obtain⟨i,hg,hi,rfl,r⟩:=hrel;have k:=c.t r.o;clear c0 b;have⟨c0,o,b,q,c4⟩:=(B.o.ar r.o B.o.lt).c5;by_cases x:i<s.fn
 .have i4:(i:Int)<(s.fn:Int):=by omega
  obtain⟨W,f,G,D,e0,t,d,O,e4,M⟩:=qI (E.o.Z k.o k.o.size).rF x;rw[G]at c0;have HF:=sH D;clear G D;go_wp2_with fail;refine(Tn f wr HF.o).mono ?_;rintro e w3 ⟨z,rfl,I⟩;have H:=r.t I;clear I e0 t d O e4 M c0 o b q c4;cases z
  .go_wp2
   go_ret;exact⟨_,rfl,aQ,c.o.trans (H.o.mono c.o.size)⟩
  go_wp2;go_roundg(s.fn-i)
  .exact⟨i+1,ak,ak,aT,H⟩
  omega
 have i4:¬(i:Int)<(s.fn:Int):=ak;go_wp2;have⟨Y,g⟩:=eX wr;rw[<-g]at r k b;rw[<-g];clear g c0 o q c4;go_loopg[6](s.pn+1)(fun gg v6 wr=>∃(j:Nat),s.pn-j<gg/\j<=s.pn/\v6=ae aj (j:Int)/\wr=Y/\aq (∀m,m<j->rR w s m))
 .exact⟨0,ak,ak,rfl,rfl,⟨fun m N=>by omega⟩⟩
 obtain⟨j,dw,hj,rfl,rfl,F⟩:=hrel;by_cases C:j<s.pn;rotate_left
 .have i5:¬(j:Int)<(s.pn:Int):=by omega
  have SX:aq (yI w s p):=⟨⟨q1,Q,Z,q4,q5,P,fun m N=>F.o m ak⟩⟩;go_wp2;go_ret;exact⟨_,rfl,fun _=>SX.o,k.o⟩
 have i5:(j:Int)<(s.pn:Int):=ak;obtain⟨adP,z,y,_,v,hz⟩:=yy E.o.rP C;have R:aq (z.size<=200->rR w s j):=⟨fun h W z2 t d=>by
  rw[y]at t;obtain rfl:=Option.some.inj t;rw[v]at d;injection d with d
  injection d with d
  subst d;exact h⟩
 have v:=au v k.o;rw[y]at b;unfold maxLen at hz;clear y;by_cases A:z.size<=200
 .have u:¬(200:Int)<(z.size:Int):=by omega
  have S:=sH (R.o A);go_wp2;go_roundg(s.pn-j)
  .exact⟨j+1,ak,ak,aT,rfl,⟨mS F.o S.o⟩⟩
  omega
 .have u:(200:Int)<(z.size:Int):=by omega
  go_wp2;go_ret;exact⟨_,rfl,aQ,k.o⟩
def UF(w:ahh)(A:aA)(n:Nat)(P:Int->Prop):Prop:=∀j,j<n->∀a v,A=some a->w.cell? (bP (a.add (j*3)) 2)=some (ae aj v)->P v
def PAt(w:ahh)(P:Int->Prop)(e:ahn)(a:ahh):Prop:=∃z:Int,e=.returned (ae aj z)/\(P z∨z=0)/\az w a
theorem acW(A:aA)(n c:Nat)(i:Int)(P:Int->Prop)(w:ahh)(h:cK w w.heap.size tz A n c)(p:UF w A n P):ahk prog 44 #[.slice A n c,ae aj i] w (PAt w P):=by
 have RL:=sH h;have g:=sH p;have u:=h.bd;go_enter func44,ntmps44;go_wp2;go_loopg[5](n+1)(fun gg f wr=>∃(k:Nat),n-k<gg/\k<=n/\f=ae aj (k:Int)/\wr=w)
 .exact⟨0,ak,ak,rfl,rfl⟩
 obtain⟨k,r,v,rfl,rfl⟩:=hrel;by_cases a:k<n;rotate_left
 .have o:=cv k n
  go_wp2;go_ret;exact⟨_,rfl,.inr rfl,Below.refl _ _⟩
 have o:=aU k n;obtain⟨m,e,l,b,rfl,q,x,j⟩:=kB RL.o a;have d:aq (P b):=⟨g.o k a m b rfl j⟩;by_cases t:e<=i
 .by_cases s:i<l
  .go_wp2
   go_ret;exact⟨_,rfl,.inl d.o,Below.refl _ _⟩
  .go_wp2
   go_roundg(n-k)
   .exact⟨k+1,ak,ak,aT,rfl⟩
   omega
 .go_wp2
  go_roundg(n-k)
  .exact⟨k+1,ak,ak,aT,rfl⟩
  omega
theorem Tk:aR prog 28 182 3 24:=bu underlying28 (z:=.agg #[ae aj 0,ae aj 0,ae aj 0]) aF rfl ak ak
theorem Oq.aaZ{Q:aC->Prop}(h:Oq w B e 3 Q (some ⟨g,0,none⟩) n c){j:Nat}(l:j<n):∃a d b:Int,Q [a,d,b]/\w.cell? ⟨g,j*3,none⟩=some (ae aj a)/\w.cell? ⟨g,j*3+1,none⟩=some (ae aj d)/\w.cell? ⟨g,j*3+2,none⟩=some (ae aj b):=by
 obtain⟨k,e,_,m⟩:=h.rq ak ak;obtain rfl:(⟨g,0,none⟩:Addr)=k:=Br;obtain⟨r,i,p,f⟩:=m j l;have key:∀q x,r[q]? =some x->w.cell? ⟨g,j*3+q,none⟩=some (ae aj x):=fun q x o=>by
  have:=f q x o;rwa [aY,bj]at this
 match r,i with
 |[a,d,b],_=>exact⟨a,d,b,p,key 0 _ rfl,key 1 _ rfl,key 2 _ rfl⟩
abbrev ac7(_:aC):Prop:=True
def PJo(w:ahh)(n:Nat)(e:ahn)(a:ahh):Prop:=∃(A:aA) (m c:Nat),m<=n/\e=.returned (.slice A m c)/\Oq a w.heap.size 182 3 ac7 A m c/\az w a
theorem aa4(A:aA)(n c:Nat)(ts:aC)(w:ahh)(h:aM .i64 w A n c ts)(W:n<=100000):ahk prog 101 #[.slice A n c] w (PJo w n):=by
 have F:=sH h;go_enter func101,ntmps101;go_wp2;go_loopg[3,4,5](n+1)(fun gg v3 v4 _ wr=>∃(i m:Nat) (C:aA) (d:Nat),n-i<gg/\i<=n/\m<=i/\v4=ae aj (i:Int)/\v3=.slice C m d/\aq (Oq wr w.heap.size 182 3 ac7 C m d)/\aq (az w wr))
 .exact⟨0,0,none,0,ak,ak,ak,rfl,rfl,⟨Oq.nil _ _ _ _ _⟩,cA⟩
 obtain⟨i,m,C,d,O,T,S,rfl,rfl,a,b⟩:=hrel;have J:=b.o.size;by_cases H:i<n;rotate_left
 .have K:=cv i n
  go_wp2;go_ret;exact⟨_,_,_,ak,rfl,a.o,b.o⟩
 have K:=aU i n;obtain⟨U,z,rfl,Q,y⟩:=(F.o.ar b.o).iw.get (show i<n by omega);rcases m with _|k
 .go_wp2
  go_region;have f:=sH (bC b.o);have v:=sH (a.o.ar (bC (Below.refl _ _)));have I:=au y (bC (Below.refl _ _));have u:=f.o.size;generalize wr.drew=L at*;go_wp2_with (at_builtin;refine jr Tk rfl (.tmp 36) (.tmp 45) rfl rfl (v.o.alloc _) rfl [(i:Int),(i:Int)+1,z] rfl (cg _ _ _ _ _ aQ rfl) trivial ak cw ?_;intro r c8 t j e;have o:=sH j;have x:aq (az w t):=⟨(f.o.alloc ak _).trans e⟩;clear j e);go_roundg(n-i)
  .exact⟨i+1,0+1,r,c8,ak,ak,ak,aT,rfl,o,x⟩
  omega
 obtain⟨g,rfl,q,G⟩:=a.o.form ak;obtain⟨N,P,l,_,R,V,M⟩:=a.o.aaZ (show k<k+1 by omega);have fz:=a.o.fz (k*3+1);by_cases B:l=z
 .have s:(l==z)=true:=by simp[B]
  have E:=sH ((a.o.set (show k<k+1 by omega) (show 1<3 by omega) ((i:Int)+1) (fun _ _ _=>trivial)).ar (bC (Below.refl _ _)));have D:=sH (bC<|b.o.setCell (p:=⟨g,k*3+1,none⟩) q (ae aj ((i:Int)+1)));go_wp2;go_region;go_wp2;go_roundg(n-i)
  .exact⟨i+1,k+1,_,d,ak,ak,ak,aT,rfl,E,D⟩
  omega
 .have s:(l==z)=false:=by simp[B]
  go_wp2;go_region;have f:=sH (bC b.o);have v:=sH (a.o.ar (bC (Below.refl _ _)));have I:=au y (bC (Below.refl _ _));have u:=f.o.size;generalize wr.drew=L at*;go_wp2_with (at_builtin;refine jr Tk rfl (.tmp 36) (.tmp 45) rfl rfl (v.o.alloc _) rfl [(i:Int),(i:Int)+1,z] rfl (cg _ _ _ _ _ aQ rfl) trivial ak cw ?_;intro r c8 t j e;have o:=sH j;have x:aq (az w t):=⟨(f.o.alloc ak _).trans e⟩;clear j e);go_roundg(n-i)
  .exact⟨i+1,(k+1)+1,r,c8,ak,ak,ak,aT,rfl,o,x⟩
  omega
def qJ:Prop:=∀(z:ByteArray) (w:ahh),z.size<=200->ahk prog 113 #[.string z] w fun e a=>∃(A C:aA) (n c m d:Nat) (b:Bool),e=.returned (.tuple #[.slice A n c,.slice C m d,.bool b])/\az w a
def PSe(w:ahh)(s:cN)(e:ahn)(a:ahh):Prop:=∃z:Bool,e=.returned (.bool z)/\(z=true->0<s.yn/\0<s.fn)/\az w a
theorem Ra(s:G:=by
 go_wp2
 go_ret;exact⟨_,rfl,aQ,BH.o⟩):G:=s
theorem IY(hP:qJ)(s:cN)(w:ahh)(h:gL w w.heap.size s)(R:∀j,j<s.pn->rR w s j):ahk prog 92 #[s.v] w (PSe w s):=by
 have⟨O,f,l,p⟩:=box1 w s.row 26;have⟨c0,g,a,o,c4⟩:=p.o.c5;have N:=sH h;have W:=sH R;have h1:=h.rF.bd;have h2:=h.rY.bd;have h3:=h.rP.bd
 clear h R;by_cases B:s.fn=0
 .have G:((s.fn:Int)==0)=true:=by simp[B]
  clear B;go_enter func92,ntmps92;go_upto_region 1 with fail;rw[<-f];clear f;go_wp2;go_ret;exact⟨_,rfl,aQ,l.o⟩
 have G:((s.fn:Int)==0)=false:=pI;by_cases D:s.yn=0
 .have M:((s.yn:Int)==0)=true:=by simp[D]
  clear B D;go_enter func92,ntmps92;go_upto_region 1 with fail;rw[<-f];clear f;go_wp2;go_ret;exact⟨_,rfl,aQ,l.o⟩
 have M:((s.yn:Int)==0)=false:=pI;have X:aq (0<s.yn/\0<s.fn):=⟨⟨ak,ak⟩⟩;clear B D;go_enter func92,ntmps92;go_upto_region 1 with fail;rw[<-f];clear f;go_wp2_with fail;refine(fh _ _ _ _).mono ?_;rintro e r ⟨z,rfl,_,rfl⟩;cases z
 .go_wp2
  go_ret;exact⟨_,rfl,aQ,l.o⟩
 go_wp2_with fail;refine(fh _ _ _ _).mono ?_;rintro e r ⟨z,rfl,_,rfl⟩;cases z
 .go_wp2
  go_ret;exact⟨_,rfl,aQ,l.o⟩
 go_wp2;go_loopg[3,4](s.yn+1)(fun gg v3 _ wr=>∃(i:Nat),s.yn-i<gg/\i<=s.yn/\v3=ae aj (i:Int)/\aq (az O wr))
 .exact⟨0,ak,ak,rfl,cA⟩
 obtain⟨i,hg,hi,rfl,k⟩:=hrel;have q:=l.t k.o;clear c0 g a o c4;have⟨c0,g,a,o,c4⟩:=(p.o.ar k.o p.o.lt).c5;by_cases E:i<s.yn
 .have i4:(i:Int)<(s.yn:Int):=by omega
  obtain⟨ad,H,K,J,I,P,Z,e1,U,V⟩:=zV (N.o.Z q.o q.o.size).rY E;rw[P]at g;clear P;go_upto_region 7 with fail;have⟨u,bU⟩:=eX (wr.alloc (.cells #[ae aj H,ae aj K,ae aj J,ae aj I] 180));have Q:az wr u:=jx;have y:Bx u wr.heap.size #[ae aj H,ae aj K,ae aj J,ae aj I]:=mf;rw[<-bU];have v:u.cell? ⟨wr.heap.size,0,none⟩=some (ae aj H):=y.cell 0;have g1:u.cell? ⟨wr.heap.size,1,none⟩=some (ae aj K):=y.cell 1;have g2:u.cell? ⟨wr.heap.size,2,none⟩=some (ae aj J):=y.cell 2;have g3:u.cell? ⟨wr.heap.size,3,none⟩=some (ae aj I):=y.cell 3;have t:=k.t Q;have BH:=l.t t.o;clear bU Q y c0 g a o c4 Z e1 U V;have⟨c0,g,a,o,c4⟩:=(p.o.ar t.o p.o.lt).c5;clear g a o c4;go_wp2_with fail;refine(fh _ _ _ _).mono ?_;rintro e r ⟨z,rfl,_,rfl⟩;cases z
  .exact Ra
  go_wp2_with fail;refine(fh _ _ _ _).mono ?_;rintro e r ⟨z,rfl,_,rfl⟩;cases z
  .exact Ra
  go_wp2_with fail;refine(gf _ _).mono ?_;rintro e r ⟨z,rfl,rfl⟩;cases z
  .exact Ra
  go_wp2_with fail;refine(fh _ _ _ _).mono ?_;rintro e r ⟨z,rfl,_,rfl⟩;cases z
  .exact Ra
  go_wp2;go_roundg(s.yn-i)
  .exact⟨i+1,ak,ak,aT,t⟩
  omega
 .have i4:¬(i:Int)<(s.yn:Int):=by omega
  go_wp2;clear c0 g a o c4;go_loopg[5](s.pn+1)(fun gg v5 wr=>∃(j:Nat),s.pn-j<gg/\j<=s.pn/\v5=ae aj (j:Int)/\aq (az O wr))
  .exact⟨0,ak,ak,rfl,k⟩
  clear k q;obtain⟨j,Y,hj,rfl,k⟩:=hrel;have q:=l.t k.o;have⟨c0,g,a,o,c4⟩:=(p.o.ar k.o p.o.lt).c5;by_cases x:j<s.pn;rotate_left
  .have i5:¬(j:Int)<(s.pn:Int):=by omega
   go_wp2;go_ret;exact⟨_,rfl,fun _=>X.o,q.o⟩
  have i5:(j:Int)<(s.pn:Int):=ak;obtain⟨L,z,F,hb,v,hz⟩:=yy N.o.rP x;have T:=sH (W.o j x L z F v);have v:=au v q.o;rw[F]at a;clear F hz hb c0 g o c4;go_wp2_with fail;refine(hP z wr T.o).mono ?_;rintro e r ⟨A,C,n,c,m,d,b,rfl,S⟩;have t:=k.t S;have BH:=l.t t.o;clear S v a;cases b
  .exact Ra
  go_wp2;go_roundg(s.pn-j)
  .exact⟨j+1,ak,ak,aT,t⟩
  omega
def vp(a:Nat)(v:Int):Prop:=0<=v/\v<=(a:Int)-1
def Al(w:ahh)(A:aA)(n:Nat):Prop:=∀i,i+1<n->∀a x y,A=some a->w.cell? (a.add (i*2))=some (ae aj x)->w.cell? (a.add ((i+1)*2))=some (ae aj y)->x<y
theorem Al.back(h:Al b A n)(a:az w b):Al w A n:=fun i e f x y g c d=>h i e f x y g (au c a) (au d a)
theorem Al.snoc{a:Addr}(h:Al w A (k+1))(b:A=some a)(f:w.cell? (a.add (k*2))=some (ae aj x))(l:w.cell? (a.add ((k+1)*2))=some (ae aj y))(g:x<y):Al w A (k+2):=fun i m e d j f1 f2 f3=>by
 rw[b]at f1;obtain rfl:=Option.some.inj f1;rcases Nat.lt_or_ge i k with c|c
 .exact h i ak a d j b f2 f3
 .obtain rfl:i=k:=by omega
  rw[f]at f2;rw[l]at f3;injection f2 with f2;injection f2 with _ f2
  injection f3 with f3;injection f3 with _ f3
  omega
def FmF(w:ahh)(s:cN)(p:jA)(ts:aC):Prop:=UF w p.S p.sn (vp s.yn)/\tZ ts p.tn p.tn/\(0<=p.dir/\p.dir<=2)/\Al w p.B p.bn
theorem FmF.back{ts:aC}(h:FmF b s p ts)(a:az w b):FmF w s p ts:=⟨fun j d e v f c=>h.1 j d e v f (au c a),h.2.1,h.2.2.1,h.2.2.2.back a⟩
def PFm(w:ahh)(s:cN)(p:jA)(ts:aC)(e:ahn)(a:ahh):Prop:=∃z:Bool,e=.returned (.bool z)/\(z=true->FmF w s p ts)/\az w a
def SBp(Q:Prop)(v:ahj):Prop:=∃b:Bool,v=.bool b/\(b=true->Q)
theorem DO{N:aG w0}(n lo a:Int):ahk prog 182 #[ae aj n,ae aj lo,ae aj a] N.1 fun e b=>∃v,e=.returned v/\SBp (lo<=n/\n<=a) v/\∃m:aG w0,b=m.1:=by
 refine(fh n lo a N.1).mono ?_;rintro e b ⟨z,rfl,c,rfl⟩;exact⟨_,rfl,⟨z,rfl,c⟩,N,rfl⟩
def SBn(Q:Prop)(v:ahj):Prop:=∃b:Bool,v=.bool b/\(b=false->Q)
def adH(Q:Prop)(d:Option Tmp):Option (ahj->Prop):=if d=some 78 then some SB else if d=some 83 then some SB else if d=some 99 then some (SBn Q)else none
theorem nw{N:aG w0}(n lo b:Int):ahk prog 182 #[ae aj n,ae aj lo,ae aj b] N.1 fun e a=>∃v,e=.returned v/\SB v/\∃m:aG w0,a=m.1:=by
 refine(fh n lo b N.1).mono ?_;rintro e a ⟨z,rfl,_,rfl⟩;exact⟨_,rfl,⟨z,rfl⟩,N,rfl⟩
theorem QH(s:G:=by
 simp[Act.put]
 refine mSk ?_
 first
  |(intro (nq:aG _);obtain⟨w6,bq⟩:=nq)
  |(rintro w6 ⟨⟨_,bq⟩,rfl⟩)
 have BX:=BF.t bq;have BH:=B1.t BX.o
 try dsimp only
 clear bq L1 L2 L3;go_wp2;go_ret;exact⟨_,rfl,aQ,BH.o⟩):G:=s
theorem QG(s:G:=by
 go_wp2
 go_ret;exact⟨_,rfl,aQ,BI.o⟩):G:=s
theorem aaU(s:cN)(p:jA)(ts:aC)(w:ahh)(h:gL w w.heap.size s)(N:lh w p ts)(hn:p.tn<=60):ahk prog 93 #[s.v,p.v] w (PFm w s p ts):=by
 have⟨W,G,B1,X1,q⟩:=box2 w s.row 26 p.row 31;have⟨n,d,c,r,o,g,m,l⟩:=q.o.c8;have R0:=sH h;have D:=sH N;have h2:=h.rY.bd;have h5:=N.rS.bd;have h6:=N.rB.bd
 clear h N;go_enter func93,ntmps93;go_upto_region 1 with fail;rw[<-G];clear G;go_wp2_with fail;refine(acU p.T p.tn p.tc ts W (D.o.ar B1.o).rT ak).mono ?_;rintro e I ⟨z,rfl,ho,A⟩;have HO:=sH ho;clear ho;have B3:=sH A;have BH:=B1.t A;clear A;cases z
 .go_wp2
  go_ret;exact⟨_,rfl,aQ,BH.o⟩
 clear n d c r o g m l;have⟨n,d,c,r,o,g,m,l⟩:=(q.o.ar B3.o q.o.lt).c8;go_wp2_with fail;refine(VQ p.S p.sn p.sc _ I (D.o.ar BH.o).rS).mono ?_;rintro e w4 ⟨z,rfl,A⟩;have Q:=B3.t A;have BI:=BH.t A;clear A B3 BH;cases z
 .exact QG
 clear n d c r o g m l;have⟨n,d,c,r,o,g,m,l⟩:=(q.o.ar Q.o q.o.lt).c8;go_wp2_with fail;refine(fh _ _ _ _).mono ?_;rintro e I ⟨z,rfl,hd,rfl⟩;have HD:=sH hd;clear hd;cases z
 .exact QG
 go_wp2_with fail;refine(fh _ _ _ _).mono ?_;rintro e I ⟨z,rfl,_,rfl⟩;cases z
 .exact QG
 go_wp2_with fail;refine(fh _ _ _ _).mono ?_;rintro e I ⟨z,rfl,_,rfl⟩;cases z
 .exact QG
 go_wp2_with fail;refine(fh _ _ _ _).mono ?_;rintro e I ⟨z,rfl,_,rfl⟩;cases z
 .exact QG
 go_wp2;clear n d c r o g m l;go_loopg[5](p.sn+1)(fun gg v5 wr=>∃(i:Nat),p.sn-i<gg/\i<=p.sn/\v5=ae aj (i:Int)/\aq (az W wr)/\aq (UF w p.S i (vp s.yn)))
 .exact⟨0,ak,ak,rfl,Q,⟨fun j hj=>by omega⟩⟩
 clear Q BI;obtain⟨i,hg,hi,rfl,f,SV⟩:=hrel;have u:=B1.t f.o;have⟨c0,S,aW,c3,c4⟩:=(X1.o.ar f.o X1.o.lt).c5;have⟨n,d,c,r,o,g,m,l⟩:=(q.o.ar f.o q.o.lt).c8;clear c0 aW c3 c4 n c r o g m l;by_cases U:i<p.sn
 .have i4:(i:Int)<(p.sn:Int):=by omega
  obtain⟨ad,B,O,H,eS,e0,e1,E⟩:=kB D.o.rS U;have SN:aq (vp s.yn H->UF w p.S (i+1) (vp s.yn)):=⟨fun h j hj K v Y x=>by
   by_cases R:j<i
   .exact SV.o j R K v Y x
   .obtain rfl:j=i:=by omega
    rw[eS]at Y;obtain rfl:=Option.some.inj Y;rw[E]at x;injection x with x
    injection x with _ x
    subst x;exact h⟩
  have E:=au E u.o;rw[eS]at d;clear eS e0 e1;go_wp2;have⟨L1,L2,L3⟩:=lc3 d S E;clear d S E;refine aD (kF 62 (SBp (0<=H/\H<=(s.yn:Int)-1))) aF aF ?_;refine mSk ?_;refine lsA (SBp (0<=H/\H<=(s.yn:Int)-1)) (fun nq=> ?_) (fun C a=> ?_)
  .go_simp
   exact DO _ _ _
  obtain⟨b,rfl,L⟩:=a;have M:=sH L;clear L;cases b
  .simp[Act.put]
   refine mSk ?_
   first
    |(intro (nq:aG _);obtain⟨w6,bq⟩:=nq)
    |(rintro w6 ⟨⟨_,bq⟩,rfl⟩)
   have BX:=u.t bq
   try dsimp only
   clear bq L1 L2 L3;go_wp2;go_ret;exact⟨_,rfl,aQ,BX.o⟩
  simp[Act.put];refine mSk ?_
  first
   |(intro (nq:aG _);obtain⟨w6,bq⟩:=nq)
   |(rintro w6 ⟨⟨_,bq⟩,rfl⟩)
  have BX:=f.t bq
  try dsimp only
  clear bq L1 L2 L3;go_wp2;go_roundg(p.sn-i)
  .exact⟨i+1,ak,ak,aT,BX,⟨SN.o (by first|exact M.o rfl|exact M.o|simpa[vp]using M.o)⟩⟩
  omega
 .have i4:¬(i:Int)<(p.sn:Int):=by omega
  obtain rfl:i=p.sn:=ak;go_wp2;clear S d;go_loopg[6,7](p.bn+1)(fun gg v6 _ wr=>∃(j:Nat),p.bn-j<gg/\j<=p.bn/\v6=ae aj (j:Int)/\aq (az W wr)/\aq (Al w p.B j))
  .exact⟨0,ak,ak,rfl,f,⟨fun i hi=>by omega⟩⟩
  clear f u;obtain⟨j,dw,hj,rfl,f,TU⟩:=hrel;have u:=B1.t f.o;have⟨n,d,c,r,o,g,m,l⟩:=(q.o.ar f.o q.o.lt).c8;clear n d r o g m l;by_cases Z:j<p.bn;rotate_left
  .have i5:¬(j:Int)<(p.bn:Int):=by omega
   have FF:aq (FmF w s p ts):=⟨⟨SV.o,HO.o aQ,HD.o aQ,fun i hi=>TU.o i ak⟩⟩;go_wp2;go_ret;exact⟨_,rfl,fun _=>FF.o,u.o⟩
  have i5:(j:Int)<(p.bn:Int):=ak;obtain⟨ad,B,O,eB,y,F⟩:=Ot D.o.rB Z;have T0:=sH y;have e0:=au y u.o;have e1:=au F u.o
  clear y F;have EB:=sH eB;rw[eB]at c;clear eB;go_upto_region 12 with fail;have⟨P,bU⟩:=eX (wr.alloc (.cells #[ae aj B,ae aj O] 219));have X:az wr P:=jx;have V:Bx P wr.heap.size #[ae aj B,ae aj O]:=mf;rw[<-bU];have g0:P.cell? ⟨wr.heap.size,0,none⟩=some (ae aj B):=V.cell 0;have g1:P.cell? ⟨wr.heap.size,1,none⟩=some (ae aj O):=V.cell 1;have BF:=f.t X;have c:=au c X;have J:=B1.t BF.o;clear bU X V e0 e1;have⟨L1,L2,L3⟩:=lc3 c g0 g1;clear c g0 g1;rcases j with _|k
  .refine aD (adH (True)) aF aF ?_
   refine mSk ?_;refine lsA SB (fun nq=> ?_) (fun C a=> ?_)
   .go_simp
    exact nw _ _ _
   obtain⟨b,rfl⟩:=a;cases b
   .exact QH
   simp[Act.put];refine mSk ?_;refine lsA SB (fun nq=> ?_) (fun C a=> ?_)
   .go_simp
    exact nw _ _ _
   obtain⟨b,rfl⟩:=a;cases b
   .exact QH
   simp[Act.put];refine mSk ?_
   first
    |(intro (nq:aG _);obtain⟨w6,bq⟩:=nq)
    |(rintro w6 ⟨⟨_,bq⟩,rfl⟩)
   have BX:=BF.t bq;have BH:=B1.t BX.o
   try dsimp only
   clear bq L1 L2 L3;go_wp2;go_roundg(p.bn-0)
   .exact⟨0+1,ak,ak,aT,BX,⟨fun i hi=>by omega⟩⟩
   omega
  .obtain⟨K,y0,y1,T,y,F⟩:=Ot D.o.rB (show k<p.bn by omega)
   have q0:=au y J.o;have q1:=au F J.o
   rw[EB.o]at T;obtain rfl:=Option.some.inj T;have TS:=sH (TU.o.snoc EB.o y T0.o);clear y F;have wk:IntKind.i64.wrap ((k:Int)+1-1)=(k:Int):=yC;have k0:=ie k;have k1:(k:Int)<(p.bn:Int):=ak;have L4:=aE q0;clear q0 q1 T;refine aD (adH (y0<B)) aF aF ?_;refine mSk ?_;refine lsA SB (fun nq=> ?_) (fun C a=> ?_)
   .go_simp
    exact nw _ _ _
   obtain⟨b,rfl⟩:=a;cases b
   .exact QH
   simp[Act.put];refine mSk ?_;refine lsA SB (fun nq=> ?_) (fun C a=> ?_)
   .go_simp
    exact nw _ _ _
   obtain⟨b,rfl⟩:=a;cases b
   .exact QH
   simp[Act.put];refine mSk ?_;refine lsA (SBn (y0<B)) (fun nq=> ?_) (fun C a=> ?_)
   .go_simp
    exact⟨_,rfl,aQ⟩
   obtain⟨b,rfl,L⟩:=a;have M:=sH L;clear L;cases b
   .simp[Act.put]
    refine mSk ?_
    first
     |(intro (nq:aG _);obtain⟨w6,bq⟩:=nq)
     |(rintro w6 ⟨⟨_,bq⟩,rfl⟩)
    have BX:=BF.t bq;have BH:=B1.t BX.o
    try dsimp only
    clear bq L1 L2 L3;go_wp2;go_roundg(p.bn-(k+1))
    .exact⟨k+1+1,ak,ak,aT,BX,⟨TS.o (M.o aQ)⟩⟩
    omega
   .exact QH
theorem Sh.snoc{o:Addr}{f:cY}(h:Sh w B {s with fn:=i})(D:cK w B tO s.F s.fn s.fc)(V:i<s.fn)(y:s.F=some o)(F:Cr w o i f)(M:FOk w B f):Sh w B {s with fn:=i+1}:=fun j E l a=>by
 obtain⟨C,n,z,_⟩:=D.2.2.2 ak;by_cases c:j<i
 .exact h j c l a
 .obtain rfl:j=i:=by simp at E;omega
  rw[y]at a n;obtain rfl:=Option.some.inj a;obtain rfl:=Option.some.inj n;refine⟨z,fun x t=> ?_⟩;obtain⟨p,H,I,q,L,J⟩:=F;obtain⟨k,g,e,m,d,b⟩:=t;rw[p]at k;rw[H]at g;rw[I]at e;rw[q]at m;rw[L]at d;rw[J]at b
  simp at k g e m d b;obtain⟨Q,U,S,R,W,N,T,X,O,P,v,A,K,G,r,u⟩:=x;obtain⟨f0,f1,f2,f3,f4,f5,f6,f7,f8,f9,f10,f11,f12,f13,f14,f15⟩:=f;simp at k g e m d b
  simp_all
theorem rR.ar{c:ahh}(h:rR w s j)(l:cK w w.heap.size .str s.P s.pn s.pc)(m:j<s.pn)(k:az w c):rR c s j:=fun i z e f=>by
 obtain⟨g,n,d,_,b,_⟩:=yy l m;rw[e]at d;obtain rfl:=Option.some.inj d;have a:=au b k;rw[f]at a;injection a with a
 injection a with a
 subst a;exact h i z e b
def XL(w a:ahh)(s:cN)(p:jA)(ts:aC):Prop:=Sh a a.heap.size s/\(0<s.yn/\0<s.fn)/\Cq ts p.tn/\FmF w s p ts
def PCh(w:ahh)(s:cN)(p:jA)(ts:aC)(e:ahn)(a:ahh):Prop:=∃z:Int,e=.returned (ae aj z)/\(z=0->XL w a s p ts)/\az w a
theorem W8(s:G:=by
 go_wp2
 go_ret;exact⟨_,rfl,aQ,BI.o⟩):G:=s
theorem yp(hB:rI)(hP:qJ)(s:cN)(p:jA)(ts:aC)(w:ahh)(h:gL w w.heap.size s)(X:lh w p ts)(hs:yI w s p):ahk prog 37 #[s.v,p.v] w (PCh w s p ts):=by
 have⟨T,u,o,m,y⟩:=box2 w s.row 26 p.row 31;have⟨c0,l,a,n,c4⟩:=m.o.c5;have⟨G,A,J,I,H,B,E,C⟩:=y.o.c8;have q:=sH h;have P:=sH X;obtain⟨t1,t2,t3,t4,t5,t6,t7⟩:=hs;have SL:=sH t7;clear h X t7;go_enter func37,ntmps37;go_upto_region 1 with fail;rw[<-u];clear u;go_wp2_with fail;refine(AR p.T p.tn p.tc ts T (P.o.ar o.o).rT ak).mono ?_;rintro e N ⟨z,rfl,Z,rfl⟩;have HR:=sH Z;clear Z;cases z
 .go_wp2
  go_ret;exact⟨_,rfl,aQ,o.o⟩
 go_wp2;go_loopg[5](s.fn+1)(fun gg v5 wr=>∃(i:Nat),s.fn-i<gg/\i<=s.fn/\v5=ae aj (i:Int)/\aq (az T wr)/\aq (Sh wr wr.heap.size {s with fn:=i}))
 .exact⟨0,ak,ak,rfl,cA,⟨fun j F=>by simp at F⟩⟩
 clear c0 l a n c4 G A J I H B E C;obtain⟨i,hg,hi,rfl,v,k⟩:=hrel;have c:=o.t v.o;have⟨c0,l,a,n,c4⟩:=(m.o.ar v.o m.o.lt).c5;by_cases t:i<s.fn
 .have i4:(i:Int)<(s.fn:Int):=by omega
  obtain⟨ad,f,M,O,V,e1,Q,S,W,R⟩:=qI (q.o.Z c.o c.o.size).rF t;have FC:aq (Cr wr ad i f):=⟨⟨V,e1,Q,S,W,R⟩⟩;have SN:=sH (fun h=>k.o.snoc (q.o.Z c.o c.o.size).rF t M FC.o h);rw[M]at c0;have HF:=sH O;clear M O l a n c4;go_wp2_with fail;refine(US hB f wr HF.o).mono ?_;rintro e N ⟨z,rfl,x,b⟩;have g:=v.t b;have d:=o.t g.o;have D:=sH (fun h=>(SN.o (x h)).Z b b.size);clear x b V e1 Q S W R c0;by_cases r:z=0
  .have L:(z !=0)=false:=by simp[r]
   have F2:=sH (D.o r);clear r;go_wp2;go_roundg(s.fn-i)
   .exact⟨i+1,ak,ak,aT,g,F2⟩
   omega
  .have L:(z !=0)=true:=by simp[r]
   clear r;go_wp2;go_ret;exact⟨_,rfl,aQ,d.o⟩
 .have i4:¬(i:Int)<(s.fn:Int):=by omega
  obtain rfl:i=s.fn:=ak;go_wp2_with fail;refine(IY hP s wr (q.o.Z c.o c.o.size) (fun j F=>(SL.o j F).ar q.o.rP F c.o)).mono ?_;rintro e N ⟨z,rfl,x,b⟩;have g:=v.t b;have d:=o.t g.o;have F3:=sH (k.o.Z b b.size);clear b c0 l a n c4;cases z
  .go_wp2
   go_ret;exact⟨_,rfl,aQ,d.o⟩
  have D:=sH (x rfl);clear x;have⟨c0,l,a,n,c4⟩:=(m.o.ar g.o m.o.lt).c5;have⟨G,A,J,I,H,B,E,C⟩:=(y.o.ar g.o y.o.lt).c8;go_wp2_with fail;refine(aaU s p ts N (q.o.Z d.o d.o.size) (P.o.ar d.o) t1).mono ?_;rintro e w4 ⟨z,rfl,hv,b⟩;have K:=g.t b;have BI:=o.t K.o;have Y:=sH (F3.o.Z b b.size);clear b c0 l a n c4 G A J I H B E C;cases z
  .exact W8
  have U:=sH ((hv rfl).back d.o);clear hv;have CF:aq (XL w w4 s p ts):=⟨⟨Y.o,D.o,HR.o.1 aQ,U.o⟩⟩;have⟨c0,l,a,n,c4⟩:=(m.o.ar K.o m.o.lt).c5;have⟨G,A,J,I,H,B,E,C⟩:=(y.o.ar K.o y.o.lt).c8;clear D U F3 Y g d k v c;have k1:¬(512:Int)<(s.pn:Int):=ak;have k2:¬(4096:Int)<(p.tn:Int):=ak;by_cases q1:(8:Int)<(s.fn:Int)
  .exact W8
  by_cases q2:(64:Int)<(s.yn:Int)
  .exact W8
  by_cases q3:(32:Int)<(p.bn:Int)
  .exact W8
  go_wp2;go_ret;exact⟨_,rfl,fun _=>CF.o,BI.o⟩
theorem yI.ar(h:yI w s p)(g:gL w w.heap.size s)(f:az w a):yI a s p:=by
 obtain⟨m,e,l,d,c,k,i⟩:=h;exact⟨m,e,l,d,c,k,fun j b=>(i j b).ar g.rP b f⟩
theorem yI.back(h:yI a s p)(g:az w a):yI w s p:=by
 obtain⟨n,f,m,e,c,l,k⟩:=h;exact⟨n,f,m,e,c,l,fun j i d z o b=>k j i d z o (au b g)⟩
def MyF(w a:ahh)(s:cN)(p:jA)(ts:aC):Prop:=yI w s p/\XL w a s p ts
def PMy(w:ahh)(s:cN)(p:jA)(ts:aC)(e:ahn)(a:ahh):Prop:=∃z:Bool,e=.returned (.bool z)/\(z=true->MyF w a s p ts)/\az w a
theorem ab4(K:rI)(A:qJ)(s:cN)(p:jA)(ts:aC)(w:ahh)(h:gL w w.heap.size s)(v:lh w p ts):ahk prog 11 #[s.v,p.v] w (PMy w s p ts):=by
 have⟨L,d,f,q,l⟩:=box2 w s.row 26 p.row 31;have⟨c0,B,j,N,c4⟩:=q.o.c5;have⟨D,u,M,F,E,G,y,I⟩:=l.o.c8;have g:=sH h;have r:=sH v;go_enter func11,ntmps11;go_upto_region 1 with fail;rw[<-d];clear d;go_wp2_with fail;refine(FO s p ts L (g.o.Z f.o f.o.size) (r.o.ar f.o)).mono ?_;rintro e C ⟨z,rfl,b,i⟩;have m:=sH i;have a:=f.t m.o;cases z
 .go_wp2
  go_ret;exact⟨_,rfl,aQ,a.o⟩
 have n:=sH (b rfl);have c:=sH (n.o.back f.o);have⟨c0,B,j,N,c4⟩:=(q.o.ar m.o q.o.lt).c5;have⟨D,u,M,F,E,G,y,I⟩:=(l.o.ar m.o l.o.lt).c8;go_wp2_with fail;refine(yp K A s p ts C (g.o.Z a.o a.o.size) (r.o.ar a.o) (c.o.ar g.o a.o)).mono ?_;rintro e x ⟨z,rfl,b,i⟩;have t:=a.t i;have J:aq (z=0->MyF w x s p ts):=⟨fun h=>⟨c.o,(b h).1,(b h).2.1,(b h).2.2.1,(b h).2.2.2.back a.o⟩⟩;by_cases k:z=0
 .have o:(z==0)=true:=by simp[k]
  have H:=sH (J.o k);go_wp2;go_ret;exact⟨_,rfl,fun _=>H.o,t.o⟩
 .have o:(z==0)=false:=by simp[k]
  go_wp2;go_ret;exact⟨_,rfl,aQ,t.o⟩
theorem aaO(a b:Rn)(w:ahh):ahk prog 45 #[.agg a.row,.agg b.row] w (PB w):=by
 have⟨c,d,g,f,e⟩:=box2 w a.row 62 b.row 62;have g2:c.cell? ⟨w.heap.size,2,none⟩=some (ae aj a.lv):=f.o.cell 2;have h:c.cell? ⟨w.heap.size,3,none⟩=some (ae aj a.sp):=f.o.cell 3;have m:c.cell? ⟨w.heap.size,4,none⟩=some (ae aj a.fo):=f.o.cell 4;have i:c.cell? ⟨w.heap.size,5,none⟩=some (ae aj a.st):=f.o.cell 5;have k2:c.cell? ⟨w.heap.size+1,2,none⟩=some (ae aj b.lv):=e.o.cell 2;have k3:c.cell? ⟨w.heap.size+1,3,none⟩=some (ae aj b.sp):=e.o.cell 3;have k4:c.cell? ⟨w.heap.size+1,4,none⟩=some (ae aj b.fo):=e.o.cell 4;have l:c.cell? ⟨w.heap.size+1,5,none⟩=some (ae aj b.st):=e.o.cell 5;go_enter func45,ntmps45;go_upto_region 1 with fail;rw[<-d];clear d;cases k:(a.lv==b.lv)
 .go_wp2
  go_ret;exact⟨_,rfl,g.o⟩
 cases n:(a.sp==b.sp)
 .go_wp2
  go_ret;exact⟨_,rfl,g.o⟩
 cases j:(a.fo==b.fo)
 .go_wp2
  go_ret;exact⟨_,rfl,g.o⟩
 go_wp2;go_ret;exact⟨_,rfl,g.o⟩
def ZS(P:Int->Prop):Sat:=⟨fun v _=>∃z:Int,v=ae aj z/\P z,fun _ _ _ h _=>h⟩
theorem Wc(h:cK w B xE A n c)(i:j<n):∃(a:Addr) (x:Int),A=some a/\Wf .i64 x/\w.cell? (a.add (j*4))=some (ae aj x):=by
 obtain⟨a,e,_,k⟩:=h.2.2.2 ak;obtain⟨m,l,d⟩:=k j i;obtain⟨_,_,rfl,⟨f,rfl,g⟩,_⟩:=l;have b:=d 0 _ rfl;rw[ew]at b;exact⟨a,f,e,g,b⟩
theorem Oq.apart{Q:aC->Prop}(h:Oq w B e k Q A n c)(a:g<B):bM A (some ⟨g,0,none⟩):=by
 obtain⟨gs,d,f,b⟩:=h;exact aw.oB b a
theorem UF.ar{d:ahh}{P:Int->Prop}(h:UF w A n P)(m:cK w w.heap.size tz A n c)(l:az w d):UF d A n P:=fun j f i v b k=>by
 obtain⟨g,o,q,p,e,_,_,g2⟩:=kB m f;rw[b]at e;obtain rfl:=Option.some.inj e;have a:=au g2 l;rw[k]at a;injection a with a
 injection a with _ a
 subst a;exact h j f i _ b g2
theorem Pz(hB:rI)(hP:qJ)(s:cN)(p:jA)(ts:aC)(w:ahh)(h:gL w w.heap.size s)(hp:lh w p ts)(hs:yI w s p):ahk prog 42 #[s.v,p.v] w (PJo w p.tn):=by
 have⟨W1,F,u,Y,X2⟩:=box2 w s.row 26 p.row 31;have⟨c0,N,G,c3,c4⟩:=Y.o.c5;have⟨d0,I,V,U,S,P,d6,Q⟩:=X2.o.c8;have H:=sH h;have M:=sH hp;have S0:=sH hs;have ht:p.tn<=60:=hs.1;have zz:aq ((prog.info? 3).map (·.zero)=some (some (ae aj 0))):=⟨aF⟩;go_enter func42,ntmps42;go_upto_region 1 with fail;rw[<-F];clear F;go_wp2_with fail;refine(yp hB hP s p ts W1 (H.o.Z u.o u.o.size) (M.o.ar u.o) (S0.o.ar H.o u.o)).mono ?_;rintro e n ⟨z,rfl,l,b3⟩;have y:=u.t b3;have B:=sH (Y.o.ar b3 Y.o.lt);have r:=sH (X2.o.ar b3 X2.o.lt);have HZ:aq (z=0->(0<s.yn)/\UF w p.S p.sn (vp s.yn)):=⟨fun h=>⟨(l h).2.1.1,((l h).2.2.2.back u.o).1⟩⟩;by_cases K:z=0;rotate_left
 .have R:(z !=0)=true:=by simp[K]
  go_wp2;go_ret;exact⟨_,_,_,ak,rfl,Oq.nil _ _ _ _ _,y.o⟩
 have R:(z !=0)=false:=by simp[K]
 have hy:=(HZ.o K).1;have SV:=sH ((HZ.o K).2);have⟨c0,N,G,c3,c4⟩:=B.o.c5;have⟨d0,I,V,U,S,P,d6,Q⟩:=r.o.c8;go_upto_region 4 with(refine cS (p:=Wf .i64) lO zz.o cr rfl (.tmp 15) (.tmp 15) rfl p.tn rfl rfl rfl rfl ak n.heap.size bW ?_;intro g w4 o4 b4;have O4:=sH o4;have J:=sH b4;clear o4 b4)
 have mL:=O4.o.lt;have YA:=sH (B.o.ar J.o B.o.lt);have YB:=sH (r.o.ar J.o r.o.lt);have BI:=y.t J.o;have E:=y.o.size;have si:w.heap.size+2<=n.heap.size:=by have:=r.o.lt;omega
 have⟨d0,I,V,U,S,P,d6,Q⟩:=YB.o.c8;go_wp2_with fail;refine(Pt p.T p.tn p.tc ts w4 (M.o.ar BI.o).rT ak).mono ?_;rintro e w5 ⟨C,m,d,hm,rfl,oc,W⟩;have f:=sH oc;have B5:=J.t W;have BJ:=BI.t W;have O5:=sH (O4.o.ar W);obtain⟨ady,eY,_⟩:=H.o.rY.2.2.2 hy;have f:aq (Oq w5 (g+1) 64 2 (VO p.tn) C m d):=⟨f.o.cJ ak⟩;have EY:=sH eY;go_wp2;go_loopg[7,8](m+1)(fun gg v7 _ wr=>∃(i:Nat),m-i<gg/\i<=m/\v7=ae aj (i:Int)/\aq (Ow wr n.heap.size 3 .i64 (Wf .i64) (some ⟨g,0,none⟩) p.tn p.tn)/\aq (az n wr)/\aq (Oq wr (g+1) 64 2 (VO p.tn) C m d))
 .exact⟨0,ak,ak,rfl,O5,B5,f⟩
 obtain⟨i,hg,hi,rfl,D,j,f⟩:=hrel;by_cases v:i<m;rotate_left
 .have i4:=cv i m
  obtain⟨xs,hS⟩:=D.o.sl;have HS:=sH hS;have gH:=j.o.size;have t:=sH (y.o.trans (j.o.mono E));go_wp2_with fail;refine(aa4 _ p.tn p.tn xs wr HS.o ak).mono ?_;rintro e w6 ⟨A6,m6,c6,O,rfl,o6,b6⟩;have o:=sH (o6.cJ (show w.heap.size<=wr.heap.size by omega));have B6:=t.t b6;go_wp2;go_ret;exact⟨_,_,_,O,rfl,o.o,B6.o⟩
 have i4:=aU i m;obtain⟨gc,a,b,rfl,jB,xh,e0,e1⟩:=f.o.cut v;go_wp2;go_loopg[8](p.tn+1)(fun gg v8 wr=>∃(k:Nat),p.tn-k<gg/\k<=p.tn/\v8=ae aj (k:Int)/\aq (Ow wr n.heap.size 3 .i64 (Wf .i64) (some ⟨g,0,none⟩) p.tn p.tn)/\aq (az n wr)/\aq (Oq wr (g+1) 64 2 (VO p.tn) (some ⟨gc,0,none⟩) m d))
 .exact⟨a,ak,ak,rfl,D,j,f⟩
 obtain⟨k,DH,hk,rfl,D,j,f⟩:=hrel;obtain⟨gc2,a2,Z,A,afl,afE,e0,e1⟩:=f.o.cut v;injection A with A
 injection A with A
 subst A;by_cases hkb:k<Z;rotate_left
 .have i5:=cv k Z
  go_wp2;go_roundg(m-i)
  .exact⟨i+1,ak,ak,aT,D,j,f⟩
  omega
 have i5:=aU k Z;have T:k<p.tn:=ak;have t:=sH (y.o.trans (j.o.mono E));have⟨c0,N,G,c3,c4⟩:=(B.o.ar j.o B.o.lt).c5;have⟨d0,I,V,U,S,P,d6,Q⟩:=(r.o.ar j.o r.o.lt).c8;have SW:=sH (SV.o.ar M.o.rS t.o);have PS:=sH ((M.o.ar t.o).rS);have RY:=sH ((H.o.Z t.o t.o.size).rY);rw[EY.o]at N;have i6:(k:Int)<(p.tn:Int):=ak;go_upto_region 11 with fail;have⟨L0,L1,L2⟩:=lc3 N I e0;refine aS (iZ 51 (ZS (vp s.yn))) 16 rfl aF aF aF aF aF rfl ?_;refine mLw ?_;refine lwA (ZS (vp s.yn)) (fun c=> ?_) (fun v9 X=> ?_)
 .go_simp
  refine aX (ZS (vp s.yn)) ((acW p.S p.sn p.sc _ (vp s.yn) c.1 (PS.o.Z c.2 c.2.size) (SW.o.ar PS.o c.2)).mono ?_);rintro e w5 ⟨z,rfl,l,hb⟩;exact⟨_,rfl,⟨z,rfl,by rcases l with h|h;exact h;subst h;exact⟨by omega,by omega⟩⟩,hb⟩
 obtain⟨_,_,z,rfl,l⟩:=X;obtain⟨q,rfl⟩:∃q:Nat,z=q:=⟨z.toNat,by have:=l.1;omega⟩;have hq:q<s.yn:=by have:=l.2;omega
 obtain⟨eJ,x,L,hx,y0⟩:=Wc RY.o hq;rw[EY.o]at L;injection L with L
 subst L;have HX:=sH hx;have L3:=aE y0;have i7:(q:Int)<(s.yn:Int):=ak;simp[Act.put];refine mLw ?_;intro c hE;have o:=sH (D.o.ar c.2);have B6:=j.t c.2;have C6:=sH (f.o.ar c.2);obtain⟨z5,_,e5⟩:=o.o.get T;have f5:=o.o.fz k;have O7:=sH (o.o.set k HX.o);have B7:aq (az n (c.1.setCell ⟨g,k,none⟩ (ae aj x))):=⟨Below.setCell B6.o (p:=⟨g,k,none⟩) o.o.lt.1 _⟩;have C7:aq (Oq (c.1.setCell ⟨g,k,none⟩ (ae aj x)) (g+1) 64 2 (VO p.tn) (some ⟨gc,0,none⟩) m d):=⟨C6.o.mu (C6.o.apart ak) k _⟩;go_simp;go_wp2;go_roundg(p.tn-k)
 .exact⟨k+1,ak,ak,aT,O7,B7,C7⟩
 omega
def Sp3(P:Int->Prop)(r:aC):Prop:=P (nth r 2)
def PSv(w:ahh)(P:Int->Prop)(n:Nat)(e:ahn)(a:ahh):Prop:=∃(A:aA) (m c:Nat),m<=n/\e=.returned (.slice A m c)/\Oq a w.heap.size 182 3 (Sp3 P) A m c/\az w a
theorem acK(A:aA)(n c:Nat)(P:Int->Prop)(w:ahh)(h:Iw w w.heap.size .i64 P A n)(W:n<=100000):ahk prog 100 #[.slice A n c] w (PSv w P n):=by
 have F:=sH h;go_enter func100,ntmps100;go_wp2;go_loopg[3,4](n+1)(fun gg v3 v4 wr=>∃(i m:Nat) (C:aA) (d:Nat),n-i<gg/\i<=n/\m<=i/\(0<i->0<m)/\v4=ae aj (i:Int)/\v3=.slice C m d/\aq (Oq wr w.heap.size 182 3 (Sp3 P) C m d)/\aq (az w wr))
 .exact⟨0,0,none,0,ak,ak,ak,ak,rfl,rfl,⟨Oq.nil _ _ _ _ _⟩,cA⟩
 obtain⟨i,m,C,d,hg,hi,U,N,rfl,rfl,b,a⟩:=hrel;have Q:=a.o.size;by_cases J:i<n;rotate_left
 .have S:=cv i n
  go_wp2;go_ret;exact⟨_,_,_,ak,rfl,b.o,a.o⟩
 have S:=aU i n;obtain⟨H,z,rfl,I,l⟩:=(F.o.Z a.o a.o.size).get (show i<n by omega);rcases i with _|i
 .obtain rfl:m=0:=by omega
  have s:=sH I;go_wp2;go_region
  try clear wk
  have f:=sH (bC a.o);have u:=sH (b.o.ar (bC (Below.refl _ _)));have G:=au l (bC (Below.refl _ _));have t:=f.o.size;generalize wr.drew=T at*;rw[ew]at G;go_wp2_with (at_builtin;refine jr Tk rfl (.tmp 33) (.tmp 42) rfl rfl (u.o.alloc _) rfl [0,1,z] rfl (cg _ _ _ _ _ aQ rfl) s.o ak cw ?_;intro y c8 B j e;have o:=sH j;have v:aq (az w B):=⟨(f.o.alloc ak _).trans e⟩;clear j e);go_roundg(n-0)
  .exact⟨0+1,0+1,y,c8,ak,ak,ak,ak,aT,rfl,o,v⟩
  omega
 obtain⟨m,rfl⟩:∃k,m=k+1:=⟨m-1,ak⟩;obtain⟨R,D,x,_,e1⟩:=(F.o.Z a.o a.o.size).get (show i<n by omega);injection x with x
 subst x;have l:wr.cell? {block:=H.block,off:=H.off+(i+1)}=some (ae aj z):=l;have wk:ahl (i:Int)=(i:Int):=IntWalk.wrap64_in _ ak;have k0:=ie i;have k1:=aU i n;have k2:(0:Int)<(i:Int)+1:=ak;by_cases E:z=D
 .subst E
  obtain⟨g,rfl,q,L⟩:=b.o.form ak;obtain⟨X,x1,x2,_,r0,V,Y⟩:=b.o.aaZ (show m<m+1 by omega);have fz:=b.o.fz (m*3+1);have K:=sH ((b.o.set (show m<m+1 by omega) (show 1<3 by omega) ((i:Int)+1+1) (fun r Z h=>by simpa[Sp3,nth]using h)).ar (bC (Below.refl _ _)));have M:=sH (bC<|a.o.setCell (p:=⟨g,m*3+1,none⟩) q (ae aj ((i:Int)+1+1)));go_wp2;go_region;go_wp2;go_roundg(n-(i+1))
  .exact⟨i+1+1,m+1,_,d,ak,ak,ak,ak,aT,rfl,K,M⟩
  omega
 .have O:(z==D)=false:=by simp[E]
  have s:=sH I;go_wp2;go_region
  try clear wk
  have f:=sH (bC a.o);have u:=sH (b.o.ar (bC (Below.refl _ _)));have G:=au l (bC (Below.refl _ _));have t:=f.o.size;generalize wr.drew=T at*
  skip
  go_wp2_with (at_builtin;refine jr Tk rfl (.tmp 33) (.tmp 42) rfl rfl (u.o.alloc _) rfl [(i:Int)+1,(i:Int)+1+1,z] rfl (cg _ _ _ _ _ aQ rfl) s.o ak cw ?_;intro y c8 B j e;have o:=sH j;have v:aq (az w B):=⟨(f.o.alloc ak _).trans e⟩;clear j e);go_roundg(n-(i+1))
  .exact⟨(i+1)+1,(m+1)+1,y,c8,ak,ak,ak,ak,aT,rfl,o,v⟩
  omega
def afA(d:Option Tmp):Option (ahj->Prop):=if d=some 16 then some SB else if d=some 23 then some SI else none
theorem aeK(s:G:=by
 simp[Act.put]
 refine mSk ?_;intro nq;obtain⟨w6,bq⟩:=nq;have BX:=BE.t bq
 try dsimp only
 go_wp2;go_roundg(n-i)
 .exact⟨i+1,ak,ak,aT,BX⟩
 omega):G:=s
theorem Yh(f:cY)(A:aA)(n c:Nat)(ts:aC)(w:ahh)(h:bZ w w.heap.size f)(k:aM .i32 w A n c ts)(L:n<=100000):ahk prog 191 #[f.v,.slice A n c] w (PB w):=by
 have⟨B,g,d,p⟩:=box1 w f.row 96;have R:=sH (h.Z d.o d.o.size);have T:=sH (k.ar d.o);go_enter func191,ntmps191;go_wp2;rw[<-g];clear g;go_loopg[5](n+1)(fun gg D wr=>∃(i:Nat),n-i<gg/\i<=n/\D=ae aj (i:Int)/\aq (az B wr))
 .exact⟨0,ak,ak,rfl,cA⟩
 obtain⟨i,P,Q,rfl,BE⟩:=hrel;have v:=d.t BE.o;by_cases j:i<n;rotate_left
 .have F:=cv i n
  go_wp2;go_ret;exact⟨_,rfl,v.o⟩
 have F:=aU i n;obtain⟨K,z,rfl,E,C⟩:=(T.o.ar BE.o).iw.get j;obtain⟨m,l⟩:=vg E;have⟨c0,u,o,G,c4,c5⟩:=(p.o.ar BE.o p.o.lt).f6;have⟨L0,L1,H,S,N,J,M⟩:=lc7 c0 u o G c4 c5 C;have r:=sH (R.o.Z BE.o BE.o.size);go_wp2;refine aD afA aF aF ?_;refine mSk ?_;refine lsA SB (fun nq=> ?_) (fun s a=> ?_)
 .go_simp
  exact bg ((uE z m l nq.1).mono fun e O ⟨y,x⟩=>⟨_,y,x⟩)
 obtain⟨b,rfl⟩:=a;cases b
 .exact aeK
 simp[Act.put];refine mSk ?_;refine lsA SI (fun nq=> ?_) (fun s a=> ?_)
 .go_simp
  exact ed (sO f z nq.1 (r.o.Z nq.2 nq.2.size))
 obtain⟨q,rfl⟩:=a;cases I:(q==0)
 .exact aeK
 .simp[Act.put]
  refine mSk ?_;intro nq;obtain⟨w6,bq⟩:=nq;have BX:=BE.t bq
  try dsimp only
  go_wp2;go_ret;exact⟨_,rfl,d.o.trans (BX.o.mono d.o.size)⟩
def pV(z:Int)(n:Nat):Bool:=decide (0<=z)&&decide (z<(n:Int))
theorem pV.t{z:Int}(h:pV z n=true):0<=z/\z<n:=by simpa[pV]using h
theorem Ob(A:aA)(n c:Nat)(z:Int)(w:ahh):ahk prog 190 #[.slice A n c,ae aj z] w fun e b=>e=.returned (.bool (pV z n))/\b=w:=by
 go_enter func190,ntmps190;by_cases d:0<=z
 .by_cases f:z<(n:Int)
  .have a:pV z n=true:=by simp[pV];omega
   rw[a];go_wp2;go_ret;exact⟨rfl,rfl⟩
  .have a:pV z n=false:=by simp[pV];omega
   rw[a];go_wp2;go_ret;exact⟨rfl,rfl⟩
 .have a:pV z n=false:=by simp[pV];omega
  rw[a];go_wp2;go_ret;exact⟨rfl,rfl⟩
def PPk(w:ahh)(n:Nat)(e:ahn)(a:ahh):Prop:=∃z:Int,e=.returned (ae aj z)/\vp n z/\az w a
def pkT(a:Int)(b:Nat)(d:Option Tmp):Option (ahj->Prop):=if d=some 37 then some (fun v=>v=.bool (pV a b))else if d=some 51 then some SI else none
theorem pV.st{z:Int}(h:pV z n=true):vp n z:=⟨(pV.t h).1,by have:=(pV.t h).2;omega⟩
theorem aeP(s:G:=by
 simp[Act.put]
 refine mSk ?_;intro nq;obtain⟨w6,b6⟩:=nq
 try dsimp only
 have B6:=BE.t b6;go_wp2;go_meet;exact⟨⟨_,rfl,Zf⟩,B6⟩):G:=s
theorem abm(F:aA)(a o:Nat)(d:Int)(A:aA)(n c:Nat)(ts:aC)(l:Int)(w:ahh)(h:cK w w.heap.size tO F a o)(k:aM .i32 w A n c ts)(P:n<=100000)(p:0<a)(U:a<=1000):ahk prog 99 #[.slice F a o,ae aj d,.slice A n c,ae aj l] w (PPk w a):=by
 have G:=sH h;have T:=sH k;go_enter func99,ntmps99;go_upto_region 1 with fail;go_cut[20](fun v J=>(∃b:Bool,v=.bool b/\(b=true->vp a d))/\aq (az w J))
 case first=>
  go_wp2_with fail;cases hi:pV d a
  .refine(Ob _ a o d _).mono ?_
   rintro e _ ⟨rfl,rfl⟩;rw[hi];go_wp2;go_meet;exact⟨⟨_,rfl,aQ⟩,cA⟩
  have y:=sH (pV.st hi);obtain⟨j,rfl⟩:∃k:Nat,d=k:=⟨d.toNat,by have:=(pV.t hi).1;omega⟩;have K:j<a:=by have:=(pV.t hi).2;omega
  have O:=aU j a;obtain⟨u,f,rfl,p,D,x,s,B,H,L⟩:=qI G.o K;have z:=sH p;refine(Ob _ a o (j:Int) _).mono ?_;rintro e _ ⟨rfl,rfl⟩;rw[hi];go_wp2_with fail;refine(Yh f A n c ts _ z.o T.o P).mono ?_;rintro e S ⟨b,rfl,I⟩;have g:=sH I;go_wp2;go_meet;exact⟨⟨_,rfl,fun _=>y.o⟩,g⟩
 case rest=>
 obtain⟨⟨b,rfl,M⟩,R⟩:=hcut;have N:=sH M;cases b;rotate_left
 .go_wp2
  go_ret;exact⟨_,rfl,N.o aQ,R.o⟩
 rename ahh=>w1
 go_wp2;go_loopg[9](a+1)(fun gg C wr=>∃(i:Nat),a-i<gg/\i<=a/\C=ae aj (i:Int)/\aq (az w wr))
 .exact⟨0,ak,ak,rfl,R⟩
 obtain⟨i,hg,hi,rfl,BE⟩:=hrel;by_cases E:i<a
 .have W:=aU i a
  obtain⟨u,f,rfl,p,D,x,s,B,H,L⟩:=qI (G.o.Z BE.o BE.o.size) E;have z:=sH p;go_wp2_with fail;refine(Yh f A n c ts wr z.o (T.o.ar BE.o) P).mono ?_;rintro e S ⟨b,rfl,I⟩;have g:=BE.t I;cases b
  .go_wp2
   go_roundg(a-i)
   .exact⟨i+1,ak,ak,aT,g⟩
   omega
  .go_wp2
   go_ret;exact⟨_,rfl,⟨ak,ak⟩,g.o⟩
 have W:=cv i a;go_upto_region 8 with fail;go_cut[53](fun v J=>(∃b:Bool,v=.bool b/\(b=true->pV l a=true))/\aq (az w J))
 case first=>
  refine aD (pkT l a) aF aF ?_;refine mSk ?_;refine lsA (fun v=>v=.bool (pV l a)) (fun nq=> ?_) (fun C m=> ?_)
  .go_simp
   exact(Ob _ a o l nq.1).mono fun e w' ⟨x,s⟩=>⟨_,x,rfl,nq,s⟩
  subst m;cases hi:pV l a
  .exact aeP
  obtain⟨j,rfl⟩:∃k:Nat,l=k:=⟨l.toNat,by have:=(pV.t hi).1;omega⟩;have K:j<a:=by have:=(pV.t hi).2;omega
  have O:=aU j a;obtain⟨u,f,rfl,p,D,x,s,B,H,L⟩:=qI (G.o.Z BE.o BE.o.size) K;have z:=sH p;have⟨L0,L1,X,L3,L4,Z⟩:=lc6 D x s B H L;rcases n with _|n
  .exact aeP
  obtain⟨V,r,rfl,_,Q⟩:=(T.o.ar BE.o).iw.get (show 0<n+1 by omega);rw[ew]at Q;have L6:=aE Q;have Y:(0:Int)<(n:Int)+1:=ak;simp[Act.put];refine mSk ?_;refine lsA SI (fun nq=> ?_) (fun C m=> ?_)
  .go_simp
   exact ed (sO f r nq.1 (z.o.Z nq.2 nq.2.size))
  obtain⟨q,rfl⟩:=m;simp[Act.put];refine mSk ?_;intro nq;obtain⟨w6,b6⟩:=nq
  try dsimp only
  have B6:=BE.t b6;go_wp2;go_meet;exact⟨⟨_,rfl,Zf⟩,B6⟩
 case rest=>
 obtain⟨⟨b,rfl,M⟩,g⟩:=hcut;have N:=sH M;cases b;rotate_left
 .have y:=sH (pV.st (N.o aQ))
  go_wp2;go_ret;exact⟨_,rfl,y.o,g.o⟩
 cases hi:pV d a
 .go_wp2_with fail
  refine(Ob _ a o d _).mono ?_;rintro e _ ⟨rfl,rfl⟩;rw[hi];go_wp2;go_ret;exact⟨_,rfl,⟨ak,ak⟩,g.o⟩
 .have y:=sH (pV.st hi)
  go_wp2_with fail;refine(Ob _ a o d _).mono ?_;rintro e _ ⟨rfl,rfl⟩;rw[hi];go_wp2;go_ret;exact⟨_,rfl,y.o,g.o⟩
theorem GW(r:Int)(w:ahh):ahk prog 243 #[.int .i32 r] w (fun e a=>∃z:Int,e=.returned (.int .i32 z)/\az w a):=by
 go_enter func243,ntmps243;go_wp2_with fail
 all_goals
  go_ret;exact⟨_,rfl,Below.refl _ _⟩
theorem Bf(z:Int)(w:ahh):ahk prog 221 #[ae aj z] w (PI w):=by
 go_enter func221,ntmps221;go_wp2_with fail
 all_goals
  go_ret;exact⟨_,rfl,Below.refl _ _⟩
def JF(e:Int×Int):List ahj:=[ae aj e.1,.int .i32 e.2]
theorem yt(e:Int×Int):(JF e).length=2:=rfl
def Sg(w:ahh)(B N:Nat)(A:aA)(n c:Nat):Prop:=∃a:List (Int×Int),a.length=n/\(∀e∈a,lK N e.1)/\aw w B 238 2 A n c (a.flatMap JF)
theorem Sg.ar(h:Sg w B N A n c)(b:az w a):Sg a B N A n c:=by
 obtain⟨f,d,g,e⟩:=h;exact⟨f,d,g,e.ar b⟩
theorem Sg.at(h:Sg w B N A n c)(f:j<n):∃(g:Nat) (x s:Int),A=some ⟨g,0,none⟩/\lK N x/\w.cell? ⟨g,j*2,none⟩=some (ae aj x)/\w.cell? ⟨g,j*2+1,none⟩=some (.int .i32 s):=by
 obtain⟨a,e,d,b⟩:=h;obtain⟨g,rfl,_⟩:=aw.form b ak;refine⟨g,(a[j]).1,(a[j]).2,rfl,d _ (List.getElem_mem _), ?_, ?_⟩
 .have:=aw.cellAt b (j*2+0) ak
  rwa [iG JF yt a j 0 _ (List.getElem?_eq_getElem ak) ak]at this
 .have:=aw.cellAt b (j*2+1) ak
  rwa [iG JF yt a j 1 _ (List.getElem?_eq_getElem ak) ak]at this
def afo(w:ahh)(n:Nat)(e:ahn)(a:ahh):Prop:=∃z:Int,e=.returned (ae aj z)/\(-1<=z/\z<n)/\az w a
theorem Tz(A:aA)(n c N B:Nat)(r:Int)(w:ahh)(h:Sg w B N A n c)(v:n<=10000):ahk prog 188 #[.slice A n c,.int .i32 r] w (afo w n):=by
 have R:=sH h;have w0:ahl ((n:Int)-1)=(n:Int)-1:=IntWalk.wrap64_in _ ak;go_enter func188,ntmps188;go_wp2;go_loopg[5](n+1)(fun gg l wr=>∃(k:Nat),k<gg/\k<=n/\l=ae aj ((k:Int)-1)/\aq (az w wr))
 .exact⟨n,ak,ak,rfl,cA⟩
 obtain⟨k,t,y,rfl,b⟩:=hrel;rcases k with _|k
 .go_wp2
  go_ret;exact⟨_,rfl,⟨ak,ak⟩,b.o⟩
 have p:(((k+1:Nat):Int)-1)=(k:Int):=ak;rw[p];obtain⟨g,x,s,rfl,_,q,C⟩:=(R.o.ar b.o).at (j:=k) ak;have k0:=ie k;have k1:=aU k n;go_wp2_with fail;refine(GW s wr).mono ?_;rintro e o ⟨z,rfl,a⟩;have m:=b.t a;go_wp2_with fail;refine(GW r o).mono ?_;rintro e u ⟨f,rfl,a⟩;have i:=m.t a;by_cases d:(z==f)=true
 .go_wp2
  go_ret;exact⟨_,rfl,⟨ak,ak⟩,i.o⟩
 have d:(z==f)=false:=by simpa using d
 go_wp2;go_roundg(k+1)
 .exact⟨k,ak,ak,jy,i⟩
 omega
theorem aeq(s:G:=by
 have Yg:(s !=0)=false:=by simpa using Yg
 go_wp2;go_roundg(n+1-i)
 .exact⟨i+1,_,ak,ak,rfl,aT,B2⟩
 omega):G:=s
theorem aeN(s:G:=by
 have Yg:(s !=0)=true:=by simpa using Yg
 go_wp2;go_roundg(n+1-i)
 .exact⟨i+1,_,ak,ak,rfl,aT,B2⟩
 omega):G:=s
theorem acV(A:aA)(n c a b:Nat)(own k:Int)(w:ahh)(h:Iw w w.heap.size .i64 aH A n)(I:a<n)(J:b<n)(K:n<=10000):ahk prog 140 #[.slice A n c,.agg #[ae aj (a:Int),ae aj (b:Int)],ae aj own,ae aj k] w (PI w):=by
 have⟨j,aP⟩:=eX (w.alloc (.cells #[ae aj (a:Int),ae aj (b:Int)] 210));have m:aq (az w j):=⟨qS⟩;have g:aq (Bx j w.heap.size #[ae aj (a:Int),ae aj (b:Int)]):=⟨vz⟩;have R:=sH h;go_enter func140,ntmps140;go_upto_region 1 with fail;rw[<-aP];clear aP;have u:j.cell? ⟨w.heap.size,0,none⟩=some (ae aj (a:Int)):=g.o.cell 0;have y:j.cell? ⟨w.heap.size,1,none⟩=some (ae aj (b:Int)):=g.o.cell 1;go_wp2;have H:ahl ((a:Int)+1)=(a:Int)+1:=IntWalk.wrap64_in _ ak;go_loopg[9,10,11](n+2)(fun gg B v10 _ wr=>∃(i:Nat) (z:Bool),n+1-i<gg/\i<=n/\B=.bool z/\v10=ae aj (i:Int)/\aq (az j wr))
 .exact⟨a+1,_,ak,ak,rfl,jy,cA⟩
 obtain⟨i,z,C,D,rfl,rfl,d⟩:=hrel;have f:=m.t d.o;have u:wr.cell? ⟨w.heap.size,0,none⟩=some (ae aj (a:Int)):=(g.o.ar d.o g.o.lt).cell 0;have y:wr.cell? ⟨w.heap.size,1,none⟩=some (ae aj (b:Int)):=(g.o.ar d.o g.o.lt).cell 1;by_cases o:i<b
 .have q:=aU i b
  obtain⟨F,x,rfl,_,v⟩:=(R.o.Z f.o f.o.size).get (show i<n by omega);have G:=aU i n;go_wp2_with fail;refine(Bf x wr).mono ?_;rintro e E ⟨s,rfl,p⟩;have B2:=d.t p;by_cases hs:(s==own)=true
  .go_wp2
   go_ret;exact⟨_,rfl,m.o.trans (B2.o.mono m.o.size)⟩
  have hs:(s==own)=false:=oP;by_cases Yg:(s==0)=true
  .exact aeq
  .exact aeN
 have q:=cv i b;cases z
 .go_wp2
  go_ret;exact⟨_,rfl,f.o⟩
 go_wp2;go_loopg[12,13,14](n+2)(fun gg r t _ wr=>∃(i:Nat) (z:Int),n+1-i<gg/\i<=n/\r=ae aj z/\t=ae aj (i:Int)/\aq (az j wr))
 .exact⟨0,k,ak,ak,rfl,rfl,d⟩
 obtain⟨i,z,C,D,rfl,rfl,d⟩:=hrel;have f:=m.t d.o;have u:wr.cell? ⟨w.heap.size,0,none⟩=some (ae aj (a:Int)):=(g.o.ar d.o g.o.lt).cell 0;by_cases o:i<a
 .have q:=aU i a
  obtain⟨F,x,rfl,_,v⟩:=(R.o.Z f.o f.o.size).get (show i<n by omega);have G:=aU i n;go_wp2_with fail;refine(Bf x wr).mono ?_;rintro e E ⟨s,rfl,p⟩;have B2:=d.t p;by_cases Yg:(s==0)=true
  .exact aeq
  .exact aeN
 have q:=cv i a;by_cases l:(z==own)=true
 .have l:(z !=own)=false:=by simpa using l
  go_wp2;go_ret;exact⟨_,rfl,f.o⟩
 .have l:(z !=own)=true:=by simpa using l
  go_wp2;go_ret;exact⟨_,rfl,f.o⟩
def PrQ(N:Nat)(g:aC):Prop:=∀x∈g,lK N x
theorem PrQ.set{q:Nat}{g:aC}{v:Int}(h:PrQ N g)(b:lK N v):PrQ N (g.set q v):=fun x a=>by
 rcases List.mem_or_eq_of_mem_set a with a|rfl
 .exact h x a
 .exact b
abbrev mV(w:ahh)(B N:Nat)(A:aA)(n c:Nat):Prop:=Oq w B 210 2 (PrQ N) A n c
theorem mV.at(h:mV w B N A n c)(i:j<n):∃(g:Nat) (x y:Int),A=some ⟨g,0,none⟩/\lK N x/\lK N y/\w.cell? ⟨g,j*2,none⟩=some (ae aj x)/\w.cell? ⟨g,j*2+1,none⟩=some (ae aj y):=by
 obtain⟨f,e,_,k⟩:=h.rq ak ak;obtain⟨g,rfl,_⟩:=h.form ak;obtain rfl:(⟨g,0,none⟩:Addr)=f:=Br;obtain⟨r,d,b,a⟩:=k j i
 match r,d with
 |[x,y],_=>
  refine⟨g,x,y,rfl,b x aQ,b y aQ, ?_, ?_⟩
  .have:=a 0 _ rfl
   rwa [aY,bj]at this
  .have:=a 1 _ rfl
   rwa [aY,bj]at this
theorem mV.set{q:Nat}{v:Int}(h:mV w B N (some ⟨g,0,none⟩) n c)(b:j<n)(a:q<2)(e:lK N v):mV (w.setCell ⟨g,j*2+q,none⟩ (ae aj v)) B N (some ⟨g,0,none⟩) n c:=Oq.set h b a v fun _ _ d=>PrQ.set d e
theorem mV.there(h:mV w B N (some ⟨g,0,none⟩) n c)(d:j<n):w.there g (j*2) 2:=fun i f=>by
 obtain⟨_,x,y,a,_,_,b,e⟩:=mV.at h d;injection a with a
 injection a with a
 subst a;refine⟨?_,Oq.fz h _⟩
 match i,f with
 |0,_=>rw[Nat.add_zero,b];rfl
 |1,_=>rw[e];rfl
theorem mV.row(h:mV w B N (some ⟨g,0,none⟩) n c)(a:j<n)(d:lK N x)(b:lK N y):mV (w.setCells g (j*2) [ae aj x,ae aj y]) B N (some ⟨g,0,none⟩) n c:=
 (h.set (q:=0) a ak d).set (q:=1) a ak b
def PSo(w:ahh)(B N:Nat)(A:aA)(n c:Nat)(e:ahn)(a:ahh):Prop:=e=.returned (.slice A n c)/\mV a B N A n c/\ahi B w a
theorem aby(s:G:=by
 refine aD (fun _=>none) aF aF ?_
 refine mSk ?_
 first
  |(intro (nq:aG _);obtain⟨w6,bq⟩:=nq)
  |(rintro w6 ⟨⟨_,bq⟩,rfl⟩)
 try dsimp only
 go_wp2;go_meet;exact⟨⟨_,rfl,gZ⟩,⟨bq⟩⟩):G:=s
theorem Ak(A:aA)(n c N B:Nat)(w:ahh)(h:mV w B N A n c)(hB:B<=w.heap.size)(hn:n<=10000):ahk prog 189 #[.slice A n c] w (PSo w B N A n c):=by
 have R:=sH h;clear h;go_enter func189,ntmps189;go_wp2;go_loopg[3,4,5](n+2)(fun gg v3 _ _ wr=>∃(i:Nat),n+1-i<gg/\v3=ae aj (i:Int)/\(i<=n∨i=1)/\aq (mV wr B N A n c)/\aq (ahi B w wr))
 .exact⟨1,ak,rfl,ak,R,cA⟩
 clear R;obtain⟨i,hg,rfl,hi,R,m⟩:=hrel;by_cases aK:i<n;rotate_left
 .have i4:=cv i n
  go_wp2;go_ret;exact⟨rfl,R.o,m.o⟩
 have i4:=aU i n;obtain⟨g,rfl,E,_⟩:=R.o.form ak;go_wp2;go_loopg[4,5](n+2)(fun gg v4 _ wr=>∃(k:Nat),k<gg/\k<=i/\v4=ae aj (k:Int)/\aq (mV wr B N (some ⟨g,0,none⟩) n c)/\aq (ahi B w wr))
 .exact⟨i,ak,ak,rfl,R,m⟩
 clear R m;obtain⟨k,DH,hk,rfl,R,m⟩:=hrel;go_upto_region 5 with fail;go_cut[28](fun v wx=>(∃b:Bool,v=.bool b/\(b=true->0<k))/\aq (az wr wx))
 case first=>
  rcases Nat.eq_zero_or_pos k with rfl|S
  .exact aby
  obtain⟨j,C⟩:∃j,j+1=k:=⟨k-1,ak⟩;obtain⟨_,x,y,a,J,G,q,z⟩:=mV.at (R).o (j:=k) ak;injection a with a
  injection a with a
  subst a;obtain⟨_,l,r,a,f,e,t,u⟩:=mV.at (R).o (j:=j) ak;injection a with a
  injection a with a
  subst a;have wk:(k:Int)-1=(j:Int):=ak;have k0:=ie j;have k1:=aU j n;have k3:=aU k n;have HJ:aq (j+1=k):=⟨C⟩;clear C;have k2:=aU 0 k;have⟨L0,L1⟩:=lc2 q t;clear q z t u J G f e HJ;by_cases hl:x<l
  .exact aby
  .exact aby
 case rest=>
 obtain⟨⟨b,rfl,V⟩,O⟩:=hcut
 rename ahh=>w2
 have s:=sH (R.o.ar O.o);have hsr:=m.o.size;have H:aq (ahi B w w2):=⟨m.o.trans (O.o.mono ak)⟩;have X:aq (b=true->0<k):=⟨V⟩;clear V R m O;cases b
 .go_wp2
  go_roundg(n+1-i)
  .exact⟨i+1,ak,aT,ak,s,H⟩
  omega
 have Z:=X.o rfl;obtain⟨j,C⟩:∃j,j+1=k:=⟨k-1,ak⟩;obtain⟨_,x,y,a,J,G,q,z⟩:=mV.at (s).o (j:=k) ak;injection a with a
 injection a with a
 subst a;obtain⟨_,l,r,a,f,e,t,u⟩:=mV.at (s).o (j:=j) ak;injection a with a
 injection a with a
 subst a;have wk:(k:Int)-1=(j:Int):=ak;have k0:=ie j;have k1:=aU j n;have k3:=aU k n;have HJ:aq (j+1=k):=⟨C⟩;clear C;have I:aq (lK N x/\lK N y/\lK N l/\lK N r):=⟨⟨J,G,f,e⟩⟩;clear J G f e X Z;go_upto_region 8 with fail;have⟨p,d⟩:=eX (w2.alloc (.cells #[ae aj x,ae aj y] 210));have bw:az w2 p:=by rw[d];exact av _ _
 have U:aq (Bx p w2.heap.size #[ae aj x,ae aj y]):=⟨by rw[d];exact Bx.new _ _ _⟩;have P:aq (mV p B N (some ⟨g,0,none⟩) n c):=⟨s.o.ar bw⟩;have ij:=H.o.size;have W:aq (ahi B w p):=⟨H.o.trans (bw.mono ak)⟩;have Y:g<w2.heap.size:=s.o.lt.2;have t:=au t bw;have u:=au u bw;have q:=au q bw;have z:=au z bw
 rw[<-d];clear d bw s H;have D:k<n:=Kn;have F:j<n:=Kn;have T:=sH (mV.there P.o D);have L:=sH (mV.row P.o D I.o.2.2.1 I.o.2.2.2);have Q:aq (ahi B w (p.setCells g (k*2) [ae aj l,ae aj r])):=⟨dB E _ _ _ W.o⟩;have K:aq (Bx (p.setCells g (k*2) [ae aj l,ae aj r]) w2.heap.size #[ae aj x,ae aj y]):=⟨Bx.tB ak _ _ U.o⟩;go_upto_region 9 with(refine wpList_store_mid rfl 210 (.tmp 42) (.tmp 41) rfl g (k*2) #[ae aj l,ae aj r] rfl rfl T.o aF dJ ?_)
 have⟨M,o⟩:=eX (p.setCells g (k*2) [ae aj l,ae aj r]);rw[<-o]at L Q K;rw[<-o];clear o P W U T q z t u;have d0:M.cell? ⟨w2.heap.size,0,none⟩=some (ae aj x):=K.o.cell 0;have d1:M.cell? ⟨w2.heap.size,1,none⟩=some (ae aj y):=K.o.cell 1;have T5:=sH (mV.there L.o F);have R5:=sH (mV.row L.o F I.o.1 I.o.2.1);have B5:aq (ahi B w (M.setCells g (j*2) [ae aj x,ae aj y])):=⟨dB E _ _ _ Q.o⟩
 try simp only[Act.put]
 go_wp2_with (refine wpList_store_mid rfl 210 (.tmp 47) (.tmp 46) rfl g (j*2) #[ae aj x,ae aj y] rfl rfl T5.o aF dJ ?_);go_roundg(k)
 .exact⟨j,Kn,Kn,jy,R5,B5⟩
 omega
theorem Pj{size:Nat}{vs:List ahj}{P:aho}{t:ahm}{bytes:Nat}(T:aR P t e size bytes)(h:aw w B e size A n c vs)(r:k<=n)(C:0<n)(l:Int)(d:l=k):
 (∀a:ahh,(Instr.slice t (.slice A n c) none (some (ae aj l)) none).run P a=.ok (.slice A k c) a)/\aw w B e size A k c (vs.take (k*size)):=by
 subst d;have hle:=aw.le h;obtain⟨g,s,i,o⟩:=aw.form h ak;subst s;refine⟨fun a=> ?_, ?_⟩
 .rw[run_slice_h a t _ _ _ (cQ T) .i64 k ak ak,cO T]
  have j:¬c=0:=ak;simp[Result.andThen,sliced,j,Addr.add]
 .have x:k*size<=n*size:=Nat.mul_le_mul_right _ r
  rcases h.2 with⟨b,y⟩|⟨v,cap,cur,b,q,p,z,m,f,u⟩
  .cases b
  .injection b with e1 e2 e3
   refine⟨by rw[List.length_take,h.1];omega,.inr ⟨v,cap,cur,by rw[e1,e3],q,p,ak,m,f, ?_⟩⟩;rw[<-u,List.take_take]
   congr 1
   omega
theorem TOp:aR prog 236 238 2 16:=bu underlying236 (z:=.agg #[ae aj 0,.int .i32 0]) aF rfl ak ak
theorem TPr:aR prog 173 210 2 16:=bu underlying173 (z:=.agg #[ae aj 0,ae aj 0]) aF rfl ak ak
theorem Sg.cut(h:Sg w B N A n c)(m:k<=n)(i:0<n)(l:Int)(f:l=k):(∀b:ahh,(Instr.slice 236 (.slice A n c) none (some (ae aj l)) none).run prog b=.ok (.slice A k c) b)/\Sg w B N A k c:=by
 obtain⟨a,p,o,g⟩:=h;obtain⟨k1,k2⟩:=Pj TOp g m i l f;refine⟨k1,a.take k,Rl,fun e d=>o e (List.mem_of_mem_take d), ?_⟩;have e:(a.flatMap JF).take (k*2)=(a.take k).flatMap JF:=by
  have j:a=a.take k++a.drop k:=(List.take_append_drop k a).symm
  conv=>lhs;rw[j,List.flatMap_append]
  rw[List.take_append_of_le_length Zg,List.take_of_length_le Zg]
 rw[<-e];exact k2
structure KH(w0 w:ahh)(N:Nat)(A:aA)(n c:Nat)(C:aA)(m d:Nat):Prop where
 be:az w0 w
 pr:mV w w0.heap.size N A n c
 op:Sg w w0.heap.size N C m d
theorem KH.ar(h:KH w0 w N A n c C m d)(a:az w b):KH w0 b N A n c C m d:=⟨h.be.trans (a.mono h.be.size),h.pr.ar a,h.op.ar a⟩
theorem KH.Lc{c':Nat}{e:aA}(h:KH w0 w N A n c C m d){gs:List aC}(k1:gs.length=n)(k2:∀g∈gs,g.length=2/\PrQ N g)(k3:aw w w0.heap.size 210 2 A n c (gs.flatMap dk))(i:lK N x/\lK N y)(o:aw a w0.heap.size 210 2 e (n+1) c' (gs.flatMap dk++dk [x,y]))(l:ahi w0.heap.size w a)(k:w.grownBy a (Value.slice A n c).ownBlock):KH w0 a N e (n+1) c' C m d:=by
 obtain⟨p,j,q,b⟩:=h.op;refine⟨h.be.trans l,Oq.more k1 k2 rfl (fun z f=> ?_) o,⟨p,j,q,aw.kept b k (bS b k3 cr) (aw.dK k3)⟩⟩;simp at f;rcases f with rfl|rfl
 .exact i.1
 .exact i.2
theorem KH.Mk{f:ahh}{j:aA}{x:Int×Int}(h:KH w0 w N A n c C m d){b:List (Int×Int)}(k1:b.length=m)(k2:∀e∈b,lK N e.1)(k3:aw w w0.heap.size 238 2 C m d (b.flatMap JF))(q:lK N x.1)(o:aw f w0.heap.size 238 2 j (m+1) i (b.flatMap JF++JF x))(p:ahi w0.heap.size w f)(l:w.grownBy f (Value.slice C m d).ownBlock):KH w0 f N A n c j (m+1) i:=by
 obtain⟨gs,k,r,g⟩:=h.pr;refine⟨h.be.trans p,⟨gs,k,r,aw.kept g l (bS g k3 cr) (aw.dK k3)⟩,⟨b++[x],by simp[k1],fun e a=> ?_,by rw[List.flatMap_append];simpa using o⟩⟩;rcases List.mem_append.1 a with a|a
 .exact k2 e a
 .obtain rfl:=List.mem_singleton.1 a
  exact q
def PPr(w:ahh)(N:Nat)(e:ahn)(a:ahh):Prop:=∃(A:aA) (n c:Nat),n<=N/\e=.returned (.slice A n c)/\mV a w.heap.size N A n c/\az w a
theorem Fx(A C:aA)(n c d:Nat)(ts:aC)(w:ahh)(h:aM .i32 w A n c ts)(k:Iw w w.heap.size .i64 aH C n)(hn:n<=10000):ahk prog 95 #[.slice A n c,.slice C n d] w (PPr w n):=by
 have R:=sH h;have S:=sH k;go_enter func95,ntmps95;go_wp2;go_loopg[5,6,7,8,9](n+1)(fun gg v5 v6 v7 _ _ wr=>∃(i q m:Nat) (D E:aA) (j b:Nat),n-i<gg/\i<=n/\q<=i/\m<=i/\v5=.slice D q j/\v6=.slice E m b/\v7=ae aj (i:Int)/\aq (KH w wr n D q j E m b))
 .exact⟨0,0,0,none,none,0,0,ak,ak,ak,ak,rfl,rfl,rfl,⟨⟨Below.refl _ _,Oq.nil _ _ _ _ _,[],rfl,aQ,aw.nil _ _ _ _⟩⟩⟩
 obtain⟨i,q,m,D,E,j,b,hg,hi,hq,hm,rfl,rfl,rfl,P⟩:=hrel;by_cases l:i<n;rotate_left
 .have i4:=cv i n
  have o:=P;go_wp2_with fail;refine(Ak _ _ _ n w.heap.size _ o.o.pr o.o.be.size ak).mono ?_;rintro e w9 ⟨rfl,o9,U⟩;have Y:=sH o9;have B9:=sH (o.o.be.trans U);go_wp2;go_ret;exact⟨_,_,_,ak,rfl,Y.o,B9.o⟩
 have i4:=aU i n;obtain⟨ad,z,rfl,hz,e0⟩:=(R.o.ar P.o.be).iw.get l;obtain⟨Z,W⟩:=vg hz;have OF:=sH (fD z Z W wr);go_wp2_with fail;refine OF.o.mono ?_;rintro e H ⟨rfl,b2⟩;have P2:=sH (P.o.ar b2);generalize a7 z=p at*;go_upto_region 9 with fail;have⟨K,f⟩:=eX (H.alloc (.cells #[ae aj p.iU,ae aj p.bN,ae aj p.wY,ae aj p.script,ae aj p.join,ae aj p.word,.int .i32 p.fg,.int .i32 p.pair,.bool p.opens] 87));have a:aq (KH w K n D q j E m b):=⟨by rw[f];exact P2.o.ar (av _ _)⟩;have V:aq (Bx K H.heap.size #[ae aj p.iU,ae aj p.bN,ae aj p.wY,ae aj p.script,ae aj p.join,ae aj p.word,.int .i32 p.fg,.int .i32 p.pair,.bool p.opens]):=⟨by rw[f];exact Bx.new _ _ _⟩;rw[<-f];clear f;have d7:K.cell? ⟨H.heap.size,7,none⟩=some (.int .i32 p.pair):=V.o.cell 7;have d8:K.cell? ⟨H.heap.size,8,none⟩=some (.bool p.opens):=V.o.cell 8;generalize H.heap.size=r at*;obtain⟨adc,x,rfl,_,f0⟩:=(S.o.Z a.o.be a.o.be.size).get l;obtain⟨eJ,z2,X,_,e0⟩:=(R.o.ar a.o.be).iw.get l;injection X with X
 subst X;have HI:aq (lK n (i:Int)):=⟨⟨ak,ak⟩⟩;by_cases O:(x==14)=true;rotate_left
 .have O:(x !=14)=true:=by simpa using O
  go_wp2;go_roundg(n-i)
  .exact⟨i+1,q,m,D,E,j,b,ak,ak,ak,ak,rfl,rfl,aT,a⟩
  omega
 have O:(x !=14)=false:=by simpa using O
 by_cases hp:(p.pair==0)=true
 .go_wp2
  go_roundg(n-i)
  .exact⟨i+1,q,m,D,E,j,b,ak,ak,ak,ak,rfl,rfl,aT,a⟩
  omega
 have hp:(p.pair==0)=false:=QV;cases Q:p.opens;rotate_left
 .rw[Q]at d8
  by_cases N:(m:Int)=63
  .have I:((m:Int)==63)=true:=by simp[N]
   have o:=a;go_wp2_with fail;refine(Ak _ _ _ n w.heap.size _ o.o.pr o.o.be.size ak).mono ?_;rintro e w9 ⟨rfl,o9,U⟩;have Y:=sH o9;have B9:=sH (o.o.be.trans U);go_wp2;go_ret;exact⟨_,_,_,ak,rfl,Y.o,B9.o⟩
  have I:((m:Int)==63)=false:=by simpa using N
  obtain⟨es,k1,k2,k3⟩:=a.o.op;have F:=sH k3;have v:aq (es.length=m/\∀e∈es,lK n e.1):=⟨⟨k1,k2⟩⟩;have gH:=a.o.be.size;go_wp2_with (at_builtin;refine br TOp rfl (.tmp 41) (.tmp 48) rfl rfl (aw.alloc F.o _) rfl (news:=JF ((i:Int),z2)) rfl (lZ _ (JF ((i:Int),z2)) _) (fun u G=>by simp[JF]at G;rcases G with rfl|rfl<;>rfl) ak cw ?_;intro T c8 w8 M t r _;have B:=sH ((a.o.ar (av _ _)).Mk v.o.1 v.o.2 (aw.alloc F.o _) HI.o M t r);clear M t r);go_roundg(n-i)
  .exact⟨i+1,q,m+1,D,T,j,c8,ak,ak,ak,ak,rfl,rfl,aT,B⟩
  omega
 rw[Q]at d8;have X4:=V;go_wp2_with fail;refine(Tz E m b n w.heap.size p.pair K a.o.op ak).mono ?_;rintro e w4 ⟨k,rfl,hk,b4⟩;have L:=sH (a.o.ar b4);by_cases EU:0<=k;rotate_left
 .go_wp2
  go_roundg(n-i)
  .exact⟨i+1,q,m,D,E,j,b,ak,ak,ak,ak,rfl,rfl,aT,L⟩
  omega
 obtain⟨k,rfl⟩:∃k':Nat,k=k':=⟨k.toNat,ak⟩;obtain⟨_,XY⟩:=hk;have J:k<m:=ak;obtain⟨ge,y,s,rfl,hy,e0,e1⟩:=L.o.op.at J;obtain⟨gs,k1,k2,k3⟩:=L.o.pr;have F:=sH k3;have v:aq (gs.length=q/\∀g∈gs,g.length=2/\PrQ n g):=⟨⟨k1,k2⟩⟩;have HY:=sH hy;have gH:=L.o.be.size;go_upto_region 16 with(at_builtin;refine br TPr rfl (.tmp 56) (.tmp 64) rfl rfl (aw.alloc F.o _) rfl (news:=dk [y,(i:Int)]) rfl (lZ _ (dk [y,(i:Int)]) _) (fun u G=>by simp[dk]at G;rcases G with rfl|rfl<;>rfl) ak cw ?_;intro T c8 w8 M t r _;have B:=sH ((L.o.ar (av _ _)).Lc v.o.1 v.o.2 (aw.alloc F.o _) ⟨HY.o,HI.o⟩ M t r);clear M t r)
 obtain⟨eW,Q⟩:=B.o.op.cut (show k<=m by omega) ak (k:Int) rfl;have P9:aq (KH w w8 n T (q+1) c8 (some ⟨ge,0,none⟩) k b):=⟨⟨B.o.be,B.o.pr,Q⟩⟩;go_wp2;go_roundg(n-i)
 .exact⟨i+1,q+1,k,T,_,c8,b,ak,ak,ak,ak,rfl,rfl,aT,P9⟩
 omega
end Go.Proofs.YtklncadpkniojaaGreatDoor
