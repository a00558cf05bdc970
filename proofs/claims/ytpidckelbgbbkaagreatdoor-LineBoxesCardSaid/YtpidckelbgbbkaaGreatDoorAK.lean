/- Part of LineBoxes. -/
import Derived.Test.YtpidckelbgbbkaaGreatDoorAI
import Derived.Test.YtpidckelbgbbkaaGreatDoorAJ
namespace Go.Proofs.YtpidckelbgbbkaaGreatDoor
open Go.ChangeShapes Go.WideShapes Go.ChangeAt Go.RowKit Go.Proofs.Tryz
open Go.Value renaming int → ae
open Go.IntKind renaming i64 → aj
set_option linter.all false
set_option maxRecDepth 100000
set_option maxHeartbeats 16000000
variable{a b w w0:World}{B N c d g j k m n q:Nat}{e:TypeId}{Q:aE->Prop}{G:Prop}{A C:aC}{x y:Int}{s:cX}{p:jW}{P:Int->Prop}
def TR(w:World)(A:aC)(n:Nat)(P:Int->Prop):Prop:=∀j,j<n->∀a v,A=some a->w.cell? (bW (a.add (j*3)) 2)=some (ae aj v)->P v
def PAt(w:World)(P:Int->Prop)(e:Ending)(a:World):Prop:=∃z:Int,e= .returned (ae aj z)/\(P z∨z=0)/\aA w a
theorem abS(A:aC)(n c:Nat)(i:Int)(P:Int->Prop)(w:World)(h:cM w w.heap.size vu A n c)(q:TR w A n P):Calls prog 45 #[.slice A n c,ae aj i] w (PAt w P):=by
 have l:=sH h;have o:=sH q;have v:=h.bd;go_enter func45,ntmps45;go_wp2;go_loopg [5] (n+1) (fun gg m wr=>∃(k:Nat),n-k<gg/\k<=n/\m=ae aj (k:Int)/\wr=w)
 ·exact⟨0,aq,aq,rfl,rfl⟩
 obtain⟨k,r,t,rfl,rfl⟩:=hrel;by_cases a:k<n;rotate_left
 ·have e:=cF k n
  go_wp2;go_ret;exact⟨_,rfl, .inr rfl,Below.refl _ _⟩
 have e:=aR k n;obtain⟨g,f,d,b,rfl,u,x,j⟩:=kj l.o a;have p:ak (P b):=⟨o.o k a g b rfl j⟩;by_cases y:f<=i
 ·by_cases s:i<d
  ·go_wp2
   go_ret;exact⟨_,rfl, .inl p.o,Below.refl _ _⟩
  ·go_wp2
   go_roundg (n-k)
   ·exact⟨k+1,aq,aq,aQ,rfl⟩
   omega
 ·go_wp2
  go_roundg (n-k)
  ·exact⟨k+1,aq,aq,aQ,rfl⟩
  omega
theorem Rj:aS prog 28 163 3 24:=bD underlying28 (z:= .agg #[ae aj 0,ae aj 0,ae aj 0]) aF rfl aq aq
theorem Oq.ZH(h:Oq w B e 3 Q (some ⟨g,0,none⟩) n c){j:Nat}(m:j<n):∃b a d:Int,Q [b,a,d]/\w.cell? ⟨g,j*3,none⟩=some (ae aj b)/\w.cell? ⟨g,j*3+1,none⟩=some (ae aj a)/\w.cell? ⟨g,j*3+2,none⟩=some (ae aj d):=by
 obtain⟨k,e,_,i⟩:=h.rq aq aq;obtain rfl:(⟨g,0,none⟩:Addr)=k:=Bm;obtain⟨r,f,o,p⟩:=i j m;have key:∀q x,r[q]? =some x->w.cell? ⟨g,j*3+q,none⟩=some (ae aj x):=fun q x l=>by
  have:=p q x l;rwa [bm,bB]at this
 match r,f with
 |[b,a,d],_=>exact⟨b,a,d,o,key 0 _ rfl,key 1 _ rfl,key 2 _ rfl⟩
abbrev abF(_:aE):Prop:=True
def PJo(w:World)(n:Nat)(e:Ending)(a:World):Prop:=∃(A:aC) (m c:Nat),m<=n/\e= .returned (.slice A m c)/\Oq a w.heap.size 163 3 abF A m c/\aA w a
theorem Yt(A:aC)(n c:Nat)(ts:aE)(w:World)(h:aL .i64 w A n c ts)(T:n<=100000):Calls prog 96 #[.slice A n c] w (PJo w n):=by
 have K:=sH h;go_enter func96,ntmps96;go_wp2;go_loopg [3,4,5] (n+1) (fun gg v3 v4 _ wr=>∃(i m:Nat) (C:aC) (d:Nat),n-i<gg/\i<=n/\m<=i/\v4=ae aj (i:Int)/\v3= .slice C m d/\ak (Oq wr w.heap.size 163 3 abF C m d)/\ak (aA w wr))
 ·exact⟨0,0,none,0,aq,aq,aq,rfl,rfl,⟨Oq.nil _ _ _ _ _⟩,cB⟩
 obtain⟨i,m,C,d,S,V,W,rfl,rfl,a,b⟩:=hrel;have E:=b.o.size;by_cases F:i<n;rotate_left
 ·have D:=cF i n
  go_wp2;go_ret;exact⟨_,_,_,aq,rfl,a.o,b.o⟩
 have D:=aR i n;obtain⟨Q,z,rfl,N,B⟩:=(K.o.ar b.o).iw.get (show i<n by omega);rcases m with _|k
 ·go_wp2
  go_region;have e:=sH (bL b.o);have v:=sH (a.o.ar (bL (Below.refl _ _)));have I:=au B (bL (Below.refl _ _));have r:=e.o.size;generalize wr.drew=J at*;go_wp2_with (at_builtin;refine bU Rj rfl (.tmp 36) (.tmp 45) rfl rfl (v.o.alloc _) rfl [(i:Int),(i:Int)+1,z] rfl (cJ _ _ _ _ _ aD rfl) trivial aq cA ?_;intro q c8 t f j;have s:=sH f;have u:ak (aA w t):=⟨(e.o.alloc aq _).trans j⟩;clear f j);go_roundg (n-i)
  ·exact⟨i+1,0+1,q,c8,aq,aq,aq,aQ,rfl,s,u⟩
  omega
 obtain⟨g,rfl,o,G⟩:=a.o.form aq;obtain⟨P,M,x,_,U,R,O⟩:=a.o.ZH (show k<k+1 by omega);have fz:=a.o.fz (k*3+1);by_cases y:x=z
 ·have l:(x==z)=true:=by simp[y]
  have H:=sH ((a.o.set (show k<k+1 by omega) (show 1<3 by omega) ((i:Int)+1) (fun _ _ _=>trivial)).ar (bL (Below.refl _ _)));have L:=sH (bL<|b.o.setCell (p:=⟨g,k*3+1,none⟩) o (ae aj ((i:Int)+1)));go_wp2;go_region;go_wp2;go_roundg (n-i)
  ·exact⟨i+1,k+1,_,d,aq,aq,aq,aQ,rfl,H,L⟩
  omega
 ·have l:(x==z)=false:=by simp[y]
  go_wp2;go_region;have e:=sH (bL b.o);have v:=sH (a.o.ar (bL (Below.refl _ _)));have I:=au B (bL (Below.refl _ _));have r:=e.o.size;generalize wr.drew=J at*;go_wp2_with (at_builtin;refine bU Rj rfl (.tmp 36) (.tmp 45) rfl rfl (v.o.alloc _) rfl [(i:Int),(i:Int)+1,z] rfl (cJ _ _ _ _ _ aD rfl) trivial aq cA ?_;intro q c8 t f j;have s:=sH f;have u:ak (aA w t):=⟨(e.o.alloc aq _).trans j⟩;clear f j);go_roundg (n-i)
  ·exact⟨i+1,(k+1)+1,q,c8,aq,aq,aq,aQ,rfl,s,u⟩
  omega
def qI:Prop:=∀(z:ByteArray) (w:World),z.size<=200->Calls prog 108 #[.string z] w fun e a=>∃(A C:aC) (n c m d:Nat) (b:Bool),e= .returned (.tuple #[.slice A n c, .slice C m d, .bool b])/\aA w a
def PSe(w:World)(s:cX)(e:Ending)(a:World):Prop:=∃z:Bool,e= .returned (.bool z)/\(z=true->0<s.yn/\0<s.fn)/\aA w a
theorem Pf(s:G:=by
 go_wp2
 go_ret;exact⟨_,rfl,aD,BH.o⟩):G:=s
theorem Jj(hP:qI)(s:cX)(w:World)(h:ix w w.heap.size s)(S:∀j,j<s.pn->rk w s j):Calls prog 79 #[s.v] w (PSe w s):=by
 obtain⟨O,f,o,p⟩:=box1 w s.row 26;obtain⟨c0,k,a,l,c4⟩:=p.o.c5;have R:=sH h;have X:=sH S;have h1:=h.rF.bd;have h2:=h.rY.bd;have h3:=h.rP.bd
 clear h S;by_cases B:s.fn=0
 ·have D:((s.fn:Int)==0)=true:=by simp[B]
  clear B;go_enter func79,ntmps79;go_upto_region 1 with fail;rw[<-f];clear f;go_wp2;go_ret;exact⟨_,rfl,aD,o.o⟩
 have D:((s.fn:Int)==0)=false:=pM;by_cases H:s.yn=0
 ·have L:((s.yn:Int)==0)=true:=by simp[H]
  clear B H;go_enter func79,ntmps79;go_upto_region 1 with fail;rw[<-f];clear f;go_wp2;go_ret;exact⟨_,rfl,aD,o.o⟩
 have L:((s.yn:Int)==0)=false:=pM;have FF:ak (0<s.yn/\0<s.fn):=⟨⟨aq,aq⟩⟩;clear B H;go_enter func79,ntmps79;go_upto_region 1 with fail;rw[<-f];clear f;go_wp2_with fail;refine(fu _ _ _ _).mono ?_;rintro e r ⟨z,rfl,_,rfl⟩;cases z
 ·go_wp2
  go_ret;exact⟨_,rfl,aD,o.o⟩
 go_wp2_with fail;refine(fu _ _ _ _).mono ?_;rintro e r ⟨z,rfl,_,rfl⟩;cases z
 ·go_wp2
  go_ret;exact⟨_,rfl,aD,o.o⟩
 go_wp2;go_loopg [3,4] (s.yn+1) (fun gg v3 _ wr=>∃(i:Nat),s.yn-i<gg/\i<=s.yn/\v3=ae aj (i:Int)/\ak (aA O wr))
 ·exact⟨0,aq,aq,rfl,cB⟩
 obtain⟨i,hg,hi,rfl,g⟩:=hrel;have t:=o.t g.o;clear c0 k a l c4;obtain⟨c0,k,a,l,c4⟩:=(p.o.ar g.o p.o.lt).c5;by_cases K:i<s.yn
 ·have T:(i:Int)<(s.yn:Int):=by omega
  obtain⟨ad,F,E,M,I,N,e0,Y,V,e3⟩:=zg (R.o.Z t.o t.o.size).rY K;rw[N]at k;clear N;go_upto_region 7 with fail;obtain⟨u,cd⟩:=eX (wr.alloc (.cells #[ae aj F,ae aj E,ae aj M,ae aj I] 161));have P:aA wr u:=jT;have v:Bx u wr.heap.size #[ae aj F,ae aj E,ae aj M,ae aj I]:=oJ;rw[<-cd];have x:u.cell? ⟨wr.heap.size,0,none⟩=some (ae aj F):=v.cell 0;have g1:u.cell? ⟨wr.heap.size,1,none⟩=some (ae aj E):=v.cell 1;have g2:u.cell? ⟨wr.heap.size,2,none⟩=some (ae aj M):=v.cell 2;have g3:u.cell? ⟨wr.heap.size,3,none⟩=some (ae aj I):=v.cell 3;have q:=g.t P;have BH:=o.t q.o;clear cd P v c0 k a l c4 e0 Y V e3;obtain⟨c0,k,a,l,c4⟩:=(p.o.ar q.o p.o.lt).c5;clear k a l c4;go_wp2_with fail;refine(fu _ _ _ _).mono ?_;rintro e r ⟨z,rfl,_,rfl⟩;cases z
  ·exact Pf
  go_wp2_with fail;refine(fu _ _ _ _).mono ?_;rintro e r ⟨z,rfl,_,rfl⟩;cases z
  ·exact Pf
  go_wp2_with fail;refine(gL _ _).mono ?_;rintro e r ⟨z,rfl,rfl⟩;cases z
  ·exact Pf
  go_wp2_with fail;refine(fu _ _ _ _).mono ?_;rintro e r ⟨z,rfl,_,rfl⟩;cases z
  ·exact Pf
  go_wp2;go_roundg (s.yn-i)
  ·exact⟨i+1,aq,aq,aQ,q⟩
  omega
 ·have T:¬(i:Int)<(s.yn:Int):=by omega
  go_wp2;clear c0 k a l c4;go_loopg [5] (s.pn+1) (fun gg W wr=>∃(j:Nat),s.pn-j<gg/\j<=s.pn/\W=ae aj (j:Int)/\ak (aA O wr))
  ·exact⟨0,aq,aq,rfl,g⟩
  clear g t;obtain⟨j,fL,hj,rfl,g⟩:=hrel;have t:=o.t g.o;obtain⟨c0,k,a,l,c4⟩:=(p.o.ar g.o p.o.lt).c5;by_cases y:j<s.pn;rotate_left
  ·have i5:¬(j:Int)<(s.pn:Int):=by omega
   go_wp2;go_ret;exact⟨_,rfl,fun _=>FF.o,t.o⟩
  have i5:(j:Int)<(s.pn:Int):=aq;obtain⟨G,z,J,hb,x,Z⟩:=xg R.o.rP y;have U:=sH (X.o j y G z J x);have x:=au x t.o;rw[J]at a;clear J Z hb c0 k l c4;go_wp2_with fail;refine(hP z wr U.o).mono ?_;rintro e r ⟨A,C,n,c,m,d,b,rfl,Q⟩;have q:=g.t Q;have BH:=o.t q.o;clear Q x a;cases b
  ·exact Pf
  go_wp2;go_roundg (s.pn-j)
  ·exact⟨j+1,aq,aq,aQ,q⟩
  omega
def uQ(a:Nat)(v:Int):Prop:=0<=v/\v<=(a:Int)-1
def zh(w:World)(A:aC)(n:Nat):Prop:=∀i,i+1<n->∀a x y,A=some a->w.cell? (a.add (i*2))=some (ae aj x)->w.cell? (a.add ((i+1)*2))=some (ae aj y)->x<y
theorem zh.back(h:zh b A n)(a:aA w b):zh w A n:=fun i c e x y f g d=>h i c e x y f (au g a) (au d a)
theorem zh.snoc{a:Addr}(h:zh w A (k+1))(b:A=some a)(e:w.cell? (a.add (k*2))=some (ae aj x))(d:w.cell? (a.add ((k+1)*2))=some (ae aj y))(j:x<y):zh w A (k+2):=fun i m l c f f1 f2 f3=>by
 rw[b]at f1;obtain rfl:=Option.some.inj f1;rcases Nat.lt_or_ge i k with g|g
 ·exact h i aq a c f b f2 f3
 ·obtain rfl:i=k:=by omega
  rw[e]at f2;rw[d]at f3;injection f2 with f2;injection f2 with _ f2
  injection f3 with f3;injection f3 with _ f3
  omega
def FmF(w:World)(s:cX)(p:jW)(ts:aE):Prop:=TR w p.S p.sn (uQ s.yn)/\uU ts p.tn p.tn/\(0<=p.dir/\p.dir<=2)/\zh w p.B p.bn
theorem FmF.back{ts:aE}(h:FmF b s p ts)(a:aA w b):FmF w s p ts:=⟨fun j d c v f e=>h.1 j d c v f (au e a),h.2.1,h.2.2.1,h.2.2.2.back a⟩
def PFm(w:World)(s:cX)(p:jW)(ts:aE)(e:Ending)(a:World):Prop:=∃z:Bool,e= .returned (.bool z)/\(z=true->FmF w s p ts)/\aA w a
def SBp(Q:Prop)(v:Value):Prop:=∃b:Bool,v= .bool b/\(b=true->Q)
theorem Eo{N:aI w0}(n lo a:Int):Calls prog 146 #[ae aj n,ae aj lo,ae aj a] N.1 fun e b=>∃v,e= .returned v/\SBp (lo<=n/\n<=a) v/\∃m:aI w0,b=m.1:=by
 refine(fu n lo a N.1).mono ?_;rintro e b ⟨z,rfl,c,rfl⟩;exact⟨_,rfl,⟨z,rfl,c⟩,N,rfl⟩
def SBn(Q:Prop)(v:Value):Prop:=∃b:Bool,v= .bool b/\(b=false->Q)
def abx(Q:Prop)(d:Option Tmp):Option (Value->Prop):=if d=some 78 then some SB else if d=some 83 then some SB else if d=some 99 then some (SBn Q)else none
theorem mX{N:aI w0}(n lo a:Int):Calls prog 146 #[ae aj n,ae aj lo,ae aj a] N.1 fun e b=>∃v,e= .returned v/\SB v/\∃m:aI w0,b=m.1:=by
 refine(fu n lo a N.1).mono ?_;rintro e b ⟨z,rfl,_,rfl⟩;exact⟨_,rfl,⟨z,rfl⟩,N,rfl⟩
theorem Pj(s:G:=by
 simp[Act.put]
 refine mSk ?_
 first
  |(intro (nq:aI _);obtain⟨w6,bq⟩:=nq)
  |(rintro w6 ⟨⟨_,bq⟩,rfl⟩)
 have BX:=BF.t bq;have BH:=B1.t BX.o
 try dsimp only
 clear bq L1 L2 L3;go_wp2;go_ret;exact⟨_,rfl,aD,BH.o⟩):G:=s
theorem PD(s:G:=by
 go_wp2
 go_ret;exact⟨_,rfl,aD,BI.o⟩):G:=s
theorem aag(s:cX)(p:jW)(ts:aE)(w:World)(h:ix w w.heap.size s)(O:mx w p ts)(hn:p.tn<=60):Calls prog 80 #[s.v,p.v] w (PFm w s p ts):=by
 obtain⟨S,D,B1,X1,g⟩:=box2 w s.row 26 p.row 31;obtain⟨n,d,c,r,m,q,l,o⟩:=g.o.c8;have R0:=sH h;have L:=sH O;have h2:=h.rY.bd;have h5:=O.rS.bd;have h6:=O.rB.bd
 clear h O;go_enter func80,ntmps80;go_upto_region 1 with fail;rw[<-D];clear D;go_wp2_with fail;refine(abK p.T p.tn p.tc ts S (L.o.ar B1.o).rT aq).mono ?_;rintro e F ⟨z,rfl,ho,u⟩;have HO:=sH ho;clear ho;have R:=sH u;have BH:=B1.t u;clear u;cases z
 ·go_wp2
  go_ret;exact⟨_,rfl,aD,BH.o⟩
 clear n d c r m q l o;obtain⟨n,d,c,r,m,q,l,o⟩:=(g.o.ar R.o g.o.lt).c8;go_wp2_with fail;refine(Sy p.S p.sn p.sc _ F (L.o.ar BH.o).rS).mono ?_;rintro e w4 ⟨z,rfl,u⟩;have B4:=R.t u;have BI:=BH.t u;clear u R BH;cases z
 ·exact PD
 clear n d c r m q l o;obtain⟨n,d,c,r,m,q,l,o⟩:=(g.o.ar B4.o g.o.lt).c8;go_wp2_with fail;refine(fu _ _ _ _).mono ?_;rintro e F ⟨z,rfl,hd,rfl⟩;have HD:=sH hd;clear hd;cases z
 ·exact PD
 go_wp2_with fail;refine(fu _ _ _ _).mono ?_;rintro e F ⟨z,rfl,_,rfl⟩;cases z
 ·exact PD
 go_wp2_with fail;refine(fu _ _ _ _).mono ?_;rintro e F ⟨z,rfl,_,rfl⟩;cases z
 ·exact PD
 go_wp2_with fail;refine(fu _ _ _ _).mono ?_;rintro e F ⟨z,rfl,_,rfl⟩;cases z
 ·exact PD
 go_wp2;clear n d c r m q l o;go_loopg [5] (p.sn+1) (fun gg v5 wr=>∃(i:Nat),p.sn-i<gg/\i<=p.sn/\v5=ae aj (i:Int)/\ak (aA S wr)/\ak (TR w p.S i (uQ s.yn)))
 ·exact⟨0,aq,aq,rfl,B4,⟨fun j hj=>by omega⟩⟩
 clear B4 BI;obtain⟨i,hg,X,rfl,f,SV⟩:=hrel;have A:=B1.t f.o;obtain⟨c0,c1,T,c3,c4⟩:=(X1.o.ar f.o X1.o.lt).c5;obtain⟨n,d,c,r,m,q,l,o⟩:=(g.o.ar f.o g.o.lt).c8;clear c0 T c3 c4 n c r m q l o;by_cases Z:i<p.sn
 ·have i4:(i:Int)<(p.sn:Int):=by omega
  obtain⟨ad,B,N,M,Y,e0,V,C⟩:=kj L.o.rS Z;have SN:ak (uQ s.yn M->TR w p.S (i+1) (uQ s.yn)):=⟨fun h j hj G v ea y=>by
   by_cases kF:j<i
   ·exact SV.o j kF G v ea y
   ·obtain rfl:j=i:=by omega
    rw[Y]at ea;obtain rfl:=Option.some.inj ea;rw[C]at y;injection y with y
    injection y with _ y
    subst y;exact h⟩
  have C:=au C A.o;rw[Y]at d;clear Y e0 V;go_wp2;obtain⟨L1,L2,L3⟩:=lc3 d c1 C;clear d c1 C;refine aG (mj 62 (SBp (0<=M/\M<=(s.yn:Int)-1))) aF aF ?_;refine mSk ?_;refine lsA (SBp (0<=M/\M<=(s.yn:Int)-1)) (fun nq=> ?_) (fun H a=> ?_)
  ·go_simp
   exact Eo _ _ _
  obtain⟨b,rfl,J⟩:=a;have E:=sH J;clear J;cases b
  ·simp[Act.put]
   refine mSk ?_
   first
    |(intro (nq:aI _);obtain⟨w6,bq⟩:=nq)
    |(rintro w6 ⟨⟨_,bq⟩,rfl⟩)
   have BX:=A.t bq
   try dsimp only
   clear bq L1 L2 L3;go_wp2;go_ret;exact⟨_,rfl,aD,BX.o⟩
  simp[Act.put];refine mSk ?_
  first
   |(intro (nq:aI _);obtain⟨w6,bq⟩:=nq)
   |(rintro w6 ⟨⟨_,bq⟩,rfl⟩)
  have BX:=f.t bq
  try dsimp only
  clear bq L1 L2 L3;go_wp2;go_roundg (p.sn-i)
  ·exact⟨i+1,aq,aq,aQ,BX,⟨SN.o (by first|exact E.o rfl|exact E.o|simpa[uQ]using E.o)⟩⟩
  omega
 ·have i4:¬(i:Int)<(p.sn:Int):=by omega
  obtain rfl:i=p.sn:=aq;go_wp2;clear c1 d;go_loopg [6,7] (p.bn+1) (fun gg v6 _ wr=>∃(j:Nat),p.bn-j<gg/\j<=p.bn/\v6=ae aj (j:Int)/\ak (aA S wr)/\ak (zh w p.B j))
  ·exact⟨0,aq,aq,rfl,f,⟨fun i X=>by omega⟩⟩
  clear f A;obtain⟨j,fL,hj,rfl,f,TU⟩:=hrel;have A:=B1.t f.o;obtain⟨n,d,c,r,m,q,l,o⟩:=(g.o.ar f.o g.o.lt).c8;clear n d r m q l o;by_cases Sf:j<p.bn;rotate_left
  ·have i5:¬(j:Int)<(p.bn:Int):=by omega
   have FF:ak (FmF w s p ts):=⟨⟨SV.o,HO.o aD,HD.o aD,fun i X=>TU.o i aq⟩⟩;go_wp2;go_ret;exact⟨_,rfl,fun _=>FF.o,A.o⟩
  have i5:(j:Int)<(p.bn:Int):=aq;obtain⟨ad,B,N,W,x,K⟩:=Mv L.o.rB Sf;have T0:=sH x;have e0:=au x A.o;have V:=au K A.o
  clear x K;have EB:=sH W;rw[W]at c;clear W;go_upto_region 12 with fail;obtain⟨P,cd⟩:=eX (wr.alloc (.cells #[ae aj B,ae aj N] 116));have U:aA wr P:=jT;have Q:Bx P wr.heap.size #[ae aj B,ae aj N]:=oJ;rw[<-cd];have g0:P.cell? ⟨wr.heap.size,0,none⟩=some (ae aj B):=Q.cell 0;have g1:P.cell? ⟨wr.heap.size,1,none⟩=some (ae aj N):=Q.cell 1;have BF:=f.t U;have c:=au c U;have I:=B1.t BF.o;clear cd U Q e0 V;obtain⟨L1,L2,L3⟩:=lc3 c g0 g1;clear c g0 g1;rcases j with _|k
  ·refine aG (abx (True)) aF aF ?_
   refine mSk ?_;refine lsA SB (fun nq=> ?_) (fun H a=> ?_)
   ·go_simp
    exact mX _ _ _
   obtain⟨b,rfl⟩:=a;cases b
   ·exact Pj
   simp[Act.put];refine mSk ?_;refine lsA SB (fun nq=> ?_) (fun H a=> ?_)
   ·go_simp
    exact mX _ _ _
   obtain⟨b,rfl⟩:=a;cases b
   ·exact Pj
   simp[Act.put];refine mSk ?_
   first
    |(intro (nq:aI _);obtain⟨w6,bq⟩:=nq)
    |(rintro w6 ⟨⟨_,bq⟩,rfl⟩)
   have BX:=BF.t bq;have BH:=B1.t BX.o
   try dsimp only
   clear bq L1 L2 L3;go_wp2;go_roundg (p.bn-0)
   ·exact⟨0+1,aq,aq,aQ,BX,⟨fun i X=>by omega⟩⟩
   omega
  ·obtain⟨G,y0,y1,eA,x,K⟩:=Mv L.o.rB (show k<p.bn by omega)
   have q0:=au x I.o;have q1:=au K I.o
   rw[EB.o]at eA;obtain rfl:=Option.some.inj eA;have TS:=sH (TU.o.snoc EB.o x T0.o);clear x K;have wk:IntKind.i64.wrap ((k:Int)+1-1)=(k:Int):=yA;have k0:=jB k;have k1:(k:Int)<(p.bn:Int):=aq;have L4:=aw q0;clear q0 q1 eA;refine aG (abx (y0<B)) aF aF ?_;refine mSk ?_;refine lsA SB (fun nq=> ?_) (fun H a=> ?_)
   ·go_simp
    exact mX _ _ _
   obtain⟨b,rfl⟩:=a;cases b
   ·exact Pj
   simp[Act.put];refine mSk ?_;refine lsA SB (fun nq=> ?_) (fun H a=> ?_)
   ·go_simp
    exact mX _ _ _
   obtain⟨b,rfl⟩:=a;cases b
   ·exact Pj
   simp[Act.put];refine mSk ?_;refine lsA (SBn (y0<B)) (fun nq=> ?_) (fun H a=> ?_)
   ·go_simp
    exact⟨_,rfl,aD⟩
   obtain⟨b,rfl,J⟩:=a;have E:=sH J;clear J;cases b
   ·simp[Act.put]
    refine mSk ?_
    first
     |(intro (nq:aI _);obtain⟨w6,bq⟩:=nq)
     |(rintro w6 ⟨⟨_,bq⟩,rfl⟩)
    have BX:=BF.t bq;have BH:=B1.t BX.o
    try dsimp only
    clear bq L1 L2 L3;go_wp2;go_roundg (p.bn-(k+1))
    ·exact⟨k+1+1,aq,aq,aQ,BX,⟨TS.o (E.o aD)⟩⟩
    omega
   ·exact Pj
theorem Qi.snoc{i:Nat}{n:Addr}{f:db}(h:Qi w B {s with fn:=i})(r:cM w B wC s.F s.fn s.fc)(R:i<s.fn)(G:s.F=some n)(A:DK w n i f)(P:FOk w B f):Qi w B {s with fn:=i+1}:=fun j y d a=>by
 obtain⟨H,o,I,_⟩:=r.2.2.2 aq;by_cases l:j<i
 ·exact h j l d a
 ·obtain rfl:j=i:=by simp at y;omega
  rw[G]at a o;obtain rfl:=Option.some.inj a;obtain rfl:=Option.some.inj o;refine⟨I,fun x E=> ?_⟩;obtain⟨v,t,p,q,z,D⟩:=A;obtain⟨k,e,m,c,b,g⟩:=E;rw[v]at k;rw[t]at e;rw[p]at m;rw[q]at c;rw[z]at b;rw[D]at g
  simp at k e m c b g;obtain⟨N,M,X,Q,T,U,V,O,S,W,L,C,F,u,J,K⟩:=x;obtain⟨f0,f1,f2,f3,f4,f5,f6,f7,f8,f9,f10,f11,f12,f13,f14,f15⟩:=f;simp at k e m c b g
  simp_all
theorem rk.ar(h:rk w s j)(k:cM w w.heap.size .str s.P s.pn s.pc)(l:j<s.pn)(g:aA w b):rk b s j:=fun i z d f=>by
 obtain⟨m,n,c,_,e,_⟩:=xg k l;rw[d]at c;obtain rfl:=Option.some.inj c;have a:=au e g;rw[f]at a;injection a with a
 injection a with a
 subst a;exact h i z d e
def Wj(w a:World)(s:cX)(p:jW)(ts:aE):Prop:=Qi a a.heap.size s/\(0<s.yn/\0<s.fn)/\Jx ts p.tn/\FmF w s p ts
def PCh(w:World)(s:cX)(p:jW)(ts:aE)(e:Ending)(a:World):Prop:=∃z:Int,e= .returned (ae aj z)/\(z=0->Wj w a s p ts)/\aA w a
theorem VI(s:G:=by
 go_wp2
 go_ret;exact⟨_,rfl,aD,BI.o⟩):G:=s
theorem xw(hB:ri)(hP:qI)(s:cX)(p:jW)(ts:aE)(w:World)(h:ix w w.heap.size s)(Y:mx w p ts)(hs:Ca w s p):Calls prog 38 #[s.v,p.v] w (PCh w s p ts):=by
 obtain⟨R,q,n,k,o⟩:=box2 w s.row 26 p.row 31;obtain⟨c0,m,a,l,c4⟩:=k.o.c5;obtain⟨E,D,B,I,C,H,A,G⟩:=o.o.c8;have v:=sH h;have P0:=sH Y;obtain⟨t1,t2,t3,t4,t5,t6,S⟩:=hs;have SL:=sH S;clear h Y S;go_enter func38,ntmps38;go_upto_region 1 with fail;rw[<-q];clear q;go_wp2_with fail;refine(As p.T p.tn p.tc ts R (P0.o.ar n.o).rT aq).mono ?_;rintro e K ⟨z,rfl,P,rfl⟩;have HR:=sH P;clear P;cases z
 ·go_wp2
  go_ret;exact⟨_,rfl,aD,n.o⟩
 go_wp2;go_loopg [5] (s.fn+1) (fun gg v5 wr=>∃(i:Nat),s.fn-i<gg/\i<=s.fn/\v5=ae aj (i:Int)/\ak (aA R wr)/\ak (Qi wr wr.heap.size {s with fn:=i}))
 ·exact⟨0,aq,aq,rfl,cB,⟨fun j F=>by simp at F⟩⟩
 clear c0 m a l c4 E D B I C H A G;obtain⟨i,hg,hi,rfl,r,N⟩:=hrel;have g:=n.t r.o;obtain⟨c0,m,a,l,c4⟩:=(k.o.ar r.o k.o.lt).c5;by_cases u:i<s.fn
 ·have i4:(i:Int)<(s.fn:Int):=by omega
  obtain⟨ad,f,J,T,X,U,O,V,Q,Z⟩:=qd (v.o.Z g.o g.o.size).rF u;have FC:ak (DK wr ad i f):=⟨⟨X,U,O,V,Q,Z⟩⟩;have SN:=sH (fun h=>N.o.snoc (v.o.Z g.o g.o.size).rF u J FC.o h);rw[J]at c0;have HF:=sH T;clear J T m a l c4;go_wp2_with fail;refine(Rc hB f wr HF.o).mono ?_;rintro e K ⟨z,rfl,t,b⟩;have c:=r.t b;have d:=n.t c.o;have y:=sH (fun h=>(SN.o (t h)).Z b b.size);clear t b X U O V Q Z c0;by_cases x:z=0
  ·have M:(z !=0)=false:=by simp[x]
   have F2:=sH (y.o x);clear x;go_wp2;go_roundg (s.fn-i)
   ·exact⟨i+1,aq,aq,aQ,c,F2⟩
   omega
  ·have M:(z !=0)=true:=by simp[x]
   clear x;go_wp2;go_ret;exact⟨_,rfl,aD,d.o⟩
 ·have i4:¬(i:Int)<(s.fn:Int):=by omega
  obtain rfl:i=s.fn:=aq;go_wp2_with fail;refine(Jj hP s wr (v.o.Z g.o g.o.size) (fun j F=>(SL.o j F).ar v.o.rP F g.o)).mono ?_;rintro e K ⟨z,rfl,t,b⟩;have c:=r.t b;have d:=n.t c.o;have F3:=sH (N.o.Z b b.size);clear b c0 m a l c4;cases z
  ·go_wp2
   go_ret;exact⟨_,rfl,aD,d.o⟩
  have y:=sH (t rfl);clear t;obtain⟨c0,m,a,l,c4⟩:=(k.o.ar c.o k.o.lt).c5;obtain⟨E,D,B,I,C,H,A,G⟩:=(o.o.ar c.o o.o.lt).c8;go_wp2_with fail;refine(aag s p ts K (v.o.Z d.o d.o.size) (P0.o.ar d.o) t1).mono ?_;rintro e w4 ⟨z,rfl,hv,b⟩;have L:=c.t b;have BI:=n.t L.o;have F4:=sH (F3.o.Z b b.size);clear b c0 m a l c4 E D B I C H A G;cases z
  ·exact VI
  have W:=sH ((hv rfl).back d.o);clear hv;have CF:ak (Wj w w4 s p ts):=⟨⟨F4.o,y.o,HR.o.1 aD,W.o⟩⟩;obtain⟨c0,m,a,l,c4⟩:=(k.o.ar L.o k.o.lt).c5;obtain⟨E,D,B,I,C,H,A,G⟩:=(o.o.ar L.o o.o.lt).c8;clear y W F3 F4 c d N r g;have k1:¬(512:Int)<(s.pn:Int):=aq;have k2:¬(4096:Int)<(p.tn:Int):=aq;by_cases q1:(8:Int)<(s.fn:Int)
  ·exact VI
  by_cases q2:(64:Int)<(s.yn:Int)
  ·exact VI
  by_cases q3:(32:Int)<(p.bn:Int)
  ·exact VI
  go_wp2;go_ret;exact⟨_,rfl,fun _=>CF.o,BI.o⟩
theorem Ca.ar(h:Ca w s p)(k:ix w w.heap.size s)(e:aA w a):Ca a s p:=by
 obtain⟨l,c,i,m,f,d,g⟩:=h;exact⟨l,c,i,m,f,d,fun j b=>(g j b).ar k.rP b e⟩
theorem Ca.back(h:Ca a s p)(e:aA w a):Ca w s p:=by
 obtain⟨m,c,k,n,f,d,g⟩:=h;exact⟨m,c,k,n,f,d,fun j l i z o b=>g j l i z o (au b e)⟩
def MyF(w a:World)(s:cX)(p:jW)(ts:aE):Prop:=Ca w s p/\Wj w a s p ts
def PMy(w:World)(s:cX)(p:jW)(ts:aE)(e:Ending)(a:World):Prop:=∃z:Bool,e= .returned (.bool z)/\(z=true->MyF w a s p ts)/\aA w a
theorem abZ(N:ri)(D:qI)(s:cX)(p:jW)(ts:aE)(w:World)(h:ix w w.heap.size s)(E:mx w p ts):Calls prog 16 #[s.v,p.v] w (PMy w s p ts):=by
 obtain⟨C,f,c,k,g⟩:=box2 w s.row 26 p.row 31;obtain⟨c0,G,n,B,c4⟩:=k.o.c5;obtain⟨M,K,F,H,I,x,A,u⟩:=g.o.c8;have m:=sH h;have t:=sH E;go_enter func16,ntmps16;go_upto_region 1 with fail;rw[<-f];clear f;go_wp2_with fail;refine(Fw s p ts C (m.o.Z c.o c.o.size) (t.o.ar c.o)).mono ?_;rintro e L ⟨z,rfl,b,q⟩;have j:=sH q;have a:=c.t j.o;cases z
 ·go_wp2
  go_ret;exact⟨_,rfl,aD,a.o⟩
 have l:=sH (b rfl);have d:=sH (l.o.back c.o);obtain⟨c0,G,n,B,c4⟩:=(k.o.ar j.o k.o.lt).c5;obtain⟨M,K,F,H,I,x,A,u⟩:=(g.o.ar j.o g.o.lt).c8;go_wp2_with fail;refine(xw N D s p ts L (m.o.Z a.o a.o.size) (t.o.ar a.o) (d.o.ar m.o a.o)).mono ?_;rintro e J ⟨z,rfl,b,q⟩;have r:=a.t q;have y:ak (z=0->MyF w J s p ts):=⟨fun h=>⟨d.o,(b h).1,(b h).2.1,(b h).2.2.1,(b h).2.2.2.back a.o⟩⟩;by_cases o:z=0
 ·have i:(z==0)=true:=by simp[o]
  have v:=sH (y.o o);go_wp2;go_ret;exact⟨_,rfl,fun _=>v.o,r.o⟩
 ·have i:(z==0)=false:=by simp[o]
  go_wp2;go_ret;exact⟨_,rfl,aD,r.o⟩
theorem XJ(a b:Rn)(w:World):Calls prog 46 #[.agg a.row, .agg b.row] w (PB w):=by
 obtain⟨c,d,e,g,f⟩:=box2 w a.row 58 b.row 58;have g2:c.cell? ⟨w.heap.size,2,none⟩=some (ae aj a.lv):=g.o.cell 2;have k:c.cell? ⟨w.heap.size,3,none⟩=some (ae aj a.sp):=g.o.cell 3;have p:c.cell? ⟨w.heap.size,4,none⟩=some (ae aj a.fo):=g.o.cell 4;have o:c.cell? ⟨w.heap.size,5,none⟩=some (ae aj a.st):=g.o.cell 5;have i:c.cell? ⟨w.heap.size+1,2,none⟩=some (ae aj b.lv):=f.o.cell 2;have n:c.cell? ⟨w.heap.size+1,3,none⟩=some (ae aj b.sp):=f.o.cell 3;have k4:c.cell? ⟨w.heap.size+1,4,none⟩=some (ae aj b.fo):=f.o.cell 4;have l:c.cell? ⟨w.heap.size+1,5,none⟩=some (ae aj b.st):=f.o.cell 5;go_enter func46,ntmps46;go_upto_region 1 with fail;rw[<-d];clear d;cases m:(a.lv==b.lv)
 ·go_wp2
  go_ret;exact⟨_,rfl,e.o⟩
 cases h:(a.sp==b.sp)
 ·go_wp2
  go_ret;exact⟨_,rfl,e.o⟩
 cases j:(a.fo==b.fo)
 ·go_wp2
  go_ret;exact⟨_,rfl,e.o⟩
 go_wp2;go_ret;exact⟨_,rfl,e.o⟩
def ZS(P:Int->Prop):Sat:=⟨fun v _=>∃z:Int,v=ae aj z/\P z,fun _ _ _ h _=>h⟩
theorem UU(h:cM w B Cv A n c)(k:j<n):∃(a:Addr) (x:Int),A=some a/\Wf .i64 x/\w.cell? (a.add (j*4))=some (ae aj x):=by
 obtain⟨a,e,_,d⟩:=h.2.2.2 aq;obtain⟨m,i,l⟩:=d j k;obtain⟨_,_,rfl,⟨f,rfl,g⟩,_⟩:=i;have b:=l 0 _ rfl;rw[eQ]at b;exact⟨a,f,e,g,b⟩
theorem Oq.apart(h:Oq w B e k Q A n c)(a:g<B):bO A (some ⟨g,0,none⟩):=by
 obtain⟨gs,d,f,b⟩:=h;exact aB.nW b a
theorem TR.ar(h:TR w A n P)(l:cM w w.heap.size vu A n c)(g:aA w b):TR b A n P:=fun j e k v f i=>by
 obtain⟨m,p,o,q,d,_,_,g2⟩:=kj l e;rw[f]at d;obtain rfl:=Option.some.inj d;have a:=au g2 g;rw[i]at a;injection a with a
 injection a with _ a
 subst a;exact h j e k _ f g2
theorem Nv(hB:ri)(hP:qI)(s:cX)(p:jW)(ts:aE)(w:World)(h:ix w w.heap.size s)(hp:mx w p ts)(hs:Ca w s p):Calls prog 43 #[s.v,p.v] w (PJo w p.tn):=by
 obtain⟨W1,A,o,Z,X⟩:=box2 w s.row 26 p.row 31;obtain⟨c0,I,D,c3,c4⟩:=Z.o.c5;obtain⟨d0,H,d2,V,P,R,O,d7⟩:=X.o.c8;have M:=sH h;have K:=sH hp;have S0:=sH hs;have ht:p.tn<=60:=hs.1;have zz:ak ((prog.info? 3).map (·.zero)=some (some (ae aj 0))):=⟨aF⟩;go_enter func43,ntmps43;go_upto_region 1 with fail;rw[<-A];clear A;go_wp2_with fail;refine(xw hB hP s p ts W1 (M.o.Z o.o o.o.size) (K.o.ar o.o) (S0.o.ar M.o o.o)).mono ?_;rintro e l ⟨z,rfl,n,b3⟩;have E:=o.t b3;have y:=sH (Z.o.ar b3 Z.o.lt);have t:=sH (X.o.ar b3 X.o.lt);have HZ:ak (z=0->(0<s.yn)/\TR w p.S p.sn (uQ s.yn)):=⟨fun h=>⟨(n h).2.1.1,((n h).2.2.2.back o.o).1⟩⟩;by_cases J:z=0;rotate_left
 ·have T:(z !=0)=true:=by simp[J]
  go_wp2;go_ret;exact⟨_,_,_,aq,rfl,Oq.nil _ _ _ _ _,E.o⟩
 have T:(z !=0)=false:=by simp[J]
 have hy:=(HZ.o J).1;have SV:=sH ((HZ.o J).2);obtain⟨c0,I,D,c3,c4⟩:=y.o.c5;obtain⟨d0,H,d2,V,P,R,O,d7⟩:=t.o.c8;go_upto_region 4 with(refine dY (p:=Wf .i64) nA zz.o bQ rfl (.tmp 15) (.tmp 15) rfl p.tn rfl rfl rfl rfl aq l.heap.size cr ?_;intro g w4 o4 b4;have O4:=sH o4;have N:=sH b4;clear o4 b4)
 have iy:=O4.o.lt;have YA:=sH (y.o.ar N.o y.o.lt);have YB:=sH (t.o.ar N.o t.o.lt);have BI:=E.t N.o;have v:=E.o.size;have zY:w.heap.size+2<=l.heap.size:=by have:=t.o.lt;omega
 obtain⟨d0,H,d2,V,P,R,O,d7⟩:=YB.o.c8;go_wp2_with fail;refine(Ns p.T p.tn p.tc ts w4 (K.o.ar BI.o).rT aq).mono ?_;rintro e w5 ⟨C,m,d,hm,rfl,oc,S⟩;have f:=sH oc;have B5:=N.t S;have BJ:=BI.t S;have O5:=sH (O4.o.ar S);obtain⟨ady,eY,_⟩:=M.o.rY.2.2.2 hy;have f:ak (Oq w5 (g+1) 60 2 (Ti p.tn) C m d):=⟨f.o.cN aq⟩;have EY:=sH eY;go_wp2;go_loopg [7,8] (m+1) (fun gg v7 _ wr=>∃(i:Nat),m-i<gg/\i<=m/\v7=ae aj (i:Int)/\ak (Ow wr l.heap.size 3 .i64 (Wf .i64) (some ⟨g,0,none⟩) p.tn p.tn)/\ak (aA l wr)/\ak (Oq wr (g+1) 60 2 (Ti p.tn) C m d))
 ·exact⟨0,aq,aq,rfl,O5,B5,f⟩
 obtain⟨i,hg,hi,rfl,B,j,f⟩:=hrel;by_cases F:i<m;rotate_left
 ·have i4:=cF i m
  obtain⟨xs,hS⟩:=B.o.sl;have HS:=sH hS;have gM:=j.o.size;have r:=sH (E.o.trans (j.o.mono v));go_wp2_with fail;refine(Yt _ p.tn p.tn xs wr HS.o aq).mono ?_;rintro e w6 ⟨A6,m6,c6,Q,rfl,o6,b6⟩;have u:=sH (o6.cN (show w.heap.size<=wr.heap.size by omega));have U:=r.t b6;go_wp2;go_ret;exact⟨_,_,_,Q,rfl,u.o,U.o⟩
 have i4:=aR i m;obtain⟨gc,a,b,rfl,iN,yJ,e0,e1⟩:=f.o.cut F;go_wp2;go_loopg [8] (p.tn+1) (fun gg v8 wr=>∃(k:Nat),p.tn-k<gg/\k<=p.tn/\v8=ae aj (k:Int)/\ak (Ow wr l.heap.size 3 .i64 (Wf .i64) (some ⟨g,0,none⟩) p.tn p.tn)/\ak (aA l wr)/\ak (Oq wr (g+1) 60 2 (Ti p.tn) (some ⟨gc,0,none⟩) m d))
 ·exact⟨a,aq,aq,rfl,B,j,f⟩
 obtain⟨k,Bt,hk,rfl,B,j,f⟩:=hrel;obtain⟨gc2,a2,W,G,ae8,aez,e0,e1⟩:=f.o.cut F;injection G with G
 injection G with G
 subst G;by_cases hkb:k<W;rotate_left
 ·have i5:=cF k W
  go_wp2;go_roundg (m-i)
  ·exact⟨i+1,aq,aq,aQ,B,j,f⟩
  omega
 have i5:=aR k W;have Y:k<p.tn:=aq;have r:=sH (E.o.trans (j.o.mono v));obtain⟨c0,I,D,c3,c4⟩:=(y.o.ar j.o y.o.lt).c5;obtain⟨d0,H,d2,V,P,R,O,d7⟩:=(t.o.ar j.o t.o.lt).c8;have SW:=sH (SV.o.ar K.o.rS r.o);have PS:=sH ((K.o.ar r.o).rS);have RY:=sH ((M.o.Z r.o r.o.size).rY);rw[EY.o]at I;have i6:(k:Int)<(p.tn:Int):=aq;go_upto_region 11 with fail;obtain⟨L0,L1,L2⟩:=lc3 I H e0;refine aT (jd 51 (ZS (uQ s.yn))) 16 rfl aF aF aF aF aF rfl ?_;refine mLw ?_;refine lwA (ZS (uQ s.yn)) (fun c=> ?_) (fun v9 aV=> ?_)
 ·go_simp
  refine aW (ZS (uQ s.yn)) ((abS p.S p.sn p.sc _ (uQ s.yn) c.1 (PS.o.Z c.2 c.2.size) (SW.o.ar PS.o c.2)).mono ?_);rintro e w5 ⟨z,rfl,n,hb⟩;exact⟨_,rfl,⟨z,rfl,by rcases n with h|h;exact h;subst h;exact⟨by omega,by omega⟩⟩,hb⟩
 obtain⟨_,_,z,rfl,n⟩:=aV;obtain⟨q,rfl⟩:∃q:Nat,z=q:=⟨z.toNat,by have:=n.1;omega⟩;have hq:q<s.yn:=by have:=n.2;omega
 obtain⟨gP,x,L,hx,y0⟩:=UU RY.o hq;rw[EY.o]at L;injection L with L
 subst L;have HX:=sH hx;have L3:=aw y0;have i7:(q:Int)<(s.yn:Int):=aq;simp[Act.put];refine mLw ?_;intro c hE;have u:=sH (B.o.ar c.2);have U:=j.t c.2;have C6:=sH (f.o.ar c.2);obtain⟨z5,_,e5⟩:=u.o.get Y;have f5:=u.o.fz k;have O7:=sH (u.o.set k HX.o);have B7:ak (aA l (c.1.setCell ⟨g,k,none⟩ (ae aj x))):=⟨Below.setCell U.o (p:=⟨g,k,none⟩) u.o.lt.1 _⟩;have C7:ak (Oq (c.1.setCell ⟨g,k,none⟩ (ae aj x)) (g+1) 60 2 (Ti p.tn) (some ⟨gc,0,none⟩) m d):=⟨C6.o.mE (C6.o.apart aq) k _⟩;go_simp;go_wp2;go_roundg (p.tn-k)
 ·exact⟨k+1,aq,aq,aQ,O7,B7,C7⟩
 omega
def Sp3(P:Int->Prop)(r:aE):Prop:=P (nth r 2)
def PSv(w:World)(P:Int->Prop)(n:Nat)(e:Ending)(a:World):Prop:=∃(A:aC) (m c:Nat),m<=n/\e= .returned (.slice A m c)/\Oq a w.heap.size 163 3 (Sp3 P) A m c/\aA w a
theorem acj(A:aC)(n c:Nat)(P:Int->Prop)(w:World)(h:Iw w w.heap.size .i64 P A n)(hn:n<=100000):Calls prog 95 #[.slice A n c] w (PSv w P n):=by
 have I:=sH h;go_enter func95,ntmps95;go_wp2;go_loopg [3,4] (n+1) (fun gg v3 v4 wr=>∃(i m:Nat) (C:aC) (d:Nat),n-i<gg/\i<=n/\m<=i/\(0<i->0<m)/\v4=ae aj (i:Int)/\v3= .slice C m d/\ak (Oq wr w.heap.size 163 3 (Sp3 P) C m d)/\ak (aA w wr))
 ·exact⟨0,0,none,0,aq,aq,aq,aq,rfl,rfl,⟨Oq.nil _ _ _ _ _⟩,cB⟩
 obtain⟨i,m,C,d,hg,hi,hm,K,rfl,rfl,b,a⟩:=hrel;have N:=a.o.size;by_cases R:i<n;rotate_left
 ·have L:=cF i n
  go_wp2;go_ret;exact⟨_,_,_,aq,rfl,b.o,a.o⟩
 have L:=aR i n;obtain⟨D,z,rfl,F,l⟩:=(I.o.Z a.o a.o.size).get (show i<n by omega);rcases i with _|i
 ·obtain rfl:m=0:=by omega
  have q:=sH F;go_wp2;go_region
  try clear E
  have f:=sH (bL a.o);have v:=sH (b.o.ar (bL (Below.refl _ _)));have H:=au l (bL (Below.refl _ _));have t:=f.o.size;generalize wr.drew=O at*;rw[eQ]at H;go_wp2_with (at_builtin;refine bU Rj rfl (.tmp 33) (.tmp 42) rfl rfl (v.o.alloc _) rfl [0,1,z] rfl (cJ _ _ _ _ _ aD rfl) q.o aq cA ?_;intro s c8 u e j;have y:=sH e;have B:ak (aA w u):=⟨(f.o.alloc aq _).trans j⟩;clear e j);go_roundg (n-0)
  ·exact⟨0+1,0+1,s,c8,aq,aq,aq,aq,aQ,rfl,y,B⟩
  omega
 obtain⟨m,rfl⟩:∃k,m=k+1:=⟨m-1,aq⟩;obtain⟨Q,J,x,_,e1⟩:=(I.o.Z a.o a.o.size).get (show i<n by omega);injection x with x
 subst x;have l:wr.cell? {block:=D.block,off:=D.off+(i+1)}=some (ae aj z):=l;have E:wrap64 (i:Int)=(i:Int):=IntWalk.wrap64_in _ aq;have k0:=jB i;have Z:=aR i n;have k2:(0:Int)<(i:Int)+1:=aq;by_cases G:z=J
 ·subst G
  obtain⟨g,rfl,o,S⟩:=b.o.form aq;obtain⟨X,V,x2,_,r0,Y,W⟩:=b.o.ZH (show m<m+1 by omega);have fz:=b.o.fz (m*3+1);have T:=sH ((b.o.set (show m<m+1 by omega) (show 1<3 by omega) ((i:Int)+1+1) (fun r hl h=>by simpa[Sp3,nth]using h)).ar (bL (Below.refl _ _)));have U:=sH (bL<|a.o.setCell (p:=⟨g,m*3+1,none⟩) o (ae aj ((i:Int)+1+1)));go_wp2;go_region;go_wp2;go_roundg (n-(i+1))
  ·exact⟨i+1+1,m+1,_,d,aq,aq,aq,aq,aQ,rfl,T,U⟩
  omega
 ·have M:(z==J)=false:=by simp[G]
  have q:=sH F;go_wp2;go_region
  try clear E
  have f:=sH (bL a.o);have v:=sH (b.o.ar (bL (Below.refl _ _)));have H:=au l (bL (Below.refl _ _));have t:=f.o.size;generalize wr.drew=O at*
  skip
  go_wp2_with (at_builtin;refine bU Rj rfl (.tmp 33) (.tmp 42) rfl rfl (v.o.alloc _) rfl [(i:Int)+1,(i:Int)+1+1,z] rfl (cJ _ _ _ _ _ aD rfl) q.o aq cA ?_;intro s c8 u e j;have y:=sH e;have B:ak (aA w u):=⟨(f.o.alloc aq _).trans j⟩;clear e j);go_roundg (n-(i+1))
  ·exact⟨(i+1)+1,(m+1)+1,s,c8,aq,aq,aq,aq,aQ,rfl,y,B⟩
  omega
def aeE(d:Option Tmp):Option (Value->Prop):=if d=some 16 then some SB else if d=some 23 then some SI else none
theorem ac1(s:G:=by
 simp[Act.put]
 refine mSk ?_;intro nq;obtain⟨w6,bq⟩:=nq;have BX:=BE.t bq
 try dsimp only
 go_wp2;go_roundg (n-i)
 ·exact⟨i+1,aq,aq,aQ,BX⟩
 omega):G:=s
theorem WS(f:db)(A:aC)(n c:Nat)(ts:aE)(w:World)(h:ca w w.heap.size f)(k:aL .i32 w A n c ts)(K:n<=100000):Calls prog 172 #[f.v, .slice A n c] w (PB w):=by
 obtain⟨v,g,d,p⟩:=box1 w f.row 82;have R:=sH (h.Z d.o d.o.size);have T:=sH (k.ar d.o);go_enter func172,ntmps172;go_wp2;rw[<-g];clear g;go_loopg [5] (n+1) (fun gg u wr=>∃(i:Nat),n-i<gg/\i<=n/\u=ae aj (i:Int)/\ak (aA v wr))
 ·exact⟨0,aq,aq,rfl,cB⟩
 obtain⟨i,O,M,rfl,BE⟩:=hrel;have D:=d.t BE.o;by_cases m:i<n;rotate_left
 ·have r:=cF i n
  go_wp2;go_ret;exact⟨_,rfl,D.o⟩
 have r:=aR i n;obtain⟨I,z,rfl,C,F⟩:=(T.o.ar BE.o).iw.get m;obtain⟨o,j⟩:=uW C;obtain⟨c0,G,l,s,c4,c5⟩:=(p.o.ar BE.o p.o.lt).f6;obtain⟨L0,L1,P,N,L,J,Q⟩:=lc7 c0 G l s c4 c5 F;have x:=sH (R.o.Z BE.o BE.o.size);go_wp2;refine aG aeE aF aF ?_;refine mSk ?_;refine lsA SB (fun nq=> ?_) (fun B a=> ?_)
 ·go_simp
  exact bj ((oz z o j nq.1).mono fun e H ⟨y,E⟩=>⟨_,y,E⟩)
 obtain⟨b,rfl⟩:=a;cases b
 ·exact ac1
 simp[Act.put];refine mSk ?_;refine lsA SI (fun nq=> ?_) (fun B a=> ?_)
 ·go_simp
  exact eh (sG f z nq.1 (x.o.Z nq.2 nq.2.size))
 obtain⟨q,rfl⟩:=a;cases S:(q==0)
 ·exact ac1
 ·simp[Act.put]
  refine mSk ?_;intro nq;obtain⟨w6,bq⟩:=nq;have BX:=BE.t bq
  try dsimp only
  go_wp2;go_ret;exact⟨_,rfl,d.o.trans (BX.o.mono d.o.size)⟩
def qM(z:Int)(n:Nat):Bool:=decide (0<=z)&&decide (z<(n:Int))
theorem qM.t{z:Int}(h:qM z n=true):0<=z/\z<n:=by simpa[qM]using h
theorem Mi(A:aC)(n c:Nat)(z:Int)(w:World):Calls prog 171 #[.slice A n c,ae aj z] w fun e b=>e= .returned (.bool (qM z n))/\b=w:=by
 go_enter func171,ntmps171;by_cases d:0<=z
 ·by_cases f:z<(n:Int)
  ·have a:qM z n=true:=by simp[qM];omega
   rw[a];go_wp2;go_ret;exact⟨rfl,rfl⟩
  ·have a:qM z n=false:=by simp[qM];omega
   rw[a];go_wp2;go_ret;exact⟨rfl,rfl⟩
 ·have a:qM z n=false:=by simp[qM];omega
  rw[a];go_wp2;go_ret;exact⟨rfl,rfl⟩
def PPk(w:World)(n:Nat)(e:Ending)(a:World):Prop:=∃z:Int,e= .returned (ae aj z)/\uQ n z/\aA w a
def pkT(b:Int)(a:Nat)(d:Option Tmp):Option (Value->Prop):=if d=some 37 then some (fun v=>v= .bool (qM b a))else if d=some 51 then some SI else none
theorem qM.st{z:Int}(h:qM z n=true):uQ n z:=⟨(qM.t h).1,by have:=(qM.t h).2;omega⟩
theorem ac5(s:G:=by
 simp[Act.put]
 refine mSk ?_;intro nq;obtain⟨w6,b6⟩:=nq
 try dsimp only
 have B6:=BE.t b6;go_wp2;go_meet;exact⟨⟨_,rfl,Xu⟩,B6⟩):G:=s
theorem aan(F:aC)(a m:Nat)(d:Int)(A:aC)(n c:Nat)(ts:aE)(l:Int)(w:World)(h:cM w w.heap.size wC F a m)(k:aL .i32 w A n c ts)(P:n<=100000)(p:0<a)(S:a<=1000):Calls prog 94 #[.slice F a m,ae aj d, .slice A n c,ae aj l] w (PPk w a):=by
 have J:=sH h;have T:=sH k;go_enter func94,ntmps94;go_upto_region 1 with fail;go_cut [20] (fun v L=>(∃b:Bool,v= .bool b/\(b=true->uQ a d))/\ak (aA w L))
 case first=>
  go_wp2_with fail;cases hi:qM d a
  ·refine(Mi _ a m d _).mono ?_
   rintro e _ ⟨rfl,rfl⟩;rw[hi];go_wp2;go_meet;exact⟨⟨_,rfl,aD⟩,cB⟩
  have s:=sH (qM.st hi);obtain⟨j,rfl⟩:∃k:Nat,d=k:=⟨d.toNat,by have:=(qM.t hi).1;omega⟩;have D:j<a:=by have:=(qM.t hi).2;omega
  have B:=aR j a;obtain⟨z,f,rfl,p,M,x,y,N,E,G⟩:=qd J.o D;have u:=sH p;refine(Mi _ a m (j:Int) _).mono ?_;rintro e _ ⟨rfl,rfl⟩;rw[hi];go_wp2_with fail;refine(WS f A n c ts _ u.o T.o P).mono ?_;rintro e W ⟨b,rfl,O⟩;have g:=sH O;go_wp2;go_meet;exact⟨⟨_,rfl,fun _=>s.o⟩,g⟩
 case rest=>
 obtain⟨⟨b,rfl,K⟩,Q⟩:=hcut;have C:=sH K;cases b;rotate_left
 ·go_wp2
  go_ret;exact⟨_,rfl,C.o aD,Q.o⟩
 rename World=>w1
 go_wp2;go_loopg [9] (a+1) (fun gg H wr=>∃(i:Nat),a-i<gg/\i<=a/\H=ae aj (i:Int)/\ak (aA w wr))
 ·exact⟨0,aq,aq,rfl,Q⟩
 obtain⟨i,hg,hi,rfl,BE⟩:=hrel;by_cases I:i<a
 ·have U:=aR i a
  obtain⟨z,f,rfl,p,M,x,y,N,E,G⟩:=qd (J.o.Z BE.o BE.o.size) I;have u:=sH p;go_wp2_with fail;refine(WS f A n c ts wr u.o (T.o.ar BE.o) P).mono ?_;rintro e W ⟨b,rfl,O⟩;have g:=BE.t O;cases b
  ·go_wp2
   go_roundg (a-i)
   ·exact⟨i+1,aq,aq,aQ,g⟩
   omega
  ·go_wp2
   go_ret;exact⟨_,rfl,⟨aq,aq⟩,g.o⟩
 have U:=cF i a;go_upto_region 8 with fail;go_cut [53] (fun v L=>(∃b:Bool,v= .bool b/\(b=true->qM l a=true))/\ak (aA w L))
 case first=>
  refine aG (pkT l a) aF aF ?_;refine mSk ?_;refine lsA (fun v=>v= .bool (qM l a)) (fun nq=> ?_) (fun H o=> ?_)
  ·go_simp
   exact(Mi _ a m l nq.1).mono fun e X ⟨x,y⟩=>⟨_,x,rfl,nq,y⟩
  subst o;cases hi:qM l a
  ·exact ac5
  obtain⟨j,rfl⟩:∃k:Nat,l=k:=⟨l.toNat,by have:=(qM.t hi).1;omega⟩;have D:j<a:=by have:=(qM.t hi).2;omega
  have B:=aR j a;obtain⟨z,f,rfl,p,M,x,y,N,E,G⟩:=qd (J.o.Z BE.o BE.o.size) D;have u:=sH p;obtain⟨L0,L1,L2,L3,L4,Z⟩:=lc6 M x y N E G;rcases n with _|n
  ·exact ac5
  obtain⟨V,r,rfl,_,R⟩:=(T.o.ar BE.o).iw.get (show 0<n+1 by omega);rw[eQ]at R;have L6:=aw R;have Y:(0:Int)<(n:Int)+1:=aq;simp[Act.put];refine mSk ?_;refine lsA SI (fun nq=> ?_) (fun H o=> ?_)
  ·go_simp
   exact eh (sG f r nq.1 (u.o.Z nq.2 nq.2.size))
  obtain⟨q,rfl⟩:=o;simp[Act.put];refine mSk ?_;intro nq;obtain⟨w6,b6⟩:=nq
  try dsimp only
  have B6:=BE.t b6;go_wp2;go_meet;exact⟨⟨_,rfl,Xu⟩,B6⟩
 case rest=>
 obtain⟨⟨b,rfl,K⟩,g⟩:=hcut;have C:=sH K;cases b;rotate_left
 ·have s:=sH (qM.st (C.o aD))
  go_wp2;go_ret;exact⟨_,rfl,s.o,g.o⟩
 cases hi:qM d a
 ·go_wp2_with fail
  refine(Mi _ a m d _).mono ?_;rintro e _ ⟨rfl,rfl⟩;rw[hi];go_wp2;go_ret;exact⟨_,rfl,⟨aq,aq⟩,g.o⟩
 ·have s:=sH (qM.st hi)
  go_wp2_with fail;refine(Mi _ a m d _).mono ?_;rintro e _ ⟨rfl,rfl⟩;rw[hi];go_wp2;go_ret;exact⟨_,rfl,s.o,g.o⟩
theorem zE(A:aC)(n c:Nat)(ts:aE)(w:World)(h:aL .i32 w A n c ts)(k:n<=100000):Calls prog 93 #[.slice A n c] w fun e f=>∃(a:List Nat) (D:aC) (d:Nat),e= .returned (.slice D a.length d)/\Own f w.heap.size 3 .i64 D a.length d (a.map Int.ofNat)/\(∀i,i+1<a.length->dx a i<dx a (i+1))/\(∀i,i<a.length->dx a i<=n)/\(0<n->dx a 0=0/\0<a.length/\dx a (a.length-1)=n)/\a.length<=n+1/\aA w f:=by
 refine(ry A n c ts w h aq).mono ?_;rintro e f ⟨D,d,rfl,o,b⟩;have j:(ks ts).length=n:=Px;refine⟨di (ks ts),D,d,rfl,o,fun i g=>qc g,fun i g=>by have:=Gy g;omega,fun l=>⟨(ox aq).1,(ox aq).2,by rw[(qN (by omega)).2,j]⟩, ?_,b⟩;have:=kN (ks ts) ((ks ts).length+1);unfold di;omega
def Kc(w:World)(B:Nat)(P:Int->Prop)(A:aC)(n:Nat):Prop:=∀j,j<n->∃(a:Addr) (d c b:Int),A=some a/\a.block<B/\P b/\w.cell? (a.add (j*3))=some (ae aj d)/\w.cell? (bW (a.add (j*3)) 1)=some (ae aj c)/\w.cell? (bW (a.add (j*3)) 2)=some (ae aj b)
theorem Kc.Z{c:World}(h:Kc w B P A n)(a:Below B w c)(p:B<=d):Kc c d P A n:=fun j l=>by
 obtain⟨b,g,e,o,m,h2,i,c0,f,k⟩:=h j l;exact⟨b,g,e,o,m,aq,i,(a.cell yG).trans c0,(a.cell (by show(b.add (j*3)).block<B;rw[aO];exact h2)).trans f,(a.cell (by show(b.add (j*3)).block<B;rw[aO];exact h2)).trans k⟩
theorem Kc.of(h:cM w w.heap.size vu A n c)(k:TR w A n P):Kc w w.heap.size P A n:=fun j d=>by
 obtain⟨a,l,g,f,e,c0,i,b⟩:=kj h d;exact⟨a,l,g,f,e,by have:=block_lt_of_cell c0;rwa [aO]at this,k j d a f e b,c0,i,b⟩
theorem Oq.jU(h:Oq w B 163 3 Q A n c)(m:∀r,Q r->P (nth r 2)):Kc w w.heap.size P A n:=fun j k=>by
 obtain⟨g,rfl,_,b⟩:=h.form aq;obtain⟨f,a,o,l,c0,d,i⟩:=h.ZH k;have e:(⟨g,0,none⟩:Addr).add (j*3)=⟨g,j*3,none⟩:=bB _ _;exact⟨_,f,a,o,rfl,b,m _ l,by rw[e];exact c0,by rw[e];exact d,by rw[e];exact i⟩
theorem Ln(A:aC)(n c:Nat)(i:Int)(P:Int->Prop)(w:World)(h:Kc w w.heap.size P A n)(t:n<=100000):Calls prog 45 #[.slice A n c,ae aj i] w (PAt w P):=by
 have f:=sH h;go_enter func45,ntmps45;go_wp2;go_loopg [5] (n+1) (fun gg g wr=>∃(k:Nat),n-k<gg/\k<=n/\g=ae aj (k:Int)/\wr=w)
 ·exact⟨0,aq,aq,rfl,rfl⟩
 obtain⟨k,p,r,rfl,rfl⟩:=hrel;by_cases a:k<n;rotate_left
 ·have d:=cF k n
  go_wp2;go_ret;exact⟨_,rfl, .inr rfl,Below.refl _ _⟩
 have d:=aR k n;obtain⟨m,e,b,x,rfl,_,j,s,u,o⟩:=f.o k a;have l:=sH j;by_cases v:e<=i
 ·by_cases q:i<b
  ·go_wp2
   go_ret;exact⟨_,rfl, .inl l.o,Below.refl _ _⟩
  ·go_wp2
   go_roundg (n-k)
   ·exact⟨k+1,aq,aq,aQ,rfl⟩
   omega
 ·go_wp2
  go_roundg (n-k)
  ·exact⟨k+1,aq,aq,aQ,rfl⟩
  omega
def ofT(a:Nat)(d:Option Tmp):Option (Value->Prop):=if d=some 27 then some SI else if d=some 40 then some (fun v=>∃z:Int,v=ae aj z/\uQ a z)else none
theorem abh:aS prog 27 21 1 4:=UR
theorem aeA(F:aC)(g Q:Nat)(A:aC)(n c:Nat)(ts:aE)(S:aC)(L sc:Nat)(w:World)(h:cM w w.heap.size wC F g Q)(k:aL .i32 w A n c ts)(p:Kc w w.heap.size aN S L)(P:L<=100000)(hn:n<=10000)(hf:0<g)(N:g<=1000):Calls prog 42 #[.slice F g Q, .slice A n c, .slice S L sc] w (PSv w (uQ g) n):=by
 have RF:=sH h;have T:=sH k;have SP:=sH p;go_enter func42,ntmps42;go_wp2_with fail;refine(zE A n c ts w T.o aq).mono ?_;rintro e J ⟨o,D,d,rfl,l,B,hle,_,X,b1⟩;obtain⟨m,hm⟩:=eY o.length;rw[hm]at l B hle X⊢;have Z:=sH l;have RI:=sH B;have LE:=sH hle;have B1:=sH b1;have Y:=sH hm;go_wp2;go_loopg [8,9,10,11] (m+1) (fun gg M V v10 _ wr=>∃(i q:Nat) (C:aC) (e:Nat) (a:Int),m-i<gg/\i<=m/\q<=n/\(i<m->q<=dx o i)/\M= .slice C q e/\V=ae aj a/\v10=ae aj (i:Int)/\ak (Ow wr J.heap.size 3 .i64 (uQ g) C q e)/\ak (aA J wr))
 ·exact⟨0,0,none,0,_,aq,aq,aq,fun _=>by omega,rfl,rfl,rfl,⟨Ow.nil _ _ _ _ _⟩,cB⟩
 obtain⟨i,q,C,e,a,hg,hi,hqn,hq,rfl,rfl,rfl,y,r⟩:=hrel;have u:=B1.t r.o;by_cases H:i+1<m;rotate_left
 ·have i4:¬(i:Int)+1<(m:Int):=by omega
  have OW:=sH y.o.iw;go_wp2_with fail;refine(acj C q e (uQ g) wr OW.o aq).mono ?_;rintro e w2 ⟨A2,m2,c2,QC,rfl,o2,b2⟩;have O2:=sH o2;have B2:=u.t b2;go_wp2;go_ret;exact⟨_,_,_,aq,rfl,O2.o.cN u.o.size,B2.o⟩
 have i4:(i:Int)+1<(m:Int):=aq;have i5:=aR i m;have l:=Z.o.ar r.o;obtain⟨gb,rfl,_⟩:=aB.form l aq;have c0:=iJ l (j:=i) aq;have I:=iJ l (j:=i+1) aq;rw[pF (by rw[Y.o];omega)]at c0 I;have s:=RI.o i H;have K:=LE.o (i+1) H;obtain⟨A4,c4,CH⟩:=mQ abh A n c (dx o i) (dx o (i+1)) (Nat.le_of_lt s) K T.o.le (dx o i) (dx o (i+1)) rfl rfl;have rh:=CH.run;have O:=sH (CH.jv (T.o.ar u.o));have QI:ak (q<=dx o i):=⟨hq aq⟩;obtain⟨f,G⟩:=eY (dx o i);obtain⟨t,E⟩:=eY (dx o (i+1));have FE:=sH G;have TE:=sH E;rw[G]at c0 rh s O QI;rw[E]at I rh s K O;obtain⟨L0,L1⟩:=lc2 c0 I;go_wp2;refine aG (ofT g) aF aF ?_;refine mSk ?_;refine lsA SI (fun b=> ?_) (fun V x=> ?_)
 ·go_simp
  exact eh ((Ln S L sc _ aN b.1 ((SP.o.Z u.o u.o.size).Z b.2 b.2.size) P).mono fun e w' ⟨z,R,_,h3⟩=>⟨z,R,h3⟩)
 obtain⟨pr,rfl⟩:=x;simp[Act.put];refine mSk ?_;refine lsA (fun v=>∃z:Int,v=ae aj z/\uQ g z) (fun b=> ?_) (fun V x=> ?_)
 ·go_simp
  exact(aan F g Q pr A4 (t-f) c4 _ a b.1 ((RF.o.Z u.o u.o.size).Z b.2 b.2.size) (O.o.ar b.2) aq hf N).mono fun e w' ⟨z,R,h2,h3⟩=>⟨_,R,⟨z,rfl,h2⟩,⟨⟨w',b.2.trans (h3.mono b.2.size)⟩,rfl⟩⟩
 obtain⟨z,rfl,hz⟩:=x;have HZ:=sH hz;simp[Act.put];refine mSk ?_;intro b;obtain⟨w6,b6⟩:=b
 try dsimp only
 have B6:=r.t b6;have O6:=sH (y.o.ar b6);have l:=Z.o.ar B6.o;have c0:=iJ l (j:=i) aq;rw[pF (by rw[Y.o];omega),FE.o]at c0;go_wp2;go_loopg [8,11] (n+1) (fun gg M U wr=>∃(k q:Nat) (C:aC) (e:Nat),t-k<gg/\k<=t/\q<=k/\M= .slice C q e/\U=ae aj (k:Int)/\ak (Ow wr J.heap.size 3 .i64 (uQ g) C q e)/\ak (aA J wr))
 ·exact⟨f,q,_,e,aq,aq,QI.o,rfl,rfl,O6,B6⟩
 obtain⟨k,q,C,e,Bt,hk,W,rfl,rfl,y,r⟩:=hrel;have hs:=r.o.size;have l:=Z.o.ar r.o;have I:=iJ l (j:=i+1) aq;rw[pF (by rw[Y.o];omega),TE.o]at I;by_cases hkt:k<t
 ·have k4:=aR k t
  go_wp2_with (at_builtin;refine bS nA rfl (.tmp 54) (.tmp 56) rfl rfl (y.o.alloc _) rfl (aX _ _ _) HZ.o aq cA ?_;intro A8 c8 w8 o8 b8;have O8:=sH o8;have B8:ak (aA J w8):=⟨(r.o.alloc aq _).trans b8⟩;clear o8 b8);go_roundg (t-k)
  ·exact⟨k+1,q+1,A8,c8,aq,aq,aq,rfl,aQ,O8,B8⟩
  omega
 ·have k4:=cF k t
  obtain rfl:k=t:=aq;have HQ:ak (q<=dx o (i+1)):=⟨by rw[TE.o];exact W⟩;go_wp2;go_roundg (m-i)
  ·exact⟨i+1,q,C,e,z,aq,aq,aq,fun _=>HQ.o,rfl,rfl,aQ,y,r⟩
  omega
theorem EK(r:Int)(w:World):Calls prog 242 #[.int .i32 r] w (fun e a=>∃z:Int,e= .returned (.int .i32 z)/\aA w a):=by
 go_enter func242,ntmps242;go_wp2_with fail
 all_goals
  go_ret;exact⟨_,rfl,Below.refl _ _⟩
theorem zi(z:Int)(w:World):Calls prog 283 #[ae aj z] w (PI w):=by
 go_enter func283,ntmps283;go_wp2_with fail
 all_goals
  go_ret;exact⟨_,rfl,Below.refl _ _⟩
def ID(e:Int×Int):List Value:=[ae aj e.1, .int .i32 e.2]
theorem xB(e:Int×Int):(ID e).length=2:=rfl
def Qp(w:World)(B N:Nat)(A:aC)(n c:Nat):Prop:=∃a:List (Int×Int),a.length=n/\(∀e∈a,lg N e.1)/\aB w B 225 2 A n c (a.flatMap ID)
theorem Qp.ar(h:Qp w B N A n c)(b:aA w a):Qp a B N A n c:=by
 obtain⟨e,f,g,d⟩:=h;exact⟨e,f,g,d.ar b⟩
theorem Qp.at(h:Qp w B N A n c)(e:j<n):∃(g:Nat) (x s:Int),A=some ⟨g,0,none⟩/\lg N x/\w.cell? ⟨g,j*2,none⟩=some (ae aj x)/\w.cell? ⟨g,j*2+1,none⟩=some (.int .i32 s):=by
 obtain⟨a,f,d,b⟩:=h;obtain⟨g,rfl,_⟩:=aB.form b aq;refine⟨g,(a[j]).1,(a[j]).2,rfl,d _ (List.getElem_mem _), ?_, ?_⟩
 ·have:=aB.cellAt b (j*2+0) aq
  rwa [kf ID xB a j 0 _ (List.getElem?_eq_getElem aq) aq]at this
 ·have:=aB.cellAt b (j*2+1) aq
  rwa [kf ID xB a j 1 _ (List.getElem?_eq_getElem aq) aq]at this
def ae1(w:World)(n:Nat)(e:Ending)(a:World):Prop:=∃z:Int,e= .returned (ae aj z)/\(-1<=z/\z<n)/\aA w a
theorem Tq(A:aC)(n c N B:Nat)(r:Int)(w:World)(h:Qp w B N A n c)(y:n<=10000):Calls prog 169 #[.slice A n c, .int .i32 r] w (ae1 w n):=by
 have R:=sH h;have w0:wrap64 ((n:Int)-1)=(n:Int)-1:=IntWalk.wrap64_in _ aq;go_enter func169,ntmps169;go_wp2;go_loopg [5] (n+1) (fun gg m wr=>∃(k:Nat),k<gg/\k<=n/\m=ae aj ((k:Int)-1)/\ak (aA w wr))
 ·exact⟨n,aq,aq,rfl,cB⟩
 obtain⟨k,t,u,rfl,b⟩:=hrel;rcases k with _|k
 ·go_wp2
  go_ret;exact⟨_,rfl,⟨aq,aq⟩,b.o⟩
 have p:(((k+1:Nat):Int)-1)=(k:Int):=aq;rw[p];obtain⟨g,x,s,rfl,_,v,C⟩:=(R.o.ar b.o).at (j:=k) aq;have k0:=jB k;have q:=aR k n;go_wp2_with fail;refine(EK s wr).mono ?_;rintro e l ⟨z,rfl,a⟩;have o:=b.t a;go_wp2_with fail;refine(EK r l).mono ?_;rintro e D ⟨i,rfl,a⟩;have f:=o.t a;by_cases d:(z==i)=true
 ·go_wp2
  go_ret;exact⟨_,rfl,⟨aq,aq⟩,f.o⟩
 have d:(z==i)=false:=by simpa using d
 go_wp2;go_roundg (k+1)
 ·exact⟨k,aq,aq,ke,f⟩
 omega
theorem acy(s:G:=by
 have We:(s !=0)=false:=by simpa using We
 go_wp2;go_roundg (n+1-i)
 ·exact⟨i+1,_,aq,aq,rfl,aQ,B2⟩
 omega):G:=s
theorem adU(s:G:=by
 have We:(s !=0)=true:=by simpa using We
 go_wp2;go_roundg (n+1-i)
 ·exact⟨i+1,_,aq,aq,rfl,aQ,B2⟩
 omega):G:=s
theorem abq(A:aC)(n c a b:Nat)(own k:Int)(w:World)(h:Iw w w.heap.size .i64 aN A n)(J:a<n)(H:b<n)(I:n<=10000):Calls prog 237 #[.slice A n c, .agg #[ae aj (a:Int),ae aj (b:Int)],ae aj own,ae aj k] w (PI w):=by
 obtain⟨j,aP⟩:=eX (w.alloc (.cells #[ae aj (a:Int),ae aj (b:Int)] 227));have l:ak (aA w j):=⟨lY⟩;have g:ak (Bx j w.heap.size #[ae aj (a:Int),ae aj (b:Int)]):=⟨qR⟩;have R:=sH h;go_enter func237,ntmps237;go_upto_region 1 with fail;rw[<-aP];clear aP;have u:j.cell? ⟨w.heap.size,0,none⟩=some (ae aj (a:Int)):=g.o.cell 0;have E:j.cell? ⟨w.heap.size,1,none⟩=some (ae aj (b:Int)):=g.o.cell 1;go_wp2;have K:wrap64 ((a:Int)+1)=(a:Int)+1:=IntWalk.wrap64_in _ aq;go_loopg [9,10,11] (n+2) (fun gg v v10 _ wr=>∃(i:Nat) (z:Bool),n+1-i<gg/\i<=n/\v= .bool z/\v10=ae aj (i:Int)/\ak (aA j wr))
 ·exact⟨a+1,_,aq,aq,rfl,ke,cB⟩
 obtain⟨i,z,C,G,rfl,rfl,d⟩:=hrel;have f:=l.t d.o;have u:wr.cell? ⟨w.heap.size,0,none⟩=some (ae aj (a:Int)):=(g.o.ar d.o g.o.lt).cell 0;have E:wr.cell? ⟨w.heap.size,1,none⟩=some (ae aj (b:Int)):=(g.o.ar d.o g.o.lt).cell 1;by_cases p:i<b
 ·have o:=aR i b
  obtain⟨B,x,rfl,_,D⟩:=(R.o.Z f.o f.o.size).get (show i<n by omega);have F:=aR i n;go_wp2_with fail;refine(zi x wr).mono ?_;rintro e y ⟨s,rfl,q⟩;have B2:=d.t q;by_cases hs:(s==own)=true
  ·go_wp2
   go_ret;exact⟨_,rfl,l.o.trans (B2.o.mono l.o.size)⟩
  have hs:(s==own)=false:=oM;by_cases We:(s==0)=true
  ·exact acy
  ·exact adU
 have o:=cF i b;cases z
 ·go_wp2
  go_ret;exact⟨_,rfl,f.o⟩
 go_wp2;go_loopg [12,13,14] (n+2) (fun gg r t _ wr=>∃(i:Nat) (z:Int),n+1-i<gg/\i<=n/\r=ae aj z/\t=ae aj (i:Int)/\ak (aA j wr))
 ·exact⟨0,k,aq,aq,rfl,rfl,d⟩
 obtain⟨i,z,C,G,rfl,rfl,d⟩:=hrel;have f:=l.t d.o;have u:wr.cell? ⟨w.heap.size,0,none⟩=some (ae aj (a:Int)):=(g.o.ar d.o g.o.lt).cell 0;by_cases p:i<a
 ·have o:=aR i a
  obtain⟨B,x,rfl,_,D⟩:=(R.o.Z f.o f.o.size).get (show i<n by omega);have F:=aR i n;go_wp2_with fail;refine(zi x wr).mono ?_;rintro e y ⟨s,rfl,q⟩;have B2:=d.t q;by_cases We:(s==0)=true
  ·exact acy
  ·exact adU
 have o:=cF i a;by_cases m:(z==own)=true
 ·have m:(z !=own)=false:=by simpa using m
  go_wp2;go_ret;exact⟨_,rfl,f.o⟩
 ·have m:(z !=own)=true:=by simpa using m
  go_wp2;go_ret;exact⟨_,rfl,f.o⟩
def ZZ(N:Nat)(g:aE):Prop:=∀x∈g,lg N x
theorem ZZ.set{g:aE}{v:Int}(h:ZZ N g)(b:lg N v):ZZ N (g.set q v):=fun x a=>by
 rcases List.mem_or_eq_of_mem_set a with a|rfl
 ·exact h x a
 ·exact b
abbrev mo(w:World)(B N:Nat)(A:aC)(n c:Nat):Prop:=Oq w B 227 2 (ZZ N) A n c
theorem mo.at(h:mo w B N A n c)(k:j<n):∃(g:Nat) (x y:Int),A=some ⟨g,0,none⟩/\lg N x/\lg N y/\w.cell? ⟨g,j*2,none⟩=some (ae aj x)/\w.cell? ⟨g,j*2+1,none⟩=some (ae aj y):=by
 obtain⟨i,e,_,f⟩:=h.rq aq aq;obtain⟨g,rfl,_⟩:=h.form aq;obtain rfl:(⟨g,0,none⟩:Addr)=i:=Bm;obtain⟨r,d,a,b⟩:=f j k
 match r,d with
 |[x,y],_=>
  refine⟨g,x,y,rfl,a x aD,a y aD, ?_, ?_⟩
  ·have:=b 0 _ rfl
   rwa [bm,bB]at this
  ·have:=b 1 _ rfl
   rwa [bm,bB]at this
theorem mo.set{v:Int}(h:mo w B N (some ⟨g,0,none⟩) n c)(b:j<n)(d:q<2)(e:lg N v):mo (w.setCell ⟨g,j*2+q,none⟩ (ae aj v)) B N (some ⟨g,0,none⟩) n c:=Oq.set h b d v fun _ _ a=>ZZ.set a e
theorem mo.there(h:mo w B N (some ⟨g,0,none⟩) n c)(f:j<n):w.there g (j*2) 2:=fun i e=>by
 obtain⟨_,x,y,a,_,_,d,b⟩:=mo.at h f;injection a with a
 injection a with a
 subst a;refine⟨?_,Oq.fz h _⟩
 match i,e with
 |0,_=>rw[Nat.add_zero,d];rfl
 |1,_=>rw[b];rfl
theorem mo.row(h:mo w B N (some ⟨g,0,none⟩) n c)(a:j<n)(d:lg N x)(b:lg N y):mo (w.setCells g (j*2) [ae aj x,ae aj y]) B N (some ⟨g,0,none⟩) n c:=
 (h.set (q:=0) a aq d).set (q:=1) a aq b
def PSo(w:World)(B N:Nat)(A:aC)(n c:Nat)(e:Ending)(a:World):Prop:=e= .returned (.slice A n c)/\mo a B N A n c/\Below B w a
theorem aaN(s:G:=by
 refine aG (fun _=>none) aF aF ?_
 refine mSk ?_
 first
  |(intro (nq:aI _);obtain⟨w6,bq⟩:=nq)
  |(rintro w6 ⟨⟨_,bq⟩,rfl⟩)
 try dsimp only
 go_wp2;go_meet;exact⟨⟨_,rfl,ij⟩,⟨bq⟩⟩):G:=s
theorem zL(A:aC)(n c N B:Nat)(w:World)(h:mo w B N A n c)(hB:B<=w.heap.size)(hn:n<=10000):Calls prog 170 #[.slice A n c] w (PSo w B N A n c):=by
 have R:=sH h;clear h;go_enter func170,ntmps170;go_wp2;go_loopg [3,4,5] (n+2) (fun gg v3 _ _ wr=>∃(i:Nat),n+1-i<gg/\v3=ae aj (i:Int)/\(i<=n∨i=1)/\ak (mo wr B N A n c)/\ak (Below B w wr))
 ·exact⟨1,aq,rfl,aq,R,cB⟩
 clear R;obtain⟨i,hg,rfl,hi,R,l⟩:=hrel;by_cases aH:i<n;rotate_left
 ·have Y:=cF i n
  go_wp2;go_ret;exact⟨rfl,R.o,l.o⟩
 have Y:=aR i n;obtain⟨g,rfl,F,_⟩:=R.o.form aq;go_wp2;go_loopg [4,5] (n+2) (fun gg v4 _ wr=>∃(k:Nat),k<gg/\k<=i/\v4=ae aj (k:Int)/\ak (mo wr B N (some ⟨g,0,none⟩) n c)/\ak (Below B w wr))
 ·exact⟨i,aq,aq,rfl,R,l⟩
 clear R l;obtain⟨k,Bt,hk,rfl,R,l⟩:=hrel;go_upto_region 5 with fail;go_cut [28] (fun v wx=>(∃b:Bool,v= .bool b/\(b=true->0<k))/\ak (aA wr wx))
 case first=>
  rcases Nat.eq_zero_or_pos k with rfl|W
  ·exact aaN
  obtain⟨j,z⟩:∃j,j+1=k:=⟨k-1,aq⟩;obtain⟨_,x,y,a,I,J,q,D⟩:=mo.at (R).o (j:=k) aq;injection a with a
  injection a with a
  subst a;obtain⟨_,o,t,a,d,f,r,E⟩:=mo.at (R).o (j:=j) aq;injection a with a
  injection a with a
  subst a;have wk:(k:Int)-1=(j:Int):=aq;have k0:=jB j;have Z:=aR j n;have k3:=aR k n;have HJ:ak (j+1=k):=⟨z⟩;clear z;have k2:=aR 0 k;obtain⟨L0,L1⟩:=lc2 q r;clear q D r E I J d f HJ;by_cases hl:x<o
  ·exact aaN
  ·exact aaN
 case rest=>
 obtain⟨⟨b,rfl,X⟩,L⟩:=hcut
 rename World=>w2
 have s:=sH (R.o.ar L.o);have hsr:=l.o.size;have H:ak (Below B w w2):=⟨l.o.trans (L.o.mono aq)⟩;have U:ak (b=true->0<k):=⟨X⟩;clear X R l L;cases b
 ·go_wp2
  go_roundg (n+1-i)
  ·exact⟨i+1,aq,aQ,aq,s,H⟩
  omega
 have h0:=U.o rfl;obtain⟨j,z⟩:∃j,j+1=k:=⟨k-1,aq⟩;obtain⟨_,x,y,a,I,J,q,D⟩:=mo.at (s).o (j:=k) aq;injection a with a
 injection a with a
 subst a;obtain⟨_,o,t,a,d,f,r,E⟩:=mo.at (s).o (j:=j) aq;injection a with a
 injection a with a
 subst a;have wk:(k:Int)-1=(j:Int):=aq;have k0:=jB j;have Z:=aR j n;have k3:=aR k n;have HJ:ak (j+1=k):=⟨z⟩;clear z;have G:ak (lg N x/\lg N y/\lg N o/\lg N t):=⟨⟨I,J,d,f⟩⟩;clear I J d f U h0;go_upto_region 8 with fail;obtain⟨m,e⟩:=eX (w2.alloc (.cells #[ae aj x,ae aj y] 227));have bw:aA w2 m:=by rw[e];exact av _ _
 have Q:ak (Bx m w2.heap.size #[ae aj x,ae aj y]):=⟨by rw[e];exact Bx.new _ _ _⟩;have K:ak (mo m B N (some ⟨g,0,none⟩) n c):=⟨s.o.ar bw⟩;have iq:=H.o.size;have T:ak (Below B w m):=⟨H.o.trans (bw.mono aq)⟩;have Kp:g<w2.heap.size:=s.o.lt.2;have r:=au r bw;have E:=au E bw;have q:=au q bw;have D:=au D bw
 rw[<-e];clear e bw s H;have u:k<n:=JI;have C:j<n:=JI;have S:=sH (mo.there K.o u);have M:=sH (mo.row K.o u G.o.2.2.1 G.o.2.2.2);have V:ak (Below B w (m.setCells g (k*2) [ae aj o,ae aj t])):=⟨dA F _ _ _ T.o⟩;have O:ak (Bx (m.setCells g (k*2) [ae aj o,ae aj t]) w2.heap.size #[ae aj x,ae aj y]):=⟨Bx.uq aq _ _ Q.o⟩;go_upto_region 9 with(refine wpList_store_mid rfl 227 (.tmp 42) (.tmp 41) rfl g (k*2) #[ae aj o,ae aj t] rfl rfl S.o aF dK ?_)
 obtain⟨P,p⟩:=eX (m.setCells g (k*2) [ae aj o,ae aj t]);rw[<-p]at M V O;rw[<-p];clear p K T Q S q D r E;have d0:P.cell? ⟨w2.heap.size,0,none⟩=some (ae aj x):=O.o.cell 0;have d1:P.cell? ⟨w2.heap.size,1,none⟩=some (ae aj y):=O.o.cell 1;have T5:=sH (mo.there M.o C);have R5:=sH (mo.row M.o C G.o.1 G.o.2.1);have B5:ak (Below B w (P.setCells g (j*2) [ae aj x,ae aj y])):=⟨dA F _ _ _ V.o⟩
 try simp only[Act.put]
 go_wp2_with (refine wpList_store_mid rfl 227 (.tmp 47) (.tmp 46) rfl g (j*2) #[ae aj x,ae aj y] rfl rfl T5.o aF dK ?_);go_roundg (k)
 ·exact⟨j,JI,JI,ke,R5,B5⟩
 omega
theorem Lm{size:Nat}{vs:List Value}{P:Program}{t:TypeId}{bytes:Nat}(T:aS P t e size bytes)(h:aB w B e size A n c vs)(p:k<=n)(y:0<n)(l:Int)(r:l=k):
 (∀a:World,(Instr.slice t (.slice A n c) none (some (ae aj l)) none).run P a= .ok (.slice A k c) a)/\aB w B e size A k c (vs.take (k*size)):=by
 subst r;have hle:=aB.le h;obtain⟨g,m,i,j⟩:=aB.form h aq;subst m;refine⟨fun a=> ?_, ?_⟩
 ·rw[run_slice_h a t _ _ _ (cP T) .i64 k aq aq,cQ T]
  have f:¬c=0:=aq;simp[Result.andThen,sliced,f,Addr.add]
 ·have d:k*size<=n*size:=Nat.mul_le_mul_right _ p
  rcases h.2 with⟨b,z⟩|⟨s,cap,cur,b,q,u,C,o,v,x⟩
  ·cases b
  ·injection b with e1 e2 e3
   refine⟨by rw[List.length_take,h.1];omega, .inr ⟨s,cap,cur,by rw[e1,e3],q,u,aq,o,v, ?_⟩⟩;rw[<-x,List.take_take]
   congr 1
   omega
theorem TOp:aS prog 223 225 2 16:=bD underlying223 (z:= .agg #[ae aj 0, .int .i32 0]) aF rfl aq aq
theorem TPr:aS prog 154 227 2 16:=bD underlying154 (z:= .agg #[ae aj 0,ae aj 0]) aF rfl aq aq
theorem Qp.cut(h:Qp w B N A n c)(q:k<=n)(f:0<n)(l:Int)(d:l=k):(∀b:World,(Instr.slice 223 (.slice A n c) none (some (ae aj l)) none).run prog b= .ok (.slice A k c) b)/\Qp w B N A k c:=by
 obtain⟨a,r,p,m⟩:=h;obtain⟨i,g⟩:=Lm TOp m q f l d;refine⟨i,a.take k,by rw[List.length_take];omega,fun e o=>p e (List.mem_of_mem_take o), ?_⟩;have e:(a.flatMap ID).take (k*2)=(a.take k).flatMap ID:=by
  have j:a=a.take k++a.drop k:=(List.take_append_drop k a).symm
  conv=>lhs;rw[j,List.flatMap_append]
  rw[List.take_append_of_le_length Xy,List.take_of_length_le Xy]
 rw[<-e];exact g
structure JV(w0 w:World)(N:Nat)(A:aC)(n c:Nat)(C:aC)(m d:Nat):Prop where
 be:aA w0 w
 pr:mo w w0.heap.size N A n c
 op:Qp w w0.heap.size N C m d
theorem JV.ar(h:JV w0 w N A n c C m d)(a:aA w b):JV w0 b N A n c C m d:=⟨h.be.trans (a.mono h.be.size),h.pr.ar a,h.op.ar a⟩
theorem JV.Ob{c':Nat}{e:aC}(h:JV w0 w N A n c C m d){gs:List aE}(q:gs.length=n)(p:∀g∈gs,g.length=2/\ZZ N g)(j:aB w w0.heap.size 227 2 A n c (gs.flatMap dZ))(f:lg N x/\lg N y)(o:aB a w0.heap.size 227 2 e (n+1) c' (gs.flatMap dZ++dZ [x,y]))(k:Below w0.heap.size w a)(r:w.grownBy a (Value.slice A n c).ownBlock):JV w0 a N e (n+1) c' C m d:=by
 obtain⟨l,s,t,i⟩:=h.op;refine⟨h.be.trans k,Oq.more q p rfl (fun z b=> ?_) o,⟨l,s,t,aB.kept i r (bZ i j bQ) (aB.dN j)⟩⟩;simp at b;rcases b with rfl|rfl
 ·exact f.1
 ·exact f.2
theorem JV.Kd{f:World}{k:aC}{x:Int×Int}(h:JV w0 w N A n c C m d){a:List (Int×Int)}(q:a.length=m)(p:∀e∈a,lg N e.1)(j:aB w w0.heap.size 225 2 C m d (a.flatMap ID))(s:lg N x.1)(o:aB f w0.heap.size 225 2 k (m+1) g (a.flatMap ID++ID x))(l:Below w0.heap.size w f)(r:w.grownBy f (Value.slice C m d).ownBlock):JV w0 f N A n c k (m+1) g:=by
 obtain⟨gs,t,u,i⟩:=h.pr;refine⟨h.be.trans l,⟨gs,t,u,aB.kept i r (bZ i j bQ) (aB.dN j)⟩,⟨a++[x],by simp[q],fun e b=> ?_,by rw[List.flatMap_append];simpa using o⟩⟩;rcases List.mem_append.1 b with b|b
 ·exact p e b
 ·obtain rfl:=List.mem_singleton.1 b
  exact s
def PPr(w:World)(N:Nat)(e:Ending)(a:World):Prop:=∃(A:aC) (n c:Nat),n<=N/\e= .returned (.slice A n c)/\mo a w.heap.size N A n c/\aA w a
theorem Fh(A C:aC)(n c d:Nat)(ts:aE)(w:World)(h:aL .i32 w A n c ts)(k:Iw w w.heap.size .i64 aN C n)(hn:n<=10000):Calls prog 90 #[.slice A n c, .slice C n d] w (PPr w n):=by
 have R:=sH h;have S:=sH k;go_enter func90,ntmps90;go_wp2;go_loopg [5,6,7,8,9] (n+1) (fun gg v5 v6 v7 _ _ wr=>∃(i q m:Nat) (D E:aC) (j b:Nat),n-i<gg/\i<=n/\q<=i/\m<=i/\v5= .slice D q j/\v6= .slice E m b/\v7=ae aj (i:Int)/\ak (JV w wr n D q j E m b))
 ·exact⟨0,0,0,none,none,0,0,aq,aq,aq,aq,rfl,rfl,rfl,⟨⟨Below.refl _ _,Oq.nil _ _ _ _ _,[],rfl,aD,aB.nil _ _ _ _⟩⟩⟩
 obtain⟨i,q,m,D,E,j,b,hg,hi,hq,hm,rfl,rfl,rfl,P⟩:=hrel;by_cases o:i<n;rotate_left
 ·have i4:=cF i n
  have l:=P;go_wp2_with fail;refine(zL _ _ _ n w.heap.size _ l.o.pr l.o.be.size aq).mono ?_;rintro e w9 ⟨rfl,U,Z⟩;have O9:=sH U;have B9:=sH (l.o.be.trans Z);go_wp2;go_ret;exact⟨_,_,_,aq,rfl,O9.o,B9.o⟩
 have i4:=aR i n;obtain⟨ad,z,rfl,hz,e0⟩:=(R.o.ar P.o.be).iw.get o;obtain⟨iE,fA⟩:=uW hz;have OF:=sH (eZ z iE fA wr);go_wp2_with fail;refine OF.o.mono ?_;rintro e H ⟨rfl,b2⟩;have P2:=sH (P.o.ar b2);generalize aZ z=p at*;go_upto_region 9 with fail;obtain⟨B,f⟩:=eX (H.alloc (.cells #[ae aj p.iZ,ae aj p.bM,ae aj p.vj,ae aj p.gF,ae aj p.join,ae aj p.word, .int .i32 p.fw, .int .i32 p.pair, .bool p.opens] 128));have a:ak (JV w B n D q j E m b):=⟨by rw[f];exact P2.o.ar (av _ _)⟩;have V:ak (Bx B H.heap.size #[ae aj p.iZ,ae aj p.bM,ae aj p.vj,ae aj p.gF,ae aj p.join,ae aj p.word, .int .i32 p.fw, .int .i32 p.pair, .bool p.opens]):=⟨by rw[f];exact Bx.new _ _ _⟩;rw[<-f];clear f;have d7:B.cell? ⟨H.heap.size,7,none⟩=some (.int .i32 p.pair):=V.o.cell 7;have d8:B.cell? ⟨H.heap.size,8,none⟩=some (.bool p.opens):=V.o.cell 8;generalize H.heap.size=r at*;obtain⟨adc,x,rfl,_,f0⟩:=(S.o.Z a.o.be a.o.be.size).get o;obtain⟨gP,z2,ea,_,e0⟩:=(R.o.ar a.o.be).iw.get o;injection ea with ea
 subst ea;have HI:ak (lg n (i:Int)):=⟨⟨aq,aq⟩⟩;by_cases Q:(x==14)=true;rotate_left
 ·have Q:(x !=14)=true:=by simpa using Q
  go_wp2;go_roundg (n-i)
  ·exact⟨i+1,q,m,D,E,j,b,aq,aq,aq,aq,rfl,rfl,aQ,a⟩
  omega
 have Q:(x !=14)=false:=by simpa using Q
 by_cases hp:(p.pair==0)=true
 ·go_wp2
  go_roundg (n-i)
  ·exact⟨i+1,q,m,D,E,j,b,aq,aq,aq,aq,rfl,rfl,aQ,a⟩
  omega
 have hp:(p.pair==0)=false:=Pk;cases T:p.opens;rotate_left
 ·rw[T]at d8
  by_cases K:(m:Int)=63
  ·have G:((m:Int)==63)=true:=by simp[K]
   have l:=a;go_wp2_with fail;refine(zL _ _ _ n w.heap.size _ l.o.pr l.o.be.size aq).mono ?_;rintro e w9 ⟨rfl,U,Z⟩;have O9:=sH U;have B9:=sH (l.o.be.trans Z);go_wp2;go_ret;exact⟨_,_,_,aq,rfl,O9.o,B9.o⟩
  have G:((m:Int)==63)=false:=by simpa using K
  obtain⟨es,W,k2,Y⟩:=a.o.op;have I:=sH Y;have F:ak (es.length=m/\∀e∈es,lg n e.1):=⟨⟨W,k2⟩⟩;have X:=a.o.be.size;go_wp2_with (at_builtin;refine bk TOp rfl (.tmp 41) (.tmp 48) rfl rfl (aB.alloc I.o _) rfl (news:=ID ((i:Int),z2)) rfl (lz _ (ID ((i:Int),z2)) _) (fun u J=>by simp[ID]at J;rcases J with rfl|rfl<;>rfl) aq cA ?_;intro O c8 w8 t N r _;have v:=sH ((a.o.ar (av _ _)).Kd F.o.1 F.o.2 (aB.alloc I.o _) HI.o t N r);clear t N r);go_roundg (n-i)
  ·exact⟨i+1,q,m+1,D,O,j,c8,aq,aq,aq,aq,rfl,rfl,aQ,v⟩
  omega
 rw[T]at d8;have X4:=V;go_wp2_with fail;refine(Tq E m b n w.heap.size p.pair B a.o.op aq).mono ?_;rintro e w4 ⟨k,rfl,hk,b4⟩;have M:=sH (a.o.ar b4);by_cases QH:0<=k;rotate_left
 ·go_wp2
  go_roundg (n-i)
  ·exact⟨i+1,q,m,D,E,j,b,aq,aq,aq,aq,rfl,rfl,aQ,M⟩
  omega
 obtain⟨k,rfl⟩:∃k':Nat,k=k':=⟨k.toNat,aq⟩;obtain⟨_,Xd⟩:=hk;have L:k<m:=aq;obtain⟨ge,y,s,rfl,hy,e0,e1⟩:=M.o.op.at L;obtain⟨gs,W,k2,Y⟩:=M.o.pr;have I:=sH Y;have F:ak (gs.length=q/\∀g∈gs,g.length=2/\ZZ n g):=⟨⟨W,k2⟩⟩;have HY:=sH hy;have X:=M.o.be.size;go_upto_region 16 with(at_builtin;refine bk TPr rfl (.tmp 56) (.tmp 64) rfl rfl (aB.alloc I.o _) rfl (news:=dZ [y,(i:Int)]) rfl (lz _ (dZ [y,(i:Int)]) _) (fun u J=>by simp[dZ]at J;rcases J with rfl|rfl<;>rfl) aq cA ?_;intro O c8 w8 t N r _;have v:=sH ((M.o.ar (av _ _)).Ob F.o.1 F.o.2 (aB.alloc I.o _) ⟨HY.o,HI.o⟩ t N r);clear t N r)
 obtain⟨fe,T⟩:=v.o.op.cut (show k<=m by omega) aq (k:Int) rfl;have P9:ak (JV w w8 n O (q+1) c8 (some ⟨ge,0,none⟩) k b):=⟨⟨v.o.be,v.o.pr,T⟩⟩;go_wp2;go_roundg (n-i)
 ·exact⟨i+1,q+1,k,O,_,c8,b,aq,aq,aq,aq,rfl,rfl,aQ,P9⟩
 omega
structure Ol(w0 w:World)(B2 n:Nat)(A:aC)(c:Nat)(P:aC)(q pc:Nat):Prop where
 be:aA w0 w
 ow:Ow w w0.heap.size 3 .i64 aN A n c
 lt:∀g,A=some ⟨g,0,none⟩->g<B2
 op:mo w B2 n P q pc
theorem Ol.ar{e:World}{b:Nat}{P:aC}(h:Ol w0 w b n A c P q d)(a:aA w e):Ol w0 e b n A c P q d:=⟨h.be.trans (a.mono h.be.size),h.ow.ar a,h.lt,Oq.ar h.op a⟩
theorem Ol.set{a b:Nat}{P:aC}(h:Ol w0 w a n (some ⟨g,0,none⟩) c P q b)(k:Nat)(v:Int):Ol w0 (w.setCell ⟨g,k,none⟩ (ae aj v)) a n (some ⟨g,0,none⟩) c P q b:=
 ⟨Below.setCell h.be (p:=⟨g,k,none⟩) h.ow.lt.1 _,h.ow.set k trivial,h.lt,Oq.mE h.op (Oq.apart h.op (h.lt g rfl)) k _⟩
theorem adO(s:G:=by
 subst hb
 obtain⟨u,_,u0⟩:=V4.o.ow.get kV;have f0:=V4.o.ow.fz k;have V5:=sH (V4.o.set k cl);go_wp2;go_roundg (n-k)
 ·exact⟨k+1,aq,aq,aQ,V5⟩
 omega):G:=s
theorem Ja(A C:aC)(n c d:Nat)(lv G:Int)(ts:aE)(w:World)(h:aL .i32 w A n c ts)(k:Iw w w.heap.size .i64 aN C n)(hn:n<=10000):Calls prog 166 #[.slice A n c, .slice C n d,ae aj lv,ae aj G] w (Nw w 3 .i64 aN n):=by
 have R:=sH h;have S:=sH k;obtain⟨xs,hx,_⟩:=k;have XS:=sH hx;go_enter func166,ntmps166;go_upto_if 23 with fail;go_cut [9] (fun v wx=>(∃z:Int,v=ae aj z)/\w=wx)
 case first=>
  go_wp2_with fail
  all_goals
   go_meet;exact⟨⟨_,rfl⟩,rfl⟩
 case rest=>
 obtain⟨⟨own,rfl⟩,rfl⟩:=hcut;go_upto_region 8 with(at_builtin;refine gT nA rfl (.tmp 24) (.tmp 25) rfl rfl (Own.nil w w.heap.size 3 .i64) rfl XS.o aq cr ?_;intro T t L o1 b1;have O1:ak (Ow L w.heap.size 3 .i64 aN T n t):=⟨⟨_,by simpa using o1,fun _ _=>trivial⟩⟩;have I:=sH b1;clear o1 b1)
 go_wp2_with fail;refine(Fh A C n c d ts L (R.o.ar I.o) (S.o.Z I.o I.o.size) hn).mono ?_;rintro e w2 ⟨P,q,H,hq,rfl,op,b2⟩;have V:ak (Ol w w2 L.heap.size n T t P q H):=⟨⟨I.o.trans (b2.mono I.o.size),O1.o.ar b2,fun g e=>by have:=O1.o;rw[e]at this;exact this.lt.2,op⟩⟩;generalize L.heap.size=K at*;go_wp2;go_loopg [12,13,14,15] (q+1) (fun gg Z _ _ _ wr=>∃(i:Nat),q-i<gg/\i<=q/\Z=ae aj (i:Int)/\ak (Ol w wr K n T t P q H))
 ·exact⟨0,aq,aq,rfl,V⟩
 obtain⟨i,hg,hi,rfl,V⟩:=hrel;by_cases f:i<q;rotate_left
 ·have i4:=cF i q
  go_wp2;go_ret;exact⟨_,_,rfl,V.o.ow,V.o.be⟩
 have i4:=aR i q;obtain⟨gp,x,y,rfl,px,py,F,E⟩:=mo.at V.o.op f;obtain⟨xn,rfl⟩:∃k:Nat,x=k:=⟨x.toNat,Bk⟩;obtain⟨yn,rfl⟩:∃k:Nat,y=k:=⟨y.toNat,by have:=py.1;omega⟩;have W:xn<n:=Bn;have M:yn<n:=by have:=py.2;omega
 obtain⟨g,rfl,ef,fL⟩:=V.o.ow.form aq;go_wp2_with fail;refine(abq _ n t xn yn own G _ V.o.ow.iw W M hn).mono ?_;rintro e w5 ⟨cl,rfl,b5⟩;have V2:=sH (V.o.ar b5);by_cases hc:(cl==0)=true
 ·go_wp2
  go_roundg (q-i)
  ·exact⟨i+1,aq,aq,aQ,V2⟩
  omega
 have hc:(cl==0)=false:=by simpa using hc
 go_wp2;go_loopg [14,15] (3) (fun gg X _ wr=>∃(s:Nat),2-s<gg/\s<=2/\X=ae aj (s:Int)/\ak (Ol w wr K n (some ⟨g,0,none⟩) t (some ⟨gp,0,none⟩) q H))
 ·exact⟨0,aq,aq,rfl,V2⟩
 obtain⟨s,Kp,hs,rfl,V⟩:=hrel;have xi:s=2∨s=0∨s=1:=aq;rcases xi with rfl|rfl|rfl
 ·go_wp2
  go_roundg (q-i)
  ·exact⟨i+1,aq,aq,aQ,V⟩
  omega
 ·obtain⟨j,x,y,a,px,py,F,E⟩:=mo.at V.o.op f
  injection a with a
  injection a with a
  subst a;obtain⟨z,p,m⟩:∃z:Nat,x=z/\z<n:=⟨(x).toNat,VR,Vz⟩;rw[p]at F;have J:=aR z n;obtain⟨u,_,u0⟩:=V.o.ow.get m;have f0:=V.o.ow.fz z;have B:=sH (V.o.set z cl);go_upto_region 18 with fail;obtain⟨w6,b⟩:=eX (wr.setCell ⟨g,z,none⟩ (ae aj cl));rw[<-b]at B;rw[<-b];clear b;obtain⟨j,x,y,a,px,py,F,E⟩:=mo.at B.o.op f;injection a with a
  injection a with a
  subst a;obtain⟨z2,p,Q⟩:∃z:Nat,x=z/\z<n:=⟨(x).toNat,VR,Vz⟩;rw[p]at F;go_wp2;go_loopg [15] (n+1) (fun gg D wr=>∃(k:Nat),n-k<gg/\k<=n/\D=ae aj (k:Int)/\ak (Ol w wr K n (some ⟨g,0,none⟩) t (some ⟨gp,0,none⟩) q H))
  ·exact⟨z2+1,aq,aq,ke,B⟩
  obtain⟨k,Bt,hk,rfl,V⟩:=hrel;by_cases kV:k<n;rotate_left
  ·have Y:=cF k n
   go_wp2;go_roundg (2-0)
   ·exact⟨0+1,aq,aq,ke,V⟩
   omega
  have Y:=aR k n;obtain⟨U,r,rfl,O,t0⟩:=(R.o.ar V.o.be).iw.get kV;obtain⟨o,l⟩:=uW O;have OF:=sH (eZ r o l wr);go_wp2_with fail;refine OF.o.mono ?_;rintro e w7 ⟨rfl,N⟩;have V4:=sH (V.o.ar N);generalize(aZ r).iZ=bd;by_cases hb:bd=9
  ·exact adO
  ·have hb:(bd==9)=false:=by simpa using hb
   go_wp2;go_roundg (2-0)
   ·exact⟨0+1,aq,aq,ke,V4⟩
   omega
 ·obtain⟨j,x,y,a,px,py,F,E⟩:=mo.at V.o.op f
  injection a with a
  injection a with a
  subst a;obtain⟨z,p,m⟩:∃z:Nat,y=z/\z<n:=⟨(y).toNat,VR,Vz⟩;rw[p]at E;have J:=aR z n;obtain⟨u,_,u0⟩:=V.o.ow.get m;have f0:=V.o.ow.fz z;have B:=sH (V.o.set z cl);go_upto_region 18 with fail;obtain⟨w6,b⟩:=eX (wr.setCell ⟨g,z,none⟩ (ae aj cl));rw[<-b]at B;rw[<-b];clear b;obtain⟨j,x,y,a,px,py,F,E⟩:=mo.at B.o.op f;injection a with a
  injection a with a
  subst a;obtain⟨z2,p,Q⟩:∃z:Nat,y=z/\z<n:=⟨(y).toNat,VR,Vz⟩;rw[p]at E;go_wp2;go_loopg [15] (n+1) (fun gg D wr=>∃(k:Nat),n-k<gg/\k<=n/\D=ae aj (k:Int)/\ak (Ol w wr K n (some ⟨g,0,none⟩) t (some ⟨gp,0,none⟩) q H))
  ·exact⟨z2+1,aq,aq,ke,B⟩
  obtain⟨k,Bt,hk,rfl,V⟩:=hrel;by_cases kV:k<n;rotate_left
  ·have Y:=cF k n
   go_wp2;go_roundg (2-1)
   ·exact⟨1+1,aq,aq,ke,V⟩
   omega
  have Y:=aR k n;obtain⟨U,r,rfl,O,t0⟩:=(R.o.ar V.o.be).iw.get kV;obtain⟨o,l⟩:=uW O;have OF:=sH (eZ r o l wr);go_wp2_with fail;refine OF.o.mono ?_;rintro e w7 ⟨rfl,N⟩;have V4:=sH (V.o.ar N);generalize(aZ r).iZ=bd;by_cases hb:bd=9
  ·exact adO
  ·have hb:(bd==9)=false:=by simpa using hb
   go_wp2;go_roundg (2-1)
   ·exact⟨1+1,aq,aq,ke,V4⟩
   omega
theorem Zf(A:aC)(n c:Nat)(d:Int)(ts:aE)(w:World)(h:aL .i32 w A n c ts)(o:n<=10000):Calls prog 85 #[.slice A n c,ae aj d] w (PI w):=by
 have R:=sH h;by_cases h1:(d==1)=true
 ·go_enter func85,ntmps85
  go_wp2;go_ret;exact⟨_,rfl,Below.refl _ _⟩
 have h1:(d==1)=false:=wU;by_cases h2:(d==2)=true
 ·go_enter func85,ntmps85
  go_wp2;go_ret;exact⟨_,rfl,Below.refl _ _⟩
 have h2:(d==2)=false:=yB;go_enter func85,ntmps85;go_wp2_with fail;refine(CL A n c ts w R.o aq).mono ?_;rintro e i ⟨D,f,rfl,a,m⟩;have j:=sH a.iw;have g:=sH m;have hle:=a.le;go_wp2_with fail;refine(RU D n f i j.o hle.1 aq).mono ?_;rintro e p ⟨z,b,rfl,l⟩;have k:=g.t l;go_wp2;go_ret;exact⟨_,rfl,k.o⟩
def PSq(w:World)(B:Nat)(A:aC)(n c:Nat)(e:Ending)(a:World):Prop:=e= .returned (.slice A n c)/\Ow a B 3 .i64 aN A n c/\Below B w a
structure SqR(w0 w:World)(i:Nat)(D:aC)(dc:Nat)(E:aC)(ec:Nat):Prop where
 be:aA w0 w
 sg:Ow w w0.heap.size 21 .i32 (Wf .i32) D i dc
 cl:Ow w w0.heap.size 3 .i64 aN E i ec
theorem SqR.ar{c:World}{i b:Nat}{D E:aC}(h:SqR w0 w i D d E b)(a:aA w c):SqR w0 c i D d E b:=⟨h.be.trans (a.mono h.be.size),h.sg.ar a,h.cl.ar a⟩
theorem wF{f:Nat}{b:TypeId}{q k:IntKind}{Q:Int->Prop}(h:Ow w B e k Q A n c)(j:Ow w f b q P C m d)(a:e≠b):bO A C:=by
 obtain⟨gs,g,o⟩:=h;obtain⟨xs,i,l⟩:=j;exact bZ g i a
theorem aa3(TA CA s u:aC)(n tc cc m sc K B:Nat)(lv a o:Int)(ts:aE)(w:World)(h:aL .i32 w TA n tc ts)(hc:Iw w w.heap.size .i64 aN CA n)(hs:Iw w w.heap.size .i64 (lg n) s m)(ho:Ow w B 3 .i64 aN u n K)(hB:B<=w.heap.size)(hn:n<=5000)(hm:m<=4000)(Y:∀g,u=some ⟨g,0,none⟩->∀t,s=some t->0<m->t.block≠g):
 Calls prog 88 #[.slice TA n tc, .slice CA n cc, .agg #[.slice s m sc,ae aj lv,ae aj a,ae aj o], .slice u n K] w (PSq w B u n K):=by
 obtain⟨G,aP⟩:=eX (w.alloc (.cells #[.slice s m sc,ae aj lv,ae aj a,ae aj o] 153));have L:ak (aA w G):=⟨lY⟩;have c:ak (Bx G w.heap.size #[.slice s m sc,ae aj lv,ae aj a,ae aj o]):=⟨qR⟩;have R:=sH h;have S:=sH hc;have Q:=sH hs;have O0:=sH ho;have HSB:=sH Y;go_enter func88,ntmps88;go_upto_region 1 with fail;rw[<-aP];clear aP;go_wp2;go_loopg [9,10,11] (m+1) (fun gg v9 v10 v11 wr=>∃(i:Nat) (D E:aC) (O W:Nat),m-i<gg/\i<=m/\v9= .slice D i O/\v10= .slice E i W/\v11=ae aj (i:Int)/\ak (SqR G wr i D O E W))
 ·exact⟨0,none,none,0,0,aq,aq,rfl,rfl,rfl,⟨⟨Below.refl _ _,Ow.nil _ _ _ _ _,Ow.nil _ _ _ _ _⟩⟩⟩
 obtain⟨i,D,E,O,W,hg,hi,rfl,rfl,rfl,V⟩:=hrel;have C:=L.t V.o.be;obtain⟨J,v,H,F⟩:=(c.o.ar V.o.be c.o.lt).q4;by_cases f:i<m
 ·have i4:=aR i m
  obtain⟨ads,x,rfl,px,s0⟩:=(Q.o.Z C.o C.o.size).get f;obtain⟨q,rfl⟩:∃k:Nat,x=k:=⟨x.toNat,Bk⟩;have b:q<n:=Bn;have p:=aR q n;obtain⟨adt,r,rfl,hr,t0⟩:=(R.o.ar C.o).iw.get b;obtain⟨adc,y,rfl,_,c0⟩:=(S.o.Z C.o C.o.size).get b;have HR:=sH hr;have X:=V.o.be.size;have hE:bO E D:=wF V.o.cl V.o.sg bQ;have hD:=V.o.sg.head;go_wp2_with (at_builtin;refine dE UR rfl (.tmp 21) (.tmp 30) rfl rfl (V.o.sg.alloc _) rfl (aX _ _ _) HR.o aq cA ?_);intro A8 c8 w8 o8 b8 g8;have E8:=sH ((V.o.cl.alloc _).kept g8 hE hD);have O8:=sH o8;have U:ak (aA G w8):=⟨(V.o.be.alloc aq _).trans b8⟩;have l:=L.t U.o;have afO:=U.o.size;obtain⟨J,v,H,F⟩:=(c.o.ar U.o c.o.lt).q4;obtain⟨afT,x,he,px,s0⟩:=(Q.o.Z l.o l.o.size).get f;obtain rfl:=Option.some.inj he;obtain⟨A,rfl⟩:∃k:Nat,x=k:=⟨x.toNat,Bk⟩;have b:A<n:=Bn;have p:=aR A n;obtain⟨Jq,y2,he2,_,c0⟩:=(S.o.Z l.o l.o.size).get b;obtain rfl:=Option.some.inj he2;have lP:bO A8 E:=wF O8.o E8.o bQ;have hD2:=E8.o.head;go_wp2_with (at_builtin;refine dE nA rfl (.tmp 32) (.tmp 41) rfl rfl (E8.o.alloc _) rfl (aX _ _ _) trivial aq cA ?_);intro A9 c9 w9 o9 b9 g9;have E9:=sH ((O8.o.alloc _).kept g9 lP hD2);have O9:=sH o9;have B9:ak (aA G w9):=⟨(U.o.alloc aq _).trans b9⟩;go_wp2;go_roundg (m-i)
  ·exact⟨i+1,A8,A9,c8,c9,aq,aq,rfl,rfl,rfl,⟨⟨B9.o,E9.o,O9.o⟩⟩⟩
  omega
 obtain rfl:i=m:=aq;have Wk:=V.o.cl.iw;have X:=V.o.be.size;go_wp2_with fail;refine(XY E i W a wr Wk hm).mono ?_;rintro e w2 ⟨A2,c2,rfl,o2,b2⟩;have O2:=sH o2;have B2:=sH (V.o.be.trans (b2.mono V.o.be.size));have S2:=sH (V.o.sg.ar b2);have iq:=B2.o.size;obtain⟨J,v,H,F⟩:=(c.o.ar B2.o c.o.lt).q4;go_wp2_with fail;obtain⟨sg,gx,gw⟩:=S2.o;refine(Ja D A2 i O c2 lv a sg w2 (Own.jv gx gw) O2.o.iw aq).mono ?_;rintro e w3 ⟨A3,c3,rfl,o3,b3⟩;have O3:=sH o3;have Z:=sH (B2.o.trans (b3.mono iq));have xi:=Z.o.size;obtain⟨J,v,H,F⟩:=(c.o.ar Z.o c.o.lt).q4;go_wp2_with fail;refine(Jy A3 i c3 lv a o w3 O3.o.iw aq).mono ?_;rintro e w4 ⟨A4,c4,rfl,o4,b4⟩;have O4:=sH o4;have B4:=sH (Z.o.trans (b4.mono xi));have IY:=B4.o.size;obtain⟨J,v,H,F⟩:=(c.o.ar B4.o c.o.lt).q4;go_wp2_with fail;refine(Dj A4 i c4 lv w4 O4.o.iw aq).mono ?_;rintro e w5 ⟨A5,c5,rfl,o5,b5⟩;have O5:=sH o5;have B5:=sH (B4.o.trans (b5.mono IY));have sM:=B5.o.size;have X5:=sH (c.o.ar B5.o c.o.lt);have d:=L.t B5.o;have QW5:=Q.o.Z d.o d.o.size;have OW5:=sH (O0.o.ar d.o);obtain⟨g,Cn,Nm,Kp,tD,pP⟩:∃g,(0<i->u=some ⟨g,0,none⟩)/\B<=g/\g≠w.heap.size/\nN g s i/\nN g A5 i:=by
  rcases Nat.eq_zero_or_pos i with M|M
  ·exact⟨B+w.heap.size+1,aq,aq,aq,fun h2=>by omega,fun h2=>by omega⟩
  ·obtain⟨t,z,e1,e2,_⟩:=Q.o.get M
   have sj:0<n:=by have:=e2.1;have:=e2.2;omega
   obtain⟨g,e3,e4,e5⟩:=O0.o.form sj;obtain⟨g5,e6,e7,e8⟩:=O5.o.form M;have:=L.o.size;refine⟨g,fun _=>e3,e4,aq,fun h2 t P=>HSB.o g e3 t P M,fun h2 t P=> ?_⟩;rw[e6]at P;obtain rfl:=Option.some.inj P;show g5≠g;omega
 have H0:=sH Cn;obtain⟨qs,qa,qp⟩:=QW5;obtain⟨ls,la,lp⟩:=O5.o.iw;have QA:=sH qa;have LA:=sH la;have QP:=sH qp;have LP:=sH lp;go_wp2;go_loopg [13] (i+1) (fun gg jr wr=>∃j:Nat,i-j<gg/\j<=i/\jr=ae aj (j:Int)/\ak (Ow wr B 3 .i64 aN u n K)/\ak (cW g w5 wr))
 ·exact⟨0,aq,aq,rfl,OW5,⟨cW.refl _ _⟩⟩
 obtain⟨j,hg,hj,rfl,T,I⟩:=hrel;obtain⟨J,v,H,F⟩:=(X5.o.kE aq I.o).q4;by_cases f:j<i
 ·have j4:=aR j i
  obtain rfl:=H0.o aq;have Q9:Iw _ _ .i64 (lg n) s i:=⟨qs,QA.o.kE tD I.o,QP.o⟩;have L9:Iw _ _ .i64 aN A5 i:=⟨ls,LA.o.kE pP I.o,LP.o⟩;obtain⟨ads,x,rfl,px,s0⟩:=Q9.get f;obtain⟨q,rfl⟩:∃k:Nat,x=k:=⟨x.toNat,Bk⟩;have b:q<n:=Bn;have p:=aR q n;obtain⟨qx,y,rfl,_,l0⟩:=L9.get f;have fz:=T.o.fz q;obtain⟨z,_,z0⟩:=T.o.get b;have N:=sH (T.o.set q (y:=y) trivial);have NB:=sH (I.o.set q (ae aj y));go_wp2;go_region_law (fail)
  all_goals
   try simp only[Act.put]
   go_wp2
   (go_roundg (i-j)<;>first|omega|exact⟨j+1,aq,aq,rfl,N.o|>fun h=>⟨h.ar (Below.refl _ _).drew⟩,⟨NB.o.trans (cW.of (Below.refl _ _).drew)⟩⟩)
 obtain rfl:j=i:=aq;go_wp2;go_ret;exact⟨rfl,T.o,(d.o.mono hB).trans (I.o.below Nm (by have:=d.o.size;omega))⟩
def aci(w:World)(n:Nat)(e:Ending)(a:World):Prop:=∃x:Int,e= .returned (ae aj x)/\(x= -1∨lg n x)/\a=w
theorem Rs(A:aC)(n c N B:Nat)(z:Int)(w:World)(h:mo w B N A n c)(m:n<=10000):Calls prog 92 #[.slice A n c,ae aj z] w (aci w N):=by
 have R:=sH h;go_enter func92,ntmps92;go_wp2;go_loopg [5] (n+1) (fun gg e wr=>∃(i:Nat),n-i<gg/\i<=n/\e=ae aj (i:Int)/\wr=w)
 ·exact⟨0,aq,aq,rfl,rfl⟩
 obtain⟨i,k,p,rfl,rfl⟩:=hrel;by_cases a:i<n;rotate_left
 ·have d:=cF i n
  go_wp2;go_ret;exact⟨_,rfl, .inl rfl,rfl⟩
 have d:=aR i n;obtain⟨g,x,y,rfl,j,q,l,o⟩:=mo.at R.o a;have f:=sH j;by_cases b:(y==z)=true
 ·go_wp2
  go_ret;exact⟨_,rfl, .inr f.o,rfl⟩
 have b:(y==z)=false:=by simpa using b
 go_wp2;go_roundg (n-i)
 ·exact⟨i+1,aq,aq,aQ,rfl⟩
 omega
theorem Wd(A:aC)(n c a b:Nat)(ts:aE)(w:World)(h:aL .i32 w A n c ts)(p:a<=b)(E:b<=n)(F:n<=10000):Calls prog 91 #[.slice A n c, .agg #[ae aj (a:Int),ae aj (b:Int)]] w (PI w):=by
 obtain⟨d,aP⟩:=eX (w.alloc (.cells #[ae aj (a:Int),ae aj (b:Int)] 60));have l:ak (aA w d):=⟨lY⟩;have e:ak (Bx d w.heap.size #[ae aj (a:Int),ae aj (b:Int)]):=⟨qR⟩;have R:=sH h;go_enter func91,ntmps91;go_upto_region 1 with fail;rw[<-aP];clear aP;have H:d.cell? ⟨w.heap.size,0,none⟩=some (ae aj (a:Int)):=e.o.cell 0;go_wp2;go_loopg [5,6] (n+1) (fun gg u _ wr=>∃(i:Nat),n-i<gg/\i<=b/\u=ae aj (i:Int)/\ak (aA d wr))
 ·exact⟨a,aq,aq,rfl,cB⟩
 obtain⟨i,C,J,rfl,j⟩:=hrel;have m:=l.t j.o;have G:wr.cell? ⟨w.heap.size,1,none⟩=some (ae aj (b:Int)):=(e.o.ar j.o e.o.lt).cell 1;by_cases t:i<b;rotate_left
 ·have q:=cF i b
  go_wp2;go_ret;exact⟨_,rfl,m.o⟩
 have q:=aR i b;have I:=aR i n;obtain⟨B,z,rfl,r,D⟩:=(R.o.ar m.o).iw.get (show i<n by omega);obtain⟨k,g⟩:=uW r;have v:=sH (eZ z k g wr);go_wp2_with fail;refine callK v.o j fun x y f=> ?_;have o:=l.t f.o;generalize(aZ z).gF=sc at*;have s:sc=0∨sc=1∨(sc≠0/\sc≠1):=aq;rcases s with rfl|rfl|⟨h1,h2⟩
 ·go_wp2
  go_roundg (n-i)
  ·exact⟨i+1,aq,aq,aQ,f⟩
  omega
 ·go_wp2
  go_roundg (n-i)
  ·exact⟨i+1,aq,aq,aQ,f⟩
  omega
 have h1:(sc !=0)=true:=wU;have h2:(sc !=1)=true:=yB;go_wp2;go_ret;exact⟨_,rfl,o.o⟩
structure Qw(w0 w:World)(g n:Nat)(C:aC)(m d:Nat)(P:aC)(q pc:Nat):Prop where
 be:aA w0 w
 ow:Ow w w0.heap.size 3 .i64 aN (some ⟨g,0,none⟩) n n
 oc:Oq w (g+1) 60 2 (Ti n) C m d
 op:mo w (g+1) n P q pc
theorem Qw.ar{c:World}{b:Nat}{P:aC}(h:Qw w0 w g n C m d P q b)(a:aA w c):Qw w0 c g n C m d P q b:=⟨h.be.trans (a.mono h.be.size),h.ow.ar a,h.oc.ar a,Oq.ar h.op a⟩
theorem Qw.set{a:Nat}{P:aC}(h:Qw w0 w g n C m d P q a)(k:Nat)(v:Int):Qw w0 (w.setCell ⟨g,k,none⟩ (ae aj v)) g n C m d P q a:=
 ⟨Below.setCell h.be (p:=⟨g,k,none⟩) h.ow.lt.1 _,h.ow.set k trivial,h.oc.mE (h.oc.apart aq) k _,Oq.mE h.op (Oq.apart h.op aq) k _⟩
theorem I7(A:aC)(n c:Nat)(ts:aE)(w:World)(h:aL .i32 w A n c ts)(hn:n<=10000):Calls prog 41 #[.slice A n c] w (Nw w 3 .i64 aN n):=by
 have R:=sH h;have zz:ak ((prog.info? 3).map (·.zero)=some (some (ae aj 0))):=⟨aF⟩;go_enter func41,ntmps41;go_wp2_with (refine dY (p:=aN) nA zz.o trivial rfl (.tmp 15) (.tmp 15) rfl n rfl rfl rfl rfl aq w.heap.size cr ?_;intro g w1 o1 b1;have O1:=sH o1;have Z:=sH b1;clear o1 b1);refine(Ns A n c ts w1 (R.o.ar Z.o) aq).mono ?_;rintro e w2 ⟨C,m,d,hm,rfl,oc,G⟩;have hg:=O1.o.lt;have OC:ak (Oq w2 (g+1) 60 2 (Ti n) C m d):=⟨oc.cN aq⟩;have O2:=sH (O1.o.ar G);have Y:=Z.t G;have iq:=G.size;go_wp2_with fail;refine(CL A n c ts w2 (R.o.ar Y.o) aq).mono ?_;rintro e w3 ⟨D,dd,rfl,od,f⟩;have OD:=sH od.iw;have J:=Y.t f;have O3:=sH (O2.o.ar f);have I:=sH (OC.o.ar f);have xi:=f.size;go_wp2_with fail;refine(Fh A D n c dd ts w3 (R.o.ar J.o) OD.o hn).mono ?_;rintro e w4 ⟨P,q,B,hq,rfl,op,N⟩;have V:ak (Qw w w4 g n C m d P q B):=⟨⟨J.o.trans (N.mono J.o.size),O3.o.ar N,I.o.ar N,Oq.cN op aq⟩⟩;have w0:wrap64 ((m:Int)-1)=(m:Int)-1:=IntWalk.wrap64_in _ aq;go_wp2;go_loopg [6,7,8] (m+1) (fun gg L v7 _ wr=>∃(k:Nat) (z:Int),k<gg/\k<=m/\L=ae aj z/\v7=ae aj ((k:Int)-1)/\ak (Qw w wr g n C m d P q B))
 ·exact⟨m,0,aq,aq,rfl,rfl,V⟩
 obtain⟨k,z,W,hk,rfl,rfl,V⟩:=hrel;rcases k with _|k
 rotate_left
 ·have ei:(((k+1:Nat):Int)-1)=(k:Int):=by omega
  rw[ei];obtain⟨X,a,O,rfl,H,o,u,r⟩:=V.o.oc.cut (j:=k) aq;have k0:=jB k;have k1:=aR k m;go_wp2_with fail;refine(Wd A n c a O ts _ (R.o.ar V.o.be) aq o aq).mono ?_;rintro e w5 ⟨s,rfl,l⟩;have t:=sH (V.o.ar l);have u:=au u l;have r:=au r l
  by_cases hs:(s== -1)=true
  ·have hs:(s != -1)=false:=by simpa using hs
   go_wp2;go_roundg (k+1)
   ·exact⟨k,_,aq,aq,rfl,ke,t⟩
   omega
  ·have hs:(s != -1)=true:=by simpa using hs
   go_wp2;go_roundg (k+1)
   ·exact⟨k,_,aq,aq,rfl,ke,t⟩
   omega
 go_wp2;go_loopg [6,9,10,11,12,13] (m+1) (fun gg L T v10 _ _ _ wr=>∃(i:Nat) (z:Int) (b:Bool),m-i<gg/\i<=m/\L=ae aj z/\T= .bool b/\v10=ae aj (i:Int)/\ak (Qw w wr g n C m d P q B))
 ·exact⟨0,z,_,aq,aq,rfl,rfl,rfl,V⟩
 obtain⟨i,z,b,IG,hi,rfl,rfl,rfl,V⟩:=hrel;by_cases U:i<m;rotate_left
 ·have i4:=cF i m
  go_wp2;go_ret;exact⟨_,_,rfl,V.o.ow,V.o.be⟩
 have i4:=aR i m;obtain⟨X,a,O,rfl,H,o,u,r⟩:=V.o.oc.cut (j:=i) aq;have k0:=jB i;have k1:=aR i m;go_wp2_with fail;refine(Wd A n c a O ts _ (R.o.ar V.o.be) aq o aq).mono ?_;rintro e w5 ⟨s,rfl,l⟩;have t:=sH (V.o.ar l);have u:=au u l;have r:=au r l
 go_wp2_with fail;refine(Rs P q B n (g+1) (a:Int) w5 t.o.op aq).mono ?_;rintro e _ ⟨x,rfl,hx,rfl⟩
 rename World=>w6
 have HX:=sH hx;go_upto_if 59 with fail;go_cut [9,11] (fun T S wx=>(∃b:Bool,T= .bool b)/\(∃z:Int,S=ae aj z)/\w6=wx)
 case first=>
  by_cases hs:(s== -1)=true;rotate_left
  ·have hs:(s != -1)=true:=by simpa using hs
   go_wp2;go_meet;exact⟨⟨_,rfl⟩,⟨_,rfl⟩,rfl⟩
  have hs:(s != -1)=false:=oM;by_cases v:x= -1
  ·subst v
   go_wp2;go_meet;exact⟨⟨_,rfl⟩,⟨_,rfl⟩,rfl⟩
  have pA:(x != -1)=true:=by simpa using v
  obtain⟨F,rfl⟩:∃F:Nat,x=F:=⟨x.toNat,by rcases HX.o with h|⟨h,_⟩<;>omega⟩;have Q:F<n:=by rcases HX.o with h|⟨_,h⟩<;>omega
  have Nc:=aR F n;obtain⟨y,_,y0⟩:=t.o.ow.get Q;cases b
  ·go_wp2
   go_meet;exact⟨⟨_,rfl⟩,⟨_,rfl⟩,rfl⟩
  ·go_wp2
   go_meet;exact⟨⟨_,rfl⟩,⟨_,rfl⟩,rfl⟩
 case rest=>
 obtain⟨⟨G,rfl⟩,⟨s2,rfl⟩,rfl⟩:=hcut;go_wp2;go_loopg [13] (n+1) (fun gg M wr=>∃(k:Nat),n-k<gg/\k<=n/\M=ae aj (k:Int)/\ak (Qw w wr g n (some ⟨X,0,none⟩) m d P q B))
 ·exact⟨a,aq,aq,rfl,t⟩
 obtain⟨k,W,hk,rfl,V⟩:=hrel;obtain⟨gc2,a2,f,E,ae8,aez,u,r⟩:=V.o.oc.cut U;injection E with E
 injection E with E
 subst E;by_cases hkb:k<f;rotate_left
 ·have i5:=cF k f
  go_wp2;go_roundg (m-i)
  ·exact⟨i+1,_,_,aq,aq,rfl,rfl,aQ,V⟩
  omega
 have i5:=aR k f;have K:k<n:=aq;have i6:=aR k n;obtain⟨y,_,y0⟩:=V.o.ow.get K;have f0:=V.o.ow.fz k;have V3:=sH (V.o.set k s2);go_wp2;go_roundg (n-k)
 ·exact⟨k+1,aq,aq,aQ,V3⟩
 omega
def DH(w:World)(B:Nat)(A:aC)(n c:Nat):Prop:=∃a:List Bool,aB w B 4 1 A n c (a.map Value.bool)
theorem TBn:aS prog 94 4 1 1:=bD underlying94 (z:= .bool false) aF rfl aq aq
theorem DH.ar(h:DH w B A n c)(b:aA w a):DH a B A n c:=by
 obtain⟨d,h⟩:=h;exact⟨d,aB.ar h b⟩
theorem DH.at(h:DH w B (some ⟨g,0,none⟩) n c)(e:j<n):(B<=g/\g<w.heap.size)/\w.frozen? ⟨g,j,none⟩=false/\∃b:Bool,w.cell? ⟨g,j,none⟩=some (.bool b):=by
 obtain⟨a,h⟩:=h;have d:a.length=n:=by have:=h.1;simpa using this
 refine⟨aB.sY h,aB.frozenAt h j,a[j], ?_⟩;rw[aB.cellAt h j aq,List.getElem?_map,List.getElem?_eq_getElem aq];rfl
theorem DH.set(h:DH w B (some ⟨g,0,none⟩) n c)(j:Nat)(b:Bool):DH (w.setCell ⟨g,j,none⟩ (.bool b)) B (some ⟨g,0,none⟩) n c:=by
 obtain⟨a,h⟩:=h;refine⟨a.set j b, ?_⟩;rw[List.map_set];exact(World.ownsRow.stored (cap:=c) h j (.bool b)).1
theorem pt{P:Program}{ops:Array Oper}{rest:List Oper}{o:Oper}{a:Act}{Q:Exit->Act->World->Prop}{t:TypeId}(T:aS P t 4 1 1)(b:(P.info? 4).map (·.zero)=some (some (.bool false)))(j:o.guard=none)(l c:Operand)
 (G:o.op= .makeSlice t l c) {q r:IntKind} {L C:Int} (n:Nat) (E:a.eval l= .int q L) (y:a.eval c= .int r C) (H:L=(n:Int)) (x:C=(n:Int)) (J:n<=140737488355328) (B:Nat) (v:B<=w.heap.size)
 (h:∀g d,DH d B (some ⟨g,0,none⟩) n n->Below B w d->wpList P ops Q rest (a.put o.dst (.slice (some ⟨g,0,none⟩) n n)) d):wpList P ops Q (o::rest) a w:=by
 obtain⟨i,z,s,p,f,m,I⟩:=T.info;have e:z= .bool false:=by
  rw[s]at b;simp[p]at b;exact b
 refine wpList_make_full w j l c t G B 4 i z 1 T.ht s p f q r L C n E y H x (by rw[m];omega) pN v fun d u A=>
  h _ d ⟨List.replicate n false, ?_⟩ ((Below.refl B w).grown A v (fun k D=>by cases D))
 subst e;unfold aB;have F:(madeCells (Value.bool false).cells (n*1)).toList=(List.replicate n false).map Value.bool:=by
  rw[Nat.mul_one,List.map_replicate];exact toList_madeCells_one _ _
 rw[F]at u;exact u
structure Xh where
 A:aC
 n:Nat
 c:Nat
 C:aC
 m:Nat
 d:Nat
def Xh.F(r:Xh):List Value:=[.slice r.A r.n r.c, .slice r.C r.m r.d]
def PtI(B N:Nat)(w:World)(r:Xh):Prop:=Vp w B N r.A r.n r.c r.C r.m r.d
theorem sV(B N:Nat):Kpt 175 (PtI B N):=⟨fun w f r h b=>⟨h.1,h.2.1,h.2.2.1.ar b,h.2.2.2.ar b⟩,fun w f r B g A n c vs h k d=>⟨h.1,h.2.1,h.2.2.1.kept d (by obtain⟨xs,a,e⟩:=h.2.2.1;exact bZ a k (by decide)) (aB.dN k),h.2.2.2.kept d (by obtain⟨xs,a,e⟩:=h.2.2.2;exact bZ a k (by decide)) (aB.dN k)⟩⟩
abbrev GnP(w:World)(B N:Nat)(a:List Xh)(A:aC)(n c:Nat):Prop:=Gn w B 175 2 Xh.F (PtI B N) a A n c
def D8(w:World)(B N:Nat)(A:aC)(k:Nat):Prop:=∀j,j<k->∃(a:Addr) (r:Xh),A=some a/\a.block<B/\w.cell? (a.add (j*2))=some (.slice r.A r.n r.c)/\w.cell? (bW (a.add (j*2)) 1)=some (.slice r.C r.m r.d)/\r.n<=N/\r.m=r.n+1/\Iw w B .i32 (Wf .i32) r.A r.n/\Iw w B .i64 aN r.C r.m
theorem D8.Z{e:Nat}(h:D8 w B N A k)(a:Below B w b)(d:B<=e):D8 b e N A k:=fun j l=>by
 obtain⟨c,r,m,h2,g,o,f,n,i,p⟩:=h j l;exact⟨c,r,m,aq,(a.cell yG).trans g,(a.cell (by show(c.add (j*2)).block<B;rw[aO];exact h2)).trans o,f,n,i.Z a d,p.Z a d⟩
theorem Ni{d:List Xh}(h:GnP w B N d A n c):D8 w w.heap.size N A n:=fun j f=>by
 obtain⟨g,r,rfl,i,a,b⟩:=Gn.at h (fun _=>rfl) f;have e:(⟨g,0,none⟩:Addr).add (j*2)=⟨g,j*2,none⟩:=bB _ _;exact⟨_,r,rfl,i,by rw[e];exact b 0 _ rfl,by rw[e];exact b 1 _ rfl,a.1,a.2.1,a.2.2.1.iw,a.2.2.2.iw⟩
def PNw(w:World)(N k:Nat)(e:Ending)(a:World):Prop:=∃(A:aC) (n c:Nat) (t z:Int),e= .returned (.tuple #[.slice A n c,ae aj t,ae aj z])/\n<=k/\D8 a a.heap.size N A n/\aA w a
def PBz(w:World)(e:Ending)(a:World):Prop:=(∃b:Bool,e= .returned (.bool b))/\aA w a
theorem Um(A C:aC)(n m c d:Nat)(w:World)(h:Iw w w.heap.size .i32 (Wf .i32) A n)(k:Iw w w.heap.size .i32 (Wf .i32) C m)(u:n<=100000):Calls prog 109 #[.slice A n c, .slice C m d] w (PBz w):=by
 have X:=sH h;have Y:=sH k;by_cases p:n=m;rotate_left
 ·have q:((n:Int) !=(m:Int))=true:=by simp;omega
  go_enter func109,ntmps109;go_wp2;go_ret;exact⟨⟨_,rfl⟩,Below.refl _ _⟩
 subst p;go_enter func109,ntmps109;go_wp2;go_loopg [5] (n+1) (fun gg v wr=>∃i:Nat,n-i<gg/\i<=n/\v=ae aj (i:Int)/\ak (aA w wr))
 ·exact⟨0,aq,aq,rfl,cB⟩
 obtain⟨i,s,z,rfl,a⟩:=hrel;by_cases b:i<n;rotate_left
 ·have f:=cF i n
  go_wp2;go_ret;exact⟨⟨_,rfl⟩,a.o⟩
 have f:=aR i n;obtain⟨r,x,rfl,_,g⟩:=(X.o.Z a.o a.o.size).get b;obtain⟨o,y,rfl,_,l⟩:=(Y.o.Z a.o a.o.size).get b;obtain⟨L0,L1⟩:=lc2 g l;cases t:(x !=y)
 ·go_wp2
  refine mRl ?_;rintro _ ⟨e,rfl⟩;have j:=a.t e.2;go_wp2;go_roundg (n-i)
  ·exact⟨i+1,aq,aq,aQ,j⟩
  omega
 ·go_wp2
  refine mRl ?_;rintro _ ⟨e,rfl⟩;go_wp2;go_ret;exact⟨⟨_,rfl⟩,a.o.trans (e.2.mono a.o.size)⟩
theorem aeI:aS prog 99 175 2 48:=bD underlying99 (z:= .agg #[.slice none 0 0, .slice none 0 0]) aF rfl aq aq
theorem aaf(s:cX)(w:World)(h:cM w w.heap.size .str s.P s.pn s.pc)(hl:∀j,j<s.pn->rk w s j)(hn:s.pn<=60):Calls prog 51 #[.slice s.P s.pn s.pc] w (PNw w 200 s.pn):=by
 have X:=sH h;have Q:=sH hl;obtain⟨n,q⟩:=eY s.pn;have HN:=sH q;obtain⟨P,D⟩:=eY s.P;have K:=sH D;rw[q]at hn X Q⊢;rw[D]at X⊢;go_enter func51,ntmps51;go_wp2;go_loopg [5,6] (n+1) (fun gg v5 v6 wr=>∃(i m:Nat) (A:aC) (c:Nat) (R:List Xh),n-i<gg/\i<=n/\m<=i/\v5= .slice A m c/\v6=ae aj (i:Int)/\ak (GnP wr w.heap.size 200 R A m c)/\ak (aA w wr))
 ·exact⟨0,0,none,0,[],aq,aq,aq,rfl,rfl,⟨Gn.nil _ _ _ _ _ _⟩,cB⟩
 obtain⟨i,m,A,c,R,W,hi,hm,rfl,rfl,G,t⟩:=hrel;by_cases x:i<n;rotate_left
 ·have i4:=cF i n
  go_wp2;go_ret3;exact⟨_,_,_,_,_,rfl,aq,Ni G.o,t.o⟩
 have i4:=aR i n;obtain⟨M,z,V,iN,E,_⟩:=xg X.o x;have hz:z.size<=200:=Q.o i x M z (K.o.trans V) E;have E:=(t.o.cell yF).trans E;subst V;go_wp2_with fail;refine(zF z aq wr).mono ?_;rintro e Z ⟨d,o,a,f,l,g,b,rfl,y,J⟩;have T:=t.t J;have G1:=sH (G.o.ar (sV _ _) J);cases b
 ·clear y J E
  go_wp2;go_ret3;exact⟨none,0,0,_,_,rfl,aq,fun j h=>by omega,T.o⟩
 have p:ak (Vp Z w.heap.size 200 d a f o l g):=⟨⟨by have:=(y rfl).1;omega,(y rfl).2.1,(y rfl).2.2.1.cN t.o.size,(y rfl).2.2.2.cN t.o.size⟩⟩;have HG:=sH W;go_wp2;go_loopg [10] (m+1) (fun gg v wr=>∃k:Nat,m-k<gg/\k<=m/\v=ae aj (k:Int)/\ak (aA Z wr))
 ·exact⟨0,aq,aq,rfl,cB⟩
 obtain⟨k,W,hk,rfl,C⟩:=hrel;have F:=T.t C.o;have GK:=sH (G1.o.ar (sV _ _) C.o);have B:ak (Vp wr w.heap.size 200 d a f o l g):=⟨⟨p.o.1,p.o.2.1,p.o.2.2.1.ar C.o,p.o.2.2.2.ar C.o⟩⟩;have I:=F.o.size;have tD:=p.o.1;by_cases H:k<m
 ·have i5:=aR k m
  obtain⟨M,r,rfl,_,q0,q1,hr,_,ir,_⟩:=Ni GK.o k H;have IR:=sH ir;go_wp2_with fail;refine(Um r.A d r.n a r.c f wr IR.o B.o.2.2.1.iw aq).mono ?_;rintro e w3 ⟨⟨b,rfl⟩,S⟩;have B3:=F.t S;have B4:=C.t S;cases b
  ·go_wp2
   go_roundg (m-k)
   ·exact⟨k+1,aq,aq,aQ,B4⟩
   omega
  ·go_wp2
   go_ret3;exact⟨none,0,0,_,_,rfl,aq,fun j h=>by omega,B3.o⟩
 ·have i5:=cF k m
  have N:=sH (GK.o.ar (sV _ _) (av wr (.cells #[.slice d a f, .slice o l g] 175)));have PA:ak (PtI w.heap.size 200 (wr.alloc (.cells #[.slice d a f, .slice o l g] 175)) ⟨d,a,f,o,l,g⟩):=⟨⟨B.o.1,B.o.2.1,B.o.2.2.1.alloc _,B.o.2.2.2.alloc _⟩⟩;go_wp2_with (at_builtin;refine bk aeI rfl (.tmp 46) (.tmp 50) rfl rfl N.o.own rfl (news:=[.slice d a f, .slice o l g]) rfl (fun j u h=>by rw[cell_of_row _ _ _ _ _ _ (heap_alloc_new wr _)];simpa using h) (fun u Y=>by simp at Y;rcases Y with rfl|rfl<;>rfl) aq cA ?_;intro A5 c5 w5 L U O _;have G5:=sH (N.o.push (sV _ _) PA.o L O);have B5:=sH ((F.o.alloc I _).trans U);clear L U O);go_roundg (n-i)
  ·exact⟨i+1,m+1,A5,c5,_,aq,aq,aq,rfl,aQ,G5,B5⟩
  have:=HG.o;omega
end Go.Proofs.YtpidckelbgbbkaaGreatDoor
