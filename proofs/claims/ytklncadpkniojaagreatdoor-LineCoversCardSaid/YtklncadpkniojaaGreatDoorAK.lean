/- Part of LineCovers. -/
import Derived.Test.YtklncadpkniojaaGreatDoorAH
namespace Go.Proofs.YtklncadpkniojaaGreatDoor
open Go.ChangeShapes Go.WideShapes Go.ChangeAt Go.RowKit Go.Proofs.Tryz
open Go renaming World->ahh,Value->ahj,Calls->ahk,TypeId->ahm,Ending->ahn,Program->aho
open Go.RowKit renaming Below->ahi,wrap64->ahl
open Go.Value renaming int->ae
open Go.IntKind renaming i64->aj
set_option linter.all false
set_option maxRecDepth 100000
set_option maxHeartbeats 16000000
variable{G:Prop}{w:ahh}
theorem Rj(s:G:=by
 go_wp2
 go_ret;exact⟨_,rfl,av _ _⟩):G:=s
theorem ym(x y z:Int)(w:ahh):ahk prog 283 #[.agg #[ae aj x,ae aj y,ae aj z]] w (PB w):=by
 go_enter func283,ntmps283;go_wp2_with fail;refine(gf _ _).mono ?_;rintro e _ ⟨z,rfl,rfl⟩;cases z
 .exact Rj
 go_wp2_with fail;refine(gf _ _).mono ?_;rintro e _ ⟨z,rfl,rfl⟩;cases z
 .exact Rj
 go_wp2_with fail;refine(gf _ _).mono ?_;rintro e _ ⟨z,rfl,rfl⟩;go_wp2;go_ret;exact⟨_,rfl,av _ _⟩
theorem jT(x y:Int)(h:Bool)(w:ahh):ahk prog 300 #[.agg #[ae aj x,ae aj y],.bool h] w (PB w):=by
 go_enter func300,ntmps300;go_wp2_with fail;refine(gf _ _).mono ?_;rintro e _ ⟨z,rfl,rfl⟩;cases z
 .exact Rj
 go_wp2_with fail;refine(gf _ _).mono ?_;rintro e _ ⟨z,rfl,rfl⟩;cases z
 .exact Rj
 cases h
 .by_cases a:x=0
  .have b:(x==0)=true:=by simp[a]
   go_wp2;go_ret;exact⟨_,rfl,av _ _⟩
  .have b:(x==0)=false:=by simp[a]
   go_wp2;go_ret;exact⟨_,rfl,av _ _⟩
 .exact Rj
def maT(d:Option Tmp):Option (ahj->Prop):=if d=some 30 then some SB else if d=some 36 then some SB else none
theorem Xk(s:G:=by
 simp[Act.put]
 refine mSk ?_;intro nq;obtain⟨w6,bq⟩:=nq;have BX:=B2.t bq
 try dsimp only
 go_wp2;go_ret;exact⟨_,rfl,B1.o.trans (BX.o.mono B1.o.size)⟩):G:=s
theorem aeb(s:G:=by
 go_simp
 exact bg (gM ⟨em,G,gn,gc,some adM,n,mc,L,ln,lc,F,fn,fc,S,m,sc⟩ x1 nq.1 (RR.o.Z nq.2 nq.2.size))):G:=s
theorem aaI(f:cY)(w:ahh)(h:bZ w w.heap.size f):ahk prog 179 #[f.v] w (PB w):=by
 have⟨I,d,B1,B⟩:=box1 w f.row 96;have R:=sH (h.Z B1.o B1.o.size);have hn:=h.rM.bd;have hm:=h.rS.bd;obtain⟨em,G,gn,gc,M,n,mc,L,ln,lc,F,fn,fc,S,m,sc⟩:=f;dsimp only at*;by_cases q1:4096<n
 .have N:=aU 4096 n
  go_enter func179,ntmps179;go_wp2_with fail;rw[<-d];clear d;go_wp2;go_ret;exact⟨_,rfl,B1.o⟩
 have N:=cv 4096 n;by_cases q2:16<m
 .have E:=aU 16 m
  go_enter func179,ntmps179;go_wp2_with fail;rw[<-d];clear d;go_wp2;go_ret;exact⟨_,rfl,B1.o⟩
 have E:=cv 16 m;go_enter func179,ntmps179;go_wp2_with fail;rw[<-d];clear d;go_wp2;go_loopg[3,4](n+1)(fun gg v3 _ wr=>∃(i:Nat),n-i<gg/\i<=n/\v3=ae aj (i:Int)/\aq (az I wr))
 .exact⟨0,ak,ak,rfl,cA⟩
 obtain⟨i,hg,hi,rfl,c⟩:=hrel;have⟨c0,p,e,z,c4,c5⟩:=(B.o.ar c.o B.o.lt).f6;dsimp only at c0 p e z c4 c5;have hs:=c.o.size;by_cases H:i<n;rotate_left
 .have i4:=cv i n
  go_wp2;have⟨wo,l⟩:=eX wr;have BO:aq (az I wo):=⟨by rw[l];exact c.o⟩;rw[<-l];clear l;go_loopg[5](m+1)(fun gg v5 wr=>∃(j:Nat),m-j<gg/\j<=m/\v5=ae aj (j:Int)/\aq (az I wr))
  .exact⟨0,ak,ak,rfl,BO⟩
  obtain⟨j,dw,hj,rfl,c⟩:=hrel;have⟨c0,p,e,z,c4,c5⟩:=(B.o.ar c.o B.o.lt).f6;dsimp only at c0 p e z c4 c5;by_cases J:j<m;rotate_left
  .have i5:=cv j m
   go_wp2;go_ret;exact⟨_,rfl,B1.o.trans (c.o.mono B1.o.size)⟩
  have i5:=aU j m;obtain⟨D,A2,n2,k2,Z,h2,K⟩:=fi (R.o.Z c.o c.o.size).rS J;dsimp only at Z;subst Z;have RR:=sH (R.o.Z c.o c.o.size);have R2:=sH h2;go_wp2;have⟨L0,L1,Q,L3,U,T⟩:=lc6 c0 p e z c4 c5;have LE:=aE K;refine aD (kF 68 SB) aF aF ?_
  repeat(refine cF aB aB aB ?_;intro K9 O;go_big_quiet_op;go_big_quiet_on)
  refine lsA SB (fun nq=> ?_) (fun A a=> ?_)
  .go_simp
   exact bg (pF ⟨em,G,gn,gc,M,n,mc,L,ln,lc,F,fn,fc,some D,m,sc⟩ A2 n2 k2 nq.1 (RR.o.Z nq.2 nq.2.size) (R2.o.Z nq.2 nq.2.size))
  obtain⟨b,rfl⟩:=a;simp[Act.put]
  repeat(refine cF aB aB aB ?_;intro K9 O;go_big_quiet_op;go_big_quiet_on)
  intro nq;obtain⟨w6,bq⟩:=nq;have BX:=c.t bq
  try dsimp only
  cases b
  .go_wp2
   go_ret;exact⟨_,rfl,B1.o.trans (BX.o.mono B1.o.size)⟩
  .go_wp2
   go_roundg(m-j)
   .exact⟨j+1,ak,ak,aT,BX⟩
   omega
 have i4:=aU i n;obtain⟨adM,v,x1,V,K,e1⟩:=xM (R.o.Z c.o c.o.size).rM H;dsimp only at V;subst V;have⟨C,bU⟩:=eX (wr.alloc (.cells #[.int .i32 v,ae aj x1] 228));have o:az wr C:=jx;have X:aq (Bx C wr.heap.size #[.int .i32 v,ae aj x1]):=⟨mf⟩;have B2:=sH (c.o.trans (o.mono hs));have BB2:=B1.t B2.o;have W:C.cell? ⟨wr.heap.size,0,none⟩=some (.int .i32 v):=X.o.cell 0;have P:C.cell? ⟨wr.heap.size,1,none⟩=some (ae aj x1):=X.o.cell 1;have RR:=sH (R.o.Z B2.o B2.o.size);have s:=au c0 o;have y:=au p o;have u:=au e o;have q:=au z o;have r:=au c4 o;have x:=au c5 o
 rcases i with _|k
 .rw[Nat.zero_mul,ew]at K e1
  go_wp2;rw[<-bU];clear bU;have wk:decide ((0:Int)<0)=false:=cr;have⟨L0,L1,Q,L3,U,T,D0,D1⟩:=lc8 s y u q r x W P;refine aD maT aF aF ?_;refine mSk ?_;refine lsA SB (fun nq=> ?_) (fun A a=> ?_)
  .go_simp
   exact bg ((Lj v nq.1).mono fun _ _ h=>h.pb)
  obtain⟨b,rfl⟩:=a;cases b
  .exact Xk
  simp[Act.put];refine mSk ?_;refine lsA SB (fun nq=> ?_) (fun A a=> ?_)
  .exact aeb
  obtain⟨b,rfl⟩:=a;cases b
  .exact Xk
  simp[Act.put];refine mSk ?_;intro nq;obtain⟨w6,bq⟩:=nq;have BX:=B2.t bq
  try dsimp only
  go_wp2_with fail
  all_goals first
   |(go_roundg(n-(0))<;>first|omega|exact⟨0+1,ak,ak,aT,BX⟩)
   |(go_ret;exact⟨_,rfl,B1.o.trans (BX.o.mono B1.o.size)⟩)
 .obtain⟨Y,y0,y1,g,g0,g1⟩:=xM (R.o.Z B2.o B2.o.size).rM (show k<n by omega)
  injection g with g
  subst g;go_wp2;rw[<-bU];clear bU;have wk:IntKind.i64.wrap ((k:Int)+1-1)=(k:Int):=yC;have p0:=ie k;have p1:=aU k n;have G0:=aE g0;have⟨L0,L1,Q,L3,U,T,D0,D1⟩:=lc8 s y u q r x W P;refine aD maT aF aF ?_;refine mSk ?_;refine lsA SB (fun nq=> ?_) (fun A a=> ?_)
  .go_simp
   exact bg ((Lj v nq.1).mono fun _ _ h=>h.pb)
  obtain⟨b,rfl⟩:=a;cases b
  .exact Xk
  simp[Act.put];refine mSk ?_;refine lsA SB (fun nq=> ?_) (fun A a=> ?_)
  .exact aeb
  obtain⟨b,rfl⟩:=a;cases b
  .exact Xk
  simp[Act.put];refine mSk ?_;intro nq;obtain⟨w6,bq⟩:=nq;have BX:=B2.t bq
  try dsimp only
  go_wp2_with fail
  all_goals first
   |(go_roundg(n-(k+1))<;>first|omega|exact⟨k+1+1,ak,ak,aT,BX⟩)
   |(go_ret;exact⟨_,rfl,B1.o.trans (BX.o.mono B1.o.size)⟩)
theorem mS{P:Nat->Prop}{i:Nat}(h:∀k,k<i->P k)(a:P i):∀k,k<i+1->P k:=fun k b=>by
 by_cases e:k=i
 .subst e;exact a
 .exact h k ak
theorem acy{W:ahh}{a c:Array ahj}{b e:ahm}(h:W=(w.alloc (.cells a b)).alloc (.cells c e)):az w W/\Bx W w.heap.size a/\Bx W (w.heap.size+1) c:=by
 have f:(w.alloc (.cells a b)).heap.size=w.heap.size+1:=aQ;have d:ahi (w.alloc (.cells a b)).heap.size (w.alloc (.cells a b)) W:=Ke;exact⟨(av _ _).trans (d.mono ak),(Bx.new _ _ _).ar d ak,by rw[h];exact Bx.gY _ _ _ f⟩
def SW(n lo a:Int)(v:ahj):Prop:=∃z:Bool,v=.bool z/\(z=true->lo<=n/\n<=a)
theorem zX{w0:ahh}{n:aG w0}{P:aho}{f:FuncId}{args:Array ahj}{x lo b:Int}(h:ahk P f args n.1 (PWi n.1 x lo b)):ahk P f args n.1 fun e a=>∃v,e=.returned v/\SW x lo b v/\∃m:aG w0,a=m.1:=
 h.mono fun e a ⟨z,c,g,d⟩=>⟨_,c,⟨z,rfl,g⟩,n,d.symm⟩
def toT(n lo a:Int)(d:Option Tmp):Option (ahj->Prop):=if d=some 39 then some (SW n lo a)else if d=some 48 then some SB else none
def ZO(w:ahh)(T:aA)(lo b:Int)(i:Nat):Prop:=∃(a:Addr) (A:aA) (n c:Nat),T=some a/\a.block<w.heap.size/\w.cell? (a.add i)=some (.slice A n c)/\lo<=n/\n<=b
def afN(w:ahh)(s:Sb)(lo a:Int)(e:ahn)(b:ahh):Prop:=∃z:Bool,e=.returned (.bool z)/\(z=true->s.tn=s.cn/\∀i,i<s.tn->ZO w s.T lo a i)/\az w b
theorem aeY(s:G:=by
 simp[Act.put]
 refine mSk ?_;intro nq;obtain⟨w6,bq⟩:=nq;have BX:=BE.t bq;have BZ:=B1.t BX.o
 try dsimp only
 clear bq L0 L1 L2 L3 L4 L5 LE LD;go_wp2;go_ret;exact⟨_,rfl,aQ,BZ.o⟩):G:=s
theorem aaS(f:cY)(s:Sb)(lo c:Int)(w:ahh)(h:bZ w w.heap.size f)(l:nQ w w.heap.size s):ahk prog 279 #[f.v,s.v,ae aj lo,ae aj c] w (afN w s lo c):=by
 have⟨N,m,B1,E,G⟩:=box2 w f.row 96 s.row 170;have R:=sH (h.Z B1.o B1.o.size);have T:=sH (l.Z B1.o B1.o.size);have H:=sH l.rT;have U:=l.rC.bd;have V:=l.rT.bd;have⟨c0,r,a,y,c4,c5⟩:=E.o.f6;have⟨q,d,_⟩:=G.o.ns;clear h l;go_enter func279,ntmps279;go_wp2_with fail;rw[<-m];clear m;go_wp2_with fail;refine(pF f s.C s.cn s.cc N R.o T.o.rC).mono ?_;rintro e w2 ⟨z,rfl,x⟩;have J:=sH x;have q:=au q x;have d:=au d x
 clear x c0 r a y c4 c5;have P:=B1.t J.o;cases z
 .go_wp2
  go_ret;exact⟨_,rfl,aQ,P.o⟩
 by_cases D:s.tn=s.cn;rotate_left
 .have F:((s.tn:Int) !=(s.cn:Int))=true:=by simp;omega
  clear D;go_wp2;go_ret;exact⟨_,rfl,aQ,P.o⟩
 have HQ:=sH D;have F:((s.tn:Int) !=(s.cn:Int))=false:=cw;clear D;go_wp2;have⟨n,O⟩:=eY s.tn;have HN:=sH O;clear O;go_loopg[9](s.tn+1)(fun gg A wr=>∃(i:Nat),s.tn-i<gg/\i<=s.tn/\A=ae aj (i:Int)/\aq (az N wr)/\aq (∀k,k<i->ZO w s.T lo c k))
 .exact⟨0,ak,ak,rfl,J,⟨fun k hk=>by omega⟩⟩
 obtain⟨i,hg,xX,rfl,BE,I⟩:=hrel;clear q d;have u:=B1.t BE.o;have⟨q,d,_⟩:=(G.o.ar BE.o G.o.lt).ns;by_cases C:i<s.tn;rotate_left
 .have i4:¬(i:Int)<(s.tn:Int):=by omega
  go_wp2;go_ret;exact⟨_,rfl,fun _=>⟨HQ.o,fun k hk=>I.o k ak⟩,u.o⟩
 have i4:(i:Int)<(s.tn:Int):=ak;have⟨c0,r,a,y,c4,c5⟩:=(E.o.ar BE.o E.o.lt).f6;obtain⟨M,L,j,k2,v,B,o⟩:=fi H.o C;have p:M.block<w.heap.size:=by
  obtain⟨ik,K,X,_⟩:=H.o.2.2.2 ak;rw[v]at K;obtain rfl:=Option.some.inj K;exact X
 have TI:aq (lo<=(j:Int)/\(j:Int)<=c->ZO w s.T lo c i):=⟨fun h=>⟨M,L,j,k2,v,p,o,h.1,h.2⟩⟩;rw[v]at d;have o:=au o u.o;have Y:=sH (R.o.Z BE.o BE.o.size);have W:=sH (B.Z u.o u.o.size);have S:=B.bd;clear v B p q;go_wp2;have⟨L0,L1,L2,L3,L4,L5⟩:=lc6 c0 r a y c4 c5;clear c0 r a y c4 c5;have⟨LE,LD⟩:=lc2 o d;clear o d;refine aD (toT j lo c) aF aF ?_;refine mSk ?_;refine lsA (SW j lo c) (fun nq=> ?_) (fun A g=> ?_)
 .go_simp
  exact zX (cI j lo c nq.1)
 obtain⟨b,rfl,Q⟩:=g;have HB:=sH Q;clear Q;cases b
 .exact aeY
 have Z:=sH (TI.o (HB.o rfl));simp[Act.put];refine mSk ?_;refine lsA SB (fun nq=> ?_) (fun A g=> ?_)
 .go_simp
  exact bg (Pg f L j k2 nq.1 (Y.o.Z nq.2 nq.2.size) (W.o.Z nq.2 nq.2.size))
 obtain⟨b,rfl⟩:=g;cases b
 .exact aeY
 simp[Act.put];refine mSk ?_;intro nq;obtain⟨w6,bq⟩:=nq;have BX:=BE.t bq;have BZ:=B1.t BX.o
 try dsimp only
 clear bq L0 L1 L2 L3 L4 L5 LE LD;go_wp2;go_roundg(s.tn-i)
 .exact⟨i+1,ak,ak,aT,BX,⟨mS I.o Z.o⟩⟩
 omega
theorem Zo(f:cY)(s:Sb)(w:ahh)(h:bZ w w.heap.size f)(E:nQ w w.heap.size s):ahk prog 280 #[f.v,s.v] w (PB w):=by
 have⟨X,r,c,u,Q⟩:=box2 w f.row 96 s.row 170;have R:=sH (h.Z c.o c.o.size);have T:=sH (E.Z c.o c.o.size);have RQ:=E.rC.bd;have vX:=E.rL.bd;have⟨c0,q,a,D,c4,c5⟩:=u.o.f6;have⟨C,H,d,_⟩:=Q.o.ns;clear h E;go_enter func280,ntmps280;go_wp2_with fail;rw[<-r];clear r;go_wp2_with fail;refine(pF f s.C s.cn s.cc X R.o T.o.rC).mono ?_;rintro e w2 ⟨z,rfl,l⟩;have U:=sH l;have C:=au C l;have d:=au d l
 clear l c0 q a D c4 c5 H;have BF:=c.t U.o;cases z
 .go_wp2
  go_ret;exact⟨_,rfl,BF.o⟩
 by_cases W:s.ln=s.cn;rotate_left
 .have A:((s.ln:Int) !=(s.cn:Int))=true:=by simp;omega
  clear W;go_wp2;go_ret;exact⟨_,rfl,BF.o⟩
 have A:((s.ln:Int) !=(s.cn:Int))=false:=cw;clear W;go_wp2;go_loopg[5,6,7,8](s.ln+1)(fun gg v5 v6 _ _ wr=>∃(i:Nat) (z:Int),s.ln-i<gg/\i<=s.ln/\v5=ae aj z/\v6=ae aj (i:Int)/\aq (az X wr))
 .exact⟨0,0,ak,ak,rfl,rfl,U⟩
 obtain⟨i,z,hg,xX,rfl,rfl,b⟩:=hrel;clear C d A;have V:=c.t b.o;have⟨C,H,d,_⟩:=(Q.o.ar b.o Q.o.lt).ns;clear C H;by_cases N:i<s.ln;rotate_left
 .have i4:¬(i:Int)<(s.ln:Int):=by omega
  go_wp2;go_ret;exact⟨_,rfl,V.o⟩
 have i4:(i:Int)<(s.ln:Int):=ak;obtain⟨ad,A2,n,k2,M,K,v⟩:=fi (T.o.Z b.o b.o.size).rL N;rw[M]at d;have Z:=sH K;have EL:=sH M;have sj:=K.bd;clear M K;go_wp2;have⟨wo,o⟩:=eX wr;rw[<-o]at Z b V d v;rw[<-o];clear o;have E0:=sH v;have D2:=sH d;have j:=b.o.size;clear EL d v;generalize ahl (z+(n:Int))=z2;go_loopg[7,8](n+1)(fun gg v7 _ wr=>∃(k:Nat),n-k<gg/\k<=n/\v7=ae aj (k:Int)/\aq (az wo wr))
 .exact⟨0,ak,ak,rfl,cA⟩
 obtain⟨k,dw,hk,rfl,p⟩:=hrel;have v:=au E0.o p.o;have d:=au D2.o p.o;have BX:=sH (b.o.trans (p.o.mono j));by_cases O:k<n;rotate_left
 .have i5:=cv k n
  go_wp2;go_roundg(s.ln-i)
  .exact⟨i+1,_,ak,ak,rfl,aT,BX⟩
  omega
 have i5:=aU k n;obtain⟨qd,x,eA,J,g0,g1⟩:=YJ (Z.o.Z p.o p.o.size) O;subst eA;have UM:=J.rP.bd;have⟨F,bU⟩:=eX (wr.alloc (.cells #[.slice x.P x.pn x.pc,ae aj x.gl] 323));have l:az wr F:=jx;have P:aq (Bx F wr.heap.size #[.slice x.P x.pn x.pc,ae aj x.gl]):=⟨mf⟩;have t:=p.t l;have m:=sH (b.o.trans (t.o.mono j));have L:=c.t m.o;have RP:=sH (J.rP.Z l l.size);clear l J;go_wp2_with fail;refine(cI _ _ _ _).mono ?_;rintro e _ ⟨z,rfl,_,hz⟩;rw[<-hz,<-bU];clear hz bU v d g0 g1;have p0:F.cell? ⟨wr.heap.size,0,none⟩=some (.slice x.P x.pn x.pc):=P.o.cell 0;have⟨c0,q,a,D,c4,c5⟩:=(u.o.ar m.o u.o.lt).f6;cases z
 .go_wp2
  go_ret;exact⟨_,rfl,L.o⟩
 go_wp2_with fail;refine(Pg f x.P x.pn x.pc F (R.o.Z m.o m.o.size) RP.o).mono ?_;rintro e w3 ⟨z,rfl,S⟩;have B:=t.t S;have g:=sH (b.o.trans (B.o.mono j));have I:=c.t g.o;have p1:w3.cell? ⟨wr.heap.size,1,none⟩=some (ae aj x.gl):=(P.o.ar S P.o.lt).cell 1;clear S p0 c0 q a D c4 c5;cases z
 .go_wp2
  go_ret;exact⟨_,rfl,I.o⟩
 have⟨c0,q,a,D,c4,c5⟩:=(u.o.ar g.o u.o.lt).f6;go_wp2_with fail;refine(gM f x.gl w3 (R.o.Z g.o g.o.size)).mono ?_;rintro e w4 ⟨z,rfl,Y⟩;have y:=B.t Y;have G:=sH (c.o.trans ((b.o.trans (y.o.mono j)).mono c.o.size));clear Y p1 c0 q a D c4 c5;cases z
 .go_wp2
  go_ret;exact⟨_,rfl,G.o⟩
 go_wp2;go_roundg(n-k)
 .exact⟨k+1,ak,ak,aT,y⟩
 omega
theorem yg(k:Int)(w:ahh):ahk prog 239 #[ae aj k] w (PZ w):=by
 go_enter func239,ntmps239;go_wp2_with fail;refine(cI _ _ _ _).mono ?_;rintro e _ ⟨z,rfl,_,rfl⟩;cases z;rotate_left
 .go_wp2
  go_ret;exact⟨_,rfl,rfl⟩
 go_wp2_with fail;refine(cI _ _ _ _).mono ?_;rintro e _ ⟨z,rfl,_,rfl⟩;cases z
 .go_wp2
  go_ret;exact⟨_,rfl,rfl⟩
 .go_wp2
  go_ret;exact⟨_,rfl,rfl⟩
def arT(b a:Int)(d:Option Tmp):Option (ahj->Prop):=if d=some 52 then some SB else if d=some 61 then some (SW b 0 a)else if d=some 72 then some SI else if d=some 75 then some SI else none
theorem PWi.pb{a:ahh}{n lo c:Int}{e:ahn}(h:PWi w n lo c e a):PB w e a:=by
 obtain⟨z,b,_,rfl⟩:=h;exact⟨z,b,Below.refl _ _⟩
theorem PZ.pi{a:ahh}{e:ahn}(h:PZ w e a):PI w e a:=by
 obtain⟨z,b,rfl⟩:=h;exact⟨z,b,Below.refl _ _⟩
theorem aec(s:G:=by
 simp[Act.put]
 refine mSk ?_;intro nq;obtain⟨w6,bq⟩:=nq;have BX:=B2.t bq;have BZ:=B1.t BX.o
 try dsimp only
 clear bq wk L0 L1 L2 L3 L4 L5 D0 D1 D2 D3;go_wp2;go_ret;exact⟨_,rfl,BZ.o⟩):G:=s
theorem abD(s:G:=by
 go_wp2
 go_ret;exact⟨_,rfl,B1.o.trans (B5.o.mono B1.o.size)⟩):G:=s
theorem zE(f:cY)(k:Lk)(s:Sb)(w:ahh)(h:bZ w w.heap.size f)(C:nQ w w.heap.size s):ahk prog 281 #[f.v,k.v,s.v] w (PB w):=by
 have⟨v,y⟩:=eX (((w.alloc (.cells f.row 96)).alloc (.cells k.row 161)).alloc (.cells s.row 170));obtain⟨T,l,Q,P,kU⟩:=qC y;have B1:=sH T;have q:=sH l;have V:=sH Q;have g:=sH P;clear l Q P;have R:aq (bZ v v.heap.size f):=⟨h.Z B1.o B1.o.size⟩;have D:aq (nQ v v.heap.size s):=⟨C.Z B1.o B1.o.size⟩;have hjn:=C.rJ.bd;have Z:=C.rN.bd;have vX:=h.rL.bd;have B5:aq (az v v):=cA;have⟨c0,m,a,o,c4,c5⟩:=q.o.f6;have⟨_,_,_,r,d,p,n,_⟩:=g.o.ns;clear h C T;go_enter func281,ntmps281;go_wp2_with fail;rw[<-y];clear y;go_wp2_with fail;refine(mW f s.J s.jn s.jc 1 v R.o D.o.rJ).mono ?_;rintro e O ⟨z,rfl,u⟩;have x:=B5.t u;clear u B5 c0 m a o c4 c5 r d p n;have B5:=sH x.o;clear x;have⟨c0,m,a,o,c4,c5⟩:=(q.o.ar B5.o q.o.lt).f6;have⟨_,_,_,r,d,p,n,_⟩:=(g.o.ar B5.o g.o.lt).ns;cases z
 .exact abD
 go_wp2_with fail;refine(mW f s.B s.bn s.bc 0 _ (R.o.Z B5.o B5.o.size) (D.o.Z B5.o B5.o.size).rB).mono ?_;rintro e O ⟨z,rfl,u⟩;have x:=B5.t u;clear u B5 c0 m a o c4 c5 r d p n;have B5:=sH x.o;clear x;have⟨c0,m,a,o,c4,c5⟩:=(q.o.ar B5.o q.o.lt).f6;have⟨_,_,_,r,d,p,n,_⟩:=(g.o.ar B5.o g.o.lt).ns;cases z
 .exact abD
 go_wp2_with fail;refine(mW f s.A s.an s.ac 0 _ (R.o.Z B5.o B5.o.size) (D.o.Z B5.o B5.o.size).rA).mono ?_;rintro e O ⟨z,rfl,u⟩;have x:=B5.t u;clear u B5 c0 m a o c4 c5 r d p n;have B5:=sH x.o;clear x;have⟨c0,m,a,o,c4,c5⟩:=(q.o.ar B5.o q.o.lt).f6;have⟨_,_,_,r,d,p,n,_⟩:=(g.o.ar B5.o g.o.lt).ns;cases z
 .exact abD
 by_cases h16:s.nn<=16;rotate_left
 .have B:(16:Int)<(s.nn:Int):=by omega
  go_wp2;go_ret;exact⟨_,rfl,B1.o.trans (B5.o.mono B1.o.size)⟩
 have B:¬(16:Int)<(s.nn:Int):=ak;go_wp2;go_loopg[7,8](s.nn+1)(fun gg v7 _ wr=>∃(i:Nat),s.nn-i<gg/\i<=s.nn/\v7=ae aj (i:Int)/\aq (az v wr))
 .exact⟨0,ak,ak,rfl,B5⟩
 obtain⟨i,hg,xX,rfl,A⟩:=hrel;clear c0 m a o c4 c5 r d p n B5;have⟨_,_,_,r,d,p,n,_⟩:=(g.o.ar A.o g.o.lt).ns;by_cases H:i<s.nn;rotate_left
 .have i4:¬(i:Int)<(s.nn:Int):=by omega
  go_wp2;go_ret;exact⟨_,rfl,B1.o.trans (A.o.mono B1.o.size)⟩
 have i4:(i:Int)<(s.nn:Int):=ak;obtain⟨ad,I,l,M,e0,e1⟩:=xB (D.o.Z A.o A.o.size).rN H;rw[M]at n;have⟨E,bU⟩:=eX (wr.alloc (.cells #[ae aj I,ae aj l] 325));have S:az wr E:=jx;have U:aq (Bx E wr.heap.size #[ae aj I,ae aj l]):=⟨mf⟩;have B2:=A.t S;clear M S;go_wp2;rw[<-bU];clear bU e0 e1 r d p n;have⟨c0,m,a,o,c4,c5⟩:=(q.o.ar B2.o q.o.lt).f6;have⟨_,_,_,_,d,_,_,_⟩:=(g.o.ar B2.o g.o.lt).ns;have⟨k0,k1,k2,k3⟩:=(V.o.ar B2.o V.o.lt).k4;have K:E.cell? ⟨wr.heap.size,0,none⟩=some (ae aj I):=U.o.cell 0;have W:E.cell? ⟨wr.heap.size,1,none⟩=some (ae aj l):=U.o.cell 1;have wk:IntKind.i64.wrap ((f.ln:Int)-1)=(f.ln:Int)-1:=IntWalk.i64_in _ ak;have⟨L0,L1,L2,L3,L4,L5,D0,D1⟩:=lc8 c0 m a o c4 c5 d k0;have⟨D2,D3⟩:=lc2 K W;clear c0 m a o c4 c5 d k0 k1 k2 k3 K W;refine aD (arT l ((f.ln:Int)-1)) aF aF ?_;refine mSk ?_;refine lsA SB (fun nq=> ?_) (fun F c=> ?_)
 .go_simp
  exact bg ((cI _ _ _ nq.1).mono fun _ _ h=>h.pb)
 obtain⟨b,rfl⟩:=c;cases b
 .exact aec
 simp[Act.put];refine mSk ?_;refine lsA (SW l 0 ((f.ln:Int)-1)) (fun nq=> ?_) (fun F c=> ?_)
 .go_simp
  exact zX (cI l 0 ((f.ln:Int)-1) nq.1)
 obtain⟨b,rfl,X⟩:=c;have Y:=sH X;clear X;cases b
 .exact aec
 obtain⟨G,J⟩:=Y.o rfl;obtain⟨j,rfl⟩:∃j:Nat,l=(j:Int):=⟨l.toNat,ak⟩;have hj:j<f.ln:=ak;have hj':(j:Int)<(f.ln:Int):=ak;obtain⟨adL,kk,L,_,N,_⟩:=rD (R.o.Z B2.o B2.o.size).rL hj;have Q0:=aE N;simp only[L]at L3;clear Y G J N L;simp[Act.put];refine mSk ?_;refine lsA SI (fun nq=> ?_) (fun F c=> ?_)
 .go_simp
  exact ed ((yg _ nq.1).mono fun _ _ h=>h.pi)
 obtain⟨y1,rfl⟩:=c;simp[Act.put];refine mSk ?_;refine lsA SI (fun nq=> ?_) (fun F c=> ?_)
 .go_simp
  exact ed ((yg _ nq.1).mono fun _ _ h=>h.pi)
 obtain⟨y2,rfl⟩:=c;simp[Act.put];refine mSk ?_;intro nq;obtain⟨w6,bq⟩:=nq;have BX:=B2.t bq;have BZ:=B1.t BX.o
 try dsimp only
 clear bq wk L0 L1 L2 L3 L4 L5 D0 D1 D2 D3;go_wp2_with fail
 all_goals first
  |(go_roundg(s.nn-i)<;>first|omega|exact⟨i+1,ak,ak,aT,BX⟩)
  |(go_ret;exact⟨_,rfl,BZ.o⟩)
theorem Bx.KF{b:Nat}{f d i e a c j g:ahj}(h:Bx w b #[f,d,i,e,a,c,j,g]):w.cell? ⟨b,0,none⟩=some f/\w.cell? ⟨b,1,none⟩=some d/\w.cell? ⟨b,2,none⟩=some i/\w.cell? ⟨b,3,none⟩=some e/\w.cell? ⟨b,4,none⟩=some a/\w.cell? ⟨b,5,none⟩=some c/\w.cell? ⟨b,6,none⟩=some j/\w.cell? ⟨b,7,none⟩=some g:=⟨h.cell 0,h.cell 1,h.cell 2,h.cell 3,h.cell 4,h.cell 5,h.cell 6,h.cell 7⟩
theorem WV(s:G:=by
 go_wp2
 go_ret;exact⟨_,rfl,B1.o.trans (B2.o.mono B1.o.size)⟩):G:=s
theorem Vt(f:cY)(A:aA)(n c:Nat)(w:ahh)(h:bZ w w.heap.size f)(U:cK w w.heap.size GR A n c):ahk prog 284 #[f.v,.slice A n c] w (PB w):=by
 have⟨Y,s,B1,g⟩:=box1 w f.row 96;have R:=sH (h.Z B1.o B1.o.size);have RL:=sH (U.Z B1.o B1.o.size);have hn:=U.bd;go_enter func284,ntmps284;go_wp2;rw[<-s];clear s;go_loopg[5,6](n+1)(fun gg v5 _ wr=>∃(i:Nat),n-i<gg/\i<=n/\v5=ae aj (i:Int)/\aq (az Y wr))
 .exact⟨0,ak,ak,rfl,cA⟩
 obtain⟨i,hg,hi,rfl,E⟩:=hrel;by_cases K:i<n;rotate_left
 .have i4:=cv i n
  go_wp2;go_ret;exact⟨_,rfl,B1.o.trans (E.o.mono B1.o.size)⟩
 have i4:=aU i n;obtain⟨ad,m,Q,O,M,S,I,P,T,rfl,e0,e1,e2,e3,e4,e5,e6,e7⟩:=xr (RL.o.Z E.o E.o.size) K;have⟨W,bU⟩:=eX (wr.alloc (.cells #[ae aj m,ae aj Q,ae aj O,ae aj M,ae aj S,ae aj I,ae aj P,ae aj T] 327));have b2:az wr W:=jx;have a:aq (Bx W wr.heap.size #[ae aj m,ae aj Q,ae aj O,ae aj M,ae aj S,ae aj I,ae aj P,ae aj T]):=⟨mf⟩;have B2:=E.t b2;have⟨c0,x,l,H,c4,c5⟩:=(g.o.ar B2.o g.o.lt).f6;have⟨v,u,B,y,D,C,G,F⟩:=a.o.KF;go_upto_region 5 with fail;rw[<-bU];clear bU;go_wp2_with fail;refine(gM f m _ (R.o.Z B2.o B2.o.size)).mono ?_;rintro e L ⟨z,rfl,b⟩;have p:=B2.t b;have q:=sH (a.o.ar b a.o.lt);have B2:=sH p.o;have a:=sH q.o;have⟨c0,x,l,H,c4,c5⟩:=(g.o.ar B2.o g.o.lt).f6;have⟨v,u,B,y,D,C,G,F⟩:=a.o.KF;cases z
 .exact WV
 go_wp2_with fail;refine(gM f Q _ (R.o.Z B2.o B2.o.size)).mono ?_;rintro e L ⟨z,rfl,b⟩;have p:=B2.t b;have q:=sH (a.o.ar b a.o.lt);have B2:=sH p.o;have a:=sH q.o;have⟨c0,x,l,H,c4,c5⟩:=(g.o.ar B2.o g.o.lt).f6;have⟨v,u,B,y,D,C,G,F⟩:=a.o.KF;cases z
 .exact WV
 go_wp2_with fail;refine(ym O M S _).mono ?_;rintro e L ⟨z,rfl,b⟩;have p:=B2.t b;have q:=sH (a.o.ar b a.o.lt);have B2:=sH p.o;have a:=sH q.o;have⟨c0,x,l,H,c4,c5⟩:=(g.o.ar B2.o g.o.lt).f6;have⟨v,u,B,y,D,C,G,F⟩:=a.o.KF;cases z
 .exact WV
 go_wp2_with fail;refine(ym I P T _).mono ?_;rintro e L ⟨z,rfl,b⟩;have p:=B2.t b;have q:=sH (a.o.ar b a.o.lt);have B2:=sH p.o;have a:=sH q.o;have⟨c0,x,l,H,c4,c5⟩:=(g.o.ar B2.o g.o.lt).f6;have⟨v,u,B,y,D,C,G,F⟩:=a.o.KF;cases z
 .exact WV
 have⟨P0,P1⟩:=lc2 v u;rcases i with _|k
 .go_wp2
  refine aD (fun _=>none) aF aF ?_;refine mSk ?_
  first
   |(intro (r:aG _);obtain⟨o,d⟩:=r)
   |(rintro o ⟨⟨_,d⟩,rfl⟩)
  have j:=B2.t d
  try dsimp only
  go_wp2;go_roundg(n-0)
  .exact⟨0+1,ak,ak,aT,j⟩
  omega
 .obtain⟨eJ,t,y1,_,_,_,_,_,_,J,X,g1,_⟩:=xr (RL.o.Z B2.o B2.o.size) (show k<n by omega)
  injection J with J
  subst J;have wk:IntKind.i64.wrap ((k:Int)+1-1)=(k:Int):=yC;have k0:=ie k;have k1:=aU k n;have⟨G0,G1⟩:=lc2 X g1;by_cases Z:m<t
  .go_wp2
   refine aD (fun _=>none) aF aF ?_;refine mSk ?_
   first
    |(intro (r:aG _);obtain⟨o,d⟩:=r)
    |(rintro o ⟨⟨_,d⟩,rfl⟩)
   have j:=B2.t d
   try dsimp only
   go_wp2_with fail
   all_goals first
    |(go_roundg(n-(k+1))<;>first|omega|exact⟨k+1+1,ak,ak,aT,j⟩)
    |(go_ret;exact⟨_,rfl,B1.o.trans (j.o.mono B1.o.size)⟩)
  have q0':decide (m<t)=false:=by simpa using Z
  by_cases V:m=t
  .have N:(m==t)=true:=by simp[V]
   go_wp2;refine aD (fun _=>none) aF aF ?_;refine mSk ?_
   first
    |(intro (r:aG _);obtain⟨o,d⟩:=r)
    |(rintro o ⟨⟨_,d⟩,rfl⟩)
   have j:=B2.t d
   try dsimp only
   go_wp2_with fail
   all_goals first
    |(go_roundg(n-(k+1))<;>first|omega|exact⟨k+1+1,ak,ak,aT,j⟩)
    |(go_ret;exact⟨_,rfl,B1.o.trans (j.o.mono B1.o.size)⟩)
  .have N:(m==t)=false:=by simp[V]
   go_wp2;refine aD (fun _=>none) aF aF ?_;refine mSk ?_
   first
    |(intro (r:aG _);obtain⟨o,d⟩:=r)
    |(rintro o ⟨⟨_,d⟩,rfl⟩)
   have j:=B2.t d
   try dsimp only
   go_wp2_with fail
   all_goals first
    |(go_roundg(n-(k+1))<;>first|omega|exact⟨k+1+1,ak,ak,aT,j⟩)
    |(go_ret;exact⟨_,rfl,B1.o.trans (j.o.mono B1.o.size)⟩)
def cuT(d:Option Tmp):Option (ahj->Prop):=if d=some 20 then some SB else if d=some 27 then some SB else if d=some 35 then some SB else none
theorem Kh(s:G:=by
 simp[Act.put]
 refine mSk ?_
 first
  |(intro (nq:aG _);obtain⟨w6,bq⟩:=nq)
  |(rintro w6 ⟨⟨_,bq⟩,rfl⟩)
 have BX:=B2.t bq
 try dsimp only
 go_wp2;go_ret;exact⟨_,rfl,B1.o.trans (BX.o.mono B1.o.size)⟩):G:=s
theorem aas(f:cY)(A:aA)(n c:Nat)(w:ahh)(h:bZ w w.heap.size f)(C:cK w w.heap.size GJ A n c):ahk prog 285 #[f.v,.slice A n c] w (PB w):=by
 have⟨G,l,B1,B⟩:=box1 w f.row 96;have R:=sH (h.Z B1.o B1.o.size);have RL:=sH (C.Z B1.o B1.o.size);have X:=C.bd;go_enter func285,ntmps285;go_wp2;rw[<-l];clear l;go_loopg[5,6](n+1)(fun gg H _ wr=>∃(i:Nat),n-i<gg/\i<=n/\H=ae aj (i:Int)/\aq (az G wr))
 .exact⟨0,ak,ak,rfl,cA⟩
 obtain⟨i,hg,hi,rfl,r⟩:=hrel;by_cases u:i<n;rotate_left
 .have J:=cv i n
  go_wp2;go_ret;exact⟨_,rfl,B1.o.trans (r.o.mono B1.o.size)⟩
 have J:=aU i n;obtain⟨W,g,q,p,x,y,o,m,rfl,e0,e1,O,T,e4,P,e6⟩:=xc (RL.o.Z r.o r.o.size) u;have⟨d,bU⟩:=eX (wr.alloc (.cells #[ae aj g,.bool q,.bool p,ae aj x,ae aj y,ae aj o,ae aj m] 331));have v:az wr d:=jx;have e:aq (Bx d wr.heap.size #[ae aj g,.bool q,.bool p,ae aj x,ae aj y,ae aj o,ae aj m]):=⟨mf⟩;have B2:=r.t v;have D:=sH (R.o.Z B2.o B2.o.size);have⟨c0,F,z,K,c4,c5⟩:=(B.o.ar B2.o B.o.lt).f6;have⟨L0,L1,M,L3,Z,V,N,Q⟩:=lc8 c0 F z K c4 c5 (show d.cell? ⟨wr.heap.size,0,none⟩=some (ae aj g)from e.o.cell 0) (show d.cell? ⟨wr.heap.size,1,none⟩=some (.bool q)from e.o.cell 1);have⟨L,S,P4,U,P6⟩:=lc5 (show d.cell? ⟨wr.heap.size,2,none⟩=some (.bool p)from e.o.cell 2) (show d.cell? ⟨wr.heap.size,3,none⟩=some (ae aj x)from e.o.cell 3) (show d.cell? ⟨wr.heap.size,4,none⟩=some (ae aj y)from e.o.cell 4) (show d.cell? ⟨wr.heap.size,5,none⟩=some (ae aj o)from e.o.cell 5) (show d.cell? ⟨wr.heap.size,6,none⟩=some (ae aj m)from e.o.cell 6);go_wp2_with fail;rw[<-bU];clear bU;rcases i with _|k
 .refine aD cuT aF aF ?_
  refine mSk ?_;refine lsA SB (fun nq=> ?_) (fun j a=> ?_)
  .go_simp
   exact bg (gM f g nq.1 (D.o.Z nq.2 nq.2.size))
  obtain⟨b,rfl⟩:=a;cases b
  .exact Kh
  simp[Act.put];refine mSk ?_;refine lsA SB (fun nq=> ?_) (fun j a=> ?_)
  .go_simp
   exact bg (jT x y q nq.1)
  obtain⟨b,rfl⟩:=a;cases b
  .exact Kh
  simp[Act.put];refine mSk ?_;refine lsA SB (fun nq=> ?_) (fun j a=> ?_)
  .go_simp
   exact bg (jT o m p nq.1)
  obtain⟨b,rfl⟩:=a;cases b
  .exact Kh
  simp[Act.put];refine mSk ?_
  first
   |(intro (nq:aG _);obtain⟨w6,bq⟩:=nq)
   |(rintro w6 ⟨⟨_,bq⟩,rfl⟩)
  have BX:=B2.t bq
  try dsimp only
  go_wp2;go_roundg(n-0)
  .exact⟨0+1,ak,ak,aT,BX⟩
  omega
 .obtain⟨I,y0,_,_,_,_,_,_,s,E,_⟩:=xc (RL.o.Z B2.o B2.o.size) (show k<n by omega)
  injection s with s
  subst s;have wk:IntKind.i64.wrap ((k:Int)+1-1)=(k:Int):=yC;have k0:=ie k;have k1:=aU k n;have Y:=aE E;refine aD cuT aF aF ?_;refine mSk ?_;refine lsA SB (fun nq=> ?_) (fun j a=> ?_)
  .go_simp
   exact bg (gM f g nq.1 (D.o.Z nq.2 nq.2.size))
  obtain⟨b,rfl⟩:=a;cases b
  .exact Kh
  simp[Act.put];refine mSk ?_;refine lsA SB (fun nq=> ?_) (fun j a=> ?_)
  .go_simp
   exact bg (jT x y q nq.1)
  obtain⟨b,rfl⟩:=a;cases b
  .exact Kh
  simp[Act.put];refine mSk ?_;refine lsA SB (fun nq=> ?_) (fun j a=> ?_)
  .go_simp
   exact bg (jT o m p nq.1)
  obtain⟨b,rfl⟩:=a;cases b
  .exact Kh
  simp[Act.put];refine mSk ?_
  first
   |(intro (nq:aG _);obtain⟨w6,bq⟩:=nq)
   |(rintro w6 ⟨⟨_,bq⟩,rfl⟩)
  have BX:=B2.t bq
  try dsimp only
  go_wp2_with fail
  all_goals first
   |(go_roundg(n-(k+1))<;>first|omega|exact⟨k+1+1,ak,ak,aT,BX⟩)
   |(go_ret;exact⟨_,rfl,B1.o.trans (BX.o.mono B1.o.size)⟩)
end Go.Proofs.YtklncadpkniojaaGreatDoor
