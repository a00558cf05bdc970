/- Part of LineCovers. -/
import Derived.Test.YtklncadpkniojaaGreatDoorAJ
import Derived.Test.YtklncadpkniojaaGreatDoorAI
import Derived.Test.YtklncadpkniojaaGreatDoorAH
namespace Go.Proofs.YtklncadpkniojaaGreatDoor
open Go.ChangeShapes Go.WideShapes Go.ChangeAt Go.RowKit Go.Proofs.Tryz
open Go renaming World->ahh,Value->ahj,Calls->ahk,TypeId->ahm,Ending->ahn
open Go.RowKit renaming Below->ahi,wrap64->ahl
open Go.Value renaming int->ae
open Go.IntKind renaming i64->aj
set_option linter.all false
set_option maxRecDepth 100000
set_option maxHeartbeats 16000000
variable{G:Prop}{A:aA}{B c m n:Nat}{lv v x y:Int}{w w0:ahh}
theorem IM(gs:List aC)(A:aA)(n c:Nat)(w:ahh)(h:Rx w w.heap.size 10 gs A n)(hn:n<=100000):
 ahk prog 151 #[.slice A n c] w (uG w (dO (aL gs) n)):=by
 have R:aq _:=⟨h.gxs⟩;have Z:aq (∀j,j<n->nth (aL gs) j=nth (fC gs j) 1):=⟨fun j M=>fS Il⟩;clear h;generalize aL gs=a at*;go_enter func151,ntmps151;go_wp2;go_loopg[2,3,4,7](n+1)(fun gg v2 _ _ v7 wr=>∃(i m:Nat) (I:aA) (u:Nat),n-i<gg/\i<=n/\m<=i/\v2=.slice I m u/\v7=ae aj (i:Int)/\aq ((dO a i).length=m)/\aq (Cm wr w.heap.size (dO a i) I m u)/\aq (az w wr))
 .exact⟨0,0,none,0,ak,ak,ak,rfl,rfl,⟨rfl⟩,⟨aw.nil _ _ _ _⟩,cA⟩
 obtain⟨i,m,I,u,hg,hi,hm,rfl,rfl,ML,J,C⟩:=hrel;by_cases B:i<n;rotate_left
 .have i4:=cv i n
  obtain rfl:i=n:=ak;go_wp2;go_ret;exact⟨I,u,by rw[ML.o];rfl,by rw[ML.o];exact J.o,C.o⟩
 have i4:=aU i n;obtain⟨ad,x0,T,x2,x3,x4,x5,x6,x7,x8,x9,L,b,c0,c1,S,c3,c4,c5,c6,c7,c8,c9⟩:=(R.o.Z C.o C.o.size).bD B;subst L;rw[Nat.zero_add]at b;have e:nth a i=T:=by rw[Z.o i B,b];rfl
 have t:aq (n-i<gk):=⟨hg⟩;clear b hg;have⟨O,bU⟩:∃O,O=(wr:ahh).alloc (.cells #[ae aj x0,ae aj T,ae aj x2,ae aj x3,ae aj x4,ae aj x5,ae aj x6,ae aj x7,ae aj x8,ae aj x9] 120):=⟨_,rfl⟩;obtain⟨W,_⟩:=xH bU;have v:aq (az wr O):=⟨jx⟩;have o:aq (az w O):=⟨C.o.trans (v.o.mono C.o.size)⟩;go_upto_region 4 with fail;rw[<-bU];clear bU c0 c1 S c3 c4 c5 c6 c7 c8 c9;have L1:=aE W;rcases Nat.eq_zero_or_pos i with H|H
 .have V:decide (0<i)=false:=gW
  have hni:¬0<i:=ak;have PH:aq _:=⟨pf a i ak⟩;clear W H;go_wp2;refine bQ aF aF ?_
  repeat(go_big_quiet_step (fail))
  refine wpQuiet_nil ?_;rintro _ ⟨d,rfl⟩;have r:aq (az w d.1):=⟨o.o.trans (d.2.mono o.o.size)⟩;have s:aq _:=⟨J.o.ar (Below.trans v.o (d.2.mono v.o.size))⟩;have l:=r.o.size;clear e L1;go_wp2_with (at_builtin;refine ca YK rfl (.tmp 33) (.tmp 38) rfl rfl (aw.alloc s.o _) rfl (news:=qK (i,i+1)) rfl (fX _ _ _ _) (lC _ _) ak cw ?_;intro E c8 F G z;have O8:aq _:=⟨G⟩;have x:aq (az w F):=⟨(r.o.alloc l _).trans z⟩;clear G z);have f:aq ((dO a (i+1)).length=m+1):=⟨Xc⟩;have y:aq (Cm F w.heap.size (dO a (i+1)) E (m+1) c8):=⟨Xy⟩;go_roundg(n-i)
  case measure=>have:=t.o;omega
  case rel=>exact⟨i+1,m+1,E,c8,ak,ak,ak,rfl,aT,f,y,x⟩
 obtain⟨j,M⟩:∃j,j+1=i:=⟨i-1,ak⟩;have V:decide (0<i)=true:=Kc;have Hx:(i:Int)-1=(j:Int):=ak;have j4:=aU j n;obtain⟨U,y0,y1,y2,y3,y4,y5,y6,y7,y8,y9,L,b,d0,X,_⟩:=(R.o.Z o.o o.o.size).bD (show j<n by omega);obtain rfl:ad=U:=by injection L
 rw[Nat.zero_add]at b;have k:nth a j=y1:=by rw[Z.o j (by omega),b];rfl
 have Y:=aE X;have HJ:aq _:=⟨M⟩;clear W d0 X b L;cases N:(y1==T)
 .have PH:aq _:=⟨pf a i (by intro h;obtain⟨_,h⟩:=h;rw[show i-1=j by omega,e,k]at h;simp[h]at N)⟩
  clear e k M;go_wp2;refine bQ aF aF ?_
  repeat(go_big_quiet_step (fail))
  refine wpQuiet_nil ?_;rintro _ ⟨d,rfl⟩;have r:aq (az w d.1):=⟨o.o.trans (d.2.mono o.o.size)⟩;have s:aq _:=⟨J.o.ar (Below.trans v.o (d.2.mono v.o.size))⟩;have l:=r.o.size;clear Y L1 N;go_wp2_with (at_builtin;refine ca YK rfl (.tmp 33) (.tmp 38) rfl rfl (aw.alloc s.o _) rfl (news:=qK (i,i+1)) rfl (fX _ _ _ _) (lC _ _) ak cw ?_;intro E c8 F G z;have O8:aq _:=⟨G⟩;have x:aq (az w F):=⟨(r.o.alloc l _).trans z⟩;clear G z);have f:aq ((dO a (i+1)).length=m+1):=⟨Xc⟩;have y:aq (Cm F w.heap.size (dO a (i+1)) E (m+1) c8):=⟨Xy⟩;go_roundg(n-i)
  case measure=>have:=t.o;omega
  case rel=>exact⟨i+1,m+1,E,c8,ak,ak,ak,rfl,aT,f,y,x⟩
 .have PM:aq _:=⟨Bi a i ⟨H,by rw[show i-1=j by omega,e,k];simpa using N⟩⟩
  have D:0<m:=by have:=lW a i H;have:=kz a i;have:=ML.o;omega
  clear e k M;go_wp2;refine bQ aF aF ?_
  repeat(go_big_quiet_step (fail))
  refine wpQuiet_nil ?_;rintro _ ⟨d,rfl⟩;have r:aq (az w d.1):=⟨o.o.trans (d.2.mono o.o.size)⟩;have s:aq _:=⟨J.o.ar (Below.trans v.o (d.2.mono v.o.size))⟩;have l:=r.o.size;clear Y L1 N;obtain⟨q,hq⟩:∃q,q+1=m:=⟨m-1,ak⟩;obtain⟨g,rfl,P,dw⟩:=aw.form s.o D;have Q:=pU (dO a i) q (i+1) (by rw[ML.o];omega);have K:=PM.o;rw[ML.o,show m-1=q by omega]at K;rw[<-K]at Q;have cq:=aw.cellAt s.o (q*2+1) ak;rw[(jX (dO a i) q (by rw[ML.o];omega)).2]at cq;have fq:=aw.frozenAt s.o (q*2+1);have st:=(World.ownsRow.stored (cap:=u) s.o (q*2+1) (ae aj ((i+1:Nat):Int))).1;rw[Q]at st;have f:aq ((dO a (i+1)).length=m):=⟨by rw[K,List.length_set];exact ML.o⟩;have y:aq (Cm (d.1.setCell ⟨g,q*2+1,none⟩ (ae aj ((i+1:Nat):Int))) w.heap.size (dO a (i+1)) (some ⟨g,0,none⟩) m u):=⟨st⟩;have x:aq (az w (d.1.setCell ⟨g,q*2+1,none⟩ (ae aj ((i+1:Nat):Int)))):=⟨Below.setCell r.o (p:=⟨g,q*2+1,none⟩) P _⟩;have q1:(m:Int)-1=(q:Int):=ak;have q2:=aU q m;have q3:=ie q;have HQ:aq _:=⟨hq⟩;clear Q K st hq D;have e2:(((i+1:Nat):Int))=(i:Int)+1:=ak;rw[e2]at y x;clear e2;go_wp2;go_roundg(n-i)
  case measure=>have:=t.o;omega
  case rel=>exact⟨i+1,m,_,u,ak,ak,ak,rfl,aT,f,y,x⟩
def PWn(w:ahh)(m:Nat)(e:ahn)(a:ahh):Prop:=∃(A:aA) (k c:Nat),k<=m/\e=.returned (.slice A k c)/\Ow a w.heap.size 3 .i64 aH A k c/\az w a
theorem Of(C:aA)(m d:Nat)(a b:Int)(w:ahh)(h:Iw w w.heap.size .i64 aH C m)(v:m<=100000):ahk prog 19 #[.slice C m d,ae aj a,ae aj b] w (PWn w m):=by
 have R:=sH h;go_enter func19,ntmps19;go_wp2;go_loopg[7,8](m+1)(fun gg v7 n wr=>∃(i k:Nat) (D:aA) (e:Nat),m-i<gg/\i<=m/\k<=i/\v7=.slice D k e/\n=ae aj (i:Int)/\aq (Ow wr w.heap.size 3 .i64 aH D k e)/\aq (az w wr))
 .exact⟨0,0,none,0,ak,ak,ak,rfl,rfl,⟨Ow.nil _ _ _ _ _⟩,cA⟩
 obtain⟨i,k,D,e,u,y,E,rfl,rfl,O,c⟩:=hrel;by_cases f:i<m;rotate_left
 .have r:=cv i m
  go_wp2;go_ret;exact⟨_,_,_,ak,rfl,O.o,c.o⟩
 have r:=aU i m;obtain⟨B,z,rfl,_,t⟩:=(R.o.Z c.o c.o.size).get f;have p:=c.o.size;by_cases A:a<z;rotate_left
 .go_wp2
  go_roundg(m-i)
  .exact⟨i+1,k,D,e,ak,ak,ak,rfl,aT,O,c⟩
  omega
 by_cases x:z<b;rotate_left
 .go_wp2
  go_roundg(m-i)
  .exact⟨i+1,k,D,e,ak,ak,ak,rfl,aT,O,c⟩
  omega
 go_wp2_with (at_builtin;refine bO lO rfl (.tmp 29) (.tmp 34) rfl rfl (O.o.alloc _) rfl (bh _ _ _) trivial ak cw ?_;intro o c8 q j g;have l:=sH j;have s:aq (az w q):=⟨(c.o.alloc ak _).trans g⟩;clear j g);go_roundg(m-i)
 .exact⟨i+1,k+1,o,c8,ak,ak,ak,rfl,aT,l,s⟩
 omega
theorem aev(s:G:=by
 rcases hb with rfl|rfl|⟨h3,h4⟩
 .go_wp2
  (go_roundg(n-j)<;>first|omega|exact⟨j+1,ak,ak,aT,O,BE⟩|exact⟨j+1,ak,ak,aT,⟨O2.o _⟩,⟨B2.o _⟩⟩)
 .go_wp2
  (go_roundg(n-j)<;>first|omega|exact⟨j+1,ak,ak,aT,O,BE⟩|exact⟨j+1,ak,ak,aT,⟨O2.o _⟩,⟨B2.o _⟩⟩)
 have h3:(b==5)=false:=Fb;have h4:(b==8)=false:=Ie;go_wp2
 (go_roundg(n-j)<;>first|omega|exact⟨j+1,ak,ak,aT,O,BE⟩|exact⟨j+1,ak,ak,aT,⟨O2.o _⟩,⟨B2.o _⟩⟩)):G:=s
theorem afj(C:aA)(n d:Nat)(w:ahh)(k:Iw w w.heap.size .i64 aH C n)(I:n<=10000):ahk prog 136 #[.slice C n d] w (Nw w 3 .i64 aH n):=by
 have K:=sH k;go_enter func136,ntmps136;go_wp2_with fail;refine(ud C n d w K.o I).mono ?_;rintro e M ⟨A,c,rfl,o1,x⟩;have O:=sH o1;have E:=sH x;go_wp2;go_loopg[4](n+1)(fun gg v4 wr=>∃(j:Nat),n-j<gg/\j<=n/\v4=ae aj ((j:Int)+1)/\aq (Ow wr w.heap.size 3 .i64 aH A n c)/\aq (az w wr))
 .exact⟨0,ak,ak,rfl,O,E⟩
 obtain⟨j,J,L,rfl,O,BE⟩:=hrel;by_cases D:j+2<n;rotate_left
 .have G:¬(j:Int)+1+1<(n:Int):=by omega
  go_wp2;go_ret;exact⟨_,_,rfl,O.o,BE.o⟩
 have G:(j:Int)+1+1<(n:Int):=ak;obtain⟨g,rfl,i,B⟩:=O.o.form ak;obtain⟨a,_,o⟩:=O.o.get (show j<n by omega);obtain⟨b,_,z⟩:=O.o.get (show j+1<n by omega);obtain⟨e,_,s⟩:=O.o.get (show j+1+1<n by omega);have wk:ahl (j:Int)=(j:Int):=IntWalk.wrap64_in _ ak;have k0:=ie j;have k1:=aU j n;have k2:(j:Int)+1<(n:Int):=ak;go_upto_region 5 with fail;go_cut[24](fun v t=>(∃b:Bool,v=.bool b)/\aq (az wr t))
 case first=>
  have⟨L0,L1⟩:=lc2 o s;by_cases f:a=e
  .subst f
   refine aD (fun _=>none) aF aF ?_;refine mSk ?_
   first
    |(intro (m:aG _);obtain⟨l,h⟩:=m)
    |(rintro l ⟨⟨_,h⟩,rfl⟩)
   try dsimp only
   go_wp2;go_meet;exact⟨⟨_,rfl⟩,⟨h⟩⟩
  have f:(a !=e)=true:=by simpa using f
  refine aD (fun _=>none) aF aF ?_;refine mSk ?_
  first
   |(intro (m:aG _);obtain⟨l,h⟩:=m)
   |(rintro l ⟨⟨_,h⟩,rfl⟩)
  try dsimp only
  go_wp2;go_meet;exact⟨⟨_,rfl⟩,⟨h⟩⟩
 case rest=>
 obtain⟨⟨r,rfl⟩,q⟩:=hcut;have F:=sH (O.o.ar q.o);have u:=BE.t q.o
 rename ahh=>wr
 have O:=F;have BE:aq (az w wr):=u;cases r;rotate_left
 .go_wp2
  (go_roundg(n-j)<;>first|omega|exact⟨j+1,ak,ak,aT,O,BE⟩|exact⟨j+1,ak,ak,aT,⟨O2.o _⟩,⟨B2.o _⟩⟩)
 obtain⟨a,_,o⟩:=O.o.get (show j<n by omega);obtain⟨b,_,z⟩:=O.o.get (show j+1<n by omega);have f1:=O.o.fz (j+1);have O2:aq (∀y:Int,Ow (wr.setCell ⟨g,j+1,none⟩ (ae aj y)) w.heap.size 3 .i64 aH (some ⟨g,0,none⟩) n c):=⟨fun y=>O.o.set (j+1) trivial⟩;have B2:aq (∀y:Int,az w (wr.setCell ⟨g,j+1,none⟩ (ae aj y))):=⟨fun y=>Below.setCell BE.o (p:=⟨g,j+1,none⟩) i _⟩;have H:a=4∨a=7∨(a≠4/\a≠7):=ak;have hb:b=5∨b=8∨(b≠5/\b≠8):=ak;rcases H with rfl|rfl|⟨h1,h2⟩
 .exact aev
 .exact aev
 have h1:(a==4)=false:=Fa;have h2:(a==7)=false:=vv;go_wp2
 (go_roundg(n-j)<;>first|omega|exact⟨j+1,ak,ak,aT,O,BE⟩|exact⟨j+1,ak,ak,aT,⟨O2.o _⟩,⟨B2.o _⟩⟩)
theorem ad5(s:G:=by
 go_wp2
 (go_roundg(n-i)<;>first|omega|exact⟨i+1,ak,ak,aT,O,BE⟩|exact⟨i+1,ak,ak,aT,⟨O2.o _⟩,⟨B2.o _⟩⟩)):G:=s
theorem ae'(C:aA)(n d:Nat)(w:ahh)(k:Iw w w.heap.size .i64 aH C n)(P:n<=10000):ahk prog 135 #[.slice C n d] w (Nw w 3 .i64 aH n):=by
 have K:=sH k;go_enter func135,ntmps135;go_wp2_with fail;refine(ud C n d w K.o P).mono ?_;rintro e U ⟨A,c,rfl,o1,H⟩;have O:=sH o1;have L:=sH H;go_wp2;go_loopg[4,5,6](n+1)(fun gg v4 _ _ wr=>∃(i:Nat),n-i<gg/\i<=n/\v4=ae aj (i:Int)/\aq (Ow wr w.heap.size 3 .i64 aH A n c)/\aq (az w wr))
 .exact⟨0,ak,ak,rfl,O,L⟩
 obtain⟨i,S,T,rfl,O,BE⟩:=hrel;by_cases r:i<n;rotate_left
 .have M:=cv i n
  go_wp2;go_ret;exact⟨_,_,rfl,O.o,BE.o⟩
 have M:=aU i n;obtain⟨g,rfl,t,J⟩:=O.o.form ak;obtain⟨u,_,u0⟩:=O.o.get r;have f0:=O.o.fz i;have o:=sH (K.o.Z BE.o BE.o.size);obtain⟨adc,x,rfl,_,R⟩:=o.o.get r;have O2:aq (∀y:Int,Ow (wr.setCell ⟨g,i,none⟩ (ae aj y)) w.heap.size 3 .i64 aH (some ⟨g,0,none⟩) n c):=⟨fun y=>O.o.set i trivial⟩;have B2:aq (∀y:Int,az w (wr.setCell ⟨g,i,none⟩ (ae aj y))):=⟨fun y=>Below.setCell BE.o (p:=⟨g,i,none⟩) t _⟩;by_cases s:(x==6)=true;rotate_left
 .have s:(x !=6)=true:=by simpa using s
  go_wp2
  (go_roundg(n-i)<;>first|omega|exact⟨i+1,ak,ak,aT,O,BE⟩|exact⟨i+1,ak,ak,aT,⟨O2.o _⟩,⟨B2.o _⟩⟩)
 have s:(x !=6)=false:=by simpa using s
 go_upto_block 2 with fail;go_cut[5](fun v h=>(∃k:Nat,v=ae aj ((k:Int)-1)/\k<=i+1)/\wr=h)
 case first=>
  go_wp2;go_loopg[5](i+2)(fun gg v h=>∃k:Nat,k<gg/\v=ae aj ((k:Int)-1)/\k<=i+1/\h=wr)
  .exact⟨i+1,ak,aQ,ak,rfl⟩
  obtain⟨k,D,rfl,Q,rfl⟩:=hrel;rcases k with _|k
  .go_wp2
   go_meet;exact⟨⟨0,aQ,ak⟩,rfl⟩
  have B:(((k+1:Nat):Int)-1)=(k:Int):=ak;rw[B];obtain⟨_,y,f,_,E⟩:=o.o.get (show k<n by omega);injection f with f
  subst f;have k1:=aU k n;by_cases j:(y==6)=true
  .go_wp2
   go_roundg(k+1)
   .exact⟨k,ak,jy,ak,rfl⟩
   omega
  have j:(y==6)=false:=by simpa using j
  go_wp2;go_meet;exact⟨⟨k+1,aQ,ak⟩,rfl⟩
 case rest=>
 obtain⟨⟨q,rfl,N⟩,rfl⟩:=hcut;go_upto_block 4 with fail;go_cut[6](fun v h=>(∃k:Nat,v=ae aj (k:Int)/\k<=n)/\wr=h)
 case first=>
  go_wp2;go_loopg[6](n+1)(fun gg v h=>∃k:Nat,n-k<gg/\v=ae aj (k:Int)/\k<=n/\h=wr)
  .exact⟨i,ak,rfl,ak,rfl⟩
  obtain⟨k,D,rfl,Q,rfl⟩:=hrel;by_cases a:k<n;rotate_left
  .have k1:=cv k n
   go_wp2;go_meet;exact⟨⟨k,rfl,ak⟩,rfl⟩
  obtain⟨_,y,f,_,E⟩:=o.o.get a;injection f with f
  subst f;have k1:=aU k n;by_cases j:(y==6)=true
  .go_wp2
   go_roundg(n-k)
   .exact⟨k+1,ak,aT,ak,rfl⟩
   omega
  have j:(y==6)=false:=by simpa using j
  go_wp2;go_meet;exact⟨⟨k,rfl,ak⟩,rfl⟩
 case rest=>
 obtain⟨⟨m,rfl,I⟩,rfl⟩:=hcut;go_upto_region 11 with fail;go_cut[5,67](fun G v h=>(∃z:Int,G=ae aj z)/\(∃b:Bool,v=.bool b)/\wr=h)
 case first=>
  rcases q with _|q
  .by_cases a:m<n
   rotate_left
   .have k2:=cv m n
    go_wp2;go_meet;exact⟨⟨_,rfl⟩,⟨_,rfl⟩,rfl⟩
   obtain⟨_,z,l,_,F⟩:=o.o.get a;injection l with l
   subst l;have k2:=aU m n;go_wp2;go_meet;exact⟨⟨_,rfl⟩,⟨_,rfl⟩,rfl⟩
  have B:(((q+1:Nat):Int)-1)=(q:Int):=ak;rw[B];obtain⟨_,y,f,_,E⟩:=o.o.get (show q<n by omega);injection f with f
  subst f;have k1:=aU q n;by_cases j:(y==4)=true
  .go_wp2
   go_meet;exact⟨⟨_,rfl⟩,⟨_,rfl⟩,rfl⟩
  have j:(y==4)=false:=by simpa using j
  by_cases a:m<n;rotate_left
  .have k2:=cv m n
   go_wp2;go_meet;exact⟨⟨_,rfl⟩,⟨_,rfl⟩,rfl⟩
  obtain⟨_,z,l,_,F⟩:=o.o.get a;injection l with l
  subst l;have k2:=aU m n;go_wp2;go_meet;exact⟨⟨_,rfl⟩,⟨_,rfl⟩,rfl⟩
 case rest=>
 obtain⟨⟨_,rfl⟩,⟨b,rfl⟩,rfl⟩:=hcut;cases b
 .exact ad5
 .exact ad5
theorem abc(C:aA)(n d:Nat)(a:Int)(w:ahh)(k:Iw w w.heap.size .i64 aH C n)(l:n<=4000):ahk prog 71 #[.slice C n d,ae aj a] w (Nw w 3 .i64 aH n):=by
 have K:=sH k;go_enter func71,ntmps71;go_wp2_with fail;refine(af8 C n d a w K.o ak).mono ?_;rintro e N ⟨b,c,rfl,o1,E⟩;have O1:=sH o1;have Q:=sH E;obtain⟨h,I,_⟩:=o1;have G:=sH (aaL w.heap.size b n c h N I l);go_wp2_with fail;refine G.o.mono ?_;rintro e R ⟨g,rfl,H,z⟩;have v:=sH (abd w.heap.size b n c g R H l);have F:=sH (Q.o.trans z);go_wp2_with fail;refine v.o.mono ?_;rintro e q ⟨B,rfl,P,b3⟩;have O3:aq (Ow q w.heap.size 3 .i64 aH b n c):=⟨⟨_,P,fun _ _=>trivial⟩⟩;have Y:=sH (F.o.trans b3);go_wp2_with fail;refine(afj b n c q O3.o.iw ak).mono ?_;rintro e p ⟨O,c4,rfl,V,u⟩;have s:=sH V;have m:=Y.t u;go_wp2_with fail;refine(ae' O n c4 p s.o.iw ak).mono ?_;rintro e t ⟨j,c5,rfl,T,x⟩;have D:=m.t x;have i:=m.o.size;obtain⟨f,X,_⟩:=T.cJ (show w.heap.size<=p.heap.size from i);have L:=sH (abq w.heap.size j n c5 f t X l);go_wp2_with fail;refine L.o.mono ?_;rintro e r ⟨A,rfl,J,U⟩;have y:aq (Ow r w.heap.size 3 .i64 aH j n c5):=⟨⟨_,J,fun _ _=>trivial⟩⟩;have o:=sH (D.o.trans U);go_wp2_with fail;refine(ags j n c5 w.heap.size a r y.o o.o.size ak).mono ?_;rintro e w7 ⟨rfl,M,W⟩;have S:=sH M;have Z:=sH (o.o.trans W);go_wp2;go_ret;exact⟨_,_,rfl,S.o,Z.o⟩
def okR(r:Int):Bool:=(decide (0<=r)&&decide (r<55296))||(decide (57343<r)&&decide (r<=1114111))
theorem abi(r:Int)(w:ahh):ahk prog 55 #[.int .i32 r] w (fun e d=>e=.returned (.bool (okR r))/\w=d):=by
 have h:(0<=r/\r<55296)∨(r<0/\¬57343<r)∨(55296<=r/\0<=r/\¬57343<r)∨(57343<r/\0<=r/\55296<=r):=ak;rcases h with⟨a,b⟩|⟨a,b⟩|⟨a,b,c⟩|⟨a,b,c⟩
 all_goals
  go_enter func55,ntmps55;go_wp2;go_ret;refine⟨mr ?_,rfl⟩;rw[Bool.eq_iff_iff];simp[okR];omega
def Cq(ts:aC)(n:Nat):Prop:=∀i,i<n->okR (nth ts i)=true
def PRg(w:ahh)(ts:aC)(n:Nat)(e:ahn)(a:ahh):Prop:=∃z:Bool,e=.returned (.bool z)/\(z=true↔Cq ts n)/\w=a
theorem AR(A:aA)(n c:Nat)(ts:aC)(w:ahh)(h:aM .i32 w A n c ts)(s:n<=1000000000):ahk prog 20 #[.slice A n c] w (PRg w ts n):=by
 have R:=sH h;go_enter func20,ntmps20;go_wp2;go_loopg[3](n+1)(fun gg v3 wr=>∃(i:Nat),n-i<gg/\i<=n/\v3=ae aj (i:Int)/\wr=w/\aq (Cq ts i))
 .exact⟨0,ak,ak,rfl,rfl,⟨fun k m=>by omega⟩⟩
 obtain⟨i,p,q,rfl,rfl,d⟩:=hrel;by_cases a:i<n;rotate_left
 .have j:=cv i n
  obtain rfl:i=n:=ak;go_wp2;go_ret;exact⟨_,rfl,⟨fun _=>d.o,fun _=>rfl⟩,rfl⟩
 have j:=aU i n;obtain⟨r,rfl,o⟩:=R.o.fP a;go_wp2_with fail;refine(abi (nth ts i) _).mono ?_;rintro e _ ⟨rfl,rfl⟩;cases b:okR (nth ts i)
 .have g:aq (¬Cq ts n):=⟨fun h=>by rw[h i a]at b;cases b⟩
  go_wp2;go_ret;exact⟨_,rfl,⟨fun h=>fA,fun h=>absurd h g.o⟩,rfl⟩
 .have l:aq (Cq ts (i+1)):=⟨fun k m=>by
   rcases Nat.lt_or_ge k i with f|f
   .exact d.o k f
   .obtain rfl:k=i:=by omega
    exact b⟩
  go_wp2;go_roundg(n-i)
  .exact⟨i+1,ak,ak,aT,rfl,l⟩
  omega
section
variable{w0 w w':ahh}{N B0 M M' n8 c8 n9 c9:Nat}{A8 A9:aA}
theorem uP.grown{C:aA}{d G:Nat}{e:ahm}{vs:List ahj}(h:uP w M A n c v)(k:aw w B e G C m d vs)(f:e≠130)(r:w.grownBy w' (Value.slice C m d).ownBlock)(J:w.heap.size<=w'.heap.size):uP w' M A n c v:=by
 obtain⟨D,x,q,s,⟨H,y⟩,E⟩:=h;refine⟨D,x,q,s,⟨H,fun F=> ?_⟩,E⟩;obtain⟨i,I,p,⟨cur,u,l⟩,t⟩:=y F;have key:w'.heap[i.block]? =w.heap[i.block]? :=r.block _ p (by
  rcases aw.dK k with rfl|⟨g,rfl⟩
  .simp[Value.ownBlock]
  .intro b
   simp only[Value.ownBlock]at b;injection b with b
   obtain⟨o,z,a⟩:=aw.typ k;rw[<-b,l]at a;injection a with a
   injection a with _ a
   exact f a.symm)
 refine⟨i,I,ak,⟨cur,u,key.trans l⟩,fun j e f=> ?_⟩;obtain⟨k1,k2,k3⟩:=t j e f;exact⟨(World.cell?_of_block Kd).trans k1,(World.cell?_of_block Kd).trans k2,(World.cell?_of_block Kd).trans k3⟩
theorem uP.put{N:Nat}{cs ds:Array ahj}(h:uP w M A n c v)(bx:w.heap[N]? =some (.cells cs 127 (0,0))):uP (w.setRow N ds) M A n c v:=by
 obtain⟨p,m,f,i,⟨s,o⟩,q⟩:=h;refine⟨p,m,f,i,⟨s,fun r=> ?_⟩,q⟩;obtain⟨b,t,hl,⟨cur,l,a⟩,k⟩:=o r;have key:(w.setRow N ds).heap[b.block]? =w.heap[b.block]? :=setRow_other _ _ _ _ (fun g=>by
  rw[g,bx]at a;injection a with a
  injection a with _ a
  revert a;decide)
 refine⟨b,t,Bj,⟨cur,l,key.trans a⟩,fun j e d=> ?_⟩;obtain⟨k1,k2,k3⟩:=k j e d;exact⟨(World.cell?_of_block Kd).trans k1,(World.cell?_of_block Kd).trans k2,(World.cell?_of_block Kd).trans k3⟩
structure yJ(w0 w:ahh)(N B0 M:Nat)(A8:aA)(n8 c8:Nat)(A9:aA)(n9 c9:Nat):Prop where
 be:az w0 w
 lo:w0.heap.size<=N
 nb:N<B0
 hB:B0<=w.heap.size
 bx:∃(A:aA) (n c:Nat) (i em v:Int),w.heap[N]? =some (.cells (mx A n c i em v) 127 (0,0))/\uP w M A n c v
 l8:Ow w B0 3 .i64 aH A8 n8 c8
 l9:Ow w B0 3 .i64 aH A9 n9 c9
 ap:bM A8 A9
theorem Iw.put{P:Int->Prop}(h:Iw w N .i64 P A n)(cs:Array ahj):Iw (w.setRow N cs) N .i64 P A n:=by
 obtain⟨xs,a,b⟩:=h;exact⟨xs,a.jS fun p c=>World.cell?_of_block (setRow_other _ _ _ _ ak),b⟩
theorem yJ.ar(h:yJ w0 w N B0 M A8 n8 c8 A9 n9 c9)(a:az w w'):yJ w0 w' N B0 M A8 n8 c8 A9 n9 c9:=by
 obtain⟨A,n,c,i,d,v,b,e⟩:=h.bx;have f:=a.size;have:=h.hB;have:=h.be.size;exact⟨h.be.trans (a.mono ak),h.lo,h.nb,ak,⟨A,n,c,i,d,v,(a.block _ (Array.getElem?_eq_some_iff.1 b).1).trans b,e.ar a⟩,h.l8.ar a,h.l9.ar a,h.ap⟩
theorem yJ.more(h:yJ w0 w N B0 M A8 n8 c8 A9 n9 c9)(b:M<=M'):yJ w0 w N B0 M' A8 n8 c8 A9 n9 c9:=by
 obtain⟨A,n,c,i,a,v,d,e⟩:=h.bx;exact⟨h.be,h.lo,h.nb,h.hB,⟨A,n,c,i,a,v,d,e.more b⟩,h.l8,h.l9,h.ap⟩
theorem yJ.swap(h:yJ w0 w N B0 M A8 n8 c8 A9 n9 c9):yJ w0 w N B0 M A9 n9 c9 A8 n8 c8:=⟨h.be,h.lo,h.nb,h.hB,h.bx,h.l9,h.l8,h.ap.symm⟩
theorem Ow.ab1{g:Nat}{e:ahm}(h:Ow w B e .i64 aH A n c)(l:g<B)(cs:Array ahj):Ow (w.setRow g cs) B e .i64 aH A n c:=by
 obtain⟨xs,b,j⟩:=h;refine⟨xs,⟨b.1, ?_⟩,j⟩;rcases b.2 with i|⟨k,cap,cur,f,a,d,r⟩
 .exact .inl i
 .exact .inr ⟨k,cap,cur,f,a,by rw[setRow_other _ _ _ _ (by omega)];exact d,r⟩
theorem yJ.put(h:yJ w0 w N B0 M A8 n8 c8 A9 n9 c9){A:aA}{n c:Nat}{v:Int}(i b:Int)(e:uP w M' A n c v):yJ w0 (w.setRow N (mx A n c i b v)) N B0 M' A8 n8 c8 A9 n9 c9:=by
 obtain⟨f,g,c',j,d,l,a,k⟩:=h.bx;exact⟨below_setRow h.be h.lo _,h.lo,h.nb,by have:=h.hB;simpa using this,⟨A,n,c,i,b,v,setRow_heap _ _ _ _ _ _ a,e.put a⟩,h.l8.ab1 h.nb _,h.l9.ab1 h.nb _,h.ap⟩
theorem yJ.push(h:yJ w0 w N B0 M A8 n8 c8 A9 n9 c9){xs f:aC}(k:Own w B0 3 .i64 A8 n8 c8 xs){b:aA}{c':Nat}(o:Own w' B0 3 .i64 b (n8+1) c' f)(d:ahi B0 w w')(j:w.grownBy w' (Value.slice A8 n8 c8).ownBlock)(a:∀g,b=some ⟨g,0,none⟩->A8=some ⟨g,0,none⟩∨w.heap.size<=g):yJ w0 w' N B0 M b (n8+1) c' A9 n9 c9:=by
 obtain⟨A,n,c,i,r,v,m,t⟩:=h.bx;have q:=d.size;have x:=h.hB;have y:=h.be.size;have p:=h.nb;have z:=h.lo
 obtain⟨l,e,s⟩:=h.l9;refine⟨h.be.trans (d.mono ak),h.lo,h.nb,ak,⟨A,n,c,i,r,v,(d.block _ p).trans m,t.grown k cr j q⟩,⟨f,o,fun _ _=>trivial⟩,⟨l,Own.kept e j h.ap.symm (aw.dK k),s⟩, ?_⟩;exact h.ap.grow (fun g u=>by rw[u]at e;exact(aw.xD e).2) a
end
def PL2(w:ahh)(n:Nat)(e:ahn)(w':ahh):Prop:=∃(A C:aA) (c d:Nat),e=.returned (.tuple #[.slice A n c,.slice C n d])/\Ow w' w.heap.size 3 .i64 aH A n c/\Ow w' w.heap.size 3 .i64 aH C n d/\az w w'
def SE(v:ahj):Prop:=∃(l o:Int) (b:Bool),v=.agg #[ae aj l,ae aj o,.bool b]
def lvT(a b:Nat)(d:Option Tmp):Option (ahj->Prop):=if d=some a then some SE else if d=some b then some SI else none
def ZBo:Sat:=⟨fun v _=>∃b:Bool,v=.bool b,fun _ _ _ h _=>h⟩
def ZSt(M:Nat):Sat:=⟨fun u w=>∃(A:aA) (n c:Nat) (i a v:Int),u=.agg (mx A n c i a v)/\uP w M A n c v,fun _ _ _ ⟨A,n,c,i,a,v,d,e⟩ b=>⟨A,n,c,i,a,v,d,e.ar b⟩⟩
theorem ZSt.o{M:Nat}{i f:Int}{w:ahh}(h:(ZSt M).p (.agg (mx A n c i f v)) w):uP w M A n c v:=by
 obtain⟨l,m,c',o,b,p,a,j⟩:=h;simp at a;obtain⟨⟨g,e,k⟩,_,_,d⟩:=a;rw[g,e,k,d];exact j
def fsT(M:Nat)(d:Option Tmp):Option Sat:=if d=some 72 then some ZBo else if d=some 73 then some (ZSt M)else none
theorem ae1(s:G:=by
 obtain⟨A,m,d,i,em,v,bx,hs⟩:=(L3.o).bx
 have BX:aq (Bx _ N (mx A m d i em v)):=⟨⟨_,bx⟩⟩;have HS:aq _:=⟨hs⟩;have⟨c0,c1,aW,c3⟩:=BX.o.q4;have hM0:m<=_:=hs.1;clear bx hs;go_wp2_with fail;refine(vW A m d _ i em v _ w4 HS.o ak).mono ?_;rintro e w5 ⟨A',n',d',i',e',v',rfl,rZ,b5⟩;have L4:aq _:=⟨L3.o.ar b5⟩;have Ju:aq (Iw w5 N .i64 aH MA n):=⟨yU.o.Z (b5.mono EX) bW⟩;have L5:aq _:=⟨(L4.o.put i' e' rZ).more (M':=j+2) ak⟩;obtain⟨A6,m6,d6,i6,em6,v6,hX,_⟩:=L4.o.bx;have Gb:aq (Iw (w5.setRow N (mx A' n' d' i' e' v')) N .i64 aH MA n):=⟨Ju.o.put _⟩;clear b5 rZ;go_wp2_with (refine wpList_store_row rfl 127 (.tmp 7) (.tmp 64) rfl N (mx A' n' d' i' e' v') rfl aB 127 _ hX aF aB dJ ?_);go_meet;exact⟨⟨_,rfl⟩,⟨_,rfl⟩,L5,Gb⟩):G:=s
theorem aeE(s:G:=by
 obtain⟨nq,rfl⟩:=dv
 go_simp;obtain⟨k1,k2,k3,es,k4,k5⟩:=HL.o nq.1 nq.2;refine(nT A m d i em v es nq.1 k4 (by rw[<-k4.1];exact k5.len) ak).mono ?_;rintro e w5 ⟨l,o,b,_,rfl,hb⟩;exact⟨_,rfl,⟨l,o,b,rfl⟩,⟨⟨w5,nq.2.trans (hb.mono nq.2.size)⟩,rfl⟩⟩):G:=s
theorem ae3(s:G:=by
 obtain⟨nq,rfl⟩:=dv
 go_simp;refine(adu A m d _ i em v _ nq.1 (HL.o nq.1 nq.2) ak).mono ?_;rintro e w5 ⟨z,rfl,hb⟩;exact⟨_,rfl,⟨z,rfl⟩,⟨⟨w5,nq.2.trans (hb.mono nq.2.size)⟩,rfl⟩⟩):G:=s
theorem Qa(A:aA)(n c:Nat)(base:Int)(w:ahh)(h:Iw w w.heap.size .i64 aH A n)(hc:n<=c)(hn:n<=10000):ahk prog 24 #[.slice A n c,ae aj base] w (PL2 w n):=by
 have R:aq _:=⟨h⟩;obtain⟨xs,hx,_⟩:=h;have PM:aq _:=⟨nZ A n c xs w hx ak⟩;clear hx;go_enter func24,ntmps24;go_wp2_with fail;refine PM.o.mono ?_;rintro e w1 ⟨MA,mc,rfl,om,b1⟩;have J:aq (Iw w1 w1.heap.size .i64 aH MA n):=⟨⟨_,om.ints,fun _ _=>trivial⟩⟩;have B1:aq _:=⟨b1⟩;clear om b1 PM;go_wp2_with fail;refine(Fh base w1).mono ?_;rintro e I ⟨X,n2,c2,i2,e2,v2,rfl,O,T⟩;have S:aq (az w I):=⟨B1.o.trans (T.mono B1.o.size)⟩;have p:aq _:=⟨J.o.Z T T.size⟩;have⟨N,t⟩:∃N,N=I.heap.size:=⟨_,rfl⟩;have P:aq (yJ w (I.alloc (.cells (mx X n2 c2 i2 e2 v2) 127)) N (N+1) 1 none 0 0 none 0 0):=⟨⟨S.o.alloc S.o.size _,by rw[t];exact S.o.size,ak,by simp[t],⟨_,_,_,_,_,_,by rw[t];exact heap_alloc_new _ _,O.ar (av _ _)⟩,Ow.nil _ _ _ _ _,Ow.nil _ _ _ _ _,tN _⟩⟩;have yU:aq (Iw (I.alloc (.cells (mx X n2 c2 i2 e2 v2) 127)) N .i64 aH MA n):=⟨by rw[t];exact p.o.Z (av _ _) bW⟩;clear T O J p B1 S;go_upto_region 3 with fail;have Ju:aq _:=⟨yU⟩;rw[t]at P;have⟨r,x⟩:∃r,r=I.alloc (.cells (mx X n2 c2 i2 e2 v2) 127):=⟨_,rfl⟩;rw[<-x]at P yU;have q:=x;dsimp only[mx]at q;rw[<-q];rw[<-t]at P;clear x q Ju;go_wp2;rw[<-t];clear t;go_loopg[8,9,10,11,12,13](n+1)(fun gg v8 u v10 _ _ _ wr=>∃(j:Nat) (A8:aA) (c8:Nat) (A9:aA) (c9:Nat),n-j<gg/\j<=n/\v8=.slice A8 j c8/\u=.slice A9 j c9/\v10=ae aj (j:Int)/\aq (yJ w wr N (N+1) (j+1) A8 j c8 A9 j c9)/\aq (Iw wr N .i64 aH MA n))
 .exact⟨0,none,0,none,0,ak,ak,rfl,rfl,rfl,P,yU⟩
 clear P yU;obtain⟨j,A8,c8,A9,c9,hg,hj,rfl,rfl,rfl,L,J⟩:=hrel;by_cases H:j<n;rotate_left
 .have i4:=cv j n
  obtain rfl:j=n:=ak;have mw:=L.o.lo;go_wp2;go_ret2;exact⟨_,_,_,_,rfl,L.o.l8.cJ ak,L.o.l9.cJ ak,L.o.be⟩
 have i4:=aU j n;obtain⟨ad,g,rfl,_,e0⟩:=(R.o.Z L.o.be L.o.be.size).get H;go_upto_region 8 with fail;obtain⟨A,m,d,i,em,v,bx,hs⟩:=((L).o).bx;have BX:aq (Bx _ N (mx A m d i em v)):=⟨⟨_,bx⟩⟩;have HS:aq _:=⟨hs⟩;have⟨c0,c1,aW,c3⟩:=BX.o.q4;have hM0:m<=_:=hs.1;clear bx hs;have L0:=aE c0;have L1:=aE c1;have L3:=aE aW;have L4:=aE c3
 have HL:aq _:=⟨fun(W:ahh) (hb:ahi (wr).heap.size (wr) W)=>HS.o.ar hb⟩;clear c0 c1 aW c3;refine aD (lvT 29 33) aF aF ?_;refine aq.o ?_
 repeat first
  |(refine lM aB aB aB ?_;intro G a;go_big_quiet_op;refine a _ ?_)
  |(refine jC aB ?_;simp[Act.put])
 refine⟨?_⟩;refine kH SE aB aB (fun K dv=> ?_) (fun u f=> ?_)
 .exact aeE
 obtain⟨l,o,b,rfl⟩:=f;simp[Act.put];refine aq.o ?_
 repeat first
  |(refine lM aB aB aB ?_;intro G a;go_big_quiet_op;refine a _ ?_)
  |(refine jC aB ?_;simp[Act.put])
 refine⟨?_⟩;refine kH SI aB aB (fun K dv=> ?_) (fun u f=> ?_)
 .exact ae3
 obtain⟨z,rfl⟩:=f;simp[Act.put];refine aq.o ?_
 repeat first
  |(refine lM aB aB aB ?_;intro G a;go_big_quiet_op;refine a _ ?_)
  |(refine jC aB ?_;simp[Act.put])
 refine⟨?_⟩
 first
  |(intro (nq:aG _);obtain⟨r,s⟩:=nq)
  |(rintro r ⟨⟨_,s⟩,rfl⟩)
 have F:aq _:=⟨(L).o.ar s⟩
 try dsimp only
 clear L0 L1 L3 L4 HL BX HS;have p:aq (Iw r N .i64 aH MA n):=⟨J.o.Z (s.mono (by have:=L.o.hB;omega)) bW⟩;clear s J L;go_upto_block 2 with fail;go_cut[12,13](fun mN Z U=>(∃z:Int,mN=ae aj z)/\(∃z:Int,Z=ae aj z)/\aq (yJ w U N (N+1) (j+2) (A8) j c8 A9 j c9)/\aq (Iw U N .i64 aH MA n))
 case first=>
  go_wp2_with fail;refine(lD g r).mono ?_;rintro e w4 ⟨b,rfl,b3⟩;have L3:aq _:=⟨F.o.ar b3⟩;have yU:aq (Iw w4 N .i64 aH MA n):=⟨p.o.Z (b3.mono (by have:=F.o.hB;omega)) bW⟩;clear b3 F p e0;cases b
  .by_cases Q:(g==20)=true
   .exact ae1
   have Q:(g==20)=false:=(by simpa using Q);by_cases C:(g==21)=true
   .exact ae1
   have C:(g==21)=false:=(by simpa using C);by_cases q3:(g==22)=true
   .obtain⟨A,m,d,i,em,v,bx,hs⟩:=(L3.o).bx
    have BX:aq (Bx _ N (mx A m d i em v)):=⟨⟨_,bx⟩⟩;have HS:aq _:=⟨hs⟩;have⟨c0,c1,aW,c3⟩:=BX.o.q4;have hM0:m<=_:=hs.1;clear bx hs;go_upto_region 20 with fail;have P0:=aE c0;have P1:=aE c1;have P2:=aE aW;have P3:=aE c3
    clear c0 c1 aW c3;have RI:aq _:=⟨R.o.Z L3.o.be L3.o.be.size⟩;have MW:aq (Iw w4 w4.heap.size .i64 aH MA n):=⟨yU.o.Z (Below.refl _ _) EX⟩;refine aS (fsT (j+2)) 6 rfl aF aF aF aF aF rfl ?_
    repeat(refine fU aB aB aB ?_;intro G a;go_big_quiet_op;go_big_quiet_on)
    refine kD ZBo aB aB (fun K dv=> ?_) (fun u f=> ?_)
    .obtain⟨nq,rfl⟩:=dv
     go_simp;refine aX ZBo ((VT (some ad) MA n c n mc j nq.1 (RI.o.Z nq.2 nq.2.size) (MW.o.Z nq.2 nq.2.size) hc ak H).mono ?_);rintro e w5 ⟨b,rfl,hb⟩;exact⟨_,rfl,⟨b,rfl⟩,hb⟩
    obtain⟨_,_,b,rfl⟩:=f;simp[Act.put];refine kD (ZSt (j+2)) aB aB (fun K dv=> ?_) (fun u f=> ?_)
    .obtain⟨nq,rfl⟩:=dv
     go_simp;refine aX (ZSt (j+2)) ((vW A m d _ i em v b nq.1 (HS.o.ar nq.2) ak).mono ?_);rintro e w5 ⟨A',n',d',i',e',v',rfl,rZ,hb⟩;exact⟨_,rfl,⟨_,_,_,_,_,_,rfl,rZ⟩,hb⟩
    obtain⟨_,_,A',n',d',i',e',v',rfl,_⟩:=f;simp[Act.put];intro nq hE;have rZ:=ZSt.o hE.2;clear hE;obtain⟨w5,b5⟩:=nq;dsimp only at rZ⊢;have L4:aq _:=⟨L3.o.ar b5⟩;have Ju:aq (Iw w5 N .i64 aH MA n):=⟨yU.o.Z (b5.mono EX) bW⟩;have L5:aq _:=⟨(L4.o.put i' e' rZ).more (M':=j+2) ak⟩;obtain⟨A6,m6,d6,i6,em6,v6,hX,_⟩:=L4.o.bx;have Gb:aq (Iw (w5.setRow N (mx A' n' d' i' e' v')) N .i64 aH MA n):=⟨Ju.o.put _⟩;clear b5 rZ;clear P0 P1 P2 P3;refine wp_store_row 127 (.tmp 7) (.tmp 73) rfl N (mx A' n' d' i' e' v') rfl rfl 127 _ hX aF rfl dJ ?_;go_wp2;go_meet;exact⟨⟨_,rfl⟩,⟨_,rfl⟩,L5,Gb⟩
   have q3:(g==22)=false:=(by simpa using q3);by_cases q4:(g==23)=true
   .obtain⟨A,m,d,i,em,v,bx,hs⟩:=(L3.o).bx
    have BX:aq (Bx _ N (mx A m d i em v)):=⟨⟨_,bx⟩⟩;have HS:aq _:=⟨hs⟩;have⟨c0,c1,aW,c3⟩:=BX.o.q4;have hM0:m<=_:=hs.1;clear bx hs;go_wp2_with fail;refine(ac0 A m d _ i em v w4 HS.o ak).mono ?_;rintro e w5 ⟨A',n',d',i',e',v',rfl,rZ,b5⟩;have L4:aq _:=⟨L3.o.ar b5⟩;have Ju:aq (Iw w5 N .i64 aH MA n):=⟨yU.o.Z (b5.mono EX) bW⟩;have L5:aq _:=⟨(L4.o.put i' e' rZ).more (M':=j+2) ak⟩;obtain⟨A6,m6,d6,i6,em6,v6,hX,_⟩:=L4.o.bx;have Gb:aq (Iw (w5.setRow N (mx A' n' d' i' e' v')) N .i64 aH MA n):=⟨Ju.o.put _⟩;clear b5 rZ;go_upto_region 23 with(refine wpList_store_row rfl 127 (.tmp 7) (.tmp 78) rfl N (mx A' n' d' i' e' v') rfl aB 127 _ hX aF aB dJ ?_)
    have⟨E,D⟩:∃E,E=w5.setRow N (mx A' n' d' i' e' v'):=⟨_,rfl⟩;rw[<-D]at L5 Gb;rw[<-D];clear D c0 c1 aW c3 BX HS hX;simp only[Act.put];obtain⟨A,m,d,i,em,v,bx,hs⟩:=((L5).o).bx;have BX:aq (Bx _ N (mx A m d i em v)):=⟨⟨_,bx⟩⟩;have HS:aq _:=⟨hs⟩;have⟨c0,c1,aW,c3⟩:=BX.o.q4;have hM0:m<=_:=hs.1;clear bx hs;have L0:=aE c0;have L1:=aE c1;have L3:=aE aW;have L4:=aE c3
    have HL:aq _:=⟨fun(W:ahh) (hb:ahi (E).heap.size (E) W)=>HS.o.ar hb⟩;clear c0 c1 aW c3;refine aD (lvT 80 84) aF aF ?_;refine aq.o ?_
    repeat first
     |(refine lM aB aB aB ?_;intro G a;go_big_quiet_op;refine a _ ?_)
     |(refine jC aB ?_;simp[Act.put])
    refine⟨?_⟩;refine kH SE aB aB (fun K dv=> ?_) (fun u f=> ?_)
    .exact aeE
    obtain⟨l,o,b,rfl⟩:=f;simp[Act.put];refine aq.o ?_
    repeat first
     |(refine lM aB aB aB ?_;intro G a;go_big_quiet_op;refine a _ ?_)
     |(refine jC aB ?_;simp[Act.put])
    refine⟨?_⟩;refine kH SI aB aB (fun K dv=> ?_) (fun u f=> ?_)
    .exact ae3
    obtain⟨z,rfl⟩:=f;simp[Act.put];refine aq.o ?_
    repeat first
     |(refine lM aB aB aB ?_;intro G a;go_big_quiet_op;refine a _ ?_)
     |(refine jC aB ?_;simp[Act.put])
    refine⟨?_⟩
    first
     |(intro (nq:aG _);obtain⟨r,s⟩:=nq)
     |(rintro r ⟨⟨_,s⟩,rfl⟩)
    have F:aq _:=⟨(L5).o.ar s⟩
    try dsimp only
    clear L0 L1 L3 L4 HL BX HS;have B:aq (Iw r N .i64 aH MA n):=⟨Gb.o.Z (s.mono (by have:=L5.o.hB;omega)) bW⟩;go_wp2;go_meet;exact⟨⟨_,rfl⟩,⟨_,rfl⟩,F,B⟩
   have q4:(g==23)=false:=(by simpa using q4);by_cases q5:(g==11)=true
   .go_wp2_with fail
    refine(Fh base w4).mono ?_;rintro e w5 ⟨A',n',d',i',e',v',rfl,rZ,b5⟩;have L4:aq _:=⟨L3.o.ar b5⟩;have Ju:aq (Iw w5 N .i64 aH MA n):=⟨yU.o.Z (b5.mono EX) bW⟩;have L5:aq _:=⟨(L4.o.put i' e' rZ).more (M':=j+2) ak⟩;obtain⟨A6,m6,d6,i6,em6,v6,hX,_⟩:=L4.o.bx;have Gb:aq (Iw (w5.setRow N (mx A' n' d' i' e' v')) N .i64 aH MA n):=⟨Ju.o.put _⟩;clear b5 rZ;go_wp2_with (refine wpList_store_row rfl 127 (.tmp 7) (.tmp 91) rfl N (mx A' n' d' i' e' v') rfl aB 127 _ hX aF aB dJ ?_);go_meet;exact⟨⟨_,rfl⟩,⟨_,rfl⟩,L5,Gb⟩
   have q5:(g==11)=false:=(by simpa using q5);go_wp2;go_meet;exact⟨⟨_,rfl⟩,⟨_,rfl⟩,⟨L3.o.more ak⟩,yU⟩
  go_upto_if 39 with fail;go_cut[12](fun v U=>(∃z:Int,v=ae aj z)/\w4=U)
  case first=>
   rcases j with _|k
   .go_wp2
    go_meet;exact⟨⟨_,rfl⟩,rfl⟩
   .obtain⟨ad8,y,rfl,_,y0⟩:=L3.o.l8.iw.get (show k<k+1 by omega)
    have wk:ahl (k:Int)=(k:Int):=IntWalk.wrap64_in _ ak;have k0:=ie k;have k1:(k:Int)<(k:Int)+1:=ak;have k2:(0:Int)<(k:Int)+1:=ak;go_wp2;go_meet;exact⟨⟨_,rfl⟩,rfl⟩
  case rest=>
  obtain⟨⟨z,rfl⟩,rfl⟩:=hcut;by_cases Q:(g==19)=true
  .obtain⟨A,m,d,i,em,v,bx,hs⟩:=(L3.o).bx
   have BX:aq (Bx _ N (mx A m d i em v)):=⟨⟨_,bx⟩⟩;have HS:aq _:=⟨hs⟩;have⟨c0,c1,aW,c3⟩:=BX.o.q4;have hM0:m<=_:=hs.1;clear bx hs;go_wp2_with fail;refine(adJ A m d _ i em v w4 HS.o ak).mono ?_;rintro e w5 ⟨A',n',d',i',e',v',rfl,rZ,b5⟩;have L4:aq _:=⟨L3.o.ar b5⟩;have Ju:aq (Iw w5 N .i64 aH MA n):=⟨yU.o.Z (b5.mono EX) bW⟩;have L5:aq _:=⟨(L4.o.put i' e' rZ).more (M':=j+2) ak⟩;obtain⟨A6,m6,d6,i6,em6,v6,hX,_⟩:=L4.o.bx;have Gb:aq (Iw (w5.setRow N (mx A' n' d' i' e' v')) N .i64 aH MA n):=⟨Ju.o.put _⟩;clear b5 rZ;go_wp2_with (refine wpList_store_row rfl 127 (.tmp 7) (.tmp 48) rfl N (mx A' n' d' i' e' v') rfl aB 127 _ hX aF aB dJ ?_);go_meet;exact⟨⟨_,rfl⟩,⟨_,rfl⟩,L5,Gb⟩
  have Q:(g==19)=false:=by simpa using Q
  by_cases C:(g==10)=true
  .have C:(g !=10)=false:=by simpa using C
   go_wp2;go_meet;exact⟨⟨_,rfl⟩,⟨_,rfl⟩,⟨L3.o.more ak⟩,yU⟩
  have C:(g !=10)=true:=by simpa using C
  obtain⟨A,m,d,i,em,v,bx,hs⟩:=(L3.o).bx;have BX:aq (Bx _ N (mx A m d i em v)):=⟨⟨_,bx⟩⟩;have HS:aq _:=⟨hs⟩;have⟨c0,c1,aW,c3⟩:=BX.o.q4;have hM0:m<=_:=hs.1;clear bx hs;go_wp2_with fail;refine(T9 A m d _ i em v g w4 HS.o ak).mono ?_;rintro e w5 ⟨A',n',d',i',e',v',rfl,rZ,b5⟩;have L4:aq _:=⟨L3.o.ar b5⟩;have Ju:aq (Iw w5 N .i64 aH MA n):=⟨yU.o.Z (b5.mono EX) bW⟩;have L5:aq _:=⟨(L4.o.put i' e' rZ).more (M':=j+2) ak⟩;obtain⟨A6,m6,d6,i6,em6,v6,hX,_⟩:=L4.o.bx;have Gb:aq (Iw (w5.setRow N (mx A' n' d' i' e' v')) N .i64 aH MA n):=⟨Ju.o.put _⟩;clear b5 rZ;go_wp2_with (refine wpList_store_row rfl 127 (.tmp 7) (.tmp 53) rfl N (mx A' n' d' i' e' v') rfl aB 127 _ hX aF aB dJ ?_);go_meet;exact⟨⟨_,rfl⟩,⟨_,rfl⟩,L5,Gb⟩
 case rest=>
 obtain⟨⟨z1,rfl⟩,⟨z2,rfl⟩,L3,yU⟩:=hcut;obtain⟨xs8,o8,_⟩:=L3.o.l8;have V:aq _:=⟨o8⟩;have hB3:=L3.o.hB;clear o8 F p e0;go_upto_region 28 with(at_builtin;refine bE lO rfl (.tmp 92) (.tmp 94) rfl rfl (V.o.alloc _) rfl (bh _ _ _) ak cw ?_;intro A5 c5 w5 o5 b5 g5 t5;have L5:aq _:=⟨(L3.o.ar (av _ _)).push (V.o.alloc _) o5 b5 g5 t5⟩;have Gb:aq (Iw w5 N .i64 aH MA n):=⟨(yU.o.Z ((av _ _).mono ak) bW).Z (b5.mono ak) bW⟩;clear o5 b5 g5 t5)
 obtain⟨xs9,o9,_⟩:=L5.o.l9;have O9:aq _:=⟨o9⟩;have hB5:=L5.o.hB;clear o9 L3 yU V;go_wp2_with (at_builtin;refine bE lO rfl (.tmp 96) (.tmp 98) rfl rfl (O9.o.alloc _) rfl (bh _ _ _) ak cw ?_;intro A6 c6 E o6 Y g6 t6;have L6:aq _:=⟨(((L5.o.swap).ar (av _ _)).push (O9.o.alloc _) o6 Y g6 t6).swap⟩;have B:aq (Iw E N .i64 aH MA n):=⟨(Gb.o.Z ((av _ _).mono ak) bW).Z (Y.mono ak) bW⟩;clear o6 Y g6 t6);go_roundg(n-j)
 case measure=>omega
 case rel=>exact⟨j+1,A5,c5,A6,c6,ak,ak,rfl,rfl,aT,L6,B⟩
theorem mR(r:Int)(w:ahh)(h:Wf .i32 r):ahk prog 102 #[.int .i32 r] w (PI w):=by
 obtain⟨a,b⟩:=vg h;have d:=sH (fD r a b w);go_enter func102,ntmps102;go_wp2_with fail;refine d.o.mono ?_;rintro e f ⟨rfl,c⟩;generalize(a7 r).wY=bd;go_wp2;go_ret;exact⟨_,rfl,c⟩
theorem Kb(A:aA)(n c:Nat)(ts:aC)(w:ahh)(h:aM .i32 w A n c ts)(W:n<=10000):ahk prog 46 #[.slice A n c] w (Nw w 3 .i64 aH n):=by
 have R:=sH h;clear h;go_enter func46,ntmps46;go_wp2;go_loopg[3,4,5](n+1)(fun gg v3 v4 _ wr=>∃(i:Nat) (C:aA) (d:Nat),n-i<gg/\i<=n/\v3=.slice C i d/\v4=ae aj (i:Int)/\aq (Ow wr w.heap.size 3 .i64 aH C i d)/\aq (az w wr))
 .exact⟨0,none,0,ak,ak,rfl,rfl,⟨Ow.nil _ _ _ _ _⟩,cA⟩
 obtain⟨i,C,d,Y,Z,rfl,rfl,I,x⟩:=hrel;by_cases B:i<n;rotate_left
 .obtain rfl:i=n:=by omega
  go_wp2;go_ret;exact⟨_,_,rfl,I.o,x.o⟩
 have i4:=aU i n;obtain⟨V,z,rfl,L,P⟩:=(R.o.ar x.o).iw.get B;have N:=sH L;clear L;go_wp2_with fail;refine(mR z _ N.o).mono ?_;rintro e U ⟨q,rfl,F⟩;have k:=x.t F;have t:=sH (I.o.ar F);clear F I x P;go_wp2_with fail;refine(xo q _).mono ?_;rintro e O ⟨⟨b,rfl⟩,rfl⟩;cases b
 .have l:=k.o.size
  go_wp2_with (at_builtin;refine bO lO rfl (.tmp 37) (.tmp 39) rfl rfl ((t.o).alloc _) rfl (bh _ _ _) trivial ak cw ?_;intro o c8 p f a;have j:=sH f;have m:aq (az w p):=⟨((k).o.alloc ak _).trans a⟩;clear f a);go_roundg(n-i)
  .exact⟨i+1,o,c8,ak,ak,rfl,aT,j,m⟩
  omega
 rcases i with _|i
 .have l:=k.o.size
  go_wp2_with (at_builtin;refine bO lO rfl (.tmp 37) (.tmp 39) rfl rfl ((t.o).alloc _) rfl (bh _ _ _) trivial ak cw ?_;intro o c8 p f a;have j:=sH f;have m:aq (az w p):=⟨((k).o.alloc ak _).trans a⟩;clear f a);go_roundg(n-0)
  .exact⟨0+1,o,c8,ak,ak,rfl,aT,j,m⟩
  omega
 obtain⟨Q,M,E,r,S⟩:=(R.o.ar k.o).iw.get (show i<n by omega);injection E with E
 subst E;have D:=sH r;have wk:ahl (i:Int)=(i:Int):=IntWalk.wrap64_in _ ak;have k0:=ie i;have k1:=aU i n;have k2:(0:Int)<(i:Int)+1:=ak;clear r;go_wp2_with fail;refine(mR M _ D.o).mono ?_;rintro e G ⟨T,rfl,J⟩;have H:=k.t J;have K:=sH (t.o.ar J);have y:=H.o.size;clear J t k S;go_wp2_with fail;go_at_call 104;refine(ou _ _ _ _ _ Xh cr).mono ?_;rintro e O ⟨⟨b,rfl⟩,rfl⟩;have s:aq (az w (G.alloc (.cells #[ae aj 1,ae aj 2,ae aj 3,ae aj 4,ae aj 5] 3))):=⟨H.o.alloc y _⟩;have v:aq (Ow (G.alloc (.cells #[ae aj 1,ae aj 2,ae aj 3,ae aj 4,ae aj 5] 3)) w.heap.size 3 .i64 aH C (i+1) d):=⟨K.o.alloc _⟩;clear K H;generalize G.alloc (.cells #[ae aj 1,ae aj 2,ae aj 3,ae aj 4,ae aj 5] 3)=X at*;cases b
 .obtain⟨g,rfl,_,_⟩:=v.o.form ak
  obtain⟨u,_,u0⟩:=v.o.get (show i<i+1 by omega);have k3:(i:Int)<(i:Int)+1:=ak;have l:=s.o.size;go_wp2_with (at_builtin;refine bO lO rfl (.tmp 37) (.tmp 39) rfl rfl ((v.o).alloc _) rfl (bh _ _ _) trivial ak cw ?_;intro o c8 p f a;have j:=sH f;have m:aq (az w p):=⟨((s).o.alloc ak _).trans a⟩;clear f a);go_roundg(n-(i+1))
  .exact⟨(i+1)+1,o,c8,ak,ak,rfl,aT,j,m⟩
  omega
 .have l:=s.o.size
  go_wp2_with (at_builtin;refine bO lO rfl (.tmp 37) (.tmp 39) rfl rfl ((v.o).alloc _) rfl (bh _ _ _) trivial ak cw ?_;intro o c8 p f a;have j:=sH f;have m:aq (az w p):=⟨((s).o.alloc ak _).trans a⟩;clear f a);go_roundg(n-(i+1))
  .exact⟨(i+1)+1,o,c8,ak,ak,rfl,aT,j,m⟩
  omega
theorem TII:aR prog 94 39 1 24:=bu underlying94 (z:=.slice none 0 0) aF rfl ak ak
def PRu(w:ahh)(n:Nat)(e:ahn)(a:ahh):Prop:=∃(A:aA) (k c:Nat),k<=n/\e=.returned (.slice A k c)/\Df a a.heap.size (lK n) n A k/\az w a
theorem NY{k M:Nat}{i d:ahm}{P:Int->Prop}{b:List Rw}(h:vE w B i d P M b A (k+1) c):∃a r g,b=a++[r]/\A=some ⟨g,0,none⟩/\B<=g/\w.cell? ⟨g,k,none⟩=some (Wz r)/\w.frozen? ⟨g,k,none⟩=false:=by
 have hl:=h.len;obtain⟨a,r,rfl⟩:∃a r,b=a++[r]:=by
  rcases List.eq_nil_or_concat b with rfl|⟨l,x,h⟩
  .simp at hl
  .exact⟨l,x,uM⟩
 obtain⟨g,rfl,e,_⟩:=aw.form h.own ak;have f:a.length=k:=Bj;refine⟨a,r,g,rfl,rfl,e, ?_,aw.frozenAt h.own _⟩;rw[aw.cellAt h.own k ak];simp[f]
theorem Lw(w:ahh)(e:ahm)(k:IntKind)(y:Int)(B:Nat)(a:B<=w.heap.size):Own (w.alloc (.cells #[.int k y] e)) B e k (some ⟨w.heap.size,0,none⟩) 1 1 [y]:=by
 refine⟨rfl,.inr ⟨w.heap.size,1,#[.int k y],rfl,a,heap_alloc_new w _, ?_⟩⟩;simp[maxLen]
theorem DZ(w:ahh)(v:ahj)(t:ahm)(N:Nat)(a:w.heap.size=N):∀j u,[v][j]? =some u->(w.alloc (.cells #[v] t)).cell? ⟨N,j,none⟩=some u:=by
 intro j u h;subst a;rw[cell_of_row _ _ _ _ _ _ (heap_alloc_new w _)];simpa using h
theorem abj(A C:aA)(n c d:Nat)(w:ahh)(h:Iw w w.heap.size .i64 aH A n)(k:Iw w w.heap.size .i64 aH C n)(hn:n<=10000):ahk prog 66 #[.slice A n c,.slice C n d] w (PRu w n):=by
 have R:=sH h;have S:=sH k;go_enter func66,ntmps66;go_wp2_with fail;refine(Zz A n c w R.o hn).mono ?_;rintro e E ⟨L,m,ld,hm,rfl,o1,b1⟩;have O1:=sH o1;have B1:=sH b1;go_wp2;go_loopg[5,7](m+1)(fun gg v5 v7 wr=>∃(i q:Nat) (D:aA) (e:Nat) (rs:List Rw),m-i<gg/\i<=m/\q<=i/\(0<i->0<q)/\v5=.slice D q e/\v7=ae aj (i:Int)/\aq (vE wr E.heap.size 39 3 (lK n) i rs D q e)/\aq (az E wr))
 .exact⟨0,0,none,0,[],ak,ak,ak,ak,rfl,rfl,⟨vE.nil _ _ _ _ _ _⟩,cA⟩
 obtain⟨i,q,D,e,rs,hg,hi,hq,Yo,rfl,rfl,NS,BE⟩:=hrel;have BG:=B1.t BE.o;by_cases aK:i<m;rotate_left
 .have i4:=cv i m
  go_wp2;go_ret;exact⟨_,_,_,ak,rfl,(NS.o.more ak).rd,BG.o⟩
 have i4:=aU i m;have LI:=sH (O1.o.iw.Z BE.o BE.o.size);obtain⟨F,y,rfl,hy,U⟩:=LI.o.get aK;have HY:=sH hy;go_upto_region 6 with fail;go_cut[35](fun v wx=>(∃b:Bool,v=.bool b/\(b=true->0<i))/\aq (az wr wx))
 case first=>
  rcases i with _|i
  .refine aD (fun _=>none) aF aF ?_
   refine mSk ?_
   first
    |(intro (nq:aG _);obtain⟨w6,J⟩:=nq)
    |(rintro w6 ⟨⟨_,J⟩,rfl⟩)
   try dsimp only
   go_wp2;go_meet;exact⟨⟨_,rfl,aQ⟩,⟨J⟩⟩
  obtain⟨ag2,y0,ea,hy0,e1⟩:=LI.o.get (show i<m by omega);injection ea with ea
  subst ea;obtain⟨hy1,Fp⟩:=hy;obtain⟨hy3,hy4⟩:=hy0;obtain⟨yn,rfl⟩:∃yn:Nat,y=yn:=⟨y.toNat,ak⟩;obtain⟨y0n,rfl⟩:∃yn:Nat,y0=yn:=⟨y0.toNat,ak⟩;obtain⟨adc,l1,rfl,_,g1⟩:=(S.o.Z BG.o BG.o.size).get (show yn<n by omega);obtain⟨JW,l0,ec,_,g0⟩:=(S.o.Z BG.o BG.o.size).get (show y0n<n by omega);injection ec with ec
  subst ec;have wk:ahl (i:Int)=(i:Int):=IntWalk.wrap64_in _ ak;have k0:=ie i;have k1:=aU i m;have k2:(0:Int)<(i:Int)+1:=ak;have U:wr.cell? {block:=F.block,off:=F.off+(i+1)}=some (ae aj (yn:Int)):=U;have⟨L0,L1,L2,L3⟩:=lc4 U e1 g0 g1;by_cases hl:l0=l1
  .subst hl
   refine aD (fun _=>none) aF aF ?_;refine mSk ?_
   first
    |(intro (nq:aG _);obtain⟨w6,J⟩:=nq)
    |(rintro w6 ⟨⟨_,J⟩,rfl⟩)
   try dsimp only
   go_wp2;go_meet;exact⟨⟨_,rfl,aQ⟩,⟨J⟩⟩
  have hl:(l0==l1)=false:=Bj;refine aD (fun _=>none) aF aF ?_;refine mSk ?_
  first
   |(intro (nq:aG _);obtain⟨w6,J⟩:=nq)
   |(rintro w6 ⟨⟨_,J⟩,rfl⟩)
  try dsimp only
  go_wp2;go_meet;exact⟨⟨_,rfl,aQ⟩,⟨J⟩⟩
 case rest=>
 obtain⟨⟨b,rfl,hb⟩,BQ⟩:=hcut
 rename ahh=>w2
 have M:=sH (NS.o.ar BQ.o);have B2:=BE.t BQ.o;have U:=au U BQ.o;have HB:=sH hb;have Q:=B2.o.size;cases b
 .have hls:=M.o.len
  have N3:=sH ((M.o.ar ((av w2 (.cells #[ae aj y] 3)).trans ((av _ (.cells #[.slice (some ⟨w2.heap.size,0,none⟩) 1 1] 39)).mono aQ))).more (show i<=i+1 by omega));have L3:aq (Ow ((w2.alloc (.cells #[ae aj y] 3)).alloc (.cells #[.slice (some ⟨w2.heap.size,0,none⟩) 1 1] 39)) E.heap.size 3 .i64 (lK n) (some ⟨w2.heap.size,0,none⟩) 1 1):=⟨⟨[y],(Lw w2 3 .i64 y _ Q).ar (av _ _),by simpa using HY.o⟩⟩;have AP:aq (∀s∈rs,bM s.1 (some ⟨w2.heap.size,0,none⟩)):=⟨fun s hs=>by
   obtain⟨xs,k1,_⟩:=(M.o.each s hs).2.2;exact aw.gA k1 bW⟩
  have B3:aq (az E ((w2.alloc (.cells #[ae aj y] 3)).alloc (.cells #[.slice (some ⟨w2.heap.size,0,none⟩) 1 1] 39))):=⟨(B2.o.alloc Q _).alloc cw _⟩;go_wp2_with (at_builtin;refine br TII rfl (.tmp 53) (.tmp 59) rfl rfl N3.o.own rfl (news:=[.slice (some ⟨w2.heap.size,0,none⟩) 1 1]) rfl (DZ _ _ _ _ aQ) (fun u hu=>Ih) ak cw ?_;intro Y c5 w5 X V T t5;have N5:=sH (N3.o.push (r:=(some ⟨w2.heap.size,0,none⟩,1,1)) (show 0<1 by omega) (show 1<=i+1 by omega) L3.o AP.o X T cr);have B5:=sH (B3.o.trans V);clear X V T t5);go_roundg(m-i)
  .exact⟨i+1,q+1,Y,c5,_,ak,ak,ak,ak,rfl,aT,N5,B5⟩
  omega
 have h0:=HB.o rfl;obtain⟨q,rfl⟩:∃q',q=q'+1:=⟨q-1,by have:=Yo h0;omega⟩;obtain⟨Yf,⟨Z,G,ic⟩,B,rfl,rfl,lG,r0,f0⟩:=NY M.o;obtain⟨ei1,ei2,xs,o1,p1⟩:=M.o.each (Z,G,ic) aQ;have OI:=sH o1;have PI1:=sH p1;simp only at ei1 ei2;simp only[Wz]at r0;have WQ:aq (IntKind.i64.wrap (q:Int)=(q:Int)):=⟨IntWalk.i64_in _ ak⟩;have wq:ahl (q:Int)=(q:Int):=IntWalk.wrap64_in _ ak;have q0:(0:Int)<=(q:Int):=Int.natCast_nonneg q;have q1:(q:Int)<(q:Int)+1:=Int.lt_succ _;have NO:=sH M.o.own;have HC:=sH (aw.dK o1);have AP:aq (bM (some ⟨B,0,none⟩) Z):=⟨(bS o1 M.o.own cr).symm⟩;have o1v:=o1;have OV:=sH o1v;go_upto_region 7 with fail;refine lR (N:=17) (k0:=36) (m:=17) [some (.slice (some ⟨B,0,none⟩) (q+1) e),some (.slice (some ⟨B,0,none⟩) (q+1) e),some (ae aj ((q:Int)+1)),some (ae aj (q:Int)),some (.slice (some ⟨B,0,none⟩) (q+1) e),some (.slice (some ⟨B,0,none⟩) (q+1) e),some (ae aj ((q:Int)+1)),some (ae aj (q:Int)),some (.pointer (some ⟨B,q,none⟩)),some (.slice Z G ic),some (.slice (some F) m ld),some (ae aj (i:Int)),some (.pointer (some (F.add i))),some (ae aj y),none,none,some (.pointer (some ⟨B,q,none⟩))] 14 15 G [ae aj y] w2 (fun A c W=>∃Wp,az w2 Wp/\aw W E.heap.size 3 1 A (G+1) c (xs.map (ae aj)++[ae aj y])/\ahi E.heap.size Wp W/\Wp.grownBy W (Value.slice Z G ic).ownBlock/\∀g,A=some ⟨g,0,none⟩->Z=some ⟨g,0,none⟩∨Wp.heap.size<=g) rfl aF rfl aF ak (Below.refl _ _) ?_ ?_
 .intro k o L bm W hk ho t f O j a' ha K hK
  have hk:k=0∨k=1∨k=2∨k=3∨k=4∨k=5∨k=6∨k=7∨k=8∨k=9∨k=10∨k=11∨k=12∨k=13∨k=14∨k=15∨k=16:=ak;simp only[cH,gv,List.setIfInBounds_toArray,List.set_cons_succ,List.set_cons_zero,Nat.reduceAdd,Nat.add_zero]at ha;subst ha;have d0:=j.fv 0 _ rfl;have d1:=j.fv 1 _ rfl;have d2:=j.fv 2 _ rfl;have d3:=j.fv 3 _ rfl;have d4:=j.fv 4 _ rfl;have d5:=j.fv 5 _ rfl;have d6:=j.fv 6 _ rfl;have d7:=j.fv 7 _ rfl;have d8:=j.fv 8 _ rfl;have d9:=j.fv 9 _ rfl;have d10:=j.fv 10 _ rfl;have d11:=j.fv 11 _ rfl;have d12:=j.fv 12 _ rfl;have H:=j.fv 13 _ rfl
  rcases hk with rfl|rfl|rfl|rfl|rfl|rfl|rfl|rfl|rfl|rfl|rfl|rfl|rfl|rfl|rfl|rfl|rfl
  all_goals(injection ho with ho;subst ho)
  all_goals(simp[Region.binds]at f)
  case' inr.inr.inr.inr.inr.inr.inr.inr.inr.inr.inr.inr.inr.inr.inr.inl=>
   obtain⟨b,eb,hc⟩:=j.box f.2 t;have P:=j.pre t;have OV2:aw W E.heap.size 3 1 Z G ic (xs.map (ae aj)):=aw.ar OV.o P;have gH:E.heap.size<=W.heap.size:=by have:=P.size;omega
   simp only[d9 f.1,eb];refine wpOp_step rfl (fun K9 l=> ?_);refine oz (news:=[ae aj y]) lO rfl (.tmp 45) (.tmp 50) rfl rfl OV2 rfl rfl hc (fun u hu=>Ih) ak gH ?_;intro Y c5 w5 X V T t5;refine l _ _ ?_;change K (Act.put _ (some 51) _) _;have x:=hK _ _ (j.app rfl ⟨W,P,X,V,T,t5⟩);simp only[Nat.reduceAdd,Act.put,List.setIfInBounds_toArray,List.set_cons_succ,List.set_cons_zero]at x
   try simp only[d9 f.1,eb]at x
   try simp only[Act.put,List.setIfInBounds_toArray,List.set_cons_succ,List.set_cons_zero]
   exact x
  case' inr.inr.inr.inr.inr.inr.inr.inr.inr.inr.inr.inr.inr.inr.inl=>
   have hp:=O.no (a:=15) t aF;simp only[H f];refine wpOp_step rfl (fun K9 l=> ?_);go_simp;refine l _ _ ?_
   skip
   have x:=hK _ _ (j.lay 3 rfl rfl cr hp);simp only[Nat.reduceAdd,Act.put,List.setIfInBounds_toArray,List.set_cons_succ,List.set_cons_zero]at x
   try simp only[H f]at x
   try simp only[Act.put,List.setIfInBounds_toArray,List.set_cons_succ,List.set_cons_zero]
   exact x
  case' inr.inr.inr.inr.inr.inr.inr.inr.inr.inl=>
   have P:=j.pre (O.no (a:=15) t aF);have r0:=au r0 P
  case' inr.inr.inr.inr.inr.inr.inr.inr.inr.inr.inr.inr.inr.inl=>
   have P:=j.pre (O.no (a:=15) t aF);have U:=au U P
  all_goals have wq2:=WQ.o
  all_goals
   try simp only[d0,d1,d2,d3,d4,d5,d6,d7,d8,d9,d10,d11,d12,H,f]
   refine wpOp_step rfl (fun K9 l=> ?_);go_simp;refine l _ _ ?_
   skip
   have x:=hK _ _ (j.pure rfl cr cr);simp only[Nat.reduceAdd,Act.put,List.setIfInBounds_toArray,List.set_cons_succ,List.set_cons_zero]at x
   try simp only[d0,d1,d2,d3,d4,d5,d6,d7,d8,d9,d10,d11,d12,H,f]at x
   try simp only[Act.put,List.setIfInBounds_toArray,List.set_cons_succ,List.set_cons_zero]
   exact x
 .clear wq
  intro L bm W I j a' ha;simp only[cH,gv,List.setIfInBounds_toArray,List.set_cons_succ,List.set_cons_zero,Nat.reduceAdd,Nat.add_zero]at ha;subst ha;obtain⟨Y,c5,Qx,Wp,bp,X,V,T,t5⟩:=j.post (I 15 ak);have d16:=j.fv 16 _ rfl (I 16 ak);simp only[d16,Qx];have NN:=aw.kept (aw.ar NO.o bp) T AP.o HC.o;have r5:=(aw.cellAt NN q ak).trans ((aw.cellAt NO.o q ak).symm.trans r0);have f5:=aw.frozenAt NN q;have N5:aq (vE (W.setCell ⟨B,q,none⟩ (.slice Y (G+1) c5)) E.heap.size 39 3 (lK n) (i+1) (Yf++[(Y,G+1,c5)]) (some ⟨B,0,none⟩) (q+1) e):=⟨((M.o.ar bp).more (Nat.le_succ i)).grow (c':=e) ⟨xs++[y],by unfold Own;rw[List.map_append];exact X,fun z hz=>by
   rcases List.mem_append.1 hz with hz|hz
   .exact PI1.o z hz
   .obtain rfl:=List.mem_singleton.1 hz;exact HY.o⟩ (Nat.succ_pos _) ak T t5 cr⟩
  have B5:aq (az E (W.setCell ⟨B,q,none⟩ (.slice Y (G+1) c5))):=⟨Below.setCell ((B2.o.trans (bp.mono Q)).trans V) (p:=⟨B,q,none⟩) lG _⟩;refine wpOp_step rfl (fun K9 l=> ?_);go_simp;refine l _ _ ?_;go_wp2;go_roundg(m-i)
  .exact⟨i+1,q+1,_,e,_,ak,ak,ak,ak,rfl,aT,N5,B5⟩
  omega
structure SqD where
 A:aA
 m:Nat
 c:Nat
 lv:Int
 so:Int
 eo:Int
def Zy(s:SqD):List ahj:=[.slice s.A s.m s.c,ae aj s.lv,ae aj s.so,ae aj s.eo]
def U0(B n:Nat)(w:ahh)(s:SqD):Prop:=Ow w B 3 .i64 (lK n) s.A s.m s.c/\s.m<=4000
theorem U0.kpt(B n:Nat):Kpt 77 (U0 B n):=⟨fun _ _ _ h e=>⟨h.1.ar e,h.2⟩,fun w i s j k A g c vs h a d=>by
 obtain⟨xs,b,f⟩:=h.1;exact⟨⟨xs,aw.kept b d (bS b a cr) (aw.dK a),f⟩,h.2⟩⟩
def PSs(w:ahh)(n:Nat)(e:ahn)(b:ahh):Prop:=∃(D:aA) (q a B:Nat) (c:List SqD),q<=n/\e=.returned (.slice D q a)/\w.heap.size<=B/\Gn b B 77 4 Zy (U0 B n) c D q a/\az w b
structure xW(w0 w:ahh)(n:Nat)(lv x y:Int)(A:aA)(m c:Nat):Prop where
 be:az w0 w
 bx:Bx w w0.heap.size #[.slice A m c,ae aj lv,ae aj x,ae aj y]
 ow:Ow w (w0.heap.size+1) 3 .i64 (lK n) A m c
theorem xW.ar{b:ahh}(h:xW w0 w n lv x y A m c)(a:az w b):xW w0 b n lv x y A m c:=⟨h.be.trans (a.mono h.be.size),h.bx.ar a h.bx.lt,h.ow.ar a⟩
theorem xW.new(w0:ahh)(n:Nat)(lv:Int):xW w0 (w0.alloc (.cells #[.slice none 0 0,ae aj lv,ae aj 0,ae aj 0] 77)) n lv 0 0 none 0 0:=⟨av _ _,Bx.new _ _ _,Ow.nil _ _ _ _ _⟩
theorem xW.put{W:ahh}{d b:Nat}{a:aA}(h:xW w0 w n lv x y A m c)(f:ahi (w0.heap.size+1) w W)(g:Ow W (w0.heap.size+1) 3 .i64 (lK n) a d b):xW w0 (W.setCell ⟨w0.heap.size,0,none⟩ (.slice a d b)) n lv x y a d b:=by
 refine⟨Below.setCell (h.be.trans (f.mono ak)) (p:=⟨w0.heap.size,0,none⟩) bW _,(FJ (h.bx.ar f ak) _).1, ?_⟩;obtain⟨xs,e,i⟩:=g;exact⟨xs,Own.mu e (aw.oB e (Nat.lt_succ_self _)) _,i⟩
theorem xW.afD(h:xW w0 w n lv x y A m c)(z:Int):xW w0 (w.setCell ⟨w0.heap.size,2,none⟩ (ae aj z)) n lv z y A m c:=by
 obtain⟨xs,a,b⟩:=h.ow;exact⟨Below.setCell h.be (p:=⟨w0.heap.size,2,none⟩) bW _,(FJ h.bx _).2.2.1,⟨xs,Own.mu a (aw.oB a (Nat.lt_succ_self _)) _,b⟩⟩
theorem xW.afR(h:xW w0 w n lv x y A m c)(z:Int):xW w0 (w.setCell ⟨w0.heap.size,3,none⟩ (ae aj z)) n lv x z A m c:=by
 obtain⟨xs,a,b⟩:=h.ow;exact⟨Below.setCell h.be (p:=⟨w0.heap.size,3,none⟩) bW _,(FJ h.bx _).2.2.2,⟨xs,Own.mu a (aw.oB a (Nat.lt_succ_self _)) _,b⟩⟩
theorem TSq:aR prog 73 77 4 48:=bu underlying73 (z:=.agg #[.slice none 0 0,ae aj 0,ae aj 0,ae aj 0]) aF rfl ak ak
theorem aeJ(s:G:=by
 have⟨c0,c1,aW,wV⟩:=V8.o.bx.q4
 go_wp2_with fail;refine(XI lv _ w7).mono ?_;rintro e w8 ⟨z8,rfl,b8⟩;have V9:aq _:=⟨V8.o.ar b8⟩;clear b8 V8 c0 c1 aW wV;have⟨c0,c1,aW,wV⟩:=V9.o.bx.q4;have f3:=V9.o.bx.fz 3;have W0:aq _:=⟨V9.o.afR z8⟩;clear V9;go_upto_region 29 with fail;have⟨w9,dv⟩:∃w9,w9=w8.setCell ⟨wr.heap.size,3,none⟩ (ae aj z8):=⟨_,rfl⟩;rw[<-dv]at W0;rw[<-dv];clear dv c0 c1 aW wV f3;have⟨c0,c1,aW,wV⟩:=W0.o.bx.q4;have gH:=W0.o.be.size;have hse:=BE.o.size;have GA:aq (Gn (w9.alloc (.cells #[.slice (some ⟨gD,0,none⟩) m3 c3,ae aj lv,ae aj z2,ae aj z8] 77)) w2.heap.size 77 4 Zy (U0 w2.heap.size n) ss D m dc):=⟨(GE.o.ar (U0.kpt _ _) W0.o.be).ar (U0.kpt _ _) (av _ _)⟩;have IA:aq (U0 w2.heap.size n (w9.alloc (.cells #[.slice (some ⟨gD,0,none⟩) m3 c3,ae aj lv,ae aj z2,ae aj z8] 77)) ⟨some ⟨gD,0,none⟩,m3,c3,lv,z2,z8⟩):=⟨⟨(W0.o.ow.cJ ak).alloc _,hm4⟩⟩;have BA:aq (az w2 (w9.alloc (.cells #[.slice (some ⟨gD,0,none⟩) m3 c3,ae aj lv,ae aj z2,ae aj z8] 77))):=⟨(BE.o.trans (W0.o.be.mono hse)).alloc ak _⟩;go_wp2_with (at_builtin;refine br TSq rfl (.tmp 156) (.tmp 158) rfl rfl GA.o.own rfl (news:=Zy ⟨some ⟨gD,0,none⟩,m3,c3,lv,z2,z8⟩) rfl (fun j u hu=>agF) (fun u hu=>agG) ak cw ?_;intro A5 c5 w10 o5 b5 g5 t5;have N5:aq _:=⟨GA.o.push (U0.kpt _ _) IA.o o5 g5⟩;have B5:aq (az w2 w10):=⟨BA.o.trans b5⟩;clear o5 b5 g5 t5);go_roundg(q-i)
 case measure=>omega
 case rel=>exact⟨i+1,m+1,A5,c5,_,ak,ak,ak,rfl,aT,N5,B5⟩):G:=s
theorem af4(A C:aA)(n c d:Nat)(base:Int)(w:ahh)(h:Iw w w.heap.size .i64 aH A n)(k:Iw w w.heap.size .i64 aH C n)(hn:n<=60):ahk prog 25 #[.slice A n c,.slice C n d,ae aj base] w (PSs w n):=by
 have R:aq _:=⟨h⟩;have S:aq _:=⟨k⟩;obtain⟨xs,B,_⟩:=h;have XS:aq _:=⟨B⟩;clear B k;go_enter func25,ntmps25;go_wp2_with fail;refine(abj A C n c d w R.o S.o ak).mono ?_;rintro e w1 ⟨L,q,lc,hq,rfl,l1,b1⟩;have L1:aq _:=⟨l1⟩;have B1:aq _:=⟨b1⟩;have PM:aq _:=⟨nZ A n c xs w1 (XS.o.Z b1) ak⟩;clear l1 b1 XS;go_wp2_with fail;refine PM.o.mono ?_;rintro e w2 ⟨MA,mc,rfl,om,b2⟩;have MI:aq (Iw w2 w2.heap.size .i64 aH MA n):=⟨⟨_,om.ints,fun _ _=>trivial⟩⟩;have B2:aq (az w w2):=⟨B1.o.trans (b2.mono B1.o.size)⟩;have L2:aq (Df w2 w2.heap.size (lK n) n L q):=⟨L1.o.Z b2 b2.size⟩;clear om b2 PM L1 B1;go_wp2;go_loopg[7,10,11,12,13,14,15,16,17](q+1)(fun gg v7 v10 _ _ _ _ _ _ _ wr=>∃(i m:Nat) (D:aA) (dc:Nat) (ss:List SqD),q-i<gg/\i<=q/\m<=i/\v7=.slice D m dc/\v10=ae aj (i:Int)/\aq (Gn wr w2.heap.size 77 4 Zy (U0 w2.heap.size n) ss D m dc)/\aq (az w2 wr))
 .exact⟨0,0,none,0,[],ak,ak,ak,rfl,rfl,⟨Gn.nil _ _ _ _ _ _⟩,cA⟩
 obtain⟨i,m,D,dc,ss,hg,hi,hm,rfl,rfl,GE,BE⟩:=hrel;by_cases aK:i<q;rotate_left
 .have i4:=cv i q
  go_wp2;go_ret;exact⟨_,_,_,_,_,ak,rfl,B2.o.size,GE.o,B2.o.trans (BE.o.mono B2.o.size)⟩
 have i4:=aU i q;have G:aq (az w wr):=⟨B2.o.trans (BE.o.mono B2.o.size)⟩;obtain⟨qd,A2,m2,c2,rfl,_,e0,Ch,hmM,I2⟩:=L2.o.Z BE.o BE.o.size i aK;obtain⟨eJ,x,rfl,px,H⟩:=I2.get Ch;rw[ew]at H;obtain⟨xn,rfl⟩:∃k:Nat,x=k:=⟨x.toNat,Bs⟩;have U:xn<n:=Bt;have MJ:=aU xn n;have m0:=aU 0 m2;obtain⟨adA,cl,rfl,_,e2⟩:=(R.o.Z G.o G.o.size).get U;obtain⟨adC,lv,rfl,_,e3⟩:=(S.o.Z G.o G.o.size).get U;obtain⟨adM,z,rfl,_,e4⟩:=(MI.o.Z BE.o BE.o.size).get U;clear px I2;go_upto_region 9 with fail;go_cut[55](fun v wx=>(∃b:Bool,v=.bool b)/\wr=wx)
 case first=>
  cases q1:(cl==23)
  .go_wp2
   go_meet;exact⟨⟨_,rfl⟩,rfl⟩
  .go_wp2
   go_meet;exact⟨⟨_,rfl⟩,rfl⟩
 case rest=>
 obtain⟨⟨b,rfl⟩,rfl⟩:=hcut;cases b;rotate_left
 .go_wp2
  go_roundg(q-i)
  case measure=>omega
  case rel=>exact⟨i+1,m,D,dc,ss,ak,ak,ak,rfl,aT,GE,BE⟩
 have V:aq _:=⟨xW.new wr n lv⟩;go_upto_region 11 with fail;have⟨w3,Q⟩:∃w3,w3=wr.alloc (.cells #[.slice none 0 0,ae aj lv,ae aj 0,ae aj 0] 77):=⟨_,rfl⟩;rw[<-Q]at V;rw[<-Q];have e0:=au e0 (show az wr w3 by rw[Q];exact av _ _);clear Q H e2 e3 e4 U MJ m0;go_upto_block 2 with fail;go_cut[12,13,14,15](fun _ _ _ _ wx=>∃(m3:Nat) (Z:aA) (c3:Nat),0<m3/\m3<=4000/\aq (xW wr wx n lv 0 0 Z m3 c3))
 case first=>
  clear e0;obtain⟨l,rfl⟩:∃l,l=wr:=⟨_,rfl⟩;have I2:aq (Iw w3 l.heap.size .i64 (lK n) (some eJ) m2):=⟨by
   obtain⟨a1,a2,a3,a4,h1,_,h2,_,_,h3⟩:=L2.o.Z (BE.o.trans (V.o.be.mono BE.o.size)) BE.o.size i aK;injection h1 with h1
   subst h1;have H:=au e0 V.o.be;rw[h2]at H;simp at H;obtain⟨r1,r2,r3⟩:=H;rw[r1,r2]at h3;exact h3⟩
  go_wp2;go_loopg[12,13,14,15](q+2)(fun gg mN ko _ _ wr=>∃(t m3 rn rc:Nat) (Z rA:aA) (c3:Nat),q+1-t<gg/\t<=q+1/\rn<=60/\m3<=t*60/\(0<m3∨(t=0/\0<rn))/\mN=.slice rA rn rc/\ko=ae aj (t:Int)/\aq (xW l wr n lv 0 0 Z m3 c3)/\aq (Iw wr l.heap.size .i64 (lK n) rA rn))
  .exact⟨0,0,m2,c2,none,some eJ,0,ak,ak,ak,ak,.inr ⟨rfl,Ch⟩,rfl,rfl,V,I2⟩
  obtain⟨t,m3,rn,rc,Z,rA,c3,dw,ht,RT,hm3,J,rfl,rfl,V,IR⟩:=hrel;by_cases htq:t<=q;rotate_left
  .have i5:¬(t:Int)<=(q:Int):=by omega
   have hq3:0<m3:=ak;clear J;go_wp2;go_meet;exact⟨m3,Z,c3,hq3,ak,V⟩
  have i5:(t:Int)<=(q:Int):=ak;rcases Nat.eq_zero_or_pos rn with h0|h0
  .subst h0
   have hq3:0<m3:=ak;clear J;go_wp2;go_meet;exact⟨m3,Z,c3,hq3,ak,V⟩
  have i6:=aU 0 rn;clear J;go_wp2;go_loopg[14](rn+1)(fun gg yS wr=>∃(k:Nat) (D4:aA) (c4:Nat),rn-k<gg/\k<=rn/\yS=ae aj (k:Int)/\aq (xW l wr n lv 0 0 D4 (m3+k) c4)/\aq (Iw wr l.heap.size .i64 (lK n) rA rn))
  .exact⟨0,Z,c3,ak,ak,rfl,V,IR⟩
  clear V IR;obtain⟨k,D4,c4,DH,hk,rfl,V,IR⟩:=hrel;by_cases hkr:k<rn
  .have k4:=aU k rn
   obtain⟨X,y,rfl,O,H⟩:=IR.o.get hkr;have PY:aq _:=⟨O⟩;obtain⟨ys,o1,p1⟩:=V.o.ow;have OV:aq _:=⟨o1⟩;have PO:aq _:=⟨p1⟩;have⟨c0,_,_,_⟩:=V.o.bx.q4;have hsw:=V.o.bx.lt;clear O o1 p1;go_upto_region 18 with fail;refine lR (N:=9) (k0:=87) (m:=9) [some (.pointer (some ⟨l.heap.size,0,none⟩)),some (.slice D4 (m3+k) c4),some (.slice (some X) rn rc),some (ae aj (k:Int)),some (.pointer (some (X.add k))),some (ae aj y),none,none,some (.pointer (some ⟨l.heap.size,0,none⟩))] 6 7 (m3+k) [ae aj y] wr (fun A c W=>∃Wp,az wr Wp/\aw W (l.heap.size+1) 3 1 A (m3+k+1) c (ys.map (ae aj)++[ae aj y])/\ahi (l.heap.size+1) Wp W) rfl aF rfl aF ak (Below.refl _ _) ?_ ?_
   .intro j o L bm W hj ho M f fV r a' ha K hK
    simp only[cH,gv,List.setIfInBounds_toArray,List.set_cons_succ,List.set_cons_zero,Nat.reduceAdd,Nat.add_zero]at ha;subst ha;have hj:j=0∨j=1∨j=2∨j=3∨j=4∨j=5∨j=6∨j=7∨j=8:=ak;have d0:=r.fv 0 _ rfl;have d1:=r.fv 1 _ rfl;have d2:=r.fv 2 _ rfl;have d3:=r.fv 3 _ rfl;have d4:=r.fv 4 _ rfl;have d5:=r.fv 5 _ rfl
    rcases hj with rfl|rfl|rfl|rfl|rfl|rfl|rfl|rfl|rfl
    all_goals(injection ho with ho;subst ho)
    all_goals(simp[Region.binds]at f)
    case' inr.inr.inr.inr.inr.inr.inr.inl=>
     obtain⟨b,eb,hc⟩:=r.box f.2 M;have BB:=r.pre M;have OV2:aw W (l.heap.size+1) 3 1 D4 (m3+k) c4 (ys.map (ae aj)):=aw.ar OV.o BB;have gH:l.heap.size+1<=W.heap.size:=by have:=BB.size;omega
     simp only[d1 f.1,eb];refine wpOp_step rfl (fun K9 g=> ?_);refine oz (news:=[ae aj y]) lO rfl (.tmp 88) (.tmp 93) rfl rfl OV2 rfl rfl hc (fun u hu=>Ih) ak gH ?_;intro A5 c5 w5 o5 b5 g5 t5;refine g _ _ ?_;change K (Act.put _ (some 94) _) _;have B:=hK _ _ (r.app rfl ⟨W,BB,o5,b5⟩);simp only[Nat.reduceAdd,Act.put,List.setIfInBounds_toArray,List.set_cons_succ,List.set_cons_zero]at B
     try simp only[d1 f.1,eb]at B
     try simp only[Act.put,List.setIfInBounds_toArray,List.set_cons_succ,List.set_cons_zero]
     exact B
    case' inr.inr.inr.inr.inr.inr.inl=>
     have hp:=fV.no (a:=7) M aF;simp only[d5 f];refine wpOp_step rfl (fun K9 g=> ?_);go_simp;refine g _ _ ?_
     skip
     have B:=hK _ _ (r.lay 3 rfl rfl cr hp);simp only[Nat.reduceAdd,Act.put,List.setIfInBounds_toArray,List.set_cons_succ,List.set_cons_zero]at B
     try simp only[d5 f]at B
     try simp only[Act.put,List.setIfInBounds_toArray,List.set_cons_succ,List.set_cons_zero]
     exact B
    case' inr.inl=>
     have BB:=r.pre (fV.no (a:=7) M aF);have c0:=au c0 BB
    case' inr.inr.inr.inr.inr.inl=>
     have BB:=r.pre (fV.no (a:=7) M aF);have H:=au H BB
    all_goals
     try simp only[d0,d1,d2,d3,d4,d5,f]
     refine wpOp_step rfl (fun K9 g=> ?_);go_simp;refine g _ _ ?_
     skip
     have B:=hK _ _ (r.pure rfl cr cr);simp only[Nat.reduceAdd,Act.put,List.setIfInBounds_toArray,List.set_cons_succ,List.set_cons_zero]at B
     try simp only[d0,d1,d2,d3,d4,d5,f]at B
     try simp only[Act.put,List.setIfInBounds_toArray,List.set_cons_succ,List.set_cons_zero]
     exact B
   .intro L bm W I r a' ha
    simp only[cH,gv,List.setIfInBounds_toArray,List.set_cons_succ,List.set_cons_zero,Nat.reduceAdd,Nat.add_zero]at ha;subst ha;obtain⟨A5,c5,Qx,Wp,bp,o5,b5⟩:=r.post (I 7 ak);have d8:=r.fv 8 _ rfl (I 8 ak);simp only[d8,Qx];have VP:=V.o.ar bp;have BX:=VP.bx.ar b5 (Nat.lt_succ_self _);have⟨r5,_,_,_⟩:=BX.q4;have f5:=BX.fz 0;have V5:aq (xW l (W.setCell ⟨l.heap.size,0,none⟩ (.slice A5 (m3+k+1) c5)) n lv 0 0 A5 (m3+(k+1)) c5):=⟨VP.put b5 ⟨ys++[y],by unfold Own;rw[List.map_append];exact o5,fun z hz=>by
     rcases List.mem_append.1 hz with hz|hz
     .exact PO.o z hz
     .obtain rfl:=List.mem_singleton.1 hz;exact PY.o⟩⟩
    have IR5:aq (Iw (W.setCell ⟨l.heap.size,0,none⟩ (.slice A5 (m3+k+1) c5)) l.heap.size .i64 (lK n) (some X) rn):=⟨IR.o.Z (Below.setCell ((bp.mono ak).trans (b5.mono (Nat.le_succ _))) (p:=⟨l.heap.size,0,none⟩) bW _) bW⟩;clear VP BX bp o5 b5 d8 Qx I r c0 H;refine wpOp_step rfl (fun K9 g=> ?_);go_simp;refine g _ _ ?_;go_wp2;go_roundg(rn-k)
    case measure=>omega
    case rel=>exact⟨k+1,A5,c5,ak,ak,aT,V5,IR5⟩
  obtain rfl:k=rn:=ak;obtain⟨j,hj⟩:∃j,j+1=k:=⟨k-1,ak⟩;obtain⟨X,y,rfl,O,H⟩:=IR.o.get (show j<k by omega);obtain⟨yn,rfl⟩:∃k:Nat,y=k:=⟨y.toNat,by have:=O.1;omega⟩;have F:yn<n:=by have:=O.2;omega
  have Y:=aU yn n;have T:aq (az w wr):=⟨G.o.trans (V.o.be.mono G.o.size)⟩;have BS:aq (az w2 wr):=⟨BE.o.trans (V.o.be.mono BE.o.size)⟩;have j1:(k:Int)-1=(j:Int):=ak;have j2:=aU j k;have j3:(0:Int)<=(j:Int):=Int.natCast_nonneg _;have i7:=cv k k;clear hj hkr;clear O;go_upto_region 21 with fail;clear j1 j2 j3 i7 H;go_cut[113](fun v wx=>(∃b:Bool,v=.bool b)/\aq (az wr wx))
  case first=>
   obtain⟨afG,cl2,s,_,e2⟩:=(R.o.Z T.o T.o.size).get F;injection s with s
   subst s;go_wp2_with fail;refine(ry cl2 wr).mono ?_;rintro e w6 ⟨b,rfl,b6⟩;have E:aq _:=⟨b6⟩;clear b6 e2;cases b
   .go_wp2
    go_meet;exact⟨⟨_,rfl⟩,E⟩
   obtain⟨acu,z2,s,_,e4⟩:=(MI.o.Z (BS.o.trans (E.o.mono BS.o.size)) (BS.o.trans (E.o.mono BS.o.size)).size).get F;injection s with s
   subst s;go_wp2;go_meet;exact⟨⟨_,rfl⟩,E⟩
  case rest=>
  obtain⟨⟨b,rfl⟩,E⟩:=hcut
  rename ahh=>w6
  have V6:aq _:=⟨V.o.ar E.o⟩;have B7:aq (az w2 w6):=⟨BS.o.trans (E.o.mono BS.o.size)⟩;clear V IR T BS E;cases b
  .go_wp2
   go_roundg(q+1-t)
   case measure=>omega
   case rel=>exact⟨t+1,m3+k,0,0,D4,none,c4,ak,ak,ak,ak,.inl ak,rfl,aT,V6,⟨⟨[],bH.nil,aQ⟩⟩⟩
  obtain⟨acu,z2,s,_,e4⟩:=(MI.o.Z B7.o B7.o.size).get F;injection s with s
  subst s;have LW:aq _:=⟨L2.o.Z B7.o BE.o.size⟩;go_wp2_with fail;refine(aa7 (some qd) q lc n n l.heap.size z2 w6 LW.o ak ak).mono ?_;rintro e w9 ⟨rfl,A9,m9,c9,rfl,h9,i9⟩;have I9:aq _:=⟨i9⟩;clear i9 e4;go_wp2;go_roundg(q+1-t)
  case measure=>omega
  case rel=>exact⟨t+1,m3+k,m9,c9,D4,A9,c4,ak,ak,ak,ak,.inl ak,rfl,aT,V6,I9⟩
 case rest=>
 obtain⟨m3,Z,c3,hm3,hm4,V3⟩:=hcut
 rename ahh=>w4
 clear V e0;obtain⟨j,hj⟩:∃j,j+1=m3:=⟨m3-1,ak⟩;obtain⟨gD,rfl,_,_⟩:=V3.o.ow.form hm3;obtain⟨y,O,y0⟩:=V3.o.ow.get (show j<m3 by omega);obtain⟨yn,rfl⟩:∃k:Nat,y=k:=⟨y.toNat,by have:=O.1;omega⟩;have F:yn<n:=by have:=O.2;omega
 have Y:=aU yn n;have⟨c0,c1,aW,wV⟩:=V3.o.bx.q4;have j1:(m3:Int)-1=(j:Int):=ak;have j2:=aU j m3;have j3:(0:Int)<=(j:Int):=Int.natCast_nonneg _;clear O hj;go_upto_region 24 with fail;clear j1 j2 j3 y0;obtain⟨u,pu,u0⟩:=V3.o.ow.get hm3;obtain⟨un,rfl⟩:∃k:Nat,u=k:=⟨u.toNat,by have:=pu.1;omega⟩;have KT:un<n:=by have:=pu.2;omega
 have h3:=aU 0 m3;have T:aq (az w w4):=⟨G.o.trans (V3.o.be.mono G.o.size)⟩;have RW:aq _:=⟨R.o.Z T.o T.o.size⟩;have SW:aq _:=⟨S.o.Z T.o T.o.size⟩;have L0:=aE c0;have L1x:=aE c1;have L3:=aE u0
 clear c0 c1 aW wV u0 pu;refine aS (fun d=>if d=some 137 then some ZI else if d=some 138 then some ZI else none) 12 rfl aF aF aF aF aF rfl ?_
 repeat(refine fU aB aB aB ?_;intro K9 g;go_big_quiet_op;go_big_quiet_on)
 refine kD ZI aB aB (fun w9 dv=> ?_) (fun v9 aV=> ?_)
 .obtain⟨P,rfl⟩:=dv
  go_simp;refine aX ZI ((Au (some adA) (some adC) n c d un (-1) base P.1 (RW.o.Z P.2 P.2.size) (SW.o.Z P.2 P.2.size) ak KT (.inr rfl)).mono ?_);rintro e w5 ⟨z,rfl,hb⟩;exact⟨_,rfl,⟨z,rfl⟩,hb⟩
 obtain⟨_,_,z1,rfl⟩:=aV;simp[Act.put];refine kD ZI aB aB (fun w9 dv=> ?_) (fun v9 aV=> ?_)
 .obtain⟨P,rfl⟩:=dv
  go_simp;refine aX ZI ((XI lv z1 P.1).mono ?_);rintro e w5 ⟨z,rfl,hb⟩;exact⟨_,rfl,⟨z,rfl⟩,hb⟩
 obtain⟨_,_,z2,rfl⟩:=aV;simp[Act.put]
 repeat(refine fU aB aB aB ?_;intro K9 g;go_big_quiet_op;go_big_quiet_on)
 intro P hE;have V5:aq _:=⟨V3.o.ar P.2⟩;have⟨c0,c1,aW,wV⟩:=V5.o.bx.q4;have f2:=V5.o.bx.fz 2;have V6:aq _:=⟨V5.o.afD z2⟩;clear hE L0 L1x L3 RW SW T V5 V3;go_simp;have⟨w5,sZ⟩:∃w5,w5=P.1.setCell ⟨wr.heap.size,2,none⟩ (ae aj z2):=⟨_,rfl⟩;rw[<-sZ]at V6;rw[<-sZ];clear sZ c0 c1 aW wV f2;have E:aq (az w w5):=⟨G.o.trans (V6.o.be.mono G.o.size)⟩;have RW:aq _:=⟨R.o.Z E.o E.o.size⟩;have SW:aq _:=⟨S.o.Z E.o E.o.size⟩;go_wp2_with fail;refine(Au (some adA) (some adC) n c d yn 1 base w5 RW.o SW.o ak F (.inl rfl)).mono ?_;rintro e w6 ⟨z5,rfl,b6⟩;have V7:aq _:=⟨V6.o.ar b6⟩;clear b6 V6 E RW SW;have B7:aq (az w w6):=⟨G.o.trans (V7.o.be.mono G.o.size)⟩;obtain⟨afG,cl2,s,_,e2⟩:=(R.o.Z B7.o B7.o.size).get F;injection s with s
 subst s;go_wp2_with fail;refine(ry cl2 w6).mono ?_;rintro e w7 ⟨b,rfl,b7⟩;have V8:aq _:=⟨V7.o.ar b7⟩;clear b7 V7 B7 e2 Y;cases b
 .exact aeJ
 .exact aeJ
end Go.Proofs.YtklncadpkniojaaGreatDoor
