/- Part of LineBoxes. -/
import Derived.Test.YtpidckelbgbbkaaGreatDoorAG
import Derived.Test.YtpidckelbgbbkaaGreatDoorAF
import Derived.Lib.ConvBytes
import Derived.Lib.AtoiErrMem
namespace Go.Proofs.YtpidckelbgbbkaaGreatDoor
open Go.ChangeShapes Go.WideShapes Go.ChangeAt Go.RowKit Go.Proofs.Tryz
open Go.Value renaming int → ae
open Go.IntKind renaming i64 → aj
set_option linter.all false
set_option maxRecDepth 100000
set_option maxHeartbeats 16000000
variable{G:Prop}{n:Nat}
def PWn(w:World)(m:Nat)(e:Ending)(a:World):Prop:=∃(A:aC) (k c:Nat),k<=m/\e= .returned (.slice A k c)/\Ow a w.heap.size 3 .i64 aN A k c/\aA w a
theorem Ou(C:aC)(m d:Nat)(a b:Int)(w:World)(h:Iw w w.heap.size .i64 aN C m)(E:m<=100000):Calls prog 24 #[.slice C m d,ae aj a,ae aj b] w (PWn w m):=by
 have R:=sH h;go_enter func24,ntmps24;go_wp2;go_loopg [7,8] (m+1) (fun gg v7 l wr=>∃(i k:Nat) (D:aC) (e:Nat),m-i<gg/\i<=m/\k<=i/\v7= .slice D k e/\l=ae aj (i:Int)/\ak (Ow wr w.heap.size 3 .i64 aN D k e)/\ak (aA w wr))
 ·exact⟨0,0,none,0,aq,aq,aq,rfl,rfl,⟨Ow.nil _ _ _ _ _⟩,cB⟩
 obtain⟨i,k,D,e,u,A,x,rfl,rfl,O,c⟩:=hrel;by_cases f:i<m;rotate_left
 ·have n:=cF i m
  go_wp2;go_ret;exact⟨_,_,_,aq,rfl,O.o,c.o⟩
 have n:=aR i m;obtain⟨t,z,rfl,_,y⟩:=(R.o.Z c.o c.o.size).get f;have o:=c.o.size;by_cases B:a<z;rotate_left
 ·go_wp2
  go_roundg (m-i)
  ·exact⟨i+1,k,D,e,aq,aq,aq,rfl,aQ,O,c⟩
  omega
 by_cases v:z<b;rotate_left
 ·go_wp2
  go_roundg (m-i)
  ·exact⟨i+1,k,D,e,aq,aq,aq,rfl,aQ,O,c⟩
  omega
 go_wp2_with (at_builtin;refine bS nA rfl (.tmp 29) (.tmp 34) rfl rfl (O.o.alloc _) rfl (aX _ _ _) trivial aq cA ?_;intro p c8 r g j;have q:=sH g;have s:ak (aA w r):=⟨(c.o.alloc aq _).trans j⟩;clear g j);go_roundg (m-i)
 ·exact⟨i+1,k+1,p,c8,aq,aq,aq,rfl,aQ,q,s⟩
 omega
def okR(r:Int):Bool:=(decide (0<=r)&&decide (r<55296))||(decide (57343<r)&&decide (r<=1114111))
theorem YZ(r:Int)(w:World):Calls prog 141 #[.int .i32 r] w (fun e d=>e= .returned (.bool (okR r))/\w=d):=by
 have h:(0<=r/\r<55296)∨(r<0/\¬57343<r)∨(55296<=r/\0<=r/\¬57343<r)∨(57343<r/\0<=r/\55296<=r):=aq;rcases h with⟨a,b⟩|⟨a,b⟩|⟨a,b,c⟩|⟨a,b,c⟩
 all_goals
  go_enter func141,ntmps141;go_wp2;go_ret;refine⟨lW ?_,rfl⟩;rw[Bool.eq_iff_iff];simp[okR];omega
def Jx(ts:aE)(n:Nat):Prop:=∀i,i<n->okR (nth ts i)=true
def PRg(w:World)(ts:aE)(n:Nat)(e:Ending)(a:World):Prop:=∃z:Bool,e= .returned (.bool z)/\(z=true↔Jx ts n)/\w=a
theorem As(A:aC)(n c:Nat)(ts:aE)(w:World)(h:aL .i32 w A n c ts)(r:n<=1000000000):Calls prog 77 #[.slice A n c] w (PRg w ts n):=by
 have R:=sH h;go_enter func77,ntmps77;go_wp2;go_loopg [3] (n+1) (fun gg v3 wr=>∃(i:Nat),n-i<gg/\i<=n/\v3=ae aj (i:Int)/\wr=w/\ak (Jx ts i))
 ·exact⟨0,aq,aq,rfl,rfl,⟨fun k l=>by omega⟩⟩
 obtain⟨i,p,s,rfl,rfl,d⟩:=hrel;by_cases a:i<n;rotate_left
 ·have g:=cF i n
  obtain rfl:i=n:=aq;go_wp2;go_ret;exact⟨_,rfl,⟨fun _=>d.o,fun _=>rfl⟩,rfl⟩
 have g:=aR i n;obtain⟨o,rfl,q⟩:=R.o.gj a;go_wp2_with fail;refine(YZ (nth ts i) _).mono ?_;rintro e _ ⟨rfl,rfl⟩;cases b:okR (nth ts i)
 ·have m:ak (¬Jx ts n):=⟨fun h=>by rw[h i a]at b;cases b⟩
  go_wp2;go_ret;exact⟨_,rfl,⟨fun h=>gO,fun h=>absurd h m.o⟩,rfl⟩
 ·have j:ak (Jx ts (i+1)):=⟨fun k l=>by
   rcases Nat.lt_or_ge k i with f|f
   ·exact d.o k f
   ·obtain rfl:k=i:=by omega
    exact b⟩
  go_wp2;go_roundg (n-i)
  ·exact⟨i+1,aq,aq,aQ,rfl,j⟩
  omega
theorem mP(r:Int)(w:World)(h:Wf .i32 r):Calls prog 97 #[.int .i32 r] w (PI w):=by
 obtain⟨a,b⟩:=uW h;have c:=sH (eZ r a b w);go_enter func97,ntmps97;go_wp2_with fail;refine c.o.mono ?_;rintro e f ⟨rfl,d⟩;generalize(aZ r).vj=bd;go_wp2;go_ret;exact⟨_,rfl,d⟩
theorem Jf(A:aC)(n c:Nat)(ts:aE)(w:World)(h:aL .i32 w A n c ts)(Z:n<=10000):Calls prog 47 #[.slice A n c] w (Nw w 3 .i64 aN n):=by
 have R:=sH h;clear h;go_enter func47,ntmps47;go_wp2;go_loopg [3,4,5] (n+1) (fun gg v3 v4 _ wr=>∃(i:Nat) (C:aC) (d:Nat),n-i<gg/\i<=n/\v3= .slice C i d/\v4=ae aj (i:Int)/\ak (Ow wr w.heap.size 3 .i64 aN C i d)/\ak (aA w wr))
 ·exact⟨0,none,0,aq,aq,rfl,rfl,⟨Ow.nil _ _ _ _ _⟩,cB⟩
 obtain⟨i,C,d,hg,hi,rfl,rfl,B,t⟩:=hrel;by_cases G:i<n;rotate_left
 ·obtain rfl:i=n:=by omega
  go_wp2;go_ret;exact⟨_,_,rfl,B.o,t.o⟩
 have T:=aR i n;obtain⟨V,z,rfl,L,Q⟩:=(R.o.ar t.o).iw.get G;have N:=sH L;clear L;go_wp2_with fail;refine(mP z _ N.o).mono ?_;rintro e w2 ⟨q,rfl,J⟩;have k:=t.t J;have v:=sH (B.o.ar J);clear J B t Q;go_wp2_with fail;refine(wY q _).mono ?_;rintro e M ⟨⟨b,rfl⟩,rfl⟩;cases b
 ·have m:=k.o.size
  go_wp2_with (at_builtin;refine bS nA rfl (.tmp 37) (.tmp 39) rfl rfl ((v.o).alloc _) rfl (aX _ _ _) trivial aq cA ?_;intro j c8 l a f;have o:=sH a;have p:ak (aA w l):=⟨((k).o.alloc aq _).trans f⟩;clear a f);go_roundg (n-i)
  ·exact⟨i+1,j,c8,aq,aq,rfl,aQ,o,p⟩
  omega
 rcases i with _|i
 ·have m:=k.o.size
  go_wp2_with (at_builtin;refine bS nA rfl (.tmp 37) (.tmp 39) rfl rfl ((v.o).alloc _) rfl (aX _ _ _) trivial aq cA ?_;intro j c8 l a f;have o:=sH a;have p:ak (aA w l):=⟨((k).o.alloc aq _).trans f⟩;clear a f);go_roundg (n-0)
  ·exact⟨0+1,j,c8,aq,aq,rfl,aQ,o,p⟩
  omega
 obtain⟨P,S,H,r,O⟩:=(R.o.ar k.o).iw.get (show i<n by omega);injection H with H
 subst H;have D:=sH r;have Y:wrap64 (i:Int)=(i:Int):=IntWalk.wrap64_in _ aq;have k0:=jB i;have U:=aR i n;have k2:(0:Int)<(i:Int)+1:=aq;clear r;go_wp2_with fail;refine(mP S _ D.o).mono ?_;rintro e E ⟨X,rfl,F⟩;have y:=k.t F;have K:=sH (v.o.ar F);have I:=y.o.size;clear F v k O;go_wp2_with fail;go_at_call 99;refine(oh _ _ _ _ _ VC bQ).mono ?_;rintro e M ⟨⟨b,rfl⟩,rfl⟩;have x:ak (aA w (E.alloc (.cells #[ae aj 1,ae aj 2,ae aj 3,ae aj 4,ae aj 5] 3))):=⟨y.o.alloc I _⟩;have s:ak (Ow (E.alloc (.cells #[ae aj 1,ae aj 2,ae aj 3,ae aj 4,ae aj 5] 3)) w.heap.size 3 .i64 aN C (i+1) d):=⟨K.o.alloc _⟩;clear K y;generalize E.alloc (.cells #[ae aj 1,ae aj 2,ae aj 3,ae aj 4,ae aj 5] 3)=w4 at*;cases b
 ·obtain⟨g,rfl,_,_⟩:=s.o.form aq
  obtain⟨u,_,u0⟩:=s.o.get (show i<i+1 by omega);have W:(i:Int)<(i:Int)+1:=aq;have m:=x.o.size;go_wp2_with (at_builtin;refine bS nA rfl (.tmp 37) (.tmp 39) rfl rfl ((s.o).alloc _) rfl (aX _ _ _) trivial aq cA ?_;intro j c8 l a f;have o:=sH a;have p:ak (aA w l):=⟨((x).o.alloc aq _).trans f⟩;clear a f);go_roundg (n-(i+1))
  ·exact⟨(i+1)+1,j,c8,aq,aq,rfl,aQ,o,p⟩
  omega
 ·have m:=x.o.size
  go_wp2_with (at_builtin;refine bS nA rfl (.tmp 37) (.tmp 39) rfl rfl ((s.o).alloc _) rfl (aX _ _ _) trivial aq cA ?_;intro j c8 l a f;have o:=sH a;have p:ak (aA w l):=⟨((x).o.alloc aq _).trans f⟩;clear a f);go_roundg (n-(i+1))
  ·exact⟨(i+1)+1,j,c8,aq,aq,rfl,aQ,o,p⟩
  omega
def PRo(w:World)(lo a:Int)(e:Ending)(b:World):Prop:=∃z:Int,e= .returned (ae aj z)/\lo<=z/\z<=a/\aA w b
theorem zU(A:aC)(n c:Nat)(ts:aE)(i:Nat)(w:World)(h:aL .i32 w A n c ts)(t:n<=10000)(y:i<=n):Calls prog 174 #[.slice A n c,ae aj (i:Int)] w (PRo w (-1) (i-1)):=by
 have R:=sH h;go_enter func174,ntmps174;have C:wrap64 ((i:Int)-1)=(i:Int)-1:=IntWalk.wrap64_in _ aq;go_wp2;go_loopg [1] (i+2) (fun gg g wr=>∃(x:Int),g=ae aj x/\-1<=x/\x<=(i:Int)-1/\(x+1).toNat<gg/\ak (aA w wr))
 ·exact⟨_,rfl,aq,aq,aq,cB⟩
 obtain⟨x,rfl,f,d,r,a⟩:=hrel;by_cases u:0<=x;rotate_left
 ·go_wp2
  go_ret;exact⟨_,rfl,f,d,a.o⟩
 obtain⟨k,rfl⟩:∃k:Nat,x=k:=⟨x.toNat,aq⟩;obtain⟨o,z,rfl,j,s⟩:=(R.o.ar a.o).iw.get (show k<n by omega);have l:=sH j;have k4:=aR k n;have p:wrap64 ((k:Int)-1)=(k:Int)-1:=IntWalk.wrap64_in _ aq;go_wp2_with fail;refine(mP z _ l.o).mono ?_;rintro e v ⟨q,rfl,m⟩;have b:=a.t m;cases B:(q==4)
 ·go_wp2
  go_ret;exact⟨_,rfl,f,d,b.o⟩
 ·go_wp2
  go_roundg (gk-1)
  ·exact⟨_,rfl,aq,aq,aq,b⟩
  omega
theorem Zd(A:aC)(n c:Nat)(ts:aE)(i:Nat)(w:World)(h:aL .i32 w A n c ts)(J:n<=10000)(L:i<n):Calls prog 175 #[.slice A n c,ae aj (i:Int)] w (PRo w 0 i):=by
 have R:=sH h;clear h;go_enter func175,ntmps175;go_wp2;go_loopg [1] (i+1) (fun gg u wr=>∃(k:Nat),u=ae aj (k:Int)/\k<=i/\k<gg/\ak (aA w wr))
 ·exact⟨i,rfl,aq,aq,cB⟩
 obtain⟨k,rfl,M,G,m⟩:=hrel;rcases k with _|k
 ·go_wp2
  go_ret;exact⟨_,rfl,aq,aq,m.o⟩
 obtain⟨p,z,rfl,o,f⟩:=(R.o.ar m.o).iw.get (show k+1<n by omega);have x:=sH o;have E:(0:Int)<(k:Int)+1:=aq;have k4:(k:Int)+1<(n:Int):=aq;have f:wr.cell? {block:=p.block,off:=p.off+(k+1)}=some (.int .i32 z):=f;clear o;go_wp2_with fail;refine(mP z _ x.o).mono ?_;rintro e K ⟨q,rfl,s⟩;have d:=m.t s;clear s f;go_wp2_with fail;refine(wY q _).mono ?_;rintro e v ⟨⟨b,rfl⟩,rfl⟩;cases b
 ·go_wp2
  go_ret;exact⟨_,rfl,aq,aq,d.o⟩
 obtain⟨C,D,g,a,B⟩:=(R.o.ar d.o).iw.get (show k<n by omega);injection g with g
 subst g;have l:=sH a;have I:wrap64 (k:Int)=(k:Int):=IntWalk.wrap64_in _ aq;have k0:=jB k;have F:=aR k n;clear a;go_wp2_with fail;refine(mP D _ l.o).mono ?_;rintro e y ⟨H,rfl,r⟩;have j:=d.t r;clear r B d;go_wp2_with fail;go_at_call 99;refine(oh _ _ _ _ _ VC bQ).mono ?_;rintro e v ⟨⟨b,rfl⟩,rfl⟩;have t:ak (aA w (y.alloc (.cells #[ae aj 1,ae aj 2,ae aj 3,ae aj 4,ae aj 5] 3))):=⟨j.o.alloc j.o.size _⟩;clear j;cases b
 ·go_wp2
  go_roundg (gk-1)
  ·exact⟨k,aQ,aq,aq,t⟩
  omega
 ·go_wp2
  go_ret;exact⟨_,rfl,aq,aq,t.o⟩
theorem Rp(A C:aC)(n c d:Nat)(ts:aE)(i:Nat)(w:World)(h:aL .i32 w A n c ts)(k:Iw w w.heap.size .i64 aN C n)(D:n<=10000)(G:i<=n):Calls prog 105 #[.slice A n c, .slice C n d,ae aj (i:Int)] w (PI w):=by
 have R:=sH h;have S:=sH k;clear h k;go_enter func105,ntmps105;have J:wrap64 ((i:Int)-1)=(i:Int)-1:=IntWalk.wrap64_in _ aq;go_wp2;go_loopg [7,8] (i+2) (fun gg v7 j wr=>∃(x u:Int),v7=ae aj u/\j=ae aj x/\-1<=x/\x<=(i:Int)-1/\(x+1).toNat<gg/\ak (aA w wr))
 ·exact⟨_,_,rfl,rfl,aq,aq,aq,cB⟩
 obtain⟨x,u,rfl,rfl,H,v,t,a⟩:=hrel;by_cases E:0<=x;rotate_left
 ·go_wp2
  go_ret;exact⟨_,rfl,a.o⟩
 obtain⟨k,rfl⟩:∃k:Nat,x=k:=⟨x.toNat,aq⟩;obtain⟨r,z,rfl,b,m⟩:=(R.o.ar a.o).iw.get (show k<n by omega);obtain⟨p,y,rfl,_,o⟩:=(S.o.Z a.o a.o.size).get (show k<n by omega);have l:=sH b;have k4:=aR k n;have s:wrap64 ((k:Int)-1)=(k:Int)-1:=IntWalk.wrap64_in _ aq;clear b;cases B:(y==29)
 ·go_wp2
  go_ret;exact⟨_,rfl,a.o⟩
 go_wp2_with fail;refine(mP z _ l.o).mono ?_;rintro e F ⟨q,rfl,g⟩;have f:=a.t g;clear g m o;cases I:(q==29)
 ·go_wp2
  go_roundg (gk-1)
  ·exact⟨_,_,rfl,rfl,aq,aq,aq,f⟩
  omega
 ·go_wp2
  generalize wrap64 (u+1)=u2;go_roundg (gk-1)
  ·exact⟨_,_,rfl,rfl,aq,aq,aq,f⟩
  omega
def PHd(w:World)(e:Ending)(a:World):Prop:=∃(z:Int) (b:Bool),e= .returned (.tuple #[ae aj z, .bool b])/\aA w a
def hdT(d:Option Tmp):Option (Value->Prop):=if d=some 14 then some SI else if d=some 19 then some SI else none
theorem V'(s:G:=by
 go_wp2
 go_ret2;exact⟨_,_,rfl,B6.o⟩):G:=s
theorem Ys(A:aC)(n c:Nat)(ts:aE)(i:Nat)(w:World)(h:aL .i32 w A n c ts)(S:n<=10000)(hi:i+1<n):Calls prog 100 #[.slice A n c,ae aj ((i:Int)+1)] w (PHd w):=by
 have R:=sH h;clear h;go_enter func100,ntmps100;have Q:wrap64 (i:Int)=(i:Int):=IntWalk.wrap64_in _ aq;have k0:=jB i;have N:=aR i n;have X:(i:Int)+1<(n:Int):=aq;obtain⟨G,z,rfl,C,o⟩:=R.o.iw.get (show i<n by omega);obtain⟨B,L,d,j,r⟩:=R.o.iw.get (show i+1<n by omega);injection d with d
 subst d;have O:=sH C;have y:=sH j;have r:w.cell? {block:=G.block,off:=G.off+(i+1)}=some (.int .i32 L):=r;obtain⟨L0,L1⟩:=lc2 o r;clear C j o r;go_wp2;refine aG hdT aF aF ?_;refine mSk ?_;refine lsA SI (fun l=> ?_) (fun M f=> ?_)
 ·go_simp
  exact eh (mP z l.1 O.o)
 obtain⟨a,rfl⟩:=f;simp[Act.put];refine mSk ?_;refine lsA SI (fun l=> ?_) (fun M f=> ?_)
 ·go_simp
  exact eh (mP L l.1 y.o)
 obtain⟨b,rfl⟩:=f;simp[Act.put];refine mSk ?_;intro l;obtain⟨E,F⟩:=l
 try dsimp only
 have x:=sH F;clear F L0 L1 k0 N Q;go_wp2_with fail;go_at_call 99;refine(oh _ _ _ _ _ VC bQ).mono ?_;rintro e H ⟨⟨q,rfl⟩,rfl⟩;have m:ak (aA w (E.alloc (.cells #[ae aj 1,ae aj 3,ae aj 2] 3))):=⟨x.o.alloc x.o.size _⟩;generalize E.alloc (.cells #[ae aj 1,ae aj 3,ae aj 2] 3)=J at*;clear x;cases q;rotate_left
 ·go_wp2
  go_ret2;exact⟨_,_,rfl,m.o⟩
 go_wp2_with fail;go_at_call 99;refine(oh _ _ _ _ _ VC bQ).mono ?_;rintro e H ⟨⟨q,rfl⟩,rfl⟩;have p:ak (aA w (J.alloc (.cells #[ae aj 1,ae aj 2,ae aj 3,ae aj 4,ae aj 5] 3))):=⟨m.o.alloc m.o.size _⟩;generalize J.alloc (.cells #[ae aj 1,ae aj 2,ae aj 3,ae aj 4,ae aj 5] 3)=T at*;clear m;cases q;rotate_left
 ·go_wp2
  go_ret2;exact⟨_,_,rfl,p.o⟩
 have K:=sH (R.o.ar p.o);go_wp2_with fail;refine(zU _ n c ts (i+1) T K.o S aq).mono ?_;rintro e Y ⟨s,rfl,W,P,D⟩;have t:=p.t D;clear D p K;go_upto_region 7 with fail;go_cut [38] (fun v U=>(∃b:Bool,v= .bool b)/\ak (aA w U))
 case first=>
  by_cases Z:0<=s;rotate_left
  ·go_wp2
   go_meet;exact⟨⟨_,rfl⟩,t⟩
  obtain⟨k,rfl⟩:∃k:Nat,s=k:=⟨s.toNat,aq⟩;obtain⟨B,V,d,g,o⟩:=(R.o.ar t.o).iw.get (show k<n by omega);injection d with d
  subst d;have u:=sH g;have k4:=aR k n;clear g;go_wp2_with fail;refine(mP V _ u.o).mono ?_;rintro e w6 ⟨q,rfl,I⟩;have B6:=t.t I;clear I o;go_wp2;go_meet;exact⟨⟨_,rfl⟩,B6⟩
 case rest=>
 obtain⟨⟨q,rfl⟩,B6⟩:=hcut;clear t;cases q;rotate_left
 ·exact V'
 cases q1:(a==9)
 ·go_wp2_with fail
  refine(wY b _).mono ?_;rintro e H ⟨⟨q,rfl⟩,rfl⟩;cases q
  ·exact V'
  ·exact V'
 ·exact V'
theorem JJ(s:G:=by
 go_wp2_with fail
 all_goals
  go_meet;exact⟨⟨_,rfl⟩,rfl⟩):G:=s
theorem JL(s:G:=by
 go_wp2
 go_ret2;exact⟨_,_,rfl,B6.o⟩):G:=s
theorem VU(s:G:=by
 go_wp2
 go_ret2;exact⟨_,_,rfl,BE.o⟩):G:=s
theorem Uq(A C:aC)(n c d:Nat)(ts:aE)(i:Nat)(w:World)(h:aL .i32 w A n c ts)(k:Iw w w.heap.size .i64 aN C n)(K:n<=10000)(Z:i+1<n):Calls prog 101 #[.slice A n c, .slice C n d,ae aj ((i:Int)+1)] w (PHd w):=by
 have R:=sH h;have S:=sH k;go_enter func101,ntmps101;have l:wrap64 (i:Int)=(i:Int):=IntWalk.wrap64_in _ aq;have k0:(0:Int)<=(i:Int):=Int.natCast_nonneg i;have D:(i:Int)<(n:Int):=by clear l;omega
 have k2:(i:Int)+1<(n:Int):=by clear l;omega
 obtain⟨adc,a,rfl,_,m⟩:=S.o.get (show i<n by clear l;omega);obtain⟨H,b,g,_,t⟩:=S.o.get (show i+1<n by clear l;omega);injection g with g
 subst g;have t:w.cell? {block:=adc.block,off:=adc.off+(i+1)}=some (ae aj b):=t;obtain⟨L0,L1⟩:=lc2 m t;go_wp2;refine aG (fun _=>none) aF aF ?_;refine mSk ?_;rintro w2 ⟨⟨_,X⟩,rfl⟩
 try dsimp only
 have BE:=sH X;cases q1:(a==6);rotate_left
 ·exact VU
 cases Y:(b==6);rotate_left
 ·exact VU
 cases q3:(a==7);rotate_left
 ·exact VU
 go_upto_region 4 with fail;go_cut [38] (fun v f=>(∃b:Bool,v= .bool b)/\ak (aA w f))
 case first=>
  cases q4:(b==7)
  all_goals go_wp2_with fail
  repeat' (go_at_call 99;refine(oh _ _ _ _ _ adD bQ).mono ?_;rintro e I ⟨⟨b,rfl⟩,rfl⟩;cases b<;>go_wp2_with fail)
  all_goals
   go_meet;exact⟨⟨_,rfl⟩,⟨by repeat(first|exact BE.o|exact Below.alloc BE.o BE.o.size _|refine Below.alloc ?_ Bf _)⟩⟩
 case rest=>
 obtain⟨⟨q,rfl⟩,j⟩:=hcut;have BE:=j
 rename World=>f
 cases q;rotate_left
 ·go_wp2
  (go_ret2;exact⟨_,_,rfl,BE.o⟩)
 go_upto_region 6 with fail;go_cut [41] (fun v f=>(∃b:Bool,v= .bool b)/\ak (aA w f))
 case first=>
  skip
  all_goals go_wp2_with fail
  repeat' (go_at_call 99;refine(oh _ _ _ _ _ adD bQ).mono ?_;rintro e I ⟨⟨b,rfl⟩,rfl⟩;cases b<;>go_wp2_with fail)
  all_goals
   go_meet;exact⟨⟨_,rfl⟩,⟨by repeat(first|exact BE.o|exact Below.alloc BE.o BE.o.size _|refine Below.alloc ?_ Bf _)⟩⟩
 case rest=>
 obtain⟨⟨q,rfl⟩,j⟩:=hcut;have BE:=j
 rename World=>f
 cases q;rotate_left
 ·go_wp2
  (go_ret2;exact⟨_,_,rfl,BE.o⟩)
 have L:=sH (R.o.ar BE.o);go_wp2_with fail;refine(zU _ n c ts (i+1) f L.o K aq).mono ?_;rintro e T ⟨s,rfl,O,J,P⟩;have N:=BE.t P;have BE:=N;by_cases V:0<=s;rotate_left
 ·have Q:decide (0<=s)=false:=by simpa using V
  obtain⟨x,z,rfl,y,m⟩:=(R.o.ar BE.o).iw.get (show i<n by omega);have r:=sH y;have k0:(0:Int)<=(i:Int):=Int.natCast_nonneg i;have D:=aR i n;have l:wrap64 (i:Int)=(i:Int):=IntWalk.wrap64_in _ aq;go_wp2_with fail;refine(mP z _ r.o).mono ?_;rintro e W ⟨p,rfl,o⟩;have B6:=BE.t o;cases G:(p==4);rotate_left
  ·exact JL
  cases B:(a==19)
  ·exact JL
  ·exact JL
 obtain⟨k,rfl⟩:∃k:Nat,s=k:=⟨s.toNat,aq⟩;obtain⟨F,u,g,_,m⟩:=(S.o.Z BE.o BE.o.size).get (show k<n by omega);injection g with g
 subst g;have k4:=aR k n;go_upto_region 11 with fail;go_cut [72] (fun v f=>(∃b:Bool,v= .bool b)/\T=f)
 case first=>
  cases q5:(u==18)
  ·cases E:(u==19)
   ·cases M:(u==13)
    ·cases U:(u==14)
     ·exact JJ
     ·exact JJ
    ·exact JJ
   ·have M:(u==13)=false:=by have h:=E;simp at h;subst h;rfl
    have G:(u==14)=false:=by have h:=E;simp at h;subst h;rfl
    cases U:(b==18)
    ·exact JJ
    ·exact JJ
  ·exact JJ
 case rest=>
 obtain⟨⟨q,rfl⟩,rfl⟩:=hcut;cases q;rotate_left
 ·exact VU
 obtain⟨x,z,rfl,y,m⟩:=(R.o.ar BE.o).iw.get (show i<n by omega);have r:=sH y;have k0:(0:Int)<=(i:Int):=Int.natCast_nonneg i;have D:=aR i n;have l:wrap64 (i:Int)=(i:Int):=IntWalk.wrap64_in _ aq;go_wp2_with fail;refine(mP z _ r.o).mono ?_;rintro e W ⟨p,rfl,o⟩;have B6:=BE.t o;cases G:(p==4);rotate_left
 ·exact JL
 cases B:(a==19)
 ·exact JL
 ·exact JL
theorem JM(s:G:=by
 go_wp2_with fail
 all_goals
  go_meet;exact⟨⟨_,rfl⟩,rfl⟩):G:=s
theorem Sr(A C:aC)(n c d:Nat)(ts:aE)(i:Nat)(w:World)(h:aL .i32 w A n c ts)(k:Iw w w.heap.size .i64 aN C n)(O:n<=10000)(Z:i+1<n):Calls prog 102 #[.slice A n c, .slice C n d,ae aj ((i:Int)+1)] w (PB w):=by
 have R:=sH h;have S:=sH k;clear h k;go_enter func102,ntmps102;have m:wrap64 (i:Int)=(i:Int):=IntWalk.wrap64_in _ aq;have k0:(0:Int)<=(i:Int):=Int.natCast_nonneg i;have L:(i:Int)<(n:Int):=by clear m;omega
 have Q:(i:Int)+1<(n:Int):=by clear m;omega
 obtain⟨adc,a,rfl,_,E⟩:=S.o.get (show i<n by clear m;omega);obtain⟨J,b,o,_,B⟩:=S.o.get (show i+1<n by clear m;omega);injection o with o
 subst o;have B:w.cell? {block:=adc.block,off:=adc.off+(i+1)}=some (ae aj b):=B;obtain⟨L0,L1⟩:=lc2 E B;clear E B;go_wp2;refine aG (fun _=>none) aF aF ?_;refine mSk ?_;rintro T ⟨⟨_,K⟩,rfl⟩
 try dsimp only
 have BE:ak (aA w T):=⟨K⟩;clear K L0 L1 k0 L m Q;go_upto_region 2 with fail;go_cut [36] (fun v f=>(∃b:Bool,v= .bool b)/\ak (aA w f))
 case first=>
  (cases q1:(a==11);cases Y:(a==24))
  all_goals go_wp2_with fail
  repeat' (go_at_call 99;refine(oh _ _ _ _ _ VV bQ).mono ?_;rintro e D ⟨⟨b,rfl⟩,rfl⟩;cases b<;>go_wp2_with fail)
  all_goals
   go_meet;exact⟨⟨_,rfl⟩,⟨by repeat(first|exact BE.o|exact Below.alloc BE.o BE.o.size _|refine Below.alloc ?_ Bf _)⟩⟩
 case rest=>
 obtain⟨⟨q,rfl⟩,g⟩:=hcut;clear BE;have BE:=g;clear g
 rename World=>f
 cases q;rotate_left
 ·go_wp2
  go_ret;exact⟨_,rfl,BE.o⟩
 have G:=sH (R.o.ar BE.o);have m:wrap64 (i:Int)=(i:Int):=IntWalk.wrap64_in _ aq;go_wp2_with fail;clear m;refine(Zd _ n c ts i f G.o O aq).mono ?_;rintro e U ⟨s,rfl,P,N,I⟩;have H:=BE.t I;clear I BE G;have BE:=H;clear H;obtain⟨r,rfl⟩:∃r:Nat,s=r:=⟨s.toNat,aq⟩;go_upto_region 5 with fail;go_cut [58] (fun v f=>(∃b:Bool,v= .bool b)/\U=f)
 case first=>
  rcases r with _|r
  ·cases V:(a==12)
   ·cases q4:(a==10)
    ·exact JM
    ·exact JM
   ·exact JM
  ·obtain⟨F,u,o,_,E⟩:=(S.o.Z BE.o BE.o.size).get (show r<n by omega)
   injection o with o
   subst o;have k4:=aR r n;have X:(0:Int)<=(r:Int):=Int.natCast_nonneg r;have k6:(0:Int)<(r:Int)+1:=aq;have wr:wrap64 (r:Int)=(r:Int):=IntWalk.wrap64_in _ aq;cases V:(a==12)
   ·cases q4:(a==10)
    ·exact JM
    ·exact JM
   ·exact JM
 case rest=>
 obtain⟨⟨q,rfl⟩,rfl⟩:=hcut;cases q;rotate_left
 ·go_wp2
  go_ret;exact⟨_,rfl,BE.o⟩
 rename World=>f
 have L0:=Lt.new f #[ae aj 0,ae aj 28] 3 2 _ rfl rfl rfl;have l:=av f (.cells #[ae aj 0,ae aj 28] 3);go_upto_region 8 with fail;generalize f.alloc (.cells #[ae aj 0,ae aj 28] 3)=z at*;have LT:ak (Lt z _ 2):=⟨L0⟩;have t:=BE.t l;clear BE L0 l;have BE:ak (aA z z):=cB;go_upto_region 8 with fail;go_cut [75] (fun v f=>(∃b:Bool,v= .bool b)/\ak (aA z f))
 case first=>
  (cases q5:(b==21)<;>cases W:(a==21))
  all_goals go_wp2_with fail
  repeat' (go_at_call 99;refine(oh _ _ _ _ _ VV bQ).mono ?_;rintro e D ⟨⟨b,rfl⟩,rfl⟩;cases b<;>go_wp2_with fail)
  all_goals
   go_meet;exact⟨⟨_,rfl⟩,⟨by repeat(first|exact BE.o|exact Below.alloc BE.o BE.o.size _|refine Below.alloc ?_ Bf _)⟩⟩
 case rest=>
 obtain⟨⟨q,rfl⟩,g⟩:=hcut;clear BE;have BE:=g;clear g
 rename World=>f
 cases q;rotate_left
 ·go_wp2
  go_ret;exact⟨_,rfl,t.o.trans (BE.o.mono t.o.size)⟩
 have L0:=Lt.new f #[ae aj 25,ae aj 26,ae aj 27] 3 3 _ rfl rfl rfl;have l:=av f (.cells #[ae aj 25,ae aj 26,ae aj 27] 3);go_upto_region 11 with fail;generalize f.alloc (.cells #[ae aj 25,ae aj 26,ae aj 27] 3)=x at*;have LU:ak (Lt x _ 3):=⟨L0⟩;have j:ak (Lt x _ 2):=⟨(LT.o.ar BE.o).ar l⟩;have p:ak (aA w x):=⟨(t.o.trans (BE.o.mono t.o.size)).trans (l.mono (by have:=BE.o.size;have:=t.o.size;omega))⟩;clear BE L0 l LT t;have LT:=j;clear j;have BE:ak (aA x x):=cB;go_upto_region 11 with fail;go_cut [92] (fun v f=>(∃b:Bool,v= .bool b)/\ak (aA x f))
 case first=>
  cases q7:(a==23)
  all_goals go_wp2_with fail
  repeat' (go_at_call 99;refine(oh _ _ _ _ _ VV bQ).mono ?_;rintro e D ⟨⟨b,rfl⟩,rfl⟩;cases b<;>go_wp2_with fail)
  all_goals
   go_meet;exact⟨⟨_,rfl⟩,⟨by repeat(first|exact BE.o|exact Below.alloc BE.o BE.o.size _|refine Below.alloc ?_ Bf _)⟩⟩
 case rest=>
 obtain⟨⟨q,rfl⟩,g⟩:=hcut;clear BE;have BE:=g;clear g
 rename World=>f
 cases q;rotate_left
 ·go_wp2
  go_ret;exact⟨_,rfl,p.o.trans (BE.o.mono p.o.size)⟩
 have L0:=Lt.new f #[ae aj 23,ae aj 22] 3 2 _ rfl rfl rfl;have l:=av f (.cells #[ae aj 23,ae aj 22] 3);go_upto_region 14 with fail;generalize f.alloc (.cells #[ae aj 23,ae aj 22] 3)=y at*;have LV:ak (Lt y _ 2):=⟨L0⟩;have j:ak (Lt y _ 2):=⟨(LT.o.ar BE.o).ar l⟩;have M:ak (aA w y):=⟨(p.o.trans (BE.o.mono p.o.size)).trans (l.mono (by have:=BE.o.size;have:=p.o.size;omega))⟩;clear BE L0 l LT p LU;have LT:=j;clear j;have BE:ak (aA y y):=cB;go_wp2_with fail
 repeat' (go_at_call 99;refine(oh _ _ _ _ _ VV bQ).mono ?_;rintro e D ⟨⟨b,rfl⟩,rfl⟩;cases b<;>go_wp2_with fail)
 all_goals
  go_ret;exact⟨_,rfl,M.o⟩
def abo(d:Option Tmp):Option (Value->Prop):=if d=some 39 then some SB else if d=some 50 then some SB else if d=some 62 then some SB else none
theorem aaG(s:G:=by
 simp[Act.put]
 refine mSk ?_;intro nq;obtain⟨w6,b6⟩:=nq
 try dsimp only
 have B6:=B5.t b6;go_wp2;go_ret;exact⟨_,rfl,B6.o⟩):G:=s
theorem YX(A C:aC)(n c d:Nat)(ts:aE)(i:Nat)(w:World)(h:aL .i32 w A n c ts)(k:Iw w w.heap.size .i64 aN C n)(s:n<=10000)(X:i<=n):Calls prog 48 #[.slice A n c, .slice C n d,ae aj (i:Int)] w (PI w):=by
 have R:=sH h;have S:=sH k;rcases i with _|i
 ·go_enter func48,ntmps48
  go_wp2;go_ret;exact⟨_,rfl,Below.refl _ _⟩
 by_cases q:i+1=n
 ·subst q
  go_enter func48,ntmps48;go_wp2;go_ret;exact⟨_,rfl,Below.refl _ _⟩
 have H:decide (i+1=n)=false:=by simp[q]
 have g:i+1<n:=aq;have Z:(i:Int)+1<(n:Int):=aq;go_enter func48,ntmps48;go_wp2_with fail;refine(oT A n c ts ((i:Int)+1) w R.o aq).mono ?_;rintro e N ⟨rfl,Q⟩;have v:=sH Q;generalize J8 (ks ts) ((i:Int)+1)=b;cases b
 ·go_wp2
  go_ret;exact⟨_,rfl,v.o⟩
 have p:=sH (R.o.ar v.o);go_wp2_with fail;refine(Ys A n c ts i N p.o s g).mono ?_;rintro e K ⟨z,b,rfl,L⟩;have o:=v.t L;cases b;rotate_left
 ·go_wp2
  go_ret;exact⟨_,rfl,o.o⟩
 have p:=sH (R.o.ar o.o);have SW:=sH (S.o.Z o.o o.o.size);go_wp2_with fail;refine(Uq A C n c d ts i K p.o SW.o s g).mono ?_;rintro e P ⟨z2,b,rfl,J⟩;have B5:=o.t J;cases b;rotate_left
 ·go_wp2
  go_ret;exact⟨_,rfl,B5.o⟩
 have p:=sH (R.o.ar B5.o);have SW:=sH (S.o.Z B5.o B5.o.size);obtain⟨adc,x,rfl,_,G⟩:=SW.o.get (show i<n by omega);obtain⟨l,y,f,_,m⟩:=SW.o.get g;injection f with f
 subst f;have m:P.cell? {block:=adc.block,off:=adc.off+(i+1)}=some (ae aj y):=m;have U:=aR i n;have k0:(0:Int)<=(i:Int):=Int.natCast_nonneg i;obtain⟨L0,L1⟩:=lc2 G m;have r:wrap64 (i:Int)=(i:Int):=IntWalk.wrap64_in _ aq;go_wp2;refine aG abo aF aF ?_;refine mSk ?_;refine iW SB aK aK (fun D a=> ?_) (fun F j=> ?_)
 ·clear r
  obtain⟨nq,rfl⟩:=a;go_simp;exact bj (Sr A (some adc) n c d ts i nq.1 (p.o.ar nq.2) (SW.o.Z nq.2 nq.2.size) s g)
 obtain⟨b,rfl⟩:=j;cases b;rotate_left
 ·exact aaG
 simp[Act.put];refine mSk ?_;refine iW SB aK aK (fun D a=> ?_) (fun F j=> ?_)
 ·clear r
  obtain⟨nq,rfl⟩:=a;go_simp;exact bj (Io x y nq.1)
 obtain⟨b,rfl⟩:=j;cases b;rotate_left
 ·exact aaG
 simp[Act.put];refine mSk ?_;refine iW SB aK aK (fun D a=> ?_) (fun F j=> ?_)
 ·clear r
  obtain⟨nq,rfl⟩:=a;go_simp;exact bj (Iz x y nq.1)
 obtain⟨b,rfl⟩:=j;cases b;rotate_left
 ·exact aaG
 simp[Act.put];refine mSk ?_;intro nq;obtain⟨w6,b6⟩:=nq
 try dsimp only
 have B6:=B5.t b6;have M:=sH (R.o.ar B6.o);have B:=sH (S.o.Z B6.o B6.o.size);obtain⟨l,T,f,_,G⟩:=B.o.get (show i<n by omega);injection f with f
 subst f;obtain⟨l,E,f,_,m⟩:=B.o.get g;injection f with f
 subst f;have m:w6.cell? {block:=adc.block,off:=adc.off+(i+1)}=some (ae aj E):=m;have r:wrap64 (i:Int)=(i:Int):=IntWalk.wrap64_in _ aq;cases Y:(T==29)
 ·go_wp2
  go_ret;exact⟨_,rfl,B6.o⟩
 cases W:(E==29)
 ·go_wp2
  go_ret;exact⟨_,rfl,B6.o⟩
 go_wp2_with fail;refine(Rp A (some adc) n c d ts (i+1) w6 M.o B.o s aq).mono ?_;rintro e V ⟨u,rfl,I⟩;have O:=B6.t I;go_wp2_with fail
 all_goals
  go_ret;exact⟨_,rfl,O.o⟩
def aeW(w:World)(n:Nat)(e:Ending)(a:World):Prop:=∃m,(0<n->m=n+1)/\Nw w 3 .i64 aN m e a
theorem abe(A:aC)(n c:Nat)(ts:aE)(w:World)(h:aL .i32 w A n c ts)(o:n<=10000):Calls prog 20 #[.slice A n c] w (aeW w n):=by
 have R:=sH h;go_enter func20,ntmps20;go_wp2_with fail;refine(Jf A n c ts w R.o o).mono ?_;rintro e f ⟨C,d,rfl,F,u⟩;have a:=sH u;have x:=sH F.iw;rcases n with _|n
 ·go_wp2
  go_loopg [3,5] 1 (fun gg v3 k wr=>v3= .slice none 0 0/\k=ae aj 0/\wr=f/\0<gg)
  ·exact⟨rfl,rfl,rfl,aq⟩
  obtain⟨rfl,rfl,rfl,v⟩:=hrel;go_wp2;go_ret;exact⟨0,aq,_,_,rfl,Ow.nil _ _ _ _ _,a.o⟩
 go_wp2;go_loopg [3,5] (n+3) (fun gg v3 k wr=>∃(i:Nat) (D:aC) (g:Nat),n+2-i<gg/\i<=n+2/\v3= .slice D i g/\k=ae aj (i:Int)/\ak (Ow wr f.heap.size 3 .i64 aN D i g)/\ak (aA f wr))
 ·exact⟨0,none,0,aq,aq,rfl,rfl,⟨Ow.nil _ _ _ _ _⟩,cB⟩
 obtain⟨i,D,g,v,L,rfl,rfl,p,b⟩:=hrel;by_cases j:i<=n+1;rotate_left
 ·have s:¬(i:Int)<=(n:Int)+1:=by omega
  obtain rfl:i=n+2:=aq;go_wp2;go_ret;exact⟨n+2,fun _=>rfl,_,_,rfl,p.o.cN a.o.size,a.o.trans (b.o.mono a.o.size)⟩
 have s:(i:Int)<=(n:Int)+1:=aq;have H:=a.t b.o;have I:=sH (R.o.ar H.o);have SW:=sH (x.o.Z b.o b.o.size);go_wp2_with fail;refine(YX A C (n+1) c d ts i wr I.o SW.o o j).mono ?_;rintro e K ⟨z,rfl,r⟩;have m:=b.t r;have t:=sH (p.o.ar r);have J:=m.o.size;go_wp2_with (at_builtin;refine bS nA rfl (.tmp 19) (.tmp 24) rfl rfl (t.o.alloc _) rfl (aX _ _ _) trivial aq cA ?_;intro y c8 E l q;have B:=sH l;have G:ak (aA f E):=⟨(m.o.alloc aq _).trans q⟩;clear l q);go_roundg (n+2-i)
 ·exact⟨i+1,y,c8,aq,aq,rfl,aQ,B,G⟩
 omega
theorem nr(r:Int)(w:World)(h:Wf .i32 r):Calls prog 49 #[.int .i32 r] w (PI w):=by
 obtain⟨a,b⟩:=uW h;have c:=sH (eZ r a b w);go_enter func49,ntmps49;go_wp2_with fail;refine c.o.mono ?_;rintro e f ⟨rfl,d⟩;generalize(aZ r).join=bd;go_wp2;go_ret;exact⟨_,rfl,d⟩
theorem Hh(s:G:=by
 go_wp2
 go_ret;exact⟨_,rfl,aq,aq,BE.o⟩):G:=s
theorem AW(A:aC)(n c:Nat)(ts:aE)(i:Nat)(a:Int)(w:World)(h:aL .i32 w A n c ts)(C:n<=10000)(D:i<n)(t:a=1∨a= -1):Calls prog 106 #[.slice A n c,ae aj (i:Int),ae aj a] w (PRo w (-1) (n-1)):=by
 have R:=sH h;rcases t with rfl|rfl
 ·go_enter func106,ntmps106
  have B:wrap64 ((i:Int)+1)=(i:Int)+1:=IntWalk.wrap64_in _ aq;go_wp2;go_loopg [7] (n+2) (fun gg v7 wr=>∃(x:Int),v7=ae aj x/\-1<=x/\x<=n/\((n:Int)-x).toNat<gg/\ak (aA w wr))
  ·exact⟨_,rfl,aq,aq,aq,cB⟩
  obtain⟨x,rfl,v,r,p,BE⟩:=hrel;by_cases u:0<=x;rotate_left
  ·exact Hh
  by_cases g:x<n;rotate_left
  ·exact Hh
  obtain⟨k,rfl⟩:∃k:Nat,x=k:=⟨x.toNat,aq⟩;obtain⟨m,z,rfl,d,s⟩:=(R.o.ar BE.o).iw.get (show k<n by omega);have j:=sH d;go_wp2_with fail;refine(nr z wr j.o).mono ?_;rintro e l ⟨q,rfl,f⟩;have b:=BE.t f;cases y:(q !=5)
  ·have o:wrap64 ((k:Int)+1)=(k:Int)+1:=IntWalk.wrap64_in _ aq
   go_wp2;go_roundg (gk-1)
   ·exact⟨_,rfl,aq,aq,aq,b⟩
   omega
  ·go_wp2
   go_ret;exact⟨_,rfl,aq,aq,b.o⟩
 ·go_enter func106,ntmps106
  have B:wrap64 ((i:Int)+(-1))=(i:Int)+(-1):=IntWalk.wrap64_in _ aq;go_wp2;go_loopg [7] (n+2) (fun gg v7 wr=>∃(x:Int),v7=ae aj x/\-1<=x/\x<=n/\(x+1).toNat<gg/\ak (aA w wr))
  ·exact⟨_,rfl,aq,aq,aq,cB⟩
  obtain⟨x,rfl,v,r,p,BE⟩:=hrel;by_cases u:0<=x;rotate_left
  ·exact Hh
  by_cases g:x<n;rotate_left
  ·exact Hh
  obtain⟨k,rfl⟩:∃k:Nat,x=k:=⟨x.toNat,aq⟩;obtain⟨m,z,rfl,d,s⟩:=(R.o.ar BE.o).iw.get (show k<n by omega);have j:=sH d;go_wp2_with fail;refine(nr z wr j.o).mono ?_;rintro e l ⟨q,rfl,f⟩;have b:=BE.t f;cases y:(q !=5)
  ·have o:wrap64 ((k:Int)+(-1))=(k:Int)+(-1):=IntWalk.wrap64_in _ aq
   go_wp2;go_roundg (gk-1)
   ·exact⟨_,rfl,aq,aq,aq,b⟩
   omega
  ·go_wp2
   go_ret;exact⟨_,rfl,aq,aq,b.o⟩
theorem xy(a b:Int)(w:World)(k:Wf .i32 a)(c:Wf .i32 b):Calls prog 107 #[.int .i32 a, .int .i32 b] w (PB w):=by
 have i:=sH k;have f:=sH c;go_enter func107,ntmps107;go_wp2_with fail;refine(nr a w i.o).mono ?_;rintro e g ⟨x,rfl,l⟩;have d:=sH l;go_wp2_with fail;refine(nr b g f.o).mono ?_;rintro e m ⟨y,rfl,j⟩;have h:=d.t j;go_wp2_with fail
 all_goals
  go_ret;exact⟨_,rfl,h.o⟩
def PJn(w:World)(e:Ending)(c:World):Prop:=∃(a b:Bool),e= .returned (.tuple #[.bool a, .bool b])/\aA w c
def joT(d:Option Tmp):Option (Value->Prop):=if d=some 41 then some SB else if d=some 54 then some SB else none
theorem Th(A:aC)(n c:Nat)(ts:aE)(i:Nat)(w:World)(h:aL .i32 w A n c ts)(K:n<=10000)(s:i<n):Calls prog 50 #[.slice A n c,ae aj (i:Int)] w (PJn w):=by
 have R:=sH h;have i0:decide ((i:Int)<0)=false:=ij;have i1:decide ((n:Int)<=(i:Int))=false:=ij;have i2:=aR i n;have i3:decide (n<=i)=false:=ij;obtain⟨I,z,rfl,W,P⟩:=R.o.iw.get s;have p:=sH W;go_enter func50,ntmps50;go_wp2_with fail;refine(nr z w p.o).mono ?_;rintro e Z ⟨q,rfl,b2⟩;have B:=sH b2;cases hq:(q==5);rotate_left
 ·go_wp2
  go_ret2;exact⟨_,_,rfl,B.o⟩
 have M:=sH (R.o.ar B.o);go_wp2_with fail;refine(AW (some I) n c ts i (-1) Z M.o K s (.inr rfl)).mono ?_;rintro e T ⟨a,rfl,X,Y,L⟩;have S:=B.t L;have N:=sH (M.o.ar L);go_wp2_with fail;refine(AW (some I) n c ts i 1 T N.o K s (.inl rfl)).mono ?_;rintro e w4 ⟨b,rfl,V,fK,J⟩;have u:=S.t J;have t:=sH (N.o.ar J);obtain⟨m,v,d,C,P⟩:=t.o.iw.get s;injection d with d
 subst d;have p:=sH C;have L0:=aw P;go_wp2_with fail;by_cases ha:0<=a
 ·obtain⟨x,rfl⟩:∃k:Nat,a=k:=⟨a.toNat,aq⟩
  obtain⟨m,Q,d,D,r⟩:=t.o.iw.get (show x<n by omega);injection d with d
  subst d;have O:=sH D;have L1:=aw r;have x4:=aR x n;by_cases hb:0<=b
  ·obtain⟨y,rfl⟩:∃k:Nat,b=k:=⟨b.toNat,aq⟩
   obtain⟨m,E,d,j,r⟩:=t.o.iw.get (show y<n by omega);injection d with d
   subst d;have F:=sH j;have L2:=aw r;have U:=aR y n;refine aG joT aF aF ?_;refine mSk ?_;refine lsA SB (fun f=> ?_) (fun G g=> ?_)
   ·go_simp
    exact bj (xy Q v f.1 O.o p.o)
   obtain⟨b,rfl⟩:=g;simp[Act.put];refine mSk ?_;refine lsA SB (fun f=> ?_) (fun G g=> ?_)
   ·go_simp
    exact bj (xy v E f.1 p.o F.o)
   obtain⟨b,rfl⟩:=g;simp[Act.put];refine mSk ?_;intro f;obtain⟨H,l⟩:=f
   try dsimp only
   have o:=u.t l;go_wp2;go_ret2;exact⟨_,_,rfl,o.o⟩
  ·refine aG joT aF aF ?_
   refine mSk ?_;refine lsA SB (fun f=> ?_) (fun G g=> ?_)
   ·go_simp
    exact bj (xy Q v f.1 O.o p.o)
   obtain⟨b,rfl⟩:=g;simp[Act.put];refine mSk ?_;intro f;obtain⟨H,l⟩:=f
   try dsimp only
   have o:=u.t l;go_wp2;go_ret2;exact⟨_,_,rfl,o.o⟩
 ·by_cases hb:0<=b
  ·obtain⟨y,rfl⟩:∃k:Nat,b=k:=⟨b.toNat,aq⟩
   obtain⟨m,E,d,j,r⟩:=t.o.iw.get (show y<n by omega);injection d with d
   subst d;have F:=sH j;have L2:=aw r;have U:=aR y n;refine aG joT aF aF ?_;refine mSk ?_;refine lsA SB (fun f=> ?_) (fun G g=> ?_)
   ·go_simp
    exact bj (xy v E f.1 p.o F.o)
   obtain⟨b,rfl⟩:=g;simp[Act.put];refine mSk ?_;intro f;obtain⟨H,l⟩:=f
   try dsimp only
   have o:=u.t l;go_wp2;go_ret2;exact⟨_,_,rfl,o.o⟩
  ·refine aG joT aF aF ?_
   refine mSk ?_;intro f;obtain⟨H,l⟩:=f
   try dsimp only
   have o:=u.t l;go_wp2;go_ret2;exact⟨_,_,rfl,o.o⟩
theorem Oz(s:G:=by
 go_wp2
 go_roundg (n-i)
 ·exact⟨i+1,aq,aq,aQ,⟨O5.o _⟩,⟨B5.o _⟩⟩
 omega):G:=s
theorem Tp(A:aC)(n c:Nat)(ts:aE)(w:World)(h:aL .i32 w A n c ts)(M:n<=10000):Calls prog 21 #[.slice A n c] w (Nw w 3 .i64 aN n):=by
 have R:=sH h;clear h;have O:ak ((prog.info? 3).map (·.zero)=some (some (ae aj 0))):=⟨aF⟩;go_enter func21,ntmps21;go_wp2_with (refine dY (p:=aN) nA O.o trivial rfl (.tmp 9) (.tmp 9) rfl n rfl rfl rfl rfl aq w.heap.size cr ?_;intro g T o1 x;have D:=sH o1;have u:=sH x;clear o1 x);go_loopg [4,5,6,7] (n+1) (fun gg v4 _ _ _ wr=>∃(i:Nat),n-i<gg/\i<=n/\v4=ae aj (i:Int)/\ak (Ow wr w.heap.size 3 .i64 aN (some ⟨g,0,none⟩) n n)/\ak (aA w wr))
 ·exact⟨0,aq,aq,rfl,D,u⟩
 clear D u;obtain⟨i,Q,U,rfl,r,l⟩:=hrel;by_cases d:i<n;rotate_left
 ·have I:=cF i n
  go_wp2;go_ret;exact⟨_,_,rfl,r.o,l.o⟩
 have I:=aR i n;obtain⟨J,z,rfl,y,L⟩:=(R.o.ar l.o).iw.get d;have K:=sH y;clear y;go_wp2_with fail;refine(nr z wr K.o).mono ?_;rintro e B ⟨q,rfl,m⟩;have k:=l.t m;have o:=sH (r.o.ar m);clear m L r l;go_upto_region 6 with fail;go_cut [31] (fun v N=>(∃b:Bool,v= .bool b)/\B=N)
 case first=>
  cases V:(q !=1)
  ·go_wp2
   go_meet;exact⟨⟨_,rfl⟩,rfl⟩
  ·cases S:(q !=2)
   ·go_wp2
    go_meet;exact⟨⟨_,rfl⟩,rfl⟩
   ·go_wp2
    go_meet;exact⟨⟨_,rfl⟩,rfl⟩
 case rest=>
 obtain⟨⟨b,rfl⟩,rfl⟩:=hcut;cases b;rotate_left
 ·go_wp2
  go_roundg (n-i)
  ·exact⟨i+1,aq,aq,aQ,o,k⟩
  omega
 have H:=sH (R.o.ar k.o);go_wp2_with fail;refine(Th (some J) n c ts i B H.o M d).mono ?_;rintro e s ⟨a,b,rfl,t⟩;have C:=k.t t;have f:=sH (o.o.ar t);clear t H k o;obtain⟨P,_,G⟩:=f.o.get d;have f0:=f.o.fz i;have j:ak (Ow (s.setCell ⟨g,i,none⟩ (ae aj 1)) w.heap.size 3 .i64 aN (some ⟨g,0,none⟩) n n):=⟨f.o.set i trivial⟩;have E:ak (aA w (s.setCell ⟨g,i,none⟩ (ae aj 1))):=⟨Below.setCell C.o (p:=⟨g,i,none⟩) f.o.lt.1 _⟩;go_upto_region 9 with fail;clear G f0 f C;generalize s.setCell ⟨g,i,none⟩ (ae aj 1)=F at*;obtain⟨P,_,G⟩:=j.o.get d;have f0:=j.o.fz i;have O5:ak (∀v,Ow (F.setCell ⟨g,i,none⟩ (ae aj v)) w.heap.size 3 .i64 aN (some ⟨g,0,none⟩) n n):=⟨fun v=>j.o.set i trivial⟩;have B5:ak (∀v,aA w (F.setCell ⟨g,i,none⟩ (ae aj v))):=⟨fun v=>Below.setCell E.o (p:=⟨g,i,none⟩) j.o.lt.1 _⟩;cases a<;>cases b
 ·go_wp2
  go_roundg (n-i)
  ·exact⟨i+1,aq,aq,aQ,j,E⟩
  omega
 ·exact Oz
 ·exact Oz
 ·exact Oz
def PcI(B:Nat)(w:World)(x:eE):Prop:=(∀g∈x.q.gs,g.length=10)/\aB w B 108 10 x.G x.q.gs.length x.gc (x.q.gs.flatMap dZ)/\Ow w B 3 .i64 aN x.P x.pn x.pc
theorem gU(B:Nat):Kpt 63 (PcI B):=⟨fun w d r h a=>⟨h.1,aB.ar h.2.1 a,h.2.2.ar a⟩,fun w d r B g A n c vs h k b=>⟨h.1,aB.kept h.2.1 b (bZ h.2.1 k bQ) (aB.dN k),h.2.2.kept b (by obtain⟨xs,e,f⟩:=h.2.2;exact bZ e k (by decide)) (aB.dN k)⟩⟩
abbrev PcO(w:World)(B:Nat)(xs:List eE)(A:aC)(n c:Nat):Prop:=Gn w B 63 9 eE.F (PcI B) xs A n c
theorem aai{w:World}{B c k:Nat}{e:TypeId}{A:aC}{gs:List aE}(s:0<k)(o:gs.length=n)(b:∀g∈gs,g.length=k)(h:aB w B e k A n c (gs.flatMap dZ)):Rx w w.heap.size k gs A n:=by
 refine⟨o,b,fun m=> ?_⟩;obtain⟨g,rfl,_,l⟩:=aB.form h m;refine⟨_,rfl,l,fun j r a q x d=> ?_⟩;have p:=(List.getElem?_eq_some_iff.1 a).1;have f:=(List.getElem?_eq_some_iff.1 d).1;rw[b r (List.mem_of_getElem? a)]at f;have i:j*k+q<n*k:=by
  have:=Nat.mul_le_mul_right k (show j+1<=n by omega);rw[Nat.add_mul]at this;omega
 rw[bm,bB,aB.cellAt h _ i,wE gs b j q _ a f,d];rfl
theorem PcO.rd{w:World}{B c:Nat}{xs:List eE}{A:aC}(h:PcO w B xs A n c):qO w w.heap.size xs 0 n A:=⟨Hk,fun j p=>by
 have o:=h.len;obtain⟨g,k,_,a⟩:=aB.form h.own aq;subst k;rw[Nat.zero_add];have l:=ng (xs:=xs) (i:=j) aq;have d:=h.each _ l;refine⟨_,rfl,a,fun q u b=> ?_,aai aq rfl d.1 d.2.1⟩;have m:q<9:=by have:=(List.getElem?_eq_some_iff.1 b).1;simpa[eE.F]using this
 have e:j*9+q<n*9:=by omega
 have f:xs[j]? =some (oO xs j):=by rw[pZ aq];exact List.getElem?_eq_getElem aq
 rw[bm,bB,aB.cellAt h.own _ e,kf eE.F (fun _=>rfl) xs j q _ f m,b]⟩
structure ky(n rm:Nat)(xs:List eE):Prop where
 run:∀x∈xs,x.q.run<rm
 ne:∀x∈xs,x.q.f<x.q.t/\x.q.t<=n
 gl:∀x∈xs,x.q.gs.length<=x.gc/\x.q.gs.length<=20000/\∀g∈x.q.gs,kC x.q.f x.q.t g
 up:xs.Pairwise fun x y=>x.q.t<=y.q.f
theorem ky.nil(n a:Nat):ky n a []:=⟨aD,aD,aD, .nil⟩
theorem ky.more{b:Nat}{xs:List eE}{y:eE}(h:ky n b xs)(f:y.q.run<b)(i:y.q.f<y.q.t/\y.q.t<=n)(e:y.q.gs.length<=y.gc/\y.q.gs.length<=20000/\∀g∈y.q.gs,kC y.q.f y.q.t g)(d:∀x∈xs,x.q.t<=y.q.f):ky n b (xs++[y]):=by
 refine⟨fun x a=> ?_,fun x a=> ?_,fun x a=> ?_,List.pairwise_append.2 ⟨h.up,List.pairwise_singleton _ _,fun x a z c=>by obtain rfl:=List.mem_singleton.1 c;exact d x a⟩⟩
 all_goals rcases List.mem_append.1 a with a|a
 all_goals first
  |exact h.run x a
  |exact h.ne x a
  |exact h.gl x a
  |(obtain rfl:=List.mem_singleton.1 a;assumption)
theorem aep:aS prog 234 5 1 1:=bD underlying234 (z:= .int .u8 0) aF rfl aq aq
def byN(s:ByteArray):aE:=s.data.toList.map fun b=>(b.toNat:Int)
theorem aap(w:World)(e:TypeId)(s:ByteArray)(c:Nat)(g:s.size<=c)(a:c<=9223372036854775807):aL .u8 (Lib.bytesWorld w e s) (some ⟨w.heap.size,0,none⟩) s.size c (byN s):=by
 refine⟨⟨by unfold byN;rw[List.length_map];rfl,fun h=>⟨_,rfl,by rw[Lib.bytesWorld_size];exact Nat.lt_succ_self _,fun j f=> ?_⟩⟩,g,a,fun x d=> ?_⟩
 ·rw[bB,Lib.bytesWorld_cell w e s j f]
  unfold nth byN;have a:j<s.data.toList.length:=f;rw[List.getD_eq_getElem?_getD,List.getD_eq_getElem?_getD,List.getElem?_map,List.getElem?_eq_getElem a];rfl
 ·unfold byN at d
  obtain⟨b,_,rfl⟩:=List.mem_map.1 d;have:=b.toNat_lt;simp[Lit.wf,IntKind.min,IntKind.max,IntKind.signed,IntKind.bits];omega
def PBw(w:World)(e:Ending)(a:World):Prop:=∃k:Bool,e= .returned (.bool k)/\w=a
def PLo(w:World)(e:Ending)(a:World):Prop:=∃k:Nat,k<=4/\e= .returned (ae aj (k:Int))/\w=a
def PSa(w:World)(n pos:Nat)(e:Ending)(a:World):Prop:=∃(k:Nat) (b:Bool),e= .returned (.tuple #[ae aj (k:Int), .bool b])/\1<=k/\pos+k<=n/\k<=4/\w=a
def abI(w:World)(e:Ending)(a:World):Prop:=∃z:Int,Wf .i32 z/\e= .returned (.int .i32 z)/\w=a
theorem GG(c:Int)(w:World):Calls prog 245 #[ae aj c] w (PLo w):=by
 go_enter func245,ntmps245;go_wp2
 all_goals go_ret
 all_goals first|exact⟨0,aq,rfl,rfl⟩|exact⟨1,aq,rfl,rfl⟩|exact⟨2,aq,rfl,rfl⟩|exact⟨3,aq,rfl,rfl⟩|exact⟨4,aq,rfl,rfl⟩
theorem Ib(a b:Int)(w:World):Calls prog 284 #[ae aj a,ae aj b] w (PBw w):=by
 go_enter func284,ntmps284;go_wp2
 all_goals go_ret
 all_goals exact⟨_,rfl,rfl⟩
theorem Pq(s:G:=by
 go_wp2
 go_meet;exact⟨⟨_,rfl⟩,rfl⟩):G:=s
theorem Jc(A:aC)(n c:Nat)(l:aE)(pos:Nat)(w:World)(h:aL .u8 w A n c l)(o:pos<n)(V:n<=100000):Calls prog 244 #[.slice A n c,ae aj (pos:Int)] w (PSa w n pos):=by
 have u:=sH h;obtain⟨S,rfl,y,i⟩:=h.at_.2 aq;have a:=i pos o;have x:=sH i;obtain⟨T,f⟩:=eY (nth l pos);obtain⟨F,g2⟩:=bounds_u8 (u.o.dF o);rw[f]at a F g2;have q:=sH f;go_enter func244,ntmps244;go_wp2_with fail;refine(GG _ _).mono ?_;rintro e C ⟨N,X,rfl,rfl⟩;by_cases W:N=0
 ·have m:((N:Int)==0)=true:=by simp;omega
  go_wp2;go_ret2;exact⟨1,false,rfl,aq,aq,aq,rfl⟩
 have m:((N:Int)==0)=false:=pM;go_wp2;go_loopg [7] 6 (fun g v wr=>∃k:Nat,1<=k/\k<=4/\pos+k<=n/\5<k+g/\v=ae aj k/\wr=w)
 ·exact⟨1,aq,aq,aq,aq,rfl,rfl⟩
 obtain⟨k,L,P,D,B,rfl,rfl⟩:=hrel;by_cases r:k<N/\pos+k<n
 ·obtain⟨I,d⟩:=r
  have z:=x.o (pos+k) d;have a:=x.o pos o;rw[q.o]at a;obtain⟨J,O⟩:=bounds_u8 (u.o.dF d);obtain⟨t,j⟩:=eY (nth l (pos+k));rw[j]at z J O;have R:(pos:Int)+(k:Int)<(n:Int):=aq;have Q:=aR k N;go_upto_region 7 with fail;go_cut [54] (fun v H=>(∃b:Bool,v= .bool b)/\H=wr)
  ·
   by_cases s:k=1
   ·subst s
    go_wp2_with fail;refine(Ib _ _ _).mono ?_;rintro e C ⟨M,rfl,rfl⟩;cases M
    ·exact Pq
    ·by_cases G:t<128
     ·exact Pq
     ·exact Pq
   ·have E:((k:Int)==1)=false:=pM
    by_cases G:t<128
    ·exact Pq
    ·exact Pq
  obtain⟨⟨b,rfl⟩,rfl⟩:=hcut;cases b
  ·go_wp2
   go_roundg (gk-1)
   ·exact⟨k+1,aq,aq,aq,aq,aQ,rfl⟩
   omega
  ·go_wp2
   go_ret2;exact⟨k,_,rfl,aq,aq,aq,rfl⟩
 ·have p:N<=k∨(k<N/\n<=pos+k):=by omega
  rcases p with s|⟨s,U⟩
  ·have K:decide (k<N)=false:=fC
   go_wp2;go_ret2;exact⟨k,_,rfl,aq,aq,aq,rfl⟩
  ·have K:decide ((pos:Int)+(k:Int)<(n:Int))=false:=fC
   go_wp2;go_ret2;exact⟨k,_,rfl,aq,aq,aq,rfl⟩
theorem Sd(A:aC)(n c:Nat)(d:aE)(w:World)(h:aL .u8 w A n c d)(F:1<=n)(D:n<=4):Calls prog 246 #[.slice A n c] w (abI w):=by
 have f:=sH h;obtain⟨m,rfl,i,b⟩:=h.at_.2 aq;have e:w.cell? m=some (.int .u8 (nth d 0)):=by have:=b 0 (by omega);simpa[Addr.add]using this
 have s:=sH b;obtain⟨r,g2⟩:=bounds_u8 (f.o.dF (show 0<n by omega));generalize nth d 0=B at e r g2;cases o:((n:Int)==2)<;>cases l:((n:Int)==3)<;>cases q:((n:Int)==4)
 all_goals first
  |(exfalso;simp at o l q;omega)
  |skip
 all_goals
  go_enter func246,ntmps246;go_wp2;go_loopg [3,4] 6 (fun g v u wr=>∃(k:Nat) (x:Int),1<=k/\k<=n/\5<k+g/\u=ae aj (k:Int)/\v=ae aj x/\wr=w)
  ·exact⟨1,_,aq,aq,aq,rfl,rfl,rfl⟩
  obtain⟨k,x,C,p,z,rfl,rfl,rfl⟩:=hrel;by_cases a:k<n
  ·have j:=aR k n
   have t:=s.o k a;obtain⟨E,G⟩:=bounds_u8 (f.o.dF a);generalize nth d k=y at*;go_wp2;go_roundg (gk-1)
   ·exact⟨k+1,_,aq,aq,aq,aQ,rfl,rfl⟩
   omega
  ·have j:=cF k n
   go_wp2;go_ret;refine⟨_, ?_,rfl,rfl⟩;go_wf2
def PDe(w:World)(n:Nat)(e:Ending)(a:World):Prop:=∃(A:aC) (m c:Nat) (t x:Int),e= .returned (.tuple #[.slice A m c,ae aj t,ae aj x])/\m<=n/\Ow a w.heap.size 21 .i32 (Wf .i32) A m c/\aA w a
theorem I8(A:aC)(n c:Nat)(r:aE)(w:World)(h:aL .u8 w A n c r)(O:n<=100000):Calls prog 176 #[.slice A n c] w (PDe w n):=by
 have E:=sH h;go_enter func176,ntmps176;go_wp2;go_loopg [5,6] (n+1) (fun g u v wr=>∃(p m:Nat) (j:aC) (x:Nat),n-p<g/\p<=n/\m<=p/\u= .slice j m x/\v=ae aj (p:Int)/\ak (Ow wr w.heap.size 21 .i32 (Wf .i32) j m x)/\ak (aA w wr))
 ·exact⟨0,0,none,0,aq,aq,aq,rfl,rfl,⟨Ow.nil _ _ _ _ _⟩,cB⟩
 obtain⟨p,m,j,x,hg,S,M,rfl,rfl,F,a⟩:=hrel;have l:w.heap.size<=wr.heap.size:=a.o.size;by_cases t:p<n;rotate_left
 ·have H:=cF p n
  go_wp2;go_ret3;exact⟨_,_,_,_,_,rfl,aq,F.o,a.o⟩
 have H:=aR p n;have f:=sH (E.o.ar a.o);go_wp2_with fail;refine(Jc A n c r p wr f.o t O).mono ?_;rintro e R ⟨k,b,rfl,B,q,s,rfl⟩;cases b
 ·obtain⟨X,rfl,G,o⟩:=f.o.at_.2 aq
  have U:=o p t;obtain⟨z1,z2⟩:=bounds_u8 (f.o.dF t);generalize nth r p=y at*;by_cases he:p+k=n
  ·have P:((p:Int)+(k:Int)==(n:Int))=true:=by simp;omega
   go_wp2_with fail;refine(GG _ _).mono ?_;rintro e Z ⟨N,Y,rfl,rfl⟩;by_cases hl:k<N
   ·go_wp2
    go_ret3;exact⟨none,0,0,_,_,rfl,aq,Ow.nil _ _ _ _ _,a.o⟩
   ·go_wp2
    go_ret3;exact⟨none,0,0,_,_,rfl,aq,Ow.nil _ _ _ _ _,a.o⟩
  ·have P:((p:Int)+(k:Int)==(n:Int))=false:=pM
   go_wp2;go_ret3;exact⟨none,0,0,_,_,rfl,aq,Ow.nil _ _ _ _ _,a.o⟩
 ·obtain⟨V,W,i⟩:=mQ aep A n c p (p+k) aq q E.o.le (p:Int) ((p:Int)+(k:Int)) rfl aq
  have d:=i.run;rw[show p+k-p=k by omega]at i d;have I:=sH (i.jv f.o);go_wp2_with fail;refine(Sd V k W _ wr I.o B s).mono ?_;rintro e R ⟨z,Q,rfl,rfl⟩;have K:=sH Q;go_wp2_with (at_builtin;refine bS UR rfl (.tmp 39) (.tmp 47) rfl rfl (F.o.alloc _) rfl (aX _ _ _) K.o aq cA ?_;intro L c4 w4 D C;have J:=sH D;have T:=sH ((a.o.alloc l _).trans C);clear D C);go_roundg (n-p)
  ·exact⟨p+k,m+1,L,c4,aq,aq,aq,rfl,aQ,J,T⟩
  omega
theorem Oj(r:Int)(w:World):Calls prog 177 #[.int .i32 r] w (PBw w):=by
 go_enter func177,ntmps177;go_wp2
 all_goals go_ret
 all_goals exact⟨_,rfl,rfl⟩
theorem aah(A:aC)(n c:Nat)(w:World)(h:Iw w w.heap.size .i32 (Wf .i32) A n)(r:n<=100000):Calls prog 178 #[.slice A n c] w (PBw w):=by
 have e:=sH h;go_enter func178,ntmps178;go_wp2;go_loopg [3,4] (n+1) (fun g v u wr=>∃k x:Nat,k<=n/\x<=k/\n-k<g/\u=ae aj (k:Int)/\v=ae aj (x:Int)/\wr=w)
 ·exact⟨0,0,aq,aq,aq,rfl,rfl,rfl⟩
 obtain⟨k,x,p,o,m,rfl,rfl,rfl⟩:=hrel;by_cases a:k<n
 ·have d:=aR k n
  obtain⟨l,z,rfl,_,q⟩:=e.o.get a;cases j:(z !=46)
  ·by_cases i:0<k
   ·by_cases f:k+1<n
    ·have b:(k:Int)<(n:Int)-1:=by omega
     go_wp2;go_ret;exact⟨_,rfl,rfl⟩
    ·have b:decide ((k:Int)<(n:Int)-1)=false:=fC
     go_wp2;go_roundg (n-k)
     ·exact⟨k+1,x,aq,aq,aq,aQ,rfl,rfl⟩
     omega
   ·have b:decide (0<k)=false:=fC
    go_wp2;go_roundg (n-k)
    ·exact⟨k+1,x,aq,aq,aq,aQ,rfl,rfl⟩
    omega
  ·go_wp2
   go_roundg (n-k)
   ·exact⟨k+1,x+1,aq,aq,aq,aQ,aQ,rfl⟩
   omega
 ·have d:=cF k n
  by_cases i:1<=x
  ·go_wp2
   go_ret;exact⟨_,rfl,rfl⟩
  ·have f:decide (1<=x)=false:=fC
   go_wp2;go_ret;exact⟨_,rfl,rfl⟩
def Vp(w:World)(B N:Nat)(A:aC)(n c:Nat)(C:aC)(m d:Nat):Prop:=n<=N/\m=n+1/\Ow w B 21 .i32 (Wf .i32) A n c/\Ow w B 3 .i64 aN C m d
def PPa(w:World)(N:Nat)(e:Ending)(a:World):Prop:=∃(A C:aC) (n c m d:Nat) (b:Bool),e= .returned (.tuple #[.slice A n c, .slice C m d, .bool b])/\(b=true->Vp a w.heap.size N A n c C m d)/\aA w a
theorem wf_i32(r:Int)(h:Wf .i32 r): -2147483648<=r/\r<=2147483647:=bounds_i32 h
theorem aaS(s:G:=by
 go_wp2
 go_ret3;exact⟨none,none,0,0,0,0,false,rfl,aD,BG.o⟩):G:=s
theorem acL(s:G:=by
 go_wp2
 go_roundg (n-k)
 ·exact⟨k+1,m,A,C,c,d,_,true,_,aq,aq,aq,rfl,rfl,rfl,rfl,rfl,aQ,OA,OC,BE⟩
 omega):G:=s
theorem zF(s:ByteArray)(hs:s.size<=10000)(w:World):Calls prog 108 #[.string s] w (PPa w s.size):=by
 have kc:ak (∀(w:World),(convert 9 234 (.string s)).run prog w= .ok (.slice (some ⟨w.heap.size,0,none⟩) s.size (grownCap w s.size 0 5)) (Lib.bytesWorld w 5 s)):=⟨fun w=>Lib.run_convert_string_bytes w _ _ _ s underlying9 underlying234 underlying5⟩;have N:=kc.o w;have i:=Lib.bytesWorld_below w 5 s;have q:=I8 (some ⟨w.heap.size,0,none⟩) s.size (grownCap w s.size 0 5) (byN s) (Lib.bytesWorld w 5 s) (aap w 5 s _ (grownCap_ge _ _ _ _) (Nat.le_trans (grownCap_le_maxLen _ _ _ _ pN) pN)) aq;generalize grownCap w s.size 0 5=cc at N q;generalize Fo:Lib.bytesWorld w 5 s=w0 at N q i;have q:=sH q;have BB:=sH i;go_enter func108,ntmps108;go_wp2_with fail;refine q.o.mono ?_;rintro e u ⟨A0,n,c0,t0,X,rfl,hn,Z,o⟩;have b:=BB.t o;have T:=sH Z.iw;cases hx:(X !=0);rotate_left
 ·go_wp2
  go_ret3;exact⟨none,none,0,0,0,0,false,rfl,aD,b.o⟩
 go_wp2;go_loopg [8,9,10,11,12,13] (n+1) (fun g U v9 v10 E H v wr=>∃(k m:Nat) (A C:aC) (c d:Nat) (x:Int) (o r:Bool),n-k<g/\k<=n/\m<=k/\U= .slice A m c/\v9= .slice C m d/\v10=ae aj x/\E= .bool o/\H= .bool r/\v=ae aj (k:Int)/\ak (Ow wr u.heap.size 21 .i32 (Wf .i32) A m c)/\ak (Ow wr u.heap.size 3 .i64 aN C m d)/\ak (aA u wr))
 ·exact⟨0,0,none,none,0,0,0,false,false,aq,aq,aq,rfl,rfl,rfl,rfl,rfl,rfl,⟨Ow.nil _ _ _ _ _⟩,⟨Ow.nil _ _ _ _ _⟩,cB⟩
 obtain⟨k,m,A,C,c,d,x,o,r,hg,hk,V,rfl,rfl,rfl,rfl,rfl,rfl,OA,OC,BE⟩:=hrel;have BG:=b.t BE.o;have l:u.heap.size<=wr.heap.size:=BE.o.size;have a:(21:TypeId)≠3:=bQ;by_cases F:k<n
 ·have W:=aR k n
  obtain⟨ad,z,rfl,P,e0⟩:=(T.o.Z BE.o BE.o.size).get F;obtain⟨z1,z2⟩:=wf_i32 z P;have Y:=sH P;go_wp2_with fail;refine(Oj _ _).mono ?_;rintro e w2 ⟨B,rfl,rfl⟩;cases B
  ·go_wp2_with (first
    |(at_builtin;refine dE UR rfl (.tmp 46) (.tmp 51) rfl rfl (OA.o.alloc _) rfl (aX _ _ _) Y.o aq cA ?_;intro A4 c4 w4 O L Q;have K:=sH O;have I:=sH ((OC.o.alloc (.cells #[.int .i32 z] 21)).kept Q (by(obtain⟨xs,j,M⟩:=OC.o;obtain⟨S,t,q4⟩:=OA.o;exact bZ j t (Ne.symm a))) OA.o.head);have R:=sH ((BE.o.alloc l _).trans L);have J:=R.o.size;clear O L Q)
    |(at_builtin;refine dE nA rfl (.tmp 53) (.tmp 55) rfl rfl (I.o.alloc _) rfl (aX _ _ _) trivial aq cA ?_;intro A5 c5 w5 f p h;have y:=sH f;have G:=sH ((K.o.alloc (.cells #[ae aj x] 3)).kept h (by(obtain⟨xs,j,M⟩:=I.o;obtain⟨S,t,q4⟩:=K.o;exact bZ t j a)) I.o.head);have D:=sH ((R.o.alloc J _).trans p);clear f p h))
   go_roundg (n-k)
   ·exact⟨k+1,m+1,_,_,_,_,0,false,r,aq,aq,aq,rfl,rfl,rfl,rfl,rfl,aQ,G,y,D⟩
   omega
  ·cases o
   ·cases r
    ·exact acL
    ·exact acL
   ·exact aaS
 ·have W:=cF k n
  cases r
  ·exact aaS
  go_wp2_with fail;refine(aah A m c _ OA.o.iw aq).mono ?_;rintro e w2 ⟨B,rfl,rfl⟩;cases B
  ·exact aaS
  go_wp2_with (at_builtin;refine dE nA rfl (.tmp 64) (.tmp 66) rfl rfl (OC.o.alloc _) rfl (aX _ _ _) trivial aq cA ?_;intro A5 c5 w5 f p h;have y:=sH f;have G:=sH ((OA.o.alloc (.cells #[ae aj x] 3)).kept h (by(obtain⟨xs,j,M⟩:=OC.o;obtain⟨S,t,q4⟩:=OA.o;exact bZ t j a)) OC.o.head);have D:=sH ((BE.o.alloc l _).trans p);clear f p h);go_ret3;exact⟨A,_,m,c,_,_,_,rfl,fun _=>⟨aq,rfl,G.o.cN b.o.size,y.o.cN b.o.size⟩,b.o.trans (D.o.mono b.o.size)⟩
end Go.Proofs.YtpidckelbgbbkaaGreatDoor
