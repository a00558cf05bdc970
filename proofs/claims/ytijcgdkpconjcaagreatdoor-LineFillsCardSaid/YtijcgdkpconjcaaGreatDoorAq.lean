/- Part of LineFills. -/
import Derived.Test.YtijcgdkpconjcaaGreatDoorAj
import Derived.Test.YtijcgdkpconjcaaGreatDoorAp
import Derived.Lib.ConvBytes
import Derived.Lib.AtoiErrMem
namespace Go.Proofs.YtijcgdkpconjcaaGreatDoor
open Go.ChangeShapes Go.WideShapes Go.ChangeAt Go.RowKit Go.Proofs.Tryz
open Go renaming World->EE,Value->EN,Calls->GK,TypeId->IQ,Ending->IS
open Go.RowKit renaming Below->EI,wrap64->IK
open Option renaming some->OH,none->OJ
open Bool renaming true->OX,false->OZ
open Go.Value renaming slice->Pl,bool->PF,pointer->PK,tuple->P8
open Go.Ending renaming returned->RE
open Go.Obj renaming cells->RM
open Go.Value renaming int->ae
open Go.IntKind renaming i64->aj
set_option linter.all false
set_option maxRecDepth 100000
set_option maxHeartbeats 16000000
variable{G:Prop}{w w0:EE}{c m n:Nat}{lv x y:Int}{A:aB}
def PWn(w:EE)(m:Nat)(e:IS)(a:EE):Prop:=∃(A:aB) (k c:Nat),k<=m/\e=RE (Pl A k c)/\Ow a w.heap.size 3 .i64 aK A k c/\az w a
def Qb(C:aB)(m d:Nat)(a b:Int)(w:EE)(h:Iw w w.heap.size .i64 aK C m)(B:m<=100000):GK prog 22 #[Pl C m d,ae aj a,ae aj b] w (PWn w m):=by
 have R:=sH h;go_enter func22,ntmps22;go_wp2;go_loopg[7,8](m+1)(λgg v7 q wr=>∃(i k:Nat) (D:aB) (e:Nat),m-i<gg/\i<=m/\k<=i/\v7=Pl D k e/\q=ae aj (i:Int)/\ak (Ow wr w.heap.size 3 .i64 aK D k e)/\ak (az w wr))
 .exact⟨0,0,OJ,0,aq,aq,aq,rfl,rfl,⟨Ow.nil _ _ _ _ _⟩,cJ⟩
 obtain⟨i,k,D,e,x,hi,y,rfl,rfl,O,c⟩:=hrel;by_cases f:i<m;rotate_left
 .have p:=cI i m
  go_wp2;go_ret;exact⟨_,_,_,aq,rfl,O.o,c.o⟩
 have p:=aU i m;obtain⟨v,z,rfl,_,t⟩:=(R.o.Z c.o c.o.size).get f;have s:=c.o.size;by_cases u:a<z;rotate_left
 .go_wp2
  go_roundg(m-i)
  .exact⟨i+1,k,D,e,aq,aq,aq,rfl,aV,O,c⟩
  omega
 by_cases A:z<b;rotate_left
 .go_wp2
  go_roundg(m-i)
  .exact⟨i+1,k,D,e,aq,aq,aq,rfl,aV,O,c⟩
  omega
 go_wp2_with (at_builtin;refine bW l5 rfl (.tmp 29) (.tmp 34) rfl rfl (O.o.alloc _) rfl (bk _ _ _) trivial aq br ?_;intro o c8 l j g;have n:=sH j;have r:ak (az w l):=⟨(c.o.alloc aq _).trans g⟩;clear j g);go_roundg(m-i)
 .exact⟨i+1,k+1,o,c8,aq,aq,aq,rfl,aV,n,r⟩
 omega
def okR(r:Int):Bool:=(decide (0<=r)&&decide (r<55296))||(decide (57343<r)&&decide (r<=1114111))
def aaP(r:Int)(w:EE):GK prog 62 #[.int .i32 r] w (λe d=>e=RE (PF (okR r))/\w=d):=by
 have h:(0<=r/\r<55296)∨(r<0/\¬57343<r)∨(55296<=r/\0<=r/\¬57343<r)∨(57343<r/\0<=r/\55296<=r):=aq;rcases h with⟨a,b⟩|⟨a,b⟩|⟨a,b,c⟩|⟨a,b,c⟩
 all_goals
  go_enter func62,ntmps62;go_wp2;go_ret;refine⟨mr ?_,rfl⟩;rw[Bool.eq_iff_iff];simp[okR];omega
def Fp(ts:aC)(n:Nat):Prop:=∀i,i<n->okR (nth ts i)=OX
def PRg(w:EE)(ts:aC)(n:Nat)(e:IS)(a:EE):Prop:=∃z:Bool,e=RE (PF z)/\(z=OX↔Fp ts n)/\w=a
def Ca(A:aB)(n c:Nat)(ts:aC)(w:EE)(h:aJ .i32 w A n c ts)(r:n<=1000000000):GK prog 23 #[Pl A n c] w (PRg w ts n):=by
 have R:=sH h;go_enter func23,ntmps23;go_wp2;go_loopg[3](n+1)(λgg v3 wr=>∃(i:Nat),n-i<gg/\i<=n/\v3=ae aj (i:Int)/\wr=w/\ak (Fp ts i))
 .exact⟨0,aq,aq,rfl,rfl,⟨λk m=>by omega⟩⟩
 obtain⟨i,q,hi,rfl,rfl,f⟩:=hrel;by_cases a:i<n;rotate_left
 .have l:=cI i n
  obtain rfl:i=n:=aq;go_wp2;go_ret;exact⟨_,rfl,⟨λ_=>f.o,λ_=>rfl⟩,rfl⟩
 have l:=aU i n;obtain⟨p,rfl,o⟩:=R.o.iC a;go_wp2_with fail;refine(aaP (nth ts i) _).mono ?_;rintro e _ ⟨rfl,rfl⟩;cases b:okR (nth ts i)
 .have j:ak (¬Fp ts n):=⟨λh=>by rw[h i a]at b;cases b⟩
  go_wp2;go_ret;exact⟨_,rfl,⟨λh=>fD,λh=>absurd h j.o⟩,rfl⟩
 .have g:ak (Fp ts (i+1)):=⟨λk m=>by
   rcases Nat.lt_or_ge k i with d|d
   .exact f.o k d
   .obtain rfl:k=i:=by omega
    exact b⟩
  go_wp2;go_roundg(n-i)
  .exact⟨i+1,aq,aq,aV,rfl,g⟩
  omega
def nd(r:Int)(w:EE)(h:Wf .i32 r):GK prog 114 #[.int .i32 r] w (PI w):=by
 obtain⟨a,b⟩:=vo h;have c:=sH (dX r a b w);go_enter func114,ntmps114;go_wp2_with fail;refine c.o.mono ?_;rintro e f ⟨rfl,d⟩;generalize(aN r).xc=bd;go_wp2;go_ret;exact⟨_,rfl,d⟩
def J3(A:aB)(n c:Nat)(ts:aC)(w:EE)(h:aJ .i32 w A n c ts)(V:n<=10000):GK prog 52 #[Pl A n c] w (Nw w 3 .i64 aK n):=by
 have R:=sH h;clear h;go_enter func52,ntmps52;go_wp2;go_loopg[3,4,5](n+1)(λgg v3 v4 _ wr=>∃(i:Nat) (C:aB) (d:Nat),n-i<gg/\i<=n/\v3=Pl C i d/\v4=ae aj (i:Int)/\ak (Ow wr w.heap.size 3 .i64 aK C i d)/\ak (az w wr))
 .exact⟨0,OJ,0,aq,aq,rfl,rfl,⟨Ow.nil _ _ _ _ _⟩,cJ⟩
 obtain⟨i,C,d,T,hi,rfl,rfl,E,t⟩:=hrel;by_cases B:i<n;rotate_left
 .obtain rfl:i=n:=by omega
  go_wp2;go_ret;exact⟨_,_,rfl,E.o,t.o⟩
 have i4:=aU i n;obtain⟨Z,z,rfl,K,P⟩:=(R.o.ar t.o).iw.get B;have Q:=sH K;clear K;go_wp2_with fail;refine(nd z _ Q.o).mono ?_;rintro e W ⟨q,rfl,F⟩;have m:=t.t F;have x:=sH (E.o.ar F);clear F E t P;go_wp2_with fail;refine(yD q _).mono ?_;rintro e M ⟨⟨b,rfl⟩,rfl⟩;cases b
 .have l:=m.o.size
  go_wp2_with (at_builtin;refine bW l5 rfl (.tmp 37) (.tmp 39) rfl rfl ((x.o).alloc _) rfl (bk _ _ _) trivial aq br ?_;intro p c8 j f a;have o:=sH f;have k:ak (az w j):=⟨((m).o.alloc aq _).trans a⟩;clear f a);go_roundg(n-i)
  .exact⟨i+1,p,c8,aq,aq,rfl,aV,o,k⟩
  omega
 rcases i with _|i
 .have l:=m.o.size
  go_wp2_with (at_builtin;refine bW l5 rfl (.tmp 37) (.tmp 39) rfl rfl ((x.o).alloc _) rfl (bk _ _ _) trivial aq br ?_;intro p c8 j f a;have o:=sH f;have k:ak (az w j):=⟨((m).o.alloc aq _).trans a⟩;clear f a);go_roundg(n-0)
  .exact⟨0+1,p,c8,aq,aq,rfl,aV,o,k⟩
  omega
 obtain⟨S,O,G,r,N⟩:=(R.o.ar m.o).iw.get (show i<n by omega);injection G with G
 subst G;have J:=sH r;have wk:IK (i:Int)=(i:Int):=IntWalk.wrap64_in _ aq;have k0:=gT i;have k1:=aU i n;have Y:(0:Int)<(i:Int)+1:=aq;clear r;go_wp2_with fail;refine(nd O _ J.o).mono ?_;rintro e I ⟨U,rfl,D⟩;have y:=m.t D;have L:=sH (x.o.ar D);have H:=y.o.size;clear D x m N;go_wp2_with fail;go_at_call 116;refine(oR _ _ _ _ _ Yy cF).mono ?_;rintro e M ⟨⟨b,rfl⟩,rfl⟩;have v:ak (az w (I.alloc (RM #[ae aj 1,ae aj 2,ae aj 3,ae aj 4,ae aj 5] 3))):=⟨y.o.alloc H _⟩;have s:ak (Ow (I.alloc (RM #[ae aj 1,ae aj 2,ae aj 3,ae aj 4,ae aj 5] 3)) w.heap.size 3 .i64 aK C (i+1) d):=⟨L.o.alloc _⟩;clear L y;generalize I.alloc (RM #[ae aj 1,ae aj 2,ae aj 3,ae aj 4,ae aj 5] 3)=w4 at*;cases b
 .obtain⟨g,rfl,_,_⟩:=s.o.form aq
  obtain⟨u,_,u0⟩:=s.o.get (show i<i+1 by omega);have X:(i:Int)<(i:Int)+1:=aq;have l:=v.o.size;go_wp2_with (at_builtin;refine bW l5 rfl (.tmp 37) (.tmp 39) rfl rfl ((s.o).alloc _) rfl (bk _ _ _) trivial aq br ?_;intro p c8 j f a;have o:=sH f;have k:ak (az w j):=⟨((v).o.alloc aq _).trans a⟩;clear f a);go_roundg(n-(i+1))
  .exact⟨(i+1)+1,p,c8,aq,aq,rfl,aV,o,k⟩
  omega
 .have l:=v.o.size
  go_wp2_with (at_builtin;refine bW l5 rfl (.tmp 37) (.tmp 39) rfl rfl ((s.o).alloc _) rfl (bk _ _ _) trivial aq br ?_;intro p c8 j f a;have o:=sH f;have k:ak (az w j):=⟨((v).o.alloc aq _).trans a⟩;clear f a);go_roundg(n-(i+1))
  .exact⟨(i+1)+1,p,c8,aq,aq,rfl,aV,o,k⟩
  omega
def PRo(w:EE)(lo hi:Int)(e:IS)(a:EE):Prop:=∃z:Int,e=RE (ae aj z)/\lo<=z/\z<=hi/\az w a
def zZ(A:aB)(n c:Nat)(ts:aC)(i:Nat)(w:EE)(h:aJ .i32 w A n c ts)(v:n<=10000)(hi:i<=n):GK prog 189 #[Pl A n c,ae aj (i:Int)] w (PRo w (-1) (i-1)):=by
 have R:=sH h;go_enter func189,ntmps189;have u:IK ((i:Int)-1)=(i:Int)-1:=IntWalk.wrap64_in _ aq;go_wp2;go_loopg[1](i+2)(λgg g wr=>∃(x:Int),g=ae aj x/\-1<=x/\x<=(i:Int)-1/\(x+1).toNat<gg/\ak (az w wr))
 .exact⟨_,rfl,aq,aq,aq,cJ⟩
 obtain⟨x,rfl,d,f,s,a⟩:=hrel;by_cases t:0<=x;rotate_left
 .go_wp2
  go_ret;exact⟨_,rfl,d,f,a.o⟩
 obtain⟨k,rfl⟩:∃k:Nat,x=k:=⟨x.toNat,aq⟩;obtain⟨r,z,rfl,j,p⟩:=(R.o.ar a.o).iw.get (show k<n by omega);have l:=sH j;have k4:=aU k n;have o:IK ((k:Int)-1)=(k:Int)-1:=IntWalk.wrap64_in _ aq;go_wp2_with fail;refine(nd z _ l.o).mono ?_;rintro e y ⟨q,rfl,m⟩;have b:=a.t m;cases B:(q==4)
 .go_wp2
  go_ret;exact⟨_,rfl,d,f,b.o⟩
 .go_wp2
  go_roundg(gk-1)
  .exact⟨_,rfl,aq,aq,aq,b⟩
  omega
def abQ(A:aB)(n c:Nat)(ts:aC)(i:Nat)(w:EE)(h:aJ .i32 w A n c ts)(J:n<=10000)(hi:i<n):GK prog 190 #[Pl A n c,ae aj (i:Int)] w (PRo w 0 i):=by
 have R:=sH h;clear h;go_enter func190,ntmps190;go_wp2;go_loopg[1](i+1)(λgg x wr=>∃(k:Nat),x=ae aj (k:Int)/\k<=i/\k<gg/\ak (az w wr))
 .exact⟨i,rfl,aq,aq,cJ⟩
 obtain⟨k,rfl,F,G,j⟩:=hrel;rcases k with _|k
 .go_wp2
  go_ret;exact⟨_,rfl,aq,aq,j.o⟩
 obtain⟨p,z,rfl,o,g⟩:=(R.o.ar j.o).iw.get (show k+1<n by omega);have y:=sH o;have E:(0:Int)<(k:Int)+1:=aq;have k4:(k:Int)+1<(n:Int):=aq;have g:wr.cell? {block:=p.block,off:=p.off+(k+1)}=OH (.int .i32 z):=g;clear o;go_wp2_with fail;refine(nd z _ y.o).mono ?_;rintro e K ⟨q,rfl,t⟩;have d:=j.t t;clear t g;go_wp2_with fail;refine(yD q _).mono ?_;rintro e u ⟨⟨b,rfl⟩,rfl⟩;cases b
 .go_wp2
  go_ret;exact⟨_,rfl,aq,aq,d.o⟩
 obtain⟨C,v,f,a,B⟩:=(R.o.ar d.o).iw.get (show k<n by omega);injection f with f
 subst f;have m:=sH a;have wk:IK (k:Int)=(k:Int):=IntWalk.wrap64_in _ aq;have k0:=gT k;have I:=aU k n;clear a;go_wp2_with fail;refine(nd v _ m.o).mono ?_;rintro e D ⟨H,rfl,r⟩;have l:=d.t r;clear r B d;go_wp2_with fail;go_at_call 116;refine(oR _ _ _ _ _ Yy cF).mono ?_;rintro e u ⟨⟨b,rfl⟩,rfl⟩;have s:ak (az w (D.alloc (RM #[ae aj 1,ae aj 2,ae aj 3,ae aj 4,ae aj 5] 3))):=⟨l.o.alloc l.o.size _⟩;clear l;cases b
 .go_wp2
  go_roundg(gk-1)
  .exact⟨k,aV,aq,aq,s⟩
  omega
 .go_wp2
  go_ret;exact⟨_,rfl,aq,aq,s.o⟩
def Va(A C:aB)(n c d:Nat)(ts:aC)(i:Nat)(w:EE)(h:aJ .i32 w A n c ts)(k:Iw w w.heap.size .i64 aK C n)(G:n<=10000)(hi:i<=n):GK prog 122 #[Pl A n c,Pl C n d,ae aj (i:Int)] w (PI w):=by
 have⟨R,S⟩:=K' h k;clear h k;go_enter func122,ntmps122;have D:IK ((i:Int)-1)=(i:Int)-1:=IntWalk.wrap64_in _ aq;go_wp2;go_loopg[7,8](i+2)(λgg v7 p wr=>∃(x u:Int),v7=ae aj u/\p=ae aj x/\-1<=x/\x<=(i:Int)-1/\(x+1).toNat<gg/\ak (az w wr))
 .exact⟨_,_,rfl,rfl,aq,aq,aq,cJ⟩
 obtain⟨x,u,rfl,rfl,s,F,v,a⟩:=hrel;by_cases B:0<=x;rotate_left
 .go_wp2
  go_ret;exact⟨_,rfl,a.o⟩
 obtain⟨k,rfl⟩:∃k:Nat,x=k:=⟨x.toNat,aq⟩;obtain⟨t,z,rfl,f,j⟩:=(R.o.ar a.o).iw.get (show k<n by omega);obtain⟨o,y,rfl,_,m⟩:=(S.o.Z a.o a.o.size).get (show k<n by omega);have l:=sH f;have k4:=aU k n;have r:IK ((k:Int)-1)=(k:Int)-1:=IntWalk.wrap64_in _ aq;clear f;cases E:(y==29)
 .go_wp2
  go_ret;exact⟨_,rfl,a.o⟩
 go_wp2_with fail;refine(nd z _ l.o).mono ?_;rintro e H ⟨q,rfl,g⟩;have b:=a.t g;clear g j m;cases I:(q==29)
 .go_wp2
  go_roundg(gk-1)
  .exact⟨_,_,rfl,rfl,aq,aq,aq,b⟩
  omega
 .go_wp2
  generalize IK (u+1)=u2;go_roundg(gk-1)
  .exact⟨_,_,rfl,rfl,aq,aq,aq,b⟩
  omega
def PHd(w:EE)(e:IS)(a:EE):Prop:=∃(z:Int) (b:Bool),e=RE (P8 #[ae aj z,PF b])/\az w a
def hdT(d:Option Tmp):Option (EN->Prop):=if d=OH 14 then OH SI else if d=OH 19 then OH SI else OJ
def Y9(s:G:=by
 go_wp2
 go_ret2;exact⟨_,_,rfl,B6.o⟩):G:=s
def abi(A:aB)(n c:Nat)(ts:aC)(i:Nat)(w:EE)(h:aJ .i32 w A n c ts)(V:n<=10000)(hi:i+1<n):GK prog 117 #[Pl A n c,ae aj ((i:Int)+1)] w (PHd w):=by
 have R:=sH h;clear h;go_enter func117,ntmps117;have wk:IK (i:Int)=(i:Int):=IntWalk.wrap64_in _ aq;have k0:=gT i;have S:=aU i n;have W:(i:Int)+1<(n:Int):=aq;obtain⟨G,z,rfl,F,o⟩:=R.o.iw.get (show i<n by omega);obtain⟨y,E,d,j,p⟩:=R.o.iw.get (show i+1<n by omega);injection d with d
 subst d;have⟨M,B⟩:=K' F j;have p:w.cell? {block:=G.block,off:=G.off+(i+1)}=OH (.int .i32 E):=p;have⟨L0,L1⟩:=lc2 o p;clear F j o p;go_wp2;refine aE hdT aF aF ?_;refine mSk ?_;refine lsA SI (λl=> ?_) (λO f=> ?_)
 .go_simp
  exact fb (nd z l.1 M.o)
 obtain⟨a,rfl⟩:=f;simp[Act.put];refine mSk ?_;refine lsA SI (λl=> ?_) (λO f=> ?_)
 .go_simp
  exact fb (nd E l.1 B.o)
 obtain⟨b,rfl⟩:=f;simp[Act.put];refine mSk ?_;intro l;obtain⟨K,D⟩:=l
 try dsimp only
 have u:=sH D;clear D L0 L1 k0 S wk;go_wp2_with fail;go_at_call 116;refine(oR _ _ _ _ _ Yy cF).mono ?_;rintro e C ⟨⟨q,rfl⟩,rfl⟩;have m:ak (az w (K.alloc (RM #[ae aj 1,ae aj 3,ae aj 2] 3))):=⟨u.o.alloc u.o.size _⟩;generalize K.alloc (RM #[ae aj 1,ae aj 3,ae aj 2] 3)=L at*;clear u;cases q;rotate_left
 .go_wp2
  go_ret2;exact⟨_,_,rfl,m.o⟩
 go_wp2_with fail;go_at_call 116;refine(oR _ _ _ _ _ Yy cF).mono ?_;rintro e C ⟨⟨q,rfl⟩,rfl⟩;have t:ak (az w (L.alloc (RM #[ae aj 1,ae aj 2,ae aj 3,ae aj 4,ae aj 5] 3))):=⟨m.o.alloc m.o.size _⟩;generalize L.alloc (RM #[ae aj 1,ae aj 2,ae aj 3,ae aj 4,ae aj 5] 3)=U at*;clear m;cases q;rotate_left
 .go_wp2
  go_ret2;exact⟨_,_,rfl,t.o⟩
 have H:=sH (R.o.ar t.o);go_wp2_with fail;refine(zZ _ n c ts (i+1) U H.o V aq).mono ?_;rintro e w5 ⟨s,rfl,N,P,J⟩;have r:=t.t J;clear J t H;go_upto_region 7 with fail;go_cut[38](λv T=>(∃b:Bool,v=PF b)/\ak (az w T))
 case first=>
  by_cases Y:0<=s;rotate_left
  .go_wp2
   go_meet;exact⟨⟨_,rfl⟩,r⟩
  obtain⟨k,rfl⟩:∃k:Nat,s=k:=⟨s.toNat,aq⟩;obtain⟨y,Q,d,g,o⟩:=(R.o.ar r.o).iw.get (show k<n by omega);injection d with d
  subst d;have x:=sH g;have k4:=aU k n;clear g;go_wp2_with fail;refine(nd Q _ x.o).mono ?_;rintro e Z ⟨q,rfl,I⟩;have B6:=r.t I;clear I o;go_wp2;go_meet;exact⟨⟨_,rfl⟩,B6⟩
 case rest=>
 obtain⟨⟨q,rfl⟩,B6⟩:=hcut;clear r;cases q;rotate_left
 .exact Y9
 cases X:(a==9)
 .go_wp2_with fail
  refine(yD b _).mono ?_;rintro e C ⟨⟨q,rfl⟩,rfl⟩;cases q
  .exact Y9
  .exact Y9
 .exact Y9
def LR(s:G:=by
 go_wp2_with fail
 all_goals
  go_meet;exact⟨⟨_,rfl⟩,rfl⟩):G:=s
def LZ(s:G:=by
 go_wp2
 go_ret2;exact⟨_,_,rfl,B6.o⟩):G:=s
def YG(s:G:=by
 go_wp2
 go_ret2;exact⟨_,_,rfl,BE.o⟩):G:=s
def Vi(A C:aB)(n c d:Nat)(ts:aC)(i:Nat)(w:EE)(h:aJ .i32 w A n c ts)(k:Iw w w.heap.size .i64 aK C n)(O:n<=10000)(hi:i+1<n):GK prog 118 #[Pl A n c,Pl C n d,ae aj ((i:Int)+1)] w (PHd w):=by
 have⟨R,S⟩:=K' h k;go_enter func118,ntmps118;have wk:IK (i:Int)=(i:Int):=IntWalk.wrap64_in _ aq;have k0:(0:Int)<=(i:Int):=Int.natCast_nonneg i;have E:(i:Int)<(n:Int):=Jk;have k2:(i:Int)+1<(n:Int):=Jk;obtain⟨adc,a,rfl,_,l⟩:=S.o.get (show i<n by clear wk;omega);obtain⟨G,b,g,_,r⟩:=S.o.get (show i+1<n by clear wk;omega);injection g with g
 subst g;have r:w.cell? {block:=adc.block,off:=adc.off+(i+1)}=OH (ae aj b):=r;have⟨L0,L1⟩:=lc2 l r;go_wp2;refine aE (λ_=>OJ) aF aF ?_;refine mSk ?_;rintro Z ⟨⟨_,Q⟩,rfl⟩
 try dsimp only
 have BE:=sH Q;cases q1:(a==6);rotate_left
 .exact YG
 cases Y:(b==6);rotate_left
 .exact YG
 cases X:(a==7);rotate_left
 .exact YG
 go_upto_region 4 with fail;go_cut[38](λv f=>(∃b:Bool,v=PF b)/\ak (az w f))
 case first=>
  cases q4:(b==7)
  all_goals go_wp2_with fail
  repeat' (go_at_call 116;refine(oR _ _ _ _ _ afN cF).mono ?_;rintro e H ⟨⟨b,rfl⟩,rfl⟩;cases b<;>go_wp2_with fail)
  all_goals
   go_meet;exact⟨⟨_,rfl⟩,⟨by repeat(first|exact BE.o|exact Below.alloc BE.o BE.o.size _|refine Below.alloc ?_ Da _)⟩⟩
 case rest=>
 obtain⟨⟨q,rfl⟩,j⟩:=hcut;have BE:=j
 rename EE=>f
 cases q;rotate_left
 .go_wp2
  (go_ret2;exact⟨_,_,rfl,BE.o⟩)
 go_upto_region 6 with fail;go_cut[41](λv f=>(∃b:Bool,v=PF b)/\ak (az w f))
 case first=>
  skip
  all_goals go_wp2_with fail
  repeat' (go_at_call 116;refine(oR _ _ _ _ _ afN cF).mono ?_;rintro e H ⟨⟨b,rfl⟩,rfl⟩;cases b<;>go_wp2_with fail)
  all_goals
   go_meet;exact⟨⟨_,rfl⟩,⟨by repeat(first|exact BE.o|exact Below.alloc BE.o BE.o.size _|refine Below.alloc ?_ Da _)⟩⟩
 case rest=>
 obtain⟨⟨q,rfl⟩,j⟩:=hcut;have BE:=j
 rename EE=>f
 cases q;rotate_left
 .go_wp2
  (go_ret2;exact⟨_,_,rfl,BE.o⟩)
 have T:=sH (R.o.ar BE.o);go_wp2_with fail;refine(zZ _ n c ts (i+1) f T.o O aq).mono ?_;rintro e W ⟨s,rfl,I,K,V⟩;have L:=BE.t V;have BE:=L;by_cases U:0<=s;rotate_left
 .have J:decide (0<=s)=OZ:=by simpa using U
  obtain⟨y,z,rfl,o,l⟩:=(R.o.ar BE.o).iw.get (show i<n by omega);have t:=sH o;have k0:(0:Int)<=(i:Int):=Int.natCast_nonneg i;have E:=aU i n;have wk:IK (i:Int)=(i:Int):=IntWalk.wrap64_in _ aq;go_wp2_with fail;refine(nd z _ t.o).mono ?_;rintro e M ⟨p,rfl,x⟩;have B6:=BE.t x;cases D:(p==4);rotate_left
  .exact LZ
  cases m:(a==19)
  .exact LZ
  .exact LZ
 obtain⟨k,rfl⟩:∃k:Nat,s=k:=⟨s.toNat,aq⟩;obtain⟨B,u,g,_,l⟩:=(S.o.Z BE.o BE.o.size).get (show k<n by omega);injection g with g
 subst g;have k4:=aU k n;go_upto_region 11 with fail;go_cut[72](λv f=>(∃b:Bool,v=PF b)/\W=f)
 case first=>
  cases q5:(u==18)
  .cases F:(u==19)
   .cases N:(u==13)
    .cases P:(u==14)
     .exact LR
     .exact LR
    .exact LR
   .have N:(u==13)=OZ:=by have h:=F;simp at h;subst h;rfl
    have D:(u==14)=OZ:=by have h:=F;simp at h;subst h;rfl
    cases P:(b==18)
    .exact LR
    .exact LR
  .exact LR
 case rest=>
 obtain⟨⟨q,rfl⟩,rfl⟩:=hcut;cases q;rotate_left
 .exact YG
 obtain⟨y,z,rfl,o,l⟩:=(R.o.ar BE.o).iw.get (show i<n by omega);have t:=sH o;have k0:(0:Int)<=(i:Int):=Int.natCast_nonneg i;have E:=aU i n;have wk:IK (i:Int)=(i:Int):=IntWalk.wrap64_in _ aq;go_wp2_with fail;refine(nd z _ t.o).mono ?_;rintro e M ⟨p,rfl,x⟩;have B6:=BE.t x;cases D:(p==4);rotate_left
 .exact LZ
 cases m:(a==19)
 .exact LZ
 .exact LZ
structure SqD where
 A:aB
 m:Nat
 c:Nat
 lv:Int
 so:Int
 eo:Int
def sqF(s:SqD):List EN:=[Pl s.A s.m s.c,ae aj s.lv,ae aj s.so,ae aj s.eo]
def VY(B n:Nat)(w:EE)(s:SqD):Prop:=Ow w B 3 .i64 (lK n) s.A s.m s.c/\s.m<=4000
def VY.kpt(B n:Nat):Kpt 81 (VY B n):=⟨λ_ _ _ h d=>⟨h.1.ar d,h.2⟩,λw k s g i A j c vs h b f=>by
 obtain⟨xs,a,e⟩:=h.1;exact⟨⟨xs,aA.kept a f (ca a b cF) (aA.dU b),e⟩,h.2⟩⟩
def PSs(w:EE)(n:Nat)(e:IS)(a:EE):Prop:=∃(D:aB) (q b B:Nat) (c:List SqD),q<=n/\e=RE (Pl D q b)/\w.heap.size<=B/\Gn a B 81 4 sqF (VY B n) c D q b/\az w a
structure xI(w0 w:EE)(n:Nat)(lv x y:Int)(A:aB)(m c:Nat):Prop where
 be:az w0 w
 bx:Bx w w0.heap.size #[Pl A m c,ae aj lv,ae aj x,ae aj y]
 ow:Ow w (w0.heap.size+1) 3 .i64 (lK n) A m c
def xI.ar{b:EE}(h:xI w0 w n lv x y A m c)(a:az w b):xI w0 b n lv x y A m c:=⟨h.be.trans (a.mono h.be.size),h.bx.ar a h.bx.lt,h.ow.ar a⟩
def xI.new(w0:EE)(n:Nat)(lv:Int):xI w0 (w0.alloc (RM #[Pl OJ 0 0,ae aj lv,ae aj 0,ae aj 0] 81)) n lv 0 0 OJ 0 0:=⟨aw _ _,Bx.new _ _ _,Ow.nil _ _ _ _ _⟩
def xI.put{W:EE}{a d:Nat}{b:aB}(h:xI w0 w n lv x y A m c)(e:EI (w0.heap.size+1) w W)(i:Ow W (w0.heap.size+1) 3 .i64 (lK n) b a d):xI w0 (W.setCell ⟨w0.heap.size,0,OJ⟩ (Pl b a d)) n lv x y b a d:=by
 refine⟨Below.setCell (h.be.trans (e.mono aq)) (p:=⟨w0.heap.size,0,OJ⟩) cr _,(GF (h.bx.ar e aq) _).1, ?_⟩;obtain⟨xs,f,g⟩:=i;exact⟨xs,Own.mj f (aA.oB f (Nat.lt_succ_self _)) _,g⟩
def xI.agP(h:xI w0 w n lv x y A m c)(z:Int):xI w0 (w.setCell ⟨w0.heap.size,2,OJ⟩ (ae aj z)) n lv z y A m c:=by
 obtain⟨xs,a,b⟩:=h.ow;exact⟨Below.setCell h.be (p:=⟨w0.heap.size,2,OJ⟩) cr _,(GF h.bx _).2.2.1,⟨xs,Own.mj a (aA.oB a (Nat.lt_succ_self _)) _,b⟩⟩
def xI.agk(h:xI w0 w n lv x y A m c)(z:Int):xI w0 (w.setCell ⟨w0.heap.size,3,OJ⟩ (ae aj z)) n lv x z A m c:=by
 obtain⟨xs,a,b⟩:=h.ow;exact⟨Below.setCell h.be (p:=⟨w0.heap.size,3,OJ⟩) cr _,(GF h.bx _).2.2.2,⟨xs,Own.mj a (aA.oB a (Nat.lt_succ_self _)) _,b⟩⟩
def TSq:aS prog 77 81 4 48:=bD underlying77 (z:=.agg #[Pl OJ 0 0,ae aj 0,ae aj 0,ae aj 0]) aF rfl aq aq
def afa(s:G:=by
 have⟨c0,c1,aW,yk⟩:=V8.o.bx.q4
 go_wp2_with fail;refine(aad lv _ w7).mono ?_;rintro e w8 ⟨z8,rfl,b8⟩;have V9:ak _:=⟨V8.o.ar b8⟩;clear b8 V8 c0 c1 aW yk;have⟨c0,c1,aW,yk⟩:=V9.o.bx.q4;have f3:=V9.o.bx.fz 3;have W0:ak _:=⟨V9.o.agk z8⟩;clear V9;go_upto_region 29 with fail;have⟨w9,cv⟩:∃w9,w9=w8.setCell ⟨wr.heap.size,3,OJ⟩ (ae aj z8):=⟨_,rfl⟩;rw[<-cv]at W0;rw[<-cv];clear cv c0 c1 aW yk f3;have⟨c0,c1,aW,yk⟩:=W0.o.bx.q4;have ib:=W0.o.be.size;have hse:=BE.o.size;have GA:ak (Gn (w9.alloc (RM #[Pl (OH ⟨gD,0,OJ⟩) m3 c3,ae aj lv,ae aj z2,ae aj z8] 81)) w2.heap.size 81 4 sqF (VY w2.heap.size n) ss D m dc):=⟨(GE.o.ar (VY.kpt _ _) W0.o.be).ar (VY.kpt _ _) (aw _ _)⟩;have IA:ak (VY w2.heap.size n (w9.alloc (RM #[Pl (OH ⟨gD,0,OJ⟩) m3 c3,ae aj lv,ae aj z2,ae aj z8] 81)) ⟨OH ⟨gD,0,OJ⟩,m3,c3,lv,z2,z8⟩):=⟨⟨(W0.o.ow.cS aq).alloc _,hm4⟩⟩;have BA:ak (az w2 (w9.alloc (RM #[Pl (OH ⟨gD,0,OJ⟩) m3 c3,ae aj lv,ae aj z2,ae aj z8] 81))):=⟨(BE.o.trans (W0.o.be.mono hse)).alloc aq _⟩;go_wp2_with (at_builtin;refine bE TSq rfl (.tmp 156) (.tmp 158) rfl rfl GA.o.own rfl (news:=sqF ⟨OH ⟨gD,0,OJ⟩,m3,c3,lv,z2,z8⟩) rfl (λj u hu=>ahB) (λu hu=>ahA) aq br ?_;intro A5 c5 Zn o5 b5 g5 t5;have N5:ak _:=⟨GA.o.push (VY.kpt _ _) IA.o o5 g5⟩;have B5:ak (az w2 Zn):=⟨BA.o.trans b5⟩;clear o5 b5 g5 t5);go_roundg(q-i)
 case measure=>omega
 case rel=>exact⟨i+1,m+1,A5,c5,_,aq,aq,aq,rfl,aV,N5,B5⟩):G:=s
def ahc(A C:aB)(n c d:Nat)(base:Int)(w:EE)(h:Iw w w.heap.size .i64 aK A n)(k:Iw w w.heap.size .i64 aK C n)(hn:n<=60):GK prog 28 #[Pl A n c,Pl C n d,ae aj base] w (PSs w n):=by
 have R:ak _:=⟨h⟩;have S:ak _:=⟨k⟩;obtain⟨xs,E,_⟩:=h;have XS:ak _:=⟨E⟩;clear E k;go_enter func28,ntmps28;go_wp2_with fail;refine(abR A C n c d w R.o S.o aq).mono ?_;rintro e w1 ⟨L,q,lc,hq,rfl,l1,b1⟩;have L1:ak _:=⟨l1⟩;have B1:ak _:=⟨b1⟩;have PM:ak _:=⟨oM A n c xs w1 (XS.o.Z b1) aq⟩;clear l1 b1 XS;go_wp2_with fail;refine PM.o.mono ?_;rintro e w2 ⟨MA,mc,rfl,om,b2⟩;have MI:ak (Iw w2 w2.heap.size .i64 aK MA n):=⟨⟨_,om.ints,λ_ _=>trivial⟩⟩;have B2:ak (az w w2):=⟨B1.o.trans (b2.mono B1.o.size)⟩;have L2:ak (DJ w2 w2.heap.size (lK n) n L q):=⟨L1.o.Z b2 b2.size⟩;clear om b2 PM L1 B1;go_wp2;go_loopg[7,10,11,12,13,14,15,16,17](q+1)(λgg v7 v10 _ _ _ _ _ _ _ wr=>∃(i m:Nat) (D:aB) (dc:Nat) (ss:List SqD),q-i<gg/\i<=q/\m<=i/\v7=Pl D m dc/\v10=ae aj (i:Int)/\ak (Gn wr w2.heap.size 81 4 sqF (VY w2.heap.size n) ss D m dc)/\ak (az w2 wr))
 .exact⟨0,0,OJ,0,[],aq,aq,aq,rfl,rfl,⟨Gn.nil _ _ _ _ _ _⟩,cJ⟩
 obtain⟨i,m,D,dc,ss,hg,hi,hm,rfl,rfl,GE,BE⟩:=hrel;by_cases aG:i<q;rotate_left
 .have i4:=cI i q
  go_wp2;go_ret;exact⟨_,_,_,_,_,aq,rfl,B2.o.size,GE.o,B2.o.trans (BE.o.mono B2.o.size)⟩
 have i4:=aU i q;have G:ak (az w wr):=⟨B2.o.trans (BE.o.mono B2.o.size)⟩;obtain⟨qS,A2,m2,c2,rfl,_,e0,Dm,hmM,I2⟩:=L2.o.Z BE.o BE.o.size i aG;obtain⟨ew,x,rfl,px,H⟩:=I2.get Dm;rw[fA]at H;obtain⟨xn,rfl⟩:∃k:Nat,x=k:=⟨x.toNat,Cx⟩;have U:xn<n:=Cu;have Nu:=aU xn n;have m0:=aU 0 m2;obtain⟨adA,cl,rfl,_,e2⟩:=(R.o.Z G.o G.o.size).get U;obtain⟨adC,lv,rfl,_,e3⟩:=(S.o.Z G.o G.o.size).get U;obtain⟨adM,z,rfl,_,e4⟩:=(MI.o.Z BE.o BE.o.size).get U;clear px I2;go_upto_region 9 with fail;go_cut[55](λv wx=>(∃b:Bool,v=PF b)/\wr=wx)
 case first=>
  cases q1:(cl==23)
  .go_wp2
   go_meet;exact⟨⟨_,rfl⟩,rfl⟩
  .go_wp2
   go_meet;exact⟨⟨_,rfl⟩,rfl⟩
 case rest=>
 obtain⟨⟨b,rfl⟩,rfl⟩:=hcut;cases b;rotate_left
 .go_wp2
  go_roundg(q-i)
  case measure=>omega
  case rel=>exact⟨i+1,m,D,dc,ss,aq,aq,aq,rfl,aV,GE,BE⟩
 have V:ak _:=⟨xI.new wr n lv⟩;go_upto_region 11 with fail;have⟨w3,Q⟩:∃w3,w3=wr.alloc (RM #[Pl OJ 0 0,ae aj lv,ae aj 0,ae aj 0] 81):=⟨_,rfl⟩;rw[<-Q]at V;rw[<-Q];have e0:=av e0 (show az wr w3 by rw[Q];exact aw _ _);clear Q H e2 e3 e4 U Nu m0;go_upto_block 2 with fail;go_cut[12,13,14,15](λ_ _ _ _ wx=>∃(m3:Nat) (Z:aB) (c3:Nat),0<m3/\m3<=4000/\ak (xI wr wx n lv 0 0 Z m3 c3))
 case first=>
  clear e0;obtain⟨g,rfl⟩:∃g,g=wr:=⟨_,rfl⟩;have I2:ak (Iw w3 g.heap.size .i64 (lK n) (OH ew) m2):=⟨by
   obtain⟨a1,a2,a3,a4,h1,_,h2,_,_,h3⟩:=L2.o.Z (BE.o.trans (V.o.be.mono BE.o.size)) BE.o.size i aG;injection h1 with h1
   subst h1;have H:=av e0 V.o.be;rw[h2]at H;simp at H;obtain⟨r1,r2,r3⟩:=H;rw[r1,r2]at h3;exact h3⟩
  go_wp2;go_loopg[12,13,14,15](q+2)(λgg mz kE _ _ wr=>∃(t m3 rn rc:Nat) (Z rA:aB) (c3:Nat),q+1-t<gg/\t<=q+1/\rn<=60/\m3<=t*60/\(0<m3∨(t=0/\0<rn))/\mz=Pl rA rn rc/\kE=ae aj (t:Int)/\ak (xI g wr n lv 0 0 Z m3 c3)/\ak (Iw wr g.heap.size .i64 (lK n) rA rn))
  .exact⟨0,0,m2,c2,OJ,OH ew,0,aq,aq,aq,aq,.inr ⟨rfl,Dm⟩,rfl,rfl,V,I2⟩
  obtain⟨t,m3,rn,rc,Z,rA,c3,dV,ht,Up,hm3,J,rfl,rfl,V,IR⟩:=hrel;by_cases htq:t<=q;rotate_left
  .have i5:¬(t:Int)<=(q:Int):=by omega
   have hq3:0<m3:=aq;clear J;go_wp2;go_meet;exact⟨m3,Z,c3,hq3,aq,V⟩
  have i5:(t:Int)<=(q:Int):=aq;rcases Nat.eq_zero_or_pos rn with h0|h0
  .subst h0
   have hq3:0<m3:=aq;clear J;go_wp2;go_meet;exact⟨m3,Z,c3,hq3,aq,V⟩
  have i6:=aU 0 rn;clear J;go_wp2;go_loopg[14](rn+1)(λgg Ap wr=>∃(k:Nat) (D4:aB) (c4:Nat),rn-k<gg/\k<=rn/\Ap=ae aj (k:Int)/\ak (xI g wr n lv 0 0 D4 (m3+k) c4)/\ak (Iw wr g.heap.size .i64 (lK n) rA rn))
  .exact⟨0,Z,c3,aq,aq,rfl,V,IR⟩
  clear V IR;obtain⟨k,D4,c4,DQ,hk,rfl,V,IR⟩:=hrel;by_cases hkr:k<rn
  .have k4:=aU k rn
   obtain⟨X,y,rfl,P,H⟩:=IR.o.get hkr;have PY:ak _:=⟨P⟩;obtain⟨ys,o1,p1⟩:=V.o.ow;have OV:ak _:=⟨o1⟩;have PO:ak _:=⟨p1⟩;have⟨c0,_,_,_⟩:=V.o.bx.q4;have hsw:=V.o.bx.lt;clear P o1 p1;go_upto_region 18 with fail;refine jS (N:=9) (k0:=87) (m:=9) [OH (PK (OH ⟨g.heap.size,0,OJ⟩)),OH (Pl D4 (m3+k) c4),OH (Pl (OH X) rn rc),OH (ae aj (k:Int)),OH (PK (OH (X.add k))),OH (ae aj y),OJ,OJ,OH (PK (OH ⟨g.heap.size,0,OJ⟩))] 6 7 (m3+k) [ae aj y] wr (λA c W=>∃Wp,az wr Wp/\aA W (g.heap.size+1) 3 1 A (m3+k+1) c (ys.map (ae aj)++[ae aj y])/\EI (g.heap.size+1) Wp W) rfl aF rfl aF aq (Below.refl _ _) ?_ ?_
   .intro j o L bu W hj ho I f fC r a' ha K hK
    simp only[cN,fV,List.setIfInBounds_toArray,List.set_cons_succ,List.set_cons_zero,Nat.reduceAdd,Nat.add_zero]at ha;subst ha;have hj:j=0∨j=1∨j=2∨j=3∨j=4∨j=5∨j=6∨j=7∨j=8:=aq;have d0:=r.dY 0 _ rfl;have d1:=r.dY 1 _ rfl;have d2:=r.dY 2 _ rfl;have d3:=r.dY 3 _ rfl;have d4:=r.dY 4 _ rfl;have d5:=r.dY 5 _ rfl
    rcases hj with rfl|rfl|rfl|rfl|rfl|rfl|rfl|rfl|rfl
    all_goals(injection ho with ho;subst ho)
    all_goals(simp[Region.binds]at f)
    case' inr.inr.inr.inr.inr.inr.inr.inl=>
     obtain⟨b,eb,hc⟩:=r.box f.2 I;have BB:=r.pre I;have OV2:aA W (g.heap.size+1) 3 1 D4 (m3+k) c4 (ys.map (ae aj)):=aA.ar OV.o BB;have ib:g.heap.size+1<=W.heap.size:=by have:=BB.size;omega
     simp only[d1 f.1,eb];refine wpOp_step rfl (λK9 l=> ?_);refine lG (news:=[ae aj y]) l5 rfl (.tmp 88) (.tmp 93) rfl rfl OV2 rfl rfl hc (λu hu=>Ji) aq ib ?_;intro A5 c5 w5 o5 b5 g5 t5;refine l _ _ ?_;change K (Act.put _ (OH 94) _) _;have E:=hK _ _ (r.app rfl ⟨W,BB,o5,b5⟩);simp only[Nat.reduceAdd,Act.put,List.setIfInBounds_toArray,List.set_cons_succ,List.set_cons_zero]at E
     try simp only[d1 f.1,eb]at E
     try simp only[Act.put,List.setIfInBounds_toArray,List.set_cons_succ,List.set_cons_zero]
     exact E
    case' inr.inr.inr.inr.inr.inr.inl=>
     have hp:=fC.no (a:=7) I aF;simp only[d5 f];refine wpOp_step rfl (λK9 l=> ?_);go_simp;refine l _ _ ?_
     skip
     have E:=hK _ _ (r.lay 3 rfl rfl cF hp);simp only[Nat.reduceAdd,Act.put,List.setIfInBounds_toArray,List.set_cons_succ,List.set_cons_zero]at E
     try simp only[d5 f]at E
     try simp only[Act.put,List.setIfInBounds_toArray,List.set_cons_succ,List.set_cons_zero]
     exact E
    case' inr.inl=>
     have BB:=r.pre (fC.no (a:=7) I aF);have c0:=av c0 BB
    case' inr.inr.inr.inr.inr.inl=>
     have BB:=r.pre (fC.no (a:=7) I aF);have H:=av H BB
    all_goals
     try simp only[d0,d1,d2,d3,d4,d5,f]
     refine wpOp_step rfl (λK9 l=> ?_);go_simp;refine l _ _ ?_
     skip
     have E:=hK _ _ (r.pure rfl cF cF);simp only[Nat.reduceAdd,Act.put,List.setIfInBounds_toArray,List.set_cons_succ,List.set_cons_zero]at E
     try simp only[d0,d1,d2,d3,d4,d5,f]at E
     try simp only[Act.put,List.setIfInBounds_toArray,List.set_cons_succ,List.set_cons_zero]
     exact E
   .intro L bu W M r a' ha
    simp only[cN,fV,List.setIfInBounds_toArray,List.set_cons_succ,List.set_cons_zero,Nat.reduceAdd,Nat.add_zero]at ha;subst ha;obtain⟨A5,c5,Ey,Wp,bp,o5,b5⟩:=r.post (M 7 aq);have d8:=r.dY 8 _ rfl (M 8 aq);simp only[d8,Ey];have VP:=V.o.ar bp;have BX:=VP.bx.ar b5 (Nat.lt_succ_self _);have⟨r5,_,_,_⟩:=BX.q4;have f5:=BX.fz 0;have V5:ak (xI g (W.setCell ⟨g.heap.size,0,OJ⟩ (Pl A5 (m3+k+1) c5)) n lv 0 0 A5 (m3+(k+1)) c5):=⟨VP.put b5 ⟨ys++[y],by unfold Own;rw[List.map_append];exact o5,λz hz=>by
     rcases List.mem_append.1 hz with hz|hz
     .exact PO.o z hz
     .obtain rfl:=List.mem_singleton.1 hz;exact PY.o⟩⟩
    have IR5:ak (Iw (W.setCell ⟨g.heap.size,0,OJ⟩ (Pl A5 (m3+k+1) c5)) g.heap.size .i64 (lK n) (OH X) rn):=⟨IR.o.Z (Below.setCell ((bp.mono aq).trans (b5.mono (Nat.le_succ _))) (p:=⟨g.heap.size,0,OJ⟩) cr _) cr⟩;clear VP BX bp o5 b5 d8 Ey M r c0 H;refine wpOp_step rfl (λK9 l=> ?_);go_simp;refine l _ _ ?_;go_wp2;go_roundg(rn-k)
    case measure=>omega
    case rel=>exact⟨k+1,A5,c5,aq,aq,aV,V5,IR5⟩
  obtain rfl:k=rn:=aq;obtain⟨j,hj⟩:∃j,j+1=k:=⟨k-1,aq⟩;obtain⟨X,y,rfl,P,H⟩:=IR.o.get (show j<k by omega);obtain⟨yn,rfl⟩:∃k:Nat,y=k:=⟨y.toNat,by have:=P.1;omega⟩;have F:yn<n:=by have:=P.2;omega
  have Y:=aU yn n;have T:ak (az w wr):=⟨G.o.trans (V.o.be.mono G.o.size)⟩;have BS:ak (az w2 wr):=⟨BE.o.trans (V.o.be.mono BE.o.size)⟩;have j1:(k:Int)-1=(j:Int):=aq;have j2:=aU j k;have j3:(0:Int)<=(j:Int):=Int.natCast_nonneg _;have i7:=cI k k;clear hj hkr;clear P;go_upto_region 21 with fail;clear j1 j2 j3 i7 H;go_cut[113](λv wx=>(∃b:Bool,v=PF b)/\ak (az wr wx))
  case first=>
   obtain⟨af3,cl2,s,_,e2⟩:=(R.o.Z T.o T.o.size).get F;injection s with s
   subst s;go_wp2_with fail;refine(sj cl2 wr).mono ?_;rintro e w6 ⟨b,rfl,b6⟩;have B:ak _:=⟨b6⟩;clear b6 e2;cases b
   .go_wp2
    go_meet;exact⟨⟨_,rfl⟩,B⟩
   obtain⟨aeO,z2,s,_,e4⟩:=(MI.o.Z (BS.o.trans (B.o.mono BS.o.size)) (BS.o.trans (B.o.mono BS.o.size)).size).get F;injection s with s
   subst s;go_wp2;go_meet;exact⟨⟨_,rfl⟩,B⟩
  case rest=>
  obtain⟨⟨b,rfl⟩,B⟩:=hcut
  rename EE=>w6
  have V6:ak _:=⟨V.o.ar B.o⟩;have B7:ak (az w2 w6):=⟨BS.o.trans (B.o.mono BS.o.size)⟩;clear V IR T BS B;cases b
  .go_wp2
   go_roundg(q+1-t)
   case measure=>omega
   case rel=>exact⟨t+1,m3+k,0,0,D4,OJ,c4,aq,aq,aq,aq,.inl aq,rfl,aV,V6,⟨⟨[],bO.nil,aT⟩⟩⟩
  obtain⟨aeO,z2,s,_,e4⟩:=(MI.o.Z B7.o B7.o.size).get F;injection s with s
  subst s;have LW:ak _:=⟨L2.o.Z B7.o BE.o.size⟩;go_wp2_with fail;refine(abu (OH qS) q lc n n g.heap.size z2 w6 LW.o aq aq).mono ?_;rintro e w9 ⟨rfl,A9,m9,c9,rfl,h9,i9⟩;have I9:ak _:=⟨i9⟩;clear i9 e4;go_wp2;go_roundg(q+1-t)
  case measure=>omega
  case rel=>exact⟨t+1,m3+k,m9,c9,D4,A9,c4,aq,aq,aq,aq,.inl aq,rfl,aV,V6,I9⟩
 case rest=>
 obtain⟨m3,Z,c3,hm3,hm4,V3⟩:=hcut
 rename EE=>w4
 clear V e0;obtain⟨j,hj⟩:∃j,j+1=m3:=⟨m3-1,aq⟩;obtain⟨gD,rfl,_,_⟩:=V3.o.ow.form hm3;obtain⟨y,P,y0⟩:=V3.o.ow.get (show j<m3 by omega);obtain⟨yn,rfl⟩:∃k:Nat,y=k:=⟨y.toNat,by have:=P.1;omega⟩;have F:yn<n:=by have:=P.2;omega
 have Y:=aU yn n;have⟨c0,c1,aW,yk⟩:=V3.o.bx.q4;have j1:(m3:Int)-1=(j:Int):=aq;have j2:=aU j m3;have j3:(0:Int)<=(j:Int):=Int.natCast_nonneg _;clear P hj;go_upto_region 24 with fail;clear j1 j2 j3 y0;obtain⟨u,pu,u0⟩:=V3.o.ow.get hm3;obtain⟨un,rfl⟩:∃k:Nat,u=k:=⟨u.toNat,by have:=pu.1;omega⟩;have Xe:un<n:=by have:=pu.2;omega
 have h3:=aU 0 m3;have T:ak (az w w4):=⟨G.o.trans (V3.o.be.mono G.o.size)⟩;have RW:ak _:=⟨R.o.Z T.o T.o.size⟩;have SW:ak _:=⟨S.o.Z T.o T.o.size⟩;have L0:=au c0;have L1x:=au c1;have L3:=au u0
 clear c0 c1 aW yk u0 pu;refine aQ (λd=>if d=OH 137 then OH ZI else if d=OH 138 then OH ZI else OJ) 12 rfl aF aF aF aF aF rfl ?_
 repeat(refine cH aD aD aD ?_;intro K9 l;go_big_quiet_op;go_big_quiet_on)
 refine dA ZI aD aD (λw9 cv=> ?_) (λv9 aX=> ?_)
 .obtain⟨O,rfl⟩:=cv
  go_simp;refine aZ ZI ((Ao (OH adA) (OH adC) n c d un (-1) base O.1 (RW.o.Z O.2 O.2.size) (SW.o.Z O.2 O.2.size) aq Xe (.inr rfl)).mono ?_);rintro e w5 ⟨z,rfl,hb⟩;exact⟨_,rfl,⟨z,rfl⟩,hb⟩
 obtain⟨_,_,z1,rfl⟩:=aX;simp[Act.put];refine dA ZI aD aD (λw9 cv=> ?_) (λv9 aX=> ?_)
 .obtain⟨O,rfl⟩:=cv
  go_simp;refine aZ ZI ((aad lv z1 O.1).mono ?_);rintro e w5 ⟨z,rfl,hb⟩;exact⟨_,rfl,⟨z,rfl⟩,hb⟩
 obtain⟨_,_,z2,rfl⟩:=aX;simp[Act.put]
 repeat(refine cH aD aD aD ?_;intro K9 l;go_big_quiet_op;go_big_quiet_on)
 intro O hE;have V5:ak _:=⟨V3.o.ar O.2⟩;have⟨c0,c1,aW,yk⟩:=V5.o.bx.q4;have f2:=V5.o.bx.fz 2;have V6:ak _:=⟨V5.o.agP z2⟩;clear hE L0 L1x L3 RW SW T V5 V3;go_simp;have⟨w5,J9⟩:∃w5,w5=O.1.setCell ⟨wr.heap.size,2,OJ⟩ (ae aj z2):=⟨_,rfl⟩;rw[<-J9]at V6;rw[<-J9];clear J9 c0 c1 aW yk f2;have B:ak (az w w5):=⟨G.o.trans (V6.o.be.mono G.o.size)⟩;have RW:ak _:=⟨R.o.Z B.o B.o.size⟩;have SW:ak _:=⟨S.o.Z B.o B.o.size⟩;go_wp2_with fail;refine(Ao (OH adA) (OH adC) n c d yn 1 base w5 RW.o SW.o aq F (.inl rfl)).mono ?_;rintro e w6 ⟨z5,rfl,b6⟩;have V7:ak _:=⟨V6.o.ar b6⟩;clear b6 V6 B RW SW;have B7:ak (az w w6):=⟨G.o.trans (V7.o.be.mono G.o.size)⟩;obtain⟨af3,cl2,s,_,e2⟩:=(R.o.Z B7.o B7.o.size).get F;injection s with s
 subst s;go_wp2_with fail;refine(sj cl2 w6).mono ?_;rintro e w7 ⟨b,rfl,b7⟩;have V8:ak _:=⟨V7.o.ar b7⟩;clear b7 V7 B7 e2 Y;cases b
 .exact afa
 .exact afa
def PcI(B:Nat)(w:EE)(x:fv):Prop:=(∀g∈x.q.gs,g.length=10)/\aA w B 126 10 x.G x.q.gs.length x.gc (x.q.gs.flatMap dt)/\Ow w B 3 .i64 aK x.P x.pn x.pc
def iq(B:Nat):Kpt 44 (PcI B):=⟨λw e r h a=>⟨h.1,aA.ar h.2.1 a,h.2.2.ar a⟩,λw e r B g A n c vs h k b=>⟨h.1,aA.kept h.2.1 b (ca h.2.1 k cF) (aA.dU k),h.2.2.kept b (by obtain⟨xs,d,f⟩:=h.2.2;exact ca d k (by decide)) (aA.dU k)⟩⟩
abbrev PcO(w:EE)(B:Nat)(xs:List fv)(A:aB)(n c:Nat):Prop:=Gn w B 44 9 fv.F (PcI B) xs A n c
def PcO.rd{B:Nat}{xs:List fv}(h:PcO w B xs A n c):ta w w.heap.size xs 0 n A:=⟨Jj,λj m=>by
 have o:=h.len;obtain⟨g,e,_,a⟩:=aA.form h.own aq;subst e;rw[Nat.zero_add];have k:=jd (xs:=xs) (i:=j) aq;have hi:=h.each _ k;refine⟨_,rfl,a,λq u b=> ?_,DZ aq rfl hi.1 hi.2.1⟩;have f:q<9:=by have:=(List.getElem?_eq_some_iff.1 b).1;simpa[fv.F]using this
 have d:j*9+q<n*9:=by omega
 have l:xs[j]? =OH (jX xs j):=by rw[fH aq];exact List.getElem?_eq_getElem aq
 rw[aY,bC,aA.cellAt h.own _ d,je fv.F (λ_=>rfl) xs j q _ l f,b]⟩
def Uf(a b:Int):Prop:= -43980465111040000<=a/\a<=43980465111040000/\-87960930222080000<=b/\b<=87960930222080000
structure iQ(n rm:Nat)(xs:List fv):Prop where
 run:∀x∈xs,x.q.run<rm
 ne:∀x∈xs,x.q.f<x.q.t/\x.q.t<=n
 gl:∀x∈xs,x.q.gs.length<=x.gc/\(x.q.gs.length<=20000/\Uf x.q.wide x.q.inner)/\fY Yt x.q.f x.q.t x.q.gs
 up:xs.Pairwise λx y=>x.q.t<=y.q.f
 ad:∀i,i+1<xs.length->(jX xs i).q.t=(jX xs (i+1)).q.f
def iQ.nil(n a:Nat):iQ n a []:=⟨aT,aT,aT,.nil,aT⟩
def iQ.more{xs:List fv}{y:fv}(h:iQ n c xs)(j:y.q.run<c)(k:y.q.f<y.q.t/\y.q.t<=n)(g:y.q.gs.length<=y.gc/\(y.q.gs.length<=20000/\Uf y.q.wide y.q.inner)/\fY Yt y.q.f y.q.t y.q.gs)(e:∀x∈xs,x.q.t<=y.q.f)(f:∀i,i+1=xs.length->(jX xs i).q.t=y.q.f):iQ n c (xs++[y]):=by
 refine⟨λx a=> ?_,λx a=> ?_,λx a=> ?_,List.pairwise_append.2 ⟨h.up,List.pairwise_singleton _ _,λx a z d=>by obtain rfl:=List.mem_singleton.1 d;exact e x a⟩,λi hi=> ?_⟩;rotate_left 3
 .rw[List.length_append,List.length_singleton]at hi
  rw[fH br,fH br,List.getElem_append_left aq];rcases Nat.lt_or_ge (i+1) xs.length with b|b
  .rw[List.getElem_append_left b,<-fH,<-fH]
   exact h.ad i b
  .rw[List.getElem_append_right b,<-fH,f i aq]
   simp
 all_goals rcases List.mem_append.1 a with a|a
 all_goals first
  |exact h.run x a
  |exact h.ne x a
  |exact h.gl x a
  |(obtain rfl:=List.mem_singleton.1 a;assumption)
def ahe:aS prog 252 5 1 1:=bD underlying252 (z:=.int .u8 0) aF rfl aq aq
def byN(s:ByteArray):aC:=s.data.toList.map λb=>(b.toNat:Int)
def ab6(w:EE)(e:IQ)(s:ByteArray)(c:Nat)(g:s.size<=c)(a:c<=9223372036854775807):aJ .u8 (Lib.bytesWorld w e s) (OH ⟨w.heap.size,0,OJ⟩) s.size c (byN s):=by
 refine⟨⟨by unfold byN;rw[List.length_map];rfl,λh=>⟨_,rfl,by rw[Lib.bytesWorld_size];exact Nat.lt_succ_self _,λj d=> ?_⟩⟩,g,a,λx f=> ?_⟩
 .rw[bC,Lib.bytesWorld_cell w e s j d]
  unfold nth byN;have a:j<s.data.toList.length:=d;rw[List.getD_eq_getElem?_getD,List.getD_eq_getElem?_getD,List.getElem?_map,List.getElem?_eq_getElem a];rfl
 .unfold byN at f
  obtain⟨b,_,rfl⟩:=List.mem_map.1 f;have:=b.toNat_lt;simp[Lit.wf,IntKind.min,IntKind.max,IntKind.signed,IntKind.bits];omega
def PBw(w:EE)(e:IS)(a:EE):Prop:=∃k:Bool,e=RE (PF k)/\w=a
def PLo(w:EE)(e:IS)(a:EE):Prop:=∃k:Nat,k<=4/\e=RE (ae aj (k:Int))/\w=a
def PSa(w:EE)(n pos:Nat)(e:IS)(a:EE):Prop:=∃(k:Nat) (b:Bool),e=RE (P8 #[ae aj (k:Int),PF b])/\1<=k/\pos+k<=n/\k<=4/\w=a
def ac7(w:EE)(e:IS)(a:EE):Prop:=∃z:Int,Wf .i32 z/\e=RE (.int .i32 z)/\w=a
def Hf(c:Int)(w:EE):GK prog 256 #[ae aj c] w (PLo w):=by
 go_enter func256,ntmps256;go_wp2
 all_goals go_ret
 all_goals first|exact⟨0,aq,rfl,rfl⟩|exact⟨1,aq,rfl,rfl⟩|exact⟨2,aq,rfl,rfl⟩|exact⟨3,aq,rfl,rfl⟩|exact⟨4,aq,rfl,rfl⟩
def KA(a b:Int)(w:EE):GK prog 295 #[ae aj a,ae aj b] w (PBw w):=by
 go_enter func295,ntmps295;go_wp2
 all_goals go_ret
 all_goals exact⟨_,rfl,rfl⟩
def Tn(s:G:=by
 go_wp2
 go_meet;exact⟨⟨_,rfl⟩,rfl⟩):G:=s
def Kb(A:aB)(n c:Nat)(bs:aC)(pos:Nat)(w:EE)(h:aJ .u8 w A n c bs)(q:pos<n)(T:n<=100000):GK prog 255 #[Pl A n c,ae aj (pos:Int)] w (PSa w n pos):=by
 have s:=sH h;obtain⟨P,rfl,K,d⟩:=h.at_.2 aq;have a:=d pos q;have t:=sH d;have⟨R,f⟩:=eY (nth bs pos);obtain⟨D,g2⟩:=bounds_u8 (s.o.cZ q);rw[f]at a D g2;have l:=sH f;go_enter func255,ntmps255;go_wp2_with fail;refine(Hf _ _).mono ?_;rintro e C ⟨N,U,rfl,rfl⟩;by_cases Q:N=0
 .have j:((N:Int)==0)=OX:=by simp;omega
  go_wp2;go_ret2;exact⟨1,OZ,rfl,aq,aq,aq,rfl⟩
 have j:((N:Int)==0)=OZ:=pW;go_wp2;go_loopg[7] 6 (λg v wr=>∃k:Nat,1<=k/\k<=4/\pos+k<=n/\5<k+g/\v=ae aj k/\wr=w)
 .exact⟨1,aq,aq,aq,aq,rfl,rfl⟩
 obtain⟨k,L,I,y,H,rfl,rfl⟩:=hrel;by_cases p:k<N/\pos+k<n
 .obtain⟨J,i⟩:=p
  have M:=t.o (pos+k) i;have a:=t.o pos q;rw[l.o]at a;obtain⟨E,x⟩:=bounds_u8 (s.o.cZ i);have⟨u,r⟩:=eY (nth bs (pos+k));rw[r]at M E x;have V:(pos:Int)+(k:Int)<(n:Int):=aq;have W:=aU k N;go_upto_region 7 with fail;go_cut[54](λv G=>(∃b:Bool,v=PF b)/\G=wr)
  ·
   by_cases m:k=1
   .subst m
    go_wp2_with fail;refine(KA _ _ _).mono ?_;rintro e C ⟨F,rfl,rfl⟩;cases F
    .exact Tn
    .by_cases B:u<128
     .exact Tn
     .exact Tn
   .have O:((k:Int)==1)=OZ:=pW
    by_cases B:u<128
    .exact Tn
    .exact Tn
  obtain⟨⟨b,rfl⟩,rfl⟩:=hcut;cases b
  .go_wp2
   go_roundg(gk-1)
   .exact⟨k+1,aq,aq,aq,aq,aV,rfl⟩
   omega
  .go_wp2
   go_ret2;exact⟨k,_,rfl,aq,aq,aq,rfl⟩
 .have o:N<=k∨(k<N/\n<=pos+k):=by omega
  rcases o with m|⟨m,S⟩
  .have z:decide (k<N)=OZ:=ji
   go_wp2;go_ret2;exact⟨k,_,rfl,aq,aq,aq,rfl⟩
  .have z:decide ((pos:Int)+(k:Int)<(n:Int))=OZ:=ji
   go_wp2;go_ret2;exact⟨k,_,rfl,aq,aq,aq,rfl⟩
def Wb(A:aB)(n c:Nat)(bs:aC)(w:EE)(h:aJ .u8 w A n c bs)(t:1<=n)(F:n<=4):GK prog 257 #[Pl A n c] w (ac7 w):=by
 have e:=sH h;obtain⟨j,rfl,q,a⟩:=h.at_.2 aq;have d:w.cell? j=OH (.int .u8 (nth bs 0)):=by have:=a 0 (by omega);simpa[Addr.add]using this
 have m:=sH a;obtain⟨p,g2⟩:=bounds_u8 (e.o.cZ (show 0<n by omega));generalize nth bs 0=D at d p g2;cases o:((n:Int)==2)<;>cases r:((n:Int)==3)<;>cases i:((n:Int)==4)
 all_goals first
  |(exfalso;simp at o r i;omega)
  |skip
 all_goals
  go_enter func257,ntmps257;go_wp2;go_loopg[3,4] 6 (λg v u wr=>∃(k:Nat) (x:Int),1<=k/\k<=n/\5<k+g/\u=ae aj (k:Int)/\v=ae aj x/\wr=w)
  .exact⟨1,_,aq,aq,aq,rfl,rfl,rfl⟩
  obtain⟨k,x,B,f,z,rfl,rfl,rfl⟩:=hrel;by_cases b:k<n
  .have l:=aU k n
   have E:=m.o k b;obtain⟨C,s⟩:=bounds_u8 (e.o.cZ b);generalize nth bs k=y at*;go_wp2;go_roundg(gk-1)
   .exact⟨k+1,_,aq,aq,aq,aV,rfl,rfl⟩
   omega
  .have l:=cI k n
   go_wp2;go_ret;refine⟨_, ?_,rfl,rfl⟩;go_wf2
def PDe(w:EE)(n:Nat)(e:IS)(a:EE):Prop:=∃(A:aB) (m c:Nat) (t x:Int),e=RE (P8 #[Pl A m c,ae aj t,ae aj x])/\m<=n/\Ow a w.heap.size 21 .i32 (Wf .i32) A m c/\az w a
def La(A:aB)(n c:Nat)(bs:aC)(w:EE)(h:aJ .u8 w A n c bs)(I:n<=100000):GK prog 191 #[Pl A n c] w (PDe w n):=by
 have E:=sH h;go_enter func191,ntmps191;go_wp2;go_loopg[5,6](n+1)(λg u v wr=>∃(p m:Nat) (x:aB) (r:Nat),n-p<g/\p<=n/\m<=p/\u=Pl x m r/\v=ae aj (p:Int)/\ak (Ow wr w.heap.size 21 .i32 (Wf .i32) x m r)/\ak (az w wr))
 .exact⟨0,0,OJ,0,aq,aq,aq,rfl,rfl,⟨Ow.nil _ _ _ _ _⟩,cJ⟩
 obtain⟨p,m,x,r,W,G,O,rfl,rfl,B,a⟩:=hrel;have t:w.heap.size<=wr.heap.size:=a.o.size;by_cases o:p<n;rotate_left
 .have Q:=cI p n
  go_wp2;go_ret3;exact⟨_,_,_,_,_,rfl,aq,B.o,a.o⟩
 have Q:=aU p n;have f:=sH (E.o.ar a.o);go_wp2_with fail;refine(Kb A n c bs p wr f.o o I).mono ?_;rintro e J ⟨k,b,rfl,q,s,j,rfl⟩;cases b
 .obtain⟨ad,rfl,T,i⟩:=f.o.at_.2 aq
  have M:=i p o;obtain⟨z1,Z⟩:=bounds_u8 (f.o.cZ o);generalize nth bs p=y at*;by_cases Y:p+k=n
  .have P:((p:Int)+(k:Int)==(n:Int))=OX:=by simp;omega
   go_wp2_with fail;refine(Hf _ _).mono ?_;rintro e w3 ⟨N,hN,rfl,rfl⟩;by_cases X:k<N
   .go_wp2
    go_ret3;exact⟨OJ,0,0,_,_,rfl,aq,Ow.nil _ _ _ _ _,a.o⟩
   .go_wp2
    go_ret3;exact⟨OJ,0,0,_,_,rfl,aq,Ow.nil _ _ _ _ _,a.o⟩
  .have P:((p:Int)+(k:Int)==(n:Int))=OZ:=pW
   go_wp2;go_ret3;exact⟨OJ,0,0,_,_,rfl,aq,Ow.nil _ _ _ _ _,a.o⟩
 .obtain⟨S,U,l⟩:=jC ahe A n c p (p+k) aq s E.o.le (p:Int) ((p:Int)+(k:Int)) rfl aq
  have d:=l.run;rw[show p+k-p=k by omega]at l d;have R:=sH (l.gI f.o);go_wp2_with fail;refine(Wb S k U _ wr R.o q j).mono ?_;rintro e J ⟨z,F,rfl,rfl⟩;have L:=sH F;go_wp2_with (at_builtin;refine bW Mp rfl (.tmp 39) (.tmp 47) rfl rfl (B.o.alloc _) rfl (bk _ _ _) L.o aq br ?_;intro H c4 w4 C D;have K:=sH C;have V:=sH ((a.o.alloc t _).trans D);clear C D);go_roundg(n-p)
  .exact⟨p+k,m+1,H,c4,aq,aq,aq,rfl,aV,K,V⟩
  omega
def Sa(r:Int)(w:EE):GK prog 192 #[.int .i32 r] w (PBw w):=by
 go_enter func192,ntmps192;go_wp2
 all_goals go_ret
 all_goals exact⟨_,rfl,rfl⟩
def aa6(A:aB)(n c:Nat)(w:EE)(h:Iw w w.heap.size .i32 (Wf .i32) A n)(q:n<=100000):GK prog 193 #[Pl A n c] w (PBw w):=by
 have e:=sH h;go_enter func193,ntmps193;go_wp2;go_loopg[3,4](n+1)(λg v u wr=>∃k x:Nat,k<=n/\x<=k/\n-k<g/\u=ae aj (k:Int)/\v=ae aj (x:Int)/\wr=w)
 .exact⟨0,0,aq,aq,aq,rfl,rfl,rfl⟩
 obtain⟨k,x,p,r,o,rfl,rfl,rfl⟩:=hrel;by_cases a:k<n
 .have f:=aU k n
  obtain⟨m,z,rfl,_,l⟩:=e.o.get a;cases j:(z !=46)
  .by_cases d:0<k
   .by_cases i:k+1<n
    .have b:(k:Int)<(n:Int)-1:=by omega
     go_wp2;go_ret;exact⟨_,rfl,rfl⟩
    .have b:decide ((k:Int)<(n:Int)-1)=OZ:=ji
     go_wp2;go_roundg(n-k)
     .exact⟨k+1,x,aq,aq,aq,aV,rfl,rfl⟩
     omega
   .have b:decide (0<k)=OZ:=ji
    go_wp2;go_roundg(n-k)
    .exact⟨k+1,x,aq,aq,aq,aV,rfl,rfl⟩
    omega
  .go_wp2
   go_roundg(n-k)
   .exact⟨k+1,x+1,aq,aq,aq,aV,aV,rfl⟩
   omega
 .have f:=cI k n
  by_cases d:1<=x
  .go_wp2
   go_ret;exact⟨_,rfl,rfl⟩
  .have i:decide (1<=x)=OZ:=ji
   go_wp2;go_ret;exact⟨_,rfl,rfl⟩
def XY(w:EE)(B N:Nat)(A:aB)(n c:Nat)(C:aB)(m d:Nat):Prop:=n<=N/\m=n+1/\Ow w B 21 .i32 (Wf .i32) A n c/\Ow w B 3 .i64 aK C m d
def PPa(w:EE)(N:Nat)(e:IS)(a:EE):Prop:=∃(A C:aB) (n c m d:Nat) (b:Bool),e=RE (P8 #[Pl A n c,Pl C m d,PF b])/\(b=OX->XY a w.heap.size N A n c C m d)/\az w a
def wf_i32(r:Int)(h:Wf .i32 r): -2147483648<=r/\r<=2147483647:=bounds_i32 h
def nz(s:G:=by
 go_wp2
 go_ret3;exact⟨OJ,OJ,0,0,0,0,OZ,rfl,aT,BG.o⟩):G:=s
def afq(s:G:=by
 go_wp2
 go_roundg(n-k)
 .exact⟨k+1,m,A,C,c,d,_,OX,_,aq,aq,aq,rfl,rfl,rfl,rfl,rfl,aV,OA,OC,BE⟩
 omega):G:=s
def AA(s:ByteArray)(hs:s.size<=10000)(w:EE):GK prog 125 #[.string s] w (PPa w s.size):=by
 have kc:ak (∀(w:EE),(convert 9 252 (.string s)).run prog w=.ok (Pl (OH ⟨w.heap.size,0,OJ⟩) s.size (grownCap w s.size 0 5)) (Lib.bytesWorld w 5 s)):=⟨λw=>Lib.run_convert_string_bytes w _ _ _ s underlying9 underlying252 underlying5⟩;have R:=kc.o w;have j:=Lib.bytesWorld_below w 5 s;have i:=La (OH ⟨w.heap.size,0,OJ⟩) s.size (grownCap w s.size 0 5) (byN s) (Lib.bytesWorld w 5 s) (ab6 w 5 s _ (grownCap_ge _ _ _ _) (Nat.le_trans (grownCap_le_maxLen _ _ _ _ ri) ri)) aq;generalize grownCap w s.size 0 5=cc at R i;generalize wR:Lib.bytesWorld w 5 s=w0 at R i j;have⟨i,BB⟩:=K' i j;go_enter func125,ntmps125;go_wp2_with fail;refine i.o.mono ?_;rintro e u ⟨A0,n,c0,t0,x0,rfl,hn,U,f⟩;have b:=BB.t f;have T:=sH U.iw;cases hx:(x0 !=0);rotate_left
 .go_wp2
  go_ret3;exact⟨OJ,OJ,0,0,0,0,OZ,rfl,aT,b.o⟩
 go_wp2;go_loopg[8,9,10,11,12,13](n+1)(λg W V v10 G v F wr=>∃(k m:Nat) (A C:aB) (c d:Nat) (x:Int) (f l:Bool),n-k<g/\k<=n/\m<=k/\W=Pl A m c/\V=Pl C m d/\v10=ae aj x/\G=PF f/\v=PF l/\F=ae aj (k:Int)/\ak (Ow wr u.heap.size 21 .i32 (Wf .i32) A m c)/\ak (Ow wr u.heap.size 3 .i64 aK C m d)/\ak (az u wr))
 .exact⟨0,0,OJ,OJ,0,0,0,OZ,OZ,aq,aq,aq,rfl,rfl,rfl,rfl,rfl,rfl,⟨Ow.nil _ _ _ _ _⟩,⟨Ow.nil _ _ _ _ _⟩,cJ⟩
 obtain⟨k,m,A,C,c,d,x,f,l,hg,hk,hmk,rfl,rfl,rfl,rfl,rfl,rfl,OA,OC,BE⟩:=hrel;have BG:=b.t BE.o;have t:u.heap.size<=wr.heap.size:=BE.o.size;have a:(21:IQ)≠3:=cF;by_cases y:k<n
 .have i4:=aU k n
  obtain⟨ad,z,rfl,K,e0⟩:=(T.o.Z BE.o BE.o.size).get y;obtain⟨z1,z2⟩:=wf_i32 z K;have Z:=sH K;go_wp2_with fail;refine(Sa _ _).mono ?_;rintro e X ⟨D,rfl,rfl⟩;cases D
  .go_wp2_with (first
    |(at_builtin;refine dR Mp rfl (.tmp 46) (.tmp 51) rfl rfl (OA.o.alloc _) rfl (bk _ _ _) Z.o aq br ?_;intro A4 c4 w4 L M N;have Q:=sH L;have I:=sH ((OC.o.alloc (RM #[.int .i32 z] 21)).kept N (by(obtain⟨xs,o,O⟩:=OC.o;obtain⟨P,h,q4⟩:=OA.o;exact ca o h (Ne.symm a))) OA.o.head);have S:=sH ((BE.o.alloc t _).trans M);have E:=S.o.size;clear L M N)
    |(at_builtin;refine dR l5 rfl (.tmp 53) (.tmp 55) rfl rfl (I.o.alloc _) rfl (bk _ _ _) trivial aq br ?_;intro Y c5 w5 p r q;have J:=sH p;have H:=sH ((Q.o.alloc (RM #[ae aj x] 3)).kept q (by(obtain⟨xs,o,O⟩:=I.o;obtain⟨P,h,q4⟩:=Q.o;exact ca h o a)) I.o.head);have B:=sH ((S.o.alloc E _).trans r);clear p r q))
   go_roundg(n-k)
   .exact⟨k+1,m+1,_,_,_,_,0,OZ,l,aq,aq,aq,rfl,rfl,rfl,rfl,rfl,aV,H,J,B⟩
   omega
  .cases f
   .cases l
    .exact afq
    .exact afq
   .exact nz
 .have i4:=cI k n
  cases l
  .exact nz
  go_wp2_with fail;refine(aa6 A m c _ OA.o.iw aq).mono ?_;rintro e X ⟨D,rfl,rfl⟩;cases D
  .exact nz
  go_wp2_with (at_builtin;refine dR l5 rfl (.tmp 64) (.tmp 66) rfl rfl (OC.o.alloc _) rfl (bk _ _ _) trivial aq br ?_;intro Y c5 w5 p r q;have J:=sH p;have H:=sH ((OA.o.alloc (RM #[ae aj x] 3)).kept q (by(obtain⟨xs,o,O⟩:=OC.o;obtain⟨P,h,q4⟩:=OA.o;exact ca h o a)) OC.o.head);have B:=sH ((BE.o.alloc t _).trans r);clear p r q);go_ret3;exact⟨A,_,m,c,_,_,_,rfl,λ_=>⟨aq,rfl,H.o.cS b.o.size,J.o.cS b.o.size⟩,b.o.trans (B.o.mono b.o.size)⟩
def LL(s:G:=by
 go_wp2_with fail
 all_goals
  go_meet;exact⟨⟨_,rfl⟩,rfl⟩):G:=s
def Wh(A C:aB)(n c d:Nat)(ts:aC)(i:Nat)(w:EE)(h:aJ .i32 w A n c ts)(k:Iw w w.heap.size .i64 aK C n)(N:n<=10000)(hi:i+1<n):GK prog 119 #[Pl A n c,Pl C n d,ae aj ((i:Int)+1)] w (PB w):=by
 have⟨R,S⟩:=K' h k;clear h k;go_enter func119,ntmps119;have wk:IK (i:Int)=(i:Int):=IntWalk.wrap64_in _ aq;have k0:(0:Int)<=(i:Int):=Int.natCast_nonneg i;have Q:(i:Int)<(n:Int):=Jk;have P:(i:Int)+1<(n:Int):=Jk;obtain⟨adc,a,rfl,_,D⟩:=S.o.get (show i<n by clear wk;omega);obtain⟨J,b,m,_,y⟩:=S.o.get (show i+1<n by clear wk;omega);injection m with m
 subst m;have y:w.cell? {block:=adc.block,off:=adc.off+(i+1)}=OH (ae aj b):=y;have⟨L0,L1⟩:=lc2 D y;clear D y;go_wp2;refine aE (λ_=>OJ) aF aF ?_;refine mSk ?_;rintro O ⟨⟨_,G⟩,rfl⟩
 try dsimp only
 have BE:ak (az w O):=⟨G⟩;clear G L0 L1 k0 Q wk P;go_upto_region 2 with fail;go_cut[36](λv f=>(∃b:Bool,v=PF b)/\ak (az w f))
 case first=>
  (cases X:(a==11);cases V:(a==24))
  all_goals go_wp2_with fail
  repeat' (go_at_call 116;refine(oR _ _ _ _ _ YZ cF).mono ?_;rintro e B ⟨⟨b,rfl⟩,rfl⟩;cases b<;>go_wp2_with fail)
  all_goals
   go_meet;exact⟨⟨_,rfl⟩,⟨by repeat(first|exact BE.o|exact Below.alloc BE.o BE.o.size _|refine Below.alloc ?_ Da _)⟩⟩
 case rest=>
 obtain⟨⟨q,rfl⟩,g⟩:=hcut;clear BE;have BE:=g;clear g
 rename EE=>f
 cases q;rotate_left
 .go_wp2
  go_ret;exact⟨_,rfl,BE.o⟩
 have H:=sH (R.o.ar BE.o);have wk:IK (i:Int)=(i:Int):=IntWalk.wrap64_in _ aq;go_wp2_with fail;clear wk;refine(abQ _ n c ts i f H.o N aq).mono ?_;rintro e T ⟨s,rfl,L,M,I⟩;have F:=BE.t I;clear I BE H;have BE:=F;clear F;obtain⟨r,rfl⟩:∃r:Nat,s=r:=⟨s.toNat,aq⟩;go_upto_region 5 with fail;go_cut[58](λv f=>(∃b:Bool,v=PF b)/\T=f)
 case first=>
  rcases r with _|r
  .cases K:(a==12)
   .cases q4:(a==10)
    .exact LL
    .exact LL
   .exact LL
  .obtain⟨E,u,m,_,D⟩:=(S.o.Z BE.o BE.o.size).get (show r<n by omega)
   injection m with m
   subst m;have k4:=aU r n;have Y:(0:Int)<=(r:Int):=Int.natCast_nonneg r;have k6:(0:Int)<(r:Int)+1:=aq;have wr:IK (r:Int)=(r:Int):=IntWalk.wrap64_in _ aq;cases K:(a==12)
   .cases q4:(a==10)
    .exact LL
    .exact LL
   .exact LL
 case rest=>
 obtain⟨⟨q,rfl⟩,rfl⟩:=hcut;cases q;rotate_left
 .go_wp2
  go_ret;exact⟨_,rfl,BE.o⟩
 rename EE=>f
 have L0:=Lt.new f #[ae aj 0,ae aj 28] 3 2 _ rfl rfl rfl;have l:=aw f (RM #[ae aj 0,ae aj 28] 3);go_upto_region 8 with fail;generalize f.alloc (RM #[ae aj 0,ae aj 28] 3)=z at*;have LT:ak (Lt z _ 2):=⟨L0⟩;have t:=BE.t l;clear BE L0 l;have BE:ak (az z z):=cJ;go_upto_region 8 with fail;go_cut[75](λv f=>(∃b:Bool,v=PF b)/\ak (az z f))
 case first=>
  (cases Z:(b==21)<;>cases q6:(a==21))
  all_goals go_wp2_with fail
  repeat' (go_at_call 116;refine(oR _ _ _ _ _ YZ cF).mono ?_;rintro e B ⟨⟨b,rfl⟩,rfl⟩;cases b<;>go_wp2_with fail)
  all_goals
   go_meet;exact⟨⟨_,rfl⟩,⟨by repeat(first|exact BE.o|exact Below.alloc BE.o BE.o.size _|refine Below.alloc ?_ Da _)⟩⟩
 case rest=>
 obtain⟨⟨q,rfl⟩,g⟩:=hcut;clear BE;have BE:=g;clear g
 rename EE=>f
 cases q;rotate_left
 .go_wp2
  go_ret;exact⟨_,rfl,t.o.trans (BE.o.mono t.o.size)⟩
 have L0:=Lt.new f #[ae aj 25,ae aj 26,ae aj 27] 3 3 _ rfl rfl rfl;have l:=aw f (RM #[ae aj 25,ae aj 26,ae aj 27] 3);go_upto_region 11 with fail;generalize f.alloc (RM #[ae aj 25,ae aj 26,ae aj 27] 3)=p at*;have LU:ak (Lt p _ 3):=⟨L0⟩;have j:ak (Lt p _ 2):=⟨(LT.o.ar BE.o).ar l⟩;have o:ak (az w p):=⟨(t.o.trans (BE.o.mono t.o.size)).trans (l.mono (by have:=BE.o.size;have:=t.o.size;omega))⟩;clear BE L0 l LT t;have LT:=j;clear j;have BE:ak (az p p):=cJ;go_upto_region 11 with fail;go_cut[92](λv f=>(∃b:Bool,v=PF b)/\ak (az p f))
 case first=>
  cases W:(a==23)
  all_goals go_wp2_with fail
  repeat' (go_at_call 116;refine(oR _ _ _ _ _ YZ cF).mono ?_;rintro e B ⟨⟨b,rfl⟩,rfl⟩;cases b<;>go_wp2_with fail)
  all_goals
   go_meet;exact⟨⟨_,rfl⟩,⟨by repeat(first|exact BE.o|exact Below.alloc BE.o BE.o.size _|refine Below.alloc ?_ Da _)⟩⟩
 case rest=>
 obtain⟨⟨q,rfl⟩,g⟩:=hcut;clear BE;have BE:=g;clear g
 rename EE=>f
 cases q;rotate_left
 .go_wp2
  go_ret;exact⟨_,rfl,o.o.trans (BE.o.mono o.o.size)⟩
 have L0:=Lt.new f #[ae aj 23,ae aj 22] 3 2 _ rfl rfl rfl;have l:=aw f (RM #[ae aj 23,ae aj 22] 3);go_upto_region 14 with fail;generalize f.alloc (RM #[ae aj 23,ae aj 22] 3)=x at*;have LV:ak (Lt x _ 2):=⟨L0⟩;have j:ak (Lt x _ 2):=⟨(LT.o.ar BE.o).ar l⟩;have U:ak (az w x):=⟨(o.o.trans (BE.o.mono o.o.size)).trans (l.mono (by have:=BE.o.size;have:=o.o.size;omega))⟩;clear BE L0 l LT o LU;have LT:=j;clear j;have BE:ak (az x x):=cJ;go_wp2_with fail
 repeat' (go_at_call 116;refine(oR _ _ _ _ _ YZ cF).mono ?_;rintro e B ⟨⟨b,rfl⟩,rfl⟩;cases b<;>go_wp2_with fail)
 all_goals
  go_ret;exact⟨_,rfl,U.o⟩
def adU(d:Option Tmp):Option (EN->Prop):=if d=OH 39 then OH SB else if d=OH 50 then OH SB else if d=OH 62 then OH SB else OJ
def z'(s:G:=by
 simp[Act.put]
 refine mSk ?_;intro nq;obtain⟨w6,b6⟩:=nq
 try dsimp only
 have B6:=B5.t b6;go_wp2;go_ret;exact⟨_,rfl,B6.o⟩):G:=s
def aav(A C:aB)(n c d:Nat)(ts:aC)(i:Nat)(w:EE)(h:aJ .i32 w A n c ts)(k:Iw w w.heap.size .i64 aK C n)(r:n<=10000)(hi:i<=n):GK prog 53 #[Pl A n c,Pl C n d,ae aj (i:Int)] w (PI w):=by
 have⟨R,S⟩:=K' h k;rcases i with _|i
 .go_enter func53,ntmps53
  go_wp2;go_ret;exact⟨_,rfl,Below.refl _ _⟩
 by_cases p:i+1=n
 .subst p
  go_enter func53,ntmps53;go_wp2;go_ret;exact⟨_,rfl,Below.refl _ _⟩
 have D:decide (i+1=n)=OZ:=by simp[p]
 have j:i+1<n:=aq;have W:(i:Int)+1<(n:Int):=aq;go_enter func53,ntmps53;go_wp2_with fail;refine(tA A n c ts ((i:Int)+1) w R.o aq).mono ?_;rintro e L ⟨rfl,M⟩;have v:=sH M;generalize Ms (ks ts) ((i:Int)+1)=b;cases b
 .go_wp2
  go_ret;exact⟨_,rfl,v.o⟩
 have q:=sH (R.o.ar v.o);go_wp2_with fail;refine(abi A n c ts i L q.o r j).mono ?_;rintro e Q ⟨z,b,rfl,I⟩;have o:=v.t I;cases b;rotate_left
 .go_wp2
  go_ret;exact⟨_,rfl,o.o⟩
 have⟨q,SW⟩:=K' (R.o.ar o.o) (S.o.Z o.o o.o.size);go_wp2_with fail;refine(Vi A C n c d ts i Q q.o SW.o r j).mono ?_;rintro e P ⟨V,b,rfl,H⟩;have B5:=o.t H;cases b;rotate_left
 .go_wp2
  go_ret;exact⟨_,rfl,B5.o⟩
 have⟨q,SW⟩:=K' (R.o.ar B5.o) (S.o.Z B5.o B5.o.size);obtain⟨adc,x,rfl,_,G⟩:=SW.o.get (show i<n by omega);obtain⟨l,y,g,_,m⟩:=SW.o.get j;injection g with g
 subst g;have m:P.cell? {block:=adc.block,off:=adc.off+(i+1)}=OH (ae aj y):=m;have Y:=aU i n;have k0:(0:Int)<=(i:Int):=Int.natCast_nonneg i;have⟨L0,L1⟩:=lc2 G m;have wk:IK (i:Int)=(i:Int):=IntWalk.wrap64_in _ aq;go_wp2;refine aE adU aF aF ?_;refine mSk ?_;refine cK SB aD aD (λB a=> ?_) (λE f=> ?_)
 .clear wk
  obtain⟨nq,rfl⟩:=a;go_simp;exact bP (Wh A (OH adc) n c d ts i nq.1 (q.o.ar nq.2) (SW.o.Z nq.2 nq.2.size) r j)
 obtain⟨b,rfl⟩:=f;cases b;rotate_left
 .exact z'
 simp[Act.put];refine mSk ?_;refine cK SB aD aD (λB a=> ?_) (λE f=> ?_)
 .clear wk
  obtain⟨nq,rfl⟩:=a;go_simp;exact bP (J8 x y nq.1)
 obtain⟨b,rfl⟩:=f;cases b;rotate_left
 .exact z'
 simp[Act.put];refine mSk ?_;refine cK SB aD aD (λB a=> ?_) (λE f=> ?_)
 .clear wk
  obtain⟨nq,rfl⟩:=a;go_simp;exact bP (JJ x y nq.1)
 obtain⟨b,rfl⟩:=f;cases b;rotate_left
 .exact z'
 simp[Act.put];refine mSk ?_;intro nq;obtain⟨w6,b6⟩:=nq
 try dsimp only
 have B6:=B5.t b6;have⟨K,s⟩:=K' (R.o.ar B6.o) (S.o.Z B6.o B6.o.size);obtain⟨l,N,g,_,G⟩:=s.o.get (show i<n by omega);injection g with g
 subst g;obtain⟨l,F,g,_,m⟩:=s.o.get j;injection g with g
 subst g;have m:w6.cell? {block:=adc.block,off:=adc.off+(i+1)}=OH (ae aj F):=m;have wk:IK (i:Int)=(i:Int):=IntWalk.wrap64_in _ aq;cases X:(N==29)
 .go_wp2
  go_ret;exact⟨_,rfl,B6.o⟩
 cases T:(F==29)
 .go_wp2
  go_ret;exact⟨_,rfl,B6.o⟩
 go_wp2_with fail;refine(Va A (OH adc) n c d ts (i+1) w6 K.o s.o r aq).mono ?_;rintro e U ⟨u,rfl,O⟩;have J:=B6.t O;go_wp2_with fail
 all_goals
  go_ret;exact⟨_,rfl,J.o⟩
def ahg(w:EE)(n:Nat)(e:IS)(a:EE):Prop:=∃m,(0<n->m=n+1)/\Nw w 3 .i64 aK m e a
def ae0(A:aB)(n c:Nat)(ts:aC)(w:EE)(h:aJ .i32 w A n c ts)(r:n<=10000):GK prog 18 #[Pl A n c] w (ahg w n):=by
 have R:=sH h;go_enter func18,ntmps18;go_wp2_with fail;refine(J3 A n c ts w R.o r).mono ?_;rintro e f ⟨C,d,rfl,F,J⟩;have⟨a,I⟩:=K' J F.iw;rcases n with _|n
 .go_wp2
  go_loopg[3,5] 1 (λgg v3 k wr=>v3=Pl OJ 0 0/\k=ae aj 0/\wr=f/\0<gg)
  .exact⟨rfl,rfl,rfl,aq⟩
  obtain⟨rfl,rfl,rfl,x⟩:=hrel;go_wp2;go_ret;exact⟨0,aq,_,_,rfl,Ow.nil _ _ _ _ _,a.o⟩
 go_wp2;go_loopg[3,5](n+3)(λgg v3 k wr=>∃(i:Nat) (D:aB) (j:Nat),n+2-i<gg/\i<=n+2/\v3=Pl D i j/\k=ae aj (i:Int)/\ak (Ow wr f.heap.size 3 .i64 aK D i j)/\ak (az f wr))
 .exact⟨0,OJ,0,aq,aq,rfl,rfl,⟨Ow.nil _ _ _ _ _⟩,cJ⟩
 obtain⟨i,D,j,x,hi,rfl,rfl,q,b⟩:=hrel;by_cases g:i<=n+1;rotate_left
 .have B:¬(i:Int)<=(n:Int)+1:=by omega
  obtain rfl:i=n+2:=aq;go_wp2;go_ret;exact⟨n+2,λ_=>rfl,_,_,rfl,q.o.cS a.o.size,a.o.trans (b.o.mono a.o.size)⟩
 have B:(i:Int)<=(n:Int)+1:=aq;have u:=a.t b.o;have⟨v,SW⟩:=K' (R.o.ar u.o) (I.o.Z b.o b.o.size);go_wp2_with fail;refine(aav A C (n+1) c d ts i wr v.o SW.o r g).mono ?_;rintro e K ⟨z,rfl,o⟩;have l:=b.t o;have G:=sH (q.o.ar o);have E:=l.o.size;go_wp2_with (at_builtin;refine bW l5 rfl (.tmp 19) (.tmp 24) rfl rfl (G.o.alloc _) rfl (bk _ _ _) trivial aq br ?_;intro y c8 s p m;have t:=sH p;have H:ak (az f s):=⟨(l.o.alloc aq _).trans m⟩;clear p m);go_roundg(n+2-i)
 .exact⟨i+1,y,c8,aq,aq,rfl,aV,t,H⟩
 omega
def nt(r:Int)(w:EE)(h:Wf .i32 r):GK prog 54 #[.int .i32 r] w (PI w):=by
 obtain⟨a,b⟩:=vo h;have c:=sH (dX r a b w);go_enter func54,ntmps54;go_wp2_with fail;refine c.o.mono ?_;rintro e f ⟨rfl,d⟩;generalize(aN r).join=bd;go_wp2;go_ret;exact⟨_,rfl,d⟩
def YD(s:G:=by
 go_wp2
 go_ret;exact⟨_,rfl,aq,aq,BE.o⟩):G:=s
def Bm(A:aB)(n c:Nat)(ts:aC)(i:Nat)(a:Int)(w:EE)(h:aJ .i32 w A n c ts)(C:n<=10000)(hi:i<n)(o:a=1∨a= -1):GK prog 123 #[Pl A n c,ae aj (i:Int),ae aj a] w (PRo w (-1) (n-1)):=by
 have R:=sH h;rcases o with rfl|rfl
 .go_enter func123,ntmps123
  have u:IK ((i:Int)+1)=(i:Int)+1:=IntWalk.wrap64_in _ aq;go_wp2;go_loopg[7](n+2)(λgg v7 wr=>∃(x:Int),v7=ae aj x/\-1<=x/\x<=n/\((n:Int)-x).toNat<gg/\ak (az w wr))
  .exact⟨_,rfl,aq,aq,aq,cJ⟩
  obtain⟨x,rfl,p,v,s,BE⟩:=hrel;by_cases t:0<=x;rotate_left
  .exact YD
  by_cases j:x<n;rotate_left
  .exact YD
  obtain⟨k,rfl⟩:∃k:Nat,x=k:=⟨x.toNat,aq⟩;obtain⟨r,z,rfl,f,m⟩:=(R.o.ar BE.o).iw.get (show k<n by omega);have g:=sH f;go_wp2_with fail;refine(nt z wr g.o).mono ?_;rintro e y ⟨q,rfl,d⟩;have b:=BE.t d;cases B:(q !=5)
  .have l:IK ((k:Int)+1)=(k:Int)+1:=IntWalk.wrap64_in _ aq
   go_wp2;go_roundg(gk-1)
   .exact⟨_,rfl,aq,aq,aq,b⟩
   omega
  .go_wp2
   go_ret;exact⟨_,rfl,aq,aq,b.o⟩
 .go_enter func123,ntmps123
  have u:IK ((i:Int)+(-1))=(i:Int)+(-1):=IntWalk.wrap64_in _ aq;go_wp2;go_loopg[7](n+2)(λgg v7 wr=>∃(x:Int),v7=ae aj x/\-1<=x/\x<=n/\(x+1).toNat<gg/\ak (az w wr))
  .exact⟨_,rfl,aq,aq,aq,cJ⟩
  obtain⟨x,rfl,p,v,s,BE⟩:=hrel;by_cases t:0<=x;rotate_left
  .exact YD
  by_cases j:x<n;rotate_left
  .exact YD
  obtain⟨k,rfl⟩:∃k:Nat,x=k:=⟨x.toNat,aq⟩;obtain⟨r,z,rfl,f,m⟩:=(R.o.ar BE.o).iw.get (show k<n by omega);have g:=sH f;go_wp2_with fail;refine(nt z wr g.o).mono ?_;rintro e y ⟨q,rfl,d⟩;have b:=BE.t d;cases B:(q !=5)
  .have l:IK ((k:Int)+(-1))=(k:Int)+(-1):=IntWalk.wrap64_in _ aq
   go_wp2;go_roundg(gk-1)
   .exact⟨_,rfl,aq,aq,aq,b⟩
   omega
  .go_wp2
   go_ret;exact⟨_,rfl,aq,aq,b.o⟩
def yr(a b:Int)(w:EE)(i:Wf .i32 a)(h:Wf .i32 b):GK prog 124 #[.int .i32 a,.int .i32 b] w (PB w):=by
 have⟨j,g⟩:=K' i h;go_enter func124,ntmps124;go_wp2_with fail;refine(nt a w j.o).mono ?_;rintro e k ⟨x,rfl,l⟩;have f:=sH l;go_wp2_with fail;refine(nt b k g.o).mono ?_;rintro e m ⟨y,rfl,d⟩;have c:=f.t d;go_wp2_with fail
 all_goals
  go_ret;exact⟨_,rfl,c.o⟩
def PJz(w:EE)(e:IS)(c:EE):Prop:=∃(a b:Bool),e=RE (P8 #[PF a,PF b])/\az w c
def joT(d:Option Tmp):Option (EN->Prop):=if d=OH 41 then OH SB else if d=OH 54 then OH SB else OJ
def Xd(A:aB)(n c:Nat)(ts:aC)(i:Nat)(w:EE)(h:aJ .i32 w A n c ts)(U:n<=10000)(hi:i<n):GK prog 55 #[Pl A n c,ae aj (i:Int)] w (PJz w):=by
 have R:ak _:=⟨h⟩;clear h;have i0:decide ((i:Int)<0)=OZ:=iY;have i1:decide ((n:Int)<=(i:Int))=OZ:=iY;have i2:=aU i n;have i3:decide (n<=i)=OZ:=iY;obtain⟨W,z,rfl,S,G⟩:=R.o.iw.get hi;have B:ak _:=⟨S⟩;clear S;go_enter func55,ntmps55;go_wp2_with fail;refine(nt z w B.o).mono ?_;rintro e w2 ⟨q,rfl,V⟩;have D:ak _:=⟨V⟩;clear V G;cases hq:(q==5);rotate_left
 .go_wp2
  go_ret2;exact⟨_,_,rfl,D.o⟩
 have M:ak _:=⟨R.o.ar D.o⟩;go_wp2_with fail;refine(Bm (OH W) n c ts i (-1) w2 M.o U hi (.inr rfl)).mono ?_;rintro e Y ⟨a,rfl,Zg,Z,P⟩;have J:ak (az w Y):=⟨D.o.trans (P.mono D.o.size)⟩;have O:ak _:=⟨M.o.ar P⟩;clear P M D;go_wp2_with fail;refine(Bm (OH W) n c ts i 1 Y O.o U hi (.inl rfl)).mono ?_;rintro e w4 ⟨b,rfl,cX,fa,L⟩;have r:ak (az w w4):=⟨J.o.trans (L.mono J.o.size)⟩;have H:ak _:=⟨O.o.ar L⟩;clear L O J;obtain⟨v,F,j,C,G⟩:=H.o.iw.get hi;injection j with j
 subst j;have B:ak _:=⟨C⟩;have L0:=au G;clear C G;go_wp2_with fail;by_cases ha:0<=a
 .obtain⟨x,rfl⟩:∃k:Nat,a=k:=⟨a.toNat,aq⟩
  obtain⟨v,T,j,E,p⟩:=H.o.iw.get (show x<n by omega);injection j with j
  subst j;have X:ak _:=⟨E⟩;have L1:=au p;have x4:=aU x n;clear E p;by_cases hb:0<=b
  .obtain⟨y,rfl⟩:∃k:Nat,b=k:=⟨b.toNat,aq⟩
   obtain⟨v,N,j,m,p⟩:=H.o.iw.get (show y<n by omega);injection j with j
   subst j;have Q:ak _:=⟨m⟩;have L2:=au p;have y4:=aU y n;clear m p;refine aE joT aF aF ?_;refine ak.o ?_
   repeat first
    |(refine bG aD aD aD ?_;intro u d;go_big_quiet_op;refine d _ ?_)
    |(refine a7 aD ?_;simp[Act.put])
   refine⟨?_⟩;refine cK SB aD aD (λI f=> ?_) (λK g=> ?_)
   .obtain⟨l,rfl⟩:=f
    go_simp;exact bP (yr T F l.1 X.o B.o)
   obtain⟨b,rfl⟩:=g;simp[Act.put];refine ak.o ?_
   repeat first
    |(refine bG aD aD aD ?_;intro u d;go_big_quiet_op;refine d _ ?_)
    |(refine a7 aD ?_;simp[Act.put])
   refine⟨?_⟩;refine cK SB aD aD (λI f=> ?_) (λK g=> ?_)
   .obtain⟨l,rfl⟩:=f
    go_simp;exact bP (yr F N l.1 B.o Q.o)
   obtain⟨b,rfl⟩:=g;simp[Act.put];refine ak.o ?_
   repeat first
    |(refine bG aD aD aD ?_;intro u d;go_big_quiet_op;refine d _ ?_)
    |(refine a7 aD ?_;simp[Act.put])
   refine⟨?_⟩;intro l;obtain⟨s,o⟩:=l
   try dsimp only
   have t:ak (az w s):=⟨r.o.trans (o.mono r.o.size)⟩;clear o;go_wp2;go_ret2;exact⟨_,_,rfl,t.o⟩
  .refine aE joT aF aF ?_
   refine ak.o ?_
   repeat first
    |(refine bG aD aD aD ?_;intro u d;go_big_quiet_op;refine d _ ?_)
    |(refine a7 aD ?_;simp[Act.put])
   refine⟨?_⟩;refine cK SB aD aD (λI f=> ?_) (λK g=> ?_)
   .obtain⟨l,rfl⟩:=f
    go_simp;exact bP (yr T F l.1 X.o B.o)
   obtain⟨b,rfl⟩:=g;simp[Act.put];refine ak.o ?_
   repeat first
    |(refine bG aD aD aD ?_;intro u d;go_big_quiet_op;refine d _ ?_)
    |(refine a7 aD ?_;simp[Act.put])
   refine⟨?_⟩;intro l;obtain⟨s,o⟩:=l
   try dsimp only
   have t:ak (az w s):=⟨r.o.trans (o.mono r.o.size)⟩;clear o;go_wp2;go_ret2;exact⟨_,_,rfl,t.o⟩
 .by_cases hb:0<=b
  .obtain⟨y,rfl⟩:∃k:Nat,b=k:=⟨b.toNat,aq⟩
   obtain⟨v,N,j,m,p⟩:=H.o.iw.get (show y<n by omega);injection j with j
   subst j;have Q:ak _:=⟨m⟩;have L2:=au p;have y4:=aU y n;clear m p;refine aE joT aF aF ?_;refine ak.o ?_
   repeat first
    |(refine bG aD aD aD ?_;intro u d;go_big_quiet_op;refine d _ ?_)
    |(refine a7 aD ?_;simp[Act.put])
   refine⟨?_⟩;refine cK SB aD aD (λI f=> ?_) (λK g=> ?_)
   .obtain⟨l,rfl⟩:=f
    go_simp;exact bP (yr F N l.1 B.o Q.o)
   obtain⟨b,rfl⟩:=g;simp[Act.put];refine ak.o ?_
   repeat first
    |(refine bG aD aD aD ?_;intro u d;go_big_quiet_op;refine d _ ?_)
    |(refine a7 aD ?_;simp[Act.put])
   refine⟨?_⟩;intro l;obtain⟨s,o⟩:=l
   try dsimp only
   have t:ak (az w s):=⟨r.o.trans (o.mono r.o.size)⟩;clear o;go_wp2;go_ret2;exact⟨_,_,rfl,t.o⟩
  .refine aE joT aF aF ?_
   refine ak.o ?_
   repeat first
    |(refine bG aD aD aD ?_;intro u d;go_big_quiet_op;refine d _ ?_)
    |(refine a7 aD ?_;simp[Act.put])
   refine⟨?_⟩;intro l;obtain⟨s,o⟩:=l
   try dsimp only
   have t:ak (az w s):=⟨r.o.trans (o.mono r.o.size)⟩;clear o;go_wp2;go_ret2;exact⟨_,_,rfl,t.o⟩
def kl(s:G:=by
 go_wp2
 go_roundg(n-i)
 .exact⟨i+1,aq,aq,aV,⟨O5.o _⟩,⟨B5.o _⟩⟩
 omega):G:=s
def Xh(A:aB)(n c:Nat)(ts:aC)(w:EE)(h:aJ .i32 w A n c ts)(P:n<=10000):GK prog 19 #[Pl A n c] w (Nw w 3 .i64 aK n):=by
 have R:=sH h;clear h;have N:ak ((prog.info? 3).map (·.zero)=OH (OH (ae aj 0))):=⟨aF⟩;go_enter func19,ntmps19;go_wp2_with (refine dx (p:=aK) l5 N.o trivial rfl (.tmp 9) (.tmp 9) rfl n rfl rfl rfl rfl aq w.heap.size cr ?_;intro g T o1 x;have D:=sH o1;have B:=sH x;clear o1 x);go_loopg[4,5,6,7](n+1)(λgg v4 _ _ _ wr=>∃(i:Nat),n-i<gg/\i<=n/\v4=ae aj (i:Int)/\ak (Ow wr w.heap.size 3 .i64 aK (OH ⟨g,0,OJ⟩) n n)/\ak (az w wr))
 .exact⟨0,aq,aq,rfl,D,B⟩
 clear D B;obtain⟨i,S,hi,rfl,r,l⟩:=hrel;by_cases d:i<n;rotate_left
 .have M:=cI i n
  go_wp2;go_ret;exact⟨_,_,rfl,r.o,l.o⟩
 have M:=aU i n;obtain⟨L,z,rfl,y,J⟩:=(R.o.ar l.o).iw.get d;have K:=sH y;clear y;go_wp2_with fail;refine(nt z wr K.o).mono ?_;rintro e H ⟨q,rfl,m⟩;have k:=l.t m;have s:=sH (r.o.ar m);clear m J r l;go_upto_region 6 with fail;go_cut[31](λv O=>(∃b:Bool,v=PF b)/\H=O)
 case first=>
  cases Q:(q !=1)
  .go_wp2
   go_meet;exact⟨⟨_,rfl⟩,rfl⟩
  .cases U:(q !=2)
   .go_wp2
    go_meet;exact⟨⟨_,rfl⟩,rfl⟩
   .go_wp2
    go_meet;exact⟨⟨_,rfl⟩,rfl⟩
 case rest=>
 obtain⟨⟨b,rfl⟩,rfl⟩:=hcut;cases b;rotate_left
 .go_wp2
  go_roundg(n-i)
  .exact⟨i+1,aq,aq,aV,s,k⟩
  omega
 have C:=sH (R.o.ar k.o);go_wp2_with fail;refine(Xd (OH L) n c ts i H C.o P d).mono ?_;rintro e t ⟨a,b,rfl,o⟩;have u:=k.t o;have j:=sH (s.o.ar o);clear o C k s;obtain⟨I,_,E⟩:=j.o.get d;have f0:=j.o.fz i;have f:ak (Ow (t.setCell ⟨g,i,OJ⟩ (ae aj 1)) w.heap.size 3 .i64 aK (OH ⟨g,0,OJ⟩) n n):=⟨j.o.set i trivial⟩;have G:ak (az w (t.setCell ⟨g,i,OJ⟩ (ae aj 1))):=⟨Below.setCell u.o (p:=⟨g,i,OJ⟩) j.o.lt.1 _⟩;go_upto_region 9 with fail;clear E f0 j u;generalize t.setCell ⟨g,i,OJ⟩ (ae aj 1)=F at*;obtain⟨I,_,E⟩:=f.o.get d;have f0:=f.o.fz i;have O5:ak (∀v,Ow (F.setCell ⟨g,i,OJ⟩ (ae aj v)) w.heap.size 3 .i64 aK (OH ⟨g,0,OJ⟩) n n):=⟨λv=>f.o.set i trivial⟩;have B5:ak (∀v,az w (F.setCell ⟨g,i,OJ⟩ (ae aj v))):=⟨λv=>Below.setCell G.o (p:=⟨g,i,OJ⟩) f.o.lt.1 _⟩;cases a<;>cases b
 .go_wp2
  go_roundg(n-i)
  .exact⟨i+1,aq,aq,aV,f,G⟩
  omega
 .exact kl
 .exact kl
 .exact kl
