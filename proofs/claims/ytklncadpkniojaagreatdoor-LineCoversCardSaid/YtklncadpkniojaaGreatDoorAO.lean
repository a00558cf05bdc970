/- Part of LineCovers. -/
import Derived.Test.YtklncadpkniojaaGreatDoorAL
import Derived.Lib.ConvBytes
import Derived.Lib.AtoiErrMem
namespace Go.Proofs.YtklncadpkniojaaGreatDoor
open Go.ChangeShapes Go.WideShapes Go.ChangeAt Go.RowKit Go.Proofs.Tryz
open Go renaming World->ahh,Value->ahj,Calls->ahk,TypeId->ahm,Ending->ahn
open Go.RowKit renaming wrap64->ahl
open Go.Value renaming int->ae
open Go.IntKind renaming i64->aj
set_option linter.all false
set_option maxRecDepth 100000
set_option maxHeartbeats 16000000
variable{G:Prop}
def PRo(w:ahh)(lo b:Int)(e:ahn)(a:ahh):Prop:=∃z:Int,e=.returned (ae aj z)/\lo<=z/\z<=b/\az w a
theorem yO(A:aA)(n c:Nat)(ts:aC)(i:Nat)(w:ahh)(h:aM .i32 w A n c ts)(C:n<=10000)(v:i<=n):ahk prog 193 #[.slice A n c,ae aj (i:Int)] w (PRo w (-1) (i-1)):=by
 have R:=sH h;go_enter func193,ntmps193;have p:ahl ((i:Int)-1)=(i:Int)-1:=IntWalk.wrap64_in _ ak;go_wp2;go_loopg[1](i+2)(fun gg g wr=>∃(x:Int),g=ae aj x/\-1<=x/\x<=(i:Int)-1/\(x+1).toNat<gg/\aq (az w wr))
 .exact⟨_,rfl,ak,ak,ak,cA⟩
 obtain⟨x,rfl,d,b,r,a⟩:=hrel;by_cases u:0<=x;rotate_left
 .go_wp2
  go_ret;exact⟨_,rfl,d,b,a.o⟩
 obtain⟨k,rfl⟩:∃k:Nat,x=k:=⟨x.toNat,ak⟩;obtain⟨B,z,rfl,j,o⟩:=(R.o.ar a.o).iw.get (show k<n by omega);have l:=sH j;have k4:=aU k n;have s:ahl ((k:Int)-1)=(k:Int)-1:=IntWalk.wrap64_in _ ak;go_wp2_with fail;refine(mR z _ l.o).mono ?_;rintro e t ⟨q,rfl,m⟩;have f:=a.t m;cases y:(q==4)
 .go_wp2
  go_ret;exact⟨_,rfl,d,b,f.o⟩
 .go_wp2
  go_roundg(gk-1)
  .exact⟨_,rfl,ak,ak,ak,f⟩
  omega
theorem abl(A:aA)(n c:Nat)(ts:aC)(i:Nat)(w:ahh)(h:aM .i32 w A n c ts)(J:n<=10000)(H:i<n):ahk prog 194 #[.slice A n c,ae aj (i:Int)] w (PRo w 0 i):=by
 have R:=sH h;clear h;go_enter func194,ntmps194;go_wp2;go_loopg[1](i+1)(fun gg v wr=>∃(k:Nat),v=ae aj (k:Int)/\k<=i/\k<gg/\aq (az w wr))
 .exact⟨i,rfl,ak,ak,cA⟩
 obtain⟨k,rfl,I,E,j⟩:=hrel;rcases k with _|k
 .go_wp2
  go_ret;exact⟨_,rfl,ak,ak,j.o⟩
 obtain⟨t,z,rfl,s,f⟩:=(R.o.ar j.o).iw.get (show k+1<n by omega);have C:=sH s;have k2:(0:Int)<(k:Int)+1:=ak;have k4:(k:Int)+1<(n:Int):=ak;have f:wr.cell? {block:=t.block,off:=t.off+(k+1)}=some (.int .i32 z):=f;clear s;go_wp2_with fail;refine(mR z _ C.o).mono ?_;rintro e F ⟨q,rfl,p⟩;have d:=j.t p;clear p f;go_wp2_with fail;refine(xo q _).mono ?_;rintro e u ⟨⟨b,rfl⟩,rfl⟩;cases b
 .go_wp2
  go_ret;exact⟨_,rfl,ak,ak,d.o⟩
 obtain⟨B,y,m,a,D⟩:=(R.o.ar d.o).iw.get (show k<n by omega);injection m with m
 subst m;have l:=sH a;have wk:ahl (k:Int)=(k:Int):=IntWalk.wrap64_in _ ak;have k0:=ie k;have k1:=aU k n;clear a;go_wp2_with fail;refine(mR y _ l.o).mono ?_;rintro e x ⟨G,rfl,o⟩;have g:=d.t o;clear o D d;go_wp2_with fail;go_at_call 104;refine(ou _ _ _ _ _ Xh cr).mono ?_;rintro e u ⟨⟨b,rfl⟩,rfl⟩;have r:aq (az w (x.alloc (.cells #[ae aj 1,ae aj 2,ae aj 3,ae aj 4,ae aj 5] 3))):=⟨g.o.alloc g.o.size _⟩;clear g;cases b
 .go_wp2
  go_roundg(gk-1)
  .exact⟨k,aT,ak,ak,r⟩
  omega
 .go_wp2
  go_ret;exact⟨_,rfl,ak,ak,r.o⟩
theorem SR(A C:aA)(n c d:Nat)(ts:aC)(i:Nat)(w:ahh)(h:aM .i32 w A n c ts)(k:Iw w w.heap.size .i64 aH C n)(J:n<=10000)(F:i<=n):ahk prog 110 #[.slice A n c,.slice C n d,ae aj (i:Int)] w (PI w):=by
 have R:=sH h;have S:=sH k;clear h k;go_enter func110,ntmps110;have r:ahl ((i:Int)-1)=(i:Int)-1:=IntWalk.wrap64_in _ ak;go_wp2;go_loopg[7,8](i+2)(fun gg v7 l wr=>∃(x u:Int),v7=ae aj u/\l=ae aj x/\-1<=x/\x<=(i:Int)-1/\(x+1).toNat<gg/\aq (az w wr))
 .exact⟨_,_,rfl,rfl,ak,ak,ak,cA⟩
 obtain⟨x,u,rfl,rfl,H,E,s,a⟩:=hrel;by_cases D:0<=x;rotate_left
 .go_wp2
  go_ret;exact⟨_,rfl,a.o⟩
 obtain⟨k,rfl⟩:∃k:Nat,x=k:=⟨x.toNat,ak⟩;obtain⟨I,z,rfl,b,j⟩:=(R.o.ar a.o).iw.get (show k<n by omega);obtain⟨m,y,rfl,_,p⟩:=(S.o.Z a.o a.o.size).get (show k<n by omega);have o:=sH b;have k4:=aU k n;have t:ahl ((k:Int)-1)=(k:Int)-1:=IntWalk.wrap64_in _ ak;clear b;cases v:(y==29)
 .go_wp2
  go_ret;exact⟨_,rfl,a.o⟩
 go_wp2_with fail;refine(mR z _ o.o).mono ?_;rintro e B ⟨q,rfl,g⟩;have f:=a.t g;clear g j p;cases G:(q==29)
 .go_wp2
  go_roundg(gk-1)
  .exact⟨_,_,rfl,rfl,ak,ak,ak,f⟩
  omega
 .go_wp2
  generalize ahl (u+1)=u2;go_roundg(gk-1)
  .exact⟨_,_,rfl,rfl,ak,ak,ak,f⟩
  omega
def PHd(w:ahh)(e:ahn)(a:ahh):Prop:=∃(z:Int) (b:Bool),e=.returned (.tuple #[ae aj z,.bool b])/\az w a
def hdT(d:Option Tmp):Option (ahj->Prop):=if d=some 14 then some SI else if d=some 19 then some SI else none
theorem Xv(s:G:=by
 go_wp2
 go_ret2;exact⟨_,_,rfl,B6.o⟩):G:=s
theorem aac(A:aA)(n c:Nat)(ts:aC)(i:Nat)(w:ahh)(h:aM .i32 w A n c ts)(U:n<=10000)(Y:i+1<n):ahk prog 105 #[.slice A n c,ae aj ((i:Int)+1)] w (PHd w):=by
 have R:=sH h;clear h;go_enter func105,ntmps105;have wk:ahl (i:Int)=(i:Int):=IntWalk.wrap64_in _ ak;have k0:=ie i;have k1:=aU i n;have k2:(i:Int)+1<(n:Int):=ak;obtain⟨K,z,rfl,G,m⟩:=R.o.iw.get (show i<n by omega);obtain⟨B,H,f,j,t⟩:=R.o.iw.get (show i+1<n by omega);injection f with f
 subst f;have T:=sH G;have y:=sH j;have t:w.cell? {block:=K.block,off:=K.off+(i+1)}=some (.int .i32 H):=t;have⟨L0,L1⟩:=lc2 m t;clear G j m t;go_wp2;refine aD hdT aF aF ?_;refine mSk ?_;refine lsA SI (fun l=> ?_) (fun M d=> ?_)
 .go_simp
  exact ed (mR z l.1 T.o)
 obtain⟨a,rfl⟩:=d;simp[Act.put];refine mSk ?_;refine lsA SI (fun l=> ?_) (fun M d=> ?_)
 .go_simp
  exact ed (mR H l.1 y.o)
 obtain⟨b,rfl⟩:=d;simp[Act.put];refine mSk ?_;intro l;obtain⟨J,F⟩:=l
 try dsimp only
 have x:=sH F;clear F L0 L1 k0 k1 wk;go_wp2_with fail;go_at_call 104;refine(ou _ _ _ _ _ Xh cr).mono ?_;rintro e C ⟨⟨q,rfl⟩,rfl⟩;have r:aq (az w (J.alloc (.cells #[ae aj 1,ae aj 3,ae aj 2] 3))):=⟨x.o.alloc x.o.size _⟩;generalize J.alloc (.cells #[ae aj 1,ae aj 3,ae aj 2] 3)=I at*;clear x;cases q;rotate_left
 .go_wp2
  go_ret2;exact⟨_,_,rfl,r.o⟩
 go_wp2_with fail;go_at_call 104;refine(ou _ _ _ _ _ Xh cr).mono ?_;rintro e C ⟨⟨q,rfl⟩,rfl⟩;have o:aq (az w (I.alloc (.cells #[ae aj 1,ae aj 2,ae aj 3,ae aj 4,ae aj 5] 3))):=⟨r.o.alloc r.o.size _⟩;generalize I.alloc (.cells #[ae aj 1,ae aj 2,ae aj 3,ae aj 4,ae aj 5] 3)=P at*;clear r;cases q;rotate_left
 .go_wp2
  go_ret2;exact⟨_,_,rfl,o.o⟩
 have D:=sH (R.o.ar o.o);go_wp2_with fail;refine(yO _ n c ts (i+1) P D.o U ak).mono ?_;rintro e V ⟨s,rfl,S,Q,E⟩;have p:=o.t E;clear E o D;go_upto_region 7 with fail;go_cut[38](fun v O=>(∃b:Bool,v=.bool b)/\aq (az w O))
 case first=>
  by_cases X:0<=s;rotate_left
  .go_wp2
   go_meet;exact⟨⟨_,rfl⟩,p⟩
  obtain⟨k,rfl⟩:∃k:Nat,s=k:=⟨s.toNat,ak⟩;obtain⟨B,N,f,g,m⟩:=(R.o.ar p.o).iw.get (show k<n by omega);injection f with f
  subst f;have u:=sH g;have k4:=aU k n;clear g;go_wp2_with fail;refine(mR N _ u.o).mono ?_;rintro e Z ⟨q,rfl,L⟩;have B6:=p.t L;clear L m;go_wp2;go_meet;exact⟨⟨_,rfl⟩,B6⟩
 case rest=>
 obtain⟨⟨q,rfl⟩,B6⟩:=hcut;clear p;cases q;rotate_left
 .exact Xv
 cases W:(a==9)
 .go_wp2_with fail
  refine(xo b _).mono ?_;rintro e C ⟨⟨q,rfl⟩,rfl⟩;cases q
  .exact Xv
  .exact Xv
 .exact Xv
theorem Kf(s:G:=by
 go_wp2_with fail
 all_goals
  go_meet;exact⟨⟨_,rfl⟩,rfl⟩):G:=s
theorem Kl(s:G:=by
 go_wp2
 go_ret2;exact⟨_,_,rfl,B6.o⟩):G:=s
theorem Xq(s:G:=by
 go_wp2
 go_ret2;exact⟨_,_,rfl,BE.o⟩):G:=s
theorem Ve(A C:aA)(n c d:Nat)(ts:aC)(i:Nat)(w:ahh)(h:aM .i32 w A n c ts)(k:Iw w w.heap.size .i64 aH C n)(M:n<=10000)(hi:i+1<n):ahk prog 106 #[.slice A n c,.slice C n d,ae aj ((i:Int)+1)] w (PHd w):=by
 have R:=sH h;have S:=sH k;go_enter func106,ntmps106;have wk:ahl (i:Int)=(i:Int):=IntWalk.wrap64_in _ ak;have k0:(0:Int)<=(i:Int):=Int.natCast_nonneg i;have k1:(i:Int)<(n:Int):=Ia;have k2:(i:Int)+1<(n:Int):=Ia;obtain⟨adc,a,rfl,_,l⟩:=S.o.get (show i<n by clear wk;omega);obtain⟨F,b,g,_,y⟩:=S.o.get (show i+1<n by clear wk;omega);injection g with g
 subst g;have y:w.cell? {block:=adc.block,off:=adc.off+(i+1)}=some (ae aj b):=y;have⟨L0,L1⟩:=lc2 l y;go_wp2;refine aD (fun _=>none) aF aF ?_;refine mSk ?_;rintro X ⟨⟨_,Q⟩,rfl⟩
 try dsimp only
 have BE:=sH Q;cases q1:(a==6);rotate_left
 .exact Xq
 cases W:(b==6);rotate_left
 .exact Xq
 cases Y:(a==7);rotate_left
 .exact Xq
 go_upto_region 4 with fail;go_cut[38](fun v f=>(∃b:Bool,v=.bool b)/\aq (az w f))
 case first=>
  cases q4:(b==7)
  all_goals go_wp2_with fail
  repeat' (go_at_call 104;refine(ou _ _ _ _ _ aeu cr).mono ?_;rintro e P ⟨⟨b,rfl⟩,rfl⟩;cases b<;>go_wp2_with fail)
  all_goals
   go_meet;exact⟨⟨_,rfl⟩,⟨by repeat(first|exact BE.o|exact Below.alloc BE.o BE.o.size _|refine Below.alloc ?_ Bn _)⟩⟩
 case rest=>
 obtain⟨⟨q,rfl⟩,j⟩:=hcut;have BE:=j
 rename ahh=>f
 cases q;rotate_left
 .go_wp2
  (go_ret2;exact⟨_,_,rfl,BE.o⟩)
 go_upto_region 6 with fail;go_cut[41](fun v f=>(∃b:Bool,v=.bool b)/\aq (az w f))
 case first=>
  skip
  all_goals go_wp2_with fail
  repeat' (go_at_call 104;refine(ou _ _ _ _ _ aeu cr).mono ?_;rintro e P ⟨⟨b,rfl⟩,rfl⟩;cases b<;>go_wp2_with fail)
  all_goals
   go_meet;exact⟨⟨_,rfl⟩,⟨by repeat(first|exact BE.o|exact Below.alloc BE.o BE.o.size _|refine Below.alloc ?_ Bn _)⟩⟩
 case rest=>
 obtain⟨⟨q,rfl⟩,j⟩:=hcut;have BE:=j
 rename ahh=>f
 cases q;rotate_left
 .go_wp2
  (go_ret2;exact⟨_,_,rfl,BE.o⟩)
 have G:=sH (R.o.ar BE.o);go_wp2_with fail;refine(yO _ n c ts (i+1) f G.o M ak).mono ?_;rintro e O ⟨s,rfl,V,U,H⟩;have T:=BE.t H;have BE:=T;by_cases J:0<=s;rotate_left
 .have N:decide (0<=s)=false:=by simpa using J
  obtain⟨r,z,rfl,t,l⟩:=(R.o.ar BE.o).iw.get (show i<n by omega);have m:=sH t;have k0:(0:Int)<=(i:Int):=Int.natCast_nonneg i;have k1:=aU i n;have wk:ahl (i:Int)=(i:Int):=IntWalk.wrap64_in _ ak;go_wp2_with fail;refine(mR z _ m.o).mono ?_;rintro e K ⟨p,rfl,o⟩;have B6:=BE.t o;cases E:(p==4);rotate_left
  .exact Kl
  cases x:(a==19)
  .exact Kl
  .exact Kl
 obtain⟨k,rfl⟩:∃k:Nat,s=k:=⟨s.toNat,ak⟩;obtain⟨D,u,g,_,l⟩:=(S.o.Z BE.o BE.o.size).get (show k<n by omega);injection g with g
 subst g;have k4:=aU k n;go_upto_region 11 with fail;go_cut[72](fun v f=>(∃b:Bool,v=.bool b)/\O=f)
 case first=>
  cases Z:(u==18)
  .cases B:(u==19)
   .cases I:(u==13)
    .cases L:(u==14)
     .exact Kf
     .exact Kf
    .exact Kf
   .have I:(u==13)=false:=by have h:=B;simp at h;subst h;rfl
    have E:(u==14)=false:=by have h:=B;simp at h;subst h;rfl
    cases L:(b==18)
    .exact Kf
    .exact Kf
  .exact Kf
 case rest=>
 obtain⟨⟨q,rfl⟩,rfl⟩:=hcut;cases q;rotate_left
 .exact Xq
 obtain⟨r,z,rfl,t,l⟩:=(R.o.ar BE.o).iw.get (show i<n by omega);have m:=sH t;have k0:(0:Int)<=(i:Int):=Int.natCast_nonneg i;have k1:=aU i n;have wk:ahl (i:Int)=(i:Int):=IntWalk.wrap64_in _ ak;go_wp2_with fail;refine(mR z _ m.o).mono ?_;rintro e K ⟨p,rfl,o⟩;have B6:=BE.t o;cases E:(p==4);rotate_left
 .exact Kl
 cases x:(a==19)
 .exact Kl
 .exact Kl
theorem Kk(s:G:=by
 go_wp2_with fail
 all_goals
  go_meet;exact⟨⟨_,rfl⟩,rfl⟩):G:=s
theorem Ts(A C:aA)(n c d:Nat)(ts:aC)(i:Nat)(w:ahh)(h:aM .i32 w A n c ts)(k:Iw w w.heap.size .i64 aH C n)(M:n<=10000)(hi:i+1<n):ahk prog 107 #[.slice A n c,.slice C n d,ae aj ((i:Int)+1)] w (PB w):=by
 have R:=sH h;have S:=sH k;clear h k;go_enter func107,ntmps107;have wk:ahl (i:Int)=(i:Int):=IntWalk.wrap64_in _ ak;have k0:(0:Int)<=(i:Int):=Int.natCast_nonneg i;have k1:(i:Int)<(n:Int):=Ia;have k2:(i:Int)+1<(n:Int):=Ia;obtain⟨adc,a,rfl,_,D⟩:=S.o.get (show i<n by clear wk;omega);obtain⟨J,b,m,_,z⟩:=S.o.get (show i+1<n by clear wk;omega);injection m with m
 subst m;have z:w.cell? {block:=adc.block,off:=adc.off+(i+1)}=some (ae aj b):=z;have⟨L0,L1⟩:=lc2 D z;clear D z;go_wp2;refine aD (fun _=>none) aF aF ?_;refine mSk ?_;rintro K ⟨⟨_,H⟩,rfl⟩
 try dsimp only
 have BE:aq (az w K):=⟨H⟩;clear H L0 L1 k0 k1 wk k2;go_upto_region 2 with fail;go_cut[36](fun v f=>(∃b:Bool,v=.bool b)/\aq (az w f))
 case first=>
  (cases Z:(a==11);cases V:(a==24))
  all_goals go_wp2_with fail
  repeat' (go_at_call 104;refine(ou _ _ _ _ _ Xs cr).mono ?_;rintro e B ⟨⟨b,rfl⟩,rfl⟩;cases b<;>go_wp2_with fail)
  all_goals
   go_meet;exact⟨⟨_,rfl⟩,⟨by repeat(first|exact BE.o|exact Below.alloc BE.o BE.o.size _|refine Below.alloc ?_ Bn _)⟩⟩
 case rest=>
 obtain⟨⟨q,rfl⟩,g⟩:=hcut;clear BE;have BE:=g;clear g
 rename ahh=>f
 cases q;rotate_left
 .go_wp2
  go_ret;exact⟨_,rfl,BE.o⟩
 have E:=sH (R.o.ar BE.o);have wk:ahl (i:Int)=(i:Int):=IntWalk.wrap64_in _ ak;go_wp2_with fail;clear wk;refine(abl _ n c ts i f E.o M ak).mono ?_;rintro e N ⟨s,rfl,Q,O,F⟩;have I:=BE.t F;clear F BE E;have BE:=I;clear I;obtain⟨r,rfl⟩:∃r:Nat,s=r:=⟨s.toNat,ak⟩;go_upto_region 5 with fail;go_cut[58](fun v f=>(∃b:Bool,v=.bool b)/\N=f)
 case first=>
  rcases r with _|r
  .cases L:(a==12)
   .cases q4:(a==10)
    .exact Kk
    .exact Kk
   .exact Kk
  .obtain⟨G,u,m,_,D⟩:=(S.o.Z BE.o BE.o.size).get (show r<n by omega)
   injection m with m
   subst m;have k4:=aU r n;have U:(0:Int)<=(r:Int):=Int.natCast_nonneg r;have X:(0:Int)<(r:Int)+1:=ak;have wr:ahl (r:Int)=(r:Int):=IntWalk.wrap64_in _ ak;cases L:(a==12)
   .cases q4:(a==10)
    .exact Kk
    .exact Kk
   .exact Kk
 case rest=>
 obtain⟨⟨q,rfl⟩,rfl⟩:=hcut;cases q;rotate_left
 .go_wp2
  go_ret;exact⟨_,rfl,BE.o⟩
 rename ahh=>f
 have L0:=Lt.new f #[ae aj 0,ae aj 28] 3 2 _ rfl rfl rfl;have l:=av f (.cells #[ae aj 0,ae aj 28] 3);go_upto_region 8 with fail;generalize f.alloc (.cells #[ae aj 0,ae aj 28] 3)=y at*;have LT:aq (Lt y _ 2):=⟨L0⟩;have o:=BE.t l;clear BE L0 l;have BE:aq (az y y):=cA;go_upto_region 8 with fail;go_cut[75](fun v f=>(∃b:Bool,v=.bool b)/\aq (az y f))
 case first=>
  (cases Y:(b==21)<;>cases W:(a==21))
  all_goals go_wp2_with fail
  repeat' (go_at_call 104;refine(ou _ _ _ _ _ Xs cr).mono ?_;rintro e B ⟨⟨b,rfl⟩,rfl⟩;cases b<;>go_wp2_with fail)
  all_goals
   go_meet;exact⟨⟨_,rfl⟩,⟨by repeat(first|exact BE.o|exact Below.alloc BE.o BE.o.size _|refine Below.alloc ?_ Bn _)⟩⟩
 case rest=>
 obtain⟨⟨q,rfl⟩,g⟩:=hcut;clear BE;have BE:=g;clear g
 rename ahh=>f
 cases q;rotate_left
 .go_wp2
  go_ret;exact⟨_,rfl,o.o.trans (BE.o.mono o.o.size)⟩
 have L0:=Lt.new f #[ae aj 25,ae aj 26,ae aj 27] 3 3 _ rfl rfl rfl;have l:=av f (.cells #[ae aj 25,ae aj 26,ae aj 27] 3);go_upto_region 11 with fail;generalize f.alloc (.cells #[ae aj 25,ae aj 26,ae aj 27] 3)=t at*;have LU:aq (Lt t _ 3):=⟨L0⟩;have j:aq (Lt t _ 2):=⟨(LT.o.ar BE.o).ar l⟩;have p:aq (az w t):=⟨(o.o.trans (BE.o.mono o.o.size)).trans (l.mono (by have:=BE.o.size;have:=o.o.size;omega))⟩;clear BE L0 l LT o;have LT:=j;clear j;have BE:aq (az t t):=cA;go_upto_region 11 with fail;go_cut[92](fun v f=>(∃b:Bool,v=.bool b)/\aq (az t f))
 case first=>
  cases T:(a==23)
  all_goals go_wp2_with fail
  repeat' (go_at_call 104;refine(ou _ _ _ _ _ Xs cr).mono ?_;rintro e B ⟨⟨b,rfl⟩,rfl⟩;cases b<;>go_wp2_with fail)
  all_goals
   go_meet;exact⟨⟨_,rfl⟩,⟨by repeat(first|exact BE.o|exact Below.alloc BE.o BE.o.size _|refine Below.alloc ?_ Bn _)⟩⟩
 case rest=>
 obtain⟨⟨q,rfl⟩,g⟩:=hcut;clear BE;have BE:=g;clear g
 rename ahh=>f
 cases q;rotate_left
 .go_wp2
  go_ret;exact⟨_,rfl,p.o.trans (BE.o.mono p.o.size)⟩
 have L0:=Lt.new f #[ae aj 23,ae aj 22] 3 2 _ rfl rfl rfl;have l:=av f (.cells #[ae aj 23,ae aj 22] 3);go_upto_region 14 with fail;generalize f.alloc (.cells #[ae aj 23,ae aj 22] 3)=x at*;have LV:aq (Lt x _ 2):=⟨L0⟩;have j:aq (Lt x _ 2):=⟨(LT.o.ar BE.o).ar l⟩;have P:aq (az w x):=⟨(p.o.trans (BE.o.mono p.o.size)).trans (l.mono (by have:=BE.o.size;have:=p.o.size;omega))⟩;clear BE L0 l LT p LU;have LT:=j;clear j;have BE:aq (az x x):=cA;go_wp2_with fail
 repeat' (go_at_call 104;refine(ou _ _ _ _ _ Xs cr).mono ?_;rintro e B ⟨⟨b,rfl⟩,rfl⟩;cases b<;>go_wp2_with fail)
 all_goals
  go_ret;exact⟨_,rfl,P.o⟩
def ac5(d:Option Tmp):Option (ahj->Prop):=if d=some 39 then some SB else if d=some 50 then some SB else if d=some 62 then some SB else none
theorem abz(s:G:=by
 simp[Act.put]
 refine mSk ?_;intro nq;obtain⟨w6,b6⟩:=nq
 try dsimp only
 have B6:=B5.t b6;go_wp2;go_ret;exact⟨_,rfl,B6.o⟩):G:=s
theorem aaT(A C:aA)(n c d:Nat)(ts:aC)(i:Nat)(w:ahh)(h:aM .i32 w A n c ts)(k:Iw w w.heap.size .i64 aH C n)(r:n<=10000)(X:i<=n):ahk prog 47 #[.slice A n c,.slice C n d,ae aj (i:Int)] w (PI w):=by
 have R:=sH h;have S:=sH k;rcases i with _|i
 .go_enter func47,ntmps47
  go_wp2;go_ret;exact⟨_,rfl,Below.refl _ _⟩
 by_cases q:i+1=n
 .subst q
  go_enter func47,ntmps47;go_wp2;go_ret;exact⟨_,rfl,Below.refl _ _⟩
 have F:decide (i+1=n)=false:=by simp[q]
 have j:i+1<n:=ak;have k2:(i:Int)+1<(n:Int):=ak;go_enter func47,ntmps47;go_wp2_with fail;refine(tf A n c ts ((i:Int)+1) w R.o ak).mono ?_;rintro e H ⟨rfl,M⟩;have s:=sH M;generalize Ks (ks ts) ((i:Int)+1)=b;cases b
 .go_wp2
  go_ret;exact⟨_,rfl,s.o⟩
 have o:=sH (R.o.ar s.o);go_wp2_with fail;refine(aac A n c ts i H o.o r j).mono ?_;rintro e P ⟨z,b,rfl,Q⟩;have p:=s.t Q;cases b;rotate_left
 .go_wp2
  go_ret;exact⟨_,rfl,p.o⟩
 have o:=sH (R.o.ar p.o);have SW:=sH (S.o.Z p.o p.o.size);go_wp2_with fail;refine(Ve A C n c d ts i P o.o SW.o r j).mono ?_;rintro e N ⟨T,b,rfl,K⟩;have B5:=p.t K;cases b;rotate_left
 .go_wp2
  go_ret;exact⟨_,rfl,B5.o⟩
 have o:=sH (R.o.ar B5.o);have SW:=sH (S.o.Z B5.o B5.o.size);obtain⟨adc,x,rfl,_,E⟩:=SW.o.get (show i<n by omega);obtain⟨l,y,f,_,m⟩:=SW.o.get j;injection f with f
 subst f;have m:N.cell? {block:=adc.block,off:=adc.off+(i+1)}=some (ae aj y):=m;have k1:=aU i n;have k0:(0:Int)<=(i:Int):=Int.natCast_nonneg i;have⟨L0,L1⟩:=lc2 E m;have wk:ahl (i:Int)=(i:Int):=IntWalk.wrap64_in _ ak;go_wp2;refine aD ac5 aF aF ?_;refine mSk ?_;refine kH SB aB aB (fun D g=> ?_) (fun B a=> ?_)
 .clear wk
  obtain⟨nq,rfl⟩:=g;go_simp;exact bg (Ts A (some adc) n c d ts i nq.1 (o.o.ar nq.2) (SW.o.Z nq.2 nq.2.size) r j)
 obtain⟨b,rfl⟩:=a;cases b;rotate_left
 .exact abz
 simp[Act.put];refine mSk ?_;refine kH SB aB aB (fun D g=> ?_) (fun B a=> ?_)
 .clear wk
  obtain⟨nq,rfl⟩:=g;go_simp;exact bg (I7 x y nq.1)
 obtain⟨b,rfl⟩:=a;cases b;rotate_left
 .exact abz
 simp[Act.put];refine mSk ?_;refine kH SB aB aB (fun D g=> ?_) (fun B a=> ?_)
 .clear wk
  obtain⟨nq,rfl⟩:=g;go_simp;exact bg (IU x y nq.1)
 obtain⟨b,rfl⟩:=a;cases b;rotate_left
 .exact abz
 simp[Act.put];refine mSk ?_;intro nq;obtain⟨w6,b6⟩:=nq
 try dsimp only
 have B6:=B5.t b6;have O:=sH (R.o.ar B6.o);have v:=sH (S.o.Z B6.o B6.o.size);obtain⟨l,L,f,_,E⟩:=v.o.get (show i<n by omega);injection f with f
 subst f;obtain⟨l,G,f,_,m⟩:=v.o.get j;injection f with f
 subst f;have m:w6.cell? {block:=adc.block,off:=adc.off+(i+1)}=some (ae aj G):=m;have wk:ahl (i:Int)=(i:Int):=IntWalk.wrap64_in _ ak;cases V:(L==29)
 .go_wp2
  go_ret;exact⟨_,rfl,B6.o⟩
 cases U:(G==29)
 .go_wp2
  go_ret;exact⟨_,rfl,B6.o⟩
 go_wp2_with fail;refine(SR A (some adc) n c d ts (i+1) w6 O.o v.o r ak).mono ?_;rintro e W ⟨u,rfl,I⟩;have J:=B6.t I;go_wp2_with fail
 all_goals
  go_ret;exact⟨_,rfl,J.o⟩
def agp(w:ahh)(n:Nat)(e:ahn)(a:ahh):Prop:=∃m,(0<n->m=n+1)/\Nw w 3 .i64 aH m e a
theorem adO(A:aA)(n c:Nat)(ts:aC)(w:ahh)(h:aM .i32 w A n c ts)(p:n<=10000):ahk prog 15 #[.slice A n c] w (agp w n):=by
 have R:=sH h;go_enter func15,ntmps15;go_wp2_with fail;refine(Kb A n c ts w R.o p).mono ?_;rintro e f ⟨C,d,rfl,B,u⟩;have b:=sH u;have E:=sH B.iw;rcases n with _|n
 .go_wp2
  go_loopg[3,5] 1 (fun gg v3 g wr=>v3=.slice none 0 0/\g=ae aj 0/\wr=f/\0<gg)
  .exact⟨rfl,rfl,rfl,ak⟩
  obtain⟨rfl,rfl,rfl,x⟩:=hrel;go_wp2;go_ret;exact⟨0,ak,_,_,rfl,Ow.nil _ _ _ _ _,b.o⟩
 go_wp2;go_loopg[3,5](n+3)(fun gg v3 g wr=>∃(i:Nat) (D:aA) (k:Nat),n+2-i<gg/\i<=n+2/\v3=.slice D i k/\g=ae aj (i:Int)/\aq (Ow wr f.heap.size 3 .i64 aH D i k)/\aq (az f wr))
 .exact⟨0,none,0,ak,ak,rfl,rfl,⟨Ow.nil _ _ _ _ _⟩,cA⟩
 obtain⟨i,D,k,x,L,rfl,rfl,q,a⟩:=hrel;by_cases j:i<=n+1;rotate_left
 .have H:¬(i:Int)<=(n:Int)+1:=by omega
  obtain rfl:i=n+2:=ak;go_wp2;go_ret;exact⟨n+2,fun _=>rfl,_,_,rfl,q.o.cJ b.o.size,b.o.trans (a.o.mono b.o.size)⟩
 have H:(i:Int)<=(n:Int)+1:=ak;have s:=b.t a.o;have t:=sH (R.o.ar s.o);have SW:=sH (E.o.Z a.o a.o.size);go_wp2_with fail;refine(aaT A C (n+1) c d ts i wr t.o SW.o p j).mono ?_;rintro e K ⟨z,rfl,r⟩;have o:=a.t r;have J:=sH (q.o.ar r);have y:=o.o.size;go_wp2_with (at_builtin;refine bO lO rfl (.tmp 19) (.tmp 24) rfl rfl (J.o.alloc _) rfl (bh _ _ _) trivial ak cw ?_;intro F c8 G m l;have v:=sH m;have I:aq (az f G):=⟨(o.o.alloc ak _).trans l⟩;clear m l);go_roundg(n+2-i)
 .exact⟨i+1,F,c8,ak,ak,rfl,aT,v,I⟩
 omega
theorem nu(r:Int)(w:ahh)(h:Wf .i32 r):ahk prog 48 #[.int .i32 r] w (PI w):=by
 obtain⟨a,b⟩:=vg h;have d:=sH (fD r a b w);go_enter func48,ntmps48;go_wp2_with fail;refine d.o.mono ?_;rintro e f ⟨rfl,c⟩;generalize(a7 r).join=bd;go_wp2;go_ret;exact⟨_,rfl,c⟩
theorem Im(s:G:=by
 go_wp2
 go_ret;exact⟨_,rfl,ak,ak,BE.o⟩):G:=s
theorem zC(A:aA)(n c:Nat)(ts:aC)(i:Nat)(a:Int)(w:ahh)(h:aM .i32 w A n c ts)(D:n<=10000)(C:i<n)(B:a=1∨a= -1):ahk prog 111 #[.slice A n c,ae aj (i:Int),ae aj a] w (PRo w (-1) (n-1)):=by
 have R:=sH h;rcases B with rfl|rfl
 .go_enter func111,ntmps111
  have m:ahl ((i:Int)+1)=(i:Int)+1:=IntWalk.wrap64_in _ ak;go_wp2;go_loopg[7](n+2)(fun gg v7 wr=>∃(x:Int),v7=ae aj x/\-1<=x/\x<=n/\((n:Int)-x).toNat<gg/\aq (az w wr))
  .exact⟨_,rfl,ak,ak,ak,cA⟩
  obtain⟨x,rfl,u,s,o,BE⟩:=hrel;by_cases r:0<=x;rotate_left
  .exact Im
  by_cases g:x<n;rotate_left
  .exact Im
  obtain⟨k,rfl⟩:∃k:Nat,x=k:=⟨x.toNat,ak⟩;obtain⟨y,z,rfl,f,l⟩:=(R.o.ar BE.o).iw.get (show k<n by omega);have j:=sH f;go_wp2_with fail;refine(nu z wr j.o).mono ?_;rintro e v ⟨q,rfl,d⟩;have b:=BE.t d;cases t:(q !=5)
  .have p:ahl ((k:Int)+1)=(k:Int)+1:=IntWalk.wrap64_in _ ak
   go_wp2;go_roundg(gk-1)
   .exact⟨_,rfl,ak,ak,ak,b⟩
   omega
  .go_wp2
   go_ret;exact⟨_,rfl,ak,ak,b.o⟩
 .go_enter func111,ntmps111
  have m:ahl ((i:Int)+(-1))=(i:Int)+(-1):=IntWalk.wrap64_in _ ak;go_wp2;go_loopg[7](n+2)(fun gg v7 wr=>∃(x:Int),v7=ae aj x/\-1<=x/\x<=n/\(x+1).toNat<gg/\aq (az w wr))
  .exact⟨_,rfl,ak,ak,ak,cA⟩
  obtain⟨x,rfl,u,s,o,BE⟩:=hrel;by_cases r:0<=x;rotate_left
  .exact Im
  by_cases g:x<n;rotate_left
  .exact Im
  obtain⟨k,rfl⟩:∃k:Nat,x=k:=⟨x.toNat,ak⟩;obtain⟨y,z,rfl,f,l⟩:=(R.o.ar BE.o).iw.get (show k<n by omega);have j:=sH f;go_wp2_with fail;refine(nu z wr j.o).mono ?_;rintro e v ⟨q,rfl,d⟩;have b:=BE.t d;cases t:(q !=5)
  .have p:ahl ((k:Int)+(-1))=(k:Int)+(-1):=IntWalk.wrap64_in _ ak
   go_wp2;go_roundg(gk-1)
   .exact⟨_,rfl,ak,ak,ak,b⟩
   omega
  .go_wp2
   go_ret;exact⟨_,rfl,ak,ak,b.o⟩
theorem xi(a b:Int)(w:ahh)(f:Wf .i32 a)(g:Wf .i32 b):ahk prog 112 #[.int .i32 a,.int .i32 b] w (PB w):=by
 have h:=sH f;have k:=sH g;go_enter func112,ntmps112;go_wp2_with fail;refine(nu a w h.o).mono ?_;rintro e c ⟨x,rfl,d⟩;have j:=sH d;go_wp2_with fail;refine(nu b c k.o).mono ?_;rintro e m ⟨y,rfl,l⟩;have i:=j.t l;go_wp2_with fail
 all_goals
  go_ret;exact⟨_,rfl,i.o⟩
def PJn(w:ahh)(e:ahn)(c:ahh):Prop:=∃(a b:Bool),e=.returned (.tuple #[.bool a,.bool b])/\az w c
def joT(d:Option Tmp):Option (ahj->Prop):=if d=some 41 then some SB else if d=some 54 then some SB else none
theorem UI(A:aA)(n c:Nat)(ts:aC)(i:Nat)(w:ahh)(h:aM .i32 w A n c ts)(K:n<=10000)(v:i<n):ahk prog 49 #[.slice A n c,ae aj (i:Int)] w (PJn w):=by
 have R:=sH h;have i0:decide ((i:Int)<0)=false:=gZ;have i1:decide ((n:Int)<=(i:Int))=false:=gZ;have i2:=aU i n;have i3:decide (n<=i)=false:=gZ;obtain⟨J,z,rfl,hz,N⟩:=R.o.iw.get v;have p:=sH hz;go_enter func49,ntmps49;go_wp2_with fail;refine(nu z w p.o).mono ?_;rintro e V ⟨q,rfl,Z⟩;have C:=sH Z;cases hq:(q==5);rotate_left
 .go_wp2
  go_ret2;exact⟨_,_,rfl,C.o⟩
 have M:=sH (R.o.ar C.o);go_wp2_with fail;refine(zC (some J) n c ts i (-1) V M.o K v (.inr rfl)).mono ?_;rintro e w3 ⟨a,rfl,W,T,Q⟩;have B3:=C.t Q;have O:=sH (M.o.ar Q);go_wp2_with fail;refine(zC (some J) n c ts i 1 w3 O.o K v (.inl rfl)).mono ?_;rintro e w4 ⟨b,rfl,U,X,L⟩;have s:=B3.t L;have u:=sH (O.o.ar L);obtain⟨m,t,f,E,N⟩:=u.o.iw.get v;injection f with f
 subst f;have p:=sH E;have L0:=aE N;go_wp2_with fail;by_cases ha:0<=a
 .obtain⟨x,rfl⟩:∃k:Nat,a=k:=⟨a.toNat,ak⟩
  obtain⟨m,I,f,G,r⟩:=u.o.iw.get (show x<n by omega);injection f with f
  subst f;have P:=sH G;have L1:=aE r;have x4:=aU x n;by_cases hb:0<=b
  .obtain⟨y,rfl⟩:∃k:Nat,b=k:=⟨b.toNat,ak⟩
   obtain⟨m,F,f,o,r⟩:=u.o.iw.get (show y<n by omega);injection f with f
   subst f;have H:=sH o;have S:=aE r;have Y:=aU y n;refine aD joT aF aF ?_;refine mSk ?_;refine lsA SB (fun g=> ?_) (fun B d=> ?_)
   .go_simp
    exact bg (xi I t g.1 P.o p.o)
   obtain⟨b,rfl⟩:=d;simp[Act.put];refine mSk ?_;refine lsA SB (fun g=> ?_) (fun B d=> ?_)
   .go_simp
    exact bg (xi t F g.1 p.o H.o)
   obtain⟨b,rfl⟩:=d;simp[Act.put];refine mSk ?_;intro g;obtain⟨D,j⟩:=g
   try dsimp only
   have l:=s.t j;go_wp2;go_ret2;exact⟨_,_,rfl,l.o⟩
  .refine aD joT aF aF ?_
   refine mSk ?_;refine lsA SB (fun g=> ?_) (fun B d=> ?_)
   .go_simp
    exact bg (xi I t g.1 P.o p.o)
   obtain⟨b,rfl⟩:=d;simp[Act.put];refine mSk ?_;intro g;obtain⟨D,j⟩:=g
   try dsimp only
   have l:=s.t j;go_wp2;go_ret2;exact⟨_,_,rfl,l.o⟩
 .by_cases hb:0<=b
  .obtain⟨y,rfl⟩:∃k:Nat,b=k:=⟨b.toNat,ak⟩
   obtain⟨m,F,f,o,r⟩:=u.o.iw.get (show y<n by omega);injection f with f
   subst f;have H:=sH o;have S:=aE r;have Y:=aU y n;refine aD joT aF aF ?_;refine mSk ?_;refine lsA SB (fun g=> ?_) (fun B d=> ?_)
   .go_simp
    exact bg (xi t F g.1 p.o H.o)
   obtain⟨b,rfl⟩:=d;simp[Act.put];refine mSk ?_;intro g;obtain⟨D,j⟩:=g
   try dsimp only
   have l:=s.t j;go_wp2;go_ret2;exact⟨_,_,rfl,l.o⟩
  .refine aD joT aF aF ?_
   refine mSk ?_;intro g;obtain⟨D,j⟩:=g
   try dsimp only
   have l:=s.t j;go_wp2;go_ret2;exact⟨_,_,rfl,l.o⟩
theorem QJ(s:G:=by
 go_wp2
 go_roundg(n-i)
 .exact⟨i+1,ak,ak,aT,⟨O5.o _⟩,⟨B5.o _⟩⟩
 omega):G:=s
theorem UC(A:aA)(n c:Nat)(ts:aC)(w:ahh)(h:aM .i32 w A n c ts)(P:n<=10000):ahk prog 16 #[.slice A n c] w (Nw w 3 .i64 aH n):=by
 have R:=sH h;clear h;have L:aq ((prog.info? 3).map (·.zero)=some (some (ae aj 0))):=⟨aF⟩;go_enter func16,ntmps16;go_wp2_with (refine cS (p:=aH) lO L.o trivial rfl (.tmp 9) (.tmp 9) rfl n rfl rfl rfl rfl ak w.heap.size bW ?_;intro g V o1 B;have D:=sH o1;have F:=sH B;clear o1 B);go_loopg[4,5,6,7](n+1)(fun gg v4 _ _ _ wr=>∃(i:Nat),n-i<gg/\i<=n/\v4=ae aj (i:Int)/\aq (Ow wr w.heap.size 3 .i64 aH (some ⟨g,0,none⟩) n n)/\aq (az w wr))
 .exact⟨0,ak,ak,rfl,D,F⟩
 clear D F;obtain⟨i,Q,U,rfl,s,k⟩:=hrel;by_cases d:i<n;rotate_left
 .have N:=cv i n
  go_wp2;go_ret;exact⟨_,_,rfl,s.o,k.o⟩
 have N:=aU i n;obtain⟨M,z,rfl,C,J⟩:=(R.o.ar k.o).iw.get d;have O:=sH C;clear C;go_wp2_with fail;refine(nu z wr O.o).mono ?_;rintro e G ⟨q,rfl,m⟩;have l:=k.t m;have r:=sH (s.o.ar m);clear m J s k;go_upto_region 6 with fail;go_cut[31](fun v K=>(∃b:Bool,v=.bool b)/\G=K)
 case first=>
  cases S:(q !=1)
  .go_wp2
   go_meet;exact⟨⟨_,rfl⟩,rfl⟩
  .cases T:(q !=2)
   .go_wp2
    go_meet;exact⟨⟨_,rfl⟩,rfl⟩
   .go_wp2
    go_meet;exact⟨⟨_,rfl⟩,rfl⟩
 case rest=>
 obtain⟨⟨b,rfl⟩,rfl⟩:=hcut;cases b;rotate_left
 .go_wp2
  go_roundg(n-i)
  .exact⟨i+1,ak,ak,aT,r,l⟩
  omega
 have u:=sH (R.o.ar l.o);go_wp2_with fail;refine(UI (some M) n c ts i G u.o P d).mono ?_;rintro e o ⟨a,b,rfl,t⟩;have H:=l.t t;have j:=sH (r.o.ar t);clear t u l r;obtain⟨I,_,E⟩:=j.o.get d;have f0:=j.o.fz i;have f:aq (Ow (o.setCell ⟨g,i,none⟩ (ae aj 1)) w.heap.size 3 .i64 aH (some ⟨g,0,none⟩) n n):=⟨j.o.set i trivial⟩;have x:aq (az w (o.setCell ⟨g,i,none⟩ (ae aj 1))):=⟨Below.setCell H.o (p:=⟨g,i,none⟩) j.o.lt.1 _⟩;go_upto_region 9 with fail;clear E f0 j H;generalize o.setCell ⟨g,i,none⟩ (ae aj 1)=y at*;obtain⟨I,_,E⟩:=f.o.get d;have f0:=f.o.fz i;have O5:aq (∀v,Ow (y.setCell ⟨g,i,none⟩ (ae aj v)) w.heap.size 3 .i64 aH (some ⟨g,0,none⟩) n n):=⟨fun v=>f.o.set i trivial⟩;have B5:aq (∀v,az w (y.setCell ⟨g,i,none⟩ (ae aj v))):=⟨fun v=>Below.setCell x.o (p:=⟨g,i,none⟩) f.o.lt.1 _⟩;cases a<;>cases b
 .go_wp2
  go_roundg(n-i)
  .exact⟨i+1,ak,ak,aT,f,x⟩
  omega
 .exact QJ
 .exact QJ
 .exact QJ
theorem agv:aR prog 245 5 1 1:=bu underlying245 (z:=.int .u8 0) aF rfl ak ak
def byN(s:ByteArray):aC:=s.data.toList.map fun b=>(b.toNat:Int)
theorem ZE(w:ahh)(e:ahm)(s:ByteArray)(c:Nat)(g:s.size<=c)(a:c<=9223372036854775807):aM .u8 (Lib.bytesWorld w e s) (some ⟨w.heap.size,0,none⟩) s.size c (byN s):=by
 refine⟨⟨by unfold byN;rw[List.length_map];rfl,fun h=>⟨_,rfl,by rw[Lib.bytesWorld_size];exact Nat.lt_succ_self _,fun j d=> ?_⟩⟩,g,a,fun x f=> ?_⟩
 .rw[bj,Lib.bytesWorld_cell w e s j d]
  unfold nth byN;have a:j<s.data.toList.length:=d;rw[List.getD_eq_getElem?_getD,List.getD_eq_getElem?_getD,List.getElem?_map,List.getElem?_eq_getElem a];rfl
 .unfold byN at f
  obtain⟨b,_,rfl⟩:=List.mem_map.1 f;have:=b.toNat_lt;simp[Lit.wf,IntKind.min,IntKind.max,IntKind.signed,IntKind.bits];omega
def PBw(w:ahh)(e:ahn)(a:ahh):Prop:=∃k:Bool,e=.returned (.bool k)/\w=a
def PLo(w:ahh)(e:ahn)(a:ahh):Prop:=∃k:Nat,k<=4/\e=.returned (ae aj (k:Int))/\w=a
def PSa(w:ahh)(n pos:Nat)(e:ahn)(a:ahh):Prop:=∃(k:Nat) (b:Bool),e=.returned (.tuple #[ae aj (k:Int),.bool b])/\1<=k/\pos+k<=n/\k<=4/\w=a
def acD(w:ahh)(e:ahn)(a:ahh):Prop:=∃z:Int,Wf .i32 z/\e=.returned (.int .i32 z)/\w=a
theorem Fk(c:Int)(w:ahh):ahk prog 246 #[ae aj c] w (PLo w):=by
 go_enter func246,ntmps246;go_wp2
 all_goals go_ret
 all_goals first|exact⟨0,ak,rfl,rfl⟩|exact⟨1,ak,rfl,rfl⟩|exact⟨2,ak,rfl,rfl⟩|exact⟨3,ak,rfl,rfl⟩|exact⟨4,ak,rfl,rfl⟩
theorem Iq(a b:Int)(w:ahh):ahk prog 287 #[ae aj a,ae aj b] w (PBw w):=by
 go_enter func287,ntmps287;go_wp2
 all_goals go_ret
 all_goals exact⟨_,rfl,rfl⟩
theorem QM(s:G:=by
 go_wp2
 go_meet;exact⟨⟨_,rfl⟩,rfl⟩):G:=s
theorem IB(A:aA)(n c:Nat)(bs:aC)(pos:Nat)(w:ahh)(h:aM .u8 w A n c bs)(l:pos<n)(W:n<=100000):ahk prog 245 #[.slice A n c,ae aj (pos:Int)] w (PSa w n pos):=by
 have t:=sH h;obtain⟨V,rfl,E,d⟩:=h.at_.2 ak;have a:=d pos l;have u:=sH d;have⟨Q,f⟩:=eY (nth bs pos);obtain⟨O,g2⟩:=bounds_u8 (t.o.dt l);rw[f]at a O g2;have m:=sH f;go_enter func245,ntmps245;go_wp2_with fail;refine(Fk _ _).mono ?_;rintro e C ⟨N,R,rfl,rfl⟩;by_cases S:N=0
 .have p:((N:Int)==0)=true:=by simp;omega
  go_wp2;go_ret2;exact⟨1,false,rfl,ak,ak,ak,rfl⟩
 have p:((N:Int)==0)=false:=pI;go_wp2;go_loopg[7] 6 (fun g v wr=>∃k:Nat,1<=k/\k<=4/\pos+k<=n/\5<k+g/\v=ae aj k/\wr=w)
 .exact⟨1,ak,ak,ak,ak,rfl,rfl⟩
 obtain⟨k,x,L,K,M,rfl,rfl⟩:=hrel;by_cases r:k<N/\pos+k<n
 .obtain⟨D,i⟩:=r
  have G:=u.o (pos+k) i;have a:=u.o pos l;rw[m.o]at a;obtain⟨H,F⟩:=bounds_u8 (t.o.dt i);have⟨s,j⟩:=eY (nth bs (pos+k));rw[j]at G H F;have U:(pos:Int)+(k:Int)<(n:Int):=ak;have P:=aU k N;go_upto_region 7 with fail;go_cut[54](fun v B=>(∃b:Bool,v=.bool b)/\B=wr)
  ·
   by_cases o:k=1
   .subst o
    go_wp2_with fail;refine(Iq _ _ _).mono ?_;rintro e C ⟨I,rfl,rfl⟩;cases I
    .exact QM
    .by_cases y:s<128
     .exact QM
     .exact QM
   .have J:((k:Int)==1)=false:=pI
    by_cases y:s<128
    .exact QM
    .exact QM
  obtain⟨⟨b,rfl⟩,rfl⟩:=hcut;cases b
  .go_wp2
   go_roundg(gk-1)
   .exact⟨k+1,ak,ak,ak,ak,aT,rfl⟩
   omega
  .go_wp2
   go_ret2;exact⟨k,_,rfl,ak,ak,ak,rfl⟩
 .have q:N<=k∨(k<N/\n<=pos+k):=by omega
  rcases q with o|⟨o,T⟩
  .have z:decide (k<N)=false:=gW
   go_wp2;go_ret2;exact⟨k,_,rfl,ak,ak,ak,rfl⟩
  .have z:decide ((pos:Int)+(k:Int)<(n:Int))=false:=gW
   go_wp2;go_ret2;exact⟨k,_,rfl,ak,ak,ak,rfl⟩
theorem Vu(A:aA)(n c:Nat)(bs:aC)(w:ahh)(h:aM .u8 w A n c bs)(D:1<=n)(E:n<=4):ahk prog 247 #[.slice A n c] w (acD w):=by
 have e:=sH h;obtain⟨o,rfl,j,a⟩:=h.at_.2 ak;have d:w.cell? o=some (.int .u8 (nth bs 0)):=by have:=a 0 (by omega);simpa[Addr.add]using this
 have q:=sH a;obtain⟨r,g2⟩:=bounds_u8 (e.o.dt (show 0<n by omega));generalize nth bs 0=z at d r g2;cases i:((n:Int)==2)<;>cases l:((n:Int)==3)<;>cases f:((n:Int)==4)
 all_goals first
  |(exfalso;simp at i l f;omega)
  |skip
 all_goals
  go_enter func247,ntmps247;go_wp2;go_loopg[3,4] 6 (fun g v u wr=>∃(k:Nat) (x:Int),1<=k/\k<=n/\5<k+g/\u=ae aj (k:Int)/\v=ae aj x/\wr=w)
  .exact⟨1,_,ak,ak,ak,rfl,rfl,rfl⟩
  obtain⟨k,x,F,m,s,rfl,rfl,rfl⟩:=hrel;by_cases b:k<n
  .have p:=aU k n
   have B:=q.o k b;obtain⟨C,t⟩:=bounds_u8 (e.o.dt b);generalize nth bs k=y at*;go_wp2;go_roundg(gk-1)
   .exact⟨k+1,_,ak,ak,ak,aT,rfl,rfl⟩
   omega
  .have p:=cv k n
   go_wp2;go_ret;refine⟨_, ?_,rfl,rfl⟩;go_wf2
def PDe(w:ahh)(n:Nat)(e:ahn)(a:ahh):Prop:=∃(A:aA) (m c:Nat) (t x:Int),e=.returned (.tuple #[.slice A m c,ae aj t,ae aj x])/\m<=n/\Ow a w.heap.size 21 .i32 (Wf .i32) A m c/\az w a
theorem JO(A:aA)(n c:Nat)(bs:aC)(w:ahh)(h:aM .u8 w A n c bs)(O:n<=100000):ahk prog 195 #[.slice A n c] w (PDe w n):=by
 have E:=sH h;go_enter func195,ntmps195;go_wp2;go_loopg[5,6](n+1)(fun g u v wr=>∃(p m:Nat) (o:aA) (q:Nat),n-p<g/\p<=n/\m<=p/\u=.slice o m q/\v=ae aj (p:Int)/\aq (Ow wr w.heap.size 21 .i32 (Wf .i32) o m q)/\aq (az w wr))
 .exact⟨0,0,none,0,ak,ak,ak,rfl,rfl,⟨Ow.nil _ _ _ _ _⟩,cA⟩
 obtain⟨p,m,o,q,hg,H,Q,rfl,rfl,D,a⟩:=hrel;have s:w.heap.size<=wr.heap.size:=a.o.size;by_cases x:p<n;rotate_left
 .have V:=cv p n
  go_wp2;go_ret3;exact⟨_,_,_,_,_,rfl,ak,D.o,a.o⟩
 have V:=aU p n;have f:=sH (E.o.ar a.o);go_wp2_with fail;refine(IB A n c bs p wr f.o x O).mono ?_;rintro e K ⟨k,b,rfl,i,t,l,rfl⟩;cases b
 .obtain⟨Y,rfl,G,j⟩:=f.o.at_.2 ak
  have P:=j p x;obtain⟨X,W⟩:=bounds_u8 (f.o.dt x);generalize nth bs p=y at*;by_cases Z:p+k=n
  .have J:((p:Int)+(k:Int)==(n:Int))=true:=by simp;omega
   go_wp2_with fail;refine(Fk _ _).mono ?_;rintro e w3 ⟨N,hN,rfl,rfl⟩;by_cases hl:k<N
   .go_wp2
    go_ret3;exact⟨none,0,0,_,_,rfl,ak,Ow.nil _ _ _ _ _,a.o⟩
   .go_wp2
    go_ret3;exact⟨none,0,0,_,_,rfl,ak,Ow.nil _ _ _ _ _,a.o⟩
  .have J:((p:Int)+(k:Int)==(n:Int))=false:=pI
   go_wp2;go_ret3;exact⟨none,0,0,_,_,rfl,ak,Ow.nil _ _ _ _ _,a.o⟩
 .obtain⟨I,L,r⟩:=jj agv A n c p (p+k) ak t E.o.le (p:Int) ((p:Int)+(k:Int)) rfl ak
  have d:=r.run;rw[show p+k-p=k by omega]at r d;have U:=sH (r.fT f.o);go_wp2_with fail;refine(Vu I k L _ wr U.o i l).mono ?_;rintro e K ⟨z,S,rfl,rfl⟩;have M:=sH S;go_wp2_with (at_builtin;refine bO Ko rfl (.tmp 39) (.tmp 47) rfl rfl (D.o.alloc _) rfl (bh _ _ _) M.o ak cw ?_;intro T c4 w4 B C;have R:=sH B;have F:=sH ((a.o.alloc s _).trans C);clear B C);go_roundg(n-p)
  .exact⟨p+k,m+1,T,c4,ak,ak,ak,rfl,aT,R,F⟩
  omega
theorem Qc(r:Int)(w:ahh):ahk prog 196 #[.int .i32 r] w (PBw w):=by
 go_enter func196,ntmps196;go_wp2
 all_goals go_ret
 all_goals exact⟨_,rfl,rfl⟩
theorem ZM(A:aA)(n c:Nat)(w:ahh)(h:Iw w w.heap.size .i32 (Wf .i32) A n)(q:n<=100000):ahk prog 197 #[.slice A n c] w (PBw w):=by
 have e:=sH h;go_enter func197,ntmps197;go_wp2;go_loopg[3,4](n+1)(fun g v u wr=>∃k x:Nat,k<=n/\x<=k/\n-k<g/\u=ae aj (k:Int)/\v=ae aj (x:Int)/\wr=w)
 .exact⟨0,0,ak,ak,ak,rfl,rfl,rfl⟩
 obtain⟨k,x,r,o,l,rfl,rfl,rfl⟩:=hrel;by_cases a:k<n
 .have i:=aU k n
  obtain⟨p,z,rfl,_,j⟩:=e.o.get a;cases m:(z !=46)
  .by_cases d:0<k
   .by_cases f:k+1<n
    .have b:(k:Int)<(n:Int)-1:=by omega
     go_wp2;go_ret;exact⟨_,rfl,rfl⟩
    .have b:decide ((k:Int)<(n:Int)-1)=false:=gW
     go_wp2;go_roundg(n-k)
     .exact⟨k+1,x,ak,ak,ak,aT,rfl,rfl⟩
     omega
   .have b:decide (0<k)=false:=gW
    go_wp2;go_roundg(n-k)
    .exact⟨k+1,x,ak,ak,ak,aT,rfl,rfl⟩
    omega
  .go_wp2
   go_roundg(n-k)
   .exact⟨k+1,x+1,ak,ak,ak,aT,aT,rfl⟩
   omega
 .have i:=cv k n
  by_cases d:1<=x
  .go_wp2
   go_ret;exact⟨_,rfl,rfl⟩
  .have f:decide (1<=x)=false:=gW
   go_wp2;go_ret;exact⟨_,rfl,rfl⟩
def TM(w:ahh)(B N:Nat)(A:aA)(n c:Nat)(C:aA)(m d:Nat):Prop:=n<=N/\m=n+1/\Ow w B 21 .i32 (Wf .i32) A n c/\Ow w B 3 .i64 aH C m d
def PPa(w:ahh)(N:Nat)(e:ahn)(a:ahh):Prop:=∃(A C:aA) (n c m d:Nat) (b:Bool),e=.returned (.tuple #[.slice A n c,.slice C m d,.bool b])/\(b=true->TM a w.heap.size N A n c C m d)/\az w a
theorem wf_i32(r:Int)(h:Wf .i32 r): -2147483648<=r/\r<=2147483647:=bounds_i32 h
theorem abw(s:G:=by
 go_wp2
 go_ret3;exact⟨none,none,0,0,0,0,false,rfl,aQ,BG.o⟩):G:=s
theorem aeD(s:G:=by
 go_wp2
 go_roundg(n-k)
 .exact⟨k+1,m,A,C,c,d,_,true,_,ak,ak,ak,rfl,rfl,rfl,rfl,rfl,aT,OA,OC,BE⟩
 omega):G:=s
theorem zM(s:ByteArray)(hs:s.size<=10000)(w:ahh):ahk prog 113 #[.string s] w (PPa w s.size):=by
 have kc:aq (∀(w:ahh),(convert 9 245 (.string s)).run prog w=.ok (.slice (some ⟨w.heap.size,0,none⟩) s.size (grownCap w s.size 0 5)) (Lib.bytesWorld w 5 s)):=⟨fun w=>Lib.run_convert_string_bytes w _ _ _ s underlying9 underlying245 underlying5⟩;have S:=kc.o w;have h:=Lib.bytesWorld_below w 5 s;have o:=JO (some ⟨w.heap.size,0,none⟩) s.size (grownCap w s.size 0 5) (byN s) (Lib.bytesWorld w 5 s) (ZE w 5 s _ (grownCap_ge _ _ _ _) (Nat.le_trans (grownCap_le_maxLen _ _ _ _ qT) qT)) ak;generalize grownCap w s.size 0 5=cc at S o;generalize zQ:Lib.bytesWorld w 5 s=w0 at S o h;have o:=sH o;have BB:=sH h;go_enter func113,ntmps113;go_wp2_with fail;refine o.o.mono ?_;rintro e u ⟨A0,n,c0,t0,x0,rfl,hn,Y,t⟩;have b:=BB.t t;have T:=sH Y.iw;cases hx:(x0 !=0);rotate_left
 .go_wp2
  go_ret3;exact⟨none,none,0,0,0,0,false,rfl,aQ,b.o⟩
 go_wp2;go_loopg[8,9,10,11,12,13](n+1)(fun g W U v10 y I D wr=>∃(k m:Nat) (A C:aA) (c d:Nat) (x:Int) (t q:Bool),n-k<g/\k<=n/\m<=k/\W=.slice A m c/\U=.slice C m d/\v10=ae aj x/\y=.bool t/\I=.bool q/\D=ae aj (k:Int)/\aq (Ow wr u.heap.size 21 .i32 (Wf .i32) A m c)/\aq (Ow wr u.heap.size 3 .i64 aH C m d)/\aq (az u wr))
 .exact⟨0,0,none,none,0,0,0,false,false,ak,ak,ak,rfl,rfl,rfl,rfl,rfl,rfl,⟨Ow.nil _ _ _ _ _⟩,⟨Ow.nil _ _ _ _ _⟩,cA⟩
 obtain⟨k,m,A,C,c,d,x,t,q,hg,hk,V,rfl,rfl,rfl,rfl,rfl,rfl,OA,OC,BE⟩:=hrel;have BG:=b.t BE.o;have l:u.heap.size<=wr.heap.size:=BE.o.size;have a:(21:ahm)≠3:=cr;by_cases v:k<n
 .have i4:=aU k n
  obtain⟨ad,z,rfl,R,e0⟩:=(T.o.Z BE.o BE.o.size).get v;obtain⟨z1,z2⟩:=wf_i32 z R;have Z:=sH R;go_wp2_with fail;refine(Qc _ _).mono ?_;rintro e X ⟨J,rfl,rfl⟩;cases J
  .go_wp2_with (first
    |(at_builtin;refine dI Ko rfl (.tmp 46) (.tmp 51) rfl rfl (OA.o.alloc _) rfl (bh _ _ _) Z.o ak cw ?_;intro A4 c4 w4 N Q O;have P:=sH N;have G:=sH ((OC.o.alloc (.cells #[.int .i32 z] 21)).kept O (by(obtain⟨xs,r,L⟩:=OC.o;obtain⟨M,j,q4⟩:=OA.o;exact bS r j (Ne.symm a))) OA.o.head);have K:=sH ((BE.o.alloc l _).trans Q);have F:=K.o.size;clear N Q O)
    |(at_builtin;refine dI lO rfl (.tmp 53) (.tmp 55) rfl rfl (G.o.alloc _) rfl (bh _ _ _) trivial ak cw ?_;intro A5 c5 w5 i f p;have H:=sH i;have B:=sH ((P.o.alloc (.cells #[ae aj x] 3)).kept p (by(obtain⟨xs,r,L⟩:=G.o;obtain⟨M,j,q4⟩:=P.o;exact bS j r a)) G.o.head);have E:=sH ((K.o.alloc F _).trans f);clear i f p))
   go_roundg(n-k)
   .exact⟨k+1,m+1,_,_,_,_,0,false,q,ak,ak,ak,rfl,rfl,rfl,rfl,rfl,aT,B,H,E⟩
   omega
  .cases t
   .cases q
    .exact aeD
    .exact aeD
   .exact abw
 .have i4:=cv k n
  cases q
  .exact abw
  go_wp2_with fail;refine(ZM A m c _ OA.o.iw ak).mono ?_;rintro e X ⟨J,rfl,rfl⟩;cases J
  .exact abw
  go_wp2_with (at_builtin;refine dI lO rfl (.tmp 64) (.tmp 66) rfl rfl (OC.o.alloc _) rfl (bh _ _ _) trivial ak cw ?_;intro A5 c5 w5 i f p;have H:=sH i;have B:=sH ((OA.o.alloc (.cells #[ae aj x] 3)).kept p (by(obtain⟨xs,r,L⟩:=OC.o;obtain⟨M,j,q4⟩:=OA.o;exact bS j r a)) OC.o.head);have E:=sH ((BE.o.alloc l _).trans f);clear i f p);go_ret3;exact⟨A,_,m,c,_,_,_,rfl,fun _=>⟨ak,rfl,B.o.cJ b.o.size,H.o.cJ b.o.size⟩,b.o.trans (E.o.mono b.o.size)⟩
end Go.Proofs.YtklncadpkniojaaGreatDoor
