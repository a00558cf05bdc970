/- Part of LineFills. -/
import Derived.Test.YtijcgdkpconjcaaGreatDoorAw
import Derived.Test.YtijcgdkpconjcaaGreatDoorAh
import Derived.Test.YtijcgdkpconjcaaGreatDoorAm
import Derived.Test.YtijcgdkpconjcaaGreatDoorProg
import Derived.Lib.Strings
import Derived.Lib.Slices
import Derived.Lib.Small
import Derived.Lib.Walk
import Derived.Lib.BitFns
import Derived.Lib.ItoaNum
import Derived.Laws.Bits64b
import Derived.Lib.Mul64
import Derived.Lib.SliceRun
namespace Go.Proofs.YtijcgdkpconjcaaGreatDoor
open Go.ChangeShapes Go.WideShapes Go.ChangeAt Go.RowKit Go.Proofs.Tryz
open Go renaming World->EE,Value->EN,Calls->GK,TypeId->IQ,Ending->IS,Program->I3
open Go.RowKit renaming Below->EI,wrap64->IK
open Option renaming some->OH,none->OJ
open Bool renaming true->OX,false->OZ
open Go.Value renaming slice->Pl,bool->PF,pointer->PK,tuple->P8
open Go.Ending renaming returned->RE
open Go.Obj renaming cells->RM
open Go.Value renaming int->ae
open Go.IntKind renaming i64->aj
set_option linter.all false
set_option maxRecDepth 100000
set_option maxHeartbeats 16000000
variable{B K N U Y a b c d g i j m n q r:Nat}{v:Int}{e t:IQ}{G:Prop}{w:EE}{A:aB}{S:aC->Prop}{xs:aC}{cs:Array EN}
def UA{y:Nat}(b:y≠0)(h:y<18446744073709551616):1<=Lib.bitLen y/\Lib.bitLen y<=64/\9223372036854775808<=y*2^(64-Lib.bitLen y)/\y*2^(64-Lib.bitLen y)<18446744073709551616:=by
 have l:=Lib.bitLen_le y 64 aq aq;obtain⟨e,g,k⟩:=Lib.bitLenAux_bounds 64 y aq b;show 1<=Lib.bitLenAux 64 y/\Lib.bitLenAux 64 y<=64/\9223372036854775808<=y*2^(64-Lib.bitLenAux 64 y)/\y*2^(64-Lib.bitLenAux 64 y)<18446744073709551616;have l:Lib.bitLenAux 64 y<=64:=l;generalize Lib.bitLenAux 64 y=L at*;obtain⟨d,f⟩:∃d,64=L+d:=⟨64-L,aq⟩;have j:(2:Nat)^(L-1)*2^d=9223372036854775808:=by
  rw[<-Nat.pow_add,show L-1+d=63 by omega]
 have a:(2:Nat)^L*2^d=18446744073709551616:=by
  rw[<-Nat.pow_add,<-f]
 have c:64-L=d:=aq;have i:0<2^d:=Nat.pow_pos aq;rw[c];refine⟨e,l, ?_, ?_⟩
 .rw[<-j];exact Nat.mul_le_mul_right _ g
 .rw[<-a];exact Nat.mul_lt_mul_of_pos_right k i
structure WM(K U v1 v0 d q r:Nat):Prop where
 eq:q*v1+r=U
 ge:(U*K+d)/(v1*K+v0)<=q
 le:q<=K+1
def WM.mul(h:WM K U b a d q r):U*K+d+q*a=q*(b*K+a)+(r*K+d):=by
 rw[<-h.eq,Nat.mul_add,Nat.add_mul,Nat.mul_assoc];omega
def vS(c:0<a)(h:K<=2*a)(i:b<K)(j:d<K)(k:U<a*K+b):WM K U a b d (U/a) (U%a) where
 eq:=by rw[Nat.mul_comm];exact Nat.div_add_mod U a
 ge:=by
  rw[Nat.le_div_iff_mul_le c];have g:=Nat.div_mul_le_self (U*K+d) (a*K+b);generalize(U*K+d)/(a*K+b)=q at*;have e:q*(a*K+b)=q*a*K+q*b:=by rw[Nat.mul_add,Nat.mul_assoc]
  have f:q*a*K<(U+1)*K:=Jq;have:=Nat.lt_of_mul_lt_mul_right f;omega
 le:=by
  have:U/a<K+2:=by
   rw[Nat.div_lt_iff_lt_mul c,Nat.add_mul,Nat.mul_comm];omega
  omega
def Be(h:WM K U b a d q r)(c:0<b*K+a)(e:q*a<=r*K+d):q=(U*K+d)/(b*K+a):=by
 refine Nat.le_antisymm ?_ h.ge;rw[Nat.le_div_iff_mul_le c];have:=h.mul;omega
def pD(h:WM K U a b d q r)(g:U<a*K+b)(j:d<K)(c:K<=q∨r*K+d<q*b):0<q/\WM K U a b d (q-1) (r+a):=by
 have e:(U*K+d)/(a*K+b)<q:=by
  rw[Nat.div_lt_iff_lt_mul aq];rcases c with c|c
  .have l:=Nat.mul_le_mul_right (a*K+b) c
   have i:(U+1)*K<=K*(a*K+b):=by rw[Nat.mul_comm];exact Nat.mul_le_mul_left _ g
   rw[Nat.add_mul]at i;omega
  .have:=h.mul
   omega
 have f:0<q:=Nat.lt_of_le_of_lt (Nat.zero_le _) e;refine⟨f, ?_,Nat.le_sub_one_of_lt e,by have:=h.le;omega⟩;have:=h.eq;obtain⟨k,rfl⟩:∃k,q=k+1:=⟨q-1,aq⟩;rw[Nat.add_mul]at this;simp only[Nat.add_sub_cancel];omega
def VE(h:WM K U b a d q r)(c:0<b*K+a)(e:a<K)(g:q<=K)(f:K<=r):q=(U*K+d)/(b*K+a):=by
 refine Be h c ?_;have i:=Nat.mul_le_mul_right a g;have k:=Nat.mul_le_mul_left K (Nat.le_of_lt e);have j:=Nat.mul_le_mul_right K f;omega
def Xj{v e:Nat}(a:0<v):
 (U*(K*K)+d*K+e)/v=(U*K+d)/v*K+((U*K+d)%v*K+e)/v/\(U*(K*K)+d*K+e)%v=((U*K+d)%v*K+e)%v:=by
 have h:=Nat.div_add_mod (U*K+d) v;have b:U*(K*K)+d*K+e=v*((U*K+d)/v*K)+((U*K+d)%v*K+e):=by
  have c:=congrArg (·*K) h;simp only[Nat.add_mul,Nat.mul_assoc]at c;omega
 rw[b];exact⟨by rw[Nat.mul_add_div a],by rw[Nat.mul_add_mod]⟩
def jF(a:Nat)(h:a<18446744073709551616):IntKind.u64.wrap (a:Int)=(a:Int):=YC
def aeV(a:Nat):IntKind.u64.wrap (a:Int)=((a%18446744073709551616:Nat):Int):=YC
def abZ{s:Nat}(h:b<2^s):a*2^s|||b=a*2^s+b:=by
 rw[Nat.mul_comm];exact(Nat.two_pow_add_eq_or_of_lt h a).symm
def yA(a:Nat):a&&&4294967295=a%4294967296:=Nat.and_two_pow_sub_one_eq_mod a 32
def agx(h:q*Y<=U*4294967296+d)(a:U*4294967296+d-q*Y<18446744073709551616):IntKind.u64.wrap (IntKind.u64.wrap (IntKind.u64.wrap ((U:Int)*4294967296)+(d:Int))-IntKind.u64.wrap ((q:Int)*(Y:Int)))=((U*4294967296+d-q*Y:Nat):Int):=by
 rw[<-Int.natCast_mul];generalize q*Y=z at*;simp only[IntKind.wrap_u64];omega
def Bl(c:0<Y)(f:Y<18446744073709551616)(h:q=(U*4294967296+d)/Y):IntKind.u64.wrap (IntKind.u64.wrap (IntKind.u64.wrap ((U:Int)*4294967296)+(d:Int))-IntKind.u64.wrap ((q:Int)*(Y:Int)))=(((U*4294967296+d)%Y:Nat):Int):=by
 have a:=Nat.div_mul_le_self (U*4294967296+d) Y;have b:=Nat.div_add_mod (U*4294967296+d) Y;have e:=Nat.mod_lt (U*4294967296+d) c;rw[Nat.mul_comm]at b;rw[<-h]at a b;rw[agx a aq];omega
def VG{hi lo y P T:Nat}(q:P*g=18446744073709551616)(c:y*P=Y)(f:0<P)(m:0<y)(n:hi*P+lo/g=U)(p:T=lo*P%18446744073709551616)(h:lo*P/18446744073709551616=lo/g)(r:T/4294967296=a)(s:T%4294967296=b):
 (hi*18446744073709551616+lo)/y=(U*4294967296+a)/Y*4294967296+((U*4294967296+a)%Y*4294967296+b)/Y/\(hi*18446744073709551616+lo)%y=((U*4294967296+a)%Y*4294967296+b)%Y/P:=by
 have i:0<Y:=by rw[<-c];exact Nat.mul_pos m f
 obtain⟨j,k⟩:=Xj (K:=4294967296) (U:=U) (v:=Y) (d:=a) (e:=b) i;have e:U*(4294967296*4294967296)+a*4294967296+b=(hi*18446744073709551616+lo)*P:=by
  have o:=Nat.div_add_mod (lo*P) 18446744073709551616;rw[h,<-p]at o;rw[<-n,Nat.add_mul,Nat.add_mul];have l:hi*P*(4294967296*4294967296)=hi*18446744073709551616*P:=by rw[Nat.mul_right_comm]
  rw[l];omega
 rw[e,<-c,Nat.mul_div_mul_right _ _ f]at j;rw[e,<-c,Nat.mul_mod_mul_right]at k;rw[<-c];exact⟨j,by rw[<-k,Nat.mul_div_cancel _ f]⟩
def Rg{z:Nat}(h:z=a*4294967296+b)(c:z<18446744073709551616):IntKind.u64.wrap (IntKind.u64.wrap ((a:Int)*4294967296)+(b:Int))=(z:Int):=by
 simp only[IntKind.wrap_u64];omega
def NU{z:Nat}(h:z=a*4294967296+b)(c:z<18446744073709551616):IntKind.u64.wrap ((a:Int)*4294967296+(b:Int))=(z:Int):=by
 simp only[IntKind.wrap_u64];omega
def PDv(w:EE)(hi lo y:Nat)(e:IS)(a:EE):Prop:=e=RE (P8 #[.int .u64 (((hi*18446744073709551616+lo)/y:Nat):Int),.int .u64 (((hi*18446744073709551616+lo)%y:Nat):Int)])/\az w a
def mQ1(s:G:=by
 have i2:¬(4294967296:Int)<=(r1:Int):=by omega
 have hr9:ak (r<r1):=⟨aq⟩;clear zu rW Gv dg EX9;go_wp2;have hr9:=hr9.o;go_roundg(4294967296-r)
 .exact⟨q1,r1,rfl,rfl,aq,aq,MK,BE⟩
 omega):G:=s
def mQ2(s:G:=by
 have EX:ak (q1=(X*4294967296+D0)/Y):=⟨afv⟩
 have i2:(4294967296:Int)<=(r1:Int):=aq;clear hb zu rW qA Gv dg hrK hg MK;go_wp2;go_meet;exact⟨q1,_,rfl,rfl,EX,BE⟩):G:=s
def mQ3(s:G:=by
 have EX:ak (q1=(U*4294967296+D1)/Y):=⟨afv⟩
 have i2:(4294967296:Int)<=(r1:Int):=aq;clear hb zu rW qA Gv dg hrK hg MK;go_wp2;go_meet;exact⟨q1,_,rfl,rfl,EX,BE⟩):G:=s
def ZW(hi lo y:Nat)(w:EE)(h:hi<y)(hy:y<18446744073709551616)(hl:lo<18446744073709551616):GK prog 281 #[.int .u64 (hi:Int),.int .u64 (lo:Int),.int .u64 (y:Int)] w (PDv w hi lo y):=by
 have y0:¬(y:Int)=0:=aq;have y1:¬(y:Int)<=(hi:Int):=aq;by_cases hh:hi=0
 .subst hh
  go_enter func281,ntmps281;go_wp2;refine bS aF aF ?_
  repeat(go_big_quiet_step (fail))
  refine wpQuiet_nil ?_;rintro _ ⟨nq,rfl⟩;go_wp2_with fail;have h1:=Nat.div_le_self lo y;have e1:IntKind.u64.wrap ((lo:Int)/(y:Int))=(((0*18446744073709551616+lo)/y:Nat):Int):=by
   rw[Nat.zero_mul,Nat.zero_add,<-Int.natCast_ediv,jF _ aq]
  have e2:(lo:Int)%(y:Int)=(((0*18446744073709551616+lo)%y:Nat):Int):=by
   rw[Nat.zero_mul,Nat.zero_add,<-Int.natCast_emod]
  rw[e1,e2];go_ret2;exact⟨rfl,nq.2⟩
 have h0:¬(hi:Int)=0:=aq;obtain⟨t1,t2,t3,I⟩:=UA (y:=y) aq hy;have LC:=sH (aa9 (y:Int) w aq aq);rw[Int.toNat_natCast]at LC;have⟨L,hL⟩:∃L,Lib.bitLen y=L:=⟨_,rfl⟩;rw[hL]at t1 t2 t3 I LC;obtain⟨s,hs⟩:∃s:Nat,(64:Int)-(L:Int)=(s:Int):=⟨64-L,aq⟩;rw[hs]at LC;have O:64-L=s:=aq;rw[O]at t3 I;have sS:s<64:=aq;have hp:0<2^s:=Nat.pow_pos aq;have⟨Y,hY⟩:∃Y,y*2^s=Y:=⟨_,rfl⟩;rw[hY]at t3 I;have⟨P,f⟩:∃P,2^s=P:=⟨_,rfl⟩;have g:P*2^(64-s)=18446744073709551616:=by rw[<-f,<-Nat.pow_add,show s+(64-s)=64 by omega]
 have c1:(2:Int)^s=((2^s:Nat):Int):=aT;have c2:(2:Int)^(64-s)=((2^(64-s):Nat):Int):=aT;have⟨d,l⟩:∃d,2^(64-s)=d:=⟨_,rfl⟩;rw[l]at g;have W:(hi+1)*P<=Y:=by rw[<-hY,<-f];exact Nat.mul_le_mul_right _ h
 rw[Nat.add_mul,Nat.one_mul]at W;have N:0<d:=by rw[<-l];exact Nat.pow_pos (by omega)
 have Q:lo/d<P:=by rw[Nat.div_lt_iff_lt_mul N,g];exact hl
 have hT:=Nat.div_add_mod (lo*P) 18446744073709551616;have Qm:lo*P/18446744073709551616=lo/d:=by
  rw[<-g,Nat.mul_comm P d];exact Nat.mul_div_mul_right _ _ (by rw[<-f];exact hp)
 have eY:IntKind.u64.wrap ((y:Int)*2^s)=(Y:Int):=by
  rw[show(y:Int)*2^s=((y*2^s:Nat):Int) by simp,hY,jF _ I]
 have e9:(Y:Int)/4294967296=((Y/4294967296:Nat):Int):=aq;have sV:bits .and .u64 (Y:Int) 4294967295=((Y%4294967296:Nat):Int):=by
  have:=bits_and_u64_nat Y 4294967295 I aq;rw[yA]at this;exact this
 have ea:IntKind.u64.wrap ((hi:Int)*2^s)=((hi*P:Nat):Int):=by
  rw[c1,f,<-Int.natCast_mul,jF _ aq]
 have eb:(lo:Int)/2^(64-s)=((lo/d:Nat):Int):=by rw[c2,l,Int.natCast_ediv]
 have C:bits .or .u64 ((hi*P:Nat):Int) ((lo/d:Nat):Int)=((hi*P+lo/d:Nat):Int):=by
  rw[bits_or_u64_nat _ _ aq aq,<-f,abZ (by rw[f];exact Q)]
 have e12:IntKind.u64.wrap ((lo:Int)*2^s)=((lo*P%18446744073709551616:Nat):Int):=by
  rw[c1,f,<-Int.natCast_mul,aeV]
 have⟨H1,E⟩:∃H1,hi*P=H1:=⟨_,rfl⟩;have⟨L1,H⟩:∃L1,lo/d=L1:=⟨_,rfl⟩;rw[E]at ea C;rw[H]at eb C;have⟨T,v⟩:∃T,lo*P%18446744073709551616=T:=⟨_,rfl⟩;have hT3:T<18446744073709551616:=aq;rw[v]at e12 hT;have e13:(T:Int)/4294967296=((T/4294967296:Nat):Int):=aq;have e14:bits .and .u64 (T:Int) 4294967295=((T%4294967296:Nat):Int):=by
  have:=bits_and_u64_nat T 4294967295 hT3 aq;rw[yA]at this;exact this
 have⟨U,hU⟩:∃U,H1+L1=U:=⟨_,rfl⟩;have⟨V1,hV1⟩:∃V1,Y/4294967296=V1:=⟨_,rfl⟩;have⟨a,hV0⟩:∃a,Y%4294967296=a:=⟨_,rfl⟩;have⟨D1,hD1⟩:∃D1,T/4294967296=D1:=⟨_,rfl⟩;have⟨D0,S⟩:∃D0,T%4294967296=D0:=⟨_,rfl⟩;rw[hU]at C;rw[hV1]at e9;rw[hV0]at sV;rw[hD1]at e13;rw[S]at e14;have hUY:U<Y:=aq;have hv:∀x:Nat,x<=18446744073709551615->IntKind.u64.wrap ((x:Int)/(V1:Int))=((x/V1:Nat):Int):=λx hx=>by
  have:=Nat.div_le_self x V1;rw[<-Int.natCast_ediv,jF _ aq]
 have hr:∀x:Nat,x<=18446744073709551615->IntKind.u64.wrap ((x:Int)-IntKind.u64.wrap (((x/V1:Nat):Int)*(V1:Int)))=((x%V1:Nat):Int):=λx hx=>by
  have h1:=Nat.div_mul_le_self x V1;have h2:=Nat.div_add_mod x V1;rw[Nat.mul_comm]at h2;rw[<-Int.natCast_mul,jF _ aq,show(x:Int)-((x/V1*V1:Nat):Int)=((x%V1:Nat):Int) by omega,jF _ (by have:=Nat.mod_le x V1;omega)]
 have Ey:=hv U aq;have e16:=hr U aq;have Mf:¬(V1:Int)=0:=aq;have⟨Q1,V⟩:∃Q1,U/V1=Q1:=⟨_,rfl⟩;have⟨R1,R⟩:∃R1,U%V1=R1:=⟨_,rfl⟩;rw[V]at Ey e16;rw[R]at e16;have hS2:ak (∀z:Nat,(z:Int)/2^s=((z/P:Nat):Int)):=⟨λz=>by rw[c1,f,Int.natCast_ediv]⟩;have hV:ak (Y=V1*4294967296+a/\a<4294967296/\2147483648<=V1/\V1<4294967296):=⟨aq⟩;have⟨HV,HR⟩:=K' hv hr;have K:ak (P*d=18446744073709551616/\y*P=Y/\0<P/\hi*P+lo/d=U/\T=lo*P%18446744073709551616/\lo*P/18446744073709551616=lo/d):=⟨⟨g,by rw[<-f];exact hY,by rw[<-f];exact hp,by rw[E,H];exact hU,v.symm,Qm⟩⟩;clear f l c1 c2 hY g W Q hT Qm E H hU v hL hs O hp N;go_enter func281,ntmps281;go_wp2_with fail;refine LC.o.mono ?_;rintro e w' ⟨rfl,rfl⟩;go_upto_block 0 with fail;go_cut[15,16](λG b wx=>∃(q:Nat) (x:Int),G=.int .u64 (q:Int)/\b=.int .u64 x/\ak (q=(U*4294967296+D1)/Y)/\ak (az w' wx))
 ·
  go_wp2;go_loopg[15,16] 4294967297 (λgg G b wr=>∃(q r:Nat),G=.int .u64 (q:Int)/\b=.int .u64 (r:Int)/\r<4294967296/\4294967296-r<gg/\ak (WM 4294967296 U V1 a D1 q r)/\ak (az w' wr))
  .exact⟨Q1,R1,rfl,rfl,by have:=Nat.mod_lt U (show 0<V1 by omega);omega,aq,⟨by rw[<-V,<-R];exact vS (by omega) (by omega) (by omega) (by omega) (by have:=hV.o;omega)⟩,cJ⟩
  obtain⟨q,r,rfl,rfl,hrK,hg,DG,BE⟩:=hrel;have EX9:True:=trivial;have j:ak (U<V1*4294967296+a/\D1<4294967296):=⟨by have:=hV.o;omega⟩;have hq9:=DG.o.le;have i:q*a<=4294967297*4294967295:=Nat.mul_le_mul aq aq;by_cases t:4294967296<=q
  .have i1:(4294967296:Int)<=(q:Int):=by omega
   obtain⟨Gv,dg⟩:=pD DG.o j.o.1 j.o.2 (.inl t);have MK:=sH dg;have⟨q1,zu⟩:∃q1,q-1=q1:=⟨_,rfl⟩;have p:IntKind.u64.wrap ((q:Int)-1)=(q1:Int):=YN;have⟨r1,rW⟩:∃r1,r+V1=r1:=⟨_,rfl⟩;have B:IntKind.u64.wrap ((r:Int)+(V1:Int))=(r1:Int):=YM;rw[zu,rW]at MK;have qA:q1<=4294967296:=Jh;clear DG;by_cases hb:4294967296<=r1
   .exact mQ3
   .exact mQ1
  .have i1:¬(4294967296:Int)<=(q:Int):=by omega
   have⟨M,m⟩:∃M,q*a=M:=⟨_,rfl⟩;have e1:IntKind.u64.wrap ((q:Int)*(a:Int))=(M:Int):=(by rw[<-Int.natCast_mul,m,jF _ (by omega)]);have⟨c,k⟩:∃c,r*4294967296+D1=c:=⟨_,rfl⟩;have F:=j.o.2;have e2:IntKind.u64.wrap (IntKind.u64.wrap ((4294967296:Int)*(r:Int))+(D1:Int))=(c:Int):=by
    rw[show(4294967296:Int)*(r:Int)=((r*4294967296:Nat):Int) by omega,jF _ aq,show((r*4294967296:Nat):Int)+(D1:Int)=(c:Int) by omega,jF _ aq]
   by_cases hc:c<M
   .have i3:=aU c M
    have u:ak (r*4294967296+D1<q*a):=⟨aq⟩;have i4:¬(M:Int)<=4294967296*(r:Int)+(D1:Int):=aq;have i5:4294967296*(r:Int)+(D1:Int)<(M:Int):=aq;clear m k i hc;obtain⟨Gv,dg⟩:=pD DG.o j.o.1 j.o.2 (.inr u.o);have MK:=sH dg;have⟨q1,zu⟩:∃q1,q-1=q1:=⟨_,rfl⟩;have p:IntKind.u64.wrap ((q:Int)-1)=(q1:Int):=YN;have⟨r1,rW⟩:∃r1,r+V1=r1:=⟨_,rfl⟩;have B:IntKind.u64.wrap ((r:Int)+(V1:Int))=(r1:Int):=YM;rw[zu,rW]at MK;have qA:q1<=4294967296:=Jh;clear DG;by_cases hb:4294967296<=r1
    .exact mQ3
    .exact mQ1
   .have i3:=cI c M
    have EX:ak (q=(U*4294967296+D1)/Y):=⟨afX⟩;have i5:¬4294967296*(r:Int)+(D1:Int)<(M:Int):=aq;clear m k i hc hrK hg DG F;go_wp2;go_meet;exact⟨q,_,rfl,rfl,EX,BE⟩
 obtain⟨qa,x,rfl,rfl,EA,BE⟩:=hcut;have e20:=Bl aq I EA.o;have⟨X,hX⟩:∃X,(U*4294967296+D1)%Y=X:=⟨_,rfl⟩;have hXY:X<Y:=by rw[<-hX];exact Nat.mod_lt _ (by omega)
 rw[hX]at e20;have e21:=HV.o X aq;have e22:=HR.o X aq;have⟨Q2,Z⟩:∃Q2,X/V1=Q2:=⟨_,rfl⟩;have⟨R2,hR2⟩:∃R2,X%V1=R2:=⟨_,rfl⟩;rw[Z]at e21 e22;rw[hR2]at e22;have HX:=sH hX;clear hX;go_upto_block 2 with fail;go_cut[18,16](λo b wx=>∃(q:Nat) (x:Int),o=.int .u64 (q:Int)/\b=.int .u64 x/\ak (q=(X*4294967296+D0)/Y)/\ak (az w' wx))
 ·
  go_wp2;go_loopg[18,16] 4294967297 (λgg o b wr=>∃(q r:Nat),o=.int .u64 (q:Int)/\b=.int .u64 (r:Int)/\r<4294967296/\4294967296-r<gg/\ak (WM 4294967296 X V1 a D0 q r)/\ak (az w' wr))
  .exact⟨Q2,R2,rfl,rfl,by have:=Nat.mod_lt X (show 0<V1 by omega);omega,aq,⟨by rw[<-Z,<-hR2];exact vS (by omega) (by omega) (by omega) (by omega) (by have:=hV.o;omega)⟩,BE⟩
  clear BE;obtain⟨q,r,rfl,rfl,hrK,hg,DG,BE⟩:=hrel;have EX9:True:=trivial;have j:ak (X<V1*4294967296+a/\D0<4294967296):=⟨by have:=hV.o;omega⟩;have hq9:=DG.o.le;have i:q*a<=4294967297*4294967295:=Nat.mul_le_mul aq aq;by_cases t:4294967296<=q
  .have i1:(4294967296:Int)<=(q:Int):=by omega
   obtain⟨Gv,dg⟩:=pD DG.o j.o.1 j.o.2 (.inl t);have MK:=sH dg;have⟨q1,zu⟩:∃q1,q-1=q1:=⟨_,rfl⟩;have p:IntKind.u64.wrap ((q:Int)-1)=(q1:Int):=YN;have⟨r1,rW⟩:∃r1,r+V1=r1:=⟨_,rfl⟩;have B:IntKind.u64.wrap ((r:Int)+(V1:Int))=(r1:Int):=YM;rw[zu,rW]at MK;have qA:q1<=4294967296:=Jh;clear DG;by_cases hb:4294967296<=r1
   .exact mQ2
   .exact mQ1
  .have i1:¬(4294967296:Int)<=(q:Int):=by omega
   have⟨M,m⟩:∃M,q*a=M:=⟨_,rfl⟩;have e1:IntKind.u64.wrap ((q:Int)*(a:Int))=(M:Int):=(by rw[<-Int.natCast_mul,m,jF _ (by omega)]);have⟨c,k⟩:∃c,r*4294967296+D0=c:=⟨_,rfl⟩;have F:=j.o.2;have e2:IntKind.u64.wrap (IntKind.u64.wrap ((4294967296:Int)*(r:Int))+(D0:Int))=(c:Int):=by
    rw[show(4294967296:Int)*(r:Int)=((r*4294967296:Nat):Int) by omega,jF _ aq,show((r*4294967296:Nat):Int)+(D0:Int)=(c:Int) by omega,jF _ aq]
   by_cases hc:c<M
   .have i3:=aU c M
    have u:ak (r*4294967296+D0<q*a):=⟨aq⟩;have i4:¬(M:Int)<=4294967296*(r:Int)+(D0:Int):=aq;have i5:4294967296*(r:Int)+(D0:Int)<(M:Int):=aq;clear m k i hc;obtain⟨Gv,dg⟩:=pD DG.o j.o.1 j.o.2 (.inr u.o);have MK:=sH dg;have⟨q1,zu⟩:∃q1,q-1=q1:=⟨_,rfl⟩;have p:IntKind.u64.wrap ((q:Int)-1)=(q1:Int):=YN;have⟨r1,rW⟩:∃r1,r+V1=r1:=⟨_,rfl⟩;have B:IntKind.u64.wrap ((r:Int)+(V1:Int))=(r1:Int):=YM;rw[zu,rW]at MK;have qA:q1<=4294967296:=Jh;clear DG;by_cases hb:4294967296<=r1
    .exact mQ2
    .exact mQ1
   .have i3:=cI c M
    have EX:ak (q=(X*4294967296+D0)/Y):=⟨afX⟩;have i5:¬4294967296*(r:Int)+(D0:Int)<(M:Int):=aq;clear m k i hc hrK hg DG F;go_wp2;go_meet;exact⟨q,_,rfl,rfl,EX,BE⟩
 clear BE;obtain⟨qb,x,rfl,rfl,EX,BE⟩:=hcut;have e30:=Bl aq I EX.o;have⟨X2,J⟩:∃X2,(X*4294967296+D0)%Y=X2:=⟨_,rfl⟩;rw[J]at e30;have e31:=hS2.o X2;obtain⟨k1,k2⟩:=VG (hi:=hi) (lo:=lo) (y:=y) K.o.1 K.o.2.1 K.o.2.2.1 aq K.o.2.2.2.1 K.o.2.2.2.2.1 K.o.2.2.2.2.2 hD1 S;rw[<-EA.o,HX.o,<-EX.o]at k1;rw[HX.o,J]at k2;have D:(hi*18446744073709551616+lo)/y<18446744073709551616:=by
  rw[Nat.div_lt_iff_lt_mul aq];have:(hi+1)*18446744073709551616<=y*18446744073709551616:=Nat.mul_le_mul_right _ h;omega
 have e32:=Rg k1 D;have e33:=NU k1 D;rw[<-k2]at e31;have⟨QQ,n⟩:∃QQ,(hi*18446744073709551616+lo)/y=QQ:=⟨_,rfl⟩;have⟨RR,A⟩:∃RR,(hi*18446744073709551616+lo)%y=RR:=⟨_,rfl⟩;rw[n]at e32 e33;rw[A]at e31;have HQ:ak ((hi*18446744073709551616+lo)/y=QQ/\(hi*18446744073709551616+lo)%y=RR):=⟨n,A⟩;clear k1 k2 n A D J;go_wp2;go_ret2;exact⟨by rw[HQ.o.1,HQ.o.2];rfl,BE.o⟩
def PIy(w:EE)(e:IS)(a:EE):Prop:=∃z:Int,e=RE (ae aj z)/\az w a
def NC(a:Int)(w:EE):GK prog 91 #[ae aj a,ae aj 2] w λe c=>∃q r:Int,e=RE (P8 #[ae aj q,ae aj r])/\az w c:=by
 go_enter func91,ntmps91;go_wp2;refine mRl ?_;rintro _ ⟨b,rfl⟩;go_wp2_with fail
 all_goals
  go_ret2;exact⟨_,_,rfl,b.2⟩
def Ng(a b c:Int)(w:EE):GK prog 35 #[ae aj a,ae aj b,ae aj c] w (PIy w):=by
 have f:=sH (NC a w);have⟨o,k⟩:=eY (c.tmod 2 !=0);cases i:(b==2)<;>cases h:(b==1)<;>cases o
 all_goals
  go_enter func35,ntmps35;go_wp2_with fail
  first
   |(go_ret;exact⟨_,rfl,Below.refl _ _⟩)
   |(refine f.o.mono ?_
     rintro e j ⟨q,r,rfl,g⟩;have d:=sH g;go_wp2;go_ret;exact⟨_,rfl,d.o⟩)
def tX(C:aB)(n d:Nat)(w:EE)(k:Iw w w.heap.size .i64 aK C n)(j:n<=10000):GK prog 231 #[Pl C n d] w (Nw w 3 .i64 aK n):=by
 obtain⟨xs,h,_⟩:=k;have c:=sH h;go_enter func231,ntmps231;go_wp2_with (at_builtin;refine ig l5 rfl (.tmp 4) (.tmp 5) rfl rfl (Own.nil w w.heap.size 3 .i64) rfl c.o aq cr ?_;intro f b g o1 a;have i:ak (Ow g w.heap.size 3 .i64 aK f n b):=⟨⟨_,by simpa using o1,λ_ _=>trivial⟩⟩;have e:=sH a;clear o1 a);go_ret;exact⟨_,_,aT,i.o,e.o⟩
def ahx(w:EE)(B:Nat)(A:aB)(n c:Nat)(e:IS)(a:EE):Prop:=e=RE (Pl A n c)/\Ow a B 3 .i64 aK A n c/\EI B w a
def l6(s:G:=by
 go_wp2
 (go_roundg(n-i)<;>first|omega|exact⟨i+1,_,aq,aq,rfl,aV,O,BE⟩|exact⟨i+1,_,aq,aq,rfl,aV,O2,B2⟩)):G:=s
def agK(A:aB)(n c B:Nat)(a:Int)(w:EE)(h:Ow w B 3 .i64 aK A n c)(t:B<=w.heap.size)(u:n<=10000):GK prog 148 #[Pl A n c,ae aj a] w (ahx w B A n c):=by
 have O:=sH h;go_enter func148,ntmps148;go_wp2_with fail;refine(uy a w).mono ?_;rintro e _ ⟨z,rfl,rfl⟩
 rename EE=>w
 go_wp2;go_loopg[5,6](n+1)(λgg o k wr=>∃(i:Nat) (z:Int),n-i<gg/\i<=n/\o=ae aj z/\k=ae aj (i:Int)/\ak (Ow wr B 3 .i64 aK A n c)/\ak (EI B w wr))
 .exact⟨0,z,aq,aq,rfl,rfl,O,cJ⟩
 obtain⟨i,z,r,hi,rfl,rfl,O,BE⟩:=hrel;by_cases b:i<n;rotate_left
 .have l:=cI i n
  go_wp2;go_ret;exact⟨rfl,O.o,BE.o⟩
 have l:=aU i n;obtain⟨g,rfl,d,m⟩:=O.o.form aq;obtain⟨x,_,s⟩:=O.o.get b;have f0:=O.o.fz i;have O2:=sH (O.o.set (P:=aK) i (y:=1) trivial);have B2:ak (EI B w (wr.setCell ⟨g,i,OJ⟩ (ae aj 1))):=⟨Below.setCell BE.o (p:=⟨g,i,OJ⟩) d _⟩;have q:x=1∨x=2∨x=4∨(x≠1/\x≠2/\x≠4):=aq;rcases q with rfl|rfl|rfl|⟨j,h2,h3⟩
 rotate_right
 .have j:(x==1)=OZ:=by simpa using j
  have h2:(x==2)=OZ:=vN;have h3:(x==4)=OZ:=Gi;go_wp2
  (go_roundg(n-i)<;>first|omega|exact⟨i+1,_,aq,aq,rfl,aV,O,BE⟩|exact⟨i+1,_,aq,aq,rfl,aV,O2,B2⟩)
 .exact l6
 .exact l6
 by_cases f:(z==1)=OX
 .exact l6
 have f:(z==1)=OZ:=by simpa using f
 go_wp2
 (go_roundg(n-i)<;>first|omega|exact⟨i+1,_,aq,aq,rfl,aV,O,BE⟩|exact⟨i+1,_,aq,aq,rfl,aV,O2,B2⟩)
def afd(s:G:=by
 go_wp2
 go_roundg(n-i)
 .exact⟨i+1,aq,aq,aV,⟨O2.o _⟩,⟨B2.o _⟩⟩
 omega):G:=s
def agn(C:aB)(n d:Nat)(a:Int)(w:EE)(k:Iw w w.heap.size .i64 aK C n)(B:n<=10000):GK prog 154 #[Pl C n d,ae aj a] w (Nw w 3 .i64 aK n):=by
 have K:=sH k;go_enter func154,ntmps154;go_wp2_with fail;refine(tX C n d w K.o B).mono ?_;rintro e F ⟨A,c,rfl,o1,o⟩;have⟨O,q⟩:=K' o1 o;go_wp2;go_loopg[6,7](n+1)(λgg r _ wr=>∃(i:Nat),n-i<gg/\i<=n/\r=ae aj (i:Int)/\ak (Ow wr w.heap.size 3 .i64 aK A n c)/\ak (az w wr))
 .exact⟨0,aq,aq,rfl,O,q⟩
 obtain⟨i,E,hi,rfl,O,l⟩:=hrel;by_cases h:i<n;rotate_left
 .have s:=cI i n
  go_wp2;go_ret;exact⟨_,_,rfl,O.o,l.o⟩
 have s:=aU i n;obtain⟨g,rfl,j,u⟩:=O.o.form aq;obtain⟨x,_,G⟩:=O.o.get h;have f0:=O.o.fz i;have O2:ak (∀y:Int,Ow (wr.setCell ⟨g,i,OJ⟩ (ae aj y)) w.heap.size 3 .i64 aK (OH ⟨g,0,OJ⟩) n c):=⟨λy=>O.o.set i trivial⟩;have B2:ak (∀y:Int,az w (wr.setCell ⟨g,i,OJ⟩ (ae aj y))):=⟨λy=>Below.setCell l.o (p:=⟨g,i,OJ⟩) j _⟩;by_cases f:x=9;rotate_left
 .have f:(x !=9)=OX:=by simpa using f
  go_wp2;go_roundg(n-i)
  .exact⟨i+1,aq,aq,aV,O,l⟩
  omega
 subst f;go_wp2_with fail;refine(uy a wr).mono ?_;rintro e _ ⟨z,rfl,rfl⟩
 rename EE=>wr
 go_upto_if 24 with fail;go_cut[7](λv t=>(∃z:Int,v=ae aj z)/\wr=t)
 case first=>
  rcases i with _|i
  .go_wp2
   go_meet;exact⟨⟨_,rfl⟩,rfl⟩
  obtain⟨y,_,I⟩:=O.o.get (show i<n by omega);have wk:IK (i:Int)=(i:Int):=IntWalk.wrap64_in _ aq;have k0:=gT i;have H:=aU i n;have D:(0:Int)<(i:Int)+1:=aq;go_wp2;go_meet;exact⟨⟨_,rfl⟩,rfl⟩
 case rest=>
 obtain⟨⟨m,rfl⟩,rfl⟩:=hcut;go_wp2_with fail;refine(vp m wr).mono ?_;rintro e _ ⟨b,rfl,rfl⟩
 rename EE=>wr
 cases b
 .exact afd
 .exact afd
section
variable{P:I3}{ops:Array Oper}{md:Region.Mode}{C:EE -> Prop}{T:Option Tmp -> Option Sat}
def dJ{l:Array Bool}(hi:i<l.size)(a:l.getD i OX=OZ)(b:l.getD i OZ=OX):False:=by
 rw[Array.getD_eq_getD_getElem?,Array.getElem?_eq_getElem hi]at a b;simp at a b;rw[b]at a;cases a
def yQ{Q':Exit->Act->EE->Prop}{L:Nat}(n:∀{listed:Array Bool},listed.size=ops.size->Region.ready .any ops listed=[]->∀i,i<ops.size->listed.getD i OZ=OX)(y:L+2=ops.size)(m:kG ops (L+1) L=OX):∀(fuel:Nat) (listed:Array Bool) (a:Act) (w:EE),listed.size=ops.size->listed.getD L OX=OZ->listed.getD (L+1) OX=OZ->Region.ready .any ops ((listed.setIfInBounds L OX).setIfInBounds (L+1) OX)=[]->wpOp P ops Q' L (λa w=>wpOp P ops Q' (L+1) (λa w=>Q' .normal a w) a w) a w->wpAny P .any ops Q' (fuel+2) listed a w:=by
 intro fuel listed a w hs t q r x;have all:=n rk r;refine⟨λp=> ?_,λi hi=> ?_⟩
 .exfalso
  exact dJ aq t (n hs p L aq)
 .obtain⟨s,o,k,c⟩:=mem_ready.1 hi
  have b:=(Array.getElem?_eq_some_iff.1 k).1;obtain rfl:i=L:=by
   rcases Nat.decEq i L with h|h
   .exfalso
    rcases Nat.decEq i (L+1)with h3|h3
    .have d:=all i b
     rw[getD_set_ne OZ (Ne.symm h3),getD_set_ne OZ (Ne.symm h)]at d;exact dJ aq s d
    .subst h3
     exact dJ aq t (fG k c m)
   .exact h
  refine wpOp_mono (λv u e=> ?_) x;have l:(listed.setIfInBounds i OX).getD (i+1) OX=OZ:=by rw[getD_set_ne OX (by omega)];exact q
  refine⟨λp=> ?_,λj g=> ?_⟩
  .exfalso
   exact dJ br l (n rk p (i+1) aq)
  .obtain⟨s,o,k,_⟩:=mem_ready.1 g
   have b:=(Array.getElem?_eq_some_iff.1 k).1;obtain rfl:j=i+1:=by
    rcases Nat.decEq j (i+1)with h|h
    .exfalso
     have d:=all j b;rw[getD_set_ne OZ (Ne.symm h)]at d;exact dJ br s d
    .exact h
   refine wpOp_mono (λv u e=> ?_) e;cases fuel with
   |zero=>exact⟨r,e⟩
   |succ f=>exact⟨λ_=>e,λj g=>by rw[r]at g;cases g⟩
def vw{Q:(EE->Prop)->Act->Prop}{Q':Exit->Act->EE->Prop}{L:Nat}(r:backward ops=OX)(y:L+2=ops.size)(A:ij ops L=OX)(q:ij ops (L+1)=OX)(k:kG ops (L+1) L=OX)
 (x:∀E a w,C w->E w->Q E a->wpOp P ops Q' L (λa w=>wpOp P ops Q' (L+1) (λa w=>Q' .normal a w) a w) a w):∀(fuel:Nat) (listed:Array Bool) (E:EE->Prop) (a:Act) (w:EE),C w->E w->vH E->listed.size=ops.size->listed.getD L OX=OZ->listed.getD (L+1) OX=OZ->Cl ops listed->
 gN P .any ops T C Q fuel ((listed.setIfInBounds L OX).setIfInBounds (L+1) OX) E a->wpAny P .any ops Q' (fuel+2) listed a w:=by
 intro fuel
 induction fuel with
 |zero=>intro listed E a w n o m hs hl d f h;exact yQ (iU r) y k 0 listed a w hs hl d h.1 (x _ _ _ n o h.2)
 |succ fuel ih=>
  intro listed E a w n o m hs hl d f h;cases u:Region.ready .any ops ((listed.setIfInBounds L OX).setIfInBounds (L+1) OX)with
  |nil=>exact yQ (iU r) y k (fuel+1) listed a w hs hl d u (x _ _ _ n o (h.1 u))
  |cons i0 rest=>
   have F:i0∈Region.ready .any ops ((listed.setIfInBounds L OX).setIfInBounds (L+1) OX):=by rw[u];simp
   obtain⟨Dw,I,s,_⟩:=mem_ready.1 F;have g:=(Array.getElem?_eq_some_iff.1 s).1;have XO:i0≠L+1:=λe=>by
    subst e;simp[hs,g]at Dw
   have Rp:i0≠L:=λe=>by
    subst e;rw[getD_set_ne OX (Ne.symm XO)]at Dw;simp[hs,g]at Dw
   have c:listed.getD i0 OX=OZ:=ae7;have t:∀i∈Region.ready .any ops listed,i≠L:=λi hi e=>by
    subst e;exact dJ aq c (tg A f hi i0 aq)
   have l:∀i∈Region.ready .any ops listed,i≠L+1:=λi hi e=>by
    subst e;exact dJ aq c (tg q f hi i0 aq)
   refine⟨λB=> ?_,λi hi=> ?_⟩
   .exfalso
    exact dJ aq c (iU r hs B i0 g)
   .have fh:=t i hi
    have b:=l i hi;refine fU n o m (λH G D v p j z=>ih _ H G D v p j rk zs (by rw[getD_set_ne OX b];exact d) (Em f hi hs) ?_) (h.2 i (ready_mono (ready_mono hi fh) b));rw[Array.setIfInBounds_comm _ _ fh,Array.setIfInBounds_comm _ _ b];exact z
def sT{J:Nat}{Q:Exit->Act->EE->Prop}{a:Act}{lo:List Oper}(T:Option Tmp->Option Sat)(L:Nat)(hlen:lo.length=L+2)(H:P.follows .mixedOrders=OX)
 (B:Region.noSelect lo.toArray=OX) (z:backward lo.toArray=OX) (f:(ij lo.toArray L&&ij lo.toArray (L+1)&&kG lo.toArray (L+1) L)=OX) (D:Region.lexFrom .any lo.toArray L 0 (((Array.replicate lo.length OZ).setIfInBounds L OX).setIfInBounds (L+1) OX)=OX) (i:(lo[L]?).map (·.guard)=OH OJ) (d:(lo[L+1]?).map (·.guard)=OH OJ)
 (h:du P lo.toArray T (λb=>∃n:aI w,b=n.1) (λE p=>∀n:aI w,E n.1->∀o t,lo[L]? =OH o->lo[L+1]? =OH t->o.wp P p n.1 (λm q=>t.wp P m q (λy I=>Q .normal y I) Q) Q) (lo.take L) (λ_=>True) a):(Code.region J lo.toArray OX).wp P Q a w:=by
 have v:(λb=>∃n:aI w,b=n.1) {w with drawn:=w.drawn+1}:=⟨⟨{w with drawn:=w.drawn+1},⟨rfl,rfl,rfl,Nat.le_refl _,λ_ _=>rfl⟩⟩,rfl⟩;have A:L<lo.length:=aq;have g:L+1<lo.length:=aq;have e:lo[L]? =OH lo[L]:=List.getElem?_eq_getElem A;have k:lo[L+1]? =OH lo[L+1]:=List.getElem?_eq_getElem g;rw[e]at i;rw[k]at d;simp at i d;simp only[Bool.and_eq_true]at f;refine wp_region_any H ?_;have c:(lo.take L).length=L:=br;have s:=kI (md:=.any) ⟨_,v⟩ B (lo.take L) 0 (((Array.replicate lo.length OZ).setIfInBounds L OX).setIfInBounds (L+1) OX) (λ_=>True) a (λj u=>by
  rw[c]at u;simp[List.getElem?_take,u]) (by rw[c];exact D) h
 rw[c]at s;have G:=vw (C:=λb=>∃n:aI w,b=n.1) (Q':=Q) (L:=L) z xG f.1.1 f.1.2 f.2 (λE p b r F K=>by
  obtain⟨n,rfl⟩:=r;unfold wpOp;simp only[List.getElem?_toArray,e,k];rw[if_pos (by simp[Region.wanted,i])];have l:=K n F _ _ e k;refine .inl (Oper.wp_mono (λp b x=> ?_) l);rw[if_pos (by simp[Region.wanted,d])];exact .inl x) L (Array.replicate lo.length OZ) (λ_=>True) a {w with drawn:=w.drawn+1} v trivial (λ_ _ _ _=>trivial) aT xG xG (λj o M h=>by exfalso;rw[Array.getD_eq_getD_getElem?,Array.getElem?_replicate]at h;split at h<;>simp at h) s
 simpa[hlen]using G
end
def PTw(w:EE)(e:IS)(c:EE):Prop:=∃a b:Nat,e=RE (P8 #[.int .u64 (a:Int),.int .u64 (b:Int)])/\az w c
def aeD(x:Int):∃a:Nat,IntKind.u64.wrap x=(a:Int)/\a<18446744073709551616:=⟨(IntKind.u64.wrap x).toNat,YC,YC⟩
def abP(hi lo y:Nat)(w:EE)(h:hi<y)(b:y<18446744073709551616)(d:lo<18446744073709551616):GK prog 281 #[.int .u64 (hi:Int),.int .u64 (lo:Int),.int .u64 (y:Int)] w (PTw w):=(ZW hi lo y w h b d).mono λ_ _ ⟨a,c⟩=>⟨_,_,a,c⟩
def Sd(a:Nat)(b:a<18446744073709551616):bits .and .u64 (a:Int) 4294967295=((a%4294967296:Nat):Int):=by
 have h:=bits_and_u64_nat a 4294967295 b aq;rw[yA]at h;exact h
def agh(a:Nat):(a:Int)/4294967296=((a/4294967296:Nat):Int):=aq
def af4(a b:Nat):(a:Int)*(b:Int)=((a*b:Nat):Int):=(Int.natCast_mul a b).symm
def ahy(a b:Nat):(a:Int)+(b:Int)=((a+b:Nat):Int):=(Int.natCast_add a b).symm
def PMu(w:EE)(x y:Nat)(e:IS)(a:EE):Prop:=e=RE (P8 #[.int .u64 ((x*y/18446744073709551616:Nat):Int),.int .u64 ((x*y%18446744073709551616:Nat):Int)])/\a=w
def Zj(x y:Nat)(w:EE)(j:x<18446744073709551616)(h:y<18446744073709551616):GK prog 279 #[.int .u64 (x:Int),.int .u64 (y:Int)] w (PMu w x y):=by
 obtain⟨bd,i,bw,e⟩:=Lib.mul64_hi x y j h;have l:=Lib.half_mul_le (a:=x/4294967296) (b:=y/4294967296) aq aq;have m:=Lib.half_mul_le (a:=x/4294967296) (b:=y%4294967296) aq aq;have n:=Lib.half_mul_le (a:=x%4294967296) (b:=y/4294967296) aq aq;have d:x/4294967296*(y/4294967296)<18446744073709551616:=aq;have c:x/4294967296*(y%4294967296)<18446744073709551616:=aq;have f:x%4294967296*(y/4294967296)<18446744073709551616:=aq;have g:x/4294967296*(y/4294967296)+(x/4294967296*(y%4294967296)+x%4294967296*(y%4294967296)/4294967296)/4294967296<18446744073709551616:=aq;have k:x/4294967296*(y/4294967296)+(x/4294967296*(y%4294967296)+x%4294967296*(y%4294967296)/4294967296)/4294967296+((x/4294967296*(y%4294967296)+x%4294967296*(y%4294967296)/4294967296)%4294967296+x%4294967296*(y/4294967296))/4294967296<18446744073709551616:=aq;go_enter func279,ntmps279;go_wp2;simp only[Sd x j,Sd y h,agh,af4,ahy,jF _ bd,jF _ c,jF _ i,Sd _ i,jF _ f,jF _ bw,jF _ d,jF _ g,jF _ k,aeV (x*y)];rw[e];go_ret2;exact⟨rfl,rfl⟩
def PSz(w:EE)(e:IS)(a:EE):Prop:=∃q:Nat,e=RE (.int .u64 (q:Int))/\q<18446744073709551616/\a=w
def Gw(x:Int)(w:EE):GK prog 280 #[ae aj x] w (PSz w):=by
 obtain⟨a,h,c⟩:=aeD x;obtain⟨b,g,d⟩:=aeD (-(a:Int));have⟨e,f⟩:=K' c d;go_enter func280,ntmps280;go_wp2_with fail
 all_goals(go_ret;first|exact⟨a,rfl,e.o,rfl⟩|exact⟨b,rfl,f.o,rfl⟩)
def H'(x:Nat)(w:EE)(h:x<9223372036854775808):GK prog 280 #[ae aj (x:Int)] w λe a=>e=RE (.int .u64 (x:Int))/\a=w:=by
 have c:¬(x:Int)<0:=aq;have b:=jF x aq;go_enter func280,ntmps280;go_wp2;go_ret;exact⟨rfl,rfl⟩
def abK(a b:Int)(y:Nat)(w:EE)(l:y<18446744073709551616):GK prog 235 #[ae aj a,ae aj b,.int .u64 (y:Int)] w (PTw w):=by
 go_enter func235,ntmps235;go_wp2_with fail;refine(Gw a w).mono ?_;rintro e _ ⟨p,rfl,k,rfl⟩;have j:=sH k;go_wp2_with fail;refine(Gw b _).mono ?_;rintro e _ ⟨q,rfl,o,rfl⟩;have f:∀W,_:=λW=>Zj p q W j.o o
 unfold PMu at f;have⟨hi,d⟩:=eY (p*q/18446744073709551616);have⟨lo,c⟩:=eY (p*q%18446744073709551616);have i:ak (lo<18446744073709551616):=⟨by rw[<-c];exact Nat.mod_lt _ (by omega)⟩;rw[d,c]at f;have g:=sH f;go_wp2_with fail;refine(g.o _).mono ?_;rintro e _ ⟨rfl,rfl⟩;by_cases m:hi<y
 .have r:¬(y:Int)<=(hi:Int):=by omega
  have n:ak (∀W,_):=⟨λW=>abP hi lo y W m l i.o⟩;go_wp2_with fail;refine(n.o _).mono ?_;rintro e t ⟨a,b,rfl,s⟩;have h:=sH s;go_wp2;go_ret2;exact⟨a,b,rfl,h.o⟩
 .have r:(y:Int)<=(hi:Int):=by omega
  go_wp2;go_ret2;exact⟨18446744073709551615,0,rfl,Below.refl _ _⟩
def aeP(T n:Nat)(w:EE)(m:T<9223372036854775808)(f:0<n)(p:n<=65536):GK prog 235 #[ae aj (T:Int),ae aj (n:Int),.int .u64 (n:Int)] w λe b=>e=RE (P8 #[.int .u64 (T:Int),.int .u64 0])/\az w b:=by
 have⟨hi,c⟩:=eY (T*n/18446744073709551616);have⟨lo,a⟩:=eY (T*n%18446744073709551616);have l:hi*18446744073709551616+lo=T*n:=by have:=Nat.div_add_mod (T*n) 18446744073709551616;omega
 have d:hi<n:=by
  rw[<-c,Nat.div_lt_iff_lt_mul aq,Nat.mul_comm T n];exact Nat.mul_lt_mul_of_pos_left aq f
 have k:lo<18446744073709551616:=by rw[<-a];exact Nat.mod_lt _ (by omega)
 have h:ak (∀W,GK prog 279 #[.int .u64 (T:Int),.int .u64 (n:Int)] W λe b=>e=RE (P8 #[.int .u64 (hi:Int),.int .u64 (lo:Int)])/\b=W):=⟨λW=>by have:=Zj T n W aq aq;unfold PMu at this;rw[c,a]at this;exact this⟩;have j:ak (∀W,GK prog 281 #[.int .u64 (hi:Int),.int .u64 (lo:Int),.int .u64 (n:Int)] W λe b=>e=RE (P8 #[.int .u64 (T:Int),.int .u64 0])/\az W b):=⟨λW=>by
  have:=ZW hi lo n W d aq k;unfold PDv at this;rw[l,Nat.mul_div_cancel _ f,Nat.mul_mod_left]at this;exact this⟩
 have i:ak (∀W,_):=⟨λW=>H' T W m⟩;have SB:ak (∀W,_):=⟨λW=>H' n W aq⟩;have r:¬(n:Int)<=(hi:Int):=aq;go_enter func235,ntmps235;go_wp2_with fail;refine(i.o _).mono ?_;rintro e _ ⟨rfl,rfl⟩;go_wp2_with fail;refine(SB.o _).mono ?_;rintro e _ ⟨rfl,rfl⟩;go_wp2_with fail;refine(h.o _).mono ?_;rintro e _ ⟨rfl,rfl⟩;go_wp2_with fail;refine(j.o _).mono ?_;rintro e q ⟨rfl,o⟩;have g:=sH o;go_wp2;go_ret2;exact⟨rfl,g.o⟩
def UC(a b:Int)(n:Nat)(w:EE)(g:n<=65536):GK prog 282 #[ae aj a,ae aj b,ae aj (n:Int)] w (PIy w):=by
 have i:IntKind.u64.wrap (n:Int)=(n:Int):=jF n aq;have c:=sH (abK a b n w aq);go_enter func282,ntmps282;go_wp2_with fail;refine c.o.mono ?_;rintro e h ⟨p,q,rfl,f⟩;have d:=sH f;go_wp2_with fail
 all_goals(go_ret;exact⟨_,rfl,d.o⟩)
def abI(T n:Nat)(w:EE)(i:T<9223372036854775808)(a:0<n)(f:n<=65536):GK prog 282 #[ae aj (T:Int),ae aj (n:Int),ae aj (n:Int)] w λe g=>e=RE (ae aj (T:Int))/\az w g:=by
 have m:IntKind.u64.wrap (n:Int)=(n:Int):=jF n aq;have h:IntKind.i64.wrap (T:Int)=(T:Int):=IntWalk.i64_in _ aq;have d:IK (T:Int)=(T:Int):=IntWalk.wrap64_in _ aq;have k:=gT T;have c:=sH (aeP T n w i a f);go_enter func282,ntmps282;go_wp2_with fail;refine c.o.mono ?_;rintro e l ⟨rfl,j⟩;have b:=sH j;go_wp2;go_ret;exact⟨by first|rfl|rw[h]|rw[d],b.o⟩
def gP:aC->Int
 |[]=>0
 |x::l=>x+gP l
def tO:∀(l:aC) (i:Nat) (v:Int),i<l.length->gP (l.set i v)=gP l-nth l i+v
 |[],i,v,h=>by simp at h
 |x::l,0,v,_=>by show v+gP l=x+gP l-x+v;omega
 |x::l,i+1,v,h=>by
  have ih:=tO l i v zl;have e:nth (x::l) (i+1)=nth l i:=rfl;rw[e];show x+gP (l.set i v)=x+gP l-nth l i+v;rw[ih];omega
def qK:∀l:aC,(∀x∈l,x=0)->gP l=0
 |[],_=>rfl
 |x::l,h=>by
  show x+gP l=0;rw[h x aT,qK l λy a=>h y (by simp[a])];rfl
def Sj{l:aC}(h:i≠j):nth (l.set i v) j=nth l j:=by
 unfold nth;simp only[List.getD_eq_getElem?_getD];rw[List.getElem?_set_ne h]
def Os(w:EE)(B:Nat)(A:aB)(n c:Nat)(S:aC->Prop):Prop:=∃xs,Own w B 3 .i64 A n c xs/\xs.length=n/\S xs
def Os.ar{a:EE}(h:Os w B A n c S)(b:az w a):Os a B A n c S:=by
 obtain⟨xs,d,e⟩:=h;exact⟨xs,aA.ar d b,e⟩
def Os.ow(h:Os w B A n c S):Ow w B 3 .i64 aK A n c:=by
 obtain⟨xs,a,_⟩:=h;exact⟨xs,a,λ_ _=>trivial⟩
def Os.set{a:aC->Prop}(h:Os w B (OH ⟨g,0,OJ⟩) n c S)(y:Int)(f:∀xs,xs.length=n->S xs->a (xs.set j y)):Os (w.setCell ⟨g,j,OJ⟩ (ae aj y)) B (OH ⟨g,0,OJ⟩) n c a:=by
 obtain⟨xs,e,b,d⟩:=h;exact⟨_,Own.sI e j y,by rw[List.length_set,b],f xs b d⟩
def Os.zero(h:Ow w B 3 .i64 (·=0) A n c):Os w B A n c (λxs=>∀x∈xs,x=0):=by
 obtain⟨xs,a,b⟩:=h;exact⟨xs,a,a.len,b⟩
def ShS(i:Nat)(y:Int)(xs:aC):Prop:=IK (gP xs)=IK y/\∀j,i<=j->nth xs j=0
def ShS.more{y z:Int}(h:ShS i y xs)(d:xs.length=n)(hi:i<n):ShS (i+1) z (xs.set i (IK (z-y))):=by
 obtain⟨b,a⟩:=h;refine⟨?_,λj c=> ?_⟩
 .rw[tO _ _ _ aq,a i cr]
  unfold IK at*;omega
 .rw[Sj aq]
  exact a j aq
def PSh(w:EE)(a:Int)(n:Nat)(e:IS)(b:EE):Prop:=∃(A:aB) (c:Nat),e=RE (Pl A n c)/\Os b w.heap.size A n c (λxs=>IK (gP xs)=a)/\az w b
def Sk(T n:Nat)(w:EE)(D:T<9223372036854775808)(I:0<n)(G:n<=65536):GK prog 239 #[ae aj (T:Int),ae aj (n:Int),ae aj (n:Int),.func (.func 240) #[] #[]] w (PSh w (T:Int) n):=by
 have i0:((n:Int)==0)=OZ:=pW;have Z:¬(n:Int)=0:=aq;have HN:ak (0<n/\n<=65536/\T<9223372036854775808):=⟨I,G,D⟩;have Y:∀args w,(callFunc 240 args).run prog w=.ok (.enter 240 args) w:=λargs w=>by
  first|rfl|(simp[callFunc,go_sem])
 have O:ak (∀(x:Int) (W:EE),GK prog 240 #[ae aj x] W λe l=>e=RE (ae aj 1)/\l=W):=⟨λx W=>by
  go_enter func240,ntmps240;go_wp2;go_ret;exact⟨rfl,rfl⟩⟩
 have M:ak (∀(i:Nat) (W:EE),i<n->GK prog 282 #[ae aj (T:Int),ae aj ((i+1:Nat):Int),ae aj (n:Int)] W λe l=>∃z:Int,e=RE (ae aj z)/\(i+1=n->z=(T:Int))/\az W l):=⟨λi W hi=>by
  by_cases F:i+1=n
  .subst F
   exact(abI T (i+1) W HN.o.2.2 HN.o.1 HN.o.2.1).mono λ_ _ ⟨c,b⟩=>⟨_,c,λ_=>rfl,b⟩
  .exact(UC _ _ n W HN.o.2.1).mono λ_ _ ⟨z,c,b⟩=>⟨z,c,λh=>absurd h F,b⟩⟩
 have U:ak ((prog.info? 3).map (·.zero)=OH (OH (ae aj 0))):=⟨aF⟩;clear D I G;go_enter func239,ntmps239;go_wp2_with (refine dx (p:=(·=0)) l5 U.o rfl rfl (.tmp 16) (.tmp 16) rfl n rfl rfl rfl rfl Cs w.heap.size cr ?_;intro g R o1 A;have E:=sH (Os.zero o1);have Q:=sH A;clear o1 A);have V:ak (Os R w.heap.size (OH ⟨g,0,OJ⟩) n n (ShS 0 0)):=⟨by
  obtain⟨xs,c,b,k⟩:=E.o;refine⟨xs,c,b,by rw[qK xs k],λj _=> ?_⟩;rcases Nat.lt_or_ge j xs.length with h|h
  .rw[bZ h];exact k _ (List.getElem_mem h)
  .unfold nth;rw[List.getD_eq_getElem?_getD,List.getElem?_eq_none h];rfl⟩
 clear E;go_loopg[10,11,12,13,20](n+1)(λgg v10 r _ _ u wr=>∃(i:Nat) (y:Int),n-i<gg/\i<=n/\v10=ae aj (i:Int)/\r=ae aj y/\u=ae aj (i:Int)/\ak (Os wr w.heap.size (OH ⟨g,0,OJ⟩) n n (ShS i y)/\(i=n->y=(T:Int)))/\ak (az w wr))
 .exact⟨0,0,aq,aq,rfl,rfl,rfl,⟨V.o,λh=>by have:=HN.o;omega⟩,Q⟩
 obtain⟨i,y,C,hi,rfl,rfl,rfl,f,J⟩:=hrel;by_cases a:i<n;rotate_left
 .have S:=cI i n
  have d:i=n:=aq;have t:ak (Os wr w.heap.size (OH ⟨g,0,OJ⟩) n n (λxs=>IK (gP xs)=(T:Int))):=⟨by
   obtain⟨xs,c,b,k,_⟩:=f.o.1;refine⟨xs,c,b, ?_⟩;show IK (gP xs)=(T:Int);rw[k,f.o.2 d];exact IntWalk.wrap64_in _ Cs⟩
  clear d;go_wp2;go_ret;exact⟨_,_,rfl,t.o,J.o⟩
 have S:=aU i n;have m:ak (n-i<gk/\i<n):=⟨C,a⟩;have q:=f.o.1.ow.lt;have s:ak (∀W,_):=⟨λW=>M.o i W a⟩;have H:IK ((i:Int)+1)=((i+1:Nat):Int):=by rw[IntWalk.wrap64_in _ (by have:=HN.o;omega)];rfl
 clear C;go_wp2_with fail;refine(O.o _ _).mono ?_;rintro e _ ⟨rfl,rfl⟩;go_wp2_with fail
 try rw[H]
 refine(s.o _).mono ?_;rintro e K ⟨z,rfl,B,o⟩;have v:=sH (f.o.1.ar o);have L:=J.t o;obtain⟨_,_,k0⟩:=v.o.ow.get a;have k1:=v.o.ow.fz i;have P:ak (Os (K.setCell ⟨g,i,OJ⟩ (ae aj (IK (z-y)))) w.heap.size (OH ⟨g,0,OJ⟩) n n (ShS (i+1) z)/\(i+1=n->z=(T:Int))):=⟨v.o.set _ λxs N h=>h.more N a,B⟩;have X:ak (az w (K.setCell ⟨g,i,OJ⟩ (ae aj (IK (z-y))))):=⟨Below.setCell L.o (p:=⟨g,i,OJ⟩) q.1 _⟩;clear o B H;go_wp2;go_roundg(n-i)
 .exact⟨i+1,z,aq,aq,rfl,rfl,by have:=HN.o;rw[IntWalk.wrap64_in _ (by omega)];rfl,P,X⟩
 have:=m.o;omega
def Ru(T n:Nat)(w:EE)(i:T<9223372036854775808)(a:0<n)(h:n<=65536):GK prog 167 #[ae aj (T:Int),ae aj (n:Int)] w (PSh w (T:Int) n):=by
 have k:¬(n:Int)<1:=aq;have m:=cI 65536 n;have f:=sH (Sk T n w i a h);go_enter func167,ntmps167;go_wp2_with fail;refine f.o.mono ?_;rintro e l ⟨A,c,rfl,b,j⟩;have⟨g,d⟩:=K' b j;go_wp2;go_ret;exact⟨A,c,rfl,g.o,d.o⟩
def Od(x:Int)(w:EE):GK prog 162 #[ae aj x] w (PB w):=by
 go_enter func162,ntmps162;go_wp2_with fail
 all_goals(go_ret;exact⟨_,rfl,Below.refl _ _⟩)
def aaN(x:Int)(w:EE):GK prog 85 #[ae aj x] w (PB w):=by
 have c:=sH (Od x w);go_enter func85,ntmps85;go_wp2_with fail
 all_goals first
  |(go_ret;exact⟨_,rfl,Below.refl _ _⟩)
  |(refine c.o.mono ?_
    rintro e f ⟨b,rfl,d⟩;have a:=sH d;go_wp2;go_ret;exact⟨_,rfl,a.o⟩)
def Dy(A:aB)(n c:Nat)(w:EE)(h:Iw w w.heap.size .i64 aK A n)(l:0<n)(G:n<=100000):GK prog 83 #[Pl A n c] w (Nw w 3 .i64 aK n):=by
 have R:=sH h;obtain⟨d,z,rfl,_⟩:=R.o.get l;obtain⟨xs,m,t⟩:=R.o;have y:=m.len;have D:ak (aA (w.alloc (RM #[] 3)) w.heap.size 3 1 (OH ⟨w.heap.size,0,OJ⟩) 0 0 []):=⟨World.ownsRow_made w #[] 0 cr (Nat.zero_le _) rfl⟩;have q:ak (nu (w.alloc (RM #[] 3)) (OH d) n (xs.map (ae aj))):=⟨λ_=>⟨d,rfl,λj u b=>by
  have r:j<n:=by have:=(List.getElem?_eq_some_iff.1 b).1;simp at this;omega
  obtain⟨i,e,_,B⟩:=m.2 l;obtain rfl:d=i:=Option.some.inj e;have:=B j r;rw[List.getElem?_map,List.getElem?_eq_getElem aq,Option.map_some]at b;injection b with b
  subst b;rw[bZ aq]at this;exact aH this _⟩⟩
 have E:∀(w:EE) (a:aB) (n c f c':Nat),(binOp .eql 39 (Pl a n c) (Pl OJ f c')).run prog w=.ok (PF a.isNone) w:=λw a n c f c'=>Lib.run_eql_slice_nil w _ _ a n c f c' underlying39
 go_enter func83,ntmps83;go_wp2_with (at_builtin;refine wpList_plain rfl λF g=> ?_;refine oC l5 (.tmp 5) (.tmp 6) rfl rfl D.o rfl q.o br (λu b=>by obtain⟨x,_,rfl⟩:=List.mem_map.1 b;rfl) aq aT ?_;intro s v H k o;refine g _ _ ?_;have C:=sH k;have p:=sH ((aw w _).trans o);clear k o);go_ret;exact⟨s,v,rfl,⟨xs,by have:=C.o;rw[Nat.zero_add,List.nil_append]at this;exact this,t⟩,p.o⟩
def Vw(A:aB)(n c:Nat)(ts:aC)(V:aB)(y:Nat)(base:Int)(f t:Nat)(w:EE)(h:aJ .i32 w A n c ts)(N:Laid w)(Y:Iw w w.heap.size .i64 aK V n)(F:n<=y)(sN:f<t)(ht:t<=n)(hn:n<=100000):GK prog 31 #[Pl A n c,Pl V n y,ae aj base,ae aj (f:Int),ae aj (t:Int)] w (Nw w 3 .i64 aK (t-f)):=by
 have⟨R,LW,RV⟩:=MO h N Y;clear h N Y;have g1:¬(f:Int)<0:=aq;have g2:=cI t f;have g3:=cI n t;go_enter func31,ntmps31;obtain⟨l,a,d,Z⟩:∃(l:aB) (a:Nat),(∀W:EE,(Instr.slice 39 (Pl V n y) (OH (ae aj (f:Int))) (OH (ae aj (t:Int))) OJ).run prog W=.ok (Pl l (t-f) a) W)/\ak (Iw w w.heap.size .i64 aK l (t-f)):=by
  obtain⟨xs,T,_⟩:=RV.o;obtain⟨l,a,M⟩:=jC l5 V n y f t aq ht F (f:Int) (t:Int) rfl rfl;exact⟨l,a,M.run,⟨_,M.at_ T,λ_ _=>trivial⟩⟩
 have I:=sH (Dy l (t-f) a w Z.o aq aq);have u:ak (0<t-f/\f<t/\t<=n):=⟨aq⟩;have⟨m,hm⟩:=eY (t-f);rw[hm]at I u d⊢;clear Z;go_wp2_with fail;refine I.o.mono ?_;rintro e w1 ⟨A2,K,rfl,o1,L⟩;obtain⟨g,rfl,G,dV⟩:=o1.form u.o.1;have O1:=sH o1;have B1:ak (az w w1):=⟨L⟩;clear o1 L d g1 g2 g3 I;go_wp2;go_loopg[12,13,14](n+1)(λgg D H _ wr=>∃(k:Nat) (b:Bool),k<gg/\f<=k/\k<=t/\D=PF b/\H=ae aj ((k:Int)-1)/\ak (Ow wr w.heap.size 3 .i64 aK (OH ⟨g,0,OJ⟩) m K)/\ak (az w wr))
 .exact⟨t,OX,aq,aq,aq,rfl,lZ,O1,B1⟩
 obtain⟨k,b,hg,hfk,hkt,rfl,rfl,P,B⟩:=hrel;by_cases aG:f<k;rotate_left
 .have i4:¬(f:Int)<=(k:Int)-1:=by omega
  go_wp2;go_ret;exact⟨_,_,rfl,P.o,B.o⟩
 obtain⟨j,rfl⟩:∃j,k=j+1:=⟨k-1,aq⟩;have o:((j+1:Nat):Int)-1=(j:Int):=aq;rw[o];have i4:(f:Int)<=(j:Int):=aq;have j0:=gT j;have j1:=aU j n;obtain⟨ad,rfl,e0⟩:=(R.o.ar B.o).ce (show j<n by omega);obtain⟨r,s⟩:=bounds_i32 (R.o.cZ (show j<n by omega));have U:=sH (lS (nth ts j) r s wr (LW.o.ar B.o));have E:ak (j+1<gk/\f<=j/\j+1<=t):=⟨aq⟩;clear r s hg o;generalize nth ts j=z at*;go_wp2_with fail;refine callK U.o B λw2 O Q=> ?_;have O2:=sH (P.o.ar O);clear O U e0;generalize(aN z).jv=x at*;go_upto_region 9 with fail;go_cut[12](λv X=>(∃b:Bool,v=PF b)/\ak (az w X)/\ak (Ow X w.heap.size 3 .i64 aK (OH ⟨g,0,OJ⟩) m K))
 ·
  cases T:(x==11)<;>cases h2:(x==12)<;>cases b
  all_goals
   go_wp2_with fail
   first
    |(go_meet;exact⟨⟨_,rfl⟩,Q,O2⟩)
    |(refine(aaN x _).mono ?_
      rintro e w5 ⟨b5,rfl,i⟩;have B5:=Q.t i;have O5:=sH (O2.o.ar i);clear i;go_wp2;go_meet;exact⟨⟨_,rfl⟩,B5,O5⟩)
 obtain⟨⟨b',rfl⟩,S,C⟩:=hcut;obtain⟨tC,hf3,ht3⟩:=E.o;cases b'
 .go_wp2
  go_roundg(j+1)
  .exact⟨j,_,aq,aq,aq,rfl,lZ,C,S⟩
  omega
 .obtain⟨q,hq⟩:∃q:Nat,(j:Int)-(f:Int)=(q:Int):=⟨j-f,aq⟩
  have J:q<m:=aq;have q0:=gT q;have q1:=aU q m;obtain⟨_,_,k0⟩:=C.o.get J;have k1:=C.o.fz q;have O7:ak (Ow (wc.setCell ⟨g,q,OJ⟩ (ae aj base)) w.heap.size 3 .i64 aK (OH ⟨g,0,OJ⟩) m K):=⟨C.o.set q trivial⟩;have B7:ak (az w (wc.setCell ⟨g,q,OJ⟩ (ae aj base))):=⟨Below.setCell S.o (p:=⟨g,q,OJ⟩) G _⟩;go_wp2;go_roundg(j+1)
  .exact⟨j,_,aq,aq,aq,rfl,lZ,O7,B7⟩
  omega
abbrev Rw:=aB×Nat×Nat
def Vg(r:Rw):EN:=Pl r.1 r.2.1 r.2.2
structure wH(w:EE)(B:Nat)(eO eI:IQ)(P:Int->Prop)(M:Nat)(rs:List Rw)(A:aB)(k c:Nat):Prop where
 len:rs.length=k
 own:aA w B eO 1 A k c (rs.map Vg)
 each:∀r∈rs,0<r.2.1/\r.2.1<=M/\Ow w B eI .i64 P r.1 r.2.1 r.2.2
 sep:rs.Pairwise λr s=>bR r.1 s.1
section
variable{w w':EE}{B B' k c M M':Nat}{eO eI:IQ}{P:Int -> Prop}{rs:List Rw}{r:Rw}{A A':aB}
def wH.nil(w:EE)(B:Nat)(eO eI:IQ)(P:Int->Prop)(M:Nat):wH w B eO eI P M [] OJ 0 0:=⟨rfl,aA.nil _ _ _ _,λr h=>fD,.nil⟩
def wH.ar(h:wH w B eO eI P M rs A k c)(b:az w w'):wH w' B eO eI P M rs A k c:=⟨h.len,aA.ar h.own b,λr a=>⟨(h.each r a).1,(h.each r a).2.1,(h.each r a).2.2.ar b⟩,h.sep⟩
def wH.more(h:wH w B eO eI P M rs A k c)(b:M<=M'):wH w B eO eI P M' rs A k c:=⟨h.len,h.own,λr a=>⟨(h.each r a).1,by have:=(h.each r a).2.1;omega,(h.each r a).2.2⟩,h.sep⟩
def wH.push(h:wH w B eO eI P M rs A k c)(i:0<r.2.1)(j:r.2.1<=M)(g:Ow w B eI .i64 P r.1 r.2.1 r.2.2)(f:∀s∈rs,bR s.1 r.1){c':Nat}(n:aA w' B eO 1 A' (k+1) c' (rs.map Vg++[Vg r]))(m:w.grownBy w' (Value.slice A k c).ownBlock)(b:eI≠eO):wH w' B eO eI P M (rs++[r]) A' (k+1) c':=by
 refine⟨sy,by rw[List.map_append];exact n,λs a=> ?_, ?_⟩
 .have key:∀s:Rw,Ow w B eI .i64 P s.1 s.2.1 s.2.2->Ow w' B eI .i64 P s.1 s.2.1 s.2.2:=λs a=>by
   obtain⟨xs,d,e⟩:=a;exact⟨xs,Own.kept d m (ca d h.own b) (aA.dU h.own),e⟩
  rcases List.mem_append.1 a with a|a
  .exact⟨(h.each s a).1,(h.each s a).2.1,key s (h.each s a).2.2⟩
  .obtain rfl:=List.mem_singleton.1 a
   exact⟨i,j,key s g⟩
 .rw[List.pairwise_append]
  exact⟨h.sep,List.pairwise_singleton _ _,λs a t l=>by obtain rfl:=List.mem_singleton.1 l;exact f s a⟩
def wH.grow{c':Nat}{e:aB}(h:wH w B eO eI P M (rs++[r]) (OH ⟨g,0,OJ⟩) (k+1) c)(C:Ow w' B eI .i64 P e d j)(G:0<d)(y:d<=M)(u:w.grownBy w' (Vg r).ownBlock)
 (q:∀b,e=OH ⟨b,0,OJ⟩->r.1=OH ⟨b,0,OJ⟩∨w.heap.size<=b) (l:eI≠eO):wH (w'.setCell ⟨g,k,OJ⟩ (Pl e d j)) B eO eI P M (rs++[(e,d,j)]) (OH ⟨g,0,OJ⟩) (k+1) c:=by
 have o:rs.length=k:=by have:=h.len;simpa using this
 obtain⟨z,_,v⟩:=List.pairwise_append.1 h.sep;obtain⟨I,J,xs,p,H⟩:=h.each r aT;have D:bR r.1 (OH ⟨g,0,OJ⟩):=ca p h.own l;have x:aA w' B eO 1 (OH ⟨g,0,OJ⟩) (k+1) c ((rs++[r]).map Vg):=aA.kept h.own u D.symm (aA.dU p);have a:aA (w'.setCell ⟨g,k,OJ⟩ (Pl e d j)) B eO 1 (OH ⟨g,0,OJ⟩) (k+1) c (((rs++[r]).map Vg).set k (Pl e d j)):=(World.ownsRow.stored (cap:=c) x k (Pl e d j)).1;have hold:∀s∈rs,Ow w' B eI .i64 P s.1 s.2.1 s.2.2:=λs a=>by
  obtain⟨n,i,m⟩:=(h.each s (by simp[a])).2.2;exact⟨n,Own.kept i u (v s a r aT) (aA.dU p),m⟩
 have f:∀s:Rw,Ow w' B eI .i64 P s.1 s.2.1 s.2.2->Ow (w'.setCell ⟨g,k,OJ⟩ (Pl e d j)) B eI .i64 P s.1 s.2.1 s.2.2:=λs a=>by
  obtain⟨n,i,m⟩:=a;exact⟨n,Own.mj i (ca i x l) _,m⟩
 refine⟨by simp[o], ?_,λs a=> ?_, ?_⟩
 .rw[List.map_append,List.set_append_right _ _ (by simp[o])]at a
  rw[List.map_append];simpa[o,Vg]using a
 .rcases List.mem_append.1 a with a|a
  .have:=h.each s (by simp[a])
   exact⟨this.1,this.2.1,f s (hold s a)⟩
  .obtain rfl:=List.mem_singleton.1 a
   exact⟨G,y,f _ C⟩
 .rw[List.pairwise_append]
  refine⟨z,List.pairwise_singleton _ _,λs a t F=> ?_⟩;obtain rfl:=List.mem_singleton.1 F;refine(bR.grow (v s a r aT).symm (λb E=> ?_) q).symm;obtain⟨n,i,m⟩:=(h.each s (by simp[a])).2.2;rw[E]at i;exact(aA.yp i).2
def DJ(w:EE)(B:Nat)(P:Int->Prop)(M:Nat)(A:aB)(k:Nat):Prop:=∀j,j<k->∃(a:Addr) (b:aB) (n c:Nat),A=OH a/\a.block<B/\w.cell? (a.add j)=OH (Pl b n c)/\0<n/\n<=M/\Iw w B .i64 P b n
def wH.rd(h:wH w B eO eI P M rs A k c):DJ w w.heap.size P M A k:=λj d=>by
 have e:=h.len;obtain⟨g,rfl,_,b⟩:=aA.form h.own aq;have a:rs[j]∈rs:=List.getElem_mem aq;refine⟨_,rs[j].1,rs[j].2.1,rs[j].2.2,rfl,b, ?_,(h.each _ a).1,(h.each _ a).2.1,(h.each _ a).2.2.iw⟩;rw[bC,aA.cellAt h.own j aq,List.getElem?_map,List.getElem?_eq_getElem aq];rfl
def DJ.Z(h:DJ w B P M A k)(a:EI B w w')(m:B<=B'):DJ w' B' P M A k:=λj f=>by
 obtain⟨g,i,n,c,e,h2,b,o,d,l⟩:=h j f;exact⟨g,i,n,c,e,aq,(a.cell zk).trans b,o,d,l.Z a m⟩
end
structure Gn{α:Type}(w:EE)(B:Nat)(eO:IQ)(sz:Nat)(F:α->List EN)(I:EE->α->Prop)(rs:List α)(A:aB)(k c:Nat):Prop where
 len:rs.length=k
 own:aA w B eO sz A k c (rs.flatMap F)
 each:∀r∈rs,I w r
structure Kpt{α:Type}(eO:IQ)(I:EE->α->Prop):Prop where
 b:∀w w' r,I w r->az w w'->I w' r
 g:∀w w' r B sz A n c vs,I w r->aA w B eO sz A n c vs->w.grownBy w' (Value.slice A n c).ownBlock->I w' r
section
variable{α:Type}{w w':EE}{B k c sz:Nat}{eO:IQ}{F:α -> List EN}{I:EE -> α -> Prop}{rs:List α}{r:α}{A A':aB}
def Gn.nil(w:EE)(B:Nat)(eO:IQ)(sz:Nat)(F:α->List EN)(I:EE->α->Prop):Gn w B eO sz F I [] OJ 0 0:=⟨rfl,aA.nil _ _ _ _,λr h=>fD⟩
def Gn.ar(h:Gn w B eO sz F I rs A k c)(d:Kpt eO I)(a:az w w'):Gn w' B eO sz F I rs A k c:=⟨h.len,aA.ar h.own a,λr b=>d.b _ _ _ (h.each r b) a⟩
def Gn.push(h:Gn w B eO sz F I rs A k c)(e:Kpt eO I)(b:I w r){c':Nat}(f:aA w' B eO sz A' (k+1) c' (rs.flatMap F++F r))(d:w.grownBy w' (Value.slice A k c).ownBlock):Gn w' B eO sz F I (rs++[r]) A' (k+1) c':=by
 refine⟨sy,by rw[List.flatMap_append];simpa using f,λs a=> ?_⟩;have key:∀s,I w s->I w' s:=λs a=>e.g _ _ _ _ _ _ _ _ _ a h.own d
 rcases List.mem_append.1 a with a|a
 .exact key s (h.each s a)
 .obtain rfl:=List.mem_singleton.1 a
  exact key s b
def Gn.at(h:Gn w B eO sz F I rs A k c)(d:∀r,(F r).length=sz){j:Nat}(i:j<k):∃(g:Nat) (r:α),A=OH ⟨g,0,OJ⟩/\g<w.heap.size/\I w r/\∀q u,(F r)[q]? =OH u->w.cell? ⟨g,j*sz+q,OJ⟩=OH u:=by
 have l:=h.len;obtain⟨g,rfl,_,a⟩:=aA.form h.own aq;refine⟨g,rs[j],rfl,a,h.each _ (List.getElem_mem aq),λq u b=> ?_⟩;have f:q<sz:=by rw[<-d rs[j]];exact(List.getElem?_eq_some_iff.1 b).1
 have e:j*sz+q<k*sz:=by
  have:=Nat.mul_le_mul_right sz (show j+1<=k by omega);rw[Nat.add_mul]at this;omega
 rw[aA.cellAt h.own _ e,je F d rs j q _ (List.getElem?_eq_getElem aq) f,b]
end
abbrev En:=Int×Int×Bool
def Mv(e:En):List EN:=[ae aj e.1,ae aj e.2.1,PF e.2.2]
def zA(w:EE)(B:Nat)(A:aB)(n:Nat)(es:List En):Prop:=es.length=n/\(0<n->∃a,A=OH a/\a.block<B/\(∃cur b,w.heap[a.block]? =OH (RM cur 139 b))/\∀j e,es[j]? =OH e->w.cell? (a.add (j*3))=OH (ae aj e.1)/\w.cell? (bX (a.add (j*3)) 1)=OH (ae aj e.2.1)/\w.cell? (bX (a.add (j*3)) 2)=OH (PF e.2.2))
section
variable{w w':EE}{B B' n:Nat}{A:aB}{es:List En}
def zA.Z(h:zA w B A n es)(a:EI B w w')(p:B<=B'):zA w' B' A n es:=⟨h.1,λm=>by
 obtain⟨l,e,b,⟨cur,o,i⟩,g⟩:=h.2 m;refine⟨l,e,aq,⟨cur,o,(a.block _ b).trans i⟩,λj e c=> ?_⟩;obtain⟨f,k,d⟩:=g j e c;exact⟨(a.cell (by rw[aL];exact b)).trans f,(a.cell (by simp only[aL];exact b)).trans k,(a.cell (by simp only[aL];exact b)).trans d⟩⟩
def zA.at(h:zA w B A n es){j:Nat}(d:j<n):∃(a:Addr) (e:En),A=OH a/\es[j]? =OH e/\w.cell? (a.add (j*3))=OH (ae aj e.1)/\w.cell? (bX (a.add (j*3)) 1)=OH (ae aj e.2.1)/\w.cell? (bX (a.add (j*3)) 2)=OH (PF e.2.2):=by
 obtain⟨a,e,_,_,c⟩:=h.2 aq;have b:j<es.length:=by rw[h.1];exact d
 have:=c j _ (List.getElem?_eq_getElem b);exact⟨a,_,e,List.getElem?_eq_getElem b,this⟩
def VO(e:En):(Mv e).length=3:=rfl
def aA.typ{vs:List EN}(h:aA w B e d (OH ⟨g,0,OJ⟩) n c vs):∃cur f,w.heap[g]? =OH (RM cur e f):=by
 rcases h.2 with⟨a,_⟩|⟨i,cap,cur,a,_,b,_⟩
 .cases a
 .injection a with h1
  injection h1 with h1
  injection h1 with h1
  subst h1;exact⟨_,_,b⟩
def Uy(h:aA w B 139 3 A n c (es.flatMap Mv))(b:es.length=n):zA w w.heap.size A n es:=⟨b,λf=>by
 obtain⟨g,rfl,_,a⟩:=aA.form h f;refine⟨_,rfl,a,aA.typ h,λj e d=> ?_⟩;have k:j<n:=by rw[<-b];exact(List.getElem?_eq_some_iff.1 d).1
 have key:∀q,q<3->w.cell? ⟨g,j*3+q,OJ⟩=(Mv e)[q]? :=λq i=>by
  rw[aA.cellAt h _ aq,je Mv VO es j q e d i]
 refine⟨?_, ?_, ?_⟩
 .have:=key 0 aq;rwa [bC]
 .have:=key 1 aq;rwa [bC]
 .have:=key 2 aq;rwa [bC]⟩
def zA.cut{P:I3}{bytes:Nat}(T:aS P t e 3 bytes){c j:Nat}(p:j<=n)(r:n<=c)(h:Int)(m:h=j):
 ∃f d,(∀w:EE,(Instr.slice t (Pl A n c) OJ (OH (ae aj h)) OJ).run P w=.ok (Pl f j d) w)/\j<=d/\d<=c/\∀w B es,zA w B A n es->zA w B f j (es.take j):=by
 subst m;refine⟨if c=0 then A else A.map (·.add 0),c,λw=> ?_,aq,aq,λw B es g=>⟨by rw[List.length_take,g.1];omega,λo=> ?_⟩⟩
 .rw[run_slice_h w t A n c (cY T) .i64 j aq aq,de T]
  simp[Result.andThen,sliced]
 .obtain⟨i,rfl,l,k,a⟩:=g.2 aq
  rw[if_neg aq];refine⟨i,Ju,l,k,λq e b=>a q e ?_⟩;rw[List.getElem?_take]at b;split at b
  .exact b
  .cases b
end
def iK(es:List En)(v:Int):Prop:=(∃l o t,es=(l,o,OZ)::t)/\0<=v/\v<=((es.countP (·.2.2):Nat):Int)
def Aa(b:Int):iK [(b,0,OZ)] 0:=⟨⟨_,_,_,rfl⟩,aq,aT⟩
def iK.len{es:List En}(h:iK es v):0<es.length:=by
 obtain⟨⟨l,o,t,rfl⟩,_⟩:=h;simp
def iK.aed{es:List En}(h:iK es v):v<=es.length:=by
 have:= @List.countP_le_length _ (λe:En=>e.2.2) es;have:=h.2.2;omega
def iK.add{es:List En}(h:iK es v)(x:En):iK (es++[x]) v:=by
 obtain⟨⟨l,o,t,rfl⟩,a,b⟩:=h;refine⟨⟨l,o,t++[x],rfl⟩,a, ?_⟩;rw[List.countP_append];omega
def iK.aha{es:List En}(h:iK es v)(l o:Int):iK (es++[(l,o,OX)]) (v+1):=by
 obtain⟨⟨l,o,t,rfl⟩,b,a⟩:=h;refine⟨⟨l,o,t++[_],rfl⟩,aq, ?_⟩;rw[List.countP_append];simp at a⊢;omega
def wN{es:List En}{l o:Int}{t:List En}(e:es=(l,o,OZ)::t){m:Nat}(b:0<m):∃a,es.take m=(l,o,OZ)::a:=by
 subst e;obtain⟨m,rfl⟩:∃k,m=k+1:=⟨m-1,aq⟩;exact⟨_,List.take_succ_cons ..⟩
def mK{es:List En}{e:En}(h:es[m]? =OH e):(es.take (m+1)).countP (·.2.2)=(es.take m).countP (·.2.2)+(if e.2.2 then 1 else 0):=by
 obtain⟨a,rfl⟩:=List.getElem?_eq_some_iff.1 h;rw[List.take_succ_eq_append_getElem a,List.countP_append,List.countP_singleton]
def iK.pop{es:List En}(h:iK es v){m:Nat}(p:es.length=m+1)(f:0<m){e:En}(b:es[m]? =OH e)(i:e.2.2=OZ):iK (es.take m) v:=by
 have a:=mK b;rw[List.take_of_length_le aq,i]at a;obtain⟨⟨l,o,t,d⟩,g,k⟩:=h;obtain⟨c,j⟩:=wN d f;refine⟨⟨l,o,c,j⟩,g, ?_⟩;simp at a;omega
def tU(es:List En)(m:Nat):Prop:=m<=es.length/\(es.take m).countP (·.2.2)=es.countP (·.2.2)
def tU.start(es:List En):tU es es.length:=⟨Nat.le_refl _,by rw[List.take_of_length_le cr]⟩
def tU.pos{es:List En}(h:tU es m)(b:iK es v)(d:0<v):0<m:=by
 rcases m with _|m
 .have a:=h.2
  have c:=b.2.2;simp at a;omega
 .omega
def tU.step{es:List En}{e:En}(h:tU es (m+1))(b:es[m]? =OH e)(c:e.2.2=OZ):tU es m:=by
 have a:=mK b;rw[c]at a;exact⟨Dc,by rw[<-h.2,a];simp⟩
def tU.stop{es:List En}{e:En}(h:tU es (m+1))(i:iK es v)(p:0<v)(a:es[m]? =OH e)(d:e.2.2=OX):iK (es.take m) (v-1):=by
 have b:=mK a;rw[d,h.2]at b;obtain⟨⟨l,o,t,c⟩,q,k⟩:=i;have g:0<m:=by
  rcases m with _|m
  .subst c
   simp at a;subst a;cases d
  .omega
 obtain⟨f,j⟩:=wN c g;refine⟨⟨l,o,f,j⟩,aq, ?_⟩;simp at b;omega
def WL(n:Nat)(g:aC):Prop:=∃a b:Nat,g=[(a:Int),(b:Int)]/\a<b/\b<=n
def Nr{ks:aC}{p:Nat×Nat}(h:p∈uL ks):p.1<p.2/\p.2<=ks.length:=by
 unfold uL uf at h;obtain⟨i,hi,rfl⟩:=List.mem_map.1 h;have b:=List.mem_range.1 hi;refine⟨qO aq, ?_⟩;have a:dw (dC ks) (i+1)∈dC ks:=tw aq;have:=(pV (ks:=ks) (m:=ks.length+1) a).1;show dw (dC ks) (i+1)<=_;omega
def Wo{ps:List (Nat×Nat)}(h:aA w B 57 2 A n c (dG ps))(d:ps.length=n)(e:∀p∈ps,p.1<p.2/\p.2<=N):Oq w B 57 2 (WL N) A n c:=by
 refine⟨ps.map λp=>[(p.1:Int),(p.2:Int)],by simp[d],λg b=> ?_, ?_⟩
 .obtain⟨p,a,rfl⟩:=List.mem_map.1 b
  exact⟨rfl,p.1,p.2,rfl,e p a⟩
 .rw[List.flatMap_map]
  exact h
def aeJ(w:EE)(N:Nat)(e:IS)(a:EE):Prop:=∃(A:aB) (m c:Nat),m<=N/\e=RE (Pl A m c)/\Oq a w.heap.size 57 2 (WL N) A m c/\az w a
def Oi(A:aB)(n c:Nat)(ts:aC)(w:EE)(h:aJ .i32 w A n c ts)(i:n<=100000):GK prog 49 #[Pl A n c] w (aeJ w n):=by
 refine(wU A n c ts w h aq).mono ?_;rintro e j ⟨a,f,rfl,o,b⟩;have k:(ks ts).length=n:=Te;refine⟨a,_,f, ?_,rfl,Wo o rfl λp d=> ?_,b⟩
 .unfold uL
  rw[jg];have:=kY (ks ts) ((ks ts).length+1);have g:gj (ks ts) ((ks ts).length+1)=dC (ks ts):=rfl;rw[g]at this;omega
 .have:=Nr d
  omega
def Oq.cut(h:Oq w B 57 2 (WL N) A n c){j:Nat}(f:j<n):∃g a b:Nat,A=OH ⟨g,0,OJ⟩/\a<b/\b<=N/\w.cell? ⟨g,j*2,OJ⟩=OH (ae aj (a:Int))/\w.cell? ⟨g,j*2+1,OJ⟩=OH (ae aj (b:Int)):=by
 obtain⟨m,e,_,k⟩:=h.rq aq aq;obtain⟨g,rfl,_⟩:=h.form aq;obtain rfl:(⟨g,0,OJ⟩:Addr)=m:=CJ;obtain⟨r,_,⟨a,b,rfl,i,l⟩,d⟩:=k j f;refine⟨g,a,b,rfl,i,l, ?_, ?_⟩
 .have:=d 0 _ rfl
  rwa [aY,bC]at this
 .have:=d 1 _ rfl
  rwa [aY,bC]at this
def FG(A:aB)(n c:Nat)(ts:aC)(w:EE)(h:aJ .i32 w A n c ts)(b:n<=100000):GK prog 25 #[Pl A n c] w (Nw w 3 .i64 aK n):=by
 refine(wX A n c ts w h aq).mono ?_;rintro e d a;exact adw a λ_ _=>trivial
def zU(cs:aC)(N:Nat)(xs:aC):Prop:=∀i,i<xs.length->nth xs i= -1∨∃q:Nat,nth xs i=q/\q<N/\(gf (nth cs i)=OX->i<q)
def zU.nil(cs:aC)(N:Nat):zU cs N []:=λi h=>by simp at h
def zU.snoc{cs:aC}(h:zU cs N xs):zU cs N (xs++[-1]):=λi hi=>by
 rcases Nat.lt_or_ge i xs.length with a|a
 .rw[uN a];exact h i a
 .obtain rfl:i=xs.length:=by simp at hi;omega
  rw[gS rfl];exact .inl rfl
def zU.set{cs:aC}(h:zU cs N xs)(b:q<N)(c:gf (nth cs j)=OX->j<q):zU cs N (xs.set j q):=λi hi=>by
 by_cases a:j=i
 .subst a
  rw[tI Df];exact .inr ⟨q,rfl,b,c⟩
 .rw[oO a]
  exact h i Df
def YF(s:G:=by
 go_wp2
 go_ret;exact⟨_,rfl,BG.o⟩):G:=s
def Gt(A:aB)(n c:Nat)(a b:Int)(w:EE)(h:Iw w w.heap.size .i64 aK A n)(hc:n<=c)(hn:n<=100000):GK prog 142 #[Pl A n c,ae aj a,ae aj b] w (PI w):=by
 obtain⟨xs,F,_⟩:=h;have HX:=sH F;go_enter func142,ntmps142;go_upto_region 1 with fail;go_cut[1](λv B=>v=ae aj (max a 0)/\w=B)
 case first=>
  by_cases ha:a<0
  .have E:ak (max a 0=0):=⟨aq⟩
   go_wp2;go_meet;exact⟨pX,rfl⟩
  .have E:ak (max a 0=a):=⟨aq⟩
   go_wp2;go_meet;exact⟨pX,rfl⟩
 case rest=>
 obtain⟨rfl,rfl⟩:=hcut;have⟨x,F⟩:=eY (max a 0);rw[F];have V:0<=x:=aq;go_upto_region 2 with fail;go_cut[2](λv B=>v=ae aj (min b n)/\w=B)
 case first=>
  by_cases ha:(n:Int)<b
  .have E:ak (min b (n:Int)=n):=⟨aq⟩
   go_wp2;go_meet;exact⟨pX,rfl⟩
  .have E:ak (min b (n:Int)=b):=⟨aq⟩
   go_wp2;go_meet;exact⟨pX,rfl⟩
 case rest=>
 obtain⟨rfl,rfl⟩:=hcut;have⟨y,hy⟩:=eY (min b (n:Int));rw[hy];have hy0:y<=n:=aq;by_cases hle:y<=x
 .go_wp2
  go_ret;exact⟨_,rfl,Below.refl _ _⟩
 obtain⟨i,rfl⟩:∃i:Nat,x=i:=⟨x.toNat,aq⟩;obtain⟨j,rfl⟩:∃j:Nat,y=j:=⟨y.toNat,aq⟩;obtain⟨A2,c2,u⟩:=jC l5 A n c i j aq aq hc i j rfl rfl;have⟨N,hN⟩:=eY (j-i);have⟨l,D⟩:=eY ((xs.take j).drop i);have f:=u.at_ HX.o;rw[hN]at u f;rw[D]at f;have rc:=u.run;have⟨U,YS,I⟩:=MO (oM A2 N c2 l w f aq) f f.len;have Iu:N<=n:=aq;go_wp2_with fail;refine U.o.mono ?_;rintro e w2 ⟨A3,c3,rfl,Y,z⟩;have⟨S,M⟩:=K' Y z;go_wp2;go_loopg[9](N+1)(λgg W wr=>∃(k:Nat),N-k<gg/\k<=N/\W=ae aj (k:Int)/\ak (az w2 wr))
 .exact⟨0,aq,aq,rfl,cJ⟩
 obtain⟨k,hg,hk,rfl,C⟩:=hrel;have BG:=M.t C.o;by_cases d:k<N;rotate_left
 .have i4:=cI k N
  go_wp2;go_ret;exact⟨_,rfl,BG.o⟩
 have i4:=aU k N;obtain⟨ad,rfl,O⟩:=(YS.o.Z BG.o).iC d;obtain⟨g,rfl,Z,dV⟩:=aA.form S.o aq;have o:=bU (S.o.ar C.o) d;have p:=sH (yg (cs:=l) (i:=k) (by rw[I.o];exact d));have T:ak (∀q:Nat,q<l.length->q<N):=⟨λq h=>by have:=I.o;omega⟩;generalize nth l k=x at*;generalize nth (nj l) k=m at*;by_cases L:(x==1)=OX
 .exact YF
 by_cases P:(x==2)=OX
 .exact YF
 by_cases K:(x==3)=OX
 .exact YF
 by_cases H:(x==11)=OX
 .exact YF
 have L:(x==1)=OZ:=by simpa using L
 have P:(x==2)=OZ:=by simpa using P
 have K:(x==3)=OZ:=by simpa using K
 have H:(x==11)=OZ:=by simpa using H
 go_wp2_with fail;refine callK (oV x wr) C λw3 J t=> ?_;have X:=M.t t.o;have O:=av O J;have o:=av o J;have R:=sH (oV x);generalize Q:gf x=ob at*;cases ob
 .clear Q p
  go_wp2_with fail;refine callK (R.o _) t λw4 G r=> ?_;go_wp2;go_roundg(N-k)
  .exact⟨k+1,aq,aq,aV,r⟩
  omega
 .clear Q
  by_cases s:(m== -1)=OX
  .clear p
   go_wp2;go_ret;exact⟨_,rfl,X.o⟩
  have s:(m== -1)=OZ:=by simpa using s
  obtain⟨q,zu,qA,rfl⟩:∃q:Nat,k<q/\q<N/\m=q:=by
   rcases p.o rfl with⟨h,_⟩|⟨q,h1,h2,h3,_⟩
   .subst h;simp at s
   .exact⟨q,h1,T.o q h2,h3⟩
  go_wp2_with fail;refine callK (R.o _) t λw4 G r=> ?_;have o:=av o G;go_wp2;go_roundg(N-k)
  .exact⟨q+1,aq,aq,aV,r⟩
  omega
def PLv(w:EE)(e:IS)(a:EE):Prop:=∃(z:Int) (b:Bool),e=RE (P8 #[ae aj z,PF b])/\az w a
def VI(A:aB)(n c:Nat)(w:EE)(h:Iw w w.heap.size .i64 aK A n)(a:n<=c)(d:n<=100000):GK prog 64 #[Pl A n c] w (PLv w):=by
 have H:=sH h;go_enter func64,ntmps64;go_wp2_with fail;refine(Gt A n c 0 n w H.o a d).mono ?_;rintro e f ⟨z,rfl,b⟩;have B:=sH b;go_wp2_with fail
 all_goals
  go_ret2;exact⟨_,_,rfl,B.o⟩
def isJ(v:EN):Bool:=match v with| ae aj _=>OX|_=>OZ
def Yu(h:cs.toList.all isJ=OX){j:Nat}(hj:j<cs.toList.length):∃z:Int,cs[j]? =OH (ae aj z):=by
 have a:=(List.all_eq_true.1 h) (cs[j]' vO) aT;rw[Array.getElem?_eq_getElem vO];generalize cs[j]' vO=v at*;unfold isJ at a;split at a
 .exact⟨_,rfl⟩
 .cases a
def Lt(w:EE)(g n:Nat):Prop:=∃cs t a,w.heap[g]? =OH (RM cs t a)/\cs.toList.all isJ=OX/\n=cs.toList.length
def Lt.ar{b:EE}(h:Lt w g n)(c:az w b):Lt b g n:=by
 obtain⟨cs,t,e,a,d⟩:=h;exact⟨cs,t,e,(c.block _ (Array.getElem?_eq_some_iff.1 a).1).trans a,d⟩
def Lt.new(w:EE)(cs:Array EN)(t:IQ)(n N:Nat)(b:w.heap.size=N)(h:cs.toList.all isJ=OX)(a:n=cs.toList.length):Lt (w.alloc (RM cs t)) N n:=by
 subst b;exact⟨cs,t,_,heap_alloc_new _ _,h,a⟩
def PB0(w:EE)(e:IS)(a:EE):Prop:=(∃b:Bool,e=RE (PF b))/\a=w
def oR(z:Int)(g n k:Nat)(w:EE)(h:Lt w g n)(q:n<=100):GK prog 116 #[ae aj z,Pl (OH ⟨g,0,OJ⟩) n k] w (PB0 w):=by
 have H:=sH h;go_enter func116,ntmps116;go_wp2;go_loopg[5](n+1)(λgg d wr=>∃(i:Nat),n-i<gg/\i<=n/\d=ae aj (i:Int)/\wr=w)
 .exact⟨0,aq,aq,rfl,rfl⟩
 obtain⟨i,o,hi,rfl,rfl⟩:=hrel;by_cases c:i<n;rotate_left
 .have b:=cI i n
  go_wp2;go_ret;exact⟨⟨_,rfl⟩,rfl⟩
 have b:=aU i n;obtain⟨u,l⟩:∃u:Int,wr.cell? ⟨g,i,OJ⟩=OH (ae aj u):=by
  obtain⟨cs,t,p,a,e,m⟩:=H.o;obtain⟨u,f⟩:=Yu e (j:=i) aq;exact⟨u,by rw[cell_of_row _ _ _ _ _ _ a];exact f⟩
 cases r:(u==z)
 .go_wp2
  go_roundg(n-i)
  .exact⟨i+1,aq,aq,aV,rfl⟩
  omega
 .go_wp2
  go_ret;exact⟨⟨_,rfl⟩,rfl⟩
def yD(z:Int)(w:EE):GK prog 115 #[ae aj z] w (PB0 w):=by
 go_enter func115,ntmps115;cases a:(z==8)
 .go_wp2
  go_ret;exact⟨⟨_,rfl⟩,rfl⟩
 .go_wp2
  go_ret;exact⟨⟨_,rfl⟩,rfl⟩
def Td(s:G:=by
 skip
 all_goals go_wp2_with fail
 repeat' (go_at_call 116;refine(oR _ _ _ _ _ YZ cF).mono ?_;rintro e w9 ⟨⟨b,rfl⟩,rfl⟩;cases b<;>go_wp2_with fail)
 all_goals
  go_meet;exact⟨⟨_,rfl⟩,⟨by repeat(first|exact BE.o|exact Below.alloc BE.o BE.o.size _|refine Below.alloc ?_ Da _)⟩⟩):G:=s
def Tg(s:G:=by
 go_wp2
 go_ret;exact⟨_,rfl,BE.o⟩):G:=s
def J8(a b:Int)(w:EE):GK prog 120 #[ae aj a,ae aj b] w (PB w):=by
 have BE:ak (az w w):=cJ;go_enter func120,ntmps120;go_upto_region 1 with fail;go_cut[13](λv d=>(∃b:Bool,v=PF b)/\ak (az w d))
 case first=>exact Td
 case rest=>
 obtain⟨⟨b,rfl⟩,c⟩:=hcut;clear BE;have BE:=c;clear c
 rename EE=>d
 cases b;rotate_left
 .exact Tg
 go_upto_region 3 with fail;go_cut[21](λv d=>(∃b:Bool,v=PF b)/\ak (az w d))
 case first=>exact Td
 case rest=>
 obtain⟨⟨b,rfl⟩,c⟩:=hcut;clear BE;have BE:=c;clear c
 rename EE=>d
 cases b;rotate_left
 .exact Tg
 go_upto_region 5 with fail;go_cut[28](λv d=>(∃b:Bool,v=PF b)/\ak (az w d))
 case first=>exact Td
 case rest=>
 obtain⟨⟨b,rfl⟩,c⟩:=hcut;clear BE;have BE:=c;clear c
 rename EE=>d
 cases b;rotate_left
 .exact Tg
 go_upto_region 7 with fail;go_cut[35](λv d=>(∃b:Bool,v=PF b)/\ak (az w d))
 case first=>
  cases i:(a==30)
  all_goals go_wp2_with fail
  repeat' (go_at_call 116;refine(oR _ _ _ _ _ YZ cF).mono ?_;rintro e w9 ⟨⟨b,rfl⟩,rfl⟩;cases b<;>go_wp2_with fail)
  all_goals
   go_meet;exact⟨⟨_,rfl⟩,⟨by repeat(first|exact BE.o|exact Below.alloc BE.o BE.o.size _|refine Below.alloc ?_ Da _)⟩⟩
 case rest=>
 obtain⟨⟨b,rfl⟩,c⟩:=hcut;clear BE;have BE:=c;clear c
 rename EE=>d
 cases b;rotate_left
 .exact Tg
 go_upto_region 9 with fail;go_cut[52](λv d=>(∃b:Bool,v=PF b)/\ak (az w d))
 case first=>exact Td
 case rest=>
 obtain⟨⟨b,rfl⟩,c⟩:=hcut;clear BE;have BE:=c;clear c
 rename EE=>d
 cases b;rotate_left
 .exact Tg
 have L0:=Lt.new d #[ae aj 30,ae aj 31,ae aj 32,ae aj 33,ae aj 34] 3 5 _ rfl rfl rfl;have f:=BE.o.alloc BE.o.size (RM #[ae aj 30,ae aj 31,ae aj 32,ae aj 33,ae aj 34] 3);go_upto_region 12 with fail;generalize d.alloc (RM #[ae aj 30,ae aj 31,ae aj 32,ae aj 33,ae aj 34] 3)=g at*;have⟨LT,h⟩:=K' L0 f;clear BE L0 f;have BE:ak (az g g):=cJ;cases k:(a==23)<;>cases j:(b==22)
 all_goals go_wp2_with fail
 repeat' (go_at_call 116;refine(oR _ _ _ _ _ YZ cF).mono ?_;rintro e w9 ⟨⟨b,rfl⟩,rfl⟩;cases b<;>go_wp2_with fail)
 all_goals
  go_ret;exact⟨_,rfl,h.o⟩
def JJ(a b:Int)(w:EE):GK prog 121 #[ae aj a,ae aj b] w (PB w):=by
 have L0:=Lt.new w #[ae aj 0,ae aj 28] 3 2 _ rfl rfl rfl;have h:=aw w (RM #[ae aj 0,ae aj 28] 3);go_enter func121,ntmps121;go_upto_region 2 with fail;generalize w.alloc (RM #[ae aj 0,ae aj 28] 3)=g at*;have⟨LT,d⟩:=K' L0 h;clear L0 h;have BE:ak (az g g):=cJ;go_upto_region 2 with fail;go_cut[18](λv f=>(∃b:Bool,v=PF b)/\ak (az g f))
 case first=>
  cases i:(a==20)
  all_goals go_wp2_with fail
  repeat' (go_at_call 116;refine(oR _ _ _ _ _ YZ cF).mono ?_;rintro e w9 ⟨⟨b,rfl⟩,rfl⟩;cases b<;>go_wp2_with fail)
  all_goals
   go_meet;exact⟨⟨_,rfl⟩,⟨by repeat(first|exact BE.o|exact Below.alloc BE.o BE.o.size _|refine Below.alloc ?_ Da _)⟩⟩
 case rest=>
 obtain⟨⟨b,rfl⟩,c⟩:=hcut;clear BE;have BE:=c;clear c
 rename EE=>f
 cases b;rotate_left
 .go_wp2
  go_ret;exact⟨_,rfl,d.o.trans (BE.o.mono d.o.size)⟩
 go_upto_region 4 with fail;go_cut[25](λv f=>(∃b:Bool,v=PF b)/\ak (az g f))
 case first=>exact Td
 case rest=>
 obtain⟨⟨b,rfl⟩,c⟩:=hcut;clear BE;have BE:=c;clear c
 rename EE=>f
 cases b;rotate_left
 .go_wp2
  go_ret;exact⟨_,rfl,d.o.trans (BE.o.mono d.o.size)⟩
 cases k:(a==14)<;>cases j:(a==26)
 all_goals go_wp2_with fail
 repeat' (go_at_call 116;refine(oR _ _ _ _ _ YZ cF).mono ?_;rintro e w9 ⟨⟨b,rfl⟩,rfl⟩;cases b<;>go_wp2_with fail)
 all_goals
  go_ret;exact⟨_,rfl,by repeat(first|exact d.o.trans (BE.o.mono d.o.size)|refine Below.alloc ?_ (by have:=BE.o.size;have:=d.o.size;simp<;>omega) _)⟩
def Bx.p9{k j a e f c g d i:EN}(h:Bx w b #[k,j,a,e,f,c,g,d,i]):w.cell? ⟨b,0,OJ⟩=OH k/\w.cell? ⟨b,1,OJ⟩=OH j/\w.cell? ⟨b,2,OJ⟩=OH a/\w.cell? ⟨b,3,OJ⟩=OH e/\w.cell? ⟨b,4,OJ⟩=OH f/\w.cell? ⟨b,5,OJ⟩=OH c/\w.cell? ⟨b,6,OJ⟩=OH g/\w.cell? ⟨b,7,OJ⟩=OH d/\w.cell? ⟨b,8,OJ⟩=OH i:=⟨h.cell 0,h.cell 1,h.cell 2,h.cell 3,h.cell 4,h.cell 5,h.cell 6,h.cell 7,h.cell 8⟩
def Tx(w:EE)(g:Nat)(cs:Array EN)(t:IQ):Prop:=w.heap[g]? =OH (RM cs t (0,0))
def Tx.bx(h:Tx w g cs t):Bx w g cs:=⟨t,h⟩
def Tx.ar{a:EE}(h:Tx w g cs t)(b:az w a):Tx a g cs t:=(b.block g h.bx.lt).trans h
def Tx.apart{k:Nat}{vs:List EN}(h:Tx w g cs t)(o:aA w B e k A n c vs)(d:e≠t):bR A (OH ⟨g,0,OJ⟩):=λi f b=>by
 subst f;injection b with b
 injection b with b
 subst b;obtain⟨cur,j,a⟩:=aA.typ o;rw[h]at a;injection a with a
 injection a with _ a
 exact d a.symm
def Tx.row(h:Tx w g cs t)(ds:Array EN):Tx (w.setRow g ds) g ds t:=setRow_heap _ _ _ ds _ _ h
def ZT(N:Nat)(cs:Array EN)(t:IQ):Sat:=⟨λv w=>∃g:Nat,v=PK (OH ⟨g,0,OJ⟩)/\N<=g/\Tx w g cs t,λ_ _ _ ⟨g,c,d,a⟩ b=>⟨g,c,d,a.ar b⟩⟩
def Fq{w0:EE}(n:aI w0)(cs:Array EN)(t:IQ):(ZT w0.heap.size cs t).p (PK (OH ⟨n.1.heap.size,0,OJ⟩)) (n.1.alloc (RM cs t))/\(∃m:aI w0,n.1.alloc (RM cs t)=m.1)/\EI n.1.heap.size n.1 (n.1.alloc (RM cs t)):=
 ⟨⟨_,rfl,n.2.size,heap_alloc_new _ _⟩,⟨⟨_,n.2.trans ((aw _ _).mono n.2.size)⟩,rfl⟩,aw _ _⟩
def ZT.get(h:(ZT N cs t).p (PK (OH ⟨g,0,OJ⟩)) w):Tx w g cs t:=by
 obtain⟨a,e,_,h⟩:=h;injection e with e
 injection e with e
 injection e with e
 subst e;exact h
