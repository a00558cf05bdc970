/- Part of LineFills. -/
import Derived.Test.YtijcgdkpconjcaaGreatDoorAo
import Derived.Test.YtijcgdkpconjcaaGreatDoorAn
import Derived.Test.YtijcgdkpconjcaaGreatDoorAi
namespace Go.Proofs.YtijcgdkpconjcaaGreatDoor
open Go.ChangeShapes Go.WideShapes Go.ChangeAt Go.RowKit Go.Proofs.Tryz
open Go renaming World->EE,Value->EN,Calls->GK,TypeId->IQ,Ending->IS,Program->I3
open Go.RowKit renaming Below->EI,wrap64->IK
open Option renaming some->OH,none->OJ
open Bool renaming true->OX,false->OZ
open Go.Value renaming slice->Pl,bool->PF,pointer->PK,tuple->P8
open Go.Ending renaming returned->RE
open Go.Obj renaming cells->RM
open Go.Value renaming int->ae
open Go.IntKind renaming i64->aj
set_option linter.all false
set_option maxRecDepth 100000
set_option maxHeartbeats 16000000
variable{KR:Prop}
variable{p:Addr}{B a bx c g i j k m n size:Nat}{o xs:aC}{e t:IQ}{A G:aB}{w wr:EE}{gs:List aC}{X:Int}
def Ma(h:KR:=by go_num):KR:=h
def Ci(x:Int)(w:EE):GK prog 251 #[ae aj x] w λe a=>e=RE (ae aj (jW x:Nat))/\a=w:=by
 go_enter func251,ntmps251;go_wp2_with fail
 all_goals
  go_ret;exact⟨fx (by rw[Fy]<;>omega),rfl⟩
def zN(B g a m N c cap:Nat)(xs:aC)(W:EE)(h:Own W B 3 .i64 (OH ⟨g,0,OJ⟩) N c xs)(C:a+m<=N)(H:N<=4000000):
 GK prog 252 #[Pl (OH ⟨g,a,OJ⟩) m cap] W λe l=>e=RE (P8 #[])/\Own l B 3 .i64 (OH ⟨g,0,OJ⟩) N c (eh xs a (a+m))/\EI B W l:=by
 have u:=h.len;have s:ak (MH (a+0) (a+m) xs=eh xs a (a+m)):=⟨Io aq aq⟩;have n:ak _:=⟨h⟩;generalize eh xs a (a+m)=f at*;clear h u;go_enter func252,ntmps252;go_wp2;go_loopg[2,3](m+1)(λgg v2 v3 wr=>∃(i q:Nat) (b:aC),q-i<gg/\i<=q/\q<=m/\v2=ae aj (i:Int)/\v3=ae aj ((q:Int)-1)/\ak (MH (a+i) (a+q) b=f)/\ak (Own wr B 3 .i64 (OH ⟨g,0,OJ⟩) N c b)/\ak (EI B W wr))
 .exact⟨0,m,xs,aq,aq,aq,rfl,Ma,s,n,cJ⟩
 obtain⟨i,q,b,D,x,y,rfl,rfl,SI,d,o⟩:=hrel;clear n s;by_cases w:i+1<q
 .obtain⟨r,rfl⟩:∃r,q=r+1:=⟨q-1,aq⟩
  rw[show((r+1:Nat):Int)-1=(r:Int)from aq];have A:=bU d.o (j:=a+i) aq;have F:=bU d.o (j:=a+r) aq;have f1:=aA.frozenAt d.o (a+i);have f2:=aA.frozenAt d.o (a+r);have hlen:=d.o.len;have k:ak (MH (a+(i+1)) (a+r) (swp b (a+i) (a+r))=f):=⟨by
   have:=SI.o;rw[AN aq]at this;rw[show a+i+1=a+(i+1) by omega,show a+(r+1)-1=a+r by omega]at this;exact this⟩
  have v:ak (Own ((wr.setCell ⟨g,a+i,OJ⟩ (ae aj (nth b (a+r)))).setCell ⟨g,a+r,OJ⟩ (ae aj (nth b (a+i)))) B 3 .i64 (OH ⟨g,0,OJ⟩) N c (swp b (a+i) (a+r))):=⟨Own.sI (Own.sI d.o (a+i) _) (a+r) _⟩;have t:a+i≠a+r:=aq;have z:=aU i r;have I:=aU i m;have G:=aU r m;clear SI hlen;go_wp2;go_region;go_wp2;go_roundg(r-i)
  .exact⟨i+1,r,swp b (a+i) (a+r),aq,aq,aq,Ma,rfl,k,v,⟨bJ (Below.setCell (Below.setCell o.o (p:=⟨g,a+i,OJ⟩) (aA.yp d.o).1 _) (p:=⟨g,a+r,OJ⟩) (aA.yp d.o).1 _)⟩⟩
  omega
 .have E:ak (b=f):=⟨by have:=SI.o;rwa [sZ (by omega)]at this⟩
  have z:decide ((i:Int)<(q:Int)-1)=OZ:=ji;go_wp2;go_end0;exact⟨rfl,by rw[<-E.o];exact d.o,o.o⟩
def VH(n i:Nat):aC:=vl i++List.replicate (n-i) 0
def Ok(n:Nat):VH n 0=List.replicate n 0:=by simp[VH,vl]
def Nt(n:Nat):VH n n=vl n:=by simp[VH]
def WU(h:i<n):(VH n i).set i (i:Int)=VH n (i+1):=by
 obtain⟨d,a⟩:∃d,n-i=d+1:=⟨n-i-1,aq⟩;unfold VH;rw[a,show n-(i+1)=d by omega,Oc,List.set_append_right _ _ (by rw[zh];exact Nat.le_refl _),zh,Nat.sub_self];simp[List.replicate_succ]
def zJ{lv:aC}{N least:Nat}(h:least<=k+1):KO lv N least (k+1) o=KO lv N least k (ar lv (k+1) N o 0):=by simp[KO,h]
def US{lv:aC}{N least:Nat}(h:¬least<=k)(a:1<=least):KO lv N least k o=o:=by
 have _:=a;cases k with
 |zero=>rfl
 |succ k=>simp[KO,h]
def iv{a b:Int}(h:a=b):ae aj a=ae aj b:=by rw[h]
def Ei(v:EN)(w:EE):GK prog 183 #[v] w λe a=>e=RE (P8 #[])/\a=w:=by
 go_enter func183,ntmps183;go_wp2;go_end0;exact⟨rfl,rfl⟩
def Wy{P:I3}{bytes:Nat}(T:aS P t e 1 bytes)(g n c a b:Nat)(d:a<b)(i:b<=n)(j:n<=c)(w:EE):
 (Instr.slice t (Pl (OH ⟨g,0,OJ⟩) n c) (OH (ae aj (a:Int))) (OH (ae aj (b:Int))) OJ).run P w=.ok (Pl (OH ⟨g,a,OJ⟩) (b-a) (c-a)) w:=by
 rw[run_slice_lh w t _ n c (cY T) .i64 .i64 a b aq aq aq,de T];have f:¬c=a:=aq;simp[Result.andThen,sliced,f];unfold Addr.add;split
 .rename_i h;subst h;rfl
 .simp
def afQ(s:KR:=by
 exact⟨i+1,aq,aq,iv (by have:=EM.o;omega),iv (by have:=EL.o;split at this<;>omega),Ma,SO,SE⟩):KR:=s
def Es(A:aB)(n c:Nat)(lv:aC)(w:EE)(hx:bO w w.heap.size .i64 A n lv)(hn:n<=4000000):
 GK prog 182 #[Pl A n c,.func (.func 183) #[] #[]] w (lE w 3 .i64 n (kU lv)):=by
 have HX:ak _:=⟨hx⟩;have FI:ak (KO lv n (fI lv n) (lg lv n) (vl n)=kU lv):=⟨by unfold kU;rw[hx.len]⟩;generalize kU lv=l at*;clear hx;go_enter func182,ntmps182;go_wp2_with (refine fe TIv I1 rfl (.tmp 14) (.tmp 14) rfl n rfl rfl rfl rfl aq w.heap.size cr ?_;intro g w1 o1 b1;have O1:ak _:=⟨o1⟩;have B1:ak _:=⟨b1⟩;clear o1 b1);go_loopg[6,7,8,9,18](n+1)(λgg v6 v7 _ _ Qq wr=>∃i:Nat,n-i<gg/\i<=n/\v6=ae aj (lg lv i:Nat)/\v7=ae aj (fI lv i:Nat)/\Qq=ae aj (i:Int)/\ak (Own wr w.heap.size 3 .i64 (OH ⟨g,0,OJ⟩) n n (VH n i))/\ak (az w wr))
 .exact⟨0,aq,aq,rfl,rfl,rfl,⟨by rw[Ok];exact O1.o⟩,B1⟩
 obtain⟨i,m,hi,rfl,rfl,rfl,C,V⟩:=hrel;clear O1 B1;by_cases f:i<n
 .obtain⟨ad,rfl,_,R⟩:=(HX.o.Z V.o).2 aq
  have c1:=R i f;obtain⟨u,hu⟩:∃u,wr.cell? ⟨g,i,OJ⟩=OH u:=⟨_,bU C.o f⟩;have f1:=aA.frozenAt C.o i;have SO:ak (Own (wr.setCell ⟨g,i,OJ⟩ (ae aj (i:Int))) w.heap.size 3 .i64 (OH ⟨g,0,OJ⟩) n n (VH n (i+1))):=⟨by rw[<-WU f];exact Own.sI C.o i _⟩;have SE:ak (az w (wr.setCell ⟨g,i,OJ⟩ (ae aj (i:Int)))):=⟨Below.setCell V.o (p:=⟨g,i,OJ⟩) (aA.yp C.o).1 _⟩;have i1:=aU i n;have hH:=Bq (nth lv i);have EM:ak (lg lv (i+1)=max (lg lv i) (jW (nth lv i))):=⟨rfl⟩;have EL:ak (fI lv (i+1)=if jW (nth lv i)%2=1 then min (fI lv i) (jW (nth lv i))else fI lv i):=⟨rfl⟩;have J:ak (∀W,_):=⟨λW=>Ci (nth lv i) W⟩;generalize lg lv i=M at*;generalize fI lv i=L at*;generalize jW (nth lv i)=H at*;generalize nth lv i=x at*;clear R;have m0:(M:Int)<(H:Int)∨(H:Int)<=(M:Int):=aq;have l0:(H:Int)<(L:Int)∨(L:Int)<=(H:Int):=aq;rcases m0 with m1|m1
  all_goals
   cases p1:((H:Int)%2==1)with
   |false=>
    have hp:¬H%2=1:=by
     intro h;have h2:((H:Int)%2==1)=OX:=br;rw[h2]at p1;cases p1
    clear l0;go_wp2_with (go_at_call 251;refine(J.o _).mono ?_;rintro e w' ⟨rfl,rfl⟩);go_roundg(n-i)
    .exact afQ
    omega
   |true=>
    have hp:H%2=1:=by have:=beq_iff_eq.1 p1;omega
    rcases l0 with l1|l1
    all_goals
     go_wp2_with (go_at_call 251;refine(J.o _).mono ?_;rintro e w' ⟨rfl,rfl⟩);go_roundg(n-i)
     .exact afQ
     omega
 .obtain rfl:i=n:=by omega
  have LB:ak (1<=fI lv i/\fI lv i<=127):=⟨xj lv i⟩;have MB:ak (lg lv i<=126):=⟨Ar lv i⟩;rw[Nt]at C;have PM:ak ((vl i).Perm (vl i)):=⟨List.Perm.refl _⟩;generalize fI lv i=L at*;generalize lg lv i=M at*;have hL:=LB.o.1;have hL2:=LB.o.2;have hM:=MB.o;obtain⟨wa,rfl⟩:=eX wr;clear f m hi;go_wp2;go_loopg[10,11,12](M+1)(λgg v10 _ _ wr=>∃(k:Nat) (o:aC),k<gg/\k<=126/\v10=ae aj (k:Int)/\ak (o.Perm (vl i))/\ak (KO lv i L k o=l)/\ak (Own wr w.heap.size 3 .i64 (OH ⟨g,0,OJ⟩) i i o)/\ak (az w wr))
  .exact⟨M,vl i,aq,aq,rfl,PM,FI,C,V⟩
  obtain⟨k,o,m,hk,rfl,PO,RF,OO,BO⟩:=hrel;obtain⟨wo,rfl⟩:=eX wr;clear FI PM C V;by_cases r:L<=k
  .obtain⟨q,rfl⟩:∃q,k=q+1:=⟨k-1,aq⟩
   have z:ak (KO lv i L q (ar lv (q+1) i o 0)=l):=⟨by rw[<-zJ r];exact RF.o⟩;have HG:ak (q+1<gk):=⟨m⟩;have⟨K,B⟩:=eY (ar lv (q+1) i o 0);rw[B]at z;have PP:ak (ar lv (q+1) i o 0=K):=⟨B⟩;clear B;have k1:(L:Int)<=(q:Int)+1:=aq;rw[show((q+1:Nat):Int)=(q:Int)+1 from rfl];clear m RF r;go_wp2;go_loopg[11,12](i+1)(λgg v11 _ wr=>∃(a:Nat) (b:aC),i-a<gg/\a<=i/\v11=ae aj (a:Int)/\ak (b.Perm (vl i))/\ak (ar lv (q+1) i b a=K)/\ak (Own wr w.heap.size 3 .i64 (OH ⟨g,0,OJ⟩) i i b)/\ak (az w wr))
   .exact⟨0,o,aq,aq,rfl,PO,PP,OO,BO⟩
   obtain⟨a,b,m,ha,rfl,U,S,t,Z⟩:=hrel;obtain⟨wp,rfl⟩:=eX wr;clear PO PP OO BO;by_cases I:a<i
   .have F:ak (i-a<gk):=⟨m⟩
    have⟨T,D⟩:=eY (oA lv b (q+1) i a);have Y:=tu lv b (q+1) ha;rw[D]at Y;have N:=Y.1;have Qm:=Y.2;have ST:ak (fE (Me lv b (q+1)) i a=T):=⟨D⟩;have PT:ak (ar lv (q+1) i (eh b a T) (T+1)=K):=⟨by rw[<-D,<-lh I];exact S.o⟩;have GB:ak (T<i->Me lv (eh b a T) (q+1) T=OZ):=⟨λh=>by have:=Fs (lv:=lv) (k:=q+1) t.o.len ha (by rw[D];exact h);rwa [D]at this⟩;have OR:ak (Bo b i):=⟨nY U.o⟩;have a1:=aU a i;clear D Y m S;go_upto_block 6 with fail;go_cut[11](λv wx=>v=ae aj (T:Int)/\wx=wp)
    ·
     go_wp2;go_loopg[11](i-a+1)(λgg v wr=>∃j:Nat,i-j<gg/\a<=j/\j<=i/\v=ae aj (j:Int)/\ak (fE (Me lv b (q+1)) i j=T)/\wr=wp)
     .exact⟨a,aq,aq,aq,rfl,ST,rfl⟩
     obtain⟨j,tC,haj,oT,rfl,P,rfl⟩:=hrel;by_cases O:j<i
     .obtain⟨y,hy⟩:∃y:Nat,nth b j=(y:Int):=⟨(nth b j).toNat,by have:=OR.o.ge j O;omega⟩
      have hyi:y<i:=by have:=OR.o.lt j O;omega
      have c1:=bU t.o O;rw[hy]at c1;obtain⟨ad,rfl,_,R⟩:=(HX.o.Z Z.o).2 aq;have c2:=R y hyi;have X:ak (Me lv b (q+1) j=decide (q+1<=jW (nth lv y))):=⟨by unfold Me;rw[hy];rfl⟩;have J:ak (∀W,_):=⟨λW=>Ci (nth lv y) W⟩;generalize jW (nth lv y)=H at*;generalize nth lv y=x at*;have j1:=aU j i;have y0:=gT y;have y1:=aU y i;clear hy R;by_cases Q:q+1<=H
      .have d:ak (fE (Me lv b (q+1)) i (j+1)=T):=⟨by rw[<-rr O (by rw[X.o];simpa using Q)];exact P.o⟩
       have k2:(q:Int)+1<=(H:Int):=aq;clear P X;go_wp2_with (go_at_call 251;refine(J.o _).mono ?_;rintro e w' ⟨rfl,rfl⟩);go_roundg(i-j)
       .exact⟨j+1,aq,aq,aq,Ma,d,rfl⟩
       omega
      .have d:ak (j=T):=⟨by have:=P.o;rwa [jt (λ_=>by rw[X.o];simpa using Q)]at this⟩
       have k2:decide ((q:Int)+1<=(H:Int))=OZ:=ji;have k3:decide (q+1<=H)=OZ:=ji;clear P X;go_wp2_with (go_at_call 251;refine(J.o _).mono ?_;rintro e w' ⟨rfl,rfl⟩);go_meet;exact⟨by rw[d.o],rfl⟩
     .obtain rfl:j=i:=by omega
      have d:ak (j=T):=⟨by have:=P.o;rwa [EV cr]at this⟩;have j1:decide ((j:Int)<(j:Int))=OZ:=aT;clear O;go_wp2;go_meet;exact⟨by rw[d.o],rfl⟩
    obtain⟨rfl,rfl⟩:=hcut;by_cases G:a<T
    .have t1:=aU a T
     have CU:=Wy TIv g i i a T G Qm cr;have RV:ak (∀W,Own W w.heap.size 3 .i64 (OH ⟨g,0,OJ⟩) i i b->_):=⟨λW h=>zN w.heap.size g a (T-a) i i (i-a) b W h aq hn⟩;rw[show a+(T-a)=T by omega]at RV;have PN:ak ((eh b a T).Perm (vl i)):=⟨(mW N).trans U.o⟩;have s:ak (ar lv (q+1) i (eh b a T) T=K):=⟨by rw[JR (by rw[tM N];exact t.o.len) GB.o];exact PT.o⟩;generalize eh b a T=o3 at*;go_wp2_with (first
      |(go_at_call 252;refine(RV.o _ t.o).mono ?_;rintro e w5 ⟨rfl,o5,b5⟩;have O5:ak _:=⟨o5⟩;have B5:ak (az w w5):=⟨Z.o.trans b5⟩;clear o5 b5 RV)
      |(go_at_call 183;refine(Ei _ _).mono ?_;rintro e w6 ⟨rfl,rfl⟩))
     go_roundg(i-a)
     .exact⟨T,o3,aq,aq,rfl,PN,s,O5,B5⟩
     exact F.o
    .obtain rfl:T=a:=by omega
     have s:ak (ar lv (q+1) i b (T+1)=K):=⟨by have:=PT.o;rwa [sk (by omega) cr (by rw[t.o.len];omega)]at this⟩;clear G;go_wp2;go_roundg(i-T)
     .exact⟨T+1,b,aq,aq,Ma,U,s,t,Z⟩
     exact F.o
   .have E:ak (KO lv i L q b=l):=⟨by have:=z.o;rwa [<-S.o,lr (by omega)]at this⟩
    obtain rfl:a=i:=aq;have a1:decide ((a:Int)<(a:Int))=OZ:=aT;clear I z S m;go_wp2;go_roundg(q+1)
    .exact⟨q,b,aq,aq,Ma,U,E,t,Z⟩
    exact HG.o
  .have E:ak (o=l):=⟨by have:=RF.o;rwa [US r hL]at this⟩
   have k1:decide ((L:Int)<=(k:Int))=OZ:=ji;have k2:decide (L<=k)=OZ:=ji;go_wp2;go_ret;exact⟨_,_,rfl,by rw[<-E.o];exact OO.o,BO.o⟩
def yI:aS prog 45 55 6 64:=bD underlying45 (z:=.agg #[ae aj 0,ae aj 0,ae aj 0,ae aj 0,ae aj 0,Pl OJ 0 0]) aF rfl aq aq
def adV:aS prog 53 107 4 32:=bD underlying53 (z:=.agg #[ae aj 0,ae aj 0,ae aj 0,ae aj 0]) aF rfl aq aq
def tB:(prog.info? 55).map (·.size)=OH 6:=by kernel_rfl
def uB(a b c d e:Int)(G:aB)(n m:Nat):(#[ae aj a,ae aj b,ae aj c,ae aj d,ae aj e,Value.slice G n m]:Array EN).all (·.oneCell')=OX:=ed
def mg(w:EE)(b:Nat)(x0 x1 x2 x3 x4 x5:EN):Prop:=w.heap[b]? =OH (RM #[x0,x1,x2,x3,x4,x5] 55 (0,0))
def oe(w:EE)(b:Nat)(x0 x1 x2 x3:EN):Prop:=w.heap[b]? =OH (RM #[x0,x1,x2,x3] 107 (0,0))
section
variable{w w':EE}{b:Nat}{x0 x1 x2 x3 x4 x5:EN}
def mg.lt(h:mg w b x0 x1 x2 x3 x4 x5):b<w.heap.size:=lt_of_block h
def mg.cs(h:mg w b x0 x1 x2 x3 x4 x5):w.cell? ⟨b,0,OJ⟩=OH x0/\w.cell? ⟨b,1,OJ⟩=OH x1/\w.cell? ⟨b,2,OJ⟩=OH x2/\w.cell? ⟨b,3,OJ⟩=OH x3/\w.cell? ⟨b,4,OJ⟩=OH x4/\w.cell? ⟨b,5,OJ⟩=OH x5:=by
 refine⟨?_, ?_, ?_, ?_, ?_, ?_⟩<;>(rw[cell_of_row _ _ _ _ _ _ h];rfl)
def mg.f(h:mg w b x0 x1 x2 x3 x4 x5)(j:Nat):w.frozen? ⟨b,j,OJ⟩=OZ:=frozen_of_row _ _ _ _ _ h
def mg.ar(h:mg w b x0 x1 x2 x3 x4 x5)(c:EI B w w')(a:b<B):mg w' b x0 x1 x2 x3 x4 x5:=(c.block b a).trans h
def mg.mj(h:mg w b x0 x1 x2 x3 x4 x5)(a:b≠g)(u:EN):mg (w.setCell ⟨g,j,OJ⟩ u) b x0 x1 x2 x3 x4 x5:=(Below.heap_setCell w ⟨g,j,OJ⟩ u b a).trans h
def mg.alloc(h:mg w b x0 x1 x2 x3 x4 x5)(o:Obj):mg (w.alloc o) b x0 x1 x2 x3 x4 x5:=(Below.heap_alloc w o b h.lt).trans h
def mg.ag1(h:mg w b x0 x1 x2 x3 x4 x5)(v:EN):mg (w.setCell ⟨b,5,OJ⟩ v) b x0 x1 x2 x3 x4 v:=by
 have aG:=h.lt;have a:w.heap[b]=RM #[x0,x1,x2,x3,x4,x5] 55 (0,0):=by unfold mg at h;simpa[Array.getElem?_eq_getElem aG]using h
 show(w.heap.modify b _)[b]? =_;rw[Array.getElem?_eq_getElem CG,Array.getElem_modify_self,a];rfl
def oe.lt(h:oe w b x0 x1 x2 x3):b<w.heap.size:=lt_of_block h
def oe.cs(h:oe w b x0 x1 x2 x3):w.cell? ⟨b,0,OJ⟩=OH x0/\w.cell? ⟨b,1,OJ⟩=OH x1/\w.cell? ⟨b,2,OJ⟩=OH x2/\w.cell? ⟨b,3,OJ⟩=OH x3:=by
 refine⟨?_, ?_, ?_, ?_⟩<;>(rw[cell_of_row _ _ _ _ _ _ h];rfl)
def oe.f(h:oe w b x0 x1 x2 x3)(j:Nat):w.frozen? ⟨b,j,OJ⟩=OZ:=frozen_of_row _ _ _ _ _ h
def oe.adD(h:oe w b x0 x1 x2 x3)(v:EN):oe (w.setCell ⟨b,2,OJ⟩ v) b x0 x1 v x3:=by
 have aG:=h.lt;have a:w.heap[b]=RM #[x0,x1,x2,x3] 107 (0,0):=by unfold oe at h;simpa[Array.getElem?_eq_getElem aG]using h
 show(w.heap.modify b _)[b]? =_;rw[Array.getElem?_eq_getElem CG,Array.getElem_modify_self,a];rfl
end
def Hp(wr:EE)(a b c d e:Int)(v:EN):∃f,f=(wr.alloc (RM #[ae aj 0,ae aj 0,ae aj 0,ae aj 0,ae aj 0,Pl OJ 0 0] 55)).setRow wr.heap.size #[ae aj a,ae aj b,ae aj c,ae aj d,ae aj e,v]/\
 ak (az wr f)/\ak (mg f wr.heap.size (ae aj a) (ae aj b) (ae aj c) (ae aj d) (ae aj e) v)/\
 ak ((wr.alloc (RM #[ae aj 0,ae aj 0,ae aj 0,ae aj 0,ae aj 0,Pl OJ 0 0] 55)).heap[wr.heap.size]? =OH (RM #[ae aj 0,ae aj 0,ae aj 0,ae aj 0,ae aj 0,Pl OJ 0 0] 55 (0,0))):=
 ⟨_,rfl,⟨below_setRow (aw wr _) cr _⟩,⟨setRow_heap _ _ _ _ _ _ (heap_alloc_new wr _)⟩,⟨heap_alloc_new wr _⟩⟩
def UY{w:EE}{b:bj}(h:zE w B p b):∃(G:aB) (a:Nat),(w.cell? p=OH (ae aj b.f)/\w.cell? (bX p 1)=OH (ae aj b.t)/\w.cell? (bX p 2)=OH (ae aj b.lv)/\
 w.cell? (bX p 3)=OH (ae aj b.x)/\w.cell? (bX p 4)=OH (ae aj b.wd)/\w.cell? (bX p 5)=OH (Pl G b.gs.length a))/\lJ w B G b.gs.length b.gs:=by
 obtain⟨d,e,g,c,i,G,a,f,j⟩:=h;exact⟨G,a,⟨d,e,g,c,i,f⟩,j⟩
def w9b(a b:Int):IK (IK a+b)=IK (a+b):=CM
def Sw:IK 0=0:=CM
def Hg(bs:List bj)(k:Nat):IK (IK (bg bs k)+(aR bs k).wd)=IK (bg bs (k+1)):=w9b _ _
def uQ(x:Int):Bool:=x.tmod 2 !=0
def Gk(x:Int)(w:EE):GK prog 90 #[ae aj x] w λe w'=>e=RE (PF (uQ x))/\w'=w:=by
 go_enter func90,ntmps90;go_wp2;go_ret;exact⟨rfl,rfl⟩
def Po(A:aB)(n c:Nat)(bs:List bj)(w:EE)(f:dW w w.heap.size A n bs)(l:n<=4000000):
 GK prog 11 #[Pl A n c] w λe w'=>e=RE (ae aj (IK (bg bs n)))/\w'=w:=by
 have g:ak _:=⟨f⟩;clear f;go_enter func11,ntmps11;go_wp2;go_loopg[3,4](n+1)(λgg v3 v4 wr=>∃k:Nat,n-k<gg/\k<=n/\v3=ae aj (IK (bg bs k))/\v4=ae aj (k:Int)/\wr=w)
 .exact⟨0,aq,aq,iv Sw.symm,rfl,rfl⟩
 obtain⟨k,i,j,rfl,rfl,rfl⟩:=hrel;by_cases a:k<n
 .obtain⟨h,rfl,_,d⟩:=g.o.2 aq
  obtain⟨G,m,⟨_,_,_,_,c4,_⟩,_⟩:=UY (d k a);have E:ak (IK (IK (bg bs k)+(aR bs k).wd)=IK (bg bs (k+1))):=⟨Hg bs k⟩;generalize IK (bg bs k)=S at*;generalize(aR bs k).wd=x at*;have o:=aU k n;clear d;go_wp2;go_roundg(n-k)
  case measure=>omega
  case rel=>exact⟨k+1,aq,aq,iv E.o,Ma,rfl⟩
 .obtain rfl:k=n:=by omega
  clear a;go_wp2;go_ret;exact⟨rfl,rfl⟩
def xK(A:aB)(n c:Nat)(bs:List bj)(w:EE)(p:dW w w.heap.size A n bs)(H:n<=4000000):
 GK prog 33 #[Pl A n c] w λe w'=>e=RE (ae aj (IK (bg bs n)))/\az w w':=by
 have h:=sH p;go_enter func33,ntmps33;go_wp2;go_loopg[3,5,8](n+1)(λgg v3 _ l wr=>∃k:Nat,n-k<gg/\k<=n/\v3=ae aj (IK (bg bs k))/\l=ae aj (k:Int)/\ak (az w wr))
 .exact⟨0,aq,aq,iv Sw.symm,rfl,cJ⟩
 obtain⟨k,z,B,rfl,rfl,g⟩:=hrel;by_cases f:k<n
 .obtain⟨x,rfl,_,m⟩:=(h.o.Z g.o).2 aq
  obtain⟨G,o,⟨c0,s,D,C,c4,c5⟩,_⟩:=UY (m k f);have E:=sH (Hg bs k);obtain⟨I,a,i,q,j⟩:=Hp wr (aR bs k).f (aR bs k).t (aR bs k).lv (aR bs k).x (aR bs k).wd (Pl G (aR bs k).gs.length o);obtain⟨r,u,v,F,t,y⟩:=q.o.cs;generalize IK (bg bs k)=S at*;generalize aR bs k=b at*;have J:=aU k n;have d:=g.t i.o;go_wp2_with (refine wpList_store_row rfl 55 (.tmp 5) (.tmp 11) rfl wr.heap.size _ rfl rfl 55 _ j.o tB aD (uB _ _ _ _ _ _ _ _) ?_;rw[<-a];clear a);go_roundg(n-k)
  .exact⟨k+1,aq,aq,iv E.o,Ma,d⟩
  omega
 .obtain rfl:k=n:=by omega
  go_wp2;go_ret;exact⟨rfl,g.o⟩
def Mm(bs:List bj):aC:=bs.map (·.lv)
def tj(bs:List bj):(Mm bs).length=bs.length:=by simp[Mm]
def aaY{bs:List bj}(h:k<bs.length):nth (Mm bs) k=(aR bs k).lv:=by
 rw[bZ Tu,jK h];simp[Mm]
def Ys(bs:List bj)(n k:Nat):aC:=(Mm bs).take k++List.replicate (n-k) 0
def Qz(bs:List bj)(n:Nat):Ys bs n 0=List.replicate n 0:=by simp[Ys]
def Qf{bs:List bj}(h:bs.length=n):Ys bs n n=Mm bs:=by
 unfold Ys;rw[List.take_of_length_le (by rw[tj,h];exact Nat.le_refl _)];simp
def XZ{bs:List bj}(h:k<bs.length):(Mm bs).take (k+1)=(Mm bs).take k++[(aR bs k).lv]:=by
 rw[List.take_succ_eq_append_getElem Tu,<-aaY h,bZ Tu]
def Wx{bs:List bj}(h:bs.length=n)(c:k<n):(Ys bs n k).set k (aR bs k).lv=Ys bs n (k+1):=by
 have a:((Mm bs).take k).length=k:=by rw[List.length_take,tj];omega
 obtain⟨d,b⟩:∃d,n-k=d+1:=⟨n-k-1,aq⟩;unfold Ys;rw[b,show n-(k+1)=d by omega,XZ aq,List.set_append_right _ _ (by rw[a];exact Nat.le_refl _),a,Nat.sub_self];simp[List.replicate_succ]
def qh(bs:List bj):aC:=kU (Mm bs)
def By{bs:List bj}(h:bs.length=n):Bo (qh bs) n:=Gc (by rw[tj,h])
def DX(A:aB)(n c:Nat)(lv:aC)(w:EE)(i:bO w w.heap.size .i64 A n lv)(h:n<=4000000):
 GK prog 106 #[Pl A n c] w (lE w 3 .i64 n (kU lv)):=by
 have a:=sH (Es A n c lv w i h);generalize kU lv=V at*;go_enter func106,ntmps106;go_wp2_with fail;refine a.o.mono ?_;rintro e k ⟨d,f,rfl,o1,b⟩;have⟨j,g⟩:=K' o1 b;go_wp2;go_ret;exact⟨d,f,rfl,j.o,g.o⟩
def Lr(A:aB)(n c:Nat)(bs:List bj)(w:EE)(o:dW w w.heap.size A n bs)(I:n<=4000000):
 GK prog 44 #[Pl A n c] w (lE w 3 .i64 n (qh bs)):=by
 have L:ak _:=⟨o⟩;have t:ak (bs.length=n):=⟨o.1⟩;unfold qh;clear o;go_enter func44,ntmps44;go_wp2_with (refine fe TIv I1 rfl (.tmp 7) (.tmp 7) rfl n rfl rfl rfl rfl aq w.heap.size cr ?_;intro g Z o1 q;have r:ak _:=⟨o1⟩;have y:ak _:=⟨q⟩;clear o1 q);go_loopg[4,5,11](n+1)(λgg _ _ l wr=>∃k:Nat,n-k<gg/\k<=n/\l=ae aj (k:Int)/\ak (Own wr w.heap.size 3 .i64 (OH ⟨g,0,OJ⟩) n n (Ys bs n k))/\ak (az w wr))
 .exact⟨0,aq,aq,rfl,⟨by rw[Qz];exact r.o⟩,y⟩
 obtain⟨k,T,hk,rfl,j,f⟩:=hrel;clear r y;by_cases a:k<n
 .obtain⟨Y,rfl,_,C⟩:=(L.o.Z f.o).2 aq
  obtain⟨G,R,⟨c0,W,B,U,c4,c5⟩,_⟩:=UY (C k a);have E:ak _:=⟨Wx t.o a⟩;obtain⟨i,h,z,S,N⟩:=Hp wr (aR bs k).f (aR bs k).t (aR bs k).lv (aR bs k).x (aR bs k).wd (Pl G (aR bs k).gs.length R);obtain⟨J,F,X,P,D,H⟩:=S.o.cs;generalize aR bs k=b at*;have d:ak _:=⟨j.o.ar z.o⟩;have m:ak (az w i):=⟨f.o.trans (z.o.mono f.o.size)⟩;obtain⟨u,hu⟩:∃u,i.cell? ⟨g,k,OJ⟩=OH u:=⟨_,bU d.o a⟩;have f1:=aA.frozenAt d.o k;have M:ak (Own (i.setCell ⟨g,k,OJ⟩ (ae aj b.lv)) w.heap.size 3 .i64 (OH ⟨g,0,OJ⟩) n n (Ys bs n (k+1))):=⟨by rw[<-E.o];exact Own.sI d.o k _⟩;have SE:ak (az w (i.setCell ⟨g,k,OJ⟩ (ae aj b.lv))):=⟨Below.setCell m.o (p:=⟨g,k,OJ⟩) (aA.yp d.o).1 _⟩;have V:=aU k n;clear C J F P D H E;go_wp2_with (refine wpList_store_row rfl 55 (.tmp 5) (.tmp 15) rfl wr.heap.size _ rfl rfl 55 _ N.o tB aD (uB _ _ _ _ _ _ _ _) ?_;rw[<-h];clear h);go_roundg(n-k)
  .exact⟨k+1,aq,aq,Ma,M,SE⟩
  omega
 .obtain rfl:k=n:=by omega
  rw[Qf t.o]at j;have v:ak _:=⟨DX (OH ⟨g,0,OJ⟩) k k (Mm bs) wr j.o.ints I⟩;clear a j;go_wp2_with fail;refine v.o.mono ?_;rintro e i ⟨O,B,rfl,s,x⟩;have Q:ak _:=⟨Own.gW s f.o.size⟩;have K:ak _:=⟨f.o.trans (x.mono f.o.size)⟩;clear s x v;go_wp2;go_ret;exact⟨O,B,rfl,Q.o,K.o⟩
def xh{bs:List bj}(h:j<m):aR (bs.take m) j=aR bs j:=by
 unfold aR;rw[List.getD_eq_getElem?_getD,List.getD_eq_getElem?_getD,List.getElem?_take,if_pos h]
def dW.take{bs:List bj}(h:dW w B A n bs)(g:m<=n):dW w B A m (bs.take m):=by
 refine⟨by rw[List.length_take,h.1];omega,λf=> ?_⟩;obtain⟨b,e,d,c⟩:=h.2 aq;exact⟨b,e,d,λj a=>by rw[xh a];exact c j aq⟩
def ki(bs:List bj)(m:Nat):∀k,k<=m->bg (bs.take m) k=bg bs k
 |0,_=>rfl
 |k+1,h=>by
  simp only[bg];rw[ki bs m k aq,xh aq]
def qQ{P:I3}{bytes:Nat}(T:aS P t e size bytes)(A:aB)(n c j:Nat)(a:j<=n)(b:n<=c)(w:EE):
 (Instr.slice t (Pl A n c) OJ (OH (ae aj (j:Int))) OJ).run P w=.ok (Pl A j c) w:=by
 rw[run_slice_h w t A n c (cY T) .i64 j aq aq,de T];simp[Result.andThen,sliced];intro _;cases A<;>simp[Addr.add]
def bv{a b:Bool}(h:a=b):Value.bool a=Value.bool b:=by rw[h]
def YK(s:KR:=by
 exact⟨j+1,aq,aq,bv aak,iv EP.o.symm,iv aao,iv afW,Ma,⟨BD _⟩⟩):KR:=s
def JZ(A:aB)(n c:Nat)(bs:List bj)(O:aB)(X:Nat)(o:aC)(tail:Nat)(base x:Int)(w:EE)(m:dW w w.heap.size A n bs)(U:bO w w.heap.size .i64 O n o)(J:Bo o n)
 (hn:n<=4000000) (I:tail<=n) (hc:n<=c):
 GK prog 45 #[Pl A n c,Pl O n X,ae aj (tail:Int),ae aj base,ae aj x] w λe Y=>e=RE (ae aj (IK (mX bs o tail (uQ base) x)))/\az w Y:=by
 have⟨M,HO,K⟩:=MO m U J;have CU:=qQ yI A n c tail I hc;have N:ak (∀W,_):=⟨λW=>Gk base W⟩;have k:ak (mX bs o tail (uQ base) x=if uQ base=OX then x+bg bs tail-kP bs o tail n else x-nX bs o tail n):=⟨by unfold mX;rw[m.1]⟩;generalize mX bs o tail (uQ base) x=R at*;generalize uQ base=od at*;clear m U J;go_enter func45,ntmps45;go_wp2;go_loopg[11,12,13,14,15,17,20](n+1)(λgg s _ p r u _ D wr=>∃j:Nat,n-j<gg/\j<=n/\s=PF (Bv o tail j)/\p=ae aj (IK (kW bs o j))/\r=ae aj (IK (nX bs o tail j))/\u=ae aj (IK (kP bs o tail j))/\D=ae aj (j:Int)/\ak (az w wr))
 .exact⟨0,aq,aq,rfl,iv Sw.symm,iv Sw.symm,iv Sw.symm,rfl,cJ⟩
 obtain⟨j,F,hj,rfl,rfl,rfl,rfl,rfl,g⟩:=hrel;by_cases a:j<n
 .obtain⟨ao,rfl,_,h⟩:=(HO.o.Z g.o).2 aq
  obtain⟨y,T⟩:∃y:Nat,nth o j=(y:Int):=⟨(nth o j).toNat,by have:=K.o.ge j a;omega⟩;have B:y<n:=by have:=K.o.lt j a;omega
  have l:ak (xH o j=y):=⟨by unfold xH;omega⟩;have k1:=h j a;rw[T]at k1;obtain⟨ad,rfl,_,i⟩:=(M.o.Z g.o).2 aq;obtain⟨G,gc,⟨_,_,_,_,c4,_⟩,_⟩:=UY (i y B);have EP:ak (IK (kW bs o (j+1))=IK (IK (kW bs o j)+(aR bs y).wd)):=⟨by rw[w9b];show IK (_+_)=_;rw[l.o]⟩;have EL:ak (IK (nX bs o tail (j+1))=if(WJ o tail j&& !Bv o tail j)=OX then IK (kW bs o j)else IK (nX bs o tail j)):=⟨by show IK (ite _ _ _)=_;split<;>rfl⟩;have ER:ak (IK (kP bs o tail (j+1))=if WJ o tail j=OX then IK (kW bs o (j+1))else IK (kP bs o tail j)):=⟨by show IK (ite _ _ _)=_;split<;>rfl⟩;have EO:ak (Bv o tail (j+1)=(Bv o tail j||WJ o tail j)):=⟨rfl⟩;have f:ak (WJ o tail j=(decide (tail=0)||decide (y<tail))):=⟨by unfold WJ;rw[l.o]⟩;have j1:=aU j n;have y0:=gT y;have y1:=aU y n;have BD:∀q,az w (wr.drewN q):=λq=>aO g.o q
  generalize(aR bs y).wd=wd at*;generalize IK (kW bs o j)=S at*;generalize IK (nX bs o tail j)=L at*;generalize IK (kP bs o tail j)=Q at*;generalize WJ o tail j=t at*;clear h i T l a;rcases Nat.eq_zero_or_pos tail with v|v
  .have d:t=OX:=by rw[f.o];simp[v]
   have t1:decide ((0:Int)<(tail:Int))=OZ:=ji;have t2:decide (0<tail)=OZ:=ji;subst d;clear f v;cases b:Bv o tail j with
   |true=>
    rw[b]at EL EO;go_wp2;go_quiet (fail);go_wp2;go_roundg(n-j)
    .exact YK
    omega
   |false=>
    rw[b]at EL EO;go_wp2;go_quiet (fail);go_wp2;go_roundg(n-j)
    .exact YK
    omega
  .have t1:=aU 0 tail
   rcases Nat.lt_or_ge y tail with H|H
   .have d:t=OX:=by rw[f.o];simp[H]
    have t4:decide ((tail:Int)<=(y:Int))=OZ:=ji;have t5:decide (tail<=y)=OZ:=ji;subst d;clear f;cases b:Bv o tail j with
    |true=>
     rw[b]at EL EO;go_wp2;go_quiet (fail);go_wp2;go_roundg(n-j)
     .exact YK
     omega
    |false=>
     rw[b]at EL EO;go_wp2;go_quiet (fail);go_wp2;go_roundg(n-j)
     .exact YK
     omega
   .have d:t=OZ:=by rw[f.o];simp;omega
    have t4:(tail:Int)<=(y:Int):=aq;subst d;clear f;go_wp2;go_quiet (fail);go_wp2;go_roundg(n-j)
    .exact⟨j+1,aq,aq,bv aak,iv EP.o.symm,iv aao,iv (by rw[ER.o];simp),Ma,⟨BD _⟩⟩
    omega
 .obtain rfl:j=n:=by omega
  have P:=sH (xK A tail c (bs.take tail) wr ((M.o.Z g.o).take I) aq);rw[ki bs tail tail cr]at P;have z:∀W L:Int,IK (IK (x+IK W)-IK L)=IK (x+W-L):=λW L=>by unfold IK;omega
  have C:∀L:Int,IK (x-IK L)=IK (x-L):=λL=>by unfold IK;omega
  cases od with
  |true=>
   have E:ak (IK R=IK (IK (x+IK (bg bs tail))-IK (kP bs o tail j))):=⟨by rw[k.o,z];rfl⟩;clear k z C;generalize IK (bg bs tail)=W at*;generalize IK (nX bs o tail j)=L at*;generalize IK (kP bs o tail j)=Q at*;generalize IK (kW bs o j)=S at*;clear a F;go_wp2_with fail;refine(N.o _).mono ?_;rintro e w2 ⟨rfl,rfl⟩;go_wp2_with fail;refine callK P.o g λw3 Z V=> ?_;clear Z;go_wp2;go_ret;exact⟨fx E.o.symm,V.o⟩
  |false=>
   have E:ak (IK R=IK (x-IK (nX bs o tail j))):=⟨by rw[k.o,C];rfl⟩;clear k z C;generalize IK (bg bs tail)=W at*;generalize IK (nX bs o tail j)=L at*;generalize IK (kP bs o tail j)=Q at*;generalize IK (kW bs o j)=S at*;clear a F;go_wp2_with fail;refine(N.o _).mono ?_;rintro e w2 ⟨rfl,rfl⟩;go_wp2;go_ret;exact⟨fx E.o.symm,g.o⟩
def kR{vs:List EN}{cs:Array EN}{fz:Nat×Nat}(h:aA w B e size A n c vs)(b:w.heap[g]? =OH (RM cs t fz))(f:t≠e):bR A (OH ⟨g,0,OJ⟩):=by
 intro l i d;subst i;injection d with d
 injection d with d
 subst d;rcases h.2 with⟨a,_⟩|⟨m,cap,cur,a,_,j,_⟩
 .cases a
 .injection a with a
  injection a with a
  injection a with a
  subst a;rw[j]at b;injection b with b
  injection b with _ b
  exact f b.symm
def Ak(w:EE)(x0 x1 x2 x3 x4 a:EN)(N:Nat)(h:w.heap.size=N):mg (w.alloc (RM #[x0,x1,x2,x3,x4,a] 55)) N x0 x1 x2 x3 x4 a:=by subst h;exact heap_alloc_new w _
def aA.gW{xs:List EN}(h:aA w B e size A n c xs)(f:a<=B):aA w a e size A n c xs:=by
 refine⟨h.1, ?_⟩;rcases h.2 with d|⟨g,cap,cur,b,i,r⟩
 .exact .inl d
 .exact .inr ⟨g,cap,cur,b,aq,r⟩
def aA.iA{xs:List EN}(h:aA w B e size A n c xs)(j:g<B)(cs:Array EN):aA (w.setRow g cs) B e size A n c xs:=by
 refine⟨h.1, ?_⟩;rcases h.2 with f|⟨a,cap,cur,d,b,i,r⟩
 .exact .inl f
 .exact .inr ⟨a,cap,cur,d,b,by rw[setRow_other w g a cs (by omega)];exact i,r⟩
def afu(s:KR:=by
 intro j u h;subst hN;rw[cell_of_row _ _ _ _ _ _ (heap_alloc_new W _)];simpa using h):KR:=s
def Ds(W:EE)(a b v2 v3:EN)(t:IQ)(N:Nat)(hN:W.heap.size=N):∀(j:Nat) (u:EN),[a,b,v2,v3][j]? =OH u->(W.alloc (RM #[a,b,v2,v3] t)).cell? ⟨N,j,OJ⟩=OH u:=by
 exact afu
def kA(W:EE)(b c v2 v3 v4 a:EN)(t:IQ)(N:Nat)(hN:W.heap.size=N):∀(j:Nat) (u:EN),[b,c,v2,v3,v4,a][j]? =OH u->(W.alloc (RM #[b,c,v2,v3,v4,a] t)).cell? ⟨N,j,OJ⟩=OH u:=by
 exact afu
def AW(g:gF):∀u∈kx g,u.oneCell'=OX:=by
 intro u a;simp[kx]at a;rcases a with rfl|rfl|rfl|rfl<;>rfl
def Qk(p:BoxM):∀u∈iI p,u.oneCell'=OX:=by
 intro u a;simp[iI]at a;rcases a with rfl|rfl|rfl|rfl|rfl|rfl<;>rfl
def tZ(a:Int)(g:gF):gF:={g with x:=IK (g.x+a)}
def Ah(b:bj)(a:Int):bj:={b with x:=a,gs:=b.gs.map (tZ a)}
def ui(bs:List bj)(o:aC)(s:Int)(j:Nat):List bj:=(List.range j).map λq=>Ah (aR bs (xH o q)) (IK (s+kW bs o q))
def KD(bs:List bj)(o:aC)(s:Int)(j:Nat):ui bs o s (j+1)=ui bs o s j++[Ah (aR bs (xH o j)) (IK (s+kW bs o j))]:=by
 simp[ui,List.range_succ]
def Rt(bs:List bj)(o:aC)(s:Int)(j:Nat):(ui bs o s j).length=j:=by simp[ui]
def mvG(gs:List gF)(P:Int)(k:Nat):List gF:=(gs.take k).map (tZ P)
def Nz{gs:List gF}{k:Nat}(P:Int)(h:k<gs.length):mvG gs P (k+1)=mvG gs P k++[tZ P (pM gs k)]:=by
 unfold mvG;rw[List.take_succ_eq_append_getElem h,List.map_append,GW h];rfl
def Qh(gs:List gF)(P:Int):mvG gs P gs.length=gs.map (tZ P):=by simp[mvG]
structure GI(W0:EE)(bb:Nat)(x0 x1 x2 x3 x4:Int)(gs:List gF)(P:Int)(k:Nat)(G:aB)(gc:Nat)(W:EE):Prop where
 kV:mg W bb (ae aj x0) (ae aj x1) (ae aj x2) (ae aj x3) (ae aj x4) (Pl G k gc)
 own:aA W (bb+1) 107 4 G k gc ((mvG gs P k).flatMap kx)
 be:EI bb W0 W
section
variable{W0 W W':EE}{bb:Nat}{x0 x1 x2 x3 x4:Int}{gs:List gF}{P:Int}{k:Nat}{G:aB}{gc:Nat}
def GI.ar(h:GI W0 bb x0 x1 x2 x3 x4 gs P k G gc W)(a:az W W'):GI W0 bb x0 x1 x2 x3 x4 gs P k G gc W':=
 ⟨h.kV.ar a h.kV.lt,aA.ar h.own a,h.be.trans (a.mono (by have:=h.kV.lt;omega))⟩
def GI.push(h:GI W0 bb x0 x1 x2 x3 x4 gs P k G gc W){c:aB}{a:Nat}(o:aA W' (bb+1) 107 4 c (k+1) a ((mvG gs P k).flatMap kx++kx (tZ P (pM gs k))))(b:EI (bb+1) W W')(e:k<gs.length):
 GI W0 bb x0 x1 x2 x3 x4 gs P (k+1) c a (W'.setCell ⟨bb,5,OJ⟩ (Pl c (k+1) a)):=by
 have d:=h.kV.ar b aq;refine⟨d.ag1 _, ?_,Below.setCell (h.be.trans (b.mono aq)) (p:=⟨bb,5,OJ⟩) cr _⟩;refine aA.mj ?_ (kR o d cF) _;rw[Nz P e,List.flatMap_append];simpa using o
def GI.af7(h:GI W0 bb x0 x1 x2 x3 x4 gs P gs.length G gc W):iF W (bb+1) G gc (gs.map (tZ P)):=by
 have:=h.own;rw[Qh]at this;unfold iF;rw[List.length_map];exact this
end
def pdx{g:gF}(h:Cc w p g):w.cell? p=OH (ae aj g.iz)/\w.cell? (bX p 1)=OH (ae aj g.id)/\w.cell? (bX p 2)=OH (ae aj g.x)/\w.cell? (bX p 3)=OH (ae aj g.y):=h
def fZ.gW{ps:List BoxM}(h:fZ w B A c ps)(b:a<=B):fZ w a A c ps:=
 ⟨aA.gW h.row b,λp d=>aA.gW (h.gl p d) b⟩
def abV(bs:List bj)(o:aC)(s:Int)(j:Nat):IK (IK (s+kW bs o j)+(aR bs (xH o j)).wd)=IK (s+kW bs o (j+1)):=by
 rw[w9b,Int.add_assoc];rfl
def Is(A:aB)(n c:Nat)(bs:List bj)(tail:Nat)(base x:Int)(w:EE)(E:dW w w.heap.size A n bs)(hn:n<=4000000)(ht:tail<=n)(hc:n<=c)(hg:∀j,(aR bs j).gs.length<=4000000):
 GK prog 15 #[Pl A n c,ae aj (tail:Int),ae aj base,ae aj x] w λe w'=>
  ∃(A2:aB) (a:Nat) (ps:List BoxM),e=RE (Pl A2 n a)/\fZ w' w.heap.size A2 a ps/\ps.map (·.1)=ui bs (qh bs) (mX bs (qh bs) tail (uQ base) x) n/\az w w':=by
 have⟨HX,HGX,OR,OC⟩:=MQ E hg (By E.1) (Lr A n c bs w E aq);have SC:ak (∀(W:EE) (O:aB) (M:Nat),az w W->bO W W.heap.size .i64 O n (qh bs)->_):=⟨λW O M hW ho=>JZ A n c bs O M (qh bs) tail base x W (E.Z hW) ho (By E.1) hn ht hc⟩;generalize qh bs=o at*;go_enter func15,ntmps15;go_wp2_with fail;refine OC.o.mono ?_;rintro e w1 ⟨O,M,rfl,o1,b1⟩;have⟨B1,SC1,O1⟩:=MO b1 (SC.o w1 O M b1 o1.ints) o1;go_wp2_with fail;refine SC1.o.mono ?_;rintro e z ⟨rfl,b2⟩;have O2:=sH ((O1.o.ar b2).ints);have B2:=B1.t b2;generalize hE:mX bs o tail (uQ base) x=i at*;have U:=sH hE;have u:=B2.o.size;go_wp2;go_loopg[10,11,13,14,16,27](n+1)(λgg v10 T _ _ _ V wr=>∃(j:Nat) (K:aB) (c':Nat) (ps:List BoxM),n-j<gg/\j<=n/\v10=ae aj (IK (i+kW bs o j))/\T=Pl K j c'/\V=ae aj (j:Int)/\ak (fZ wr z.heap.size K c' ps)/\ak (ps.map (·.1)=ui bs o i j)/\ak (az z wr))
 .exact⟨0,OJ,0,[],aq,aq,iv (by simp[kW]),rfl,rfl,⟨fZ.nil _ _⟩,⟨rfl⟩,cJ⟩
 obtain⟨j,K,c',ps,hgg,hj,rfl,rfl,rfl,S,PE,L⟩:=hrel;obtain⟨d,rfl⟩:=eX wr;have BW:=sH (B2.o.trans (L.o.mono u));have hlen:ps.length=j:=by have:=congrArg List.length PE.o;simpa[Rt]using this
 by_cases p:j<n
 .have HG:=sH hgg
  obtain⟨ao,rfl,_,hco⟩:=(O2.o.Z L.o).2 aq;obtain⟨y,hy⟩:∃y:Nat,nth o j=(y:Int):=⟨(nth o j).toNat,by have:=OR.o.ge j p;omega⟩;have IV:y<n:=by have:=OR.o.lt j p;omega
  have eo:xH o j=y:=by unfold xH;omega
  have k1:=hco j p;rw[hy]at k1;obtain⟨ad,rfl,_,Hl⟩:=(HX.o.Z BW.o).2 aq;obtain⟨G,gc,⟨a0,a1,a2,a3,a4,a5⟩,hP⟩:=UY (Hl y IV);have⟨HP,Y⟩:=K' hP (HGX.o y);have v:=Y.o;have EL:ak (ui bs o i (j+1)=ui bs o i j++[Ah (aR bs y) (IK (i+kW bs o j))]):=⟨by rw[KD,eo]⟩;have⟨P,l⟩:=eY (IK (i+kW bs o j));have Q:ak (IK (i+kW bs o (j+1))=IK (P+(aR bs y).wd)):=⟨by rw[<-l,<-abV,eo]⟩;rw[l]at EL;rw[l];generalize aR bs y=b at*;have⟨q,H⟩:=eY b.gs.length;have m:=sH H;rw[H]at a5 HP v;have j1:=aU j n;have y0:=gT y;have y1:=aU y n;have I0:ak (GI d d.heap.size b.f b.t b.lv P b.wd b.gs P 0 OJ 0 (d.alloc (RM #[ae aj b.f,ae aj b.t,ae aj b.lv,ae aj P,ae aj b.wd,Pl OJ 0 0] 55))):=⟨⟨Ak _ _ _ _ _ _ _ _ rfl,aA.nil _ _ _ _,aw _ _⟩⟩;have C5:=aH a5 (RM #[ae aj b.f,ae aj b.t,ae aj b.lv,ae aj P,ae aj b.wd,Pl OJ 0 0] 55);have hsw:=L.o.size;have F:=sH S.o.row;rw[hlen]at F;go_wp2;go_loopg[16,44](q+1)(λgg _ v44 wr=>∃(k:Nat) (h:aB) (a:Nat),q-k<gg/\k<=q/\v44=ae aj (k:Int)/\ak (GI d d.heap.size b.f b.t b.lv P b.wd b.gs P k h a wr))
  .exact⟨0,OJ,0,aq,aq,rfl,I0⟩
  obtain⟨k,h,a,dV,hk,rfl,I⟩:=hrel;have s:=sH I.o.be;by_cases C:k<q
  .obtain⟨ag,rfl,_,hcg⟩:=(HP.o.Z s.o s.o.size).2 aq
   obtain⟨z0,z1,z2,z3⟩:=pdx (hcg k C);have hkl:k<b.gs.length:=by rw[m.o];exact C
   have R:ak (kx (tZ P (pM b.gs k))=[ae aj (pM b.gs k).iz,ae aj (pM b.gs k).id,ae aj (IK ((pM b.gs k).x+P)),ae aj (pM b.gs k).y]):=⟨rfl⟩;have⟨g,D⟩:=eY (pM b.gs k);have HGK:=sH D;rw[D]at z0 z1 z2 z3 R;have⟨wq,f⟩:=eX (wr.alloc (RM #[ae aj g.iz,ae aj g.id,ae aj (IK (g.x+P)),ae aj g.y] 107));have J:ak (GI d d.heap.size b.f b.t b.lv P b.wd b.gs P k h a wq):=⟨by rw[f];exact I.o.ar (aw _ _)⟩;have y5:=(f▸J.o.kV).cs.2.2.2.2.2;have i1:=aU k q;have ib:d.heap.size<wr.heap.size:=I.o.kV.lt;go_wp2_with (at_builtin;refine bE adV rfl (.tmp 54) (.tmp 56) rfl rfl (aA.alloc (f▸J.o.own) _) rfl (news:=[ae aj g.iz,ae aj g.id,ae aj (IK (g.x+P)),ae aj g.y]) rfl (Ds _ _ _ _ _ _ _ aT) (by rw[<-R.o];exact AW _) aq br ?_;intro B c4 N t r _ _;have s4:=(mg.alloc (f▸J.o.kV) _).ar r aq;have y6:=s4.cs.2.2.2.2.2;have f6:=s4.f 5;have X:=sH t;have B4:=sH r;clear t r s4);have I5:ak (GI d d.heap.size b.f b.t b.lv P b.wd b.gs P (k+1) B c4 (N.setCell ⟨d.heap.size,5,OJ⟩ (Pl B (k+1) c4))):=⟨(f▸J.o.ar (aw _ _)).push (by rw[HGK.o,R.o];exact X.o) B4.o hkl⟩;go_roundg(q-k)
   .exact⟨k+1,B,c4,aq,aq,Ma,I5⟩
   omega
  .obtain rfl:k=q:=by omega
   have OG:=sH ((m.o▸I.o).af7);obtain⟨q0,q1,q2,q3,q4,q5⟩:=I.o.kV.cs;have⟨OB3,OR3⟩:=K' (S.o.ar s.o) (aA.ar F.o s.o);have PC:ak (iI (Ah b P,h,a)=[ae aj b.f,ae aj b.t,ae aj b.lv,ae aj P,ae aj b.wd,Pl h k a]):=⟨by unfold iI Ah;simp[m.o]⟩;have PG:ak (iF (wr.alloc (RM #[ae aj b.f,ae aj b.t,ae aj b.lv,ae aj P,ae aj b.wd,Pl h k a] 55)) z.heap.size h a (Ah b P).gs):=⟨aA.alloc (aA.gW OG.o aq) _⟩;have hvs:=s.o.size;go_wp2_with (at_builtin;refine bE yI rfl (.tmp 64) (.tmp 66) rfl rfl (aA.alloc OR3.o _) rfl (news:=[ae aj b.f,ae aj b.t,ae aj b.lv,ae aj P,ae aj b.wd,Pl h k a]) rfl (kA _ _ _ _ _ _ _ _ _ aT) (by rw[<-PC.o];exact Qk _) aq br ?_;intro A4 c4 N t r g4 _;have X:=sH t;have B4:=sH r;have B:=sH g4;clear t r g4);have OBN:ak (fZ N z.heap.size A4 c4 (ps++[(Ah b P,h,a)])):=⟨(OB3.o.ar (aw _ _)).push (by rw[hlen,PC.o];exact X.o) (by rw[hlen];exact B.o) PG.o⟩;have Z:ak ((ps++[(Ah b P,h,a)]).map (·.1)=ui bs o i (j+1)):=⟨by rw[EL.o,<-PE.o,List.map_append];rfl⟩;have BEN:ak (az z N):=⟨((L.o.trans (s.o.mono hsw)).alloc aq _).trans B4.o⟩;go_roundg(n-j)
   .exact⟨j+1,A4,c4,_,aq,aq,iv Q.o.symm,rfl,Ma,OBN,Z,BEN⟩
   exact HG.o
 .obtain rfl:j=n:=by omega
  go_wp2;go_ret;exact⟨K,c',ps,rfl,S.o.gW u,by rw[U.o];exact PE.o,BW.o⟩
def MD(w:EE)(B:Nat)(G:aB)(n a:Nat):Prop:=Oq w B 107 4 (λ_=>True) G n a
structure dr(w:EE)(B:Nat)(A:aB)(c:Nat)(ps:List BoxM):Prop where
 row:aA w B 55 6 A ps.length c (ps.flatMap iI)
 gl:∀p∈ps,MD w B p.2.1 p.1.gs.length p.2.2
def fZ.wk{w:EE}{B c:Nat}{ps:List BoxM}(h:fZ w B A c ps):dr w B A c ps:=by
 refine⟨h.row,λp d=> ?_⟩;have b:=h.gl p d;refine⟨p.1.gs.map λg=>[g.iz,g.id,g.x,g.y],aT,λg a=> ?_, ?_⟩
 .simp at a;obtain⟨g2,_,rfl⟩:=a;exact⟨rfl,trivial⟩
 .have e:(p.1.gs.map λg=>[g.iz,g.id,g.x,g.y]).flatMap dt=p.1.gs.flatMap kx:=by rw[List.flatMap_map];rfl
  rw[e];exact b
def dr.ar{w b:EE}{B c:Nat}{ps:List BoxM}(h:dr w B A c ps)(a:az w b):dr b B A c ps:=⟨aA.ar h.row a,λp d=>(h.gl p d).ar a⟩
def AY{α β:Type}{k:Nat}(F:α->List β)(b:∀x,(F x).length=k):∀(l:List α) (j q:Nat) (x y:α) (v:β),l[j]? =OH x->q<k->F y=(F x).set q v->(l.flatMap F).set (j*k+q) v=(l.set j y).flatMap F
 |[],j,q,x,y,v,h,_,_=>by simp at h
 |a::l,0,q,x,y,v,h,hq,he=>by
  simp at h;subst h;rw[List.flatMap_cons,List.set_append_left _ _ (by rw[b];omega)];simp[he]
 |a::l,j+1,q,x,y,v,h,hq,he=>by
  simp at h;have hi:(j+1)*k+q-k=j*k+q:=Jq;rw[List.flatMap_cons,List.set_append_right _ _ (by rw[b,Nat.add_mul];omega),b,hi,AY F b l j q x y v h hq he];simp
def Oq.aeu{w:EE}{B c:Nat}{Q:aC->Prop}(h:Oq w B e k Q A n c):∃vs,aA w B e k A n c vs:=by
 obtain⟨gs,_,_,a⟩:=h;exact⟨_,a⟩
def Oq.aeh{w:EE}{B c g:Nat}{Q:aC->Prop}(h:Oq w B e k Q A n c)(b:bR A (OH ⟨g,0,OJ⟩))(u:EN):Oq (w.setCell ⟨g,j,OJ⟩ u) B e k Q A n c:=by
 obtain⟨gs,d,f,a⟩:=h;exact⟨gs,d,f,aA.mj a b u⟩
def MD.set{w:EE}{B c g q:Nat}(h:MD w B (OH ⟨g,0,OJ⟩) n c)(l:q<4)(z:Int):MD (w.setCell ⟨g,j*4+q,OJ⟩ (ae aj z)) B (OH ⟨g,0,OJ⟩) n c:=by
 by_cases e:j<n
 .exact Oq.set h e l z λ_ _ _=>trivial
 .obtain⟨gs,b,d,f⟩:=h
  refine⟨gs,b,d, ?_⟩;have a:=(World.ownsRow.stored (cap:=c) f (j*4+q) (ae aj z)).1;have k:=qo gs λg i=>(d g i).1
  rw[List.set_eq_of_length_le (by rw[k,b];omega)]at a;exact a
section
variable{w:EE}{B c g:Nat}{ps:List BoxM}
def dr.put(h:dr w B (OH ⟨g,0,OJ⟩) c ps){j q:Nat}(d:j<ps.length)(l:q<6)(z:Int)(b:bj)(f:iI (b,ps[j].2)=(iI ps[j]).set q (ae aj z))(k:b.gs=ps[j].1.gs):
 dr (w.setCell ⟨g,j*6+q,OJ⟩ (ae aj z)) B (OH ⟨g,0,OJ⟩) c (ps.set j (b,ps[j].2)):=by
 refine⟨?_,λp a=> ?_⟩
 .have e:=(World.ownsRow.stored (cap:=c) h.row (j*6+q) (ae aj z)).1
  rw[AY iI pJ ps j q _ _ _ (List.getElem?_eq_getElem d) l f]at e;rw[List.length_set];exact e
 .have go:∀p:BoxM,MD w B p.2.1 p.1.gs.length p.2.2->MD (w.setCell ⟨g,j*6+q,OJ⟩ (ae aj z)) B p.2.1 p.1.gs.length p.2.2:=λp a=>by
   obtain⟨vs,i⟩:=a.aeu;exact a.aeh (ca i h.row cF) _
  rcases List.mem_or_eq_of_mem_set a with a|rfl
  .exact go p (h.gl p a)
  .have:=go _ (h.gl _ (List.getElem_mem d))
   show MD _ B ps[j].2.1 b.gs.length ps[j].2.2;rw[k];exact this
def dr.aeE(h:dr w B A c ps){j k:Nat}(d:j<ps.length)(n:ps[j].2.1=OH ⟨g,0,OJ⟩){q:Nat}(o:q<4)(z:Int):dr (w.setCell ⟨g,k*4+q,OJ⟩ (ae aj z)) B A c ps:=by
 have b:=h.gl _ (List.getElem_mem d);rw[n]at b;obtain⟨vs,m⟩:=b.aeu;refine⟨aA.mj h.row (ca h.row m cF) _,λp f=> ?_⟩;have a:=h.gl p f;by_cases e:p.2.1=OH ⟨g,0,OJ⟩
 .rw[e]at a⊢
  exact a.set o z
 .exact a.aeh (λr l i=>e (by rw[l,<-i])) _
end
def bj.sh(b:bj):Int×Int×Int×Int×Int×Nat:=(b.f,b.t,b.lv,b.x,b.wd,b.gs.length)
def MD.VQ{w:EE}{B:Nat}(h:MD w B G n j):∃gs:List gF,gs.length=n/\lJ w w.heap.size G n gs:=by
 obtain⟨l,h1,i,b⟩:=h;have key:∃gs:List gF,gs.map (λg=>[g.iz,g.id,g.x,g.y])=l:=by
  clear h1 b
  induction l with
  |nil=>exact⟨[],rfl⟩
  |cons a l ih=>
   obtain⟨gs,rfl⟩:=ih λg m=>i g (by simp[m])
   have:=(i a aT).1
   match a,this with
   |[x,y,z,u],_=>exact⟨⟨x,y,z,u⟩::gs,rfl⟩
 obtain⟨gs,rfl⟩:=key;have d:gs.length=n:=Gf;have e:(gs.map λg=>[g.iz,g.id,g.x,g.y]).flatMap dt=gs.flatMap kx:=by rw[List.flatMap_map];rfl
 rw[e]at b;have k:iF w B G j gs:=by unfold iF;rw[d];exact b
 have f:=k.VQ;rw[d]at f;exact⟨gs,d,f⟩
def dr.boxes{w:EE}{B c:Nat}{ps:List BoxM}(h:dr w B A c ps):∃bs:List bj,bs.map bj.sh=ps.map (·.1.sh)/\dW w w.heap.size A ps.length bs:=by
 have each:∀j:Fin ps.length,∃gs:List gF,gs.length=ps[j].1.gs.length/\lJ w w.heap.size ps[j].2.1 gs.length gs:=λj=>by
  obtain⟨gs,b,h2⟩:=(h.gl _ (List.getElem_mem j.2)).VQ;exact⟨gs,b,by rw[b];exact h2⟩
 let F:Fin ps.length->bj:=λj=>{ps[j].1 with gs:=(each j).choose}
 have f:=λj=>(each j).choose_spec
 refine⟨List.ofFn F, ?_,aT,λn=> ?_⟩
 .apply List.ext_getElem aT
  intro i b h2;have hi:i<ps.length:=vN;have:=(f ⟨i,hi⟩).1;simp only[List.getElem_map,List.getElem_ofFn,bj.sh];simp only[F,this];rfl
 .obtain⟨g,rfl,_,d⟩:=aA.form h.row n
  refine⟨_,rfl,d,λj hj=> ?_⟩;have e:ps[j]? =OH ps[j]:=List.getElem?_eq_getElem hj;have l:aR (List.ofFn F) j=F ⟨j,hj⟩:=YP;obtain⟨k,g2⟩:=f ⟨j,hj⟩;rw[l];have a:∀i v,i<6->(iI ps[j])[i]? =OH v->w.cell? (((⟨g,0,OJ⟩:Addr).add (j*6)).add i)=OH v:=by
   intro i v hi m;rw[aY,bC,aA.cellAt h.row (j*6+i) aq,je iI pJ ps j i _ e hi];exact m
  refine⟨?_,a 1 _ aq rfl,a 2 _ aq rfl,a 3 _ aq rfl,a 4 _ aq rfl,ps[j].2.1,ps[j].2.2, ?_,g2⟩
  .have:=a 0 _ aq rfl
   rwa [aY,Nat.add_zero]at this
  .have:=a 5 _ aq rfl
   show w.cell? _=OH (.slice ps[j].2.1 (F ⟨j,hj⟩).gs.length ps[j].2.2);rw[show(F ⟨j,hj⟩).gs.length=ps[j].1.gs.length from k];exact this
def Dn(b:bj):Int×Int×Nat:=(b.f,b.t,b.gs.length)
def eJ(bs cs:List bj):Prop:=cs.map Dn=bs.map Dn
def eJ.len{bs cs:List bj}(h:eJ bs cs):cs.length=bs.length:=aaq
def eJ.at_{bs cs:List bj}(h:eJ bs cs)(j:Nat):(aR cs j).f=(aR bs j).f/\(aR cs j).t=(aR bs j).t/\(aR cs j).gs.length=(aR bs j).gs.length:=by
 have i:=h.len;rcases Nat.lt_or_ge j bs.length with a|a
 .have e:(cs.map Dn)[j]? =(bs.map Dn)[j]? :=by rw[show cs.map Dn=bs.map Dn from h]
  rw[List.getElem?_map,List.getElem?_map,List.getElem?_eq_getElem a,List.getElem?_eq_getElem (show j<cs.length by omega)]at e;simp only[Option.map_some,Option.some.injEq]at e;rw[jK a,jK (show j<cs.length by omega)];have b:=congrArg (·.1) e;have d:=congrArg (·.2.1) e;have f:=congrArg (·.2.2) e;exact⟨b,d,f⟩
 .have b:aR bs j=default:=by unfold aR;rw[List.getD_eq_getElem?_getD,List.getElem?_eq_none aq];rfl
  have d:aR cs j=default:=by unfold aR;rw[List.getD_eq_getElem?_getD,List.getElem?_eq_none aq];rfl
  rw[b,d];exact⟨rfl,rfl,rfl⟩
def eJ.refl(bs:List bj):eJ bs bs:=rfl
def eJ.trans{a b c:List bj}(h:eJ a b)(k:eJ b c):eJ a c:=Eq.trans k h
def NK{bs:List bj}{b:bj}(a:j<bs.length)(h:Dn b=Dn (aR bs j)):eJ bs (bs.set j b):=by
 show(bs.set j b).map Dn=bs.map Dn;rw[List.map_set];apply List.ext_getElem aT;intro i d f;rw[List.getElem_set];split
 .rename_i e
  subst e;rw[h,jK a,List.getElem_map]
 .rfl
def zG{bs:List bj}{b:bj}(a:j<bs.length):aR (bs.set j b) i=if i=j then b else aR bs i:=by
 unfold aR;simp only[List.getD_eq_getElem?_getD,List.getElem?_set];by_cases h:j=i
 .subst h;simp[a]
 .rw[if_neg h,if_neg (λk=>h k.symm)]
def oh{bs:List bj}{j:Nat}{b:bj}(a:j<bs.length):∀{n:Nat},n<=j->bg (bs.set j b) n=bg bs n
 |0,_=>rfl
 |n+1,h=>by
  show bg (bs.set j b) n+(aR (bs.set j b) n).wd=bg bs n+(aR bs n).wd;rw[oh a aq,zG a,if_neg aq]
def we{bs:List bj}{j:Nat}{b:bj}(a:j<bs.length):∀{n:Nat},j<n->bg (bs.set j b) n=bg bs n+(b.wd-(aR bs j).wd)
 |0,h=>absurd h aq
 |n+1,h=>by
  show bg (bs.set j b) n+(aR (bs.set j b) n).wd=bg bs n+(aR bs n).wd+_;rw[zG a];rcases Nat.lt_or_ge j n with d|d
  .rw[we a d,if_neg aq];omega
  .obtain rfl:j=n:=by omega
   rw[oh a cr,if_pos rfl];omega
def Qi{bs:List bj}{b:bj}{x y:Int}(a:j<bs.length)(d:j<n)(e:b.wd=IK ((aR bs j).wd+x))(h:IK (bg bs n)=IK y):IK (bg (bs.set j b) n)=IK (y+x):=by
 rw[we a d,e];unfold IK at*;omega
def FP(b:bj):Int×Int×Int×Nat:=(b.f,b.t,b.wd,b.gs.length)
def tF{bs cs:List bj}(h:cs.map FP=bs.map FP):eJ bs cs/\∀n,bg cs n=bg bs n:=by
 have i:cs.length=bs.length:=aaq;have b:cs.map Dn=bs.map Dn:=by
  have:=congrArg (List.map fun(x:Int×Int×Int×Nat)=>((x.1,x.2.1,x.2.2.2):Int×Int×Nat)) h;simp only[List.map_map]at this;exact this
 refine⟨b,λn=> ?_⟩
 induction n with
 |zero=>rfl
 |succ n ih=>
  have e:(aR cs n).wd=(aR bs n).wd:=by
   rcases Nat.lt_or_ge n bs.length with a|a
   .have e:(cs.map FP)[n]? =(bs.map FP)[n]? :=by rw[h]
    rw[List.getElem?_map,List.getElem?_map,List.getElem?_eq_getElem a,List.getElem?_eq_getElem (show n<cs.length by omega)]at e;simp only[Option.map_some,Option.some.injEq]at e;rw[jK a,jK (show n<cs.length by omega)];exact congrArg (·.2.2.1) e
   .have d:aR bs n=default:=by unfold aR;rw[List.getD_eq_getElem?_getD,List.getElem?_eq_none aq];rfl
    have f:aR cs n=default:=by unfold aR;rw[List.getD_eq_getElem?_getD,List.getElem?_eq_none aq];rfl
    rw[d,f]
  show bg cs n+_=bg bs n+_;rw[ih,e]
section
variable{w:EE}{B c g:Nat}{ps:List BoxM}
def dr.cell(h:dr w B (OH ⟨g,0,OJ⟩) c ps){j q:Nat}(a:j<ps.length)(b:q<6):w.cell? ⟨g,j*6+q,OJ⟩=(iI ps[j])[q]? /\w.frozen? ⟨g,j*6+q,OJ⟩=OZ:=
 ⟨(aA.cellAt h.row _ aq).trans (je iI pJ ps j q _ (List.getElem?_eq_getElem a) b),aA.frozenAt h.row _⟩
def dr.kV(h:dr w B (OH ⟨g,0,OJ⟩) c ps){j:Nat}(hj:j<ps.length):∃(G:aB) (a:Nat),w.cell? ⟨g,j*6,OJ⟩=OH (ae aj (aR (ps.map (·.1)) j).f)/\w.cell? ⟨g,j*6+1,OJ⟩=OH (ae aj (aR (ps.map (·.1)) j).t)/\w.cell? ⟨g,j*6+2,OJ⟩=OH (ae aj (aR (ps.map (·.1)) j).lv)/\w.cell? ⟨g,j*6+3,OJ⟩=OH (ae aj (aR (ps.map (·.1)) j).x)/\w.cell? ⟨g,j*6+4,OJ⟩=OH (ae aj (aR (ps.map (·.1)) j).wd)/\w.cell? ⟨g,j*6+5,OJ⟩=OH (Pl G (aR (ps.map (·.1)) j).gs.length a)/\(∀q,q<6->w.frozen? ⟨g,j*6+q,OJ⟩=OZ)/\MD w B G (aR (ps.map (·.1)) j).gs.length a/\ps[j].2.1=G:=by
 have e:aR (ps.map (·.1)) j=ps[j].1:=YP;rw[e];have c0:=(h.cell hj (q:=0) aq).1;exact⟨ps[j].2.1,ps[j].2.2,c0,(h.cell hj (q:=1) aq).1,(h.cell hj (q:=2) aq).1,(h.cell hj (q:=3) aq).1,(h.cell hj (q:=4) aq).1,(h.cell hj (q:=5) aq).1,λq b=>(h.cell hj b).2,h.gl _ (List.getElem_mem hj),rfl⟩
def dr.lev(h:dr w B (OH ⟨g,0,OJ⟩) c ps){j:Nat}(a:j<ps.length)(z:Int):∃qs:List BoxM,dr (w.setCell ⟨g,j*6+2,OJ⟩ (ae aj z)) B (OH ⟨g,0,OJ⟩) c qs/\(qs.map (·.1)).map FP=(ps.map (·.1)).map FP:=by
 refine⟨_,h.put a (q:=2) aq z {ps[j].1 with lv:=z} rfl rfl, ?_⟩;rw[List.map_set,List.map_set];refine List.ext_getElem aT λi b d=> ?_;rw[List.getElem_set];split
 .rename_i e
  subst e;simp[FP]
 .rfl
def dr.wid(h:dr w B (OH ⟨g,0,OJ⟩) c ps){j:Nat}(hj:j<ps.length)(z:Int):∃qs:List BoxM,dr (w.setCell ⟨g,j*6+4,OJ⟩ (ae aj z)) B (OH ⟨g,0,OJ⟩) c qs/\qs.map (·.1)=(ps.map (·.1)).set j {aR (ps.map (·.1)) j with wd:=z}/\qs.map (·.2)=ps.map (·.2):=by
 have e:aR (ps.map (·.1)) j=ps[j].1:=YP;refine⟨_,h.put hj (q:=4) aq z {ps[j].1 with wd:=z} rfl rfl,by rw[List.map_set,e], ?_⟩;rw[List.map_set];refine List.ext_getElem aT λi a b=> ?_;rw[List.getElem_set];split
 .rename_i e
  subst e;simp
 .rfl
def MD.cell{w:EE}{B f g:Nat}(h:MD w B (OH ⟨g,0,OJ⟩) n f)(o:k<n):∃z:Int,w.cell? ⟨g,k*4+2,OJ⟩=OH (ae aj z)/\w.frozen? ⟨g,k*4+2,OJ⟩=OZ:=by
 obtain⟨gs,j,b,a⟩:=h;have e:=List.getElem?_eq_getElem (l:=gs) (i:=k) aq;have m:=(b _ (List.mem_of_getElem? e)).1;refine⟨nth gs[k] 2, ?_,aA.frozenAt a _⟩;rw[aA.cellAt a _ aq,wT gs (λg d=>(b g d).1) k 2 _ e aq,List.getElem?_eq_getElem aq,bZ aq];rfl
end
def Vu:List bj:=[⟨0,0,0,0,5,[]⟩,⟨0,0,1,0,3,[]⟩,⟨0,0,1,0,2,[]⟩]
def JQ:List bj:=[⟨0,0,0,0,5,[]⟩,⟨0,0,1,5,2,[]⟩,⟨0,0,1,7,3,[]⟩]
def ag0:qh Vu=[0,2,1]:=by
 have d:Mm Vu=[0,1,1]:=rfl;have a:lg [0,1,1] 3=1:=cF;have b:fI [0,1,1] 3=1:=cF;have c:vl 3=[0,1,2]:=rfl;unfold qh kU;rw[d,show([0,1,1]:aC).length=3 from rfl,a,b,c];rw[zJ cF];rw[lh cF];rw[show oA [0,1,1] [0,1,2] (0+1) 3 0=0 by decide,show eh [0,1,2] 0 0=[0,1,2]from rfl,lh cF,show oA [0,1,1] [0,1,2] (0+1) 3 (0+1)=3 by decide,
  show eh [0,1,2] (0+1) 3=[0,2,1]from rfl,lr cF]
 rfl
def agc:ui Vu (qh Vu) (mX Vu (qh Vu) 3 (uQ 0) 0) 3=JQ:=by
 rw[ag0]
 kernel_rfl
def abU(w:EE):dW (w.alloc (RM #[ae aj 0,ae aj 0,ae aj 0,ae aj 0,ae aj 5,Pl OJ 0 0,ae aj 0,ae aj 0,ae aj 1,ae aj 0,ae aj 3,Pl OJ 0 0,ae aj 0,ae aj 0,ae aj 1,ae aj 0,ae aj 2,Pl OJ 0 0] 55))
 (w.alloc (RM #[ae aj 0,ae aj 0,ae aj 0,ae aj 0,ae aj 5,Pl OJ 0 0,ae aj 0,ae aj 0,ae aj 1,ae aj 0,ae aj 3,Pl OJ 0 0,ae aj 0,ae aj 0,ae aj 1,ae aj 0,ae aj 2,Pl OJ 0 0] 55)).heap.size (OH ⟨w.heap.size,0,OJ⟩) 3 Vu:=by
 have a:∀q v,#[ae aj 0,ae aj 0,ae aj 0,ae aj 0,ae aj 5,Pl OJ 0 0,ae aj 0,ae aj 0,ae aj 1,ae aj 0,ae aj 3,Pl OJ 0 0,ae aj 0,ae aj 0,ae aj 1,ae aj 0,ae aj 2,Pl OJ 0 0][q]? =OH v->
  (w.alloc (RM #[ae aj 0,ae aj 0,ae aj 0,ae aj 0,ae aj 5,Pl OJ 0 0,ae aj 0,ae aj 0,ae aj 1,ae aj 0,ae aj 3,Pl OJ 0 0,ae aj 0,ae aj 0,ae aj 1,ae aj 0,ae aj 2,Pl OJ 0 0] 55)).cell? ⟨w.heap.size,q,OJ⟩=OH v:=by
  intro q v h;rw[cell_of_row _ _ _ _ _ _ (heap_alloc_new w _)];exact h
 have b:∀W B,lJ W B OJ 0 []:=λW B=>⟨rfl,λh=>absurd h aq⟩
 refine⟨rfl,λ_=>⟨_,rfl,aT,λj c=> ?_⟩⟩;obtain rfl|rfl|rfl:j=0∨j=1∨j=2:=aq
 .exact⟨a 0 _ rfl,a 1 _ rfl,a 2 _ rfl,a 3 _ rfl,a 4 _ rfl,OJ,0,a 5 _ rfl,b _ _⟩
 .exact⟨a 6 _ rfl,a 7 _ rfl,a 8 _ rfl,a 9 _ rfl,a 10 _ rfl,OJ,0,a 11 _ rfl,b _ _⟩
 .exact⟨a 12 _ rfl,a 13 _ rfl,a 14 _ rfl,a 15 _ rfl,a 16 _ rfl,OJ,0,a 17 _ rfl,b _ _⟩
def aaH:∀j,(aR Vu j).gs.length<=4000000
 |0=>by decide
 |1=>by decide
 |2=>by decide
 |_+3=>by show([]:List gF).length<=_;decide
def fS(w:EE):GK prog 5 #[] w λe o=>e=RE (PF OX)/\az w o:=by
 have d:=sH (Is (OH ⟨w.heap.size,0,OJ⟩) 3 3 Vu 3 0 0 _ (abU w) aq aq aq aaH);rw[agc,show((3:Nat):Int)=3 from rfl]at d;go_enter func5,ntmps5;go_wp2_with fail;refine d.o.mono ?_;rintro e b ⟨u,x,ps,rfl,g,f,h⟩;have m:ps.length=3:=by
  have:=congrArg List.length f;rw[List.length_map]at this;exact this
 have bx:=g.boxes;rw[f,m]at bx;have n:=sH bx;have k:ak (az w b):=⟨(aw w _).trans (h.mono aT)⟩;obtain⟨a,rfl,_,c⟩:=n.o.2 aq;obtain⟨_,_,⟨_,_,_,q,_,_⟩,_⟩:=UY (c 0 aq);obtain⟨_,_,⟨_,_,_,p,l,_⟩,_⟩:=UY (c 1 aq);obtain⟨_,_,⟨_,_,_,j,i,_⟩,_⟩:=UY (c 2 aq);have y:b.cell? ⟨a.block,a.off+3,OJ⟩=OH (ae aj 0):=by have:=q;simpa[Addr.add,aR,JQ]using this
 have t:b.cell? ⟨a.block,a.off+6+3,OJ⟩=OH (ae aj 5):=by have:=p;simpa[Addr.add,aR,JQ]using this
 have s:b.cell? ⟨a.block,a.off+6+4,OJ⟩=OH (ae aj 2):=by have:=l;simpa[Addr.add,aR,JQ]using this
 have v:b.cell? ⟨a.block,a.off+12+3,OJ⟩=OH (ae aj 7):=by have:=j;simpa[Addr.add,aR,JQ]using this
 have r:b.cell? ⟨a.block,a.off+12+4,OJ⟩=OH (ae aj 3):=by have:=i;simpa[Addr.add,aR,JQ]using this
 go_wp2;go_ret;exact⟨rfl,k.o⟩
section
variable{P:I3}{ops:Array Oper}{md:Region.Mode}{C:EE -> Prop}{T:Option Tmp -> Option Sat}
def Nm(ops:Array Oper)(L K:Nat):Bool:=(List.range L).all λi=>i==K||kG ops L i||(List.range L).any λj=>kG ops L j&&kG ops j i
def Nj{listed:Array Bool}{L K:Nat}(l:Nm ops L K=OX)(h:Cl ops listed)(hi:L∈Region.ready .any ops listed):∀i,i<L->i≠K->listed.getD i OZ=OX:=λi g e=>by
 obtain⟨_,o,k,a⟩:=mem_ready.1 hi;have b:=(List.all_eq_true.1 l) i (List.mem_range.2 g);simp only[Bool.or_eq_true,beq_iff_eq]at b;rcases b with(b|b)|b
 .exact absurd b e
 .exact fG k a b
 .obtain⟨j,n,f⟩:=List.any_eq_true.1 b
  rw[Bool.and_eq_true]at f;have m:=fG k a f.1;have d:=f.2;cases c:ops[j]? with
  |none=>unfold kG at d;rw[c]at d;simp at d
  |some oj=>exact fG c (h j oj c m) d
def OY(a:Act)(d:Tmp)(v:EN):∃u,(a.put (OH d) v).put (OH d) u=a:=by
 refine⟨a.tmps.getD d undef, ?_⟩;obtain⟨ts,ds⟩:=a;simp only[Act.put]
 congr 1
 apply Array.ext_getElem?;intro i;by_cases h:d=i
 .subst h
  by_cases b:d<ts.size
  .simp[b]
  .simp[b]
 .simp[h]
def all_nil{listed:Array Bool}(h:∀i,i<ops.size->listed.getD i OZ=OX)(d:listed.size=ops.size):Region.ready .any ops listed=[]:=by
 rw[List.eq_nil_iff_forall_not_mem];intro i hi;obtain⟨b,o,c,_⟩:=mem_ready.1 hi;have a:=(Array.getElem?_eq_some_iff.1 c).1;exact dJ aq b (h i a)
def yq{Q:(EE->Prop)->Act->Prop}{Q':Exit->Act->EE->Prop}{L K:Nat}{d:Tmp}{oK:Oper}(J:fT ops=OX)(hL:L+2=ops.size)(hKL:K<L)(hd:Nm ops L K=OX)(V:ij ops (L+1)=OX)(F:kG ops (L+1) L=OX)(hdk:kG ops (L+1) K=OX)
 (hoK:ops[K]? =OH oK) (x:oK.dst=OH d) (hgK:oK.guard=OJ) (hT:T (OH d)=OJ)
 (W:∀E a w,C w->E w->Q E a->wpOp P ops Q' L (λa w=>wpOp P ops Q' (L+1) (λa w=>Q' .normal a w) a w) a w/\∀u,wpOp P ops Q' L (λa w=>wpOp P ops Q' K (λa w=>wpOp P ops Q' (L+1) (λa w=>Q' .normal a w) a w) a w) (a.put (OH d) u) w):
 ∀(fuel:Nat) (listed:Array Bool) (E:EE->Prop) (a:Act) (w:EE),C w->E w->vH E->listed.size=ops.size->listed.getD L OX=OZ->listed.getD (L+1) OX=OZ->Cl ops listed->
 gN P .any ops T C Q fuel ((listed.setIfInBounds L OX).setIfInBounds (L+1) OX) E a->wpAny P .any ops Q' (fuel+2) listed a w:=by
 have ahZ:K≠L:=aq;have aie:K≠L+1:=aq;intro fuel
 induction fuel with
 |zero=>intro listed E a w H N O hs hl k p h;exact yQ (ia J) hL F 0 listed a w hs hl k h.1 (W _ _ _ H N h.2).1
 |succ fuel ih=>
  intro listed E a w H N O hs hl k p h;cases Y:Region.ready .any ops ((listed.setIfInBounds L OX).setIfInBounds (L+1) OX)with
  |nil=>exact yQ (ia J) hL F (fuel+1) listed a w hs hl k Y (W _ _ _ H N (h.1 Y)).1
  |cons i0 rest=>
   have h0:i0∈Region.ready .any ops ((listed.setIfInBounds L OX).setIfInBounds (L+1) OX):=by rw[Y];simp
   obtain⟨Dw,o0,ho0,_⟩:=mem_ready.1 h0;have q:=(Array.getElem?_eq_some_iff.1 ho0).1;have XO:i0≠L+1:=λe=>by
    subst e;simp[hs,q]at Dw
   have Rp:i0≠L:=λe=>by
    subst e;rw[getD_set_ne OX (Ne.symm XO)]at Dw;simp[hs,q]at Dw
   have c:listed.getD i0 OX=OZ:=ae7;have I:∀i∈Region.ready .any ops listed,i≠L+1:=λi hi e=>by
    subst e;exact dJ aq c (tg V p hi i0 aq)
   refine⟨λD=> ?_,λi hi=> ?_⟩
   .exfalso
    exact dJ aq c (ia J hs D i0 q)
   .have l:=I i hi
    rcases Nat.decEq i L with fh|rfl
    .refine fU H N O (λE' a' w' Z U B S=>ih _ E' a' w' Z U B rk zs (by rw[getD_set_ne OX l];exact k) (Em p hi hs) ?_) (h.2 i (ready_mono (ready_mono hi fh) l))
     rw[Array.setIfInBounds_comm _ _ fh,Array.setIfInBounds_comm _ _ l];exact S
    .have s:=Nj hd p hi
     obtain rfl:i0=K:=by
      rcases Nat.decEq i0 K with n|n
      .exfalso;exact dJ aq c (s i0 aq n)
      .exact n
     have g:=h.2 i0 h0;unfold gG at g;simp only[hoK]at g;rw[if_pos (by simp[Region.wanted,hgK])]at g;unfold gu at g;rw[x,hT]at g;obtain⟨_,v,_,hv⟩:=g;rw[x]at hv;have b:∀j,j<ops.size->(((listed.setIfInBounds i OX).setIfInBounds (i+1) OX).setIfInBounds i0 OX).getD j OZ=OX:=λj t=>by
      rcases Nat.decEq j i0 with n|rfl
      .rcases Nat.decEq j (i+1)with h6|rfl
       .rcases Nat.decEq j i with z|rfl
        .exact getD_set_true (getD_set_true (getD_set_true (s j aq n)))
        .simp[hs,t,Ne.symm n,Ne.symm h6]
       .simp[hs,t,Ne.symm n]
      .simp[hs,t]
     have r:=all_nil b rk;have hq:Q E (a.put (OH d) v):=by
      cases fuel with
      |zero=>exact hv.2
      |succ f=>exact hv.1 r
     obtain⟨u,hu⟩:=OY a d v;have G:=(W _ _ _ H N hq).2 u;rw[hu]at G;have hlK:listed.getD i0 OX=OZ:=c;refine wpOp_mono (λa' w' S=> ?_) G;have q1:(listed.setIfInBounds i OX).getD i0 OX=OZ:=by rw[getD_set_ne OX (Ne.symm Rp)];exact hlK
     have q2:(listed.setIfInBounds i OX).getD (i+1) OX=OZ:=by rw[getD_set_ne OX (by omega)];exact k
     refine⟨λD=> ?_,λj t=> ?_⟩
     .exfalso
      exact dJ br q1 (ia J rk D i0 q)
     .obtain⟨X,o,R,y⟩:=mem_ready.1 t
      have A:=(Array.getElem?_eq_some_iff.1 R).1;obtain rfl:j=i0:=by
       rcases Nat.decEq j i0 with n|n
       .exfalso
        rcases Nat.decEq j (i+1)with h6|rfl
        .have z:=b j A
         rw[getD_set_ne OZ (Ne.symm n),getD_set_ne OZ (Ne.symm h6)]at z;exact dJ br X z
        .exact dJ br q1 (fG R y hdk)
       .exact n
      refine wpOp_mono (λa2 w2 h2=> ?_) S;have q3:((listed.setIfInBounds i OX).setIfInBounds j OX).getD (i+1) OX=OZ:=by rw[getD_set_ne OX (by omega)];exact q2
      refine⟨λD=> ?_,λm hm=> ?_⟩
      .exfalso
       exact dJ br q3 (ia J rk D (i+1) aq)
      .obtain⟨hmu,o,R,_⟩:=mem_ready.1 hm
       have A:=(Array.getElem?_eq_some_iff.1 R).1;obtain rfl:m=i+1:=by
        rcases Nat.decEq m (i+1)with h6|h6
        .exfalso
         have z:=b m A;rw[Array.setIfInBounds_comm (xs:=listed.setIfInBounds i OX) OX OX (by omega:i+1≠j)]at z;rw[getD_set_ne OZ (Ne.symm h6)]at z;exact dJ br hmu z
        .exact h6
       refine wpOp_mono (λa3 w3 h3=> ?_) h2;have M:Region.ready .any ops (((listed.setIfInBounds i OX).setIfInBounds j OX).setIfInBounds (i+1) OX)=[]:=by
        rw[Array.setIfInBounds_comm _ _ (by omega:j≠i+1)];exact r
       cases fuel with
       |zero=>exact⟨M,h3⟩
       |succ f=>exact⟨λ_=>h3,λj t=>by rw[M]at t;cases t⟩
def sB{id:Nat}{Q:Exit->Act->EE->Prop}{a:Act}{lo:List Oper}(T:Option Tmp->Option Sat)(L K:Nat)(d:Tmp)(hlen:lo.length=L+2)(hm:P.follows .mixedOrders=OX)
 (X:Region.noSelect lo.toArray=OX) (S:fT lo.toArray=OX) (F:(Nm lo.toArray L K&&ij lo.toArray (L+1)&&kG lo.toArray (L+1) L&&kG lo.toArray (L+1) K&&decide (K<L))=OX) (Y:Region.lexFrom .any lo.toArray L 0 (((Array.replicate lo.length OZ).setIfInBounds L OX).setIfInBounds (L+1) OX)=OX) (g:(lo[L]?).map (·.guard)=OH OJ) (c:(lo[L+1]?).map (·.guard)=OH OJ)
 (p:(lo[K]?).map (λo=>(o.dst,o.guard))=OH (OH d,OJ)) (V:T (OH d)=OJ)
 (h:du P lo.toArray T (λb=>∃n:aI w,b=n.1) (λE k=>∀n:aI w,E n.1->∀o v G,lo[L]? =OH o->lo[L+1]? =OH v->lo[K]? =OH G->o.wp P k n.1 (λy q=>v.wp P y q (λr B=>Q .normal r B) Q) Q/\∀u,o.wp P (k.put (OH d) u) n.1 (λU w2=>G.wp P U w2 (λr B=>v.wp P r B (λa4 w4=>Q .normal a4 w4) Q) Q) Q) (lo.take L) (λ_=>True) a):(Code.region id lo.toArray OX).wp P Q a w:=by
 have N:(λb=>∃n:aI w,b=n.1) {w with drawn:=w.drawn+1}:=⟨⟨{w with drawn:=w.drawn+1},⟨rfl,rfl,rfl,Nat.le_refl _,λ_ _=>rfl⟩⟩,rfl⟩;simp only[Bool.and_eq_true,decide_eq_true_eq]at F;obtain⟨⟨⟨⟨A,s⟩,z⟩,x⟩,t⟩:=F;have e:lo[L]? =OH (lo[L]' aq):=List.getElem?_eq_getElem aq;have J:lo[L+1]? =OH (lo[L+1]' aq):=List.getElem?_eq_getElem aq;have O:lo[K]? =OH (lo[K]' aq):=List.getElem?_eq_getElem aq;rw[e]at g;rw[J]at c;rw[O]at p;simp at g c p;refine wp_region_any hm ?_;have f:(lo.take L).length=L:=br;have H:=kI (md:=.any) ⟨_,N⟩ X (lo.take L) 0 (((Array.replicate lo.length OZ).setIfInBounds L OX).setIfInBounds (L+1) OX) (λ_=>True) a (λj M=>by
  rw[f]at M;simp[List.getElem?_take,M]) (by rw[f];exact Y) h
 rw[f]at H;have m:∀{o:Oper} {i:Nat} {a:Act} {w:EE} {I:Act->EE->Prop},lo.toArray[i]? =OH o->o.guard=OJ->o.wp P a w I Q->wpOp P lo.toArray Q i I a w:=λR g h=>by
  unfold wpOp;rw[R];simp only;rw[if_pos (by simp[Region.wanted,g])];exact .inl h
 have h2:=yq (C:=λb=>∃n:aI w,b=n.1) (Q':=Q) (L:=L) (K:=K) (d:=d) (oK:=lo[K]' aq) S xG t A s z x aT p.1 p.2 V (λE k b D Z hq=>by
  obtain⟨n,rfl⟩:=D;obtain⟨W,g2⟩:=hq n Z _ _ _ e J O;exact⟨m aT g (Oper.wp_mono (λk b l=>m aT c l) W),λu=>m aT g (Oper.wp_mono (λk b l=>m aT p.2 (Oper.wp_mono (λk b l=>m aT c l) l)) (g2 u))⟩) L (Array.replicate lo.length OZ) (λ_=>True) a {w with drawn:=w.drawn+1} N trivial (λ_ _ _ _=>trivial) aT xG xG (λj o R h=>by exfalso;rw[Array.getD_eq_getD_getElem?,Array.getElem?_replicate]at h;split at h<;>simp at h) H
 simpa[hlen]using h2
end
def qV:∀(l:aC) (j:Nat),gP (l.take (j+1))=gP (l.take j)+nth l j
 |[],j=>by simp[gP,nth]
 |x::l,0=>by show x+gP (l.take 0)=gP []+x;simp[gP]
 |x::l,j+1=>by
  have ih:=qV l j;have e:nth (x::l) (j+1)=nth l j:=rfl;rw[e];show x+gP (l.take (j+1))=x+gP (l.take j)+nth l j;rw[ih];omega
structure Dj(gs:List aC)(k i:Nat)(xs:aC):Prop where
 up:xs.Pairwise (·< ·)
 jI:∀x∈xs,0<=x/\x<(i:Int)
 no:xs.length=0->∀j,j<i->nth (dS gs j) 1≠(k:Int)
def Dj.nil(gs:List aC)(k:Nat):Dj gs k 0 []:=⟨.nil,aT,λ_ j h=>absurd h aq⟩
def Dj.skip(h:Dj gs k i xs)(b:nth (dS gs i) 1≠(k:Int)):Dj gs k (i+1) xs:=⟨h.up,λx c=>by have:=h.jI x c;omega,λa j d=>by
 by_cases e:j=i
 .subst e;exact b
 .exact h.no a j aq⟩
def Dj.more(h:Dj gs k i xs):Dj gs k (i+1) (xs++[(i:Int)]):=⟨List.pairwise_append.2 ⟨h.up,List.pairwise_singleton _ _,λx a y c=>by
 have e:=List.mem_singleton.1 c;rw[e];exact(h.jI x a).2⟩,λx a=>by
 rcases List.mem_append.1 a with a|a
 .have:=h.jI x a;omega
 .have e:=List.mem_singleton.1 a
  omega,λb=>by simp at b⟩
def Dj.lt(h:Dj gs k i xs){a b:Nat}(c:a<b)(d:b<xs.length):nth xs a<nth xs b:=by
 rw[bZ aq,bZ d];exact List.pairwise_iff_getElem.1 h.up a b aq d c
def LaS(ow a:aC)(j:Nat)(xs:aC):Prop:=IK (gP xs)=IK (gP (a.take j))/\∀b,j<=b->b<ow.length->nth xs (nth ow b).toNat=0
def LaS.more{ow d:aC}(h:LaS ow d j xs)(f:Dj gs k i ow)(c:j<ow.length)(p:xs.length=m)(hi:i<=m):LaS ow d (j+1) (xs.set (nth ow j).toNat (nth d j)):=by
 obtain⟨o,e⟩:=h;have l:=f.jI (nth ow j) (by rw[bZ c];exact List.getElem_mem c);refine⟨?_,λb n a=> ?_⟩
 .rw[tO _ _ _ aq,e j cr c,qV]
  unfold IK at*;omega
 .have g:=f.lt (show j<b by omega) a
  rw[Sj aq];exact e b aq a
def ago(w:EE)(m:Nat)(T:Int)(e:IS)(a:EE):Prop:=∃(A:aB) (c:Nat),e=RE (Pl A m c)/\Os a w.heap.size A m c (λxs=>0<m->IK (gP xs)=T)/\az w a
def KF(T:Nat)(A:aB)(m c:Nat)(gs:List aC)(w:EE)(h:Rx w w.heap.size 2 gs A m)(hm:m<=60000)(hT:0<T)(Qm:T<9223372036854775808)(hc:∀j,j<m->0<=nth (dS gs j) 1/\nth (dS gs j) 1<=2):GK prog 89 #[ae aj (T:Int),Pl A m c] w (ago w m (T:Int)):=by
 have⟨R,HC⟩:=K' h hc;have HT:ak (0<T/\T<9223372036854775808):=⟨hT,Qm⟩;have hx:¬(T:Int)<1:=aq;have zz:ak ((prog.info? 3).map (·.zero)=OH (OH (ae aj 0))):=⟨aF⟩;go_enter func89,ntmps89;go_wp2_with (refine dx (p:=(·=0)) l5 zz.o rfl rfl (.tmp 13) (.tmp 13) rfl m rfl rfl rfl rfl aq w.heap.size cr ?_;intro g w1 o1 b1;have O1:=sH (Os.zero o1);have B1:=sH b1;clear o1 b1);go_loopg[6,7,8,9,10,11,18] 4 (λgg _ _ _ _ _ _ Z wr=>∃k:Nat,3-k<gg/\k<=3/\Z=ae aj (k:Int)/\ak (∀j,j<m->(k:Int)<=nth (dS gs j) 1)/\ak (Os wr w.heap.size (OH ⟨g,0,OJ⟩) m m (λxs=>∀x∈xs,x=0))/\ak (az w wr))
 .exact⟨0,aq,aq,rfl,⟨λj n=>(HC.o j n).1⟩,O1,B1⟩
 obtain⟨k,hg,hk,rfl,KC,OW,BE⟩:=hrel;obtain⟨o,rfl⟩:=eX wr;by_cases hk3:k<3;rotate_left
 .have i4:¬(k:Int)<3:=by omega
  have t:ak (Os o w.heap.size (OH ⟨g,0,OJ⟩) m m (λxs=>0<m->IK (gP xs)=(T:Int))):=⟨by
   obtain⟨xs,E,D,H⟩:=OW.o;refine⟨xs,E,D,λy=> ?_⟩;have h4:=KC.o 0 y;have h5:=HC.o 0 y;omega⟩
  go_wp2;go_ret;exact⟨_,_,rfl,t.o,BE.o⟩
 have i4:(k:Int)<3:=aq;have HG:ak (3-k<gk/\k<3):=⟨hg,hk3⟩;have hgB:=OW.o.ow.lt;go_wp2;go_loopg[7,8,9,23](m+1)(λgg v7 _ _ v23 wr=>∃(i:Nat) (ow:aC) (Q:aB) (I:Nat),m-i<gg/\i<=m/\v7=Pl Q ow.length I/\v23=ae aj (i:Int)/\ak (Dj gs k i ow/\ow.length<=i)/\ak (Own wr o.heap.size 3 .i64 Q ow.length I ow)/\ak (az o wr))
 .exact⟨0,([]:aC),OJ,0,aq,aq,aD,aD,⟨Dj.nil _ _,aT⟩,⟨Own.nil _ _ _ _⟩,cJ⟩
 obtain⟨i,ow,Q,I,dV,hi,rfl,rfl,f,OQ,O⟩:=hrel;have W:=BE.t O.o;have F:=O.o.size;by_cases L:i<m
 .have i5:=aU i m
  obtain⟨ad,rfl,e0,e1⟩:=(R.o.Z W.o W.o.size).vG L;have G:ak (m-i<gk/\i<m):=⟨dV,L⟩;have SK:ak (nth (dS gs i) 1≠(k:Int)->Dj gs k (i+1) ow):=⟨λh=>f.o.1.skip h⟩;have C:ak (Dj gs k (i+1) (ow++[(i:Int)])/\(ow++[(i:Int)]).length=ow.length+1/\ow.length<=i):=⟨f.o.1.more,aT,f.o.2⟩;generalize nth (dS gs i) 0=a at*;generalize nth (dS gs i) 1=b at*;have⟨U,cg⟩:=eX ((wr:EE).alloc (RM #[ae aj a,ae aj b] 158));have X2:ak (Bx U wr.heap.size #[ae aj a,ae aj b]):=⟨lY⟩;have B3:ak (az o U):=⟨by rw[cg];exact O.o.alloc F _⟩;have O3:ak (Own U o.heap.size 3 .i64 Q ow.length I ow):=⟨by rw[cg];exact Own.alloc OQ.o _⟩;have sS:=B3.o.size;go_upto_region 11 with fail;rw[<-cg];clear cg;have x1:U.cell? ⟨wr.heap.size,1,OJ⟩=OH (ae aj b):=X2.o.cell 1;cases V:(b==(k:Int))
  .have S2:ak (Dj gs k (i+1) ow/\ow.length<=i+1):=⟨SK.o (by intro e;subst e;simp at V),by have:=C.o.2.2;omega⟩
   go_wp2;have:=G.o;go_roundg(m-i)
   .exact⟨i+1,ow,Q,I,aq,aq,rfl,aV,S2,O3,B3⟩
   omega
  .clear f SK
   go_wp2_with (at_builtin;refine ju l5 rfl (.tmp 32) (.tmp 34) rfl rfl (Own.alloc O3.o _) rfl (bk _ _ _) (by have:=C.o.2.2;omega) br ?_;intro A8 c8 w8 o8 b8;rw[<-C.o.2.1]at o8⊢;have O8:=sH o8;have B8:ak (az o w8):=⟨(B3.o.alloc sS _).trans b8⟩;clear o8 b8);have:=G.o;go_roundg(m-i)
   .exact⟨i+1,ow++[(i:Int)],A8,c8,aq,aq,by rw[C.o.2.1],aV,⟨C.o.1,by have:=C.o.2;omega⟩,O8,B8⟩
   omega
 have i5:=cI i m;have Mh:i=m:=aq;subst Mh;have S:=sH (OW.o.ar O.o);have⟨q,hq⟩:=eY ow.length;rw[hq]at OQ f⊢;have HQ:=sH hq;rcases Nat.eq_zero_or_pos q with y|y
 .have T6:((q:Int)==0)=OX:=by simp;omega
  have KC2:ak (∀j,j<i->((k+1:Nat):Int)<=nth (dS gs j) 1):=⟨λj n=>by
   have E:=KC.o j n;have D:=f.o.1.no (by rw[HQ.o];exact y) j n;omega⟩
  go_wp2;have hg9:=HG.o;go_roundg(3-k)
  .exact⟨k+1,aq,aq,aV,KC2,S,W⟩
  omega
 .have T6:((q:Int)==0)=OZ:=pW
  have SC:=sH (Ru T q wr HT.o.2 y (by have:=f.o.2;omega));have B:ak (0<q/\q<=i):=⟨y,f.o.2⟩;go_wp2_with fail;refine SC.o.mono ?_;rintro e r ⟨A5,c5,rfl,o5,X⟩;have⟨O5,B5,P,OW5⟩:=MQ o5 (O.o.trans (X.mono F)) (Own.ar OQ.o X) (S.o.ar X);have xC:=W.t X;have sO:=B5.o.size;obtain⟨l,K,J,hsT⟩:=O5.o;obtain⟨g7,rfl,hg7,aia⟩:=aA.form P.o (by have:=B.o;omega);obtain⟨g5,rfl,Ua,ahX⟩:=aA.form K (by have:=B.o;omega);have⟨N,hN⟩:=eY o.heap.size;have KQ:ak (∀j,j<q->r.cell? ⟨g7,j,OJ⟩=OH (ae aj (nth ow j))):=⟨λj n=>bU P.o n⟩;have KS:ak (∀j,j<q->r.cell? ⟨g5,j,OJ⟩=OH (ae aj (nth l j))):=⟨λj n=>bU K n⟩;have HN:ak (g<N/\N<=g7/\g7<r.heap.size/\N<=g5/\g5<r.heap.size):=⟨aq⟩;have M:ak (l.length=q/\IK (gP l)=(T:Int)):=⟨J,hsT⟩;have LA0:ak (Os r w.heap.size (OH ⟨g,0,OJ⟩) i i (LaS ow l 0)):=⟨by
   obtain⟨xs,E,D,H⟩:=OW5.o;refine⟨xs,E,D,by rw[qK xs H];rfl,λb _ V=> ?_⟩;have h4:=f.o.1.jI (nth ow b) (by rw[bZ V];exact List.getElem_mem V);have h5:(nth ow b).toNat<xs.length:=(by omega);rw[bZ h5];exact H _ (List.getElem_mem h5)⟩
  go_wp2;go_loopg[10,11,45](q+1)(λgg _ _ v45 wr=>∃j:Nat,q-j<gg/\j<=q/\v45=ae aj (j:Int)/\ak (Os wr w.heap.size (OH ⟨g,0,OJ⟩) i i (LaS ow l j))/\ak (KP N r wr)/\ak (az w wr))
  .exact⟨0,aq,aq,rfl,LA0,⟨KP.refl _ _⟩,xC⟩
  obtain⟨j,tC,n,rfl,Y,KJ,BJ⟩:=hrel;by_cases d:j<q;rotate_left
  .have i6:=cI j q
   have hjq:j=q:=aq;have t:ak (Os wr w.heap.size (OH ⟨g,0,OJ⟩) i i (λxs=>0<i->IK (gP xs)=(T:Int))):=⟨by
    obtain⟨xs,E,D,H,_⟩:=Y.o;refine⟨xs,E,D,λ_=> ?_⟩;rw[H,hjq,<-M.o.1,List.take_length,M.o.2]⟩
   go_wp2;go_ret;exact⟨_,_,rfl,t.o,BJ.o⟩
  have i6:=aU j q;have ev:=KQ.o j d;have eu:=KS.o j d;obtain⟨n1,n2,n3,n4,n5⟩:=HN.o;have ev:=KJ.o.cell n2 n3 ev;have eu:=KJ.o.cell n4 n5 eu;have s:j<ow.length:=by rw[HQ.o];exact d
  have ve:=f.o.1.jI (nth ow j) (by rw[bZ s];exact List.getElem_mem s);obtain⟨v,hv⟩:∃z:Nat,nth ow j=(z:Int):=⟨(nth ow j).toNat,aq⟩;have Ox:v<i:=aq;have hv3:=aU v i;have Mf:=gT v;rw[hv]at ev;obtain⟨_,_,k0⟩:=Y.o.ow.get Ox;have k1:=Y.o.ow.fz v;have O9:ak (Os (wr.setCell ⟨g,v,OJ⟩ (ae aj (nth l j))) w.heap.size (OH ⟨g,0,OJ⟩) i i (LaS ow l (j+1))):=⟨Y.o.set _ λxs hl h=>by
   have:=h.more f.o.1 s hl cr;rw[hv]at this;exact this⟩
  have B9:ak (az w (wr.setCell ⟨g,v,OJ⟩ (ae aj (nth l j)))):=⟨Below.setCell BJ.o (p:=⟨g,v,OJ⟩) hgB.1 _⟩;have K9:ak (KP N r (wr.setCell ⟨g,v,OJ⟩ (ae aj (nth l j)))):=⟨KJ.o.set n1 _⟩;have Mn:ak (q-j<gk/\j<q):=⟨tC,d⟩;generalize nth l j=u at*;go_wp2;have:=Mn.o;have:=B.o
  go_roundg(q-j)
  .exact⟨j+1,aq,aq,by rw[IntWalk.wrap64_in _ (by omega)];rfl,O9,K9,B9⟩
  omega
def eQ(bs:List bj)(n:Nat):List (Nat×Nat):=(List.range n).map λj=>((aR bs j).f.toNat,(aR bs j).t.toNat)
def uq(bs:List bj)(n:Nat):(eQ bs n).length=n:=by simp[eQ]
def xD(bs:List bj)(n:Nat):eQ bs (n+1)=eQ bs n++[((aR bs n).f.toNat,(aR bs n).t.toNat)]:=by simp[eQ,List.range_succ]
def GO{bs:List bj}(h:j<n):cV (eQ bs n) j=((aR bs j).f.toNat,(aR bs j).t.toNat):=by simp[cV,eQ,h]
structure FiB(bs:List bj)(tl f t:Nat):Prop where
 inj:∀i j,i<tl->j<tl->(aR bs i).t=(aR bs j).t->i=j
 jI:∀j,j<tl->(f:Int)<=(aR bs j).f/\(aR bs j).f<(aR bs j).t/\(aR bs j).t<=(t:Int)
def FiB.ct{bs:List bj}{b f t:Nat}(h:FiB bs b f t):aeL (eQ bs b) f t:=λj a=>by
 rw[uq]at a;have:=h.jI j a;rw[GO a];show f<=(aR bs j).f.toNat/\(aR bs j).f.toNat<(aR bs j).t.toNat/\(aR bs j).t.toNat<=t;omega
def Qn(ts:aC)(a:List (Nat×Nat)):Dh (gY ts a) a.length:=⟨tV ts a _,λx b=>by have c:=(pU x b).1;have d:=Cj ts a a.length;omega⟩
def Ea(S:List (Nat×Int))(T:Int):Int:=if S.length=0 then 0 else T
def agf(B g c b:Nat)(ps:List BoxM)(D:Int)(w:EE)(e:IS)(a:EE):Prop:=e=RE (P8 #[])/\∃qs:List BoxM,dr a B (OH ⟨g,0,OJ⟩) c qs/\eJ (ps.map (·.1)) (qs.map (·.1))/\IK (bg (qs.map (·.1)) b)=IK (bg (ps.map (·.1)) b+D)/\EI B w a
def Xq(T:aB)(tn tc:Nat)(ts:aC)(B g c y:Nat)(ps:List BoxM)(f t:Nat)(N:Nat)(w:EE)(h:aJ .i32 w T tn tc ts)(hL:Laid w)(ho:dr w B (OH ⟨g,0,OJ⟩) c ps)(hB:B<=w.heap.size)(hl:y<=ps.length)(hf:FiB (ps.map (·.1)) y f t)(ht:t<=tn)(hn:tn<=40)(ht4:y<=40)(hT:0<N)(Qm:N<9223372036854775808):
 GK prog 34 #[Pl T tn tc,Pl (OH ⟨g,0,OJ⟩) y c,ae aj (f:Int),ae aj (t:Int),ae aj (N:Int)] w (agf B g c y ps (Ea (gY ts (eQ (ps.map (·.1)) y)) (N:Int)) w):=by
 have⟨bs,K⟩:=eY (ps.map (·.1));have R:ak _:=⟨h⟩;have LW:ak _:=⟨hL⟩;have OW:ak _:=⟨ho⟩;rw[K]at hf;have FB:ak _:=⟨hf⟩;have CI:ak _:=⟨hf.ct⟩;have C:ak _:=⟨K⟩;rw[K];have kV:ak (∀W,az w W->∀j,j<y->∃(G:aB) (V:Nat),W.cell? ⟨g,j*6,OJ⟩=OH (ae aj (aR bs j).f)/\W.cell? ⟨g,j*6+1,OJ⟩=OH (ae aj (aR bs j).t)/\W.cell? ⟨g,j*6+2,OJ⟩=OH (ae aj (aR bs j).lv)/\W.cell? ⟨g,j*6+3,OJ⟩=OH (ae aj (aR bs j).x)/\W.cell? ⟨g,j*6+4,OJ⟩=OH (ae aj (aR bs j).wd)/\W.cell? ⟨g,j*6+5,OJ⟩=OH (Pl G (aR bs j).gs.length V)):=⟨λW hW j L=>by
  obtain⟨G,V,h0,d,l,P,h4,h5,_⟩:=(ho.ar hW).kV (show j<ps.length by omega);rw[K]at h0 d l P h4 h5;exact⟨G,V,h0,d,l,P,h4,h5⟩⟩
 have HT0:ak (0<N/\N<9223372036854775808):=⟨hT,Qm⟩;clear h hL ho hf hT Qm;clear K;go_enter func34,ntmps34;go_wp2;go_loopg[10,12,21](y+1)(λgg v10 _ v21 wr=>∃(i:Nat) (A1:aB) (c1:Nat),y-i<gg/\i<=y/\v10=Pl A1 i c1/\v21=ae aj (i:Int)/\ak (OL wr w.heap.size 57 2 (·=(eQ bs i).map cR) A1 i c1)/\ak (az w wr))
 .exact⟨0,OJ,0,aq,aq,rfl,rfl,⟨OL.nil _ _ _ _ rfl⟩,cJ⟩
 obtain⟨i,A1,c1,hg,hi,rfl,rfl,OO,BE⟩:=hrel;by_cases s:i<y
 .have i4:=aU i y
  have jL:ak (y-i<gk):=⟨hg⟩;obtain⟨G,V,J,e1,e2,e3,e4,e5⟩:=kV.o wr BE.o i s;obtain⟨d,l,P⟩:=FB.o.jI i s;have ET:ak ((eQ bs (i+1)).map cR=(eQ bs i).map cR++[[(aR bs i).f,(aR bs i).t]]):=⟨by
   rw[xD,List.map_append];show _++[[(((aR bs i).f.toNat:Nat):Int),(((aR bs i).t.toNat:Nat):Int)]]=_;rw[show(((aR bs i).f.toNat:Nat):Int)=(aR bs i).f by omega,show(((aR bs i).t.toNat:Nat):Int)=(aR bs i).t by omega]⟩
  generalize(aR bs i).gs.length=u at*;generalize aR bs i=b at*;have i5:b.f<b.t:=l;have⟨A,cg⟩:=eX ((wr:EE).alloc (RM #[ae aj b.f,ae aj b.t,ae aj b.lv,ae aj b.x,ae aj b.wd,Pl G u V] 55));have X2:ak (Bx A wr.heap.size #[ae aj b.f,ae aj b.t,ae aj b.lv,ae aj b.x,ae aj b.wd,Pl G u V]):=⟨lY⟩;have B2:ak (az w A):=⟨ma⟩;have O2:ak (OL A w.heap.size 57 2 (·=(eQ bs i).map cR) A1 i c1):=⟨by rw[cg];exact OO.o.ar (aw _ _)⟩;have gz:=B2.o.size;go_upto_region 4 with fail;rw[<-cg];clear cg J e1 e2 e3 e4 e5 hg d l P;have x0:A.cell? ⟨wr.heap.size,0,OJ⟩=OH (ae aj b.f):=X2.o.cell 0;have x1:A.cell? ⟨wr.heap.size,1,OJ⟩=OH (ae aj b.t):=X2.o.cell 1;go_wp2_with (at_builtin;refine cd (L':=(·=(eQ bs (i+1)).map cR)) TY rfl (.tmp 30) (.tmp 36) rfl rfl (O2.o.alloc _) rfl [b.f,b.t] rfl (cP _ _ _ _ _ aT rfl) (λxs _ _ h=>by rw[ET.o,h]) aq br ?_;intro A8 c8 w8 o8 b8 _ _;have O8:ak _:=⟨o8⟩;have B8:ak (az w w8):=⟨(B2.o.alloc aq _).trans b8⟩;clear o8 b8);go_roundg(y-i)
  .exact⟨i+1,A8,c8,aq,aq,rfl,aV,O8,B8⟩
  have:=jL.o;omega
 have i4:=cI i y;obtain rfl:i=y:=aq;have RX:ak (Rx wr wr.heap.size 2 ((eQ bs i).map cR) A1 i):=⟨by
  obtain⟨gs,d,l⟩:=OO.o.rl aq;subst d;exact l⟩
 have SC:ak _:=⟨PJ T tn tc ts f t A1 i c1 (eQ bs i) wr (R.o.ar BE.o) (LW.o.ar BE.o) RX.o CI.o ht hn aq⟩;clear OO s RX;go_wp2_with fail;refine SC.o.mono ?_;rintro e w3 ⟨A3,c3,rfl,o3,b3⟩;have sl:Dh (gY ts (eQ bs i)) i:=by have:=Qn ts (eQ bs i);rwa [uq]at this
 have SIN:ak (∀x∈gY ts (eQ bs i),0<=x.2/\x.2<=2):=⟨λx hx=>(pU x hx).2⟩;generalize gY ts (eQ bs i)=S at*;have O3:ak _:=⟨o3⟩;have SL:ak _:=⟨sl⟩;have B3:ak (az w w3):=⟨BE.o.trans (b3.mono BE.o.size)⟩;have hsl:S.length<=40:=by have:=sl.len;omega
 have RS:ak (Rx w3 w3.heap.size 2 (S.map (sR (eQ bs i))) A3 S.length):=⟨by
  obtain⟨gs,d,l⟩:=o3.rl aq;subst d;exact l⟩
 have PC:ak _:=⟨KF N A3 S.length c3 _ w3 RS.o aq HT0.o.1 HT0.o.2 λj L=>by
  have e2:nth (dS (S.map (sR (eQ bs i))) j) 1=S[j].2:=by rw[Hv _ L];rfl
  rw[e2];exact SIN.o _ (List.getElem_mem L)⟩
 clear o3 sl b3 SC;go_wp2_with fail;refine PC.o.mono ?_;rintro e o ⟨A4,c4,rfl,o4,b4⟩;obtain⟨sh,iW,gz,sS⟩:=o4;have O4:ak (Own o w3.heap.size 3 .i64 A4 S.length c4 sh):=⟨iW⟩;have HSH:ak (sh.length=S.length/\(0<S.length->IK (gP sh)=(N:Int))):=⟨gz,sS⟩;clear iW gz sS;have B4:ak (az w o):=⟨B3.o.trans (b4.mono B3.o.size)⟩;have RS4:ak (Rx o o.heap.size 2 (S.map (sR (eQ bs i))) A3 S.length):=⟨RS.o.Z b4 b4.size⟩;clear b4 PC RS;have hgw:0<i->g<w.heap.size/\B<=g:=λh0=>by
  obtain⟨g1,e,d,l⟩:=aA.form OW.o.row (show 0<ps.length by omega);injection e with e
  injection e with e
  subst e;exact⟨l,d⟩
 have HGW:ak _:=⟨hgw⟩;have KS:ak (∀j,j<S.length->∃g3 cl:_,A3=OH ⟨g3,0,OJ⟩/\w.heap.size<=g3/\g3<o.heap.size/\o.cell? ⟨g3,j*2,OJ⟩=OH (ae aj (aR bs (EK S j)).t)/\o.cell? ⟨g3,j*2+1,OJ⟩=OH (ae aj cl)):=⟨λj L=>by
  obtain⟨g3,rfl,d,l⟩:=O3.o.form (show 0<S.length by omega);obtain⟨ad,e,J,e1⟩:=RS4.o.vG L;obtain rfl:(⟨g3,0,OJ⟩:Addr)=ad:=Option.some.inj e;rw[bC]at J e1;have hb:=SL.o.at_ L;have hbi:=FB.o.jI _ hb;have e2:nth (dS (S.map (sR (eQ bs i))) j) 0=(aR bs (EK S j)).t:=by
   rw[Hv _ L];show(((cV (eQ bs i) S[j].1).2:Nat):Int)=_;rw[<-xS L,GO hb];show(((aR bs (EK S j)).t.toNat:Nat):Int)=_;omega
  rw[e2]at J;have P:=BE.o.size;have h4:=B3.o.size;have h5:=B4.o.size;exact⟨g3,_,rfl,aq,by have:=block_lt_of_cell J;exact this,J,e1⟩⟩
 have KX:ak (∀j,j<S.length->∃(g4:Nat) (v:Int),nth sh j=v/\A4=OH ⟨g4,0,OJ⟩/\w.heap.size<=g4/\g4<o.heap.size/\o.cell? ⟨g4,j,OJ⟩=OH (ae aj v)):=⟨λj L=>by
  obtain⟨g4,rfl,d,l⟩:=aA.form O4.o (show 0<S.length by omega);have e:=bU O4.o L;have h4:=B3.o.size;exact⟨g4,_,rfl,rfl,aq,l,e⟩⟩
 have OW4:ak (dr o B (OH ⟨g,0,OJ⟩) c ps/\eJ bs (ps.map (·.1))/\ps.map (·.2)=ps.map (·.2)):=⟨OW.o.ar B4.o,by rw[C.o];exact eJ.refl _,rfl⟩;have WD4:ak (IK (bg (ps.map (·.1)) i)=IK (bg bs i+gP (sh.take 0))):=⟨by rw[C.o];show _=IK (bg bs i+0);rw[Int.add_zero]⟩;have ADF:ak (Ea S (N:Int)=if S.length=0 then 0 else(N:Int)):=⟨rfl⟩;generalize Ea S (N:Int)=D at*;have BB4:ak (EI B w o):=⟨B4.o.mono hB⟩;have HBN:ak (B<=w.heap.size/\i<=ps.length/\i<=40):=⟨hB,hl,ht4⟩;clear O3 O4 RS4 B3 hgw;generalize hmm:S.length=m at*;go_wp2;go_loopg[15,16,17,18,49](m+1)(λgg U _ _ _ v49 wr=>∃(j k:Nat) (qs:List BoxM),m-j<gg/\j<=m/\U=ae aj (k:Int)/\v49=ae aj (j:Int)/\ak (dr wr B (OH ⟨g,0,OJ⟩) c qs/\eJ bs (qs.map (·.1))/\qs.map (·.2)=ps.map (·.2))/\ak (IK (bg (qs.map (·.1)) i)=IK (bg bs i+gP (sh.take j)))/\ak (∀q,j<=q->q<m->k<=EK S q)/\ak (KP w.heap.size o wr)/\ak (EI B w wr))
 .exact⟨0,0,ps,aq,aq,rfl,rfl,⟨OW4.o.1,OW4.o.2.1,rfl⟩,WD4,⟨λ_ _ _=>Nat.zero_le _⟩,⟨KP.refl _ _⟩,BB4⟩
 obtain⟨j,k,qs,Z,L,rfl,rfl,OQ,WQ,LK,KK,BQ⟩:=hrel;obtain⟨wo,rfl⟩:=eX wr;by_cases s:j<m;rotate_left
 .have i5:=cI j m
  have DN:ak (∃qs:List BoxM,dr wo B (OH ⟨g,0,OJ⟩) c qs/\eJ (ps.map (·.1)) (qs.map (·.1))/\IK (bg (qs.map (·.1)) i)=IK (bg (ps.map (·.1)) i+D)):=⟨qs,OQ.o.1,by rw[C.o];exact OQ.o.2.1,by
   have hjm:j=sh.length:=by have:=HSH.o.1;omega
   rw[WQ.o,C.o,hjm,List.take_length,ADF.o];split
   .rename_i h0
    have:sh=[]:=List.eq_nil_of_length_eq_zero (by have:=HSH.o.1;omega);rw[this];rfl
   .rename_i h0
    have d:=HSH.o.2 aq;rw[<-d];unfold IK;omega⟩
  go_wp2;obtain⟨a,d,l,P⟩:=DN.o;go_end0;exact⟨rfl,a,d,l,P,BQ.o⟩
 have i5:=aU j m;obtain⟨g3,cl,rfl,Y,n2,J,e1⟩:=KS.o j s
 replace J:=KK.o.cell Y n2 J
 replace e1:=KK.o.cell Y n2 e1
 have hb:=SL.o.at_ (show j<S.length by omega);have hkb:=LK.o j cr s;have HG:ak (m-j<gk/\j<m):=⟨Z,s⟩;have INJ:ak (∀q,q<i->(aR bs q).t=(aR bs (EK S j)).t->q=EK S j):=⟨λq hq e=>FB.o.inj q _ hq hb e⟩;have NXT:ak (∀q,j+1<=q->q<m->EK S j<=EK S q):=⟨λq d l=>Nat.le_of_lt (SL.o.ag5 (show j<q by omega) aq)⟩;have EB:ak (EK S j<i):=⟨hb⟩;generalize hbx:EK S j=bx at*;have⟨tb,Hh⟩:=eY ((aR bs bx).t);rw[Hh]at J INJ;have⟨A,cg⟩:=eX ((wo:EE).alloc (RM #[ae aj tb,ae aj cl] 158));have X2:ak (Bx A wo.heap.size #[ae aj tb,ae aj cl]):=⟨lY⟩;have b2:az wo A:=jT;have O2:ak (dr A B (OH ⟨g,0,OJ⟩) c qs/\eJ bs (qs.map (·.1))/\qs.map (·.2)=ps.map (·.2)):=⟨OQ.o.1.ar b2,OQ.o.2⟩;have K2:ak (KP w.heap.size o A):=⟨KK.o.below b2⟩;have B2:ak (EI B w A):=⟨BQ.o.trans (b2.mono (by have:=BQ.o.size;have:=HBN.o;omega))⟩;have HTB:ak _:=⟨Hh⟩;go_upto_region 12 with fail;go_upto_block 4 with fail;rw[<-cg];clear cg b2 J e1 hbx Hh hb Z s Y n2 LK OQ KK BQ;go_cut[15](λU wx=>U=ae aj (bx:Int)/\ak (az A wx))
 ·
  go_wp2;go_loopg[15](bx+1)(λgg U wr=>∃k:Nat,bx-k<gg/\k<=bx/\U=ae aj (k:Int)/\ak (az A wr))
  .exact⟨k,aq,hkb,rfl,cJ⟩
  obtain⟨k,tC,hk,rfl,X⟩:=hrel;have OR:=O2.o.1.ar X.o;have hlen:=O2.o.2.1.len;rw[<-C.o,List.length_map,List.length_map]at hlen;obtain⟨G,V,c0,M,-⟩:=OR.kV (show k<qs.length by have:=EB.o;have:=HBN.o;omega);have L1:=O2.o.2.1.at_ k;rw[L1.1]at c0;rw[L1.2.1]at M;have ve:=FB.o.jI k De;have x0:wr.cell? ⟨wo.heap.size,0,OJ⟩=OH (ae aj tb):=(X2.o.ar X.o X2.o.lt).cell 0;have IN:=INJ.o k De;have TB:=HTB.o;have k0:=gT k;have k1:(k:Int)<(i:Int):=De;have sN:((aR bs k).f==(aR bs k).t)=OZ:=pW;have FV:((aR bs k).t !=tb)=decide (k≠bx):=by
   by_cases e:k=bx
   .subst e;rw[TB];simp
   .have:¬(aR bs k).t=tb:=λh=>e (IN h)
    simp[e,this]
  have⟨C0,C1,X0⟩:=lc3 c0 M x0;have Mn:ak (bx-k<gk/\k<=bx):=⟨tC,hk⟩;generalize(aR bs k).f=bf at*;generalize(aR bs k).t=bt at*;clear c0 M x0 L1 ve IN TB tC hk OR hlen;by_cases e:k=bx
  .subst e
   have ht3:(bt !=tb)=OZ:=by rw[FV];simp
   clear FV;go_wp2;refine mRl ?_;rintro _ ⟨nq,rfl⟩;have BN:ak (az A nq.1):=⟨X.o.trans (nq.2.mono X.o.size)⟩;go_wp2;go_meet;exact⟨rfl,BN⟩
  .have ht3:(bt !=tb)=OX:=by rw[FV];simpa using e
   clear FV;go_wp2;refine mRl ?_;rintro _ ⟨nq,rfl⟩;have BN:ak (az A nq.1):=⟨X.o.trans (nq.2.mono X.o.size)⟩;go_wp2;have tC:=Mn.o;go_roundg(bx-k)
   .exact⟨k+1,aq,aq,aV,BN⟩
   omega
 obtain⟨rfl,X⟩:=hcut;have hlen:=O2.o.2.1.len;rw[<-C.o,List.length_map,List.length_map]at hlen;have H:bx<qs.length:=by have:=EB.o;have:=HBN.o;omega
 have B3:ak (EI B w wc):=⟨B2.o.trans (X.o.mono (by have:=B2.o.size;have:=HBN.o;omega))⟩;have K3:ak (KP w.heap.size o wc):=⟨K2.o.below X.o⟩;have O3:ak (dr wc B (OH ⟨g,0,OJ⟩) c qs):=⟨O2.o.1.ar X.o⟩;obtain⟨g4,v,hv,rfl,Y,n2,ev⟩:=KX.o j HG.o.2;have HV:ak _:=⟨hv⟩;have ev:=K3.o.cell Y n2 ev;obtain⟨G,V,c0,M,c2,yk,c4',c5,cf,hG,eG⟩:=O3.o.kV H;have cf4:=cf 4 aq;have k0:=gT bx;have k1:(bx:Int)<(i:Int):=De;have j0:=gT j;have j1:(j:Int)<(m:Int):=by have:=HG.o;omega
 obtain⟨eU,Z⟩:=HGW.o De;obtain⟨a,o4,e4,e5⟩:=O3.o.wid H (IK ((aR (qs.map (·.1)) bx).wd+v));have OW5:ak (dr (wc.setCell ⟨g,bx*6+4,OJ⟩ (ae aj (IK ((aR (qs.map (·.1)) bx).wd+v)))) B (OH ⟨g,0,OJ⟩) c a):=⟨o4⟩;have r:ak (eJ bs (a.map (·.1))/\a.length=qs.length/\a.map (·.2)=ps.map (·.2)):=⟨by
  refine⟨?_,by have:=congrArg List.length e4;simpa using this,e5.trans O2.o.2.2⟩;rw[e4];exact O2.o.2.1.trans (NK (by simpa using H) rfl)⟩
 have WD5:ak (IK (bg (a.map (·.1)) i)=IK (bg bs i+gP (sh.take (j+1)))):=⟨by
  rw[e4,qV,HV.o,<-Int.add_assoc];exact Qi (by simpa using H) EB.o rfl WQ.o⟩
 have K5:ak (KP w.heap.size o (wc.setCell ⟨g,bx*6+4,OJ⟩ (ae aj (IK ((aR (qs.map (·.1)) bx).wd+v))))):=⟨K3.o.set eU _⟩;have B5:ak (EI B w (wc.setCell ⟨g,bx*6+4,OJ⟩ (ae aj (IK ((aR (qs.map (·.1)) bx).wd+v))))):=⟨Below.setCell B3.o (p:=⟨g,bx*6+4,OJ⟩) Z _⟩;have HB6:ak (bx<qs.length):=⟨H⟩;generalize(aR (qs.map (·.1)) bx).wd=wd at*;clear hv cf hG eG o4 e4 e5 H hlen Y n2 c0 M c2 yk c5;go_wp2;go_region;have⟨W5,O⟩:=eX ((wc.setCell ⟨g,bx*6+4,OJ⟩ (ae aj (IK (wd+v)))).drew);have O6:ak (dr W5 B (OH ⟨g,0,OJ⟩) c a):=⟨by rw[O];exact OW5.o.ar (bJ (Below.refl _ _))⟩;have K6:ak (KP w.heap.size o W5):=⟨by rw[O];exact K5.o.below (bJ (Below.refl _ _))⟩;have B6:ak (EI B w W5):=⟨by rw[O];exact bJ B5.o⟩;rw[<-O];clear O OW5 K5 B5 ev cf4 c4' O3 K3 B3;have fa:bx<a.length:=by have:=r.o.2.1;have:=HB6.o;omega
 have E:bx<ps.length:=by have:=congrArg List.length r.o.2.2;simp at this;omega
 obtain⟨G,V,-,-,c2,-,-,c5,-,-,eG⟩:=O6.o.kV fa;have eG2:ak (a[bx].2.1=G/\(∀F,G=OH ⟨F,0,OJ⟩->0<(aR (a.map (·.1)) bx).gs.length->F<w.heap.size/\B<=F)):=⟨eG,λF e h0=>by
  have d:(a.map (·.2))[bx]? =(ps.map (·.2))[bx]? :=by rw[r.o.2.2]
  rw[List.getElem?_map,List.getElem?_map,List.getElem?_eq_getElem fa,List.getElem?_eq_getElem E]at d;simp only[Option.map_some,Option.some.injEq]at d;have l:=OW.o.gl _ (List.getElem_mem E);rw[<-d,eG,e]at l;have P:=(r.o.1.at_ bx).2.2;have h4:(aR bs bx).gs.length=ps[bx].1.gs.length:=by rw[<-C.o,jK (by simpa using E)];simp
  obtain⟨g6,e6,h5,h6⟩:=l.form aq;injection e6 with e6
  injection e6 with e6
  subst e6;exact⟨h6,h5⟩⟩
 have mB:ak _:=⟨fa⟩;obtain⟨u,Ls,c5n,eG3⟩:∃u,ak ((aR (a.map (·.1)) bx).gs.length=u)/\W5.cell? ⟨g,bx*6+5,OJ⟩=OH (Pl G u V)/\ak (a[bx].2.1=G/\(∀F,G=OH ⟨F,0,OJ⟩->0<u->F<w.heap.size/\B<=F)):=⟨_,⟨rfl⟩,c5,eG2⟩;clear c5 eG2;obtain⟨lv,c2n⟩:∃lv,W5.cell? ⟨g,bx*6+2,OJ⟩=OH (ae aj lv):=⟨_,c2⟩;clear c2;have CO:ak (∀W,_):=⟨λW=>Gk lv W⟩;have⟨od,hod⟩:=eY (uQ lv);rw[hod]at CO;clear eG hod E;go_wp2_with fail;refine(CO.o _).mono ?_;rintro e _ ⟨rfl,rfl⟩;cases od
 .go_wp2
  have hg9:=HG.o;go_roundg(m-j)
  .exact⟨j+1,bx,a,aq,aq,rfl,aV,⟨O6.o,r.o.1,r.o.2.2⟩,WD5,NXT,K6,B6⟩
  omega
 go_wp2;go_loopg[18,101](u+1)(λgg _ agl wr=>∃n:Nat,u-n<gg/\n<=u/\agl=ae aj (n:Int)/\ak (dr wr B (OH ⟨g,0,OJ⟩) c a)/\ak (KP w.heap.size o wr)/\ak (EI B w wr))
 .exact⟨0,aq,aq,rfl,O6,K6,B6⟩
 obtain⟨n,Ua,hn5,rfl,ON,KN,BN⟩:=hrel;by_cases acQ:n<u;rotate_left
 .have i6:=cI n u
  go_wp2;have hg9:=HG.o;go_roundg(m-j)
  .exact⟨j+1,bx,a,aq,aq,rfl,aV,⟨ON.o,r.o.1,r.o.2.2⟩,WD5,NXT,KN,BN⟩
  omega
 have i6:=aU n u;obtain⟨G',gc',-,-,-,-,-,d5,-,Q,eG'⟩:=ON.o.kV mB.o;obtain rfl:G'=G:=eG'.symm.trans eG3.o.1;rw[Ls.o]at d5 Q;obtain⟨F,rfl,_,_⟩:=Q.form aq;obtain⟨h5,h6⟩:=eG3.o.2 F rfl aq;obtain⟨z,cz,fz⟩:=Q.cell acQ;obtain⟨g4',v',-,I,Y,n2,ev⟩:=KX.o j HG.o.2;injection I with I
 injection I with I
 subst I;have ev:=KN.o.cell Y n2 ev;have O9:ak (dr (wr.setCell ⟨F,n*4+2,OJ⟩ (ae aj (IK (z+v')))) B (OH ⟨g,0,OJ⟩) c a):=⟨ON.o.aeE mB.o eG3.o.1 aq _⟩;have K9:ak (KP w.heap.size o (wr.setCell ⟨F,n*4+2,OJ⟩ (ae aj (IK (z+v'))))):=⟨KN.o.set h5 _⟩;have B9:ak (EI B w (wr.setCell ⟨F,n*4+2,OJ⟩ (ae aj (IK (z+v'))))):=⟨Below.setCell BN.o (p:=⟨F,n*4+2,OJ⟩) h6 _⟩;have n0:=gT n;have HG5:ak (u-n<gk/\n<u/\u<=9223372036854775807):=⟨Ua,acQ,by obtain⟨_,_,_,P⟩:=Q;have:=aA.le P;have:=aA.tE P;omega⟩;clear Y n2 h5 h6 Q eG' Ua;go_wp2;go_region;go_wp2;obtain⟨y1,y2,y3⟩:=HG5.o;go_roundg(u-n)
 .exact⟨n+1,aq,aq,by rw[IntWalk.wrap64_in _ (by omega)];rfl,⟨O9.o.ar (bJ (Below.refl _ _))⟩,⟨K9.o.below (bJ (Below.refl _ _))⟩,⟨bJ B9.o⟩⟩
 omega
def Sq(lv:Int)(w:EE):GK prog 90 #[ae aj lv] w λe a=>e=RE (PF (Am lv))/\az w a:=by
 rw[<-abF];go_enter func90,ntmps90;go_wp2;go_ret;exact⟨aT,Below.refl _ _⟩
structure vq(w wr:EE)(g bx bo:Nat)(G:aB)(m c:Nat)(o:aC)(X:Int):Prop where
 cl:Bx wr w.heap.size #[Pl G m c]
 co:Bx wr bo #[Pl (OH ⟨g,0,OJ⟩) m m]
 cx:Bx wr bx #[ae aj X]
 ow:Own wr (w.heap.size+1) 3 .i64 (OH ⟨g,0,OJ⟩) m m o
 be:az w wr
 h1:g<bo
 h2:bo<bx
def vq.ar{d:EE}{b:Nat}(h:vq w wr g bx b G m c o X)(a:az wr d):vq w d g bx b G m c o X:=
 ⟨h.cl.ar a h.cl.lt,h.co.ar a h.co.lt,h.cx.ar a h.cx.lt,h.ow.ar a,h.be.trans (a.mono h.be.size),h.h1,h.h2⟩
def vq.new{b a e:EE}{x:Int}{o n:IQ}(j:az w b)(f:Bx b w.heap.size #[Pl G m c])(k:b.heap.size=w.heap.size+1)(o1:Own a b.heap.size 3 .i64 (OH ⟨g,0,OJ⟩) m m xs)(i:az b a)(h:e=(a.alloc (RM #[Pl (OH ⟨g,0,OJ⟩) m m] o)).alloc (RM #[ae aj x] n)):vq w e g (a.heap.size+1) a.heap.size G m c xs x:=by
 have l:=i.size;have d:az a e:=aal;refine⟨(f.ar i f.lt).ar d (by have:=f.lt;omega), ?_, ?_, ?_,j.trans ((i.trans (d.mono l)).mono aq),(aA.yp o1).2,aq⟩
 .rw[h]
  exact(Bx.new a _ _).ar (aw _ _) aT
 .rw[h]
  exact Bx.iR _ _ _ aT
 .rw[<-k]
  exact Own.ar o1 d
def vq.set(h:vq w wr g bx a G m c o X)(i:Nat)(y:Int):vq w (wr.setCell ⟨g,i,OJ⟩ (ae aj y)) g bx a G m c (o.set i y) X:=by
 obtain⟨b,d⟩:=aA.yp h.ow;have:=h.h1;have:=h.h2;exact⟨h.cl.fL aq _ _,h.co.fL aq _ _,h.cx.fL aq _ _,Own.sI h.ow i y,Below.setCell h.be (p:=⟨g,i,OJ⟩) (by show w.heap.size<=g;omega) _,h.h1,h.h2⟩
def vq.ahd{d:Nat}(h:vq w wr g bx d G m c o X)(y:Int):vq w (wr.setCell ⟨bx,0,OJ⟩ (ae aj y)) g bx d G m c o y:=by
 obtain⟨f,i⟩:=aA.yp h.ow;have:=h.h1;have:=h.h2;exact⟨h.cl.fL aq _ _,h.co.fL aq _ _,h.cx.jq 0 _,Own.mj h.ow (λe b=>by injection b with b;injection b with b;intro a;injection a with a;injection a with a;omega) _,Below.setCell h.be (p:=⟨bx,0,OJ⟩) (by show w.heap.size<=bx;omega) _,h.h1,h.h2⟩
def JL{f:Nat}{b:Addr}(h:vq w wr g bx f (OH b) m c o X){i:Nat}(hi:i<m){d:Int}(hb:b.block<w.heap.size)(n:w.cell? (bX (b.add (i*10)) 2)=OH (ae aj d)):
 GK prog 241 #[ae aj (i:Int),PK (OH ⟨bx,0,OJ⟩),PK (OH ⟨f,0,OJ⟩),PK (OH ⟨w.heap.size,0,OJ⟩)] wr λe l=>e=RE (P8 #[])/\vq w l g bx f (OH b) m c (o.set i X) (IK (X+d)):=by
 have q:=h.co.cell 0;have x:=h.cx.cell 0;have f1:=aA.frozenAt h.ow i;have s:=bU h.ow (j:=i) hi;have a:=sH (h.set i X);have v:=aU i m;generalize nth o i=z at*;go_enter func241,ntmps241;go_upto_region 1 with fail;have⟨u,k⟩:=eY (wr.setCell ⟨g,i,OJ⟩ (ae aj X));rw[k]at a⊢;have t:=a.o.cl.cell 0;have r:=a.o.cx.cell 0;have y:=(a.o.be.cell Mb).trans n;have f2:=a.o.cx.fz 0;have p:=sH (a.o.ahd (IK (X+d)));go_region;go_end0;exact⟨rfl,p.o.ar (bJ (Below.refl _ _))⟩
def U0{W:EE}{k j b d e a g c i f:Int}(h:W=w.alloc (RM #[ae aj k,ae aj j,ae aj b,ae aj d,ae aj e,ae aj a,ae aj g,ae aj c,ae aj i,ae aj f] t)):W.cell? ⟨w.heap.size,5,OJ⟩=OH (ae aj a):=by
 rw[h,cell_of_row _ _ _ _ _ _ (heap_alloc_new w _)];rfl
def Uw(gs:List aC)(G:aB)(m c a:Nat)(w:EE)(h:JP w w.heap.size gs a m G)(O:m<=100000):GK prog 170 #[Pl G m c] w λe y=>e=RE (ae aj (IK (pR gs a m)))/\az w y:=by
 have R:=sH h;clear h;have⟨L,g⟩:=eY (IK (pR gs a m));have H:=sH g;rw[g];clear g;go_enter func170,ntmps170;go_wp2;go_loopg[3,8](m+1)(λgg v3 I wr=>∃(i:Nat) (X:Int),m-i<gg/\i<=m/\v3=ae aj X/\I=ae aj (i:Int)/\ak (X=IK (pR gs a i))/\ak (az w wr))
 .exact⟨0,0,aq,aq,rfl,rfl,⟨Rj.symm⟩,cJ⟩
 obtain⟨i,X,n,hi,rfl,rfl,o,BE⟩:=hrel;by_cases f:i<m;rotate_left
 .have z:=cI i m
  obtain rfl:i=m:=aq;have k:ak (X=L):=⟨by rw[o.o,H.o]⟩;go_wp2;go_ret;exact⟨by rw[k.o];rfl,BE.o⟩
 have z:=aU i m;obtain⟨M,B,K,l,D,A,q,t,r,u,F,rfl,b,c0,p,J,E,c4,c5,c6,C,c8,x⟩:=(R.o.Z BE.o BE.o.size).bK f;have d:ak (IK (X+l)=IK (pR gs a (i+1))):=⟨by show _=IK (pR gs a i+nth (dS gs (a+i)) 2);rw[b,o.o,ti];rfl⟩;have j:=sH n;clear b n;have⟨v,cg⟩:=eX ((wr:EE).alloc (RM #[ae aj B,ae aj K,ae aj l,ae aj D,ae aj A,ae aj q,ae aj t,ae aj r,ae aj u,ae aj F] 126));obtain⟨N,g2⟩:=zg cg;have s:ak (az w v):=⟨ma⟩;go_upto_region 5 with fail;rw[<-cg];clear cg c0 p J E c4 c5 c6 C c8 x;go_wp2;go_roundg(m-i)
 .exact⟨i+1,_,aq,aq,rfl,aV,d,s⟩
 have:=j.o;omega
def bA(gs:List aC)(a m:Nat):Prop:=∀j,j<m->-1<=nth (dS gs (a+j)) 5/\nth (dS gs (a+j)) 5<=1000000
def Rr(gs:List aC)(G:aB)(m c a:Nat)(lv:Int)(w:EE)(h:JP w w.heap.size gs a m G)(hn:m<=100000)(ha:a<=100000)(ht:bA gs a m):GK prog 171 #[Pl G m c,ae aj (a:Int),ae aj lv] w (POg w m (FT gs a m (Am lv))):=by
 have⟨R,TO⟩:=K' h ht;clear h ht;have zz:ak ((prog.info? 3).map (·.zero)=OH (OH (ae aj 0))):=⟨aF⟩;have OD:=sH (λW=>Sq lv W);have⟨d,I⟩:=eY (Am lv);rw[I]at OD⊢;have HL:ak (∀o,o=(xU gs a m d m).1->xP gs a o m=FT gs a m d):=⟨λo h=>by rw[h];rfl⟩;generalize FT gs a m d=L at*;clear I;have⟨S,aP⟩:=eX (w.alloc (RM #[Pl G m c] 42));have X1:ak (Bx S w.heap.size #[Pl G m c]):=⟨re⟩;have B1:ak (EI w.heap.size w S):=⟨nR⟩;have V:ak (S.heap.size=w.heap.size+1):=⟨oW⟩;go_enter func171,ntmps171;go_upto_region 1 with fail;rw[<-aP];clear aP;have c0:=X1.o.cell 0;go_upto_region 3 with(at_make;refine fe vr zz.o rfl _ _ rfl m rfl rfl rfl rfl aq S.heap.size cr ?_;intro g w1 o1 b1;have O1:=sH o1;have Q:=sH b1;clear o1 b1)
 have⟨W3,r⟩:=eX ((w1.alloc (Obj.cells #[Value.slice (OH ⟨g,0,OJ⟩) m m] 39)).alloc (Obj.cells #[Value.int IntKind.i64 0] 3));have Z:=sH (vq.new B1.o X1.o V.o O1.o Q.o r);rw[<-r];clear r c0 X1 O1;generalize w1.heap.size+1=bx at*;generalize w1.heap.size=u at*;clear Q;have E:=Z.o.cl.cell 0;go_wp2;go_loopg[10,20](m+1)(λgg v10 v20 wr=>∃(k:Nat) (X:Int),m-k<gg/\k<=m/\v20=ae aj (k:Int)/\ak (X=(xU gs a m d k).2)/\ak (vq w wr g bx u G m c (xU gs a m d k).1 X))
 .exact⟨0,0,aq,aq,rfl,⟨rfl⟩,Z⟩
 obtain⟨k,X,hg,hk,rfl,HX,P⟩:=hrel;by_cases n:k<m;rotate_left
 .have i4:=cI k m
  obtain rfl:k=m:=aq;have H:ak (vq w wr g bx u G k c (xP gs a (xU gs a k d k).1 0) X):=P;have HL2:ak (xP gs a (xU gs a k d k).1 k=L):=⟨HL.o _ rfl⟩;generalize(xU gs a k d k).1=o at*;have J:=H.o.cl.cell 0;clear HX P HL Z E;go_wp2;go_loopg[11,12,13,38](k+1)(λgg _ _ _ T wr=>∃(i:Nat),k-i<gg/\i<=k/\T=ae aj (i:Int)/\ak (vq w wr g bx u G k c (xP gs a o i) X))
  .exact⟨0,aq,aq,rfl,H⟩
  obtain⟨i,D,hi,rfl,x⟩:=hrel;have Eh:=x.o.be.size;by_cases n:i<k;rotate_left
  .have i4:=cI i k
   obtain rfl:i=k:=aq;have l:ak (vq w wr g bx u G i c L X):=⟨by rw[<-HL2.o];exact x.o⟩;have O:=l.o.co.cell 0;go_wp2;go_ret;exact⟨_,i,rfl,l.o.ow.gW aq,l.o.be⟩
  have i4:=aU i k;obtain⟨F,x0,x1,v,x3,x4,f,x6,x7,x8,x9,eG,p,c0,E,J,O,c4,c5,c6,c7,c8,c9⟩:=(R.o.Z x.o.be Eh).bK n;subst eG;have s:nth (dS gs (a+i)) 5=f:=by rw[p];rfl
  have q:ak (xP gs a o (i+1)=if(a:Int)<=f/\f<(a:Int)+i then(xP gs a o i).set i (nth (xP gs a o i) (f-a).toNat)else xP gs a o i):=⟨by rw[xP,s]⟩;have b:=sH D;obtain⟨l1,l2⟩:=TO.o i n;rw[s]at l1 l2;clear s D p;have⟨W2,cg⟩:=eX ((wr:EE).alloc (RM #[ae aj x0,ae aj x1,ae aj v,ae aj x3,ae aj x4,ae aj f,ae aj x6,ae aj x7,ae aj x8,ae aj x9] 126));have g5:=U0 cg;have Q:ak (EI wr.heap.size wr W2):=⟨jT⟩;have l:=sH (x.o.ar Q.o);go_upto_region 14 with fail;rw[<-cg];clear cg c0 E J O c4 c5 c6 c7 c8 c9;by_cases B:(a:Int)<=f/\f<(a:Int)+i
  .obtain⟨h,hh⟩:∃h:Nat,f-(a:Int)=h:=⟨(f-a).toNat,aq⟩
   have vx:h<i:=aq;rw[if_pos B,hh,Int.toNat_natCast]at q;have d0:(f== -1)=OZ:=pW;have d1:decide (0<=(h:Int))=OX:=aT;have ah7:=aU h i;have e3:=bU l.o.ow (j:=h) aq;have f1:=aA.frozenAt l.o.ow i;have e4:=bU l.o.ow (j:=i) n;have O:=l.o.co.cell 0;have hhk:=aU h k;have A:=sH (l.o.set i (nth (xP gs a o i) h));rw[<-q.o]at A;generalize nth (xP gs a o i) h=y at*;generalize nth (xP gs a o i) i=z at*;clear B q;go_upto_region 16 with fail;go_region;have S9:=sH (A.o.ar (bJ (Below.refl _ _)));go_wp2;go_roundg(k-i)
   .exact⟨i+1,aq,aq,aV,S9⟩
   have:=b.o;omega
  .rw[if_neg B]at q
   have A:ak (vq w W2 g bx u (OH F) k c (xP gs a o (i+1)) X):=⟨by rw[q.o];exact l.o⟩;have⟨h,hh⟩:=eY (f-(a:Int));have hhr: -1000000<=h/\h<=1000000:=aq;clear q;cases d0:(f== -1)
   .by_cases d1:0<=h
    .have d2:decide (0<=h)=OX:=Je
     have d3:¬h<(i:Int):=aq;clear B;go_wp2;go_roundg(k-i)
     .exact⟨i+1,aq,aq,aV,A⟩
     have:=b.o;omega
    .have d2:decide (0<=h)=OZ:=ji
     have d3:h<0:=aq;have d4:¬h<(i:Int)∨True:=.inr trivial;clear B d1 d4;go_wp2_with fail
     all_goals(have hgm:=b.o;go_roundg(k-i)<;>first|omega|exact⟨i+1,aq,aq,aV,A⟩)
   .have Ja:f= -1:=by simpa using d0
    have d2:decide (0<=h)=OZ:=ji;have d3:h<0:=aq;clear B Ja;go_wp2_with fail
    all_goals(have hgm:=b.o;go_roundg(k-i)<;>first|omega|exact⟨i+1,aq,aq,aV,A⟩)
 have i4:=aU k m;have⟨i,hi⟩:=eY (if d=OX then m-1-k else k);have t:i<m:=by rw[<-hi];exact ab' (a:=0) (gs:=[]) n
 obtain⟨F,x0,x1,v,x3,x4,f,x6,x7,x8,x9,eG,p,c0,E,J,_⟩:=R.o.bK t;obtain⟨jo,M,ja,_⟩:=R.o.2 i t;subst eG;obtain rfl:F=jo:=by injection M
 have C:nth (dS gs (a+i)) 2=v:=by rw[p];rfl
 have q:ak (xU gs a m d (k+1)=((xU gs a m d k).1.set i X,IK (X+v))):=⟨by rw[xU,hi,C,HX.o]⟩;have b:=sH hg;clear c0 E p C hg M;go_wp2_with fail;refine(OD.o _).mono ?_;rintro e w2 ⟨rfl,b2⟩;have H:=sH (P.o.ar b2);have PS:=sH (JL H.o t ja J);have O:=H.o.cl.cell 0;have x:ak (∀Y,vq w Y g bx u (OH F) m c ((xU gs a m d k).1.set i X) (IK (X+v))->vq w Y g bx u (OH F) m c (xU gs a m d (k+1)).1 (IK (X+v))):=⟨λY h=>by rw[q.o];exact h⟩;have N:ak (IK (X+v)=(xU gs a m d (k+1)).2):=⟨by rw[q.o]⟩;clear P b2 J;cases d
 .obtain rfl:k=i:=by simpa using hi
  go_wp2_with fail;go_at_call 241;refine PS.o.mono ?_;rintro e w3 ⟨rfl,K⟩;have l:=sH (x.o _ K);clear K;go_wp2;go_roundg(m-k)
  .exact⟨k+1,_,aq,aq,aV,N,l⟩
  have:=b.o;omega
 .have U:m-1-k=i:=by simpa using hi
  have Zv:(m:Int)-1-(k:Int)=(i:Int):=aq;clear hi U;go_wp2_with fail;go_at_call 241;refine PS.o.mono ?_;rintro e w3 ⟨rfl,K⟩;have l:=sH (x.o _ K);clear K;go_wp2;go_roundg(m-k)
  .exact⟨k+1,_,aq,aq,aV,N,l⟩
  have:=b.o;omega
def ae4(s:KR:=by
 rcases hb with rfl|rfl|⟨h3,h4⟩
 .go_wp2
  (go_roundg(n-j)<;>first|omega|exact⟨j+1,aq,aq,aV,O,BE⟩|exact⟨j+1,aq,aq,aV,⟨O2.o _⟩,⟨B2.o _⟩⟩)
 .go_wp2
  (go_roundg(n-j)<;>first|omega|exact⟨j+1,aq,aq,aV,O,BE⟩|exact⟨j+1,aq,aq,aV,⟨O2.o _⟩,⟨B2.o _⟩⟩)
 have h3:(b==5)=OZ:=Gi;have h4:(b==8)=OZ:=Jn;go_wp2
 (go_roundg(n-j)<;>first|omega|exact⟨j+1,aq,aq,aV,O,BE⟩|exact⟨j+1,aq,aq,aV,⟨O2.o _⟩,⟨B2.o _⟩⟩)):KR:=s
def ag'(C:aB)(n d:Nat)(w:EE)(k:Iw w w.heap.size .i64 aK C n)(G:n<=10000):GK prog 151 #[Pl C n d] w (Nw w 3 .i64 aK n):=by
 have K:=sH k;go_enter func151,ntmps151;go_wp2_with fail;refine(tX C n d w K.o G).mono ?_;rintro e M ⟨A,c,rfl,o1,r⟩;have⟨O,t⟩:=K' o1 r;go_wp2;go_loopg[4](n+1)(λgg v4 wr=>∃(j:Nat),n-j<gg/\j<=n/\v4=ae aj ((j:Int)+1)/\ak (Ow wr w.heap.size 3 .i64 aK A n c)/\ak (az w wr))
 .exact⟨0,aq,aq,rfl,O,t⟩
 obtain⟨j,L,hi,rfl,O,BE⟩:=hrel;by_cases z:j+2<n;rotate_left
 .have x:¬(j:Int)+1+1<(n:Int):=by omega
  go_wp2;go_ret;exact⟨_,_,rfl,O.o,BE.o⟩
 have x:(j:Int)+1+1<(n:Int):=aq;obtain⟨g,rfl,l,F⟩:=O.o.form aq;obtain⟨a,_,o⟩:=O.o.get (show j<n by omega);obtain⟨b,_,H⟩:=O.o.get (show j+1<n by omega);obtain⟨e,_,s⟩:=O.o.get (show j+1+1<n by omega);have wk:IK (j:Int)=(j:Int):=IntWalk.wrap64_in _ aq;have k0:=gT j;have N:=aU j n;have J:(j:Int)+1<(n:Int):=aq;go_upto_region 5 with fail;go_cut[24](λv E=>(∃b:Bool,v=PF b)/\ak (az wr E))
 case first=>
  have⟨L0,L1⟩:=lc2 o s;by_cases f:a=e
  .subst f
   refine aE (λ_=>OJ) aF aF ?_;refine mSk ?_
   first
    |(intro (m:aI _);obtain⟨i,h⟩:=m)
    |(rintro i ⟨⟨_,h⟩,rfl⟩)
   try dsimp only
   go_wp2;go_meet;exact⟨⟨_,rfl⟩,⟨h⟩⟩
  have f:(a !=e)=OX:=by simpa using f
  refine aE (λ_=>OJ) aF aF ?_;refine mSk ?_
  first
   |(intro (m:aI _);obtain⟨i,h⟩:=m)
   |(rintro i ⟨⟨_,h⟩,rfl⟩)
  try dsimp only
  go_wp2;go_meet;exact⟨⟨_,rfl⟩,⟨h⟩⟩
 case rest=>
 obtain⟨⟨D,rfl⟩,q⟩:=hcut;have I:=sH (O.o.ar q.o);have B:=BE.t q.o
 rename EE=>wr
 have O:=I;have BE:ak (az w wr):=B;cases D;rotate_left
 .go_wp2
  (go_roundg(n-j)<;>first|omega|exact⟨j+1,aq,aq,aV,O,BE⟩|exact⟨j+1,aq,aq,aV,⟨O2.o _⟩,⟨B2.o _⟩⟩)
 obtain⟨a,_,o⟩:=O.o.get (show j<n by omega);obtain⟨b,_,H⟩:=O.o.get (show j+1<n by omega);have f1:=O.o.fz (j+1);have O2:ak (∀y:Int,Ow (wr.setCell ⟨g,j+1,OJ⟩ (ae aj y)) w.heap.size 3 .i64 aK (OH ⟨g,0,OJ⟩) n c):=⟨λy=>O.o.set (j+1) trivial⟩;have B2:ak (∀y:Int,az w (wr.setCell ⟨g,j+1,OJ⟩ (ae aj y))):=⟨λy=>Below.setCell BE.o (p:=⟨g,j+1,OJ⟩) l _⟩;have u:a=4∨a=7∨(a≠4/\a≠7):=aq;have hb:b=5∨b=8∨(b≠5/\b≠8):=aq;rcases u with rfl|rfl|⟨h1,h2⟩
 .exact ae4
 .exact ae4
 have h1:(a==4)=OZ:=Gf;have h2:(a==7)=OZ:=vN;go_wp2
 (go_roundg(n-j)<;>first|omega|exact⟨j+1,aq,aq,aV,O,BE⟩|exact⟨j+1,aq,aq,aV,⟨O2.o _⟩,⟨B2.o _⟩⟩)
def afJ(s:KR:=by
 go_wp2
 (go_roundg(n-i)<;>first|omega|exact⟨i+1,aq,aq,aV,O,BE⟩|exact⟨i+1,aq,aq,aV,⟨O2.o _⟩,⟨B2.o _⟩⟩)):KR:=s
def agW(C:aB)(n d:Nat)(w:EE)(k:Iw w w.heap.size .i64 aK C n)(S:n<=10000):GK prog 150 #[Pl C n d] w (Nw w 3 .i64 aK n):=by
 have K:=sH k;go_enter func150,ntmps150;go_wp2_with fail;refine(tX C n d w K.o S).mono ?_;rintro e U ⟨A,c,rfl,o1,I⟩;have⟨O,J⟩:=K' o1 I;go_wp2;go_loopg[4,5,6](n+1)(λgg v4 _ _ wr=>∃(i:Nat),n-i<gg/\i<=n/\v4=ae aj (i:Int)/\ak (Ow wr w.heap.size 3 .i64 aK A n c)/\ak (az w wr))
 .exact⟨0,aq,aq,rfl,O,J⟩
 obtain⟨i,T,hi,rfl,O,BE⟩:=hrel;by_cases r:i<n;rotate_left
 .have M:=cI i n
  go_wp2;go_ret;exact⟨_,_,rfl,O.o,BE.o⟩
 have M:=aU i n;obtain⟨g,rfl,F,P⟩:=O.o.form aq;obtain⟨u,_,u0⟩:=O.o.get r;have f0:=O.o.fz i;have q:=sH (K.o.Z BE.o BE.o.size);obtain⟨adc,x,rfl,_,V⟩:=q.o.get r;have O2:ak (∀y:Int,Ow (wr.setCell ⟨g,i,OJ⟩ (ae aj y)) w.heap.size 3 .i64 aK (OH ⟨g,0,OJ⟩) n c):=⟨λy=>O.o.set i trivial⟩;have B2:ak (∀y:Int,az w (wr.setCell ⟨g,i,OJ⟩ (ae aj y))):=⟨λy=>Below.setCell BE.o (p:=⟨g,i,OJ⟩) F _⟩;by_cases s:(x==6)=OX;rotate_left
 .have s:(x !=6)=OX:=by simpa using s
  go_wp2
  (go_roundg(n-i)<;>first|omega|exact⟨i+1,aq,aq,aV,O,BE⟩|exact⟨i+1,aq,aq,aV,⟨O2.o _⟩,⟨B2.o _⟩⟩)
 have s:(x !=6)=OZ:=by simpa using s
 go_upto_block 2 with fail;go_cut[5](λv h=>(∃k:Nat,v=ae aj ((k:Int)-1)/\k<=i+1)/\wr=h)
 case first=>
  go_wp2;go_loopg[5](i+2)(λgg v h=>∃k:Nat,k<gg/\v=ae aj ((k:Int)-1)/\k<=i+1/\h=wr)
  .exact⟨i+1,aq,aT,aq,rfl⟩
  obtain⟨k,D,rfl,N,rfl⟩:=hrel;rcases k with _|k
  .go_wp2
   go_meet;exact⟨⟨0,aT,aq⟩,rfl⟩
  have t:(((k+1:Nat):Int)-1)=(k:Int):=aq;rw[t];obtain⟨_,y,f,_,G⟩:=q.o.get (show k<n by omega);injection f with f
  subst f;have E:=aU k n;by_cases j:(y==6)=OX
  .go_wp2
   go_roundg(k+1)
   .exact⟨k,aq,lZ,aq,rfl⟩
   omega
  have j:(y==6)=OZ:=by simpa using j
  go_wp2;go_meet;exact⟨⟨k+1,aT,aq⟩,rfl⟩
 case rest=>
 obtain⟨⟨m,rfl,L⟩,rfl⟩:=hcut;go_upto_block 4 with fail;go_cut[6](λv h=>(∃k:Nat,v=ae aj (k:Int)/\k<=n)/\wr=h)
 case first=>
  go_wp2;go_loopg[6](n+1)(λgg v h=>∃k:Nat,n-k<gg/\v=ae aj (k:Int)/\k<=n/\h=wr)
  .exact⟨i,aq,rfl,aq,rfl⟩
  obtain⟨k,D,rfl,N,rfl⟩:=hrel;by_cases a:k<n;rotate_left
  .have E:=cI k n
   go_wp2;go_meet;exact⟨⟨k,rfl,aq⟩,rfl⟩
  obtain⟨_,y,f,_,G⟩:=q.o.get a;injection f with f
  subst f;have E:=aU k n;by_cases j:(y==6)=OX
  .go_wp2
   go_roundg(n-k)
   .exact⟨k+1,aq,aV,aq,rfl⟩
   omega
  have j:(y==6)=OZ:=by simpa using j
  go_wp2;go_meet;exact⟨⟨k,rfl,aq⟩,rfl⟩
 case rest=>
 obtain⟨⟨o,rfl,R⟩,rfl⟩:=hcut;go_upto_region 11 with fail;go_cut[5,67](λQ v h=>(∃z:Int,Q=ae aj z)/\(∃b:Bool,v=PF b)/\wr=h)
 case first=>
  rcases m with _|m
  .by_cases a:o<n
   rotate_left
   .have B:=cI o n
    go_wp2;go_meet;exact⟨⟨_,rfl⟩,⟨_,rfl⟩,rfl⟩
   obtain⟨_,z,l,_,H⟩:=q.o.get a;injection l with l
   subst l;have B:=aU o n;go_wp2;go_meet;exact⟨⟨_,rfl⟩,⟨_,rfl⟩,rfl⟩
  have t:(((m+1:Nat):Int)-1)=(m:Int):=aq;rw[t];obtain⟨_,y,f,_,G⟩:=q.o.get (show m<n by omega);injection f with f
  subst f;have E:=aU m n;by_cases j:(y==4)=OX
  .go_wp2
   go_meet;exact⟨⟨_,rfl⟩,⟨_,rfl⟩,rfl⟩
  have j:(y==4)=OZ:=by simpa using j
  by_cases a:o<n;rotate_left
  .have B:=cI o n
   go_wp2;go_meet;exact⟨⟨_,rfl⟩,⟨_,rfl⟩,rfl⟩
  obtain⟨_,z,l,_,H⟩:=q.o.get a;injection l with l
  subst l;have B:=aU o n;go_wp2;go_meet;exact⟨⟨_,rfl⟩,⟨_,rfl⟩,rfl⟩
 case rest=>
 obtain⟨⟨_,rfl⟩,⟨b,rfl⟩,rfl⟩:=hcut;cases b
 .exact afJ
 .exact afJ
def abh(C:aB)(n d:Nat)(a:Int)(w:EE)(k:Iw w w.heap.size .i64 aK C n)(j:n<=4000):GK prog 79 #[Pl C n d,ae aj a] w (Nw w 3 .i64 aK n):=by
 have K:=sH k;go_enter func79,ntmps79;go_wp2_with fail;refine(agn C n d a w K.o aq).mono ?_;rintro e H ⟨c,b,rfl,o1,u⟩;have⟨O1,D⟩:=K' o1 u;obtain⟨i,v,_⟩:=o1;have y:=sH (aa8 w.heap.size c n b i H v j);go_wp2_with fail;refine y.o.mono ?_;rintro e Y ⟨f,rfl,Q,b2⟩;have⟨P,t⟩:=K' (aaK w.heap.size c n b f Y Q j) (D.o.trans b2);go_wp2_with fail;refine P.o.mono ?_;rintro e r ⟨z,rfl,S,L⟩;have T:ak (Ow r w.heap.size 3 .i64 aK c n b):=⟨⟨_,S,λ_ _=>trivial⟩⟩;have s:=sH (t.o.trans L);go_wp2_with fail;refine(ag' c n b r T.o.iw aq).mono ?_;rintro e p ⟨O,c4,rfl,A,G⟩;have x:=sH A;have q:=s.t G;go_wp2_with fail;refine(agW O n c4 p x.o.iw aq).mono ?_;rintro e W ⟨g,c5,rfl,B,N⟩;have J:=q.t N;have l:=q.o.size;obtain⟨h,F,_⟩:=B.cS (show w.heap.size<=p.heap.size from l);have X:=sH (abN w.heap.size g n c5 h W F j);go_wp2_with fail;refine X.o.mono ?_;rintro e o ⟨xs6,rfl,E,I⟩;have U:ak (Ow o w.heap.size 3 .i64 aK g n c5):=⟨⟨_,E,λ_ _=>trivial⟩⟩;have m:=sH (J.o.trans I);go_wp2_with fail;refine(agK g n c5 w.heap.size a o U.o m.o.size aq).mono ?_;rintro e w7 ⟨rfl,M,R⟩;have⟨Z,V⟩:=K' M (m.o.trans R);go_wp2;go_ret;exact⟨_,_,rfl,Z.o,V.o⟩
structure GQ(bb:Nat)(w2 W:EE)(x0 x1 x2 x4:Int)(rs:List gF)(G:aB)(gc:Nat)(A:aB)(L:aC):Prop where
 bx:Bx W bb #[ae aj x0,ae aj x1,ae aj x2,ae aj 0,ae aj x4,Pl G rs.length gc]
 own:aA W w2.heap.size 107 4 G rs.length gc (rs.flatMap kx)
 be:EI bb w2 W
 lt:bb<w2.heap.size
 at_:∀j,j<L.length->∃ga,A=OH ⟨ga,0,OJ⟩/\ga<w2.heap.size/\ga≠bb/\W.cell? ⟨ga,j,OJ⟩=OH (ae aj (nth L j))
def vE{a:EE}(h:a.heap[p.block]? =w.heap[p.block]?):a.cell? p=w.cell? p:=by
 unfold World.cell?;rw[h]
def Bx.kV{b:Nat}{x0 x1 x2 c x4 a:EN}(h:Bx w b #[x0,x1,x2,c,x4,a]):w.cell? ⟨b,0,OJ⟩=OH x0/\w.cell? ⟨b,1,OJ⟩=OH x1/\w.cell? ⟨b,2,OJ⟩=OH x2/\w.cell? ⟨b,3,OJ⟩=OH c/\w.cell? ⟨b,4,OJ⟩=OH x4/\w.cell? ⟨b,5,OJ⟩=OH a:=⟨h.cell 0,h.cell 1,h.cell 2,h.cell 3,h.cell 4,h.cell 5⟩
section
variable{bb:Nat}{w2 W W':EE}{x0 x1 x2 x4:Int}{rs:List gF}{G:aB}{gc:Nat}{A:aB}{L:aC}
def GQ.new{a:EE}(h:Bx a bb #[ae aj x0,ae aj x1,ae aj x2,ae aj 0,ae aj x4,Pl OJ 0 0])(e:az a w2)(b:Own w2 a.heap.size 3 .i64 A m c L):GQ bb w2 w2 x0 x1 x2 x4 [] OJ 0 A L:=by
 have g:=h.lt;have i:L.length=m:=b.len;refine⟨h.ar e g,aA.nil _ _ _ _,Below.refl _ _,by have:=e.size;omega,λj k=> ?_⟩;obtain⟨f,rfl,l,d⟩:=aA.form b aq;exact⟨f,rfl,d,aq,bU b aq⟩
def GQ.ar(h:GQ bb w2 W x0 x1 x2 x4 rs G gc A L)(a:az W W'):GQ bb w2 W' x0 x1 x2 x4 rs G gc A L:=by
 have k:=h.be.size;have i:=h.lt;refine⟨h.bx.ar a h.bx.lt,aA.ar h.own a,h.be.trans (a.mono aq),i,λj g=> ?_⟩;obtain⟨b,e,d,f,c⟩:=h.at_ j g;exact⟨b,e,d,f,(a.cell (by show b<_;omega)).trans c⟩
def GQ.push{r i:EE}{p:gF}{a:aB}{b:Nat}(h:GQ bb w2 W x0 x1 x2 x4 rs G gc A L)(t:az W r)(o:aA i w2.heap.size 107 4 a (rs.length+1) b (rs.flatMap kx++kx p))(f:EI w2.heap.size r i):GQ bb w2 (i.setCell ⟨bb,5,OJ⟩ (Pl a (rs.length+1) b)) x0 x1 x2 x4 (rs++[p]) a b A L:=by
 have k:=h.ar t;have n:=h.lt;have bx:=(k.bx.ar f n).jq 5 (Pl a (rs.length+1) b);have q:(rs++[p]).length=rs.length+1:=aT;refine⟨by rw[q];exact bx, ?_,Below.setCell (k.be.trans (f.mono aq)) (p:=⟨bb,5,OJ⟩) cr _,n,λj s=> ?_⟩
 .rw[q,List.flatMap_append,show [p].flatMap kx=kx p by simp]
  refine aA.mj o (λg e=> ?_) _;have c:=o;rw[e]at c;have:=(aA.yp c).1;intro d;injection d with d
  injection d with d
  omega
 .obtain⟨l,e,u,m,c⟩:=k.at_ j s
  exact⟨l,e,u,m,(vE (Below.heap_setCell _ _ _ _ m)).trans ((f.cell (by show l<_;omega)).trans c)⟩
end
def PGb(w:EE)(g:bj)(e:IS)(a:EE):Prop:=∃(G:aB) (gc:Nat),e=RE (.agg #[ae aj g.f,ae aj g.t,ae aj g.lv,ae aj g.x,ae aj g.wd,Pl G g.gs.length gc])/\iF a w.heap.size G gc g.gs/\az w a
def xr(b:Int)(gs:List aC)(a m:Nat)(c:Bool)(k:Nat):List gF:=(List.range k).map (gm b gs a m c)
def Jw(b:Int)(gs:List aC)(a m:Nat)(c:Bool)(k:Nat):(xr b gs a m c k).length=k:=by simp[xr]
def Fc(b:Int)(gs:List aC)(a m:Nat)(c:Bool)(k:Nat):xr b gs a m c (k+1)=xr b gs a m c k++[gm b gs a m c k]:=by simp[xr,List.range_succ]
def Rs(gs:List aC)(a m:Nat)(b:Bool):(FT gs a m b).length=m:=by unfold FT;rw[Hj,Hi]
