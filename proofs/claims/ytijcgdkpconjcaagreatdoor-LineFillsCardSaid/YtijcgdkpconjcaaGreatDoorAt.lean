/- Part of LineFills. -/
import Derived.Test.YtijcgdkpconjcaaGreatDoorAs
import Derived.Test.YtijcgdkpconjcaaGreatDoorAq
namespace Go.Proofs.YtijcgdkpconjcaaGreatDoor
open Go.ChangeShapes Go.WideShapes Go.ChangeAt Go.RowKit Go.Proofs.Tryz
open Go renaming World->EE,Value->EN,Calls->GK,TypeId->IQ,Ending->IS
open Go.RowKit renaming Below->EI,wrap64->IK
open Option renaming some->OH,none->OJ
open Bool renaming true->OX,false->OZ
open Go.Value renaming slice->Pl,bool->PF,pointer->PK,agg->Q4
open Go.Obj renaming cells->RM
open Go.Value renaming int->ae
open Go.IntKind renaming i64->aj
set_option linter.all false
set_option maxRecDepth 100000
set_option maxHeartbeats 16000000
variable{w:EE}{s:cM}{p:jz}{Bg W ts:aC}{xs:List fv}{A R:aB}{B b c g i k m n:Nat}{a x:Int}{ps:List fX}{L bs:List bj}{cs:Array EN}{t:IQ}{q:fX}
structure XI(w:EE)(s:cM)(p:jz)(ts:aC)(l:List (Int×Int))(xs:List fv)(A:aB)(m c:Nat)(rs:List aC)(R:aB)(rm:Nat):Prop where
 tx:aJ .i32 w p.T p.tn p.tc ts
 tn:p.tn<=100000
 px:ta w w.heap.size xs 0 m A
 mc:m<=c
 ml:m<=900
 xl:xs.length=m
 rx:Rx w w.heap.size 6 rs R rm
 ql:∀j,j<m->Ws w p.T p.tn p.tc ts (jX xs j)
 rn:∀j,j<m->(jX xs j).q.run<rm
 tb:UB w w.heap.size l p.B
 tl:l.length=p.bn
 bl:p.bn<=1000
 sd:El (qs xs)
def XI.gs{l:List (Int×Int)}{a:List aC}(h:XI w s p ts l xs A m c a R b):hF xs:=λi hi=>(h.ql i (by rw[<-h.xl];exact hi)).gl
def Z'(a:List aC):List (Int×Int):=a.map λr=>(nth r 2,nth r 4)
def xZ(s:cM)(ts:aC)(l:List (Int×Int))(a:List aC)(xs:List fv)(m i:Nat):List bj×Nat:=eE ts (Z' a) (iJ (gQ ts (qs xs) m)) (ee l s.ev (iJ (gQ ts (qs xs) m)) (oU (gQ ts (qs xs) m)) (gQ ts (qs xs) m).length).1 (qs xs) i
def zS{ts:aC}{ps:List fX}{n:Nat}:∀m a,∀x∈fP ts ps n m a,-9223372036854775808<=x.1/\x.1<=9223372036854775807
 |0,a,x,h=>by simp[fP]at h
 |m+1,a,x,h=>by
  unfold fP at h;split at h
  .rcases List.mem_cons.1 h with rfl|h
   .show _<=IK _/\IK _<=_;unfold IK;omega
   .exact zS m _ x h
  .obtain rfl:=List.mem_singleton.1 h
   show _<=IK _/\IK _<=_;unfold IK;omega
def Ve(h:i<(gQ ts ps k).length): -9223372036854775808<=nth (iJ (gQ ts ps k)) i/\nth (iJ (gQ ts ps k)) i<=9223372036854775807:=by
 have e:nth (iJ (gQ ts ps k)) i=(gQ ts ps k)[i].1:=by simp[iJ,nth,h]
 rw[e];exact zS _ _ _ (List.getElem_mem h)
def rZ(ts:aC)(q:fX)(lv fo:Int)(a:List (Nat×Nat)):∀i,(gH ts q lv fo a i).length<=2*i
 |0=>Nat.le_refl _
 |i+1=>by
  have:=rZ ts q lv fo a i;have b:(mL ts q lv fo a i).length<=2:=by
   unfold mL;simp only[List.length_cons];split<;>simp
  show(gH ts q lv fo a i++mL ts q lv fo a i).length<=_;rw[List.length_append];omega
def tH(ts:aC)(q:fX)(lv fo:Int):(fu ts q lv fo).length<=2*q.gs.length+1:=by
 have b:=rZ ts q lv fo (dI (aM q.gs) q.gs.length) (dI (aM q.gs) q.gs.length).length;have c:(dI (aM q.gs) q.gs.length).length<=q.gs.length:=Tz;have a:(mE q lv).length<=1:=by
  unfold mE;split
  .simp
  .split<;>simp
 unfold fu;rw[List.length_append];omega
def nm{rn:List (Int×Int)}(h:(cW ps i).iX=OX):eE ts rn W Bg ps (i+1)=((eE ts rn W Bg ps i).1++[⟨(cW ps i).f,(cW ps i).t,(rn.getD (cW ps i).run (0,0)).1,0,if(eE ts rn W Bg ps i).2+1<Bg.length then IK (IK (nth Bg ((eE ts rn W Bg ps i).2+1)-nth Bg (eE ts rn W Bg ps i).2)-nth W (eE ts rn W Bg ps i).2)else 0,[]⟩],(eE ts rn W Bg ps i).2+1):=by
 rw[eE];exact if_pos h
def pN{rn:List (Int×Int)}(h:(cW ps i).iX=OZ):eE ts rn W Bg ps (i+1)=((eE ts rn W Bg ps i).1++fu ts (cW ps i) (rn.getD (cW ps i).run (0,0)).1 (rn.getD (cW ps i).run (0,0)).2,(eE ts rn W Bg ps i).2):=by
 rw[eE];exact if_neg (by simp[h])
def BP{ts:aC}{rn:List (Int×Int)}{W Bg:aC}{ps:List fX}{g:Nat}(a:∀i,(cW ps i).gs.length<=g):∀i,(eE ts rn W Bg ps i).1.length<=i*(2*g+1)
 |0=>by simp[eE]
 |i+1=>by
  have ih:=BP (ts:=ts) (rn:=rn) (W:=W) (Bg:=Bg) a i;have d:(i+1)*(2*g+1)=i*(2*g+1)+(2*g+1):=by rw[Nat.add_mul,Nat.one_mul]
  cases h:(cW ps i).iX
  .rw[pN h]
   have b:=tH ts (cW ps i) (rn.getD (cW ps i).run (0,0)).1 (rn.getD (cW ps i).run (0,0)).2;have c:=a i;simp only[List.length_append];omega
  .rw[nm h]
   simp only[List.length_append,List.length_singleton];omega
def abc{a:List aC}(h:Rx w B 6 a R n){j:Nat}(o:j<n):∃(b:Addr) (y:Rn),R=OH b/\b.block<B/\(Z' a).getD j (0,0)=(y.lv,y.fo)/\∀q u,y.row[q]? =OH u->w.cell? ((b.add (j*6)).add q)=OH u:=by
 obtain⟨b,e,t,_,v⟩:=h.at_ o;obtain⟨m,p,x,_⟩:=h.2.2 aq;obtain rfl:b=m:=by rw[e]at p;injection p
 have z:j<a.length:=by rw[h.1];exact o
 obtain⟨l,g,f,d,k,c,r⟩:∃l g f d k c:Int,dS a j=[l,g,f,d,k,c]:=by
  match dS a j,t with
  |[l,g,f,d,k,c],_=>exact⟨l,g,f,d,k,c,rfl⟩
 refine⟨b,⟨l,g,f,d,k,c⟩,e,x, ?_,λq u s=> ?_⟩
 .have:(Z' a).getD j (0,0)=(nth (dS a j) 2,nth (dS a j) 4):=by simp[Z',dS,z]
  rw[this,r];rfl
 .have i:q<6:=(Array.getElem?_eq_some_iff.1 s).1
  rw[v q i,r,<-s]
  match q,i with
  |0,_=>rfl
  |1,_=>rfl
  |2,_=>rfl
  |3,_=>rfl
  |4,_=>rfl
  |5,_=>rfl
def Mg(n:Nat)(b:bj):Prop:=0<=b.f/\0<=b.t/\b.t<=n/\b.gs.length<=100000
def acb{T:aB}{e:Nat}{x:fv}(h:Ws w T e c ts x)(lv fo:Int):∀b∈fu ts x.q lv fo,Mg e b:=by
 intro b d;have g:=h.tl;rcases List.mem_append.1 d with d|d
 .unfold mE at d
  split at d
  .obtain rfl:=List.mem_singleton.1 d
   exact⟨by show(0:Int)<=(x.q.f:Int);omega,by show(0:Int)<=(x.q.t:Int);omega,by show(x.q.t:Int)<=_;omega,Nat.zero_le _⟩
  .split at d
   .obtain rfl:=List.mem_singleton.1 d
    have:=h.cl 0 aq;exact⟨by show(0:Int)<=(x.q.f:Int);omega,by show(0:Int)<=nth (aM x.q.gs) 0;omega,by show nth (aM x.q.gs) 0<=_;omega,Nat.zero_le _⟩
   .cases d
 .have key:∀i,i<=(dI (aM x.q.gs) x.q.gs.length).length->∀b∈gH ts x.q lv fo (dI (aM x.q.gs) x.q.gs.length) i,Mg e b:=by
   intro i
   induction i with
   |zero=>intro _ b d;cases d
   |succ i ih=>
    intro hi b d;obtain⟨a,l,f,t,_,_,n,_,o,j,_⟩:=h.dI lv fo (i:=i) aq;have k:=h.gl;have m:=tD ts f t t;rw[j]at d;rcases List.mem_append.1 d with d|d
    .exact ih aq b d
    .rcases List.mem_cons.1 d with rfl|d
     .exact⟨by show(0:Int)<=(f:Int);omega,by show(0:Int)<=((jP ts f t t:Nat):Int);omega,by show((jP ts f t t:Nat):Int)<=_;omega,by simp only[lO,List.length_map,List.length_range];omega⟩
     .split at d
      .obtain rfl:=List.mem_singleton.1 d
       exact⟨by show(0:Int)<=((jP ts f t t:Nat):Int);omega,by show(0:Int)<=(t:Int);omega,by show(t:Int)<=_;omega,Nat.zero_le _⟩
      .cases d
  exact key _ cr b d
def XI.bw{l:List (Int×Int)}{f:List aC}(h:XI w s p ts l xs A m c f R k):∀i,i<=m->∀b∈(xZ s ts l f xs m i).1,Mg p.tn b:=by
 intro i;have n:=h.xl
 induction i with
 |zero=>intro _ b a;cases a
 |succ i ih=>
  intro hi b a;have g:=h.ql i aq;have j:=g.tl;have e:cW (qs xs) i=(jX xs i).q:=mM aq;unfold xZ at a ih;cases d:(jX xs i).q.iX
  .rw[pN (by rw[e];exact d),e]at a
   rcases List.mem_append.1 a with a|a
   .exact ih aq b a
   .exact acb g _ _ b a
  .rw[nm (by rw[e];exact d),e]at a
   rcases List.mem_append.1 a with a|a
   .exact ih aq b a
   .obtain rfl:=List.mem_singleton.1 a
    exact⟨by show(0:Int)<=((jX xs i).q.f:Int);omega,by show(0:Int)<=((jX xs i).q.t:Int);omega,by show((jX xs i).q.t:Int)<=_;omega,Nat.zero_le _⟩
def whN(ts:aC)(f t:Nat):Bool:=decide (f<t/\mf ts f t=f)
def T9(ts:aC)(b:bj):Bool:=whN ts b.f.toNat b.t.toNat
def dH(ts:aC)(bs:List bj):Nat->Nat
 |0=>0
 |n+1=>if T9 ts (aR bs n)=OX then dH ts bs n else n+1
def Lh(h:T9 ts (aR bs n)=OX):dH ts bs (n+1)=dH ts bs n:=if_pos h
def Pq(h:T9 ts (aR bs n)=OZ):dH ts bs (n+1)=n+1:=if_neg (by rw[h];simp)
def eB(bs:List bj)(a:Int):Nat->Int
 |0=>a
 |k+1=>(aR bs k).t
def lB.ix:∀{bs:List bj} {a b:Int},lB bs a b->(∀j,j<bs.length->(aR bs j).f=eB bs a j/\(aR bs j).f<(aR bs j).t)/\eB bs a bs.length=b
 |[],a,b,h=>⟨λj hj=>absurd hj aT,h⟩
 |x::l,a,b,⟨h1,h2,h3⟩=>by
  obtain⟨d,c⟩:=lB.ix h3;refine⟨λj hj=> ?_, ?_⟩
  .cases j with
   |zero=>exact⟨h1,h2⟩
   |succ j=>
    have:=d j vO;refine⟨?_,this.2⟩;cases j with
    |zero=>exact this.1
    |succ j=>exact this.1
  .show(aR (x::l) l.length).t=b
   cases l with
   |nil=>exact c
   |cons y l=>exact c
def lB.up{bs:List bj}{a b:Int}(h:lB bs a b):∀{i j:Nat},i<=j->j<=bs.length->eB bs a i<=eB bs a j/\(i<j->eB bs a i<eB bs a j)
 |i,0,hi,_=>by obtain rfl:i=0:=aq;exact⟨Int.le_refl _,λh=>absurd h aq⟩
 |i,j+1,hi,hj=>by
  obtain⟨d,e⟩:=h.ix.1 j aq;have f:eB bs a (j+1)=(aR bs j).t:=rfl;rcases Nat.lt_or_ge j i with c|c
  .obtain rfl:i=j+1:=by omega
   exact⟨Int.le_refl _,λh=>absurd h aq⟩
  .have:=(lB.up h (i:=i) (j:=j) c aq).1
   exact⟨aq,λ_=>by omega⟩
def uS(ts:aC)(bs:List bj):∀n,dH ts bs n<=n
 |0=>Nat.le_refl _
 |n+1=>by
  unfold dH;split
  .have:=uS ts bs n;omega
  .omega
def lB.aea:∀{bs cs:List bj} {a b:Int},eJ bs cs->lB bs a b->lB cs a b
 |[],cs,a,b,h,k=>by
  have:=h.len;obtain rfl:cs=[]:=List.eq_nil_of_length_eq_zero (by simpa using this);exact k
 |x::l,[],a,b,h,k=>by have:=h.len;simp at this
 |x::l,y::m,a,b,h,k=>by
  have c:Dn y::m.map Dn=Dn x::l.map Dn:=h;injection c with c h2
  have d:=congrArg (·.1) c;have e:=congrArg (·.2.1) c;have d:y.f=x.f:=d;have e:y.t=x.t:=e;refine⟨by rw[d];exact k.1,by rw[d,e];exact k.2.1, ?_⟩;rw[e];exact lB.aea (bs:=l) h2 k.2.2
def uh{ts:aC}{bs cs:List bj}(h:eJ bs cs):∀n,dH ts cs n=dH ts bs n
 |0=>rfl
 |n+1=>by
  have e:T9 ts (aR cs n)=T9 ts (aR bs n):=by unfold T9;rw[(h.at_ n).1,(h.at_ n).2.1]
  unfold dH;rw[e,uh h n]
def lB.Hq{b:Int}(h:lB bs a b){i j:Nat}(hi:i<bs.length)(d:j<bs.length)(e:(aR bs i).t=(aR bs j).t):i=j:=by
 have f:eB bs a (i+1)=eB bs a (j+1):=e;rcases Nat.lt_trichotomy i j with c|c|c
 .have:=(h.up (i:=i+1) (j:=j+1) aq aq).2 aq;omega
 .exact c
 .have:=(h.up (i:=j+1) (j:=i+1) aq aq).2 aq;omega
def lB.within{b:Int}(h:lB bs a b){j:Nat}(c:j<bs.length):a<=(aR bs j).f/\(aR bs j).f<(aR bs j).t/\(aR bs j).t<=b:=by
 have f:=h.ix.1 j c;have g:=(h.up (i:=0) (j:=j) aq aq).1;have d:=(h.up (i:=j+1) (j:=bs.length) aq aq).1;have l:=h.ix.2;have e:eB bs a 0=a:=rfl;have k:eB bs a (j+1)=(aR bs j).t:=rfl;omega
def aA.low{e:IQ}{size j:Nat}{xs:List EN}(h:aA w B e size A n c xs)(k:g<B)(u:EN):aA (w.setCell ⟨g,j,OJ⟩ u) B e size A n c xs:=by
 refine⟨h.1, ?_⟩;rcases h.2 with f|⟨a,cap,cur,d,b,i,r⟩
 .exact .inl f
 .exact .inr ⟨a,cap,cur,d,b,by rw[Below.heap_setCell w ⟨g,j,OJ⟩ u a (by simp only;omega)];exact i,r⟩
def dr.low{ps:List BoxM}(h:dr w B A c ps)(a:g<B)(j:Nat)(u:EN):dr (w.setCell ⟨g,j,OJ⟩ u) B A c ps:=
 ⟨aA.low h.row a u,λp b=>by obtain⟨gs,e,f,d⟩:=h.gl p b;exact⟨gs,e,f,aA.low d a u⟩⟩
def Wv{cs:List bj}(h:cs.map bj.sh=bs.map bj.sh):eJ bs cs/\∀n,bg cs n=bg bs n:=tF (by
 have:=congrArg (List.map fun(x:Int×Int×Int×Int×Int×Nat)=>((x.1,x.2.1,x.2.2.2.2.1,x.2.2.2.2.2):Int×Int×Int×Nat)) h;simp only[List.map_map]at this;exact this)
def dr.read{ps:List BoxM}(h:dr w B A c ps)(f:eJ L (ps.map (·.1)))(d:L.length=n):∃bs:List bj,eJ L bs/\(∀k,bg bs k=bg (ps.map (·.1)) k)/\bs.length=n/\dW w w.heap.size A n bs:=by
 obtain⟨bs,j,l⟩:=h.boxes;have b:=f.len;rw[List.length_map]at b;have e:(ps.map (·.1)).map bj.sh=ps.map (·.1.sh):=by rw[List.map_map];rfl
 obtain⟨g,i⟩:=Wv (j.trans e.symm);have a:=f.trans g;exact⟨bs,a,i,by rw[a.len,d],by rw[<-d,<-b];exact l⟩
def MY(h:∀j,j<L.length->Mg n (aR L j))(e:eJ L bs):∀j,j<L.length->Mg n (aR bs j):=λj d=>by
 obtain⟨b,c,a⟩:=e.at_ j;have f:=h j d;unfold Mg at*;rw[b,c,a];exact f
def vg(w:EE)(b:Nat)(cs:Array EN)(t:IQ):Prop:=w.heap[b]? =OH (RM cs t (0,0))
def vg.bx(h:vg w b cs t):Bx w b cs:=⟨t,h⟩
def vg.iR(w:EE)(cs:Array EN)(t:IQ){N:Nat}(h:w.heap.size=N):vg (w.alloc (RM cs t)) N cs t:=by subst h;exact heap_alloc_new w _
def vg.ar{a:EE}(h:vg w b cs t)(c:EI B w a)(d:b<B):vg a b cs t:=(c.block b d).trans h
def vg.fL(h:vg w b cs t)(a:b≠g)(o:Nat)(v:EN):vg (w.setCell ⟨g,o,OJ⟩ v) b cs t:=(Below.heap_setCell w ⟨g,o,OJ⟩ v b a).trans h
def fZ.low{ps:List BoxM}(h:fZ w B A c ps)(a:g<B)(j:Nat)(u:EN):fZ (w.setCell ⟨g,j,OJ⟩ u) B A c ps:=⟨aA.low h.row a u,λp b=>aA.low (h.gl p b) a u⟩
def He(h:∀b∈L,Mg n b):(∀j,j<L.length->Mg n (aR L j))/\∀j,(aR L j).gs.length<=4000000:=by
 have c:∀j,j<L.length->Mg n (aR L j):=λj a=>by rw[jK a];exact h _ (List.getElem_mem a)
 refine⟨c,λj=> ?_⟩;by_cases a:j<L.length
 .have:=(c j a).2.2.2
  omega
 .have:aR L j=default:=by
   unfold aR;rw[List.getD_eq_getElem?_getD,List.getElem?_eq_none aq];rfl
  rw[this];decide
def lB.cnt{bs:List bj}{a b:Int}(h:lB bs a b):∀{i:Nat},i<=bs.length->a+i<=eB bs a i
 |0,_=>by show a+0<=a;omega
 |i+1,hi=>by
  have c:=lB.cnt h (i:=i) aq;have d:=h.ix.1 i aq;show a+((i+1:Nat):Int)<=(aR bs i).t;omega
def lB.few{b:Int}(h:lB bs a b):a+bs.length<=b:=by
 have c:=h.cnt cr;rw[h.ix.2]at c;exact c
def IB(T:aB)(i n:Nat)(ts:aC)(A:aB)(m c:Nat)(bs:List bj)(w:EE)(h:aJ .i32 w T i n ts)(K:Laid w)(U:dW w w.heap.size A m bs)(J:∀j,j<m->Mg i (aR bs j))(hm:m<=4000000)(Q:i<=100000):GK prog 10 #[Pl T i n,Pl A m c] w (Cn w (dH ts bs m)):=by
 have⟨G,BX,I,O⟩:=MQ h U J K;go_enter func10,ntmps10;go_wp2;go_loopg[5](m+1)(λgg v wr=>∃(k:Nat),k<gg/\k<=m/\v=ae aj (k:Int)/\ak (dH ts bs k=dH ts bs m)/\ak (az w wr))
 .exact⟨m,aq,aq,rfl,⟨rfl⟩,cJ⟩
 obtain⟨k,hg,hk,rfl,p,e⟩:=hrel;rcases Nat.eq_zero_or_pos k with D|D
 .have S:decide (0<k)=OZ:=ji
  have E:ak (dH ts bs m=k):=⟨by rw[<-p.o,D];rfl⟩;go_wp2;refine mRl ?_;rintro _ ⟨g,rfl⟩;have b:=e.t g.2;go_wp2;go_ret;exact⟨zp,b.o⟩
 obtain⟨j,o⟩:∃j,j+1=k:=⟨k-1,aq⟩;have P:(k:Int)-1=(j:Int):=aq;have W:decide (0<k)=OX:=Je;have H:=aU j m;have V:=gT j;obtain⟨ad,rfl,_,Y⟩:=(BX.o.Z e.o).2 aq;obtain⟨G1,g1,⟨y,u,a2,a3,a4,a5⟩,M⟩:=UY (Y j aq);obtain⟨R,Z,q,_⟩:=I.o j aq;have l:ak (T9 ts (aR bs j)=OX->dH ts bs j=dH ts bs m):=⟨λh=>by rw[<-p.o,<-o,Lh h]⟩;have r:ak (T9 ts (aR bs j)=OZ->dH ts bs m=k):=⟨λh=>by rw[<-p.o,<-o,Pq h]⟩;obtain⟨f,C⟩:∃f:Nat,(aR bs j).f=(f:Int):=⟨(aR bs j).f.toNat,aq⟩;obtain⟨t,B⟩:∃t:Nat,(aR bs j).t=(t:Int):=⟨(aR bs j).t.toNat,aq⟩;have s:T9 ts (aR bs j)=whN ts f t:=by unfold T9;rw[C,B];rfl
 rw[s]at l r;rw[C]at y;rw[B]at u q;have HJ:=sH o;have CS:ak (f<t->∀N:aI wr,GK prog 39 #[Pl T i n,ae aj (f:Int),ae aj (t:Int)] N.1 (Cn N.1 (mf ts f t))):=⟨λh N=>QF T i n f t ts N.1 ((G.o.ar e.o).ar N.2) ((O.o.ar e.o).ar N.2) aq aq Q⟩;have⟨L0,L1⟩:=lc2 y u;by_cases d:f<t;rotate_left
 .have X:decide ((f:Int)<(t:Int))=OZ:=ji
  have L:decide (f<t)=OZ:=ji;have E:ak (dH ts bs m=k):=⟨r.o (by unfold whN;rw[decide_eq_false_iff_not];exact λh=>d h.1)⟩;go_wp2;refine mRl ?_;rintro _ ⟨g,rfl⟩;have b:=e.t g.2;go_wp2;go_ret;exact⟨zp,b.o⟩
 have X:decide ((f:Int)<(t:Int))=OX:=Je;have L:decide (f<t)=OX:=Je;have a:=sH (CS.o d);have F:ak (whN ts f t=decide (mf ts f t=f)):=⟨by unfold whN;simp[d]⟩;unfold Cn at a;generalize mf ts f t=z at*;by_cases x:z=f
 .have E:ak (dH ts bs j=dH ts bs m):=⟨l.o (by rw[F.o];simpa using x)⟩
  have i7:((z:Int)==(f:Int))=OX:=br;go_wp2;refine bS aF aF ?_
  repeat(go_big_quiet_step (with_reducible exact dN (a.o _)))
  refine wpQuiet_nil ?_;rintro _ ⟨g,rfl⟩;have b:=e.t g.2;go_wp2;have o:=HJ.o;go_roundg(k)
  .exact⟨j,aq,aq,rfl,E,b⟩
  omega
 .have E:ak (dH ts bs m=k):=⟨r.o (by rw[F.o];simpa using x)⟩
  have i7:((z:Int)==(f:Int))=OZ:=pW;go_wp2;refine bS aF aF ?_
  repeat(go_big_quiet_step (with_reducible exact dN (a.o _)))
  refine wpQuiet_nil ?_;rintro _ ⟨g,rfl⟩;have b:=e.t g.2;go_wp2;go_ret;exact⟨zp,b.o⟩
def ZPx(B:Nat)(L:List bj)(v:EN)(w:EE):Prop:=∃A c ps,v=Pl A L.length c/\fZ w B A c ps/\ps.map (·.1)=L
def ZPx.ar(B:Nat)(L:List bj)(v:EN)(w a:EE)(h:ZPx B L v w)(b:az w a):ZPx B L v a:=by
 obtain⟨A,c,ps,e,d,f⟩:=h;exact⟨A,c,ps,e,d.ar b,f⟩
def mg.agQ{f e a d g c:EN}(h:mg w b f e a d g c)(v:EN):mg (w.setCell ⟨b,4,OJ⟩ v) b f e a d v c:=by
 have aG:=h.lt;have i:w.heap[b]=RM #[f,e,a,d,g,c] 55 (0,0):=by unfold mg at h;simpa[Array.getElem?_eq_getElem aG]using h
 show(w.heap.modify b _)[b]? =_;rw[Array.getElem?_eq_getElem CG,Array.getElem_modify_self,i];rfl
def Bi{ts:aC}{rn:List (Int×Int)}{W Bg:aC}{ps:List fX}:∀i,(eE ts rn W Bg ps i).2<=i
 |0=>Nat.le_refl _
 |i+1=>by
  have ih:=Bi (ts:=ts) (rn:=rn) (W:=W) (Bg:=Bg) (ps:=ps) i;cases h:(cW ps i).iX
  .rw[pN h];show _<=i+1;omega
  .rw[nm h];show _+1<=i+1;omega
def RU(s:cM)(p:jz)(ts:aC)(l:List (Int×Int))(xs:List fv)(A:aB)(m c:Nat)(rs:List aC)(R:aB)(rm rc:Nat)(w:EE)(h:XI w s p ts l xs A m c rs R rm)(hi:InT p.tn xs)(hL:Laid w):GK prog 9 #[Q4 s.row,Q4 p.row,Pl R rm rc,Pl A m c] w (Xb w (xZ s ts l rs xs m m).1):=by
 have hml:=h.ml;have SC:ak (∀W,EI w.heap.size w W->GK prog 36 #[Pl p.T p.tn p.tc,Pl A m c] W (PSl W (gQ ts (qs xs) m))):=⟨λW n=>Lc xs m c A p.T p.tn p.tc ts W (h.px.Z n n.size) h.mc (h.tx.ar n) (hL.ar n) aq h.tn h.gs hi h.sd⟩;have hsl:=UH ts (qs xs) m;have⟨S,hS⟩:=eY (gQ ts (qs xs) m);have SIN:ak (∀i,i<S.length->-9223372036854775808<=nth (iJ S) i/\nth (iJ S) i<=9223372036854775807):=⟨λi hi=>by rw[<-hS]at hi⊢;exact Ve hi⟩;rw[hS]at SC hsl;have⟨Bg,Q⟩:=eY ((ee l s.ev (iJ S) (oU S) S.length).1);have wW:Bg.length=S.length:=by rw[<-Q];exact mF _ _ _ _ _
 have LC:ak (∀W,EI w.heap.size w W->∀A1 c1 A2 c2,bO W W.heap.size .i64 A1 S.length (iJ S)->bO W W.heap.size .i64 A2 S.length (oU S)->GK prog 37 #[Pl p.B p.bn p.bc,ae aj s.ev,Pl A1 S.length c1,Pl A2 S.length c2] W (PLy W Bg S.length)):=⟨λW n A1 c1 A2 c2 U h2=>by rw[<-Q];exact ab7 l p.B p.bn p.bc s.ev _ _ A1 A2 S.length c1 c2 W ⟨h.tb.Z n n.size,h.tl,h.bl,U,h2,SIN.o,aq⟩⟩;have AS:ak (∀i,xZ s ts l rs xs m i=eE ts (Z' rs) (iJ S) Bg (qs xs) i):=⟨λi=>by unfold xZ;rw[hS,Q]⟩;have I:=sH h;rw[AS.o];generalize hN:eE ts (Z' rs) (iJ S) Bg (qs xs)=N at*;have HLN:ak (∀i,(N i).1.length<=i*(2*100000+1)):=⟨λi=>by
  rw[<-hN];refine BP (λj=> ?_) i;by_cases J:j<xs.length
  .rw[mM J];exact h.gs j J
  .have:cW (qs xs) j=default:=by simp[cW,qs,Nat.not_lt.1 J]
   rw[this];exact Nat.zero_le _⟩
 have HNK:ak (∀i,(N i).2<=i):=⟨λi=>by rw[<-hN];exact Bi i⟩;have LW:=sH hL;clear h hS Q hL;have⟨W1,aP⟩:=eX ((w.alloc (RM s.row 26)).alloc (RM p.row 31));have⟨p0,Di⟩:∃p,w.heap.size=p:=⟨_,rfl⟩;have X0:ak (Bx W1 p0 s.row):=⟨r9⟩;have X1:ak (Bx W1 (p0+1) p.row):=⟨by rw[aP,<-Di];exact Bx.iR _ _ _ (by simp)⟩;have B1:ak (EI w.heap.size w W1):=⟨YW⟩;go_enter func9,ntmps9;go_upto_region 1 with fail;rw[<-aP];clear aP;have HP5:=sH Di;clear Di;have⟨a0,_,a2,_⟩:=X1.o.c8;have⟨_,_,_,a3,_⟩:=X0.o.c5;have SC1:=sH (SC.o W1 B1.o);go_wp2_with fail;refine SC1.o.mono ?_;rintro e w2 ⟨A1,c1,A2,c2,rfl,o1,o2,b2⟩;have B2:=B1.t b2;have⟨Y0,Y1,Z8,O1⟩:=MQ (X0.o.ar b2 X0.o.lt) (X1.o.ar b2 X1.o.lt) (LC.o w2 B2.o A1 c1 A2 c2 (Own.ints o1) (Own.ints o2)) o1;clear o1 o2 b2 SC1 SC LC X0 X1 B1 a0 a2 a3;have⟨_,_,a2,_⟩:=Y1.o.c8;have⟨_,_,_,a3,_⟩:=Y0.o.c5;generalize oE:S.length=sn at*;go_wp2_with fail;refine Z8.o.mono ?_;rintro e G ⟨A3,c3,rfl,o3,b3⟩;have B3:=B2.t b3;have⟨WI,BI,Z1⟩:=MO (Own.ints (O1.o.ar b3)) (Own.ints o3) (Y1.o.ar b3 Y1.o.lt);have hp3:=sH Z1.o.lt;clear o3 b3 Z8 Y0 Y1 O1 a2 a3 B2;go_wp2;have hN0:ak (N 0=([],0)):=⟨by rw[<-hN];rfl⟩;go_loopg[12,13,15,16,33](m+1)(λgg mz kE _ _ Ap wr=>∃(i:Nat) (A':aB) (t c':Nat),m-i<gg/\i<=m/\mz=Pl A' t c'/\kE=ae aj ((N i).2:Int)/\Ap=ae aj (i:Int)/\ak (∃ps,rQ wr G.heap.size A' t c' (N i).1 ps)/\ak (EI G.heap.size G wr))
 .exact⟨0,OJ,0,0,aq,aq,rfl,by rw[hN0.o];rfl,rfl,⟨[],by rw[hN0.o];exact rQ.nil _ _⟩,cJ⟩
 obtain⟨i,A',t,c',hg,hi,rfl,rfl,rfl,SS,BE⟩:=hrel;have BW:=B3.t BE.o;by_cases T:i<m;rotate_left
 .have i4:=cI i m
  obtain rfl:i=m:=aq;have HW:ak (Xb w (N i).1 (.returned (Pl A' t c')) wr):=⟨by
   obtain⟨ps,S⟩:=SS.o;exact S.done B3.o.size BW.o⟩
  go_wp2;go_ret;exact HW.o
 have i4:=aU i m;have jL:=sH hg;obtain⟨ad,x,hx,eA,c0,c1,aW,yk,c4,c5,c6,c7,c8,_⟩:=(I.o.px.Z BW.o BW.o.size).at T;subst eA;rw[Nat.zero_add]at hx;clear hg;have⟨F,ZY,P,X5⟩:=box1 wr x.row 44;go_upto_region 8 with fail;rw[<-ZY];clear ZY c0 c1 aW yk c4 c5 c6 c7 c8;have Hh:F.cell? ⟨wr.heap.size,7,OJ⟩=OH (PF x.q.iX):=X5.o.cell 7;have V:=BE.t P.o;have O:=B3.t V.o;have UE:=I.o.xl;have HQ:ak (cW (qs xs) i=x.q):=⟨Jl⟩;obtain⟨r,y,eR,hrb,hy,hcy⟩:=abc (I.o.rx.Z O.o O.o.size) (show x.q.run<rm by have:=I.o.rn i T;rwa [hx]at this);have⟨HY,B⟩:=K' hy hcy;subst eR;have hrm:(x.q.run:Int)<(rm:Int):=by have:=I.o.rn i T;rw[hx]at this;omega
 obtain⟨ps,S0⟩:=SS.o;have SO:=sH S0;have PQ:ak (Ws w p.T p.tn p.tc ts x):=⟨by have:=I.o.ql i T;rwa [hx]at this⟩;clear hx hy hcy S0 SS;generalize M:wr.heap.size=gq at*;cases n:x.q.iX
 .have z:ak (N (i+1)=((N i).1++fu ts x.q y.lv y.fo,(N i).2)):=⟨by rw[<-hN,pN (by rw[HQ.o,n]),HQ.o,HY.o]⟩
  have HB:=sH n;rw[n]at Hh;clear n;go_upto_region 9 with fail;have⟨L,hL⟩:=eY (fu ts x.q y.lv y.fo);have PC:ak (∀W,EI F.heap.size F W->GK prog 38 #[Pl p.T p.tn p.tc,Q4 x.row,Q4 y.row] W (Xb W L)):=⟨λW hW=>by
   have n:=O.o.trans (hW.mono O.o.size);rw[<-hL];exact Nd x y p.T p.tn p.tc ts W (PQ.o.Z n) (LW.o.ar n)⟩
  have HLl:ak (L.length<=200001):=⟨by have:=tH ts x.q y.lv y.fo;have:=PQ.o.gl;rw[<-hL];omega⟩;rw[hL]at z;have S5:ak (rQ F G.heap.size A' t c' (N i).1 ps):=⟨SO.o.ar (by show EI _ _ _;rw[M];exact P.o)⟩;have⟨Z5,HGQ⟩:=K' (Z1.o.ar V.o hp3.o) M;have HMM:ak (t<=1000*200001):=⟨by
   have U:=SO.o.len;have h2:=congrArg List.length SO.o.eq;rw[List.length_map]at h2;have h3:=HLN.o i;have h4:i*(2*100000+1)<=1000*(2*100000+1):=Nat.mul_le_mul_right _ aq;omega⟩
  clear hL M Hh SO;refine vu (N:=11) (k0:=40) (m:=11) [OH (Pl A' t c'),OH (PK (OH ⟨p0+1,0,OJ⟩)),OH (Pl p.T p.tn p.tc),OH (Q4 x.row),OH (Pl (OH r) rm rc),OH (PK (OH ⟨gq,2,OJ⟩)),OH (ae aj (x.q.run:Int)),OH (PK (OH (r.add (x.q.run*6)))),OH (Q4 y.row),OJ,OJ] 9 10 10 (ZPx G.heap.size L) agt F (λv W=>∃A c ps,v=Pl A (t+L.length) c/\rQ W G.heap.size A (t+L.length) c ((N i).1++L) ps/\EI G.heap.size G W) rfl aF rfl aF aq (Below.refl _ _) ?_ ?_
  .intro j o Lf bu W J ho C b g f a' ha K hK
   simp only[cN,fV,List.setIfInBounds_toArray,List.set_cons_succ,List.set_cons_zero,Nat.reduceAdd,Nat.add_zero]at ha;subst ha;have J:j=0∨j=1∨j=2∨j=3∨j=4∨j=5∨j=6∨j=7∨j=8∨j=9∨j=10:=aq;have d0:=f.dY 0 _ rfl;have d1:=f.dY 1 _ rfl;have d2:=f.dY 2 _ rfl;have d3:=f.dY 3 _ rfl;have d4:=f.dY 4 _ rfl;have d5:=f.dY 5 _ rfl;have d6:=f.dY 6 _ rfl;have d7:=f.dY 7 _ rfl;have d8:=f.dY 8 _ rfl
   rcases J with rfl|rfl|rfl|rfl|rfl|rfl|rfl|rfl|rfl|rfl|rfl
   all_goals(injection ho with ho;subst ho)
   all_goals(simp[Region.binds]at b)
   case' inr.inr.inr.inr.inr.inr.inr.inr.inr.inr=>
    obtain⟨A5,c5,qs5,ev,oq,eq⟩:=f.cal b.2 C;have H:=f.pre C;have SW:=S5.o.ar H;have ib:G.heap.size<=W.heap.size:=by have:=H.size;have:=V.o.size;omega
    have Vc:qs5.length=L.length:=Tq;have hmm:=HMM.o;have hll:=HLl.o;have oqr:=oq.row;rw[Vc]at oqr;simp only[d0 b.1,ev];refine wpOp_step rfl (λK9 D=> ?_);rw[if_pos Tb];refine Si yI (.tmp 40) (.tmp 49) rfl rfl SW.row rfl (aA.VK oqr) oqr.1 (λu hu=>by
     obtain⟨q,_,hu⟩:=List.mem_flatMap.1 hu;exact lj q u hu) aq ib ?_
    intro A6 c6 w6 o6 b6 g6;have S6:rQ w6 G.heap.size A6 (t+L.length) c6 ((N i).1++L) (ps++qs5):=⟨SW.own.ag8 oq (by rw[SW.len,Vc];exact o6) (by rw[SW.len];exact g6),by rw[List.map_append,SW.eq,eq],by rw[List.length_append,SW.len,Vc]⟩;refine D _ _ ?_;change K (Act.put _ (OH 50) _) _;have hx:=hK _ _ (f.app rfl ⟨A6,c6,_,rfl,S6,(V.o.trans (H.mono V.o.size)).trans b6⟩);simp only[Nat.reduceAdd,Act.put,List.setIfInBounds_toArray,List.set_cons_succ,List.set_cons_zero]at hx
    try simp only[d0 b.1,ev]at hx
    try simp only[Act.put,List.setIfInBounds_toArray,List.set_cons_succ,List.set_cons_zero]
    exact hx
   case' inr.inr.inr.inr.inr.inr.inr.inr.inr.inl=>
    obtain⟨q2,q3,q8⟩:=b;have hLp:=g.no (a:=10) C aF;have H:=f.pre hLp;simp only[d2 q2,d3 q3,d8 q8];refine wpOp_step rfl (λK9 D=> ?_);go_simp;refine(PC.o W H).mono ?_;rintro e7 w7 ⟨A7,c7,ps7,rfl,og,eq,b7⟩;have og2:fZ w7 G.heap.size A7 c7 ps7:=og.gW (by have:=H.size;have:=V.o.size;omega);dsimp only;refine D _ _ ?_
    skip
    have hx:=hK _ _ (f.call (v:=Pl A7 L.length c7) rfl cF cF hLp hLp ⟨A7,c7,ps7,rfl,og2,eq⟩ b7);simp only[Nat.reduceAdd,Act.put,List.setIfInBounds_toArray,List.set_cons_succ,List.set_cons_zero]at hx
    try simp only[d2 q2,d3 q3,d8 q8]at hx
    try simp only[Act.put,List.setIfInBounds_toArray,List.set_cons_succ,List.set_cons_zero]
    exact hx
   case' inr.inr.inl=>
    have x0:W.cell? ⟨p0+1,0,OJ⟩=OH (Pl p.T p.tn p.tc):=(Z5.o.ar (f.pre (g.no (a:=10) (g.no (a:=9) C aF) aF)) Z5.o.lt).cell 0
   case' inr.inr.inr.inl=>
    have⟨x0,x1,x2,x3,x4,x5,x6,x7,x8⟩:=(X5.o.ar (f.pre (g.no (a:=10) (g.no (a:=9) C aF) aF)) X5.o.lt).p9
   case' inr.inr.inr.inr.inr.inr.inl=>
    have x2:W.cell? ⟨gq,2,OJ⟩=OH (ae aj (x.q.run:Int)):=(X5.o.ar (f.pre (g.no (a:=10) (g.no (a:=9) (g.no (a:=8) C aF) aF) aF)) X5.o.lt).cell 2
   case' inr.inr.inr.inr.inr.inr.inr.inr.inl=>
    have H:=(f.pre (g.no (a:=10) (g.no (a:=9) C aF) aF));have x0:=av (B.o 0 _ rfl) H;have x1:W.cell? (bX (r.add (x.q.run*6)) 1)=OH (ae aj y.t):=av (B.o 1 _ rfl) H;have x2:W.cell? (bX (r.add (x.q.run*6)) 2)=OH (ae aj y.lv):=av (B.o 2 _ rfl) H;have x3:W.cell? (bX (r.add (x.q.run*6)) 3)=OH (ae aj y.sp):=av (B.o 3 _ rfl) H;have x4:W.cell? (bX (r.add (x.q.run*6)) 4)=OH (ae aj y.fo):=av (B.o 4 _ rfl) H;have x5:W.cell? (bX (r.add (x.q.run*6)) 5)=OH (ae aj y.st):=av (B.o 5 _ rfl) H;rw[oZ]at x0
   all_goals
    try simp only[d0,d1,d2,d3,d4,d5,d6,d7,d8,b]
    refine wpOp_step rfl (λK9 D=> ?_);go_simp;refine D _ _ ?_
    skip
    have hx:=hK _ _ (f.pure rfl cF cF cF);simp only[Nat.reduceAdd,Act.put,List.setIfInBounds_toArray,List.set_cons_succ,List.set_cons_zero]at hx
    try simp only[d0,d1,d2,d3,d4,d5,d6,d7,d8,b]at hx
    try simp only[Act.put,List.setIfInBounds_toArray,List.set_cons_succ,List.set_cons_zero]
    exact hx
  .intro Lf bu W Y f a' ha
   simp only[cN,fV,List.setIfInBounds_toArray,List.set_cons_succ,List.set_cons_zero,Nat.reduceAdd,Nat.add_zero]at ha;subst ha;obtain⟨A6,c6,ps6,Ey,s6,b6⟩:=f.post (Y 10 aq);simp only[Ey];have S6:ak (∃ps,rQ W G.heap.size A6 (t+L.length) c6 (N (i+1)).1 ps):=⟨ps6,by rw[z.o];exact s6⟩;have B6:=sH b6;have rO:ak ((N (i+1)).2=(N i).2):=⟨by rw[z.o]⟩;clear Ey Y f s6 b6;refine wpOp_step rfl (λK9 D=> ?_);go_simp;refine D _ _ ?_;go_wp2;go_roundg(m-i)
   .exact⟨i+1,A6,t+L.length,c6,aq,aq,rfl,by rw[rO.o],aV,S6,B6⟩
   have:=jL.o;omega
 .have HB:=sH n
  rw[n]at Hh;clear n;have z0:F.cell? ⟨gq,0,OJ⟩=OH (ae aj (x.q.f:Int)):=X5.o.cell 0;have z1:F.cell? ⟨gq,1,OJ⟩=OH (ae aj (x.q.t:Int)):=X5.o.cell 1;have z2:F.cell? ⟨gq,2,OJ⟩=OH (ae aj (x.q.run:Int)):=X5.o.cell 2;have z3:F.cell? (bX (r.add (x.q.run*6)) 2)=OH (ae aj y.lv):=B.o 2 _ rfl;have HGQ:=sH M;clear M;go_upto_region 10 with fail;have⟨Z0,Z2,Z4,Z6⟩:=lc4 z0 z1 z2 z3;clear z0 z1 z2 z3;refine aQ (λd=>if d=OH 16 then OH (ZT F.heap.size #[ae aj 0,ae aj 0,ae aj 0,ae aj 0,ae aj 0,Pl OJ 0 0] 55)else OJ) 12 rfl aF aF aF aF aF rfl ?_;refine mLw ?_;refine lwA (ZT F.heap.size #[ae aj 0,ae aj 0,ae aj 0,ae aj 0,ae aj 0,Pl OJ 0 0] 55) (λnq=> ?_) (λv9 aX=> ?_)
  .go_simp
   exact Fq nq _ _
  obtain⟨_,_,Z,rfl,eU,_⟩:=aX;simp[Act.put];intro nq hE;have hx:=ZT.get hE;clear hE Z0 Z2 Z4 Z6;refine wp_store_row 55 (.tmp 16) (.tmp 61) rfl Z _ rfl rfl 55 _ hx aF rfl ed ?_;have X:ak (Km F (nq.1.setRow Z #[ae aj (x.q.f:Int),ae aj (x.q.t:Int),ae aj y.lv,ae aj 0,ae aj 0,Pl OJ 0 0]) Z (jH x.q.f x.q.t y.lv) x.q.f x.q.t OJ 0):=⟨⟨hx.row _,aA.nil _ _ _ _,below_setRow nq.2 eU _,eU⟩⟩;generalize nq.1.setRow Z #[ae aj (x.q.f:Int),ae aj (x.q.t:Int),ae aj y.lv,ae aj 0,ae aj 0,Pl OJ 0 0]=w6 at*;clear hx eU
  try dsimp only
  try simp only[Act.put]
  have z:ak (N (i+1)=((N i).1++[⟨x.q.f,x.q.t,y.lv,0,if(N i).2+1<sn then IK (IK (nth Bg ((N i).2+1)-nth Bg (N i).2)-nth (iJ S) (N i).2)else 0,[]⟩],(N i).2+1)):=⟨by rw[<-hN,nm (by rw[HQ.o,HB.o]),HQ.o,HY.o,wW]⟩;have hkb:(N i).2<=i:=HNK.o i;generalize(N i).2=k at*;have⟨j,J⟩:=eY (k+1);have pe:(k:Int)+1=(j:Int):=aq;go_upto_if 67 with fail;have⟨v,hv⟩:=eY (if k+1<sn then IK (IK (nth Bg (k+1)-nth Bg k)-nth (iJ S) k)else 0);have HV:=sH hv;rw[hv]at z;clear hv;go_cut[16](λu wx=>u=PK (OH ⟨Z,0,OJ⟩)/\ak (mg wx Z (ae aj (x.q.f:Int)) (ae aj (x.q.t:Int)) (ae aj y.lv) (ae aj 0) (ae aj v) (Pl OJ 0 0))/\ak (EI F.heap.size F wx))
  ·
   by_cases U:k+1<sn
   .have E:ak (v=IK (IK (nth Bg (k+1)-nth Bg k)-nth (iJ S) k)):=⟨by rw[<-HV.o,if_pos U]⟩
    have pj:(j:Int)-1=(k:Int):=aq;have B6:=V.t X.o.be;obtain⟨ad3,e3,It,Fe⟩:=BI.o.2 aq;obtain⟨ad1,e1,cX,nT⟩:=WI.o.2 aq;have r1:=(B6.o.cell (by rw[aL];exact It)).trans (Fe j aq);have r2:=(B6.o.cell (by rw[aL];exact It)).trans (Fe k aq);have r3:=(B6.o.cell (by rw[aL];exact cX)).trans (nT k aq);rw[J]at E U;subst e3;subst e1;have k4:=aU k sn;have j4:=aU j sn;obtain⟨_,_,_,_,q4,_⟩:=X.o.kV.cs;have f4:=X.o.kV.f 4;generalize nth Bg j=u1 at*;generalize nth Bg k=u2 at*;generalize nth (iJ S) k=u3 at*;clear Fe nT J pe;go_upto_region 13 with fail;have S3:=X.o.kV.agQ (ae aj (IK (IK (u1-u2)-u3)));have S4:=sH (S3.ar (bJ (Below.refl (w6.setCell ⟨Z,4,OJ⟩ (ae aj (IK (IK (u1-u2)-u3)))).heap.size _)) S3.lt);clear S3;have B4:=sH (((Below.setCell X.o.be (p:=⟨Z,4,OJ⟩) X.o.le (ae aj (IK (IK (u1-u2)-u3)))).drew));go_region
    all_goals go_wp2_with fail
    all_goals go_meet
    all_goals exact⟨rfl,by rw[E.o];exact S4,B4⟩
   .have E:ak (v=0):=⟨by rw[<-HV.o,if_neg U]⟩
    have h5:¬j<sn:=by rw[<-J];exact U
    clear U J pe;go_wp2;go_meet;exact⟨rfl,by rw[E.o];exact⟨X.o.kV⟩,⟨X.o.be⟩⟩
  obtain⟨rfl,Q7,B7⟩:=hcut;have B8:=V.t B7.o;have S8:ak (rQ wc G.heap.size A' t c' (N i).1 ps):=⟨SO.o.ar (by show EI _ _ _;rw[HGQ.o];exact P.o.trans (B7.o.mono (by have:=P.o.size;have:=HGQ.o;omega)))⟩;have HMM:ak (t<=1000*200001):=⟨by
   have U:=SO.o.len;have h2:=congrArg List.length SO.o.eq;rw[List.length_map]at h2;have h3:=HLN.o i;have h4:i*(2*100000+1)<=1000*(2*100000+1):=Nat.mul_le_mul_right _ aq;omega⟩
  have hmm:=HMM.o;obtain⟨_,_,_,_,_,_⟩:=Q7.o.cs;have OR:=sH S8.o.row;have hsB:=B8.o.size;have HN2:ak ((N (i+1)).2=j):=⟨by rw[z.o];exact J⟩;go_wp2_with (at_builtin;refine bE yI rfl (.tmp 85) (.tmp 87) rfl rfl (aA.alloc OR.o _) rfl (news:=[ae aj (x.q.f:Int),ae aj (x.q.t:Int),ae aj y.lv,ae aj 0,ae aj v,Pl OJ 0 0]) rfl (kA _ _ _ _ _ _ _ _ _ aT) (lj (⟨x.q.f,x.q.t,y.lv,0,v,[]⟩,OJ,0)) aq iY ?_;intro A4 c4 w4 o4 b4 g4 _;have O4:=sH o4;have B4:=sH b4;have G4:=sH g4;clear o4 b4 g4);have⟨S9,B9⟩:=K' ((S8.o.ar (aw _ _)).push (⟨x.q.f,x.q.t,y.lv,0,v,[]⟩,OJ,0) O4.o G4.o (iF.nil _ _)) ((B8.o.alloc B8.o.size _).trans B4.o);go_roundg(m-i)
  .exact⟨i+1,A4,t+1,c4,aq,aq,rfl,by rw[HN2.o],aV,⟨_,by rw[z.o];exact S9.o⟩,B9⟩
  have:=jL.o;omega
theorem afj{p:Prop}(h:p:=by first|go_num|(rw[IntWalk.wrap64_in _ (by omega)];rfl)):p:=h
abbrev zL:Array EN:=#[ae aj 0,ae aj 0,ae aj 0,ae aj 0,ae aj 0,ae aj 0,PF OZ,Pl OJ 0 0]
abbrev iM(f t:Nat)(base c x a:Int)(b:EN):Array EN:=#[ae aj (f:Int),ae aj (t:Int),ae aj base,ae aj c,ae aj x,ae aj a,PF OZ,b]
def pE:(prog.info? 47).map (·.size)=OH 8:=by kernel_rfl
def Er(f t:Nat)(base b x a:Int)(A:aB)(n c:Nat):(iM f t base b x a (Pl A n c)).all (·.oneCell')=OX:=ed
def yX(a b:Int)(c:Bool)(S:List (Nat×Int)):Int:=if(c&&decide (0<IK (b-IK a)))=OX then IK (a+Ea S (IK (b-IK a)))else IK a
def PLs(w:EE)(f t:Nat)(a:Int)(e:IS)(c:EE):Prop:=∃(base b x:Int) (C:aB) (n d:Nat),e=.returned (Q4 (iM f t base b x a (Pl C n d)))/\az w c
def Kw(s:cM)(p:jz)(ts:aC)(L:List bj)(xs:List fv)(A:aB)(m c:Nat)(R:aB)(rm rc:Nat)(V:aB)(vc:Nat)(base:Int)(f t:Nat)(last:Bool)(w:EE)(hp:kf w p ts)(hL:Laid w)(hx:ta w w.heap.size xs 0 m A)(hm:0<m)(hm4:m<=40)(hV:Iw w w.heap.size .i64 aK V p.tn)(hvc:p.tn<=vc)(hch:lB L (f:Int) (t:Int))(wR:∀b∈L,Mg p.tn b)(sN:f<t)(ht:t<=p.tn)(iG:p.tn<=40)
 (hPC:∀W,az w W->GK prog 9 #[Q4 s.row,Q4 p.row,Pl R rm rc,Pl A m c] W (Xb W L)):
 GK prog 8 #[Q4 s.row,Q4 p.row,Pl R rm rc,Pl A m c,Pl V p.tn vc,ae aj base,ae aj (f:Int),ae aj (t:Int),PF OZ,PF last] w (PLs w f t (yX (bg L (dH ts L L.length)) p.wd (p.al==3&& !last&& !((jX xs (m-1)).en==2)) (gY ts (eQ L (dH ts L L.length))))):=by
 have P:ak _:=⟨hp⟩;have LW:ak _:=⟨hL⟩;have PX:ak _:=⟨hx⟩;have RV:ak _:=⟨hV⟩;have CH:ak _:=⟨hch⟩;have BW:ak _:=⟨wR⟩;have PC:ak _:=⟨hPC⟩;have⟨r,hen⟩:∃r,(jX xs (m-1)).en=r:=⟨_,rfl⟩;rw[hen];have HEN:ak _:=⟨hen⟩;have⟨FW,hFW⟩:∃FW,yX (bg L (dH ts L L.length)) p.wd (p.al==3&& !last&& !(r==2)) (gY ts (eQ L (dH ts L L.length)))=FW:=⟨_,rfl⟩;rw[hFW];have HFW:ak _:=⟨hFW⟩;clear hp hL hx hV hch wR hPC hen hFW;go_enter func8,ntmps8;go_upto_region 2 with fail;have⟨k,B⟩:∃k,k=(((w.alloc (RM s.row 26)).alloc (RM p.row 31)).alloc (RM #[ae aj 0,ae aj 0,ae aj 0,ae aj 0,ae aj 0,ae aj 0,PF OZ,Pl OJ 0 0] 47)).alloc (RM #[ae aj (f:Int),ae aj (t:Int),ae aj base,ae aj 2,ae aj 0,ae aj 0,PF OZ,Pl OJ 0 0] 47):=⟨_,rfl⟩;have⟨N,hN⟩:∃N,w.heap.size=N:=⟨_,rfl⟩;have B1:ak (az w k):=⟨by rw[B];exact(((aw w _).alloc (by simp) _).alloc (by simp<;>omega) _).alloc (by simp<;>omega) _⟩;have X0:ak (Bx k N s.row):=⟨by rw[B,<-hN];exact((((Bx.new w s.row 26).ar (aw _ _) (by simp)).ar (aw _ _) (by simp<;>omega)).ar (aw _ _) (by simp<;>omega))⟩;have X1:ak (Bx k (N+1) p.row):=⟨by rw[B,<-hN];exact(((Bx.iR (w.alloc (RM s.row 26)) p.row 31 (by simp)).ar (aw _ _) (by simp)).ar (aw _ _) (by simp<;>omega))⟩;have X2:ak (vg k (N+2) zL 47):=⟨by rw[B,<-hN];exact(vg.iR _ _ _ (by simp)).ar (aw _ _) (by simp)⟩;have X3:ak (Bx k (N+3) #[ae aj (f:Int),ae aj (t:Int),ae aj base,ae aj 2,ae aj 0,ae aj 0,PF OZ,Pl OJ 0 0]):=⟨by rw[B,<-hN];exact Bx.iR _ _ _ (by simp)⟩;have HW4:ak (k.heap.size=N+4):=⟨by rw[B,<-hN];simp⟩;rw[<-B];have HN:ak _:=⟨hN⟩;rw[hN];clear B hN;have⟨c0,c1,I,c3,c4⟩:=X0.o.c5;have⟨d0,d1,d2,d3,d4,d5,d6,d7⟩:=X1.o.c8;have PC1:ak _:=⟨PC.o k B1.o⟩;go_wp2_with fail;refine PC1.o.mono ?_;rintro e w2 ⟨A2,o,ps,rfl,ob,eq,b2⟩;have B2:ak (az w w2):=⟨B1.o.trans (b2.mono B1.o.size)⟩;have hn:ps.length=L.length:=Tq;have OB:ak (fZ w2 k.heap.size A2 o ps):=⟨ob⟩;have EQ:ak _:=⟨eq⟩;have Y1:ak (Bx w2 (N+1) p.row):=⟨X1.o.ar b2 X1.o.lt⟩;have LC:ak _:=⟨Vw p.T p.tn p.tc ts V vc base f t w2 (P.o.rT.ar B2.o) (LW.o.ar B2.o) (RV.o.Z B2.o B2.o.size) hvc sN ht aq⟩;have⟨d0,_⟩:=Y1.o.c8;clear c0 c1 I c3 c4 ob eq PC1;go_wp2_with fail;refine LC.o.mono ?_;rintro e w3 ⟨V2,v2,rfl,o3,b3⟩;have O3:ak _:=⟨o3⟩;have B3:ak (az w2 w3):=⟨b3⟩;clear o3 LC;have wj:0<ps.length:=by
  rcases Nat.eq_zero_or_pos L.length with h0|h0
  .have:=CH.o
   obtain rfl:L=[]:=List.eq_nil_of_length_eq_zero h0;have h1:(f:Int)=(t:Int):=this;omega
  .omega
 obtain⟨g,rfl,eU,dV⟩:=aA.form OB.o.row wj;obtain⟨g9,rfl,hh1,hh2⟩:=O3.o.form (show 0<t-f by omega);have KV:ak (∀q,q<t-f->∃z,w3.cell? ⟨g9,q,OJ⟩=OH (ae aj z)):=⟨λq hq=>by obtain⟨z,_,e⟩:=O3.o.get hq;exact⟨z,e⟩⟩;have HG9:ak (k.heap.size<=g/\g<w2.heap.size/\w2.heap.size<=g9/\g9<w3.heap.size):=⟨eU,dV,hh1,hh2⟩;have OW3:ak (dr w3 k.heap.size (OH ⟨g,0,OJ⟩) o ps/\eJ L (ps.map (·.1))):=⟨(OB.o.ar B3.o).wk,by rw[EQ.o];exact eJ.refl _⟩;have WD3:ak (∀n,bg (ps.map (·.1)) n=bg L n):=⟨λn=>by rw[EQ.o]⟩;have BB3:ak (az k w3):=⟨b2.trans (B3.o.mono b2.size)⟩;have⟨y,hnb⟩:∃y,L.length=y:=⟨_,rfl⟩;have F':ak (ps.length=y/\L.length=y/\0<y/\y<=40):=⟨by have:=CH.o.few;omega⟩;rw[hnb];clear eU dV hh1 hh2 hn hnb wj O3 OB b2 b3;go_wp2;go_loopg[24,48](y+1)(λgg _ v48 wr=>∃(i:Nat) (qs:List BoxM),y-i<gg/\i<=y/\v48=ae aj (i:Int)/\ak (dr wr k.heap.size (OH ⟨g,0,OJ⟩) o qs/\eJ L (qs.map (·.1)))/\ak (∀n,bg (qs.map (·.1)) n=bg L n)/\ak (KP w2.heap.size w3 wr)/\ak (az k wr))
 .exact⟨0,ps,aq,aq,rfl,OW3,WD3,⟨KP.refl _ _⟩,BB3⟩
 obtain⟨i,qs,hg,hi,rfl,OQ,WQ,KK,BQ⟩:=hrel;have Vc:qs.length=y:=by have:=OQ.o.2.len;rw[List.length_map]at this;have:=F'.o;omega
 by_cases aG:i<y
 .have i4:=aU i y
  obtain⟨h1,h2,h3⟩:=CH.o.within (show i<L.length by have:=F'.o;omega);obtain⟨G,gc,c0,-,clv,-,-,-,cf,-,-⟩:=OQ.o.1.kV (show i<qs.length by omega);rw[(OQ.o.2.at_ i).1]at c0;have cf2:=cf 2 aq;obtain⟨q,hq⟩:∃q:Nat,(aR L i).f-(f:Int)=(q:Int):=⟨((aR L i).f-(f:Int)).toNat,aq⟩;have hqm:q<t-f:=aq;obtain⟨z,ez⟩:=KV.o q hqm;obtain⟨n1,n2,n3,n4⟩:=HG9.o;have ez:=KK.o.cell n3 n4 ez;have q0:=gT q;have q1:(q:Int)<((t-f:Nat):Int):=aq;have k0:=gT i;obtain⟨ue,o4,e4⟩:=OQ.o.1.lev (show i<qs.length by omega) z;have O5:ak (dr (wr.setCell ⟨g,i*6+2,OJ⟩ (ae aj z)) k.heap.size (OH ⟨g,0,OJ⟩) o ue/\eJ L (ue.map (·.1))):=⟨o4,OQ.o.2.trans (tF e4).1⟩;have W5:ak (∀n,bg (ue.map (·.1)) n=bg L n):=⟨λn=>((tF e4).2 n).trans (WQ.o n)⟩;have K5:ak (KP w2.heap.size w3 (wr.setCell ⟨g,i*6+2,OJ⟩ (ae aj z))):=⟨KK.o.set n2 _⟩;have B5:ak (az k (wr.setCell ⟨g,i*6+2,OJ⟩ (ae aj z))):=⟨Below.setCell BQ.o (p:=⟨g,i*6+2,OJ⟩) n1 _⟩;have HG5:ak (y-i<gk/\i<y/\y<=40):=⟨hg,aG,F'.o.2.2.2⟩;generalize(aR L i).f=bf at*;clear cf o4 e4 h1 h2 h3 n1 n2 n3 n4 hqm hg;go_wp2;have Ua:=HG5.o;go_roundg(y-i)
  case measure=>omega
  case rel=>exact⟨i+1,ue,aq,aq,afj,O5,W5,K5,B5⟩
 have i4:=cI i y;have Owr:ak _:=⟨OQ.o⟩;have Pwr:ak (Bx wr (N+1) p.row):=⟨X1.o.ar BQ.o X1.o.lt⟩;have Rwr:ak (vg wr (N+2) zL 47):=⟨X2.o.ar BQ.o X2.o.bx.lt⟩;have Qwr:ak (Bx wr (N+3) #[ae aj (f:Int),ae aj (t:Int),ae aj base,ae aj 2,ae aj 0,ae aj 0,PF OZ,Pl OJ 0 0]):=⟨X3.o.ar BQ.o X3.o.lt⟩;have Bwr:ak (az w wr):=⟨B1.o.trans (BQ.o.mono B1.o.size)⟩;have Ja:=aU 0 m;obtain⟨j,hj⟩:∃j,j+1=m:=⟨m-1,aq⟩;have Eu:(m:Int)-1=(j:Int):=aq;obtain⟨ad,x,O,rfl,-,-,-,-,-,-,cE,-⟩:=(PX.o.Z Bwr.o Bwr.o.size).at (show j<m by omega);have hxe:x.en=r:=by rw[<-O,Nat.zero_add,<-HEN.o,show m-1=j by omega]
 rw[hxe]at cE;clear O hxe;have ve:i=y:=aq;subst ve;have H:ak (L.length=i/\0<i/\i<=40):=⟨Cy⟩;have HX:ak (k.heap.size=N+4):=⟨HW4.o⟩;have⟨d,yf⟩:∃d,dH ts L i=d:=⟨_,rfl⟩;have HT:ak (dH ts L i=d/\d<=i):=⟨yf,by rw[<-yf];exact uS _ _ _⟩;have BWL:ak _:=⟨He BW.o⟩;have hic:i<=o:=by have h1:=aA.le OQ.o.1.row;have h2:=OQ.o.2.len;rw[List.length_map]at h2;have:=H.o;omega
 have CU:=qQ yI (OH ⟨g,0,OJ⟩) i o d HT.o.2 hic;have WQ2:ak (bg (qs.map (·.1)) d=bg L d):=⟨WQ.o d⟩;have ae3:ak (yX (bg L d) p.wd (p.al==3&& !last&& !(r==2)) (gY ts (eQ L d))=FW):=⟨by have:=HFW.o;rw[H.o.1,yf]at this;exact this⟩;clear WQ WD3 HFW HEN;clear KK KV OQ OW3 BB3 HG9 X0 X1 X2 X3 yf hg hi PX BW HW4 F';have⟨WA,E⟩:∃W,W=wr.setCell ⟨N+3,3,OJ⟩ (ae aj r):=⟨_,rfl⟩;have OWA:ak (dr WA k.heap.size (OH ⟨g,0,OJ⟩) o qs/\eJ L (qs.map (·.1))):=⟨by rw[E];exact Owr.o.1.low (by rw[HX.o];omega) _ _,Owr.o.2⟩;have PWA:ak (Bx WA (N+1) p.row):=⟨by rw[E];exact Pwr.o.fL (by omega) _ _⟩;have RWA:ak (vg WA (N+2) zL 47):=⟨by rw[E];exact Rwr.o.fL (by omega) _ _⟩;have QWA:ak (Bx WA (N+3) (iM f t base r 0 0 (Pl OJ 0 0))):=⟨by rw[E];exact Qwr.o.jq 3 _⟩;have BWA:ak (az w WA):=⟨by rw[E];exact Below.setCell Bwr.o (p:=⟨N+3,3,OJ⟩) (by have:=HN.o;show w.heap.size<=N+3;omega) _⟩;have y3:wr.cell? ⟨N+3,3,OJ⟩=OH (ae aj 2):=Qwr.o.cell 3;have f3:=Qwr.o.fz 3;clear Owr Pwr Rwr Qwr Bwr;go_upto_region 17 with fail;rw[<-E];clear E y3 f3 cE;have z3:WA.cell? ⟨N+3,3,OJ⟩=OH (ae aj r):=QWA.o.cell 3;have d0:WA.cell? ⟨N+1,0,OJ⟩=OH (Pl p.T p.tn p.tc):=PWA.o.cell 0;have TC:ak _:=⟨by
  obtain⟨b1,uR,-,-,sU⟩:=OWA.o.1.read OWA.o.2 H.o.1;have:=IB p.T p.tn p.tc ts (OH ⟨g,0,OJ⟩) i o b1 WA (P.o.rT.ar BWA.o) (LW.o.ar BWA.o) sU (λj hj=>MY BWL.o.1 uR j (by rw[H.o.1];exact hj)) (by have:=H.o;omega) aq;rw[uh uR,HT.o.1]at this;exact this⟩
 go_wp2_with fail;refine TC.o.mono ?_;rintro e w6 ⟨rfl,b6⟩;have S:ak (dr w6 k.heap.size (OH ⟨g,0,OJ⟩) o qs/\eJ L (qs.map (·.1))):=⟨OWA.o.1.ar b6,OWA.o.2⟩;have Pw6:ak (Bx w6 (N+1) p.row):=⟨PWA.o.ar b6 PWA.o.lt⟩;have Rw6:ak (vg w6 (N+2) zL 47):=⟨RWA.o.ar b6 RWA.o.bx.lt⟩;have Qw6:ak (Bx w6 (N+3) (iM f t base r 0 0 (Pl OJ 0 0))):=⟨QWA.o.ar b6 QWA.o.lt⟩;have Bw6:ak (az w w6):=⟨BWA.o.trans ((b6).mono BWA.o.size)⟩;clear OWA PWA RWA QWA BWA;obtain⟨b2,Fl,lA,-,sC⟩:=S.o.1.read S.o.2 H.o.1;have⟨sw,hsw⟩:∃sw,IK (bg (b2.take d) d)=sw:=⟨_,rfl⟩;have HSW:ak (sw=IK (bg L d)):=⟨by rw[<-hsw,ki b2 d d cr,lA d,WQ2.o]⟩;have SU:ak (∀nq:aI w6,GK prog 33 #[Pl (OH ⟨g,0,OJ⟩) d o] nq.1 λe w'=>e=.returned (ae aj sw)/\EI nq.1.heap.size nq.1 w'):=⟨λnq=>by rw[<-hsw];exact xK (OH ⟨g,0,OJ⟩) d o (b2.take d) nq.1 ((sC.Z nq.2).take HT.o.2) (by have:=H.o;have:=HT.o;omega)⟩;have d4:w6.cell? ⟨N+1,4,OJ⟩=OH (ae aj p.wd):=Pw6.o.cell 4;have D4:=au d4;clear Fl lA sC hsw b6 z3 d0 TC d4;go_wp2;refine aE (kC 127 (·=ae aj sw)) aF aF ?_
 repeat(refine cB aD aD aD ?_;intro K9 bQ;go_big_quiet_op;go_big_quiet_on)
 refine cK (·=ae aj sw) aD aD (λw9 cv=> ?_) (λv9 aX=> ?_)
 .obtain⟨nq,rfl⟩:=cv
  go_simp;exact(SU.o nq).mono λe w' ⟨he,hb⟩=>⟨_,he,rfl,⟨w',nq.2.trans (hb.mono nq.2.size)⟩,rfl⟩
 have aX:v9=ae aj sw:=aX;subst aX;simp[Act.put]
 repeat(refine cB aD aD aD ?_;intro K9 bQ;go_big_quiet_op;go_big_quiet_on)
 intro nq;obtain⟨J,b7⟩:=nq
 try dsimp only
 have u:ak (dr J k.heap.size (OH ⟨g,0,OJ⟩) o qs/\eJ L (qs.map (·.1))):=⟨S.o.1.ar b7,S.o.2⟩;have Pw7:ak (Bx J (N+1) p.row):=⟨Pw6.o.ar b7 Pw6.o.lt⟩;have Rw7:ak (vg J (N+2) zL 47):=⟨Rw6.o.ar b7 Rw6.o.bx.lt⟩;have Qw7:ak (Bx J (N+3) (iM f t base r 0 0 (Pl OJ 0 0))):=⟨Qw6.o.ar b7 Qw6.o.lt⟩;have F:ak (az w J):=⟨Bw6.o.trans ((b7).mono Bw6.o.size)⟩;clear S Pw6 Rw6 Qw6 Bw6;clear b7 D4 SU;have⟨O,hex⟩:∃O,IK (p.wd-sw)=O:=⟨_,rfl⟩;rw[hex];have⟨c1,nT⟩:∃c,(p.al==3)=c:=⟨_,rfl⟩;have⟨I,mu⟩:∃c,(r==2)=c:=⟨_,rfl⟩;have⟨c3,U⟩:∃c,decide (0<O)=c:=⟨_,rfl⟩;have HF:ak (FW=if(c1&& !last&& !I&&c3)=OX then IK (bg L d+Ea (gY ts (eQ L d)) O)else IK (bg L d)):=⟨by
  rw[<-ae3.o,yX,nT,mu,<-HSW.o,hex,U]⟩
 have Q:ak (c3=OX->0<O/\O<9223372036854775808):=⟨λh=>⟨by rw[h]at U;exact of_decide_eq_true U,by rw[<-hex];unfold IK;omega⟩⟩;have H1:ak _:=⟨nT⟩;have H2:ak _:=⟨mu⟩;have H3:ak _:=⟨U⟩;clear hex nT mu U ae3 HSW;have d5:J.cell? ⟨N+1,5,OJ⟩=OH (ae aj p.al):=Pw7.o.cell 5;have d0:J.cell? ⟨N+1,0,OJ⟩=OH (Pl p.T p.tn p.tc):=Pw7.o.cell 0;go_upto_region 22 with fail;go_cut[143](λv M=>v=PF (c1&& !last&& !I&&c3)/\J=M)
 ·
  have h1:=H1.o;have h2:=H2.o;have h3:=H3.o;clear H1 H2 H3 HF Q;cases c1<;>cases I<;>cases c3<;>cases last
  all_goals(go_wp2_with fail;go_meet;exact⟨rfl,rfl⟩)
 obtain⟨rfl,rfl⟩:=hcut;have⟨b,hb⟩:∃b,(c1&& !last&& !I&&c3)=b:=⟨_,rfl⟩;rw[hb]at HF⊢;have HB3:ak (b=OX->c3=OX):=⟨λh=>by rw[h]at hb;simp at hb;exact hb.2⟩;clear hb H1 H2 H3;clear d5;go_upto_if 143 with fail;go_cut[143](λ_ M=>ak (∃l:List BoxM,dr M k.heap.size (OH ⟨g,0,OJ⟩) o l/\eJ L (l.map (·.1))/\IK (bg (l.map (·.1)) d)=FW)/\ak (EI k.heap.size J M))
 ·
  cases b
  .have O7:ak (∃l:List BoxM,dr J k.heap.size (OH ⟨g,0,OJ⟩) o l/\eJ L (l.map (·.1))/\IK (bg (l.map (·.1)) d)=FW):=⟨qs,u.o.1,u.o.2,by rw[WQ2.o,HF.o];rfl⟩
   clear HF Q HB3;go_wp2;go_meet;exact⟨O7,cJ⟩
  .have D0:=au d0
   have ib:k.heap.size<=J.heap.size:=by have:=Qw7.o.lt;have:=HX.o;omega
   have CHq:=lB.aea u.o.2 CH.o;have hlen:(qs.map (·.1)).length=i:=(by rw[u.o.2.len,H.o.1]);have FI:ak (FiB (qs.map (·.1)) d f t):=⟨⟨λa b ha hb e=>CHq.Hq Jo Jo e,λj hj=>CHq.within Jo⟩⟩;obtain⟨he0,he1⟩:=Q.o (HB3.o rfl);obtain⟨T0,hT0⟩:∃T0:Nat,O=(T0:Int):=⟨O.toNat,aq⟩;have HTT:ak (0<T0/\T0<9223372036854775808):=⟨aq⟩;have HFT:ak (FW=IK (bg L d+Ea (gY ts (eQ L d)) O)):=⟨by rw[HF.o];rfl⟩;have CB:ak (eQ (qs.map (·.1)) d=eQ L d):=⟨by unfold eQ;refine List.map_congr_left λj _=> ?_;rw[(u.o.2.at_ j).1,(u.o.2.at_ j).2.1]⟩;clear he0 he1 HF Q HB3;have FC0:∀nq:aI J,_:=λnq=>Xq p.T p.tn p.tc ts k.heap.size g o d qs f t T0 nq.1 (P.o.rT.ar (F.o.trans (nq.2.mono F.o.size))) (LW.o.ar (F.o.trans (nq.2.mono F.o.size))) (u.o.1.ar nq.2) Cz (by rw[List.length_map]at hlen;have:=HT.o;omega) FI.o ht iG (by have:=HT.o;have:=H.o;omega) HTT.o.1 HTT.o.2
   rw[<-hT0]at FC0;have FC:ak _:=⟨FC0⟩;clear hT0 FC0;have HSZ:ak _:=⟨ib⟩;clear d0 CHq hlen FI ib;go_wp2;refine aQ (λ_=>OJ) 8 rfl aF aF aF aF aF rfl ?_
   repeat(refine cH aD aD aD ?_;intro K9 bQ;go_big_quiet_op;go_big_quiet_on)
   intro nq _;go_simp;refine(FC.o nq).mono ?_;rintro e w8 ⟨rfl,l,o8,l8,d8,b8⟩;have O8:ak (∃l:List BoxM,dr w8 k.heap.size (OH ⟨g,0,OJ⟩) o l/\eJ L (l.map (·.1))/\IK (bg (l.map (·.1)) d)=FW):=⟨l,o8,u.o.2.trans l8,by rw[d8,WQ2.o,CB.o,HFT.o]⟩;have B8:ak (EI k.heap.size J w8):=⟨(nq.2.mono HSZ.o).trans b8⟩;clear o8 l8 d8 b8 D0 FC;go_wp2;go_meet;exact⟨O8,B8⟩
 obtain⟨HO,b8⟩:=hcut;obtain⟨l,o8,l8,d8⟩:=HO.o;have Y:ak (dr wc k.heap.size (OH ⟨g,0,OJ⟩) o l/\eJ L (l.map (·.1))):=⟨o8,l8⟩;have Pwc:ak (Bx wc (N+1) p.row):=⟨Pw7.o.ar b8.o (by rw[HX.o];omega)⟩;have Rwc:ak (vg wc (N+2) zL 47):=⟨Rw7.o.ar b8.o (by rw[HX.o];omega)⟩;have Qwc:ak (Bx wc (N+3) (iM f t base r 0 0 (Pl OJ 0 0))):=⟨Qw7.o.ar b8.o (by rw[HX.o];omega)⟩;have Bwc:ak (az w wc):=⟨F.o.trans (b8.o.mono B1.o.size)⟩;have⟨K,ba⟩:∃K,FW=K:=⟨_,rfl⟩;have hwd:IK (bg (l.map (·.1)) d)=K:=d8.trans ba;have HW:ak _:=⟨ba⟩;have SW:ak (GK prog 33 #[Pl (OH ⟨g,0,OJ⟩) d o] wc λe w'=>e=.returned (ae aj K)/\az wc w'):=⟨by
  obtain⟨b3,-,dP,-,hx3⟩:=Y.o.1.read Y.o.2 H.o.1;have:=xK (OH ⟨g,0,OJ⟩) d o (b3.take d) wc (hx3.take HT.o.2) (by have:=H.o;have:=HT.o;omega);rw[ki b3 d d cr,dP d,hwd]at this;exact this⟩
 clear hwd ba d8 HF Q HB3 u Pw7 Rw7 Qw7 F HO b8 o8 l8 d0;go_wp2_with fail;refine SW.o.mono ?_;rintro e w9 ⟨rfl,b9⟩;have Ow9:ak (dr w9 k.heap.size (OH ⟨g,0,OJ⟩) o l/\eJ L (l.map (·.1))):=⟨Y.o.1.ar b9,Y.o.2⟩;have Pw9:ak (Bx w9 (N+1) p.row):=⟨Pwc.o.ar b9 Pwc.o.lt⟩;have Rw9:ak (vg w9 (N+2) zL 47):=⟨Rwc.o.ar b9 Rwc.o.bx.lt⟩;have Qw9:ak (Bx w9 (N+3) (iM f t base r 0 0 (Pl OJ 0 0))):=⟨Qwc.o.ar b9 Qwc.o.lt⟩;have Bw9:ak (az w w9):=⟨Bwc.o.trans ((b9).mono Bwc.o.size)⟩;clear Y Pwc Rwc Qwc Bwc;clear b9 SW;have⟨WB,C⟩:∃W,W=w9.setCell ⟨N+3,5,OJ⟩ (ae aj K):=⟨_,rfl⟩;have OWB:ak (dr WB k.heap.size (OH ⟨g,0,OJ⟩) o l/\eJ L (l.map (·.1))):=⟨by rw[C];exact Ow9.o.1.low (by rw[HX.o];omega) _ _,Ow9.o.2⟩;have PWB:ak (Bx WB (N+1) p.row):=⟨by rw[C];exact Pw9.o.fL (by omega) _ _⟩;have RWB:ak (vg WB (N+2) zL 47):=⟨by rw[C];exact Rw9.o.fL (by omega) _ _⟩;have QWB:ak (Bx WB (N+3) (iM f t base r 0 K (Pl OJ 0 0))):=⟨by rw[C];exact Qw9.o.jq 5 _⟩;have ZO:ak (az w WB):=⟨by rw[C];exact Below.setCell Bw9.o (p:=⟨N+3,5,OJ⟩) (by have:=HN.o;show w.heap.size<=N+3;omega) _⟩;have y3:w9.cell? ⟨N+3,5,OJ⟩=OH (ae aj 0):=Qw9.o.cell 5;have f3:=Qw9.o.fz 5;clear Ow9 Pw9 Rw9 Qw9 Bw9;go_upto_region 25 with fail;rw[<-C];clear C y3 f3;have z5:WB.cell? ⟨N+3,5,OJ⟩=OH (ae aj K):=QWB.o.cell 5;have d4:WB.cell? ⟨N+1,4,OJ⟩=OH (ae aj p.wd):=PWB.o.cell 4;have d5:WB.cell? ⟨N+1,5,OJ⟩=OH (ae aj p.al):=PWB.o.cell 5;go_wp2_with fail;refine(Ng _ _ _ WB).mono ?_;rintro e M ⟨X,rfl,bx⟩;have Owx:ak (dr M k.heap.size (OH ⟨g,0,OJ⟩) o l/\eJ L (l.map (·.1))):=⟨OWB.o.1.ar bx,OWB.o.2⟩;have Pwx:ak (Bx M (N+1) p.row):=⟨PWB.o.ar bx PWB.o.lt⟩;have Rwx:ak (vg M (N+2) zL 47):=⟨RWB.o.ar bx RWB.o.bx.lt⟩;have Qwx:ak (Bx M (N+3) (iM f t base r 0 K (Pl OJ 0 0))):=⟨QWB.o.ar bx QWB.o.lt⟩;have Bwx:ak (az w M):=⟨ZO.o.trans ((bx).mono ZO.o.size)⟩;clear OWB PWB RWB QWB ZO;clear bx z5 d4 d5;have⟨WC,D⟩:∃W,W=M.setCell ⟨N+3,4,OJ⟩ (ae aj X):=⟨_,rfl⟩;have OWC:ak (dr WC k.heap.size (OH ⟨g,0,OJ⟩) o l/\eJ L (l.map (·.1))):=⟨by rw[D];exact Owx.o.1.low (by rw[HX.o];omega) _ _,Owx.o.2⟩;have PWC:ak (Bx WC (N+1) p.row):=⟨by rw[D];exact Pwx.o.fL (by omega) _ _⟩;have RWC:ak (vg WC (N+2) zL 47):=⟨by rw[D];exact Rwx.o.fL (by omega) _ _⟩;have QWC:ak (Bx WC (N+3) (iM f t base r X K (Pl OJ 0 0))):=⟨by rw[D];exact Qwx.o.jq 4 _⟩;have BWC:ak (az w WC):=⟨by rw[D];exact Below.setCell Bwx.o (p:=⟨N+3,4,OJ⟩) (by have:=HN.o;show w.heap.size<=N+3;omega) _⟩;have y3:M.cell? ⟨N+3,4,OJ⟩=OH (ae aj 0):=Qwx.o.cell 4;have f3:=Qwx.o.fz 4;clear Owx Pwx Rwx Qwx Bwx;go_upto_region 26 with fail;rw[<-D];clear D y3 f3;have z4:WC.cell? ⟨N+3,4,OJ⟩=OH (ae aj X):=QWC.o.cell 4;obtain⟨b4,hk4,nQ,hl4,hx4⟩:=OWC.o.1.read OWC.o.2 H.o.1;have PT:ak _:=⟨Is (OH ⟨g,0,OJ⟩) i o b4 d base X WC hx4 (by have:=H.o;omega) HT.o.2 hic (λj=>by rw[(hk4.at_ j).2.2];exact BWL.o.2 j)⟩;generalize mX b4 (qh b4) d (uQ base) X=sh at PT;have EU:N+3<WC.heap.size:=QWC.o.lt;clear hk4 nQ hl4 hx4;go_wp2_with fail;refine PT.o.mono ?_;rintro e wp ⟨A2,cc,ps2,rfl,-,-,bp⟩;have Qp:ak (Bx wp (N+3) (iM f t base r X K (Pl OJ 0 0))):=⟨QWC.o.ar bp EU⟩;have Bp:ak (az w wp):=⟨BWC.o.trans (bp.mono BWC.o.size)⟩;have⟨T,Z⟩:∃W,W=wp.setCell ⟨N+3,7,OJ⟩ (Pl A2 i cc):=⟨_,rfl⟩;have QD:ak (Bx T (N+3) (iM f t base r X K (Pl A2 i cc))):=⟨by rw[Z];exact Qp.o.jq 7 _⟩;have RD:ak (vg T (N+2) zL 47):=⟨by rw[Z];exact(RWC.o.ar bp (by omega)).fL (by omega) _ _⟩;have hNw:w.heap.size<=N:=Cs;have BD:ak (az w T):=⟨by rw[Z];exact Below.setCell Bp.o (p:=⟨N+3,7,OJ⟩) (by show w.heap.size<=N+3;omega) _⟩;have y7:wp.cell? ⟨N+3,7,OJ⟩=OH (Pl OJ 0 0):=Qp.o.cell 7;have f7:=Qp.o.fz 7;have HL3:ak (N+2<WC.heap.size/\w.heap.size<=N+2):=⟨aq,aq⟩;clear bp z4 PT EU hNw Qp Bp OWC PWC RWC QWC BWC;go_upto_region 27 with fail;rw[<-Z];clear Z y7 f7;have qc:=QD.o.cell;have q0:T.cell? ⟨N+3,0,OJ⟩=OH (ae aj (f:Int)):=qc 0;have q1:T.cell? ⟨N+3,1,OJ⟩=OH (ae aj (t:Int)):=qc 1;have l:T.cell? ⟨N+3,2,OJ⟩=OH (ae aj base):=qc 2;have q3:T.cell? ⟨N+3,3,OJ⟩=OH (ae aj r):=qc 3;have q4:T.cell? ⟨N+3,4,OJ⟩=OH (ae aj X):=qc 4;have q5:T.cell? ⟨N+3,5,OJ⟩=OH (ae aj K):=qc 5;have q6:T.cell? ⟨N+3,6,OJ⟩=OH (PF OZ):=qc 6;have q7:T.cell? ⟨N+3,7,OJ⟩=OH (Pl A2 i cc):=qc 7;clear qc;go_wp2_with (refine wpList_store_row rfl 47 (.tmp 20) (.tmp 175) rfl (N+2) _ rfl rfl 47 _ RD.o pE aD (Er _ _ _ _ _ _ _ _ _) ?_);refine bodyPost_ret (results_cell_row results8 _ _ (N+2) 47 _ (0,0) _ aD (setRow_heap _ _ _ _ _ _ RD.o) underlying47 rfl (by rw[pE];rfl)) rfl ?_;exact⟨base,r,X,A2,i,cc,by rw[HW.o],below_setRow BD.o HL3.o.2 _⟩
structure Sx(q:fX):Prop where
 w:Uf q.wide q.inner
 n:q.gs.length<=20000
 g:∀j,-2199023255552<=nth (dS q.gs j) 2/\nth (dS q.gs j) 2<=2199023255552
def No{gs:List aC}(h:∀j,-2199023255552<=nth (dS gs j) 2/\nth (dS gs j) 2<=2199023255552)(a:Int):∀k:Nat,-(k*2199023255552:Int)<=iB gs a k/\iB gs a k<=(k*2199023255552:Int)
 |0=>by simp[iB]
 |k+1=>by
  have:=No h a k;have:=h k;unfold iB;split<;>omega
def Sh{gs:List aC}(h:∀j,-2199023255552<=nth (dS gs j) 2/\nth (dS gs j) 2<=2199023255552)(a:Nat):∀k:Nat,-(k*2199023255552:Int)<=pR gs a k/\pR gs a k<=(k*2199023255552:Int)
 |0=>by simp[pR]
 |k+1=>by
  have:=Sh h a k;have:=h (a+k);unfold pR;omega
def AD{ps:List fX}(h:∀i,Sx (cW ps i))(a:Nat)(b:Int):∀k:Nat,-(k*43980465111040000:Int)<=gi ps a b k/\gi ps a b k<=(k*43980465111040000:Int)
 |0=>by simp[gi]
 |k+1=>by
  have:=AD h a b k;have c:=h (a+k);have:=No c.g b (cW ps (a+k)).gs.length;have:=c.n;unfold gi;omega
def O'{ps:List fX}(h:∀i,Sx (cW ps i))(a:Nat):∀k:Nat,-(k*43980465111040000:Int)<=sG ps a k/\sG ps a k<=(k*43980465111040000:Int)
 |0=>by simp[sG]
 |k+1=>by
  have:=O' h a k;have b:=(h (a+k)).w;unfold Uf at b;unfold sG;omega
def oX(x:Int)(a b:Nat):Prop:= -((b-a:Int)*43980465111040000)<=x/\x<=(b-a:Int)*43980465111040000
def gd(h:∀i,Sx (cW ps i)){a k e:Nat}{last:Bool}(j:k<=60)(f:e<=3)(d:last=OX->e=3):oX (wS ps a k last) 0 (k+e):=by
 have g:=O' h a k;have b: -(e*43980465111040000:Int)<=pI ps a k last/\pI ps a k last<=(e*43980465111040000:Int):=by
  unfold pI;split
  .rename_i c
   have:=d c.1;have b:=(h (a+k-1)).w;unfold Uf at b;omega
  .omega
 unfold wS oX;rw[IntWalk.wrap64_in _ aq];omega
def aew(h:∀i,Sx (cW ps i)){a k e:Nat}{last:Bool}(f:k<=60)(b:e<=3)(c:last=OX->e=3):oX (pS ts ps a k last) 0 (k+e):=by
 unfold pS;split
 .rename_i d _
  have:=AD h a d k;unfold oX;rw[IntWalk.wrap64_in _ aq];omega
 .exact gd h f b c
def sgA(l:List (Int×Int))(i:Nat):Int×Int:=l.getD i (0,0)
def Iz{ts:aC}{ps:List fX}{n:Nat}(h:∀i,Sx (cW ps i))(p:n<=40):∀m a,∃S:Nat->Nat,S 0=0/\(∀i,i<=(fP ts ps n m a).length->S i<=n-a+3)/\∀i,i<(fP ts ps n m a).length->S i<=S (i+1)/\oX (sgA (fP ts ps n m a) i).1 (S i) (S (i+1))/\oX (sgA (fP ts ps n m a) i).2 (S i) (S (i+1))
 |0,a=>⟨λ_=>0,rfl,λ_ _=>Nat.zero_le _,λi hi=>absurd hi (by simp[fP])⟩
 |m+1,a=>by
  have q:=Gz ps (n-a) a;have⟨d,e⟩:=eY (jA ps a (n-a));by_cases c:a+d<n
  .rw[wP e c]
   obtain⟨S,b,j,l⟩:=Iz (ts:=ts) h p m (a+d+1);have f:=gd h (a:=a) (k:=d) (e:=0) (last:=OZ) aq aq aT;have g:=aew (ts:=ts) h (a:=a) (k:=d) (e:=0) (last:=OZ) aq aq aT;refine⟨λi=>match i with|0=>0|i+1=>d+S i,rfl,λi hi=> ?_,λi hi=> ?_⟩
   .match i,hi with
    |0,_=>exact Nat.zero_le _
    |i+1,hi=>have:=j i Df;show d+S i<=_;omega
   .match i,hi with
    |0,_=>
     refine⟨Nat.zero_le _, ?_, ?_⟩
     .show oX (wS _ _ _ _) 0 (d+S 0);rw[b];exact f
     .show oX (pS _ _ _ _ _) 0 (d+S 0);rw[b];exact g
    |i+1,hi=>
     obtain⟨o,s,r⟩:=l i Df;refine⟨Nat.add_le_add_left o d, ?_, ?_⟩
     .show oX (sgA _ i).1 (d+S i) (d+S (i+1));unfold oX at*;omega
     .show oX (sgA _ i).2 (d+S i) (d+S (i+1));unfold oX at*;omega
  .rw[vZ e c]
   refine⟨λi=>match i with|0=>0|_+1=>d+3,rfl,λi hi=> ?_,λi hi=> ?_⟩
   .match i,hi with
    |0,_=>exact Nat.zero_le _
    |i+1,_=>show d+3<=_;omega
   .obtain rfl:i=0:=by simpa using hi
    exact⟨Nat.zero_le _,gd h aq (Nat.le_refl 3) aT,aew h aq (Nat.le_refl 3) aT⟩
def Wm{l:List (Int×Int)}(h:∀t∈l,0<=t.1/\t.1<=268435456){a x:Int}(m:a<=1048576)(n:x<=4611686018427387904):0<=(jk l a x).1/\(jk l a x).1<=max x 0+269484032:=by
 unfold jk;split
 .rename_i t g
  have:=h t (List.mem_of_find?_eq_some g);omega
 .have o:1<=MJ a/\MJ a<=1048576:=by unfold MJ;split<;>omega
  have⟨y,d⟩:=eY (max x 0);have b:0<=y:=aq;rw[d,Int.tdiv_eq_ediv_of_nonneg b];generalize MJ a=e at*;have k:y/e*e<=y:=Int.ediv_mul_le y aq;have c:0<=y/e:=Int.ediv_nonneg b aq;have i:y/e<=y:=Int.ediv_le_self e b;generalize y/e=q at*;have f:(q+1)*e=q*e+e:=by rw[Int.add_mul,Int.one_mul]
  have j:0<=q*e:=Int.mul_nonneg c aq;show 0<=IK (IK (IK q+1)*e)/\IK (IK (IK q+1)*e)<=_;rw[IntWalk.wrap64_in q aq,IntWalk.wrap64_in (q+1) aq,f,IntWalk.wrap64_in _ aq];omega
def Ry{t:Int×Int}{w p v:Int}(c:0<=t.1/\t.1<=max x 0+269484032)(e: -v<=w/\w<=v)(d: -v<=p/\p<=v)(b:v<=2305843009213693952)(a:x<=4611686018427387904):x<=kQ t x w p/\kQ t x w p<=max x 0+269484032+v:=by
 unfold kQ wY;rw[IntWalk.wrap64_in (t.1-w) aq,IntWalk.wrap64_in (t.1-w/2) aq,IntWalk.wrap64_in (t.1-p) aq];split
 .omega
 .split
  .omega
  .split<;>omega
def Kn(x:Int)(s k:Nat):Prop:= -(s*43980465111040000+k*536870912:Int)<=x/\x<=(s*43980465111040000+k*536870912:Int)
def NI{a b:aC}{j:Nat}(h:j<a.length):nth (a++b) j=nth a j:=by simp[nth,List.getElem?_append_left h]
def Qj{a:aC}:nth (a++[x]) a.length=x:=uY
def Qt{l:List (Int×Int)}{b:Int}{W Q:aC}{S:Nat->Nat}{n:Nat}(g:∀t∈l,0<=t.1/\t.1<=268435456)(o:b<=1048576)(w:n<=41)(q:S 0=0)(d:∀i,i<=n->S i<=43)(f:∀i,i<n->S i<=S (i+1)/\oX (nth W i) (S i) (S (i+1))/\oX (nth Q i) (S i) (S (i+1))):∀i,i<=n->Kn (ee l b W Q i).2 (2*S i) i/\∀j,j<i->Kn (nth (ee l b W Q i).1 j) (S j+S (j+1)) (j+1)/\(j=0->nth (ee l b W Q i).1 j=0)
 |0,_=>⟨by show Kn 0 _ _;unfold Kn;omega,λj h=>absurd h (Nat.not_lt_zero _)⟩
 |i+1,hi=>by
  obtain⟨A,u⟩:=Qt g o w q d f i aq;obtain⟨y,r,z⟩:=f i aq;have C:=d (i+1) aq;have hlen:=mF l b W Q i;have⟨x,p⟩:∃x,(if i=0 then 0 else kQ (jk l b (ee l b W Q i).2) (ee l b W Q i).2 (nth W i) (if i<Q.length then nth Q i else nth W i))=x:=⟨_,rfl⟩;have e:ee l b W Q (i+1)=((ee l b W Q i).1++[x],IK (x+nth W i)):=by rw[<-p];rfl
  have c:Kn x (S i+S (i+1)) (i+1)/\(i=0->x=0):=by
   rw[<-p];unfold Kn oX at*;split
   .omega
   .rename_i B
    have k:oX (if i<Q.length then nth Q i else nth W i) (S i) (S (i+1)):=by unfold oX;split<;>omega
    unfold oX at k;have:=Wm g o (x:=(ee l b W Q i).2) aq;have:=Ry (v:=(S (i+1)-S i:Int)*43980465111040000) this r k aq aq;omega
  rw[e];refine⟨?_,λj h=> ?_⟩
  .show Kn (IK _) _ _
   unfold Kn oX at*;rw[IntWalk.wrap64_in _ aq];omega
  .rcases Nat.lt_or_ge j i with m|m
   .rw[NI aq]
    exact u j m
   .obtain rfl:j=i:=by omega
    have s:nth ((ee l b W Q j).1++[x]) j=x:=by
     have:=Qj (a:=(ee l b W Q j).1) (x:=x);rwa [hlen]at this
    show Kn (nth ((ee l b W Q j).1++[x]) j) _ _/\(_->nth ((ee l b W Q j).1++[x]) j=0);rw[s];exact c
def fO(x:bj)(l:List bj):∀j,bg (x::l) (j+1)=x.wd+bg l j
 |0=>by show 0+x.wd=x.wd+0;omega
 |j+1=>by
  show bg (x::l) (j+1)+(aR l j).wd=x.wd+(bg l j+(aR l j).wd);rw[fO x l j];omega
def jU:∀(a b:List bj) (j:Nat),bg (a++b) (a.length+j)=bg a a.length+bg b j
 |[],b,j=>by simp[bg]
 |x::a,b,j=>by
  have:=jU a b j;rw[List.cons_append,List.length_cons,show a.length+1+j=(a.length+j)+1 by omega,fO,fO,this];omega
def lU:∀(a b:List bj) (k:Nat),k<=a.length->bg (a++b) k=bg a k
 |_,_,0,_=>rfl
 |x::a,b,k+1,h=>by rw[List.cons_append,fO,fO,lU a b k zl]
def fJ:∀(l:List bj) (j:Nat),(∀b∈l,b.wd=0)->bg l j=0
 |_,0,_=>rfl
 |[],j+1,_=>by
  have:=fJ [] j aT;show bg [] j+0=0;omega
 |x::l,j+1,h=>by rw[fO,fJ l j λb a=>h b (List.mem_cons_of_mem _ a),h x (List.mem_cons_self ..)];rfl
def pf(L:List bj)(b:Int):Prop:=∀j,-b<=bg L j/\bg L j<=b
def pf.app{a b:List bj}{y z:Int}(h:pf a x)(k:pf b y)(e:x+y<=z)(d:0<=y):pf (a++b) z:=λj=>by
 rcases Nat.lt_or_ge a.length j with c|c
 .obtain⟨i,rfl⟩:∃i,j=a.length+i:=⟨j-a.length,aq⟩
  have:=h a.length;have:=k i;rw[jU];omega
 .have:=h j
  rw[lU _ _ _ c];omega
def Ij(h:Sx q){lv fo:Int}{a:List (Nat×Nat)}{i:Nat}(hi:(cV a i).1<=(cV a i).2)(e:(cV a i).2<=20000):pf (mL ts q lv fo a i) (((cV a i).2-(cV a i).1:Int)*2199023255552):=λj=>by
 have d:=Sh h.g (cV a i).1 ((cV a i).2-(cV a i).1);unfold mL
 match j with
 |0=>show _<=(0:Int)/\(0:Int)<=_;omega
 |j+1=>
  rw[fO,fJ _ _ λb c=>by split at c;(obtain rfl:=List.mem_singleton.1 c;rfl);cases c];show _<=IK (pR q.gs (cV a i).1 ((cV a i).2-(cV a i).1))+0/\IK (pR q.gs (cV a i).1 ((cV a i).2-(cV a i).1))+0<=_;rw[IntWalk.wrap64_in _ aq];omega
def xB{ts:aC}{q:fX}(h:Sx q){lv fo:Int}:∀i,i<(dI (aM q.gs) q.gs.length).length->pf (gH ts q lv fo (dI (aM q.gs) q.gs.length) (i+1)) ((cV (dI (aM q.gs) q.gs.length) i).2*2199023255552:Int)
 |0,hi=>by
  obtain⟨c,d,_⟩:=mV (aM q.gs) q.gs.length 0 hi;have e:=h.n;show pf ([]++_) _;have a:=Ij (ts:=ts) (lv:=lv) (fo:=fo) h (by omega:(cV (dI (aM q.gs) q.gs.length) 0).1<=_) aq;exact pf.app (x:=0) (λj=>by rw[fJ _ _ (by simp)];omega) a aq aq
 |i+1,hi=>by
  obtain⟨c,d,_⟩:=mV (aM q.gs) q.gs.length (i+1) hi;obtain⟨_,_,b⟩:=mV (aM q.gs) q.gs.length i aq;have b:=b hi;have e:=h.n;have a:=Ij (ts:=ts) (lv:=lv) (fo:=fo) h (by omega:(cV (dI (aM q.gs) q.gs.length) (i+1)).1<=_) aq;exact pf.app (xB h i aq) a aq aq
def Px(h:Sx q)(lv fo:Int):pf (fu ts q lv fo) 43980465111040000:=by
 have d:pf (mE q lv) 0:=λj=>by
  rw[fJ _ _ λb a=> ?_]
  .omega
  .unfold mE at a
   split at a
   .obtain rfl:=List.mem_singleton.1 a;rfl
   .split at a
    .obtain rfl:=List.mem_singleton.1 a;rfl
    .cases a
 have f:=h.n;unfold fu;have⟨k,c⟩:=eY ((dI (aM q.gs) q.gs.length).length);rw[c]
 match k,c with
 |0,_=>exact d.app (y:=0) (λj=>by rw[show gH ts q lv fo _ 0=[]from rfl,fJ _ _ (by simp)];omega) aq aq
 |k+1,c=>
  obtain⟨_,e,_⟩:=mV (aM q.gs) q.gs.length k aq;exact d.app (xB h k aq) aq aq
def Ob{ts:aC}{rn:List (Int×Int)}{W Bg:aC}{ps:List fX}{S:Nat->Nat}{n:Nat}(h:∀i,Sx (cW ps i))(t:Bg.length=n)(r:0<n)(F:n<=41)(b:∀i,i<=n->S i<=43)(l:∀i,i<n->S i<=S (i+1)/\oX (nth W i) (S i) (S (i+1)))(c:∀j,j<n->Kn (nth Bg j) (S j+S (j+1)) (j+1)/\(j=0->nth Bg j=0)):∀i,i<=40->∃D:Int,bg (eE ts rn W Bg ps i).1 (eE ts rn W Bg ps i).1.length=nth Bg (min (eE ts rn W Bg ps i).2 (n-1))+D/\oX D 0 (i+S (min (eE ts rn W Bg ps i).2 (n-1)))/\pf (eE ts rn W Bg ps i).1 7476679168876800000
 |0,_=>by
  refine⟨0, ?_, ?_,λj=> ?_⟩
  .show 0=nth Bg (min 0 (n-1))+0
   rw[Nat.zero_min,(c 0 r).2 rfl];rfl
  .show oX 0 _ _;unfold oX;omega
  .rw[show(eE ts rn W Bg ps 0).1=[]from rfl,fJ _ _ aT];omega
 |i+1,hi=>by
  obtain⟨D,d,g,e⟩:=Ob h t r F b l c i aq;have⟨k,m⟩:=eY ((eE ts rn W Bg ps i).2);rw[m]at d g;have v:=(c (min k (n-1)) aq).1;have H:=b (min k (n-1)) aq;have G:=b (min k (n-1)+1) aq;have p:=e (eE ts rn W Bg ps i).1.length;unfold oX at g;unfold Kn at v;cases p:(cW ps i).iX
  .have s:=Px (ts:=ts) (h i) (rn.getD (cW ps i).run (0,0)).1 (rn.getD (cW ps i).run (0,0)).2
   rw[pN p];dsimp only;rw[m];refine⟨D+bg (fu ts (cW ps i) (rn.getD (cW ps i).run (0,0)).1 (rn.getD (cW ps i).run (0,0)).2) (fu ts (cW ps i) (rn.getD (cW ps i).run (0,0)).1 (rn.getD (cW ps i).run (0,0)).2).length, ?_, ?_,λj=> ?_⟩
   .rw[List.length_append,jU,d];omega
   .have:=s (fu ts (cW ps i) (rn.getD (cW ps i).run (0,0)).1 (rn.getD (cW ps i).run (0,0)).2).length
    unfold oX;omega
   .rcases Nat.lt_or_ge (eE ts rn W Bg ps i).1.length j with a|a
    .obtain⟨u,rfl⟩:∃u,j=(eE ts rn W Bg ps i).1.length+u:=⟨j-(eE ts rn W Bg ps i).1.length,aq⟩
     have:=s u;rw[jU,d];omega
    .rw[lU _ _ _ a];exact e j
  .rw[nm p]
   dsimp only;rw[m];have⟨L,B⟩:=eY ((eE ts rn W Bg ps i).1);rw[B]at d e⊢;have⟨x,w⟩:=eY (if k+1<Bg.length then IK (IK (nth Bg (k+1)-nth Bg k)-nth W k)else 0);rw[w];have key:∃f,bg L L.length+x=nth Bg (min (k+1) (n-1))+f/\oX f 0 (i+1+S (min (k+1) (n-1))):=by
    rw[<-w,d,t];split
    .rename_i a
     obtain⟨I,E⟩:=l k aq;have y:=(c (k+1) a).1;have A:=b (k+1+1) aq;have z:=(l (k+1) a).1;rw[show min k (n-1)=k by omega]at g v⊢;rw[show min (k+1) (n-1)=k+1 by omega];unfold oX at E;unfold Kn at y;refine⟨D-nth W k, ?_, ?_⟩
     .rw[IntWalk.wrap64_in (nth Bg (k+1)-nth Bg k) aq,IntWalk.wrap64_in _ aq];omega
     .unfold oX;omega
    .rw[show min k (n-1)=n-1 by omega]at g⊢
     rw[show min (k+1) (n-1)=n-1 by omega];exact⟨D,aq,by unfold oX;omega⟩
   obtain⟨f,C,q⟩:=key;have o:=(c (min (k+1) (n-1)) aq).1;have A:=b (min (k+1) (n-1)) aq;have z:=b (min (k+1) (n-1)+1) aq;refine⟨f, ?_,q,λj=> ?_⟩
   .rw[List.length_append,jU,<-C]
    show _+(0+x)=_;omega
   .rcases Nat.lt_or_ge L.length j with a|a
    .obtain⟨u,rfl⟩:∃u,j=L.length+(u+1):=⟨j-L.length-1,aq⟩
     rw[jU,fO,fJ [] u aT];unfold oX at q;unfold Kn at o;show _<=bg L L.length+(x+0)/\bg L L.length+(x+0)<=_;omega
    .rw[lU _ _ _ a];exact e j
def cU.tbs(h:cU w B MX A n c):∃l,l.length=n/\UB w B l A:=by
 rcases Nat.eq_zero_or_pos n with rfl|r
 .exact⟨[],rfl,λj hj=>absurd hj aT⟩
 obtain⟨d,o,f,q⟩:=h.2.2.2 r;have b:∀j:Fin n,∃p:Int×Int,w.cell? (d.add (j.1*2))=OH (ae aj p.1)/\w.cell? (bX (d.add (j.1*2)) 1)=OH (ae aj p.2):=λj=>by
  obtain⟨s,⟨_,_,rfl,⟨x,rfl,_⟩,⟨y,rfl,_⟩⟩,k⟩:=q j.1 j.2;have g:=k 0 _ rfl;have m:=k 1 _ rfl;rw[oZ]at g;exact⟨(x,y),g,m⟩
 let F:Fin n->Int×Int:=λj=>(b j).choose
 have i:=λj=>(b j).choose_spec
 refine⟨List.ofFn F,aT,λj hj=> ?_⟩;have a:j<n:=vO;have e:jJ (List.ofFn F) j=F ⟨j,a⟩:=by simp[jJ,a]
 rw[e];exact⟨d,o,f,(i ⟨j,a⟩).1,(i ⟨j,a⟩).2⟩
def ta.drop{a:Nat}(h:ta w B xs a k A):ta w B ((xs.drop a).take k) 0 k A:=⟨by rw[List.length_take,List.length_drop];have:=h.1;omega,λj b=>by
 have e:jX ((xs.drop a).take k) (0+j)=jX xs (a+j):=by
  have:=h.1;rw[fH YY,fH aq];simp
 rw[e];exact h.2 j b⟩
def iQ.part{d:Nat}(h:iQ n d xs)(a k:Nat):iQ n d ((xs.drop a).take k):=by
 have c:∀x∈(xs.drop a).take k,x∈xs:=λx b=>List.mem_of_mem_drop (List.mem_of_mem_take b)
 exact⟨λx b=>h.run x (c x b),λx b=>h.ne x (c x b),λx b=>h.gl x (c x b),h.up.sublist ((List.take_sublist _ _).trans (List.drop_sublist _ _)),λi hi=>by
  rw[List.length_take,List.length_drop]at hi;rw[fH YY,fH YY];simp only[List.getElem_take,List.getElem_drop];rw[<-fH,<-fH];exact h.ad (a+i) aq⟩
def iQ.inT{a:Nat}(h:iQ n a xs):InT n xs:=⟨λi hi=>h.ne _ (jd hi)⟩
def iQ.side(h:iQ n k xs):El (qs xs):=by
 have e:∀i,i<(qs xs).length->i<xs.length/\cW (qs xs) i=(jX xs i).q/\jX xs i∈xs:=λi hi=>by
  have a:i<xs.length:=by simpa[qs]using hi
  exact⟨a,mM a,jd a⟩
 refine⟨λi hi j c=> ?_,λi j d c=> ?_,λi hi=> ?_⟩
 .obtain⟨_,b,m⟩:=e i hi
  rw[b]at c⊢;exact(fY.each _ (h.gl _ m).2.2 _ (nD c)).1
 .obtain⟨f,b,_⟩:=e i aq
  obtain⟨g,l,_⟩:=e j c;rw[b,l,fH f,fH g];exact List.pairwise_iff_getElem.1 h.up i j f g d
 .obtain⟨_,b,m⟩:=e i hi
  rw[b];exact(h.ne _ m).1
def iQ.bxi{v:List aC}(h:iQ p.tn n xs)(f:kf w p ts)(d:p.tn<=100000)(e:p.bn<=1000)(x:ta w w.heap.size xs 0 m A)(C:xs.length=m)(o:m<=c)(E:m<=900)(F:Rx w w.heap.size 6 v R n):∃l,XI w s p ts l xs A m c v R n:=by
 obtain⟨l,g,z⟩:=f.rB.tbs;refine⟨l,f.rT,d,x,o,E,C,F,λj t=> ?_,λj t=> ?_,z,g,e,h.side⟩
 .have b:=jd (xs:=xs) (i:=j) aq
  obtain⟨D,⟨g2,-⟩,u⟩:=h.gl _ b;obtain⟨y,B⟩:=h.ne _ b;obtain⟨G,_,_,_,q⟩:=x.2 j t;rw[Nat.zero_add]at q;have r:∀k,k<(jX xs j).q.gs.length->Lq (jX xs j).q.f (jX xs j).q.t (dS (jX xs j).q.gs k)/\Lw (dS (jX xs j).q.gs k):=λk a=>⟨(fY.each _ u _ (nD a)).1,(fY.each _ u _ (nD a)).2.1⟩
  exact⟨f.rT,q,λk a=>by rw[gK a];exact(r k a).1,y,B,aq,λk a=>by rw[Nat.zero_add];have:=(r k a).2;unfold Lw at this;omega,d,D⟩
 .exact h.run _ (jd aq)
def XI.Z{e:EE}{l:List (Int×Int)}{d:List aC}(h:XI w s p ts l xs A m c d R b)(a:az w e):XI e s p ts l xs A m c d R b:=
 ⟨h.tx.ar a,h.tn,h.px.Z a a.size,h.mc,h.ml,h.xl,h.rx.Z a a.size,λj f=>(h.ql j f).Z a,h.rn,h.tb.Z a a.size,h.tl,h.bl,h.sd⟩
def cU.ints{k:IntKind}(h:cU w w.heap.size (.num k) A n c):∃xs,aJ k w A n c xs:=by
 rcases Nat.eq_zero_or_pos n with rfl|p
 .exact⟨[],⟨⟨rfl,λh=>absurd h aq⟩,h.1,h.2.1,aT⟩⟩
 obtain⟨i,m,d,o⟩:=h.2.2.2 p;have a:∀j:Fin n,∃z:Int,(Lit.int k z).wf=OX/\w.cell? (i.add j.1)=OH (.int k z):=λj=>by
  obtain⟨s,⟨z,rfl,l⟩,q⟩:=o j.1 j.2;have f:=q 0 _ rfl;rw[oZ,show j.1*(Ty.num k).n=j.1 from Nat.mul_one _]at f;exact⟨z,l,f⟩
 let F:Fin n->Int:=λj=>(a j).choose
 have g:=λj=>(a j).choose_spec
 refine⟨List.ofFn F,⟨⟨aT,λ_=>⟨i,m,d,λj b=> ?_⟩⟩,h.1,h.2.1,λx r=> ?_⟩⟩
 .have e:nth (List.ofFn F) j=F ⟨j,b⟩:=by simp[nth,b]
  rw[e];exact(g ⟨j,b⟩).2
 .obtain⟨j,rfl⟩:=List.mem_ofFn.1 r
  exact(g j).1
def Xi{a:List EN}(h:Rd w w.heap.size Zk a):∃(x:jz) (ts:aC),a=x.row.toList/\kf w x ts:=by
 obtain⟨_,_,rfl,⟨l,r,c0,rfl,e⟩,⟨_,_,rfl,⟨n,j,b,rfl,m⟩,⟨_,_,rfl,⟨i,q,k,rfl,o⟩,⟨_,_,rfl,⟨f,rfl,_⟩,⟨_,_,rfl,⟨s,rfl,_⟩,⟨_,_,rfl,⟨c,rfl,_⟩,⟨_,_,rfl,⟨g,rfl,_⟩,⟨d,rfl⟩⟩⟩⟩⟩⟩⟩⟩:=h;obtain⟨ts,p⟩:=cU.ints e;exact⟨⟨l,r,c0,n,j,b,i,q,k,f,s,c,g,d⟩,ts,rfl,⟨p,m,o⟩⟩
