/- Part of LineFills. -/
import Derived.Test.YtijcgdkpconjcaaGreatDoorAh
import Derived.Test.YtijcgdkpconjcaaGreatDoorAm
namespace Go.Proofs.YtijcgdkpconjcaaGreatDoor
open Go.ChangeShapes Go.WideShapes Go.ChangeAt Go.RowKit Go.Proofs.Tryz
open Go renaming World->EE,Value->EN,Calls->GK,TypeId->IQ,Ending->IS,Program->I3
open Go.RowKit renaming Below->EI,wrap64->IK
open Option renaming some->OH,none->OJ
open Bool renaming true->OX,false->OZ
open Go.Value renaming slice->Pl,bool->PF,pointer->PK,tuple->P8,agg->Q4
open Go.Ending renaming returned->RE
open Go.Obj renaming cells->RM
open Go.Value renaming int->ae
open Go.IntKind renaming i64->aj
set_option linter.all false
set_option maxRecDepth 100000
set_option maxHeartbeats 16000000
variable{ts:aC}{B a c d g i j k k0 m n:Nat}{gs:List aC}{x:Int}{W w:EE}{A b:aB}{hi lo:Option EN}{t:IQ}
structure fX where
 f:Nat
 t:Nat
 run:Nat
 wide:Int
 inner:Int
 iX:Bool
 gs:List aC
deriving Inhabited
def cW(ps:List fX)(i:Nat):fX:=ps.getD i default
def ti(a b:Int):IK (IK a+b)=IK (a+b):=CM
def iB(gs:List aC)(a:Int):Nat->Int
 |0=>0
 |j+1=>iB gs a j+if nth (dS gs j) 1<a then nth (dS gs j) 2 else 0
def gi(ps:List fX)(a:Nat)(b:Int):Nat->Int
 |0=>0
 |k+1=>gi ps a b k+iB (cW ps (a+k)).gs b (cW ps (a+k)).gs.length
def sG(ps:List fX)(a:Nat):Nat->Int
 |0=>0
 |k+1=>sG ps a k+(cW ps (a+k)).wide
def jm(ts:aC)(x:Nat):Nat->Option Nat
 |0=>OJ
 |k+1=>match jm ts x k with
  |some d=>OH d
  |none=>if nth ts (x+k)=46 then OH (x+k)else OJ
def lL(ts:aC)(ps:List fX)(a:Nat):Nat->Option Nat
 |0=>OJ
 |k+1=>match lL ts ps a k with
  |some d=>OH d
  |none=>jm ts (cW ps (a+k)).f ((cW ps (a+k)).t-(cW ps (a+k)).f)
def pI(ps:List fX)(a k:Nat)(last:Bool):Int:=if last=OX/\0<k then(cW ps (a+k-1)).inner-(cW ps (a+k-1)).wide else 0
def wS(ps:List fX)(a k:Nat)(last:Bool):Int:=IK (sG ps a k+pI ps a k last)
def pS(ts:aC)(ps:List fX)(a k:Nat)(last:Bool):Int:=match lL ts ps a k with
 |some d=>IK (gi ps a d k)
 |none=>wS ps a k last
def jA(ps:List fX)(a:Nat):Nat->Nat
 |0=>0
 |k+1=>if(cW ps a).iX=OX then 0 else 1+jA ps (a+1) k
def fP(ts:aC)(ps:List fX)(n:Nat):Nat->Nat->List (Int×Int)
 |0,_=>[]
 |m+1,a=>if a+jA ps a (n-a)<n then(wS ps a (jA ps a (n-a)) OZ,pS ts ps a (jA ps a (n-a)) OZ)::fP ts ps n m (a+jA ps a (n-a)+1)
  else[(wS ps a (jA ps a (n-a)) OX,pS ts ps a (jA ps a (n-a)) OX)]
def yb{ps:List fX}:∀{k a d:Nat},(∀j,j<d->(cW ps (a+j)).iX=OZ)->d<=k->(d=k∨(cW ps (a+d)).iX=OX)->jA ps a k=d
 |0,a,d,_,h2,_=>by simp[jA];omega
 |k+1,a,0,h1,h2,b=>by
  rcases b with b|b
  .omega
  .simp only[Nat.add_zero]at b;simp[jA,b]
 |k+1,a,d+1,h1,h2,b=>by
  have c:=h1 0 aq;simp only[Nat.add_zero]at c;unfold jA;rw[if_neg (by simp[c]),yb (k:=k) (a:=a+1) (d:=d) (λj e=>by have:=h1 (j+1) (by omega);rwa [show a+(j+1)=a+1+j by omega]at this) aq (by
   rcases b with b|b
   .exact .inl aq
   .exact .inr (by rwa [show a+1+d=a+(d+1) by omega]))]
  omega
def Gz(ps:List fX):∀k a,jA ps a k<=k
 |0,a=>by simp[jA]
 |k+1,a=>by
  unfold jA;split
  .omega
  .have:=Gz ps k (a+1);omega
def wP{ps:List fX}(b:jA ps a (n-a)=d)(h:a+d<n):fP ts ps n (m+1) a=(wS ps a d OZ,pS ts ps a d OZ)::fP ts ps n m (a+d+1):=by
 rw[fP,b,if_pos h]
def vZ{ps:List fX}(b:jA ps a (n-a)=d)(h:¬a+d<n):fP ts ps n (m+1) a=[(wS ps a d OX,pS ts ps a d OX)]:=by
 rw[fP,b,if_neg h]
def qL{ts:aC}{ps:List fX}{n:Nat}:∀m a,(fP ts ps n m a).length<=m
 |0,a=>by simp[fP]
 |m+1,a=>by
  unfold fP;split
  .have:=qL (ts:=ts) (ps:=ps) (n:=n) m (a+jA ps a (n-a)+1);simp;omega
  .simp
structure El(ps:List fX):Prop where
 cl:∀i,i<ps.length->∀j,j<(cW ps i).gs.length->(cW ps i).f<=nth (dS (cW ps i).gs j) 1/\nth (dS (cW ps i).gs j) 1<(cW ps i).t
 up:∀i j,i<j->j<ps.length->(cW ps i).t<=(cW ps j).f
 ne:∀i,i<ps.length->(cW ps i).f<(cW ps i).t
def zT{gs:List aC}{x y:Int}:∀{k:Nat},(∀j,j<k->nth (dS gs j) 1<x)->(∀j,j<k->nth (dS gs j) 1<y)->iB gs x k=iB gs y k
 |0,_,_=>rfl
 |k+1,h1,h2=>by
  unfold iB;rw[zT (k:=k) (λj a=>h1 j aq) (λj a=>h2 j aq),if_pos (h1 k aq),if_pos (h2 k aq)]
def wZ{gs:List aC}{x:Int}:∀{k:Nat},(∀j,j<k->x<=nth (dS gs j) 1)->iB gs x k=0
 |0,_=>rfl
 |k+1,h=>by
  unfold iB;rw[wZ (k:=k) (λj a=>h j aq),if_neg (by have:=h k (by omega);omega)];rfl
def sE(ps:List fX)(a:Nat):Nat->Int
 |0=>0
 |k+1=>sE ps a k+iB (cW ps (a+k)).gs (cW ps (a+k)).t (cW ps (a+k)).gs.length
def ub{ps:List fX}(h:El ps){a:Nat}{d:Int}:∀{k:Nat},a+k<=ps.length->(∀j,j<k->((cW ps (a+j)).t:Int)<=d)->gi ps a d k=sE ps a k
 |0,_,_=>rfl
 |k+1,h1,h2=>by
  unfold gi sE;rw[ub h (k:=k) aq (λj b=>h2 j aq)]
  congr 1
  refine zT (λj b=> ?_) (λj b=>(h.cl _ aq j b).2);have:=(h.cl (a+k) aq j b).2;have:=h2 k aq;omega
def xV{ts:aC}{x:Nat}:∀{k d:Nat},jm ts x k=OH d->x<=d/\d<x+k
 |0,d,h=>by simp[jm]at h
 |k+1,d,h=>by
  unfold jm at h;split at h
  .rename_i b a
   injection h with h
   subst h;have:=xV a;omega
  .split at h
   .injection h with h;omega
   .cases h
def Ka{ps:List fX}(h:El ps){a k d:Nat}(b:a+k<ps.length)(c:(cW ps (a+k)).f<=d):sE ps a k+iB (cW ps (a+k)).gs d (cW ps (a+k)).gs.length=gi ps a d (k+1):=by
 show _=gi ps a d k+_;rw[ub h aq (λj e=> ?_)];have:=h.up (a+j) (a+k) aq b;omega
def Fx{ps:List fX}(h:El ps){a k i d:Nat}(hi:i<k)(b:a+k<ps.length)(e:d<(cW ps (a+i)).t):gi ps a d (k+1)=gi ps a d k:=by
 show gi ps a d k+_=_;rw[wZ (λj c=> ?_)]
 .omega
 .have:=(h.cl (a+k) b j c).1
  have:=h.up (a+i) (a+k) aq b;omega
def IE{ts:aC}{ps:List fX}{a:Nat}:∀{k d:Nat},lL ts ps a k=OH d->∃i,i<k/\(cW ps (a+i)).f<=d/\(d<(cW ps (a+i)).t)
 |0,d,h=>by simp[lL]at h
 |k+1,d,h=>by
  unfold lL at h;split at h
  .rename_i f b
   injection h with h
   subst h;obtain⟨i,e,c⟩:=IE b;exact⟨i,aq,c⟩
  .have:=xV h
   exact⟨k,aq,aq,aq⟩
def JW{ps:List fX}(h:lL ts ps a k=OH d):lL ts ps a (k+1)=OH d:=by
 show(match lL ts ps a k with|some d=>OH d|none=>_)=_;rw[h]
def KU{ps:List fX}(h:lL ts ps a k=OJ):lL ts ps a (k+1)=jm ts (cW ps (a+k)).f ((cW ps (a+k)).t-(cW ps (a+k)).f):=by
 show(match lL ts ps a k with|some d=>OH d|none=>_)=_;rw[h]
def qP{x:Nat}(h:jm ts x k=OH d):jm ts x (k+1)=OH d:=by
 show(match jm ts x k with|some d=>OH d|none=>_)=_;rw[h]
def qX{x:Nat}(h:jm ts x k=OJ):jm ts x (k+1)=if nth ts (x+k)=46 then OH (x+k)else OJ:=by
 show(match jm ts x k with|some d=>OH d|none=>_)=_;rw[h]
def I6{ts:aC}{x d:Nat}:∀{k m:Nat},k<=m->jm ts x k=OH d->jm ts x m=OH d
 |0,0,_,e=>e
 |k+1,0,h,_=>by omega
 |k,m+1,h,e=>by
  rcases Nat.eq_or_lt_of_le h with rfl|h
  .exact e
  .exact qP (I6 aq e)
def jJ(l:List (Int×Int))(j:Nat):Int×Int:=l.getD j (0,0)
def MJ(every:Int):Int:=if every<1 then 48 else every
def jk(l:List (Int×Int))(every x:Int):Int×Int:=match l.find? (λt=>decide (x<t.1))with
 |some t=>t
 |none=>(IK (IK (IK ((max x 0).tdiv (MJ every))+1)*MJ every),0)
def wY(n:Int):Int:=n/2
def kQ(t:Int×Int)(x wide a:Int):Int:=max (if t.2=1 then IK (t.1-wide)else if t.2=2 then IK (t.1-wY wide)else if t.2=3 then IK (t.1-a)else t.1) x
def ee(l:List (Int×Int))(every:Int)(W Q:aC):Nat->aC×Int
 |0=>([],0)
 |i+1=>
  let x:=if i=0 then 0 else kQ (jk l every (ee l every W Q i).2) (ee l every W Q i).2 (nth W i) (if i<Q.length then nth Q i else nth W i)
  ((ee l every W Q i).1++[x],IK (x+nth W i))
def mF(l:List (Int×Int))(every:Int)(W Q:aC):∀i,(ee l every W Q i).1.length=i
 |0=>rfl
 |i+1=>by simp[ee,mF l every W Q i]
def xU(gs:List aC)(a m:Nat)(b:Bool):Nat->aC×Int
 |0=>(List.replicate m 0,0)
 |k+1=>
  let i:=if b=OX then m-1-k else k
  ((xU gs a m b k).1.set i (xU gs a m b k).2,IK ((xU gs a m b k).2+nth (dS gs (a+i)) 2))
def xP(gs:List aC)(a:Nat)(o:aC):Nat->aC
 |0=>o
 |i+1=>if(a:Int)<=nth (dS gs (a+i)) 5/\nth (dS gs (a+i)) 5<(a:Int)+i then(xP gs a o i).set i (nth (xP gs a o i) (nth (dS gs (a+i)) 5-a).toNat)else xP gs a o i
def Hi(gs:List aC)(a m:Nat)(b:Bool):∀k,(xU gs a m b k).1.length=m
 |0=>by simp[xU]
 |k+1=>by simp[xU,Hi gs a m b k]
def Hj(gs:List aC)(a:Nat)(o:aC):∀k,(xP gs a o k).length=o.length
 |0=>rfl
 |k+1=>by unfold xP;split<;>simp[Hj gs a o k]
def FT(gs:List aC)(a m:Nat)(b:Bool):aC:=xP gs a (xU gs a m b m).1 m
def Am(lv:Int):Bool:=decide (lv%2≠0)
def gm(b:Int)(gs:List aC)(a m:Nat)(c:Bool)(i:Nat):gF:=⟨b,nth (dS gs (a+i)) 0,IK (nth (FT gs a m c) i+nth (dS gs (a+i)) 3),nth (dS gs (a+i)) 4⟩
def pR(gs:List aC)(a:Nat):Nat->Int
 |0=>0
 |k+1=>pR gs a k+nth (dS gs (a+k)) 2
def lO(f t:Int)(lv c:Int)(gs:List aC)(a b:Nat):bj:=⟨f,t,lv,0,IK (pR gs a (b-a)),(List.range (b-a)).map (gm c gs a (b-a) (Am lv))⟩
def jZ(ts:aC)(k:Nat):Nat->Bool
 |0=>OZ
 |m+1=>jZ ts k m||oI (nth ts (k+m))
def jP(ts:aC)(from_:Int):Nat->Nat->Nat
 |0,z=>z
 |m+1,z=>if(mQ (ks ts) z:Int)<=from_ then z else if jZ ts (mQ (ks ts) z) (z-mQ (ks ts) z)=OX then z else jP ts from_ m (mQ (ks ts) z)
def jH(f t lv:Int):bj:=⟨f,t,lv,0,0,[]⟩
def qW(q:fX)(a:List (Nat×Nat))(i:Nat):Int:=if i+1<a.length then nth (aM q.gs) (a.getD (i+1) (0,0)).1 else q.t
def mL(ts:aC)(q:fX)(lv d:Int)(c:List (Nat×Nat))(i:Nat):List bj:=
 let a:=(c.getD i (0,0)).1
 let b:=(c.getD i (0,0)).2
 let e:Int:=jP ts (nth (aM q.gs) a) (qW q c i).toNat (qW q c i).toNat
 lO (nth (aM q.gs) a) e lv d q.gs a b::if e<qW q c i then[jH e (qW q c i) lv]else[]
def gH(ts:aC)(q:fX)(lv a:Int)(b:List (Nat×Nat)):Nat->List bj
 |0=>[]
 |i+1=>gH ts q lv a b i++mL ts q lv a b i
def mE(q:fX)(lv:Int):List bj:=if q.gs.length=0 then[jH q.f q.t lv]else if(q.f:Int)<nth (aM q.gs) 0 then[jH q.f (nth (aM q.gs) 0) lv]else[]
def fu(ts:aC)(q:fX)(lv a:Int):List bj:=mE q lv++gH ts q lv a (dI (aM q.gs) q.gs.length) (dI (aM q.gs) q.gs.length).length
def eE(ts:aC)(rn:List (Int×Int))(W Bg:aC)(ps:List fX):Nat->List bj×Nat
 |0=>([],0)
 |i+1=>
  let q:=cW ps i
  let r:=rn.getD q.run (0,0)
  let s:=eE ts rn W Bg ps i
  if q.iX=OX then(s.1++[⟨q.f,q.t,r.1,0,if s.2+1<Bg.length then IK (IK (nth Bg (s.2+1)-nth Bg s.2)-nth W s.2)else 0,[]⟩],s.2+1)
  else(s.1++fu ts q r.1 r.2,s.2)
structure fv where
 q:fX
 G:aB
 gc:Nat
 en:Int
 P:aB
 pn:Nat
 pc:Nat
deriving Inhabited
def fv.F(x:fv):List EN:=[ae aj (x.q.f:Int),ae aj (x.q.t:Int),ae aj (x.q.run:Int),Pl x.G x.q.gs.length x.gc,ae aj x.q.wide,ae aj x.q.inner,ae aj x.en,PF x.q.iX,Pl x.P x.pn x.pc]
def jX(xs:List fv)(i:Nat):fv:=xs.getD i default
def fH{xs:List fv}(h:i<xs.length):jX xs i=xs[i]:=by simp[jX,h]
def jd{xs:List fv}(h:i<xs.length):jX xs i∈xs:=by rw[fH h];exact List.getElem_mem h
def oZ(a:Addr):a.add 0=a:=Ju
def ta(w:EE)(B:Nat)(xs:List fv)(a k:Nat)(A:aB):Prop:=a+k<=xs.length/\∀j,j<k->∃b,A=OH b/\b.block<B/\(∀q u,(jX xs (a+j)).F[q]? =OH u->w.cell? ((b.add (j*9)).add q)=OH u)/\Rx w B 10 (jX xs (a+j)).q.gs (jX xs (a+j)).G (jX xs (a+j)).q.gs.length
def ta.Z{d:EE}{xs:List fv}(h:ta w B xs a k A)(b:EI B w d)(i:B<=c):ta d c xs a k A:=⟨h.1,λj f=>by
 obtain⟨o,m,n,l,g⟩:=h.2 j f;exact⟨o,m,aq,λq u p=>(b.cell (by rw[aL,aL];exact n)).trans (l q u p),g.Z b i⟩⟩
def ta.at{xs:List fv}(h:ta w B xs a k A)(f:j<k):∃(b:Addr) (x:fv),jX xs (a+j)=x/\A=OH b/\w.cell? (b.add (j*9))=OH (ae aj (x.q.f:Int))/\w.cell? (bX (b.add (j*9)) 1)=OH (ae aj (x.q.t:Int))/\w.cell? (bX (b.add (j*9)) 2)=OH (ae aj (x.q.run:Int))/\w.cell? (bX (b.add (j*9)) 3)=OH (Pl x.G x.q.gs.length x.gc)/\w.cell? (bX (b.add (j*9)) 4)=OH (ae aj x.q.wide)/\w.cell? (bX (b.add (j*9)) 5)=OH (ae aj x.q.inner)/\w.cell? (bX (b.add (j*9)) 6)=OH (ae aj x.en)/\w.cell? (bX (b.add (j*9)) 7)=OH (PF x.q.iX)/\w.cell? (bX (b.add (j*9)) 8)=OH (Pl x.P x.pn x.pc)/\Rx w B 10 x.q.gs x.G x.q.gs.length:=by
 obtain⟨b,i,l,c,g⟩:=h.2 j f;have d:=c 0 _ rfl;rw[oZ]at d;exact⟨b,_,rfl,i,d,c 1 _ rfl,c 2 _ rfl,c 3 _ rfl,c 4 _ rfl,c 5 _ rfl,c 6 _ rfl,c 7 _ rfl,c 8 _ rfl,g⟩
def ta.less{xs:List fv}(h:ta w B xs a k A)(b:m<=k):ta w B xs a m A:=⟨Dc,λj c=>h.2 j aq⟩
def xM(P:I3)(t:IQ)(sz:Nat)(A:aB)(n c:Nat)(lo hi:Option EN)(i m:Nat)(b:aB)(a:Nat):Prop:=
 (∀w:EE,(Instr.slice t (Pl A n c) lo hi OJ).run P w=.ok (Pl b m a) w)/\m<=a/\a<=c/\(0<m->b=A.map (·.add (i*sz)))
section
variable{P:I3}{t e:IQ}{bytes sz:Nat}
def tq(T:aS P t e sz bytes)(A:aB)(n c i j:Nat)(b:i<=j)(k:j<=n)(m:n<=c)(l h:Int)(f:l=i)(g:h=j):
 ∃a d,xM P t sz A n c (OH (ae aj l)) (OH (ae aj h)) i (j-i) a d:=by
 subst f;subst g
 refine⟨if c=i then A else A.map (·.add (i*sz)),c-i,λw=> ?_,aq,aq,λh=>if_neg aq⟩;rw[run_slice_lh w t A n c (cY T) .i64 .i64 i j aq aq aq,de T];simp[Result.andThen,sliced]
def ab0(T:aS P t e sz bytes)(A:aB)(n c j:Nat)(g:j<=n)(f:n<=c)(h:Int)(d:h=j):
 ∃b a,xM P t sz A n c OJ (OH (ae aj h)) 0 j b a:=by
 subst d;refine⟨if c=0 then A else A.map (·.add 0),c,λw=> ?_,aq,aq,λh=>by rw[if_neg aq,Nat.zero_mul]⟩;rw[run_slice_h w t A n c (cY T) .i64 j aq aq,de T];simp[Result.andThen,sliced]
def Wj(T:aS P t e sz bytes)(A:aB)(n c i:Nat)(hi:i<=n)(f:n<=c)(l:Int)(d:l=i):
 ∃b a,xM P t sz A n c (OH (ae aj l)) OJ i (n-i) b a:=by
 subst d;refine⟨if c=i then A else A.map (·.add (i*sz)),c-i,λw=> ?_,aq,aq,λh=>if_neg aq⟩;rw[run_slice_l w t A n c (cY T) .i64 i aq aq,de T];simp[Result.andThen,sliced]
def xM.pcs(h:xM P t 9 A n c lo hi i m b g){w:EE}{B a:Nat}{xs:List fv}(d:ta w B xs a n A)(s:i+m<=n):ta w B xs (a+i) m b:=⟨by have:=d.1;omega,λj r=>by
 obtain⟨o,l,h2,k,f⟩:=d.2 (i+j) aq;rw[show a+i+j=a+(i+j) by omega];refine⟨o.add (i*9),by rw[h.2.2.2 (by omega),l];rfl,zk,λq u p=> ?_,f⟩;have:=k q u p;rw[aY]at this;rw[aY,aY];rwa [show i*9+(j*9+q)=(i+j)*9+q by omega]⟩
def xM.run(h:xM P t sz A n c lo hi i m b a):∀w:EE,(Instr.slice t (Pl A n c) lo hi OJ).run P w=.ok (Pl b m a) w:=h.1
end
def TPc:aS prog 34 44 9 104:=bD underlying34 (z:=Q4 #[ae aj 0,ae aj 0,ae aj 0,Pl OJ 0 0,ae aj 0,ae aj 0,ae aj 0,PF OZ,Pl OJ 0 0]) aF rfl aq aq
abbrev qs(xs:List fv):List fX:=xs.map (·.q)
def mM{xs:List fv}(h:i<xs.length):cW (qs xs) i=(jX xs i).q:=by simp[cW,jX,qs,h]
def Rj:IK 0=0:=CM
def hF(xs:List fv):Prop:=∀i,i<xs.length->(jX xs i).q.gs.length<=100000
def vr:aS prog 39 3 1 8:=bD underlying39 (z:=ae aj 0) aF rfl aq aq
section
variable{P:I3}{ops:Array Oper}{Q:Exit -> Act -> EE -> Prop}
def RQ(ops:Array Oper)(L:Nat->Bool):Prop:=∀i o,ops[i]? =OH o->L i=OX->o.after.all (λe=> !Region.binds .any e||L e.on)=OX
def RQ.dir{L:Nat->Bool}(h:RQ ops L){a b:Nat}(i:L a=OX)(c:kG ops a b=OX):L b=OX:=by
 unfold kG at c;cases e:ops[a]? with
 |none=>rw[e]at c;simp at c
 |some o=>
  rw[e]at c;simp only[Option.map_some,Option.getD_some,Array.any_eq_true]at c;obtain⟨k,j,d⟩:=c;rw[Bool.and_eq_true]at d;have f:=h a o e i;rw[Array.all_eq_true]at f;have g:=f k j;rw[d.1]at g;rw[<-show(o.after[k]).on=b by simpa using d.2];simpa using g
def RQ.all{L:Nat->Bool}(h:RQ ops L){n:Nat}(d:L n=OX)(e:ij ops n=OX):∀i,i<n->L i=OX:=λi hi=>by
 have a:=(List.all_eq_true.1 e) i (List.mem_range.2 hi);rw[Bool.or_eq_true]at a;rcases a with a|a
 .exact h.dir d a
 .obtain⟨j,_,c⟩:=List.any_eq_true.1 a
  rw[Bool.and_eq_true]at c;exact h.dir (h.dir d c.1) c.2
def ZM(ops:Array Oper)(a b:Nat):Bool:=kG ops a b||(List.range ops.size).any λj=>kG ops a j&&kG ops j b
def RQ.no{L:Nat->Bool}(h:RQ ops L){a b:Nat}(f:L b=OZ)(c:ZM ops a b=OX):L a=OZ:=by
 cases e:L a with
 |false=>rfl
 |true=>
  exfalso;have key:L b=OX:=by
   unfold ZM at c;rw[Bool.or_eq_true]at c;rcases c with c|c
   .exact h.dir e c
   .obtain⟨j,_,d⟩:=List.any_eq_true.1 c
    rw[Bool.and_eq_true]at d;exact h.dir (h.dir e d.1) d.2
  rw[f]at key;cases key
def nk{S n:Nat}{a:Act}(O:P.follows .mixedOrders=OX)(E:fT ops=OX)(U:ops.size=n+1)(B:ij ops n=OX)(I:(Nat->Bool)->Act->EE->Prop)(K:I (λ_=>OZ) a w.drew)
 (g:∀i o L a w,i<n->ops[i]? =OH o->L i=OZ->o.after.all (λe=> !Region.binds .any e||L e.on)=OX->RQ ops L->I L a w->wpOp P ops Q i (I (λk=>k==i||L k)) a w)
 (r:∀L a w,(∀i,i<n->L i=OX)->I L a w->wpOp P ops Q n (λa w=>Q .normal a w) a w):(Code.region S ops OX).wp P Q a w:=by
 refine kz O E (λL a w=>RQ ops L/\((L n=OZ/\I L a w)∨(L n=OX/\Q .normal a w))) ⟨λi o _ h=>fD,.inl ⟨rfl,K⟩⟩ ?_ ?_
 .rintro i o L a w A m d ⟨l,u⟩
  have c:RQ ops (λk=>k==i||L k):=λj x t H=>by
   rw[Array.all_eq_true];intro k C;have key:(!Region.binds .any (x.after[k])||L (x.after[k]).on)=OX:=by
    by_cases q:j=i
    .subst q
     rw[A]at t;obtain rfl:=Option.some.inj t;exact(Array.all_eq_true.1 d) k C
    .have N:L j=OX:=by
      have D:(j==i)=OZ:=(by simpa using q);simpa[D]using H
     exact(Array.all_eq_true.1 (l j x t N)) k C
   simp only[Bool.or_eq_true]at key⊢;rcases key with h|h
   .exact .inl h
   .exact .inr (.inr h)
  have hi:=(Array.getElem?_eq_some_iff.1 A).1;rcases u with⟨f,u⟩|⟨f,_⟩
  .by_cases y:i=n
   .subst y
    refine wpOp_mono (λR J v=>⟨c,.inr ⟨aT,v⟩⟩) (r L a w (λj t=> ?_) u);have G:=c.all (n:=i) aT B j t;have M:(j==i)=OZ:=pW;simpa[M]using G
   .have z:(n==i)=OZ:=pW
    exact wpOp_mono (λR J v=>⟨c,.inl ⟨by simp[z,f],v⟩⟩) (g i o L a w aq A m d l u)
  .exfalso
   rcases Nat.lt_or_ge i n with h|h
   .have:=l.all f B i h
    rw[m]at this;cases this
   .obtain rfl:i=n:=by omega
    rw[m]at f;cases f
 .rintro L a w s ⟨_,⟨f,_⟩|⟨_,h⟩⟩
  .rw[s n aq]at f
   cases f
  .exact h
def fV(ts:Array EN)(k0:Nat)(bu:Nat->EN):Nat->Array EN
 |0=>ts
 |m+1=>(fV ts k0 bu m).setIfInBounds (k0+m) (bu m)
def cN(a:Act)(k0 m:Nat)(bu:Nat->EN):Act:=⟨fV a.tmps k0 bu m,a.defers⟩
def oa(bu:Nat->EN)(i:Nat)(v:EN):Nat->EN:=λk=>if k=i then v else bu k
structure Dg(T:List (Option EN))(b p n:Nat)(news:List EN)(w2:EE)(F:aB->Nat->EE->Prop)(L:Nat->Bool)(bu:Nat->EN)(W:EE):Prop where
 dY:∀k v,T[k]? =OH (OH v)->L k=OX->bu k=v
 pre:L p=OZ->az w2 W
 box:L b=OX->L p=OZ->∃d:Nat,bu b=Pl (OH ⟨d,0,OJ⟩) 1 1/\∀j u,news[j]? =OH u->W.cell? ⟨d,j,OJ⟩=OH u
 post:L p=OX->∃A c,bu p=Pl A (n+1) c/\F A c W
variable{T:List (Option EN)}{b p n:Nat}{news:List EN}{w2 W W':EE}{F:aB -> Nat -> EE -> Prop}{L:Nat -> Bool}{bu:Nat -> EN}
def Dg.start(h:az w2 W):Dg T b p n news w2 F (λ_=>OZ) bu W:=⟨λ_ _ _ h=>fD,λ_=>h,λh=>fD,λh=>fD⟩
def Dg.pure(h:Dg T b p n news w2 F L bu W){i:Nat}{v:EN}(g:T[i]? =OH (OH v))(e:i≠b)(f:i≠p):Dg T b p n news w2 F (λk=>k==i||L k) (oa bu i v) W:=by
 have l:(b==i)=OZ:=by simpa using Ne.symm e
 have d:(p==i)=OZ:=by simpa using Ne.symm f
 refine⟨λk u c hk=> ?_,λa=>h.pre (by simpa[d]using a),λa j=> ?_,λa=> ?_⟩
 .unfold oa
  by_cases ph:k=i
  .subst ph
   rw[if_pos rfl];rw[g]at c;injection c with c
   injection c
  .rw[if_neg ph]
   have:(k==i)=OZ:=CV;exact h.dY k u c CY
 .unfold oa
  rw[if_neg (Ne.symm e)];exact h.box (by simpa[l]using a) (by simpa[d]using j)
 .unfold oa
  rw[if_neg (Ne.symm f)];exact h.post (by simpa[d]using a)
def Dg.lay(h:Dg T b p n news w2 F L bu W){cs:Array EN}(t:IQ)(f:cs=news.toArray)(i:T[b]? =OH OJ)(d:b≠p)(c:L p=OZ):Dg T b p n news w2 F (λk=>k==b||L k) (oa bu b (Pl (OH ⟨W.heap.size,0,OJ⟩) 1 1)) (W.alloc (RM cs t)):=by
 have g:(p==b)=OZ:=by simpa using Ne.symm d
 refine⟨λk u a hk=> ?_,λe=>(h.pre c).alloc (h.pre c).size _,λ_ _=>⟨_,by unfold oa;rw[if_pos rfl],λj u a=> ?_⟩,λe=>by rw[g,c]at e;cases e⟩
 .unfold oa
  by_cases ph:k=b
  .subst ph;rw[i]at a;simp at a
  .rw[if_neg ph]
   have:(k==b)=OZ:=CV;exact h.dY k u a CY
 .rw[cell_of_row _ _ _ _ _ _ (heap_alloc_new W _),f]
  simpa using a
def Dg.app(h:Dg T b p n news w2 F L bu W){A:aB}{c:Nat}(g:T[p]? =OH OJ)(f:F A c W'):Dg T b p n news w2 F (λk=>k==p||L k) (oa bu p (Pl A (n+1) c)) W':=by
 refine⟨λk u a hk=> ?_,λd=>by simp at d,λ_ e=>by simp at e,λ_=>⟨A,c,by unfold oa;rw[if_pos rfl],f⟩⟩;unfold oa;by_cases ph:k=p
 .subst ph;rw[g]at a;simp at a
 .rw[if_neg ph]
  have:(k==p)=OZ:=CV;exact h.dY k u a CY
def ke(ts:Array EN)(k0:Nat):∀m,fV ts k0 (λk=>ts.getD (k0+k) undef) m=ts
 |0=>rfl
 |m+1=>by
  unfold fV;rw[ke ts k0 m];refine Array.ext aT λi c a=> ?_;rw[Array.getElem_setIfInBounds];split
  .rename_i h
   subst h;rw[Array.getD_eq_getD_getElem?,Array.getElem?_eq_getElem a];rfl
  .rfl
def xd(ts:Array EN)(k0:Nat)(bu:Nat->EN)(i:Nat)(v:EN):∀m,fV ts k0 (oa bu i v) m=if i<m then(fV ts k0 bu m).setIfInBounds (k0+i) v else fV ts k0 bu m
 |0=>rfl
 |m+1=>by
  have ih:=xd ts k0 bu i v m;unfold fV;rw[ih];rcases Nat.lt_trichotomy i m with h|h|h
  .rw[if_pos h,if_pos aq,show oa bu i v m=bu m by unfold oa;rw[if_neg aq],Array.setIfInBounds_comm _ _ aq]
  .subst h
   rw[if_neg aq,if_pos aq,show oa bu i v i=v by unfold oa;rw[if_pos rfl],Array.setIfInBounds_setIfInBounds]
  .rw[if_neg aq,if_neg aq,show oa bu i v m=bu m by unfold oa;rw[if_neg aq]]
def uU{a:Act}{bu:Nat->EN}{v:EN}(h:i<m):cN a k0 m (oa bu i v)=(cN a k0 m bu).put (OH (k0+i)) v:=by
 unfold cN;rw[xd,if_pos h];rfl
def jS{N:Nat}{a:Act}(T:List (Option EN))(b p n:Nat)(news:List EN)(w2:EE)(F:aB->Nat->EE->Prop)(z:P.follows .mixedOrders=OX)(t:fT ops=OX)(y:ops.size=N+1)(s:ij ops N=OX)(A:N<=m)(x:az w2 w)
 (d:∀i o L bu W,i<N->ops[i]? =OH o->L i=OZ->o.after.all (λe=> !Region.binds .any e||L e.on)=OX->RQ ops L->Dg T b p n news w2 F L bu W->∀c,c=cN a k0 m bu->∀K:Act->EE->Prop,(∀v W',Dg T b p n news w2 F (λk=>k==i||L k) (oa bu i v) W'->K (c.put (OH (k0+i)) v) W')->wpOp P ops Q i K c W)
 (g:∀L bu W,(∀i,i<N->L i=OX)->Dg T b p n news w2 F L bu W->∀c,c=cN a k0 m bu->wpOp P ops Q N (λa w=>Q .normal a w) c W):(Code.region B ops OX).wp P Q a w:=by
 refine nk z t y s (λL c W=>∃bu,Dg T b p n news w2 F L bu W/\c=cN a k0 m bu) ⟨λk=>a.tmps.getD (k0+k) undef,Dg.start x.drew, ?_⟩ ?_ ?_
 .unfold cN
  rw[ke]
 .rintro i o L c W hi C q h r ⟨bu,l,j⟩
  exact d i o L bu W hi C q h r l c j _ λv W' u=>⟨_,u,by rw[uU (by omega),j]⟩
 .rintro L c W f ⟨bu,l,j⟩
  exact g L bu W f l c j
end
def lG{P:I3}{ops:Array Oper}{o:Oper}{a:Act}{K:Act->EE->Prop}{Q:Exit->Act->EE->Prop}{E:Prop}{e:IQ}{q bytes:Nat}(T:aS P t e q bytes)(y:o.guard=OJ)(s x:Operand)
 (ho:o.op=.call {callee:=.builtin .append,args:=#[s,x],argTypes:=#[t,t]}) {B:Nat} {A:aB} {n c:Nat} {vs:List EN} (Z:a.eval s=Pl A n c) (d:aA w B e q A n c vs)
 {g:Nat} (hx:a.eval x=Pl (OH ⟨g,0,OJ⟩) 1 1) {news:List EN} (Y:news.length=q) (hc:∀j u,news[j]? =OH u->w.cell? ⟨g,j,OJ⟩=OH u) (r:∀u∈news,u.oneCell'=OX)
 (V:(n+1)*bytes<=140737488355328) (N:B<=w.heap.size)
 (h:∀C c' k,aA k B e q C (n+1) c' (vs++news)->EI B w k->w.grownBy k (Value.slice A n c).ownBlock->(∀g,C=OH ⟨g,0,OJ⟩->A=OH ⟨g,0,OJ⟩∨w.heap.size<=g)->K (a.put o.dst (Pl C (n+1) c')) k):
 if Region.wanted o (yielded ops a.tmps)=OX then Oper.wp P o a w K Q else E:=by
 have S:Region.wanted o (yielded ops a.tmps)=OX:=by simp[Region.wanted,y]
 rw[if_pos S];obtain⟨i,z,hi,R,J,D,H⟩:=T.info;have v:=T.Aw;have X:n+1<=140737488355328:=by
  have l:(n+1)*1<=(n+1)*bytes:=Nat.mul_le_mul_left _ v;omega
 obtain⟨v',k,U,f,M,_,I⟩:=run_append_own_at (P:=P) w B t o.type e i z q bytes T.ht hi R J D H T.pos (Pl A n c) n _ d ⟨g,0,OJ⟩ 1 1 news aq
  (λj u hu=>Yw) r ri V N
 unfold Oper.wp execOp;simp only[ho,resolve,invoke,builtin,Sem.run_bind,Sem.run_pure,Result.andThen_ok,List.map_toArray,List.map_cons,List.map_nil,Z,hx,U];have G:=aA.dF d M N;rcases f.2 with⟨O,h0⟩|⟨g',cap,cur,O,_⟩
 .omega
 .subst O
  refine h _ _ k f G M λg1 m=> ?_;injection m with m
  injection m with m
  subst m;rcases I with l|l
  .rcases aA.dU d with rfl|⟨g2,rfl⟩
   .simp[Value.ownBlock]at l
   .simp[Value.ownBlock]at l;subst l;exact .inl rfl
  .simp[Value.ownBlock]at l;exact .inr aq
section
variable{P:I3}{ops:Array Oper}{Q:Exit -> Act -> EE -> Prop}
structure zC(T:List EN)(n:Nat)(z r1 r2:Array EN)(w:EE)(L:Nat->Bool)(bu:Nat->EN)(x y:EN)(W:EE):Prop where
 be:az w W
 dY:∀k v,T[k]? =OH v->L k=OX->bu k=v
 p1:L n=OX->∃g,x=PK (OH ⟨g,0,OJ⟩)/\w.heap.size<=g/\Bx W g (if L (n+2)=OX then r1 else z)
 p2:L (n+1)=OX->∃g,y=PK (OH ⟨g,0,OJ⟩)/\w.heap.size<=g/\Bx W g (if L (n+3)=OX then r2 else z)
 ne:L n=OX->L (n+1)=OX->x≠y
 o1:L (n+2)=OX->L n=OX
 o2:L (n+3)=OX->L (n+1)=OX
variable{T:List EN}{n:Nat}{z r1 r2:Array EN}{w W:EE}{L:Nat -> Bool}{bu:Nat -> EN}{x y:EN}
def zC.pure(h:zC T n z r1 r2 w L bu x y W)(c:T.length=n){i:Nat}{v:EN}(b:T[i]? =OH v):zC T n z r1 r2 w (λk=>k==i||L k) (oa bu i v) x y W:=by
 have hi:i<n:=by rw[<-c];exact(List.getElem?_eq_some_iff.1 b).1
 have e:∀k,n<=k->(k==i||L k)=L k:=λk hk=>by have:(k==i)=OZ:=pW;simp[this]
 refine⟨h.be,λk u a hk=> ?_, ?_, ?_, ?_, ?_, ?_⟩
 .by_cases ph:k=i
  .subst ph;unfold oa;rw[if_pos rfl];rw[b]at a;exact Option.some.inj a
  .unfold oa
   rw[if_neg ph];have:(k==i)=OZ:=CV;exact h.dY k u a CY
 .rw[e n cr,e (n+2) aq];exact h.p1
 .rw[e (n+1) aq,e (n+3) aq];exact h.p2
 .rw[e n cr,e (n+1) aq];exact h.ne
 .rw[e n cr,e (n+2) aq];exact h.o1
 .rw[e (n+1) aq,e (n+3) aq];exact h.o2
def QH(h:g≠k):Value.pointer (OH ⟨g,0,OJ⟩)≠ PK (OH ⟨k,0,OJ⟩):=λe=>h (by injection e with e;injection e with e;injection e)
def Bx.nL{w a:EE}{b:Nat}{cs:Array EN}(h:Bx w b cs)(e:a.heap[b]? =w.heap[b]?):Bx a b cs:=by obtain⟨t,h⟩:=h;exact⟨t,e.trans h⟩
def zC.agX(h:zC T n z r1 r2 w L bu x y W)(m:T.length=n)(b:L n=OZ)(t:IQ):zC T n z r1 r2 w (λk=>k==n||L k) bu (PK (OH ⟨W.heap.size,0,OJ⟩)) y (W.alloc (RM z t)):=by
 have c:=aw W (RM z t);have e:∀k,k≠n->(k==n||L k)=L k:=λk hk=>by have:(k==n)=OZ:=Cq;simp[this]
 have i:L (n+2)=OZ:=by
  cases f:L (n+2)
  .rfl
  .rw[h.o1 f]at b;cases b
 refine⟨h.be.trans (c.mono h.be.size),λk u d hk=>h.dY k u d (by rw[e k (by have:=(List.getElem?_eq_some_iff.1 d).1;omega)]at hk;exact hk),λ_=>⟨_,rfl,h.be.size, ?_⟩, ?_, ?_, ?_, ?_⟩
 .rw[e (n+2) aq,i];exact Bx.new _ _ _
 .rw[e (n+1) aq,e (n+3) aq]
  intro k;obtain⟨g,j,l,a⟩:=h.p2 k;exact⟨g,j,l,a.ar c a.lt⟩
 .rw[e (n+1) aq]
  intro _ k;obtain⟨g,rfl,_,a⟩:=h.p2 k;have:=a.lt;exact QH aq
 .intro _;simp
 .rw[e (n+1) aq,e (n+3) aq];exact h.o2
def zC.agr(h:zC T n z r1 r2 w L bu x y W)(m:T.length=n)(b:L (n+1)=OZ)(t:IQ):zC T n z r1 r2 w (λk=>k==n+1||L k) bu x (PK (OH ⟨W.heap.size,0,OJ⟩)) (W.alloc (RM z t)):=by
 have c:=aw W (RM z t);have e:∀k,k≠n+1->(k==n+1||L k)=L k:=λk hk=>by have:(k==n+1)=OZ:=Cq;simp[this]
 have i:L (n+3)=OZ:=by
  cases f:L (n+3)
  .rfl
  .rw[h.o2 f]at b;cases b
 refine⟨h.be.trans (c.mono h.be.size),λk u d hk=>h.dY k u d (by rw[e k (by have:=(List.getElem?_eq_some_iff.1 d).1;omega)]at hk;exact hk), ?_,λ_=>⟨_,rfl,h.be.size, ?_⟩, ?_, ?_, ?_⟩
 .rw[e n aq,e (n+2) aq]
  intro k;obtain⟨g,j,l,a⟩:=h.p1 k;exact⟨g,j,l,a.ar c a.lt⟩
 .rw[e (n+3) aq,i];exact Bx.new _ _ _
 .rw[e n aq]
  intro k _;obtain⟨g,rfl,_,a⟩:=h.p1 k;have:=a.lt;exact QH aq
 .rw[e n aq,e (n+2) aq];exact h.o1
 .intro _;simp
def zC.agy(h:zC T n z r1 r2 w L bu (PK (OH ⟨g,0,OJ⟩)) y W)(m:T.length=n)(b:L n=OX):zC T n z r1 r2 w (λk=>k==n+2||L k) bu (PK (OH ⟨g,0,OJ⟩)) y (W.setRow g r1):=by
 have e:∀k,k≠n+2->(k==n+2||L k)=L k:=λk hk=>by have:(k==n+2)=OZ:=Cq;simp[this]
 obtain⟨f,e1,d,l⟩:=h.p1 b;obtain rfl:g=f:=afo;refine⟨below_setRow h.be d _,λk u c hk=>h.dY k u c (by rw[e k (by have:=(List.getElem?_eq_some_iff.1 c).1;omega)]at hk;exact hk),λ_=>⟨g,rfl,d, ?_⟩, ?_, ?_, ?_, ?_⟩
 .rw[if_pos aT];exact l.row
 .rw[e (n+1) aq,e (n+3) aq]
  intro k;obtain⟨g2,rfl,j,i⟩:=h.p2 k;have a:g2≠g:=λe=>h.ne b k (by rw[e])
  exact⟨g2,rfl,j,i.nL (setRow_other _ _ _ _ a)⟩
 .rw[e n aq,e (n+1) aq];exact h.ne
 .rw[e n aq];exact λ_=>b
 .rw[e (n+1) aq,e (n+3) aq];exact h.o2
def zC.agR(h:zC T n z r1 r2 w L bu x (PK (OH ⟨g,0,OJ⟩)) W)(m:T.length=n)(b:L (n+1)=OX):zC T n z r1 r2 w (λk=>k==n+3||L k) bu x (PK (OH ⟨g,0,OJ⟩)) (W.setRow g r2):=by
 have e:∀k,k≠n+3->(k==n+3||L k)=L k:=λk hk=>by have:(k==n+3)=OZ:=Cq;simp[this]
 obtain⟨f,e1,d,l⟩:=h.p2 b;obtain rfl:g=f:=afo;refine⟨below_setRow h.be d _,λk u c hk=>h.dY k u c (by rw[e k (by have:=(List.getElem?_eq_some_iff.1 c).1;omega)]at hk;exact hk), ?_,λ_=>⟨g,rfl,d, ?_⟩, ?_, ?_, ?_⟩
 .rw[e n aq,e (n+2) aq]
  intro k;obtain⟨g2,rfl,j,i⟩:=h.p1 k;have a:g2≠g:=λe=>h.ne k b (by rw[e])
  exact⟨g2,rfl,j,i.nL (setRow_other _ _ _ _ a)⟩
 .rw[if_pos aT];exact l.row
 .rw[e n aq,e (n+1) aq];exact h.ne
 .rw[e n aq,e (n+2) aq];exact h.o1
 .rw[e (n+1) aq];exact λ_=>b
def two(x y:EN):Nat->EN
 |0=>x
 |_+1=>y
def qR{b:Act}{k0 e:Nat}{bu:Nat->EN}{v:EN}(h:e<k0):∀m,(cN b k0 m bu).put (OH e) v=cN (b.put (OH e) v) k0 m bu
 |0=>rfl
 |m+1=>by
  have a:∀c:Act,cN c k0 (m+1) bu=(cN c k0 m bu).put (OH (k0+m)) (bu m):=λc=>rfl
  rw[a,a,<-qR h m,Act.put_comm];intro d f g;injection f with f
  injection g with g
  omega
def Act.HU(a:Act)(d:Nat)(x y:EN):(a.put (OH d) x).put (OH d) y=a.put (OH d) y:=by
 simp[Act.put]
def vM{S:Nat}{a:Act}(T:List EN)(n:Nat)(z r1 r2:Array EN)(u:T.length=n)(N:P.follows .mixedOrders=OX)(R:fT ops=OX)(V:d+2<=k0)(Z:ops.size=n+4)
 (r:∀i o L bu x y W,ops[i]? =OH o->L i=OZ->o.after.all (λe=> !Region.binds .any e||L e.on)=OX->zC T n z r1 r2 w L bu x y W->∀c,c=cN (cN a d 2 (two x y)) k0 n bu->∀K:Act->EE->Prop,
  (∀v,T[i]? =OH v->K (c.put (OH (k0+i)) v) W)->(i=n->∀t,K (c.put (OH d) (PK (OH ⟨W.heap.size,0,OJ⟩))) (W.alloc (RM z t)))->(i=n+1->∀t,K (c.put (OH (d+1)) (PK (OH ⟨W.heap.size,0,OJ⟩))) (W.alloc (RM z t)))->
  (i=n+2->∀g,x=PK (OH ⟨g,0,OJ⟩)->K c (W.setRow g r1))->(i=n+3->∀g,y=PK (OH ⟨g,0,OJ⟩)->K c (W.setRow g r2))->wpOp P ops Q i K c W)
 (j:∀(L:Nat->Bool) (o:Oper),(ops[n+2]? =OH o->o.after.all (λe=> !Region.binds .any e||L e.on)=OX->L n=OX)/\(ops[n+3]? =OH o->o.after.all (λe=> !Region.binds .any e||L e.on)=OX->L (n+1)=OX))
 (A:∀x y W C B,x=PK (OH ⟨C,0,OJ⟩)->y=PK (OH ⟨B,0,OJ⟩)->Bx W C r1->Bx W B r2->az w W->∀c,c=cN (cN a d 2 (two x y)) k0 n (λk=>T.getD k undef)->Q .normal c W):(Code.region S ops OX).wp P Q a w:=by
 have D:∀(b:Act) (x y U Y:EN),cN b d 2 (two x y)=(b.put (OH d) x).put (OH (d+1)) y:=λb x y _ _=>rfl
 refine kz N R (λL c W=>∃bu x y,zC T n z r1 r2 w L bu x y W/\c=cN (cN a d 2 (two x y)) k0 n bu) ⟨λk=>a.tmps.getD (k0+k) undef,a.tmps.getD d undef,a.tmps.getD (d+1) undef,⟨(Below.refl _ _).drew,λ_ _ _ h=>fD,λh=>fD,λh=>fD,λh=>fD,λh=>fD,λh=>fD⟩, ?_⟩ ?_ ?_
 .have e:cN a d 2 (two (a.tmps.getD d undef) (a.tmps.getD (d+1) undef))=a:=by
   have E:=ke a.tmps d 2;unfold cN;have F:fV a.tmps d (two (a.tmps.getD d undef) (a.tmps.getD (d+1) undef)) 2=fV a.tmps d (λk=>a.tmps.getD (d+k) undef) 2:=rfl;rw[F,E]
  rw[e];unfold cN;rw[ke]
 .rintro i o L c W H s p ⟨bu,x,y,l,q⟩
  refine r i o L bu x y W H s p l c q _ (λv M=>⟨oa bu i v,x,y,l.pure u M, ?_⟩) (λhi t=> ?_) (λhi t=> ?_) (λhi g G=> ?_) (λhi g G=> ?_)
  .rw[q,uU (by rw[<-u];exact(List.getElem?_eq_some_iff.1 M).1)]
  .subst hi
   refine⟨bu,_,y,l.agX u s t, ?_⟩;rw[q,qR aq,D _ _ _ x y,D _ _ _ x y,Act.put_comm _ _ _ (by intro X I J;injection I with I;injection J with J;omega),Act.HU]
  .subst hi
   refine⟨bu,x,_,l.agr u s t, ?_⟩;rw[q,qR aq,D _ _ _ x y,D _ _ _ x y,Act.HU]
  .subst hi
   subst G;exact⟨bu,_,y,l.agy u ((j L o).1 H p),q⟩
  .subst hi
   subst G;exact⟨bu,x,_,l.agR u ((j L o).2 H p),q⟩
 .rintro L c W f ⟨bu,x,y,l,q⟩
  obtain⟨C,rfl,_,E⟩:=l.p1 (f n aq);obtain⟨B,rfl,_,F⟩:=l.p2 (f (n+1) aq);rw[if_pos (f _ aq)]at E F;refine A _ _ W C B rfl rfl E F l.be c ?_;rw[q];have key:∀m,m<=n->∀b:Act,cN b k0 m bu=cN b k0 m (λk=>T.getD k undef):=λm=>by
   induction m with
   |zero=>intro _ b;rfl
   |succ m ih=>
    intro N b;have O:=l.dY m (T.getD m undef) (by rw[List.getD_eq_getElem?_getD,List.getElem?_eq_getElem aq];rfl) (f m aq);show(cN b k0 m bu).put (OH (k0+m)) (bu m)=(cN b k0 m (λk=>T.getD k undef)).put (OH (k0+m)) (T.getD m undef);rw[ih aq,O]
  exact key n cr _
end
structure InT(n:Nat)(xs:List fv):Prop where
 ne:∀i,i<xs.length->(jX xs i).q.f<(jX xs i).q.t/\(jX xs i).q.t<=n
def PWh(w:EE)(b:Bool)(e:IS)(a:EE):Prop:=e=RE (PF b)/\az w a
def QF(A:aB)(n c a b:Nat)(ts:aC)(w:EE)(h:aJ .i32 w A n c ts)(p:Laid w)(u:a<=b)(C:b<=n)(L:n<=100000):GK prog 39 #[Pl A n c,ae aj (a:Int),ae aj (b:Int)] w (Cn w (mf ts a b)):=by
 have⟨R,t⟩:=K' h p;have H:¬(a:Int)<0:=aq;have g2:=cI b a;have J:=cI n b;go_enter func39,ntmps39;go_wp2;go_loopg[2](b+1)(λgg v wr=>∃(k:Nat),k<gg/\k<=b/\v=ae aj (k:Int)/\ak (mf ts a k=mf ts a b)/\ak (az w wr))
 .exact⟨b,aq,aq,rfl,⟨rfl⟩,cJ⟩
 obtain⟨k,F,G,rfl,f,d⟩:=hrel;by_cases q:a<k;rotate_left
 .have o:=cI a k
  have E:ak (mf ts a b=k):=⟨by
   rw[<-f.o];rcases k with _|k
   .rfl
   .unfold mf;rw[if_neg aq]⟩
  go_wp2;go_ret;exact⟨by rw[E.o];simp,d.o⟩
 have o:=aU a k;obtain⟨j,rfl⟩:∃j,k=j+1:=⟨k-1,aq⟩;have wk:IK (j:Int)=(j:Int):=IntWalk.wrap64_in _ aq;have k0:=gT j;have I:=aU j n;have K:(a:Int)<(j:Int)+1:=aq;obtain⟨D,rfl,B⟩:=(R.o.ar d.o).ce (show j<n by omega);obtain⟨g,i⟩:=bounds_i32 (R.o.cZ (show j<n by omega));have r:=sH (lS (nth ts j) g i wr (t.o.ar d.o));have m:ak ((aN (nth ts j)).word=7->mf ts a j=mf ts a b):=⟨λh=>by rw[<-f.o];show _=mf ts a (j+1);unfold mf;rw[if_pos ⟨aq,h⟩];cases j<;>rfl⟩;have s:ak (¬(aN (nth ts j)).word=7->mf ts a b=j+1):=⟨λh=>by rw[<-f.o];unfold mf;rw[if_neg (λy=>h y.2)]⟩;generalize nth ts j=z at*;go_wp2_with fail;refine callK r.o d λM N l=> ?_;generalize(aN z).word=x at*;by_cases hx:x=7
 .have e:=sH (m.o hx)
  subst hx;go_wp2;go_roundg(j+1)
  .exact⟨j,aq,aq,by first|rfl|go_num,e,l⟩
  omega
 .have e:=sH (s.o hx)
  have hx:(x==7)=OZ:=Gh;go_wp2;go_ret;exact⟨by rw[e.o];simp,l.o⟩
abbrev fv.row(x:fv):Array EN:=#[ae aj (x.q.f:Int),ae aj (x.q.t:Int),ae aj (x.q.run:Int),Pl x.G x.q.gs.length x.gc,ae aj x.q.wide,ae aj x.q.inner,ae aj x.en,PF x.q.iX,Pl x.P x.pn x.pc]
def whB(ts:aC)(q:fX):Bool:=decide (mf ts q.f q.t=q.f)
def abO(x:fv)(A:aB)(n c:Nat)(ts:aC)(w:EE)(h:aJ .i32 w A n c ts)(k:Laid w)(g:x.q.f<=x.q.t)(j:x.q.t<=n)(o:n<=100000):GK prog 92 #[Pl A n c,Q4 x.row] w (PWh w (whB ts x.q)):=by
 have⟨R,l⟩:=K' h k;have⟨d,aP⟩:=eX (w.alloc (RM x.row 44));have b:ak (az w d):=⟨nR⟩;have c0:d.cell? ⟨w.heap.size,0,OJ⟩=OH (ae aj (x.q.f:Int)):=afF;have i:d.cell? ⟨w.heap.size,1,OJ⟩=OH (ae aj (x.q.t:Int)):=afF;have e:ak (whB ts x.q=decide (mf ts x.q.f x.q.t=x.q.f)):=⟨rfl⟩;have⟨f,p⟩:=eY x.q.f;have⟨t,m⟩:=eY x.q.t;rw[p]at c0 g e;rw[m]at i g j e;have⟨L0,L1⟩:=lc2 c0 i;have CS:ak (∀a:aI d,GK prog 39 #[Pl A n c,ae aj (f:Int),ae aj (t:Int)] a.1 (Cn a.1 (mf ts f t))):=⟨λa=>QF A n c f t ts a.1 ((R.o.ar b.o).ar a.2) ((l.o.ar b.o).ar a.2) g j o⟩;unfold Cn at CS;generalize mf ts f t=z at*;go_enter func92,ntmps92;go_upto_region 1 with fail;rw[<-aP];go_wp2;refine bS aF aF ?_
 repeat(go_big_quiet_step (with_reducible exact dN (CS.o _)))
 refine wpQuiet_nil ?_;rintro _ ⟨q,rfl⟩;go_wp2;go_ret;exact⟨by rw[e.o];show Ending.returned (PF ((z:Int)==(f:Int)))=_;rw[show((z:Int)==(f:Int))=decide (z=f) by rw[Bool.eq_iff_iff];simp<;>omega],b.o.trans (q.2.mono b.o.size)⟩
def zF(A:aB)(n c:Nat)(xs:aC)(w:EE)(h:aJ .i32 w A n c xs)(o:Laid w)(B:n<=100000):GK prog 165 #[Pl A n c] w (PWh w (ie xs 0 n)):=by
 have⟨R,r⟩:=K' h o;go_enter func165,ntmps165;go_wp2;go_loopg[7](n+1)(λgg v wr=>∃i:Nat,n-i<gg/\i<=n/\v=ae aj (i:Int)/\ak (ie xs 0 i=OX)/\ak (az w wr))
 .exact⟨0,aq,aq,rfl,⟨rfl⟩,cJ⟩
 obtain⟨i,y,hi,rfl,e,b⟩:=hrel;by_cases a:i<n;rotate_left
 .have l:=cI i n
  obtain rfl:i=n:=aq;go_wp2;go_ret;exact⟨by rw[e.o];rfl,b.o⟩
 have l:=aU i n;obtain⟨u,rfl,t⟩:=(R.o.ar b.o).ce a;obtain⟨f,g⟩:=bounds_i32 (R.o.cZ a);have p:=sH (lS (nth xs i) f g wr (r.o.ar b.o));have k:ak ((aN (nth xs i)).word=7->ie xs 0 (i+1)=OX):=⟨λh=>by unfold ie;rw[e.o,Nat.zero_add,h];rfl⟩;have q:ak (¬(aN (nth xs i)).word=7->ie xs 0 n=OZ):=⟨λh=>by
  rw[Bool.eq_false_iff];intro s;have:=qD (m:=i+1) aq s;unfold ie at this;rw[e.o,Nat.zero_add]at this;simp[h]at this⟩
 generalize nth xs i=z at*;go_wp2_with fail;refine callK p.o b λC D j=> ?_;generalize(aN z).word=x at*;by_cases hx:x=7
 .have d:=sH (k.o hx)
  subst hx;go_wp2;go_roundg(n-i)
  .exact⟨i+1,aq,aq,ns,d,j⟩
  omega
 .have d:=sH (q.o hx)
  have hx:(x==7)=OZ:=Gh;go_wp2;go_ret;exact⟨by rw[d.o];rfl,j.o⟩
def jnV(xs:aC)(n:Nat)(last:Bool):Int:=if last=OX then vt xs 0 n else Bd xs n 0
def PJn(w:EE)(x:Int)(e:IS)(a:EE):Prop:=e=RE (ae aj x)/\az w a
def WY(h:(aN (nth ts (a+k))).join=5):vt ts a (k+1)=vt ts a k:=if_pos h
def aaT(h:¬(aN (nth ts (a+k))).join=5):vt ts a (k+1)=(aN (nth ts (a+k))).join:=if_neg h
def VN(h:(aN (nth ts a)).join=5):Bd ts (k+1) a=Bd ts k (a+1):=if_pos h
def ab3(h:¬(aN (nth ts a)).join=5):Bd ts (k+1) a=(aN (nth ts a)).join:=if_neg h
def IH(A:aB)(n c:Nat)(xs:aC)(last:Bool)(w:EE)(h:aJ .i32 w A n c xs)(B:Laid w)(J:n<=100000):GK prog 237 #[Pl A n c,PF last] w (PJn w (jnV xs n last)):=by
 have⟨R,D⟩:=K' h B;go_enter func237,ntmps237;go_wp2;go_loopg[5,11](n+1)(λgg v3 v wr=>∃i:Nat,n-i<gg/\i<=n/\v3=ae aj (vt xs 0 i)/\v=ae aj (i:Int)/\ak (last=OZ->Bd xs (n-i) i=Bd xs n 0/\vt xs 0 i=5)/\ak (az w wr))
 .exact⟨0,aq,aq,rfl,rfl,⟨λ_=>⟨rfl,rfl⟩⟩,cJ⟩
 obtain⟨i,I,hi,rfl,rfl,q,g⟩:=hrel;by_cases d:i<n;rotate_left
 .have u:=cI i n
  obtain rfl:i=n:=aq;have E:ak (vt xs 0 i=jnV xs i last):=⟨by
   unfold jnV;cases last
   .obtain⟨b,p⟩:=q.o rfl
    rw[Nat.sub_self]at b;rw[if_neg aT,p,<-b];rfl
   .rw[if_pos rfl]⟩
  go_wp2;go_ret;exact⟨zp,g.o⟩
 have u:=aU i n;obtain⟨H,rfl,G⟩:=(R.o.ar g.o).ce d;obtain⟨o,r⟩:=bounds_i32 (R.o.cZ d);have C:=sH (lS (nth xs i) o r wr (D.o.ar g.o));have s:ak ((aN (nth xs i)).join=5->vt xs 0 (i+1)=vt xs 0 i/\(last=OZ->Bd xs (n-(i+1)) (i+1)=Bd xs n 0/\vt xs 0 (i+1)=5)):=⟨λh=>by
  have e:=WY (ts:=xs) (a:=0) (k:=i) (by rw[Nat.zero_add];exact h);refine⟨e,λf=> ?_⟩;obtain⟨b,p⟩:=q.o f;rw[show n-i=(n-(i+1))+1 by omega,VN h]at b;exact⟨b,e.trans p⟩⟩
 have t:ak (¬(aN (nth xs i)).join=5->vt xs 0 (i+1)=(aN (nth xs i)).join/\(last=OZ->jnV xs n last=(aN (nth xs i)).join)):=⟨λh=>by
  have e:=aaT (ts:=xs) (a:=0) (k:=i) (by rw[Nat.zero_add];exact h);rw[Nat.zero_add]at e;refine⟨e,λf=> ?_⟩;obtain⟨b,_⟩:=q.o f;rw[show n-i=(n-(i+1))+1 by omega,ab3 h]at b;unfold jnV;rw[if_neg (by simp[f]),<-b]⟩
 generalize nth xs i=z at*;generalize vt xs 0 i=y at*;go_wp2_with fail;refine callK C.o g λK L j=> ?_;generalize(aN z).join=x at*;by_cases hx:x=5
 .have l:=sH ((s.o hx).1)
  have m:=sH ((s.o hx).2);subst hx;go_wp2;go_roundg(n-i)
  .exact⟨i+1,aq,aq,by rw[l.o],ns,m,j⟩
  omega
 .have l:=sH ((t.o hx).1)
  have m:=sH ((t.o hx).2);have hx:(x==5)=OZ:=Gh;cases last
  .have F:=sH (m.o rfl)
   go_wp2;go_ret;exact⟨by rw[F.o];rfl,j.o⟩
  .go_wp2
   go_roundg(n-i)
   .exact⟨i+1,aq,aq,by rw[l.o],ns,⟨aT⟩,j⟩
   omega
def vT(A:aB)(n c:Nat)(xs:aC)(w:EE)(h:aJ .i32 w A n c xs)(l:Laid w)(k:0<n):GK prog 238 #[Pl A n c] w (PWh w (Lm (nth xs 0))):=by
 have⟨R,p⟩:=K' h l;have y:=aU 0 n;obtain⟨i,rfl,q⟩:=R.o.ce k;rw[show i.add 0=i from oZ i]at q;obtain⟨g,j⟩:=bounds_i32 (R.o.cZ k);have m:=sH (lS (nth xs 0) g j w p.o);have E:ak (Lm (nth xs 0)=((aN (nth xs 0)).script==7||(aN (nth xs 0)).script==8||(aN (nth xs 0)).script==9)):=⟨rfl⟩;generalize nth xs 0=z at*;go_enter func238,ntmps238;go_wp2_with fail;refine m.o.mono ?_;rintro e v ⟨rfl,o⟩;have a:=sH o;generalize(aN z).script=x at*;by_cases f:x=7
 .subst f
  go_wp2;go_ret;exact⟨zp,a.o⟩
 by_cases d:x=8
 .subst d
  go_wp2;go_ret;exact⟨zp,a.o⟩
 by_cases b:x=9
 .subst b
  go_wp2;go_ret;exact⟨zp,a.o⟩
 have r:ak (Lm z=OZ):=⟨by rw[E.o];simp[f,d,b]⟩;have s:(x==7)=OZ:=by simpa using f
 have t:(x==8)=OZ:=by simpa using d
 have u:(x==9)=OZ:=by simpa using b
 go_wp2;go_ret;exact⟨by rw[r.o];rfl,a.o⟩
def clK(z:Int):Int:=if z<0 then 0 else z
def PCl(w:EE)(z:Int)(e:IS)(a:EE):Prop:=e=RE (P8 #[ae aj (clK z),PF (decide (0<=z))])/\az w a
def Pa(A:aB)(m c:Nat)(xs:aC)(B:aB)(n d:Nat)(f:aC)(w:EE)(h:aJ .i32 w A m c xs)(k:aJ .i32 w B n d f)(H:Laid w)(s:m<=100000)(J:n<=100000)(P:0<m)(k0:0<n):GK prog 166 #[Pl A m c,Pl B n d] w (PCl w (J' xs m f n)):=by
 have⟨R,S,j⟩:=MO h k H;have⟨x,D⟩:=eY (jnV xs m OX);have⟨y,C⟩:=eY (jnV f n OZ);have⟨bw,r⟩:∃b,ie xs 0 m=b:=⟨_,rfl⟩;have⟨o,g⟩:∃b,Lm (nth xs 0)=b:=⟨_,rfl⟩;have⟨p,i⟩:∃b,Lm (nth f 0)=b:=⟨_,rfl⟩;have HC:ak (J' xs m f n=if bw=OX then 0 else if(jl x&&jr y)=OX then 1 else if(o&&p)=OX then 2 else-1):=⟨by unfold J';rw[r,g,i,<-D,<-C];rfl⟩;have U:ak (∀W,az w W->GK prog 237 #[Pl A m c,PF OX] W (PJn W x)):=⟨λW a=>by rw[<-D];exact IH A m c xs OX W (R.o.ar a) (j.o.ar a) s⟩;have K:ak (∀W,az w W->GK prog 237 #[Pl B n d,PF OZ] W (PJn W y)):=⟨λW a=>by rw[<-C];exact IH B n d f OZ W (S.o.ar a) (j.o.ar a) J⟩;have V:ak (∀W,az w W->GK prog 165 #[Pl A m c] W (PWh W bw)):=⟨λW a=>by rw[<-r];exact zF A m c xs W (R.o.ar a) (j.o.ar a) s⟩;have G:ak (∀W,az w W->GK prog 238 #[Pl A m c] W (PWh W o)):=⟨λW a=>by rw[<-g];exact vT A m c xs W (R.o.ar a) (j.o.ar a) P⟩;have O:ak (∀W,az w W->GK prog 238 #[Pl B n d] W (PWh W p)):=⟨λW a=>by rw[<-i];exact vT B n d f W (S.o.ar a) (j.o.ar a) k0⟩;have⟨z,F⟩:=eY (J' xs m f n);rw[F]at HC⊢;have ZV:ak (PCl w z=PCl w z):=⟨rfl⟩;go_enter func166,ntmps166;go_wp2_with fail;refine(U.o _ (Below.refl _ _)).mono ?_;rintro e w1 ⟨rfl,E⟩;have u:=sH E;go_wp2_with fail;refine callK (K.o _ u.o) u λw2 b2 t=> ?_;go_wp2_with fail;refine callK (V.o _ t.o) t λX Z l=> ?_;cases bw;rotate_left
 .go_wp2
  go_ret2;exact⟨Db,l.o⟩
 go_upto_region 4 with fail;go_cut[15](λv T=>v=PF (jl x&&jr y)/\X=T)
 ·
  cases N:(x==1)<;>cases M:(x==3)<;>cases Q:(y==1)<;>cases L:(y==2)
  all_goals
   go_wp2;go_meet;exact⟨by simp[jl,jr,N,M,Q,L],rfl⟩
 obtain⟨rfl,rfl⟩:=hcut;have⟨b,a⟩:=eY (jl x&&jr y);rw[a]at HC⊢;cases b;rotate_left
 .go_wp2
  go_ret2;exact⟨Db,l.o⟩
 go_wp2_with fail;refine callK (G.o _ l.o) l λw4 Y q=> ?_;cases o
 .go_wp2
  go_ret2;exact⟨Db,q.o⟩
 go_wp2_with fail;refine callK (O.o _ q.o) q λw5 b5 I=> ?_;cases p
 all_goals
  go_wp2;go_ret2;exact⟨Db,I.o⟩
def Ac{ts:aC}{f t:Nat}:∀{k:Nat},f+k<=t->jm ((ts.take t).drop f) 0 k=(jm ts f k).map (·-f)
 |0,_=>rfl
 |k+1,h=>by
  have ih:=Ac (ts:=ts) (f:=f) (t:=t) (k:=k) aq;have e:nth ((ts.take t).drop f) (0+k)=nth ts (f+k):=by
   unfold nth;simp only[List.getD_eq_getElem?_getD,List.getElem?_drop,List.getElem?_take];rw[if_pos aq]
   congr 2
   rw[Nat.zero_add]
  cases a:jm ts f k with
  |some d=>
   rw[a]at ih;rw[qP ih,qP a];rfl
  |none=>
   rw[a]at ih;rw[qX ih,qX a,e];split
   .simp
   .rfl
def aeI:aS prog 27 21 1 4:=bD underlying27 (z:=.int .i32 0) aF rfl aq aq
def PIx(w:EE)(xs:aC)(n:Nat)(e:IS)(a:EE):Prop:=∃z:Int,e=RE (ae aj z)/\(z= -1/\jm xs 0 n=OJ∨∃i:Nat,z=(i:Int)/\jm xs 0 n=OH i/\i<n)/\a=w
def XH(A:aB)(n c:Nat)(xs:aC)(w:EE)(h:aJ .i32 w A n c xs)(p:n<=100000):GK prog 168 #[Pl A n c,.int .i32 46] w (PIx w xs n):=by
 have R:=sH h;go_enter func168,ntmps168;go_wp2;go_loopg[8](n+1)(λgg v wr=>∃i:Nat,n-i<gg/\i<=n/\v=ae aj (i:Int)/\ak (jm xs 0 i=OJ)/\wr=w)
 .exact⟨0,aq,aq,rfl,⟨rfl⟩,rfl⟩
 obtain⟨i,o,hi,rfl,f,rfl⟩:=hrel;by_cases a:i<n;rotate_left
 .have j:=cI i n
  obtain rfl:i=n:=aq;go_wp2;go_ret;exact⟨_,rfl,.inl ⟨rfl,f.o⟩,rfl⟩
 have j:=aU i n;obtain⟨m,rfl,l⟩:=R.o.ce a;have b:=qX f.o;rw[Nat.zero_add]at b;generalize nth xs i=y at*;by_cases d:y=46
 .have e:ak (jm xs 0 n=OH i):=⟨I6 (k:=i+1) aq (by rw[b,if_pos d])⟩
  have g:((46:Int)==y)=OX:=by simp[d]
  go_wp2;go_ret;exact⟨_,rfl,.inr ⟨i,rfl,e.o,a⟩,rfl⟩
 .have e:ak (jm xs 0 (i+1)=OJ):=⟨by rw[b,if_neg d]⟩
  have g:((46:Int)==y)=OZ:=pW;go_wp2;go_roundg(n-i)
  .exact⟨i+1,aq,aq,ns,e,rfl⟩
  omega
def WV(ts:aC)(ps:List fX)(a k:Nat)(z:Int)(b:Bool):Prop:=match lL ts ps a k with
 |some d=>b=OX/\z=IK (gi ps a d k)
 |none=>b=OZ/\z=IK (sE ps a k)
def lx{ps:List fX}{z:Int}{b:Bool}(h:lL ts ps a k=OH d):WV ts ps a k z b↔b=OX/\z=IK (gi ps a d k):=by unfold WV;rw[h]
def kX{ps:List fX}{z:Int}{b:Bool}(h:lL ts ps a k=OJ):WV ts ps a k z b↔b=OZ/\z=IK (sE ps a k):=by unfold WV;rw[h]
def agT(w:EE)(ts:aC)(ps:List fX)(a k:Nat)(e:IS)(c:EE):Prop:=∃(z:Int) (b:Bool),e=RE (P8 #[ae aj (IK (sG ps a k)),ae aj z,PF b])/\WV ts ps a k z b/\az w c
def Ol{x:fv}(h:W=w.alloc (RM x.row t)):∀q u,x.F[q]? =OH u->W.cell? ⟨w.heap.size,q,OJ⟩=OH u:=λq u a=>by
 rw[h,cell_of_row _ _ _ _ _ _ (heap_alloc_new w _),<-a];simp[fv.row,fv.F]
def zg{k b a e f c i d j g:Int}(h:W=w.alloc (RM #[ae aj k,ae aj b,ae aj a,ae aj e,ae aj f,ae aj c,ae aj i,ae aj d,ae aj j,ae aj g] t)):W.cell? ⟨w.heap.size,1,OJ⟩=OH (ae aj b)/\W.cell? ⟨w.heap.size,2,OJ⟩=OH (ae aj a):=by
 rw[h,cell_of_row _ _ _ _ _ _ (heap_alloc_new w _),cell_of_row _ _ _ _ _ _ (heap_alloc_new w _)];exact⟨rfl,rfl⟩
def ten{g:aC}(h:g.length=10):∃l k a d e b i c j f:Int,g=[l,k,a,d,e,b,i,c,j,f]:=by
 match g,h with
 |[l,k,a,d,e,b,i,c,j,f],_=>exact⟨l,k,a,d,e,b,i,c,j,f,rfl⟩
def Rx.Nn(h:Rx w B 10 gs A n)(s:j<n):∃(a:Addr) (p m l f o c i d k g:Int),A=OH a/\dS gs j=[p,m,l,f,o,c,i,d,k,g]/\w.cell? (a.add (j*10))=OH (ae aj p)/\
 w.cell? (bX (a.add (j*10)) 1)=OH (ae aj m)/\w.cell? (bX (a.add (j*10)) 2)=OH (ae aj l)/\w.cell? (bX (a.add (j*10)) 3)=OH (ae aj f)/\w.cell? (bX (a.add (j*10)) 4)=OH (ae aj o)/\w.cell? (bX (a.add (j*10)) 5)=OH (ae aj c)/\
 w.cell? (bX (a.add (j*10)) 6)=OH (ae aj i)/\w.cell? (bX (a.add (j*10)) 7)=OH (ae aj d)/\w.cell? (bX (a.add (j*10)) 8)=OH (ae aj k)/\w.cell? (bX (a.add (j*10)) 9)=OH (ae aj g):=by
 obtain⟨a,e,t,_,b⟩:=h.at_ s;obtain⟨p,m,l,f,o,c,i,d,k,g,r⟩:=ten t;rw[r]at b;have q:=b 0 aq;rw[oZ]at q;exact⟨a,p,m,l,f,o,c,i,d,k,g,e,r,q,b 1 aq,b 2 aq,b 3 aq,b 4 aq,b 5 aq,b 6 aq,b 7 aq,b 8 aq,b 9 aq⟩
def Y'{G:Prop}(s:G:=by
 exact⟨j+1,_,aq,aq,rfl,ns,HY2,B2⟩):G:=s
def Bb(xs:List fv)(a k d:Nat)(A:aB)(T:aB)(n c:Nat)(ts:aC)(w:EE)(h:ta w w.heap.size xs a k A)(N:aJ .i32 w T n c ts)(hk:k<=1000)(hn:n<=100000)(hg:hF xs)(hi:InT n xs)(hs:El (qs xs)):GK prog 95 #[Pl T n c,Pl A k d] w (agT w ts (qs xs) a k):=by
 have⟨R,TX,HG,IT,SD⟩:=MR h N hg hi hs;clear h N hg hi hs;go_enter func95,ntmps95;go_wp2;go_loopg[7,8,9,18](k+1)(λgg v7 U v9 Qq wr=>∃(i:Nat) (X Z:Int) (b:Bool),k-i<gg/\i<=k/\v7=ae aj X/\U=ae aj Z/\v9=PF b/\Qq=ae aj (i:Int)/\ak (X=IK (sG (qs xs) a i))/\ak (WV ts (qs xs) a i Z b)/\ak (az w wr))
 .exact⟨0,0,0,OZ,aq,aq,rfl,rfl,rfl,rfl,⟨Rj.symm⟩,⟨(kX rfl).2 ⟨rfl,Rj.symm⟩⟩,cJ⟩
 obtain⟨i,X,Z,b,hgi,hi,rfl,rfl,rfl,rfl,HX,L,P⟩:=hrel;by_cases aG:i<k;rotate_left
 .have i4:=cI i k
  obtain rfl:i=k:=aq;go_wp2;go_ret3;exact⟨Z,b,by rw[<-HX.o]<;>rfl,L.o,P.o⟩
 have i4:=aU i k;have Eh:=P.o.size;obtain⟨ad,x,hx,rfl,c0,c1,aW,c3,c4,c5,c6,c7,c8,rx⟩:=(R.o.Z P.o P.o.size).at aG;have hkx:=R.o.1;have O:ak (cW (qs xs) (a+i)=x.q):=⟨Jl⟩;have V:=HG.o (a+i) aq;obtain⟨B,F⟩:=IT.o.ne (a+i) aq;rw[hx]at V B F;have⟨r,aP⟩:=eX (wr.alloc (RM x.row 44));have PB:=Ol aP;have B1:ak (az w r):=⟨by rw[aP];exact P.o.alloc Eh _⟩;have RX:=sH (rx.Z (show az wr r by rw[aP];exact aw _ _) (show wr.heap.size<=r.heap.size by rw[aP];simp));have p0:=PB 0 _ rfl;have p1:=PB 1 _ rfl;have p3:=PB 3 _ rfl;have p4:=PB 4 _ rfl;have v:ak (IK (X+x.q.wide)=IK (sG (qs xs) a (i+1))):=⟨by rw[HX.o,ti];show _=IK (sG _ _ i+_);rw[O.o]⟩;go_upto_region 6 with fail;rw[<-aP];have ib:r.heap.size=wr.heap.size+1:=oW;clear aP PB c0 c1 aW c3 c4 c5 c6 c7 c8 rx hx;cases b;rotate_left
 .have p:ak (WV ts (qs xs) a (i+1) Z OX):=⟨by
   cases l:lL ts (qs xs) a i with
   |none=>have:=(kX l).1 L.o;simp at this
   |some q=>
    obtain⟨_,h2⟩:=(lx l).1 L.o;obtain⟨i0,h3,_,h5⟩:=IE l;rw[lx (JW l)];exact⟨rfl,by rw[h2,Fx SD.o h3 (by simp;omega) h5]⟩⟩
  go_wp2;go_roundg(k-i)
  .exact⟨i+1,_,Z,OX,aq,aq,rfl,rfl,rfl,ns,v,p,B1⟩
  omega
 have DN:ak (lL ts (qs xs) a i=OJ/\Z=IK (sE (qs xs) a i)):=⟨by
  cases l:lL ts (qs xs) a i with
  |none=>exact⟨rfl,((kX l).1 L.o).2⟩
  |some q=>have:=((lx l).1 L.o).1;simp at this⟩
 clear L;have E:=KU (ts:=ts) (ps:=qs xs) (a:=a) (k:=i) DN.o.1;rw[O.o]at E;have AE:ak (sE (qs xs) a (i+1)=sE (qs xs) a i+iB x.q.gs x.q.t x.q.gs.length):=⟨by show sE _ _ i+_=_;rw[O.o]⟩;have AM:ak (∀q,x.q.f<=q->sE (qs xs) a i+iB x.q.gs q x.q.gs.length=gi (qs xs) a q (i+1)):=⟨λq hq=>by have:=Ka (d:=q) SD.o (a:=a) (k:=i) br (by rw[O.o];exact hq);rw[O.o]at this;exact this⟩;have⟨f,hf⟩:=eY x.q.f;have⟨t,N⟩:=eY x.q.t;have⟨S,hS⟩:=eY (sE (qs xs) a i);have⟨m,hm⟩:=eY x.q.gs.length;rw[hf]at p0 B E AM;rw[N]at p1 B F E AE;rw[hS]at AE AM DN;rw[hm]at V p3 RX AE AM;have⟨G,hG⟩:=eY x.G;rw[hG]at p3 RX;obtain⟨A2,c2,CR⟩:=jC aeI T n c f t aq F TX.o.le (f:Int) (t:Int) rfl rfl;have s:=CR.run;have X2:=sH (CR.gI (TX.o.ar B1.o));have DC:=sH (Ac (ts:=ts) (f:=f) (t:=t) (k:=t-f) aq);have E:=sH E;clear hf N hS hm CR hG;go_upto_region 9 with fail;clear p4;go_wp2_with fail;refine(XH A2 (t-f) c2 _ r X2.o aq).mono ?_;rintro e w2 ⟨z,rfl,D,W⟩;subst w2;rcases D with⟨rfl,D⟩|⟨q,rfl,D,hqn⟩
 .have K:ak (∀Y,Y=IK (S+iB x.q.gs (t:Int) m)->WV ts (qs xs) a (i+1) Y OZ):=⟨λY hY=>by
   have h1:jm ts f (t-f)=OJ:=by
    have:=DC.o;rw[D]at this;cases l:jm ts f (t-f)with
    |none=>rfl
    |some d=>rw[l]at this;simp at this
   rw[kX (by rw[E.o,h1])];exact⟨rfl,by rw[hY,AE.o]⟩⟩
  clear D s p0;go_wp2;clear p1 p3;go_loopg[8,15,45](m+1)(λgg U _ C wx=>∃(j:Nat) (Y:Int),m-j<gg/\j<=m/\U=ae aj Y/\C=ae aj (j:Int)/\ak (Y=IK (S+iB x.q.gs (t:Int) j))/\ak (az r wx))
  .exact⟨0,Z,aq,aq,rfl,rfl,⟨by rw[DN.o.2];simp[iB]⟩,cJ⟩
  obtain⟨j,Y,hgj,hj,rfl,rfl,J,o⟩:=hrel;by_cases H:j<m;rotate_left
  .have i5:=cI j m
   obtain rfl:j=m:=aq;have p:=sH (K.o Y J.o);have B3:=B1.t o.o;go_wp2;go_roundg(k-i)
   .exact⟨i+1,_,Y,OZ,aq,aq,rfl,rfl,rfl,ns,v,p,B3⟩
   omega
  have i5:=aU j m;obtain⟨ew,x0,y,I,x3,x4,x5,x6,x7,x8,x9,rfl,XW,e0,e1,W,e3,e4,e5,e6,e7,e8,e9⟩:=(RX.o.Z o.o o.o.size).Nn H;have Q:ak (iB x.q.gs (t:Int) (j+1)=iB x.q.gs (t:Int) j+if y<(t:Int)then I else 0):=⟨afs⟩;have⟨W2,g⟩:=eX ((wr:EE).alloc (RM #[ae aj x0,ae aj y,ae aj I,ae aj x3,ae aj x4,ae aj x5,ae aj x6,ae aj x7,ae aj x8,ae aj x9] 126));obtain⟨g1,g2⟩:=zg g;have B2:ak (az r W2):=⟨by rw[g];exact o.o.alloc o.o.size _⟩;go_upto_region 15 with fail;rw[<-g];clear g e0 e1 W e3 e4 e5 e6 e7 e8 e9 XW;by_cases M:y<(t:Int)
  .have HY2:ak (IK (Y+I)=IK (S+iB x.q.gs (t:Int) (j+1))):=⟨by rw[Q.o,if_pos M,J.o,ti];congr 1;omega⟩
   go_wp2;go_roundg(m-j)
   .exact Y'
   omega
  .have HY2:ak (Y=IK (S+iB x.q.gs (t:Int) (j+1))):=⟨by rw[Q.o,if_neg M,J.o];congr 1;omega⟩
   go_wp2;go_roundg(m-j)
   .exact Y'
   omega
 .have⟨u,hu⟩:=eY (f+q)
  have hui:(f:Int)+(q:Int)=(u:Int):=aq;have K:ak (∀Y,Y=IK (S+iB x.q.gs (u:Int) m)->WV ts (qs xs) a (i+1) Y OX):=⟨λY hY=>by
   have h1:jm ts f (t-f)=OH u:=by
    have:=DC.o;rw[D]at this;cases l:jm ts f (t-f)with
    |none=>rw[l]at this;simp at this
    |some d=>rw[l]at this;simp at this;have:=xV l;congr 1;omega
   rw[lx (by rw[E.o,h1])];exact⟨rfl,by rw[hY,AM.o u (by omega)]⟩⟩
  clear D s;go_wp2;clear p0 p1 p3;go_loopg[8,15,45](m+1)(λgg U _ C wx=>∃(j:Nat) (Y:Int),m-j<gg/\j<=m/\U=ae aj Y/\C=ae aj (j:Int)/\ak (Y=IK (S+iB x.q.gs (u:Int) j))/\ak (az r wx))
  .exact⟨0,Z,aq,aq,rfl,rfl,⟨by rw[DN.o.2];simp[iB]⟩,cJ⟩
  obtain⟨j,Y,hgj,hj,rfl,rfl,J,o⟩:=hrel;by_cases H:j<m;rotate_left
  .have i5:=cI j m
   obtain rfl:j=m:=aq;have p:=sH (K.o Y J.o);have B3:=B1.t o.o;go_wp2;go_roundg(k-i)
   .exact⟨i+1,_,Y,OX,aq,aq,rfl,rfl,rfl,ns,v,p,B3⟩
   omega
  have i5:=aU j m;obtain⟨ew,x0,y,I,x3,x4,x5,x6,x7,x8,x9,rfl,XW,e0,e1,W,e3,e4,e5,e6,e7,e8,e9⟩:=(RX.o.Z o.o o.o.size).Nn H;have Q:ak (iB x.q.gs (u:Int) (j+1)=iB x.q.gs (u:Int) j+if y<(u:Int)then I else 0):=⟨afs⟩;have⟨W2,g⟩:=eX ((wr:EE).alloc (RM #[ae aj x0,ae aj y,ae aj I,ae aj x3,ae aj x4,ae aj x5,ae aj x6,ae aj x7,ae aj x8,ae aj x9] 126));obtain⟨g1,g2⟩:=zg g;have B2:ak (az r W2):=⟨by rw[g];exact o.o.alloc o.o.size _⟩;go_upto_region 15 with fail;rw[<-g];clear g e0 e1 W e3 e4 e5 e6 e7 e8 e9 XW;by_cases M:y<(u:Int)
  .have HY2:ak (IK (Y+I)=IK (S+iB x.q.gs (u:Int) (j+1))):=⟨by rw[Q.o,if_pos M,J.o,ti];congr 1;omega⟩
   go_wp2;go_roundg(m-j)
   .exact Y'
   omega
  .have HY2:ak (Y=IK (S+iB x.q.gs (u:Int) (j+1))):=⟨by rw[Q.o,if_neg M,J.o];congr 1;omega⟩
   go_wp2;go_roundg(m-j)
   .exact Y'
   omega
def iH(ts:aC)(ps:List fX):Nat->Nat
 |0=>0
 |k+1=>if mf ts (cW ps k).f (cW ps k).t=(cW ps k).f then iH ts ps k else k+1
def yK(ts:aC)(ps:List fX):∀k,iH ts ps k<=k
 |0=>Nat.le_refl _
 |k+1=>by
  have:=yK ts ps k;unfold iH;split<;>omega
def gQ(ts:aC)(ps:List fX)(k:Nat):List (Int×Int):=fP ts ps (iH ts ps k) (iH ts ps k+1) 0
def XU{ps:List fX}(h:mf ts (cW ps k).f (cW ps k).t=(cW ps k).f):iH ts ps (k+1)=iH ts ps k:=by
 rw[iH,if_pos h]
def Yr{ps:List fX}(h:¬mf ts (cW ps k).f (cW ps k).t=(cW ps k).f):iH ts ps (k+1)=k+1:=by
 rw[iH,if_neg h]
def iJ(l:List (Int×Int)):aC:=l.map (·.1)
def oU(l:List (Int×Int)):aC:=l.map (·.2)
def PSl(w:EE)(l:List (Int×Int))(e:IS)(a:EE):Prop:=∃(A:aB) (c:Nat) (C:aB) (d:Nat),e=RE (P8 #[Pl A l.length c,Pl C l.length d])/\Own a w.heap.size 3 .i64 A l.length c (iJ l)/\Own a w.heap.size 3 .i64 C l.length d (oU l)/\az w a
structure oF(w wr:EE)(l:List (Int×Int))(A:aB)(c:Nat)(C:aB)(d:Nat):Prop where
 o1:Own wr w.heap.size 3 .i64 A l.length c (iJ l)
 o2:Own wr w.heap.size 3 .i64 C l.length d (oU l)
 ap:bR A C
 be:az w wr
def oF.nil(w:EE):oF w w [] OJ 0 OJ 0:=⟨Own.nil _ _ _ _,Own.nil _ _ _ _,jV _,Below.refl _ _⟩
def oF.ar{w wr b:EE}{l:List (Int×Int)}{A C:aB}{c d:Nat}(h:oF w wr l A c C d)(a:az wr b):oF w b l A c C d:=⟨h.o1.ar a,h.o2.ar a,h.ap,h.be.trans (a.mono h.be.size)⟩
section
variable{w wr w1 w2:EE}{l:List (Int × Int)}{A A' C C':aB}{c d c' d':Nat}{x:Int × Int}{o1 o2:Obj}
def oF.step(h:oF w wr l A c C d)(f:Own w1 w.heap.size 3 .i64 A' (l.length+1) c' (iJ l++[x.1]))(a:(wr.alloc o1).grownBy w1 (Value.slice A l.length c).ownBlock)(e:∀g,A'=OH ⟨g,0,OJ⟩->A=OH ⟨g,0,OJ⟩∨(wr.alloc o1).heap.size<=g):Own w1 w.heap.size 3 .i64 C l.length d (oU l)/\bR A' C:=
 ⟨Own.kept (Own.alloc h.o2 _) a h.ap.symm (aA.dU h.o1),bR.grow (w:=wr.alloc o1) h.ap (λg b=>by have:=h.o2;subst b;have:=(aA.yp this).2;simp;omega) e⟩
def oF.push(h:oF w wr l A c C d)(b:Own w1 w.heap.size 3 .i64 A' (l.length+1) c' (iJ l++[x.1]))(f:EI w.heap.size (wr.alloc o1) w1)(a:Own w1 w.heap.size 3 .i64 C l.length d (oU l)/\bR A' C)
 (i:Own w2 w.heap.size 3 .i64 C' (l.length+1) d' (oU l++[x.2])) (p:EI w.heap.size (w1.alloc o2) w2) (g2:(w1.alloc o2).grownBy w2 (Value.slice C l.length d).ownBlock) (k:∀g,C'=OH ⟨g,0,OJ⟩->C=OH ⟨g,0,OJ⟩∨(w1.alloc o2).heap.size<=g):oF w w2 (l++[x]) A' c' C' d':=by
 have m:iJ (l++[x])=iJ l++[x.1]:=by simp[iJ]
 have o:oU (l++[x])=oU l++[x.2]:=by simp[oU]
 have n:=h.be.size;have e:az w w1:=(h.be.alloc n o1).trans f;refine⟨?_, ?_, ?_,(e.alloc e.size o2).trans p⟩
 .rw[m,List.length_append]
  exact Own.kept (Own.alloc b _) g2 a.2 (aA.dU a.1)
 .rw[o,List.length_append]
  exact i
 .exact(bR.grow (w:=w1.alloc o2) a.2.symm (λg j=>by subst j;have:=(aA.yp b).2;simp;omega) k).symm
end
def UH(ts:aC)(ps:List fX)(k:Nat):(gQ ts ps k).length<=k+1:=by
 have a:=qL (ts:=ts) (ps:=ps) (n:=iH ts ps k) (iH ts ps k+1) 0;have b:=yK ts ps k;unfold gQ;omega
def Se(x:fv)(w:EE):GK prog 94 #[Q4 x.row] w λe c=>e=RE (PF x.q.iX)/\az w c:=by
 have⟨b,aP⟩:=eX (w.alloc (RM x.row 44));have a:ak (az w b):=⟨nR⟩;have d:=Ol aP 7 _ rfl;go_enter func94,ntmps94;go_upto_region 1 with fail;rw[<-aP];clear aP;go_wp2;go_ret;exact⟨rfl,a.o⟩
def PTi(w:EE)(ps:List fX)(a k:Nat)(e:IS)(b:EE):Prop:=∃z:Int,e=RE (ae aj z)/\(z= -1/\jA ps a k=k∨z=(jA ps a k:Int)/\jA ps a k<k)/\az w b
def Lb(xs:List fv)(a k d:Nat)(A:aB)(w:EE)(h:ta w w.heap.size xs a k A)(C:k<=1000):GK prog 93 #[Pl A k d,.func (.func 94) #[] #[]] w (PTi w (qs xs) a k):=by
 have R:=sH h;clear h;have F:∀args w,(callFunc 94 args).run prog w=.ok (.enter 94 args) w:=λargs w=>by
  first|rfl|(simp[callFunc,go_sem])
 go_enter func93,ntmps93;go_wp2;go_loopg[8](k+1)(λgg v wr=>∃i:Nat,k-i<gg/\i<=k/\v=ae aj (i:Int)/\ak (∀j,j<i->(cW (qs xs) (a+j)).iX=OZ)/\ak (az w wr))
 .exact⟨0,aq,aq,rfl,⟨λj h=>by omega⟩,cJ⟩
 obtain⟨i,B,hi,rfl,l,e⟩:=hrel;by_cases c:i<k;rotate_left
 .have r:=cI i k
  obtain rfl:i=k:=aq;have E:ak (jA (qs xs) a i=i):=⟨yb l.o aq (.inl rfl)⟩;go_wp2;go_ret;exact⟨_,rfl,.inl ⟨rfl,E.o⟩,e.o⟩
 have r:=aU i k;obtain⟨z,x,hx,rfl,c0,p,g,t,c4,c5,c6,s,c8,rx⟩:=(R.o.Z e.o e.o.size).at c;have q:=R.o.1;have n:ak (cW (qs xs) (a+i)=x.q):=⟨Jl⟩;have u:=sH (Se x wr);clear rx hx;go_wp2_with fail;refine callK u.o e λG y m=> ?_;clear y c0 p g t c4 c5 c6 s c8;cases b:x.q.iX
 .have f:ak (∀j,j<i+1->(cW (qs xs) (a+j)).iX=OZ):=⟨λj D=>by
   rcases Nat.lt_or_ge j i with o|o
   .exact l.o j o
   .obtain rfl:j=i:=by omega
    rw[n.o,b]⟩
  clear b;go_wp2;go_roundg(k-i)
  .exact⟨i+1,aq,aq,ns,f,m⟩
  omega
 .have E:ak (jA (qs xs) a k=i):=⟨yb l.o aq (.inr (by rw[n.o,b]))⟩
  clear b;go_wp2;go_ret;exact⟨_,rfl,.inr ⟨pX,by rw[E.o];exact c⟩,m.o⟩
def Vm(s a b:Int):IK (IK s-IK (a-b))=IK (s+(b-a)):=CM
def Lc(xs:List fv)(k d:Nat)(A:aB)(T:aB)(n c:Nat)(ts:aC)(w:EE)(h:ta w w.heap.size xs 0 k A)(hd:k<=d)(ht:aJ .i32 w T n c ts)(hL:Laid w)(hk:k<=1000)(hn:n<=100000)(hg:hF xs)(hi:InT n xs)(hs:El (qs xs)):GK prog 36 #[Pl T n c,Pl A k d] w (PSl w (gQ ts (qs xs) k)):=by
 have⟨R,TX,LW,HG,IT,SD⟩:=NT h ht hL hg hi hs;have hkl:=h.1;have⟨L,hL⟩:=eY (gQ ts (qs xs) k);have HL0:=sH hL;rw[hL];clear h ht hg hi hL hs;go_enter func36,ntmps36;go_upto_block 0 with fail;go_cut[1](λv wx=>∃(m:Nat) (M:aB) (D:Nat),m<=k/\m<=D/\v=Pl M m D/\ak (iH ts (qs xs) k=m)/\ak (ta w w.heap.size xs 0 m M)/\ak (az w wx))
 ·
  go_wp2;go_loopg[1](k+1)(λgg v wr=>∃(m:Nat) (M:aB) (D:Nat),m<gg/\m<=k/\m<=D/\v=Pl M m D/\ak (iH ts (qs xs) m=iH ts (qs xs) k)/\ak (ta w w.heap.size xs 0 m M)/\ak (az w wr))
  .exact⟨k,A,d,aq,aq,hd,rfl,⟨rfl⟩,R,cJ⟩
  obtain⟨m,M,D,hg,hm,t,rfl,CN,R1,BE⟩:=hrel;rcases Nat.eq_zero_or_pos m with V|V
  .have T6:decide (0<m)=OZ:=ji
   have E:ak (iH ts (qs xs) k=m):=⟨by rw[<-CN.o,V];rfl⟩;clear V;go_wp2;go_meet;exact⟨m,M,D,hm,t,rfl,E,R1,BE⟩
  obtain⟨j,hj⟩:∃j,j+1=m:=⟨m-1,aq⟩;have Ja:(m:Int)-1=(j:Int):=aq;have Um:decide (0<m)=OX:=Je;have hjm:=aU j m;obtain⟨ad,x,hx,rfl,c0,c1,aW,c3,c4,c5,c6,y,c8,rx⟩:=(R1.o.Z BE.o BE.o.size).at (show j<m by omega);rw[Nat.zero_add]at hx;have EQ:ak (cW (qs xs) j=x.q):=⟨Jl⟩;obtain⟨sN,iG⟩:=IT.o.ne j aq;rw[hx]at sN iG;have CS:=sH (abO x T n c ts wr (TX.o.ar BE.o) (LW.o.ar BE.o) aq iG hn);have YES:ak (whB ts x.q=OX->iH ts (qs xs) j=iH ts (qs xs) k):=⟨λh=>by rw[<-CN.o,<-hj];exact(XU (by rw[EQ.o];simpa[whB]using h)).symm⟩;have NO:ak (whB ts x.q=OZ->iH ts (qs xs) k=m):=⟨λh=>by rw[<-CN.o,<-hj];exact Yr (by rw[EQ.o];simpa[whB]using h)⟩;have HJ:=sH hj;clear rx hx sN iG V hj;cases hb:whB ts x.q
  .have E:ak (iH ts (qs xs) k=m):=⟨NO.o hb⟩
   rw[hb]at CS;clear YES NO hb;go_wp2_with fail;refine callK CS.o BE λw2 b2 B2=> ?_;clear b2;go_wp2;go_meet;exact⟨m,_,D,hm,t,rfl,E,R1,B2⟩
  .have E:ak (iH ts (qs xs) j=iH ts (qs xs) k):=⟨YES.o hb⟩
   rw[hb]at CS;clear YES NO hb;obtain⟨A3,yk,p⟩:=ab0 TPc (OH ad) m D j aq t (j:Int) rfl;have i:=p.run;have R3:=sH (p.pcs R1.o aq);have h3:=p.2.1;clear p;go_wp2_with fail;refine callK CS.o BE λw2 b2 B2=> ?_;clear b2 c0 c1 aW c3 c4 c5 c6 y c8;go_wp2;have hjj:=HJ.o;go_roundg(m)
   .exact⟨j,A3,yk,aq,aq,h3,rfl,E,R3,B2⟩
   omega
 obtain⟨m,M,D,hm,t,rfl,CN,R1,B1⟩:=hcut;have HL:ak (fP ts (qs xs) m (m+1) 0=L):=⟨by rw[<-HL0.o];unfold gQ;rw[CN.o]⟩;clear CN;go_wp2;go_loopg[6,7,8](m+2)(λgg v6 v7 v8 wr=>∃(a f:Nat) (l:List (Int×Int)) (A2:aB) (c2:Nat) (C2:aB) (e2:Nat),m+1-a<gg/\a<=m/\m+1<=a+f/\l.length<=a/\v6=Pl A2 l.length c2/\v7=Pl C2 l.length e2/\v8=ae aj (a:Int)/\ak (l++fP ts (qs xs) m f a=L)/\ak (oF w wr l A2 c2 C2 e2))
 .exact⟨0,m+1,[],OJ,0,OJ,0,aq,aq,aq,aT,rfl,rfl,rfl,⟨HL.o⟩,⟨Own.nil _ _ _ _,Own.nil _ _ _ _,jV _,B1.o⟩⟩
 obtain⟨a,f,l,A2,c2,C2,e2,hg,ham,hmf,X,rfl,rfl,rfl,LE,TW⟩:=hrel;have hTs:=TW.o.be.size;have jL:ak (m+1-a<gk):=⟨hg⟩;have hkx:=R1.o.1;obtain⟨f',IG⟩:∃f',f=f'+1:=⟨f-1,aq⟩;have HF:=sH IG;obtain⟨A4,c4,p⟩:=Wj TPc M m D a ham t (a:Int) rfl;have i:=p.run;have R4:=p.pcs (R1.o.Z TW.o.be hTs) aq;rw[Nat.zero_add]at R4;have R4:=sH R4;clear p hg IG;go_wp2_with fail;refine(Lb xs a (m-a) c4 A4 wr R4.o aq).mono ?_;rintro e w2 ⟨z,rfl,F,b2⟩;have U:=sH (TW.o.ar b2);clear b2 TW i;rcases F with⟨rfl,F⟩|⟨rfl,F⟩
 .have⟨q,hq⟩:=eY (m-a)
  have hqi:(m:Int)-(a:Int)=(q:Int):=aq;have vC:jA (qs xs) a (m-a)=q:=aq;have W:ak (l++[(wS (qs xs) a q OX,pS ts (qs xs) a q OX)]=L):=⟨by rw[<-LE.o,HF.o,vZ vC (by omega)]⟩;clear F vC hq;obtain⟨A5,c5,p⟩:=tq TPc M m D a (a+q) aq aq t (a:Int) ((a:Int)+(q:Int)) rfl aq;rw[show a+q-a=q by omega]at p;have i:=p.run;have J:=p.pcs (R1.o.Z U.o.be U.o.be.size) aq;rw[Nat.zero_add]at J;have J:=sH J;clear p;go_wp2_with fail;refine(Bb xs a q c5 A5 T n c ts _ J.o (TX.o.ar U.o.be) aq hn HG.o IT.o SD.o).mono ?_;rintro e w3 ⟨z,b,rfl,F,Z⟩;have⟨T3,R6⟩:=K' (U.o.ar Z) (J.o.Z Z Z.size);have⟨S0,B⟩:=eY (sG (qs xs) a q);have⟨r,o⟩:=eY (wS (qs xs) a q OX);have⟨g,s⟩:=eY (pS ts (qs xs) a q OX);have HP:ak ((b=OX->z=g)/\(b=OZ->r=g)):=⟨by
   rw[<-o,<-s];unfold pS;cases hd:lL ts (qs xs) a q with
   |some v=>have:=(lx hd).1 F;exact⟨λ_=>this.2,λh=>Js⟩
   |none=>have:=(kX hd).1 F;exact⟨λh=>Js,λ_=>rfl⟩⟩
  have HS:ak (r=IK (S0+pI (qs xs) a q OX)):=⟨by rw[<-o,<-B];rfl⟩;rw[o,s]at W;rw[B];clear F Z i U B o s;go_upto_if 61 with fail;go_cut[12](λv wx=>v=ae aj r/\ak (az w3 wx))
  ·
   rcases Nat.eq_zero_or_pos q with V|V
   .have T6:decide (0<q)=OZ:=ji
    have E:ak (IK S0=r):=⟨by rw[HS.o];unfold pI;rw[if_neg (by omega),Int.add_zero]⟩;have H0:=sH V;clear V;go_wp2_with fail
    all_goals first
     |(exfalso;have:=H0.o;omega)
     |(go_meet;exact⟨pX,cJ⟩)
   obtain⟨j,hj⟩:∃j,j+1=q:=⟨q-1,aq⟩;have zu:(q:Int)-1=(j:Int):=aq;have qA:decide (0<q)=OX:=Je;have hjq:=aU j q;obtain⟨ad,x,hx,rfl,c0,c1,aW,c3,c4,vB,c6,y,c8,rx⟩:=R6.o.at (show j<q by omega);have hkx:=R6.o.1;have E:ak (IK (IK S0-IK (x.q.wide-x.q.inner))=r):=⟨by
    rw[HS.o,Vm];unfold pI;rw[if_pos ⟨rfl,V⟩,show a+q-1=a+j by omega,mM aq,hx]⟩
   have⟨L4,L5⟩:=lc2 c4 vB;clear c0 c1 aW c3 c4 vB c6 y c8 rx hx V hj;go_wp2;refine mRl ?_;rintro _ ⟨nq,rfl⟩;go_wp2;go_meet;exact⟨pX,⟨nq.2⟩⟩
  obtain⟨rfl,BC⟩:=hcut;have u:=sH (T3.o.ar BC.o);have hz4:=u.o.be.size;cases b
  .obtain rfl:g=r:=(HP.o.2 rfl).symm
   go_wp2_with (first
    |(at_builtin;refine bL vr rfl (.tmp 80) (.tmp 82) rfl rfl (u.o.o1.alloc _) rfl (bk _ _ _) aq br ?_;intro I c6 w6 C b6 S H;have O6:=sH C;have B6:=sH b6;have O:=sH (u.o.step (x:=(g,g)) C S H);have hz6:w.heap.size<=w6.heap.size:=YT;clear C b6 S H)
    |(at_builtin;refine bL vr rfl (.tmp 84) (.tmp 86) rfl rfl (O.o.1.alloc _) rfl (bk _ _ _) aq br ?_;intro N y w7 P Q K G;have T7:ak (oF w w7 (l++[(g,g)]) I c6 N y):=⟨u.o.push O6.o B6.o O.o P Q K G⟩;clear P Q K G))
   have Y:=T7.o;rw[W.o]at Y;have X:l.length+1=L.length:=by rw[<-W.o];simp
   go_ret2;exact⟨I,c6,N,y,by rw[<-X]<;>rfl,Y.o1,Y.o2,Y.be⟩
  .obtain rfl:g=z:=(HP.o.1 rfl).symm
   go_wp2_with (first
    |(at_builtin;refine bL vr rfl (.tmp 80) (.tmp 82) rfl rfl (u.o.o1.alloc _) rfl (bk _ _ _) aq br ?_;intro I c6 w6 C b6 S H;have O6:=sH C;have B6:=sH b6;have O:=sH (u.o.step (x:=(r,g)) C S H);have hz6:w.heap.size<=w6.heap.size:=YT;clear C b6 S H)
    |(at_builtin;refine bL vr rfl (.tmp 84) (.tmp 86) rfl rfl (O.o.1.alloc _) rfl (bk _ _ _) aq br ?_;intro N y w7 P Q K G;have T7:ak (oF w w7 (l++[(r,g)]) I c6 N y):=⟨u.o.push O6.o B6.o O.o P Q K G⟩;clear P Q K G))
   have Y:=T7.o;rw[W.o]at Y;have X:l.length+1=L.length:=by rw[<-W.o];simp
   go_ret2;exact⟨I,c6,N,y,by rw[<-X]<;>rfl,Y.o1,Y.o2,Y.be⟩
 .have⟨q,hq⟩:=eY (jA (qs xs) a (m-a))
  rw[hq]at F⊢;have W:ak ((l++[(wS (qs xs) a q OZ,pS ts (qs xs) a q OZ)])++fP ts (qs xs) m (f-1) (a+q+1)=L):=⟨by rw[<-LE.o,HF.o,wP hq (by omega)];simp⟩;clear hq;obtain⟨A5,c5,p⟩:=tq TPc M m D a (a+q) aq aq t (a:Int) ((a:Int)+(q:Int)) rfl aq;rw[show a+q-a=q by omega]at p;have i:=p.run;have J:=p.pcs (R1.o.Z U.o.be U.o.be.size) aq;rw[Nat.zero_add]at J;have J:=sH J;clear p;go_wp2_with fail;refine(Bb xs a q c5 A5 T n c ts _ J.o (TX.o.ar U.o.be) aq hn HG.o IT.o SD.o).mono ?_;rintro e w3 ⟨z,b,rfl,F,Z⟩;have⟨T3,R6⟩:=K' (U.o.ar Z) (J.o.Z Z Z.size);have⟨S0,B⟩:=eY (sG (qs xs) a q);have⟨r,o⟩:=eY (wS (qs xs) a q OZ);have⟨g,s⟩:=eY (pS ts (qs xs) a q OZ);have HP:ak ((b=OX->z=g)/\(b=OZ->r=g)):=⟨by
   rw[<-o,<-s];unfold pS;cases hd:lL ts (qs xs) a q with
   |some v=>have:=(lx hd).1 F;exact⟨λ_=>this.2,λh=>Js⟩
   |none=>have:=(kX hd).1 F;exact⟨λh=>Js,λ_=>rfl⟩⟩
  have HS:ak (r=IK (S0+pI (qs xs) a q OZ)):=⟨by rw[<-o,<-B];rfl⟩;rw[o,s]at W;rw[B];clear F Z i U B o s;go_upto_if 61 with fail;go_cut[12](λv wx=>v=ae aj r/\ak (az w3 wx))
  ·
   have E:ak (IK S0=r):=⟨by rw[HS.o];unfold pI;rw[if_neg (by simp),Int.add_zero]⟩;go_wp2;go_meet;exact⟨pX,cJ⟩
  obtain⟨rfl,BC⟩:=hcut;have u:=sH (T3.o.ar BC.o);have hz4:=u.o.be.size;cases b
  .obtain rfl:g=r:=(HP.o.2 rfl).symm
   go_wp2_with (first
    |(at_builtin;refine bL vr rfl (.tmp 80) (.tmp 82) rfl rfl (u.o.o1.alloc _) rfl (bk _ _ _) aq br ?_;intro I c6 w6 C b6 S H;have O6:=sH C;have B6:=sH b6;have O:=sH (u.o.step (x:=(g,g)) C S H);have hz6:w.heap.size<=w6.heap.size:=YT;clear C b6 S H)
    |(at_builtin;refine bL vr rfl (.tmp 84) (.tmp 86) rfl rfl (O.o.1.alloc _) rfl (bk _ _ _) aq br ?_;intro N y w7 P Q K G;have T7:ak (oF w w7 (l++[(g,g)]) I c6 N y):=⟨u.o.push O6.o B6.o O.o P Q K G⟩;clear P Q K G))
   go_roundg(m+1-a)
   .exact⟨a+q+1,f-1,l++[(g,g)],I,c6,N,y,aq,aq,aq,br,aT,aT,ns,W,T7⟩
   have:=jL.o;omega
  .obtain rfl:g=z:=(HP.o.1 rfl).symm
   go_wp2_with (first
    |(at_builtin;refine bL vr rfl (.tmp 80) (.tmp 82) rfl rfl (u.o.o1.alloc _) rfl (bk _ _ _) aq br ?_;intro I c6 w6 C b6 S H;have O6:=sH C;have B6:=sH b6;have O:=sH (u.o.step (x:=(r,g)) C S H);have hz6:w.heap.size<=w6.heap.size:=YT;clear C b6 S H)
    |(at_builtin;refine bL vr rfl (.tmp 84) (.tmp 86) rfl rfl (O.o.1.alloc _) rfl (bk _ _ _) aq br ?_;intro N y w7 P Q K G;have T7:ak (oF w w7 (l++[(r,g)]) I c6 N y):=⟨u.o.push O6.o B6.o O.o P Q K G⟩;clear P Q K G))
   go_roundg(m+1-a)
   .exact⟨a+q+1,f-1,l++[(r,g)],I,c6,N,y,aq,aq,aq,br,aT,aT,ns,W,T7⟩
   have:=jL.o;omega
def ahv(w:EE)(b:List (Nat×Nat))(S:List (Nat×Int))(e:IS)(a:EE):Prop:=∃(A:aB) (c:Nat),e=RE (Pl A S.length c)/\OL a w.heap.size 158 2 (·=S.map (sR b)) A S.length c/\az w a
def aeL(a:List (Nat×Nat))(f t:Nat):Prop:=∀j,j<a.length->f<=(cV a j).1/\(cV a j).1<(cV a j).2/\(cV a j).2<=t
def TSl:aS prog 155 158 2 16:=bD underlying155 (z:=Q4 #[ae aj 0,ae aj 0]) aF rfl aq aq
def PJ(T:aB)(tn tc:Nat)(ts:aC)(f t:Nat)(A:aB)(n c:Nat)(l:List (Nat×Nat))(w:EE)(h:aJ .i32 w T tn tc ts)(hL:Laid w)(hc:Rx w w.heap.size 2 (l.map cR) A n)(hi:aeL l f t)(ht:t<=tn)(hn:tn<=40)(hm:n<=40):GK prog 88 #[Pl T tn tc,ae aj (f:Int),ae aj (t:Int),Pl A n c] w (ahv w l (gY ts l)):=by
 have R:ak _:=⟨h⟩;have LW:ak _:=⟨hL⟩;have C:ak _:=⟨hc⟩;have CI:ak _:=⟨hi⟩;have Ph:l.length=n:=by have:=hc.1;simpa using this
 have yf:=h.le;clear h hL hc hi;go_enter func88,ntmps88;go_wp2;go_loopg[9,11,20](n+1)(λgg v9 _ v20 wr=>∃(i:Nat) (A1:aB) (c1:Nat),n-i<gg/\i<=n/\v9=Pl A1 i c1/\v20=ae aj (i:Int)/\ak (OL wr w.heap.size 57 2 (·=(l.map cR).take i) A1 i c1)/\ak (az w wr))
 .exact⟨0,OJ,0,aq,aq,rfl,rfl,⟨OL.nil _ _ _ _ rfl⟩,cJ⟩
 obtain⟨i,A1,c1,hg,ve,rfl,rfl,OO,BE⟩:=hrel;by_cases aG:i<n
 .have i4:=aU i n
  have jL:ak (n-i<gk):=⟨hg⟩;obtain⟨M,rfl,u,v⟩:=(C.o.Z BE.o BE.o.size).vG aG;rw[uK aq]at u v;obtain⟨U,E,h3⟩:=CI.o i aq;have ET:ak ((l.map cR).take (i+1)=(l.map cR).take i++[[((cV l i).1:Int),((cV l i).2:Int)]]):=⟨IL aq⟩
  replace u:wr.cell? (M.add (i*2))=OH (ae aj ((cV l i).1:Int)):=u
  replace v:wr.cell? (bX (M.add (i*2)) 1)=OH (ae aj ((cV l i).2:Int)):=v
  generalize(cV l i).1=a at*;generalize(cV l i).2=b at*;have i5:(f:Int)<=(a:Int):=aq;have i6:(b:Int)<=(t:Int):=aq;have⟨W2,cg⟩:=eX ((wr:EE).alloc (RM #[ae aj (a:Int),ae aj (b:Int)] 57));have X2:ak (Bx W2 wr.heap.size #[ae aj (a:Int),ae aj (b:Int)]):=⟨lY⟩;have B2:ak (az w W2):=⟨ma⟩;have O2:ak _:=⟨OO.o.ar (aw wr (RM #[ae aj (a:Int),ae aj (b:Int)] 57))⟩;rw[<-cg]at O2;have gz:=B2.o.size;go_upto_region 5 with fail;rw[<-cg];clear cg u v hg;have x0:W2.cell? ⟨wr.heap.size,0,OJ⟩=OH (ae aj (a:Int)):=X2.o.cell 0;have x1:W2.cell? ⟨wr.heap.size,1,OJ⟩=OH (ae aj (b:Int)):=X2.o.cell 1;go_wp2_with (at_builtin;refine cd (L':=(·=(l.map cR).take (i+1))) TY rfl (.tmp 34) (.tmp 36) rfl rfl (O2.o.alloc _) rfl [(a:Int),(b:Int)] rfl (cP _ _ _ _ _ aT rfl) (λxs _ _ h=>by rw[ET.o,h]) aq br ?_;intro A8 c8 w8 o8 b8 _ _;have O8:ak _:=⟨o8⟩;have B8:ak (az w w8):=⟨(B2.o.alloc aq _).trans b8⟩;clear o8 b8);go_roundg(n-i)
  .exact⟨i+1,A8,c8,aq,aq,rfl,aV,O8,B8⟩
  have:=jL.o;omega
 have i4:=cI i n;obtain rfl:i=n:=aq;have RX:ak (Rx wr wr.heap.size 2 (l.map cR) A1 i/\i<=c1):=⟨by
  have hle:i<=c1:=by obtain⟨_,_,_,_,h4⟩:=OO.o;exact aA.le h4
  obtain⟨gs,U,E⟩:=OO.o.rl aq;rw[List.take_of_length_le br]at U;subst U;exact⟨E,hle⟩⟩
 have⟨N,hN⟩:=eY wr.heap.size;have BN:ak (EI N wr wr):=cJ;rw[hN]at RX;have HN:ak (w.heap.size<=N):=⟨by have:=BE.o.size;omega⟩;have⟨J,dP⟩:=eX wr;rw[<-dP]at RX BN BE hN⊢;have HSN:ak (J.heap.size=N):=⟨hN⟩;clear OO aG dP hN;go_upto_block 2 with fail;go_cut[9](λv9 wx=>∃(k:Nat) (A2:aB) (c2:Nat),k<=i/\v9=Pl A2 k c2/\ak (ef ts l i=k)/\ak (Rx J N 2 ((l.map cR).take k) A2 k)/\ak (EI N J wx))
 ·
  go_wp2;go_loopg[9](i+1)(λgg v9 wr=>∃(k:Nat) (A2:aB) (c2:Nat),k<gg/\k<=i/\k<=c2/\v9=Pl A2 k c2/\ak (ef ts l i=ef ts l k)/\ak (Rx J N 2 ((l.map cR).take k) A2 k)/\ak (EI N J wr))
  .exact⟨i,A1,c1,aq,aq,RX.o.2,rfl,⟨rfl⟩,⟨by rw[List.take_of_length_le (by simp;omega)];exact RX.o.1⟩,BN⟩
  obtain⟨k,A2,c2,dV,hk,hkc,rfl,DW,RK,BK⟩:=hrel;have BW:ak (az w wr):=⟨BE.o.trans (BK.o.mono HN.o)⟩;rcases Nat.eq_zero_or_pos k with h0|h0
  .have T6:decide (0<k)=OZ:=ji
   have D0:ak (ef ts l i=k):=⟨by rw[DW.o,h0];rfl⟩;clear h0;go_wp2;refine mRl ?_;rintro _ ⟨r,rfl⟩;have BQ:ak (EI N J r.1):=⟨BK.o.trans (r.2.mono zn)⟩;go_wp2;go_meet;exact⟨_,_,_,hk,rfl,D0,RK,BQ⟩
  obtain⟨j,hj⟩:∃j,j+1=k:=⟨k-1,aq⟩;have T6:decide (0<k)=OX:=Je;have uR:(k:Int)-1=(j:Int):=aq;have sX:=aU j k;have hj0:=gT j;obtain⟨P,rfl,u,v⟩:=(RK.o.Z BK.o zn).vG (show j<k by omega);have eg:dS ((l.map cR).take k) j=cR (cV l j):=by
   rw[<-uK aq];unfold dS;rw[List.getD_eq_getElem?_getD,List.getD_eq_getElem?_getD,List.getElem?_take,if_pos aq]
  rw[eg]at u v;obtain⟨U,E,h3⟩:=CI.o j aq;have⟨wb,XV⟩:∃b,ie ts (cV l j).1 ((cV l j).2-(cV l j).1)=b:=⟨_,rfl⟩;have DY:ak (wb=OX->ef ts l i=ef ts l j):=⟨λh=>by rw[DW.o,<-hj];exact vU (XV.trans h)⟩;have DN:ak (wb=OZ->ef ts l i=k):=⟨λh=>by rw[DW.o,<-hj];exact Af (XV.trans h)⟩
  replace u:wr.cell? (P.add (j*2))=OH (ae aj ((cV l j).1:Int)):=u
  replace v:wr.cell? (bX (P.add (j*2)) 1)=OH (ae aj ((cV l j).2:Int)):=v
  generalize(cV l j).1=a at*;generalize(cV l j).2=b at*;obtain⟨T2,cT,CR⟩:=jC Mp T tn tc a b aq aq yf (a:Int) (b:Int) rfl rfl;have fB:=CR.run;have PW:ak (∀G:aI wr,GK prog 165 #[Pl T2 (b-a) cT] G.1 (PWh G.1 wb)):=⟨λG=>by
   have:=zF T2 (b-a) cT _ G.1 (CR.gI ((R.o.ar BW.o).ar G.2)) ((LW.o.ar BW.o).ar G.2) aq;rw[qE aq,XV]at this;exact this⟩
  obtain⟨A3,c3,CQ⟩:=Ff TY (OH P) k c2 j aq hkc (j:Int) rfl;have ahG:=CQ.run;have Mq:ak (Rx J N 2 ((l.map cR).take j) A3 j/\j<=c3):=⟨by
   have:=CQ.rx RK.o;rw[List.drop_zero,List.take_take,Nat.min_eq_left aq]at this;exact⟨this,CQ.2.1⟩⟩
  have wk:IK (j:Int)=(j:Int):=IntWalk.wrap64_in _ aq;have⟨L0,L1⟩:=lc2 u v;have HJ:ak _:=⟨hj⟩;have Mn:ak (k<gk/\k<=i):=⟨dV,hk⟩;clear u v CR CQ eg hj U E h3 dV hkc hk h0 XV;go_wp2;refine aE (kC 59 (·=PF wb)) aF aF ?_
  repeat(refine cB aD aD aD ?_;intro K9 s;go_big_quiet_op;go_big_quiet_on)
  refine lsA (·=PF wb) (λr=> ?_) (λv9 B=> ?_)
  .go_simp
   exact(PW.o r).mono λe w' ⟨he,hb⟩=>⟨_,he,rfl,⟨w',r.2.trans (hb.mono r.2.size)⟩,rfl⟩
  have B:v9=PF wb:=B;subst B;simp[Act.put]
  repeat(refine cB aD aD aD ?_;intro K9 s;go_big_quiet_op;go_big_quiet_on)
  intro r;have BQ:ak (EI N J r.1):=⟨BK.o.trans (r.2.mono zn)⟩;clear L0 L1 PW;cases wb
  .have D9:ak (ef ts l i=k):=⟨DN.o rfl⟩
   clear DY DN DW;go_wp2;go_meet;exact⟨_,_,_,Mn.o.2,rfl,D9,RK,BQ⟩
  .have D9:ak (ef ts l i=ef ts l j):=⟨DY.o rfl⟩
   clear DY DN DW;go_wp2;have hj:=HJ.o;have tC:=Mn.o;go_roundg(k)
   .exact⟨j,A3,c3,aq,aq,Mq.o.2,rfl,D9,⟨Mq.o.1⟩,BQ⟩
   omega
 obtain⟨k,A2,c2,hk,rfl,DK,RK,BK⟩:=hcut;have hkt:k<=40:=aq;have HK:ak (k<=i):=⟨hk⟩;have OS:ak (OL wc N 158 2 (·=(fW ts l (1-1)).map (sR l)) OJ (fW ts l (1-1)).length 0):=⟨OL.nil _ _ _ _ rfl⟩;have SA:ak (gY ts l=fW ts l (k-1)):=⟨by unfold gY;rw[Ph,DK.o]⟩;go_wp2;go_loopg[12,13,14,15,16,17](k+1)(λgg mz kE _ _ _ _ wr=>∃(q:Nat) (S:List (Nat×Int)) (A5:aB) (c5:Nat),k-q<gg/\0<q/\mz=Pl A5 S.length c5/\kE=ae aj (q:Int)/\ak (fW ts l (q-1)=S/\S.length<=q-1/\(q=1∨q<=k))/\ak (OL wr N 158 2 (·=S.map (sR l)) A5 S.length c5)/\ak (EI N J wr))
 .exact⟨1,[],OJ,0,aq,aq,rfl,rfl,⟨rfl,aT,.inl rfl⟩,OS,BK⟩
 obtain⟨q,S,A5,c5,hg,Gv,rfl,rfl,SL,OS,O⟩:=hrel;have BW:ak (az w wr):=⟨BE.o.trans (O.o.mono HN.o)⟩;by_cases Yl:q<k;rotate_left
 .have i4:=cI q k
  have SE:ak (gY ts l=S):=⟨by
   obtain⟨U,_,E⟩:=SL.o;rw[SA.o,<-U];rcases E with h|h
   .rw[show k-1=q-1 by omega]
   .rw[show k-1=q-1 by omega]⟩
  go_wp2;go_ret;exact⟨_,_,by rw[SE.o];rfl,by rw[SE.o];exact OS.o.cS HN.o,BW.o⟩
 have i4:=aU q k;obtain⟨p,hp⟩:∃p,p+1=q:=⟨q-1,aq⟩;have zu:(q:Int)-1=(p:Int):=aq;have WP:ak (IntKind.i64.wrap (p:Int)=(p:Int)):=⟨IntWalk.i64_in _ aq⟩;have p0:=gT p;have p1:=aU p k;have q0:=gT q;have cut:∀j,j<k->∃(M:Addr) (a b:Nat),A2=OH M/\cV l j=(a,b)/\f<=a/\a<b/\b<=t/\wr.cell? (M.add (j*2))=OH (ae aj (a:Int))/\wr.cell? (bX (M.add (j*2)) 1)=OH (ae aj (b:Int)):=λj hj=>by
  have ph:=HK.o;obtain⟨P,e,u,v⟩:=(RK.o.Z O.o (by have:=O.o.size;rw[HSN.o]at this;exact this)).vG hj;have eg:dS ((l.map cR).take k) j=cR (cV l j):=by
   rw[<-uK aq];unfold dS;rw[List.getD_eq_getElem?_getD,List.getD_eq_getElem?_getD,List.getElem?_take,if_pos aq]
  rw[eg]at u v;obtain⟨U,E,h3⟩:=CI.o j aq;exact⟨P,_,_,e,rfl,U,E,h3,u,v⟩
 have V:ak (fW ts l q=S++if vL ts l p<0 then[]else[(p,vL ts l p)]):=⟨by rw[<-hp];show fW ts l p++_=_;rw[show p=q-1 by omega,SL.o.1]⟩;have HC3:=IM ts (cV l p).1 (cV l p).2 (cV l (p+1)).1 (cV l (p+1)).2;have⟨z,hz⟩:=eY (vL ts l p);have HZ:ak (z= -1∨0<=z):=⟨by rw[<-hz];unfold vL;omega⟩;have vm:ak _:=⟨hz⟩;rw[hz]at V;clear HC3 hz;obtain⟨M,a,b,rfl,er,Zg,AO,ha3,u,v⟩:=cut p aq;obtain⟨jo,Y,X,e,er',cX,fa,It,d0',Zx⟩:=cut q aq;obtain rfl:M=jo:=Option.some.inj e;have HG4:ak (k-q<gk/\0<q/\p+1=q/\cV l p=(a,b)/\q<k):=⟨hg,Gv,hp,er,Yl⟩;have HZ3:ak (nP ts a b Y X=z):=⟨by rw[<-vm.o];unfold vL;rw[hp,er,er']⟩;clear cut e er er' hg hp Gv;go_upto_region 14 with fail;go_cut[14,15](λAp kD wx=>∃x y:Nat,Ap=PK (OH ⟨x,0,OJ⟩)/\kD=PK (OH ⟨y,0,OJ⟩)/\ak (Bx wx x #[ae aj (a:Int),ae aj (b:Int)])/\ak (Bx wx y #[ae aj (Y:Int),ae aj (X:Int)])/\ak (az wr wx))
 ·
  refine vM (d:=14) (k0:=72) [Pl (OH M) k c2,ae aj (q:Int),ae aj (p:Int),PK (OH (M.add (p*2))),Q4 #[ae aj (a:Int),ae aj (b:Int)],Pl (OH M) k c2,ae aj (q:Int),PK (OH (M.add (q*2))),Q4 #[ae aj (Y:Int),ae aj (X:Int)]] 9 #[ae aj 0,ae aj 0] #[ae aj (a:Int),ae aj (b:Int)] #[ae aj (Y:Int),ae aj (X:Int)] rfl aF aF aq aD ?_ ?_ ?_
  .intro H o9 L bu x y W ho jx m D a9 ha K kd k1 k2 k3 k4
   have hi:H=0∨H=1∨H=2∨H=3∨H=4∨H=5∨H=6∨H=7∨H=8∨H=9∨H=10∨H=11∨H=12:=by
    have:=(Array.getElem?_eq_some_iff.1 ho).1;simp at this;omega
   simp only[cN,fV,two,List.setIfInBounds_toArray,List.set_cons_succ,List.set_cons_zero,Nat.reduceAdd,Nat.add_zero]at ha;subst ha;have d0:=D.dY 0 _ rfl;have d1:=D.dY 1 _ rfl;have d2:=D.dY 2 _ rfl;have d3:=D.dY 3 _ rfl;have d4:=D.dY 4 _ rfl;have d5:=D.dY 5 _ rfl;have d6:=D.dY 6 _ rfl;have d7:=D.dY 7 _ rfl;have d8:=D.dY 8 _ rfl
   have x0:=av u D.be;have x1:=av v D.be;have y0:=av d0' D.be;have y1:=av Zx D.be;rcases hi with rfl|rfl|rfl|rfl|rfl|rfl|rfl|rfl|rfl|rfl|rfl|rfl|rfl
   all_goals(injection ho with ho;subst ho)
   all_goals(simp[Region.binds]at m)
   case' inr.inr.inr.inr.inr.inr.inr.inr.inr.inl=>have F:=k1 rfl 57
   case' inr.inr.inr.inr.inr.inr.inr.inr.inr.inr.inl=>have F:=k2 rfl 57
   case' inr.inr.inr.inr.inr.inr.inr.inr.inr.inr.inr.inl=>
    obtain⟨g,rfl,hg,hB⟩:=D.p1 m.1;rw[if_neg (by rw[jx];simp)]at hB;obtain⟨ty,hh⟩:=hB;have hv:=d4 m.2.1;simp only[hv];refine wpOp_step rfl (λK9 s=> ?_);rw[if_pos Tb];refine wp_store_row 57 (.tmp 14) (.tmp 76) rfl g _ rfl rfl ty _ hh aF rfl ed ?_;refine s _ _ ?_;have F:=k3 rfl g rfl;simp only[hv]at F;exact F
   case' inr.inr.inr.inr.inr.inr.inr.inr.inr.inr.inr.inr=>
    obtain⟨g,rfl,hg,hB⟩:=D.p2 m.1;rw[if_neg (by rw[jx];simp)]at hB;obtain⟨ty,hh⟩:=hB;have hv:=d8 m.2.1;simp only[hv];refine wpOp_step rfl (λK9 s=> ?_);rw[if_pos Tb];refine wp_store_row 57 (.tmp 15) (.tmp 80) rfl g _ rfl rfl ty _ hh aF rfl ed ?_;refine s _ _ ?_;have F:=k4 rfl g rfl;simp only[hv]at F;exact F
   all_goals
    try have F:=kd _ rfl
    try simp only[Nat.reduceAdd,Act.put,List.setIfInBounds_toArray,List.set_cons_succ,List.set_cons_zero]at F
    try simp only[d0,d1,d2,d3,d4,d5,d6,d7,d8,m]at F
    try simp only[d0,d1,d2,d3,d4,d5,d6,d7,d8,m]
    refine wpOp_step rfl (λK9 s=> ?_);go_simp;refine s _ _ ?_
    try simp only[Act.put,List.setIfInBounds_toArray,List.set_cons_succ,List.set_cons_zero]
    first
     |exact F
     |(rw[WP.o];exact F)
  .intro L o
   refine⟨λho m=> ?_,λho m=> ?_⟩
   all_goals
    injection ho with ho
    subst ho;simp[Region.binds]at m;exact m.1
  .intro x y W b1 b2 F hy cX fa hW a9 ha
   subst F hy;simp only[cN,fV,two,List.setIfInBounds_toArray,List.set_cons_succ,List.set_cons_zero,Nat.reduceAdd,Nat.add_zero]at ha;subst ha;go_step;go_step;go_meet;exact⟨b1,b2,rfl,rfl,⟨cX⟩,⟨fa⟩,⟨hW⟩⟩
 obtain⟨x,y,rfl,rfl,X1,X2,BX⟩:=hcut;have B6:ak (EI N J wc):=⟨O.o.trans (BX.o.mono (by have:=O.o.size;rw[HSN.o]at this;exact this))⟩;have Q:ak (az w wc):=⟨BW.o.trans (BX.o.mono BW.o.size)⟩;have OS6:ak _:=⟨OS.o.ar BX.o⟩;have x0:wc.cell? ⟨x,0,OJ⟩=OH (ae aj (a:Int)):=X1.o.cell 0;have x1:wc.cell? ⟨x,1,OJ⟩=OH (ae aj (b:Int)):=X1.o.cell 1;have y0:wc.cell? ⟨y,0,OJ⟩=OH (ae aj (Y:Int)):=X2.o.cell 0;have y1:wc.cell? ⟨y,1,OJ⟩=OH (ae aj (X:Int)):=X2.o.cell 1;obtain⟨T2,cT,CR⟩:=jC Mp T tn tc a b aq aq yf (a:Int) (b:Int) rfl rfl;obtain⟨T3,cT',CR'⟩:=jC Mp T tn tc Y X aq aq yf (Y:Int) (X:Int) rfl rfl;have fB:=CR.run;have aek:=CR'.run;have PC:ak (∀G:aI wc,GK prog 166 #[Pl T2 (b-a) cT,Pl T3 (X-Y) cT'] G.1 (PCl G.1 z)):=⟨λG=>by
  have:=Pa T2 (b-a) cT _ T3 (X-Y) cT' _ G.1 (CR.gI ((R.o.ar Q.o).ar G.2)) (CR'.gI ((R.o.ar Q.o).ar G.2)) ((LW.o.ar Q.o).ar G.2) aq aq aq aq;rw[Qv aq aq,HZ3.o]at this;exact this⟩
 have⟨ok,hok⟩:=eY (decide (0<=z));unfold PCl at PC;rw[hok]at PC;have Z:ak _:=⟨hok⟩;have⟨I,fC⟩:=eY (clK z);rw[fC]at PC;have HCL:ak _:=⟨fC⟩;have⟨L0,L1,M0,M1⟩:=lc4 x0 x1 y0 y1;have HB9:ak (X<=t/\b<=t):=⟨aq⟩;clear x0 x1 y0 y1 CR CR' u v d0' Zx Zg AO ha3 cX fa It hok fC;go_wp2;refine aE (kC 94 (·=P8 #[ae aj I,PF ok])) aF aF ?_
 repeat(refine cB aD aD aD ?_;intro K9 s;go_big_quiet_op;go_big_quiet_on)
 refine lsA (·=P8 #[ae aj I,PF ok]) (λr=> ?_) (λv9 B=> ?_)
 .go_simp
  exact(PC.o r).mono λe w' ⟨he,hb⟩=>⟨_,he,rfl,⟨w',r.2.trans (hb.mono r.2.size)⟩,rfl⟩
 have B:v9=P8 #[ae aj I,PF ok]:=B;subst B;simp[Act.put]
 repeat(refine cB aD aD aD ?_;intro K9 s;go_big_quiet_op;go_big_quiet_on)
 intro r;have b7:=r.2;have B7:ak (EI N J r.1):=⟨B6.o.trans (b7.mono (by have:=B6.o.size;rw[HSN.o]at this;exact this))⟩;have BW7:ak (az w r.1):=⟨Q.o.trans (b7.mono Q.o.size)⟩;have OS7:ak _:=⟨OS6.o.ar b7⟩;have x1:r.1.cell? ⟨x,1,OJ⟩=OH (ae aj (b:Int)):=(X1.o.ar b7 X1.o.lt).cell 1;clear L0 L1 M0 M1 PC fB aek b7;obtain⟨hg4,hq4,hp4,er4,ah5⟩:=HG4.o;cases ok
 .have S0:ak (fW ts l q=S/\S.length<=q/\(q+1=1∨q+1<=k)):=⟨by
   have U:z<0:=by have:=Z.o;simp at this;exact this
   have E:=V.o;rw[if_pos U,List.append_nil]at E;exact⟨E,Jr,.inr aq⟩⟩
  clear V HZ vm HZ3 Z HCL;go_wp2;go_roundg(k-q)
  .exact⟨q+1,S,A5,c5,aq,aq,rfl,aV,S0,OS7,B7⟩
  omega
 .have pY:0<=z:=by have:=Z.o;simpa using this
  have hcz:I=z:=by have:=HCL.o;unfold clK at this;rw[if_neg (by omega)]at this;exact this.symm
  have HS2:ak (fW ts l q=S++[(p,I)]):=⟨by have E:=V.o;rw[if_neg (by omega),<-hcz]at E;exact E⟩;have hsl:S.length<=40:=Jr;have EM:ak ((S++[(p,I)]).map (sR l)=S.map (sR l)++[[(b:Int),I]]):=⟨by rw[List.map_append];show _=_++_;simp[sR,er4]⟩;have HL:ak ((S++[(p,I)]).length=S.length+1):=⟨aT⟩;have SN:ak (fW ts l q=S++[(p,I)]/\(S++[(p,I)]).length<=q/\(q+1=1∨q+1<=k)):=⟨HS2.o,by have:=SL.o;rw[HL.o];omega,.inr aq⟩;have Mu:N<=r.1.heap.size:=by have:=B7.o.size;rw[HSN.o]at this;exact this
  clear er4 hp4 V HS2 HZ vm HZ3 Z HCL pY hcz;go_wp2_with (at_builtin;refine cd (L':=(·=(S++[(p,I)]).map (sR l))) TSl rfl (.tmp 98) (.tmp 103) rfl rfl (OS7.o.alloc _) rfl [(b:Int),I] rfl (cP _ _ _ _ _ aT rfl) (λxs _ _ h=>by rw[EM.o,h]) aq (Nat.le_trans Mu (aw _ _).size) ?_;intro A8 c8 w8 o8 b8 _ _;have O8:ak _:=⟨o8⟩;have B8:ak (EI N J w8):=⟨(B7.o.alloc Mu _).trans b8⟩;clear o8 b8);go_roundg(k-q)
  .exact⟨q+1,S++[(p,I)],A8,c8,aq,aq,by rw[HL.o],aV,SN,⟨by rw[HL.o];exact O8.o⟩,B8⟩
  omega
theorem Tk{p:Prop}(h:p:=by first|go_num|(congr 1;omega)):p:=h
def PBb(w:EE)(b:Bool)(e:IS)(c:EE):Prop:=e=RE (PF b)/\az w c
def PIi(w:EE)(z:Int)(e:IS)(c:EE):Prop:=e=RE (ae aj z)/\az w c
def nJ(ts:aC)(a:Nat):Nat->Int
 |0=>0
 |k+1=>if(aN (nth ts (a+k))).join=5 then nJ ts a k else(aN (nth ts (a+k))).join
def uG(ts:aC):Nat->Nat->Int
 |0,_=>0
 |k+1,a=>if(aN (nth ts a)).join=5 then uG ts k (a+1)else(aN (nth ts a)).join
def acV(ts:aC)(a:Nat):∀k,jl (nJ ts a k)=jl (vt ts a k)
 |0=>rfl
 |k+1=>by
  unfold nJ vt;split
  .exact acV ts a k
  .rfl
def ac8(ts:aC):∀k a,jr (uG ts k a)=jr (Bd ts k a)
 |0,_=>rfl
 |k+1,a=>by
  unfold uG Bd;split
  .exact ac8 ts k (a+1)
  .rfl
def Rc(ts:aC)(a b:Nat)(last:Bool):Int:=if last=OX then nJ ts a (b-a)else uG ts (b-a) a
section
variable(T:aB) (tn tc:Nat) (ts:aC) (a b:Nat) (w:EE)
def Co(h:aJ .i32 w T tn tc ts)(G:a<=b)(J:b<=tn)(O:tn<=100000):GK prog 40 #[Pl T tn tc,Q4 #[ae aj (a:Int),ae aj (b:Int)]] w (PBb w (ie ts a (b-a))):=by
 have R:=sH h;have⟨p,aP⟩:=eX (w.alloc (RM #[ae aj (a:Int),ae aj (b:Int)] 57));have A:ak (az w p):=⟨nR⟩;have s:ak (Bx p w.heap.size #[ae aj (a:Int),ae aj (b:Int)]):=⟨re⟩;go_enter func40,ntmps40;go_upto_region 1 with fail;rw[<-aP];clear aP;have L:p.cell? ⟨w.heap.size,0,OJ⟩=OH (ae aj (a:Int)):=s.o.cell 0;go_wp2;go_loopg[5](b-a+1)(λgg v wr=>∃i:Nat,b-a-i<gg/\i<=b-a/\v=ae aj ((a+i:Nat):Int)/\ak (ie ts a i=OX)/\ak (az w wr/\Bx wr w.heap.size #[ae aj (a:Int),ae aj (b:Int)]))
 .exact⟨0,aq,aq,rfl,⟨rfl⟩,⟨A.o,s.o⟩⟩
 obtain⟨i,C,hi,rfl,j,c⟩:=hrel;have P:wr.cell? ⟨w.heap.size,1,OJ⟩=OH (ae aj (b:Int)):=c.o.2.cell 1;by_cases l:i<b-a;rotate_left
 .have D:¬((a+i:Nat):Int)<(b:Int):=by omega
  have d:i=b-a:=aq;have n:ak (ie ts a (b-a)=OX):=⟨by rw[<-d];exact j.o⟩;clear d;go_wp2;go_ret;exact⟨by rw[n.o];rfl,c.o.1⟩
 have⟨k,f⟩:=eY (a+i);have y:ak ((aN (nth ts k)).word=7->ie ts a (i+1)=OX):=⟨λh=>by unfold ie;rw[j.o,f,h];rfl⟩;have F:ak (¬(aN (nth ts k)).word=7->ie ts a (b-a)=OZ):=⟨λh=>by
  rw[Bool.eq_false_iff];intro H;have:=qD (m:=i+1) aq H;unfold ie at this;rw[j.o,f]at this;simp[h]at this⟩
 have B:ak (a+i=k/\b-a-i<gk/\i<b-a):=⟨f,C,l⟩;rw[f];have D:=aU k b;have N:=aU k tn;have M:=gT k;obtain⟨K,rfl,I⟩:=(R.o.ar c.o.1).ce (show k<tn by omega);obtain⟨o,q⟩:=bounds_i32 (R.o.cZ (show k<tn by omega));have E:=sH (dX (nth ts k) o q wr);generalize nth ts k=z at*;go_wp2_with fail;refine E.o.mono ?_;rintro e t ⟨rfl,u⟩;have r:ak (az w t/\Bx t w.heap.size #[ae aj (a:Int),ae aj (b:Int)]):=⟨c.o.1.trans (u.mono c.o.1.size),c.o.2.ar u c.o.2.lt⟩;generalize(aN z).word=x at*;by_cases hx:x=7
 .have g:=sH (y.o hx)
  subst hx;go_wp2;have:=B.o;go_roundg(b-a-i)
  .exact⟨i+1,aq,aq,Tk,g,r⟩
  omega
 .have g:=sH (F.o hx)
  have hx:(x !=7)=OX:=Gh;go_wp2;go_ret;exact⟨by rw[g.o];rfl,r.o.1⟩
def xo(last:Bool)(h:aJ .i32 w T tn tc ts)(L:a<=b)(O:b<=tn)(V:tn<=100000):GK prog 101 #[Pl T tn tc,Q4 #[ae aj (a:Int),ae aj (b:Int)],PF last] w (PIi w (Rc ts a b last)):=by
 have R:=sH h;have⟨u,aP⟩:=eX (w.alloc (RM #[ae aj (a:Int),ae aj (b:Int)] 57));have H:ak (az w u):=⟨nR⟩;have E:ak (Bx u w.heap.size #[ae aj (a:Int),ae aj (b:Int)]):=⟨re⟩;go_enter func101,ntmps101;go_upto_region 1 with fail;rw[<-aP];clear aP;have Q:u.cell? ⟨w.heap.size,0,OJ⟩=OH (ae aj (a:Int)):=E.o.cell 0;go_wp2;go_loopg[7,8,9](b-a+1)(λgg v7 v _ wr=>∃i:Nat,b-a-i<gg/\i<=b-a/\v7=ae aj (nJ ts a i)/\v=ae aj ((a+i:Nat):Int)/\ak (last=OZ->uG ts (b-a-i) (a+i)=uG ts (b-a) a/\nJ ts a i=0)/\ak (az w wr/\Bx wr w.heap.size #[ae aj (a:Int),ae aj (b:Int)]))
 .exact⟨0,aq,aq,rfl,rfl,⟨λ_=>⟨rfl,rfl⟩⟩,⟨H.o,E.o⟩⟩
 obtain⟨i,I,hi,rfl,rfl,t,f⟩:=hrel;have W:wr.cell? ⟨w.heap.size,1,OJ⟩=OH (ae aj (b:Int)):=f.o.2.cell 1;by_cases p:i<b-a;rotate_left
 .have J:¬((a+i:Nat):Int)<(b:Int):=by omega
  have g:i=b-a:=aq;have q:ak (nJ ts a i=Rc ts a b last):=⟨by
   unfold Rc;cases last
   .obtain⟨c,s⟩:=t.o rfl
    rw[if_neg aT,s,<-c,g,Nat.sub_self];rfl
   .rw[if_pos rfl,g]⟩
  generalize nJ ts a i=y at*;go_wp2;go_ret;exact⟨by rw[<-q.o];rfl,f.o.1⟩
 have⟨k,d⟩:=eY (a+i);have B:ak ((aN (nth ts k)).join=5->nJ ts a (i+1)=nJ ts a i/\(last=OZ->uG ts (b-a-(i+1)) (a+(i+1))=uG ts (b-a) a/\nJ ts a (i+1)=0)):=⟨λh=>by
  have e:nJ ts a (i+1)=nJ ts a i:=if_pos (by rw[d];exact h);refine⟨e,λj=> ?_⟩;obtain⟨c,s⟩:=t.o j;rw[show b-a-i=(b-a-(i+1))+1 by omega,d]at c;have o:uG ts ((b-a-(i+1))+1) k=uG ts (b-a-(i+1)) (k+1):=if_pos h;rw[o,<-d]at c;exact⟨c,e.trans s⟩⟩
 have D:ak (¬(aN (nth ts k)).join=5->nJ ts a (i+1)=(aN (nth ts k)).join/\(last=OZ->Rc ts a b last=(aN (nth ts k)).join)):=⟨λh=>by
  have e:nJ ts a (i+1)=(aN (nth ts (a+i))).join:=if_neg (by rw[d];exact h);rw[d]at e;refine⟨e,λj=> ?_⟩;obtain⟨c,_⟩:=t.o j;rw[show b-a-i=(b-a-(i+1))+1 by omega,d]at c;have o:uG ts ((b-a-(i+1))+1) k=(aN (nth ts k)).join:=if_neg h;unfold Rc;rw[if_neg (by simp[j]),<-c,o]⟩
 have C:ak (a+i=k/\b-a-i<gk/\i<b-a):=⟨d,I,p⟩;rw[d];have J:=aU k b;have U:=aU k tn;have S:=gT k;obtain⟨P,rfl,N⟩:=(R.o.ar f.o.1).ce (show k<tn by omega);obtain⟨r,A⟩:=bounds_i32 (R.o.cZ (show k<tn by omega));have K:=sH (dX (nth ts k) r A wr);generalize nth ts k=z at*;generalize nJ ts a i=y at*;go_wp2_with fail;refine K.o.mono ?_;rintro e F ⟨rfl,G⟩;have l:ak (az w F/\Bx F w.heap.size #[ae aj (a:Int),ae aj (b:Int)]):=⟨f.o.1.trans (G.mono f.o.1.size),f.o.2.ar G f.o.2.lt⟩;generalize(aN z).join=x at*;by_cases hx:x=5
 .have m:=sH ((B.o hx).1)
  have n:=sH ((B.o hx).2);subst hx;go_wp2;have:=C.o;go_roundg(b-a-i)
  .exact⟨i+1,aq,aq,by rw[m.o],Tk,n,l⟩
  omega
 .have m:=sH ((D.o hx).1)
  have n:=sH ((D.o hx).2);have hx:(x==5)=OZ:=Gh;cases last
  .have M:=sH (n.o rfl)
   go_wp2;go_ret;exact⟨by rw[M.o];rfl,l.o.1⟩
  .go_wp2
   have:=C.o;go_roundg(b-a-i)
   .exact⟨i+1,aq,aq,by rw[m.o],Tk,⟨aT⟩,l⟩
   omega
end
def IZ(r:Int)(d: -2147483648<=r)(g:r<=2147483647)(w:EE):GK prog 102 #[.int .i32 r] w (PBb w (Lm r)):=by
 have c:=sH (dX r d g w);have E:ak (Lm r=((aN r).script==7||(aN r).script==8||(aN r).script==9)):=⟨rfl⟩;go_enter func102,ntmps102;go_wp2_with fail;refine c.o.mono ?_;rintro e l ⟨rfl,k⟩;have f:=sH k;generalize(aN r).script=x at*;cases i:(x==7)<;>cases h:(x==8)<;>cases j:(x==9)
 all_goals
  go_wp2;go_ret;exact⟨by rw[E.o];simp[i,h,j],f.o⟩
def UB(w:EE)(B:Nat)(l:List (Int×Int))(A:aB):Prop:=∀j,j<l.length->∃a,A=OH a/\a.block<B/\w.cell? (a.add (j*2))=OH (ae aj (jJ l j).1)/\w.cell? (bX (a.add (j*2)) 1)=OH (ae aj (jJ l j).2)
def UB.Z{d:EE}{l:List (Int×Int)}(h:UB w B l A)(b:EI B w d)(k:B<=a):UB d a l A:=λj e=>by
 obtain⟨c,i,h2,g,f⟩:=h j e;exact⟨c,i,aq,(b.cell zk).trans g,(b.cell (by show(c.add (j*2)).block<B;rw[aL];exact h2)).trans f⟩
def td2(n:Int):(0<=n->n.tdiv 2=n/2/\n.tmod 2=n%2)/\(n<0->n.tdiv 2= -(-n/2)/\n.tmod 2= -(-n%2)):=by
 refine⟨λh=>⟨Int.tdiv_eq_ediv_of_nonneg h,Int.tmod_eq_emod_of_nonneg h⟩,λh=> ?_⟩;have a:=Int.neg_tdiv (-n) 2;have b:=Int.neg_tmod (-n) 2;rw[Int.neg_neg]at a b;rw[a,b,Int.tdiv_eq_ediv_of_nonneg aq,Int.tmod_eq_emod_of_nonneg aq];exact⟨rfl,rfl⟩
def Pz(n:Int)(h: -9223372036854775808<=n/\n<=9223372036854775807)(w:EE):GK prog 169 #[ae aj n,ae aj 2] w λe g=>e=RE (ae aj (wY n))/\g=w:=by
 obtain⟨i,c⟩:=td2 n;have⟨f,d⟩:=K' i c;go_enter func169,ntmps169;go_wp2
 all_goals go_ret
 all_goals refine⟨Ae ?_,rfl⟩
 all_goals
  have:=f.o;have:=d.o;unfold wY
  try unfold IK
  generalize n.tdiv 2=a at*;generalize n.tmod 2=b at*;omega
def Ki{l:List (Int×Int)}{every:Int}(a:∀j,j<i->(jJ l j).1<=x)(hi:i<l.length)(h2:x<(jJ l i).1):jk l every x=jJ l i:=by
 have e:l.find? (λt=>decide (x<t.1))=OH (jJ l i):=by
  rw[List.find?_eq_some_iff_getElem];refine⟨vN,i,hi,by simp[jJ,hi],λj b=> ?_⟩;have:=a j b;simp[jJ,show j<l.length by omega]at this;simpa using this
 unfold jk;rw[e]
def Np{l:List (Int×Int)}{every:Int}(b:∀j,j<l.length->(jJ l j).1<=x):jk l every x=(IK (IK (IK ((max x 0).tdiv (MJ every))+1)*MJ every),0):=by
 have e:l.find? (λt=>decide (x<t.1))=OJ:=by
  rw[List.find?_eq_none];intro t c;obtain⟨j,a,rfl⟩:=List.getElem_of_mem c;have:=b j a;simp[jJ,a]at this;simpa using this
 unfold jk;rw[e]
def PNt(w:EE)(t:Int×Int)(e:IS)(a:EE):Prop:=e=RE (Q4 #[ae aj t.1,ae aj t.2])/\az w a
def Ip{y:Int}(h:W=w.alloc (RM #[ae aj x,ae aj y] t)):W.cell? ⟨w.heap.size,0,OJ⟩=OH (ae aj x)/\W.cell? ⟨w.heap.size,1,OJ⟩=OH (ae aj y):=by
 rw[h,cell_of_row _ _ _ _ _ _ (heap_alloc_new w _),cell_of_row _ _ _ _ _ _ (heap_alloc_new w _)];exact⟨rfl,rfl⟩
def Ym(l:List (Int×Int))(A:aB)(n c:Nat)(every x:Int)(w:EE)(h:UB w w.heap.size l A)(B:l.length=n)(hn:n<=1000):GK prog 97 #[Pl A n c,ae aj every,ae aj x] w (PNt w (jk l every x)):=by
 have R:=sH h;clear h;have⟨m,aP⟩:=eX (w.alloc (RM #[ae aj 0,ae aj 0] 168));have k:ak (az w m):=⟨nR⟩;have C:ak (Bx m w.heap.size #[ae aj 0,ae aj 0]):=⟨re⟩;have⟨b,a⟩:=eY (MJ every);have U:ak ((∀j,j<n->(jJ l j).1<=x)->jk l every x=(IK (IK (IK ((max x 0).tdiv b)+1)*b),0)):=⟨λh=>by rw[Np (by rw[B];exact h),a]⟩;have G:ak (∀i,(∀j,j<i->(jJ l j).1<=x)->i<n->x<(jJ l i).1->jk l every x=jJ l i):=⟨λi D Z h3=>Ki D (by rw[B];exact Z) h3⟩;generalize jk l every x=N at*;have Y:=sH B;clear B;go_enter func97,ntmps97;go_upto_region 1 with fail;rw[<-aP];clear aP;go_upto_if 11 with fail;go_cut[1](λv S=>v=ae aj b/\S=m)
 ·
  by_cases T:every<1
  .have E:ak (b=48):=⟨by rw[<-a];unfold MJ;rw[if_pos T]⟩
   clear a;go_wp2;go_meet;exact⟨pX,rfl⟩
  .have E:ak (every=b):=⟨by rw[<-a];unfold MJ;rw[if_neg T]⟩
   clear a;go_wp2;go_meet;exact⟨pX,rfl⟩
 obtain⟨rfl,X⟩:=hcut;have V:1<=b:=by rw[<-a];unfold MJ;split<;>omega
 clear a;subst wc;have⟨M,z⟩:=eY (max x 0);have r:x<=M:=aq;rw[z]at U;go_upto_region 3 with fail;go_cut[7](λv S=>v=ae aj M/\S=m)
 ·
  by_cases hx:x<0
  .have E:ak (M=0):=⟨aq⟩
   clear z r;go_wp2_with fail
   all_goals first
    |(exfalso;omega)
    |(go_meet;exact⟨pX,rfl⟩)
  .have E:ak (M=x):=⟨aq⟩
   clear z r;go_wp2_with fail
   all_goals first
    |(exfalso;omega)
    |(go_meet;exact⟨pX,rfl⟩)
 obtain⟨rfl,X⟩:=hcut;subst wc;clear z;go_wp2;go_loopg[7,16](n+1)(λgg v7 P wr=>∃i:Nat,n-i<gg/\i<=n/\v7=ae aj M/\P=ae aj (i:Int)/\ak (∀j,j<i->(jJ l j).1<=x)/\ak (az m wr))
 .exact⟨0,aq,aq,rfl,rfl,⟨λj h=>by omega⟩,cJ⟩
 obtain⟨i,hg,hi,rfl,rfl,J,y⟩:=hrel;have t:=y.o.size;by_cases p:i<n;rotate_left
 .have i4:=cI i n
  obtain rfl:i=n:=aq;have E:=sH (U.o J.o);have o:=C.o.ar y.o C.o.lt;obtain⟨e,I⟩:=o.heap;have he0:(b==0)=OZ:=pW;go_wp2_with (refine wpList_store_row rfl 168 (.tmp 6) (.tmp 36) rfl w.heap.size #[ae aj (IK (IK (IK (M.tdiv b)+1)*b)),ae aj 0] rfl aD e _ I aF aD ed ?_;have O:=o.row (ds:=#[ae aj (IK (IK (IK (M.tdiv b)+1)*b)),ae aj 0]));obtain⟨f,g⟩:=O.heap;refine bodyPost_ret (results_cell_row results97 _ _ w.heap.size f _ (0,0) _ aD g underlying168 rfl aF) rfl ?_;exact⟨pX,below_setRow (k.o.trans (y.o.mono k.o.size)) aq _⟩
 have i4:=aU i n;obtain⟨ad,rfl,_,L,F⟩:=((R.o.Z k.o k.o.size).Z y.o t) i (by rw[Y.o];exact p);have H:ak (x<(jJ l i).1->N=jJ l i):=⟨λh=>G.o i J.o p h⟩;have Q:ak ((jJ l i).1<=x->∀j,j<i+1->(jJ l j).1<=x):=⟨λh j hj=>by
  rcases Nat.lt_or_ge j i with D|D
  .exact J.o j D
  .obtain rfl:j=i:=by omega
   exact h⟩
 obtain⟨⟨u,v⟩,s⟩:∃q,jJ l i=q:=⟨_,rfl⟩;rw[s]at L F H Q;dsimp only at L F H Q;clear s;have⟨W2,d⟩:=eX (wr.alloc (RM #[ae aj u,ae aj v] 168));obtain⟨g0,g1⟩:=Ip d;have K:ak (az m W2):=⟨by rw[d];exact y.o.alloc t _⟩;go_upto_region 7 with fail;rw[<-d];clear d L F;by_cases hu:x<u
 .have E:=sH (H.o hu)
  have o:=C.o.ar K.o C.o.lt;obtain⟨e,I⟩:=o.heap;go_wp2_with (refine wpList_store_row rfl 168 (.tmp 6) (.tmp 24) rfl w.heap.size #[ae aj u,ae aj v] rfl aD e _ I aF aD ed ?_;have O:=o.row (ds:=#[ae aj u,ae aj v]));obtain⟨f,g⟩:=O.heap;refine bodyPost_ret (results_cell_row results97 _ _ w.heap.size f _ (0,0) _ aD g underlying168 rfl aF) rfl ?_;exact⟨pX,below_setRow (k.o.trans (K.o.mono k.o.size)) aq _⟩
 .have E:=sH (Q.o aq)
  have W:u<=M:=aq;go_wp2_with fail
  all_goals first
   |(exfalso;omega)
   |(go_roundg(n-i)<;>first|omega|exact⟨i+1,aq,aq,rfl,aV,E,K⟩)
def JP(w:EE)(B:Nat)(gs:List aC)(a k:Nat)(A:aB):Prop:=a+k<=gs.length/\∀j,j<k->∃b,A=OH b/\b.block<B/\(dS gs (a+j)).length=10/\∀q,q<10->w.cell? ((b.add (j*10)).add q)=OH (ae aj (nth (dS gs (a+j)) q))
def JP.Z{c:EE}{b:Nat}(h:JP w B gs a k A)(g:EI B w c)(o:B<=b):JP c b gs a k A:=⟨h.1,λj d=>by
 obtain⟨m,i,l,f,e⟩:=h.2 j d;exact⟨m,i,aq,f,λq n=>(g.cell (by rw[aL,aL];exact l)).trans (e q n)⟩⟩
def Rx.gxs(h:Rx w B 10 gs A n):JP w B gs 0 n A:=⟨Dc,λj d=>by
 obtain⟨b,e,f,_,g⟩:=h.at_ d;obtain⟨a,c,i,_⟩:=h.2.2 aq;obtain rfl:b=a:=by rw[e]at c;injection c
 rw[Nat.zero_add];exact⟨b,e,i,f,g⟩⟩
def xM.gxs{P:I3}{f:Nat}(h:xM P t 10 A n c lo hi i m b f){w:EE}{B a:Nat}{gs:List aC}(d:JP w B gs a n A)(r:i+m<=n):JP w B gs (a+i) m b:=⟨by have:=d.1;omega,λj p=>by
 obtain⟨l,k,h2,g,e⟩:=d.2 (i+j) aq;rw[show a+i+j=a+(i+j) by omega];refine⟨l.add (i*10),by rw[h.2.2.2 (by omega),k];rfl,zk,g,λq o=> ?_⟩;have:=e q o;rw[aY]at this;rw[aY,aY];rwa [show i*10+(j*10+q)=(i+j)*10+q by omega]⟩
def JP.bK(h:JP w B gs a k A)(t:j<k):∃(b:Addr) (q o n g p d l f m i:Int),A=OH b/\dS gs (a+j)=[q,o,n,g,p,d,l,f,m,i]/\w.cell? (b.add (j*10))=OH (ae aj q)/\
 w.cell? (bX (b.add (j*10)) 1)=OH (ae aj o)/\w.cell? (bX (b.add (j*10)) 2)=OH (ae aj n)/\w.cell? (bX (b.add (j*10)) 3)=OH (ae aj g)/\w.cell? (bX (b.add (j*10)) 4)=OH (ae aj p)/\w.cell? (bX (b.add (j*10)) 5)=OH (ae aj d)/\
 w.cell? (bX (b.add (j*10)) 6)=OH (ae aj l)/\w.cell? (bX (b.add (j*10)) 7)=OH (ae aj f)/\w.cell? (bX (b.add (j*10)) 8)=OH (ae aj m)/\w.cell? (bX (b.add (j*10)) 9)=OH (ae aj i):=by
 obtain⟨b,e,_,u,c⟩:=h.2 j t;obtain⟨q,o,n,g,p,d,l,f,m,i,s⟩:=ten u;rw[s]at c;have r:=c 0 aq;rw[oZ]at r;exact⟨b,q,o,n,g,p,d,l,f,m,i,e,s,r,c 1 aq,c 2 aq,c 3 aq,c 4 aq,c 5 aq,c 6 aq,c 7 aq,c 8 aq,c 9 aq⟩
def abF(lv:Int):(lv.tmod 2 !=0)=Am lv:=by
 obtain⟨c,d⟩:=td2 lv;unfold Am;rw[Bool.eq_iff_iff];generalize lv.tdiv 2=a at*;generalize lv.tmod 2=b at*;simp;omega
def ab'{gs:List aC}{a:Nat}{b:Bool}(c:k<m):(if b=OX then m-1-k else k)<m:=by split<;>omega
def POg(w:EE)(m:Nat)(L:aC)(e:IS)(a:EE):Prop:=∃(A:aB) (c:Nat),e=RE (Pl A m c)/\Own a w.heap.size 3 .i64 A m c L/\az w a
