/- Part of LineBoxes. -/
import Derived.Test.YtpidckelbgbbkaaGreatDoorAz
import Derived.Test.YtpidckelbgbbkaaGreatDoorAu
import Derived.Test.YtpidckelbgbbkaaGreatDoorAm
import Derived.Test.YtpidckelbgbbkaaGreatDoorAr
namespace Go.Proofs.YtpidckelbgbbkaaGreatDoor
open Go.ChangeShapes Go.WideShapes Go.ChangeAt Go.RowKit Go.Proofs.Tryz
open Go.Value renaming int → ae
open Go.IntKind renaming i64 → aj
set_option linter.all false
set_option maxRecDepth 100000
set_option maxHeartbeats 16000000
variable{ts:aE}{B N a c d i j k m n x:Nat}{gs:List aE}{w:World}{A:aC}{G:Prop}{t:TypeId}
structure il where
 f:Nat
 t:Nat
 run:Nat
 wide:Int
 inner:Int
 gQ:Bool
 gs:List aE
deriving Inhabited
def dH(ps:List il)(i:Nat):il:=ps.getD i default
theorem lB(a b:Int):wrap64 (wrap64 a+b)=wrap64 (a+b):=PJ
def fV(gs:List aE)(a:Int):Nat->Int
 |0=>0
 |j+1=>fV gs a j+if nth (fW gs j) 1<a then nth (fW gs j) 2 else 0
def dG(ps:List il)(a:Nat)(b:Int):Nat->Int
 |0=>0
 |k+1=>dG ps a b k+fV (dH ps (a+k)).gs b (dH ps (a+k)).gs.length
def nX(ps:List il)(a:Nat):Nat->Int
 |0=>0
 |k+1=>nX ps a k+(dH ps (a+k)).wide
def gZ(ts:aE)(x:Nat):Nat->Option Nat
 |0=>none
 |k+1=>match gZ ts x k with
  |some d=>some d
  |none=>if nth ts (x+k)=46 then some (x+k)else none
def jl(ts:aE)(ps:List il)(a:Nat):Nat->Option Nat
 |0=>none
 |k+1=>match jl ts ps a k with
  |some d=>some d
  |none=>gZ ts (dH ps (a+k)).f ((dH ps (a+k)).t-(dH ps (a+k)).f)
def nQ(ps:List il)(a k:Nat)(last:Bool):Int:=if last=true/\0<k then(dH ps (a+k-1)).inner-(dH ps (a+k-1)).wide else 0
def wS(ps:List il)(a k:Nat)(last:Bool):Int:=wrap64 (nX ps a k+nQ ps a k last)
def pS(ts:aE)(ps:List il)(a k:Nat)(last:Bool):Int:=match jl ts ps a k with
 |some d=>wrap64 (dG ps a d k)
 |none=>wS ps a k last
def jX(ps:List il)(a:Nat):Nat->Nat
 |0=>0
 |k+1=>if(dH ps a).gQ=true then 0 else 1+jX ps (a+1) k
def fI(ts:aE)(ps:List il)(n:Nat):Nat->Nat->List (Int×Int)
 |0,_=>[]
 |m+1,a=>if a+jX ps a (n-a)<n then(wS ps a (jX ps a (n-a)) false,pS ts ps a (jX ps a (n-a)) false)::fI ts ps n m (a+jX ps a (n-a)+1)
  else[(wS ps a (jX ps a (n-a)) true,pS ts ps a (jX ps a (n-a)) true)]
theorem sL{ps:List il}:∀{k a d:Nat},(∀j,j<d->(dH ps (a+j)).gQ=false)->d<=k->(d=k∨(dH ps (a+d)).gQ=true)->jX ps a k=d
 |0,a,d,_,h2,_=>by simp[jX];omega
 |k+1,a,0,h1,h2,b=>by
  rcases b with b|b
  ·omega
  ·simp only[Nat.add_zero]at b;simp[jX,b]
 |k+1,a,d+1,h1,h2,b=>by
  have c:=h1 0 aq;simp only[Nat.add_zero]at c;unfold jX;rw[if_neg (by simp[c]),sL (k:=k) (a:=a+1) (d:=d) (fun j e=>by have:=h1 (j+1) (by omega);rwa [show a+(j+1)=a+1+j by omega]at this) aq (by
   rcases b with b|b
   ·exact .inl aq
   ·exact .inr (by rwa [show a+1+d=a+(d+1) by omega]))]
  omega
theorem wu{ps:List il}(b:jX ps a (n-a)=d)(h:a+d<n):fI ts ps n (m+1) a=(wS ps a d false,pS ts ps a d false)::fI ts ps n m (a+d+1):=by
 rw[fI,b,if_pos h]
theorem vk{ps:List il}(b:jX ps a (n-a)=d)(h:¬a+d<n):fI ts ps n (m+1) a=[(wS ps a d true,pS ts ps a d true)]:=by
 rw[fI,b,if_neg h]
theorem vU{ts:aE}{ps:List il}{n:Nat}:∀m a,(fI ts ps n m a).length<=m
 |0,a=>by simp[fI]
 |m+1,a=>by
  unfold fI;split
  ·have:=vU (ts:=ts) (ps:=ps) (n:=n) m (a+jX ps a (n-a)+1);simp;omega
  ·simp
structure Dy(ps:List il):Prop where
 cl:∀i,i<ps.length->∀j,j<(dH ps i).gs.length->(dH ps i).f<=nth (fW (dH ps i).gs j) 1/\nth (fW (dH ps i).gs j) 1<(dH ps i).t
 up:∀i j,i<j->j<ps.length->(dH ps i).t<=(dH ps j).f
 ne:∀i,i<ps.length->(dH ps i).f<(dH ps i).t
theorem At{gs:List aE}{x y:Int}:∀{k:Nat},(∀j,j<k->nth (fW gs j) 1<x)->(∀j,j<k->nth (fW gs j) 1<y)->fV gs x k=fV gs y k
 |0,_,_=>rfl
 |k+1,h1,h2=>by
  unfold fV;rw[At (k:=k) (fun j a=>h1 j aq) (fun j a=>h2 j aq),if_pos (h1 k aq),if_pos (h2 k aq)]
theorem wN{gs:List aE}{x:Int}:∀{k:Nat},(∀j,j<k->x<=nth (fW gs j) 1)->fV gs x k=0
 |0,_=>rfl
 |k+1,h=>by
  unfold fV;rw[wN (k:=k) (fun j a=>h j aq),if_neg (by have:=h k (by omega);omega)];rfl
def sh(ps:List il)(a:Nat):Nat->Int
 |0=>0
 |k+1=>sh ps a k+fV (dH ps (a+k)).gs (dH ps (a+k)).t (dH ps (a+k)).gs.length
theorem tu{ps:List il}(h:Dy ps){a:Nat}{d:Int}:∀{k:Nat},a+k<=ps.length->(∀j,j<k->((dH ps (a+j)).t:Int)<=d)->dG ps a d k=sh ps a k
 |0,_,_=>rfl
 |k+1,h1,h2=>by
  unfold dG sh;rw[tu h (k:=k) aq (fun j b=>h2 j aq)]
  congr 1
  refine At (fun j b=> ?_) (fun j b=>(h.cl _ aq j b).2);have:=(h.cl (a+k) aq j b).2;have:=h2 k aq;omega
theorem xh{ts:aE}{x:Nat}:∀{k d:Nat},gZ ts x k=some d->x<=d/\d<x+k
 |0,d,h=>by simp[gZ]at h
 |k+1,d,h=>by
  unfold gZ at h;split at h
  ·rename_i b a
   injection h with h
   subst h;have:=xh a;omega
  ·split at h
   ·injection h with h;omega
   ·cases h
theorem Jl{ps:List il}(h:Dy ps){a k d:Nat}(b:a+k<ps.length)(e:(dH ps (a+k)).f<=d):sh ps a k+fV (dH ps (a+k)).gs d (dH ps (a+k)).gs.length=dG ps a d (k+1):=by
 show _=dG ps a d k+_;rw[tu h aq (fun j c=> ?_)];have:=h.up (a+j) (a+k) aq b;omega
theorem DV{ps:List il}(h:Dy ps){a k i d:Nat}(e:i<k)(b:a+k<ps.length)(f:d<(dH ps (a+i)).t):dG ps a d (k+1)=dG ps a d k:=by
 show dG ps a d k+_=_;rw[wN (fun j c=> ?_)]
 ·omega
 ·have:=(h.cl (a+k) b j c).1
  have:=h.up (a+i) (a+k) aq b;omega
theorem GO{ts:aE}{ps:List il}{a:Nat}:∀{k d:Nat},jl ts ps a k=some d->∃i,i<k/\(dH ps (a+i)).f<=d/\(d<(dH ps (a+i)).t)
 |0,d,h=>by simp[jl]at h
 |k+1,d,h=>by
  unfold jl at h;split at h
  ·rename_i e b
   injection h with h
   subst h;obtain⟨i,f,c⟩:=GO b;exact⟨i,aq,c⟩
  ·have:=xh h
   exact⟨k,aq,aq,aq⟩
theorem wy{ps:List il}(h:jl ts ps a k=some d):jl ts ps a (k+1)=some d:=by
 show(match jl ts ps a k with|some d=>some d|none=>_)=_;rw[h]
theorem vT{ps:List il}(h:jl ts ps a k=none):jl ts ps a (k+1)=gZ ts (dH ps (a+k)).f ((dH ps (a+k)).t-(dH ps (a+k)).f):=by
 show(match jl ts ps a k with|some d=>some d|none=>_)=_;rw[h]
theorem qm(h:gZ ts x k=some d):gZ ts x (k+1)=some d:=by
 show(match gZ ts x k with|some d=>some d|none=>_)=_;rw[h]
theorem nm(h:gZ ts x k=none):gZ ts x (k+1)=if nth ts (x+k)=46 then some (x+k)else none:=by
 show(match gZ ts x k with|some d=>some d|none=>_)=_;rw[h]
theorem xG{ts:aE}{x d:Nat}:∀{k m:Nat},k<=m->gZ ts x k=some d->gZ ts x m=some d
 |0,0,_,e=>e
 |k+1,0,h,_=>by omega
 |k,m+1,h,e=>by
  rcases Nat.eq_or_lt_of_le h with rfl|h
  ·exact e
  ·exact qm (xG aq e)
theorem GW{ts:aE}{ps:List il}{a d:Nat}:∀{k m:Nat},k<=m->jl ts ps a k=some d->jl ts ps a m=some d
 |0,0,_,e=>e
 |k+1,0,h,_=>by omega
 |k,m+1,h,e=>by
  rcases Nat.eq_or_lt_of_le h with rfl|h
  ·exact e
  ·exact wy (GW aq e)
def fS(l:List (Int×Int))(j:Nat):Int×Int:=l.getD j (0,0)
def QJ(every:Int):Int:=if every<1 then 48 else every
def gV(l:List (Int×Int))(every x:Int):Int×Int:=match l.find? (fun t=>decide (x<t.1))with
 |some t=>t
 |none=>(wrap64 (wrap64 (wrap64 ((max x 0).tdiv (QJ every))+1)*QJ every),0)
def kS(n:Int):Int:=n/2
def kD(t:Int×Int)(x wide a:Int):Int:=max (if t.2=1 then wrap64 (t.1-wide)else if t.2=2 then wrap64 (t.1-kS wide)else if t.2=3 then wrap64 (t.1-a)else t.1) x
def fv(l:List (Int×Int))(every:Int)(W Q:aE):Nat->aE×Int
 |0=>([],0)
 |i+1=>
  let x:=if i=0 then 0 else kD (gV l every (fv l every W Q i).2) (fv l every W Q i).2 (nth W i) (if i<Q.length then nth Q i else nth W i)
  ((fv l every W Q i).1++[x],wrap64 (x+nth W i))
theorem pC(l:List (Int×Int))(every:Int)(W Q:aE):∀i,(fv l every W Q i).1.length=i
 |0=>rfl
 |i+1=>by simp[fv,pC l every W Q i]
def oP(gs:List aE)(a m:Nat)(b:Bool):Nat->aE×Int
 |0=>(List.replicate m 0,0)
 |k+1=>
  let i:=if b=true then m-1-k else k
  ((oP gs a m b k).1.set i (oP gs a m b k).2,wrap64 ((oP gs a m b k).2+nth (fW gs (a+i)) 2))
def nH(gs:List aE)(a:Nat)(o:aE):Nat->aE
 |0=>o
 |i+1=>if(a:Int)<=nth (fW gs (a+i)) 5/\nth (fW gs (a+i)) 5<(a:Int)+i then(nH gs a o i).set i (nth (nH gs a o i) (nth (fW gs (a+i)) 5-a).toNat)else nH gs a o i
theorem EU(gs:List aE)(a m:Nat)(b:Bool):∀k,(oP gs a m b k).1.length=m
 |0=>by simp[oP]
 |k+1=>by simp[oP,EU gs a m b k]
theorem Gu(gs:List aE)(a:Nat)(o:aE):∀k,(nH gs a o k).length=o.length
 |0=>rfl
 |k+1=>by unfold nH;split<;>simp[Gu gs a o k]
def tg(gs:List aE)(a m:Nat)(b:Bool):aE:=nH gs a (oP gs a m b m).1 m
def sq(lv:Int):Bool:=decide (lv%2≠0)
def aaa(b:Int)(gs:List aE)(a m:Nat)(c:Bool)(i:Nat):gN:=⟨b,nth (fW gs (a+i)) 0,wrap64 (nth (tg gs a m c) i+nth (fW gs (a+i)) 3),nth (fW gs (a+i)) 4⟩
def qA(gs:List aE)(a:Nat):Nat->Int
 |0=>0
 |k+1=>qA gs a k+nth (fW gs (a+k)) 2
def ib(f t:Int)(lv c:Int)(gs:List aE)(a b:Nat):bP:=⟨f,t,lv,0,wrap64 (qA gs a (b-a)),(List.range (b-a)).map (aaa c gs a (b-a) (sq lv))⟩
def gu(ts:aE)(k:Nat):Nat->Bool
 |0=>false
 |m+1=>gu ts k m||kY (nth ts (k+m))
def hU(ts:aE)(from_:Int):Nat->Nat->Nat
 |0,z=>z
 |m+1,z=>if(kG (ks ts) z:Int)<=from_ then z else if gu ts (kG (ks ts) z) (z-kG (ks ts) z)=true then z else hU ts from_ m (kG (ks ts) z)
def dv(f t lv:Int):bP:=⟨f,t,lv,0,0,[]⟩
def Wb(q:il)(a:List (Nat×Nat))(i:Nat):Int:=if i+1<a.length then nth (bY q.gs) (a.getD (i+1) (0,0)).1 else q.t
def vB(ts:aE)(q:il)(lv d:Int)(c:List (Nat×Nat))(i:Nat):List bP:=
 let a:=(c.getD i (0,0)).1
 let b:=(c.getD i (0,0)).2
 let e:Int:=hU ts (nth (bY q.gs) a) (Wb q c i).toNat (Wb q c i).toNat
 ib (nth (bY q.gs) a) e lv d q.gs a b::if e<Wb q c i then[dv e (Wb q c i) lv]else[]
def gY(ts:aE)(q:il)(lv a:Int)(b:List (Nat×Nat)):Nat->List bP
 |0=>[]
 |i+1=>gY ts q lv a b i++vB ts q lv a b i
def kP(q:il)(lv:Int):List bP:=if q.gs.length=0 then[dv q.f q.t lv]else if(q.f:Int)<nth (bY q.gs) 0 then[dv q.f (nth (bY q.gs) 0) lv]else[]
def fR(ts:aE)(q:il)(lv a:Int):List bP:=kP q lv++gY ts q lv a (eU (bY q.gs) q.gs.length) (eU (bY q.gs) q.gs.length).length
def kB(ts:aE)(rn:List (Int×Int))(W Bg:aE)(ps:List il):Nat->List bP×Nat
 |0=>([],0)
 |i+1=>
  let q:=dH ps i
  let r:=rn.getD q.run (0,0)
  let s:=kB ts rn W Bg ps i
  if q.gQ=true then(s.1++[⟨q.f,q.t,r.1,0,if s.2+1<Bg.length then wrap64 (wrap64 (nth Bg (s.2+1)-nth Bg s.2)-nth W s.2)else 0,[]⟩],s.2+1)
  else(s.1++fR ts q r.1 r.2,s.2)
structure eE where
 q:il
 G:aC
 gc:Nat
 en:Int
 P:aC
 pn:Nat
 pc:Nat
deriving Inhabited
def eE.F(x:eE):List Value:=[ae aj (x.q.f:Int),ae aj (x.q.t:Int),ae aj (x.q.run:Int), .slice x.G x.q.gs.length x.gc,ae aj x.q.wide,ae aj x.q.inner,ae aj x.en, .bool x.q.gQ, .slice x.P x.pn x.pc]
def oO(xs:List eE)(i:Nat):eE:=xs.getD i default
theorem pZ{xs:List eE}(h:i<xs.length):oO xs i=xs[i]:=by simp[oO,h]
theorem ng{xs:List eE}(h:i<xs.length):oO xs i∈xs:=by rw[pZ h];exact List.getElem_mem h
theorem pK(a:Addr):a.add 0=a:=Hn
def qO(w:World)(B:Nat)(xs:List eE)(a k:Nat)(A:aC):Prop:=a+k<=xs.length/\∀j,j<k->∃b,A=some b/\b.block<B/\(∀q u,(oO xs (a+j)).F[q]? =some u->w.cell? ((b.add (j*9)).add q)=some u)/\Rx w B 10 (oO xs (a+j)).q.gs (oO xs (a+j)).G (oO xs (a+j)).q.gs.length
theorem qO.Z{c:World}{xs:List eE}(h:qO w B xs a k A)(b:Below B w c)(o:B<=d):qO c d xs a k A:=⟨h.1,fun j i=>by
 obtain⟨f,l,m,g,p⟩:=h.2 j i;exact⟨f,l,aq,fun q u n=>(b.cell (by rw[aO,aO];exact m)).trans (g q u n),p.Z b o⟩⟩
theorem qO.at{xs:List eE}(h:qO w B xs a k A)(f:j<k):∃(b:Addr) (x:eE),oO xs (a+j)=x/\A=some b/\w.cell? (b.add (j*9))=some (ae aj (x.q.f:Int))/\w.cell? (bW (b.add (j*9)) 1)=some (ae aj (x.q.t:Int))/\w.cell? (bW (b.add (j*9)) 2)=some (ae aj (x.q.run:Int))/\w.cell? (bW (b.add (j*9)) 3)=some (.slice x.G x.q.gs.length x.gc)/\w.cell? (bW (b.add (j*9)) 4)=some (ae aj x.q.wide)/\w.cell? (bW (b.add (j*9)) 5)=some (ae aj x.q.inner)/\w.cell? (bW (b.add (j*9)) 6)=some (ae aj x.en)/\w.cell? (bW (b.add (j*9)) 7)=some (.bool x.q.gQ)/\w.cell? (bW (b.add (j*9)) 8)=some (.slice x.P x.pn x.pc)/\Rx w B 10 x.q.gs x.G x.q.gs.length:=by
 obtain⟨b,g,l,c,i⟩:=h.2 j f;have d:=c 0 _ rfl;rw[pK]at d;exact⟨b,_,rfl,g,d,c 1 _ rfl,c 2 _ rfl,c 3 _ rfl,c 4 _ rfl,c 5 _ rfl,c 6 _ rfl,c 7 _ rfl,c 8 _ rfl,i⟩
theorem qO.less{xs:List eE}(h:qO w B xs a k A)(c:m<=k):qO w B xs a m A:=⟨Bl,fun j b=>h.2 j aq⟩
def xx(P:Program)(t:TypeId)(sz:Nat)(A:aC)(n c:Nat)(lo d:Option Value)(i m:Nat)(b:aC)(a:Nat):Prop:=
 (∀w:World,(Instr.slice t (.slice A n c) lo d none).run P w= .ok (.slice b m a) w)/\m<=a/\a<=c/\(0<m->b=A.map (·.add (i*sz)))
section
variable {P : Program} {t e : TypeId} {bytes sz : Nat}
theorem nt(T:aS P t e sz bytes)(A:aC)(n c i j:Nat)(g:i<=j)(m:j<=n)(k:n<=c)(l h:Int)(a:l=i)(b:h=j):
 ∃d f,xx P t sz A n c (some (ae aj l)) (some (ae aj h)) i (j-i) d f:=by
 subst a;subst b
 refine⟨if c=i then A else A.map (·.add (i*sz)),c-i,fun w=> ?_,aq,aq,fun h=>if_neg aq⟩;rw[run_slice_lh w t A n c (cP T) .i64 .i64 i j aq aq aq,cQ T];simp[Result.andThen,sliced]
theorem Nn(T:aS P t e sz bytes)(A:aC)(n c j:Nat)(f:j<=n)(g:n<=c)(h:Int)(a:h=j):
 ∃b d,xx P t sz A n c none (some (ae aj h)) 0 j b d:=by
 subst a;refine⟨if c=0 then A else A.map (·.add 0),c,fun w=> ?_,aq,aq,fun h=>by rw[if_neg aq,Nat.zero_mul]⟩;rw[run_slice_h w t A n c (cP T) .i64 j aq aq,cQ T];simp[Result.andThen,sliced]
theorem Ud(T:aS P t e sz bytes)(A:aC)(n c i:Nat)(f:i<=n)(g:n<=c)(l:Int)(b:l=i):
 ∃a d,xx P t sz A n c (some (ae aj l)) none i (n-i) a d:=by
 subst b;refine⟨if c=i then A else A.map (·.add (i*sz)),c-i,fun w=> ?_,aq,aq,fun h=>if_neg aq⟩;rw[run_slice_l w t A n c (cP T) .i64 i aq aq,cQ T];simp[Result.andThen,sliced]
theorem xx.Xe{d:aC}{l:Nat}{lo k:Option Value}(h:xx P t 9 A n c lo k i m d l){w:World}{B a:Nat}{xs:List eE}(b:qO w B xs a n A)(v:i+m<=n):qO w B xs (a+i) m d:=⟨by have:=b.1;omega,fun j s=>by
 obtain⟨f,o,h2,g,r⟩:=b.2 (i+j) aq;rw[show a+i+j=a+(i+j) by omega];refine⟨f.add (i*9),by rw[h.2.2.2 (by omega),o];rfl,yG,fun q u p=> ?_,r⟩;have:=g q u p;rw[bm]at this;rw[bm,bm];rwa [show i*9+(j*9+q)=(i+j)*9+q by omega]⟩
theorem xx.run{a:aC}{lo b:Option Value}(h:xx P t sz A n c lo b i m a d):∀w:World,(Instr.slice t (.slice A n c) lo b none).run P w= .ok (.slice a m d) w:=h.1
end
theorem QE:aS prog 34 63 9 104:=bD underlying34 (z:= .agg #[ae aj 0,ae aj 0,ae aj 0, .slice none 0 0,ae aj 0,ae aj 0,ae aj 0, .bool false, .slice none 0 0]) aF rfl aq aq
abbrev qs(xs:List eE):List il:=xs.map (·.q)
theorem nR{xs:List eE}(h:i<xs.length):dH (qs xs) i=(oO xs i).q:=by simp[dH,oO,qs,h]
theorem vP:wrap64 0=0:=PJ
def Ic(xs:List eE):Prop:=∀i,i<xs.length->(oO xs i).q.gs.length<=100000
theorem nF:aS prog 43 3 1 8:=bD underlying43 (z:=ae aj 0) aF rfl aq aq
theorem Ug(xs:List eE)(a k d:Nat)(A:aC)(b:Int)(w:World)(h:qO w w.heap.size xs a k A)(O:k<=1000)(I:Ic xs):Calls prog 128 #[.slice A k d,ae aj b] w fun e y=>e= .returned (ae aj (wrap64 (dG (qs xs) a b k)))/\y=w:=by
 have R:=sH h;have D:=sH I;go_enter func128,ntmps128;go_wp2;go_loopg [5,6,7] (k+1) (fun gg l B _ wr=>∃(i:Nat) (X:Int),k-i<gg/\i<=k/\l=ae aj X/\B=ae aj (i:Int)/\ak (X=wrap64 (dG (qs xs) a b i))/\wr=w)
 ·exact⟨0,0,aq,aq,rfl,rfl,⟨vP.symm⟩,rfl⟩
 obtain⟨i,X,H,Q,rfl,rfl,o,rfl⟩:=hrel;by_cases p:i<k;rotate_left
 ·have u:=cF i k
  obtain rfl:i=k:=aq;go_wp2;go_ret;exact⟨by rw[<-o.o]<;>rfl,rfl⟩
 have u:=aR i k;obtain⟨N,x,t,rfl,c0,V,E,r,c4,c5,c6,M,c8,rx⟩:=R.o.at p;have g:=D.o (a+i) (by have:=R.o.1;omega);rw[t]at g;have q:ak (dG (qs xs) a b (i+1)=dG (qs xs) a b i+fV x.q.gs b x.q.gs.length):=⟨by
  show dG _ _ _ i+_=_;rw[nR (by have:=R.o.1;omega),t]⟩
 have s:=sH rx;obtain⟨n,F⟩:=eY x.q.gs.length;rw[F]at g r s q;obtain⟨S,v⟩:=eY (dG (qs xs) a b i);rw[v]at q o;go_wp2;go_loopg [5,7] (n+1) (fun gg l v7 K=>∃(j:Nat) (Y:Int),n-j<gg/\j<=n/\l=ae aj Y/\v7=ae aj (j:Int)/\ak (Y=wrap64 (S+fV x.q.gs b j))/\K=wr)
 ·exact⟨0,X,aq,aq,rfl,rfl,⟨by rw[o.o];simp[fV]⟩,rfl⟩
 obtain⟨j,Y,G,T,rfl,rfl,HY,rfl⟩:=hrel;by_cases m:j<n;rotate_left
 ·have L:=cF j n
  obtain rfl:j=n:=aq;have c:ak (Y=wrap64 (dG (qs xs) a b (i+1))):=⟨by rw[HY.o,q.o]⟩;go_wp2;go_roundg (k-i)
  ·exact⟨i+1,Y,aq,aq,rfl,aQ,c,rfl⟩
  omega
 have L:=aR j n;obtain⟨f,z,_,_,e⟩:=s.o.at_ m;rw[z]at r;have P:wr.cell? (bW (f.add (j*10)) 1)=some (ae aj (nth (fW x.q.gs j) 1)):=e 1 aq;have U:wr.cell? (bW (f.add (j*10)) 2)=some (ae aj (nth (fW x.q.gs j) 2)):=e 2 aq;have EA:ak (fV x.q.gs b (j+1)=fV x.q.gs b j+if nth (fW x.q.gs j) 1<b then nth (fW x.q.gs j) 2 else 0):=⟨rfl⟩;generalize nth (fW x.q.gs j) 1=J at*;generalize nth (fW x.q.gs j) 2=C at*;by_cases hl:J<b
 ·have c:ak (wrap64 (Y+C)=wrap64 (S+fV x.q.gs b (j+1))):=⟨aaI⟩
  go_wp2;go_roundg (n-j)
  ·exact⟨j+1,_,aq,aq,rfl,aQ,c,rfl⟩
  omega
 ·have c:ak (Y=wrap64 (S+fV x.q.gs b (j+1))):=⟨aaP⟩
  go_wp2;go_roundg (n-j)
  ·exact⟨j+1,_,aq,aq,rfl,aQ,c,rfl⟩
  omega
def zM(ps:List il)(a k:Nat)(last:Bool)(i:Nat):Int:=nX ps a i+if i=k then nQ ps a k last else 0
theorem ZO{ps:List il}{last:Bool}(h:i+1<k):zM ps a k last (i+1)=zM ps a k last i+(dH ps (a+i)).wide:=by
 unfold zM;rw[if_neg aq,if_neg aq];show nX ps a i+_+0=_;omega
theorem za{ps:List il}{last:Bool}:zM ps a (k+1) last (k+1)=zM ps a (k+1) last k+if last=true then(dH ps (a+k)).inner else(dH ps (a+k)).wide:=by
 have c:zM ps a (k+1) last (k+1)=nX ps a (k+1)+nQ ps a (k+1) last:=by unfold zM;rw[if_pos rfl]
 have d:zM ps a (k+1) last k=nX ps a k:=by unfold zM;rw[if_neg (by omega)];omega
 have b:nX ps a (k+1)=nX ps a k+(dH ps (a+k)).wide:=rfl;rw[c,d,b];unfold nQ;rw[show a+(k+1)-1=a+k by omega];cases last
 ·simp
 ·simp;omega
structure InT(n:Nat)(xs:List eE):Prop where
 ne:∀i,i<xs.length->(oO xs i).q.f<(oO xs i).q.t/\(oO xs i).q.t<=n
def PSg(w:World)(ts:aE)(ps:List il)(a k:Nat)(last:Bool)(e:Ending)(b:World):Prop:=e= .returned (.tuple #[ae aj (wS ps a k last),ae aj (pS ts ps a k last)])/\b=w
theorem mQ1(s:G:=by
 exact⟨i+1,_,aq,aq,rfl,aQ,HZ,rfl⟩):G:=s
theorem wJ(xs:List eE)(a k d:Nat)(A:aC)(last:Bool)(T:aC)(n c:Nat)(ts:aE)(w:World)(h:qO w w.heap.size xs a k A)(G:aL .i32 w T n c ts)(hk:k<=1000)(hn:n<=100000)(hg:Ic xs)(J:InT n xs):Calls prog 66 #[.slice T n c, .slice A k d, .bool last] w (PSg w ts (qs xs) a k last):=by
 have R:=sH h;have TX:=sH G;have HG:=sH hg;have IT:=sH J;have WE:ak (wS (qs xs) a k last=wrap64 (zM (qs xs) a k last k)):=⟨by unfold wS zM;rw[if_pos rfl]⟩;have W0:ak (zM (qs xs) a k last 0=0):=⟨by
  unfold zM nQ nX;split
  ·rename_i h;subst h;simp
  ·rfl⟩
 go_enter func66,ntmps66;go_wp2;go_loopg [8,9] (k+1) (fun gg P v9 wr=>∃(i:Nat) (X:Int),k-i<gg/\i<=k/\P=ae aj X/\v9=ae aj (i:Int)/\ak (X=wrap64 (zM (qs xs) a k last i))/\wr=w)
 ·exact⟨0,0,aq,aq,rfl,rfl,⟨by rw[W0.o];exact vP.symm⟩,rfl⟩
 obtain⟨i,X,IG,J,rfl,rfl,r,rfl⟩:=hrel;by_cases F:i<k
 ·have U:=aR i k
  obtain⟨W,x,s,rfl,c0,O,B,Y,c4,c5,c6,Q,c8,rx⟩:=R.o.at F;have o:ak (dH (qs xs) (a+i)=x.q):=⟨by rw[nR (by have:=R.o.1;omega),s]⟩;by_cases hl:i+1<k
  ·have L:((i:Int)==(k:Int)-1)=false:=pM
   have HZ:ak (wrap64 (X+x.q.wide)=wrap64 (zM (qs xs) a k last (i+1))):=⟨by rw[ZO hl,r.o,lB,o.o]⟩;cases last
   ·go_wp2
    go_roundg (k-i)
    ·exact mQ1
    omega
   ·go_wp2
    go_roundg (k-i)
    ·exact mQ1
    omega
  ·obtain rfl:k=i+1:=by omega
   have L:((i:Int)==((i+1:Nat):Int)-1)=true:=aD;cases last
   ·have HZ:ak (wrap64 (X+x.q.wide)=wrap64 (zM (qs xs) a (i+1) false (i+1))):=⟨by rw[za,r.o,lB,o.o];simp⟩
    go_wp2;go_roundg (i+1-i)
    ·exact mQ1
    omega
   ·have HZ:ak (wrap64 (X+x.q.inner)=wrap64 (zM (qs xs) a (i+1) true (i+1))):=⟨by rw[za,r.o,lB,o.o];simp⟩
    go_wp2;go_roundg (i+1-i)
    ·exact mQ1
    omega
 have U:=cF i k;obtain rfl:i=k:=aq;have l:ak (X=wS (qs xs) a i last):=⟨by rw[r.o,WE.o]⟩;go_wp2;go_loopg [10,11] (i+1) (fun gg v10 _ H=>∃j:Nat,i-j<gg/\j<=i/\v10=ae aj (j:Int)/\ak (jl ts (qs xs) a j=none)/\H=wr)
 ·exact⟨0,aq,aq,rfl,⟨rfl⟩,rfl⟩
 obtain⟨j,C,hj,rfl,M,rfl⟩:=hrel;by_cases I:j<i;rotate_left
 ·have i5:=cF j i
  obtain rfl:j=i:=aq;have u:ak (pS ts (qs xs) a j last=X):=⟨by unfold pS;rw[M.o,l.o]⟩;go_wp2;go_ret2;exact⟨by rw[<-l.o,u.o]<;>rfl,rfl⟩
 have i5:=aR j i;obtain⟨W,x,s,rfl,c0,O,B,Y,c4,c5,c6,Q,c8,rx⟩:=R.o.at I;have o:ak (dH (qs xs) (a+j)=x.q):=⟨by rw[nR (by have:=R.o.1;omega),s]⟩;obtain⟨b,m⟩:=IT.o.ne (a+j) (by have:=R.o.1;omega);rw[s]at b m;have g:=vT (ts:=ts) (ps:=qs xs) (a:=a) (k:=j) M.o;rw[o.o]at g;have g:=sH g;obtain⟨f,hf⟩:=eY x.q.f;obtain⟨t,G⟩:=eY x.q.t;rw[hf]at c0 b g;rw[G]at O b m g;have z:=sH C;go_wp2;go_loopg [11] (t+1) (fun gg D H=>∃q:Nat,t-q<gg/\f<=q/\q<=t/\D=ae aj (q:Int)/\ak (gZ ts f (q-f)=none)/\H=wr)
 ·exact⟨f,aq,aq,aq,rfl,⟨by rw[Nat.sub_self];rfl⟩,rfl⟩
 obtain⟨q,uJ,hfq,S,rfl,N,rfl⟩:=hrel;by_cases hq:q<t;rotate_left
 ·have i6:=cF q t
  obtain rfl:q=t:=aq;have E:ak (jl ts (qs xs) a (j+1)=none):=⟨by rw[g.o];exact N.o⟩;go_wp2;go_roundg (i-j)
  ·exact⟨j+1,aq,aq,aQ,E,rfl⟩
  have:=z.o;omega
 have i6:=aR q t;have i7:=aR q n;obtain⟨gP,rfl,e0⟩:=TX.o.ce (show q<n by omega);have K:ak (gZ ts f (q+1-f)=if nth ts q=46 then some q else none):=⟨by
  rw[show q+1-f=(q-f)+1 by omega,nm N.o,show f+(q-f)=q by omega]⟩
 generalize nth ts q=y at*;by_cases p:y=46
 ·have V:ak (jl ts (qs xs) a i=some q):=⟨GW (k:=j+1) aq (by rw[g.o];exact xG (k:=q+1-f) (by omega) (by rw[K.o,if_pos p]))⟩
  have u:ak (pS ts (qs xs) a i last=wrap64 (dG (qs xs) a (q:Int) i)):=⟨by unfold pS;rw[V.o]⟩;subst p;go_wp2_with fail;refine(Ug xs a i d _ (q:Int) _ R.o hk HG.o).mono ?_;rintro e w3 ⟨rfl,rfl⟩;generalize wrap64 (dG (qs xs) a (q:Int) i)=Z at*;go_wp2;go_ret2;exact⟨by rw[<-l.o,u.o]<;>rfl,rfl⟩
 ·have L:(y==46)=false:=by simpa using p
  have v:ak (gZ ts f (q+1-f)=none):=⟨by rw[K.o,if_neg p]⟩;go_wp2;go_roundg (t-q)
  ·exact⟨q+1,aq,aq,aq,aQ,v,rfl⟩
  omega
def PWh(w:World)(b:Bool)(e:Ending)(a:World):Prop:=e= .returned (.bool b)/\aA w a
theorem Ms(A:aC)(n c a b:Nat)(ts:aE)(w:World)(h:aL .i32 w A n c ts)(B:Laid w)(o:a<=b)(M:b<=n)(O:n<=100000):Calls prog 35 #[.slice A n c,ae aj (a:Int),ae aj (b:Int)] w (rX w (jU ts a b)):=by
 have R:=sH h;have u:=sH B;have K:¬(a:Int)<0:=aq;have g2:=cF b a;have H:=cF n b;go_enter func35,ntmps35;go_wp2;go_loopg [2] (b+1) (fun gg v wr=>∃(k:Nat),k<gg/\k<=b/\v=ae aj (k:Int)/\ak (jU ts a k=jU ts a b)/\ak (aA w wr))
 ·exact⟨b,aq,aq,rfl,⟨rfl⟩,cB⟩
 obtain⟨k,I,J,rfl,f,e⟩:=hrel;by_cases y:a<k;rotate_left
 ·have p:=cF a k
  have E:ak (jU ts a b=k):=⟨by
   rw[<-f.o];rcases k with _|k
   ·rfl
   ·unfold jU;rw[if_neg aq]⟩
  go_wp2;go_ret;exact⟨by rw[E.o];simp,e.o⟩
 have p:=aR a k;obtain⟨j,rfl⟩:∃j,k=j+1:=⟨k-1,aq⟩;have N:wrap64 (j:Int)=(j:Int):=IntWalk.wrap64_in _ aq;have k0:=jB j;have F:=aR j n;have P:(a:Int)<(j:Int)+1:=aq;obtain⟨G,rfl,L⟩:=(R.o.ar e.o).ce (show j<n by omega);obtain⟨i,g⟩:=bounds_i32 (R.o.dF (show j<n by omega));have t:=sH (xI (nth ts j) i g wr (u.o.ar e.o));have s:ak ((aZ (nth ts j)).word=7->jU ts a j=jU ts a b):=⟨fun h=>by rw[<-f.o];show _=jU ts a (j+1);unfold jU;rw[if_pos ⟨aq,h⟩];cases j<;>rfl⟩;have r:ak (¬(aZ (nth ts j)).word=7->jU ts a b=j+1):=⟨fun h=>by rw[<-f.o];unfold jU;rw[if_neg (fun q=>h q.2)]⟩;generalize nth ts j=z at*;go_wp2_with fail;refine callK t.o e fun C D m=> ?_;generalize(aZ z).word=x at*;by_cases d:x=7
 ·have l:=sH (s.o d)
  subst d;go_wp2;go_roundg (j+1)
  ·exact⟨j,aq,aq,by first|rfl|go_num,l,m⟩
  omega
 ·have l:=sH (r.o d)
  have d:(x==7)=false:=by simpa using d
  go_wp2;go_ret;exact⟨by rw[l.o];simp,m.o⟩
abbrev eE.row(x:eE):Array Value:= #[ae aj (x.q.f:Int),ae aj (x.q.t:Int),ae aj (x.q.run:Int), .slice x.G x.q.gs.length x.gc,ae aj x.q.wide,ae aj x.q.inner,ae aj x.en, .bool x.q.gQ, .slice x.P x.pn x.pc]
def YQ(ts:aE)(q:il):Bool:=decide (jU ts q.f q.t=q.f)
theorem aay(x:eE)(A:aC)(n c:Nat)(ts:aE)(w:World)(h:aL .i32 w A n c ts)(q:Laid w)(g:x.q.f<=x.q.t)(i:x.q.t<=n)(m:n<=100000):Calls prog 57 #[.slice A n c, .agg x.row] w (PWh w (YQ ts x.q)):=by
 have R:=sH h;have l:=sH q;obtain⟨d,aP⟩:=eX (w.alloc (.cells x.row 63));have b:ak (aA w d):=⟨lY⟩;have c0:d.cell? ⟨w.heap.size,0,none⟩=some (ae aj (x.q.f:Int)):=acA;have k:d.cell? ⟨w.heap.size,1,none⟩=some (ae aj (x.q.t:Int)):=acA;have e:ak (YQ ts x.q=decide (jU ts x.q.f x.q.t=x.q.f)):=⟨rfl⟩;obtain⟨f,p⟩:=eY x.q.f;obtain⟨t,r⟩:=eY x.q.t;rw[p]at c0 g e;rw[r]at k g i e;obtain⟨L0,L1⟩:=lc2 c0 k;have j:ak (∀a:aI d,Calls prog 35 #[.slice A n c,ae aj (f:Int),ae aj (t:Int)] a.1 (rX a.1 (jU ts f t))):=⟨fun a=>Ms A n c f t ts a.1 ((R.o.ar b.o).ar a.2) ((l.o.ar b.o).ar a.2) g i m⟩;unfold rX at j;generalize jU ts f t=z at*;go_enter func57,ntmps57;go_upto_region 1 with fail;rw[<-aP];go_wp2;refine br aF aF ?_
 repeat(go_big_quiet_step (with_reducible exact cD (j.o _)))
 refine wpQuiet_nil ?_;rintro _ ⟨o,rfl⟩;go_wp2;go_ret;exact⟨by rw[e.o];show Ending.returned (.bool ((z:Int)==(f:Int)))=_;rw[show((z:Int)==(f:Int))=decide (z=f) by rw[Bool.eq_iff_iff];simp<;>omega],b.o.trans (o.2.mono b.o.size)⟩
theorem Ad{ts:aE}{f t:Nat}:∀{k:Nat},f+k<=t->gZ ((ts.take t).drop f) 0 k=(gZ ts f k).map (·-f)
 |0,_=>rfl
 |k+1,h=>by
  have ih:=Ad (ts:=ts) (f:=f) (t:=t) (k:=k) aq;have e:nth ((ts.take t).drop f) (0+k)=nth ts (f+k):=by
   unfold nth;simp only[List.getD_eq_getElem?_getD,List.getElem?_drop,List.getElem?_take];rw[if_pos aq]
   congr 2
   rw[Nat.zero_add]
  cases a:gZ ts f k with
  |some d=>
   rw[a]at ih;rw[qm ih,qm a];rfl
  |none=>
   rw[a]at ih;rw[nm ih,nm a,e];split
   ·simp
   ·rfl
theorem abm:aS prog 27 21 1 4:=bD underlying27 (z:= .int .i32 0) aF rfl aq aq
def PIx(w:World)(xs:aE)(n:Nat)(e:Ending)(a:World):Prop:=∃z:Int,e= .returned (ae aj z)/\(z= -1/\gZ xs 0 n=none∨∃i:Nat,z=(i:Int)/\gZ xs 0 n=some i/\i<n)/\a=w
theorem UC(A:aC)(n c:Nat)(xs:aE)(w:World)(h:aL .i32 w A n c xs)(l:n<=100000):Calls prog 122 #[.slice A n c, .int .i32 46] w (PIx w xs n):=by
 have R:=sH h;go_enter func122,ntmps122;go_wp2;go_loopg [8] (n+1) (fun gg v wr=>∃i:Nat,n-i<gg/\i<=n/\v=ae aj (i:Int)/\ak (gZ xs 0 i=none)/\wr=w)
 ·exact⟨0,aq,aq,rfl,⟨rfl⟩,rfl⟩
 obtain⟨i,o,p,rfl,f,rfl⟩:=hrel;by_cases a:i<n;rotate_left
 ·have j:=cF i n
  obtain rfl:i=n:=aq;go_wp2;go_ret;exact⟨_,rfl, .inl ⟨rfl,f.o⟩,rfl⟩
 have j:=aR i n;obtain⟨m,rfl,q⟩:=R.o.ce a;have d:=nm f.o;rw[Nat.zero_add]at d;generalize nth xs i=y at*;by_cases e:y=46
 ·have b:ak (gZ xs 0 n=some i):=⟨xG (k:=i+1) aq (by rw[d,if_pos e])⟩
  have g:((46:Int)==y)=true:=by simp[e]
  go_wp2;go_ret;exact⟨_,rfl, .inr ⟨i,rfl,b.o,a⟩,rfl⟩
 ·have b:ak (gZ xs 0 (i+1)=none):=⟨by rw[d,if_neg e]⟩
  have g:((46:Int)==y)=false:=pM;go_wp2;go_roundg (n-i)
  ·exact⟨i+1,aq,aq,aQ,b,rfl⟩
  omega
def Uk(ts:aE)(ps:List il)(a k:Nat)(z:Int)(b:Bool):Prop:=match jl ts ps a k with
 |some d=>b=true/\z=wrap64 (dG ps a d k)
 |none=>b=false/\z=wrap64 (sh ps a k)
theorem kH{ps:List il}{z:Int}{b:Bool}(h:jl ts ps a k=some d):Uk ts ps a k z b↔b=true/\z=wrap64 (dG ps a d k):=by unfold Uk;rw[h]
theorem kI{ps:List il}{z:Int}{b:Bool}(h:jl ts ps a k=none):Uk ts ps a k z b↔b=false/\z=wrap64 (sh ps a k):=by unfold Uk;rw[h]
def aeO(w:World)(ts:aE)(ps:List il)(a k:Nat)(e:Ending)(c:World):Prop:=∃(z:Int) (b:Bool),e= .returned (.tuple #[ae aj (wrap64 (nX ps a k)),ae aj z, .bool b])/\Uk ts ps a k z b/\aA w c
theorem LL{W:World}{x:eE}(h:W=w.alloc (.cells x.row t)):∀q u,x.F[q]? =some u->W.cell? ⟨w.heap.size,q,none⟩=some u:=fun q u a=>by
 rw[h,cell_of_row _ _ _ _ _ _ (heap_alloc_new w _),<-a];simp[eE.row,eE.F]
theorem ya{W:World}{i a b j g c e k f d:Int}(h:W=w.alloc (.cells #[ae aj i,ae aj a,ae aj b,ae aj j,ae aj g,ae aj c,ae aj e,ae aj k,ae aj f,ae aj d] t)):W.cell? ⟨w.heap.size,1,none⟩=some (ae aj a)/\W.cell? ⟨w.heap.size,2,none⟩=some (ae aj b):=by
 rw[h,cell_of_row _ _ _ _ _ _ (heap_alloc_new w _),cell_of_row _ _ _ _ _ _ (heap_alloc_new w _)];exact⟨rfl,rfl⟩
theorem ten{g:aE}(h:g.length=10):∃i b j k f a d l e c:Int,g=[i,b,j,k,f,a,d,l,e,c]:=by
 match g,h with
 |[i,b,j,k,f,a,d,l,e,c],_=>exact⟨i,b,j,k,f,a,d,l,e,c,rfl⟩
theorem Rx.ba(h:Rx w B 10 gs A n)(t:j<n):∃(a:Addr) (g d o i m c f p l k:Int),A=some a/\fW gs j=[g,d,o,i,m,c,f,p,l,k]/\w.cell? (a.add (j*10))=some (ae aj g)/\
 w.cell? (bW (a.add (j*10)) 1)=some (ae aj d)/\w.cell? (bW (a.add (j*10)) 2)=some (ae aj o)/\w.cell? (bW (a.add (j*10)) 3)=some (ae aj i)/\w.cell? (bW (a.add (j*10)) 4)=some (ae aj m)/\w.cell? (bW (a.add (j*10)) 5)=some (ae aj c)/\
 w.cell? (bW (a.add (j*10)) 6)=some (ae aj f)/\w.cell? (bW (a.add (j*10)) 7)=some (ae aj p)/\w.cell? (bW (a.add (j*10)) 8)=some (ae aj l)/\w.cell? (bW (a.add (j*10)) 9)=some (ae aj k):=by
 obtain⟨a,e,s,_,b⟩:=h.at_ t;obtain⟨g,d,o,i,m,c,f,p,l,k,r⟩:=ten s;rw[r]at b;have q:=b 0 aq;rw[pK]at q;exact⟨a,g,d,o,i,m,c,f,p,l,k,e,r,q,b 1 aq,b 2 aq,b 3 aq,b 4 aq,b 5 aq,b 6 aq,b 7 aq,b 8 aq,b 9 aq⟩
theorem mQ2(s:G:=by
 exact⟨j+1,_,aq,aq,rfl,aQ,HY2,B2⟩):G:=s
theorem Au(xs:List eE)(a k d:Nat)(A:aC)(T:aC)(n c:Nat)(ts:aE)(w:World)(h:qO w w.heap.size xs a k A)(O:aL .i32 w T n c ts)(hk:k<=1000)(hn:n<=100000)(hg:Ic xs)(hi:InT n xs)(hs:Dy (qs xs)):Calls prog 60 #[.slice T n c, .slice A k d] w (aeO w ts (qs xs) a k):=by
 have R:=sH h;have TX:=sH O;have HG:=sH hg;have IT:=sH hi;have SD:=sH hs;clear h O hg hi hs;go_enter func60,ntmps60;go_wp2;go_loopg [7,8,9,18] (k+1) (fun gg v7 M v9 v18 wr=>∃(i:Nat) (X Z:Int) (b:Bool),k-i<gg/\i<=k/\v7=ae aj X/\M=ae aj Z/\v9= .bool b/\v18=ae aj (i:Int)/\ak (X=wrap64 (nX (qs xs) a i))/\ak (Uk ts (qs xs) a i Z b)/\ak (aA w wr))
 ·exact⟨0,0,0,false,aq,aq,rfl,rfl,rfl,rfl,⟨vP.symm⟩,⟨(kI rfl).2 ⟨rfl,vP.symm⟩⟩,cB⟩
 obtain⟨i,X,Z,b,IG,hi,rfl,rfl,rfl,rfl,HX,K,N⟩:=hrel;by_cases aH:i<k;rotate_left
 ·have i4:=cF i k
  obtain rfl:i=k:=aq;go_wp2;go_ret3;exact⟨Z,b,by rw[<-HX.o]<;>rfl,K.o,N.o⟩
 have i4:=aR i k;have wg:=N.o.size;obtain⟨ad,x,hx,rfl,c0,c1,aU,c3,c4,c5,c6,c7,c8,rx⟩:=(R.o.Z N.o N.o.size).at aH;have hkx:=R.o.1;have L:ak (dH (qs xs) (a+i)=x.q):=⟨Es⟩;have P:=HG.o (a+i) aq;obtain⟨C,E⟩:=IT.o.ne (a+i) aq;rw[hx]at P C E;obtain⟨r,aP⟩:=eX (wr.alloc (.cells x.row 63));have PB:=LL aP;have U:ak (aA w r):=⟨by rw[aP];exact N.o.alloc wg _⟩;have Q:=sH (rx.Z (show aA wr r by rw[aP];exact av _ _) (show wr.heap.size<=r.heap.size by rw[aP];simp));have p0:=PB 0 _ rfl;have p1:=PB 1 _ rfl;have p3:=PB 3 _ rfl;have p4:=PB 4 _ rfl;have v:ak (wrap64 (X+x.q.wide)=wrap64 (nX (qs xs) a (i+1))):=⟨by rw[HX.o,lB];show _=wrap64 (nX _ _ i+_);rw[L.o]⟩;go_upto_region 6 with fail;rw[<-aP];have gM:r.heap.size=wr.heap.size+1:=oL;clear aP PB c0 c1 aU c3 c4 c5 c6 c7 c8 rx hx;cases b;rotate_left
 ·have o:ak (Uk ts (qs xs) a (i+1) Z true):=⟨by
   cases l:jl ts (qs xs) a i with
   |none=>have:=(kI l).1 K.o;simp at this
   |some q=>
    obtain⟨_,h2⟩:=(kH l).1 K.o;obtain⟨i0,h3,_,h5⟩:=GO l;rw[kH (wy l)];exact⟨rfl,by rw[h2,DV SD.o h3 (by simp;omega) h5]⟩⟩
  go_wp2;go_roundg (k-i)
  ·exact⟨i+1,_,Z,true,aq,aq,rfl,rfl,rfl,aQ,v,o,U⟩
  omega
 have V:ak (jl ts (qs xs) a i=none/\Z=wrap64 (sh (qs xs) a i)):=⟨by
  cases l:jl ts (qs xs) a i with
  |none=>exact⟨rfl,((kI l).1 K.o).2⟩
  |some q=>have:=((kH l).1 K.o).1;simp at this⟩
 clear K;have F:=vT (ts:=ts) (ps:=qs xs) (a:=a) (k:=i) V.o.1;rw[L.o]at F;have W:ak (sh (qs xs) a (i+1)=sh (qs xs) a i+fV x.q.gs x.q.t x.q.gs.length):=⟨by show sh _ _ i+_=_;rw[L.o]⟩;have AM:ak (∀q,x.q.f<=q->sh (qs xs) a i+fV x.q.gs q x.q.gs.length=dG (qs xs) a q (i+1)):=⟨fun q hq=>by have:=Jl (d:=q) SD.o (a:=a) (k:=i) cA (by rw[L.o];exact hq);rw[L.o]at this;exact this⟩;obtain⟨f,hf⟩:=eY x.q.f;obtain⟨t,O⟩:=eY x.q.t;obtain⟨S,hS⟩:=eY (sh (qs xs) a i);obtain⟨m,hm⟩:=eY x.q.gs.length;rw[hf]at p0 C F AM;rw[O]at p1 C E F W;rw[hS]at W AM V;rw[hm]at P p3 Q W AM;obtain⟨G,hG⟩:=eY x.G;rw[hG]at p3 Q;obtain⟨A2,c2,CR⟩:=mQ abm T n c f t aq E TX.o.le (f:Int) (t:Int) rfl rfl;have s:=CR.run;have X2:=sH (CR.jv (TX.o.ar U.o));have DC:=sH (Ad (ts:=ts) (f:=f) (t:=t) (k:=t-f) aq);have F:=sH F;clear hf O hS hm CR hG;go_upto_region 9 with fail;clear p4;go_wp2_with fail;refine(UC A2 (t-f) c2 _ r X2.o aq).mono ?_;rintro e w2 ⟨z,rfl,H,e2⟩;subst w2;rcases H with⟨rfl,H⟩|⟨q,rfl,H,hqn⟩
 ·have D:ak (∀Y,Y=wrap64 (S+fV x.q.gs (t:Int) m)->Uk ts (qs xs) a (i+1) Y false):=⟨fun Y hY=>by
   have h1:gZ ts f (t-f)=none:=by
    have:=DC.o;rw[H]at this;cases l:gZ ts f (t-f)with
    |none=>rfl
    |some d=>rw[l]at this;simp at this
   rw[kI (by rw[F.o,h1])];exact⟨rfl,by rw[hY,W.o]⟩⟩
  clear H s p0;go_wp2;clear p1 p3;go_loopg [8,15,45] (m+1) (fun gg M _ J wx=>∃(j:Nat) (Y:Int),m-j<gg/\j<=m/\M=ae aj Y/\J=ae aj (j:Int)/\ak (Y=wrap64 (S+fV x.q.gs (t:Int) j))/\ak (aA r wx))
  ·exact⟨0,Z,aq,aq,rfl,rfl,⟨by rw[V.o.2];simp[fV]⟩,cB⟩
  obtain⟨j,Y,Wi,hj,rfl,rfl,HY,p⟩:=hrel;by_cases I:j<m;rotate_left
  ·have i5:=cF j m
   obtain rfl:j=m:=aq;have o:=sH (D.o Y HY.o);have B3:=U.t p.o;go_wp2;go_roundg (k-i)
   ·exact⟨i+1,_,Y,false,aq,aq,rfl,rfl,rfl,aQ,v,o,B3⟩
   omega
  have i5:=aR j m;obtain⟨gP,x0,B,y,x3,x4,x5,x6,x7,x8,x9,rfl,UZ,e0,e1,e2,e3,e4,e5,e6,e7,e8,e9⟩:=(Q.o.Z p.o p.o.size).ba I;have EA:ak (fV x.q.gs (t:Int) (j+1)=fV x.q.gs (t:Int) j+if B<(t:Int)then y else 0):=⟨acF⟩;obtain⟨W2,g⟩:=eX ((wr:World).alloc (.cells #[ae aj x0,ae aj B,ae aj y,ae aj x3,ae aj x4,ae aj x5,ae aj x6,ae aj x7,ae aj x8,ae aj x9] 108));obtain⟨g1,g2⟩:=ya g;have B2:ak (aA r W2):=⟨by rw[g];exact p.o.alloc p.o.size _⟩;go_upto_region 15 with fail;rw[<-g];clear g e0 e1 e2 e3 e4 e5 e6 e7 e8 e9 UZ;by_cases hl:B<(t:Int)
  ·have HY2:ak (wrap64 (Y+y)=wrap64 (S+fV x.q.gs (t:Int) (j+1))):=⟨aaI⟩
   go_wp2;go_roundg (m-j)
   ·exact mQ2
   omega
  ·have HY2:ak (Y=wrap64 (S+fV x.q.gs (t:Int) (j+1))):=⟨aaP⟩
   go_wp2;go_roundg (m-j)
   ·exact mQ2
   omega
 ·obtain⟨u,hu⟩:=eY (f+q)
  have hui:(f:Int)+(q:Int)=(u:Int):=aq;have D:ak (∀Y,Y=wrap64 (S+fV x.q.gs (u:Int) m)->Uk ts (qs xs) a (i+1) Y true):=⟨fun Y hY=>by
   have h1:gZ ts f (t-f)=some u:=by
    have:=DC.o;rw[H]at this;cases l:gZ ts f (t-f)with
    |none=>rw[l]at this;simp at this
    |some d=>rw[l]at this;simp at this;have:=xh l;congr 1;omega
   rw[kH (by rw[F.o,h1])];exact⟨rfl,by rw[hY,AM.o u (by omega)]⟩⟩
  clear H s;go_wp2;clear p0 p1 p3;go_loopg [8,15,45] (m+1) (fun gg M _ J wx=>∃(j:Nat) (Y:Int),m-j<gg/\j<=m/\M=ae aj Y/\J=ae aj (j:Int)/\ak (Y=wrap64 (S+fV x.q.gs (u:Int) j))/\ak (aA r wx))
  ·exact⟨0,Z,aq,aq,rfl,rfl,⟨by rw[V.o.2];simp[fV]⟩,cB⟩
  obtain⟨j,Y,Wi,hj,rfl,rfl,HY,p⟩:=hrel;by_cases I:j<m;rotate_left
  ·have i5:=cF j m
   obtain rfl:j=m:=aq;have o:=sH (D.o Y HY.o);have B3:=U.t p.o;go_wp2;go_roundg (k-i)
   ·exact⟨i+1,_,Y,true,aq,aq,rfl,rfl,rfl,aQ,v,o,B3⟩
   omega
  have i5:=aR j m;obtain⟨gP,x0,B,y,x3,x4,x5,x6,x7,x8,x9,rfl,UZ,e0,e1,e2,e3,e4,e5,e6,e7,e8,e9⟩:=(Q.o.Z p.o p.o.size).ba I;have EA:ak (fV x.q.gs (u:Int) (j+1)=fV x.q.gs (u:Int) j+if B<(u:Int)then y else 0):=⟨acF⟩;obtain⟨W2,g⟩:=eX ((wr:World).alloc (.cells #[ae aj x0,ae aj B,ae aj y,ae aj x3,ae aj x4,ae aj x5,ae aj x6,ae aj x7,ae aj x8,ae aj x9] 108));obtain⟨g1,g2⟩:=ya g;have B2:ak (aA r W2):=⟨by rw[g];exact p.o.alloc p.o.size _⟩;go_upto_region 15 with fail;rw[<-g];clear g e0 e1 e2 e3 e4 e5 e6 e7 e8 e9 UZ;by_cases hl:B<(u:Int)
  ·have HY2:ak (wrap64 (Y+y)=wrap64 (S+fV x.q.gs (u:Int) (j+1))):=⟨aaI⟩
   go_wp2;go_roundg (m-j)
   ·exact mQ2
   omega
  ·have HY2:ak (Y=wrap64 (S+fV x.q.gs (u:Int) (j+1))):=⟨aaP⟩
   go_wp2;go_roundg (m-j)
   ·exact mQ2
   omega
section
variable {P : Program} {ops : Array Oper} {Q : Exit -> Act -> World -> Prop}
def JQ(ops:Array Oper)(L:Nat->Bool):Prop:=∀i o,ops[i]? =some o->L i=true->o.after.all (fun e=> !Region.binds .any e||L e.on)=true
theorem JQ.dir{L:Nat->Bool}(h:JQ ops L){a b:Nat}(i:L a=true)(c:jV ops a b=true):L b=true:=by
 unfold jV at c;cases d:ops[a]? with
 |none=>rw[d]at c;simp at c
 |some o=>
  rw[d]at c;simp only[Option.map_some,Option.getD_some,Array.any_eq_true]at c;obtain⟨k,j,e⟩:=c;rw[Bool.and_eq_true]at e;have f:=h a o d i;rw[Array.all_eq_true]at f;have g:=f k j;rw[e.1]at g;rw[<-show(o.after[k]).on=b by simpa using e.2];simpa using g
theorem JQ.all{L:Nat->Bool}(h:JQ ops L){n:Nat}(d:L n=true)(f:gE ops n=true):∀i,i<n->L i=true:=fun i e=>by
 have a:=(List.all_eq_true.1 f) i (List.mem_range.2 e);rw[Bool.or_eq_true]at a;rcases a with a|a
 ·exact h.dir d a
 ·obtain⟨j,_,c⟩:=List.any_eq_true.1 a
  rw[Bool.and_eq_true]at c;exact h.dir (h.dir d c.1) c.2
def WT(ops:Array Oper)(a b:Nat):Bool:=jV ops a b||(List.range ops.size).any fun j=>jV ops a j&&jV ops j b
theorem JQ.no{L:Nat->Bool}(h:JQ ops L){a b:Nat}(f:L b=false)(c:WT ops a b=true):L a=false:=by
 cases e:L a with
 |false=>rfl
 |true=>
  exfalso;have key:L b=true:=by
   unfold WT at c;rw[Bool.or_eq_true]at c;rcases c with c|c
   ·exact h.dir e c
   ·obtain⟨j,_,d⟩:=List.any_eq_true.1 c
    rw[Bool.and_eq_true]at d;exact h.dir (h.dir e d.1) d.2
  rw[f]at key;cases key
theorem jJ{G n:Nat}{a:Act}(R:P.follows .mixedOrders=true)(K:fG ops=true)(U:ops.size=n+1)(C:gE ops n=true)(I:(Nat->Bool)->Act->World->Prop)(N:I (fun _=>false) a w.drew)
 (m:∀i o L a w,i<n->ops[i]? =some o->L i=false->o.after.all (fun e=> !Region.binds .any e||L e.on)=true->JQ ops L->I L a w->wpOp P ops Q i (I (fun k=>k==i||L k)) a w)
 (s:∀L a w,(∀i,i<n->L i=true)->I L a w->wpOp P ops Q n (fun a w=>Q .normal a w) a w):(Code.region G ops true).wp P Q a w:=by
 refine my R K (fun L a w=>JQ ops L/\((L n=false/\I L a w)∨(L n=true/\Q .normal a w))) ⟨fun i o _ h=>gO, .inl ⟨rfl,N⟩⟩ ?_ ?_
 ·rintro i o L a w y l f ⟨g,u⟩
  have c:JQ ops (fun k=>k==i||L k):=fun j v t M=>by
   rw[Array.all_eq_true];intro k B;have key:(!Region.binds .any (v.after[k])||L (v.after[k]).on)=true:=by
    by_cases r:j=i
    ·subst r
     rw[y]at t;obtain rfl:=Option.some.inj t;exact(Array.all_eq_true.1 f) k B
    ·have J:L j=true:=by
      have O:(j==i)=false:=(by simpa using r);simpa[O]using M
     exact(Array.all_eq_true.1 (g j v t J)) k B
   simp only[Bool.or_eq_true]at key⊢;rcases key with h|h
   ·exact .inl h
   ·exact .inr (.inr h)
  have V:=(Array.getElem?_eq_some_iff.1 y).1;rcases u with⟨d,u⟩|⟨d,_⟩
  ·by_cases z:i=n
   ·subst z
    refine wpOp_mono (fun S E x=>⟨c, .inr ⟨aD,x⟩⟩) (s L a w (fun j t=> ?_) u);have D:=c.all (n:=i) aD C j t;have H:(j==i)=false:=pM;simpa[H]using D
   ·have A:(n==i)=false:=pM
    exact wpOp_mono (fun S E x=>⟨c, .inl ⟨by simp[A,d],x⟩⟩) (m i o L a w aq y l f g u)
  ·exfalso
   rcases Nat.lt_or_ge i n with h|h
   ·have:=g.all d C i h
    rw[l]at this;cases this
   ·obtain rfl:i=n:=by omega
    rw[l]at d;cases d
 ·rintro L a w q ⟨_,⟨d,_⟩|⟨_,h⟩⟩
  ·rw[q n aq]at d
   cases d
  ·exact h
def fa(ts:Array Value)(k0:Nat)(bu:Nat->Value):Nat->Array Value
 |0=>ts
 |m+1=>(fa ts k0 bu m).setIfInBounds (k0+m) (bu m)
def dm(a:Act)(k0 m:Nat)(bu:Nat->Value):Act:=⟨fa a.tmps k0 bu m,a.defers⟩
def nE(bu:Nat->Value)(i:Nat)(v:Value):Nat->Value:=fun k=>if k=i then v else bu k
structure Cb(T:List (Option Value))(b p n:Nat)(news:List Value)(w2:World)(F:aC->Nat->World->Prop)(L:Nat->Bool)(bu:Nat->Value)(W:World):Prop where
 cI:∀k v,T[k]? =some (some v)->L k=true->bu k=v
 pre:L p=false->aA w2 W
 box:L b=true->L p=false->∃d:Nat,bu b= .slice (some ⟨d,0,none⟩) 1 1/\∀j u,news[j]? =some u->W.cell? ⟨d,j,none⟩=some u
 post:L p=true->∃A c,bu p= .slice A (n+1) c/\F A c W
variable {T : List (Option Value)} {b p n : Nat} {news : List Value} {w2 W W' : World} {F : aC -> Nat -> World -> Prop} {L : Nat -> Bool} {bu : Nat -> Value}
theorem Cb.start(h:aA w2 W):Cb T b p n news w2 F (fun _=>false) bu W:=⟨fun _ _ _ h=>gO,fun _=>h,fun h=>gO,fun h=>gO⟩
theorem Cb.pure(h:Cb T b p n news w2 F L bu W){i:Nat}{v:Value}(g:T[i]? =some (some v))(e:i≠b)(f:i≠p):Cb T b p n news w2 F (fun k=>k==i||L k) (nE bu i v) W:=by
 have l:(b==i)=false:=by simpa using Ne.symm e
 have d:(p==i)=false:=by simpa using Ne.symm f
 refine⟨fun k u a hk=> ?_,fun c=>h.pre (by simpa[d]using c),fun c j=> ?_,fun c=> ?_⟩
 ·unfold nE
  by_cases nB:k=i
  ·subst nB
   rw[if_pos rfl];rw[g]at a;injection a with a
   injection a
  ·rw[if_neg nB]
   have:(k==i)=false:=yE;exact h.cI k u a yz
 ·unfold nE
  rw[if_neg (Ne.symm e)];exact h.box (by simpa[l]using c) (by simpa[d]using j)
 ·unfold nE
  rw[if_neg (Ne.symm f)];exact h.post (by simpa[d]using c)
theorem Cb.lay(h:Cb T b p n news w2 F L bu W){cs:Array Value}(t:TypeId)(c:cs=news.toArray)(g:T[b]? =some none)(f:b≠p)(d:L p=false):Cb T b p n news w2 F (fun k=>k==b||L k) (nE bu b (.slice (some ⟨W.heap.size,0,none⟩) 1 1)) (W.alloc (.cells cs t)):=by
 have i:(p==b)=false:=by simpa using Ne.symm f
 refine⟨fun k u a hk=> ?_,fun e=>(h.pre d).alloc (h.pre d).size _,fun _ _=>⟨_,by unfold nE;rw[if_pos rfl],fun j u a=> ?_⟩,fun e=>by rw[i,d]at e;cases e⟩
 ·unfold nE
  by_cases nB:k=b
  ·subst nB;rw[g]at a;simp at a
  ·rw[if_neg nB]
   have:(k==b)=false:=yE;exact h.cI k u a yz
 ·rw[cell_of_row _ _ _ _ _ _ (heap_alloc_new W _),c]
  simpa using a
theorem Cb.app(h:Cb T b p n news w2 F L bu W){A:aC}{c:Nat}(g:T[p]? =some none)(d:F A c W'):Cb T b p n news w2 F (fun k=>k==p||L k) (nE bu p (.slice A (n+1) c)) W':=by
 refine⟨fun k u a hk=> ?_,fun e=>by simp at e,fun _ f=>by simp at f,fun _=>⟨A,c,by unfold nE;rw[if_pos rfl],d⟩⟩;unfold nE;by_cases nB:k=p
 ·subst nB;rw[g]at a;simp at a
 ·rw[if_neg nB]
  have:(k==p)=false:=yE;exact h.cI k u a yz
theorem lC(ts:Array Value)(k0:Nat):∀m,fa ts k0 (fun k=>ts.getD (k0+k) undef) m=ts
 |0=>rfl
 |m+1=>by
  unfold fa;rw[lC ts k0 m];refine Array.ext aD fun i c a=> ?_;rw[Array.getElem_setIfInBounds];split
  ·rename_i h
   subst h;rw[Array.getD_eq_getD_getElem?,Array.getElem?_eq_getElem a];rfl
  ·rfl
theorem vW(ts:Array Value)(k0:Nat)(bu:Nat->Value)(i:Nat)(v:Value):∀m,fa ts k0 (nE bu i v) m=if i<m then(fa ts k0 bu m).setIfInBounds (k0+i) v else fa ts k0 bu m
 |0=>rfl
 |m+1=>by
  have ih:=vW ts k0 bu i v m;unfold fa;rw[ih];rcases Nat.lt_trichotomy i m with h|h|h
  ·rw[if_pos h,if_pos aq,show nE bu i v m=bu m by unfold nE;rw[if_neg aq],Array.setIfInBounds_comm _ _ aq]
  ·subst h
   rw[if_neg aq,if_pos aq,show nE bu i v i=v by unfold nE;rw[if_pos rfl],Array.setIfInBounds_setIfInBounds]
  ·rw[if_neg aq,if_neg aq,show nE bu i v m=bu m by unfold nE;rw[if_neg aq]]
theorem L'{a:Act}{k0:Nat}{bu:Nat->Value}{v:Value}(h:i<m):dm a k0 m (nE bu i v)=(dm a k0 m bu).put (some (k0+i)) v:=by
 unfold dm;rw[vW,if_pos h];rfl
theorem ju{s k0:Nat}{a:Act}(T:List (Option Value))(b p n:Nat)(news:List Value)(w2:World)(F:aC->Nat->World->Prop)(C:P.follows .mixedOrders=true)(u:fG ops=true)(r:ops.size=N+1)(t:gE ops N=true)(x:N<=m)(y:aA w2 w)
 (d:∀i o L bu W,i<N->ops[i]? =some o->L i=false->o.after.all (fun e=> !Region.binds .any e||L e.on)=true->JQ ops L->Cb T b p n news w2 F L bu W->∀c,c=dm a k0 m bu->∀K:Act->World->Prop,(∀v W',Cb T b p n news w2 F (fun k=>k==i||L k) (nE bu i v) W'->K (c.put (some (k0+i)) v) W')->wpOp P ops Q i K c W)
 (g:∀L bu W,(∀i,i<N->L i=true)->Cb T b p n news w2 F L bu W->∀c,c=dm a k0 m bu->wpOp P ops Q N (fun a w=>Q .normal a w) c W):(Code.region s ops true).wp P Q a w:=by
 refine jJ C u r t (fun L c W=>∃bu,Cb T b p n news w2 F L bu W/\c=dm a k0 m bu) ⟨fun k=>a.tmps.getD (k0+k) undef,Cb.start y.drew, ?_⟩ ?_ ?_
 ·unfold dm
  rw[lC]
 ·rintro i o L c W A z l h j ⟨bu,q,ha⟩
  exact d i o L bu W A z l h j q c ha _ fun v W' B=>⟨_,B,Ph⟩
 ·rintro L c W f ⟨bu,q,ha⟩
  exact g L bu W f q c ha
end
theorem jL{P:Program}{ops:Array Oper}{o:Oper}{a:Act}{K:Act->World->Prop}{Q:Exit->Act->World->Prop}{E:Prop}{e:TypeId}{r bytes:Nat}(T:aS P t e r bytes)(H:o.guard=none)(s x:Operand)
 (ho:o.op= .call {callee:= .builtin .append,args:= #[s,x],argTypes:= #[t,t]}) {B:Nat} {A:aC} {n c:Nat} {vs:List Value} (Z:a.eval s= .slice A n c) (f:aB w B e r A n c vs)
 {g:Nat} (hx:a.eval x= .slice (some ⟨g,0,none⟩) 1 1) {news:List Value} (S:news.length=r) (hc:∀j u,news[j]? =some u->w.cell? ⟨g,j,none⟩=some u) (q:∀u∈news,u.oneCell'=true)
 (U:(n+1)*bytes<=140737488355328) (O:B<=w.heap.size)
 (h:∀D c' k,aB k B e r D (n+1) c' (vs++news)->Below B w k->w.grownBy k (Value.slice A n c).ownBlock->(∀g,D=some ⟨g,0,none⟩->A=some ⟨g,0,none⟩∨w.heap.size<=g)->K (a.put o.dst (.slice D (n+1) c')) k):
 if Region.wanted o (yielded ops a.tmps)=true then Oper.wp P o a w K Q else E:=by
 have hw:Region.wanted o (yielded ops a.tmps)=true:=by simp[Region.wanted,H]
 rw[if_pos hw];obtain⟨i,z,V,Y,v,J,y⟩:=T.info;have G:=T.zG;have X:n+1<=140737488355328:=by
  have l:(n+1)*1<=(n+1)*bytes:=Nat.mul_le_mul_left _ G;omega
 obtain⟨v',k,R,d,M,_,C⟩:=run_append_own_at (P:=P) w B t o.type e i z r bytes T.ht V Y v J y T.pos (.slice A n c) n _ f ⟨g,0,none⟩ 1 1 news aq
  (fun j u hu=>VZ) q pN U O
 unfold Oper.wp execOp;simp only[ho,resolve,invoke,builtin,Sem.run_bind,Sem.run_pure,Result.andThen_ok,List.map_toArray,List.map_cons,List.map_nil,Z,hx,R];have I:=aB.dq f M O;rcases d.2 with⟨N,h0⟩|⟨g',cap,cur,N,_⟩
 ·omega
 ·subst N
  refine h _ _ k d I M fun g1 m=> ?_;injection m with m
  injection m with m
  subst m;rcases C with l|l
  ·rcases aB.dN f with rfl|⟨g2,rfl⟩
   ·simp[Value.ownBlock]at l
   ·simp[Value.ownBlock]at l;subst l;exact .inl rfl
  ·simp[Value.ownBlock]at l;exact .inr aq
abbrev Rw:=aC×Nat×Nat
def Sq(r:Rw):Value:= .slice r.1 r.2.1 r.2.2
structure vQ(w:World)(B:Nat)(eO eI:TypeId)(P:Int->Prop)(M:Nat)(rs:List Rw)(A:aC)(k c:Nat):Prop where
 len:rs.length=k
 own:aB w B eO 1 A k c (rs.map Sq)
 each:∀r∈rs,0<r.2.1/\r.2.1<=M/\Ow w B eI .i64 P r.1 r.2.1 r.2.2
 sep:rs.Pairwise fun r s=>bO r.1 s.1
section
variable {w w' : World} {B B' k c M M' : Nat} {eO eI : TypeId} {P : Int -> Prop} {rs : List Rw} {r : Rw} {A A' : aC}
theorem vQ.nil(w:World)(B:Nat)(eO eI:TypeId)(P:Int->Prop)(M:Nat):vQ w B eO eI P M [] none 0 0:=⟨rfl,aB.nil _ _ _ _,fun r h=>gO, .nil⟩
theorem vQ.ar(h:vQ w B eO eI P M rs A k c)(b:aA w w'):vQ w' B eO eI P M rs A k c:=⟨h.len,aB.ar h.own b,fun r a=>⟨(h.each r a).1,(h.each r a).2.1,(h.each r a).2.2.ar b⟩,h.sep⟩
theorem vQ.more(h:vQ w B eO eI P M rs A k c)(b:M<=M'):vQ w B eO eI P M' rs A k c:=⟨h.len,h.own,fun r a=>⟨(h.each r a).1,by have:=(h.each r a).2.1;omega,(h.each r a).2.2⟩,h.sep⟩
theorem vQ.push(h:vQ w B eO eI P M rs A k c)(j:0<r.2.1)(m:r.2.1<=M)(i:Ow w B eI .i64 P r.1 r.2.1 r.2.2)(n:∀s∈rs,bO s.1 r.1){c':Nat}(g:aB w' B eO 1 A' (k+1) c' (rs.map Sq++[Sq r]))(f:w.grownBy w' (Value.slice A k c).ownBlock)(b:eI≠eO):vQ w' B eO eI P M (rs++[r]) A' (k+1) c':=by
 refine⟨rQ,by rw[List.map_append];exact g,fun s a=> ?_, ?_⟩
 ·have key:∀s:Rw,Ow w B eI .i64 P s.1 s.2.1 s.2.2->Ow w' B eI .i64 P s.1 s.2.1 s.2.2:=fun s a=>by
   obtain⟨xs,d,e⟩:=a;exact⟨xs,Own.kept d f (bZ d h.own b) (aB.dN h.own),e⟩
  rcases List.mem_append.1 a with a|a
  ·exact⟨(h.each s a).1,(h.each s a).2.1,key s (h.each s a).2.2⟩
  ·obtain rfl:=List.mem_singleton.1 a
   exact⟨j,m,key s i⟩
 ·rw[List.pairwise_append]
  exact⟨h.sep,List.pairwise_singleton _ _,fun s a t l=>by obtain rfl:=List.mem_singleton.1 l;exact n s a⟩
theorem vQ.grow{g c':Nat}{e:aC}(h:vQ w B eO eI P M (rs++[r]) (some ⟨g,0,none⟩) (k+1) c)(F:Ow w' B eI .i64 P e d i)(D:0<d)(E:d<=M)(u:w.grownBy w' (Sq r).ownBlock)
 (o:∀b,e=some ⟨b,0,none⟩->r.1=some ⟨b,0,none⟩∨w.heap.size<=b) (l:eI≠eO):vQ (w'.setCell ⟨g,k,none⟩ (.slice e d i)) B eO eI P M (rs++[(e,d,i)]) (some ⟨g,0,none⟩) (k+1) c:=by
 have q:rs.length=k:=by have:=h.len;simpa using this
 obtain⟨y,_,x⟩:=List.pairwise_append.1 h.sep;obtain⟨J,H,xs,p,I⟩:=h.each r aD;have G:bO r.1 (some ⟨g,0,none⟩):=bZ p h.own l;have v:aB w' B eO 1 (some ⟨g,0,none⟩) (k+1) c ((rs++[r]).map Sq):=aB.kept h.own u G.symm (aB.dN p);have a:aB (w'.setCell ⟨g,k,none⟩ (.slice e d i)) B eO 1 (some ⟨g,0,none⟩) (k+1) c (((rs++[r]).map Sq).set k (.slice e d i)):=(World.ownsRow.stored (cap:=c) v k (.slice e d i)).1;have hold:∀s∈rs,Ow w' B eI .i64 P s.1 s.2.1 s.2.2:=fun s a=>by
  obtain⟨n,j,m⟩:=(h.each s (by simp[a])).2.2;exact⟨n,Own.kept j u (x s a r aD) (aB.dN p),m⟩
 have f:∀s:Rw,Ow w' B eI .i64 P s.1 s.2.1 s.2.2->Ow (w'.setCell ⟨g,k,none⟩ (.slice e d i)) B eI .i64 P s.1 s.2.1 s.2.2:=fun s a=>by
  obtain⟨n,j,m⟩:=a;exact⟨n,Own.mE j (bZ j v l) _,m⟩
 refine⟨by simp[q], ?_,fun s a=> ?_, ?_⟩
 ·rw[List.map_append,List.set_append_right _ _ (by simp[q])]at a
  rw[List.map_append];simpa[q,Sq]using a
 ·rcases List.mem_append.1 a with a|a
  ·have:=h.each s (by simp[a])
   exact⟨this.1,this.2.1,f s (hold s a)⟩
  ·obtain rfl:=List.mem_singleton.1 a
   exact⟨D,E,f _ F⟩
 ·rw[List.pairwise_append]
  refine⟨y,List.pairwise_singleton _ _,fun s a t z=> ?_⟩;obtain rfl:=List.mem_singleton.1 z;refine(bO.grow (x s a r aD).symm (fun b C=> ?_) o).symm;obtain⟨n,j,m⟩:=(h.each s (by simp[a])).2.2;rw[C]at j;exact(aB.sY j).2
def DF(w:World)(B:Nat)(P:Int->Prop)(M:Nat)(A:aC)(k:Nat):Prop:=∀j,j<k->∃(a:Addr) (b:aC) (n c:Nat),A=some a/\a.block<B/\w.cell? (a.add j)=some (.slice b n c)/\0<n/\n<=M/\Iw w B .i64 P b n
theorem vQ.rd(h:vQ w B eO eI P M rs A k c):DF w w.heap.size P M A k:=fun j e=>by
 have d:=h.len;obtain⟨g,rfl,_,a⟩:=aB.form h.own aq;have b:rs[j]∈rs:=List.getElem_mem aq;refine⟨_,rs[j].1,rs[j].2.1,rs[j].2.2,rfl,a, ?_,(h.each _ b).1,(h.each _ b).2.1,(h.each _ b).2.2.iw⟩;rw[bB,aB.cellAt h.own j aq,List.getElem?_map,List.getElem?_eq_getElem aq];rfl
theorem DF.Z(h:DF w B P M A k)(a:Below B w w')(l:B<=B'):DF w' B' P M A k:=fun j f=>by
 obtain⟨o,b,n,c,g,h2,d,m,e,i⟩:=h j f;exact⟨o,b,n,c,g,aq,(a.cell yG).trans d,m,e,i.Z a l⟩
end
structure Gn{α:Type}(w:World)(B:Nat)(eO:TypeId)(sz:Nat)(F:α->List Value)(I:World->α->Prop)(rs:List α)(A:aC)(k c:Nat):Prop where
 len:rs.length=k
 own:aB w B eO sz A k c (rs.flatMap F)
 each:∀r∈rs,I w r
structure Kpt{α:Type}(eO:TypeId)(I:World->α->Prop):Prop where
 b:∀w w' r,I w r->aA w w'->I w' r
 g:∀w w' r B sz A n c vs,I w r->aB w B eO sz A n c vs->w.grownBy w' (Value.slice A n c).ownBlock->I w' r
section
variable {α : Type} {w w' : World} {B k c sz : Nat} {eO : TypeId} {F : α -> List Value} {I : World -> α -> Prop} {rs : List α} {r : α} {A A' : aC}
theorem Gn.nil(w:World)(B:Nat)(eO:TypeId)(sz:Nat)(F:α->List Value)(I:World->α->Prop):Gn w B eO sz F I [] none 0 0:=⟨rfl,aB.nil _ _ _ _,fun r h=>gO⟩
theorem Gn.ar(h:Gn w B eO sz F I rs A k c)(d:Kpt eO I)(a:aA w w'):Gn w' B eO sz F I rs A k c:=⟨h.len,aB.ar h.own a,fun r b=>d.b _ _ _ (h.each r b) a⟩
theorem Gn.push(h:Gn w B eO sz F I rs A k c)(f:Kpt eO I)(b:I w r){c':Nat}(e:aB w' B eO sz A' (k+1) c' (rs.flatMap F++F r))(d:w.grownBy w' (Value.slice A k c).ownBlock):Gn w' B eO sz F I (rs++[r]) A' (k+1) c':=by
 refine⟨rQ,by rw[List.flatMap_append];simpa using e,fun s a=> ?_⟩;have key:∀s,I w s->I w' s:=fun s a=>f.g _ _ _ _ _ _ _ _ _ a h.own d
 rcases List.mem_append.1 a with a|a
 ·exact key s (h.each s a)
 ·obtain rfl:=List.mem_singleton.1 a
  exact key s b
theorem Gn.at(h:Gn w B eO sz F I rs A k c)(d:∀r,(F r).length=sz){j:Nat}(l:j<k):∃(g:Nat) (r:α),A=some ⟨g,0,none⟩/\g<w.heap.size/\I w r/\∀q u,(F r)[q]? =some u->w.cell? ⟨g,j*sz+q,none⟩=some u:=by
 have i:=h.len;obtain⟨g,rfl,_,a⟩:=aB.form h.own aq;refine⟨g,rs[j],rfl,a,h.each _ (List.getElem_mem aq),fun q u b=> ?_⟩;have f:q<sz:=by rw[<-d rs[j]];exact(List.getElem?_eq_some_iff.1 b).1
 have e:j*sz+q<k*sz:=by
  have:=Nat.mul_le_mul_right sz (show j+1<=k by omega);rw[Nat.add_mul]at this;omega
 rw[aB.cellAt h.own _ e,kf F d rs j q _ (List.getElem?_eq_getElem aq) f,b]
end
def Ti(n:Nat)(g:aE):Prop:=∃a b:Nat,g=[(a:Int),(b:Int)]/\a<b/\b<=n
theorem Ov{ks:aE}{p:Nat×Nat}(h:p∈uy ks):p.1<p.2/\p.2<=ks.length:=by
 unfold uy ui at h;obtain⟨i,a,rfl⟩:=List.mem_map.1 h;have c:=List.mem_range.1 a;refine⟨qc aq, ?_⟩;have b:dx (di ks) (i+1)∈di ks:=sZ aq;have:=(pL (ks:=ks) (m:=ks.length+1) b).1;show dx (di ks) (i+1)<=_;omega
theorem Re{ps:List (Nat×Nat)}(h:aB w B 60 2 A n c (dt ps))(b:ps.length=n)(e:∀p∈ps,p.1<p.2/\p.2<=N):Oq w B 60 2 (Ti N) A n c:=by
 refine⟨ps.map fun p=>[(p.1:Int),(p.2:Int)],by simp[b],fun g a=> ?_, ?_⟩
 ·obtain⟨p,d,rfl⟩:=List.mem_map.1 a
  exact⟨rfl,p.1,p.2,rfl,e p d⟩
 ·rw[List.flatMap_map]
  exact h
def acq(w:World)(N:Nat)(e:Ending)(a:World):Prop:=∃(A:aC) (m c:Nat),m<=N/\e= .returned (.slice A m c)/\Oq a w.heap.size 60 2 (Ti N) A m c/\aA w a
theorem Ns(A:aC)(n c:Nat)(ts:aE)(w:World)(h:aL .i32 w A n c ts)(i:n<=100000):Calls prog 44 #[.slice A n c] w (acq w n):=by
 refine(vJ A n c ts w h aq).mono ?_;rintro e j ⟨d,f,rfl,o,b⟩;have k:(ks ts).length=n:=Px;refine⟨d,_,f, ?_,rfl,Re o rfl fun p g=> ?_,b⟩
 ·unfold uy
  rw[iL];have:=kN (ks ts) ((ks ts).length+1);have a:fO (ks ts) ((ks ts).length+1)=di (ks ts):=rfl;rw[a]at this;omega
 ·have:=Ov g
  omega
theorem Oq.cut(h:Oq w B 60 2 (Ti N) A n c){j:Nat}(k:j<n):∃g a b:Nat,A=some ⟨g,0,none⟩/\a<b/\b<=N/\w.cell? ⟨g,j*2,none⟩=some (ae aj (a:Int))/\w.cell? ⟨g,j*2+1,none⟩=some (ae aj (b:Int)):=by
 obtain⟨i,e,_,f⟩:=h.rq aq aq;obtain⟨g,rfl,_⟩:=h.form aq;obtain rfl:(⟨g,0,none⟩:Addr)=i:=Bm;obtain⟨r,_,⟨a,b,rfl,l,m⟩,d⟩:=f j k;refine⟨g,a,b,rfl,l,m, ?_, ?_⟩
 ·have:=d 0 _ rfl
  rwa [bm,bB]at this
 ·have:=d 1 _ rfl
  rwa [bm,bB]at this
theorem CL(A:aC)(n c:Nat)(ts:aE)(w:World)(h:aL .i32 w A n c ts)(b:n<=100000):Calls prog 84 #[.slice A n c] w (Nw w 3 .i64 aN n):=by
 refine(vt A n c ts w h aq).mono ?_;rintro e d a;exact aa5 a fun _ _=>trivial
def zC(cs:aE)(N:Nat)(xs:aE):Prop:=∀i,i<xs.length->nth xs i= -1∨∃q:Nat,nth xs i=q/\q<N/\(fP (nth cs i)=true->i<q)
theorem zC.nil(cs:aE)(N:Nat):zC cs N []:=fun i h=>by simp at h
theorem zC.snoc{cs xs:aE}(h:zC cs N xs):zC cs N (xs++[-1]):=fun i b=>by
 rcases Nat.lt_or_ge i xs.length with a|a
 ·rw[tN a];exact h i a
 ·obtain rfl:i=xs.length:=by simp at b;omega
  rw[gz rfl];exact .inl rfl
theorem zC.set{cs xs:aE}{q:Nat}(h:zC cs N xs)(d:q<N)(c:fP (nth cs j)=true->j<q):zC cs N (xs.set j q):=fun i b=>by
 by_cases a:j=i
 ·subst a
  rw[tt (by simpa using b)];exact .inr ⟨q,rfl,d,c⟩
 ·rw[oB a]
  exact h i (by simpa using b)
theorem VE(s:G:=by
 go_wp2
 go_ret;exact⟨_,rfl,BG.o⟩):G:=s
theorem FQ(A:aC)(n c:Nat)(a b:Int)(w:World)(h:Iw w w.heap.size .i64 aN A n)(hc:n<=c)(hn:n<=100000):Calls prog 224 #[.slice A n c,ae aj a,ae aj b] w (PI w):=by
 obtain⟨xs,C,_⟩:=h;have HX:=sH C;go_enter func224,ntmps224;go_upto_region 1 with fail;go_cut [1] (fun v F=>v=ae aj (max a 0)/\w=F)
 case first=>
  by_cases ha:a<0
  ·have E:ak (max a 0=0):=⟨aq⟩
   go_wp2;go_meet;exact⟨mR,rfl⟩
  ·have E:ak (max a 0=a):=⟨aq⟩
   go_wp2;go_meet;exact⟨mR,rfl⟩
 case rest=>
 obtain⟨rfl,rfl⟩:=hcut;obtain⟨x,C⟩:=eY (max a 0);rw[C];have hx0:0<=x:=aq;go_upto_region 2 with fail;go_cut [2] (fun v F=>v=ae aj (min b n)/\w=F)
 case first=>
  by_cases ha:(n:Int)<b
  ·have E:ak (min b (n:Int)=n):=⟨aq⟩
   go_wp2;go_meet;exact⟨mR,rfl⟩
  ·have E:ak (min b (n:Int)=b):=⟨aq⟩
   go_wp2;go_meet;exact⟨mR,rfl⟩
 case rest=>
 obtain⟨rfl,rfl⟩:=hcut;obtain⟨y,Z⟩:=eY (min b (n:Int));rw[Z];have T:y<=n:=aq;by_cases hle:y<=x
 ·go_wp2
  go_ret;exact⟨_,rfl,Below.refl _ _⟩
 obtain⟨i,rfl⟩:∃i:Nat,x=i:=⟨x.toNat,aq⟩;obtain⟨j,rfl⟩:∃j:Nat,y=j:=⟨y.toNat,aq⟩;obtain⟨A2,c2,p⟩:=mQ nA A n c i j aq aq hc i j rfl rfl;obtain⟨N,hN⟩:=eY (j-i);obtain⟨l,z⟩:=eY ((xs.take j).drop i);have f:=p.at_ HX.o;rw[hN]at p f;rw[z]at f;have rc:=p.run;have PM:=sH (oe A2 N c2 l w f aq);have Y:=sH f;have Q:=sH f.len;have W:N<=n:=aq;go_wp2_with fail;refine PM.o.mono ?_;rintro e w2 ⟨A3,c3,rfl,om,D⟩;have R:=sH om;have I:=sH D;go_wp2;go_loopg [9] (N+1) (fun gg v9 wr=>∃(k:Nat),N-k<gg/\k<=N/\v9=ae aj (k:Int)/\ak (aA w2 wr))
 ·exact⟨0,aq,aq,rfl,cB⟩
 obtain⟨k,hg,hk,rfl,t⟩:=hrel;have BG:=I.t t.o;by_cases d:k<N;rotate_left
 ·have U:=cF k N
  go_wp2;go_ret;exact⟨_,rfl,BG.o⟩
 have U:=aR k N;obtain⟨ad,rfl,O⟩:=(Y.o.Z BG.o).gj d;obtain⟨g,rfl,V,fL⟩:=aB.form R.o aq;have o:=bI (R.o.ar t.o) d;have s:=sH (yo (cs:=l) (i:=k) (by rw[Q.o];exact d));have MQ:ak (∀q:Nat,q<l.length->q<N):=⟨fun q h=>by have:=Q.o;omega⟩;generalize nth l k=x at*;generalize nth (mg l) k=m at*;by_cases G:(x==1)=true
 ·exact VE
 by_cases S:(x==2)=true
 ·exact VE
 by_cases J:(x==3)=true
 ·exact VE
 by_cases L:(x==11)=true
 ·exact VE
 have G:(x==1)=false:=by simpa using G
 have S:(x==2)=false:=by simpa using S
 have J:(x==3)=false:=by simpa using J
 have L:(x==11)=false:=by simpa using L
 go_wp2_with fail;refine callK (ov x wr) t fun w3 K r=> ?_;have BH:=I.t r.o;have O:=au O K;have o:=au o K;have M:=sH (ov x);generalize P:fP x=ob at*;cases ob
 ·clear P s
  go_wp2_with fail;refine callK (M.o _) r fun w4 H B=> ?_;go_wp2;go_roundg (N-k)
  ·exact⟨k+1,aq,aq,aQ,B⟩
  omega
 ·clear P
  by_cases u:(m== -1)=true
  ·clear s
   go_wp2;go_ret;exact⟨_,rfl,BH.o⟩
  have u:(m== -1)=false:=by simpa using u
  obtain⟨q,UY,X,rfl⟩:∃q:Nat,k<q/\q<N/\m=q:=by
   rcases s.o rfl with⟨h,_⟩|⟨q,h1,h2,h3,_⟩
   ·subst h;simp at u
   ·exact⟨q,h1,MQ.o q h2,h3⟩
  go_wp2_with fail;refine callK (M.o _) r fun w4 H B=> ?_;have o:=au o H;go_wp2;go_roundg (N-k)
  ·exact⟨q+1,aq,aq,aQ,B⟩
  omega
def PLv(w:World)(e:Ending)(a:World):Prop:=∃(z:Int) (b:Bool),e= .returned (.tuple #[ae aj z, .bool b])/\aA w a
theorem RU(A:aC)(n c:Nat)(w:World)(h:Iw w w.heap.size .i64 aN A n)(d:n<=c)(a:n<=100000):Calls prog 150 #[.slice A n c] w (PLv w):=by
 have H:=sH h;go_enter func150,ntmps150;go_wp2_with fail;refine(FQ A n c 0 n w H.o d a).mono ?_;rintro e f ⟨z,rfl,b⟩;have B:=sH b;go_wp2_with fail
 all_goals
  go_ret2;exact⟨_,_,rfl,B.o⟩
end Go.Proofs.YtpidckelbgbbkaaGreatDoor
