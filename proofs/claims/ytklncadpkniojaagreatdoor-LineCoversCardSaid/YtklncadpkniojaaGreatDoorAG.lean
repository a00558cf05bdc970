/- Part of LineCovers. -/
import Derived.Test.YtklncadpkniojaaGreatDoorAD
import Derived.Test.YtklncadpkniojaaGreatDoorAz
import Derived.Test.YtklncadpkniojaaGreatDoorAn
import Derived.Test.YtklncadpkniojaaGreatDoorAt
namespace Go.Proofs.YtklncadpkniojaaGreatDoor
open Go.ChangeShapes Go.WideShapes Go.ChangeAt Go.RowKit Go.Proofs.Tryz
open Go renaming World->ahh,Value->ahj,Calls->ahk,TypeId->ahm,Ending->ahn,Program->aho
open Go.RowKit renaming Below->ahi,wrap64->ahl
open Go.Value renaming int->ae
open Go.IntKind renaming i64->aj
set_option linter.all false
set_option maxRecDepth 100000
set_option maxHeartbeats 16000000
variable{B N a c d g i k m n x:Nat}{w:ahh}{v:Int}{e t:ahm}{ts:aC}{gs:List aC}{A:aA}{G:Prop}
section
variable{P:aho}{ops:Array Oper}{Q:Exit -> Act -> ahh -> Prop}
def Na(ops:Array Oper)(L:Nat->Bool):Prop:=∀i o,ops[i]? =some o->L i=true->o.after.all (fun e=> !Region.binds .any e||L e.on)=true
theorem Na.dir{L:Nat->Bool}(h:Na ops L){a b:Nat}(i:L a=true)(c:ki ops a b=true):L b=true:=by
 unfold ki at c;cases d:ops[a]? with
 |none=>rw[d]at c;simp at c
 |some o=>
  rw[d]at c;simp only[Option.map_some,Option.getD_some,Array.any_eq_true]at c;obtain⟨k,j,e⟩:=c;rw[Bool.and_eq_true]at e;have g:=h a o d i;rw[Array.all_eq_true]at g;have f:=g k j;rw[e.1]at f;rw[<-show(o.after[k]).on=b by simpa using e.2];simpa using f
theorem Na.all{L:Nat->Bool}(h:Na ops L){n:Nat}(d:L n=true)(e:gU ops n=true):∀i,i<n->L i=true:=fun i f=>by
 have a:=(List.all_eq_true.1 e) i (List.mem_range.2 f);rw[Bool.or_eq_true]at a;rcases a with a|a
 .exact h.dir d a
 .obtain⟨j,_,c⟩:=List.any_eq_true.1 a
  rw[Bool.and_eq_true]at c;exact h.dir (h.dir d c.1) c.2
def Yr(ops:Array Oper)(a b:Nat):Bool:=ki ops a b||(List.range ops.size).any fun j=>ki ops a j&&ki ops j b
theorem Na.no{L:Nat->Bool}(h:Na ops L){a b:Nat}(f:L b=false)(c:Yr ops a b=true):L a=false:=by
 cases e:L a with
 |false=>rfl
 |true=>
  exfalso;have key:L b=true:=by
   unfold Yr at c;rw[Bool.or_eq_true]at c;rcases c with c|c
   .exact h.dir e c
   .obtain⟨j,_,d⟩:=List.any_eq_true.1 c
    rw[Bool.and_eq_true]at d;exact h.dir (h.dir e d.1) d.2
  rw[f]at key;cases key
theorem mT{H n:Nat}{a:Act}(J:P.follows .mixedOrders=true)(R:fB ops=true)(U:ops.size=n+1)(B:gU ops n=true)(I:(Nat->Bool)->Act->ahh->Prop)(K:I (fun _=>false) a w.drew)
 (m:∀i o L a w,i<n->ops[i]? =some o->L i=false->o.after.all (fun e=> !Region.binds .any e||L e.on)=true->Na ops L->I L a w->wpOp P ops Q i (I (fun k=>k==i||L k)) a w)
 (t:∀L a w,(∀i,i<n->L i=true)->I L a w->wpOp P ops Q n (fun a w=>Q .normal a w) a w):(Code.region H ops true).wp P Q a w:=by
 refine jO J R (fun L a w=>Na ops L/\((L n=false/\I L a w)∨(L n=true/\Q .normal a w))) ⟨fun i o _ h=>fA,.inl ⟨rfl,K⟩⟩ ?_ ?_
 .rintro i o L a w x l d ⟨g,u⟩
  have c:Na ops (fun k=>k==i||L k):=fun j A s D=>by
   rw[Array.all_eq_true];intro k C;have key:(!Region.binds .any (A.after[k])||L (A.after[k]).on)=true:=by
    by_cases q:j=i
    .subst q
     rw[x]at s;obtain rfl:=Option.some.inj s;exact(Array.all_eq_true.1 d) k C
    .have M:L j=true:=by
      have E:(j==i)=false:=(by simpa using q);simpa[E]using D
     exact(Array.all_eq_true.1 (g j A s M)) k C
   simp only[Bool.or_eq_true]at key⊢;rcases key with h|h
   .exact .inl h
   .exact .inr (.inr h)
  have V:=(Array.getElem?_eq_some_iff.1 x).1;rcases u with⟨f,u⟩|⟨f,_⟩
  .by_cases v:i=n
   .subst v
    refine wpOp_mono (fun S G y=>⟨c,.inr ⟨aQ,y⟩⟩) (t L a w (fun j s=> ?_) u);have O:=c.all (n:=i) aQ B j s;have N:(j==i)=false:=pI;simpa[N]using O
   .have z:(n==i)=false:=pI
    exact wpOp_mono (fun S G y=>⟨c,.inl ⟨by simp[z,f],y⟩⟩) (m i o L a w ak x l d g u)
  .exfalso
   rcases Nat.lt_or_ge i n with h|h
   .have:=g.all f B i h
    rw[l]at this;cases this
   .obtain rfl:i=n:=by omega
    rw[l]at f;cases f
 .rintro L a w r ⟨_,⟨f,_⟩|⟨_,h⟩⟩
  .rw[r n ak]at f
   cases f
  .exact h
def gv(ts:Array ahj)(k0:Nat)(bm:Nat->ahj):Nat->Array ahj
 |0=>ts
 |m+1=>(gv ts k0 bm m).setIfInBounds (k0+m) (bm m)
def cH(a:Act)(k0 m:Nat)(bm:Nat->ahj):Act:=⟨gv a.tmps k0 bm m,a.defers⟩
def oA(bm:Nat->ahj)(i:Nat)(v:ahj):Nat->ahj:=fun k=>if k=i then v else bm k
structure Cb(T:List (Option ahj))(b p n:Nat)(news:List ahj)(w2:ahh)(F:aA->Nat->ahh->Prop)(L:Nat->Bool)(bm:Nat->ahj)(W:ahh):Prop where
 fv:∀k v,T[k]? =some (some v)->L k=true->bm k=v
 pre:L p=false->az w2 W
 box:L b=true->L p=false->∃d:Nat,bm b=.slice (some ⟨d,0,none⟩) 1 1/\∀j u,news[j]? =some u->W.cell? ⟨d,j,none⟩=some u
 post:L p=true->∃A c,bm p=.slice A (n+1) c/\F A c W
variable{T:List (Option ahj)}{b p n:Nat}{news:List ahj}{w2 W W':ahh}{F:aA -> Nat -> ahh -> Prop}{L:Nat -> Bool}{bm:Nat -> ahj}
theorem Cb.start(h:az w2 W):Cb T b p n news w2 F (fun _=>false) bm W:=⟨fun _ _ _ h=>fA,fun _=>h,fun h=>fA,fun h=>fA⟩
theorem Cb.pure(h:Cb T b p n news w2 F L bm W){i:Nat}{v:ahj}(l:T[i]? =some (some v))(e:i≠b)(f:i≠p):Cb T b p n news w2 F (fun k=>k==i||L k) (oA bm i v) W:=by
 have g:(b==i)=false:=by simpa using Ne.symm e
 have d:(p==i)=false:=by simpa using Ne.symm f
 refine⟨fun k u c hk=> ?_,fun a=>h.pre (by simpa[d]using a),fun a j=> ?_,fun a=> ?_⟩
 .unfold oA
  by_cases pK:k=i
  .subst pK
   rw[if_pos rfl];rw[l]at c;injection c with c
   injection c
  .rw[if_neg pK]
   have:(k==i)=false:=Fc;exact h.fv k u c Ff
 .unfold oA
  rw[if_neg (Ne.symm e)];exact h.box (by simpa[g]using a) (by simpa[d]using j)
 .unfold oA
  rw[if_neg (Ne.symm f)];exact h.post (by simpa[d]using a)
theorem Cb.lay(h:Cb T b p n news w2 F L bm W){cs:Array ahj}(t:ahm)(e:cs=news.toArray)(i:T[b]? =some none)(f:b≠p)(c:L p=false):Cb T b p n news w2 F (fun k=>k==b||L k) (oA bm b (.slice (some ⟨W.heap.size,0,none⟩) 1 1)) (W.alloc (.cells cs t)):=by
 have g:(p==b)=false:=by simpa using Ne.symm f
 refine⟨fun k u a hk=> ?_,fun d=>(h.pre c).alloc (h.pre c).size _,fun _ _=>⟨_,by unfold oA;rw[if_pos rfl],fun j u a=> ?_⟩,fun d=>by rw[g,c]at d;cases d⟩
 .unfold oA
  by_cases pK:k=b
  .subst pK;rw[i]at a;simp at a
  .rw[if_neg pK]
   have:(k==b)=false:=Fc;exact h.fv k u a Ff
 .rw[cell_of_row _ _ _ _ _ _ (heap_alloc_new W _),e]
  simpa using a
theorem Cb.app(h:Cb T b p n news w2 F L bm W){A:aA}{c:Nat}(g:T[p]? =some none)(d:F A c W'):Cb T b p n news w2 F (fun k=>k==p||L k) (oA bm p (.slice A (n+1) c)) W':=by
 refine⟨fun k u a hk=> ?_,fun e=>by simp at e,fun _ f=>by simp at f,fun _=>⟨A,c,by unfold oA;rw[if_pos rfl],d⟩⟩;unfold oA;by_cases pK:k=p
 .subst pK;rw[g]at a;simp at a
 .rw[if_neg pK]
  have:(k==p)=false:=Fc;exact h.fv k u a Ff
theorem jE(ts:Array ahj)(k0:Nat):∀m,gv ts k0 (fun k=>ts.getD (k0+k) undef) m=ts
 |0=>rfl
 |m+1=>by
  unfold gv;rw[jE ts k0 m];refine Array.ext aQ fun i c a=> ?_;rw[Array.getElem_setIfInBounds];split
  .rename_i h
   subst h;rw[Array.getD_eq_getD_getElem?,Array.getElem?_eq_getElem a];rfl
  .rfl
theorem vS(ts:Array ahj)(k0:Nat)(bm:Nat->ahj)(i:Nat)(v:ahj):∀m,gv ts k0 (oA bm i v) m=if i<m then(gv ts k0 bm m).setIfInBounds (k0+i) v else gv ts k0 bm m
 |0=>rfl
 |m+1=>by
  have ih:=vS ts k0 bm i v m;unfold gv;rw[ih];rcases Nat.lt_trichotomy i m with h|h|h
  .rw[if_pos h,if_pos ak,show oA bm i v m=bm m by unfold oA;rw[if_neg ak],Array.setIfInBounds_comm _ _ ak]
  .subst h
   rw[if_neg ak,if_pos ak,show oA bm i v i=v by unfold oA;rw[if_pos rfl],Array.setIfInBounds_setIfInBounds]
  .rw[if_neg ak,if_neg ak,show oA bm i v m=bm m by unfold oA;rw[if_neg ak]]
theorem tQ{a:Act}{k0:Nat}{bm:Nat->ahj}{v:ahj}(h:i<m):cH a k0 m (oA bm i v)=(cH a k0 m bm).put (some (k0+i)) v:=by
 unfold cH;rw[vS,if_pos h];rfl
theorem lR{u k0:Nat}{a:Act}(T:List (Option ahj))(b p n:Nat)(news:List ahj)(w2:ahh)(F:aA->Nat->ahh->Prop)(x:P.follows .mixedOrders=true)(D:fB ops=true)(s:ops.size=N+1)(t:gU ops N=true)(z:N<=m)(y:az w2 w)
 (d:∀i o L bm W,i<N->ops[i]? =some o->L i=false->o.after.all (fun e=> !Region.binds .any e||L e.on)=true->Na ops L->Cb T b p n news w2 F L bm W->∀c,c=cH a k0 m bm->∀K:Act->ahh->Prop,(∀v W',Cb T b p n news w2 F (fun k=>k==i||L k) (oA bm i v) W'->K (c.put (some (k0+i)) v) W')->wpOp P ops Q i K c W)
 (h:∀L bm W,(∀i,i<N->L i=true)->Cb T b p n news w2 F L bm W->∀c,c=cH a k0 m bm->wpOp P ops Q N (fun a w=>Q .normal a w) c W):(Code.region u ops true).wp P Q a w:=by
 refine mT x D s t (fun L c W=>∃bm,Cb T b p n news w2 F L bm W/\c=cH a k0 m bm) ⟨fun k=>a.tmps.getD (k0+k) undef,Cb.start y.drew, ?_⟩ ?_ ?_
 .unfold cH
  rw[jE]
 .rintro i o L c W A C q g l ⟨bm,r,j⟩
  exact d i o L bm W A C q g l r c j _ fun v W' B=>⟨_,B,by rw[tQ (by omega),j]⟩
 .rintro L c W f ⟨bm,r,j⟩
  exact h L bm W f r c j
end
theorem oz{P:aho}{ops:Array Oper}{o:Oper}{a:Act}{K:Act->ahh->Prop}{Q:Exit->Act->ahh->Prop}{E:Prop}{q bytes:Nat}(T:aR P t e q bytes)(H:o.guard=none)(s x:Operand)
 (ho:o.op=.call {callee:=.builtin .append,args:=#[s,x],argTypes:=#[t,t]}) {B:Nat} {A:aA} {n c:Nat} {vs:List ahj} (S:a.eval s=.slice A n c) (f:aw w B e q A n c vs)
 {g:Nat} (U:a.eval x=.slice (some ⟨g,0,none⟩) 1 1) {news:List ahj} (V:news.length=q) (hc:∀j u,news[j]? =some u->w.cell? ⟨g,j,none⟩=some u) (m:∀u∈news,u.oneCell'=true)
 (X:(n+1)*bytes<=140737488355328) (O:B<=w.heap.size)
 (h:∀G c' l,aw l B e q G (n+1) c' (vs++news)->ahi B w l->w.grownBy l (Value.slice A n c).ownBlock->(∀g,G=some ⟨g,0,none⟩->A=some ⟨g,0,none⟩∨w.heap.size<=g)->K (a.put o.dst (.slice G (n+1) c')) l):
 if Region.wanted o (yielded ops a.tmps)=true then Oper.wp P o a w K Q else E:=by
 have R:Region.wanted o (yielded ops a.tmps)=true:=by simp[Region.wanted,H]
 rw[if_pos R];obtain⟨i,z,hi,Z,J,y,I⟩:=T.info;have C:=T.yY;have qM:n+1<=140737488355328:=by
  have k:(n+1)*1<=(n+1)*bytes:=Nat.mul_le_mul_left _ C;omega
 obtain⟨v',l,Y,d,M,_,v⟩:=run_append_own_at (P:=P) w B t o.type e i z q bytes T.ht hi Z J y I T.pos (.slice A n c) n _ f ⟨g,0,none⟩ 1 1 news ak
  (fun j u hu=>WS) m qT X O
 unfold Oper.wp execOp;simp only[ho,resolve,invoke,builtin,Sem.run_bind,Sem.run_pure,Result.andThen_ok,List.map_toArray,List.map_cons,List.map_nil,S,U,Y];have D:=aw.dm f M O;rcases d.2 with⟨N,h0⟩|⟨g',cap,cur,N,_⟩
 .omega
 .subst N
  refine h _ _ l d D M fun g1 r=> ?_;injection r with r
  injection r with r
  subst r;rcases v with k|k
  .rcases aw.dK f with rfl|⟨g2,rfl⟩
   .simp[Value.ownBlock]at k
   .simp[Value.ownBlock]at k;subst k;exact .inl rfl
  .simp[Value.ownBlock]at k;exact .inr ak
structure ig where
 f:Nat
 t:Nat
 run:Nat
 wide:Int
 inner:Int
 iF:Bool
 gs:List aC
deriving Inhabited
def dD(ps:List ig)(i:Nat):ig:=ps.getD i default
theorem sG(a b:Int):ahl (ahl a+b)=ahl (a+b):=Fg
def jg(gs:List aC)(a:Int):Nat->Int
 |0=>0
 |j+1=>jg gs a j+if nth (fC gs j) 1<a then nth (fC gs j) 2 else 0
def jb(ps:List ig)(a:Nat)(b:Int):Nat->Int
 |0=>0
 |k+1=>jb ps a b k+jg (dD ps (a+k)).gs b (dD ps (a+k)).gs.length
def yT(ps:List ig)(a:Nat):Nat->Int
 |0=>0
 |k+1=>yT ps a k+(dD ps (a+k)).wide
def iW(ts:aC)(x:Nat):Nat->Option Nat
 |0=>none
 |k+1=>match iW ts x k with
  |some d=>some d
  |none=>if nth ts (x+k)=46 then some (x+k)else none
def lY(ts:aC)(ps:List ig)(a:Nat):Nat->Option Nat
 |0=>none
 |k+1=>match lY ts ps a k with
  |some d=>some d
  |none=>iW ts (dD ps (a+k)).f ((dD ps (a+k)).t-(dD ps (a+k)).f)
def vG(ps:List ig)(a k:Nat)(last:Bool):Int:=if last=true/\0<k then(dD ps (a+k-1)).inner-(dD ps (a+k-1)).wide else 0
def wS(ps:List ig)(a k:Nat)(last:Bool):Int:=ahl (yT ps a k+vG ps a k last)
def pS(ts:aC)(ps:List ig)(a k:Nat)(last:Bool):Int:=match lY ts ps a k with
 |some d=>ahl (jb ps a d k)
 |none=>wS ps a k last
def kE(ps:List ig)(a:Nat):Nat->Nat
 |0=>0
 |k+1=>if(dD ps a).iF=true then 0 else 1+kE ps (a+1) k
def jm(ts:aC)(ps:List ig)(n:Nat):Nat->Nat->List (Int×Int)
 |0,_=>[]
 |m+1,a=>if a+kE ps a (n-a)<n then(wS ps a (kE ps a (n-a)) false,pS ts ps a (kE ps a (n-a)) false)::jm ts ps n m (a+kE ps a (n-a)+1)
  else[(wS ps a (kE ps a (n-a)) true,pS ts ps a (kE ps a (n-a)) true)]
theorem xy{ps:List ig}:∀{k a d:Nat},(∀j,j<d->(dD ps (a+j)).iF=false)->d<=k->(d=k∨(dD ps (a+d)).iF=true)->kE ps a k=d
 |0,a,d,_,h2,_=>by simp[kE];omega
 |k+1,a,0,h1,h2,b=>by
  rcases b with b|b
  .omega
  .simp only[Nat.add_zero]at b;simp[kE,b]
 |k+1,a,d+1,h1,h2,b=>by
  have c:=h1 0 ak;simp only[Nat.add_zero]at c;unfold kE;rw[if_neg (by simp[c]),xy (k:=k) (a:=a+1) (d:=d) (fun j e=>by have:=h1 (j+1) (by omega);rwa [show a+(j+1)=a+1+j by omega]at this) ak (by
   rcases b with b|b
   .exact .inl ak
   .exact .inr (by rwa [show a+1+d=a+(d+1) by omega]))]
  omega
theorem IX{ps:List ig}(b:kE ps a (n-a)=d)(h:a+d<n):jm ts ps n (m+1) a=(wS ps a d false,pS ts ps a d false)::jm ts ps n m (a+d+1):=by
 rw[jm,b,if_pos h]
theorem Ja{ps:List ig}(b:kE ps a (n-a)=d)(h:¬a+d<n):jm ts ps n (m+1) a=[(wS ps a d true,pS ts ps a d true)]:=by
 rw[jm,b,if_neg h]
theorem wH{ts:aC}{ps:List ig}{n:Nat}:∀m a,(jm ts ps n m a).length<=m
 |0,a=>by simp[jm]
 |m+1,a=>by
  unfold jm;split
  .have:=wH (ts:=ts) (ps:=ps) (n:=n) m (a+kE ps a (n-a)+1);simp;omega
  .simp
structure Ei(ps:List ig):Prop where
 cl:∀i,i<ps.length->∀j,j<(dD ps i).gs.length->(dD ps i).f<=nth (fC (dD ps i).gs j) 1/\nth (fC (dD ps i).gs j) 1<(dD ps i).t
 up:∀i j,i<j->j<ps.length->(dD ps i).t<=(dD ps j).f
 ne:∀i,i<ps.length->(dD ps i).f<(dD ps i).t
theorem zp{gs:List aC}{x y:Int}:∀{k:Nat},(∀j,j<k->nth (fC gs j) 1<x)->(∀j,j<k->nth (fC gs j) 1<y)->jg gs x k=jg gs y k
 |0,_,_=>rfl
 |k+1,h1,h2=>by
  unfold jg;rw[zp (k:=k) (fun j a=>h1 j ak) (fun j a=>h2 j ak),if_pos (h1 k ak),if_pos (h2 k ak)]
theorem vK{gs:List aC}{x:Int}:∀{k:Nat},(∀j,j<k->x<=nth (fC gs j) 1)->jg gs x k=0
 |0,_=>rfl
 |k+1,h=>by
  unfold jg;rw[vK (k:=k) (fun j a=>h j ak),if_neg (by have:=h k (by omega);omega)];rfl
def sF(ps:List ig)(a:Nat):Nat->Int
 |0=>0
 |k+1=>sF ps a k+jg (dD ps (a+k)).gs (dD ps (a+k)).t (dD ps (a+k)).gs.length
theorem uf{ps:List ig}(h:Ei ps){a:Nat}{d:Int}:∀{k:Nat},a+k<=ps.length->(∀j,j<k->((dD ps (a+j)).t:Int)<=d)->jb ps a d k=sF ps a k
 |0,_,_=>rfl
 |k+1,h1,h2=>by
  unfold jb sF;rw[uf h (k:=k) ak (fun j b=>h2 j ak)]
  congr 1
  refine zp (fun j b=> ?_) (fun j b=>(h.cl _ ak j b).2);have:=(h.cl (a+k) ak j b).2;have:=h2 k ak;omega
theorem xg{ts:aC}{x:Nat}:∀{k d:Nat},iW ts x k=some d->x<=d/\d<x+k
 |0,d,h=>by simp[iW]at h
 |k+1,d,h=>by
  unfold iW at h;split at h
  .rename_i b a
   injection h with h
   subst h;have:=xg a;omega
  .split at h
   .injection h with h;omega
   .cases h
theorem Iz{ps:List ig}(h:Ei ps){a k d:Nat}(b:a+k<ps.length)(e:(dD ps (a+k)).f<=d):sF ps a k+jg (dD ps (a+k)).gs d (dD ps (a+k)).gs.length=jb ps a d (k+1):=by
 show _=jb ps a d k+_;rw[uf h ak (fun j c=> ?_)];have:=h.up (a+j) (a+k) ak b;omega
theorem DV{ps:List ig}(h:Ei ps){a k i d:Nat}(f:i<k)(b:a+k<ps.length)(e:d<(dD ps (a+i)).t):jb ps a d (k+1)=jb ps a d k:=by
 show jb ps a d k+_=_;rw[vK (fun j c=> ?_)]
 .omega
 .have:=(h.cl (a+k) b j c).1
  have:=h.up (a+i) (a+k) ak b;omega
theorem Gu{ts:aC}{ps:List ig}{a:Nat}:∀{k d:Nat},lY ts ps a k=some d->∃i,i<k/\(dD ps (a+i)).f<=d/\(d<(dD ps (a+i)).t)
 |0,d,h=>by simp[lY]at h
 |k+1,d,h=>by
  unfold lY at h;split at h
  .rename_i f c
   injection h with h
   subst h;obtain⟨i,e,b⟩:=Gu c;exact⟨i,ak,b⟩
  .have:=xg h
   exact⟨k,ak,ak,ak⟩
theorem J6{ps:List ig}(h:lY ts ps a k=some d):lY ts ps a (k+1)=some d:=by
 show(match lY ts ps a k with|some d=>some d|none=>_)=_;rw[h]
theorem Jc{ps:List ig}(h:lY ts ps a k=none):lY ts ps a (k+1)=iW ts (dD ps (a+k)).f ((dD ps (a+k)).t-(dD ps (a+k)).f):=by
 show(match lY ts ps a k with|some d=>some d|none=>_)=_;rw[h]
theorem qN(h:iW ts x k=some d):iW ts x (k+1)=some d:=by
 show(match iW ts x k with|some d=>some d|none=>_)=_;rw[h]
theorem qu(h:iW ts x k=none):iW ts x (k+1)=if nth ts (x+k)=46 then some (x+k)else none:=by
 show(match iW ts x k with|some d=>some d|none=>_)=_;rw[h]
theorem Gz{ts:aC}{x d:Nat}:∀{k m:Nat},k<=m->iW ts x k=some d->iW ts x m=some d
 |0,0,_,e=>e
 |k+1,0,h,_=>by omega
 |k,m+1,h,e=>by
  rcases Nat.eq_or_lt_of_le h with rfl|h
  .exact e
  .exact qN (Gz ak e)
def kp(l:List (Int×Int))(j:Nat):Int×Int:=l.getD j (0,0)
def XM(every:Int):Int:=if every<1 then 48 else every
def ly(l:List (Int×Int))(every x:Int):Int×Int:=match l.find? (fun t=>decide (x<t.1))with
 |some t=>t
 |none=>(ahl (ahl (ahl ((max x 0).tdiv (XM every))+1)*XM every),0)
def AV(n:Int):Int:=n/2
def qQ(t:Int×Int)(x wide a:Int):Int:=max (if t.2=1 then ahl (t.1-wide)else if t.2=2 then ahl (t.1-AV wide)else if t.2=3 then ahl (t.1-a)else t.1) x
def gI(l:List (Int×Int))(every:Int)(W Q:aC):Nat->aC×Int
 |0=>([],0)
 |i+1=>
  let x:=if i=0 then 0 else qQ (ly l every (gI l every W Q i).2) (gI l every W Q i).2 (nth W i) (if i<Q.length then nth Q i else nth W i)
  ((gI l every W Q i).1++[x],ahl (x+nth W i))
theorem tS(l:List (Int×Int))(every:Int)(W Q:aC):∀i,(gI l every W Q i).1.length=i
 |0=>rfl
 |i+1=>by simp[gI,tS l every W Q i]
def yj(gs:List aC)(a m:Nat)(b:Bool):Nat->aC×Int
 |0=>(List.replicate m 0,0)
 |k+1=>
  let i:=if b=true then m-1-k else k
  ((yj gs a m b k).1.set i (yj gs a m b k).2,ahl ((yj gs a m b k).2+nth (fC gs (a+i)) 2))
def yo(gs:List aC)(a:Nat)(o:aC):Nat->aC
 |0=>o
 |i+1=>if(a:Int)<=nth (fC gs (a+i)) 5/\nth (fC gs (a+i)) 5<(a:Int)+i then(yo gs a o i).set i (nth (yo gs a o i) (nth (fC gs (a+i)) 5-a).toNat)else yo gs a o i
theorem Hu(gs:List aC)(a m:Nat)(b:Bool):∀k,(yj gs a m b k).1.length=m
 |0=>by simp[yj]
 |k+1=>by simp[yj,Hu gs a m b k]
theorem GH(gs:List aC)(a:Nat)(o:aC):∀k,(yo gs a o k).length=o.length
 |0=>rfl
 |k+1=>by unfold yo;split<;>simp[GH gs a o k]
def Cy(gs:List aC)(a m:Nat)(b:Bool):aC:=yo gs a (yj gs a m b m).1 m
def zN(lv:Int):Bool:=decide (lv%2≠0)
def aaw(b:Int)(gs:List aC)(a m:Nat)(c:Bool)(i:Nat):fK:=⟨b,nth (fC gs (a+i)) 0,ahl (nth (Cy gs a m c) i+nth (fC gs (a+i)) 3),nth (fC gs (a+i)) 4⟩
def AU(gs:List aC)(a:Nat):Nat->Int
 |0=>0
 |k+1=>AU gs a k+nth (fC gs (a+k)) 2
def lL(f t:Int)(lv c:Int)(gs:List aC)(a b:Nat):aZ:=⟨f,t,lv,0,ahl (AU gs a (b-a)),(List.range (b-a)).map (aaw c gs a (b-a) (zN lv))⟩
def jK(ts:aC)(k:Nat):Nat->Bool
 |0=>false
 |m+1=>jK ts k m||nU (nth ts (k+m))
def jo(ts:aC)(from_:Int):Nat->Nat->Nat
 |0,z=>z
 |m+1,z=>if(mQ (ks ts) z:Int)<=from_ then z else if jK ts (mQ (ks ts) z) (z-mQ (ks ts) z)=true then z else jo ts from_ m (mQ (ks ts) z)
def ja(f t lv:Int):aZ:=⟨f,t,lv,0,0,[]⟩
def qz(q:ig)(a:List (Nat×Nat))(i:Nat):Int:=if i+1<a.length then nth (aL q.gs) (a.getD (i+1) (0,0)).1 else q.t
def pA(ts:aC)(q:ig)(lv d:Int)(c:List (Nat×Nat))(i:Nat):List aZ:=
 let a:=(c.getD i (0,0)).1
 let b:=(c.getD i (0,0)).2
 let e:Int:=jo ts (nth (aL q.gs) a) (qz q c i).toNat (qz q c i).toNat
 lL (nth (aL q.gs) a) e lv d q.gs a b::if e<qz q c i then[ja e (qz q c i) lv]else[]
def iH(ts:aC)(q:ig)(lv a:Int)(b:List (Nat×Nat)):Nat->List aZ
 |0=>[]
 |i+1=>iH ts q lv a b i++pA ts q lv a b i
def pD(q:ig)(lv:Int):List aZ:=if q.gs.length=0 then[ja q.f q.t lv]else if(q.f:Int)<nth (aL q.gs) 0 then[ja q.f (nth (aL q.gs) 0) lv]else[]
def iq(ts:aC)(q:ig)(lv a:Int):List aZ:=pD q lv++iH ts q lv a (dO (aL q.gs) q.gs.length) (dO (aL q.gs) q.gs.length).length
def gX(ts:aC)(rn:List (Int×Int))(W Bg:aC)(ps:List ig):Nat->List aZ×Nat
 |0=>([],0)
 |i+1=>
  let q:=dD ps i
  let r:=rn.getD q.run (0,0)
  let s:=gX ts rn W Bg ps i
  if q.iF=true then(s.1++[⟨q.f,q.t,r.1,0,if s.2+1<Bg.length then ahl (ahl (nth Bg (s.2+1)-nth Bg s.2)-nth W s.2)else 0,[]⟩],s.2+1)
  else(s.1++iq ts q r.1 r.2,s.2)
structure fp where
 q:ig
 G:aA
 gc:Nat
 en:Int
 P:aA
 pn:Nat
 pc:Nat
deriving Inhabited
def fp.F(x:fp):List ahj:=[ae aj (x.q.f:Int),ae aj (x.q.t:Int),ae aj (x.q.run:Int),.slice x.G x.q.gs.length x.gc,ae aj x.q.wide,ae aj x.q.inner,ae aj x.en,.bool x.q.iF,.slice x.P x.pn x.pc]
def kR(xs:List fp)(i:Nat):fp:=xs.getD i default
theorem fe{xs:List fp}(h:i<xs.length):kR xs i=xs[i]:=by simp[kR,h]
theorem ju{xs:List fp}(h:i<xs.length):kR xs i∈xs:=by rw[fe h];exact List.getElem_mem h
theorem ri(a:Addr):a.add 0=a:=H5
def vl(w:ahh)(B:Nat)(xs:List fp)(a k:Nat)(A:aA):Prop:=a+k<=xs.length/\∀j,j<k->∃b,A=some b/\b.block<B/\(∀q u,(kR xs (a+j)).F[q]? =some u->w.cell? ((b.add (j*9)).add q)=some u)/\Rx w B 10 (kR xs (a+j)).q.gs (kR xs (a+j)).G (kR xs (a+j)).q.gs.length
theorem vl.Z{c:ahh}{b:Nat}{xs:List fp}(h:vl w B xs a k A)(d:ahi B w c)(m:B<=b):vl c b xs a k A:=⟨h.1,fun j o=>by
 obtain⟨l,g,p,i,n⟩:=h.2 j o;exact⟨l,g,ak,fun q u f=>(d.cell (by rw[aO,aO];exact p)).trans (i q u f),n.Z d m⟩⟩
theorem vl.at{j:Nat}{xs:List fp}(h:vl w B xs a k A)(g:j<k):∃(b:Addr) (x:fp),kR xs (a+j)=x/\A=some b/\w.cell? (b.add (j*9))=some (ae aj (x.q.f:Int))/\w.cell? (bP (b.add (j*9)) 1)=some (ae aj (x.q.t:Int))/\w.cell? (bP (b.add (j*9)) 2)=some (ae aj (x.q.run:Int))/\w.cell? (bP (b.add (j*9)) 3)=some (.slice x.G x.q.gs.length x.gc)/\w.cell? (bP (b.add (j*9)) 4)=some (ae aj x.q.wide)/\w.cell? (bP (b.add (j*9)) 5)=some (ae aj x.q.inner)/\w.cell? (bP (b.add (j*9)) 6)=some (ae aj x.en)/\w.cell? (bP (b.add (j*9)) 7)=some (.bool x.q.iF)/\w.cell? (bP (b.add (j*9)) 8)=some (.slice x.P x.pn x.pc)/\Rx w B 10 x.q.gs x.G x.q.gs.length:=by
 obtain⟨b,f,l,c,i⟩:=h.2 j g;have d:=c 0 _ rfl;rw[ri]at d;exact⟨b,_,rfl,f,d,c 1 _ rfl,c 2 _ rfl,c 3 _ rfl,c 4 _ rfl,c 5 _ rfl,c 6 _ rfl,c 7 _ rfl,c 8 _ rfl,i⟩
def yi(P:aho)(t:ahm)(sz:Nat)(A:aA)(n c:Nat)(lo d:Option ahj)(i m:Nat)(b:aA)(a:Nat):Prop:=
 (∀w:ahh,(Instr.slice t (.slice A n c) lo d none).run P w=.ok (.slice b m a) w)/\m<=a/\a<=c/\(0<m->b=A.map (·.add (i*sz)))
section
variable{P:aho}{t e:ahm}{bytes sz:Nat}
theorem sM(T:aR P t e sz bytes)(A:aA)(n c i j:Nat)(g:i<=j)(k:j<=n)(m:n<=c)(l h:Int)(d:l=i)(a:h=j):
 ∃b f,yi P t sz A n c (some (ae aj l)) (some (ae aj h)) i (j-i) b f:=by
 subst d;subst a
 refine⟨if c=i then A else A.map (·.add (i*sz)),c-i,fun w=> ?_,ak,ak,fun h=>if_neg ak⟩;rw[run_slice_lh w t A n c (cQ T) .i64 .i64 i j ak ak ak,cO T];simp[Result.andThen,sliced]
theorem aa'(T:aR P t e sz bytes)(A:aA)(n c j:Nat)(f:j<=n)(g:n<=c)(h:Int)(a:h=j):
 ∃b d,yi P t sz A n c none (some (ae aj h)) 0 j b d:=by
 subst a;refine⟨if c=0 then A else A.map (·.add 0),c,fun w=> ?_,ak,ak,fun h=>by rw[if_neg ak,Nat.zero_mul]⟩;rw[run_slice_h w t A n c (cQ T) .i64 j ak ak,cO T];simp[Result.andThen,sliced]
theorem Vk(T:aR P t e sz bytes)(A:aA)(n c i:Nat)(g:i<=n)(f:n<=c)(l:Int)(b:l=i):
 ∃a d,yi P t sz A n c (some (ae aj l)) none i (n-i) a d:=by
 subst b;refine⟨if c=i then A else A.map (·.add (i*sz)),c-i,fun w=> ?_,ak,ak,fun h=>if_neg ak⟩;rw[run_slice_l w t A n c (cQ T) .i64 i ak ak,cO T];simp[Result.andThen,sliced]
theorem yi.pcs{b:aA}{l:Nat}{lo r:Option ahj}(h:yi P t 9 A n c lo r i m b l){w:ahh}{B a:Nat}{xs:List fp}(d:vl w B xs a n A)(v:i+m<=n):vl w B xs (a+i) m b:=⟨by have:=d.1;omega,fun j s=>by
 obtain⟨o,g,h2,k,p⟩:=d.2 (i+j) ak;rw[show a+i+j=a+(i+j) by omega];refine⟨o.add (i*9),by rw[h.2.2.2 (by omega),g];rfl,yD,fun q u f=> ?_,p⟩;have:=k q u f;rw[aY]at this;rw[aY,aY];rwa [show i*9+(j*9+q)=(i+j)*9+q by omega]⟩
theorem yi.run{a:aA}{b:Nat}{lo d:Option ahj}(h:yi P t sz A n c lo d i m a b):∀w:ahh,(Instr.slice t (.slice A n c) lo d none).run P w=.ok (.slice a m b) w:=h.1
end
theorem TPc:aR prog 34 48 9 104:=bu underlying34 (z:=.agg #[ae aj 0,ae aj 0,ae aj 0,.slice none 0 0,ae aj 0,ae aj 0,ae aj 0,.bool false,.slice none 0 0]) aF rfl ak ak
abbrev qs(xs:List fp):List ig:=xs.map (·.q)
theorem nO{xs:List fp}(h:i<xs.length):dD (qs xs) i=(kR xs i).q:=by simp[dD,kR,qs,h]
theorem N7:ahl 0=0:=Fg
def ZU(xs:List fp):Prop:=∀i,i<xs.length->(kR xs i).q.gs.length<=100000
theorem vi:aR prog 39 3 1 8:=bu underlying39 (z:=ae aj 0) aF rfl ak ak
structure InT(n:Nat)(xs:List fp):Prop where
 ne:∀i,i<xs.length->(kR xs i).q.f<(kR xs i).q.t/\(kR xs i).q.t<=n
def PWh(w:ahh)(b:Bool)(e:ahn)(a:ahh):Prop:=e=.returned (.bool b)/\az w a
theorem Lz(A:aA)(n c a b:Nat)(ts:aC)(w:ahh)(h:aM .i32 w A n c ts)(p:Laid w)(r:a<=b)(K:b<=n)(L:n<=100000):ahk prog 83 #[.slice A n c,ae aj (a:Int),ae aj (b:Int)] w (Bd w (gG ts a b)):=by
 have R:=sH h;have u:=sH p;have N:¬(a:Int)<0:=ak;have g2:=cv b a;have C:=cv n b;go_enter func83,ntmps83;go_wp2;go_loopg[2](b+1)(fun gg v wr=>∃(k:Nat),k<gg/\k<=b/\v=ae aj (k:Int)/\aq (gG ts a k=gG ts a b)/\aq (az w wr))
 .exact⟨b,ak,ak,rfl,⟨rfl⟩,cA⟩
 obtain⟨k,G,M,rfl,i,e⟩:=hrel;by_cases t:a<k;rotate_left
 .have B:=cv a k
  have E:aq (gG ts a b=k):=⟨by
   rw[<-i.o];rcases k with _|k
   .rfl
   .unfold gG;rw[if_neg ak]⟩
  go_wp2;go_ret;exact⟨by rw[E.o];simp,e.o⟩
 have B:=aU a k;obtain⟨j,rfl⟩:∃j,k=j+1:=⟨k-1,ak⟩;have wk:ahl (j:Int)=(j:Int):=IntWalk.wrap64_in _ ak;have k0:=ie j;have k1:=aU j n;have J:(a:Int)<(j:Int)+1:=ak;obtain⟨I,rfl,D⟩:=(R.o.ar e.o).ce (show j<n by omega);obtain⟨f,g⟩:=bounds_i32 (R.o.dt (show j<n by omega));have y:=sH (lP (nth ts j) f g wr (u.o.ar e.o));have q:aq ((a7 (nth ts j)).word=7->gG ts a j=gG ts a b):=⟨fun h=>by rw[<-i.o];show _=gG ts a (j+1);unfold gG;rw[if_pos ⟨ak,h⟩];cases j<;>rfl⟩;have o:aq (¬(a7 (nth ts j)).word=7->gG ts a b=j+1):=⟨fun h=>by rw[<-i.o];unfold gG;rw[if_neg (fun s=>h s.2)]⟩;generalize nth ts j=z at*;go_wp2_with fail;refine callK y.o e fun H F m=> ?_;generalize(a7 z).word=x at*;by_cases d:x=7
 .have l:=sH (q.o d)
  subst d;go_wp2;go_roundg(j+1)
  .exact⟨j,ak,ak,by first|rfl|go_num,l,m⟩
  omega
 .have l:=sH (o.o d)
  have d:(x==7)=false:=by simpa using d
  go_wp2;go_ret;exact⟨by rw[l.o];simp,m.o⟩
abbrev fp.row(x:fp):Array ahj:=#[ae aj (x.q.f:Int),ae aj (x.q.t:Int),ae aj (x.q.run:Int),.slice x.G x.q.gs.length x.gc,ae aj x.q.wide,ae aj x.q.inner,ae aj x.en,.bool x.q.iF,.slice x.P x.pn x.pc]
def Zr(ts:aC)(q:ig):Bool:=decide (gG ts q.f q.t=q.f)
theorem aaq(x:fp)(A:aA)(n c:Nat)(ts:aC)(w:ahh)(h:aM .i32 w A n c ts)(l:Laid w)(g:x.q.f<=x.q.t)(i:x.q.t<=n)(p:n<=100000):ahk prog 145 #[.slice A n c,.agg x.row] w (PWh w (Zr ts x.q)):=by
 have R:=sH h;have m:=sH l;have⟨d,aP⟩:=eX (w.alloc (.cells x.row 48));have b:aq (az w d):=⟨qS⟩;have c0:d.cell? ⟨w.heap.size,0,none⟩=some (ae aj (x.q.f:Int)):=aeg;have j:d.cell? ⟨w.heap.size,1,none⟩=some (ae aj (x.q.t:Int)):=aeg;have e:aq (Zr ts x.q=decide (gG ts x.q.f x.q.t=x.q.f)):=⟨rfl⟩;have⟨f,k⟩:=eY x.q.f;have⟨t,o⟩:=eY x.q.t;rw[k]at c0 g e;rw[o]at j g i e;have⟨L0,L1⟩:=lc2 c0 j;have CS:aq (∀a:aG d,ahk prog 83 #[.slice A n c,ae aj (f:Int),ae aj (t:Int)] a.1 (Bd a.1 (gG ts f t))):=⟨fun a=>Lz A n c f t ts a.1 ((R.o.ar b.o).ar a.2) ((m.o.ar b.o).ar a.2) g i p⟩;unfold Bd at CS;generalize gG ts f t=z at*;go_enter func145,ntmps145;go_upto_region 1 with fail;rw[<-aP];go_wp2;refine bQ aF aF ?_
 repeat(go_big_quiet_step (with_reducible exact dG (CS.o _)))
 refine wpQuiet_nil ?_;rintro _ ⟨q,rfl⟩;go_wp2;go_ret;exact⟨by rw[e.o];show Ending.returned (.bool ((z:Int)==(f:Int)))=_;rw[show((z:Int)==(f:Int))=decide (z=f) by rw[Bool.eq_iff_iff];simp<;>omega],b.o.trans (q.2.mono b.o.size)⟩
theorem Av{ts:aC}{f t:Nat}:∀{k:Nat},f+k<=t->iW ((ts.take t).drop f) 0 k=(iW ts f k).map (·-f)
 |0,_=>rfl
 |k+1,h=>by
  have ih:=Av (ts:=ts) (f:=f) (t:=t) (k:=k) ak;have e:nth ((ts.take t).drop f) (0+k)=nth ts (f+k):=by
   unfold nth;simp only[List.getD_eq_getElem?_getD,List.getElem?_drop,List.getElem?_take];rw[if_pos ak]
   congr 2
   rw[Nat.zero_add]
  cases a:iW ts f k with
  |some d=>
   rw[a]at ih;rw[qN ih,qN a];rfl
  |none=>
   rw[a]at ih;rw[qu ih,qu a,e];split
   .simp
   .rfl
theorem ade:aR prog 27 21 1 4:=bu underlying27 (z:=.int .i32 0) aF rfl ak ak
def PIx(w:ahh)(xs:aC)(n:Nat)(e:ahn)(a:ahh):Prop:=∃z:Int,e=.returned (ae aj z)/\(z= -1/\iW xs 0 n=none∨∃i:Nat,z=(i:Int)/\iW xs 0 n=some i/\i<n)/\a=w
theorem WG(A:aA)(n c:Nat)(xs:aC)(w:ahh)(h:aM .i32 w A n c xs)(p:n<=100000):ahk prog 222 #[.slice A n c,.int .i32 46] w (PIx w xs n):=by
 have R:=sH h;go_enter func222,ntmps222;go_wp2;go_loopg[8](n+1)(fun gg v wr=>∃i:Nat,n-i<gg/\i<=n/\v=ae aj (i:Int)/\aq (iW xs 0 i=none)/\wr=w)
 .exact⟨0,ak,ak,rfl,⟨rfl⟩,rfl⟩
 obtain⟨i,o,q,rfl,f,rfl⟩:=hrel;by_cases a:i<n;rotate_left
 .have g:=cv i n
  obtain rfl:i=n:=ak;go_wp2;go_ret;exact⟨_,rfl,.inl ⟨rfl,f.o⟩,rfl⟩
 have g:=aU i n;obtain⟨m,rfl,l⟩:=R.o.ce a;have b:=qu f.o;rw[Nat.zero_add]at b;generalize nth xs i=y at*;by_cases d:y=46
 .have e:aq (iW xs 0 n=some i):=⟨Gz (k:=i+1) ak (by rw[b,if_pos d])⟩
  have j:((46:Int)==y)=true:=by simp[d]
  go_wp2;go_ret;exact⟨_,rfl,.inr ⟨i,rfl,e.o,a⟩,rfl⟩
 .have e:aq (iW xs 0 (i+1)=none):=⟨by rw[b,if_neg d]⟩
  have j:((46:Int)==y)=false:=pI;go_wp2;go_roundg(n-i)
  .exact⟨i+1,ak,ak,nS,e,rfl⟩
  omega
def Tm(ts:aC)(ps:List ig)(a k:Nat)(z:Int)(b:Bool):Prop:=match lY ts ps a k with
 |some d=>b=true/\z=ahl (jb ps a d k)
 |none=>b=false/\z=ahl (sF ps a k)
theorem kZ{ps:List ig}{z:Int}{b:Bool}(h:lY ts ps a k=some d):Tm ts ps a k z b↔b=true/\z=ahl (jb ps a d k):=by unfold Tm;rw[h]
theorem lu{ps:List ig}{z:Int}{b:Bool}(h:lY ts ps a k=none):Tm ts ps a k z b↔b=false/\z=ahl (sF ps a k):=by unfold Tm;rw[h]
def af7(w:ahh)(ts:aC)(ps:List ig)(a k:Nat)(e:ahn)(c:ahh):Prop:=∃(z:Int) (b:Bool),e=.returned (.tuple #[ae aj (ahl (yT ps a k)),ae aj z,.bool b])/\Tm ts ps a k z b/\az w c
theorem Qm{W:ahh}{x:fp}(h:W=w.alloc (.cells x.row t)):∀q u,x.F[q]? =some u->W.cell? ⟨w.heap.size,q,none⟩=some u:=fun q u a=>by
 rw[h,cell_of_row _ _ _ _ _ _ (heap_alloc_new w _),<-a];simp[fp.row,fp.F]
theorem xH{W:ahh}{j a b g c e k i f d:Int}(h:W=w.alloc (.cells #[ae aj j,ae aj a,ae aj b,ae aj g,ae aj c,ae aj e,ae aj k,ae aj i,ae aj f,ae aj d] t)):W.cell? ⟨w.heap.size,1,none⟩=some (ae aj a)/\W.cell? ⟨w.heap.size,2,none⟩=some (ae aj b):=by
 rw[h,cell_of_row _ _ _ _ _ _ (heap_alloc_new w _),cell_of_row _ _ _ _ _ _ (heap_alloc_new w _)];exact⟨rfl,rfl⟩
theorem ten{g:aC}(h:g.length=10):∃k d j e a c l i f b:Int,g=[k,d,j,e,a,c,l,i,f,b]:=by
 match g,h with
 |[k,d,j,e,a,c,l,i,f,b],_=>exact⟨k,d,j,e,a,c,l,i,f,b,rfl⟩
theorem Rx.Ok{j:Nat}(h:Rx w B 10 gs A n)(t:j<n):∃(a:Addr) (i p l g c d m k f o:Int),A=some a/\fC gs j=[i,p,l,g,c,d,m,k,f,o]/\w.cell? (a.add (j*10))=some (ae aj i)/\
 w.cell? (bP (a.add (j*10)) 1)=some (ae aj p)/\w.cell? (bP (a.add (j*10)) 2)=some (ae aj l)/\w.cell? (bP (a.add (j*10)) 3)=some (ae aj g)/\w.cell? (bP (a.add (j*10)) 4)=some (ae aj c)/\w.cell? (bP (a.add (j*10)) 5)=some (ae aj d)/\
 w.cell? (bP (a.add (j*10)) 6)=some (ae aj m)/\w.cell? (bP (a.add (j*10)) 7)=some (ae aj k)/\w.cell? (bP (a.add (j*10)) 8)=some (ae aj f)/\w.cell? (bP (a.add (j*10)) 9)=some (ae aj o):=by
 obtain⟨a,e,s,_,b⟩:=h.at_ t;obtain⟨i,p,l,g,c,d,m,k,f,o,q⟩:=ten s;rw[q]at b;have r:=b 0 ak;rw[ri]at r;exact⟨a,i,p,l,g,c,d,m,k,f,o,e,q,r,b 1 ak,b 2 ak,b 3 ak,b 4 ak,b 5 ak,b 6 ak,b 7 ak,b 8 ak,b 9 ak⟩
theorem Xd(s:G:=by
 exact⟨j+1,_,ak,ak,rfl,nS,HY2,B2⟩):G:=s
theorem yR(xs:List fp)(a k d:Nat)(A:aA)(T:aA)(n c:Nat)(ts:aC)(w:ahh)(h:vl w w.heap.size xs a k A)(M:aM .i32 w T n c ts)(hk:k<=1000)(hn:n<=100000)(hg:ZU xs)(hi:InT n xs)(hs:Ei (qs xs)):ahk prog 148 #[.slice T n c,.slice A k d] w (af7 w ts (qs xs) a k):=by
 have R:=sH h;have TX:=sH M;have HG:=sH hg;have IT:=sH hi;have SD:=sH hs;clear h M hg hi hs;go_enter func148,ntmps148;go_wp2;go_loopg[7,8,9,18](k+1)(fun gg v7 U v9 v18 wr=>∃(i:Nat) (X Z:Int) (b:Bool),k-i<gg/\i<=k/\v7=ae aj X/\U=ae aj Z/\v9=.bool b/\v18=ae aj (i:Int)/\aq (X=ahl (yT (qs xs) a i))/\aq (Tm ts (qs xs) a i Z b)/\aq (az w wr))
 .exact⟨0,0,0,false,ak,ak,rfl,rfl,rfl,rfl,⟨N7.symm⟩,⟨(lu rfl).2 ⟨rfl,N7.symm⟩⟩,cA⟩
 obtain⟨i,X,Z,b,XH,hi,rfl,rfl,rfl,rfl,HX,L,O⟩:=hrel;by_cases aK:i<k;rotate_left
 .have i4:=cv i k
  obtain rfl:i=k:=ak;go_wp2;go_ret3;exact⟨Z,b,by rw[<-HX.o]<;>rfl,L.o,O.o⟩
 have i4:=aU i k;have Cp:=O.o.size;obtain⟨ad,x,hx,rfl,c0,c1,aW,c3,c4,c5,c6,c7,c8,rx⟩:=(R.o.Z O.o O.o.size).at aK;have hkx:=R.o.1;have V:aq (dD (qs xs) (a+i)=x.q):=⟨H9⟩;have P:=HG.o (a+i) ak;obtain⟨E,y⟩:=IT.o.ne (a+i) ak;rw[hx]at P E y;have⟨r,aP⟩:=eX (wr.alloc (.cells x.row 48));have PB:=Qm aP;have B1:aq (az w r):=⟨by rw[aP];exact O.o.alloc Cp _⟩;have RX:=sH (rx.Z (show az wr r by rw[aP];exact av _ _) (show wr.heap.size<=r.heap.size by rw[aP];simp));have p0:=PB 0 _ rfl;have p1:=PB 1 _ rfl;have p3:=PB 3 _ rfl;have p4:=PB 4 _ rfl;have K:aq (ahl (X+x.q.wide)=ahl (yT (qs xs) a (i+1))):=⟨by rw[HX.o,sG];show _=ahl (yT _ _ i+_);rw[V.o]⟩;go_upto_region 6 with fail;rw[<-aP];have gH:r.heap.size=wr.heap.size+1:=oO;clear aP PB c0 c1 aW c3 c4 c5 c6 c7 c8 rx hx;cases b;rotate_left
 .have p:aq (Tm ts (qs xs) a (i+1) Z true):=⟨by
   cases l:lY ts (qs xs) a i with
   |none=>have:=(lu l).1 L.o;simp at this
   |some q=>
    obtain⟨_,h2⟩:=(kZ l).1 L.o;obtain⟨i0,h3,_,h5⟩:=Gu l;rw[kZ (J6 l)];exact⟨rfl,by rw[h2,DV SD.o h3 (by simp;omega) h5]⟩⟩
  go_wp2;go_roundg(k-i)
  .exact⟨i+1,_,Z,true,ak,ak,rfl,rfl,rfl,nS,K,p,B1⟩
  omega
 have DN:aq (lY ts (qs xs) a i=none/\Z=ahl (sF (qs xs) a i)):=⟨by
  cases l:lY ts (qs xs) a i with
  |none=>exact⟨rfl,((lu l).1 L.o).2⟩
  |some q=>have:=((kZ l).1 L.o).1;simp at this⟩
 clear L;have H:=Jc (ts:=ts) (ps:=qs xs) (a:=a) (k:=i) DN.o.1;rw[V.o]at H;have W:aq (sF (qs xs) a (i+1)=sF (qs xs) a i+jg x.q.gs x.q.t x.q.gs.length):=⟨by show sF _ _ i+_=_;rw[V.o]⟩;have AM:aq (∀q,x.q.f<=q->sF (qs xs) a i+jg x.q.gs q x.q.gs.length=jb (qs xs) a q (i+1)):=⟨fun q hq=>by have:=Iz (d:=q) SD.o (a:=a) (k:=i) cw (by rw[V.o];exact hq);rw[V.o]at this;exact this⟩;have⟨f,hf⟩:=eY x.q.f;have⟨t,M⟩:=eY x.q.t;have⟨S,hS⟩:=eY (sF (qs xs) a i);have⟨m,hm⟩:=eY x.q.gs.length;rw[hf]at p0 E H AM;rw[M]at p1 E y H W;rw[hS]at W AM DN;rw[hm]at P p3 RX W AM;have⟨G,hG⟩:=eY x.G;rw[hG]at p3 RX;obtain⟨A2,c2,CR⟩:=jj ade T n c f t ak y TX.o.le (f:Int) (t:Int) rfl rfl;have s:=CR.run;have X2:=sH (CR.fT (TX.o.ar B1.o));have DC:=sH (Av (ts:=ts) (f:=f) (t:=t) (k:=t-f) ak);have H:=sH H;clear hf M hS hm CR hG;go_upto_region 9 with fail;clear p4;go_wp2_with fail;refine(WG A2 (t-f) c2 _ r X2.o ak).mono ?_;rintro e w2 ⟨z,rfl,C,e2⟩;subst w2;rcases C with⟨rfl,C⟩|⟨q,rfl,C,hqn⟩
 .have v:aq (∀Y,Y=ahl (S+jg x.q.gs (t:Int) m)->Tm ts (qs xs) a (i+1) Y false):=⟨fun Y hY=>by
   have h1:iW ts f (t-f)=none:=by
    have:=DC.o;rw[C]at this;cases l:iW ts f (t-f)with
    |none=>rfl
    |some d=>rw[l]at this;simp at this
   rw[lu (by rw[H.o,h1])];exact⟨rfl,by rw[hY,W.o]⟩⟩
  clear C s p0;go_wp2;clear p1 p3;go_loopg[8,15,45](m+1)(fun gg U _ F wx=>∃(j:Nat) (Y:Int),m-j<gg/\j<=m/\U=ae aj Y/\F=ae aj (j:Int)/\aq (Y=ahl (S+jg x.q.gs (t:Int) j))/\aq (az r wx))
  .exact⟨0,Z,ak,ak,rfl,rfl,⟨by rw[DN.o.2];simp[jg]⟩,cA⟩
  obtain⟨j,Y,hgj,hj,rfl,rfl,D,o⟩:=hrel;by_cases J:j<m;rotate_left
  .have i5:=cv j m
   obtain rfl:j=m:=ak;have p:=sH (v.o Y D.o);have B3:=B1.t o.o;go_wp2;go_roundg(k-i)
   .exact⟨i+1,_,Y,false,ak,ak,rfl,rfl,rfl,nS,K,p,B3⟩
   omega
  have i5:=aU j m;obtain⟨eJ,x0,B,I,x3,x4,x5,x6,x7,x8,x9,rfl,Sw,e0,e1,e2,e3,e4,e5,e6,e7,e8,e9⟩:=(RX.o.Z o.o o.o.size).Ok J;have Q:aq (jg x.q.gs (t:Int) (j+1)=jg x.q.gs (t:Int) j+if B<(t:Int)then I else 0):=⟨ael⟩;have⟨W2,g⟩:=eX ((wr:ahh).alloc (.cells #[ae aj x0,ae aj B,ae aj I,ae aj x3,ae aj x4,ae aj x5,ae aj x6,ae aj x7,ae aj x8,ae aj x9] 120));obtain⟨g1,g2⟩:=xH g;have B2:aq (az r W2):=⟨by rw[g];exact o.o.alloc o.o.size _⟩;go_upto_region 15 with fail;rw[<-g];clear g e0 e1 e2 e3 e4 e5 e6 e7 e8 e9 Sw;by_cases N:B<(t:Int)
  .have HY2:aq (ahl (Y+I)=ahl (S+jg x.q.gs (t:Int) (j+1))):=⟨by rw[Q.o,if_pos N,D.o,sG];congr 1;omega⟩
   go_wp2;go_roundg(m-j)
   .exact Xd
   omega
  .have HY2:aq (Y=ahl (S+jg x.q.gs (t:Int) (j+1))):=⟨by rw[Q.o,if_neg N,D.o];congr 1;omega⟩
   go_wp2;go_roundg(m-j)
   .exact Xd
   omega
 .have⟨u,hu⟩:=eY (f+q)
  have hui:(f:Int)+(q:Int)=(u:Int):=ak;have v:aq (∀Y,Y=ahl (S+jg x.q.gs (u:Int) m)->Tm ts (qs xs) a (i+1) Y true):=⟨fun Y hY=>by
   have h1:iW ts f (t-f)=some u:=by
    have:=DC.o;rw[C]at this;cases l:iW ts f (t-f)with
    |none=>rw[l]at this;simp at this
    |some d=>rw[l]at this;simp at this;have:=xg l;congr 1;omega
   rw[kZ (by rw[H.o,h1])];exact⟨rfl,by rw[hY,AM.o u (by omega)]⟩⟩
  clear C s;go_wp2;clear p0 p1 p3;go_loopg[8,15,45](m+1)(fun gg U _ F wx=>∃(j:Nat) (Y:Int),m-j<gg/\j<=m/\U=ae aj Y/\F=ae aj (j:Int)/\aq (Y=ahl (S+jg x.q.gs (u:Int) j))/\aq (az r wx))
  .exact⟨0,Z,ak,ak,rfl,rfl,⟨by rw[DN.o.2];simp[jg]⟩,cA⟩
  obtain⟨j,Y,hgj,hj,rfl,rfl,D,o⟩:=hrel;by_cases J:j<m;rotate_left
  .have i5:=cv j m
   obtain rfl:j=m:=ak;have p:=sH (v.o Y D.o);have B3:=B1.t o.o;go_wp2;go_roundg(k-i)
   .exact⟨i+1,_,Y,true,ak,ak,rfl,rfl,rfl,nS,K,p,B3⟩
   omega
  have i5:=aU j m;obtain⟨eJ,x0,B,I,x3,x4,x5,x6,x7,x8,x9,rfl,Sw,e0,e1,e2,e3,e4,e5,e6,e7,e8,e9⟩:=(RX.o.Z o.o o.o.size).Ok J;have Q:aq (jg x.q.gs (u:Int) (j+1)=jg x.q.gs (u:Int) j+if B<(u:Int)then I else 0):=⟨ael⟩;have⟨W2,g⟩:=eX ((wr:ahh).alloc (.cells #[ae aj x0,ae aj B,ae aj I,ae aj x3,ae aj x4,ae aj x5,ae aj x6,ae aj x7,ae aj x8,ae aj x9] 120));obtain⟨g1,g2⟩:=xH g;have B2:aq (az r W2):=⟨by rw[g];exact o.o.alloc o.o.size _⟩;go_upto_region 15 with fail;rw[<-g];clear g e0 e1 e2 e3 e4 e5 e6 e7 e8 e9 Sw;by_cases N:B<(u:Int)
  .have HY2:aq (ahl (Y+I)=ahl (S+jg x.q.gs (u:Int) (j+1))):=⟨by rw[Q.o,if_pos N,D.o,sG];congr 1;omega⟩
   go_wp2;go_roundg(m-j)
   .exact Xd
   omega
  .have HY2:aq (Y=ahl (S+jg x.q.gs (u:Int) (j+1))):=⟨by rw[Q.o,if_neg N,D.o];congr 1;omega⟩
   go_wp2;go_roundg(m-j)
   .exact Xd
   omega
abbrev Rw:=aA×Nat×Nat
def Wz(r:Rw):ahj:=.slice r.1 r.2.1 r.2.2
structure vE(w:ahh)(B:Nat)(eO eI:ahm)(P:Int->Prop)(M:Nat)(rs:List Rw)(A:aA)(k c:Nat):Prop where
 len:rs.length=k
 own:aw w B eO 1 A k c (rs.map Wz)
 each:∀r∈rs,0<r.2.1/\r.2.1<=M/\Ow w B eI .i64 P r.1 r.2.1 r.2.2
 sep:rs.Pairwise fun r s=>bM r.1 s.1
section
variable{w w':ahh}{B B' k c M M':Nat}{eO eI:ahm}{P:Int -> Prop}{rs:List Rw}{r:Rw}{A A':aA}
theorem vE.nil(w:ahh)(B:Nat)(eO eI:ahm)(P:Int->Prop)(M:Nat):vE w B eO eI P M [] none 0 0:=⟨rfl,aw.nil _ _ _ _,fun r h=>fA,.nil⟩
theorem vE.ar(h:vE w B eO eI P M rs A k c)(b:az w w'):vE w' B eO eI P M rs A k c:=⟨h.len,aw.ar h.own b,fun r a=>⟨(h.each r a).1,(h.each r a).2.1,(h.each r a).2.2.ar b⟩,h.sep⟩
theorem vE.more(h:vE w B eO eI P M rs A k c)(b:M<=M'):vE w B eO eI P M' rs A k c:=⟨h.len,h.own,fun r a=>⟨(h.each r a).1,by have:=(h.each r a).2.1;omega,(h.each r a).2.2⟩,h.sep⟩
theorem vE.push(h:vE w B eO eI P M rs A k c)(e:0<r.2.1)(l:r.2.1<=M)(f:Ow w B eI .i64 P r.1 r.2.1 r.2.2)(j:∀s∈rs,bM s.1 r.1){c':Nat}(d:aw w' B eO 1 A' (k+1) c' (rs.map Wz++[Wz r]))(g:w.grownBy w' (Value.slice A k c).ownBlock)(b:eI≠eO):vE w' B eO eI P M (rs++[r]) A' (k+1) c':=by
 refine⟨rX,by rw[List.map_append];exact d,fun s a=> ?_, ?_⟩
 .have key:∀s:Rw,Ow w B eI .i64 P s.1 s.2.1 s.2.2->Ow w' B eI .i64 P s.1 s.2.1 s.2.2:=fun s a=>by
   obtain⟨xs,k1,k2⟩:=a;exact⟨xs,Own.kept k1 g (bS k1 h.own b) (aw.dK h.own),k2⟩
  rcases List.mem_append.1 a with a|a
  .exact⟨(h.each s a).1,(h.each s a).2.1,key s (h.each s a).2.2⟩
  .obtain rfl:=List.mem_singleton.1 a
   exact⟨e,l,key s f⟩
 .rw[List.pairwise_append]
  exact⟨h.sep,List.pairwise_singleton _ _,fun s a t i=>by obtain rfl:=List.mem_singleton.1 i;exact j s a⟩
theorem vE.grow{c':Nat}{f:aA}(h:vE w B eO eI P M (rs++[r]) (some ⟨g,0,none⟩) (k+1) c)(C:Ow w' B eI .i64 P f d i)(E:0<d)(v:d<=M)(p:w.grownBy w' (Wz r).ownBlock)
 (m:∀b,f=some ⟨b,0,none⟩->r.1=some ⟨b,0,none⟩∨w.heap.size<=b) (j:eI≠eO):vE (w'.setCell ⟨g,k,none⟩ (.slice f d i)) B eO eI P M (rs++[(f,d,i)]) (some ⟨g,0,none⟩) (k+1) c:=by
 have n:rs.length=k:=by have:=h.len;simpa using this
 obtain⟨z,_,q⟩:=List.pairwise_append.1 h.sep;obtain⟨H,G,xs,o,F⟩:=h.each r aQ;have D:bM r.1 (some ⟨g,0,none⟩):=bS o h.own j;have u:aw w' B eO 1 (some ⟨g,0,none⟩) (k+1) c ((rs++[r]).map Wz):=aw.kept h.own p D.symm (aw.dK o);have a:aw (w'.setCell ⟨g,k,none⟩ (.slice f d i)) B eO 1 (some ⟨g,0,none⟩) (k+1) c (((rs++[r]).map Wz).set k (.slice f d i)):=(World.ownsRow.stored (cap:=c) u k (.slice f d i)).1;have hold:∀s∈rs,Ow w' B eI .i64 P s.1 s.2.1 s.2.2:=fun s a=>by
  obtain⟨l,k1,k2⟩:=(h.each s (by simp[a])).2.2;exact⟨l,Own.kept k1 p (q s a r aQ) (aw.dK o),k2⟩
 have e:∀s:Rw,Ow w' B eI .i64 P s.1 s.2.1 s.2.2->Ow (w'.setCell ⟨g,k,none⟩ (.slice f d i)) B eI .i64 P s.1 s.2.1 s.2.2:=fun s a=>by
  obtain⟨l,k1,k2⟩:=a;exact⟨l,Own.mu k1 (bS k1 u j) _,k2⟩
 refine⟨by simp[n], ?_,fun s a=> ?_, ?_⟩
 .rw[List.map_append,List.set_append_right _ _ (by simp[n])]at a
  rw[List.map_append];simpa[n,Wz]using a
 .rcases List.mem_append.1 a with a|a
  .have:=h.each s (by simp[a])
   exact⟨this.1,this.2.1,e s (hold s a)⟩
  .obtain rfl:=List.mem_singleton.1 a
   exact⟨E,v,e _ C⟩
 .rw[List.pairwise_append]
  refine⟨z,List.pairwise_singleton _ _,fun s a t y=> ?_⟩;obtain rfl:=List.mem_singleton.1 y;refine(bM.grow (q s a r aQ).symm (fun b x=> ?_) m).symm;obtain⟨l,k1,k2⟩:=(h.each s (by simp[a])).2.2;rw[x]at k1;exact(aw.xD k1).2
def Df(w:ahh)(B:Nat)(P:Int->Prop)(M:Nat)(A:aA)(k:Nat):Prop:=∀j,j<k->∃(a:Addr) (b:aA) (n c:Nat),A=some a/\a.block<B/\w.cell? (a.add j)=some (.slice b n c)/\0<n/\n<=M/\Iw w B .i64 P b n
theorem vE.rd(h:vE w B eO eI P M rs A k c):Df w w.heap.size P M A k:=fun j d=>by
 have e:=h.len;obtain⟨g,rfl,_,b⟩:=aw.form h.own ak;have a:rs[j]∈rs:=List.getElem_mem ak;refine⟨_,rs[j].1,rs[j].2.1,rs[j].2.2,rfl,b, ?_,(h.each _ a).1,(h.each _ a).2.1,(h.each _ a).2.2.iw⟩;rw[bj,aw.cellAt h.own j ak,List.getElem?_map,List.getElem?_eq_getElem ak];rfl
theorem Df.Z(h:Df w B P M A k)(a:ahi B w w')(b:B<=B'):Df w' B' P M A k:=fun j f=>by
 obtain⟨o,d,n,c,g,h2,i,e,m,l⟩:=h j f;exact⟨o,d,n,c,g,ak,(a.cell yD).trans i,e,m,l.Z a b⟩
end
structure Gn{α:Type}(w:ahh)(B:Nat)(eO:ahm)(sz:Nat)(F:α->List ahj)(I:ahh->α->Prop)(rs:List α)(A:aA)(k c:Nat):Prop where
 len:rs.length=k
 own:aw w B eO sz A k c (rs.flatMap F)
 each:∀r∈rs,I w r
structure Kpt{α:Type}(eO:ahm)(I:ahh->α->Prop):Prop where
 b:∀w w' r,I w r->az w w'->I w' r
 g:∀w w' r B sz A n c vs,I w r->aw w B eO sz A n c vs->w.grownBy w' (Value.slice A n c).ownBlock->I w' r
section
variable{α:Type}{w w':ahh}{B k c sz:Nat}{eO:ahm}{F:α -> List ahj}{I:ahh -> α -> Prop}{rs:List α}{r:α}{A A':aA}
theorem Gn.nil(w:ahh)(B:Nat)(eO:ahm)(sz:Nat)(F:α->List ahj)(I:ahh->α->Prop):Gn w B eO sz F I [] none 0 0:=⟨rfl,aw.nil _ _ _ _,fun r h=>fA⟩
theorem Gn.ar(h:Gn w B eO sz F I rs A k c)(d:Kpt eO I)(a:az w w'):Gn w' B eO sz F I rs A k c:=⟨h.len,aw.ar h.own a,fun r b=>d.b _ _ _ (h.each r b) a⟩
theorem Gn.push(h:Gn w B eO sz F I rs A k c)(f:Kpt eO I)(d:I w r){c':Nat}(e:aw w' B eO sz A' (k+1) c' (rs.flatMap F++F r))(b:w.grownBy w' (Value.slice A k c).ownBlock):Gn w' B eO sz F I (rs++[r]) A' (k+1) c':=by
 refine⟨rX,by rw[List.flatMap_append];simpa using e,fun s a=> ?_⟩;have key:∀s,I w s->I w' s:=fun s a=>f.g _ _ _ _ _ _ _ _ _ a h.own b
 rcases List.mem_append.1 a with a|a
 .exact key s (h.each s a)
 .obtain rfl:=List.mem_singleton.1 a
  exact key s d
theorem Gn.at(h:Gn w B eO sz F I rs A k c)(b:∀r,(F r).length=sz){j:Nat}(i:j<k):∃(g:Nat) (r:α),A=some ⟨g,0,none⟩/\g<w.heap.size/\I w r/\∀q u,(F r)[q]? =some u->w.cell? ⟨g,j*sz+q,none⟩=some u:=by
 have l:=h.len;obtain⟨g,rfl,_,a⟩:=aw.form h.own ak;refine⟨g,rs[j],rfl,a,h.each _ (List.getElem_mem ak),fun q u d=> ?_⟩;have e:q<sz:=by rw[<-b rs[j]];exact(List.getElem?_eq_some_iff.1 d).1
 have f:j*sz+q<k*sz:=by
  have:=Nat.mul_le_mul_right sz (show j+1<=k by omega);rw[Nat.add_mul]at this;omega
 rw[aw.cellAt h.own _ f,iG F b rs j q _ (List.getElem?_eq_getElem ak) e,d]
end
abbrev En:=Int×Int×Bool
def KG(e:En):List ahj:=[ae aj e.1,ae aj e.2.1,.bool e.2.2]
def yH(w:ahh)(B:Nat)(A:aA)(n:Nat)(es:List En):Prop:=es.length=n/\(0<n->∃a,A=some a/\a.block<B/\(∃cur b,w.heap[a.block]? =some (.cells cur 130 b))/\∀j e,es[j]? =some e->w.cell? (a.add (j*3))=some (ae aj e.1)/\w.cell? (bP (a.add (j*3)) 1)=some (ae aj e.2.1)/\w.cell? (bP (a.add (j*3)) 2)=some (.bool e.2.2))
section
variable{w w':ahh}{B B' n:Nat}{A:aA}{es:List En}
theorem yH.Z(h:yH w B A n es)(b:ahi B w w')(p:B<=B'):yH w' B' A n es:=⟨h.1,fun k=>by
 obtain⟨g,e,a,⟨cur,m,i⟩,l⟩:=h.2 k;refine⟨g,e,ak,⟨cur,m,(b.block _ a).trans i⟩,fun j e c=> ?_⟩;obtain⟨d,o,f⟩:=l j e c;exact⟨(b.cell (by rw[aO];exact a)).trans d,(b.cell (by simp only[aO];exact a)).trans o,(b.cell (by simp only[aO];exact a)).trans f⟩⟩
theorem yH.at(h:yH w B A n es){j:Nat}(c:j<n):∃(a:Addr) (e:En),A=some a/\es[j]? =some e/\w.cell? (a.add (j*3))=some (ae aj e.1)/\w.cell? (bP (a.add (j*3)) 1)=some (ae aj e.2.1)/\w.cell? (bP (a.add (j*3)) 2)=some (.bool e.2.2):=by
 obtain⟨a,e,_,_,d⟩:=h.2 ak;have b:j<es.length:=by rw[h.1];exact c
 have:=d j _ (List.getElem?_eq_getElem b);exact⟨a,_,e,List.getElem?_eq_getElem b,this⟩
theorem St(e:En):(KG e).length=3:=rfl
theorem aw.typ{vs:List ahj}(h:aw w B e d (some ⟨g,0,none⟩) n c vs):∃cur f,w.heap[g]? =some (.cells cur e f):=by
 rcases h.2 with⟨a,_⟩|⟨i,cap,cur,a,_,b,_⟩
 .cases a
 .injection a with h1
  injection h1 with h1
  injection h1 with h1
  subst h1;exact⟨_,_,b⟩
theorem UK(h:aw w B 130 3 A n c (es.flatMap KG))(d:es.length=n):yH w w.heap.size A n es:=⟨d,fun i=>by
 obtain⟨g,rfl,_,a⟩:=aw.form h i;refine⟨_,rfl,a,aw.typ h,fun j e b=> ?_⟩;have k:j<n:=by rw[<-d];exact(List.getElem?_eq_some_iff.1 b).1
 have key:∀q,q<3->w.cell? ⟨g,j*3+q,none⟩=(KG e)[q]? :=fun q f=>by
  rw[aw.cellAt h _ ak,iG KG St es j q e b f]
 refine⟨?_, ?_, ?_⟩
 .have:=key 0 ak;rwa [bj]
 .have:=key 1 ak;rwa [bj]
 .have:=key 2 ak;rwa [bj]⟩
theorem yH.cut{P:aho}{bytes:Nat}(T:aR P t e 3 bytes){c j:Nat}(o:j<=n)(p:n<=c)(h:Int)(i:h=j):
 ∃f d,(∀w:ahh,(Instr.slice t (.slice A n c) none (some (ae aj h)) none).run P w=.ok (.slice f j d) w)/\j<=d/\d<=c/\∀w B es,yH w B A n es->yH w B f j (es.take j):=by
 subst i;refine⟨if c=0 then A else A.map (·.add 0),c,fun w=> ?_,ak,ak,fun w B es g=>⟨by rw[List.length_take,g.1];omega,fun r=> ?_⟩⟩
 .rw[run_slice_h w t A n c (cQ T) .i64 j ak ak,cO T]
  simp[Result.andThen,sliced]
 .obtain⟨l,rfl,k,m,a⟩:=g.2 ak
  rw[if_neg ak];refine⟨l,H5,k,m,fun q e b=>a q e ?_⟩;rw[List.getElem?_take]at b;split at b
  .exact b
  .cases b
end
def ib(es:List En)(v:Int):Prop:=(∃l o t,es=(l,o,false)::t)/\0<=v/\v<=((es.countP (·.2.2):Nat):Int)
theorem yP(b:Int):ib [(b,0,false)] 0:=⟨⟨_,_,_,rfl⟩,ak,aQ⟩
theorem ib.len{es:List En}(h:ib es v):0<es.length:=by
 obtain⟨⟨l,o,t,rfl⟩,_⟩:=h;simp
theorem ib.adn{es:List En}(h:ib es v):v<=es.length:=by
 have:= @List.countP_le_length _ (fun e:En=>e.2.2) es;have:=h.2.2;omega
theorem ib.add{es:List En}(h:ib es v)(x:En):ib (es++[x]) v:=by
 obtain⟨⟨l,o,t,rfl⟩,a,b⟩:=h;refine⟨⟨l,o,t++[x],rfl⟩,a, ?_⟩;rw[List.countP_append];omega
theorem ib.agu{es:List En}(h:ib es v)(l o:Int):ib (es++[(l,o,true)]) (v+1):=by
 obtain⟨⟨l,o,t,rfl⟩,b,a⟩:=h;refine⟨⟨l,o,t++[_],rfl⟩,ak, ?_⟩;rw[List.countP_append];simp at a⊢;omega
theorem vN{es:List En}{l o:Int}{t:List En}(e:es=(l,o,false)::t){m:Nat}(b:0<m):∃a,es.take m=(l,o,false)::a:=by
 subst e;obtain⟨m,rfl⟩:∃k,m=k+1:=⟨m-1,ak⟩;exact⟨_,List.take_succ_cons ..⟩
theorem mO{es:List En}{e:En}(h:es[m]? =some e):(es.take (m+1)).countP (·.2.2)=(es.take m).countP (·.2.2)+(if e.2.2 then 1 else 0):=by
 obtain⟨a,rfl⟩:=List.getElem?_eq_some_iff.1 h;rw[List.take_succ_eq_append_getElem a,List.countP_append,List.countP_singleton]
theorem ib.pop{es:List En}(h:ib es v){m:Nat}(k:es.length=m+1)(g:0<m){e:En}(c:es[m]? =some e)(b:e.2.2=false):ib (es.take m) v:=by
 have a:=mO c;rw[List.take_of_length_le ak,b]at a;obtain⟨⟨l,o,t,f⟩,i,p⟩:=h;obtain⟨d,j⟩:=vN f g;refine⟨⟨l,o,d,j⟩,i, ?_⟩;simp at a;omega
def ux(es:List En)(m:Nat):Prop:=m<=es.length/\(es.take m).countP (·.2.2)=es.countP (·.2.2)
theorem ux.start(es:List En):ux es es.length:=⟨Nat.le_refl _,by rw[List.take_of_length_le bW]⟩
theorem ux.pos{es:List En}(h:ux es m)(a:ib es v)(d:0<v):0<m:=by
 rcases m with _|m
 .have b:=h.2
  have c:=a.2.2;simp at b;omega
 .omega
theorem ux.step{es:List En}{e:En}(h:ux es (m+1))(c:es[m]? =some e)(b:e.2.2=false):ux es m:=by
 have a:=mO c;rw[b]at a;exact⟨Il,by rw[<-h.2,a];simp⟩
theorem ux.stop{es:List En}{e:En}(h:ux es (m+1))(g:ib es v)(p:0<v)(a:es[m]? =some e)(b:e.2.2=true):ib (es.take m) (v-1):=by
 have d:=mO a;rw[b,h.2]at d;obtain⟨⟨l,o,t,c⟩,q,k⟩:=g;have i:0<m:=by
  rcases m with _|m
  .subst c
   simp at a;subst a;cases b
  .omega
 obtain⟨f,j⟩:=vN c i;refine⟨⟨l,o,f,j⟩,ak, ?_⟩;simp at d;omega
def VO(n:Nat)(g:aC):Prop:=∃a b:Nat,g=[(a:Int),(b:Int)]/\a<b/\b<=n
theorem KZ{ks:aC}{p:Nat×Nat}(h:p∈uH ks):p.1<p.2/\p.2<=ks.length:=by
 unfold uH uj at h;obtain⟨i,c,rfl⟩:=List.mem_map.1 h;have a:=List.mem_range.1 c;refine⟨qk ak, ?_⟩;have b:cZ (de ks) (i+1)∈de ks:=sY ak;have:=(pG (ks:=ks) (m:=ks.length+1) b).1;show cZ (de ks) (i+1)<=_;omega
theorem UT{ps:List (Nat×Nat)}(h:aw w B 64 2 A n c (dx ps))(b:ps.length=n)(e:∀p∈ps,p.1<p.2/\p.2<=N):Oq w B 64 2 (VO N) A n c:=by
 refine⟨ps.map fun p=>[(p.1:Int),(p.2:Int)],by simp[b],fun g a=> ?_, ?_⟩
 .obtain⟨p,d,rfl⟩:=List.mem_map.1 a
  exact⟨rfl,p.1,p.2,rfl,e p d⟩
 .rw[List.flatMap_map]
  exact h
def adE(w:ahh)(N:Nat)(e:ahn)(a:ahh):Prop:=∃(A:aA) (m c:Nat),m<=N/\e=.returned (.slice A m c)/\Oq a w.heap.size 64 2 (VO N) A m c/\az w a
theorem Pt(A:aA)(n c:Nat)(ts:aC)(w:ahh)(h:aM .i32 w A n c ts)(j:n<=100000):ahk prog 43 #[.slice A n c] w (adE w n):=by
 refine(wj A n c ts w h ak).mono ?_;rintro e i ⟨a,d,rfl,o,b⟩;have k:(ks ts).length=n:=Rc;refine⟨a,_,d, ?_,rfl,UT o rfl fun p f=> ?_,b⟩
 .unfold uH
  rw[iJ];have:=lB (ks ts) ((ks ts).length+1);have g:fG (ks ts) ((ks ts).length+1)=de (ks ts):=rfl;rw[g]at this;omega
 .have:=KZ f
  omega
theorem Oq.cut(h:Oq w B 64 2 (VO N) A n c){j:Nat}(k:j<n):∃g a b:Nat,A=some ⟨g,0,none⟩/\a<b/\b<=N/\w.cell? ⟨g,j*2,none⟩=some (ae aj (a:Int))/\w.cell? ⟨g,j*2+1,none⟩=some (ae aj (b:Int)):=by
 obtain⟨i,e,_,l⟩:=h.rq ak ak;obtain⟨g,rfl,_⟩:=h.form ak;obtain rfl:(⟨g,0,none⟩:Addr)=i:=Br;obtain⟨r,_,⟨a,b,rfl,f,m⟩,d⟩:=l j k;refine⟨g,a,b,rfl,f,m, ?_, ?_⟩
 .have:=d 0 _ rfl
  rwa [aY,bj]at this
 .have:=d 1 _ rfl
  rwa [aY,bj]at this
theorem CZ(A:aA)(n c:Nat)(ts:aC)(w:ahh)(h:aM .i32 w A n c ts)(b:n<=100000):ahk prog 22 #[.slice A n c] w (Nw w 3 .i64 aH n):=by
 refine(vB A n c ts w h ak).mono ?_;rintro e d a;exact ac9 a fun _ _=>trivial
theorem Xi(s:G:=by
 go_wp2
 go_ret;exact⟨_,rfl,BG.o⟩):G:=s
theorem Hm(A:aA)(n c:Nat)(a b:Int)(w:ahh)(h:Iw w w.heap.size .i64 aH A n)(hc:n<=c)(hn:n<=100000):ahk prog 127 #[.slice A n c,ae aj a,ae aj b] w (PI w):=by
 obtain⟨xs,r,_⟩:=h;have HX:=sH r;go_enter func127,ntmps127;go_upto_region 1 with fail;go_cut[1](fun v z=>v=ae aj (max a 0)/\w=z)
 case first=>
  by_cases ha:a<0
  .have E:aq (max a 0=0):=⟨ak⟩
   go_wp2;go_meet;exact⟨pJ,rfl⟩
  .have E:aq (max a 0=a):=⟨ak⟩
   go_wp2;go_meet;exact⟨pJ,rfl⟩
 case rest=>
 obtain⟨rfl,rfl⟩:=hcut;have⟨x,r⟩:=eY (max a 0);rw[r];have Z:0<=x:=ak;go_upto_region 2 with fail;go_cut[2](fun v z=>v=ae aj (min b n)/\w=z)
 case first=>
  by_cases ha:(n:Int)<b
  .have E:aq (min b (n:Int)=n):=⟨ak⟩
   go_wp2;go_meet;exact⟨pJ,rfl⟩
  .have E:aq (min b (n:Int)=b):=⟨ak⟩
   go_wp2;go_meet;exact⟨pJ,rfl⟩
 case rest=>
 obtain⟨rfl,rfl⟩:=hcut;have⟨y,X⟩:=eY (min b (n:Int));rw[X];have hy0:y<=n:=ak;by_cases hle:y<=x
 .go_wp2
  go_ret;exact⟨_,rfl,Below.refl _ _⟩
 obtain⟨i,rfl⟩:∃i:Nat,x=i:=⟨x.toNat,ak⟩;obtain⟨j,rfl⟩:∃j:Nat,y=j:=⟨y.toNat,ak⟩;obtain⟨A2,c2,u⟩:=jj lO A n c i j ak ak hc i j rfl rfl;have⟨N,hN⟩:=eY (j-i);have⟨l,F⟩:=eY ((xs.take j).drop i);have f:=u.at_ HX.o;rw[hN]at u f;rw[F]at f;have rc:=u.run;have PM:=sH (nZ A2 N c2 l w f ak);have T:=sH f;have G:=sH f.len;have Fj:N<=n:=ak;go_wp2_with fail;refine PM.o.mono ?_;rintro e w2 ⟨A3,c3,rfl,W,t⟩;have J:=sH W;have H:=sH t;go_wp2;go_loopg[9](N+1)(fun gg V wr=>∃(k:Nat),N-k<gg/\k<=N/\V=ae aj (k:Int)/\aq (az w2 wr))
 .exact⟨0,ak,ak,rfl,cA⟩
 obtain⟨k,hg,hk,rfl,B⟩:=hrel;have BG:=H.t B.o;by_cases d:k<N;rotate_left
 .have i4:=cv k N
  go_wp2;go_ret;exact⟨_,rfl,BG.o⟩
 have i4:=aU k N;obtain⟨ad,rfl,M⟩:=(T.o.Z BG.o).fP d;obtain⟨g,rfl,Y,dw⟩:=aw.form J.o ak;have o:=bT (J.o.ar B.o) d;have C:=sH (xJ (cs:=l) (i:=k) (by rw[G.o];exact d));have MQ:aq (∀q:Nat,q<l.length->q<N):=⟨fun q h=>by have:=G.o;omega⟩;generalize nth l k=x at*;generalize nth (mX l) k=m at*;by_cases P:(x==1)=true
 .exact Xi
 by_cases O:(x==2)=true
 .exact Xi
 by_cases L:(x==3)=true
 .exact Xi
 by_cases Q:(x==11)=true
 .exact Xi
 have P:(x==1)=false:=by simpa using P
 have O:(x==2)=false:=by simpa using O
 have L:(x==3)=false:=by simpa using L
 have Q:(x==11)=false:=by simpa using Q
 go_wp2_with fail;refine callK (nX x wr) B fun w3 S D=> ?_;have BH:=H.t D.o;have M:=au M S;have o:=au o S;have I:=sH (nX x);generalize R:fY x=ob at*;cases ob
 .clear R C
  go_wp2_with fail;refine callK (I.o _) D fun w4 K s=> ?_;go_wp2;go_roundg(N-k)
  .exact⟨k+1,ak,ak,aT,s⟩
  omega
 .clear R
  by_cases p:(m== -1)=true
  .clear C
   go_wp2;go_ret;exact⟨_,rfl,BH.o⟩
  have p:(m== -1)=false:=by simpa using p
  obtain⟨q,Ry,Ce,rfl⟩:∃q:Nat,k<q/\q<N/\m=q:=by
   rcases C.o rfl with⟨h,_⟩|⟨q,h1,h2,U,_⟩
   .subst h;simp at p
   .exact⟨q,h1,MQ.o q h2,U⟩
  go_wp2_with fail;refine callK (I.o _) D fun w4 K s=> ?_;have o:=au o K;go_wp2;go_roundg(N-k)
  .exact⟨q+1,ak,ak,aT,s⟩
  omega
def PLv(w:ahh)(e:ahn)(a:ahh):Prop:=∃(z:Int) (b:Bool),e=.returned (.tuple #[ae aj z,.bool b])/\az w a
theorem U9(A:aA)(n c:Nat)(w:ahh)(h:Iw w w.heap.size .i64 aH A n)(d:n<=c)(a:n<=100000):ahk prog 56 #[.slice A n c] w (PLv w):=by
 have H:=sH h;go_enter func56,ntmps56;go_wp2_with fail;refine(Hm A n c 0 n w H.o d a).mono ?_;rintro e f ⟨z,rfl,b⟩;have B:=sH b;go_wp2_with fail
 all_goals
  go_ret2;exact⟨_,_,rfl,B.o⟩
def isJ(v:ahj):Bool:=match v with| ae aj _=>true|_=>false
theorem Um{cs:Array ahj}(h:cs.toList.all isJ=true){j:Nat}(hj:j<cs.toList.length):∃z:Int,cs[j]? =some (ae aj z):=by
 have a:=(List.all_eq_true.1 h) (cs[j]' vw) aQ;rw[Array.getElem?_eq_getElem vw];generalize cs[j]' vw=v at*;unfold isJ at a;split at a
 .exact⟨_,rfl⟩
 .cases a
def Lt(w:ahh)(g n:Nat):Prop:=∃cs t a,w.heap[g]? =some (.cells cs t a)/\cs.toList.all isJ=true/\n=cs.toList.length
theorem Lt.ar{b:ahh}(h:Lt w g n)(c:az w b):Lt b g n:=by
 obtain⟨cs,t,e,a,d⟩:=h;exact⟨cs,t,e,(c.block _ (Array.getElem?_eq_some_iff.1 a).1).trans a,d⟩
theorem Lt.new(w:ahh)(cs:Array ahj)(t:ahm)(n N:Nat)(b:w.heap.size=N)(h:cs.toList.all isJ=true)(a:n=cs.toList.length):Lt (w.alloc (.cells cs t)) N n:=by
 subst b;exact⟨cs,t,_,heap_alloc_new _ _,h,a⟩
def PB0(w:ahh)(e:ahn)(a:ahh):Prop:=(∃b:Bool,e=.returned (.bool b))/\a=w
theorem ou(z:Int)(g n k:Nat)(w:ahh)(h:Lt w g n)(s:n<=100):ahk prog 104 #[ae aj z,.slice (some ⟨g,0,none⟩) n k] w (PB0 w):=by
 have H:=sH h;go_enter func104,ntmps104;go_wp2;go_loopg[5](n+1)(fun gg a wr=>∃(i:Nat),n-i<gg/\i<=n/\a=ae aj (i:Int)/\wr=w)
 .exact⟨0,ak,ak,rfl,rfl⟩
 obtain⟨i,o,q,rfl,rfl⟩:=hrel;by_cases d:i<n;rotate_left
 .have f:=cv i n
  go_wp2;go_ret;exact⟨⟨_,rfl⟩,rfl⟩
 have f:=aU i n;obtain⟨u,l⟩:∃u:Int,wr.cell? ⟨g,i,none⟩=some (ae aj u):=by
  obtain⟨cs,t,p,e,c,m⟩:=H.o;obtain⟨u,b⟩:=Um c (j:=i) ak;exact⟨u,by rw[cell_of_row _ _ _ _ _ _ e];exact b⟩
 cases r:(u==z)
 .go_wp2
  go_roundg(n-i)
  .exact⟨i+1,ak,ak,aT,rfl⟩
  omega
 .go_wp2
  go_ret;exact⟨⟨_,rfl⟩,rfl⟩
theorem xo(z:Int)(w:ahh):ahk prog 103 #[ae aj z] w (PB0 w):=by
 go_enter func103,ntmps103;cases a:(z==8)
 .go_wp2
  go_ret;exact⟨⟨_,rfl⟩,rfl⟩
 .go_wp2
  go_ret;exact⟨⟨_,rfl⟩,rfl⟩
theorem QR(s:G:=by
 skip
 all_goals go_wp2_with fail
 repeat' (go_at_call 104;refine(ou _ _ _ _ _ Xs cr).mono ?_;rintro e w9 ⟨⟨b,rfl⟩,rfl⟩;cases b<;>go_wp2_with fail)
 all_goals
  go_meet;exact⟨⟨_,rfl⟩,⟨by repeat(first|exact BE.o|exact Below.alloc BE.o BE.o.size _|refine Below.alloc ?_ Bn _)⟩⟩):G:=s
theorem Re(s:G:=by
 go_wp2
 go_ret;exact⟨_,rfl,BE.o⟩):G:=s
theorem I7(a b:Int)(w:ahh):ahk prog 108 #[ae aj a,ae aj b] w (PB w):=by
 have BE:aq (az w w):=cA;go_enter func108,ntmps108;go_upto_region 1 with fail;go_cut[13](fun v d=>(∃b:Bool,v=.bool b)/\aq (az w d))
 case first=>exact QR
 case rest=>
 obtain⟨⟨b,rfl⟩,c⟩:=hcut;clear BE;have BE:=c;clear c
 rename ahh=>d
 cases b;rotate_left
 .exact Re
 go_upto_region 3 with fail;go_cut[21](fun v d=>(∃b:Bool,v=.bool b)/\aq (az w d))
 case first=>exact QR
 case rest=>
 obtain⟨⟨b,rfl⟩,c⟩:=hcut;clear BE;have BE:=c;clear c
 rename ahh=>d
 cases b;rotate_left
 .exact Re
 go_upto_region 5 with fail;go_cut[28](fun v d=>(∃b:Bool,v=.bool b)/\aq (az w d))
 case first=>exact QR
 case rest=>
 obtain⟨⟨b,rfl⟩,c⟩:=hcut;clear BE;have BE:=c;clear c
 rename ahh=>d
 cases b;rotate_left
 .exact Re
 go_upto_region 7 with fail;go_cut[35](fun v d=>(∃b:Bool,v=.bool b)/\aq (az w d))
 case first=>
  cases j:(a==30)
  all_goals go_wp2_with fail
  repeat' (go_at_call 104;refine(ou _ _ _ _ _ Xs cr).mono ?_;rintro e w9 ⟨⟨b,rfl⟩,rfl⟩;cases b<;>go_wp2_with fail)
  all_goals
   go_meet;exact⟨⟨_,rfl⟩,⟨by repeat(first|exact BE.o|exact Below.alloc BE.o BE.o.size _|refine Below.alloc ?_ Bn _)⟩⟩
 case rest=>
 obtain⟨⟨b,rfl⟩,c⟩:=hcut;clear BE;have BE:=c;clear c
 rename ahh=>d
 cases b;rotate_left
 .exact Re
 go_upto_region 9 with fail;go_cut[52](fun v d=>(∃b:Bool,v=.bool b)/\aq (az w d))
 case first=>exact QR
 case rest=>
 obtain⟨⟨b,rfl⟩,c⟩:=hcut;clear BE;have BE:=c;clear c
 rename ahh=>d
 cases b;rotate_left
 .exact Re
 have L0:=Lt.new d #[ae aj 30,ae aj 31,ae aj 32,ae aj 33,ae aj 34] 3 5 _ rfl rfl rfl;have f:=BE.o.alloc BE.o.size (.cells #[ae aj 30,ae aj 31,ae aj 32,ae aj 33,ae aj 34] 3);go_upto_region 12 with fail;generalize d.alloc (.cells #[ae aj 30,ae aj 31,ae aj 32,ae aj 33,ae aj 34] 3)=g at*;have LT:=sH L0;have h:=sH f;clear BE L0 f;have BE:aq (az g g):=cA;cases i:(a==23)<;>cases k:(b==22)
 all_goals go_wp2_with fail
 repeat' (go_at_call 104;refine(ou _ _ _ _ _ Xs cr).mono ?_;rintro e w9 ⟨⟨b,rfl⟩,rfl⟩;cases b<;>go_wp2_with fail)
 all_goals
  go_ret;exact⟨_,rfl,h.o⟩
theorem IU(a b:Int)(w:ahh):ahk prog 109 #[ae aj a,ae aj b] w (PB w):=by
 have L0:=Lt.new w #[ae aj 0,ae aj 28] 3 2 _ rfl rfl rfl;have h:=av w (.cells #[ae aj 0,ae aj 28] 3);go_enter func109,ntmps109;go_upto_region 2 with fail;generalize w.alloc (.cells #[ae aj 0,ae aj 28] 3)=g at*;have LT:=sH L0;have d:=sH h;clear L0 h;have BE:aq (az g g):=cA;go_upto_region 2 with fail;go_cut[18](fun v f=>(∃b:Bool,v=.bool b)/\aq (az g f))
 case first=>
  cases j:(a==20)
  all_goals go_wp2_with fail
  repeat' (go_at_call 104;refine(ou _ _ _ _ _ Xs cr).mono ?_;rintro e w9 ⟨⟨b,rfl⟩,rfl⟩;cases b<;>go_wp2_with fail)
  all_goals
   go_meet;exact⟨⟨_,rfl⟩,⟨by repeat(first|exact BE.o|exact Below.alloc BE.o BE.o.size _|refine Below.alloc ?_ Bn _)⟩⟩
 case rest=>
 obtain⟨⟨b,rfl⟩,c⟩:=hcut;clear BE;have BE:=c;clear c
 rename ahh=>f
 cases b;rotate_left
 .go_wp2
  go_ret;exact⟨_,rfl,d.o.trans (BE.o.mono d.o.size)⟩
 go_upto_region 4 with fail;go_cut[25](fun v f=>(∃b:Bool,v=.bool b)/\aq (az g f))
 case first=>exact QR
 case rest=>
 obtain⟨⟨b,rfl⟩,c⟩:=hcut;clear BE;have BE:=c;clear c
 rename ahh=>f
 cases b;rotate_left
 .go_wp2
  go_ret;exact⟨_,rfl,d.o.trans (BE.o.mono d.o.size)⟩
 cases i:(a==14)<;>cases k:(a==26)
 all_goals go_wp2_with fail
 repeat' (go_at_call 104;refine(ou _ _ _ _ _ Xs cr).mono ?_;rintro e w9 ⟨⟨b,rfl⟩,rfl⟩;cases b<;>go_wp2_with fail)
 all_goals
  go_ret;exact⟨_,rfl,by repeat(first|exact d.o.trans (BE.o.mono d.o.size)|refine Below.alloc ?_ (by have:=BE.o.size;have:=d.o.size;simp<;>omega) _)⟩
end Go.Proofs.YtklncadpkniojaaGreatDoor
