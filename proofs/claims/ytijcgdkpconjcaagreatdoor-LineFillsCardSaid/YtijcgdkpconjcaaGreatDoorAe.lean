/- Part of LineFills. -/
import Derived.Test.YtijcgdkpconjcaaGreatDoorAc
import Derived.Deep.Upon
import Derived.Maps.AppendAt
import Derived.Lib.SmallJoins
import Derived.Deep.SlicePairs
namespace Go.Proofs.YtijcgdkpconjcaaGreatDoor
open Go.ChangeShapes Go.WideShapes Go.ChangeAt Go.RowKit
open Go renaming World->EE,Value->EN,TypeId->IQ,Program->I3
open Go.RowKit renaming Below->EI
open Option renaming some->OH,none->OJ
open Go.Value renaming slice->Pl
open Go.Value renaming int->ae
open Go.IntKind renaming i64->aj
set_option linter.all false
set_option maxRecDepth 100000
set_option maxHeartbeats 16000000
variable{ops:Array Oper}{rest:List Oper}{A:aB}{bytes c d g i j m n:Nat}{a:Act}{hi lo:Option EN}{P:I3}{t:IQ}{o:Oper}{Q:Exit->Act->EE->Prop}
section
variable{P:I3}{w:EE}{o:Oper}{a:Act}{Q:Exit -> Act -> EE -> Prop}{t e:IQ}{bytes:Nat}
def Ep{K:Act->EE->Prop}(T:aS P t e 1 bytes)(s x:Operand)
 (V:o.op=.call {callee:=.builtin .append,args:=#[s,x],argTypes:=#[t,t]}) {B:Nat} {k:IntKind} {A:aB} {n c:Nat} {xs:aC} (O:a.eval s=Pl A n c) (b:Own w B e k A n c xs)
 {C:aB} {m d:Nat} {v:aC} (U:a.eval x=Pl C m d) (l:bO w w.heap.size k C m v)
 (Z:(n+m)*bytes<=140737488355328) (R:B<=w.heap.size)
 (h:∀f c' q,Own q B e k f (n+m) c' (xs++v)->EI B w q->K (a.put o.dst (Pl f (n+m) c')) q):o.wp P a w K Q:=by
 obtain⟨i,z,hi,W,M,G,J⟩:=T.info;have E:=T.Aw;have tS:n+m<=140737488355328:=by
  have S:(n+m)*1<=(n+m)*bytes:=Nat.mul_le_mul_left _ E;omega
 cases C with
 |none=>
  obtain rfl:m=0:=by
   rcases Nat.eq_zero_or_pos m with r|r
   .exact r
   .obtain⟨_,I,_⟩:=l.2 r;cases I
  obtain rfl:v=[]:=List.eq_nil_of_length_eq_zero l.1;have p:=run_append_nothing (P:=P) w t t o.type e i T.ht hi A n c (aA.le b) (Pl OJ 0 d) (Src.ofNil (size:=i.size) (w:=w) T.ht d);unfold Oper.wp execOp;simp only[V,resolve,invoke,builtin,Sem.run_bind,Sem.run_pure,Result.andThen_ok,List.map_toArray,List.map_cons,List.map_nil,O,U,p];have:=h A c w (by simpa using b) (Below.refl _ _);simp only[Nat.add_zero]at this;exact this
 |some ad=>
  refine wp_append_own w s x t V B e i z 1 bytes T.ht hi W M G J T.pos (Pl A n c) n _ O b ad m d (v.map (Value.int k)) U (by simp[l.1]) (λj u D=> ?_) (λu D=> ?_) ri Z R ?_
  .have H:j<v.length:=by
    have:=(List.getElem?_eq_some_iff.1 D).1;simpa using this
   obtain⟨F,I,_,Y⟩:=l.2 (by rw[<-l.1];omega);obtain rfl:ad=F:=Option.some.inj I;rw[Y j (by rw[<-l.1];exact H),<-D,List.getElem?_map,List.getElem?_eq_getElem H,bZ H];rfl
  .obtain⟨y,_,rfl⟩:=List.mem_map.1 D
   rfl
  .intro X q N S _
   obtain⟨f,c',rfl⟩:∃f c',X=Pl f (n+m) c':=by
    rcases N.2 with⟨L,r⟩|⟨g,cap,cur,L,_⟩
    .exact⟨OJ,0,by rw[L,r]⟩
    .exact⟨_,_,L⟩
   refine h f c' q ?_ (aA.dF b S R);unfold Own aA;rw[List.map_append];exact N
def ig{ops:Array Oper}{rest:List Oper}(T:aS P t e 1 bytes)(i:o.guard=OJ)(s x:Operand)
 (z:o.op=.call {callee:=.builtin .append,args:=#[s,x],argTypes:=#[t,t]}) {B:Nat} {k:IntKind} {A:aB} {n c:Nat} {xs:aC} (p:a.eval s=Pl A n c) (b:Own w B e k A n c xs)
 {C:aB} {m d:Nat} {j:aC} (y:a.eval x=Pl C m d) (r:bO w w.heap.size k C m j)
 (v:(n+m)*bytes<=140737488355328) (q:B<=w.heap.size)
 (h:∀g c' f,Own f B e k g (n+m) c' (xs++j)->EI B w f->wpList P ops Q rest (a.put o.dst (Pl g (n+m) c')) f):wpList P ops Q (o::rest) a w:=
 wpList_plain i λ_ hK=>Ep T s x z p b y r v q λg c' f l u=>hK _ _ (h g c' f l u)
def uV(T:aS P t e 1 bytes)(f:o.guard=OJ)(s x:Operand)
 (y:o.op=.call {callee:=.builtin .append,args:=#[s,x],argTypes:=#[t,t]}) {B:Nat} {k:IntKind} {A:aB} {n c:Nat} {xs:aC} (l:a.eval s=Pl A n c) (b:Own w B e k A n c xs)
 {C:aB} {m d:Nat} {i:aC} (v:a.eval x=Pl C m d) (q:bO w w.heap.size k C m i)
 (N:Nat) (u:n+m=N) (r:N*bytes<=140737488355328) (p:B<=w.heap.size)
 (h:∀j c' g,Own g B e k j N c' (xs++i)->EI B w g->wpList P ops Q rest (a.put o.dst (Pl j N c')) g):wpList P ops Q (o::rest) a w:=by
 subst u;exact ig T f s x y l b v q r p h
end
def oy(P:I3)(t:IQ)(A:aB)(n c:Nat)(lo hi:Option EN)(i j m:Nat)(b:aB)(a:Nat):Prop:=
 (∀w:EE,(Instr.slice t (Pl A n c) lo hi OJ).run P w=.ok (Pl b m a) w)/\m<=a/\a<=c/\∀w B k xs,bO w B k A n xs->bO w B k b m ((xs.take j).drop i)
section
variable{P:I3}{t e:IQ}{bytes:Nat}
def de{size:Nat}(T:aS P t e size bytes)(w:EE):(sizeOf (P.elem t)).run P w=.ok size w:=by
 obtain⟨i,z,b,f,a,g,d⟩:=T.info;have c:P.elem t=e:=by simp[Program.elem,T.ht]
 rw[c];simp[sizeOf,typeInfo,b,a]
def cY{size:Nat}(T:aS P t e size bytes):P.underlying t=OH (.slice (P.elem t)):=by
 have a:P.elem t=e:=by simp[Program.elem,T.ht]
 rw[a];exact T.ht
def jC(T:aS P t e 1 bytes)(A:aB)(n c i j:Nat)(a:i<=j)(b:j<=n)(g:n<=c)(l h:Int)(m:l=i)(o:h=j):
 ∃d f,oy P t A n c (OH (ae aj l)) (OH (ae aj h)) i j (j-i) d f:=by
 subst m;subst o
 refine⟨if c=i then A else A.map (·.add i),c-i,λw=> ?_,aq,aq,λw B k xs p=>p.cut a b g⟩;rw[run_slice_lh w t A n c (cY T) .i64 .i64 i j aq aq aq,de T];simp[Result.andThen,sliced]
def oy.run{b:aB}{a:Nat}(h:oy P t A n c lo hi i j m b a):∀w:EE,(Instr.slice t (Pl A n c) lo hi OJ).run P w=.ok (Pl b m a) w:=h.1
def oy.at_{a:aB}{b:Nat}(h:oy P t A n c lo hi i j m a b){w:EE}{B:Nat}{k:IntKind}{xs:aC}(d:bO w B k A n xs):bO w B k a m ((xs.take j).drop i):=h.2.2.2 w B k xs d
def oy.gI{b:aB}(h:oy P t A n c lo hi i j m b d){w:EE}{k:IntKind}{xs:aC}(a:aJ k w A n c xs):aJ k w b m d ((xs.take j).drop i):=
 ⟨h.at_ a.at_,h.2.1,Nat.le_trans h.2.2.1 a.cap,λx f=>a.wf x (List.mem_of_mem_take (List.mem_of_mem_drop f))⟩
end
def Own.gI{w:EE}{B:Nat}{e:IQ}{k:IntKind}{xs:aC}(h:Own w B e k A n c xs)(a:∀x∈xs,(Lit.int k x).wf=true):aJ k w A n c xs:=
 ⟨h.ints,aA.le h,aA.tE h,a⟩
def aw(w:EE)(o:Obj):az w (w.alloc o):=(Below.refl _ _).alloc cr o
def add_succ(a:Addr)(k:Nat):a.add (k+1)=⟨a.block,a.off+(k+1),OJ⟩:=Ju
def bR(A C:aB):Prop:=∀g:Nat,A=OH ⟨g,0,OJ⟩->C≠OH ⟨g,0,OJ⟩
def bR.symm{A C:aB}(h:bR A C):bR C A:=λg a b=>h g b a
def uP(A:aB):bR A OJ:=λg _ h=>by cases h
def jV(A:aB):bR OJ A:=λg h=>by cases h
section
variable{w w':EE}{B n c:Nat}{e:IQ}{size:Nat}{A C:aB}{vs:List EN}{k:IntKind}{xs:aC}
def aA.kept(h:aA w B e size A n c vs)(o:w.grownBy w' (Value.slice C m d).ownBlock)(i:bR A C)(l:C=OJ∨∃g,C=OH ⟨g,0,OJ⟩):aA w' B e size A n c vs:=by
 rcases h.2 with j|⟨g,cap,cur,a,f,b,r⟩
 .exact⟨h.1,.inl j⟩
 .refine⟨h.1,.inr ⟨g,cap,cur,a,f, ?_,r⟩⟩
  rw[o.block g (Array.getElem?_eq_some_iff.1 b).1 ?_]
  .exact b
  .rcases l with rfl|⟨p,rfl⟩
   .simp[Value.ownBlock]
   .injection a with h1
    have:=i g h1;simp only[Value.ownBlock];intro e;injection e with e
    subst e;exact this rfl
def aA.dU(h:aA w B e size A n c vs):A=OJ∨∃g,A=OH ⟨g,0,OJ⟩:=by
 rcases h.2 with⟨a,_⟩|⟨g,cap,cur,a,_⟩
 .injection a with h1;exact .inl h1
 .injection a with h1;exact .inr ⟨g,h1⟩
def aA.yp(h:aA w B e size (OH ⟨g,0,OJ⟩) n c vs):B<=g/\g<w.heap.size:=by
 rcases h.2 with⟨a,_⟩|⟨f,cap,cur,a,b,d,r⟩
 .cases a
 .injection a with h1
  injection h1 with h1
  injection h1 with h1
  subst h1;exact⟨b,(Array.getElem?_eq_some_iff.1 d).1⟩
def mQ0{G:Prop}(s:G:=by
 intro g' h1 h2;subst h1;injection h2 with h2
 injection h2 with h2
 have:=h.yp;omega):G:=s
def aA.gX(h:aA w B e size A n c vs){g:Nat}(a:w.heap.size<=g):bR A (OH ⟨g,0,OJ⟩):=by
 exact mQ0
def aA.mj(h:aA w B e size A n c vs)(f:bR A (OH ⟨g,0,OJ⟩))(u:EN):aA (w.setCell ⟨g,j,OJ⟩ u) B e size A n c vs:=by
 rcases h.2 with i|⟨a,cap,cur,b,d,l,r⟩
 .exact⟨h.1,.inl i⟩
 .refine⟨h.1,.inr ⟨a,cap,cur,b,d, ?_,r⟩⟩
  rw[Below.heap_setCell w ⟨g,j,OJ⟩ u a ?_]
  .exact l
  .injection b with h1
   have:=f a h1;simp only;intro e;subst e;exact this rfl
def aA.oB(h:aA w B e size A n c vs)(a:g<B):bR A (OH ⟨g,0,OJ⟩):=by
 exact mQ0
def Own.kept(h:Own w B e k A n c xs)(f:w.grownBy w' (Value.slice C m d).ownBlock)(a:bR A C)(b:C=OJ∨∃g,C=OH ⟨g,0,OJ⟩):Own w' B e k A n c xs:=aA.kept h f a b
def Own.mj(h:Own w B e k A n c xs)(a:bR A (OH ⟨g,0,OJ⟩))(u:EN):Own (w.setCell ⟨g,j,OJ⟩ u) B e k A n c xs:=aA.mj h a u
def VU(T:aS P t e 1 bytes){xs:aC}{x:Int}(h:Own w B e k A (n+1) c (xs++[x]))(l:Int)(d:l=n):
 (∀a:EE,(Instr.slice t (Pl A (n+1) c) OJ (OH (ae aj l)) OJ).run P a=.ok (Pl A n c) a)/\Own w B e k A n c xs:=by
 subst d;have hle:=aA.le h;have hlen:=h.len;obtain⟨g,u,f,j⟩:=aA.form h aq;subst u;refine⟨λa=> ?_, ?_⟩
 .rw[run_slice_h a t _ _ _ (cY T) .i64 n aq aq,de T]
  have q:¬c=0:=aq;simp[Result.andThen,sliced,q,Addr.add]
 .rcases h.2 with⟨b,v⟩|⟨i,cap,cur,b,p,s,y,r,o,m⟩
  .cases b
  .injection b with e1 e2 e3
   refine⟨by simp at hlen⊢;omega,.inr ⟨i,cap,cur,by rw[e1,e3],p,s,aq,r,o, ?_⟩⟩;have:=congrArg (List.take n) m;rw[List.take_take]at this;simp only[Nat.mul_one]at this⊢;rw[show min n (n+1)=n by omega]at this;rw[this,List.map_append];have d:(xs.map (Value.int k)).length=n:=by simp at hlen⊢;omega
   rw[List.take_append_of_le_length aq,List.take_of_length_le aq]
end
def bE{w:EE}{e:IQ}{size:Nat}(T:aS P t e size bytes)(p:o.guard=OJ)(s x:Operand)
 (O:o.op=.call {callee:=.builtin .append,args:=#[s,x],argTypes:=#[t,t]}) {B:Nat} {A:aB} {n c:Nat} {vs:List EN} (K:a.eval s=Pl A n c) (b:aA w B e size A n c vs)
 {g:Nat} (N:a.eval x=Pl (OH ⟨g,0,OJ⟩) 1 1) {news:List EN} (S:news.length=size) (hc:∀j u,news[j]? =OH u->w.cell? ⟨g,j,OJ⟩=OH u) (J:∀u∈news,u.oneCell'=true)
 (L:(n+1)*bytes<=140737488355328) (G:B<=w.heap.size)
 (h:∀q c' w',aA w' B e size q (n+1) c' (vs++news)->EI B w w'->w.grownBy w' (Value.slice A n c).ownBlock->(∀g,q=OH ⟨g,0,OJ⟩->A=OH ⟨g,0,OJ⟩∨w.heap.size<=g)->wpList P ops Q rest (a.put o.dst (Pl q (n+1) c')) w'):wpList P ops Q (o::rest) a w:=by
 obtain⟨i,z,hi,I,E,r,y⟩:=T.info;have m:=T.Aw;have M:n+1<=140737488355328:=by
  have f:(n+1)*1<=(n+1)*bytes:=Nat.mul_le_mul_left _ m;omega
 refine wpList_append_own_at w p s x t O B e i z size bytes T.ht hi I E r y T.pos (Pl A n c) n vs K b ⟨g,0,OJ⟩ 1 1 news N aq (λj u hu=>Yw) J ri L G ?_;intro W w' d F _ D;have v:=aA.dF b F G;rcases d.2 with⟨H,V⟩|⟨R,cap,cur,H,_⟩
 .omega
 .subst H
  refine h _ _ w' d v F λU l=> ?_;injection l with l
  injection l with l
  subst l;rcases D with f|f
  .rcases aA.dU b with rfl|⟨g2,rfl⟩
   .simp[Value.ownBlock]at f
   .simp[Value.ownBlock]at f;subst f;exact .inl rfl
  .simp[Value.ownBlock]at f;exact .inr aq
def bL{w:EE}{e:IQ}(T:aS P t e 1 bytes)(i:o.guard=OJ)(s x:Operand)
 (F:o.op=.call {callee:=.builtin .append,args:=#[s,x],argTypes:=#[t,t]}) {B:Nat} {k:IntKind} {A:aB} {n c:Nat} {xs:aC} (q:a.eval s=Pl A n c) (d:Own w B e k A n c xs)
 {g:Nat} (E:a.eval x=Pl (OH ⟨g,0,OJ⟩) 1 1) {y:Int} (v:w.cell? ⟨g,0,OJ⟩=OH (.int k y))
 (D:(n+1)*bytes<=140737488355328) (r:B<=w.heap.size)
 (h:∀f c' w',Own w' B e k f (n+1) c' (xs++[y])->EI B w w'->w.grownBy w' (Value.slice A n c).ownBlock->(∀g,f=OH ⟨g,0,OJ⟩->A=OH ⟨g,0,OJ⟩∨w.heap.size<=g)->wpList P ops Q rest (a.put o.dst (Pl f (n+1) c')) w'):wpList P ops Q (o::rest) a w:=by
 refine bE T i s x F q d E (news:=[.int k y]) rfl (λj u b=> ?_) (λu b=> ?_) D r λf c' w' p z m l=>h f c' w' ?_ z m l
 .match j with
  |0=>simp at b;subst b;exact v
  |j+1=>simp at b
 .simp at b;subst b;rfl
 .unfold Own;rw[List.map_append];exact p
def DR{w:EE}{K:Act->EE->Prop}{E:Prop}{e:IQ}{size:Nat}(T:aS P t e size bytes)(l:o.guard=OJ)(s x:Operand)
 (O:o.op=.call {callee:=.builtin .append,args:=#[s,x],argTypes:=#[t,t]}) {B:Nat} {A:aB} {n c:Nat} {vs:List EN} (J:a.eval s=Pl A n c) (d:aA w B e size A n c vs)
 {g:Nat} (N:a.eval x=Pl (OH ⟨g,0,OJ⟩) 1 1) {news:List EN} (S:news.length=size) (hc:∀j u,news[j]? =OH u->w.cell? ⟨g,j,OJ⟩=OH u) (G:∀u∈news,u.oneCell'=true)
 (L:(n+1)*bytes<=140737488355328) (y:B<=w.heap.size)
 (h:∀v c' w',aA w' B e size v (n+1) c' (vs++news)->EI B w w'->K (a.put o.dst (Pl v (n+1) c')) w'):
 if Region.wanted o (yielded ops a.tmps)=true then Oper.wp P o a w K Q else E:=by
 have I:Region.wanted o (yielded ops a.tmps)=true:=by simp[Region.wanted,l]
 rw[if_pos I];obtain⟨i,z,hi,F,r,m,q⟩:=T.info;have f:=T.Aw;have M:n+1<=140737488355328:=by
  have W:(n+1)*1<=(n+1)*bytes:=Nat.mul_le_mul_left _ f;omega
 refine wp_append_own w s x t O B e i z size bytes T.ht hi F r m q T.pos (Pl A n c) n vs J d ⟨g,0,OJ⟩ 1 1 news N aq (λj u hu=>Yw) G ri L y ?_;intro V w' b H _;have p:=aA.dF d H y;rcases b.2 with⟨D,U⟩|⟨R,cap,cur,D,_⟩
 .omega
 .subst D
  exact h _ _ w' b p
def bR.grow{A d C:aB}{w:EE}(h:bR A C)(i:∀g,C=OH ⟨g,0,OJ⟩->g<w.heap.size)(j:∀g,d=OH ⟨g,0,OJ⟩->A=OH ⟨g,0,OJ⟩∨w.heap.size<=g):bR d C:=by
 intro g f b;rcases j g f with a|a
 .exact h g a b
 .have:=i g b;omega
section
open Go.Joins Go.Deep
def kV{cs:Array EN}(h:cs.size=6):∃a b c d e f,cs=#[a,b,c,d,e,f]:=by
 obtain⟨l⟩:=cs
 match l,h with
 |[a,b,c,d,e,f],_=>exact⟨a,b,c,d,e,f,rfl⟩
section
variable{H:Type}{enc:IQ × EN -> H}{P:I3}{w:EE}{base:Nat}{spare:Nat -> Bool}{held:Bool}
end
end
section
open Go.Joins Go.Deep
def Cc(w:EE)(p:Addr)(g:gF):Prop:=w.cell? p=OH (ae aj g.iz)/\w.cell? (p.add 1)=OH (ae aj g.id)/\w.cell? (p.add 2)=OH (ae aj g.x)/\w.cell? (p.add 3)=OH (ae aj g.y)
def lJ(w:EE)(B:Nat)(G:aB)(n:Nat)(gs:List gF):Prop:=
 gs.length=n/\(0<n->∃a,G=OH a/\a.block<B/\∀j,j<n->Cc w (a.add (j*4)) (pM gs j))
def zE(w:EE)(B:Nat)(p:Addr)(b:bj):Prop:=
 w.cell? p=OH (ae aj b.f)/\w.cell? (p.add 1)=OH (ae aj b.t)/\w.cell? (p.add 2)=OH (ae aj b.lv)/\w.cell? (p.add 3)=OH (ae aj b.x)/\w.cell? (p.add 4)=OH (ae aj b.wd)/\
  ∃(G:aB) (a:Nat),w.cell? (p.add 5)=OH (Pl G b.gs.length a)/\lJ w B G b.gs.length b.gs
def dW(w:EE)(B:Nat)(A:aB)(n:Nat)(bs:List bj):Prop:=
 bs.length=n/\(0<n->∃a,A=OH a/\a.block<B/\∀j,j<n->zE w B (a.add (j*6)) (aR bs j))
section
variable{w w':EE}{B n:Nat}{A G:aB}{bs:List bj}{gs:List gF}{p:Addr}{b:bj}{g:gF}
def Cc.nL(h:Cc w p g)(a:∀q:Addr,q.block=p.block->w'.cell? q=w.cell? q):Cc w' p g:=by
 obtain⟨d,e,f,c⟩:=h;exact⟨(a _ rfl).trans d,(a _ (aL _ _)).trans e,(a _ (aL _ _)).trans f,(a _ (aL _ _)).trans c⟩
def lJ.Z(h:lJ w B G n gs)(c:EI B w w'){a:Nat}(o:B<=a):lJ w' a G n gs:=
 ⟨h.1,λk=>by
  obtain⟨i,e,m,d⟩:=h.2 k;refine⟨i,e,aq,λj f=>(d j f).nL λq l=>c.cell ?_⟩;rw[aL]at l;omega⟩
def zE.Z(h:zE w B p b)(c:p.block<B)(a:EI B w w'){d:Nat}(f:B<=d):zE w' d p b:=by
 obtain⟨e,m,o,l,i,G,r,q,j⟩:=h;have go:∀k v,w.cell? (p.add k)=OH v->w'.cell? (p.add k)=OH v:=λk v h=>(a.cell (by rw[aL];exact c)).trans h
 exact⟨(a.cell c).trans e,go _ _ m,go _ _ o,go _ _ l,go _ _ i,G,r,go _ _ q,j.Z a f⟩
def dW.Z(h:dW w w.heap.size A n bs)(a:az w w'):dW w' w'.heap.size A n bs:=
 ⟨h.1,λk=>by
  obtain⟨i,e,c,d⟩:=h.2 k;refine⟨i,e,Nat.lt_of_lt_of_le c a.size,λj f=>(d j f).Z (by rw[aL];exact c) a a.size⟩⟩
end
section
variable{H:Type}{enc:IQ × EN -> H}{P:I3}{w:EE}{base:Nat}{held:Bool}
end
end
def je{α β:Type}{k:Nat}(F:α->List β)(a:∀x,(F x).length=k):∀(l:List α) (q i:Nat) (x:α),l[q]? =OH x->i<k->(l.flatMap F)[q*k+i]? =(F x)[i]?
 |[],q,i,x,h,_=>by simp at h
 |y::l,0,i,x,h,hi=>by
  simp at h;subst h;rw[List.flatMap_cons,List.getElem?_append_left (by rw[a];omega)];simp
 |y::l,q+1,i,x,h,hi=>by
  simp at h;rw[List.flatMap_cons,List.getElem?_append_right (by rw[a,Nat.add_mul];omega),a,show(q+1)*k+i-k=q*k+i by rw[Nat.add_mul];omega];exact je F a l q i x h hi
def Of{α β:Type}{k:Nat}(F:α->List β)(a:∀x,(F x).length=k)(l:List α):(l.flatMap F).length=l.length*k:=by
 induction l with
 |nil=>simp
 |cons y l ih=>rw[List.flatMap_cons,List.length_append,a,ih,List.length_cons,Nat.add_mul];omega
def kx(g:gF):List EN:=[ae aj g.iz,ae aj g.id,ae aj g.x,ae aj g.y]
def Og(g:gF):(kx g).length=4:=rfl
def iF(w:EE)(B:Nat)(G:aB)(gc:Nat)(gs:List gF):Prop:=aA w B 107 4 G gs.length gc (gs.flatMap kx)
abbrev BoxM:=bj×aB×Nat
def iI(p:BoxM):List EN:=[ae aj p.1.f,ae aj p.1.t,ae aj p.1.lv,ae aj p.1.x,ae aj p.1.wd,Pl p.2.1 p.1.gs.length p.2.2]
def pJ(p:BoxM):(iI p).length=6:=rfl
structure fZ(w:EE)(B:Nat)(A:aB)(c:Nat)(ps:List BoxM):Prop where
 row:aA w B 55 6 A ps.length c (ps.flatMap iI)
 gl:∀p∈ps,iF w B p.2.1 p.2.2 p.1.gs
section
variable{w w':EE}{B n c gc:Nat}{A G:aB}{ps:List BoxM}{gs:List gF}
def iF.ar(h:iF w B G gc gs)(a:az w w'):iF w' B G gc gs:=aA.ar h a
def fZ.ar(h:fZ w B A c ps)(a:az w w'):fZ w' B A c ps:=⟨aA.ar h.row a,λp b=>(h.gl p b).ar a⟩
def fZ.nil(w:EE)(B:Nat):fZ w B OJ 0 []:=⟨aA.nil _ _ _ _,λp a=>by cases a⟩
def iF.nil(w:EE)(B:Nat):iF w B OJ 0 []:=aA.nil _ _ _ _
def ca{p u t q s:Nat}{l m:IQ}{vs r:List EN}(h:aA w B l q A n c vs)(k:aA w p m s G u t r)(e:l≠m):bR A G:=by
 intro g x y;subst x;subst y;rcases h.2 with⟨a,_⟩|⟨z,f,i,a,_,v,_⟩
 .cases a
 .rcases k.2 with⟨b,_⟩|⟨g2,o,j,b,_,d,_⟩
  .cases b
  .injection a with a
   injection a with a
   injection a with a
   injection b with b
   injection b with b
   injection b with b
   subst a;subst b;rw[v]at d;injection d with d
   injection d with _ d
   exact e d
def fZ.push(h:fZ w B A c ps){b:aB}{c':Nat}{p:BoxM}(d:aA w' B 55 6 b (ps.length+1) c' (ps.flatMap iI++iI p))(e:w.grownBy w' (Value.slice A ps.length c).ownBlock)
 (f:iF w B p.2.1 p.2.2 p.1.gs):fZ w' B b c' (ps++[p]):=by
 refine⟨?_,λq a=> ?_⟩
 .rw[List.length_append,List.flatMap_append]
  simpa using d
 .have go:∀q:BoxM,iF w B q.2.1 q.2.2 q.1.gs->iF w' B q.2.1 q.2.2 q.1.gs:=λq k=>aA.kept k e (ca k h.row cF) (aA.dU h.row)
  rw[List.mem_append]at a;rcases a with a|a
  .exact go q (h.gl q a)
  .simp at a
   subst a;exact go _ f
def iF.VQ(h:iF w B G gc gs):lJ w w.heap.size G gs.length gs:=by
 refine⟨rfl,λk=> ?_⟩;obtain⟨g,rfl,_,d⟩:=aA.form h k;refine⟨_,rfl,d,λj f=> ?_⟩;have e:gs[j]? =OH (pM gs j):=by rw[GW f,List.getElem?_eq_getElem f]
 have go:∀i v,i<4->(kx (pM gs j))[i]? =OH v->w.cell? ⟨g,j*4+i,OJ⟩=OH v:=by
  intro i v hi b;rw[aA.cellAt h (j*4+i) aq,je kx Og gs j i _ e hi];exact b
 have a:∀i v,i<4->(kx (pM gs j))[i]? =OH v->w.cell? (((⟨g,0,OJ⟩:Addr).add (j*4)).add i)=OH v:=by
  intro i v hi b;rw[aY,bC];exact go i v hi b
 refine⟨?_,a 1 _ aq rfl,a 2 _ aq rfl,a 3 _ aq rfl⟩;rw[bC];exact go 0 _ aq rfl
def fZ.boxes(h:fZ w B A c ps):dW w w.heap.size A ps.length (ps.map (·.1)):=by
 refine⟨aT,λk=> ?_⟩;obtain⟨g,rfl,_,b⟩:=aA.form h.row k;refine⟨_,rfl,b,λj hj=> ?_⟩;have e:ps[j]? =OH ps[j]:=List.getElem?_eq_getElem hj;have d:aR (ps.map (·.1)) j=ps[j].1:=YP;have l:=(h.gl _ (List.getElem_mem hj)).VQ;rw[d];generalize ps[j]=p at*;have a:∀i v,i<6->(iI p)[i]? =OH v->w.cell? (((⟨g,0,OJ⟩:Addr).add (j*6)).add i)=OH v:=by
  intro i v hi f;rw[aY,bC,aA.cellAt h.row (j*6+i) aq,je iI pJ ps j i _ e hi];exact f
 refine⟨?_,a 1 _ aq rfl,a 2 _ aq rfl,a 3 _ aq rfl,a 4 _ aq rfl,p.2.1,p.2.2,a 5 _ aq rfl,l⟩;have:=a 0 _ aq rfl;rwa [aY,Nat.add_zero]at this
end
