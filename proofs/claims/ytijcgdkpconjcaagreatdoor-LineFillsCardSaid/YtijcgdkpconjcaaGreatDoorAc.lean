/- Part of LineFills. -/
import Derived.Test.YtijcgdkpconjcaaGreatDoorAa
import Derived.WalkKit
import Derived.ProofKit
import Derived.OpenShut
import Derived.Deep.QuietTactic
import Derived.BigQuiet
import Derived.Lib.Hide
import Derived.RegionTactic
namespace Go.Proofs.YtijcgdkpconjcaaGreatDoor
open Go.ChangeShapes Go.WideShapes Go.ChangeAt Go.RowKit
open Go renaming World->EE,Value->EN,Calls->GK,TypeId->IQ,Ending->IS,Program->I3
open Go.RowKit renaming Below->EI
open Option renaming some->OH,none->OJ
open Bool renaming true->OX,false->OZ
open Go.Value renaming slice->Pl
open Go.Value renaming int->ae
open Go.IntKind renaming i64->aj
set_option linter.all false
set_option maxRecDepth 100000
set_option maxHeartbeats 16000000
variable{p:Nat->Bool}{N b bytes g i j k m s:Nat}{P:I3}{t:IQ}{ops:Array Oper}{l rest:List Oper}{o:Oper}{a:Act}{K Q:(EE->Prop)->Act->Prop}{v:EN}{G:EN->(EE->Prop)->EE->Prop}{w:EE}{E:EE->Prop}{Q':Exit->Act->EE->Prop}{V:EN->Prop}{x:Int}{listed:Array Bool}
abbrev az(w w':EE):Prop:=EI w.heap.size w w'
abbrev aB:=Option Addr
abbrev aC:=List Int
abbrev bX(a:Addr)(i:Nat):Addr:={block:=a.block,off:=a.off+i}
theorem aF{p:Prop}(h:p:=by kernel_rfl):p:=h
def nth(xs:List Int)(k:Nat):Int:=xs.getD k 0
def bZ{xs:List Int}{k:Nat}(h:k<xs.length):nth xs k=xs[k]:=by simp[nth,h]
def aL(a:Addr)(n:Nat):(a.add n).block=a.block:=by unfold Addr.add;split<;>rfl
def aY(a:Addr)(i j:Nat):(a.add i).add j=a.add (i+j):=by
 unfold Addr.add;by_cases hi:i=0<;>by_cases b:j=0<;>simp[hi,b,Nat.add_assoc]
def bO(w:EE)(B:Nat)(k:IntKind)(A:Option Addr)(n:Nat)(xs:List Int):Prop:=
 xs.length=n/\(0<n->∃a,A=OH a/\a.block<B/\∀j,j<n->w.cell? (a.add j)=OH (.int k (nth xs j)))
section
variable{w w':EE}{B B' n:Nat}{k:IntKind}{A:Option Addr}{xs:List Int}
def bO.nil:bO w B k A 0 []:=⟨rfl,λh=>absurd h aq⟩
def bO.len(h:bO w B k A n xs):xs.length=n:=h.1
def bO.nL(h:bO w B k A n xs)(g:∀p:Addr,p.block<B->w'.cell? p=w.cell? p):bO w' B k A n xs:=
 ⟨h.1,λf=>by
  obtain⟨d,e,hb,a⟩:=h.2 f;exact⟨d,e,hb,λj b=>(g _ Mb).trans (a j b)⟩⟩
def bO.more(h:bO w B k A n xs)(g:B<=B'):bO w B' k A n xs:=
 ⟨h.1,λd=>by
  obtain⟨b,e,f,a⟩:=h.2 d;exact⟨b,e,aq,a⟩⟩
def bO.below(h:bO w B k A n xs)(b:EI B w w'):bO w' B k A n xs:=h.nL λ_ a=>b.cell a
def bO.Z(h:bO w w.heap.size k A n xs)(a:EI w.heap.size w w'):bO w' w'.heap.size k A n xs:=(h.below a).more a.size
def bO.cut(h:bO w B k A n xs){i j cap:Nat}(d:i<=j)(g:j<=n)(f:n<=cap):
 bO w B k (if cap=i then A else A.map (·.add i)) (j-i) ((xs.take j).drop i):=by
 refine⟨by rw[List.length_drop,List.length_take,h.1];omega,λo=> ?_⟩;obtain⟨b,rfl,hb,a⟩:=h.2 aq;rw[if_neg aq];refine⟨b.add i,rfl,Mb,λm l=> ?_⟩;rw[aY,a _ aq]
 congr 2
 simp only[nth,List.getD_eq_getElem?_getD,List.getElem?_drop,List.getElem?_take];rw[if_pos aq]
end
structure aJ(k:IntKind)(w:EE)(A:Option Addr)(n c:Nat)(xs:List Int):Prop where
 at_:bO w w.heap.size k A n xs
 le:n<=c
 cap:c<=9223372036854775807
 wf:∀x∈xs,(Lit.int k x).wf=OX
def aJ.cZ{k:IntKind}{w:EE}{A:Option Addr}{n c:Nat}{xs:List Int}(h:aJ k w A n c xs){i:Nat}(hi:i<n):(Lit.int k (nth xs i)).wf=OX:=by
 have:i<xs.length:=by rw[h.at_.1];exact hi
 rw[bZ this];exact h.wf _ (List.getElem_mem ..)
def bC(g j:Nat):(⟨g,0,OJ⟩:Addr).add j=⟨g,j,OJ⟩:=by unfold Addr.add;split<;>simp_all
def aA(w:EE)(B:Nat)(e:IQ)(size:Nat)(A:Option Addr)(n c:Nat)(xs:List EN):Prop:=w.ownsRow B e size (Pl A n c) n xs
def Own(w:EE)(B:Nat)(e:IQ)(k:IntKind)(A:Option Addr)(n c:Nat)(xs:List Int):Prop:=aA w B e 1 A n c (xs.map (Value.int k))
section
variable{w w':EE}{B:Nat}{e:IQ}{size n c:Nat}{A:Option Addr}{vs:List EN}{k:IntKind}{xs:List Int}
def aA.ar(h:aA w B e size A n c vs)(b:EI w.heap.size w w'):aA w' B e size A n c vs:=by
 refine⟨h.1, ?_⟩;rcases h.2 with f|⟨g,cap,cur,d,i,a,r⟩
 .exact .inl f
 .exact .inr ⟨g,cap,cur,d,i,(b.block g (Array.getElem?_eq_some_iff.1 a).1).trans a,r⟩
def aA.alloc(h:aA w B e size A n c vs)(o:Obj):aA (w.alloc o) B e size A n c vs:=h.ar ((Below.refl _ _).alloc cr o)
def aA.drewN(h:aA w B e size A n c vs)(m:Nat):aA (w.drewN m) B e size A n c vs:=h
def aA.drew(h:aA w B e size A n c vs):aA w.drew B e size A n c vs:=h
def aA.nil(w:EE)(B:Nat)(e:IQ)(size:Nat):aA w B e size OJ 0 0 []:=⟨aT,.inl ⟨rfl,rfl⟩⟩
def aA.form(h:aA w B e size A n c vs)(i:0<n):∃g,A=OH ⟨g,0,OJ⟩/\B<=g/\g<w.heap.size:=by
 rcases h.2 with⟨_,f⟩|⟨g,cap,cur,a,b,d,r⟩
 .omega
 .injection a with h1
  exact⟨g,h1,b,(Array.getElem?_eq_some_iff.1 d).1⟩
def aA.le(h:aA w B e size A n c vs):n<=c:=by
 rcases h.2 with⟨_,b⟩|⟨g,cap,cur,a,d,f,i,r⟩
 .omega
 .injection a with h1 h2 h3
  omega
def aA.tE(h:aA w B e size A n c vs):c<=9223372036854775807:=by
 rcases h.2 with⟨a,d⟩|⟨g,cap,cur,a,f,i,j,b,r⟩
 .injection a with h1 h2 h3
  omega
 .injection a with h1 h2 h3
  unfold maxLen at b;omega
def aA.cellAt(h:aA w B e size (OH ⟨g,0,OJ⟩) n c vs)(j:Nat)(a:j<n*size):w.cell? ⟨g,j,OJ⟩=vs[j]? :=World.ownsRow.cellAt (cap:=c) h j a
def aA.frozenAt(h:aA w B e size (OH ⟨g,0,OJ⟩) n c vs)(j:Nat):w.frozen? ⟨g,j,OJ⟩=OZ:=World.ownsRow.frozenAt (cap:=c) h j
def aA.dF(h:aA w B e size A n c vs)(d:w.grownBy w' (Value.slice A n c).ownBlock)(f:B<=w.heap.size):EI B w w':=by
 refine(Below.refl B w).grown d f λg a=> ?_;rcases h.2 with⟨b,_⟩|⟨j,cap,cur,b,i,_⟩
 .rw[b]at a;simp[Value.ownBlock]at a
 .rw[b]at a;simp[Value.ownBlock]at a;omega
def Own.ar(h:Own w B e k A n c xs)(a:EI w.heap.size w w'):Own w' B e k A n c xs:=aA.ar h a
def Own.alloc(h:Own w B e k A n c xs)(o:Obj):Own (w.alloc o) B e k A n c xs:=aA.alloc h o
def Own.drewN(h:Own w B e k A n c xs)(m:Nat):Own (w.drewN m) B e k A n c xs:=h
def Own.nil(w:EE)(B:Nat)(e:IQ)(k:IntKind):Own w B e k OJ 0 0 []:=aA.nil w B e 1
def Own.len(h:Own w B e k A n c xs):xs.length=n:=by have:=h.1;simpa using this
def Own.ints(h:Own w B e k A n c xs):bO w w.heap.size k A n xs:=by
 refine⟨h.len,λd=> ?_⟩;obtain⟨g,rfl,_,a⟩:=aA.form h d;refine⟨_,rfl,a,λj hj=> ?_⟩;rw[bC,aA.cellAt h j aq];have b:j<xs.length:=Jf;rw[List.getElem?_map,List.getElem?_eq_getElem b,bZ b];rfl
def Own.sI(h:Own w B e k (OH ⟨g,0,OJ⟩) n c xs)(j:Nat)(y:Int):Own (w.setCell ⟨g,j,OJ⟩ (.int k y)) B e k (OH ⟨g,0,OJ⟩) n c (xs.set j y):=by
 have:=(World.ownsRow.stored (cap:=c) h j (.int k y)).1;unfold Own aA;rw[List.map_set];exact this
end
structure aS(P:I3)(t e:IQ)(size bytes:Nat):Prop where
 ht:P.underlying t=OH (.slice e)
 info:∃(i:TypeInfo) (z:EN),P.info? e=OH i/\i.zero=OH z/\i.size=size/\i.bytes=bytes/\z.cells.size=size
 pos:0<size
 Aw:0<bytes
def bD{e:IQ}{size:Nat}{z:EN}(j:P.underlying t=OH (.slice e))(hi:(P.info? e).map (λi=>(i.zero,i.size,i.bytes))=OH (OH z,size,bytes))(d:z.cells.size=size)(a:0<size)(g:0<bytes):aS P t e size bytes:=by
 obtain⟨i,h,l,f,b⟩:=info_parts hi;exact⟨j,⟨i,z,h,l,f,b,d⟩,a,g⟩
def cG{w:EE}{Q:Exit->Act->EE->Prop}{e:IQ}{size:Nat}(T:aS P t e size bytes)(l:o.guard=OJ)(s x:Operand)
 (K:o.op=.call {callee:=.builtin .append,args:=#[s,x],argTypes:=#[t,t]}) {B:Nat} {A:Option Addr} {n c:Nat} {vs:List EN} (G:a.eval s=Pl A n c) (d:aA w B e size A n c vs)
 {g:Nat} (J:a.eval x=Pl (OH ⟨g,0,OJ⟩) 1 1) {news:List EN} (M:news.length=size) (hc:∀j u,news[j]? =OH u->w.cell? ⟨g,j,OJ⟩=OH u) (E:∀u∈news,u.oneCell'=OX)
 (H:(n+1)*bytes<=140737488355328) (y:B<=w.heap.size)
 (h:∀v c' w',aA w' B e size v (n+1) c' (vs++news)->EI B w w'->wpList P ops Q rest (a.put o.dst (Pl v (n+1) c')) w'):wpList P ops Q (o::rest) a w:=by
 obtain⟨i,z,hi,D,r,m,q⟩:=T.info;have f:=T.Aw;have I:n+1<=140737488355328:=by
  have R:(n+1)*1<=(n+1)*bytes:=Nat.mul_le_mul_left _ f;omega
 refine wpList_append_own w l s x t K B e i z size bytes T.ht hi D r m q T.pos (Pl A n c) n vs G d ⟨g,0,OJ⟩ 1 1 news J aq (λj u hu=>Yw) E ri H y ?_;intro O w' b F _;have p:=aA.dF d F y;rcases b.2 with⟨C,N⟩|⟨L,cap,cur,C,_⟩
 .omega
 .subst C
  exact h _ _ w' b p
def ju{w:EE}{Q:Exit->Act->EE->Prop}{e:IQ}(T:aS P t e 1 bytes)(i:o.guard=OJ)(s x:Operand)
 (C:o.op=.call {callee:=.builtin .append,args:=#[s,x],argTypes:=#[t,t]}) {B:Nat} {k:IntKind} {A:Option Addr} {n c:Nat} {xs:List Int} (m:a.eval s=Pl A n c) (d:Own w B e k A n c xs)
 {g:Nat} (z:a.eval x=Pl (OH ⟨g,0,OJ⟩) 1 1) {y:Int} (q:w.cell? ⟨g,0,OJ⟩=OH (.int k y))
 (v:(n+1)*bytes<=140737488355328) (p:B<=w.heap.size)
 (h:∀f c' w',Own w' B e k f (n+1) c' (xs++[y])->EI B w w'->wpList P ops Q rest (a.put o.dst (Pl f (n+1) c')) w'):wpList P ops Q (o::rest) a w:=by
 refine cG T i s x C m d z (news:=[.int k y]) rfl (λj u b=> ?_) (λu b=> ?_) v p λf c' w' l r=>h f c' w' ?_ r
 .match j with
  |0=>simp at b;subst b;exact q
  |j+1=>simp at b
 .simp at b;subst b;rfl
 .unfold Own;rw[List.map_append];exact l
def fe{w:EE}{Q:Exit->Act->EE->Prop}{e:IQ}{k:IntKind}(T:aS P t e 1 bytes)(b:(P.info? e).map (·.zero)=OH (OH (.int k 0)))(f:o.guard=OJ)(l c:Operand)
 (K:o.op=.makeSlice t l c) {q u:IntKind} {L C:Int} (n:Nat) (y:a.eval l=.int q L) (H:a.eval c=.int u C) (F:L=(n:Int)) (I:C=(n:Int)) (M:n*bytes<=140737488355328) (B:Nat) (v:B<=w.heap.size)
 (h:∀g w',Own w' B e k (OH ⟨g,0,OJ⟩) n n (List.replicate n 0)->EI B w w'->wpList P ops Q rest (a.put o.dst (Pl (OH ⟨g,0,OJ⟩) n n)) w'):wpList P ops Q (o::rest) a w:=by
 obtain⟨i,z,hi,r,p,m,G⟩:=T.info;have d:=T.Aw;have J:n<=140737488355328:=by
  have x:n*1<=n*bytes:=Nat.mul_le_mul_left _ d;omega
 have j:z=.int k 0:=by
  rw[hi]at b;simp[r]at b;exact b
 refine wpList_make_full w f l c t K B e i z 1 T.ht hi r p q u L C n y H F I (by rw[m,Nat.mul_comm];omega) ri v λw' s x=>
  h _ w' ?_ ((Below.refl B w).grown x v (λk E=>by cases E))
 subst j;unfold Own aA;have D:(madeCells (Value.int k 0).cells (n*1)).toList=(List.replicate n (0:Int)).map (Value.int k):=by
  rw[Nat.mul_one,List.map_replicate];exact toList_madeCells_one _ _
 rw[D]at s;exact s
def bk(w:EE)(v:EN)(t:IQ):(w.alloc (.cells #[v] t)).cell? ⟨w.heap.size,0,OJ⟩=OH v:=by
 rw[cell_of_row _ _ _ _ _ _ (heap_alloc_new w _)];rfl
def vF{α:Type}(f:Int->α){xs:List Int}{k:Nat}(h:k<xs.length):(xs.take (k+1)).map f=(xs.take k).map f++[f (nth xs k)]:=by
 rw[List.take_succ_eq_append_getElem h,List.map_append,bZ h];rfl
def lE(w:EE)(e:IQ)(k:IntKind)(n:Nat)(xs:List Int)(r:IS)(w':EE):Prop:=
 ∃(A:Option Addr) (c:Nat),r=.returned (Pl A n c)/\Own w' w.heap.size e k A n c xs/\EI w.heap.size w w'
def mr{a b:Bool}(h:a=b):Ending.returned (.bool a)=Ending.returned (.bool b):=by rw[h]
def Ae{k:IntKind}{a b:Int}(h:a=b):Ending.returned (.int k a)=Ending.returned (.int k b):=by rw[h]
def aH{w:EE}{p:Addr}(h:w.cell? p=OH v)(o:Obj):(w.alloc o).cell? p=OH v:=(World.cell?_alloc_lt w o p (block_lt_of_cell h)).trans h
def av{w w':EE}{p:Addr}(h:w.cell? p=OH v)(a:EI w.heap.size w w'):w'.cell? p=OH v:=(a.cell (block_lt_of_cell h)).trans h
def aO{B:Nat}{a w:EE}(h:EI B a w)(n:Nat):EI B a (w.drewN n):=⟨h.os,h.tape,h.output,h.size,h.block⟩
def aI(w:EE):Type:={w':EE//EI w.heap.size w w'}
instance later_nonempty (w:EE):Nonempty (aI w):=⟨⟨w,Below.refl _ _⟩⟩
def bS{f:Nat}{Q:Exit->Act->EE->Prop}{w:EE}(b:P.follows .mixedOrders=OX)(g:Region.lexB .any l.toArray=OX)
 (h:wpQuiet P l.toArray (λw'=>∃n:aI w,w'=n.1) (λd=>∀w',(∃n:aI w,w'=n.1)->Q .normal d w') l a):(Code.region f l.toArray OX).wp P Q a w:=
 wp_region_quiet (C:=λw'=>∃n:aI w,w'=n.1) b g ⟨⟨{w with drawn:=w.drawn+1},⟨rfl,rfl,rfl,Nat.le_refl _,λ_ _=>rfl⟩⟩,rfl⟩ zl
def dN{f:FuncId}{args:Array EN}{w:EE}{n:aI w}(h:GK P f args n.1 λe w'=>e=.returned v/\EI n.1.heap.size n.1 w'):
 GK P f args n.1 λe a=>e=.returned v/\∃m:aI w,a=m.1:=
 h.mono λ_ w' ⟨d,b⟩=>⟨d,⟨w',n.2.trans (b.mono n.2.size)⟩,rfl⟩
def au{w:EE}{p:Addr}(h:w.cell? p=OH v):∀n:aI w,n.1.cell? p=OH v:=λn=>(n.2.cell (block_lt_of_cell h)).trans h
def lc2{w:EE}{f a:EN}{b d:Addr}(i:w.cell? b=OH f)(j:w.cell? d=OH a):(∀n:aI w,n.1.cell? b=OH f)/\(∀n:aI w,n.1.cell? d=OH a):=⟨au i,au j⟩
def lc3 {w:EE} {f a v2:EN} {b d g:Addr} (i:w.cell? b=OH f) (j:w.cell? d=OH a) (m:w.cell? g=OH v2):(∀n:aI w,n.1.cell? b=OH f)/\(∀n:aI w,n.1.cell? d=OH a)/\(∀n:aI w,n.1.cell? g=OH v2):=⟨au i,au j,au m⟩
def lc4 {w:EE} {f a v2 v3:EN} {b d g h:Addr} (i:w.cell? b=OH f) (j:w.cell? d=OH a) (m:w.cell? g=OH v2) (o:w.cell? h=OH v3):(∀n:aI w,n.1.cell? b=OH f)/\(∀n:aI w,n.1.cell? d=OH a)/\(∀n:aI w,n.1.cell? g=OH v2)/\(∀n:aI w,n.1.cell? h=OH v3):=⟨au i,au j,au m,au o⟩
def lc5 {w:EE} {f a v2 v3 v4:EN} {b d g h l:Addr} (i:w.cell? b=OH f) (j:w.cell? d=OH a) (m:w.cell? g=OH v2) (o:w.cell? h=OH v3) (r:w.cell? l=OH v4):(∀n:aI w,n.1.cell? b=OH f)/\(∀n:aI w,n.1.cell? d=OH a)/\(∀n:aI w,n.1.cell? g=OH v2)/\(∀n:aI w,n.1.cell? h=OH v3)/\(∀n:aI w,n.1.cell? l=OH v4):=⟨au i,au j,au m,au o,au r⟩
def lc6 {w:EE} {f a v2 v3 v4 q:EN} {b d g h l p:Addr} (i:w.cell? b=OH f) (j:w.cell? d=OH a) (m:w.cell? g=OH v2) (o:w.cell? h=OH v3) (r:w.cell? l=OH v4) (t:w.cell? p=OH q):(∀n:aI w,n.1.cell? b=OH f)/\(∀n:aI w,n.1.cell? d=OH a)/\(∀n:aI w,n.1.cell? g=OH v2)/\(∀n:aI w,n.1.cell? h=OH v3)/\(∀n:aI w,n.1.cell? l=OH v4)/\(∀n:aI w,n.1.cell? p=OH q):=⟨au i,au j,au m,au o,au r,au t⟩
def lc7 {w:EE} {f a v2 v3 v4 q u:EN} {b d g h l p s:Addr} (i:w.cell? b=OH f) (j:w.cell? d=OH a) (m:w.cell? g=OH v2) (o:w.cell? h=OH v3) (r:w.cell? l=OH v4) (t:w.cell? p=OH q) (v:w.cell? s=OH u):(∀n:aI w,n.1.cell? b=OH f)/\(∀n:aI w,n.1.cell? d=OH a)/\(∀n:aI w,n.1.cell? g=OH v2)/\(∀n:aI w,n.1.cell? h=OH v3)/\(∀n:aI w,n.1.cell? l=OH v4)/\(∀n:aI w,n.1.cell? p=OH q)/\(∀n:aI w,n.1.cell? s=OH u):=⟨au i,au j,au m,au o,au r,au t,au v⟩
def lc8 {w:EE} {f a v2 v3 v4 q u v7:EN} {b d g h l p s x:Addr} (i:w.cell? b=OH f) (j:w.cell? d=OH a) (m:w.cell? g=OH v2) (o:w.cell? h=OH v3) (r:w.cell? l=OH v4) (t:w.cell? p=OH q) (v:w.cell? s=OH u) (y:w.cell? x=OH v7):(∀n:aI w,n.1.cell? b=OH f)/\(∀n:aI w,n.1.cell? d=OH a)/\(∀n:aI w,n.1.cell? g=OH v2)/\(∀n:aI w,n.1.cell? h=OH v3)/\(∀n:aI w,n.1.cell? l=OH v4)/\(∀n:aI w,n.1.cell? p=OH q)/\(∀n:aI w,n.1.cell? s=OH u)/\(∀n:aI w,n.1.cell? x=OH v7):=⟨au i,au j,au m,au o,au r,au t,au v,au y⟩
def mRl{R G:Prop}(h:R)(s:R->G:=by
 intro a;refine bS aF aF ?_
 repeat(go_big_quiet_step (fail))
 refine wpQuiet_nil ?_;exact a):G:=s h
def I'(p:Nat->Bool)(N:Nat):Nat->Nat->Nat
 |0,i=>i
 |d+1,i=>if i<N&&p i then I' p N d (i+1)else i
def fE(p:Nat->Bool)(N i:Nat):Nat:=I' p N (N-i) i
def rr(h:i<N)(b:p i=OX):fE p N i=fE p N (i+1):=by
 unfold fE;obtain⟨d,a⟩:∃d,N-i=d+1:=⟨N-i-1,aq⟩;rw[a,show N-(i+1)=d by omega];simp[I',h,b]
def jt(h:i<N->p i=OZ):fE p N i=i:=by
 unfold fE;cases N-i with
 |zero=>rfl
 |succ d=>
  unfold I';by_cases a:i<N
  .simp[h a]
  .simp[a]
def mJ(p:Nat->Bool)(N:Nat):∀(d i:Nat),N-i=d->i<=N->i<=fE p N i/\fE p N i<=N/\(∀j,i<=j->j<fE p N i->p j=OX)/\(fE p N i<N->p (fE p N i)=OZ)
 |0,i,hd,hi=>by
  rw[jt (λh=>aq)];exact⟨Nat.le_refl _,hi,λj e b=>by omega,λh=>by omega⟩
 |d+1,i,hd,hi=>by
  cases a:p i with
  |false=>
   rw[jt (λ_=>a)];exact⟨Nat.le_refl _,hi,λj e b=>by omega,λ_=>a⟩
  |true=>
   rw[rr aq a];obtain⟨e,b,g,f⟩:=mJ p N d (i+1) aq aq;refine⟨aq,b,λj l k=> ?_,f⟩;rcases Nat.lt_or_ge i j with c|c
   .exact g j c k
   .obtain rfl:j=i:=by omega
    exact a
def Ly(hi:i<=N)(h:fE p N i<N):p (fE p N i)=OZ:=(mJ p N _ i rfl hi).2.2.2 h
def EV(h:N<=i):fE p N i=i:=jt λa=>by omega
def jW(x:Int):Nat:=(max 0 (min x 126)).toNat
def Bq(x:Int):jW x<=126:=by unfold jW;omega
def Fy(x:Int):((jW x:Nat):Int)=max 0 (min x 126):=by unfold jW;omega
def swp(xs:aC)(i j:Nat):aC:=(xs.set i (nth xs j)).set j (nth xs i)
def Hr(xs:aC)(i j:Nat):(swp xs i j).length=xs.length:=by simp[swp]
def Im(xs:aC)(i q:Nat)(v:Int)(h:i<xs.length):nth (xs.set i v) q=if i=q then v else nth xs q:=by
 unfold nth;rw[List.getD_eq_getElem?_getD,List.getElem?_set,List.getD_eq_getElem?_getD];split
 .rename_i e;subst e;simp[h]
 .rfl
def Gj{xs:aC}(hi:i<xs.length)(hj:j<xs.length)(q:Nat):nth (swp xs i j) q=if j=q then nth xs i else if i=q then nth xs j else nth xs q:=by
 unfold swp;rw[Im _ _ _ _ vO,Im _ _ _ _ hi]
def MH(a b:Nat)(xs:aC):aC:=if a+1<b then MH (a+1) (b-1) (swp xs a (b-1))else xs
termination_by b-a
def AN{a:Nat}(h:a+1<b)(xs:aC):MH a b xs=MH (a+1) (b-1) (swp xs a (b-1)):=by rw[MH,if_pos h]
def sZ{a:Nat}(h:¬a+1<b)(xs:aC):MH a b xs=xs:=by rw[MH,if_neg h]
def IY:∀(d a b:Nat) (xs:aC),b-a<=d->b<=xs.length->(MH a b xs).length=xs.length/\∀q,nth (MH a b xs) q=if a<=q/\q<b then nth xs (a+b-1-q)else nth xs q
 |0,a,b,xs,hd,hb=>by
  rw[sZ aq];refine⟨rfl,λq=> ?_⟩;rw[if_neg aq]
 |d+1,a,b,xs,hd,hb=>by
  by_cases h:a+1<b
  .rw[AN h]
   obtain⟨i,j⟩:=IY d (a+1) (b-1) (swp xs a (b-1)) aq (by rw[Hr];omega);refine⟨i.trans (Hr _ _ _),λq=> ?_⟩;rw[j,Gj aq aq,Gj aq aq];by_cases f:a+1<=q/\q<b-1
   .rw[if_pos f,if_neg aq,if_neg aq,if_pos aq,show a+1+(b-1)-1-q=a+b-1-q by omega]
   .rw[if_neg f]
    by_cases e:b-1=q
    .rw[if_pos e,if_pos aq,show a+b-1-q=a by omega]
    .rw[if_neg e]
     by_cases g:a=q
     .rw[if_pos g,if_pos aq,show a+b-1-q=b-1 by omega]
     .rw[if_neg g,if_neg aq]
  .rw[sZ h]
   refine⟨rfl,λq=> ?_⟩;split
   .rename_i c
    rw[show a+b-1-q=q by omega]
   .rfl
def eh(xs:aC)(a b:Nat):aC:=xs.take a++((xs.take b).drop a).reverse++xs.drop b
def mW{xs:aC}{a:Nat}(h:a<=b):(eh xs a b).Perm xs:=by
 have e:xs.take a++(xs.take b).drop a++xs.drop b=xs:=by
  have c:xs.take a++(xs.take b).drop a=xs.take b:=by
   have:=List.take_append_drop a (xs.take b);rwa [List.take_take,Nat.min_eq_left h]at this
  rw[c,List.take_append_drop]
 unfold eh;exact((List.Perm.append_left (xs.take a) (List.reverse_perm _)).append_right _).trans (by rw[e])
def tM{xs:aC}{a:Nat}(h:a<=b):(eh xs a b).length=xs.length:=(mW h).length_eq
def uo{xs:aC}{a:Nat}(d:a<=b)(e:b<=xs.length)(q:Nat):nth (eh xs a b) q=if a<=q/\q<b then nth xs (a+b-1-q)else nth xs q:=by
 unfold nth eh;simp only[List.getD_eq_getElem?_getD];by_cases c:q<a
 .rw[if_neg aq,List.append_assoc,List.getElem?_append_left br,List.getElem?_take,if_pos c]
 .by_cases f:q<b
  .rw[if_pos aq,List.getElem?_append_left br,List.getElem?_append_right br,List.getElem?_reverse br,List.getElem?_drop,List.getElem?_take,if_pos br]
   congr 2
   simp;omega
  .rw[if_neg aq,List.getElem?_append_right br,List.getElem?_drop]
   congr 2
   simp;omega
def Vs{xs a:aC}(d:xs.length=a.length)(h:∀q,nth xs q=nth a q):xs=a:=by
 apply List.ext_getElem d;intro q b c;have:=h q;rwa [bZ b,bZ c]at this
def Io{xs:aC}{a:Nat}(c:a<=b)(d:b<=xs.length):MH a b xs=eh xs a b:=by
 obtain⟨e,f⟩:=IY (b-a) a b xs cr d;exact Vs (e.trans (tM c).symm) λq=>by rw[f,uo c d]
def sk{xs:aC}{a:Nat}(h:b<=a+1)(c:a<=b)(d:b<=xs.length):eh xs a b=xs:=by rw[<-Io c d,sZ (by omega)]
def Me(lv o:aC)(k j:Nat):Bool:=decide (k<=jW (nth lv (nth o j).toNat))
def oA(lv o:aC)(k N i:Nat):Nat:=fE (Me lv o k) N i
def tu(lv o:aC)(k:Nat){N i:Nat}(h:i<=N):i<=oA lv o k N i/\oA lv o k N i<=N:=by
 have:=mJ (Me lv o k) N _ i rfl h;exact⟨this.1,this.2.1⟩
def ar(lv:aC)(k N:Nat)(o:aC)(i:Nat):aC:=
 if h:i<N then ar lv k N (eh o i (oA lv o k N i)) (oA lv o k N i+1)else o
termination_by N-i
decreasing_by
 have:=(tu lv o k (Nat.le_of_lt h)).1;omega
def lh{lv:aC}{o:aC}(h:i<N):ar lv k N o i=ar lv k N (eh o i (oA lv o k N i)) (oA lv o k N i+1):=by rw[ar,dif_pos h]
def lr{lv:aC}{o:aC}(h:N<=i):ar lv k N o i=o:=by rw[ar,dif_neg (by omega)]
def JR{lv:aC}{o:aC}(a:o.length=N)(h:i<N->Me lv o k i=OZ):ar lv k N o i=ar lv k N o (i+1):=by
 by_cases hi:i<N
 .rw[lh hi]
  have e:oA lv o k N i=i:=jt λ_=>h hi
  rw[e,sk aq cr aq]
 .rw[lr aq,lr aq]
def wO(lv:aC)(k N:Nat):∀(d:Nat) (o:aC) (i:Nat),N-i<=d->(ar lv k N o i).Perm o
 |0,o,i,h=>by rw[lr aq]
 |d+1,o,i,h=>by
  by_cases hi:i<N
  .rw[lh hi]
   have:=(tu lv o k (Nat.le_of_lt hi)).1;exact(wO lv k N d _ _ aq).trans (mW this)
  .rw[lr aq]
def Fs{lv o:aC}(d:o.length=N)(hi:i<=N)(h:oA lv o k N i<N):Me lv (eh o i (oA lv o k N i)) k (oA lv o k N i)=OZ:=by
 obtain⟨b,c⟩:=tu lv o k hi;have a:Me lv o k (oA lv o k N i)=OZ:=by
  unfold oA at h⊢;exact Ly hi h
 unfold Me at a⊢;rwa [uo b aq,if_neg aq]
def KO(lv:aC)(N least:Nat):Nat->aC->aC
 |0,o=>o
 |k+1,o=>if least<=k+1 then KO lv N least k (ar lv (k+1) N o 0)else o
def Ch(lv:aC)(N least:Nat):∀(k:Nat) (o:aC),(KO lv N least k o).Perm o
 |0,o=>List.Perm.refl _
 |k+1,o=>by
  simp only[KO];split
  .exact(Ch lv N least k _).trans (wO lv (k+1) N N o 0 aq)
  .exact List.Perm.refl _
def lg(lv:aC):Nat->Nat
 |0=>0
 |i+1=>max (lg lv i) (jW (nth lv i))
def fI(lv:aC):Nat->Nat
 |0=>127
 |i+1=>if jW (nth lv i)%2=1 then min (fI lv i) (jW (nth lv i))else fI lv i
def Ar(lv:aC):∀n,lg lv n<=126
 |0=>by simp[lg]
 |n+1=>by
  have:=Ar lv n;have:=Bq (nth lv n);simp only[lg];omega
def xj(lv:aC):∀n,1<=fI lv n/\fI lv n<=127
 |0=>by simp[fI]
 |n+1=>by
  have:=xj lv n;simp only[fI];split<;>omega
def vl(n:Nat):aC:=(List.range n).map Int.ofNat
def zh(n:Nat):(vl n).length=n:=by simp[vl]
def Oc(n:Nat):vl (n+1)=vl n++[(n:Int)]:=by simp[vl,List.range_succ]
def kU(lv:aC):aC:=KO lv lv.length (fI lv lv.length) (lg lv lv.length) (vl lv.length)
def Bf(lv:aC):(kU lv).Perm (vl lv.length):=Ch _ _ _ _ _
structure Bo(o:aC)(n:Nat):Prop where
 len:o.length=n
 ge:∀j,j<n->0<=nth o j
 lt:∀j,j<n->(nth o j).toNat<n
 inj:∀i j,i<n->j<n->(nth o i).toNat=(nth o j).toNat->i=j
 sur:∀k,k<n->∃j,j<n/\(nth o j).toNat=k
def nY{o:aC}{n:Nat}(h:o.Perm (vl n)):Bo o n:=by
 have t:o.length=n:=by rw[h.length_eq,zh]
 have d:∀j,j<n->∃k,k<n/\nth o j=(k:Int):=by
  intro j c;have f:nth o j∈o:=Cw;have m:=(h.mem_iff).1 f;simp only[vl,List.mem_map,List.mem_range]at m;obtain⟨k,s,p⟩:=m;exact⟨k,s,p.symm⟩
 have g:o.Nodup:=by
  rw[h.nodup_iff,vl];rw[List.nodup_iff_pairwise_ne,List.pairwise_map];exact List.Pairwise.imp (λh=>by intro e;apply h;exact Int.ofNat.inj e) List.nodup_range
 refine⟨t,λj c=> ?_,λj c=> ?_,λi j hi c e=> ?_,λk u=> ?_⟩
 .obtain⟨k,_,e⟩:=d j c
  omega
 .obtain⟨k,_,e⟩:=d j c
  omega
 .obtain⟨a,_,q⟩:=d i hi
  obtain⟨b,_,r⟩:=d j c;rw[q,r]at e;have l:nth o i=nth o j:=aq;rw[bZ aq,bZ aq]at l;exact(List.getElem_inj g).1 l
 .have f:(k:Int)∈o:=by
   rw[h.mem_iff,vl];simp only[List.mem_map,List.mem_range];exact⟨k,u,rfl⟩
  obtain⟨j,c,e⟩:=List.getElem_of_mem f;refine⟨j,aq, ?_⟩;rw[bZ c,e];omega
def Gc{lv:aC}{n:Nat}(h:lv.length=n):Bo (kU lv) n:=by
 subst h;exact nY (Bf lv)
section
variable{P:I3}{C:EE -> Prop}
def iu(o:Oper):Bool:=match o.op with
 | .call c=>(match c.callee with| .builtin .len=>OX|_=>OZ)
 | .move _=>OX
 | .assign _=>OX
 | .pick _ _ _=>OX
 | .load _ _=>OX
 | .fieldAddr _ _ _=>OX
 | .field _ _ _=>OX
 | .indexAddr _ _ _=>OX
 | .binOp _ _ _ _ _=>OX
 | .unOp _ _ _=>OX
 | .convert _ _ _=>OX
 | .slice _ _ _ _ _=>OX
 | .extract _ _=>OX
 | .build _ _=>OX
 | .nilCheck _=>OX
 |_=>OZ
def uw(s:Sem EN)(g:EN->EN){w:EE}{f:FuncId}{args:Array EN}{a:EE}:(do let x<-s;pure (Next.value (g x)):Sem Next).run P w≠ .ok (.enter f args) a:=by
 simp;cases s.run P w<;>simp[Result.andThen]
def JX(s:Sem Bool)(g:Bool->EN){w:EE}{f:FuncId}{args:Array EN}{a:EE}:(do let x<-s;pure (Next.value (g x)):Sem Next).run P w≠ .ok (.enter f args) a:=by
 simp;cases s.run P w<;>simp[Result.andThen]
def Ur{G:Prop}(s:G:=by
 simp only[*];exact uw _ id):G:=s
def mP(h:iu o=OX)(ρ:Operand->EN)(w:EE)(f:FuncId)(args:Array EN)(d:EE):(execOp ρ o).run P w≠ .ok (.enter f args) d:=by
 unfold iu at h;unfold execOp;split at h
 case h_1 c heq=>
  simp only[heq];split at h
  .rename_i b
   simp[resolve,b,invoke,builtin];exact λe=>uw (P:=P) _ id (by simpa using e)
  .cases h
 case h_2=>simp[*]
 case h_3=>simp[*]
 case h_4=>simp only[*];exact JX _ _
 case h_5=>exact Ur
 case h_6=>exact Ur
 case h_7=>exact Ur
 case h_8=>exact Ur
 case h_9=>exact Ur
 case h_10=>exact Ur
 case h_11=>exact Ur
 case h_12=>exact Ur
 case h_13=>exact Ur
 case h_14=>exact Ur
 case h_15=>
  simp only[*];intro h;split at h
  .simp[runtimePanic]at h
  .simp[runtimePanic]at h
  .simp[runtimePanic]at h
  .split at h
   .simp[runtimePanic]at h
   .rw[Sem.run_bind]at h
    generalize Sem.run P program w=r at h;cases r with
    |halt x y=>simp[Result.andThen]at h
    |ok v y=>
     simp only[Result.andThen]at h;rw[Sem.run_bind]at h;generalize Sem.run P (nilAhead _ _ _ _) y=a at h;cases a with
     |halt x y=>simp[Result.andThen]at h
     |ok v2 y2=>
      simp only[Result.andThen]at h;split at h<;>simp[unsupported,Result.andThen]at h
   .simp at h
  .simp at h
 case h_16=>cases h
def rD{d:EN}(e:iu o=OX)(h:o.quietAt P a C w v)(b:o.quietAt P a C w d):v=d:=by
 unfold Oper.quietAt at h b;have c:=mP (P:=P) e a.eval w;generalize(execOp a.eval o).run P w=r at*;cases r with
 |ok n w'=>
  cases n<;>simp only[Oper.quietUpon]at h b
  case value u=>exact h.2.symm.trans b.2
  case skip=>exact h.2.trans b.2.symm
  case enter f args=>exact absurd rfl (c f args w')
 |halt x w'=>simp only[Oper.quietUpon]at h
end
structure nO(R:EE->EE->Prop) where
 p:EN->EE->Prop
 st:∀v w w',p v w->R w w'->p v w'
section
variable{P:I3}{ops:Array Oper}{md:Region.Mode}{C:EE -> Prop}{R:EE -> EE -> Prop}{T:Option Tmp -> Option (nO R)}
def iD(P:I3)(C:EE->Prop)(w:EE)(S:nO R):Result Next->Prop
 | .ok (.value u) w'=>S.p u w'/\C w'/\R w w'
 | .ok (.enter f args) w'=>w'=w/\GK P f args w (λe a=>∃v,e=.returned v/\S.p v a/\C a/\R w a)
 |_=>False
attribute [go_sem] iD
@[go_sem] def mw(P : I3)(o : Oper)(a : Act)(C : EE -> Prop)(w : EE)(S : nO R) : Prop := iD P C w S ((execOp a.eval o).run P w)
def Has(C:EE->Prop)(S:nO R)(v:EN):Prop:=∃w,C w/\S.p v w
def gu(P:I3)(T:Option Tmp->Option (nO R))(C:EE->Prop)(o:Oper)(E:EE->Prop)(a:Act)(K:(EE->Prop)->Act->Prop):Prop:=
 match T o.dst with
 |some S=>(∀w,C w->mw P o a C w S)/\∀v,Has C S v->K (λw=>E w/\S.p v w) (a.put o.dst v)
 |none=>iu o=OX/\o.quiet P a C (K E)
def du(P:I3)(ops:Array Oper)(T:Option Tmp->Option (nO R))(C:EE->Prop)(Q:(EE->Prop)->Act->Prop):List Oper->(EE->Prop)->Act->Prop
 |[],E,a=>Q E a
 |o::rest,E,a=>if Region.wanted o (yielded ops a.tmps)then gu P T C o E a (du P ops T C Q rest)else du P ops T C Q rest E (a.put o.dst undef)
def gG(P:I3)(ops:Array Oper)(T:Option Tmp->Option (nO R))(C:EE->Prop)(i:Nat)(K:(EE->Prop)->Act->Prop)(E:EE->Prop)(a:Act):Prop:=
 match ops[i]? with
 |none=>K E a
 |some o=>if Region.wanted o (yielded ops a.tmps)then gu P T C o E a K else K E (a.put o.dst undef)
def nx{c:(EE->Prop)->Act->Prop}(h:∀E a,K E a->c E a)(b:gu P T C o E a K):gu P T C o E a c:=by
 unfold gu at*;split
 .rename_i S e
  rw[e]at b;exact⟨b.1,λv d=>h _ _ (b.2 v d)⟩
 .rename_i e
  rw[e]at b;exact⟨b.1,Oper.quiet_mono (h E) b.2⟩
def qT{d:(EE->Prop)->Act->Prop}(h:∀E a,K E a->d E a)(b:gG P ops T C i K E a):gG P ops T C i d E a:=by
 unfold gG at*;split
 .exact h _ _ (by simpa[*]using b)
 .rename_i o e
  simp only[e]at b;split
  .rename_i c;simp only[c,if_true]at b;exact nx h b
  .rename_i c;simp only[c]at b;exact h _ _ b
def gN(P:I3)(md:Region.Mode)(ops:Array Oper)(T:Option Tmp->Option (nO R))(C:EE->Prop)(Q:(EE->Prop)->Act->Prop):Nat->Array Bool->(EE->Prop)->Act->Prop
 |0,listed,E,a=>Region.ready md ops listed=[]/\Q E a
 |fuel+1,listed,E,a=>
  (Region.ready md ops listed=[]->Q E a)/\
  ∀i∈Region.ready md ops listed,gG P ops T C i (gN P md ops T C Q fuel (listed.setIfInBounds i OX)) E a
def wF(R:EE->EE->Prop)(E:EE->Prop):Prop:=∀w a,E w->R w a->E a
def oN{y:Act->EE->Prop}(p:C w)(l:E w)(i:wF R E)(h:∀E a d,C d->E d->wF R E->K E a->y a d)(m:gu P T C o E a K):o.wp P a w y Q':=by
 unfold gu at m;split at m
 .obtain⟨s,j⟩:=m
  have b:=s w p;unfold mw at b;unfold Oper.wp;generalize(execOp a.eval o).run P w=r at*;cases r with
  |ok n d=>
   cases n<;>simp only[iD]at b<;>simp only[Oper.upon]
   case value u=>
    rename_i S e;exact h (λw=>E w/\S.p u w) _ _ b.2.1 ⟨i _ _ l b.2.2,b.1⟩ (λu A k g=>⟨i _ _ k.1 g,S.st _ _ _ k.2 g⟩) (j _ ⟨_,b.2.1,b.1⟩)
   case enter f args=>
    rename_i S e;rw[b.1];refine b.2.mono λe D ⟨v,z,t,c,g⟩=> ?_;subst z;exact h (λw=>E w/\S.p v w) _ _ c ⟨i _ _ l g,t⟩ (λu A k g=>⟨i _ _ k.1 g,S.st _ _ _ k.2 g⟩) (j _ ⟨_,c,t⟩)
  |halt x d=>simp only[iD]at b
 .obtain⟨B,v,s,j⟩:=m
  have b:=s w p;unfold Oper.quietAt at b;unfold Oper.wp;have q:=mP (P:=P) B a.eval w;generalize(execOp a.eval o).run P w=r at*;cases r with
  |ok n d=>
   cases n<;>simp only[Oper.quietUpon]at b<;>simp only[Oper.upon]
   case value u=>rw[b.1,b.2];exact h _ _ _ p l i j
   case skip=>rw[b.1,<-b.2];exact h _ _ _ p l i j
   case enter f args=>exact absurd rfl (q f args d)
  |halt x d=>simp only[Oper.quietUpon]at b
def fU{k:Act->EE->Prop}(e:C w)(d:E w)(c:wF R E)(h:∀E a g,C g->E g->wF R E->K E a->k a g)(b:gG P ops T C i K E a):wpOp P ops Q' i k a w:=by
 unfold gG at b;unfold wpOp;split
 .rename_i j;simp only[j]at b;exact h _ _ _ e d c b
 .rename_i o j
  simp only[j]at b;split
  .rename_i f;simp only[f,if_true]at b;exact .inl (oN e d c h b)
  .rename_i f;simp only[f]at b;exact h _ _ _ e d c b
def gZ{Q:(EE->Prop)->Act->Prop}{Q':Exit->Act->EE->Prop}(c:∀E a w,C w->E w->Q E a->Q' .normal a w):∀(fuel:Nat) (listed:Array Bool) (E:EE->Prop) (a:Act) (w:EE),C w->E w->wF R E->
 gN P md ops T C Q fuel listed E a->wpAny P md ops Q' fuel listed a w
 |0,_,_,_,_,hw,hE,_,h=>⟨h.1,c _ _ _ hw hE h.2⟩
 |fuel+1,_,_,_,_,hw,hE,hs,h=>⟨λf=>c _ _ _ hw hE (h.1 f),λi hi=>fU hw hE hs (λj g k e b d=>gZ c fuel _ j g k e b d) (h.2 i hi)⟩
def fw(P:I3)(ops:Array Oper)(T:Option Tmp->Option (nO R))(C:EE->Prop)(o:Oper)(V:EN->Prop)(G:EN->(EE->Prop)->EE->Prop)(a:Act):Prop:=
 (Region.wanted o (yielded ops a.tmps)=OX/\∃S,T o.dst=OH S/\V=Has C S/\G=(λv E w=>E w/\S.p v w)/\∀w,C w->mw P o a C w S)∨
 (Region.wanted o (yielded ops a.tmps)=OX/\T o.dst=OJ/\iu o=OX/\(G=λ_ E=>E)/\∃v,(V=λu=>u=v)/\∀w,C w->o.quietAt P a C w v)∨
 (Region.wanted o (yielded ops a.tmps)=OZ/\(G=λ_ E=>E)/\V=λv=>v=undef)
def fw.has(h:fw P ops T C o V G a)(g:∃w,C w):∃v,V v:=by
 rcases h with⟨_,S,_,rfl,_,h⟩|⟨_,_,_,_,v,rfl,_⟩|⟨_,_,rfl⟩
 .obtain⟨w,i⟩:=g
  have:=h w i;unfold mw at this;generalize(execOp a.eval o).run P w=r at*;cases r with
  |ok n b=>
   cases n<;>simp only[iD]at this
   case value u=>exact⟨u,b,this.2.1,this.1⟩
   case enter f args=>
    obtain⟨e,b,j,⟨v,_,c,d,_⟩,_⟩:=this.2 [];exact⟨v,b,d,c⟩
  |halt x b=>simp only[iD]at this
 .exact⟨v,rfl⟩
 .exact⟨_,rfl⟩
def fw.comm(h:fw P ops T C o V G a)(v:EN)(E X:EE->Prop):G v (λw=>E w/\X w)=λw=>G v E w/\X w:=by
 rcases h with⟨_,S,_,_,rfl,_⟩|⟨_,_,_,rfl,_⟩|⟨_,rfl,_⟩
 .funext w
  exact propext ⟨fun⟨⟨c,d⟩,b⟩=>⟨⟨c,b⟩,d⟩,fun⟨⟨c,b⟩,d⟩=>⟨⟨c,d⟩,b⟩⟩
 .rfl
 .rfl
def fw.of_same{b:Act}(e:fw P ops T C o V G a)(d:execOp b.eval o=execOp a.eval o)
 (c:Region.wanted o (yielded ops b.tmps)=Region.wanted o (yielded ops a.tmps)):fw P ops T C o V G b:=by
 unfold fw mw Oper.quietAt at*;rw[d,c];exact e
def fw.lv(hi:ops[i]? =OH o)(e:fw P ops T C o V G a){K:(EE->Prop)->Act->Prop}(h:∀v,V v->K (G v E) (a.put o.dst v)):gG P ops T C i K E a:=by
 unfold gG;simp only[hi];rcases e with⟨b,S,d,rfl,rfl,c⟩|⟨b,d,f,rfl,v,rfl,c⟩|⟨b,rfl,rfl⟩
 .simp only[b,if_true]
  unfold gu;simp only[d];exact⟨c,h⟩
 .simp only[b,if_true]
  unfold gu;simp only[d];exact⟨f,v,c,h v rfl⟩
 .simp only[b,Bool.false_eq_true,if_false]
  exact h _ rfl
def jR(hi:ops[i]? =OH o)(h:gG P ops T C i K E a):∃V G,fw P ops T C o V G a/\∀v,V v->K (G v E) (a.put o.dst v):=by
 unfold gG at h;simp only[hi]at h;by_cases b:Region.wanted o (yielded ops a.tmps)=OX
 .simp only[b,if_true]at h
  unfold gu at h;split at h
  .rename_i S e
   exact⟨_,_,.inl ⟨b,S,e,rfl,rfl,h.1⟩,h.2⟩
  .rename_i e
   obtain⟨g,v,d,f⟩:=h;exact⟨λu=>u=v,λ_ E=>E,.inr (.inl ⟨b,e,g,rfl,v,rfl,d⟩),λu c=>by rw[c];exact f⟩
 .simp only[b]at h
  exact⟨λv=>v=undef,λ_ E=>E,.inr (.inr ⟨by simpa using b,rfl,rfl⟩),λu c=>by rw[c];exact h⟩
def uD{d c:Oper}(F:∃w,C w)(M:ops[j]? =OH c)(s:d.apart ops c=OX)
 (r:∀cs b,d.op≠ .select cs b) (i:∀cs b,c.op≠ .select cs b) {K:(EE->Prop)->Act->Prop} {E:EE->Prop} {a:Act}
 (k:fw P ops T C d V G a) (h:∀v,V v->gG P ops T C j K (G v E) (a.put d.dst v)):
 gG P ops T C j (λN I=>fw P ops T C d V G I/\∀v,V v->K (G v N) (I.put d.dst v)) E a:=by
 obtain⟨p,y,B⟩:=Oper.apart_spec s;have nL:∀(a:Act),fw P ops T C d V G a->∀u,fw P ops T C d V G (a.put c.dst u):=λa k u=>
  k.of_same (execOp_put d r a c.dst u B) (wanted_put d a c.dst u B)
 obtain⟨q,n⟩:=k.has F;obtain⟨w0,o⟩:=F;unfold gG at*;simp only[M]at*;have f:∀v,V v->if Region.wanted c (yielded ops a.tmps)=OX then gu P T C c (G v E) (a.put d.dst v) K else K (G v E) ((a.put d.dst v).put c.dst undef):=λv l=>by
  have:=h v l;rwa [wanted_put c a d.dst v p]at this
 clear h;split
 .rename_i t
  simp only[t,if_true]at f;unfold gu at*;cases D:T c.dst with
  |some S'=>
   simp only[D]at f⊢;refine⟨λw m=> ?_,λu z=>⟨nL a k u,λv l=> ?_⟩⟩
   .have:=(f q n).1 w m
    unfold mw at*;rwa [execOp_put c i a d.dst q p]at this
   .rw[<-Act.put_comm a v u y,k.comm]
    exact(f v l).2 u z
  |none=>
   simp only[D]at f⊢;obtain⟨H,u0,A,J⟩:=f q n;have g:∀w,C w->c.quietAt P a C w u0:=λw m=>by
    have:=A w m;unfold Oper.quietAt at*;rwa [execOp_put c i a d.dst q p]at this
   refine⟨H,u0,g,nL a k u0,λv l=> ?_⟩;obtain⟨_,u,z,L⟩:=f v l;have x:c.quietAt P a C w0 u:=by
    have:=z w0 o;unfold Oper.quietAt at*;rwa [execOp_put c i a d.dst v p]at this
   have e:=rD H (g w0 o) x;subst e;rw[<-Act.put_comm a v u0 y];exact L
 .rename_i t
  simp only[t]at f;exact⟨nL a k _,λv l=>by rw[<-Act.put_comm a v undef y];exact f v l⟩
def jQ{q:Oper}(K:∃w,C w)(hi:ops[i]? =OH q)(l:∀(j:Nat) (o:Oper) cs b,ops[j]? =OH o->o.op≠ .select cs b):
 ∀(fuel:Nat) (listed:Array Bool) (E:EE->Prop) (a:Act),
  (∀j m,ops[j]? =OH m->j≠i->listed.getD j OX=OZ->(∀e∈m.after,Region.binds md e=OX->e.on≠i)->q.apart ops m=OX)->
  i∈Region.ready md ops listed->fw P ops T C q V G a->
  (∀v,V v->gN P md ops T C Q fuel (listed.setIfInBounds i OX) (G v E) (a.put q.dst v))->gN P md ops T C Q (fuel+1) listed E a:=by
 intro fuel
 induction fuel with
 |zero=>
  intro listed E a _ hr x H;refine⟨λh=>Jp,λj z=> ?_⟩;by_cases c:j=i
  .subst c;exact x.lv hi H
  .have:=ready_mono z c
   obtain⟨v,D⟩:=x.has K;rw[(H v D).1]at this;cases this
 |succ fuel ih=>
  intro listed E a d hr x H;refine⟨λh=>Jp,λj z=> ?_⟩;by_cases c:j=i
  .subst c;exact x.lv hi H
  .have n:=λv D=>(H v D).2 j (ready_mono z c)
   obtain⟨g,m,p,u⟩:=mem_ready.1 z;have s:∀e∈m.after,Region.binds md e=OX->e.on≠i:=λe N L heq=>by
    have n:=u e N L;have J:=(mem_ready.1 hr).1;rw[heq]at n;rcases Nat.lt_or_ge i listed.size with A|A
    .simp[A]at J n;rw[J]at n;cases n
    .simp[Array.getElem?_eq_none A]at n
   have O:=uD K p (d j m p c g s) (λcs b=>l i q cs b hi) (λcs b=>l j m cs b p) x n;have f:∀k t,ops[k]? =OH t->k≠i->(listed.setIfInBounds j OX).getD k OX=OZ->
    (∀e∈t.after,Region.binds md e=OX->e.on≠i)->q.apart ops t=OX:=λk t M B y F=>by
    refine d k t M B ?_ F;by_cases r:j=k
    .subst r;exact g
    .rw[getD_set_ne OX r]at y;exact y
   refine qT (λU S I=>ih (listed.setIfInBounds j OX) U S f (ready_mono hr (Ne.symm c)) I.1 ?_) O;rw[Array.setIfInBounds_comm _ _ c];exact I.2
def iT{Q:(EE->Prop)->Act->Prop}(e:∃w,C w)(d:Region.noSelect ops=OX):∀(l:List Oper) (k:Nat) (listed:Array Bool) (E:EE->Prop) (a:Act),(∀j,l[j]? =ops[k+j]?)->
 Region.lexFrom md ops l.length k listed=OX->du P ops T C Q l E a->gN P md ops T C Q l.length listed E a
 |[],_,_,_,_,_,hB,h=>⟨SY,h⟩
 |o::l,k,listed,E,a,hl,hB,h=>by
  have h0:ops[k]? =OH o:=by simpa using (hl 0).symm
  simp only[List.length_cons,Region.lexFrom,Bool.and_eq_true]at hB;obtain⟨⟨i,m⟩,b⟩:=hB;have c:gG P ops T C k (du P ops T C Q l) E a:=k9;obtain⟨V,G,f,hK⟩:=jR h0 c;exact jQ e h0 (Region.noSelect_spec d) l.length listed E a (Region.free_spec h0 m) (by simpa using i) f
   (λv g=>iT e d l (k+1) _ _ _ (λj=>afC) b (hK v g))
def bm{Q:Exit->Act->EE->Prop}(T:Option Tmp->Option (nO R))(f:P.follows .mixedOrders=OX)(d:Region.lexB .any l.toArray=OX)
 (h:du P l.toArray T (λb=>∃n:aI w,b=n.1) (λE c=>∀n:aI w,E n.1->Q .normal c n.1) l (λ_=>True) a):(Code.region g l.toArray OX).wp P Q a w:=by
 simp only[Region.lexB,Bool.and_eq_true]at d;have e:(λb=>∃n:aI w,b=n.1) {w with drawn:=w.drawn+1}:=⟨⟨{w with drawn:=w.drawn+1},⟨rfl,rfl,rfl,Nat.le_refl _,λ_ _=>rfl⟩⟩,rfl⟩;refine wp_region_any f (gZ (T:=T) (C:=λb=>∃n:aI w,b=n.1) (Q:=λE c=>∀n:aI w,E n.1->Q .normal c n.1) (λE c b nM hE h=>Th) _ _ (λ_=>True) _ _ e trivial (λ_ _ _ _=>trivial) ?_);have:=iT (md:=.any) ⟨_,e⟩ d.1 l 0 (Array.replicate l.toArray.size OZ) (λ_=>True) a aT (by simpa using d.2) h;simpa using this
def pF(b:Region.wanted o (yielded ops a.tmps)=OZ)(h:du P ops T C Q rest E (a.put o.dst undef)):du P ops T C Q (o::rest) E a:=by
 unfold du;rw[if_neg (by rw[b];exact Bool.false_ne_true)];exact h
def cH(c:Region.wanted o (yielded ops a.tmps)=OX)(d:T o.dst=OJ)(b:iu o=OX)
 (h:∀K:Act->Prop,(∀a,du P ops T C Q rest E a->K a)->o.quiet P a C K):du P ops T C Q (o::rest) E a:=by
 unfold du;rw[if_pos c];unfold gu;rw[d];exact⟨b,h _ λ_ h=>h⟩
def mLw{R G:Prop}(h:R)(s:R->G:=by
 intro b
 repeat(refine cH aD aD aD ?_;intro c a;go_big_quiet_op;go_big_quiet_on)
 exact b):G:=s h
def dA(S:nO R)(d:Region.wanted o (yielded ops a.tmps)=OX)(e:T o.dst=OH S)
 (b:∀w,C w->mw P o a C w S) (c:∀v,Has C S v->du P ops T C Q rest (λw=>E w/\S.p v w) (a.put o.dst v)):du P ops T C Q (o::rest) E a:=by
 unfold du;rw[if_pos d];unfold gu;rw[e];exact⟨b,c⟩
def lwA{P:I3}{ops:Array Oper}{R:EE->EE->Prop}{w0:EE}{T:Option Tmp->Option (nO R)}(S:nO R)
 (d:∀c:aI w0,mw P o a (λb=>∃n:aI w0,b=n.1) c.1 S) (f:∀v,Has (λb=>∃n:aI w0,b=n.1) S v->du P ops T (λb=>∃n:aI w0,b=n.1) Q rest (λw=>E w/\S.p v w) (a.put o.dst v)) (g:Region.wanted o (yielded ops a.tmps)=OX:=by rfl) (h:T o.dst=OH S:=by rfl):du P ops T (λb=>∃n:aI w0,b=n.1) Q (o::rest) E a:=
 dA S g h (λ_ ⟨n,e⟩=>e▸d n) f
def nB{Q Q':(EE->Prop)->Act->Prop}(h:∀E a,Q E a->Q' E a):∀(l:List Oper) (E:EE->Prop) (a:Act),du P ops T C Q l E a->du P ops T C Q' l E a
 |[],_,_,hh=>h _ _ hh
 |o::rest,E,a,hh=>by
  unfold du at*;split
  .rename_i b;simp only[b,if_true]at hh;exact nx (λE a=>nB h rest E a) hh
  .rename_i b;simp only[b]at hh;exact nB h rest _ _ hh
end
abbrev Sat:=nO λw a=>az w a
abbrev vH(E:EE->Prop):Prop:=wF (λw a=>az w a) E
section
variable{P:I3}{ops:Array Oper}{C:EE -> Prop}{T:Option Tmp -> Option (EN -> Prop)}
@[go_sem] def Fw(P : I3)(C : EE -> Prop)(w : EE)(S : EN -> Prop) : Result Next -> Prop
 | .ok (.value u) w'=>w'=w/\S u
 | .ok (.enter f args) w'=>w'=w/\GK P f args w (λe a=>∃v,e=.returned v/\S v/\C a)
 |_=>False
@[go_sem] def gy(P : I3)(o : Oper)(a : Act)(C : EE -> Prop)(w : EE)(S : EN -> Prop) : Prop := Fw P C w S ((execOp a.eval o).run P w)
def sv(S:EN->Prop):nO λ_ _=>True:=⟨λv _=>S v,λ_ _ _ h _=>h⟩
def svT(T:Option Tmp->Option (EN->Prop))(d:Option Tmp):Option (nO λ_ _=>True):=(T d).map sv
def pH(P:I3)(ops:Array Oper)(T:Option Tmp->Option (EN->Prop))(C:EE->Prop)(Q:Act->Prop)(l:List Oper)(a:Act):Prop:=du P ops (svT T) C (λ_ a=>Q a) l (λ_=>True) a
def abx{Q:Act->Prop}:∀(l:List Oper) (E:EE->Prop) (a:Act),pH P ops T C Q l a->du P ops (svT T) C (λ_ a=>Q a) l E a:=by
 have key:∀(l:List Oper) (E b:EE->Prop) (a:Act),du P ops (svT T) C (λ_ a=>Q a) l E a->du P ops (svT T) C (λ_ a=>Q a) l b a:=by
  intro l
  induction l with
  |nil=>intro E b a h;exact h
  |cons o l ih=>
   intro E b a h;unfold du at h⊢;split
   .rename_i c
    rw[if_pos c]at h;unfold gu at h⊢;split
    .rename_i S e
     rw[e]at h;exact⟨h.1,λv d=>ih _ _ _ (h.2 v d)⟩
    .rename_i e
     rw[e]at h;exact⟨h.1,Oper.quiet_mono (λa=>ih _ _ a) h.2⟩
   .rename_i c
    rw[if_neg c]at h;exact ih _ _ _ h
 exact λl E a h=>key l _ _ a h
def aE{e:Nat}{Q:Exit->Act->EE->Prop}(T:Option Tmp->Option (EN->Prop))(c:P.follows .mixedOrders=OX)(f:Region.lexB .any l.toArray=OX)
 (h:pH P l.toArray T (λb=>∃n:aI w,b=n.1) (λd=>∀b,(∃n:aI w,b=n.1)->Q .normal d b) l a):(Code.region e l.toArray OX).wp P Q a w:=
 bm (svT T) c f (nB (λ_ _ h n _=>h _ ⟨n,rfl⟩) l _ a h)
def UQ{Q:Act->Prop}(b:Region.wanted o (yielded ops a.tmps)=OZ)(h:pH P ops T C Q rest (a.put o.dst undef)):pH P ops T C Q (o::rest) a:=pF b h
def cB{Q:Act->Prop}(c:Region.wanted o (yielded ops a.tmps)=OX)(d:T o.dst=OJ)(b:iu o=OX)
 (h:∀K:Act->Prop,(∀a,pH P ops T C Q rest a->K a)->o.quiet P a C K):pH P ops T C Q (o::rest) a:=cH c (by unfold svT;rw[d];rfl) b h
def cK{Q:Act->Prop}(S:EN->Prop)(k:Region.wanted o (yielded ops a.tmps)=OX)(m:T o.dst=OH S)
 (g:∀w,C w->gy P o a C w S) (j:∀v,S v->pH P ops T C Q rest (a.put o.dst v)):pH P ops T C Q (o::rest) a:=by
 refine dA (sv S) k (by unfold svT;rw[m];rfl) (λw c=> ?_) λv ⟨_,_,b⟩=>abx _ _ _ (j v b)
 have h:=g w c;unfold gy at h;unfold mw;generalize(execOp a.eval o).run P w=r at*;cases r with
 |ok n w'=>
  cases n<;>simp only[Fw]at h<;>simp only[iD]
  case value u=>exact⟨h.2,h.1▸c,trivial⟩
  case enter f args=>exact⟨h.1,h.2.mono λe l ⟨v,d,b,i⟩=>⟨v,d,b,i,trivial⟩⟩
 |halt x w'=>simp only[Fw]at h
def lsA{P:I3}{ops:Array Oper}{w0:EE}{T:Option Tmp->Option (EN->Prop)}{Q:Act->Prop}(S:EN->Prop)
 (d:∀c:aI w0,gy P o a (λb=>∃n:aI w0,b=n.1) c.1 S) (f:∀v,S v->pH P ops T (λb=>∃n:aI w0,b=n.1) Q rest (a.put o.dst v)) (g:Region.wanted o (yielded ops a.tmps)=OX:=by rfl) (h:T o.dst=OH S:=by rfl):pH P ops T (λb=>∃n:aI w0,b=n.1) Q (o::rest) a:=
 cK S g h (λ_ ⟨n,e⟩=>e▸d n) f
end
def SB(v:EN):Prop:=∃b:Bool,v=.bool b
def SI(v:EN):Prop:=∃z:Int,v=ae aj z
def kC(t:Nat)(S:EN->Prop)(d:Option Tmp):Option (EN->Prop):=if d=OH t then OH S else OJ
def kp(c:Int):Bool:=c==1||c==2||c==3
def uM(a b:Int):Bool:=
 if a==9 then b==9||b==10||b==12||b==13 else if a==12||a==10 then b==10||b==11 else if a==13||a==11 then b==11 else OZ
def iL(ks:aC):Nat->Bool
 |0=>OZ
 |k+1=>if nth ks k==4 then iL ks k else nth ks k==14
def mx(ks:aC):Nat->Nat
 |0=>0
 |k+1=>if nth ks k==6 then mx ks k+1 else 0
def qM(a b:Int)(c d:Bool):Bool:=
 if(a==1&&b==2||uM a b)=OX then OX
 else if(!kp a&&(b==4||b==5||b==8))=OX then OX
 else if(a==7&& !kp b)=OX then OX
 else if(a==5&&b==14&&c)=OX then OX
 else a==6&&b==6&&d
def Oh(a b:Int)(c d:Bool):Bool:=
 if(a==1&&b==2)=OX then OX
 else if(kp a||kp b)=OX then OZ
 else if(uM a b||b==4||b==5||b==8||a==7)=OX then OX
 else if(b==14)=OX then(a==5&&c)
 else a==6&&b==6&&d
def Ns(a b:Int)(f d:Bool):Oh a b f d=qM a b f d:=by
 have split:∀c:Int,(c=1∨c=2∨c=3∨c=4∨c=5∨c=6∨c=7∨c=8∨c=9∨c=10∨c=11∨c=12∨c=13∨c=14)∨(c≠1/\c≠2/\c≠3/\c≠4/\c≠5/\c≠6/\c≠7/\c≠8/\c≠9/\c≠10/\c≠11/\c≠12/\c≠13/\c≠14):=λc=>by omega
 rcases split a with g|g
 .rcases split b with e|e
  .rcases g with rfl|rfl|rfl|rfl|rfl|rfl|rfl|rfl|rfl|rfl|rfl|rfl|rfl|rfl<;>
    rcases e with rfl|rfl|rfl|rfl|rfl|rfl|rfl|rfl|rfl|rfl|rfl|rfl|rfl|rfl<;>cases f<;>cases d<;>rfl
  .rcases g with rfl|rfl|rfl|rfl|rfl|rfl|rfl|rfl|rfl|rfl|rfl|rfl|rfl|rfl<;>simp[Oh,qM,kp,uM,e]
 .rcases split b with e|e
  .rcases e with rfl|rfl|rfl|rfl|rfl|rfl|rfl|rfl|rfl|rfl|rfl|rfl|rfl|rfl<;>simp[Oh,qM,kp,uM,g]
  .simp[Oh,qM,kp,uM,g,e]
def kS(ks:aC)(i:Nat):Bool:=qM (nth ks (i-1)) (nth ks i) (iL ks (i-1)) (mx ks i%2==1)
def mC(ks:aC)(i:Nat):Bool:=decide (0<ks.length/\i<=ks.length)&&(i==0||i==ks.length|| !kS ks i)
def Ms(ks:aC)(i:Int):Bool:=decide (0<=i)&&mC ks i.toNat
def Ed(ks:aC)(m:Nat):aC:=((List.range m).filter (mC ks)).map Int.ofNat
def xz(ks:aC)(m:Nat):Ed ks (m+1)=if mC ks m=OX then Ed ks m++[(m:Int)]else Ed ks m:=by
 unfold Ed;rw[List.range_succ,List.filter_append,List.map_append];by_cases h:mC ks m=OX
 .simp[h]
 .simp[h]
def bounds(ks:aC):aC:=Ed ks (ks.length+1)
def Xg(i:Nat):mC [] i=OZ:=by simp[mC]
def We{ks:aC}(h:ks.length<i):mC ks i=OZ:=by simp[mC];omega
def pz{ks:aC}(h:0<ks.length):mC ks 0=OX:=by simp[mC,h]
def zj{ks:aC}(h:0<ks.length):mC ks ks.length=OX:=by simp[mC,h]
def Ii{ks:aC}(d:0<i)(h:i<ks.length):mC ks i= !kS ks i:=by
 have b:(i==0)=OZ:=pW;have c:(i==ks.length)=OZ:=pW;have a:decide (0<ks.length/\i<=ks.length)=OX:=Je;simp[mC,b,c,a]
def alone(a b:Int)(d c:Bool):
 (kp a=OX->qM a b d c=(a==1&&b==2))/\(a=0->b=0->qM a b d c=OZ)/\(a=0->(b=4∨b=5∨b=8)->qM a b d c=OX):=by
 refine⟨λh=> ?_,λe f=> ?_,λe f=> ?_⟩
 .have:a=1∨a=2∨a=3:=by simpa[kp,or_assoc]using h
  by_cases g:b=2
  .subst g;rcases this with rfl|rfl|rfl<;>simp[qM,kp,uM]
  .rcases this with rfl|rfl|rfl<;>simp[qM,kp,uM,g]
 .subst e;subst f;rfl
 .subst e
  rcases f with rfl|rfl|rfl<;>rfl
def gj(ks:aC)(m:Nat):List Nat:=(List.range m).filter (mC ks)
def kr{ks:aC}(h:mC ks m=OX):gj ks (m+1)=gj ks m++[m]:=by
 unfold gj;rw[List.range_succ,List.filter_append];simp[h]
def yy{ks:aC}(h:mC ks m=OZ):gj ks (m+1)=gj ks m:=by
 unfold gj;rw[List.range_succ,List.filter_append];simp[h]
def pV{ks:aC}{x:Nat}(h:x∈gj ks m):x<m/\mC ks x=OX:=by
 unfold gj at h;have:=List.mem_filter.1 h;exact⟨List.mem_range.1 this.1,this.2⟩
def kY(ks:aC)(m:Nat):(gj ks m).length<=m:=by
 have:=List.length_filter_le (mC ks) (List.range m);rw[List.length_range]at this;exact this
def yJ(ks:aC)(s:Nat):∀d,∃r,gj ks (s+d)=gj ks s++r/\∀x∈r,s<=x/\x<s+d/\mC ks x=OX
 |0=>⟨[],aT,aT⟩
 |d+1=>by
  obtain⟨r,g,i⟩:=yJ ks s d;cases h:mC ks (s+d)with
  |true=>
   refine⟨r++[s+d], ?_,λx f=> ?_⟩
   .rw[show s+(d+1)=s+d+1 by omega,kr h,g,List.append_assoc]
   .rcases List.mem_append.1 f with e|e
    .obtain⟨a,b,c⟩:=i x e
     exact⟨a,aq,c⟩
    .simp at e;subst e;exact⟨aq,aq,h⟩
  |false=>
   refine⟨r, ?_,λx f=> ?_⟩
   .rw[show s+(d+1)=s+d+1 by omega,yy h,g]
   .obtain⟨a,b,c⟩:=i x f
    exact⟨a,aq,c⟩
def dC(ks:aC):List Nat:=gj ks (ks.length+1)
def Dr(ks:aC):bounds ks=(dC ks).map Int.ofNat:=rfl
def uX{ks:aC}(h:s<=ks.length+1):∃r,dC ks=gj ks s++r/\∀x∈r,s<=x/\x<=ks.length/\mC ks x=OX:=by
 obtain⟨r,d,e⟩:=yJ ks s (ks.length+1-s);rw[show s+(ks.length+1-s)=ks.length+1 by omega]at d;refine⟨r,d,λx f=> ?_⟩;obtain⟨a,b,c⟩:=e x f;exact⟨a,aq,c⟩
def dw(l:List Nat)(k:Nat):Nat:=l.getD k 0
def QU{l r:List Nat}(h:k<l.length):dw (l++r) k=dw l k:=by simp[dw,List.getElem?_append_left h]
def tw{l:List Nat}(h:k<l.length):dw l k∈l:=by
 unfold dw;simp[h]
def abm{l r:List Nat}(h:l.length<=k)(b:k<(l++r).length):dw (l++r) k∈r:=by
 unfold dw;simp only[List.length_append]at b;have a:k-l.length<r.length:=aq;simp[List.getElem?_append_right h,a]
def pt{l:List Nat}(h:k<l.length):nth (l.map Int.ofNat) k=(dw l k:Int):=by
 unfold nth dw;simp[h]
def Qd{ks:aC}(b:s<=ks.length+1)(h:k<(gj ks s).length):dw (dC ks) k<s/\mC ks (dw (dC ks) k)=OX:=by
 obtain⟨r,a,_⟩:=uX b;rw[a,QU h];exact pV (tw h)
def AK{ks:aC}(d:s<=ks.length+1)(h:(gj ks s).length<=k)(a:k<(dC ks).length):s<=dw (dC ks) k/\dw (dC ks) k<=ks.length/\mC ks (dw (dC ks) k)=OX:=by
 obtain⟨r,c,b⟩:=uX d;rw[c]at a⊢;exact b _ (abm h a)
def R8{ks:aC}{t:Nat}(h:s<=t):(gj ks s).length<=(gj ks t).length:=by
 obtain⟨r,a,_⟩:=yJ ks s (t-s);rw[show s+(t-s)=t by omega]at a;rw[a];simp
def aag{ks:aC}(b:s<=ks.length)(h:mC ks s=OX):(gj ks s).length<(dC ks).length/\dw (dC ks) (gj ks s).length=s:=by
 obtain⟨r,a,_⟩:=uX (ks:=ks) (s:=s+1) aq;rw[kr h]at a;rw[a];refine⟨iY, ?_⟩;rw[QU aT];simp[dw]
def mQ(ks:aC)(s:Nat):Nat:=(gj ks s).getLastD 0
def uk(ks:aC):mQ ks 0=0:=rfl
def pk{ks:aC}(h:mC ks s=OX):mQ ks (s+1)=s:=by
 unfold mQ;rw[kr h];simp
def uj{ks:aC}(h:mC ks s=OZ):mQ ks (s+1)=mQ ks s:=by
 unfold mQ;rw[yy h]
def Il(ks:aC):mQ ks 1=0:=by
 cases h:mC ks 0 with
 |true=>rw[pk h]
 |false=>rw[uj h,uk]
def uf(l:List Nat)(k:Nat):List (Nat×Nat):=(List.range k).map λi=>(dw l i,dw l (i+1))
def ik(l:List Nat)(k:Nat):uf l (k+1)=uf l k++[(dw l k,dw l (k+1))]:=by
 unfold uf;rw[List.range_succ,List.map_append];rfl
def jg(l:List Nat)(k:Nat):(uf l k).length=k:=by simp[uf]
def uL(ks:aC):List (Nat×Nat):=uf (dC ks) ((dC ks).length-1)
def oJ{ks:aC}(h:0<ks.length):dw (dC ks) 0=0/\0<(dC ks).length:=by
 obtain⟨b,a⟩:=aag (Nat.zero_le _) (pz h);exact⟨a,by have e:(gj ks 0).length=0:=rfl;omega⟩
def qk{ks:aC}(h:0<ks.length):(dC ks).length=(gj ks ks.length).length+1/\dw (dC ks) ((dC ks).length-1)=ks.length:=by
 have a:=kr (zj h);have e:dC ks=gj ks ks.length++[ks.length]:=a;rw[e];refine⟨aT, ?_⟩;simp[dw]
def QB{ks:aC}(h:0<ks.length):2<=(dC ks).length:=by
 have b:=(qk h).1;have a:=R8 (ks:=ks) (s:=1) (t:=ks.length) aq;rw[kr (pz h)]at a;have:(gj ks 0).length=0:=rfl;simp at a;omega
def qO{ks:aC}(h:i+1<(dC ks).length):dw (dC ks) i<dw (dC ks) (i+1):=by
 have hi:i<(dC ks).length:=aq;have e:dw (dC ks) i∈dC ks:=tw hi;obtain⟨g,b⟩:=pV e;obtain⟨f,j⟩:=aag aq b;have c:=kr b;rcases Nat.lt_trichotomy (gj ks (dw (dC ks) i)).length i with a|a|a
 .have d:=(AK (ks:=ks) (s:=dw (dC ks) i+1) aq (k:=i) (by rw[c];simp;omega) hi).1
  omega
 .have d:=(AK (ks:=ks) (s:=dw (dC ks) i+1) aq (k:=i+1) (by rw[c];simp;omega) h).1
  omega
 .have d:=(Qd (ks:=ks) (s:=dw (dC ks) i) aq a).1
  omega
def tQ(xs:aC)(i:Nat):Int:=(aN (nth xs i)).jv
def gE(xs:aC)(i:Nat):Bool:=nth xs i==13&&(decide (i+1<xs.length)&&nth xs (i+1)==10)
def fQ(xs:aC)(i:Nat):Bool:=(tQ xs i==11&& !gE xs i)||decide (i+1=xs.length)
def vK(xs:aC):Nat->Nat
 |0=>0
 |k+1=>if fQ xs k=OX then k+1 else vK xs k
def par(xs:aC):Nat->List (Nat×Nat)
 |0=>[]
 |k+1=>if fQ xs k=OX then par xs k++[(vK xs k,k+1)]else par xs k
def sr(xs:aC):List (Nat×Nat):=par xs xs.length
def pC{xs:aC}(h:fQ xs k=OX):par xs (k+1)=par xs k++[(vK xs k,k+1)]:=by simp[par,h]
def um{xs:aC}(h:fQ xs k=OZ):par xs (k+1)=par xs k:=by simp[par,h]
def pK{xs:aC}(h:fQ xs k=OX):vK xs (k+1)=k+1:=by simp[vK,h]
def yw{xs:aC}(h:fQ xs k=OZ):vK xs (k+1)=vK xs k:=by simp[vK,h]
def Qr(xs:aC):∀k,vK xs k<=k
 |0=>Nat.le_refl _
 |k+1=>by
  have:=Qr xs k;simp only[vK];split<;>omega
def yi(xs:aC):∀k,(par xs k).length<=k
 |0=>Nat.le_refl _
 |k+1=>by
  have:=yi xs k;simp only[par];split
  .simp;omega
  .omega
def cV(ps:List (Nat×Nat))(j:Nat):Nat×Nat:=ps.getD j (0,0)
def qF(p:Nat×Nat):List EN:=[ae aj p.1,ae aj p.2]
def dG(ps:List (Nat×Nat)):List EN:=ps.flatMap qF
def nw(ps qs:List (Nat×Nat)):dG (ps++qs)=dG ps++dG qs:=by simp[dG]
def xq(p:Nat×Nat):dG [p]=[ae aj p.1,ae aj p.2]:=by simp[dG,qF]
def jY:∀(ps:List (Nat×Nat)) (j:Nat),j<ps.length->(dG ps)[j*2]? =OH (ae aj (cV ps j).1)/\(dG ps)[j*2+1]? =OH (ae aj (cV ps j).2)
 |[],j,h=>by simp at h
 |p::ps,0,_=>by simp[dG,qF,cV]
 |p::ps,j+1,h=>by
  have ih:=jY ps j zl;have a:dG (p::ps)=ae aj p.1:: ae aj p.2::dG ps:=by simp[dG,qF]
  have b:cV (p::ps) (j+1)=cV ps j:=by simp[cV]
  rw[a,b,show(j+1)*2=j*2+1+1 by omega];simp only[List.getElem?_cons_succ];exact ih
def jy(a:aC):Nat->List Nat
 |0=>[]
 |i+1=>if 0<i/\nth a (i-1)=nth a i then jy a i else jy a i++[i]
def dI(a:aC)(i:Nat):List (Nat×Nat):=uf (jy a i++[i]) (jy a i).length
def cA{S:List Nat}(h:k<S.length):dw (S++[i]) k=dw S k:=by simp[dw,List.getElem?_append_left h]
def iE(S:List Nat)(i:Nat):dw (S++[i]) S.length=i:=by simp[dw]
def lI(a:aC):∀i,0<i->0<(jy a i).length
 |0,h=>by omega
 |i+1,_=>by
  unfold jy;split
  .rename_i h;exact lI a i h.1
  .simp
def qy(a:aC):∀i k,k<(jy a i).length->dw (jy a i) k<i
 |0,k,h=>by simp[jy]at h
 |i+1,k,h=>by
  unfold jy at h⊢;split at h
  .rename_i c;rw[if_pos c];have:=qy a i k h;omega
  .rename_i c
   rw[if_neg c];rcases Nat.lt_or_ge k (jy a i).length with b|b
   .rw[cA b];have:=qy a i k b;omega
   .simp at h
    have:k=(jy a i).length:=aq;subst this;rw[iE];omega
def ya(a:aC):∀i k,k+1<(jy a i).length->dw (jy a i) k<dw (jy a i) (k+1)
 |0,k,h=>by simp[jy]at h
 |i+1,k,h=>by
  unfold jy at h⊢;split at h
  .rename_i c;rw[if_pos c];exact ya a i k h
  .rename_i c
   rw[if_neg c];rcases Nat.lt_or_ge (k+1) (jy a i).length with b|b
   .rw[cA b,cA aq];exact ya a i k b
   .simp at h
    have:k+1=(jy a i).length:=aq;rw[this,iE,cA aq];exact qy a i k aq
def Ou(a:aC):∀i,(jy a i).length<=i
 |0=>by simp[jy]
 |i+1=>by
  have:=Ou a i;unfold jy;split
  .omega
  .simp;omega
def kH(a:aC)(i:Nat):(dI a i).length=(jy a i).length:=jg _ _
def kN(l:List Nat)(m k:Nat)(h:k<m):cV (uf l m) k=(dw l k,dw l (k+1)):=by simp[cV,uf,h]
def mV(a:aC)(i k:Nat)(h:k<(dI a i).length):(cV (dI a i) k).1<(cV (dI a i) k).2/\(cV (dI a i) k).2<=i/\(k+1<(dI a i).length->(cV (dI a i) k).2=(cV (dI a i) (k+1)).1):=by
 rw[kH]at h;rw[kH];unfold dI;rw[kN _ _ _ h,cA h];rcases Nat.lt_or_ge (k+1) (jy a i).length with b|b
 .rw[kN _ _ _ b,cA b]
  have c:=ya a i k b;have d:=qy a i (k+1) b;exact⟨c,by show _<=_;omega,λ_=>rfl⟩
 .have:k+1=(jy a i).length:=by omega
  rw[this,iE];exact⟨qy a i k h,Nat.le_refl _,λh=>absurd h aq⟩
def zV(S:List Nat)(i j:Nat):∀m,m<S.length->uf (S++[i]) m=uf (S++[j]) m
 |0,_=>rfl
 |m+1,h=>by
  rw[ik,ik,zV S i j m aq,cA aq,cA aq,cA aq,cA aq]
def yt(l a:List Nat):∀m,(∀k,k<=m->dw l k=dw a k)->uf l m=uf a m
 |0,_=>rfl
 |m+1,h=>by rw[ik,ik,yt l a m λk b=>h k aq,h m aq,h (m+1) aq]
def pq(a:aC)(i:Nat)(h:¬(0<i/\nth a (i-1)=nth a i)):dI a (i+1)=dI a i++[(i,i+1)]:=by
 unfold dI;have e:jy a (i+1)=jy a i++[i]:=by rw[jy,if_neg h]
 rw[e,List.length_append];show uf _ ((jy a i).length+1)=_;rw[ik,cA aT,iE]
 congr 1
 .exact(yt _ _ _ λk c=>by
   have:k<(jy a i++[i]).length:=by simp;omega
   rw[cA this])
 .have b:=iE (jy a i++[i]) (i+1)
  rw[List.length_append,List.length_singleton]at b;rw[b]
def Av(a:aC)(i:Nat)(h:0<i/\nth a (i-1)=nth a i):dI a (i+1)=(dI a i).set ((dI a i).length-1) ((cV (dI a i) ((dI a i).length-1)).1,i+1):=by
 have j:=lI a i h.1;have e:jy a (i+1)=jy a i:=by rw[jy,if_pos h]
 have d:=kH a i;rw[d];unfold dI;rw[e];generalize jy a i=S at*;obtain⟨m,b⟩:∃m,S.length=m+1:=⟨S.length-1,aq⟩;rw[b,Nat.add_sub_cancel,kN _ _ _ aq,ik,ik,zV S (i+1) i m aq,List.set_append_right _ _ (by rw[jg];omega),jg];simp only[Nat.sub_self,List.set_cons_zero];have f:dw (S++[i+1]) m=dw S m:=cA aq;have g:dw (S++[i]) m=dw S m:=cA aq;have c:dw (S++[i+1]) (m+1)=i+1:=by rw[<-b];exact iE _ _
 rw[f,g,c]
def qI:∀(ps:List (Nat×Nat)) (j b:Nat),j<ps.length->(dG ps).set (j*2+1) (ae aj (b:Int))=dG (ps.set j ((cV ps j).1,b))
 |[],j,b,h=>by simp at h
 |p::ps,0,b,_=>by simp[dG,qF,cV]
 |p::ps,j+1,b,h=>by
  have ih:=qI ps j b zl;have a:dG (p::ps)=ae aj p.1:: ae aj p.2::dG ps:=by simp[dG,qF]
  have c:cV (p::ps) (j+1)=cV ps j:=by simp[cV]
  rw[a,c,List.set_cons_succ,show(j+1)*2=(j*2+1)+1 by omega,List.set_cons_succ,ih];simp[dG,qF]
structure gF where
 iz:Int
 id:Int
 x:Int
 y:Int
deriving Inhabited
structure bj where
 f:Int
 t:Int
 lv:Int
 x:Int
 wd:Int
 gs:List gF
deriving Inhabited
def pM(gs:List gF)(j:Nat):gF:=gs.getD j default
def aR(bs:List bj)(j:Nat):bj:=bs.getD j default
def GW{gs:List gF}(h:k<gs.length):pM gs k=gs[k]:=by simp[pM,h]
def jK{bs:List bj}(h:k<bs.length):aR bs k=bs[k]:=by simp[aR,h]
def xH(o:aC)(j:Nat):Nat:=(nth o j).toNat
def kW(bs:List bj)(o:aC):Nat->Int
 |0=>0
 |j+1=>kW bs o j+(aR bs (xH o j)).wd
def bg(bs:List bj):Nat->Int
 |0=>0
 |j+1=>bg bs j+(aR bs j).wd
def WJ(o:aC)(tail j:Nat):Bool:=decide (tail=0)||decide (xH o j<tail)
def Bv(o:aC)(tail:Nat):Nat->Bool
 |0=>OZ
 |j+1=>Bv o tail j||WJ o tail j
def nX(bs:List bj)(o:aC)(tail:Nat):Nat->Int
 |0=>0
 |j+1=>if(WJ o tail j&& !Bv o tail j)=OX then kW bs o j else nX bs o tail j
def kP(bs:List bj)(o:aC)(tail:Nat):Nat->Int
 |0=>0
 |j+1=>if WJ o tail j=OX then kW bs o (j+1)else kP bs o tail j
def mX(bs:List bj)(o:aC)(tail:Nat)(a:Bool)(x:Int):Int:=
 if a=OX then x+bg bs tail-kP bs o tail bs.length else x-nX bs o tail bs.length
def aev(ms:List (Int×Int))(j:Nat):Int×Int:=ms.getD j (0,0)
def qU(w:EE)(B:Nat)(A:aB)(n:Nat)(ms:List (Int×Int)):Prop:=
 ms.length=n/\(0<n->∃a,A=OH a/\a.block<B/\∀j,j<n->w.cell? (a.add (j*2))=OH (.int .i32 (aev ms j).1)/\w.cell? (a.add (j*2+1))=OH (ae aj (aev ms j).2))
section
variable{w w':EE}{B n:Nat}{A:aB}{ms:List (Int × Int)}
def qU.below(h:qU w B A n ms)(b:EI B w w'):qU w' B A n ms:=
 ⟨h.1,λg=>by
  obtain⟨f,e,a,c⟩:=h.2 g;refine⟨f,e,a,λj d=>⟨?_, ?_⟩⟩
  .exact(b.cell (by rw[aL];exact a)).trans (c j d).1
  .exact(b.cell (by rw[aL];exact a)).trans (c j d).2⟩
def qU.Z(h:qU w w.heap.size A n ms)(a:az w w'):qU w' w'.heap.size A n ms:=
 ⟨(h.below a).1,λd=>by
   obtain⟨c,e,f,b⟩:=(h.below a).2 d;exact⟨c,e,Nat.lt_of_lt_of_le f a.size,b⟩⟩
end
def uN{l m:aC}(h:j<l.length):nth (l++m) j=nth l j:=by
 simp[nth,List.getElem?_append_left h]
def gS{l:aC}{k:Nat}(h:l.length=k):nth (l++[x]) k=x:=by
 subst h;simp[nth]
def tI{l:aC}(h:j<l.length):nth (l.set j x) j=x:=by simp[nth,h]
def oO{l:aC}(h:j≠i):nth (l.set j x) i=nth l i:=by simp[nth,List.getElem?_set_ne h]
def jb{cs:aC}{k:Nat}(h:k<cs.length):cs.drop k=nth cs k::cs.drop (k+1):=by
 rw[List.drop_eq_getElem_cons h,bZ h]
def gf(c:Int):Bool:=c==20||c==21||c==22
def kh(c:Int):Bool:=c==1||c==2||c==3
def lX(cs:aC):Nat->aC×List Nat
 |0=>([],[])
 |k+1=>
  if gf (nth cs k)then((lX cs k).1++[-1],k::(lX cs k).2)
  else if nth cs k==11 then((lX cs k).1++[-1],[])
  else if nth cs k==23 then
   match(lX cs k).2 with
   |[]=>((lX cs k).1++[-1],[])
   |j::s=>(((lX cs k).1++[(j:Int)]).set j k,s)
  else((lX cs k).1++[-1],(lX cs k).2)
def qY:aC->Nat->Int
 |[],_=>0
 |c::r,0=>if kh c then c else if c==11 then 0 else if gf c then qY r 1 else qY r 0
 |c::r,d+1=>if c==11 then 0 else if gf c then qY r (d+2)else if c==23 then qY r d else qY r (d+1)
def adu{cs:aC}{k:Nat}(h:k<cs.length)(a:nth cs k=11)(d:Nat):qY (cs.drop k) d=0:=by
 rw[jb h,a];cases d<;>simp[qY,kh]
def NZ{cs:aC}{k:Nat}(h:k<cs.length)(a:gf (nth cs k)=OX)(d:Nat):qY (cs.drop k) d=qY (cs.drop (k+1)) (d+1):=by
 rw[jb h];have:nth cs k=20∨nth cs k=21∨nth cs k=22:=by simpa[gf,or_assoc]using a
 rcases this with e|e|e<;>rw[e]<;>cases d<;>simp[qY,kh,gf]
def IC{cs:aC}{k:Nat}(h:k<cs.length)(a:nth cs k=23)(d:Nat):qY (cs.drop k) (d+1)=qY (cs.drop (k+1)) d:=by
 rw[jb h,a];simp[qY,gf]
def Nc{cs:aC}{k:Nat}(h:k<cs.length)(b:gf (nth cs k)=OZ)(c:nth cs k≠11)(a:nth cs k≠23)(d:Nat):qY (cs.drop k) (d+1)=qY (cs.drop (k+1)) (d+1):=by
 rw[jb h];simp[qY,b,c,a]
def Xv{cs:aC}{k:Nat}(h:cs.length<=k)(d:Nat):qY (cs.drop k) d=0:=by
 rw[List.drop_of_length_le h];rfl
structure mS(cs:aC)(k:Nat)(o:aC)(s:List Nat):Prop where
 len:o.length=k
 st:∀j∈s,j<k/\gf (nth cs j)=OX/\nth o j= -1
 srt:s.Pairwise (·> ·)
 pair:∀i,i<k->nth o i= -1∨∃q:Nat,q<k/\nth o i=q/\nth o q=i/\q≠i
 fwd:∀i q:Nat,i<q->q<k->nth o i=q->gf (nth cs i)=OX/\nth cs q=23/\
  (∀j,i<j->j<q->nth cs j≠11/\(nth o j≠-1->(i:Int)<nth o j/\nth o j<q)/\(nth o j= -1->nth cs j≠23))/\
  ∀e,qY (cs.drop (i+1)) (e+1)=qY (cs.drop (q+1)) e
 Wn:∀a i b,s=a++i::b->(∀j,i<j->j<k->nth cs j≠11/\(nth o j≠-1->(i:Int)<nth o j)/\(nth o j= -1->nth cs j≠23))/\
  ∀e,qY (cs.drop (i+1)) (e+1)=qY (cs.drop k) (e+1+a.length)
 dead:∀i,i<k->gf (nth cs i)=OX->nth o i= -1->i∈s∨∀e,qY (cs.drop (i+1)) (e+1)=0
section
variable{cs:aC}{k:Nat}{o:aC}{s:List Nat}
def mS.lo(h:mS cs k o s){x:Int}{j:Nat}(hj:j<k):nth (o++[x]) j=nth o j:=uN Jf
def mS.N4(h:mS cs k o s):∀i,i<k+1->nth (o++[-1]) i= -1∨∃q:Nat,q<k+1/\nth (o++[-1]) i=q/\nth (o++[-1]) q=i/\q≠i:=by
 intro i hi;rcases Nat.lt_or_ge i k with a|a
 .rw[h.lo a]
  rcases h.pair i a with b|⟨q,b,d,c,e⟩
  .exact .inl b
  .exact .inr ⟨q,aq,d,by rw[h.lo b];exact c,e⟩
 .obtain rfl:i=k:=by omega
  exact .inl (gS h.len)
def mS.j9(h:mS cs k o s):∀i q:Nat,i<q->q<k+1->nth (o++[-1]) i=q->gf (nth cs i)=OX/\nth cs q=23/\
 (∀j,i<j->j<q->nth cs j≠11/\(nth (o++[-1]) j≠-1->(i:Int)<nth (o++[-1]) j/\nth (o++[-1]) j<q)/\(nth (o++[-1]) j= -1->nth cs j≠23))/\
 ∀e,qY (cs.drop (i+1)) (e+1)=qY (cs.drop (q+1)) e:=by
 intro i q l t c;rw[h.lo aq]at c;have n:q<k:=by
  rcases h.pair i aq with g|⟨u,g,r,_⟩
  .omega
  .omega
 obtain⟨f,p,d,m⟩:=h.fwd i q l n c;refine⟨f,p,λj a b=> ?_,m⟩;rw[h.lo aq];exact d j a b
def Kq(h:mS cs k o s)(r:k<cs.length)(m:gf (nth cs k)=OX):mS cs (k+1) (o++[-1]) (k::s) where
 len:=sy
 st:=by
  intro j n;rcases List.mem_cons.1 n with rfl|n
  .exact⟨aq,m,gS h.len⟩
  .obtain⟨l,f,p⟩:=h.st j n
   exact⟨aq,f,by rw[h.lo l];exact p⟩
 srt:=List.pairwise_cons.2 ⟨λj n=>(h.st j n).1,h.srt⟩
 pair:=h.N4
 fwd:=h.j9
 Wn:=by
  intro a i b g;cases a with
  |nil=>
   simp only[List.nil_append,List.cons.injEq]at g;obtain⟨rfl,rfl⟩:=g;refine⟨λj l f=>by omega,λe=> ?_⟩;simp
  |cons a0 a=>
   simp only[List.cons_append,List.cons.injEq]at g;obtain⟨rfl,g⟩:=g;obtain⟨l,f⟩:=h.Wn a i b g;refine⟨λj q t=> ?_,λe=> ?_⟩
   .rcases Nat.lt_or_ge j k with c|c
    .rw[h.lo c];exact l j q c
    .obtain rfl:j=k:=by omega
     rw[gS h.len];refine⟨λe=> ?_,λe=>absurd rfl e,λ_ e=> ?_⟩
     .rw[e]at m;simp[gf]at m
     .rw[e]at m;simp[gf]at m
   .rw[f,NZ r m];rfl
 dead:=by
  intro i hi l f;rcases Nat.lt_or_ge i k with d|d
  .rw[h.lo d]at f
   rcases h.dead i d l f with p|p
   .exact .inl (List.mem_cons_of_mem _ p)
   .exact .inr p
  .obtain rfl:i=k:=by omega
   exact .inl (List.mem_cons_self ..)
def abw(h:mS cs k o s)(m:k<cs.length)(j:nth cs k=11):mS cs (k+1) (o++[-1]) [] where
 len:=sy
 st:=aT
 srt:=List.Pairwise.nil
 pair:=h.N4
 fwd:=h.j9
 Wn:=by intro a i b g;simp at g
 dead:=by
  intro i hi f l;rcases Nat.lt_or_ge i k with c|c
  .rw[h.lo c]at l
   rcases h.dead i c f l with d|d
   .obtain⟨a,b,g⟩:=List.append_of_mem d
    refine .inr λe=> ?_;rw[(h.Wn a i b g).2,adu m j]
   .exact .inr d
  .obtain rfl:i=k:=by omega
   rw[j]at f;simp[gf]at f
def xu(h:mS cs k o s)(v:k<cs.length)(r:gf (nth cs k)=OZ)(m:nth cs k≠11)(c:nth cs k≠23∨s=[]):mS cs (k+1) (o++[-1]) s where
 len:=sy
 st:=by
  intro j t;obtain⟨g,l,u⟩:=h.st j t;exact⟨aq,l,by rw[h.lo g];exact u⟩
 srt:=h.srt
 pair:=h.N4
 fwd:=h.j9
 Wn:=by
  intro a i b p;obtain⟨g,l⟩:=h.Wn a i b p;have c:nth cs k≠23:=by
   rcases c with q|q
   .exact q
   .rw[q]at p;simp at p
  refine⟨λj n w=> ?_,λe=> ?_⟩
  .rcases Nat.lt_or_ge j k with d|d
   .rw[h.lo d];exact g j n d
   .obtain rfl:j=k:=by omega
    rw[gS h.len];exact⟨m,λe=>absurd rfl e,λ_=>c⟩
  .rw[l,show e+1+a.length=(e+a.length)+1 by omega,Nc v r m c]
 dead:=by
  intro i hi g l;rcases Nat.lt_or_ge i k with f|f
  .rw[h.lo f]at l
   exact h.dead i f g l
  .obtain rfl:i=k:=by omega
   rw[r]at g;cases g
def Rl{t:Nat}(h:mS cs k o (t::s))(J:k<cs.length)(D:nth cs k=23):mS cs (k+1) ((o++[(t:Int)]).set t k) s:=by
 obtain⟨Q,z,G⟩:=h.st t (List.mem_cons_self ..);have hlen:(o++[(t:Int)]).length=k+1:=sy;have w:nth ((o++[(t:Int)]).set t k) t=k:=tI aq;have A:nth ((o++[(t:Int)]).set t k) k=t:=by rw[oO (by omega),gS h.len]
 have f:∀j,j<k->j≠t->nth ((o++[(t:Int)]).set t k) j=nth o j:=λj g u=>by rw[oO aq,h.lo g]
 have r:=h.Wn [] t s rfl;have v:=List.pairwise_cons.1 h.srt;refine⟨sy, ?_,v.2, ?_, ?_, ?_, ?_⟩
 .intro j K
  obtain⟨g,u,n⟩:=h.st j (List.mem_cons_of_mem _ K);have:=v.1 j K;exact⟨aq,u,by rw[f j g (by omega)];exact n⟩
 .intro i hi
  by_cases d:i=t
  .subst d;exact .inr ⟨k,aq,w,A,aq⟩
  .rcases Nat.lt_or_ge i k with c|c
   .rw[f i c d]
    rcases h.pair i c with g|⟨q,g,u,n,m⟩
    .exact .inl g
    .have E:q≠t:=by
      rintro rfl;rw[G]at n;omega
     exact .inr ⟨q,aq,u,by rw[f q g E];exact n,m⟩
   .obtain rfl:i=k:=by omega
    exact .inr ⟨t,aq,A,w,aq⟩
 .intro i q g u n
  by_cases d:i=t
  .subst d
   rw[w]at n;obtain rfl:q=k:=aq;refine⟨z,D,λj p l=> ?_,λe=> ?_⟩
   .rw[f j l aq]
    obtain⟨O,N,T⟩:=r.1 j p l;refine⟨O,λB=>⟨N B, ?_⟩,T⟩;rcases h.pair j l with m|⟨q,m,H,_⟩
    .exact absurd m B
    .omega
   .rw[r.2]
    exact IC J D e
  .have c:i<k:=by
    omega
   rw[f i c d]at n;have C:q<k:=by
    rcases h.pair i c with m|⟨I,m,H,_⟩
    .omega
    .omega
   obtain⟨P,R,M,V⟩:=h.fwd i q g C n;refine⟨P,R,λj p l=> ?_,V⟩;have x:j≠t:=by
    rintro rfl;have F:nth o q=i:=by
     rcases h.pair i c with m|⟨I,m,H,U,_⟩
     .omega
     .obtain rfl:q=I:=by omega
      exact U
    have:=(r.1 q l C).2.1 (by rw[F];omega);omega
   rw[f j aq x];exact M j p l
 .intro a i b L
  obtain⟨g,u⟩:=h.Wn (t::a) i b (by rw[L];rfl);have S:i<t:=v.1 i (by rw[L];simp);refine⟨λj p l=> ?_,λe=> ?_⟩
  .by_cases x:j=t
   .subst x
    rw[w];refine⟨λe=> ?_,λ_=>by omega,λe=>by omega⟩;rw[e]at z;simp[gf]at z
   .rcases Nat.lt_or_ge j k with y|y
    .rw[f j y x];exact g j p y
    .obtain rfl:j=k:=by omega
     rw[A];exact⟨aq,λ_=>by omega,λe=>by omega⟩
  .rw[u,List.length_cons,show e+1+(a.length+1)=(e+1+a.length)+1 by omega,IC J D]
 .intro i hi g u
  by_cases d:i=t
  .subst d;rw[w]at u;omega
  .rcases Nat.lt_or_ge i k with c|c
   .rw[f i c d]at u
    rcases h.dead i c g u with n|n
    .rcases List.mem_cons.1 n with m|m
     .exact absurd m d
     .exact .inl m
    .exact .inr n
   .obtain rfl:i=k:=by omega
    rw[D]at g;simp[gf]at g
end
def wm:∀(s:List Nat) (k:Nat),s.Pairwise (·> ·)->(∀j∈s,j<k)->s.length<=k
 |[],_,_,_=>Nat.zero_le _
 |j::s,k,h1,h2=>by
  have a:=List.pairwise_cons.1 h1;have c:=wm s j a.2 λi hi=>a.1 i hi
  have b:=h2 j (List.mem_cons_self ..);simp only[List.length_cons];omega
def mS.Nh{cs:aC}{k:Nat}{o:aC}{s:List Nat}(h:mS cs k o s):s.length<=k:=wm s k h.srt λj a=>(h.st j a).1
def zW{cs:aC}{k:Nat}(h:gf (nth cs k)=OX):lX cs (k+1)=((lX cs k).1++[-1],k::(lX cs k).2):=by simp[lX,h]
def ZZ{cs:aC}{k:Nat}(h:nth cs k=11):lX cs (k+1)=((lX cs k).1++[-1],[]):=by simp[lX,h,gf]
def Hb{cs:aC}{k:Nat}{s:List Nat}(h:nth cs k=23)(a:(lX cs k).2=j::s):lX cs (k+1)=(((lX cs k).1++[(j:Int)]).set j k,s):=by simp[lX,h,gf,a]
def AV{cs:aC}{k:Nat}(h:nth cs k=23)(a:(lX cs k).2=[]):lX cs (k+1)=((lX cs k).1++[-1],[]):=by simp[lX,h,gf,a]
def AU{cs:aC}{k:Nat}(h:gf (nth cs k)=OZ)(a:nth cs k≠11)(b:nth cs k≠23):lX cs (k+1)=((lX cs k).1++[-1],(lX cs k).2):=by simp[lX,h,a,b]
def et(cs:aC):∀k,k<=cs.length->mS cs k (lX cs k).1 (lX cs k).2
 |0,_=>⟨rfl,by simp[lX],List.Pairwise.nil,λi h=>by omega,λi q c d=>by omega,λa i b h=>by simp[lX]at h,λi h=>by omega⟩
 |k+1,e=>by
  have ih:=et cs k aq;have e:k<cs.length:=aq;by_cases c:gf (nth cs k)=OX
  .rw[zW c];exact Kq ih e c
  .simp only[Bool.not_eq_true]at c
   by_cases d:nth cs k=11
   .rw[ZZ d];exact abw ih e d
   .by_cases f:nth cs k=23
    .cases g:(lX cs k).2 with
     |nil=>
      rw[AV f g];rw[g]at ih;exact xu ih e c d (.inr rfl)
     |cons j s=>
      rw[Hb f g];rw[g]at ih;exact Rl ih e f
    .rw[AU c d f]
     exact xu ih e c d (.inl f)
def nj(cs:aC):aC:=(lX cs cs.length).1
def yg{cs:aC}(hi:i<cs.length)(g:gf (nth cs i)=OX):
 (nth (nj cs) i= -1/\∀e,qY (cs.drop (i+1)) (e+1)=0)∨∃q:Nat,i<q/\q<cs.length/\nth (nj cs) i=q/\nth cs q=23/\∀e,qY (cs.drop (i+1)) (e+1)=qY (cs.drop (q+1)) e:=by
 have h:=et cs _ cr;rcases h.pair i hi with c|⟨q,c,j,m,r⟩
 .refine .inl ⟨c, ?_⟩
  rcases h.dead i hi g c with d|d
  .obtain⟨a,b,l⟩:=List.append_of_mem d
   intro e;rw[(h.Wn a i b l).2,Xv cr]
  .exact d
 .rcases Nat.lt_or_ge i q with f|f
  .obtain⟨_,p,_,n⟩:=h.fwd i q f c j
   exact .inr ⟨q,f,c,j,p,n⟩
  .have:=(h.fwd q i aq hi m).2.1
   rw[this]at g;simp[gf]at g
def count_set:∀(l:List Bool) (i:Nat),l[i]? =OH OZ->(l.set i OX).count OZ+1=l.count OZ
 |[],i,h=>by simp at h
 |b::l,0,h=>by
  simp at h;subst h;simp
 |b::l,i+1,h=>by
  have:=count_set l i zl;simp only[List.set_cons_succ,List.count_cons];omega
section
variable{P:I3}{ops:Array Oper}{Q:Exit -> Act -> EE -> Prop}
def backward(ops:Array Oper):Bool:=(List.range ops.size).all λi=>((ops[i]?).map (·.after.all λe=>decide (e.on<i))).getD OX
def iU(e:backward ops=OX)(k:listed.size=ops.size)(h:Region.ready .any ops listed=[]):∀i,i<ops.size->listed.getD i OZ=OX:=by
 intro i
 induction i using Nat.strongRecOn with
 |_ i ih=>
  intro hi;cases c:listed.getD i OZ with
  |true=>rfl
  |false=>
   exfalso;have d:i∈Region.ready .any ops listed:=by
    unfold Region.ready;rw[List.mem_filter];refine⟨List.mem_range.2 hi, ?_⟩;have f:listed.getD i OX=OZ:=by
     rw[Array.getD_eq_getD_getElem?]at c⊢;rw[Array.getElem?_eq_getElem aq]at c⊢;exact c
    rw[f,Array.getElem?_eq_getElem hi];simp only[Bool.not_false,Bool.true_and,Option.map_some,Option.getD_some];rw[Array.all_eq_true];intro j g;have a:=(List.all_eq_true.1 e) i (List.mem_range.2 hi);rw[Array.getElem?_eq_getElem hi]at a;simp only[Option.map_some,Option.getD_some]at a;rw[Array.all_eq_true]at a;have aG:=a j g;have b:((ops[i].after)[j]).on<i:=CG;rw[ih _ b aq];simp
   rw[h]at d;cases d
def J6(hi:i<listed.size):(λk=>(listed.setIfInBounds i OX).getD k OZ)=λk=>k==i||listed.getD k OZ:=by
 funext k;rw[Array.getD_eq_getD_getElem?,Array.getD_eq_getD_getElem?,Array.getElem?_setIfInBounds];by_cases h:i=k
 .subst h
  simp[hi]
 .have a:(k==i)=OZ:=by simpa using Ne.symm h
  rw[if_neg h,a,Bool.false_or]
end
section
variable{P:I3}{ops:Array Oper}{md:Region.Mode}{C:EE -> Prop}{T:Option Tmp -> Option Sat}
def kI{Q:(EE->Prop)->Act->Prop}(e:∃w,C w)(d:Region.noSelect ops=OX):∀(l:List Oper) (k:Nat) (listed:Array Bool) (E:EE->Prop) (a:Act),(∀j,j<l.length->l[j]? =ops[k+j]?)->
 Region.lexFrom md ops l.length k listed=OX->du P ops T C Q l E a->gN P md ops T C Q l.length listed E a
 |[],_,_,_,_,_,hB,h=>⟨SY,h⟩
 |o::l,k,listed,E,a,hl,hB,h=>by
  have h0:ops[k]? =OH o:=by simpa using (hl 0 (by simp)).symm
  simp only[List.length_cons,Region.lexFrom,Bool.and_eq_true]at hB;obtain⟨⟨i,m⟩,b⟩:=hB;have c:gG P ops T C k (du P ops T C Q l) E a:=k9;obtain⟨V,G,f,hK⟩:=jR h0 c;exact jQ e h0 (Region.noSelect_spec d) l.length listed E a (Region.free_spec h0 m) (by simpa using i) f
   (λv g=>kI e d l (k+1) _ _ _ (λj n=>by have:=hl (j+1) (by simp;omega);simpa[Nat.add_assoc,Nat.add_comm 1 j]using this) b (hK v g))
def kG(ops:Array Oper)(a b:Nat):Bool:=((ops[a]?).map (·.after.any λe=>Region.binds .any e&&e.on==b)).getD OZ
def ij(ops:Array Oper)(L:Nat):Bool:=(List.range L).all λi=>kG ops L i||(List.range L).any λj=>kG ops L j&&kG ops j i
def Cl(ops:Array Oper)(listed:Array Bool):Prop:=∀j o,ops[j]? =OH o->listed.getD j OZ=OX->∀e∈o.after,Region.binds .any e=OX->listed.getD e.on OZ=OX
def fG{a:Nat}(i:ops[a]? =OH o)(c:∀e∈o.after,Region.binds .any e=OX->listed.getD e.on OZ=OX)(h:kG ops a b=OX):listed.getD b OZ=OX:=by
 unfold kG at h;rw[i]at h;simp only[Option.map_some,Option.getD_some,Array.any_eq_true]at h;obtain⟨k,g,d⟩:=h;rw[Bool.and_eq_true]at d;have f:=c _ (Array.getElem_mem g) d.1;rwa [show(o.after[k]).on=b by simpa using d.2]at f
def tg{L:Nat}(k:ij ops L=OX)(g:Cl ops listed)(hi:L∈Region.ready .any ops listed):∀i,i<L->listed.getD i OZ=OX:=λi f=>by
 obtain⟨_,o,h,a⟩:=mem_ready.1 hi;have c:=(List.all_eq_true.1 k) i (List.mem_range.2 f);rw[Bool.or_eq_true]at c;rcases c with c|c
 .exact fG h a c
 .obtain⟨j,m,e⟩:=List.any_eq_true.1 c
  rw[Bool.and_eq_true]at e;have l:=fG h a e.1;have d:=e.2;cases b:ops[j]? with
  |none=>unfold kG at d;rw[b]at d;simp at d
  |some oj=>exact fG b (g j oj b l) d
def Em(d:Cl ops listed)(hi:i∈Region.ready .any ops listed)(m:listed.size=ops.size):Cl ops (listed.setIfInBounds i OX):=λj o k h e f g=>by
 by_cases b:i=j
 .subst b
  obtain⟨_,l,c,a⟩:=mem_ready.1 hi;rw[k]at c;obtain rfl:=Option.some.inj c;exact getD_set_true (a e f g)
 .rw[getD_set_ne OZ b]at h
  exact getD_set_true (d j o k h e f g)
def xJ{L:Nat}(v:backward ops=OX)(S:L+1=ops.size)(J:ij ops L=OX)
 (F:∀E a w,C w->E w->Q E a->wpOp P ops Q' L (λa w=>Q' .normal a w) a w):∀(fuel:Nat) (listed:Array Bool) (E:EE->Prop) (a:Act) (w:EE),C w->E w->vH E->listed.size=ops.size->listed.getD L OX=OZ->Cl ops listed->
 gN P .any ops T C Q fuel (listed.setIfInBounds L OX) E a->wpAny P .any ops Q' (fuel+1) listed a w:=by
 have fin:∀(fuel:Nat) (listed:Array Bool) (a:Act) (w:EE),listed.size=ops.size->listed.getD L OX=OZ->Region.ready .any ops (listed.setIfInBounds L OX)=[]->wpOp P ops Q' L (λa w=>Q' .normal a w) a w->wpAny P .any ops Q' (fuel+1) listed a w:=by
  intro fuel listed a w hs hl d M;have all:=iU v rk d;refine⟨λy=> ?_,λi hi=> ?_⟩
  .exfalso
   have:=iU v hs y L aq;rw[Array.getD_eq_getD_getElem?,Array.getElem?_eq_getElem aq]at this hl;simp at this hl;rw[this]at hl;cases hl
  .obtain⟨t,o,O,_⟩:=mem_ready.1 hi
   have B:=(Array.getElem?_eq_some_iff.1 O).1;obtain rfl:i=L:=by
    rcases Nat.decEq i L with h|h
    .exfalso
     have s:=all i B;rw[getD_set_ne OZ (Ne.symm h)]at s;rw[Array.getD_eq_getD_getElem?,Array.getElem?_eq_getElem aq]at s t;simp at s t;rw[s]at t;cases t
    .exact h
   refine wpOp_mono (λI G p=> ?_) M;cases fuel with
   |zero=>exact⟨d,p⟩
   |succ f=>exact⟨λ_=>p,λj H=>by rw[d]at H;cases H⟩
 intro fuel
 induction fuel with
 |zero=>intro listed E a w q r m hs hl c h;exact fin 0 listed a w hs hl h.1 (F _ _ _ q r h.2)
 |succ fuel ih=>
  intro listed E a w q r m hs hl c h;cases d:Region.ready .any ops (listed.setIfInBounds L OX)with
  |nil=>exact fin (fuel+1) listed a w hs hl d (F _ _ _ q r (h.1 d))
  |cons i0 rest=>
   have y:i0∈Region.ready .any ops (listed.setIfInBounds L OX):=by rw[d];simp
   obtain⟨n,R,z,_⟩:=mem_ready.1 y;have l:=(Array.getElem?_eq_some_iff.1 z).1;have k:i0≠L:=λe=>by
    subst e;simp[hs,l]at n
   have b:listed.getD i0 OX=OZ:=(by rwa [getD_set_ne OX (Ne.symm k)]at n);have A:∀i∈Region.ready .any ops listed,i≠L:=λi hi e=>by
    subst e;have x:=tg J c hi i0 aq;rw[Array.getD_eq_getD_getElem?,Array.getElem?_eq_getElem aq]at x b;simp at x b;rw[x]at b;cases b
   refine⟨λK=> ?_,λi hi=> ?_⟩
   .exfalso
    have:=iU v hs K i0 l;rw[Array.getD_eq_getD_getElem?,Array.getElem?_eq_getElem aq]at this b;simp at this b;rw[this]at b;cases b
   .have fh:=A i hi
    refine fU q r m (λN I G D u g p=>ih _ N I G D u g rk zs (Em c hi hs) ?_) (h.2 i (ready_mono hi fh));rw[Array.setIfInBounds_comm _ _ fh];exact p
def sF{B:Nat}{Q:Exit->Act->EE->Prop}{lo:List Oper}(T:Option Tmp->Option Sat)(L:Nat)(b:lo=l++[o])(hlen:l.length=L)(z:P.follows .mixedOrders=OX)
 (u:Region.noSelect lo.toArray=OX) (r:backward lo.toArray=OX) (q:ij lo.toArray L=OX) (v:Region.lexFrom .any lo.toArray L 0 ((Array.replicate lo.length OZ).setIfInBounds L OX)=OX) (s:o.guard=OJ)
 (h:du P lo.toArray T (λd=>∃n:aI w,d=n.1) (λE p=>∀n:aI w,E n.1->o.wp P p n.1 (λf g=>Q .normal f g) Q) l (λ_=>True) a):(Code.region B lo.toArray OX).wp P Q a w:=by
 have m:(λd=>∃n:aI w,d=n.1) {w with drawn:=w.drawn+1}:=⟨⟨{w with drawn:=w.drawn+1},⟨rfl,rfl,rfl,Nat.le_refl _,λ_ _=>rfl⟩⟩,rfl⟩;have c:lo.length=L+1:=by rw[b];simp[hlen]
 have e:lo.toArray[L]? =OH o:=by rw[b,<-hlen];simp
 refine wp_region_any z ?_;have k:=kI (md:=.any) ⟨_,m⟩ u l 0 ((Array.replicate lo.length OZ).setIfInBounds L OX) (λ_=>True) a (λj t=>by
  rw[b];simp[List.getElem?_append_left t]) (by rw[hlen];exact v) h
 rw[hlen]at k;have y:=xJ (C:=λd=>∃n:aI w,d=n.1) (Q':=Q) (L:=L) r (by simp[c]) q (λE p d i x A=>by
  obtain⟨n,rfl⟩:=i;unfold wpOp;simp only[e];rw[if_pos (by simp[Region.wanted,s])];exact .inl (A n x)) L (Array.replicate lo.length OZ) (λ_=>True) a {w with drawn:=w.drawn+1} m trivial (λ_ _ _ _=>trivial) aT (by simp[c]) (λj o D h=>by exfalso;rw[Array.getD_eq_getD_getElem?,Array.getElem?_replicate]at h;split at h<;>simp at h) k
 simpa[c]using y
def aQ{Q:Exit->Act->EE->Prop}{lo:List Oper}(T:Option Tmp->Option Sat)(L:Nat)(hlen:lo.length=L+1)(p:P.follows .mixedOrders=OX)
 (j:Region.noSelect lo.toArray=OX) (m:backward lo.toArray=OX) (i:ij lo.toArray L=OX) (k:Region.lexFrom .any lo.toArray L 0 ((Array.replicate lo.length OZ).setIfInBounds L OX)=OX) (f:(lo[L]?).map (·.guard)=OH OJ)
 (h:du P lo.toArray T (λt=>∃n:aI w,t=n.1) (λE g=>∀n:aI w,E n.1->∀o,lo[L]? =OH o->o.wp P g n.1 (λb c=>Q .normal b c) Q) (lo.take L) (λ_=>True) a):(Code.region s lo.toArray OX).wp P Q a w:=by
 have d:L<lo.length:=aq;have e:lo[L]? =OH lo[L]:=List.getElem?_eq_getElem d;refine sF (l:=lo.take L) (o:=lo[L]) T L ?_ br p j m i k ?_ ?_
 .rw[List.take_append_getElem d,List.take_of_length_le aq]
 .rw[e]at f;simpa using f
 .exact nB (λE g r=>λn q=>r n q _ e) _ _ _ h
end
section
variable{P:I3}{ops:Array Oper}{Q:Exit -> Act -> EE -> Prop}
def fT(ops:Array Oper):Bool:=(List.range ops.size).all λi=>((ops[i]?).map (·.after.all λe=> !Region.binds .any e||decide (e.on<i))).getD OX
def ia(f:fT ops=OX)(l:listed.size=ops.size)(k:Region.ready .any ops listed=[]):∀i,i<ops.size->listed.getD i OZ=OX:=by
 intro i
 induction i using Nat.strongRecOn with
 |_ i ih=>
  intro hi;cases c:listed.getD i OZ with
  |true=>rfl
  |false=>
   exfalso;have e:i∈Region.ready .any ops listed:=by
    unfold Region.ready;rw[List.mem_filter];refine⟨List.mem_range.2 hi, ?_⟩;have g:listed.getD i OX=OZ:=by
     rw[Array.getD_eq_getD_getElem?]at c⊢;rw[Array.getElem?_eq_getElem aq]at c⊢;exact c
    rw[g,Array.getElem?_eq_getElem hi];simp only[Bool.not_false,Bool.true_and,Option.map_some,Option.getD_some];rw[Array.all_eq_true];intro j h;have a:=(List.all_eq_true.1 f) i (List.mem_range.2 hi);rw[Array.getElem?_eq_getElem hi]at a;simp only[Option.map_some,Option.getD_some]at a;rw[Array.all_eq_true]at a;have aG:=a j h;cases d:Region.binds .any ((ops[i].after)[j])with
    |false=>simp
    |true=>
     rw[d]at aG;have b:((ops[i].after)[j]).on<i:=CG;rw[ih _ b aq];simp
   rw[k]at e;cases e
def Sl(s:fT ops=OX)(I:(Nat->Bool)->Act->EE->Prop)
 (g:∀i o L a w,ops[i]? =OH o->L i=OZ->o.after.all (λe=> !Region.binds .any e||L e.on)=OX->I L a w->wpOp P ops Q i (I (λk=>k==i||L k)) a w)
 (d:∀L a w,(∀i,i<ops.size->L i=OX)->I L a w->Q .normal a w):
 ∀(fuel:Nat) (listed:Array Bool) (a:Act) (w:EE),listed.size=ops.size->listed.toList.count OZ<=fuel->I (λk=>listed.getD k OZ) a w->wpAny P .any ops Q fuel listed a w:=by
 intro fuel
 induction fuel with
 |zero=>
  intro listed a w hs y m;have c:∀i,i<ops.size->listed.getD i OZ=OX:=λi hi=>by
   rw[Array.getD_eq_getD_getElem?,Array.getElem?_eq_getElem aq];cases u:listed[i]with
   |true=>rfl
   |false=>
    exfalso;have:OZ∈listed.toList:=by rw[<-u];simp
    have:=List.count_pos_iff.2 this;omega
  refine⟨?_,d _ a w c m⟩;unfold Region.ready;rw[List.filter_eq_nil_iff];intro i hi;have q:=c i (List.mem_range.1 hi);have z:listed.getD i OX=OX:=by
   have t:=List.mem_range.1 hi;rw[Array.getD_eq_getD_getElem?,Array.getElem?_eq_getElem aq]at q⊢;exact q
  rw[z];simp
 |succ fuel ih=>
  intro listed a w hs y m;refine⟨λh=>d _ a w (ia s hs h) m,λi hi=> ?_⟩;have h:=hi;unfold Region.ready at h;rw[List.mem_filter]at h;obtain⟨n,b⟩:=h;have j:=List.mem_range.1 n;rw[Bool.and_eq_true]at b;obtain⟨b,f⟩:=b;have l:listed[i]' aq=OZ:=by
   rw[Array.getD_eq_getD_getElem?,Array.getElem?_eq_getElem aq]at b;simpa using b
  have x:listed.getD i OZ=OZ:=by
   rw[Array.getD_eq_getD_getElem?,Array.getElem?_eq_getElem aq,l];rfl
  rw[Array.getElem?_eq_getElem j]at f;simp only[Option.map_some,Option.getD_some]at f;have p:=g i ops[i] (λk=>listed.getD k OZ) a w (Array.getElem?_eq_getElem j) x f m;refine wpOp_mono (λA v r=>ih _ A v rk ?_ ?_) p
  .have:=count_set listed.toList i (by rw[Array.getElem?_toList,Array.getElem?_eq_getElem aq,l])
   rw[Array.toList_setIfInBounds];omega
  .rw[J6 aq]
   exact r
def kz{h:Nat}(g:P.follows .mixedOrders=OX)(d:fT ops=OX)(I:(Nat->Bool)->Act->EE->Prop)(f:I (λ_=>OZ) a w.drew)
 (b:∀i o L a w,ops[i]? =OH o->L i=OZ->o.after.all (λe=> !Region.binds .any e||L e.on)=OX->I L a w->wpOp P ops Q i (I (λk=>k==i||L k)) a w)
 (c:∀L a w,(∀i,i<ops.size->L i=OX)->I L a w->Q .normal a w):(Code.region h ops OX).wp P Q a w:=by
 refine wp_region_any g ?_;refine Sl d I b c ops.size _ a _ aT ?_ ?_
 .rw[Array.toList_replicate,List.count_replicate]
  simp
 .have:(λk=>(Array.replicate ops.size OZ).getD k OZ)=λ_=>OZ:=by
   funext k;rw[Array.getD_eq_getD_getElem?,Array.getElem?_replicate];split<;>rfl
  rw[this];exact f
end
