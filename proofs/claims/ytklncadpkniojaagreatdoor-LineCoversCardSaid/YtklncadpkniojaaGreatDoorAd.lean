/- Part of LineCovers. -/
import Derived.Test.YtklncadpkniojaaGreatDoorAa
import Derived.WalkKit
import Derived.ProofKit
import Derived.OpenShut
import Derived.Deep.QuietTactic
import Derived.BigQuiet
import Derived.Lib.Hide
namespace Go.Proofs.YtklncadpkniojaaGreatDoor
open Go.ChangeShapes Go.WideShapes Go.ChangeAt Go.RowKit
open Go renaming World->ahh,Value->ahj,Calls->ahk,TypeId->ahm,Ending->ahn,Program->aho
open Go.RowKit renaming Below->ahi
open Go.Value renaming int->ae
open Go.IntKind renaming i64->aj
set_option linter.all false
set_option maxRecDepth 100000
set_option maxHeartbeats 16000000
variable{p:Nat->Bool}{N b bytes g i j k m s:Nat}{P:aho}{t:ahm}{ops:Array Oper}{rest:List Oper}{o:Oper}{a:Act}{K Q:Act->Prop}{v:ahj}{l:List Nat}{Q':Exit->Act->ahh->Prop}{w:ahh}{S:ahj->Prop}{x:Int}
abbrev az(w w':ahh):Prop:=ahi w.heap.size w w'
abbrev aA:=Option Addr
abbrev aC:=List Int
abbrev bP(a:Addr)(i:Nat):Addr:={block:=a.block,off:=a.off+i}
theorem aF{p:Prop}(h:p:=by kernel_rfl):p:=h
def nth(xs:List Int)(k:Nat):Int:=xs.getD k 0
theorem cB{xs:List Int}{k:Nat}(h:k<xs.length):nth xs k=xs[k]:=by simp[nth,h]
theorem aO(a:Addr)(n:Nat):(a.add n).block=a.block:=by unfold Addr.add;split<;>rfl
theorem aY(a:Addr)(i j:Nat):(a.add i).add j=a.add (i+j):=by
 unfold Addr.add;by_cases d:i=0<;>by_cases b:j=0<;>simp[d,b,Nat.add_assoc]
def bH(w:ahh)(B:Nat)(k:IntKind)(A:Option Addr)(n:Nat)(xs:List Int):Prop:=
 xs.length=n/\(0<n->∃a,A=some a/\a.block<B/\∀j,j<n->w.cell? (a.add j)=some (.int k (nth xs j)))
section
variable{w w':ahh}{B B' n:Nat}{k:IntKind}{A:Option Addr}{xs:List Int}
theorem bH.nil:bH w B k A 0 []:=⟨rfl,fun h=>absurd h ak⟩
theorem bH.len(h:bH w B k A n xs):xs.length=n:=h.1
theorem bH.jS(h:bH w B k A n xs)(f:∀p:Addr,p.block<B->w'.cell? p=w.cell? p):bH w' B k A n xs:=
 ⟨h.1,fun b=>by
  obtain⟨g,e,hb,d⟩:=h.2 b;exact⟨g,e,hb,fun j a=>(f _ Kg).trans (d j a)⟩⟩
theorem bH.more(h:bH w B k A n xs)(f:B<=B'):bH w B' k A n xs:=
 ⟨h.1,fun a=>by
  obtain⟨d,e,g,b⟩:=h.2 a;exact⟨d,e,ak,b⟩⟩
theorem bH.below(h:bH w B k A n xs)(b:ahi B w w'):bH w' B k A n xs:=h.jS fun _ a=>b.cell a
theorem bH.Z(h:bH w w.heap.size k A n xs)(a:ahi w.heap.size w w'):bH w' w'.heap.size k A n xs:=(h.below a).more a.size
theorem bH.cut(h:bH w B k A n xs){i j cap:Nat}(b:i<=j)(f:j<=n)(l:n<=cap):
 bH w B k (if cap=i then A else A.map (·.add i)) (j-i) ((xs.take j).drop i):=by
 refine⟨by rw[List.length_drop,List.length_take,h.1];omega,fun g=> ?_⟩;obtain⟨d,rfl,hb,a⟩:=h.2 ak;rw[if_neg ak];refine⟨d.add i,rfl,Kg,fun m o=> ?_⟩;rw[aY,a _ ak]
 congr 2
 simp only[nth,List.getD_eq_getElem?_getD,List.getElem?_drop,List.getElem?_take];rw[if_pos ak]
end
structure aM(k:IntKind)(w:ahh)(A:Option Addr)(n c:Nat)(xs:List Int):Prop where
 at_:bH w w.heap.size k A n xs
 le:n<=c
 cap:c<=9223372036854775807
 wf:∀x∈xs,(Lit.int k x).wf=true
theorem aM.dt{k:IntKind}{w:ahh}{A:Option Addr}{n c:Nat}{xs:List Int}(h:aM k w A n c xs){i:Nat}(a:i<n):(Lit.int k (nth xs i)).wf=true:=by
 have:i<xs.length:=by rw[h.at_.1];exact a
 rw[cB this];exact h.wf _ (List.getElem_mem ..)
theorem bj(g j:Nat):(⟨g,0,none⟩:Addr).add j=⟨g,j,none⟩:=by unfold Addr.add;split<;>simp_all
def aw(w:ahh)(B:Nat)(e:ahm)(size:Nat)(A:Option Addr)(n c:Nat)(xs:List ahj):Prop:=w.ownsRow B e size (.slice A n c) n xs
def Own(w:ahh)(B:Nat)(e:ahm)(k:IntKind)(A:Option Addr)(n c:Nat)(xs:List Int):Prop:=aw w B e 1 A n c (xs.map (Value.int k))
section
variable{w w':ahh}{B:Nat}{e:ahm}{size n c:Nat}{A:Option Addr}{vs:List ahj}{k:IntKind}{xs:List Int}
theorem aw.ar(h:aw w B e size A n c vs)(d:ahi w.heap.size w w'):aw w' B e size A n c vs:=by
 refine⟨h.1, ?_⟩;rcases h.2 with f|⟨g,cap,cur,i,b,a,r⟩
 .exact .inl f
 .exact .inr ⟨g,cap,cur,i,b,(d.block g (Array.getElem?_eq_some_iff.1 a).1).trans a,r⟩
theorem aw.alloc(h:aw w B e size A n c vs)(o:Obj):aw (w.alloc o) B e size A n c vs:=h.ar ((Below.refl _ _).alloc bW o)
theorem aw.drew(h:aw w B e size A n c vs):aw w.drew B e size A n c vs:=h
theorem aw.nil(w:ahh)(B:Nat)(e:ahm)(size:Nat):aw w B e size none 0 0 []:=⟨aQ,.inl ⟨rfl,rfl⟩⟩
theorem aw.form(h:aw w B e size A n c vs)(f:0<n):∃g,A=some ⟨g,0,none⟩/\B<=g/\g<w.heap.size:=by
 rcases h.2 with⟨_,i⟩|⟨g,cap,cur,d,a,b,r⟩
 .omega
 .injection d with h1
  exact⟨g,h1,a,(Array.getElem?_eq_some_iff.1 b).1⟩
theorem aw.le(h:aw w B e size A n c vs):n<=c:=by
 rcases h.2 with⟨_,i⟩|⟨g,cap,cur,a,b,d,f,r⟩
 .omega
 .injection a with h1 h2 h3
  omega
theorem aw.uD(h:aw w B e size A n c vs):c<=9223372036854775807:=by
 rcases h.2 with⟨a,j⟩|⟨g,cap,cur,a,d,f,i,b,r⟩
 .injection a with h1 h2 h3
  omega
 .injection a with h1 h2 h3
  unfold maxLen at b;omega
theorem aw.cellAt(h:aw w B e size (some ⟨g,0,none⟩) n c vs)(j:Nat)(a:j<n*size):w.cell? ⟨g,j,none⟩=vs[j]? :=World.ownsRow.cellAt (cap:=c) h j a
theorem aw.frozenAt(h:aw w B e size (some ⟨g,0,none⟩) n c vs)(j:Nat):w.frozen? ⟨g,j,none⟩=false:=World.ownsRow.frozenAt (cap:=c) h j
theorem aw.dm(h:aw w B e size A n c vs)(f:w.grownBy w' (Value.slice A n c).ownBlock)(d:B<=w.heap.size):ahi B w w':=by
 refine(Below.refl B w).grown f d fun g a=> ?_;rcases h.2 with⟨b,_⟩|⟨j,cap,cur,b,i,_⟩
 .rw[b]at a;simp[Value.ownBlock]at a
 .rw[b]at a;simp[Value.ownBlock]at a;omega
theorem Own.ar(h:Own w B e k A n c xs)(a:ahi w.heap.size w w'):Own w' B e k A n c xs:=aw.ar h a
theorem Own.alloc(h:Own w B e k A n c xs)(o:Obj):Own (w.alloc o) B e k A n c xs:=aw.alloc h o
theorem Own.drewN(h:Own w B e k A n c xs)(m:Nat):Own (w.drewN m) B e k A n c xs:=h
theorem Own.nil(w:ahh)(B:Nat)(e:ahm)(k:IntKind):Own w B e k none 0 0 []:=aw.nil w B e 1
theorem Own.len(h:Own w B e k A n c xs):xs.length=n:=by have:=h.1;simpa using this
theorem Own.ints(h:Own w B e k A n c xs):bH w w.heap.size k A n xs:=by
 refine⟨h.len,fun d=> ?_⟩;obtain⟨g,rfl,_,a⟩:=aw.form h d;refine⟨_,rfl,a,fun j hj=> ?_⟩;rw[bj,aw.cellAt h j ak];have b:j<xs.length:=Ij;rw[List.getElem?_map,List.getElem?_eq_getElem b,cB b];rfl
theorem Own.uw(h:Own w B e k (some ⟨g,0,none⟩) n c xs)(j:Nat)(y:Int):Own (w.setCell ⟨g,j,none⟩ (.int k y)) B e k (some ⟨g,0,none⟩) n c (xs.set j y):=by
 have:=(World.ownsRow.stored (cap:=c) h j (.int k y)).1;unfold Own aw;rw[List.map_set];exact this
end
structure aR(P:aho)(t e:ahm)(size bytes:Nat):Prop where
 ht:P.underlying t=some (.slice e)
 info:∃(i:TypeInfo) (z:ahj),P.info? e=some i/\i.zero=some z/\i.size=size/\i.bytes=bytes/\z.cells.size=size
 pos:0<size
 yY:0<bytes
theorem bu{e:ahm}{size:Nat}{z:ahj}(f:P.underlying t=some (.slice e))(m:(P.info? e).map (fun i=>(i.zero,i.size,i.bytes))=some (some z,size,bytes))(h:z.cells.size=size)(d:0<size)(g:0<bytes):aR P t e size bytes:=by
 obtain⟨i,a,j,b,l⟩:=info_parts m;exact⟨f,⟨i,z,a,j,b,l,h⟩,d,g⟩
theorem ca{w:ahh}{Q:Exit->Act->ahh->Prop}{e:ahm}{size:Nat}(T:aR P t e size bytes)(l:o.guard=none)(s x:Operand)
 (J:o.op=.call {callee:=.builtin .append,args:=#[s,x],argTypes:=#[t,t]}) {B:Nat} {A:Option Addr} {n c:Nat} {vs:List ahj} (D:a.eval s=.slice A n c) (d:aw w B e size A n c vs)
 {g:Nat} (G:a.eval x=.slice (some ⟨g,0,none⟩) 1 1) {news:List ahj} (M:news.length=size) (hc:∀j u,news[j]? =some u->w.cell? ⟨g,j,none⟩=some u) (K:∀u∈news,u.oneCell'=true)
 (L:(n+1)*bytes<=140737488355328) (y:B<=w.heap.size)
 (h:∀C c' w',aw w' B e size C (n+1) c' (vs++news)->ahi B w w'->wpList P ops Q rest (a.put o.dst (.slice C (n+1) c')) w'):wpList P ops Q (o::rest) a w:=by
 obtain⟨i,z,H,F,r,f,q⟩:=T.info;have m:=T.yY;have I:n+1<=140737488355328:=by
  have O:(n+1)*1<=(n+1)*bytes:=Nat.mul_le_mul_left _ m;omega
 refine wpList_append_own w l s x t J B e i z size bytes T.ht H F r f q T.pos (.slice A n c) n vs D d ⟨g,0,none⟩ 1 1 news G ak (fun j u hu=>WS) K qT L y ?_;intro R w' b E _;have p:=aw.dm d E y;rcases b.2 with⟨v,N⟩|⟨S,cap,cur,v,_⟩
 .omega
 .subst v
  exact h _ _ w' b p
theorem kA{w:ahh}{Q:Exit->Act->ahh->Prop}{e:ahm}(T:aR P t e 1 bytes)(i:o.guard=none)(s x:Operand)
 (r:o.op=.call {callee:=.builtin .append,args:=#[s,x],argTypes:=#[t,t]}) {B:Nat} {k:IntKind} {A:Option Addr} {n c:Nat} {xs:List Int} (l:a.eval s=.slice A n c) (d:Own w B e k A n c xs)
 {g:Nat} (p:a.eval x=.slice (some ⟨g,0,none⟩) 1 1) {y:Int} (m:w.cell? ⟨g,0,none⟩=some (.int k y))
 (C:(n+1)*bytes<=140737488355328) (z:B<=w.heap.size)
 (h:∀f c' w',Own w' B e k f (n+1) c' (xs++[y])->ahi B w w'->wpList P ops Q rest (a.put o.dst (.slice f (n+1) c')) w'):wpList P ops Q (o::rest) a w:=by
 refine ca T i s x r l d p (news:=[.int k y]) rfl (fun j u b=> ?_) (fun u b=> ?_) C z fun f c' w' v q=>h f c' w' ?_ q
 .match j with
  |0=>simp at b;subst b;exact m
  |j+1=>simp at b
 .simp at b;subst b;rfl
 .unfold Own;rw[List.map_append];exact v
theorem eh{w:ahh}{Q:Exit->Act->ahh->Prop}{e:ahm}{k:IntKind}(T:aR P t e 1 bytes)(b:(P.info? e).map (·.zero)=some (some (.int k 0)))(f:o.guard=none)(l c:Operand)
 (J:o.op=.makeSlice t l c) {q s:IntKind} {L C:Int} (n:Nat) (E:a.eval l=.int q L) (G:a.eval c=.int s C) (D:L=(n:Int)) (F:C=(n:Int)) (N:n*bytes<=140737488355328) (B:Nat) (y:B<=w.heap.size)
 (h:∀g w',Own w' B e k (some ⟨g,0,none⟩) n n (List.replicate n 0)->ahi B w w'->wpList P ops Q rest (a.put o.dst (.slice (some ⟨g,0,none⟩) n n)) w'):wpList P ops Q (o::rest) a w:=by
 obtain⟨i,z,v,r,m,d,H⟩:=T.info;have j:=T.yY;have I:n<=140737488355328:=by
  have u:n*1<=n*bytes:=Nat.mul_le_mul_left _ j;omega
 have p:z=.int k 0:=by
  rw[v]at b;simp[r]at b;exact b
 refine wpList_make_full w f l c t J B e i z 1 T.ht v r m q s L C n E G D F (by rw[d,Nat.mul_comm];omega) qT y fun w' x u=>
  h _ w' ?_ ((Below.refl B w).grown u y (fun k K=>by cases K))
 subst p;unfold Own aw;have M:(madeCells (Value.int k 0).cells (n*1)).toList=(List.replicate n (0:Int)).map (Value.int k):=by
  rw[Nat.mul_one,List.map_replicate];exact toList_madeCells_one _ _
 rw[M]at x;exact x
theorem bh(w:ahh)(v:ahj)(t:ahm):(w.alloc (.cells #[v] t)).cell? ⟨w.heap.size,0,none⟩=some v:=by
 rw[cell_of_row _ _ _ _ _ _ (heap_alloc_new w _)];rfl
theorem vk{α:Type}(f:Int->α){xs:List Int}{k:Nat}(h:k<xs.length):(xs.take (k+1)).map f=(xs.take k).map f++[f (nth xs k)]:=by
 rw[List.take_succ_eq_append_getElem h,List.map_append,cB h];rfl
def lN(w:ahh)(e:ahm)(k:IntKind)(n:Nat)(xs:List Int)(r:ahn)(w':ahh):Prop:=
 ∃(A:Option Addr) (c:Nat),r=.returned (.slice A n c)/\Own w' w.heap.size e k A n c xs/\ahi w.heap.size w w'
theorem mr{a b:Bool}(h:a=b):Ending.returned (.bool a)=Ending.returned (.bool b):=by rw[h]
theorem Aa{k:IntKind}{a b:Int}(h:a=b):Ending.returned (.int k a)=Ending.returned (.int k b):=by rw[h]
theorem aI{w:ahh}{p:Addr}(h:w.cell? p=some v)(o:Obj):(w.alloc o).cell? p=some v:=(World.cell?_alloc_lt w o p (block_lt_of_cell h)).trans h
theorem au{w w':ahh}{p:Addr}(h:w.cell? p=some v)(a:ahi w.heap.size w w'):w'.cell? p=some v:=(a.cell (block_lt_of_cell h)).trans h
theorem aN{B:Nat}{a w:ahh}(h:ahi B a w)(n:Nat):ahi B a (w.drewN n):=⟨h.os,h.tape,h.output,h.size,h.block⟩
def aG(w:ahh):Type:={w':ahh//ahi w.heap.size w w'}
instance later_nonempty (w:ahh):Nonempty (aG w):=⟨⟨w,Below.refl _ _⟩⟩
theorem bQ{d:Nat}{Q:Exit->Act->ahh->Prop}{w:ahh}{l:List Oper}(g:P.follows .mixedOrders=true)(b:Region.lexB .any l.toArray=true)
 (h:wpQuiet P l.toArray (fun w'=>∃n:aG w,w'=n.1) (fun f=>∀w',(∃n:aG w,w'=n.1)->Q .normal f w') l a):(Code.region d l.toArray true).wp P Q a w:=
 wp_region_quiet (C:=fun w'=>∃n:aG w,w'=n.1) g b ⟨⟨{w with drawn:=w.drawn+1},⟨rfl,rfl,rfl,Nat.le_refl _,fun _ _=>rfl⟩⟩,rfl⟩ uM
theorem dG{f:FuncId}{args:Array ahj}{w:ahh}{n:aG w}(h:ahk P f args n.1 fun e w'=>e=.returned v/\ahi n.1.heap.size n.1 w'):
 ahk P f args n.1 fun e a=>e=.returned v/\∃m:aG w,a=m.1:=
 h.mono fun _ w' ⟨d,b⟩=>⟨d,⟨w',n.2.trans (b.mono n.2.size)⟩,rfl⟩
theorem aE{w:ahh}{p:Addr}(h:w.cell? p=some v):∀n:aG w,n.1.cell? p=some v:=fun n=>(n.2.cell (block_lt_of_cell h)).trans h
theorem lc2{w:ahh}{f a:ahj}{d b:Addr}(j:w.cell? d=some f)(i:w.cell? b=some a):(∀n:aG w,n.1.cell? d=some f)/\(∀n:aG w,n.1.cell? b=some a):=⟨aE j,aE i⟩
theorem lc3 {w:ahh} {f a v2:ahj} {d b g:Addr} (j:w.cell? d=some f) (i:w.cell? b=some a) (m:w.cell? g=some v2):(∀n:aG w,n.1.cell? d=some f)/\(∀n:aG w,n.1.cell? b=some a)/\(∀n:aG w,n.1.cell? g=some v2):=⟨aE j,aE i,aE m⟩
theorem lc4 {w:ahh} {f a v2 v3:ahj} {d b g h:Addr} (j:w.cell? d=some f) (i:w.cell? b=some a) (m:w.cell? g=some v2) (o:w.cell? h=some v3):(∀n:aG w,n.1.cell? d=some f)/\(∀n:aG w,n.1.cell? b=some a)/\(∀n:aG w,n.1.cell? g=some v2)/\(∀n:aG w,n.1.cell? h=some v3):=⟨aE j,aE i,aE m,aE o⟩
theorem lc5 {w:ahh} {f a v2 v3 v4:ahj} {d b g h l:Addr} (j:w.cell? d=some f) (i:w.cell? b=some a) (m:w.cell? g=some v2) (o:w.cell? h=some v3) (r:w.cell? l=some v4):(∀n:aG w,n.1.cell? d=some f)/\(∀n:aG w,n.1.cell? b=some a)/\(∀n:aG w,n.1.cell? g=some v2)/\(∀n:aG w,n.1.cell? h=some v3)/\(∀n:aG w,n.1.cell? l=some v4):=⟨aE j,aE i,aE m,aE o,aE r⟩
theorem lc6 {w:ahh} {f a v2 v3 v4 q:ahj} {d b g h l p:Addr} (j:w.cell? d=some f) (i:w.cell? b=some a) (m:w.cell? g=some v2) (o:w.cell? h=some v3) (r:w.cell? l=some v4) (t:w.cell? p=some q):(∀n:aG w,n.1.cell? d=some f)/\(∀n:aG w,n.1.cell? b=some a)/\(∀n:aG w,n.1.cell? g=some v2)/\(∀n:aG w,n.1.cell? h=some v3)/\(∀n:aG w,n.1.cell? l=some v4)/\(∀n:aG w,n.1.cell? p=some q):=⟨aE j,aE i,aE m,aE o,aE r,aE t⟩
theorem lc7 {w:ahh} {f a v2 v3 v4 q u:ahj} {d b g h l p s:Addr} (j:w.cell? d=some f) (i:w.cell? b=some a) (m:w.cell? g=some v2) (o:w.cell? h=some v3) (r:w.cell? l=some v4) (t:w.cell? p=some q) (v:w.cell? s=some u):(∀n:aG w,n.1.cell? d=some f)/\(∀n:aG w,n.1.cell? b=some a)/\(∀n:aG w,n.1.cell? g=some v2)/\(∀n:aG w,n.1.cell? h=some v3)/\(∀n:aG w,n.1.cell? l=some v4)/\(∀n:aG w,n.1.cell? p=some q)/\(∀n:aG w,n.1.cell? s=some u):=⟨aE j,aE i,aE m,aE o,aE r,aE t,aE v⟩
theorem lc8 {w:ahh} {f a v2 v3 v4 q u v7:ahj} {d b g h l p s x:Addr} (j:w.cell? d=some f) (i:w.cell? b=some a) (m:w.cell? g=some v2) (o:w.cell? h=some v3) (r:w.cell? l=some v4) (t:w.cell? p=some q) (v:w.cell? s=some u) (y:w.cell? x=some v7):(∀n:aG w,n.1.cell? d=some f)/\(∀n:aG w,n.1.cell? b=some a)/\(∀n:aG w,n.1.cell? g=some v2)/\(∀n:aG w,n.1.cell? h=some v3)/\(∀n:aG w,n.1.cell? l=some v4)/\(∀n:aG w,n.1.cell? p=some q)/\(∀n:aG w,n.1.cell? s=some u)/\(∀n:aG w,n.1.cell? x=some v7):=⟨aE j,aE i,aE m,aE o,aE r,aE t,aE v,aE y⟩
theorem mRl{R G:Prop}(h:R)(s:R->G:=by
 intro a;refine bQ aF aF ?_
 repeat(go_big_quiet_step (fail))
 refine wpQuiet_nil ?_;exact a):G:=s h
def GY(p:Nat->Bool)(N:Nat):Nat->Nat->Nat
 |0,i=>i
 |d+1,i=>if i<N&&p i then GY p N d (i+1)else i
def ff(p:Nat->Bool)(N i:Nat):Nat:=GY p N (N-i) i
theorem qV(h:i<N)(b:p i=true):ff p N i=ff p N (i+1):=by
 unfold ff;obtain⟨d,a⟩:∃d,N-i=d+1:=⟨N-i-1,ak⟩;rw[a,show N-(i+1)=d by omega];simp[GY,h,b]
theorem iR(h:i<N->p i=false):ff p N i=i:=by
 unfold ff;cases N-i with
 |zero=>rfl
 |succ d=>
  unfold GY;by_cases a:i<N
  .simp[h a]
  .simp[a]
theorem mG(p:Nat->Bool)(N:Nat):∀(d i:Nat),N-i=d->i<=N->i<=ff p N i/\ff p N i<=N/\(∀j,i<=j->j<ff p N i->p j=true)/\(ff p N i<N->p (ff p N i)=false)
 |0,i,hd,hi=>by
  rw[iR (fun h=>ak)];exact⟨Nat.le_refl _,hi,fun j e b=>by omega,fun h=>by omega⟩
 |d+1,i,hd,hi=>by
  cases a:p i with
  |false=>
   rw[iR (fun _=>a)];exact⟨Nat.le_refl _,hi,fun j e b=>by omega,fun _=>a⟩
  |true=>
   rw[qV ak a];obtain⟨e,b,g,f⟩:=mG p N d (i+1) ak ak;refine⟨ak,b,fun j l k=> ?_,f⟩;rcases Nat.lt_or_ge i j with c|c
   .exact g j c k
   .obtain rfl:j=i:=by omega
    exact a
theorem IH(a:i<=N)(h:ff p N i<N):p (ff p N i)=false:=(mG p N _ i rfl a).2.2.2 h
theorem Dj(h:N<=i):ff p N i=i:=iR fun a=>by omega
def jM(x:Int):Nat:=(max 0 (min x 126)).toNat
theorem zR(x:Int):jM x<=126:=by unfold jM;omega
theorem DG(x:Int):((jM x:Nat):Int)=max 0 (min x 126):=by unfold jM;omega
def swp(xs:aC)(i j:Nat):aC:=(xs.set i (nth xs j)).set j (nth xs i)
theorem Gk(xs:aC)(i j:Nat):(swp xs i j).length=xs.length:=by simp[swp]
theorem Gf(xs:aC)(i q:Nat)(v:Int)(h:i<xs.length):nth (xs.set i v) q=if i=q then v else nth xs q:=by
 unfold nth;rw[List.getD_eq_getElem?_getD,List.getElem?_set,List.getD_eq_getElem?_getD];split
 .rename_i e;subst e;simp[h]
 .rfl
theorem FQ{xs:aC}(a:i<xs.length)(hj:j<xs.length)(q:Nat):nth (swp xs i j) q=if j=q then nth xs i else if i=q then nth xs j else nth xs q:=by
 unfold swp;rw[Gf _ _ _ _ vw,Gf _ _ _ _ a]
def Ky(a b:Nat)(xs:aC):aC:=if a+1<b then Ky (a+1) (b-1) (swp xs a (b-1))else xs
termination_by b-a
theorem An{a:Nat}(h:a+1<b)(xs:aC):Ky a b xs=Ky (a+1) (b-1) (swp xs a (b-1)):=by rw[Ky,if_pos h]
theorem th{a:Nat}(h:¬a+1<b)(xs:aC):Ky a b xs=xs:=by rw[Ky,if_neg h]
theorem HU:∀(d a b:Nat) (xs:aC),b-a<=d->b<=xs.length->(Ky a b xs).length=xs.length/\∀q,nth (Ky a b xs) q=if a<=q/\q<b then nth xs (a+b-1-q)else nth xs q
 |0,a,b,xs,hd,hb=>by
  rw[th ak];refine⟨rfl,fun q=> ?_⟩;rw[if_neg ak]
 |d+1,a,b,xs,hd,hb=>by
  by_cases h:a+1<b
  .rw[An h]
   obtain⟨i,j⟩:=HU d (a+1) (b-1) (swp xs a (b-1)) ak (by rw[Gk];omega);refine⟨i.trans (Gk _ _ _),fun q=> ?_⟩;rw[j,FQ ak ak,FQ ak ak];by_cases f:a+1<=q/\q<b-1
   .rw[if_pos f,if_neg ak,if_neg ak,if_pos ak,show a+1+(b-1)-1-q=a+b-1-q by omega]
   .rw[if_neg f]
    by_cases e:b-1=q
    .rw[if_pos e,if_pos ak,show a+b-1-q=a by omega]
    .rw[if_neg e]
     by_cases g:a=q
     .rw[if_pos g,if_pos ak,show a+b-1-q=b-1 by omega]
     .rw[if_neg g,if_neg ak]
  .rw[th h]
   refine⟨rfl,fun q=> ?_⟩;split
   .rename_i c
    rw[show a+b-1-q=q by omega]
   .rfl
def dN(xs:aC)(a b:Nat):aC:=xs.take a++((xs.take b).drop a).reverse++xs.drop b
theorem mP{xs:aC}{a:Nat}(h:a<=b):(dN xs a b).Perm xs:=by
 have e:xs.take a++(xs.take b).drop a++xs.drop b=xs:=by
  have c:xs.take a++(xs.take b).drop a=xs.take b:=by
   have:=List.take_append_drop a (xs.take b);rwa [List.take_take,Nat.min_eq_left h]at this
  rw[c,List.take_append_drop]
 unfold dN;exact((List.Perm.append_left (xs.take a) (List.reverse_perm _)).append_right _).trans (by rw[e])
theorem uI{xs:aC}{a:Nat}(h:a<=b):(dN xs a b).length=xs.length:=(mP h).length_eq
theorem tG{xs:aC}{a:Nat}(c:a<=b)(e:b<=xs.length)(q:Nat):nth (dN xs a b) q=if a<=q/\q<b then nth xs (a+b-1-q)else nth xs q:=by
 unfold nth dN;simp only[List.getD_eq_getElem?_getD];by_cases d:q<a
 .rw[if_neg ak,List.append_assoc,List.getElem?_append_left cw,List.getElem?_take,if_pos d]
 .by_cases f:q<b
  .rw[if_pos ak,List.getElem?_append_left cw,List.getElem?_append_right cw,List.getElem?_reverse cw,List.getElem?_drop,List.getElem?_take,if_pos cw]
   congr 2
   simp;omega
  .rw[if_neg ak,List.getElem?_append_right cw,List.getElem?_drop]
   congr 2
   simp;omega
theorem UJ{xs a:aC}(c:xs.length=a.length)(h:∀q,nth xs q=nth a q):xs=a:=by
 apply List.ext_getElem c;intro q b d;have:=h q;rwa [cB b,cB d]at this
theorem FP{xs:aC}{a:Nat}(c:a<=b)(d:b<=xs.length):Ky a b xs=dN xs a b:=by
 obtain⟨e,f⟩:=HU (b-a) a b xs bW d;exact UJ (e.trans (uI c).symm) fun q=>by rw[f,tG c d]
theorem qY{xs:aC}{a:Nat}(h:b<=a+1)(c:a<=b)(d:b<=xs.length):dN xs a b=xs:=by rw[<-FP c d,th (by omega)]
def Kw(lv o:aC)(k j:Nat):Bool:=decide (k<=jM (nth lv (nth o j).toNat))
def oN(lv o:aC)(k N i:Nat):Nat:=ff (Kw lv o k) N i
theorem sU(lv o:aC)(k:Nat){N i:Nat}(h:i<=N):i<=oN lv o k N i/\oN lv o k N i<=N:=by
 have:=mG (Kw lv o k) N _ i rfl h;exact⟨this.1,this.2.1⟩
def ar(lv:aC)(k N:Nat)(o:aC)(i:Nat):aC:=
 if h:i<N then ar lv k N (dN o i (oN lv o k N i)) (oN lv o k N i+1)else o
termination_by N-i
decreasing_by
 have:=(sU lv o k (Nat.le_of_lt h)).1;omega
theorem lF{lv:aC}{o:aC}(h:i<N):ar lv k N o i=ar lv k N (dN o i (oN lv o k N i)) (oN lv o k N i+1):=by rw[ar,dif_pos h]
theorem kY{lv:aC}{o:aC}(h:N<=i):ar lv k N o i=o:=by rw[ar,dif_neg (by omega)]
theorem Jg{lv:aC}{o:aC}(b:o.length=N)(h:i<N->Kw lv o k i=false):ar lv k N o i=ar lv k N o (i+1):=by
 by_cases a:i<N
 .rw[lF a]
  have e:oN lv o k N i=i:=iR fun _=>h a
  rw[e,qY ak bW ak]
 .rw[kY ak,kY ak]
theorem vT(lv:aC)(k N:Nat):∀(d:Nat) (o:aC) (i:Nat),N-i<=d->(ar lv k N o i).Perm o
 |0,o,i,h=>by rw[kY ak]
 |d+1,o,i,h=>by
  by_cases a:i<N
  .rw[lF a]
   have:=(sU lv o k (Nat.le_of_lt a)).1;exact(vT lv k N d _ _ ak).trans (mP this)
  .rw[kY ak]
theorem Cz{lv o:aC}(d:o.length=N)(a:i<=N)(h:oN lv o k N i<N):Kw lv (dN o i (oN lv o k N i)) k (oN lv o k N i)=false:=by
 obtain⟨b,e⟩:=sU lv o k a;have c:Kw lv o k (oN lv o k N i)=false:=by
  unfold oN at h⊢;exact IH a h
 unfold Kw at c⊢;rwa [tG b ak,if_neg ak]
def Ir(lv:aC)(N least:Nat):Nat->aC->aC
 |0,o=>o
 |k+1,o=>if least<=k+1 then Ir lv N least k (ar lv (k+1) N o 0)else o
theorem Bb(lv:aC)(N least:Nat):∀(k:Nat) (o:aC),(Ir lv N least k o).Perm o
 |0,o=>List.Perm.refl _
 |k+1,o=>by
  simp only[Ir];split
  .exact(Bb lv N least k _).trans (vT lv (k+1) N N o 0 ak)
  .exact List.Perm.refl _
def lj(lv:aC):Nat->Nat
 |0=>0
 |i+1=>max (lj lv i) (jM (nth lv i))
def fu(lv:aC):Nat->Nat
 |0=>127
 |i+1=>if jM (nth lv i)%2=1 then min (fu lv i) (jM (nth lv i))else fu lv i
theorem AK(lv:aC):∀n,lj lv n<=126
 |0=>by simp[lj]
 |n+1=>by
  have:=AK lv n;have:=zR (nth lv n);simp only[lj];omega
theorem vA(lv:aC):∀n,1<=fu lv n/\fu lv n<=127
 |0=>by simp[fu]
 |n+1=>by
  have:=vA lv n;simp only[fu];split<;>omega
def pP(n:Nat):aC:=(List.range n).map Int.ofNat
theorem nC(n:Nat):(pP n).length=n:=by simp[pP]
theorem O'(n:Nat):pP (n+1)=pP n++[(n:Int)]:=by simp[pP,List.range_succ]
def kI(lv:aC):aC:=Ir lv lv.length (fu lv lv.length) (lj lv lv.length) (pP lv.length)
theorem re(lv:aC):(kI lv).Perm (pP lv.length):=Bb _ _ _ _ _
structure Bc(o:aC)(n:Nat):Prop where
 len:o.length=n
 ge:∀j,j<n->0<=nth o j
 lt:∀j,j<n->(nth o j).toNat<n
 inj:∀i j,i<n->j<n->(nth o i).toNat=(nth o j).toNat->i=j
 sur:∀k,k<n->∃j,j<n/\(nth o j).toNat=k
theorem nN{o:aC}{n:Nat}(h:o.Perm (pP n)):Bc o n:=by
 have r:o.length=n:=by rw[h.length_eq,nC]
 have d:∀j,j<n->∃k,k<n/\nth o j=(k:Int):=by
  intro j c;have f:nth o j∈o:=Bk;have m:=(h.mem_iff).1 f;simp only[pP,List.mem_map,List.mem_range]at m;obtain⟨k,s,t⟩:=m;exact⟨k,s,t.symm⟩
 have g:o.Nodup:=by
  rw[h.nodup_iff,pP];rw[List.nodup_iff_pairwise_ne,List.pairwise_map];exact List.Pairwise.imp (fun h=>by intro e;apply h;exact Int.ofNat.inj e) List.nodup_range
 refine⟨r,fun j c=> ?_,fun j c=> ?_,fun i j v c e=> ?_,fun k u=> ?_⟩
 .obtain⟨k,_,e⟩:=d j c
  omega
 .obtain⟨k,_,e⟩:=d j c
  omega
 .obtain⟨a,_,q⟩:=d i v
  obtain⟨b,_,p⟩:=d j c;rw[q,p]at e;have l:nth o i=nth o j:=ak;rw[cB ak,cB ak]at l;exact(List.getElem_inj g).1 l
 .have f:(k:Int)∈o:=by
   rw[h.mem_iff,pP];simp only[List.mem_map,List.mem_range];exact⟨k,u,rfl⟩
  obtain⟨j,c,e⟩:=List.getElem_of_mem f;refine⟨j,ak, ?_⟩;rw[cB c,e];omega
theorem Ea{lv:aC}{n:Nat}(h:lv.length=n):Bc (kI lv) n:=by
 subst h;exact nN (re lv)
section
variable{P:aho}{ops:Array Oper}{md:Region.Mode}{C:ahh -> Prop}{T:Option Tmp -> Option (ahj -> Prop)}
@[go_sem] def mF(P : aho)(C : ahh -> Prop)(w : ahh)(S : ahj -> Prop) : Result Next -> Prop
 | .ok (.value u) w'=>w'=w/\S u
 | .ok .skip w'=>w'=w/\S undef
 | .ok (.enter f args) w'=>w'=w/\ahk P f args w (fun e a=>∃v,e=.returned v/\S v/\C a)
 |_=>False
@[go_sem] def sk(P : aho)(o : Oper)(a : Act)(C : ahh -> Prop)(w : ahh)(S : ahj -> Prop) : Prop := mF P C w S ((execOp a.eval o).run P w)
def eU(o:Oper):Bool:=match o.op with
 | .call c=>(match c.callee with| .builtin .len=>true|_=>false)
 | .move _=>true
 | .assign _=>true
 | .pick _ _ _=>true
 | .load _ _=>true
 | .fieldAddr _ _ _=>true
 | .field _ _ _=>true
 | .indexAddr _ _ _=>true
 | .binOp _ _ _ _ _=>true
 | .unOp _ _ _=>true
 | .convert _ _ _=>true
 | .slice _ _ _ _ _=>true
 | .extract _ _=>true
 | .build _ _=>true
 | .nilCheck _=>true
 |_=>false
theorem uh(s:Sem ahj)(g:ahj->ahj){w:ahh}{f:FuncId}{args:Array ahj}{a:ahh}:(do let x<-s;pure (Next.value (g x)):Sem Next).run P w≠ .ok (.enter f args) a:=by
 simp;cases s.run P w<;>simp[Result.andThen]
theorem I1(s:Sem Bool)(g:Bool->ahj){w:ahh}{f:FuncId}{args:Array ahj}{a:ahh}:(do let x<-s;pure (Next.value (g x)):Sem Next).run P w≠ .ok (.enter f args) a:=by
 simp;cases s.run P w<;>simp[Result.andThen]
theorem Sj{G:Prop}(s:G:=by
 simp only[*];exact uh _ id):G:=s
theorem kx(h:eU o=true)(ρ:Operand->ahj)(w:ahh)(f:FuncId)(args:Array ahj)(b:ahh):(execOp ρ o).run P w≠ .ok (.enter f args) b:=by
 unfold eU at h;unfold execOp;split at h
 case h_1 c heq=>
  simp only[heq];split at h
  .rename_i d
   simp[resolve,d,invoke,builtin];exact fun e=>uh (P:=P) _ id (by simpa using e)
  .cases h
 case h_2=>simp[*]
 case h_3=>simp[*]
 case h_4=>simp only[*];exact I1 _ _
 case h_5=>exact Sj
 case h_6=>exact Sj
 case h_7=>exact Sj
 case h_8=>exact Sj
 case h_9=>exact Sj
 case h_10=>exact Sj
 case h_11=>exact Sj
 case h_12=>exact Sj
 case h_13=>exact Sj
 case h_14=>exact Sj
 case h_15=>
  simp only[*];intro h;split at h
  .simp[runtimePanic]at h
  .simp[runtimePanic]at h
  .simp[runtimePanic]at h
  .split at h
   .simp[runtimePanic]at h
   .rw[Sem.run_bind]at h
    generalize Sem.run P program w=r at h;cases r with
    |halt x y=>simp[Result.andThen]at h
    |ok v y=>
     simp only[Result.andThen]at h;rw[Sem.run_bind]at h;generalize Sem.run P (nilAhead _ _ _ _) y=a at h;cases a with
     |halt x y=>simp[Result.andThen]at h
     |ok v2 y2=>
      simp only[Result.andThen]at h;split at h<;>simp[unsupported,Result.andThen]at h
   .simp at h
  .simp at h
 case h_16=>cases h
def qO(P:aho)(T:Option Tmp->Option (ahj->Prop))(C:ahh->Prop)(o:Oper)(a:Act)(K:Act->Prop):Prop:=
 match T o.dst with
 |some S=>(∀w,C w->sk P o a C w S)/\∀v,S v->K (a.put o.dst v)
 |none=>eU o=true/\o.quiet P a C K
def lx(P:aho)(ops:Array Oper)(T:Option Tmp->Option (ahj->Prop))(C:ahh->Prop)(Q:Act->Prop):List Oper->Act->Prop
 |[],a=>Q a
 |o::rest,a=>if Region.wanted o (yielded ops a.tmps)then qO P T C o a (lx P ops T C Q rest)else lx P ops T C Q rest (a.put o.dst undef)
def oG(P:aho)(ops:Array Oper)(T:Option Tmp->Option (ahj->Prop))(C:ahh->Prop)(i:Nat)(K:Act->Prop)(a:Act):Prop:=
 match ops[i]? with
 |none=>K a
 |some o=>if Region.wanted o (yielded ops a.tmps)then qO P T C o a K else K (a.put o.dst undef)
theorem JR{c:Act->Prop}(h:∀a,K a->c a)(b:qO P T C o a K):qO P T C o a c:=by
 unfold qO at*;split
 .rename_i S e
  rw[e]at b;exact⟨b.1,fun v d=>h _ (b.2 v d)⟩
 .rename_i e
  rw[e]at b;exact⟨b.1,Oper.quiet_mono h b.2⟩
theorem Jj{d:Act->Prop}(h:∀a,K a->d a)(b:oG P ops T C i K a):oG P ops T C i d a:=by
 unfold oG at*;split
 .exact h _ (by simpa[*]using b)
 .rename_i o e
  simp only[e]at b;split
  .rename_i c;simp only[c,if_true]at b;exact JR h b
  .rename_i c;simp only[c]at b;exact h _ b
def wpAnyL(P:aho)(md:Region.Mode)(ops:Array Oper)(T:Option Tmp->Option (ahj->Prop))(C:ahh->Prop)(Q:Act->Prop):Nat->Array Bool->Act->Prop
 |0,listed,a=>Region.ready md ops listed=[]/\Q a
 |fuel+1,listed,a=>
  (Region.ready md ops listed=[]->Q a)/\
  ∀i∈Region.ready md ops listed,oG P ops T C i (wpAnyL P md ops T C Q fuel (listed.setIfInBounds i true)) a
theorem C9{k:Act->ahh->Prop}(i:C w)(h:∀a g,C g->K a->k a g)(d:qO P T C o a K):o.wp P a w k Q':=by
 unfold qO at d;split at d
 .obtain⟨m,j⟩:=d
  have b:=m w i;unfold sk at b;unfold Oper.wp;generalize(execOp a.eval o).run P w=r at*;cases r with
  |ok n g=>
   cases n<;>simp only[mF]at b<;>simp only[Oper.upon]
   case value u=>rw[b.1];exact h _ _ i (j _ b.2)
   case skip=>rw[b.1];exact h _ _ i (j _ b.2)
   case enter f args=>
    rw[b.1];exact b.2.mono fun e p ⟨v,l,q,c⟩=>by subst l;exact h _ _ c (j _ q)
  |halt x g=>simp only[mF]at b
 .exact Oper.wp_of_quiet i h d.2
theorem yh{g:Act->ahh->Prop}(c:C w)(h:∀a f,C f->K a->g a f)(b:oG P ops T C i K a):wpOp P ops Q' i g a w:=by
 unfold oG at b;unfold wpOp;split
 .rename_i d;simp only[d]at b;exact h _ _ c b
 .rename_i o d
  simp only[d]at b;split
  .rename_i e;simp only[e,if_true]at b;exact .inl (C9 c h b)
  .rename_i e;simp only[e]at b;exact h _ _ c b
theorem ru{Q:Act->Prop}{Q':Exit->Act->ahh->Prop}(c:∀a w,C w->Q a->Q' .normal a w):∀(fuel:Nat) (listed:Array Bool) (a:Act) (w:ahh),C w->
 wpAnyL P md ops T C Q fuel listed a->wpAny P md ops Q' fuel listed a w
 |0,_,_,_,hw,h=>⟨h.1,c _ _ hw h.2⟩
 |fuel+1,_,_,_,hw,h=>⟨fun g=>c _ _ hw (h.1 g),fun i d=>yh hw (fun e f b=>ru c fuel _ e f b) (h.2 i d)⟩
def pk(P:aho)(ops:Array Oper)(T:Option Tmp->Option (ahj->Prop))(C:ahh->Prop)(o:Oper)(S:ahj->Prop)(a:Act):Prop:=
 (Region.wanted o (yielded ops a.tmps)=true/\(T o.dst=some S∨(T o.dst=none/\eU o=true/\∃v,S=fun u=>u=v))/\∀w,C w->sk P o a C w S)∨
 (Region.wanted o (yielded ops a.tmps)=false/\S=fun v=>v=undef)
theorem pk.has(h:pk P ops T C o S a)(c:∃w,C w):∃v,S v:=by
 rcases h with⟨_,_,h⟩|⟨_,rfl⟩
 .obtain⟨w,g⟩:=c
  have:=h w g;unfold sk at this;generalize(execOp a.eval o).run P w=r at*;cases r with
  |ok n b=>
   cases n<;>simp only[mF]at this
   case value u=>exact⟨_,this.2⟩
   case skip=>exact⟨_,this.2⟩
   case enter f args=>
    obtain⟨e,b,i,⟨v,_,d,_⟩,_⟩:=this.2 [];exact⟨v,d⟩
  |halt x b=>simp only[mF]at this
 .exact⟨_,rfl⟩
theorem mH{d:ahj}(e:eU o=true)(h:o.quietAt P a C w v)(b:o.quietAt P a C w d):v=d:=by
 unfold Oper.quietAt at h b;have c:=kx (P:=P) e a.eval w;generalize(execOp a.eval o).run P w=r at*;cases r with
 |ok n w'=>
  cases n<;>simp only[Oper.quietUpon]at h b
  case value u=>exact h.2.symm.trans b.2
  case skip=>exact h.2.trans b.2.symm
  case enter f args=>exact absurd rfl (c f args w')
 |halt x w'=>simp only[Oper.quietUpon]at h
theorem sC(h:o.quietAt P a C w v):sk P o a C w fun u=>u=v:=by
 unfold Oper.quietAt at h;unfold sk;generalize(execOp a.eval o).run P w=r at*;cases r with
 |ok n w'=>
  cases n<;>simp only[Oper.quietUpon]at h<;>simp only[mF]
  case value u=>exact h
  case skip=>exact⟨h.1,h.2.symm⟩
  case enter f args=>exact⟨h.1,h.2.mono fun e d ⟨b,c⟩=>⟨v,b,rfl,c⟩⟩
 |halt x w'=>simp only[Oper.quietUpon]at h
theorem xd(k:ops[i]? =some o)(h:oG P ops T C i K a):∃S,pk P ops T C o S a/\∀v,S v->K (a.put o.dst v):=by
 unfold oG at h;simp only[k]at h;by_cases b:Region.wanted o (yielded ops a.tmps)=true
 .simp only[b,if_true]at h
  unfold qO at h;split at h
  .rename_i e
   exact⟨_,.inl ⟨b,.inl e,h.1⟩,h.2⟩
  .rename_i e
   obtain⟨g,v,d,j⟩:=h;exact⟨fun u=>u=v,.inl ⟨b,.inr ⟨e,g,v,rfl⟩,fun w f=>sC (d w f)⟩,fun u c=>by rw[c];exact j⟩
 .simp only[b]at h
  exact⟨fun v=>v=undef,.inr ⟨by simpa using b,rfl⟩,fun u c=>by rw[c];exact h⟩
theorem sE(c:eU o=true)(h:sk P o a C w fun u=>u=v):o.quietAt P a C w v:=by
 unfold sk at h;unfold Oper.quietAt;have b:=kx (P:=P) c a.eval w;generalize(execOp a.eval o).run P w=r at*;cases r with
 |ok n w'=>
  cases n<;>simp only[mF]at h<;>simp only[Oper.quietUpon]
  case value u=>exact h
  case skip=>exact⟨h.1,h.2.symm⟩
  case enter f args=>exact absurd rfl (b f args w')
 |halt x w'=>simp only[mF]at h
theorem pk.lq(k:ops[i]? =some o)(j:pk P ops T C o S a){K:Act->Prop}(h:∀v,S v->K (a.put o.dst v)):oG P ops T C i K a:=by
 unfold oG;simp only[k];rcases j with⟨c,g,d⟩|⟨c,rfl⟩
 .simp only[c,if_true]
  unfold qO;rcases g with e|⟨e,f,v,rfl⟩
  .simp only[e]
   exact⟨d,h⟩
  .simp only[e]
   exact⟨f,v,fun w b=>sE f (d w b),h v rfl⟩
 .simp only[c,Bool.false_eq_true,if_false]
  exact h _ rfl
theorem pk.of_same{b:Act}(d:pk P ops T C o S a)(c:execOp b.eval o=execOp a.eval o)
 (e:Region.wanted o (yielded ops b.tmps)=Region.wanted o (yielded ops a.tmps)):pk P ops T C o S b:=by
 unfold pk sk at*;rw[c,e];exact d
theorem Nx{c d:Oper}(D:∃w,C w)(I:ops[j]? =some d)(r:c.apart ops d=true)
 (y:∀cs b,c.op≠ .select cs b) (k:∀cs b,d.op≠ .select cs b) {K:Act->Prop} {a:Act}
 (m:pk P ops T C c S a) (h:∀v,S v->oG P ops T C j K (a.put c.dst v)):
 oG P ops T C j (fun G=>pk P ops T C c S G/\∀v,S v->K (G.put c.dst v)) a:=by
 obtain⟨p,z,B⟩:=Oper.apart_spec r;have jS:∀(a:Act),pk P ops T C c S a->∀u,pk P ops T C c S (a.put d.dst u):=fun a m u=>
  m.of_same (execOp_put c y a d.dst u B) (wanted_put c a d.dst u B)
 obtain⟨q,o⟩:=m.has D;obtain⟨w0,n⟩:=D;unfold oG at*;simp only[I]at*;have f:∀v,S v->if Region.wanted d (yielded ops a.tmps)=true then qO P T C d (a.put c.dst v) K else K ((a.put c.dst v).put d.dst undef):=fun v l=>by
  have:=h v l;rwa [wanted_put d a c.dst v p]at this
 split
 .rename_i s
  simp only[s,if_true]at f;unfold qO at*;cases E:T d.dst with
  |some S'=>
   simp only[E]at f⊢;refine⟨fun w i=> ?_,fun u x=>⟨jS a m u,fun v l=> ?_⟩⟩
   .have:=(f q o).1 w i
    unfold sk at*;rwa [execOp_put d k a c.dst q p]at this
   .rw[<-Act.put_comm a v u z]
    exact(f v l).2 u x
  |none=>
   simp only[E]at f⊢;obtain⟨F,u0,t,H⟩:=f q o;have g:∀w,C w->d.quietAt P a C w u0:=fun w i=>by
    have:=t w i;unfold Oper.quietAt at*;rwa [execOp_put d k a c.dst q p]at this
   refine⟨F,u0,g,jS a m u0,fun v l=> ?_⟩;obtain⟨_,u,x,J⟩:=f v l;have A:d.quietAt P a C w0 u:=by
    have:=x w0 n;unfold Oper.quietAt at*;rwa [execOp_put d k a c.dst v p]at this
   have e:=mH F (g w0 n) A;subst e;rw[<-Act.put_comm a v u0 z];exact J
 .rename_i s
  simp only[s]at f;exact⟨jS a m _,fun v l=>by rw[<-Act.put_comm a v undef z];exact f v l⟩
theorem wpAnyL_first{q:Oper}(I:∃w,C w)(D:ops[i]? =some q)(l:∀(j:Nat) (o:Oper) cs b,ops[j]? =some o->o.op≠ .select cs b)
 :
 ∀(fuel:Nat) (listed:Array Bool) (a:Act),
  (∀j p,ops[j]? =some p->j≠i->listed.getD j true=false->(∀e∈p.after,Region.binds md e=true->e.on≠i)->q.apart ops p=true)->
  i∈Region.ready md ops listed->pk P ops T C q S a->
  (∀v,S v->wpAnyL P md ops T C Q fuel (listed.setIfInBounds i true) (a.put q.dst v))->wpAnyL P md ops T C Q (fuel+1) listed a:=by
 intro fuel
 induction fuel with
 |zero=>
  intro listed a _ hr t H;refine⟨fun h=>Ki,fun j z=> ?_⟩;by_cases c:j=i
  .subst c;exact t.lq D H
  .have:=ready_mono z c
   obtain⟨v,E⟩:=t.has I;rw[(H v E).1]at this;cases this
 |succ fuel ih=>
  intro listed a d hr t H;refine⟨fun h=>Ki,fun j z=> ?_⟩;by_cases c:j=i
  .subst c;exact t.lq D H
  .have n:=fun v E=>(H v E).2 j (ready_mono z c)
   obtain⟨g,p,m,s⟩:=mem_ready.1 z;have r:∀e∈p.after,Region.binds md e=true->e.on≠i:=fun e K M heq=>by
    have n:=s e K M;have J:=(mem_ready.1 hr).1;rw[heq]at n;rcases Nat.lt_or_ge i listed.size with F|F
    .simp[F]at J n;rw[J]at n;cases n
    .simp[Array.getElem?_eq_none F]at n
   have L:=Nx I m (d j p m c g r) (fun cs b=>l i q cs b D) (fun cs b=>l j p cs b m) t n;have f:∀k u,ops[k]? =some u->k≠i->(listed.setIfInBounds j true).getD k true=false->
    (∀e∈u.after,Region.binds md e=true->e.on≠i)->q.apart ops u=true:=fun k u O A y B=>by
    refine d k u O A ?_ B;by_cases x:j=k
    .subst x;exact g
    .rw[getD_set_ne true x]at y;exact y
   refine Jj (fun N G=>ih (listed.setIfInBounds j true) N f (ready_mono hr (Ne.symm c)) G.1 ?_) L;rw[Array.setIfInBounds_comm _ _ c];exact G.2
theorem wpAnyL_lex{Q:Act->Prop}(f:∃w,C w)(e:Region.noSelect ops=true):∀(l:List Oper) (k:Nat) (listed:Array Bool) (a:Act),(∀j,l[j]? =ops[k+j]?)->
 Region.lexFrom md ops l.length k listed=true->lx P ops T C Q l a->wpAnyL P md ops T C Q l.length listed a
 |[],_,_,_,_,hB,h=>⟨Xo,h⟩
 |o::l,k,listed,a,hl,hB,h=>by
  have b:ops[k]? =some o:=by simpa using (hl 0).symm
  simp only[List.length_cons,Region.lexFrom,Bool.and_eq_true]at hB;obtain⟨⟨m,g⟩,c⟩:=hB;have d:oG P ops T C k (lx P ops T C Q l) a:=by unfold oG;simp only[b];exact h
  obtain⟨S,n,hK⟩:=xd b d;exact wpAnyL_first f b (Region.noSelect_spec e) l.length listed a (Region.free_spec b g) (by simpa using m) n
   (fun v i=>wpAnyL_lex f e l (k+1) _ _ (fun j=>abu) c (hK v i))
theorem aD{Q:Exit->Act->ahh->Prop}{l:List Oper}(T:Option Tmp->Option (ahj->Prop))(i:P.follows .mixedOrders=true)(c:Region.lexB .any l.toArray=true)
 (h:lx P l.toArray T (fun b=>∃n:aG w,b=n.1) (fun e=>∀b,(∃n:aG w,b=n.1)->Q .normal e b) l a):(Code.region g l.toArray true).wp P Q a w:=by
 simp only[Region.lexB,Bool.and_eq_true]at c;have f:(fun b=>∃n:aG w,b=n.1) {w with drawn:=w.drawn+1}:=⟨⟨{w with drawn:=w.drawn+1},⟨rfl,rfl,rfl,Nat.le_refl _,fun _ _=>rfl⟩⟩,rfl⟩;refine wp_region_any i (ru (T:=T) (Q:=fun e=>∀b,(∃n:aG w,b=n.1)->Q .normal e b) (fun _ b d h=>h b d) _ _ _ _ f ?_);have:=wpAnyL_lex (md:=.any) ⟨_,f⟩ c.1 l 0 (Array.replicate l.toArray.size false) a aQ (by simpa using c.2) h;simpa using this
theorem Vf{T:Option Tmp->Option (ahj->Prop)}(b:Region.wanted o (yielded ops a.tmps)=false)(h:lx P ops T C Q rest (a.put o.dst undef)):lx P ops T C Q (o::rest) a:=by
 unfold lx;rw[if_neg (by rw[b];exact Bool.false_ne_true)];exact h
theorem cF{T:Option Tmp->Option (ahj->Prop)}(d:Region.wanted o (yielded ops a.tmps)=true)(b:T o.dst=none)(c:eU o=true)
 (h:∀K:Act->Prop,(∀a,lx P ops T C Q rest a->K a)->o.quiet P a C K):lx P ops T C Q (o::rest) a:=by
 unfold lx;rw[if_pos d];unfold qO;rw[b];exact⟨c,h _ fun _ h=>h⟩
theorem kH{T:Option Tmp->Option (ahj->Prop)}(S:ahj->Prop)(e:Region.wanted o (yielded ops a.tmps)=true)(b:T o.dst=some S)
 (c:∀w,C w->sk P o a C w S) (d:∀v,S v->lx P ops T C Q rest (a.put o.dst v)):lx P ops T C Q (o::rest) a:=by
 unfold lx;rw[if_pos e];unfold qO;rw[b];exact⟨c,d⟩
theorem lsA{P:aho}{ops:Array Oper}{w0:ahh}{T:Option Tmp->Option (ahj->Prop)}(S:ahj->Prop)
 (c:∀f:aG w0,sk P o a (fun b=>∃n:aG w0,b=n.1) f.1 S) (g:∀v,S v->lx P ops T (fun b=>∃n:aG w0,b=n.1) Q rest (a.put o.dst v)) (d:Region.wanted o (yielded ops a.tmps)=true:=by rfl) (h:T o.dst=some S:=by rfl):lx P ops T (fun b=>∃n:aG w0,b=n.1) Q (o::rest) a:=
 kH S d h (fun _ ⟨n,e⟩=>e▸c n) g
end
def SB(v:ahj):Prop:=∃b:Bool,v=.bool b
def SI(v:ahj):Prop:=∃z:Int,v=ae aj z
def kF(t:Nat)(S:ahj->Prop)(d:Option Tmp):Option (ahj->Prop):=if d=some t then some S else none
def jN(c:Int):Bool:=c==1||c==2||c==3
def um(a b:Int):Bool:=
 if a==9 then b==9||b==10||b==12||b==13 else if a==12||a==10 then b==10||b==11 else if a==13||a==11 then b==11 else false
def ia(ks:aC):Nat->Bool
 |0=>false
 |k+1=>if nth ks k==4 then ia ks k else nth ks k==14
def mj(ks:aC):Nat->Nat
 |0=>0
 |k+1=>if nth ks k==6 then mj ks k+1 else 0
def pO(a b:Int)(c d:Bool):Bool:=
 if(a==1&&b==2||um a b)=true then true
 else if(!jN a&&(b==4||b==5||b==8))=true then true
 else if(a==7&& !jN b)=true then true
 else if(a==5&&b==14&&c)=true then true
 else a==6&&b==6&&d
def Py(a b:Int)(c d:Bool):Bool:=
 if(a==1&&b==2)=true then true
 else if(jN a||jN b)=true then false
 else if(um a b||b==4||b==5||b==8||a==7)=true then true
 else if(b==14)=true then(a==5&&c)
 else a==6&&b==6&&d
theorem Qz(a b:Int)(d e:Bool):Py a b d e=pO a b d e:=by
 have split:∀c:Int,(c=1∨c=2∨c=3∨c=4∨c=5∨c=6∨c=7∨c=8∨c=9∨c=10∨c=11∨c=12∨c=13∨c=14)∨(c≠1/\c≠2/\c≠3/\c≠4/\c≠5/\c≠6/\c≠7/\c≠8/\c≠9/\c≠10/\c≠11/\c≠12/\c≠13/\c≠14):=fun c=>by omega
 rcases split a with g|g
 .rcases split b with f|f
  .rcases g with rfl|rfl|rfl|rfl|rfl|rfl|rfl|rfl|rfl|rfl|rfl|rfl|rfl|rfl<;>
    rcases f with rfl|rfl|rfl|rfl|rfl|rfl|rfl|rfl|rfl|rfl|rfl|rfl|rfl|rfl<;>cases d<;>cases e<;>rfl
  .rcases g with rfl|rfl|rfl|rfl|rfl|rfl|rfl|rfl|rfl|rfl|rfl|rfl|rfl|rfl<;>simp[Py,pO,jN,um,f]
 .rcases split b with f|f
  .rcases f with rfl|rfl|rfl|rfl|rfl|rfl|rfl|rfl|rfl|rfl|rfl|rfl|rfl|rfl<;>simp[Py,pO,jN,um,g]
  .simp[Py,pO,jN,um,g,f]
def kK(ks:aC)(i:Nat):Bool:=pO (nth ks (i-1)) (nth ks i) (ia ks (i-1)) (mj ks i%2==1)
def mz(ks:aC)(i:Nat):Bool:=decide (0<ks.length/\i<=ks.length)&&(i==0||i==ks.length|| !kK ks i)
def Ks(ks:aC)(i:Int):Bool:=decide (0<=i)&&mz ks i.toNat
def DT(ks:aC)(m:Nat):aC:=((List.range m).filter (mz ks)).map Int.ofNat
theorem wM(ks:aC)(m:Nat):DT ks (m+1)=if mz ks m=true then DT ks m++[(m:Int)]else DT ks m:=by
 unfold DT;rw[List.range_succ,List.filter_append,List.map_append];by_cases h:mz ks m=true
 .simp[h]
 .simp[h]
def bounds(ks:aC):aC:=DT ks (ks.length+1)
theorem VF(i:Nat):mz [] i=false:=by simp[mz]
theorem Te{ks:aC}(h:ks.length<i):mz ks i=false:=by simp[mz];omega
theorem oS{ks:aC}(h:0<ks.length):mz ks 0=true:=by simp[mz,h]
theorem xK{ks:aC}(h:0<ks.length):mz ks ks.length=true:=by simp[mz,h]
theorem Fw{ks:aC}(d:0<i)(h:i<ks.length):mz ks i= !kK ks i:=by
 have a:(i==0)=false:=pI;have c:(i==ks.length)=false:=pI;have b:decide (0<ks.length/\i<=ks.length)=true:=Kc;simp[mz,a,c,b]
theorem alone(a b:Int)(c d:Bool):
 (jN a=true->pO a b c d=(a==1&&b==2))/\(a=0->b=0->pO a b c d=false)/\(a=0->(b=4∨b=5∨b=8)->pO a b c d=true):=by
 refine⟨fun h=> ?_,fun e f=> ?_,fun e f=> ?_⟩
 .have:a=1∨a=2∨a=3:=by simpa[jN,or_assoc]using h
  by_cases g:b=2
  .subst g;rcases this with rfl|rfl|rfl<;>simp[pO,jN,um]
  .rcases this with rfl|rfl|rfl<;>simp[pO,jN,um,g]
 .subst e;subst f;rfl
 .subst e
  rcases f with rfl|rfl|rfl<;>rfl
def fG(ks:aC)(m:Nat):List Nat:=(List.range m).filter (mz ks)
theorem jP{ks:aC}(h:mz ks m=true):fG ks (m+1)=fG ks m++[m]:=by
 unfold fG;rw[List.range_succ,List.filter_append];simp[h]
theorem ye{ks:aC}(h:mz ks m=false):fG ks (m+1)=fG ks m:=by
 unfold fG;rw[List.range_succ,List.filter_append];simp[h]
theorem pG{ks:aC}{x:Nat}(h:x∈fG ks m):x<m/\mz ks x=true:=by
 unfold fG at h;have:=List.mem_filter.1 h;exact⟨List.mem_range.1 this.1,this.2⟩
theorem lB(ks:aC)(m:Nat):(fG ks m).length<=m:=by
 have:=List.length_filter_le (mz ks) (List.range m);rw[List.length_range]at this;exact this
theorem xL(ks:aC)(s:Nat):∀d,∃r,fG ks (s+d)=fG ks s++r/\∀x∈r,s<=x/\x<s+d/\mz ks x=true
 |0=>⟨[],aQ,aQ⟩
 |d+1=>by
  obtain⟨r,g,i⟩:=xL ks s d;cases h:mz ks (s+d)with
  |true=>
   refine⟨r++[s+d], ?_,fun x f=> ?_⟩
   .rw[show s+(d+1)=s+d+1 by omega,jP h,g,List.append_assoc]
   .rcases List.mem_append.1 f with e|e
    .obtain⟨a,b,c⟩:=i x e
     exact⟨a,ak,c⟩
    .simp at e;subst e;exact⟨ak,ak,h⟩
  |false=>
   refine⟨r, ?_,fun x f=> ?_⟩
   .rw[show s+(d+1)=s+d+1 by omega,ye h,g]
   .obtain⟨a,b,c⟩:=i x f
    exact⟨a,ak,c⟩
def de(ks:aC):List Nat:=fG ks (ks.length+1)
theorem CG(ks:aC):bounds ks=(de ks).map Int.ofNat:=rfl
theorem tX{ks:aC}(h:s<=ks.length+1):∃r,de ks=fG ks s++r/\∀x∈r,s<=x/\x<=ks.length/\mz ks x=true:=by
 obtain⟨r,d,f⟩:=xL ks s (ks.length+1-s);rw[show s+(ks.length+1-s)=ks.length+1 by omega]at d;refine⟨r,d,fun x e=> ?_⟩;obtain⟨a,b,c⟩:=f x e;exact⟨a,ak,c⟩
def cZ(l:List Nat)(k:Nat):Nat:=l.getD k 0
theorem Nj{r:List Nat}(h:k<l.length):cZ (l++r) k=cZ l k:=by simp[cZ,List.getElem?_append_left h]
theorem sY(h:k<l.length):cZ l k∈l:=by
 unfold cZ;simp[h]
theorem aaG{r:List Nat}(h:l.length<=k)(b:k<(l++r).length):cZ (l++r) k∈r:=by
 unfold cZ;simp only[List.length_append]at b;have a:k-l.length<r.length:=ak;simp[List.getElem?_append_right h,a]
theorem oV(h:k<l.length):nth (l.map Int.ofNat) k=(cZ l k:Int):=by
 unfold nth cZ;simp[h]
theorem Ly{ks:aC}(b:s<=ks.length+1)(h:k<(fG ks s).length):cZ (de ks) k<s/\mz ks (cZ (de ks) k)=true:=by
 obtain⟨r,a,_⟩:=tX b;rw[a,Nj h];exact pG (sY h)
theorem Am{ks:aC}(d:s<=ks.length+1)(h:(fG ks s).length<=k)(a:k<(de ks).length):s<=cZ (de ks) k/\cZ (de ks) k<=ks.length/\mz ks (cZ (de ks) k)=true:=by
 obtain⟨r,b,c⟩:=tX d;rw[b]at a⊢;exact c _ (aaG h a)
theorem NH{ks:aC}{t:Nat}(h:s<=t):(fG ks s).length<=(fG ks t).length:=by
 obtain⟨r,a,_⟩:=xL ks s (t-s);rw[show s+(t-s)=t by omega]at a;rw[a];simp
theorem Yz{ks:aC}(b:s<=ks.length)(h:mz ks s=true):(fG ks s).length<(de ks).length/\cZ (de ks) (fG ks s).length=s:=by
 obtain⟨r,a,_⟩:=tX (ks:=ks) (s:=s+1) ak;rw[jP h]at a;rw[a];refine⟨gZ, ?_⟩;rw[Nj aQ];simp[cZ]
def mQ(ks:aC)(s:Nat):Nat:=(fG ks s).getLastD 0
theorem uv(ks:aC):mQ ks 0=0:=rfl
theorem pd{ks:aC}(h:mz ks s=true):mQ ks (s+1)=s:=by
 unfold mQ;rw[jP h];simp
theorem uy{ks:aC}(h:mz ks s=false):mQ ks (s+1)=mQ ks s:=by
 unfold mQ;rw[ye h]
theorem Gp(ks:aC):mQ ks 1=0:=by
 cases h:mz ks 0 with
 |true=>rw[pd h]
 |false=>rw[uy h,uv]
def uj(l:List Nat)(k:Nat):List (Nat×Nat):=(List.range k).map fun i=>(cZ l i,cZ l (i+1))
theorem gO(l:List Nat)(k:Nat):uj l (k+1)=uj l k++[(cZ l k,cZ l (k+1))]:=by
 unfold uj;rw[List.range_succ,List.map_append];rfl
theorem iJ(l:List Nat)(k:Nat):(uj l k).length=k:=by simp[uj]
def uH(ks:aC):List (Nat×Nat):=uj (de ks) ((de ks).length-1)
theorem oo{ks:aC}(h:0<ks.length):cZ (de ks) 0=0/\0<(de ks).length:=by
 obtain⟨b,a⟩:=Yz (Nat.zero_le _) (oS h);exact⟨a,by have e:(fG ks 0).length=0:=rfl;omega⟩
theorem qH{ks:aC}(h:0<ks.length):(de ks).length=(fG ks ks.length).length+1/\cZ (de ks) ((de ks).length-1)=ks.length:=by
 have a:=jP (xK h);have e:de ks=fG ks ks.length++[ks.length]:=a;rw[e];refine⟨aQ, ?_⟩;simp[cZ]
theorem Qu{ks:aC}(h:0<ks.length):2<=(de ks).length:=by
 have b:=(qH h).1;have a:=NH (ks:=ks) (s:=1) (t:=ks.length) ak;rw[jP (oS h)]at a;have:(fG ks 0).length=0:=rfl;simp at a;omega
theorem qk{ks:aC}(h:i+1<(de ks).length):cZ (de ks) i<cZ (de ks) (i+1):=by
 have e:i<(de ks).length:=ak;have f:cZ (de ks) i∈de ks:=sY e;obtain⟨j,c⟩:=pG f;obtain⟨l,g⟩:=Yz ak c;have b:=jP c;rcases Nat.lt_trichotomy (fG ks (cZ (de ks) i)).length i with a|a|a
 .have d:=(Am (ks:=ks) (s:=cZ (de ks) i+1) ak (k:=i) (by rw[b];simp;omega) e).1
  omega
 .have d:=(Am (ks:=ks) (s:=cZ (de ks) i+1) ak (k:=i+1) (by rw[b];simp;omega) h).1
  omega
 .have d:=(Ly (ks:=ks) (s:=cZ (de ks) i) ak a).1
  omega
def tU(xs:aC)(i:Nat):Int:=(a7 (nth xs i)).iU
def fO(xs:aC)(i:Nat):Bool:=nth xs i==13&&(decide (i+1<xs.length)&&nth xs (i+1)==10)
def fw(xs:aC)(i:Nat):Bool:=(tU xs i==11&& !fO xs i)||decide (i+1=xs.length)
def vr(xs:aC):Nat->Nat
 |0=>0
 |k+1=>if fw xs k=true then k+1 else vr xs k
def par(xs:aC):Nat->List (Nat×Nat)
 |0=>[]
 |k+1=>if fw xs k=true then par xs k++[(vr xs k,k+1)]else par xs k
def rz(xs:aC):List (Nat×Nat):=par xs xs.length
theorem pC{xs:aC}(h:fw xs k=true):par xs (k+1)=par xs k++[(vr xs k,k+1)]:=by simp[par,h]
theorem tV{xs:aC}(h:fw xs k=false):par xs (k+1)=par xs k:=by simp[par,h]
theorem pa{xs:aC}(h:fw xs k=true):vr xs (k+1)=k+1:=by simp[vr,h]
theorem yr{xs:aC}(h:fw xs k=false):vr xs (k+1)=vr xs k:=by simp[vr,h]
theorem Qo(xs:aC):∀k,vr xs k<=k
 |0=>Nat.le_refl _
 |k+1=>by
  have:=Qo xs k;simp only[vr];split<;>omega
theorem xR(xs:aC):∀k,(par xs k).length<=k
 |0=>Nat.le_refl _
 |k+1=>by
  have:=xR xs k;simp only[par];split
  .simp;omega
  .omega
def gB(ps:List (Nat×Nat))(j:Nat):Nat×Nat:=ps.getD j (0,0)
def qK(p:Nat×Nat):List ahj:=[ae aj p.1,ae aj p.2]
def dx(ps:List (Nat×Nat)):List ahj:=ps.flatMap qK
theorem ny(ps qs:List (Nat×Nat)):dx (ps++qs)=dx ps++dx qs:=by simp[dx]
theorem vH(p:Nat×Nat):dx [p]=[ae aj p.1,ae aj p.2]:=by simp[dx,qK]
theorem jX:∀(ps:List (Nat×Nat)) (j:Nat),j<ps.length->(dx ps)[j*2]? =some (ae aj (gB ps j).1)/\(dx ps)[j*2+1]? =some (ae aj (gB ps j).2)
 |[],j,h=>by simp at h
 |p::ps,0,_=>by simp[dx,qK,gB]
 |p::ps,j+1,h=>by
  have ih:=jX ps j uM;have b:dx (p::ps)=ae aj p.1:: ae aj p.2::dx ps:=by simp[dx,qK]
  have a:gB (p::ps) (j+1)=gB ps j:=by simp[gB]
  rw[b,a,show(j+1)*2=j*2+1+1 by omega];simp only[List.getElem?_cons_succ];exact ih
def iO(a:aC):Nat->List Nat
 |0=>[]
 |i+1=>if 0<i/\nth a (i-1)=nth a i then iO a i else iO a i++[i]
def dO(a:aC)(i:Nat):List (Nat×Nat):=uj (iO a i++[i]) (iO a i).length
theorem bY{S:List Nat}(h:k<S.length):cZ (S++[i]) k=cZ S k:=by simp[cZ,List.getElem?_append_left h]
theorem gP(S:List Nat)(i:Nat):cZ (S++[i]) S.length=i:=by simp[cZ]
theorem lW(a:aC):∀i,0<i->0<(iO a i).length
 |0,h=>by omega
 |i+1,_=>by
  unfold iO;split
  .rename_i h;exact lW a i h.1
  .simp
theorem pY(a:aC):∀i k,k<(iO a i).length->cZ (iO a i) k<i
 |0,k,h=>by simp[iO]at h
 |i+1,k,h=>by
  unfold iO at h⊢;split at h
  .rename_i c;rw[if_pos c];have:=pY a i k h;omega
  .rename_i c
   rw[if_neg c];rcases Nat.lt_or_ge k (iO a i).length with b|b
   .rw[bY b];have:=pY a i k b;omega
   .simp at h
    have:k=(iO a i).length:=ak;subst this;rw[gP];omega
theorem yA(a:aC):∀i k,k+1<(iO a i).length->cZ (iO a i) k<cZ (iO a i) (k+1)
 |0,k,h=>by simp[iO]at h
 |i+1,k,h=>by
  unfold iO at h⊢;split at h
  .rename_i c;rw[if_pos c];exact yA a i k h
  .rename_i c
   rw[if_neg c];rcases Nat.lt_or_ge (k+1) (iO a i).length with b|b
   .rw[bY b,bY ak];exact yA a i k b
   .simp at h
    have:k+1=(iO a i).length:=ak;rw[this,gP,bY ak];exact pY a i k ak
theorem Pv(a:aC):∀i,(iO a i).length<=i
 |0=>by simp[iO]
 |i+1=>by
  have:=Pv a i;unfold iO;split
  .omega
  .simp;omega
theorem kz(a:aC)(i:Nat):(dO a i).length=(iO a i).length:=iJ _ _
theorem ky(l:List Nat)(m k:Nat)(h:k<m):gB (uj l m) k=(cZ l k,cZ l (k+1)):=by simp[gB,uj,h]
theorem xC(a:aC)(i k:Nat)(h:k<(dO a i).length):(gB (dO a i) k).1<(gB (dO a i) k).2/\(gB (dO a i) k).2<=i/\(k+1<(dO a i).length->(gB (dO a i) k).2=(gB (dO a i) (k+1)).1):=by
 rw[kz]at h;rw[kz];unfold dO;rw[ky _ _ _ h,bY h];rcases Nat.lt_or_ge (k+1) (iO a i).length with b|b
 .rw[ky _ _ _ b,bY b]
  have c:=yA a i k b;have d:=pY a i (k+1) b;exact⟨c,by show _<=_;omega,fun _=>rfl⟩
 .have:k+1=(iO a i).length:=by omega
  rw[this,gP];exact⟨pY a i k h,Nat.le_refl _,fun h=>absurd h ak⟩
theorem zZ(S:List Nat)(i j:Nat):∀m,m<S.length->uj (S++[i]) m=uj (S++[j]) m
 |0,_=>rfl
 |m+1,h=>by
  rw[gO,gO,zZ S i j m ak,bY ak,bY ak,bY ak,bY ak]
theorem xS(l a:List Nat):∀m,(∀k,k<=m->cZ l k=cZ a k)->uj l m=uj a m
 |0,_=>rfl
 |m+1,h=>by rw[gO,gO,xS l a m fun k b=>h k ak,h m ak,h (m+1) ak]
theorem pf(a:aC)(i:Nat)(h:¬(0<i/\nth a (i-1)=nth a i)):dO a (i+1)=dO a i++[(i,i+1)]:=by
 unfold dO;have e:iO a (i+1)=iO a i++[i]:=by rw[iO,if_neg h]
 rw[e,List.length_append];show uj _ ((iO a i).length+1)=_;rw[gO,bY aQ,gP]
 congr 1
 .exact(xS _ _ _ fun k c=>by
   have:k<(iO a i++[i]).length:=by simp;omega
   rw[bY this])
 .have b:=gP (iO a i++[i]) (i+1)
  rw[List.length_append,List.length_singleton]at b;rw[b]
theorem Bi(a:aC)(i:Nat)(h:0<i/\nth a (i-1)=nth a i):dO a (i+1)=(dO a i).set ((dO a i).length-1) ((gB (dO a i) ((dO a i).length-1)).1,i+1):=by
 have j:=lW a i h.1;have e:iO a (i+1)=iO a i:=by rw[iO,if_pos h]
 have g:=kz a i;rw[g];unfold dO;rw[e];generalize iO a i=S at*;obtain⟨m,b⟩:∃m,S.length=m+1:=⟨S.length-1,ak⟩;rw[b,Nat.add_sub_cancel,ky _ _ _ ak,gO,gO,zZ S (i+1) i m ak,List.set_append_right _ _ (by rw[iJ];omega),iJ];simp only[Nat.sub_self,List.set_cons_zero];have d:cZ (S++[i+1]) m=cZ S m:=bY ak;have f:cZ (S++[i]) m=cZ S m:=bY ak;have c:cZ (S++[i+1]) (m+1)=i+1:=by rw[<-b];exact gP _ _
 rw[d,f,c]
theorem pU:∀(ps:List (Nat×Nat)) (j b:Nat),j<ps.length->(dx ps).set (j*2+1) (ae aj (b:Int))=dx (ps.set j ((gB ps j).1,b))
 |[],j,b,h=>by simp at h
 |p::ps,0,b,_=>by simp[dx,qK,gB]
 |p::ps,j+1,b,h=>by
  have ih:=pU ps j b uM;have c:dx (p::ps)=ae aj p.1:: ae aj p.2::dx ps:=by simp[dx,qK]
  have a:gB (p::ps) (j+1)=gB ps j:=by simp[gB]
  rw[c,a,List.set_cons_succ,show(j+1)*2=(j*2+1)+1 by omega,List.set_cons_succ,ih];simp[dx,qK]
section
variable{w w':ahh}{B n:Nat}{A:aA}{ms:List (Int × Int)}
end
structure fK where
 gK:Int
 id:Int
 x:Int
 y:Int
deriving Inhabited
structure aZ where
 f:Int
 t:Int
 lv:Int
 x:Int
 wd:Int
 gs:List fK
deriving Inhabited
def pE(gs:List fK)(j:Nat):fK:=gs.getD j default
def aJ(bs:List aZ)(j:Nat):aZ:=bs.getD j default
theorem FZ{gs:List fK}(h:k<gs.length):pE gs k=gs[k]:=by simp[pE,h]
theorem iK{bs:List aZ}(h:k<bs.length):aJ bs k=bs[k]:=by simp[aJ,h]
def kP(o:aC)(j:Nat):Nat:=(nth o j).toNat
def kg(bs:List aZ)(o:aC):Nat->Int
 |0=>0
 |j+1=>kg bs o j+(aJ bs (kP o j)).wd
def du(bs:List aZ):Nat->Int
 |0=>0
 |j+1=>du bs j+(aJ bs j).wd
def Uh(o:aC)(tail j:Nat):Bool:=decide (tail=0)||decide (kP o j<tail)
def yZ(o:aC)(tail:Nat):Nat->Bool
 |0=>false
 |j+1=>yZ o tail j||Uh o tail j
def nM(bs:List aZ)(o:aC)(tail:Nat):Nat->Int
 |0=>0
 |j+1=>if(Uh o tail j&& !yZ o tail j)=true then kg bs o j else nM bs o tail j
def kG(bs:List aZ)(o:aC)(tail:Nat):Nat->Int
 |0=>0
 |j+1=>if Uh o tail j=true then kg bs o (j+1)else kG bs o tail j
def mY(bs:List aZ)(o:aC)(tail:Nat)(a:Bool)(x:Int):Int:=
 if a=true then x+du bs tail-kG bs o tail bs.length else x-nM bs o tail bs.length
theorem Di{l m:aC}(h:j<l.length):nth (l++m) j=nth l j:=by
 simp[nth,List.getElem?_append_left h]
theorem il{l:aC}{k:Nat}(h:l.length=k):nth (l++[x]) k=x:=by
 subst h;simp[nth]
theorem CJ{l:aC}(h:j<l.length):nth (l.set j x) j=x:=by simp[nth,h]
theorem tL{l:aC}(h:j≠i):nth (l.set j x) i=nth l i:=by simp[nth,List.getElem?_set_ne h]
theorem iI{cs:aC}{k:Nat}(h:k<cs.length):cs.drop k=nth cs k::cs.drop (k+1):=by
 rw[List.drop_eq_getElem_cons h,cB h]
def fY(c:Int):Bool:=c==20||c==21||c==22
def abg(c:Int):Bool:=c==1||c==2||c==3
def lU(cs:aC):Nat->aC×List Nat
 |0=>([],[])
 |k+1=>
  if fY (nth cs k)then((lU cs k).1++[-1],k::(lU cs k).2)
  else if nth cs k==11 then((lU cs k).1++[-1],[])
  else if nth cs k==23 then
   match(lU cs k).2 with
   |[]=>((lU cs k).1++[-1],[])
   |j::s=>(((lU cs k).1++[(j:Int)]).set j k,s)
  else((lU cs k).1++[-1],(lU cs k).2)
def qB:aC->Nat->Int
 |[],_=>0
 |c::r,0=>if abg c then c else if c==11 then 0 else if fY c then qB r 1 else qB r 0
 |c::r,d+1=>if c==11 then 0 else if fY c then qB r (d+2)else if c==23 then qB r d else qB r (d+1)
theorem adb{cs:aC}{k:Nat}(h:k<cs.length)(a:nth cs k=11)(d:Nat):qB (cs.drop k) d=0:=by
 rw[iI h,a];cases d<;>simp[qB,abg]
theorem Mm{cs:aC}{k:Nat}(h:k<cs.length)(a:fY (nth cs k)=true)(d:Nat):qB (cs.drop k) d=qB (cs.drop (k+1)) (d+1):=by
 rw[iI h];have:nth cs k=20∨nth cs k=21∨nth cs k=22:=by simpa[fY,or_assoc]using a
 rcases this with e|e|e<;>rw[e]<;>cases d<;>simp[qB,abg,fY]
theorem Gt{cs:aC}{k:Nat}(h:k<cs.length)(a:nth cs k=23)(d:Nat):qB (cs.drop k) (d+1)=qB (cs.drop (k+1)) d:=by
 rw[iI h,a];simp[qB,fY]
theorem Mb{cs:aC}{k:Nat}(h:k<cs.length)(a:fY (nth cs k)=false)(c:nth cs k≠11)(b:nth cs k≠23)(d:Nat):qB (cs.drop k) (d+1)=qB (cs.drop (k+1)) (d+1):=by
 rw[iI h];simp[qB,a,c,b]
theorem Uu{cs:aC}{k:Nat}(h:cs.length<=k)(d:Nat):qB (cs.drop k) d=0:=by
 rw[List.drop_of_length_le h];rfl
structure mI(cs:aC)(k:Nat)(o:aC)(s:List Nat):Prop where
 len:o.length=k
 st:∀j∈s,j<k/\fY (nth cs j)=true/\nth o j= -1
 srt:s.Pairwise (·> ·)
 pair:∀i,i<k->nth o i= -1∨∃q:Nat,q<k/\nth o i=q/\nth o q=i/\q≠i
 fwd:∀i q:Nat,i<q->q<k->nth o i=q->fY (nth cs i)=true/\nth cs q=23/\
  (∀j,i<j->j<q->nth cs j≠11/\(nth o j≠-1->(i:Int)<nth o j/\nth o j<q)/\(nth o j= -1->nth cs j≠23))/\
  ∀e,qB (cs.drop (i+1)) (e+1)=qB (cs.drop (q+1)) e
 Ss:∀a i b,s=a++i::b->(∀j,i<j->j<k->nth cs j≠11/\(nth o j≠-1->(i:Int)<nth o j)/\(nth o j= -1->nth cs j≠23))/\
  ∀e,qB (cs.drop (i+1)) (e+1)=qB (cs.drop k) (e+1+a.length)
 dead:∀i,i<k->fY (nth cs i)=true->nth o i= -1->i∈s∨∀e,qB (cs.drop (i+1)) (e+1)=0
section
variable{cs:aC}{k:Nat}{o:aC}{s:List Nat}
theorem mI.lo(h:mI cs k o s){x:Int}{j:Nat}(hj:j<k):nth (o++[x]) j=nth o j:=Di Ij
theorem mI.Qs(h:mI cs k o s):∀i,i<k+1->nth (o++[-1]) i= -1∨∃q:Nat,q<k+1/\nth (o++[-1]) i=q/\nth (o++[-1]) q=i/\q≠i:=by
 intro i f;rcases Nat.lt_or_ge i k with a|a
 .rw[h.lo a]
  rcases h.pair i a with b|⟨q,b,e,d,c⟩
  .exact .inl b
  .exact .inr ⟨q,ak,e,by rw[h.lo b];exact d,c⟩
 .obtain rfl:i=k:=by omega
  exact .inl (il h.len)
theorem mI.aaA(h:mI cs k o s):∀i q:Nat,i<q->q<k+1->nth (o++[-1]) i=q->fY (nth cs i)=true/\nth cs q=23/\
 (∀j,i<j->j<q->nth cs j≠11/\(nth (o++[-1]) j≠-1->(i:Int)<nth (o++[-1]) j/\nth (o++[-1]) j<q)/\(nth (o++[-1]) j= -1->nth cs j≠23))/\
 ∀e,qB (cs.drop (i+1)) (e+1)=qB (cs.drop (q+1)) e:=by
 intro i q g u c;rw[h.lo ak]at c;have d:q<k:=by
  rcases h.pair i ak with n|⟨t,n,r,_⟩
  .omega
  .omega
 obtain⟨f,l,m,p⟩:=h.fwd i q g d c;refine⟨f,l,fun j a b=> ?_,p⟩;rw[h.lo ak];exact m j a b
theorem Jl(h:mI cs k o s)(r:k<cs.length)(m:fY (nth cs k)=true):mI cs (k+1) (o++[-1]) (k::s) where
 len:=rX
 st:=by
  intro j p;rcases List.mem_cons.1 p with rfl|p
  .exact⟨ak,m,il h.len⟩
  .obtain⟨g,f,n⟩:=h.st j p
   exact⟨ak,f,by rw[h.lo g];exact n⟩
 srt:=List.pairwise_cons.2 ⟨fun j p=>(h.st j p).1,h.srt⟩
 pair:=h.Qs
 fwd:=h.aaA
 Ss:=by
  intro a i b l;cases a with
  |nil=>
   simp only[List.nil_append,List.cons.injEq]at l;obtain⟨rfl,rfl⟩:=l;refine⟨fun j g f=>by omega,fun e=> ?_⟩;simp
  |cons a0 a=>
   simp only[List.cons_append,List.cons.injEq]at l;obtain⟨rfl,l⟩:=l;obtain⟨g,f⟩:=h.Ss a i b l;refine⟨fun j q t=> ?_,fun e=> ?_⟩
   .rcases Nat.lt_or_ge j k with c|c
    .rw[h.lo c];exact g j q c
    .obtain rfl:j=k:=by omega
     rw[il h.len];refine⟨fun e=> ?_,fun e=>absurd rfl e,fun _ e=> ?_⟩
     .rw[e]at m;simp[fY]at m
     .rw[e]at m;simp[fY]at m
   .rw[f,Mm r m];rfl
 dead:=by
  intro i u g f;rcases Nat.lt_or_ge i k with d|d
  .rw[h.lo d]at f
   rcases h.dead i d g f with n|n
   .exact .inl (List.mem_cons_of_mem _ n)
   .exact .inr n
  .obtain rfl:i=k:=by omega
   exact .inl (List.mem_cons_self ..)
theorem aaW(h:mI cs k o s)(m:k<cs.length)(j:nth cs k=11):mI cs (k+1) (o++[-1]) [] where
 len:=rX
 st:=aQ
 srt:=List.Pairwise.nil
 pair:=h.Qs
 fwd:=h.aaA
 Ss:=by intro a i b g;simp at g
 dead:=by
  intro i n d l;rcases Nat.lt_or_ge i k with c|c
  .rw[h.lo c]at l
   rcases h.dead i c d l with f|f
   .obtain⟨a,b,g⟩:=List.append_of_mem f
    refine .inr fun e=> ?_;rw[(h.Ss a i b g).2,adb m j]
   .exact .inr f
  .obtain rfl:i=k:=by omega
   rw[j]at d;simp[fY]at d
theorem vV(h:mI cs k o s)(v:k<cs.length)(r:fY (nth cs k)=false)(m:nth cs k≠11)(c:nth cs k≠23∨s=[]):mI cs (k+1) (o++[-1]) s where
 len:=rX
 st:=by
  intro j u;obtain⟨f,l,t⟩:=h.st j u;exact⟨ak,l,by rw[h.lo f];exact t⟩
 srt:=h.srt
 pair:=h.Qs
 fwd:=h.aaA
 Ss:=by
  intro a i b p;obtain⟨f,l⟩:=h.Ss a i b p;have c:nth cs k≠23:=by
   rcases c with q|q
   .exact q
   .rw[q]at p;simp at p
  refine⟨fun j n w=> ?_,fun e=> ?_⟩
  .rcases Nat.lt_or_ge j k with d|d
   .rw[h.lo d];exact f j n d
   .obtain rfl:j=k:=by omega
    rw[il h.len];exact⟨m,fun e=>absurd rfl e,fun _=>c⟩
  .rw[l,show e+1+a.length=(e+a.length)+1 by omega,Mb v r m c]
 dead:=by
  intro i x f l;rcases Nat.lt_or_ge i k with g|g
  .rw[h.lo g]at l
   exact h.dead i g f l
  .obtain rfl:i=k:=by omega
   rw[r]at f;cases f
theorem Qg{t:Nat}(h:mI cs k o (t::s))(L:k<cs.length)(D:nth cs k=23):mI cs (k+1) ((o++[(t:Int)]).set t k) s:=by
 obtain⟨R,y,G⟩:=h.st t (List.mem_cons_self ..);have hlen:(o++[(t:Int)]).length=k+1:=rX;have p:nth ((o++[(t:Int)]).set t k) t=k:=CJ ak;have A:nth ((o++[(t:Int)]).set t k) k=t:=by rw[tL (by omega),il h.len]
 have f:∀j,j<k->j≠t->nth ((o++[(t:Int)]).set t k) j=nth o j:=fun j l w=>by rw[tL ak,h.lo l]
 have u:=h.Ss [] t s rfl;have v:=List.pairwise_cons.1 h.srt;refine⟨rX, ?_,v.2, ?_, ?_, ?_, ?_⟩
 .intro j J
  obtain⟨l,w,m⟩:=h.st j (List.mem_cons_of_mem _ J);have:=v.1 j J;exact⟨ak,w,by rw[f j l (by omega)];exact m⟩
 .intro i Q
  by_cases d:i=t
  .subst d;exact .inr ⟨k,ak,p,A,ak⟩
  .rcases Nat.lt_or_ge i k with c|c
   .rw[f i c d]
    rcases h.pair i c with l|⟨q,l,w,m,n⟩
    .exact .inl l
    .have E:q≠t:=by
      rintro rfl;rw[G]at m;omega
     exact .inr ⟨q,ak,w,by rw[f q l E];exact m,n⟩
   .obtain rfl:i=k:=by omega
    exact .inr ⟨t,ak,A,p,ak⟩
 .intro i q l w m
  by_cases d:i=t
  .subst d
   rw[p]at m;obtain rfl:q=k:=ak;refine⟨y,D,fun j r g=> ?_,fun e=> ?_⟩
   .rw[f j g ak]
    obtain⟨O,M,V⟩:=u.1 j r g;refine⟨O,fun B=>⟨M B, ?_⟩,V⟩;rcases h.pair j g with n|⟨q,n,K,_⟩
    .exact absurd n B
    .omega
   .rw[u.2]
    exact Gt L D e
  .have c:i<k:=by
    omega
   rw[f i c d]at m;have C:q<k:=by
    rcases h.pair i c with n|⟨I,n,K,_⟩
    .omega
    .omega
   obtain⟨S,T,N,W⟩:=h.fwd i q l C m;refine⟨S,T,fun j r g=> ?_,W⟩;have x:j≠t:=by
    rintro rfl;have F:nth o q=i:=by
     rcases h.pair i c with n|⟨I,n,K,P,_⟩
     .omega
     .obtain rfl:q=I:=by omega
      exact P
    have:=(u.1 q g C).2.1 (by rw[F];omega);omega
   rw[f j ak x];exact N j r g
 .intro a i b H
  obtain⟨l,w⟩:=h.Ss (t::a) i b (by rw[H];rfl);have U:i<t:=v.1 i (by rw[H];simp);refine⟨fun j r g=> ?_,fun e=> ?_⟩
  .by_cases x:j=t
   .subst x
    rw[p];refine⟨fun e=> ?_,fun _=>by omega,fun e=>by omega⟩;rw[e]at y;simp[fY]at y
   .rcases Nat.lt_or_ge j k with z|z
    .rw[f j z x];exact l j r z
    .obtain rfl:j=k:=by omega
     rw[A];exact⟨ak,fun _=>by omega,fun e=>by omega⟩
  .rw[w,List.length_cons,show e+1+(a.length+1)=(e+1+a.length)+1 by omega,Gt L D]
 .intro i Q l w
  by_cases d:i=t
  .subst d;rw[p]at w;omega
  .rcases Nat.lt_or_ge i k with c|c
   .rw[f i c d]at w
    rcases h.dead i c l w with m|m
    .rcases List.mem_cons.1 m with n|n
     .exact absurd n d
     .exact .inl n
    .exact .inr m
   .obtain rfl:i=k:=by omega
    rw[D]at l;simp[fY]at l
end
theorem vO:∀(s:List Nat) (k:Nat),s.Pairwise (·> ·)->(∀j∈s,j<k)->s.length<=k
 |[],_,_,_=>Nat.zero_le _
 |j::s,k,h1,h2=>by
  have a:=List.pairwise_cons.1 h1;have c:=vO s j a.2 fun i b=>a.1 i b
  have d:=h2 j (List.mem_cons_self ..);simp only[List.length_cons];omega
theorem mI.NC{cs:aC}{k:Nat}{o:aC}{s:List Nat}(h:mI cs k o s):s.length<=k:=vO s k h.srt fun j a=>(h.st j a).1
theorem Aj{cs:aC}{k:Nat}(h:fY (nth cs k)=true):lU cs (k+1)=((lU cs k).1++[-1],k::(lU cs k).2):=by simp[lU,h]
theorem Ya{cs:aC}{k:Nat}(h:nth cs k=11):lU cs (k+1)=((lU cs k).1++[-1],[]):=by simp[lU,h,fY]
theorem Hr{cs:aC}{k:Nat}{s:List Nat}(h:nth cs k=23)(a:(lU cs k).2=j::s):lU cs (k+1)=(((lU cs k).1++[(j:Int)]).set j k,s):=by simp[lU,h,fY,a]
theorem yL{cs:aC}{k:Nat}(h:nth cs k=23)(a:(lU cs k).2=[]):lU cs (k+1)=((lU cs k).1++[-1],[]):=by simp[lU,h,fY,a]
theorem yN{cs:aC}{k:Nat}(h:fY (nth cs k)=false)(a:nth cs k≠11)(b:nth cs k≠23):lU cs (k+1)=((lU cs k).1++[-1],(lU cs k).2):=by simp[lU,h,a,b]
theorem Zl(cs:aC):∀k,k<=cs.length->mI cs k (lU cs k).1 (lU cs k).2
 |0,_=>⟨rfl,by simp[lU],List.Pairwise.nil,fun i h=>by omega,fun i q c e=>by omega,fun a i b h=>by simp[lU]at h,fun i h=>by omega⟩
 |k+1,d=>by
  have ih:=Zl cs k ak;have d:k<cs.length:=ak;by_cases c:fY (nth cs k)=true
  .rw[Aj c];exact Jl ih d c
  .simp only[Bool.not_eq_true]at c
   by_cases e:nth cs k=11
   .rw[Ya e];exact aaW ih d e
   .by_cases f:nth cs k=23
    .cases g:(lU cs k).2 with
     |nil=>
      rw[yL f g];rw[g]at ih;exact vV ih d c e (.inr rfl)
     |cons j s=>
      rw[Hr f g];rw[g]at ih;exact Qg ih d f
    .rw[yN c e f]
     exact vV ih d c e (.inl f)
def mX(cs:aC):aC:=(lU cs cs.length).1
theorem xJ{cs:aC}(j:i<cs.length)(f:fY (nth cs i)=true):
 (nth (mX cs) i= -1/\∀e,qB (cs.drop (i+1)) (e+1)=0)∨∃q:Nat,i<q/\q<cs.length/\nth (mX cs) i=q/\nth cs q=23/\∀e,qB (cs.drop (i+1)) (e+1)=qB (cs.drop (q+1)) e:=by
 have h:=Zl cs _ bW;rcases h.pair i j with c|⟨q,c,l,n,t⟩
 .refine .inl ⟨c, ?_⟩
  rcases h.dead i j f c with g|g
  .obtain⟨a,b,p⟩:=List.append_of_mem g
   intro e;rw[(h.Ss a i b p).2,Uu bW]
  .exact g
 .rcases Nat.lt_or_ge i q with d|d
  .obtain⟨_,m,_,r⟩:=h.fwd i q d c l
   exact .inr ⟨q,d,c,l,m,r⟩
  .have:=(h.fwd q i ak j n).2.1
   rw[this]at f;simp[fY]at f
end Go.Proofs.YtklncadpkniojaaGreatDoor
