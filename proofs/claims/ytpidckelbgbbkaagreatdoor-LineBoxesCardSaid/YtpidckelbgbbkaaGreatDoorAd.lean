/- Part of LineBoxes. -/
import Derived.Test.YtpidckelbgbbkaaGreatDoorAa
import Derived.WalkKit
import Derived.ProofKit
import Derived.OpenShut
import Derived.Deep.QuietTactic
import Derived.BigQuiet
import Derived.Lib.Hide
namespace Go.Proofs.YtpidckelbgbbkaaGreatDoor
open Go.ChangeShapes Go.WideShapes Go.ChangeAt Go.RowKit
open Go.Value renaming int → ae
open Go.IntKind renaming i64 → aj
set_option linter.all false
set_option maxRecDepth 100000
set_option maxHeartbeats 16000000
variable{p:Nat->Bool}{N b bytes g i j k m s:Nat}{P:Program}{t:TypeId}{ops:Array Oper}{rest:List Oper}{o:Oper}{a:Act}{K Q:Act->Prop}{v:Value}{l:List Nat}{x:Int}{S:Value->Prop}{Q':Exit->Act->World->Prop}{w:World}
abbrev aA(w w':World):Prop:=Below w.heap.size w w'
abbrev aC:=Option Addr
abbrev aE:=List Int
abbrev bW(a:Addr)(i:Nat):Addr:={block:=a.block,off:=a.off+i}
theorem aF{p:Prop}(h:p:=by kernel_rfl):p:=h
def nth(xs:List Int)(k:Nat):Int:=xs.getD k 0
theorem dQ{xs:List Int}{k:Nat}(h:k<xs.length):nth xs k=xs[k]:=by simp[nth,h]
theorem aO(a:Addr)(n:Nat):(a.add n).block=a.block:=by unfold Addr.add;split<;>rfl
theorem bm(a:Addr)(i j:Nat):(a.add i).add j=a.add (i+j):=by
 unfold Addr.add;by_cases b:i=0<;>by_cases d:j=0<;>simp[b,d,Nat.add_assoc]
def bh(w:World)(B:Nat)(k:IntKind)(A:Option Addr)(n:Nat)(xs:List Int):Prop:=
 xs.length=n/\(0<n->∃a,A=some a/\a.block<B/\∀j,j<n->w.cell? (a.add j)=some (.int k (nth xs j)))
section
variable {w w' : World} {B B' n : Nat} {k : IntKind} {A : Option Addr} {xs : List Int}
theorem bh.nil:bh w B k A 0 []:=⟨rfl,fun h=>absurd h aq⟩
theorem bh.len(h:bh w B k A n xs):xs.length=n:=h.1
theorem bh.mC(h:bh w B k A n xs)(g:∀p:Addr,p.block<B->w'.cell? p=w.cell? p):bh w' B k A n xs:=
 ⟨h.1,fun d=>by
  obtain⟨a,e,hb,f⟩:=h.2 d;exact⟨a,e,hb,fun j b=>(g _ Pe).trans (f j b)⟩⟩
theorem bh.more(h:bh w B k A n xs)(g:B<=B'):bh w B' k A n xs:=
 ⟨h.1,fun a=>by
  obtain⟨d,e,f,b⟩:=h.2 a;exact⟨d,e,aq,b⟩⟩
theorem bh.below(h:bh w B k A n xs)(b:Below B w w'):bh w' B k A n xs:=h.mC fun _ a=>b.cell a
theorem bh.Z(h:bh w w.heap.size k A n xs)(a:Below w.heap.size w w'):bh w' w'.heap.size k A n xs:=(h.below a).more a.size
theorem bh.cut(h:bh w B k A n xs){i j cap:Nat}(d:i<=j)(f:j<=n)(l:n<=cap):
 bh w B k (if cap=i then A else A.map (·.add i)) (j-i) ((xs.take j).drop i):=by
 refine⟨by rw[List.length_drop,List.length_take,h.1];omega,fun g=> ?_⟩;obtain⟨b,rfl,hb,a⟩:=h.2 aq;rw[if_neg aq];refine⟨b.add i,rfl,Pe,fun m o=> ?_⟩;rw[bm,a _ aq]
 congr 2
 simp only[nth,List.getD_eq_getElem?_getD,List.getElem?_drop,List.getElem?_take];rw[if_pos aq]
end
structure aL(k:IntKind)(w:World)(A:Option Addr)(n c:Nat)(xs:List Int):Prop where
 at_:bh w w.heap.size k A n xs
 le:n<=c
 cap:c<=9223372036854775807
 wf:∀x∈xs,(Lit.int k x).wf=true
theorem aL.dF{k:IntKind}{w:World}{A:Option Addr}{n c:Nat}{xs:List Int}(h:aL k w A n c xs){i:Nat}(a:i<n):(Lit.int k (nth xs i)).wf=true:=by
 have:i<xs.length:=by rw[h.at_.1];exact a
 rw[dQ this];exact h.wf _ (List.getElem_mem ..)
theorem bB(g j:Nat):(⟨g,0,none⟩:Addr).add j=⟨g,j,none⟩:=by unfold Addr.add;split<;>simp_all
def aB(w:World)(B:Nat)(e:TypeId)(size:Nat)(A:Option Addr)(n c:Nat)(xs:List Value):Prop:=w.ownsRow B e size (.slice A n c) n xs
def Own(w:World)(B:Nat)(e:TypeId)(k:IntKind)(A:Option Addr)(n c:Nat)(xs:List Int):Prop:=aB w B e 1 A n c (xs.map (Value.int k))
section
variable {w w' : World} {B : Nat} {e : TypeId} {size n c : Nat} {A : Option Addr} {vs : List Value} {k : IntKind} {xs : List Int}
theorem aB.ar(h:aB w B e size A n c vs)(d:Below w.heap.size w w'):aB w' B e size A n c vs:=by
 refine⟨h.1, ?_⟩;rcases h.2 with f|⟨g,cap,cur,i,b,a,r⟩
 ·exact .inl f
 ·exact .inr ⟨g,cap,cur,i,b,(d.block g (Array.getElem?_eq_some_iff.1 a).1).trans a,r⟩
theorem aB.alloc(h:aB w B e size A n c vs)(o:Obj):aB (w.alloc o) B e size A n c vs:=h.ar ((Below.refl _ _).alloc cr o)
theorem aB.drewN(h:aB w B e size A n c vs)(m:Nat):aB (w.drewN m) B e size A n c vs:=h
theorem aB.drew(h:aB w B e size A n c vs):aB w.drew B e size A n c vs:=h
theorem aB.nil(w:World)(B:Nat)(e:TypeId)(size:Nat):aB w B e size none 0 0 []:=⟨aD, .inl ⟨rfl,rfl⟩⟩
theorem aB.form(h:aB w B e size A n c vs)(f:0<n):∃g,A=some ⟨g,0,none⟩/\B<=g/\g<w.heap.size:=by
 rcases h.2 with⟨_,i⟩|⟨g,cap,cur,d,a,b,r⟩
 ·omega
 ·injection d with h1
  exact⟨g,h1,a,(Array.getElem?_eq_some_iff.1 b).1⟩
theorem aB.le(h:aB w B e size A n c vs):n<=c:=by
 rcases h.2 with⟨_,i⟩|⟨g,cap,cur,a,b,d,f,r⟩
 ·omega
 ·injection a with h1 h2 h3
  omega
theorem aB.wL(h:aB w B e size A n c vs):c<=9223372036854775807:=by
 rcases h.2 with⟨a,j⟩|⟨g,cap,cur,a,d,f,i,b,r⟩
 ·injection a with h1 h2 h3
  omega
 ·injection a with h1 h2 h3
  unfold maxLen at b;omega
theorem aB.cellAt(h:aB w B e size (some ⟨g,0,none⟩) n c vs)(j:Nat)(a:j<n*size):w.cell? ⟨g,j,none⟩=vs[j]? :=World.ownsRow.cellAt (cap:=c) h j a
theorem aB.frozenAt(h:aB w B e size (some ⟨g,0,none⟩) n c vs)(j:Nat):w.frozen? ⟨g,j,none⟩=false:=World.ownsRow.frozenAt (cap:=c) h j
theorem aB.dq(h:aB w B e size A n c vs)(d:w.grownBy w' (Value.slice A n c).ownBlock)(i:B<=w.heap.size):Below B w w':=by
 refine(Below.refl B w).grown d i fun g a=> ?_;rcases h.2 with⟨b,_⟩|⟨j,cap,cur,b,f,_⟩
 ·rw[b]at a;simp[Value.ownBlock]at a
 ·rw[b]at a;simp[Value.ownBlock]at a;omega
theorem Own.ar(h:Own w B e k A n c xs)(a:Below w.heap.size w w'):Own w' B e k A n c xs:=aB.ar h a
theorem Own.alloc(h:Own w B e k A n c xs)(o:Obj):Own (w.alloc o) B e k A n c xs:=aB.alloc h o
theorem Own.drewN(h:Own w B e k A n c xs)(m:Nat):Own (w.drewN m) B e k A n c xs:=h
theorem Own.nil(w:World)(B:Nat)(e:TypeId)(k:IntKind):Own w B e k none 0 0 []:=aB.nil w B e 1
theorem Own.len(h:Own w B e k A n c xs):xs.length=n:=by have:=h.1;simpa using this
theorem Own.ints(h:Own w B e k A n c xs):bh w w.heap.size k A n xs:=by
 refine⟨h.len,fun d=> ?_⟩;obtain⟨g,rfl,_,a⟩:=aB.form h d;refine⟨_,rfl,a,fun j hj=> ?_⟩;rw[bB,aB.cellAt h j aq];have b:j<xs.length:=Hl;rw[List.getElem?_map,List.getElem?_eq_getElem b,dQ b];rfl
theorem Own.nY(h:Own w B e k (some ⟨g,0,none⟩) n c xs)(j:Nat)(y:Int):Own (w.setCell ⟨g,j,none⟩ (.int k y)) B e k (some ⟨g,0,none⟩) n c (xs.set j y):=by
 have:=(World.ownsRow.stored (cap:=c) h j (.int k y)).1;unfold Own aB;rw[List.map_set];exact this
end
structure aS(P:Program)(t e:TypeId)(size bytes:Nat):Prop where
 ht:P.underlying t=some (.slice e)
 info:∃(i:TypeInfo) (z:Value),P.info? e=some i/\i.zero=some z/\i.size=size/\i.bytes=bytes/\z.cells.size=size
 pos:0<size
 zG:0<bytes
theorem bD{e:TypeId}{size:Nat}{z:Value}(h:P.underlying t=some (.slice e))(f:(P.info? e).map (fun i=>(i.zero,i.size,i.bytes))=some (some z,size,bytes))(b:z.cells.size=size)(m:0<size)(a:0<bytes):aS P t e size bytes:=by
 obtain⟨i,g,j,d,l⟩:=info_parts f;exact⟨h,⟨i,z,g,j,d,l,b⟩,m,a⟩
theorem cz{w:World}{Q:Exit->Act->World->Prop}{e:TypeId}{size:Nat}(T:aS P t e size bytes)(m:o.guard=none)(s x:Operand)
 (I:o.op= .call {callee:= .builtin .append,args:= #[s,x],argTypes:= #[t,t]}) {B:Nat} {A:Option Addr} {n c:Nat} {vs:List Value} (E:a.eval s= .slice A n c) (d:aB w B e size A n c vs)
 {g:Nat} (G:a.eval x= .slice (some ⟨g,0,none⟩) 1 1) {news:List Value} (N:news.length=size) (hc:∀j u,news[j]? =some u->w.cell? ⟨g,j,none⟩=some u) (L:∀u∈news,u.oneCell'=true)
 (H:(n+1)*bytes<=140737488355328) (C:B<=w.heap.size)
 (h:∀v c' w',aB w' B e size v (n+1) c' (vs++news)->Below B w w'->wpList P ops Q rest (a.put o.dst (.slice v (n+1) c')) w'):wpList P ops Q (o::rest) a w:=by
 obtain⟨i,z,J,D,f,q,r⟩:=T.info;have l:=T.zG;have K:n+1<=140737488355328:=by
  have M:(n+1)*1<=(n+1)*bytes:=Nat.mul_le_mul_left _ l;omega
 refine wpList_append_own w m s x t I B e i z size bytes T.ht J D f q r T.pos (.slice A n c) n vs E d ⟨g,0,none⟩ 1 1 news G aq (fun j u hu=>VZ) L pN H C ?_;intro S w' b F _;have p:=aB.dq d F C;rcases b.2 with⟨y,O⟩|⟨R,cap,cur,y,_⟩
 ·omega
 ·subst y
  exact h _ _ w' b p
theorem dD{w:World}{Q:Exit->Act->World->Prop}{e:TypeId}(T:aS P t e 1 bytes)(i:o.guard=none)(s x:Operand)
 (v:o.op= .call {callee:= .builtin .append,args:= #[s,x],argTypes:= #[t,t]}) {B:Nat} {k:IntKind} {A:Option Addr} {n c:Nat} {xs:List Int} (m:a.eval s= .slice A n c) (d:Own w B e k A n c xs)
 {g:Nat} (p:a.eval x= .slice (some ⟨g,0,none⟩) 1 1) {y:Int} (l:w.cell? ⟨g,0,none⟩=some (.int k y))
 (r:(n+1)*bytes<=140737488355328) (C:B<=w.heap.size)
 (h:∀f c' w',Own w' B e k f (n+1) c' (xs++[y])->Below B w w'->wpList P ops Q rest (a.put o.dst (.slice f (n+1) c')) w'):wpList P ops Q (o::rest) a w:=by
 refine cz T i s x v m d p (news:=[.int k y]) rfl (fun j u b=> ?_) (fun u b=> ?_) r C fun f c' w' z q=>h f c' w' ?_ q
 ·match j with
  |0=>simp at b;subst b;exact l
  |j+1=>simp at b
 ·simp at b;subst b;rfl
 ·unfold Own;rw[List.map_append];exact z
theorem dw{w:World}{Q:Exit->Act->World->Prop}{e:TypeId}{k:IntKind}(T:aS P t e 1 bytes)(b:(P.info? e).map (·.zero)=some (some (.int k 0)))(m:o.guard=none)(l c:Operand)
 (I:o.op= .makeSlice t l c) {s u:IntKind} {L C:Int} (n:Nat) (G:a.eval l= .int s L) (E:a.eval c= .int u C) (J:L=(n:Int)) (D:C=(n:Int)) (N:n*bytes<=140737488355328) (B:Nat) (y:B<=w.heap.size)
 (h:∀g w',Own w' B e k (some ⟨g,0,none⟩) n n (List.replicate n 0)->Below B w w'->wpList P ops Q rest (a.put o.dst (.slice (some ⟨g,0,none⟩) n n)) w'):wpList P ops Q (o::rest) a w:=by
 obtain⟨i,z,v,q,f,p,M⟩:=T.info;have j:=T.zG;have K:n<=140737488355328:=by
  have r:n*1<=n*bytes:=Nat.mul_le_mul_left _ j;omega
 have d:z= .int k 0:=by
  rw[v]at b;simp[q]at b;exact b
 refine wpList_make_full w m l c t I B e i z 1 T.ht v q f s u L C n G E J D (by rw[p,Nat.mul_comm];omega) pN y fun w' x r=>
  h _ w' ?_ ((Below.refl B w).grown r y (fun k F=>by cases F))
 subst d;unfold Own aB;have H:(madeCells (Value.int k 0).cells (n*1)).toList=(List.replicate n (0:Int)).map (Value.int k):=by
  rw[Nat.mul_one,List.map_replicate];exact toList_madeCells_one _ _
 rw[H]at x;exact x
theorem aX(w:World)(v:Value)(t:TypeId):(w.alloc (.cells #[v] t)).cell? ⟨w.heap.size,0,none⟩=some v:=by
 rw[cell_of_row _ _ _ _ _ _ (heap_alloc_new w _)];rfl
theorem nK{α:Type}(f:Int->α){xs:List Int}{k:Nat}(h:k<xs.length):(xs.take (k+1)).map f=(xs.take k).map f++[f (nth xs k)]:=by
 rw[List.take_succ_eq_append_getElem h,List.map_append,dQ h];rfl
def fH(w:World)(e:TypeId)(k:IntKind)(n:Nat)(xs:List Int)(r:Ending)(w':World):Prop:=
 ∃(A:Option Addr) (c:Nat),r= .returned (.slice A n c)/\Own w' w.heap.size e k A n c xs/\Below w.heap.size w w'
theorem lW{a b:Bool}(h:a=b):Ending.returned (.bool a)=Ending.returned (.bool b):=by rw[h]
theorem yu{k:IntKind}{a b:Int}(h:a=b):Ending.returned (.int k a)=Ending.returned (.int k b):=by rw[h]
theorem aJ{w:World}{p:Addr}(h:w.cell? p=some v)(o:Obj):(w.alloc o).cell? p=some v:=(World.cell?_alloc_lt w o p (block_lt_of_cell h)).trans h
theorem au{w w':World}{p:Addr}(h:w.cell? p=some v)(a:Below w.heap.size w w'):w'.cell? p=some v:=(a.cell (block_lt_of_cell h)).trans h
theorem aM{B:Nat}{a w:World}(h:Below B a w)(n:Nat):Below B a (w.drewN n):=⟨h.os,h.tape,h.output,h.size,h.block⟩
def aI(w:World):Type:={w':World//Below w.heap.size w w'}
instance later_nonempty (w:World):Nonempty (aI w):=⟨⟨w,Below.refl _ _⟩⟩
theorem br{Q:Exit->Act->World->Prop}{w:World}{l:List Oper}(f:P.follows .mixedOrders=true)(d:Region.lexB .any l.toArray=true)
 (h:wpQuiet P l.toArray (fun w'=>∃n:aI w,w'=n.1) (fun g=>∀w',(∃n:aI w,w'=n.1)->Q .normal g w') l a):(Code.region b l.toArray true).wp P Q a w:=
 wp_region_quiet (C:=fun w'=>∃n:aI w,w'=n.1) f d ⟨⟨{w with drawn:=w.drawn+1},⟨rfl,rfl,rfl,Nat.le_refl _,fun _ _=>rfl⟩⟩,rfl⟩ wT
theorem cD{f:FuncId}{args:Array Value}{w:World}{n:aI w}(h:Calls P f args n.1 fun e w'=>e= .returned v/\Below n.1.heap.size n.1 w'):
 Calls P f args n.1 fun e a=>e= .returned v/\∃m:aI w,a=m.1:=
 h.mono fun _ w' ⟨d,b⟩=>⟨d,⟨w',n.2.trans (b.mono n.2.size)⟩,rfl⟩
theorem aw{w:World}{p:Addr}(h:w.cell? p=some v):∀n:aI w,n.1.cell? p=some v:=fun n=>(n.2.cell (block_lt_of_cell h)).trans h
theorem lc2{w:World}{f b:Value}{d a:Addr}(i:w.cell? d=some f)(j:w.cell? a=some b):(∀n:aI w,n.1.cell? d=some f)/\(∀n:aI w,n.1.cell? a=some b):=⟨aw i,aw j⟩
theorem lc3 {w:World} {f b v2:Value} {d a g:Addr} (i:w.cell? d=some f) (j:w.cell? a=some b) (l:w.cell? g=some v2):(∀n:aI w,n.1.cell? d=some f)/\(∀n:aI w,n.1.cell? a=some b)/\(∀n:aI w,n.1.cell? g=some v2):=⟨aw i,aw j,aw l⟩
theorem lc4 {w:World} {f b v2 v3:Value} {d a g h:Addr} (i:w.cell? d=some f) (j:w.cell? a=some b) (l:w.cell? g=some v2) (o:w.cell? h=some v3):(∀n:aI w,n.1.cell? d=some f)/\(∀n:aI w,n.1.cell? a=some b)/\(∀n:aI w,n.1.cell? g=some v2)/\(∀n:aI w,n.1.cell? h=some v3):=⟨aw i,aw j,aw l,aw o⟩
theorem lc5 {w:World} {f b v2 v3 v4:Value} {d a g h m:Addr} (i:w.cell? d=some f) (j:w.cell? a=some b) (l:w.cell? g=some v2) (o:w.cell? h=some v3) (r:w.cell? m=some v4):(∀n:aI w,n.1.cell? d=some f)/\(∀n:aI w,n.1.cell? a=some b)/\(∀n:aI w,n.1.cell? g=some v2)/\(∀n:aI w,n.1.cell? h=some v3)/\(∀n:aI w,n.1.cell? m=some v4):=⟨aw i,aw j,aw l,aw o,aw r⟩
theorem lc6 {w:World} {f b v2 v3 v4 q:Value} {d a g h m p:Addr} (i:w.cell? d=some f) (j:w.cell? a=some b) (l:w.cell? g=some v2) (o:w.cell? h=some v3) (r:w.cell? m=some v4) (s:w.cell? p=some q):(∀n:aI w,n.1.cell? d=some f)/\(∀n:aI w,n.1.cell? a=some b)/\(∀n:aI w,n.1.cell? g=some v2)/\(∀n:aI w,n.1.cell? h=some v3)/\(∀n:aI w,n.1.cell? m=some v4)/\(∀n:aI w,n.1.cell? p=some q):=⟨aw i,aw j,aw l,aw o,aw r,aw s⟩
theorem lc7 {w:World} {f b v2 v3 v4 q u:Value} {d a g h m p t:Addr} (i:w.cell? d=some f) (j:w.cell? a=some b) (l:w.cell? g=some v2) (o:w.cell? h=some v3) (r:w.cell? m=some v4) (s:w.cell? p=some q) (v:w.cell? t=some u):(∀n:aI w,n.1.cell? d=some f)/\(∀n:aI w,n.1.cell? a=some b)/\(∀n:aI w,n.1.cell? g=some v2)/\(∀n:aI w,n.1.cell? h=some v3)/\(∀n:aI w,n.1.cell? m=some v4)/\(∀n:aI w,n.1.cell? p=some q)/\(∀n:aI w,n.1.cell? t=some u):=⟨aw i,aw j,aw l,aw o,aw r,aw s,aw v⟩
theorem lc8 {w:World} {f b v2 v3 v4 q u v7:Value} {d a g h m p t x:Addr} (i:w.cell? d=some f) (j:w.cell? a=some b) (l:w.cell? g=some v2) (o:w.cell? h=some v3) (r:w.cell? m=some v4) (s:w.cell? p=some q) (v:w.cell? t=some u) (y:w.cell? x=some v7):(∀n:aI w,n.1.cell? d=some f)/\(∀n:aI w,n.1.cell? a=some b)/\(∀n:aI w,n.1.cell? g=some v2)/\(∀n:aI w,n.1.cell? h=some v3)/\(∀n:aI w,n.1.cell? m=some v4)/\(∀n:aI w,n.1.cell? p=some q)/\(∀n:aI w,n.1.cell? t=some u)/\(∀n:aI w,n.1.cell? x=some v7):=⟨aw i,aw j,aw l,aw o,aw r,aw s,aw v,aw y⟩
theorem mRl{R G:Prop}(h:R)(s:R->G:=by
 intro a;refine br aF aF ?_
 repeat(go_big_quiet_step (fail))
 refine wpQuiet_nil ?_;exact a):G:=s h
def jN(c:Int):Bool:=c==1||c==2||c==3
def tT(a b:Int):Bool:=
 if a==9 then b==9||b==10||b==12||b==13 else if a==12||a==10 then b==10||b==11 else if a==13||a==11 then b==11 else false
def iz(ks:aE):Nat->Bool
 |0=>false
 |k+1=>if nth ks k==4 then iz ks k else nth ks k==14
def lX(ks:aE):Nat->Nat
 |0=>0
 |k+1=>if nth ks k==6 then lX ks k+1 else 0
def pY(a b:Int)(c d:Bool):Bool:=
 if(a==1&&b==2||tT a b)=true then true
 else if(!jN a&&(b==4||b==5||b==8))=true then true
 else if(a==7&& !jN b)=true then true
 else if(a==5&&b==14&&c)=true then true
 else a==6&&b==6&&d
def Mo(a b:Int)(c d:Bool):Bool:=
 if(a==1&&b==2)=true then true
 else if(jN a||jN b)=true then false
 else if(tT a b||b==4||b==5||b==8||a==7)=true then true
 else if(b==14)=true then(a==5&&c)
 else a==6&&b==6&&d
theorem Mp(a b:Int)(f e:Bool):Mo a b f e=pY a b f e:=by
 have split:∀c:Int,(c=1∨c=2∨c=3∨c=4∨c=5∨c=6∨c=7∨c=8∨c=9∨c=10∨c=11∨c=12∨c=13∨c=14)∨(c≠1/\c≠2/\c≠3/\c≠4/\c≠5/\c≠6/\c≠7/\c≠8/\c≠9/\c≠10/\c≠11/\c≠12/\c≠13/\c≠14):=fun c=>by omega
 rcases split a with g|g
 ·rcases split b with d|d
  ·rcases g with rfl|rfl|rfl|rfl|rfl|rfl|rfl|rfl|rfl|rfl|rfl|rfl|rfl|rfl<;>
    rcases d with rfl|rfl|rfl|rfl|rfl|rfl|rfl|rfl|rfl|rfl|rfl|rfl|rfl|rfl<;>cases f<;>cases e<;>rfl
  ·rcases g with rfl|rfl|rfl|rfl|rfl|rfl|rfl|rfl|rfl|rfl|rfl|rfl|rfl|rfl<;>simp[Mo,pY,jN,tT,d]
 ·rcases split b with d|d
  ·rcases d with rfl|rfl|rfl|rfl|rfl|rfl|rfl|rfl|rfl|rfl|rfl|rfl|rfl|rfl<;>simp[Mo,pY,jN,tT,g]
  ·simp[Mo,pY,jN,tT,g,d]
def kA(ks:aE)(i:Nat):Bool:=pY (nth ks (i-1)) (nth ks i) (iz ks (i-1)) (lX ks i%2==1)
def lT(ks:aE)(i:Nat):Bool:=decide (0<ks.length/\i<=ks.length)&&(i==0||i==ks.length|| !kA ks i)
def J8(ks:aE)(i:Int):Bool:=decide (0<=i)&&lT ks i.toNat
def Ei(ks:aE)(m:Nat):aE:=((List.range m).filter (lT ks)).map Int.ofNat
theorem vr(ks:aE)(m:Nat):Ei ks (m+1)=if lT ks m=true then Ei ks m++[(m:Int)]else Ei ks m:=by
 unfold Ei;rw[List.range_succ,List.filter_append,List.map_append];by_cases h:lT ks m=true
 ·simp[h]
 ·simp[h]
def bounds(ks:aE):aE:=Ei ks (ks.length+1)
theorem R9(i:Nat):lT [] i=false:=by simp[lT]
theorem Si{ks:aE}(h:ks.length<i):lT ks i=false:=by simp[lT];omega
theorem pw{ks:aE}(h:0<ks.length):lT ks 0=true:=by simp[lT,h]
theorem xo{ks:aE}(h:0<ks.length):lT ks ks.length=true:=by simp[lT,h]
theorem GP{ks:aE}(d:0<i)(h:i<ks.length):lT ks i= !kA ks i:=by
 have b:(i==0)=false:=pM;have c:(i==ks.length)=false:=pM;have a:decide (0<ks.length/\i<=ks.length)=true:=yy;simp[lT,b,c,a]
theorem alone(a b:Int)(d c:Bool):
 (jN a=true->pY a b d c=(a==1&&b==2))/\(a=0->b=0->pY a b d c=false)/\(a=0->(b=4∨b=5∨b=8)->pY a b d c=true):=by
 refine⟨fun h=> ?_,fun e f=> ?_,fun e f=> ?_⟩
 ·have:a=1∨a=2∨a=3:=by simpa[jN,or_assoc]using h
  by_cases g:b=2
  ·subst g;rcases this with rfl|rfl|rfl<;>simp[pY,jN,tT]
  ·rcases this with rfl|rfl|rfl<;>simp[pY,jN,tT,g]
 ·subst e;subst f;rfl
 ·subst e
  rcases f with rfl|rfl|rfl<;>rfl
def fO(ks:aE)(m:Nat):List Nat:=(List.range m).filter (lT ks)
theorem jP{ks:aE}(h:lT ks m=true):fO ks (m+1)=fO ks m++[m]:=by
 unfold fO;rw[List.range_succ,List.filter_append];simp[h]
theorem xD{ks:aE}(h:lT ks m=false):fO ks (m+1)=fO ks m:=by
 unfold fO;rw[List.range_succ,List.filter_append];simp[h]
theorem pL{ks:aE}{x:Nat}(h:x∈fO ks m):x<m/\lT ks x=true:=by
 unfold fO at h;have:=List.mem_filter.1 h;exact⟨List.mem_range.1 this.1,this.2⟩
theorem kN(ks:aE)(m:Nat):(fO ks m).length<=m:=by
 have:=List.length_filter_le (lT ks) (List.range m);rw[List.length_range]at this;exact this
theorem xM(ks:aE)(s:Nat):∀d,∃r,fO ks (s+d)=fO ks s++r/\∀x∈r,s<=x/\x<s+d/\lT ks x=true
 |0=>⟨[],aD,aD⟩
 |d+1=>by
  obtain⟨r,g,i⟩:=xM ks s d;cases h:lT ks (s+d)with
  |true=>
   refine⟨r++[s+d], ?_,fun x f=> ?_⟩
   ·rw[show s+(d+1)=s+d+1 by omega,jP h,g,List.append_assoc]
   ·rcases List.mem_append.1 f with e|e
    ·obtain⟨a,b,c⟩:=i x e
     exact⟨a,aq,c⟩
    ·simp at e;subst e;exact⟨aq,aq,h⟩
  |false=>
   refine⟨r, ?_,fun x f=> ?_⟩
   ·rw[show s+(d+1)=s+d+1 by omega,xD h,g]
   ·obtain⟨a,b,c⟩:=i x f
    exact⟨a,aq,c⟩
def di(ks:aE):List Nat:=fO ks (ks.length+1)
theorem Dd(ks:aE):bounds ks=(di ks).map Int.ofNat:=rfl
theorem tR{ks:aE}(h:s<=ks.length+1):∃r,di ks=fO ks s++r/\∀x∈r,s<=x/\x<=ks.length/\lT ks x=true:=by
 obtain⟨r,d,f⟩:=xM ks s (ks.length+1-s);rw[show s+(ks.length+1-s)=ks.length+1 by omega]at d;refine⟨r,d,fun x e=> ?_⟩;obtain⟨a,b,c⟩:=f x e;exact⟨a,aq,c⟩
def dx(l:List Nat)(k:Nat):Nat:=l.getD k 0
theorem MV{r:List Nat}(h:k<l.length):dx (l++r) k=dx l k:=by simp[dx,List.getElem?_append_left h]
theorem sZ(h:k<l.length):dx l k∈l:=by
 unfold dx;simp[h]
theorem Z8{r:List Nat}(h:l.length<=k)(b:k<(l++r).length):dx (l++r) k∈r:=by
 unfold dx;simp only[List.length_append]at b;have a:k-l.length<r.length:=aq;simp[List.getElem?_append_right h,a]
theorem pF(h:k<l.length):nth (l.map Int.ofNat) k=(dx l k:Int):=by
 unfold nth dx;simp[h]
theorem Kb{ks:aE}(b:s<=ks.length+1)(h:k<(fO ks s).length):dx (di ks) k<s/\lT ks (dx (di ks) k)=true:=by
 obtain⟨r,a,_⟩:=tR b;rw[a,MV h];exact pL (sZ h)
theorem AJ{ks:aE}(d:s<=ks.length+1)(h:(fO ks s).length<=k)(a:k<(di ks).length):s<=dx (di ks) k/\dx (di ks) k<=ks.length/\lT ks (dx (di ks) k)=true:=by
 obtain⟨r,c,b⟩:=tR d;rw[c]at a⊢;exact b _ (Z8 h a)
theorem ME{ks:aE}{t:Nat}(h:s<=t):(fO ks s).length<=(fO ks t).length:=by
 obtain⟨r,a,_⟩:=xM ks s (t-s);rw[show s+(t-s)=t by omega]at a;rw[a];simp
theorem WB{ks:aE}(b:s<=ks.length)(h:lT ks s=true):(fO ks s).length<(di ks).length/\dx (di ks) (fO ks s).length=s:=by
 obtain⟨r,a,_⟩:=tR (ks:=ks) (s:=s+1) aq;rw[jP h]at a;rw[a];refine⟨ij, ?_⟩;rw[MV aD];simp[dx]
def kG(ks:aE)(s:Nat):Nat:=(fO ks s).getLastD 0
theorem po(ks:aE):kG ks 0=0:=rfl
theorem mW{ks:aE}(h:lT ks s=true):kG ks (s+1)=s:=by
 unfold kG;rw[jP h];simp
theorem qg{ks:aE}(h:lT ks s=false):kG ks (s+1)=kG ks s:=by
 unfold kG;rw[xD h]
theorem Ff(ks:aE):kG ks 1=0:=by
 cases h:lT ks 0 with
 |true=>rw[mW h]
 |false=>rw[qg h,po]
def ui(l:List Nat)(k:Nat):List (Nat×Nat):=(List.range k).map fun i=>(dx l i,dx l (i+1))
theorem gW(l:List Nat)(k:Nat):ui l (k+1)=ui l k++[(dx l k,dx l (k+1))]:=by
 unfold ui;rw[List.range_succ,List.map_append];rfl
theorem iL(l:List Nat)(k:Nat):(ui l k).length=k:=by simp[ui]
def uy(ks:aE):List (Nat×Nat):=ui (di ks) ((di ks).length-1)
theorem ox{ks:aE}(h:0<ks.length):dx (di ks) 0=0/\0<(di ks).length:=by
 obtain⟨b,a⟩:=WB (Nat.zero_le _) (pw h);exact⟨a,by have e:(fO ks 0).length=0:=rfl;omega⟩
theorem qN{ks:aE}(h:0<ks.length):(di ks).length=(fO ks ks.length).length+1/\dx (di ks) ((di ks).length-1)=ks.length:=by
 have a:=jP (xo h);have e:di ks=fO ks ks.length++[ks.length]:=a;rw[e];refine⟨aD, ?_⟩;simp[dx]
theorem KH{ks:aE}(h:0<ks.length):2<=(di ks).length:=by
 have b:=(qN h).1;have a:=ME (ks:=ks) (s:=1) (t:=ks.length) aq;rw[jP (pw h)]at a;have:(fO ks 0).length=0:=rfl;simp at a;omega
theorem qc{ks:aE}(h:i+1<(di ks).length):dx (di ks) i<dx (di ks) (i+1):=by
 have b:i<(di ks).length:=aq;have f:dx (di ks) i∈di ks:=sZ b;obtain⟨j,e⟩:=pL f;obtain⟨g,l⟩:=WB aq e;have c:=jP e;rcases Nat.lt_trichotomy (fO ks (dx (di ks) i)).length i with a|a|a
 ·have d:=(AJ (ks:=ks) (s:=dx (di ks) i+1) aq (k:=i) (by rw[c];simp;omega) b).1
  omega
 ·have d:=(AJ (ks:=ks) (s:=dx (di ks) i+1) aq (k:=i+1) (by rw[c];simp;omega) h).1
  omega
 ·have d:=(Kb (ks:=ks) (s:=dx (di ks) i) aq a).1
  omega
def tz(xs:aE)(i:Nat):Int:=(aZ (nth xs i)).iZ
def fY(xs:aE)(i:Nat):Bool:=nth xs i==13&&(decide (i+1<xs.length)&&nth xs (i+1)==10)
def ff(xs:aE)(i:Nat):Bool:=(tz xs i==11&& !fY xs i)||decide (i+1=xs.length)
def uR(xs:aE):Nat->Nat
 |0=>0
 |k+1=>if ff xs k=true then k+1 else uR xs k
def par(xs:aE):Nat->List (Nat×Nat)
 |0=>[]
 |k+1=>if ff xs k=true then par xs k++[(uR xs k,k+1)]else par xs k
def rD(xs:aE):List (Nat×Nat):=par xs xs.length
theorem oZ{xs:aE}(h:ff xs k=true):par xs (k+1)=par xs k++[(uR xs k,k+1)]:=by simp[par,h]
theorem tC{xs:aE}(h:ff xs k=false):par xs (k+1)=par xs k:=by simp[par,h]
theorem pa{xs:aE}(h:ff xs k=true):uR xs (k+1)=k+1:=by simp[uR,h]
theorem yk{xs:aE}(h:ff xs k=false):uR xs (k+1)=uR xs k:=by simp[uR,h]
theorem N7(xs:aE):∀k,uR xs k<=k
 |0=>Nat.le_refl _
 |k+1=>by
  have:=N7 xs k;simp only[uR];split<;>omega
theorem xA(xs:aE):∀k,(par xs k).length<=k
 |0=>Nat.le_refl _
 |k+1=>by
  have:=xA xs k;simp only[par];split
  ·simp;omega
  ·omega
def nk(ps:List (Nat×Nat))(j:Nat):Nat×Nat:=ps.getD j (0,0)
def pW(p:Nat×Nat):List Value:=[ae aj p.1,ae aj p.2]
def dt(ps:List (Nat×Nat)):List Value:=ps.flatMap pW
theorem mZ(ps qs:List (Nat×Nat)):dt (ps++qs)=dt ps++dt qs:=by simp[dt]
theorem we(p:Nat×Nat):dt [p]=[ae aj p.1,ae aj p.2]:=by simp[dt,pW]
theorem jI:∀(ps:List (Nat×Nat)) (j:Nat),j<ps.length->(dt ps)[j*2]? =some (ae aj (nk ps j).1)/\(dt ps)[j*2+1]? =some (ae aj (nk ps j).2)
 |[],j,h=>by simp at h
 |p::ps,0,_=>by simp[dt,pW,nk]
 |p::ps,j+1,h=>by
  have ih:=jI ps j wT;have a:dt (p::ps)=ae aj p.1:: ae aj p.2::dt ps:=by simp[dt,pW]
  have b:nk (p::ps) (j+1)=nk ps j:=by simp[nk]
  rw[a,b,show(j+1)*2=j*2+1+1 by omega];simp only[List.getElem?_cons_succ];exact ih
def lu(a:aE):Nat->List Nat
 |0=>[]
 |i+1=>if 0<i/\nth a (i-1)=nth a i then lu a i else lu a i++[i]
def eU(a:aE)(i:Nat):List (Nat×Nat):=ui (lu a i++[i]) (lu a i).length
theorem cE{S:List Nat}(h:k<S.length):dx (S++[i]) k=dx S k:=by simp[dx,List.getElem?_append_left h]
theorem iQ(S:List Nat)(i:Nat):dx (S++[i]) S.length=i:=by simp[dx]
theorem ly(a:aE):∀i,0<i->0<(lu a i).length
 |0,h=>by omega
 |i+1,_=>by
  unfold lu;split
  ·rename_i h;exact ly a i h.1
  ·simp
theorem tQ(a:aE):∀i k,k<(lu a i).length->dx (lu a i) k<i
 |0,k,h=>by simp[lu]at h
 |i+1,k,h=>by
  unfold lu at h⊢;split at h
  ·rename_i c;rw[if_pos c];have:=tQ a i k h;omega
  ·rename_i c
   rw[if_neg c];rcases Nat.lt_or_ge k (lu a i).length with b|b
   ·rw[cE b];have:=tQ a i k b;omega
   ·simp at h
    have:k=(lu a i).length:=aq;subst this;rw[iQ];omega
theorem DR(a:aE):∀i k,k+1<(lu a i).length->dx (lu a i) k<dx (lu a i) (k+1)
 |0,k,h=>by simp[lu]at h
 |i+1,k,h=>by
  unfold lu at h⊢;split at h
  ·rename_i c;rw[if_pos c];exact DR a i k h
  ·rename_i c
   rw[if_neg c];rcases Nat.lt_or_ge (k+1) (lu a i).length with b|b
   ·rw[cE b,cE aq];exact DR a i k b
   ·simp at h
    have:k+1=(lu a i).length:=aq;rw[this,iQ,cE aq];exact tQ a i k aq
theorem KJ(a:aE):∀i,(lu a i).length<=i
 |0=>by simp[lu]
 |i+1=>by
  have:=KJ a i;unfold lu;split
  ·omega
  ·simp;omega
theorem lD(a:aE)(i:Nat):(eU a i).length=(lu a i).length:=iL _ _
theorem na(l:List Nat)(m k:Nat)(h:k<m):nk (ui l m) k=(dx l k,dx l (k+1)):=by simp[nk,ui,h]
theorem Ck(a:aE)(i k:Nat)(h:k<(eU a i).length):(nk (eU a i) k).1<(nk (eU a i) k).2/\(nk (eU a i) k).2<=i/\(k+1<(eU a i).length->(nk (eU a i) k).2=(nk (eU a i) (k+1)).1):=by
 rw[lD]at h;rw[lD];unfold eU;rw[na _ _ _ h,cE h];rcases Nat.lt_or_ge (k+1) (lu a i).length with b|b
 ·rw[na _ _ _ b,cE b]
  have c:=DR a i k b;have d:=tQ a i (k+1) b;exact⟨c,by show _<=_;omega,fun _=>rfl⟩
 ·have:k+1=(lu a i).length:=by omega
  rw[this,iQ];exact⟨tQ a i k h,Nat.le_refl _,fun h=>absurd h aq⟩
theorem yT(S:List Nat)(i j:Nat):∀m,m<S.length->ui (S++[i]) m=ui (S++[j]) m
 |0,_=>rfl
 |m+1,h=>by
  rw[gW,gW,yT S i j m aq,cE aq,cE aq,cE aq,cE aq]
theorem xe(l a:List Nat):∀m,(∀k,k<=m->dx l k=dx a k)->ui l m=ui a m
 |0,_=>rfl
 |m+1,h=>by rw[gW,gW,xe l a m fun k b=>h k aq,h m aq,h (m+1) aq]
theorem oU(a:aE)(i:Nat)(h:¬(0<i/\nth a (i-1)=nth a i)):eU a (i+1)=eU a i++[(i,i+1)]:=by
 unfold eU;have e:lu a (i+1)=lu a i++[i]:=by rw[lu,if_neg h]
 rw[e,List.length_append];show ui _ ((lu a i).length+1)=_;rw[gW,cE aD,iQ]
 congr 1
 ·exact(xe _ _ _ fun k c=>by
   have:k<(lu a i++[i]).length:=by simp;omega
   rw[cE this])
 ·have b:=iQ (lu a i++[i]) (i+1)
  rw[List.length_append,List.length_singleton]at b;rw[b]
theorem Ai(a:aE)(i:Nat)(h:0<i/\nth a (i-1)=nth a i):eU a (i+1)=(eU a i).set ((eU a i).length-1) ((nk (eU a i) ((eU a i).length-1)).1,i+1):=by
 have j:=ly a i h.1;have e:lu a (i+1)=lu a i:=by rw[lu,if_pos h]
 have c:=lD a i;rw[c];unfold eU;rw[e];generalize lu a i=S at*;obtain⟨m,b⟩:∃m,S.length=m+1:=⟨S.length-1,aq⟩;rw[b,Nat.add_sub_cancel,na _ _ _ aq,gW,gW,yT S (i+1) i m aq,List.set_append_right _ _ (by rw[iL];omega),iL];simp only[Nat.sub_self,List.set_cons_zero];have g:dx (S++[i+1]) m=dx S m:=cE aq;have d:dx (S++[i]) m=dx S m:=cE aq;have f:dx (S++[i+1]) (m+1)=i+1:=by rw[<-b];exact iQ _ _
 rw[g,d,f]
theorem qD:∀(ps:List (Nat×Nat)) (j b:Nat),j<ps.length->(dt ps).set (j*2+1) (ae aj (b:Int))=dt (ps.set j ((nk ps j).1,b))
 |[],j,b,h=>by simp at h
 |p::ps,0,b,_=>by simp[dt,pW,nk]
 |p::ps,j+1,b,h=>by
  have ih:=qD ps j b wT;have a:dt (p::ps)=ae aj p.1:: ae aj p.2::dt ps:=by simp[dt,pW]
  have c:nk (p::ps) (j+1)=nk ps j:=by simp[nk]
  rw[a,c,List.set_cons_succ,show(j+1)*2=(j*2+1)+1 by omega,List.set_cons_succ,ih];simp[dt,pW]
def Gj(p:Nat->Bool)(N:Nat):Nat->Nat->Nat
 |0,i=>i
 |d+1,i=>if i<N&&p i then Gj p N d (i+1)else i
def dP(p:Nat->Bool)(N i:Nat):Nat:=Gj p N (N-i) i
theorem qS(h:i<N)(a:p i=true):dP p N i=dP p N (i+1):=by
 unfold dP;obtain⟨d,b⟩:∃d,N-i=d+1:=⟨N-i-1,aq⟩;rw[b,show N-(i+1)=d by omega];simp[Gj,h,a]
theorem iS(h:i<N->p i=false):dP p N i=i:=by
 unfold dP;cases N-i with
 |zero=>rfl
 |succ d=>
  unfold Gj;by_cases a:i<N
  ·simp[h a]
  ·simp[a]
theorem mq(p:Nat->Bool)(N:Nat):∀(d i:Nat),N-i=d->i<=N->i<=dP p N i/\dP p N i<=N/\(∀j,i<=j->j<dP p N i->p j=true)/\(dP p N i<N->p (dP p N i)=false)
 |0,i,hd,hi=>by
  rw[iS (fun h=>aq)];exact⟨Nat.le_refl _,hi,fun j e b=>by omega,fun h=>by omega⟩
 |d+1,i,hd,hi=>by
  cases a:p i with
  |false=>
   rw[iS (fun _=>a)];exact⟨Nat.le_refl _,hi,fun j e b=>by omega,fun _=>a⟩
  |true=>
   rw[qS aq a];obtain⟨e,b,k,g⟩:=mq p N d (i+1) aq aq;refine⟨aq,b,fun j l f=> ?_,g⟩;rcases Nat.lt_or_ge i j with c|c
   ·exact k j c f
   ·obtain rfl:j=i:=by omega
    exact a
theorem H9(a:i<=N)(h:dP p N i<N):p (dP p N i)=false:=(mq p N _ i rfl a).2.2.2 h
theorem uv(h:N<=i):dP p N i=i:=iS fun a=>by omega
def dM(x:Int):Nat:=(max 0 (min x 126)).toNat
theorem uo(x:Int):dM x<=126:=by unfold dM;omega
theorem tB(x:Int):((dM x:Nat):Int)=max 0 (min x 126):=by unfold dM;omega
def swp(xs:aE)(i j:Nat):aE:=(xs.set i (nth xs j)).set j (nth xs i)
theorem Gv(xs:aE)(i j:Nat):(swp xs i j).length=xs.length:=by simp[swp]
theorem Gq(xs:aE)(i q:Nat)(v:Int)(h:i<xs.length):nth (xs.set i v) q=if i=q then v else nth xs q:=by
 unfold nth;rw[List.getD_eq_getElem?_getD,List.getElem?_set,List.getD_eq_getElem?_getD];split
 ·rename_i e;subst e;simp[h]
 ·rfl
theorem GH{xs:aE}(a:i<xs.length)(hj:j<xs.length)(q:Nat):nth (swp xs i j) q=if j=q then nth xs i else if i=q then nth xs j else nth xs q:=by
 unfold swp;rw[Gq _ _ _ _ uB,Gq _ _ _ _ a]
def Bs(a b:Nat)(xs:aE):aE:=if a+1<b then Bs (a+1) (b-1) (swp xs a (b-1))else xs
termination_by b-a
theorem tE{a:Nat}(h:a+1<b)(xs:aE):Bs a b xs=Bs (a+1) (b-1) (swp xs a (b-1)):=by rw[Bs,if_pos h]
theorem sP{a:Nat}(h:¬a+1<b)(xs:aE):Bs a b xs=xs:=by rw[Bs,if_neg h]
theorem EJ:∀(d a b:Nat) (xs:aE),b-a<=d->b<=xs.length->(Bs a b xs).length=xs.length/\∀q,nth (Bs a b xs) q=if a<=q/\q<b then nth xs (a+b-1-q)else nth xs q
 |0,a,b,xs,hd,hb=>by
  rw[sP aq];refine⟨rfl,fun q=> ?_⟩;rw[if_neg aq]
 |d+1,a,b,xs,hd,hb=>by
  by_cases h:a+1<b
  ·rw[tE h]
   obtain⟨i,j⟩:=EJ d (a+1) (b-1) (swp xs a (b-1)) aq (by rw[Gv];omega);refine⟨i.trans (Gv _ _ _),fun q=> ?_⟩;rw[j,GH aq aq,GH aq aq];by_cases e:a+1<=q/\q<b-1
   ·rw[if_pos e,if_neg aq,if_neg aq,if_pos aq,show a+1+(b-1)-1-q=a+b-1-q by omega]
   ·rw[if_neg e]
    by_cases f:b-1=q
    ·rw[if_pos f,if_pos aq,show a+b-1-q=a by omega]
    ·rw[if_neg f]
     by_cases g:a=q
     ·rw[if_pos g,if_pos aq,show a+b-1-q=b-1 by omega]
     ·rw[if_neg g,if_neg aq]
  ·rw[sP h]
   refine⟨rfl,fun q=> ?_⟩;split
   ·rename_i c
    rw[show a+b-1-q=q by omega]
   ·rfl
def dg(xs:aE)(a b:Nat):aE:=xs.take a++((xs.take b).drop a).reverse++xs.drop b
theorem kg{xs:aE}{a:Nat}(h:a<=b):(dg xs a b).Perm xs:=by
 have e:xs.take a++(xs.take b).drop a++xs.drop b=xs:=by
  have c:xs.take a++(xs.take b).drop a=xs.take b:=by
   have:=List.take_append_drop a (xs.take b);rwa [List.take_take,Nat.min_eq_left h]at this
  rw[c,List.take_append_drop]
 unfold dg;exact((List.Perm.append_left (xs.take a) (List.reverse_perm _)).append_right _).trans (by rw[e])
theorem tA{xs:aE}{a:Nat}(h:a<=b):(dg xs a b).length=xs.length:=(kg h).length_eq
theorem tZ{xs:aE}{a:Nat}(c:a<=b)(e:b<=xs.length)(q:Nat):nth (dg xs a b) q=if a<=q/\q<b then nth xs (a+b-1-q)else nth xs q:=by
 unfold nth dg;simp only[List.getD_eq_getElem?_getD];by_cases d:q<a
 ·rw[if_neg aq,List.append_assoc,List.getElem?_append_left cA,List.getElem?_take,if_pos d]
 ·by_cases f:q<b
  ·rw[if_pos aq,List.getElem?_append_left cA,List.getElem?_append_right cA,List.getElem?_reverse cA,List.getElem?_drop,List.getElem?_take,if_pos cA]
   congr 2
   simp;omega
  ·rw[if_neg aq,List.getElem?_append_right cA,List.getElem?_drop]
   congr 2
   simp;omega
theorem Sp{xs a:aE}(b:xs.length=a.length)(h:∀q,nth xs q=nth a q):xs=a:=by
 apply List.ext_getElem b;intro q c d;have:=h q;rwa [dQ c,dQ d]at this
theorem xb{xs:aE}{a:Nat}(c:a<=b)(d:b<=xs.length):Bs a b xs=dg xs a b:=by
 obtain⟨e,f⟩:=EJ (b-a) a b xs cr d;exact Sp (e.trans (tA c).symm) fun q=>by rw[f,tZ c d]
theorem rj{xs:aE}{a:Nat}(h:b<=a+1)(c:a<=b)(d:b<=xs.length):dg xs a b=xs:=by rw[<-xb c d,sP (by omega)]
def zw(lv o:aE)(k j:Nat):Bool:=decide (k<=dM (nth lv (nth o j).toNat))
def nv(lv o:aE)(k N i:Nat):Nat:=dP (zw lv o k) N i
theorem pd(lv o:aE)(k:Nat){N i:Nat}(h:i<=N):i<=nv lv o k N i/\nv lv o k N i<=N:=by
 have:=mq (zw lv o k) N _ i rfl h;exact⟨this.1,this.2.1⟩
def ar(lv:aE)(k N:Nat)(o:aE)(i:Nat):aE:=
 if h:i<N then ar lv k N (dg o i (nv lv o k N i)) (nv lv o k N i+1)else o
termination_by N-i
decreasing_by
 have:=(pd lv o k (Nat.le_of_lt h)).1;omega
theorem jA{lv:aE}{o:aE}(h:i<N):ar lv k N o i=ar lv k N (dg o i (nv lv o k N i)) (nv lv o k N i+1):=by rw[ar,dif_pos h]
theorem jQ{lv:aE}{o:aE}(h:N<=i):ar lv k N o i=o:=by rw[ar,dif_neg (by omega)]
theorem Il{lv:aE}{o:aE}(b:o.length=N)(h:i<N->zw lv o k i=false):ar lv k N o i=ar lv k N o (i+1):=by
 by_cases a:i<N
 ·rw[jA a]
  have e:nv lv o k N i=i:=iS fun _=>h a
  rw[e,rj aq cr aq]
 ·rw[jQ aq,jQ aq]
theorem vG(lv:aE)(k N:Nat):∀(d:Nat) (o:aE) (i:Nat),N-i<=d->(ar lv k N o i).Perm o
 |0,o,i,h=>by rw[jQ aq]
 |d+1,o,i,h=>by
  by_cases a:i<N
  ·rw[jA a]
   have:=(pd lv o k (Nat.le_of_lt a)).1;exact(vG lv k N d _ _ aq).trans (kg this)
  ·rw[jQ aq]
theorem Cr{lv o:aE}(e:o.length=N)(a:i<=N)(h:nv lv o k N i<N):zw lv (dg o i (nv lv o k N i)) k (nv lv o k N i)=false:=by
 obtain⟨c,d⟩:=pd lv o k a;have b:zw lv o k (nv lv o k N i)=false:=by
  unfold nv at h⊢;exact H9 a h
 unfold zw at b⊢;rwa [tZ c aq,if_neg aq]
def zD(lv:aE)(N least:Nat):Nat->aE->aE
 |0,o=>o
 |k+1,o=>if least<=k+1 then zD lv N least k (ar lv (k+1) N o 0)else o
theorem Aa(lv:aE)(N least:Nat):∀(k:Nat) (o:aE),(zD lv N least k o).Perm o
 |0,o=>List.Perm.refl _
 |k+1,o=>by
  simp only[zD];split
  ·exact(Aa lv N least k _).trans (vG lv (k+1) N N o 0 aq)
  ·exact List.Perm.refl _
def fZ(lv:aE):Nat->Nat
 |0=>0
 |i+1=>max (fZ lv i) (dM (nth lv i))
def cO(lv:aE):Nat->Nat
 |0=>127
 |i+1=>if dM (nth lv i)%2=1 then min (cO lv i) (dM (nth lv i))else cO lv i
theorem uw(lv:aE):∀n,fZ lv n<=126
 |0=>by simp[fZ]
 |n+1=>by
  have:=uw lv n;have:=uo (nth lv n);simp only[fZ];omega
theorem qu(lv:aE):∀n,1<=cO lv n/\cO lv n<=127
 |0=>by simp[cO]
 |n+1=>by
  have:=qu lv n;simp only[cO];split<;>omega
def nJ(n:Nat):aE:=(List.range n).map Int.ofNat
theorem xc(n:Nat):(nJ n).length=n:=by simp[nJ]
theorem AV(n:Nat):nJ (n+1)=nJ n++[(n:Int)]:=by simp[nJ,List.range_succ]
def fN(lv:aE):aE:=zD lv lv.length (cO lv lv.length) (fZ lv lv.length) (nJ lv.length)
theorem AG(lv:aE):(fN lv).Perm (nJ lv.length):=Aa _ _ _ _ _
structure vC(o:aE)(n:Nat):Prop where
 len:o.length=n
 ge:∀j,j<n->0<=nth o j
 lt:∀j,j<n->(nth o j).toNat<n
 inj:∀i j,i<n->j<n->(nth o i).toNat=(nth o j).toNat->i=j
 sur:∀k,k<n->∃j,j<n/\(nth o j).toNat=k
theorem ku{o:aE}{n:Nat}(h:o.Perm (nJ n)):vC o n:=by
 have p:o.length=n:=by rw[h.length_eq,xc]
 have d:∀j,j<n->∃k,k<n/\nth o j=(k:Int):=by
  intro j c;have g:nth o j∈o:=Bi;have m:=(h.mem_iff).1 g;simp only[nJ,List.mem_map,List.mem_range]at m;obtain⟨k,q,t⟩:=m;exact⟨k,q,t.symm⟩
 have f:o.Nodup:=by
  rw[h.nodup_iff,nJ];rw[List.nodup_iff_pairwise_ne,List.pairwise_map];exact List.Pairwise.imp (fun h=>by intro e;apply h;exact Int.ofNat.inj e) List.nodup_range
 refine⟨p,fun j c=> ?_,fun j c=> ?_,fun i j r c e=> ?_,fun k u=> ?_⟩
 ·obtain⟨k,_,e⟩:=d j c
  omega
 ·obtain⟨k,_,e⟩:=d j c
  omega
 ·obtain⟨a,_,v⟩:=d i r
  obtain⟨b,_,s⟩:=d j c;rw[v,s]at e;have l:nth o i=nth o j:=aq;rw[dQ aq,dQ aq]at l;exact(List.getElem_inj f).1 l
 ·have g:(k:Int)∈o:=by
   rw[h.mem_iff,nJ];simp only[List.mem_map,List.mem_range];exact⟨k,u,rfl⟩
  obtain⟨j,c,e⟩:=List.getElem_of_mem g;refine⟨j,aq, ?_⟩;rw[dQ c,e];omega
theorem Cu{lv:aE}{n:Nat}(h:lv.length=n):vC (fN lv) n:=by
 subst h;exact ku (AG lv)
structure gN where
 iX:Int
 id:Int
 x:Int
 y:Int
deriving Inhabited
structure bP where
 f:Int
 t:Int
 lv:Int
 x:Int
 wd:Int
 gs:List gN
deriving Inhabited
def mL(gs:List gN)(j:Nat):gN:=gs.getD j default
def bN(a:List bP)(j:Nat):bP:=a.getD j default
theorem Fa{gs:List gN}(h:k<gs.length):mL gs k=gs[k]:=by simp[mL,h]
theorem xW{a:List bP}(h:k<a.length):bN a k=a[k]:=by simp[bN,h]
def uz(a:Int)(g:gN):gN:={g with x:=g.x+a}
def zo(b:bP)(a:Int):bP:={b with x:=a,gs:=b.gs.map (uz a)}
def xd(o:aE)(j:Nat):Nat:=(nth o j).toNat
def jE(a:List bP)(o:aE):Nat->Int
 |0=>0
 |j+1=>jE a o j+(bN a (xd o j)).wd
def ji(a:List bP):Nat->Int
 |0=>0
 |j+1=>ji a j+(bN a j).wd
def uf(a:List bP)(o:aE)(s:Int)(j:Nat):List bP:=(List.range j).map fun q=>zo (bN a (xd o q)) (s+jE a o q)
theorem Ij(a:List bP)(o:aE)(s:Int)(j:Nat):uf a o s (j+1)=uf a o s j++[zo (bN a (xd o j)) (s+jE a o j)]:=by
 simp[uf,List.range_succ]
theorem M9(a:List bP)(o:aE)(s:Int)(j:Nat):(uf a o s j).length=j:=by simp[uf]
def Vl(o:aE)(tail j:Nat):Bool:=decide (tail=0)||decide (xd o j<tail)
def zk(o:aE)(tail:Nat):Nat->Bool
 |0=>false
 |j+1=>zk o tail j||Vl o tail j
def lJ(a:List bP)(o:aE)(tail:Nat):Nat->Int
 |0=>0
 |j+1=>if(Vl o tail j&& !zk o tail j)=true then jE a o j else lJ a o tail j
def ja(a:List bP)(o:aE)(tail:Nat):Nat->Int
 |0=>0
 |j+1=>if Vl o tail j=true then jE a o (j+1)else ja a o tail j
def kp(a:List bP)(o:aE)(tail:Nat)(b:Bool)(x:Int):Int:=
 if b=true then x+ji a tail-ja a o tail a.length else x-lJ a o tail a.length
theorem oV{a:List bP}{o:aE}(h:∀j,-1073741824<=(bN a j).wd/\(bN a j).wd<=1073741824):∀j:Nat,-1073741824*(j:Int)<=jE a o j/\jE a o j<=1073741824*(j:Int)
 |0=>by simp[jE]
 |j+1=>by
  have:=oV (o:=o) h j;have:=h (xd o j);simp only[jE];omega
theorem oY{a:List bP}(h:∀j,-1073741824<=(bN a j).wd/\(bN a j).wd<=1073741824):∀j:Nat,-1073741824*(j:Int)<=ji a j/\ji a j<=1073741824*(j:Int)
 |0=>by simp[ji]
 |j+1=>by
  have:=oY h j;have:=h j;simp only[ji];omega
theorem tJ{a:List bP}{o:aE}{tail:Nat}(h:∀j,-1073741824<=(bN a j).wd/\(bN a j).wd<=1073741824):∀j:Nat,(-1073741824*(j:Int)<=lJ a o tail j/\lJ a o tail j<=1073741824*(j:Int))/\-1073741824*(j:Int)<=ja a o tail j/\ja a o tail j<=1073741824*(j:Int)
 |0=>by simp[lJ,ja]
 |j+1=>by
  have c:=tJ (o:=o) (tail:=tail) h j;have d:=oV (o:=o) h j;have b:=oV (o:=o) h (j+1);simp only[lJ,ja];constructor<;>split<;>omega
section
variable {P : Program} {ops : Array Oper} {md : Region.Mode} {C : World -> Prop} {T : Option Tmp -> Option (Value -> Prop)}
@[go_sem] def mN(P : Program)(C : World -> Prop)(w : World)(S : Value -> Prop) : Result Next -> Prop
 | .ok (.value u) w'=>w'=w/\S u
 | .ok .skip w'=>w'=w/\S undef
 | .ok (.enter f args) w'=>w'=w/\Calls P f args w (fun e a=>∃v,e= .returned v/\S v/\C a)
 |_=>False
@[go_sem] def sw(P : Program)(o : Oper)(a : Act)(C : World -> Prop)(w : World)(S : Value -> Prop) : Prop := mN P C w S ((execOp a.eval o).run P w)
def eW(o:Oper):Bool:=match o.op with
 | .call c=>(match c.callee with| .builtin .len=>true|_=>false)
 | .move _=>true
 | .assign _=>true
 | .pick _ _ _=>true
 | .load _ _=>true
 | .fieldAddr _ _ _=>true
 | .field _ _ _=>true
 | .indexAddr _ _ _=>true
 | .binOp _ _ _ _ _=>true
 | .unOp _ _ _=>true
 | .convert _ _ _=>true
 | .slice _ _ _ _ _=>true
 | .extract _ _=>true
 | .build _ _=>true
 | .nilCheck _=>true
 |_=>false
theorem tG(s:Sem Value)(g:Value->Value){w:World}{f:FuncId}{args:Array Value}{a:World}:(do let x<-s;pure (Next.value (g x)):Sem Next).run P w≠ .ok (.enter f args) a:=by
 simp;cases s.run P w<;>simp[Result.andThen]
theorem IV(s:Sem Bool)(g:Bool->Value){w:World}{f:FuncId}{args:Array Value}{a:World}:(do let x<-s;pure (Next.value (g x)):Sem Next).run P w≠ .ok (.enter f args) a:=by
 simp;cases s.run P w<;>simp[Result.andThen]
theorem QM{G:Prop}(s:G:=by
 simp only[*];exact tG _ id):G:=s
theorem ki(h:eW o=true)(ρ:Operand->Value)(w:World)(f:FuncId)(args:Array Value)(d:World):(execOp ρ o).run P w≠ .ok (.enter f args) d:=by
 unfold eW at h;unfold execOp;split at h
 case h_1 c heq=>
  simp only[heq];split at h
  ·rename_i b
   simp[resolve,b,invoke,builtin];exact fun e=>tG (P:=P) _ id (by simpa using e)
  ·cases h
 case h_2=>simp[*]
 case h_3=>simp[*]
 case h_4=>simp only[*];exact IV _ _
 case h_5=>exact QM
 case h_6=>exact QM
 case h_7=>exact QM
 case h_8=>exact QM
 case h_9=>exact QM
 case h_10=>exact QM
 case h_11=>exact QM
 case h_12=>exact QM
 case h_13=>exact QM
 case h_14=>exact QM
 case h_15=>
  simp only[*];intro h;split at h
  ·simp[runtimePanic]at h
  ·simp[runtimePanic]at h
  ·simp[runtimePanic]at h
  ·split at h
   ·simp[runtimePanic]at h
   ·rw[Sem.run_bind]at h
    generalize Sem.run P program w=r at h;cases r with
    |halt x y=>simp[Result.andThen]at h
    |ok v y=>
     simp only[Result.andThen]at h;rw[Sem.run_bind]at h;generalize Sem.run P (nilAhead _ _ _ _) y=a at h;cases a with
     |halt x y=>simp[Result.andThen]at h
     |ok v2 y2=>
      simp only[Result.andThen]at h;split at h<;>simp[unsupported,Result.andThen]at h
   ·simp at h
  ·simp at h
 case h_16=>cases h
def qE(P:Program)(T:Option Tmp->Option (Value->Prop))(C:World->Prop)(o:Oper)(a:Act)(K:Act->Prop):Prop:=
 match T o.dst with
 |some S=>(∀w,C w->sw P o a C w S)/\∀v,S v->K (a.put o.dst v)
 |none=>eW o=true/\o.quiet P a C K
def kO(P:Program)(ops:Array Oper)(T:Option Tmp->Option (Value->Prop))(C:World->Prop)(Q:Act->Prop):List Oper->Act->Prop
 |[],a=>Q a
 |o::rest,a=>if Region.wanted o (yielded ops a.tmps)then qE P T C o a (kO P ops T C Q rest)else kO P ops T C Q rest (a.put o.dst undef)
def oo(P:Program)(ops:Array Oper)(T:Option Tmp->Option (Value->Prop))(C:World->Prop)(i:Nat)(K:Act->Prop)(a:Act):Prop:=
 match ops[i]? with
 |none=>K a
 |some o=>if Region.wanted o (yielded ops a.tmps)then qE P T C o a K else K (a.put o.dst undef)
theorem H'{c:Act->Prop}(h:∀a,K a->c a)(b:qE P T C o a K):qE P T C o a c:=by
 unfold qE at*;split
 ·rename_i S e
  rw[e]at b;exact⟨b.1,fun v d=>h _ (b.2 v d)⟩
 ·rename_i e
  rw[e]at b;exact⟨b.1,Oper.quiet_mono h b.2⟩
theorem JA{d:Act->Prop}(h:∀a,K a->d a)(b:oo P ops T C i K a):oo P ops T C i d a:=by
 unfold oo at*;split
 ·exact h _ (by simpa[*]using b)
 ·rename_i o e
  simp only[e]at b;split
  ·rename_i c;simp only[c,if_true]at b;exact H' h b
  ·rename_i c;simp only[c]at b;exact h _ b
def wpAnyL(P:Program)(md:Region.Mode)(ops:Array Oper)(T:Option Tmp->Option (Value->Prop))(C:World->Prop)(Q:Act->Prop):Nat->Array Bool->Act->Prop
 |0,az,a=>Region.ready md ops az=[]/\Q a
 |fuel+1,az,a=>
  (Region.ready md ops az=[]->Q a)/\
  ∀i∈Region.ready md ops az,oo P ops T C i (wpAnyL P md ops T C Q fuel (az.setIfInBounds i true)) a
theorem Dm{k:Act->World->Prop}(d:C w)(h:∀a g,C g->K a->k a g)(i:qE P T C o a K):o.wp P a w k Q':=by
 unfold qE at i;split at i
 ·obtain⟨m,j⟩:=i
  have b:=m w d;unfold sw at b;unfold Oper.wp;generalize(execOp a.eval o).run P w=r at*;cases r with
  |ok n g=>
   cases n<;>simp only[mN]at b<;>simp only[Oper.upon]
   case value u=>rw[b.1];exact h _ _ d (j _ b.2)
   case skip=>rw[b.1];exact h _ _ d (j _ b.2)
   case enter f args=>
    rw[b.1];exact b.2.mono fun e q ⟨v,p,l,c⟩=>by subst p;exact h _ _ c (j _ l)
  |halt x g=>simp only[mN]at b
 ·exact Oper.wp_of_quiet d h i.2
theorem xE{f:Act->World->Prop}(c:C w)(h:∀a g,C g->K a->f a g)(b:oo P ops T C i K a):wpOp P ops Q' i f a w:=by
 unfold oo at b;unfold wpOp;split
 ·rename_i d;simp only[d]at b;exact h _ _ c b
 ·rename_i o d
  simp only[d]at b;split
  ·rename_i e;simp only[e,if_true]at b;exact .inl (Dm c h b)
  ·rename_i e;simp only[e]at b;exact h _ _ c b
theorem rz{Q:Act->Prop}{Q':Exit->Act->World->Prop}(c:∀a w,C w->Q a->Q' .normal a w):∀(fuel:Nat) (b:Array Bool) (a:Act) (w:World),C w->
 wpAnyL P md ops T C Q fuel b a->wpAny P md ops Q' fuel b a w
 |0,_,_,_,hw,h=>⟨h.1,c _ _ hw h.2⟩
 |fuel+1,_,_,_,hw,h=>⟨fun j=>c _ _ hw (h.1 j),fun i e=>xE hw (fun f g d=>rz c fuel _ f g d) (h.2 i e)⟩
def pD(P:Program)(ops:Array Oper)(T:Option Tmp->Option (Value->Prop))(C:World->Prop)(o:Oper)(S:Value->Prop)(a:Act):Prop:=
 (Region.wanted o (yielded ops a.tmps)=true/\(T o.dst=some S∨(T o.dst=none/\eW o=true/\∃v,S=fun u=>u=v))/\∀w,C w->sw P o a C w S)∨
 (Region.wanted o (yielded ops a.tmps)=false/\S=fun v=>v=undef)
theorem pD.has(h:pD P ops T C o S a)(c:∃w,C w):∃v,S v:=by
 rcases h with⟨_,_,h⟩|⟨_,rfl⟩
 ·obtain⟨w,g⟩:=c
  have:=h w g;unfold sw at this;generalize(execOp a.eval o).run P w=r at*;cases r with
  |ok n b=>
   cases n<;>simp only[mN]at this
   case value u=>exact⟨_,this.2⟩
   case skip=>exact⟨_,this.2⟩
   case enter f args=>
    obtain⟨e,b,i,⟨v,_,d,_⟩,_⟩:=this.2 [];exact⟨v,d⟩
  |halt x b=>simp only[mN]at this
 ·exact⟨_,rfl⟩
theorem mG{d:Value}(e:eW o=true)(h:o.quietAt P a C w v)(b:o.quietAt P a C w d):v=d:=by
 unfold Oper.quietAt at h b;have c:=ki (P:=P) e a.eval w;generalize(execOp a.eval o).run P w=r at*;cases r with
 |ok n w'=>
  cases n<;>simp only[Oper.quietUpon]at h b
  case value u=>exact h.2.symm.trans b.2
  case skip=>exact h.2.trans b.2.symm
  case enter f args=>exact absurd rfl (c f args w')
 |halt x w'=>simp only[Oper.quietUpon]at h
theorem sv(h:o.quietAt P a C w v):sw P o a C w fun u=>u=v:=by
 unfold Oper.quietAt at h;unfold sw;generalize(execOp a.eval o).run P w=r at*;cases r with
 |ok n w'=>
  cases n<;>simp only[Oper.quietUpon]at h<;>simp only[mN]
  case value u=>exact h
  case skip=>exact⟨h.1,h.2.symm⟩
  case enter f args=>exact⟨h.1,h.2.mono fun e d ⟨b,c⟩=>⟨v,b,rfl,c⟩⟩
 |halt x w'=>simp only[Oper.quietUpon]at h
theorem xu(g:ops[i]? =some o)(h:oo P ops T C i K a):∃S,pD P ops T C o S a/\∀v,S v->K (a.put o.dst v):=by
 unfold oo at h;simp only[g]at h;by_cases b:Region.wanted o (yielded ops a.tmps)=true
 ·simp only[b,if_true]at h
  unfold qE at h;split at h
  ·rename_i e
   exact⟨_, .inl ⟨b, .inl e,h.1⟩,h.2⟩
  ·rename_i e
   obtain⟨f,v,j,k⟩:=h;exact⟨fun u=>u=v, .inl ⟨b, .inr ⟨e,f,v,rfl⟩,fun w d=>sv (j w d)⟩,fun u c=>by rw[c];exact k⟩
 ·simp only[b]at h
  exact⟨fun v=>v=undef, .inr ⟨by simpa using b,rfl⟩,fun u c=>by rw[c];exact h⟩
theorem se(c:eW o=true)(h:sw P o a C w fun u=>u=v):o.quietAt P a C w v:=by
 unfold sw at h;unfold Oper.quietAt;have b:=ki (P:=P) c a.eval w;generalize(execOp a.eval o).run P w=r at*;cases r with
 |ok n w'=>
  cases n<;>simp only[mN]at h<;>simp only[Oper.quietUpon]
  case value u=>exact h
  case skip=>exact⟨h.1,h.2.symm⟩
  case enter f args=>exact absurd rfl (b f args w')
 |halt x w'=>simp only[mN]at h
theorem pD.lq(j:ops[i]? =some o)(k:pD P ops T C o S a){K:Act->Prop}(h:∀v,S v->K (a.put o.dst v)):oo P ops T C i K a:=by
 unfold oo;simp only[j];rcases k with⟨b,g,d⟩|⟨b,rfl⟩
 ·simp only[b,if_true]
  unfold qE;rcases g with e|⟨e,f,v,rfl⟩
  ·simp only[e]
   exact⟨d,h⟩
  ·simp only[e]
   exact⟨f,v,fun w c=>se f (d w c),h v rfl⟩
 ·simp only[b,Bool.false_eq_true,if_false]
  exact h _ rfl
theorem pD.of_same{b:Act}(d:pD P ops T C o S a)(c:execOp b.eval o=execOp a.eval o)
 (e:Region.wanted o (yielded ops b.tmps)=Region.wanted o (yielded ops a.tmps)):pD P ops T C o S b:=by
 unfold pD sw at*;rw[c,e];exact d
theorem Mg{c d:Oper}(B:∃w,C w)(J:ops[j]? =some d)(z:c.apart ops d=true)
 (r:∀cs b,c.op≠ .select cs b) (i:∀cs b,d.op≠ .select cs b) {K:Act->Prop} {a:Act}
 (m:pD P ops T C c S a) (h:∀v,S v->oo P ops T C j K (a.put c.dst v)):
 oo P ops T C j (fun G=>pD P ops T C c S G/\∀v,S v->K (G.put c.dst v)) a:=by
 obtain⟨q,x,F⟩:=Oper.apart_spec z;have mC:∀(a:Act),pD P ops T C c S a->∀u,pD P ops T C c S (a.put d.dst u):=fun a m u=>
  m.of_same (execOp_put c r a d.dst u F) (wanted_put c a d.dst u F)
 obtain⟨p,o⟩:=m.has B;obtain⟨w0,n⟩:=B;unfold oo at*;simp only[J]at*;have f:∀v,S v->if Region.wanted d (yielded ops a.tmps)=true then qE P T C d (a.put c.dst v) K else K ((a.put c.dst v).put d.dst undef):=fun v k=>by
  have:=h v k;rwa [wanted_put d a c.dst v q]at this
 split
 ·rename_i A
  simp only[A,if_true]at f;unfold qE at*;cases E:T d.dst with
  |some S'=>
   simp only[E]at f⊢;refine⟨fun w l=> ?_,fun u t=>⟨mC a m u,fun v k=> ?_⟩⟩
   ·have:=(f p o).1 w l
    unfold sw at*;rwa [execOp_put d i a c.dst p q]at this
   ·rw[<-Act.put_comm a v u x]
    exact(f v k).2 u t
  |none=>
   simp only[E]at f⊢;obtain⟨D,u0,s,H⟩:=f p o;have g:∀w,C w->d.quietAt P a C w u0:=fun w l=>by
    have:=s w l;unfold Oper.quietAt at*;rwa [execOp_put d i a c.dst p q]at this
   refine⟨D,u0,g,mC a m u0,fun v k=> ?_⟩;obtain⟨_,u,t,I⟩:=f v k;have y:d.quietAt P a C w0 u:=by
    have:=t w0 n;unfold Oper.quietAt at*;rwa [execOp_put d i a c.dst v q]at this
   have e:=mG D (g w0 n) y;subst e;rw[<-Act.put_comm a v u0 x];exact I
 ·rename_i A
  simp only[A]at f;exact⟨mC a m _,fun v k=>by rw[<-Act.put_comm a v undef x];exact f v k⟩
theorem wpAnyL_first{r:Oper}(I:∃w,C w)(G:ops[i]? =some r)(l:∀(j:Nat) (o:Oper) cs b,ops[j]? =some o->o.op≠ .select cs b)
 :
 ∀(fuel:Nat) (c:Array Bool) (a:Act),
  (∀j p,ops[j]? =some p->j≠i->c.getD j true=false->(∀e∈p.after,Region.binds md e=true->e.on≠i)->r.apart ops p=true)->
  i∈Region.ready md ops c->pD P ops T C r S a->
  (∀v,S v->wpAnyL P md ops T C Q fuel (c.setIfInBounds i true) (a.put r.dst v))->wpAnyL P md ops T C Q (fuel+1) c a:=by
 intro fuel
 induction fuel with
 |zero=>
  intro c a _ hr y H;refine⟨fun h=>JG,fun j A=> ?_⟩;by_cases d:j=i
  ·subst d;exact y.lq G H
  ·have:=ready_mono A d
   obtain⟨v,D⟩:=y.has I;rw[(H v D).1]at this;cases this
 |succ fuel ih=>
  intro c a f hr y H;refine⟨fun h=>JG,fun j A=> ?_⟩;by_cases d:j=i
  ·subst d;exact y.lq G H
  ·have q:=fun v D=>(H v D).2 j (ready_mono A d)
   obtain⟨m,p,n,z⟩:=mem_ready.1 A;have t:∀e∈p.after,Region.binds md e=true->e.on≠i:=fun e L O heq=>by
    have q:=z e L O;have J:=(mem_ready.1 hr).1;rw[heq]at q;rcases Nat.lt_or_ge i c.size with F|F
    ·simp[F]at J q;rw[J]at q;cases q
    ·simp[Array.getElem?_eq_none F]at q
   have M:=Mg I n (f j p n d m t) (fun cs b=>l i r cs b G) (fun cs b=>l j p cs b n) y q;have g:∀k x,ops[k]? =some x->k≠i->(c.setIfInBounds j true).getD k true=false->
    (∀e∈x.after,Region.binds md e=true->e.on≠i)->r.apart ops x=true:=fun k x N B s E=>by
    refine f k x N B ?_ E;by_cases u:j=k
    ·subst u;exact m
    ·rw[getD_set_ne true u]at s;exact s
   refine JA (fun R K=>ih (c.setIfInBounds j true) R g (ready_mono hr (Ne.symm d)) K.1 ?_) M;rw[Array.setIfInBounds_comm _ _ d];exact K.2
theorem wpAnyL_lex{Q:Act->Prop}(f:∃w,C w)(g:Region.noSelect ops=true):∀(l:List Oper) (k:Nat) (b:Array Bool) (a:Act),(∀j,l[j]? =ops[k+j]?)->
 Region.lexFrom md ops l.length k b=true->kO P ops T C Q l a->wpAnyL P md ops T C Q l.length b a
 |[],_,_,_,_,hB,h=>⟨VF,h⟩
 |o::l,k,b,a,hl,hB,h=>by
  have c:ops[k]? =some o:=by simpa using (hl 0).symm
  simp only[List.length_cons,Region.lexFrom,Bool.and_eq_true]at hB;obtain⟨⟨n,m⟩,e⟩:=hB;have d:oo P ops T C k (kO P ops T C Q l) a:=by unfold oo;simp only[c];exact h
  obtain⟨S,p,hK⟩:=xu c d;exact wpAnyL_first f c (Region.noSelect_spec g) l.length b a (Region.free_spec c m) (by simpa using n) p
   (fun v i=>wpAnyL_lex f g l (k+1) _ _ (fun j=>aaD) e (hK v i))
theorem aG{Q:Exit->Act->World->Prop}{l:List Oper}(T:Option Tmp->Option (Value->Prop))(i:P.follows .mixedOrders=true)(c:Region.lexB .any l.toArray=true)
 (h:kO P l.toArray T (fun b=>∃n:aI w,b=n.1) (fun d=>∀b,(∃n:aI w,b=n.1)->Q .normal d b) l a):(Code.region g l.toArray true).wp P Q a w:=by
 simp only[Region.lexB,Bool.and_eq_true]at c;have f:(fun b=>∃n:aI w,b=n.1) {w with drawn:=w.drawn+1}:=⟨⟨{w with drawn:=w.drawn+1},⟨rfl,rfl,rfl,Nat.le_refl _,fun _ _=>rfl⟩⟩,rfl⟩;refine wp_region_any i (rz (T:=T) (Q:=fun d=>∀b,(∃n:aI w,b=n.1)->Q .normal d b) (fun _ b e h=>h b e) _ _ _ _ f ?_);have:=wpAnyL_lex (md:= .any) ⟨_,f⟩ c.1 l 0 (Array.replicate l.toArray.size false) a aD (by simpa using c.2) h;simpa using this
theorem Rm{T:Option Tmp->Option (Value->Prop)}(hw:Region.wanted o (yielded ops a.tmps)=false)(h:kO P ops T C Q rest (a.put o.dst undef)):kO P ops T C Q (o::rest) a:=by
 unfold kO;rw[if_neg Pn];exact h
theorem du{T:Option Tmp->Option (Value->Prop)}(c:Region.wanted o (yielded ops a.tmps)=true)(d:T o.dst=none)(b:eW o=true)
 (h:∀K:Act->Prop,(∀a,kO P ops T C Q rest a->K a)->o.quiet P a C K):kO P ops T C Q (o::rest) a:=by
 unfold kO;rw[if_pos c];unfold qE;rw[d];exact⟨b,h _ fun _ h=>h⟩
theorem iW{T:Option Tmp->Option (Value->Prop)}(S:Value->Prop)(d:Region.wanted o (yielded ops a.tmps)=true)(e:T o.dst=some S)
 (b:∀w,C w->sw P o a C w S) (c:∀v,S v->kO P ops T C Q rest (a.put o.dst v)):kO P ops T C Q (o::rest) a:=by
 unfold kO;rw[if_pos d];unfold qE;rw[e];exact⟨b,c⟩
theorem lsA{P:Program}{ops:Array Oper}{w0:World}{T:Option Tmp->Option (Value->Prop)}(S:Value->Prop)
 (g:∀c:aI w0,sw P o a (fun b=>∃n:aI w0,b=n.1) c.1 S) (h:∀v,S v->kO P ops T (fun b=>∃n:aI w0,b=n.1) Q rest (a.put o.dst v)) (d:Region.wanted o (yielded ops a.tmps)=true:=by rfl) (f:T o.dst=some S:=by rfl):kO P ops T (fun b=>∃n:aI w0,b=n.1) Q (o::rest) a:=
 iW S d f (fun _ ⟨n,e⟩=>e▸g n) h
end
def SB(v:Value):Prop:=∃b:Bool,v= .bool b
def SI(v:Value):Prop:=∃z:Int,v=ae aj z
def mj(t:Nat)(S:Value->Prop)(d:Option Tmp):Option (Value->Prop):=if d=some t then some S else none
def abg(ms:List (Int×Int))(j:Nat):Int×Int:=ms.getD j (0,0)
def qL(w:World)(B:Nat)(A:aC)(n:Nat)(ms:List (Int×Int)):Prop:=
 ms.length=n/\(0<n->∃a,A=some a/\a.block<B/\∀j,j<n->w.cell? (a.add (j*2))=some (.int .i32 (abg ms j).1)/\w.cell? (a.add (j*2+1))=some (ae aj (abg ms j).2))
section
variable {w w' : World} {B n : Nat} {A : aC} {ms : List (Int × Int)}
theorem qL.below(h:qL w B A n ms)(b:Below B w w'):qL w' B A n ms:=
 ⟨h.1,fun f=>by
  obtain⟨g,e,a,d⟩:=h.2 f;refine⟨g,e,a,fun j c=>⟨?_, ?_⟩⟩
  ·exact(b.cell (by rw[aO];exact a)).trans (d j c).1
  ·exact(b.cell (by rw[aO];exact a)).trans (d j c).2⟩
theorem qL.Z(h:qL w w.heap.size A n ms)(a:aA w w'):qL w' w'.heap.size A n ms:=
 ⟨(h.below a).1,fun b=>by
   obtain⟨f,e,d,c⟩:=(h.below a).2 b;exact⟨f,e,Nat.lt_of_lt_of_le d a.size,c⟩⟩
end
theorem tN{l m:aE}(h:j<l.length):nth (l++m) j=nth l j:=by
 simp[nth,List.getElem?_append_left h]
theorem gz{l:aE}{k:Nat}(h:l.length=k):nth (l++[x]) k=x:=by
 subst h;simp[nth]
theorem tt{l:aE}(h:j<l.length):nth (l.set j x) j=x:=by simp[nth,h]
theorem oB{l:aE}(h:j≠i):nth (l.set j x) i=nth l i:=by simp[nth,List.getElem?_set_ne h]
theorem iK{cs:aE}{k:Nat}(h:k<cs.length):cs.drop k=nth cs k::cs.drop (k+1):=by
 rw[List.drop_eq_getElem_cons h,dQ h]
def fP(c:Int):Bool:=c==20||c==21||c==22
def XU(c:Int):Bool:=c==1||c==2||c==3
def lx(cs:aE):Nat->aE×List Nat
 |0=>([],[])
 |k+1=>
  if fP (nth cs k)then((lx cs k).1++[-1],k::(lx cs k).2)
  else if nth cs k==11 then((lx cs k).1++[-1],[])
  else if nth cs k==23 then
   match(lx cs k).2 with
   |[]=>((lx cs k).1++[-1],[])
   |j::s=>(((lx cs k).1++[(j:Int)]).set j k,s)
  else((lx cs k).1++[-1],(lx cs k).2)
def p':aE->Nat->Int
 |[],_=>0
 |c::r,0=>if XU c then c else if c==11 then 0 else if fP c then p' r 1 else p' r 0
 |c::r,d+1=>if c==11 then 0 else if fP c then p' r (d+2)else if c==23 then p' r d else p' r (d+1)
theorem abJ{cs:aE}{k:Nat}(h:k<cs.length)(a:nth cs k=11)(d:Nat):p' (cs.drop k) d=0:=by
 rw[iK h,a];cases d<;>simp[p',XU]
theorem Ls{cs:aE}{k:Nat}(h:k<cs.length)(a:fP (nth cs k)=true)(d:Nat):p' (cs.drop k) d=p' (cs.drop (k+1)) (d+1):=by
 rw[iK h];have:nth cs k=20∨nth cs k=21∨nth cs k=22:=by simpa[fP,or_assoc]using a
 rcases this with e|e|e<;>rw[e]<;>cases d<;>simp[p',XU,fP]
theorem FD{cs:aE}{k:Nat}(h:k<cs.length)(a:nth cs k=23)(d:Nat):p' (cs.drop k) (d+1)=p' (cs.drop (k+1)) d:=by
 rw[iK h,a];simp[p',fP]
theorem Ko{cs:aE}{k:Nat}(h:k<cs.length)(b:fP (nth cs k)=false)(c:nth cs k≠11)(a:nth cs k≠23)(d:Nat):p' (cs.drop k) (d+1)=p' (cs.drop (k+1)) (d+1):=by
 rw[iK h];simp[p',b,c,a]
theorem Rh{cs:aE}{k:Nat}(h:cs.length<=k)(d:Nat):p' (cs.drop k) d=0:=by
 rw[List.drop_of_length_le h];rfl
structure mz(cs:aE)(k:Nat)(o:aE)(s:List Nat):Prop where
 len:o.length=k
 st:∀j∈s,j<k/\fP (nth cs j)=true/\nth o j= -1
 Ya:s.Pairwise (·> ·)
 pair:∀i,i<k->nth o i= -1∨∃q:Nat,q<k/\nth o i=q/\nth o q=i/\q≠i
 fwd:∀i q:Nat,i<q->q<k->nth o i=q->fP (nth cs i)=true/\nth cs q=23/\
  (∀j,i<j->j<q->nth cs j≠11/\(nth o j≠-1->(i:Int)<nth o j/\nth o j<q)/\(nth o j= -1->nth cs j≠23))/\
  ∀e,p' (cs.drop (i+1)) (e+1)=p' (cs.drop (q+1)) e
 R8:∀a i b,s=a++i::b->(∀j,i<j->j<k->nth cs j≠11/\(nth o j≠-1->(i:Int)<nth o j)/\(nth o j= -1->nth cs j≠23))/\
  ∀e,p' (cs.drop (i+1)) (e+1)=p' (cs.drop k) (e+1+a.length)
 dead:∀i,i<k->fP (nth cs i)=true->nth o i= -1->i∈s∨∀e,p' (cs.drop (i+1)) (e+1)=0
section
variable {cs : aE} {k : Nat} {o : aE} {s : List Nat}
theorem mz.lo(h:mz cs k o s){x:Int}{j:Nat}(hj:j<k):nth (o++[x]) j=nth o j:=tN Hl
theorem mz.Oc(h:mz cs k o s):∀i,i<k+1->nth (o++[-1]) i= -1∨∃q:Nat,q<k+1/\nth (o++[-1]) i=q/\nth (o++[-1]) q=i/\q≠i:=by
 intro i f;rcases Nat.lt_or_ge i k with a|a
 ·rw[h.lo a]
  rcases h.pair i a with b|⟨q,b,d,c,e⟩
  ·exact .inl b
  ·exact .inr ⟨q,aq,d,by rw[h.lo b];exact c,e⟩
 ·obtain rfl:i=k:=by omega
  exact .inl (gz h.len)
theorem mz.Ye(h:mz cs k o s):∀i q:Nat,i<q->q<k+1->nth (o++[-1]) i=q->fP (nth cs i)=true/\nth cs q=23/\
 (∀j,i<j->j<q->nth cs j≠11/\(nth (o++[-1]) j≠-1->(i:Int)<nth (o++[-1]) j/\nth (o++[-1]) j<q)/\(nth (o++[-1]) j= -1->nth cs j≠23))/\
 ∀e,p' (cs.drop (i+1)) (e+1)=p' (cs.drop (q+1)) e:=by
 intro i q l u c;rw[h.lo aq]at c;have m:q<k:=by
  rcases h.pair i aq with p|⟨t,p,r,_⟩
  ·omega
  ·omega
 obtain⟨n,d,f,g⟩:=h.fwd i q l m c;refine⟨n,d,fun j a b=> ?_,g⟩;rw[h.lo aq];exact f j a b
theorem Ip(h:mz cs k o s)(r:k<cs.length)(g:fP (nth cs k)=true):mz cs (k+1) (o++[-1]) (k::s) where
 len:=rQ
 st:=by
  intro j p;rcases List.mem_cons.1 p with rfl|p
  ·exact⟨aq,g,gz h.len⟩
  ·obtain⟨m,f,n⟩:=h.st j p
   exact⟨aq,f,by rw[h.lo m];exact n⟩
 Ya:=List.pairwise_cons.2 ⟨fun j p=>(h.st j p).1,h.Ya⟩
 pair:=h.Oc
 fwd:=h.Ye
 R8:=by
  intro a i b l;cases a with
  |nil=>
   simp only[List.nil_append,List.cons.injEq]at l;obtain⟨rfl,rfl⟩:=l;refine⟨fun j m f=>by omega,fun e=> ?_⟩;simp
  |cons a0 a=>
   simp only[List.cons_append,List.cons.injEq]at l;obtain⟨rfl,l⟩:=l;obtain⟨m,f⟩:=h.R8 a i b l;refine⟨fun j q t=> ?_,fun e=> ?_⟩
   ·rcases Nat.lt_or_ge j k with d|d
    ·rw[h.lo d];exact m j q d
    ·obtain rfl:j=k:=by omega
     rw[gz h.len];refine⟨fun e=> ?_,fun e=>absurd rfl e,fun _ e=> ?_⟩
     ·rw[e]at g;simp[fP]at g
     ·rw[e]at g;simp[fP]at g
   ·rw[f,Ls r g];rfl
 dead:=by
  intro i u m f;rcases Nat.lt_or_ge i k with c|c
  ·rw[h.lo c]at f
   rcases h.dead i c m f with n|n
   ·exact .inl (List.mem_cons_of_mem _ n)
   ·exact .inr n
  ·obtain rfl:i=k:=by omega
   exact .inl (List.mem_cons_self ..)
theorem YW(h:mz cs k o s)(m:k<cs.length)(j:nth cs k=11):mz cs (k+1) (o++[-1]) [] where
 len:=rQ
 st:=aD
 Ya:=List.Pairwise.nil
 pair:=h.Oc
 fwd:=h.Ye
 R8:=by intro a i b g;simp at g
 dead:=by
  intro i n f l;rcases Nat.lt_or_ge i k with c|c
  ·rw[h.lo c]at l
   rcases h.dead i c f l with d|d
   ·obtain⟨a,b,g⟩:=List.append_of_mem d
    refine .inr fun e=> ?_;rw[(h.R8 a i b g).2,abJ m j]
   ·exact .inr d
  ·obtain rfl:i=k:=by omega
   rw[j]at f;simp[fP]at f
theorem vw(h:mz cs k o s)(v:k<cs.length)(r:fP (nth cs k)=false)(m:nth cs k≠11)(c:nth cs k≠23∨s=[]):mz cs (k+1) (o++[-1]) s where
 len:=rQ
 st:=by
  intro j u;obtain⟨g,l,t⟩:=h.st j u;exact⟨aq,l,by rw[h.lo g];exact t⟩
 Ya:=h.Ya
 pair:=h.Oc
 fwd:=h.Ye
 R8:=by
  intro a i b n;obtain⟨g,l⟩:=h.R8 a i b n;have c:nth cs k≠23:=by
   rcases c with p|p
   ·exact p
   ·rw[p]at n;simp at n
  refine⟨fun j q w=> ?_,fun e=> ?_⟩
  ·rcases Nat.lt_or_ge j k with f|f
   ·rw[h.lo f];exact g j q f
   ·obtain rfl:j=k:=by omega
    rw[gz h.len];exact⟨m,fun e=>absurd rfl e,fun _=>c⟩
  ·rw[l,show e+1+a.length=(e+a.length)+1 by omega,Ko v r m c]
 dead:=by
  intro i x g l;rcases Nat.lt_or_ge i k with d|d
  ·rw[h.lo d]at l
   exact h.dead i d g l
  ·obtain rfl:i=k:=by omega
   rw[r]at g;cases g
theorem Mz{t:Nat}(h:mz cs k o (t::s))(K:k<cs.length)(D:nth cs k=23):mz cs (k+1) ((o++[(t:Int)]).set t k) s:=by
 obtain⟨P,y,G⟩:=h.st t (List.mem_cons_self ..);have hlen:(o++[(t:Int)]).length=k+1:=rQ;have p:nth ((o++[(t:Int)]).set t k) t=k:=tt aq;have A:nth ((o++[(t:Int)]).set t k) k=t:=by rw[oB (by omega),gz h.len]
 have f:∀j,j<k->j≠t->nth ((o++[(t:Int)]).set t k) j=nth o j:=fun j l r=>by rw[oB aq,h.lo l]
 have v:=h.R8 [] t s rfl;have u:=List.pairwise_cons.1 h.Ya;refine⟨rQ, ?_,u.2, ?_, ?_, ?_, ?_⟩
 ·intro j L
  obtain⟨l,r,m⟩:=h.st j (List.mem_cons_of_mem _ L);have:=u.1 j L;exact⟨aq,r,by rw[f j l (by omega)];exact m⟩
 ·intro i V
  by_cases d:i=t
  ·subst d;exact .inr ⟨k,aq,p,A,aq⟩
  ·rcases Nat.lt_or_ge i k with c|c
   ·rw[f i c d]
    rcases h.pair i c with l|⟨q,l,r,m,n⟩
    ·exact .inl l
    ·have E:q≠t:=by
      rintro rfl;rw[G]at m;omega
     exact .inr ⟨q,aq,r,by rw[f q l E];exact m,n⟩
   ·obtain rfl:i=k:=by omega
    exact .inr ⟨t,aq,A,p,aq⟩
 ·intro i q l r m
  by_cases d:i=t
  ·subst d
   rw[p]at m;obtain rfl:q=k:=aq;refine⟨y,D,fun j w g=> ?_,fun e=> ?_⟩
   ·rw[f j g aq]
    obtain⟨N,Q,W⟩:=v.1 j w g;refine⟨N,fun C=>⟨Q C, ?_⟩,W⟩;rcases h.pair j g with n|⟨q,n,H,_⟩
    ·exact absurd n C
    ·omega
   ·rw[v.2]
    exact FD K D e
  ·have c:i<k:=by
    omega
   rw[f i c d]at m;have B:q<k:=by
    rcases h.pair i c with n|⟨J,n,H,_⟩
    ·omega
    ·omega
   obtain⟨U,O,R,S⟩:=h.fwd i q l B m;refine⟨U,O,fun j w g=> ?_,S⟩;have x:j≠t:=by
    rintro rfl;have F:nth o q=i:=by
     rcases h.pair i c with n|⟨J,n,H,T,_⟩
     ·omega
     ·obtain rfl:q=J:=by omega
      exact T
    have:=(v.1 q g B).2.1 (by rw[F];omega);omega
   rw[f j aq x];exact R j w g
 ·intro a i b I
  obtain⟨l,r⟩:=h.R8 (t::a) i b (by rw[I];rfl);have M:i<t:=u.1 i (by rw[I];simp);refine⟨fun j w g=> ?_,fun e=> ?_⟩
  ·by_cases x:j=t
   ·subst x
    rw[p];refine⟨fun e=> ?_,fun _=>by omega,fun e=>by omega⟩;rw[e]at y;simp[fP]at y
   ·rcases Nat.lt_or_ge j k with z|z
    ·rw[f j z x];exact l j w z
    ·obtain rfl:j=k:=by omega
     rw[A];exact⟨aq,fun _=>by omega,fun e=>by omega⟩
  ·rw[r,List.length_cons,show e+1+(a.length+1)=(e+1+a.length)+1 by omega,FD K D]
 ·intro i V l r
  by_cases d:i=t
  ·subst d;rw[p]at r;omega
  ·rcases Nat.lt_or_ge i k with c|c
   ·rw[f i c d]at r
    rcases h.dead i c l r with m|m
    ·rcases List.mem_cons.1 m with n|n
     ·exact absurd n d
     ·exact .inl n
    ·exact .inr m
   ·obtain rfl:i=k:=by omega
    rw[D]at l;simp[fP]at l
end
theorem wM:∀(s:List Nat) (k:Nat),s.Pairwise (·> ·)->(∀j∈s,j<k)->s.length<=k
 |[],_,_,_=>Nat.zero_le _
 |j::s,k,h1,h2=>by
  have a:=List.pairwise_cons.1 h1;have d:=wM s j a.2 fun i b=>a.1 i b
  have c:=h2 j (List.mem_cons_self ..);simp only[List.length_cons];omega
theorem mz.Lx{cs:aE}{k:Nat}{o:aE}{s:List Nat}(h:mz cs k o s):s.length<=k:=wM s k h.Ya fun j a=>(h.st j a).1
theorem zl{cs:aE}{k:Nat}(h:fP (nth cs k)=true):lx cs (k+1)=((lx cs k).1++[-1],k::(lx cs k).2):=by simp[lx,h]
theorem WU{cs:aE}{k:Nat}(h:nth cs k=11):lx cs (k+1)=((lx cs k).1++[-1],[]):=by simp[lx,h,fP]
theorem GV{cs:aE}{k:Nat}{s:List Nat}(h:nth cs k=23)(a:(lx cs k).2=j::s):lx cs (k+1)=(((lx cs k).1++[(j:Int)]).set j k,s):=by simp[lx,h,fP,a]
theorem Bd{cs:aE}{k:Nat}(h:nth cs k=23)(a:(lx cs k).2=[]):lx cs (k+1)=((lx cs k).1++[-1],[]):=by simp[lx,h,fP,a]
theorem zS{cs:aE}{k:Nat}(h:fP (nth cs k)=false)(a:nth cs k≠11)(b:nth cs k≠23):lx cs (k+1)=((lx cs k).1++[-1],(lx cs k).2):=by simp[lx,h,a,b]
theorem Yk(cs:aE):∀k,k<=cs.length->mz cs k (lx cs k).1 (lx cs k).2
 |0,_=>⟨rfl,by simp[lx],List.Pairwise.nil,fun i h=>by omega,fun i q c d=>by omega,fun a i b h=>by simp[lx]at h,fun i h=>by omega⟩
 |k+1,e=>by
  have ih:=Yk cs k aq;have e:k<cs.length:=aq;by_cases c:fP (nth cs k)=true
  ·rw[zl c];exact Ip ih e c
  ·simp only[Bool.not_eq_true]at c
   by_cases d:nth cs k=11
   ·rw[WU d];exact YW ih e d
   ·by_cases f:nth cs k=23
    ·cases g:(lx cs k).2 with
     |nil=>
      rw[Bd f g];rw[g]at ih;exact vw ih e c d (.inr rfl)
     |cons j s=>
      rw[GV f g];rw[g]at ih;exact Mz ih e f
    ·rw[zS c d f]
     exact vw ih e c d (.inl f)
def mg(cs:aE):aE:=(lx cs cs.length).1
theorem yo{cs:aE}(g:i<cs.length)(f:fP (nth cs i)=true):
 (nth (mg cs) i= -1/\∀e,p' (cs.drop (i+1)) (e+1)=0)∨∃q:Nat,i<q/\q<cs.length/\nth (mg cs) i=q/\nth cs q=23/\∀e,p' (cs.drop (i+1)) (e+1)=p' (cs.drop (q+1)) e:=by
 have h:=Yk cs _ cr;rcases h.pair i g with c|⟨q,c,l,p,t⟩
 ·refine .inl ⟨c, ?_⟩
  rcases h.dead i g f c with d|d
  ·obtain⟨a,b,m⟩:=List.append_of_mem d
   intro e;rw[(h.R8 a i b m).2,Rh cr]
  ·exact d
 ·rcases Nat.lt_or_ge i q with j|j
  ·obtain⟨_,n,_,r⟩:=h.fwd i q j c l
   exact .inr ⟨q,j,c,l,n,r⟩
  ·have:=(h.fwd q i aq g p).2.1
   rw[this]at f;simp[fP]at f
end Go.Proofs.YtpidckelbgbbkaaGreatDoor
