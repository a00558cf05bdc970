/- Part of LineBoxes. -/
import Derived.Test.YtpidckelbgbbkaaGreatDoorAe
import Derived.Maps.AppendAt
namespace Go.Proofs.YtpidckelbgbbkaaGreatDoor
open Go.ChangeShapes Go.WideShapes Go.ChangeAt Go.RowKit
open Go.Value renaming int → ae
open Go.IntKind renaming i64 → aj
set_option linter.all false
set_option maxRecDepth 100000
set_option maxHeartbeats 16000000
variable{bytes g:Nat}{P:Program}{t:TypeId}{ops:Array Oper}{o:Oper}{a:Act}{Q:Exit->Act->World->Prop}
def bO(A C:aC):Prop:=∀g:Nat,A=some ⟨g,0,none⟩->C≠some ⟨g,0,none⟩
theorem bO.symm{A C:aC}(h:bO A C):bO C A:=fun g a b=>h g b a
theorem ud(A:aC):bO A none:=fun g _ h=>by cases h
theorem iF(A:aC):bO none A:=fun g h=>by cases h
section
variable {w w' : World} {B n c : Nat} {e : TypeId} {size : Nat} {A C : aC} {vs : List Value} {k : IntKind} {xs : aE}
theorem aB.kept{m d:Nat}(h:aB w B e size A n c vs)(j:w.grownBy w' (Value.slice C m d).ownBlock)(l:bO A C)(f:C=none∨∃g,C=some ⟨g,0,none⟩):aB w' B e size A n c vs:=by
 rcases h.2 with o|⟨g,cap,cur,a,i,b,r⟩
 ·exact⟨h.1, .inl o⟩
 ·refine⟨h.1, .inr ⟨g,cap,cur,a,i, ?_,r⟩⟩
  rw[j.block g (Array.getElem?_eq_some_iff.1 b).1 ?_]
  ·exact b
  ·rcases f with rfl|⟨p,rfl⟩
   ·simp[Value.ownBlock]
   ·injection a with h1
    have:=l g h1;simp only[Value.ownBlock];intro e;injection e with e
    subst e;exact this rfl
theorem aB.dN(h:aB w B e size A n c vs):A=none∨∃g,A=some ⟨g,0,none⟩:=by
 rcases h.2 with⟨a,_⟩|⟨g,cap,cur,a,_⟩
 ·injection a with h1;exact .inl h1
 ·injection a with h1;exact .inr ⟨g,h1⟩
theorem aB.sY(h:aB w B e size (some ⟨g,0,none⟩) n c vs):B<=g/\g<w.heap.size:=by
 rcases h.2 with⟨a,_⟩|⟨f,cap,cur,a,d,b,r⟩
 ·cases a
 ·injection a with h1
  injection h1 with h1
  injection h1 with h1
  subst h1;exact⟨d,(Array.getElem?_eq_some_iff.1 b).1⟩
theorem mQ0{G:Prop}(s:G:=by
 intro g' h1 h2;subst h1;injection h2 with h2
 injection h2 with h2
 have:=h.sY;omega):G:=s
theorem aB.jy(h:aB w B e size A n c vs){g:Nat}(a:w.heap.size<=g):bO A (some ⟨g,0,none⟩):=by
 exact mQ0
theorem aB.mE{j:Nat}(h:aB w B e size A n c vs)(i:bO A (some ⟨g,0,none⟩))(u:Value):aB (w.setCell ⟨g,j,none⟩ u) B e size A n c vs:=by
 rcases h.2 with l|⟨a,cap,cur,b,f,d,r⟩
 ·exact⟨h.1, .inl l⟩
 ·refine⟨h.1, .inr ⟨a,cap,cur,b,f, ?_,r⟩⟩
  rw[Below.heap_setCell w ⟨g,j,none⟩ u a ?_]
  ·exact d
  ·injection b with h1
   have:=i a h1;simp only;intro e;subst e;exact this rfl
theorem aB.nW(h:aB w B e size A n c vs)(a:g<B):bO A (some ⟨g,0,none⟩):=by
 exact mQ0
theorem Own.kept{m d:Nat}(h:Own w B e k A n c xs)(a:w.grownBy w' (Value.slice C m d).ownBlock)(f:bO A C)(b:C=none∨∃g,C=some ⟨g,0,none⟩):Own w' B e k A n c xs:=aB.kept h a f b
theorem Own.mE{j:Nat}(h:Own w B e k A n c xs)(a:bO A (some ⟨g,0,none⟩))(u:Value):Own (w.setCell ⟨g,j,none⟩ u) B e k A n c xs:=aB.mE h a u
theorem UI(T:aS P t e 1 bytes){xs:aE}{x:Int}(h:Own w B e k A (n+1) c (xs++[x]))(l:Int)(d:l=n):
 (∀a:World,(Instr.slice t (.slice A (n+1) c) none (some (ae aj l)) none).run P a= .ok (.slice A n c) a)/\Own w B e k A n c xs:=by
 subst d;have hle:=aB.le h;have hlen:=h.len;obtain⟨g,q,j,p⟩:=aB.form h aq;subst q;refine⟨fun a=> ?_, ?_⟩
 ·rw[run_slice_h a t _ _ _ (cP T) .i64 n aq aq,cQ T]
  have i:¬c=0:=aq;simp[Result.andThen,sliced,i,Addr.add]
 ·rcases h.2 with⟨b,v⟩|⟨u,cap,cur,b,f,m,y,r,o,s⟩
  ·cases b
  ·injection b with e1 e2 e3
   refine⟨by simp at hlen⊢;omega, .inr ⟨u,cap,cur,by rw[e1,e3],f,m,aq,r,o, ?_⟩⟩;have:=congrArg (List.take n) s;rw[List.take_take]at this;simp only[Nat.mul_one]at this⊢;rw[show min n (n+1)=n by omega]at this;rw[this,List.map_append];have d:(xs.map (Value.int k)).length=n:=by simp at hlen⊢;omega
   rw[List.take_append_of_le_length aq,List.take_of_length_le aq]
end
theorem bk{w:World}{rest:List Oper}{e:TypeId}{size:Nat}(T:aS P t e size bytes)(v:o.guard=none)(s x:Operand)
 (M:o.op= .call {callee:= .builtin .append,args:= #[s,x],argTypes:= #[t,t]}) {B:Nat} {A:aC} {n c:Nat} {vs:List Value} (J:a.eval s= .slice A n c) (d:aB w B e size A n c vs)
 {g:Nat} (K:a.eval x= .slice (some ⟨g,0,none⟩) 1 1) {news:List Value} (U:news.length=size) (hc:∀j u,news[j]? =some u->w.cell? ⟨g,j,none⟩=some u) (R:∀u∈news,u.oneCell'=true)
 (L:(n+1)*bytes<=140737488355328) (H:B<=w.heap.size)
 (h:∀p c' w',aB w' B e size p (n+1) c' (vs++news)->Below B w w'->w.grownBy w' (Value.slice A n c).ownBlock->(∀g,p=some ⟨g,0,none⟩->A=some ⟨g,0,none⟩∨w.heap.size<=g)->wpList P ops Q rest (a.put o.dst (.slice p (n+1) c')) w'):wpList P ops Q (o::rest) a w:=by
 obtain⟨i,z,N,I,q,D,E⟩:=T.info;have r:=T.zG;have O:n+1<=140737488355328:=by
  have f:(n+1)*1<=(n+1)*bytes:=Nat.mul_le_mul_left _ r;omega
 refine wpList_append_own_at w v s x t M B e i z size bytes T.ht N I q D E T.pos (.slice A n c) n vs J d ⟨g,0,none⟩ 1 1 news K aq (fun j u hu=>VZ) R pN L H ?_;intro X w' b F _ m;have y:=aB.dq d F H;rcases b.2 with⟨G,V⟩|⟨W,cap,cur,G,_⟩
 ·omega
 ·subst G
  refine h _ _ w' b y F fun S l=> ?_;injection l with l
  injection l with l
  subst l;rcases m with f|f
  ·rcases aB.dN d with rfl|⟨g2,rfl⟩
   ·simp[Value.ownBlock]at f
   ·simp[Value.ownBlock]at f;subst f;exact .inl rfl
  ·simp[Value.ownBlock]at f;exact .inr aq
theorem a7{w:World}{rest:List Oper}{e:TypeId}(T:aS P t e 1 bytes)(i:o.guard=none)(s x:Operand)
 (v:o.op= .call {callee:= .builtin .append,args:= #[s,x],argTypes:= #[t,t]}) {B:Nat} {k:IntKind} {A:aC} {n c:Nat} {xs:aE} (m:a.eval s= .slice A n c) (f:Own w B e k A n c xs)
 {g:Nat} (p:a.eval x= .slice (some ⟨g,0,none⟩) 1 1) {y:Int} (l:w.cell? ⟨g,0,none⟩=some (.int k y))
 (r:(n+1)*bytes<=140737488355328) (E:B<=w.heap.size)
 (h:∀d c' w',Own w' B e k d (n+1) c' (xs++[y])->Below B w w'->w.grownBy w' (Value.slice A n c).ownBlock->(∀g,d=some ⟨g,0,none⟩->A=some ⟨g,0,none⟩∨w.heap.size<=g)->wpList P ops Q rest (a.put o.dst (.slice d (n+1) c')) w'):wpList P ops Q (o::rest) a w:=by
 refine bk T i s x v m f p (news:=[.int k y]) rfl (fun j u b=> ?_) (fun u b=> ?_) r E fun d c' w' D q z F=>h d c' w' ?_ q z F
 ·match j with
  |0=>simp at b;subst b;exact l
  |j+1=>simp at b
 ·simp at b;subst b;rfl
 ·unfold Own;rw[List.map_append];exact D
theorem Db{w:World}{K:Act->World->Prop}{E:Prop}{e:TypeId}{size:Nat}(T:aS P t e size bytes)(m:o.guard=none)(s x:Operand)
 (M:o.op= .call {callee:= .builtin .append,args:= #[s,x],argTypes:= #[t,t]}) {B:Nat} {A:aC} {n c:Nat} {vs:List Value} (G:a.eval s= .slice A n c) (d:aB w B e size A n c vs)
 {g:Nat} (I:a.eval x= .slice (some ⟨g,0,none⟩) 1 1) {news:List Value} (U:news.length=size) (hc:∀j u,news[j]? =some u->w.cell? ⟨g,j,none⟩=some u) (R:∀u∈news,u.oneCell'=true)
 (J:(n+1)*bytes<=140737488355328) (D:B<=w.heap.size)
 (h:∀v c' w',aB w' B e size v (n+1) c' (vs++news)->Below B w w'->K (a.put o.dst (.slice v (n+1) c')) w'):
 if Region.wanted o (yielded ops a.tmps)=true then Oper.wp P o a w K Q else E:=by
 have L:Region.wanted o (yielded ops a.tmps)=true:=by simp[Region.wanted,m]
 rw[if_pos L];obtain⟨i,z,N,F,f,q,r⟩:=T.info;have l:=T.zG;have O:n+1<=140737488355328:=by
  have S:(n+1)*1<=(n+1)*bytes:=Nat.mul_le_mul_left _ l;omega
 refine wp_append_own w s x t M B e i z size bytes T.ht N F f q r T.pos (.slice A n c) n vs G d ⟨g,0,none⟩ 1 1 news I aq (fun j u hu=>VZ) R pN J D ?_;intro X w' b H _;have p:=aB.dq d H D;rcases b.2 with⟨y,V⟩|⟨W,cap,cur,y,_⟩
 ·omega
 ·subst y
  exact h _ _ w' b p
theorem bO.grow{A a C:aC}{w:World}(h:bO A C)(f:∀g,C=some ⟨g,0,none⟩->g<w.heap.size)(i:∀g,a=some ⟨g,0,none⟩->A=some ⟨g,0,none⟩∨w.heap.size<=g):bO a C:=by
 intro g j d;rcases i g j with b|b
 ·exact h g b d
 ·have:=f g d;omega
end Go.Proofs.YtpidckelbgbbkaaGreatDoor
