/- Part of LineCovers. -/
import Derived.Test.YtklncadpkniojaaGreatDoorAf
import Derived.Maps.AppendAt
namespace Go.Proofs.YtklncadpkniojaaGreatDoor
open Go.ChangeShapes Go.WideShapes Go.ChangeAt Go.RowKit
open Go renaming World->ahh,Value->ahj,TypeId->ahm,Program->aho
open Go.RowKit renaming Below->ahi
open Go.Value renaming int->ae
open Go.IntKind renaming i64->aj
set_option linter.all false
set_option maxRecDepth 100000
set_option maxHeartbeats 16000000
variable{bytes g:Nat}{P:aho}{t:ahm}{ops:Array Oper}{o:Oper}{a:Act}{Q:Exit->Act->ahh->Prop}
def bM(A C:aA):Prop:=∀g:Nat,A=some ⟨g,0,none⟩->C≠some ⟨g,0,none⟩
theorem bM.symm{A C:aA}(h:bM A C):bM C A:=fun g a b=>h g b a
theorem tN(A:aA):bM A none:=fun g _ h=>by cases h
theorem lX(A:aA):bM none A:=fun g h=>by cases h
section
variable{w w':ahh}{B n c:Nat}{e:ahm}{size:Nat}{A C:aA}{vs:List ahj}{k:IntKind}{xs:aC}
theorem aw.kept{m d:Nat}(h:aw w B e size A n c vs)(f:w.grownBy w' (Value.slice C m d).ownBlock)(i:bM A C)(l:C=none∨∃g,C=some ⟨g,0,none⟩):aw w' B e size A n c vs:=by
 rcases h.2 with o|⟨g,cap,cur,b,j,a,r⟩
 .exact⟨h.1,.inl o⟩
 .refine⟨h.1,.inr ⟨g,cap,cur,b,j, ?_,r⟩⟩
  rw[f.block g (Array.getElem?_eq_some_iff.1 a).1 ?_]
  .exact a
  .rcases l with rfl|⟨p,rfl⟩
   .simp[Value.ownBlock]
   .injection b with h1
    have:=i g h1;simp only[Value.ownBlock];intro e;injection e with e
    subst e;exact this rfl
theorem aw.dK(h:aw w B e size A n c vs):A=none∨∃g,A=some ⟨g,0,none⟩:=by
 rcases h.2 with⟨a,_⟩|⟨g,cap,cur,a,_⟩
 .injection a with h1;exact .inl h1
 .injection a with h1;exact .inr ⟨g,h1⟩
theorem aw.xD(h:aw w B e size (some ⟨g,0,none⟩) n c vs):B<=g/\g<w.heap.size:=by
 rcases h.2 with⟨a,_⟩|⟨f,cap,cur,a,d,b,r⟩
 .cases a
 .injection a with h1
  injection h1 with h1
  injection h1 with h1
  subst h1;exact⟨d,(Array.getElem?_eq_some_iff.1 b).1⟩
theorem mQ0{G:Prop}(s:G:=by
 intro g' h1 h2;subst h1;injection h2 with h2
 injection h2 with h2
 have:=h.xD;omega):G:=s
theorem aw.gA(h:aw w B e size A n c vs){g:Nat}(a:w.heap.size<=g):bM A (some ⟨g,0,none⟩):=by
 exact mQ0
theorem aw.mu{j:Nat}(h:aw w B e size A n c vs)(d:bM A (some ⟨g,0,none⟩))(u:ahj):aw (w.setCell ⟨g,j,none⟩ u) B e size A n c vs:=by
 rcases h.2 with l|⟨a,cap,cur,b,i,f,r⟩
 .exact⟨h.1,.inl l⟩
 .refine⟨h.1,.inr ⟨a,cap,cur,b,i, ?_,r⟩⟩
  rw[Below.heap_setCell w ⟨g,j,none⟩ u a ?_]
  .exact f
  .injection b with h1
   have:=d a h1;simp only;intro e;subst e;exact this rfl
theorem aw.oB(h:aw w B e size A n c vs)(a:g<B):bM A (some ⟨g,0,none⟩):=by
 exact mQ0
theorem Own.kept{m d:Nat}(h:Own w B e k A n c xs)(a:w.grownBy w' (Value.slice C m d).ownBlock)(b:bM A C)(f:C=none∨∃g,C=some ⟨g,0,none⟩):Own w' B e k A n c xs:=aw.kept h a b f
theorem Own.mu{j:Nat}(h:Own w B e k A n c xs)(a:bM A (some ⟨g,0,none⟩))(u:ahj):Own (w.setCell ⟨g,j,none⟩ u) B e k A n c xs:=aw.mu h a u
theorem VW(T:aR P t e 1 bytes){xs:aC}{x:Int}(h:Own w B e k A (n+1) c (xs++[x]))(l:Int)(d:l=n):
 (∀a:ahh,(Instr.slice t (.slice A (n+1) c) none (some (ae aj l)) none).run P a=.ok (.slice A n c) a)/\Own w B e k A n c xs:=by
 subst d;have hle:=aw.le h;have hlen:=h.len;obtain⟨g,q,o,s⟩:=aw.form h ak;subst q;refine⟨fun a=> ?_, ?_⟩
 .rw[run_slice_h a t _ _ _ (cQ T) .i64 n ak ak,cO T]
  have p:¬c=0:=ak;simp[Result.andThen,sliced,p,Addr.add]
 .rcases h.2 with⟨b,y⟩|⟨u,cap,cur,b,j,f,v,r,i,m⟩
  .cases b
  .injection b with e1 e2 e3
   refine⟨by simp at hlen⊢;omega,.inr ⟨u,cap,cur,by rw[e1,e3],j,f,ak,r,i, ?_⟩⟩;have:=congrArg (List.take n) m;rw[List.take_take]at this;simp only[Nat.mul_one]at this⊢;rw[show min n (n+1)=n by omega]at this;rw[this,List.map_append];have d:(xs.map (Value.int k)).length=n:=by simp at hlen⊢;omega
   rw[List.take_append_of_le_length ak,List.take_of_length_le ak]
end
theorem br{w:ahh}{rest:List Oper}{e:ahm}{size:Nat}(T:aR P t e size bytes)(q:o.guard=none)(s x:Operand)
 (N:o.op=.call {callee:=.builtin .append,args:=#[s,x],argTypes:=#[t,t]}) {B:Nat} {A:aA} {n c:Nat} {vs:List ahj} (I:a.eval s=.slice A n c) (b:aw w B e size A n c vs)
 {g:Nat} (K:a.eval x=.slice (some ⟨g,0,none⟩) 1 1) {news:List ahj} (S:news.length=size) (hc:∀j u,news[j]? =some u->w.cell? ⟨g,j,none⟩=some u) (O:∀u∈news,u.oneCell'=true)
 (R:(n+1)*bytes<=140737488355328) (H:B<=w.heap.size)
 (h:∀E c' w',aw w' B e size E (n+1) c' (vs++news)->ahi B w w'->w.grownBy w' (Value.slice A n c).ownBlock->(∀g,E=some ⟨g,0,none⟩->A=some ⟨g,0,none⟩∨w.heap.size<=g)->wpList P ops Q rest (a.put o.dst (.slice E (n+1) c')) w'):wpList P ops Q (o::rest) a w:=by
 obtain⟨i,z,L,J,D,p,y⟩:=T.info;have r:=T.yY;have M:n+1<=140737488355328:=by
  have f:(n+1)*1<=(n+1)*bytes:=Nat.mul_le_mul_left _ r;omega
 refine wpList_append_own_at w q s x t N B e i z size bytes T.ht L J D p y T.pos (.slice A n c) n vs I b ⟨g,0,none⟩ 1 1 news K ak (fun j u hu=>WS) O qT R H ?_;intro V w' d F _ m;have v:=aw.dm b F H;rcases d.2 with⟨G,U⟩|⟨X,cap,cur,G,_⟩
 .omega
 .subst G
  refine h _ _ w' d v F fun W l=> ?_;injection l with l
  injection l with l
  subst l;rcases m with f|f
  .rcases aw.dK b with rfl|⟨g2,rfl⟩
   .simp[Value.ownBlock]at f
   .simp[Value.ownBlock]at f;subst f;exact .inl rfl
  .simp[Value.ownBlock]at f;exact .inr ak
theorem bE{w:ahh}{rest:List Oper}{e:ahm}(T:aR P t e 1 bytes)(i:o.guard=none)(s x:Operand)
 (v:o.op=.call {callee:=.builtin .append,args:=#[s,x],argTypes:=#[t,t]}) {B:Nat} {k:IntKind} {A:aA} {n c:Nat} {xs:aC} (m:a.eval s=.slice A n c) (d:Own w B e k A n c xs)
 {g:Nat} (q:a.eval x=.slice (some ⟨g,0,none⟩) 1 1) {y:Int} (p:w.cell? ⟨g,0,none⟩=some (.int k y))
 (F:(n+1)*bytes<=140737488355328) (D:B<=w.heap.size)
 (h:∀f c' w',Own w' B e k f (n+1) c' (xs++[y])->ahi B w w'->w.grownBy w' (Value.slice A n c).ownBlock->(∀g,f=some ⟨g,0,none⟩->A=some ⟨g,0,none⟩∨w.heap.size<=g)->wpList P ops Q rest (a.put o.dst (.slice f (n+1) c')) w'):wpList P ops Q (o::rest) a w:=by
 refine br T i s x v m d q (news:=[.int k y]) rfl (fun j u b=> ?_) (fun u b=> ?_) F D fun f c' w' z r l E=>h f c' w' ?_ r l E
 .match j with
  |0=>simp at b;subst b;exact p
  |j+1=>simp at b
 .simp at b;subst b;rfl
 .unfold Own;rw[List.map_append];exact z
theorem Ec{w:ahh}{K:Act->ahh->Prop}{E:Prop}{e:ahm}{size:Nat}(T:aR P t e size bytes)(l:o.guard=none)(s x:Operand)
 (N:o.op=.call {callee:=.builtin .append,args:=#[s,x],argTypes:=#[t,t]}) {B:Nat} {A:aA} {n c:Nat} {vs:List ahj} (G:a.eval s=.slice A n c) (d:aw w B e size A n c vs)
 {g:Nat} (J:a.eval x=.slice (some ⟨g,0,none⟩) 1 1) {news:List ahj} (S:news.length=size) (hc:∀j u,news[j]? =some u->w.cell? ⟨g,j,none⟩=some u) (O:∀u∈news,u.oneCell'=true)
 (R:(n+1)*bytes<=140737488355328) (y:B<=w.heap.size)
 (h:∀D c' w',aw w' B e size D (n+1) c' (vs++news)->ahi B w w'->K (a.put o.dst (.slice D (n+1) c')) w'):
 if Region.wanted o (yielded ops a.tmps)=true then Oper.wp P o a w K Q else E:=by
 have F:Region.wanted o (yielded ops a.tmps)=true:=by simp[Region.wanted,l]
 rw[if_pos F];obtain⟨i,z,L,I,r,f,q⟩:=T.info;have m:=T.yY;have M:n+1<=140737488355328:=by
  have U:(n+1)*1<=(n+1)*bytes:=Nat.mul_le_mul_left _ m;omega
 refine wp_append_own w s x t N B e i z size bytes T.ht L I r f q T.pos (.slice A n c) n vs G d ⟨g,0,none⟩ 1 1 news J ak (fun j u hu=>WS) O qT R y ?_;intro V w' b H _;have p:=aw.dm d H y;rcases b.2 with⟨v,W⟩|⟨X,cap,cur,v,_⟩
 .omega
 .subst v
  exact h _ _ w' b p
theorem bM.grow{A a C:aA}{w:ahh}(h:bM A C)(i:∀g,C=some ⟨g,0,none⟩->g<w.heap.size)(f:∀g,a=some ⟨g,0,none⟩->A=some ⟨g,0,none⟩∨w.heap.size<=g):bM a C:=by
 intro g j d;rcases f g j with b|b
 .exact h g b d
 .have:=i g d;omega
end Go.Proofs.YtklncadpkniojaaGreatDoor
