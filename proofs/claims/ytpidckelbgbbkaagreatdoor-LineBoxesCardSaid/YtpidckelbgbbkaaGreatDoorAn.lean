/- Part of LineBoxes. -/
import Derived.Test.YtpidckelbgbbkaaGreatDoorAi
import Derived.Test.YtpidckelbgbbkaaGreatDoorRows
import Derived.Deep.CutBlock
import Derived.Deep.DeepCutAuto
namespace Go.Proofs.YtpidckelbgbbkaaGreatDoor
open Go.ChangeShapes Go.WideShapes Go.ChangeAt Go.RowKit Go.Proofs.Tryz
open Go.Value renaming int → ae
open Go.IntKind renaming i64 → aj
set_option linter.all false
set_option maxRecDepth 100000
set_option maxHeartbeats 16000000
variable{A b:aC}{w:World}{B c g i m n:Nat}
structure ak(p:Prop):Prop where
 o:p
theorem sH{p:Prop}(h:p):ak p:=⟨h⟩
theorem ak.t {a b c:World} (h:ak (aA a b)) (k:aA b c):ak (aA a c):=⟨h.o.trans (k.mono h.o.size)⟩
theorem aaA{a b:Int}(h:a=b):Ending.returned (ae aj a)=Ending.returned (ae aj b):=by rw[h]
theorem IW:aS prog 43 3 1 8:=bD underlying43 (z:=ae aj 0) aF rfl aq aq
theorem GD:(prog.info? 3).map (·.zero)=some (some (ae aj 0)):=by kernel_rfl
theorem bI{e:TypeId}{k:IntKind}{xs:aE}(h:Own w B e k (some ⟨g,0,none⟩) n c xs){j:Nat}(a:j<n):w.cell? ⟨g,j,none⟩=some (.int k (nth xs j)):=by
 have b:=h.len;rw[aB.cellAt h j aq,List.getElem?_map,List.getElem?_eq_getElem aq,dQ aq];rfl
theorem Own.dU{a:Nat}{e:TypeId}{k:IntKind}{xs:aE}(h:Own w B e k A n c xs)(f:a<=B):Own w a e k A n c xs:=by
 refine⟨h.1, ?_⟩;rcases h.2 with d|⟨g,cap,cur,b,i,r⟩
 ·exact .inl d
 ·exact .inr ⟨g,cap,cur,b,aq,r⟩
theorem fF(w:World)(v:Value)(t:TypeId)(N:Nat)(h:w.heap.size=N):(w.alloc (.cells #[v] t)).cell? ⟨N,0,none⟩=some v:=by subst h;exact aX w v t
theorem bL{a:World}(h:Below B a w):Below B a w.drew:=⟨h.os,h.tape,h.output,h.size,h.block⟩
theorem callK{P:Program}{f:FuncId}{args:Array Value}{W w0:World}{v:Value}{Q:Ending->World->Prop}(h:Calls P f args W fun e d=>e= .returned v/\aA W d)(c:ak (aA w0 W))(k:∀a,aA W a->ak (aA w0 a)->Q (.returned v) a):Calls P f args W Q:=
 h.mono fun _ a ⟨e,b⟩=>e▸k a b ⟨c.o.trans (b.mono c.o.size)⟩
theorem cB:ak (Below n w w):=⟨Below.refl _ _⟩
def Rq(w:World)(B k:Nat)(Q:aE->Prop)(A:aC)(n:Nat):Prop:=
 0<n->∃a,A=some a/\a.block<B/\∀j,j<n->∃g:aE,g.length=k/\Q g/\∀q x,g[q]? =some x->w.cell? ((a.add (j*k)).add q)=some (ae aj x)
def dZ(g:aE):List Value:=g.map (ae aj)
def Oq(w:World)(B:Nat)(e:TypeId)(k:Nat)(Q:aE->Prop)(A:aC)(n c:Nat):Prop:=
 ∃gs:List aE,gs.length=n/\(∀g∈gs,g.length=k/\Q g)/\aB w B e k A n c (gs.flatMap dZ)
def Nq(w:World)(e:TypeId)(k:Nat)(Q:aE->Prop)(n:Nat)(r:Ending)(w':World):Prop:=∃(A:aC) (c:Nat),r= .returned (.slice A n c)/\Oq w' w.heap.size e k Q A n c/\aA w w'
theorem wE{k:Nat}:∀(l:List aE) (h:∀g∈l,g.length=k) (q i:Nat) (g:aE),l[q]? =some g->i<k->(l.flatMap dZ)[q*k+i]? =(g[i]?).map (ae aj)
 |[],_,q,i,g,h,_=>by simp at h
 |y::l,hl,0,i,g,h,hi=>by
  simp at h;subst h;have:=hl y aD;rw[List.flatMap_cons,List.getElem?_append_left (by simp[dZ];omega)];simp[dZ]
 |y::l,hl,q+1,i,g,h,hi=>by
  simp at h;have b:=hl y aD;have hlen:(dZ y).length=k:=by simp[dZ,b]
  rw[List.flatMap_cons,List.getElem?_append_right (by rw[hlen,Nat.add_mul];omega),hlen,show(q+1)*k+i-k=q*k+i by rw[Nat.add_mul];omega];exact wE l (fun g a=>hl g (by simp[a])) q i g h hi
theorem ns{k:Nat}(l:List aE)(h:∀g∈l,g.length=k):(l.flatMap dZ).length=l.length*k:=by
 induction l with
 |nil=>simp
 |cons y l ih=>
  rw[List.flatMap_cons,List.length_append,ih fun g a=>h g (by simp[a]),List.length_cons,Nat.add_mul];simp[dZ,h y aD];omega
section
variable {w w' : World} {B B' k n c : Nat} {e : TypeId} {Q Q' : aE -> Prop} {A : aC}
theorem Rq.Z(h:Rq w B k Q A n)(a:Below B w w')(s:B<=B'):Rq w' B' k Q A n:=fun b=>by
 obtain⟨f,r,aH,d⟩:=h b;refine⟨f,r,aq,fun j m=> ?_⟩;obtain⟨g,o,p,l⟩:=d j m;exact⟨g,o,p,fun q x i=>(a.cell aaJ).trans (l q x i)⟩
theorem Rq.imp(h:Rq w B k Q A n)(m:∀g,Q g->Q' g):Rq w B k Q' A n:=fun f=>by
 obtain⟨p,q,a,i⟩:=h f;refine⟨p,q,a,fun j d=> ?_⟩;obtain⟨g,l,o,b⟩:=i j d;exact⟨g,l,m g o,b⟩
theorem Rq.less(h:Rq w B k Q A n)(l:m<=n):Rq w B k Q A m:=fun i=>by
 obtain⟨b,f,a,d⟩:=h aq;exact⟨b,f,a,fun j g=>d j aq⟩
theorem Oq.nil(w:World)(B:Nat)(e:TypeId)(k:Nat)(Q:aE->Prop):Oq w B e k Q none 0 0:=⟨[],rfl,(fun g h=>gO),aB.nil _ _ _ _⟩
theorem Oq.ar(h:Oq w B e k Q A n c)(a:aA w w'):Oq w' B e k Q A n c:=by
 obtain⟨gs,d,f,b⟩:=h;exact⟨gs,d,f,aB.ar b a⟩
theorem Oq.cN(h:Oq w B e k Q A n c)(l:B'<=B):Oq w B' e k Q A n c:=by
 obtain⟨gs,b,d,a⟩:=h;refine⟨gs,b,d,a.1, ?_⟩;rcases a.2 with i|⟨g,cap,cur,f,j,r⟩
 ·exact .inl i
 ·exact .inr ⟨g,cap,cur,f,aq,r⟩
theorem Oq.imp(h:Oq w B e k Q A n c)(i:∀g,Q g->Q' g):Oq w B e k Q' A n c:=by
 obtain⟨gs,f,b,d⟩:=h;exact⟨gs,f,fun g a=>⟨(b g a).1,i g (b g a).2⟩,d⟩
theorem Oq.form(h:Oq w B e k Q A n c)(b:0<n):∃g,A=some ⟨g,0,none⟩/\B<=g/\g<w.heap.size:=by
 obtain⟨gs,d,f,a⟩:=h;exact aB.form a b
theorem Oq.rq(h:Oq w B e k Q A n c)(u:0<k):Rq w w.heap.size k Q A n:=fun o=>by
 obtain⟨gs,s,f,d⟩:=h;obtain⟨g,rfl,_,a⟩:=aB.form d o;refine⟨_,rfl,a,fun j r=> ?_⟩;have e:gs[j]? =some gs[j]:=List.getElem?_eq_getElem aq;have i:=f _ (List.getElem_mem (l:=gs) (n:=j) aq);refine⟨gs[j],i.1,i.2,fun q x b=> ?_⟩;have t:=(List.getElem?_eq_some_iff.1 b).1;have m:j*k+q<n*k:=by
  have:=Nat.mul_le_mul_right k (show j+1<=n by omega);rw[Nat.add_mul]at this;omega
 rw[bm,bB,aB.cellAt d (j*k+q) m,wE gs (fun g p=>(f g p).1) j q _ e aq,b];rfl
theorem Oq.more{c':Nat}{gs:List aE}(h1:gs.length=n)(i:∀g∈gs,g.length=k/\Q g){g:aE}(d:g.length=k)(h:Q g)(f:aB w B e k b (n+1) c' (gs.flatMap dZ++dZ g)):Oq w B e k Q b (n+1) c':=by
 refine⟨gs++[g],nU,fun x a=> ?_,by rw[List.flatMap_append];simpa using f⟩;rw[List.mem_append]at a;rcases a with a|a
 ·exact i x a
 ·simp at a;subst a;exact⟨d,h⟩
end
theorem bU{P:Program}{w:World}{ops:Array Oper}{rest:List Oper}{o:Oper}{a:Act}{K:Exit->Act->World->Prop}{t e:TypeId}{k bytes:Nat}(T:aS P t e k bytes)(i:o.guard=none)(s x:Operand)
 (C:o.op= .call {callee:= .builtin .append,args:= #[s,x],argTypes:= #[t,t]}) {B:Nat} {Q:aE->Prop} {A:aC} {n c:Nat} (p:a.eval s= .slice A n c) (d:Oq w B e k Q A n c)
 {b:Nat} (q:a.eval x= .slice (some ⟨b,0,none⟩) 1 1) (g:aE) (l:g.length=k) (m:∀j u,(dZ g)[j]? =some u->w.cell? ⟨b,j,none⟩=some u) (r:Q g)
 (z:(n+1)*bytes<=140737488355328) (F:B<=w.heap.size)
 (h:∀f c' w',Oq w' B e k Q f (n+1) c'->Below B w w'->wpList P ops K rest (a.put o.dst (.slice f (n+1) c')) w'):wpList P ops K (o::rest) a w:=by
 obtain⟨gs,E,v,D⟩:=d;exact bk T i s x C p D q (by simp[dZ,l]) m (fun u hu=>XI) z F fun f c' w' o b _ _=>h f c' w' (Oq.more E v l r o) b
theorem Oq.set{w:World}{B k n c:Nat}{e:TypeId}{Q:aE->Prop}(h:Oq w B e k Q (some ⟨g,0,none⟩) n c){j q:Nat}(L:j<n)(I:q<k)(v:Int)(F:∀x,x.length=k->Q x->Q (x.set q v)):
 Oq (w.setCell ⟨g,j*k+q,none⟩ (ae aj v)) B e k Q (some ⟨g,0,none⟩) n c:=by
 obtain⟨gs,h1,m,H⟩:=h;have s:=m _ (List.getElem_mem (l:=gs) (n:=j) aq);refine⟨gs.set j (gs[j].set q v),nU,fun x d=> ?_, ?_⟩
 ·rcases List.mem_or_eq_of_mem_set d with d|rfl
  ·exact m x d
  ·exact⟨by simp[s.1],F _ s.1 s.2⟩
 ·have J:=(World.ownsRow.stored (cap:=c) H (j*k+q) (ae aj v)).1
  have e:(gs.flatMap dZ).set (j*k+q) (ae aj v)=(gs.set j (gs[j].set q v)).flatMap dZ:=by
   have p:=ns gs fun g o=>(m g o).1
   have r:∀x∈gs.set j (gs[j].set q v),x.length=k:=fun x d=>by
    rcases List.mem_or_eq_of_mem_set d with d|rfl
    ·exact(m x d).1
    ·simp[s.1]
   have u:=ns _ r;apply List.ext_getElem?;intro i;have z:0<k:=aq;rcases Nat.lt_or_ge i (n*k)with hi|hi
   ·have G:i/k<n:=(Nat.div_lt_iff_lt_mul z).2 hi
    have f:i%k<k:=Nat.mod_lt _ z;have t:i=(i/k)*k+i%k:=by have:=Nat.div_add_mod i k;rw[Nat.mul_comm]at this;exact this.symm
    generalize i/k=a at*;generalize i%k=b at*;subst t;rw[wE _ r a b _ (List.getElem?_eq_getElem cA) f,List.getElem?_set];by_cases C:a=j
    ·subst C
     by_cases y:q=b
     ·subst y
      rw[if_pos rfl,if_pos (by rw[p,h1];exact hi)];simp[s.1,I]
     ·rw[if_neg aq,wE gs (fun g o=>(m g o).1) a b _ (List.getElem?_eq_getElem aq) f]
      simp[y]
    ·rw[if_neg ?_,wE gs (fun g o=>(m g o).1) a b _ (List.getElem?_eq_getElem aq) f]
     ·have D:¬j=a:=fun h=>C h.symm
      simp[List.getElem_set,D]
     ·intro K
      rcases Nat.lt_or_ge a j with E|E
      ·have:=Nat.mul_le_mul_right k (show a+1<=j by omega)
       rw[Nat.add_mul]at this;omega
      ·have:=Nat.mul_le_mul_right k (show j+1<=a by omega)
       rw[Nat.add_mul]at this;omega
   ·rw[List.getElem?_eq_none (by simp[p,h1];exact hi),List.getElem?_eq_none (by rw[u];simp[h1];exact hi)]
  rw[<-e];exact J
section
variable {P : Program} {w : World} {o : Oper} {a : Act} {R : Exit -> Act -> World -> Prop} {t e : TypeId} {size bytes : Nat}
def ph(w:World)(C:aC)(m:Nat)(news:List Value):Prop:=0<m->∃b,C=some b/\∀j u,news[j]? =some u->w.cell? (b.add j)=some u
theorem tW{K:Act->World->Prop}(T:aS P t e size bytes)(s x:Operand)
 (O:o.op= .call {callee:= .builtin .append,args:= #[s,x],argTypes:= #[t,t]}) {B:Nat} {A:aC} {n c:Nat} {vs:List Value} (I:a.eval s= .slice A n c) (b:aB w B e size A n c vs)
 {C:aC} {m d:Nat} {news:List Value} (L:a.eval x= .slice C m d) (N:ph w C m news) (hl:news.length=m*size) (r:∀u∈news,u.oneCell'=true)
 (W:(n+m)*bytes<=140737488355328) (S:B<=w.heap.size)
 (h:∀l c' p,aB p B e size l (n+m) c' (vs++news)->Below B w p->K (a.put o.dst (.slice l (n+m) c')) p):o.wp P a w K R:=by
 obtain⟨i,z,Q,U,v,F,H⟩:=T.info;have D:=T.zG;have Y:n+m<=140737488355328:=by
  have M:(n+m)*1<=(n+m)*bytes:=Nat.mul_le_mul_left _ D;omega
 cases C with
 |none=>
  obtain rfl:m=0:=by
   rcases Nat.eq_zero_or_pos m with f|f
   ·exact f
   ·obtain⟨_,y,_⟩:=N f;cases y
  obtain rfl:news=[]:=List.eq_nil_of_length_eq_zero Be;have q:=run_append_nothing (P:=P) w t t o.type e i T.ht Q A n c (aB.le b) (.slice none 0 d) (Src.ofNil (size:=i.size) (w:=w) T.ht d);unfold Oper.wp execOp;simp only[O,resolve,invoke,builtin,Sem.run_bind,Sem.run_pure,Result.andThen_ok,List.map_toArray,List.map_cons,List.map_nil,I,L,q];have:=h A c w (by simpa using b) (Below.refl _ _);simp only[Nat.add_zero]at this;exact this
 |some ad=>
  refine wp_append_own w s x t O B e i z size bytes T.ht Q U v F H T.pos (.slice A n c) n _ I b ad m d news L hl (fun j u J=> ?_) r pN W S ?_
  ·have Z:=(List.getElem?_eq_some_iff.1 J).1
   obtain⟨G,y,V⟩:=N (by
    rcases Nat.eq_zero_or_pos m with f|f
    ·subst f;omega
    ·exact f)
   obtain rfl:ad=G:=Option.some.inj y;exact V j u J
  ·intro X p r M _
   obtain⟨l,c',rfl⟩:∃l c',X= .slice l (n+m) c':=by
    rcases r.2 with⟨E,f⟩|⟨g,cap,cur,E,_⟩
    ·exact⟨none,0,by rw[E,f]⟩
    ·exact⟨_,_,E⟩
   exact h l c' p r (aB.dq b M S)
theorem Rq.list{B k:Nat}{Q:aE->Prop}{A:aC}:∀{m:Nat},Rq w B k Q A m->∃gs:List aE,gs.length=m/\(∀g∈gs,g.length=k/\Q g)/\ph w A m (gs.flatMap dZ)
 |0,_=>⟨[],rfl,aD,fun h=>absurd h aq⟩
 |m+1,h=>by
  obtain⟨gs,h1,q,z⟩:=Rq.list (h.less (Nat.le_succ m));obtain⟨p,r,_,s⟩:=h aq;obtain⟨g,C,g2,v⟩:=s m aq;refine⟨gs++[g],nU,fun x b=> ?_,fun _=>⟨p,r,fun j u c=> ?_⟩⟩
  ·rcases List.mem_append.1 b with b|b
   ·exact q x b
   ·simp at b;subst b;exact⟨C,g2⟩
  ·have hlen:=ns gs fun g y=>(q g y).1
   rw[List.flatMap_append]at c;rcases Nat.lt_or_ge j (gs.flatMap dZ).length with d|d
   ·rw[List.getElem?_append_left d]at c
    obtain⟨i,n,l⟩:=z (by
     rcases Nat.eq_zero_or_pos m with f|f
     ·subst f;rw[hlen,h1]at d;omega
     ·exact f)
    obtain rfl:p=i:=by rw[r]at n;exact Option.some.inj n
    exact l j u c
   ·rw[List.getElem?_append_right d]at c
    simp only[List.flatMap_cons,List.flatMap_nil,List.append_nil]at c;simp only[dZ,List.getElem?_map,Option.map_eq_some_iff]at c;obtain⟨x,b,rfl⟩:=c;have:=v _ x b;rw[bm,hlen,h1]at this;rwa [show m*k+(j-m*k)=j by rw[hlen,h1]at d;omega]at this
theorem cw{ops:Array Oper}{rest:List Oper}{k:Nat}(T:aS P t e k bytes)(p:o.guard=none)(s x:Operand)
 (K:o.op= .call {callee:= .builtin .append,args:= #[s,x],argTypes:= #[t,t]}) {B I:Nat} {Q:aE->Prop} {A:aC} {n c:Nat} (D:a.eval s= .slice A n c) (j:Oq w B e k Q A n c)
 {C:aC} {m d:Nat} (E:a.eval x= .slice C m d) (H:Rq w I k Q C m)
 (J:(n+m)*bytes<=140737488355328) (N:B<=w.heap.size)
 (h:∀l c' f,Oq f B e k Q l (n+m) c'->Below B w f->wpList P ops R rest (a.put o.dst (.slice l (n+m) c')) f):wpList P ops R (o::rest) a w:=by
 obtain⟨gs,M,G,L⟩:=j;obtain⟨i,r,q,F⟩:=H.list;exact wpList_plain p fun _ hK=>tW T s x K D L E F (by rw[ns i fun g b=>(q g b).1,r]) (fun u v=>by simp[dZ]at v;obtain⟨_,_,y,_,rfl⟩:=v;rfl) J N fun l c' f o1 z=>hK _ _ (h l c' f ⟨gs++i,by simp[M,r],fun g b=>by
  rcases List.mem_append.1 b with b|b
  ·exact G g b
  ·exact q g b,by rw[List.flatMap_append];exact o1⟩ z)
end
def Dp(P:Program)(t:TypeId)(k:Nat)(A:aC)(n c:Nat)(lo f:Option Value)(i m:Nat)(d:aC)(b:Nat):Prop:=
 (∀w:World,(Instr.slice t (.slice A n c) lo f none).run P w= .ok (.slice d m b) w)/\m<=b/\b<=c/\∀w B Q,Rq w B k Q A n->Rq w B k Q d m
section
variable {P : Program} {t e : TypeId} {bytes k : Nat}
theorem Rq.cut{w:World}{Q:aE->Prop}{cap:Nat}(h:Rq w B k Q A n)(y:i+m<=n)(s:n<=cap):Rq w B k Q (if cap=i then A else A.map (·.add (i*k))) m:=fun u=>by
 obtain⟨c,rfl,hb,b⟩:=h aq;rw[if_neg aq];refine⟨c.add (i*k),rfl,Pe,fun j v=> ?_⟩;obtain⟨g,l,p,f⟩:=b (i+j) aq;refine⟨g,l,p,fun q x d=> ?_⟩;have r:=f q x d;rw[bm]at r;rw[bm,bm];rwa [show i*k+(j*k+q)=(i+j)*k+q by rw[Nat.add_mul];omega]
theorem Fk(T:aS P t e k bytes)(A:aC)(n c i j:Nat)(q:i<=j)(r:j<=n)(d:n<=c)(l h:Int)(b:l=i)(f:h=j):
 ∃m p,Dp P t k A n c (some (ae aj l)) (some (ae aj h)) i (j-i) m p:=by
 subst b;subst f
 refine⟨if c=i then A else A.map (·.add (i*k)),c-i,fun w=> ?_,aq,aq,fun w B Q g=>g.cut aq d⟩;rw[run_slice_lh w t A n c (cP T) .i64 .i64 i j aq aq aq,cQ T];simp[Result.andThen,sliced]
theorem KE(T:aS P t e k bytes)(A:aC)(n c j:Nat)(p:j<=n)(l:n<=c)(h:Int)(b:h=j):
 ∃f g,Dp P t k A n c none (some (ae aj h)) 0 j f g:=by
 subst b;refine⟨if c=0 then A else A.map (·.add 0),c,fun w=> ?_,aq,aq,fun w B Q d=>by have:=d.cut (i:=0) (m:=j) aq l;simpa using this⟩;rw[run_slice_h w t A n c (cP T) .i64 j aq aq,cQ T];simp[Result.andThen,sliced]
theorem La(T:aS P t e k bytes)(A:aC)(n c i:Nat)(j:i<=n)(h:n<=c)(l:Int)(f:l=i):
 ∃d g,Dp P t k A n c (some (ae aj l)) none i (n-i) d g:=by
 subst f;refine⟨if c=i then A else A.map (·.add (i*k)),c-i,fun w=> ?_,aq,aq,fun w B Q b=>b.cut aq h⟩;rw[run_slice_l w t A n c (cP T) .i64 i aq aq,cQ T];simp[Result.andThen,sliced]
theorem Dp.run{f:Nat}{lo d:Option Value}(h:Dp P t k A n c lo d i m b f):∀w:World,(Instr.slice t (.slice A n c) lo d none).run P w= .ok (.slice b m f) w:=h.1
theorem Dp.rq{lo f:Option Value}(h:Dp P t k A n c lo f i m b g){w:World}{B:Nat}{Q:aE->Prop}(d:Rq w B k Q A n):Rq w B k Q b m:=h.2.2.2 w B Q d
end
def Zy(w:World)(n:Nat)(e:Ending)(a:World):Prop:=∃(A:aC) (c:Nat) (xs:aE),e= .returned (.slice A n c)/\Own a w.heap.size 3 .i64 A n c xs/\aA w a
def Zi(w:World)(B:Nat)(A:aC)(n c:Nat)(e:Ending)(a:World):Prop:=∃b,e= .returned (.slice A n c)/\Own a B 3 .i64 A n c b/\Below B w a
def abb(w:World)(e:Ending)(a:World):Prop:=∃z:Int,e= .returned (ae aj z)/\a=w
def ae3(w:World)(e:Ending)(a:World):Prop:=∃z:Bool,e= .returned (.bool z)/\a=w
theorem uj(x:Int)(w:World):Calls prog 280 #[ae aj x] w (abb w):=by
 go_enter func280,ntmps280;go_wp2_with fail
 all_goals
  go_ret;exact⟨_,rfl,rfl⟩
theorem uL(x:Int)(w:World):Calls prog 282 #[ae aj x] w (ae3 w):=by
 go_enter func282,ntmps282;go_wp2_with fail
 all_goals
  go_ret;exact⟨_,rfl,rfl⟩
theorem aaF{G:Prop}(s:G:=by
 obtain rfl:i=n:=by omega
 go_wp2;go_ret;exact⟨_,rfl,OM.o,BE.o⟩):G:=s
theorem Zv(B:Nat)(A:aC)(n c:Nat)(xs:aE)(w:World)(h:Own w B 3 .i64 A n c xs)(m:n<=4000):Calls prog 235 #[.slice A n c] w (Zi w B A n c):=by
 have e:=sH h;go_enter func235,ntmps235;go_wp2;go_loopg [3,4] (n+1) (fun gg v3 v4 wr=>∃(i:Nat) (a:Int) (d:aE),n-i<gg/\i<=n/\v3=ae aj a/\v4=ae aj (i:Int)/\ak (Own wr B 3 .i64 A n c d)/\ak (Below B w wr))
 ·exact⟨0,0,xs,aq,aq,rfl,rfl,e,cB⟩
 obtain⟨i,a,d,j,o,rfl,rfl,OM,BE⟩:=hrel;by_cases b:i<n
 ·obtain⟨g,rfl,_,_⟩:=aB.form OM.o aq
  have l:=bI OM.o b;have f1:=aB.frozenAt OM.o i;generalize k:nth d i=x at*;have f:=aR i n;go_wp2_with fail
  all_goals go_roundg (n-i)
  all_goals first
   |omega
   |exact⟨i+1,_,_,aq,aq,rfl,by go_num,OM,BE⟩
   |exact⟨i+1,_,_,aq,aq,rfl,by go_num,⟨Own.nY OM.o i _⟩,⟨Below.setCell BE.o (p:=⟨g,i,none⟩) (aB.sY OM.o).1 _⟩⟩
 ·exact aaF
theorem ac8{G:Prop}(s:G:=by
 obtain⟨g,rfl,_,_⟩:=aB.form OM.o aq
 have c1:=bI OM.o aH;have f1:=aB.frozenAt OM.o i;generalize hx:nth ys i=x at*;have i1:=aR i n;go_wp2_with fail
 all_goals go_roundg (n-i)
 all_goals first
  |omega
  |exact⟨i+1,_,aq,aq,by go_num,OM,BE⟩
  |exact⟨i+1,_,aq,aq,by go_num,⟨Own.nY OM.o i _⟩,⟨Below.setCell BE.o (p:=⟨g,i,none⟩) (aB.sY OM.o).1 _⟩⟩):G:=s
theorem aae(B:Nat)(A:aC)(n c:Nat)(xs:aE)(w:World)(h:Own w B 3 .i64 A n c xs)(b:n<=4000):Calls prog 234 #[.slice A n c] w (Zi w B A n c):=by
 have a:=sH h;go_enter func234,ntmps234;go_wp2;go_loopg [3] (n+1) (fun gg v3 wr=>∃(i:Nat) (ys:aE),n-i<gg/\i<=n/\v3=ae aj (i:Int)/\ak (Own wr B 3 .i64 A n c ys)/\ak (Below B w wr))
 ·exact⟨0,xs,aq,aq,rfl,a,cB⟩
 obtain⟨i,ys,d,e,rfl,OM,BE⟩:=hrel;by_cases aH:i<n
 ·exact ac8
 ·exact aaF
theorem Z'(B:Nat)(A:aC)(n c:Nat)(xs:aE)(w:World)(h:Own w B 3 .i64 A n c xs)(b:n<=4000):Calls prog 231 #[.slice A n c] w (Zi w B A n c):=by
 have a:=sH h;go_enter func231,ntmps231;go_wp2;go_loopg [3] (n+1) (fun gg v3 wr=>∃(i:Nat) (ys:aE),n-i<gg/\i<=n/\v3=ae aj (i:Int)/\ak (Own wr B 3 .i64 A n c ys)/\ak (Below B w wr))
 ·exact⟨0,xs,aq,aq,rfl,a,cB⟩
 obtain⟨i,ys,d,e,rfl,OM,BE⟩:=hrel;by_cases aH:i<n
 ·exact ac8
 ·exact aaF
end Go.Proofs.YtpidckelbgbbkaaGreatDoor
