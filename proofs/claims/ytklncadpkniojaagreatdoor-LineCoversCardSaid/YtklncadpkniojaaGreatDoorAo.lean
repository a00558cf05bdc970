/- Part of LineCovers. -/
import Derived.Test.YtklncadpkniojaaGreatDoorAj
import Derived.Test.YtklncadpkniojaaGreatDoorRows
import Derived.Deep.CutBlock
import Derived.Deep.DeepCutAuto
namespace Go.Proofs.YtklncadpkniojaaGreatDoor
open Go.ChangeShapes Go.WideShapes Go.ChangeAt Go.RowKit Go.Proofs.Tryz
open Go renaming World->ahh,Value->ahj,Calls->ahk,TypeId->ahm,Ending->ahn,Program->aho
open Go.RowKit renaming Below->ahi
open Go.Value renaming int->ae
open Go.IntKind renaming i64->aj
set_option linter.all false
set_option maxRecDepth 100000
set_option maxHeartbeats 16000000
variable{a w:ahh}{A b:aA}{B N bytes c g i j m n q:Nat}{P:aho}{gs:List aC}{ops:Array Oper}{rest:List Oper}
structure aq(p:Prop):Prop where
 o:p
theorem sH{p:Prop}(h:p):aq p:=⟨h⟩
theorem aq.t {a b c:ahh} (h:aq (az a b)) (k:az b c):aq (az a c):=⟨h.o.trans (k.mono h.o.size)⟩
theorem aag{a b:Int}(h:a=b):Ending.returned (ae aj a)=Ending.returned (ae aj b):=by rw[h]
theorem YQ:aR prog 39 3 1 8:=bu underlying39 (z:=ae aj 0) aF rfl ak ak
theorem FK:(prog.info? 3).map (·.zero)=some (some (ae aj 0)):=by kernel_rfl
theorem bT{e:ahm}{k:IntKind}{xs:aC}(h:Own w B e k (some ⟨g,0,none⟩) n c xs){j:Nat}(a:j<n):w.cell? ⟨g,j,none⟩=some (.int k (nth xs j)):=by
 have b:=h.len;rw[aw.cellAt h j ak,List.getElem?_map,List.getElem?_eq_getElem ak,cB ak];rfl
theorem Own.gF{a:Nat}{e:ahm}{k:IntKind}{xs:aC}(h:Own w B e k A n c xs)(i:a<=B):Own w a e k A n c xs:=by
 refine⟨h.1, ?_⟩;rcases h.2 with d|⟨g,cap,cur,b,f,r⟩
 .exact .inl d
 .exact .inr ⟨g,cap,cur,b,ak,r⟩
theorem nh(w:ahh)(v:ahj)(t:ahm)(N:Nat)(h:w.heap.size=N):(w.alloc (.cells #[v] t)).cell? ⟨N,0,none⟩=some v:=by subst h;exact bh w v t
theorem bC(h:ahi B a w):ahi B a w.drew:=⟨h.os,h.tape,h.output,h.size,h.block⟩
theorem callK{f:FuncId}{args:Array ahj}{W w0:ahh}{v:ahj}{Q:ahn->ahh->Prop}(h:ahk P f args W fun e d=>e=.returned v/\az W d)(c:aq (az w0 W))(k:∀a,az W a->aq (az w0 a)->Q (.returned v) a):ahk P f args W Q:=
 h.mono fun _ a ⟨e,b⟩=>e▸k a b ⟨c.o.trans (b.mono c.o.size)⟩
theorem cA:aq (ahi n w w):=⟨Below.refl _ _⟩
def Rq(w:ahh)(B k:Nat)(Q:aC->Prop)(A:aA)(n:Nat):Prop:=
 0<n->∃a,A=some a/\a.block<B/\∀j,j<n->∃g:aC,g.length=k/\Q g/\∀q x,g[q]? =some x->w.cell? ((a.add (j*k)).add q)=some (ae aj x)
def dk(g:aC):List ahj:=g.map (ae aj)
def Oq(w:ahh)(B:Nat)(e:ahm)(k:Nat)(Q:aC->Prop)(A:aA)(n c:Nat):Prop:=
 ∃gs:List aC,gs.length=n/\(∀g∈gs,g.length=k/\Q g)/\aw w B e k A n c (gs.flatMap dk)
theorem AW{k:Nat}:∀(l:List aC) (h:∀g∈l,g.length=k) (q i:Nat) (g:aC),l[q]? =some g->i<k->(l.flatMap dk)[q*k+i]? =(g[i]?).map (ae aj)
 |[],_,q,i,g,h,_=>by simp at h
 |y::l,hl,0,i,g,h,hi=>by
  simp at h;subst h;have:=hl y aQ;rw[List.flatMap_cons,List.getElem?_append_left (by simp[dk];omega)];simp[dk]
 |y::l,hl,q+1,i,g,h,hi=>by
  simp at h;have b:=hl y aQ;have hlen:(dk y).length=k:=by simp[dk,b]
  rw[List.flatMap_cons,List.getElem?_append_right (by rw[hlen,Nat.add_mul];omega),hlen,show(q+1)*k+i-k=q*k+i by rw[Nat.add_mul];omega];exact AW l (fun g a=>hl g (by simp[a])) q i g h hi
theorem p'{k:Nat}(l:List aC)(h:∀g∈l,g.length=k):(l.flatMap dk).length=l.length*k:=by
 induction l with
 |nil=>simp
 |cons y l ih=>
  rw[List.flatMap_cons,List.length_append,ih fun g a=>h g (by simp[a]),List.length_cons,Nat.add_mul];simp[dk,h y aQ];omega
section
variable{w w':ahh}{B B' k n c:Nat}{e:ahm}{Q Q':aC -> Prop}{A:aA}
theorem Rq.Z(h:Rq w B k Q A n)(f:ahi B w w')(s:B<=B'):Rq w' B' k Q A n:=fun l=>by
 obtain⟨d,r,aK,m⟩:=h l;refine⟨d,r,ak,fun j i=> ?_⟩;obtain⟨g,a,p,b⟩:=m j i;exact⟨g,a,p,fun q x o=>(f.cell abF).trans (b q x o)⟩
theorem Oq.nil(w:ahh)(B:Nat)(e:ahm)(k:Nat)(Q:aC->Prop):Oq w B e k Q none 0 0:=⟨[],rfl,(fun g h=>fA),aw.nil _ _ _ _⟩
theorem Oq.ar(h:Oq w B e k Q A n c)(a:az w w'):Oq w' B e k Q A n c:=by
 obtain⟨gs,b,f,d⟩:=h;exact⟨gs,b,f,aw.ar d a⟩
theorem Oq.cJ(h:Oq w B e k Q A n c)(j:B'<=B):Oq w B' e k Q A n c:=by
 obtain⟨gs,d,f,a⟩:=h;refine⟨gs,d,f,a.1, ?_⟩;rcases a.2 with b|⟨g,cap,cur,i,l,r⟩
 .exact .inl b
 .exact .inr ⟨g,cap,cur,i,ak,r⟩
theorem Oq.form(h:Oq w B e k Q A n c)(a:0<n):∃g,A=some ⟨g,0,none⟩/\B<=g/\g<w.heap.size:=by
 obtain⟨gs,d,f,b⟩:=h;exact aw.form b a
theorem Oq.rq(h:Oq w B e k Q A n c)(u:0<k):Rq w w.heap.size k Q A n:=fun p=>by
 obtain⟨gs,s,i,b⟩:=h;obtain⟨g,rfl,_,a⟩:=aw.form b p;refine⟨_,rfl,a,fun j t=> ?_⟩;have e:gs[j]? =some gs[j]:=List.getElem?_eq_getElem ak;have d:=i _ (List.getElem_mem (l:=gs) (n:=j) ak);refine⟨gs[j],d.1,d.2,fun q x f=> ?_⟩;have r:=(List.getElem?_eq_some_iff.1 f).1;have m:j*k+q<n*k:=by
  have:=Nat.mul_le_mul_right k (show j+1<=n by omega);rw[Nat.add_mul]at this;omega
 rw[aY,bj,aw.cellAt b (j*k+q) m,AW gs (fun g o=>(i g o).1) j q _ e ak,f];rfl
theorem Oq.more{c':Nat}(h1:gs.length=n)(h:∀g∈gs,g.length=k/\Q g){g:aC}(d:g.length=k)(i:Q g)(f:aw w B e k b (n+1) c' (gs.flatMap dk++dk g)):Oq w B e k Q b (n+1) c':=by
 refine⟨gs++[g],nd,fun x a=> ?_,by rw[List.flatMap_append];simpa using f⟩;rw[List.mem_append]at a;rcases a with a|a
 .exact h x a
 .simp at a;subst a;exact⟨d,i⟩
end
theorem jr{w:ahh}{o:Oper}{a:Act}{K:Exit->Act->ahh->Prop}{t e:ahm}{k:Nat}(T:aR P t e k bytes)(i:o.guard=none)(s x:Operand)
 (C:o.op=.call {callee:=.builtin .append,args:=#[s,x],argTypes:=#[t,t]}) {B:Nat} {Q:aC->Prop} {A:aA} {n c:Nat} (p:a.eval s=.slice A n c) (d:Oq w B e k Q A n c)
 {b:Nat} (r:a.eval x=.slice (some ⟨b,0,none⟩) 1 1) (g:aC) (l:g.length=k) (q:∀j u,(dk g)[j]? =some u->w.cell? ⟨b,j,none⟩=some u) (z:Q g)
 (F:(n+1)*bytes<=140737488355328) (E:B<=w.heap.size)
 (h:∀f c' w',Oq w' B e k Q f (n+1) c'->ahi B w w'->wpList P ops K rest (a.put o.dst (.slice f (n+1) c')) w'):wpList P ops K (o::rest) a w:=by
 obtain⟨gs,D,v,m⟩:=d;exact br T i s x C p m r (by simp[dk,l]) q (fun u hu=>abH) F E fun f c' w' o b _ _=>h f c' w' (Oq.more D v l z o) b
theorem tM{k q:Nat}(v:Int)(f:q<k):∀(gs:List aC) (j:Nat) (_:∀g∈gs,g.length=k) (hj:j<gs.length),(gs.flatMap dk).set (j*k+q) (ae aj v)=(gs.set j (gs[j].set q v)).flatMap dk
 |[],j,_,hj=>by simp at hj
 |a::l,0,h,hj=>by
  have b:(dk a).length=k:=by simp[dk,h a (by simp)]
  rw[List.flatMap_cons,List.set_append_left _ _ ak];simp[dk,List.map_set]
 |a::l,j+1,h,hj=>by
  have b:(dk a).length=k:=by simp[dk,h a (by simp)]
  have i:(j+1)*k+q-k=j*k+q:=QT;rw[List.flatMap_cons,List.set_append_right _ _ (by rw[b,Nat.add_mul];omega),b,i,tM v f l j (fun g d=>h g (by simp[d])) vw];simp
theorem Oq.set{w:ahh}{B k n c:Nat}{e:ahm}{Q:aC->Prop}(h:Oq w B e k Q (some ⟨g,0,none⟩) n c){j q:Nat}(r:j<n)(i:q<k)(v:Int)(p:∀x,x.length=k->Q x->Q (x.set q v)):
 Oq (w.setCell ⟨g,j*k+q,none⟩ (ae aj v)) B e k Q (some ⟨g,0,none⟩) n c:=by
 obtain⟨gs,h1,f,l⟩:=h;have a:j<gs.length:=ak;have b:=f _ (List.getElem_mem a);refine⟨gs.set j (gs[j].set q v),nd,fun x d=> ?_, ?_⟩
 .rcases List.mem_or_eq_of_mem_set d with d|rfl
  .exact f x d
  .exact⟨by simp[b.1],p _ b.1 b.2⟩
 .have o:=(World.ownsRow.stored (cap:=c) l (j*k+q) (ae aj v)).1
  rwa [tM v i gs j (fun g m=>(f g m).1) a]at o
def Rx(w:ahh)(B k:Nat)(gs:List aC)(A:aA)(n:Nat):Prop:=
 gs.length=n/\(∀g∈gs,g.length=k)/\(0<n->∃b,A=some b/\b.block<B/\∀(j:Nat) (g:aC),gs[j]? =some g->∀q x,g[q]? =some x->w.cell? ((b.add (j*k)).add q)=some (ae aj x))
theorem Rx.Z{w c:ahh}{b k:Nat}(h:Rx w B k gs A n)(f:ahi B w c)(s:B<=b):Rx c b k gs A n:=⟨h.1,h.2.1,fun l=>by
 obtain⟨d,r,aK,m⟩:=h.2.2 l;exact⟨d,r,ak,fun j g i q x p=>(f.cell abF).trans (m j g i q x p)⟩⟩
theorem Rq.rx{w:ahh}{k:Nat}{Q:aC->Prop}(h:Rq w B k Q A n):∃gs,Rx w B k gs A n/\∀g∈gs,Q g:=by
 rcases Nat.eq_zero_or_pos n with rfl|p
 .exact⟨[],⟨rfl,aQ,fun h=>absurd h ak⟩,aQ⟩
 obtain⟨l,m,i,r⟩:=h p;have c:∀j:Fin n,∃g:aC,g.length=k/\Q g/\∀q x,g[q]? =some x->w.cell? ((l.add (j.1*k)).add q)=some (ae aj x):=fun j=>r j.1 j.2
 let F:Fin n->aC:=fun j=>(c j).choose
 have f:=fun j=>(c j).choose_spec
 refine⟨List.ofFn F,⟨aQ,fun g d=> ?_,fun _=>⟨l,m,i,fun j g b q x s=> ?_⟩⟩,fun g d=> ?_⟩
 .obtain⟨j,rfl⟩:=List.mem_ofFn.1 d
  exact(f j).1
 .rw[List.getElem?_ofFn]at b
  split at b
  .injection b with b
   subst b;exact(f _).2.2 q x s
  .cases b
 .obtain⟨j,rfl⟩:=List.mem_ofFn.1 d
  exact(f j).2.1
def aL(gs:List aC):aC:=gs.map (nth · 1)
def fC(gs:List aC)(j:Nat):aC:=gs.getD j []
theorem fS(h:j<gs.length):nth (aL gs) j=nth (fC gs j) 1:=by simp[aL,nth,fC,h]
theorem Rx.at_{w:ahh}{k:Nat}(h:Rx w B k gs A n){j:Nat}(r:j<n):∃b,A=some b/\(fC gs j).length=k/\fC gs j∈gs/\∀q,q<k->w.cell? ((b.add (j*k)).add q)=some (ae aj (nth (fC gs j) q)):=by
 obtain⟨p,d,f⟩:=h;obtain⟨b,i,l,g⟩:=f ak;have e:gs[j]? =some (fC gs j):=by simp[fC,List.getElem?_eq_getElem (show j<gs.length by omega)]
 have c:=List.mem_of_getElem? e;refine⟨b,i,d _ c,c,fun q m=>g j _ e q _ ?_⟩;have:=d _ c;rw[cB ak,List.getElem?_eq_getElem]
section
variable{P:aho}{w:ahh}{o:Oper}{a:Act}{R:Exit -> Act -> ahh -> Prop}{t e:ahm}{size bytes:Nat}
def nm(w:ahh)(C:aA)(m:Nat)(news:List ahj):Prop:=0<m->∃b,C=some b/\∀j u,news[j]? =some u->w.cell? (b.add j)=some u
theorem oM{K:Act->ahh->Prop}(T:aR P t e size bytes)(s x:Operand)
 (Q:o.op=.call {callee:=.builtin .append,args:=#[s,x],argTypes:=#[t,t]}) {B:Nat} {A:aA} {n c:Nat} {vs:List ahj} (I:a.eval s=.slice A n c) (b:aw w B e size A n c vs)
 {C:aA} {m d:Nat} {news:List ahj} (L:a.eval x=.slice C m d) (J:nm w C m news) (hl:news.length=m*size) (r:∀u∈news,u.oneCell'=true)
 (Y:(n+m)*bytes<=140737488355328) (S:B<=w.heap.size)
 (h:∀l c' q,aw q B e size l (n+m) c' (vs++news)->ahi B w q->K (a.put o.dst (.slice l (n+m) c')) q):o.wp P a w K R:=by
 obtain⟨i,z,O,U,F,y,E⟩:=T.info;have D:=T.yY;have X:n+m<=140737488355328:=by
  have N:(n+m)*1<=(n+m)*bytes:=Nat.mul_le_mul_left _ D;omega
 cases C with
 |none=>
  obtain rfl:m=0:=by
   rcases Nat.eq_zero_or_pos m with f|f
   .exact f
   .obtain⟨_,v,_⟩:=J f;cases v
  obtain rfl:news=[]:=List.eq_nil_of_length_eq_zero Bj;have p:=run_append_nothing (P:=P) w t t o.type e i T.ht O A n c (aw.le b) (.slice none 0 d) (Src.ofNil (size:=i.size) (w:=w) T.ht d);unfold Oper.wp execOp;simp only[Q,resolve,invoke,builtin,Sem.run_bind,Sem.run_pure,Result.andThen_ok,List.map_toArray,List.map_cons,List.map_nil,I,L,p];have:=h A c w (by simpa using b) (Below.refl _ _);simp only[Nat.add_zero]at this;exact this
 |some ad=>
  refine wp_append_own w s x t Q B e i z size bytes T.ht O U F y E T.pos (.slice A n c) n _ I b ad m d news L hl (fun j u M=> ?_) r qT Y S ?_
  .have Z:=(List.getElem?_eq_some_iff.1 M).1
   obtain⟨G,v,V⟩:=J (by
    rcases Nat.eq_zero_or_pos m with f|f
    .subst f;omega
    .exact f)
   obtain rfl:ad=G:=Option.some.inj v;exact V j u M
  .intro W q r N _
   obtain⟨l,c',rfl⟩:∃l c',W=.slice l (n+m) c':=by
    rcases r.2 with⟨H,f⟩|⟨g,cap,cur,H,_⟩
    .exact⟨none,0,by rw[H,f]⟩
    .exact⟨_,_,H⟩
   exact h l c' q r (aw.dm b N S)
end
def CB(P:aho)(t:ahm)(k:Nat)(A:aA)(n c:Nat)(lo f:Option ahj)(i m:Nat)(b:aA)(d:Nat):Prop:=
 (∀w:ahh,(Instr.slice t (.slice A n c) lo f none).run P w=.ok (.slice b m d) w)/\m<=d/\d<=c/\(∀w B Q,Rq w B k Q A n->Rq w B k Q b m)/\∀w B gs,Rx w B k gs A n->Rx w B k ((gs.drop i).take m) b m
section
variable{P:aho}{t e:ahm}{bytes k:Nat}
theorem Rq.cut{w:ahh}{Q:aC->Prop}{cap:Nat}(h:Rq w B k Q A n)(v:i+m<=n)(u:n<=cap):Rq w B k Q (if cap=i then A else A.map (·.add (i*k))) m:=fun y=>by
 obtain⟨f,rfl,hb,b⟩:=h ak;rw[if_neg ak];refine⟨f.add (i*k),rfl,Kg,fun j s=> ?_⟩;obtain⟨g,c,r,d⟩:=b (i+j) ak;refine⟨g,c,r,fun q x p=> ?_⟩;have l:=d q x p;rw[aY]at l;rw[aY,aY];rwa [show i*k+(j*k+q)=(i+j)*k+q by rw[Nat.add_mul];omega]
theorem Rx.cut{w:ahh}{cap:Nat}(h:Rx w B k gs A n)(z:i+m<=n)(y:n<=cap):Rx w B k ((gs.drop i).take m) (if cap=i then A else A.map (·.add (i*k))) m:=by
 obtain⟨v,u,f⟩:=h;refine⟨cw,fun g p=>u g (List.mem_of_mem_drop (List.mem_of_mem_take p)),fun C=> ?_⟩;obtain⟨l,rfl,hb,b⟩:=f ak;rw[if_neg ak];refine⟨l.add (i*k),rfl,Kg,fun j g c q x s=> ?_⟩;have d:=(List.getElem?_eq_some_iff.1 c).1;rw[List.length_take]at d;rw[List.getElem?_take,if_pos ak,List.getElem?_drop]at c;have r:=b (i+j) g c q x s;rw[aY]at r;rw[aY,aY];rwa [show i*k+(j*k+q)=(i+j)*k+q by rw[Nat.add_mul];omega]
theorem Hq(T:aR P t e k bytes)(A:aA)(n c i j:Nat)(q:i<=j)(r:j<=n)(d:n<=c)(l h:Int)(m:l=i)(f:h=j):
 ∃g p,CB P t k A n c (some (ae aj l)) (some (ae aj h)) i (j-i) g p:=by
 subst m;subst f
 refine⟨if c=i then A else A.map (·.add (i*k)),c-i,fun w=> ?_,ak,ak,fun w B Q b=>b.cut ak d,fun w B gs b=>b.cut ak d⟩;rw[run_slice_lh w t A n c (cQ T) .i64 .i64 i j ak ak ak,cO T];simp[Result.andThen,sliced]
theorem EW(T:aR P t e k bytes)(A:aA)(n c j:Nat)(p:j<=n)(d:n<=c)(h:Int)(f:h=j):
 ∃g l,CB P t k A n c none (some (ae aj h)) 0 j g l:=by
 subst f;refine⟨if c=0 then A else A.map (·.add 0),c,fun w=> ?_,ak,ak,fun w B Q b=>by have:=b.cut (i:=0) (m:=j) ak d;simpa using this,fun w B gs b=>by have:=b.cut (i:=0) (m:=j) ak d;simpa using this⟩;rw[run_slice_h w t A n c (cQ T) .i64 j ak ak,cO T];simp[Result.andThen,sliced]
theorem ND(T:aR P t e k bytes)(A:aA)(n c i:Nat)(j:i<=n)(d:n<=c)(l:Int)(g:l=i):
 ∃f h,CB P t k A n c (some (ae aj l)) none i (n-i) f h:=by
 subst g;refine⟨if c=i then A else A.map (·.add (i*k)),c-i,fun w=> ?_,ak,ak,fun w B Q b=>b.cut ak d,fun w B gs b=>b.cut ak d⟩;rw[run_slice_l w t A n c (cQ T) .i64 i ak ak,cO T];simp[Result.andThen,sliced]
theorem CB.run{d:Nat}{lo f:Option ahj}(h:CB P t k A n c lo f i m b d):∀w:ahh,(Instr.slice t (.slice A n c) lo f none).run P w=.ok (.slice b m d) w:=h.1
theorem CB.rx{d:Nat}{lo g:Option ahj}(h:CB P t k A n c lo g i m b d){w:ahh}{B:Nat}{gs:List aC}(f:Rx w B k gs A n):Rx w B k ((gs.drop i).take m) b m:=h.2.2.2.2 w B gs f
end
def RL(w:ahh)(B k:Nat)(L:List aC->Prop)(A:aA)(n:Nat):Prop:=∃gs,L gs/\Rx w B k gs A n
def OL(w:ahh)(B:Nat)(e:ahm)(k:Nat)(L:List aC->Prop)(A:aA)(n c:Nat):Prop:=
 ∃gs:List aC,gs.length=n/\(∀g∈gs,g.length=k)/\L gs/\aw w B e k A n c (gs.flatMap dk)
section
variable{w w':ahh}{B B' k n c:Nat}{e:ahm}{Q:aC -> Prop}{L L':List aC -> Prop}{A:aA}
theorem RL.Z(h:RL w B k L A n)(b:ahi B w w')(a:B<=B'):RL w' B' k L A n:=by
 obtain⟨gs,d,f⟩:=h;exact⟨gs,d,f.Z b a⟩
theorem Rx.rq(h:Rx w B k gs A n)(d:∀g∈gs,Q g):Rq w B k Q A n:=fun o=>by
 obtain⟨s,q,f⟩:=h;obtain⟨m,r,a,p⟩:=f o;refine⟨m,r,a,fun j t=> ?_⟩;have e:=List.getElem?_eq_getElem (l:=gs) (i:=j) ak;have b:=List.mem_of_getElem? e;exact⟨_,q _ b,d _ b,p j _ e⟩
theorem RL.rq(h:RL w B k L A n)(a:∀gs,L gs->∀g∈gs,Q g):Rq w B k Q A n:=by
 obtain⟨gs,b,d⟩:=h;exact d.rq (a gs b)
theorem OL.nil(w:ahh)(B:Nat)(e:ahm)(k:Nat)(h:L []):OL w B e k L none 0 0:=⟨[],rfl,(fun g h=>fA),h,aw.nil _ _ _ _⟩
theorem OL.ar(h:OL w B e k L A n c)(a:az w w'):OL w' B e k L A n c:=by
 obtain⟨gs,b,f,d,g⟩:=h;exact⟨gs,b,f,d,aw.ar g a⟩
theorem OL.oq(h:OL w B e k L A n c)(b:∀gs,L gs->∀g∈gs,Q g):Oq w B e k Q A n c:=by
 obtain⟨gs,f,j,i,d⟩:=h;exact⟨gs,f,fun g a=>⟨j g a,b gs i g a⟩,d⟩
theorem OL.o(h:OL w B e k L A n c):Oq w B e k (fun _=>True) A n c:=h.oq fun _ _ _ _=>trivial
theorem OL.cJ(h:OL w B e k L A n c)(l:B'<=B):OL w B' e k L A n c:=by
 obtain⟨gs,b,f,d,a⟩:=h;refine⟨gs,b,f,d,a.1, ?_⟩;rcases a.2 with i|⟨g,cap,cur,j,m,r⟩
 .exact .inl i
 .exact .inr ⟨g,cap,cur,j,ak,r⟩
theorem OL.imp(h:OL w B e k L A n c)(f:∀gs,gs.length=n->(∀g∈gs,g.length=k)->L gs->L' gs):OL w B e k L' A n c:=by
 obtain⟨gs,a,b,i,d⟩:=h;exact⟨gs,a,b,f gs a b i,d⟩
theorem OL.form(h:OL w B e k L A n c)(a:0<n):∃g,A=some ⟨g,0,none⟩/\B<=g/\g<w.heap.size:=h.o.form a
theorem OL.alloc(h:OL w B e k L A n c)(o:Obj):OL (w.alloc o) B e k L A n c:=h.ar ((Below.refl _ _).alloc bW o)
theorem Ll(s:0<k)(i:gs.length=n)(b:∀g∈gs,g.length=k)(h:aw w B e k A n c (gs.flatMap dk)):Rx w w.heap.size k gs A n:=by
 refine⟨i,b,fun o=> ?_⟩;obtain⟨g,rfl,_,l⟩:=aw.form h o;refine⟨_,rfl,l,fun j r a q x f=> ?_⟩;have p:=(List.getElem?_eq_some_iff.1 a).1;have d:=(List.getElem?_eq_some_iff.1 f).1;rw[b r (List.mem_of_getElem? a)]at d;have m:j*k+q<n*k:=by
  have:=Nat.mul_le_mul_right k (show j+1<=n by omega);rw[Nat.add_mul]at this;omega
 rw[aY,bj,aw.cellAt h _ m,AW gs b j q _ a d,f];rfl
theorem OL.rl(h:OL w B e k L A n c)(d:0<k):RL w w.heap.size k L A n:=by
 obtain⟨gs,a,f,b,g⟩:=h;exact⟨gs,b,Ll d a f g⟩
end
theorem bK{w:ahh}{o:Oper}{a:Act}{K:Exit->Act->ahh->Prop}{t e:ahm}{k:Nat}(T:aR P t e k bytes)(l:o.guard=none)(s x:Operand)
 (D:o.op=.call {callee:=.builtin .append,args:=#[s,x],argTypes:=#[t,t]}) {B:Nat} {L L':List aC->Prop} {A:aA} {n c:Nat} (v:a.eval s=.slice A n c) (f:OL w B e k L A n c)
 {b:Nat} (d:a.eval x=.slice (some ⟨b,0,none⟩) 1 1) (g:aC) (m:g.length=k) (z:∀j u,(dk g)[j]? =some u->w.cell? ⟨b,j,none⟩=some u) (C:∀gs,gs.length=n->(∀g∈gs,g.length=k)->L gs->L' (gs++[g]))
 (H:(n+1)*bytes<=140737488355328) (F:B<=w.heap.size)
 (h:∀i c' w',OL w' B e k L' i (n+1) c'->ahi B w w'->w.grownBy w' (Value.slice A n c).ownBlock->(∀g,i=some ⟨g,0,none⟩->A=some ⟨g,0,none⟩∨w.heap.size<=g)->wpList P ops K rest (a.put o.dst (.slice i (n+1) c')) w'):wpList P ops K (o::rest) a w:=by
 obtain⟨gs,h1,p,r,G⟩:=f;exact br T l s x D v G d (by simp[dk,m]) z (fun u hu=>abH) H F fun i c' w' o b E q=>h i c' w' ⟨gs++[g],nd,fun x d=>by
  rcases List.mem_append.1 d with d|d
  .exact p x d
  .simp at d;subst d;exact m,C gs h1 p r,by rw[List.flatMap_append];simpa using o⟩ b E q
theorem Rx.cells{w:ahh}{B k n:Nat}{A:aA}(h:Rx w B k gs A n):nm w A n (gs.flatMap dk):=fun t=>by
 obtain⟨z,o,r⟩:=h;obtain⟨s,q,_,v⟩:=r t;refine⟨s,q,fun j u i=> ?_⟩;have m:=(List.getElem?_eq_some_iff.1 i).1;rw[p' gs o]at m;have p:0<k:=by
  rcases Nat.eq_zero_or_pos k with l|l
  .subst l;omega
  .exact l
 have d:j/k<gs.length:=(Nat.div_lt_iff_lt_mul p).2 m;have f:j%k<k:=Nat.mod_lt _ p;have g:j=(j/k)*k+j%k:=by have:=Nat.div_add_mod j k;rw[Nat.mul_comm]at this;exact this.symm
 generalize j/k=a at*;generalize j%k=b at*;subst g;have e:=List.getElem?_eq_getElem d;rw[AW gs o a b _ e f,Option.map_eq_some_iff]at i;obtain⟨x,y,rfl⟩:=i;have:=v a _ e b x y;rwa [aY]at this
theorem cd{w:ahh}{o:Oper}{a:Act}{R:Exit->Act->ahh->Prop}{t e:ahm}{k:Nat}(T:aR P t e k bytes)(p:o.guard=none)(s x:Operand)
 (H:o.op=.call {callee:=.builtin .append,args:=#[s,x],argTypes:=#[t,t]}) {B B':Nat} {L M L':List aC->Prop} {A:aA} {n c:Nat} (b:a.eval s=.slice A n c) (i:OL w B e k L A n c)
 {C:aA} {m d:Nat} (G:a.eval x=.slice C m d) (F:RL w B' k M C m) (z:∀gs b,gs.length=n->b.length=m->(∀g∈gs,g.length=k)->(∀g∈b,g.length=k)->L gs->M b->L' (gs++b))
 (K:(n+m)*bytes<=140737488355328) (I:B<=w.heap.size)
 (h:∀l c' w',OL w' B e k L' l (n+m) c'->ahi B w w'->wpList P ops R rest (a.put o.dst (.slice l (n+m) c')) w'):wpList P ops R (o::rest) a w:=by
 obtain⟨gs,v,r,D,J⟩:=i;obtain⟨j,k3,k1⟩:=F;exact wpList_plain p fun _ hK=>oM T s x H b J G k1.cells (by rw[p' j k1.2.1,k1.1]) (fun u q=>by simp[dk]at q;obtain⟨_,_,y,_,rfl⟩:=q;rfl) K I fun l c' w' o1 E=>hK _ _ (h l c' w' ⟨gs++j,by simp[v,k1.1],fun g f=>by
  rcases List.mem_append.1 f with f|f
  .exact r g f
  .exact k1.2.1 g f,z _ _ v k1.1 r k1.2.1 D k3,by rw[List.flatMap_append];exact o1⟩ E)
theorem OL.set{w:ahh}{B k n c:Nat}{e:ahm}{L L':List aC->Prop}(h:OL w B e k L (some ⟨g,0,none⟩) n c){j q:Nat}(p:j<n)(f:q<k)(v:Int)(i:∀gs,(r:gs.length=n)->(∀g∈gs,g.length=k)->L gs->L' (gs.set j ((gs[j]' ak).set q v))):
 OL (w.setCell ⟨g,j*k+q,none⟩ (ae aj v)) B e k L' (some ⟨g,0,none⟩) n c:=by
 obtain⟨gs,h1,b,l,o⟩:=h;have a:j<gs.length:=ak;refine⟨gs.set j (gs[j].set q v),nd,fun x d=> ?_,i gs h1 b l, ?_⟩
 .rcases List.mem_or_eq_of_mem_set d with d|rfl
  .exact b x d
  .simp[b _ (List.getElem_mem a)]
 .have m:=(World.ownsRow.stored (cap:=c) o (j*k+q) (ae aj v)).1
  rwa [tM v f gs j b a]at m
def cR(c:Nat×Nat):aC:=[(c.1:Int),(c.2:Int)]
def sR(a:List (Nat×Nat))(s:Nat×Int):aC:=[((gB a s.1).2:Int),s.2]
structure Ca(S:List (Nat×Int))(i:Nat):Prop where
 up:S.Pairwise fun x y=>x.1<y.1
 lt:∀x∈S,x.1<i
theorem Ca.nil(i:Nat):Ca [] i:=⟨.nil,aQ⟩
theorem Ca.more{S:List (Nat×Int)}(h:Ca S i)(k:Int):Ca (S++[(i,k)]) (i+1):=⟨List.pairwise_append.2 ⟨h.up,List.pairwise_singleton _ _,fun x a y b=>by obtain rfl:=List.mem_singleton.1 b;exact h.lt x a⟩,fun x a=>by
 rcases List.mem_append.1 a with a|a
 .have:=h.lt x a;omega
 .obtain rfl:=List.mem_singleton.1 a;show i<i+1;omega⟩
theorem Ca.len{S:List (Nat×Int)}(h:Ca S i):S.length<=i:=by
 have key:∀q,(a:q<S.length)->q<=S[q].1:=fun q=>by
  induction q with
  |zero=>intro _;omega
  |succ q ih=>
   intro a;have b:=ih ak;have c:=List.pairwise_iff_getElem.1 h.up q (q+1) ak a ak;omega
 rcases Nat.eq_zero_or_pos S.length with d|d
 .omega
 .have b:=key (S.length-1) ak
  have c:=h.lt _ (List.getElem_mem (show S.length-1<S.length by omega));omega
def Ej(S:List (Nat×Int))(q:Nat):Nat:=(S.getD q (0,0)).1
theorem yq{S:List (Nat×Int)}(h:q<S.length):Ej S q=S[q].1:=by unfold Ej;simp[h]
theorem Ca.at_{S:List (Nat×Int)}(h:Ca S i)(a:q<S.length):Ej S q<i:=by rw[yq a];exact h.lt _ (List.getElem_mem a)
theorem Ca.afS{S:List (Nat×Int)}{r:Nat}(h:Ca S i)(a:q<r)(b:r<S.length):Ej S q<Ej S r:=by
 rw[yq ak,yq b];exact List.pairwise_iff_getElem.1 h.up q r ak b a
theorem Rx.AQ(h:Rx w B 2 gs A n)(d:j<n):∃a:Addr,A=some a/\w.cell? (a.add (j*2))=some (ae aj (nth (fC gs j) 0))/\w.cell? (bP (a.add (j*2)) 1)=some (ae aj (nth (fC gs j) 1)):=by
 obtain⟨a,e,_,_,b⟩:=h.at_ d;have c:=b 0 ak;rw[show(a.add (j*2)).add 0=a.add (j*2) by simp[Addr.add]]at c;exact⟨a,e,c,b 1 ak⟩
theorem Ev{a:List (Nat×Nat)}(h:j<a.length):fC (a.map cR) j=cR (gB a j):=by simp[fC,gB,h]
theorem VY{a:List (Nat×Nat)}(h:i<a.length):(a.map cR).take (i+1)=(a.map cR).take i++[cR (gB a i)]:=by
 rw[List.take_add_one,List.getElem?_map,List.getElem?_eq_getElem h];simp[gB,h]
theorem VH{α:Type}(F:α->aC){l:List α}{j:Nat}(h:j<l.length):fC (l.map F) j=F l[j]:=by simp[fC,h]
structure KP(N:Nat)(w w':ahh):Prop where
 sz:w.heap.size<=w'.heap.size
 bl:∀b,N<=b->b<w.heap.size->w'.heap[b]? =w.heap[b]?
theorem KP.refl(N:Nat)(w:ahh):KP N w w:=⟨Nat.le_refl _,fun _ _ _=>rfl⟩
theorem KP.cell{v:ahj}(h:KP N w a)(b:N<=g)(c:g<w.heap.size)(e:w.cell? ⟨g,j,none⟩=some v):a.cell? ⟨g,j,none⟩=some v:=by
 unfold World.cell? at e⊢;rw[h.bl g b c];exact e
theorem KP.set(h:KP N w a)(e:g<N)(v:ahj):KP N w (a.setCell ⟨g,j,none⟩ v):=⟨by rw[World.size_setCell];exact h.sz,fun b c d=>by
 rw[Below.heap_setCell _ _ _ _ (show b≠g by omega)];exact h.bl b c d⟩
theorem KP.below{c u:ahh}(h:KP N w c)(a:az c u):KP N w u:=⟨by have:=a.size;have:=h.sz;omega,fun b d e=>by
 rw[a.block b (by have:=h.sz;omega)];exact h.bl b d e⟩
def aat(w:ahh)(n:Nat)(e:ahn)(a:ahh):Prop:=∃(A:aA) (c:Nat) (xs:aC),e=.returned (.slice A n c)/\Own a w.heap.size 3 .i64 A n c xs/\az w a
def aaD(w:ahh)(B:Nat)(A:aA)(n c:Nat)(e:ahn)(a:ahh):Prop:=∃b,e=.returned (.slice A n c)/\Own a B 3 .i64 A n c b/\ahi B w a
def ab0(w:ahh)(e:ahn)(a:ahh):Prop:=∃z:Int,e=.returned (ae aj z)/\a=w
def afI(w:ahh)(e:ahn)(a:ahh):Prop:=∃z:Bool,e=.returned (.bool z)/\a=w
theorem ug(x:Int)(w:ahh):ahk prog 218 #[ae aj x] w (ab0 w):=by
 go_enter func218,ntmps218;go_wp2_with fail
 all_goals
  go_ret;exact⟨_,rfl,rfl⟩
theorem vq(x:Int)(w:ahh):ahk prog 220 #[ae aj x] w (afI w):=by
 go_enter func220,ntmps220;go_wp2_with fail
 all_goals
  go_ret;exact⟨_,rfl,rfl⟩
theorem abx{G:Prop}(s:G:=by
 obtain rfl:i=n:=by omega
 go_wp2;go_ret;exact⟨_,rfl,OM.o,BE.o⟩):G:=s
theorem aaL(B:Nat)(A:aA)(n c:Nat)(xs:aC)(w:ahh)(h:Own w B 3 .i64 A n c xs)(o:n<=4000):ahk prog 138 #[.slice A n c] w (aaD w B A n c):=by
 have e:=sH h;go_enter func138,ntmps138;go_wp2;go_loopg[3,4](n+1)(fun gg v3 v4 wr=>∃(i:Nat) (a:Int) (b:aC),n-i<gg/\i<=n/\v3=ae aj a/\v4=ae aj (i:Int)/\aq (Own wr B 3 .i64 A n c b)/\aq (ahi B w wr))
 .exact⟨0,0,xs,ak,ak,rfl,rfl,e,cA⟩
 obtain⟨i,a,b,f,l,rfl,rfl,OM,BE⟩:=hrel;by_cases d:i<n
 .obtain⟨g,rfl,_,_⟩:=aw.form OM.o ak
  have j:=bT OM.o d;have f1:=aw.frozenAt OM.o i;generalize k:nth b i=x at*;have m:=aU i n;go_wp2_with fail
  all_goals go_roundg(n-i)
  all_goals first
   |omega
   |exact⟨i+1,_,_,ak,ak,rfl,by go_num,OM,BE⟩
   |exact⟨i+1,_,_,ak,ak,rfl,by go_num,⟨Own.uw OM.o i _⟩,⟨Below.setCell BE.o (p:=⟨g,i,none⟩) (aw.xD OM.o).1 _⟩⟩
 .exact abx
theorem aem{G:Prop}(s:G:=by
 obtain⟨g,rfl,_,_⟩:=aw.form OM.o ak
 have c1:=bT OM.o aK;have f1:=aw.frozenAt OM.o i;generalize hx:nth ys i=x at*;have i1:=aU i n;go_wp2_with fail
 all_goals go_roundg(n-i)
 all_goals first
  |omega
  |exact⟨i+1,_,ak,ak,by go_num,OM,BE⟩
  |exact⟨i+1,_,ak,ak,by go_num,⟨Own.uw OM.o i _⟩,⟨Below.setCell BE.o (p:=⟨g,i,none⟩) (aw.xD OM.o).1 _⟩⟩):G:=s
theorem abd(B:Nat)(A:aA)(n c:Nat)(xs:aC)(w:ahh)(h:Own w B 3 .i64 A n c xs)(d:n<=4000):ahk prog 137 #[.slice A n c] w (aaD w B A n c):=by
 have a:=sH h;go_enter func137,ntmps137;go_wp2;go_loopg[3](n+1)(fun gg v3 wr=>∃(i:Nat) (ys:aC),n-i<gg/\i<=n/\v3=ae aj (i:Int)/\aq (Own wr B 3 .i64 A n c ys)/\aq (ahi B w wr))
 .exact⟨0,xs,ak,ak,rfl,a,cA⟩
 obtain⟨i,ys,b,e,rfl,OM,BE⟩:=hrel;by_cases aK:i<n
 .exact aem
 .exact abx
theorem abq(B:Nat)(A:aA)(n c:Nat)(xs:aC)(w:ahh)(h:Own w B 3 .i64 A n c xs)(d:n<=4000):ahk prog 134 #[.slice A n c] w (aaD w B A n c):=by
 have a:=sH h;go_enter func134,ntmps134;go_wp2;go_loopg[3](n+1)(fun gg v3 wr=>∃(i:Nat) (ys:aC),n-i<gg/\i<=n/\v3=ae aj (i:Int)/\aq (Own wr B 3 .i64 A n c ys)/\aq (ahi B w wr))
 .exact⟨0,xs,ak,ak,rfl,a,cA⟩
 obtain⟨i,ys,b,e,rfl,OM,BE⟩:=hrel;by_cases aK:i<n
 .exact aem
 .exact abx
end Go.Proofs.YtklncadpkniojaaGreatDoor
