/- Part of LineFills. -/
import Derived.Test.YtijcgdkpconjcaaGreatDoorAe
import Derived.Test.YtijcgdkpconjcaaGreatDoorRows
import Derived.Deep.CutBlock
import Derived.Deep.DeepCutAuto
import Derived.Deep.Slices
import Derived.SizedLaws
namespace Go.Proofs.YtijcgdkpconjcaaGreatDoor
open Go.ChangeShapes Go.WideShapes Go.ChangeAt Go.RowKit Go.Proofs.Tryz
open Go renaming World->EE,Value->EN,Calls->GK,TypeId->IQ,Ending->IS,Program->I3
open Go.RowKit renaming Below->EI
open Option renaming some->OH,none->OJ
open Bool renaming true->OX,false->OZ
open Go.Value renaming slice->Pl,bool->PF,agg->Q4
open Go.Ending renaming returned->RE
open Go.Obj renaming cells->RM
open Go.Value renaming int->ae
open Go.IntKind renaming i64->aj
set_option linter.all false
set_option maxRecDepth 100000
set_option maxHeartbeats 16000000
variable{G p:Prop}{A:aB}{B N a b bytes c g i j m q:Nat}{d w:EE}{e:IQ}{cs xs:aC}{P:I3}{Q:aC->Prop}{gs:List aC}{ops:Array Oper}{rest:List Oper}{hi lo z:Int}
structure ak(p:Prop):Prop where
 o:p
def sH(h:p):ak p:=⟨h⟩
def ak.t {a b c:EE} (h:ak (az a b)) (k:az b c):ak (az a c):=⟨h.o.trans (k.mono h.o.size)⟩
def K'{A B:Prop}(a:A)(b:B):ak A/\ak B:=⟨sH a,sH b⟩
def MO{A B C:Prop}(a:A)(b:B)(c:C):ak A/\ak B/\ak C:=⟨sH a,K' b c⟩
def MQ{A B C D:Prop}(a:A)(b:B)(c:C)(d:D):ak A/\ak B/\ak C/\ak D:=⟨sH a,MO b c d⟩
def MR{A B C D E:Prop}(a:A)(b:B)(c:C)(d:D)(e:E):ak A/\ak B/\ak C/\ak D/\ak E:=⟨sH a,MQ b c d e⟩
def NT{A B C D E F:Prop}(a:A)(b:B)(c:C)(d:D)(e:E)(f:F):ak A/\ak B/\ak C/\ak D/\ak E/\ak F:=⟨sH a,MR b c d e f⟩
def fx{a b:Int}(h:a=b):Ending.returned (ae aj a)=Ending.returned (ae aj b):=by rw[h]
def TIv:aS prog 39 3 1 8:=bD underlying39 (z:=ae aj 0) aF rfl aq aq
def I1:(prog.info? 3).map (·.zero)=OH (OH (ae aj 0)):=by kernel_rfl
def bU{n:Nat}{k:IntKind}(h:Own w B e k (OH ⟨g,0,OJ⟩) n c xs){j:Nat}(b:j<n):w.cell? ⟨g,j,OJ⟩=OH (.int k (nth xs j)):=by
 have a:=h.len;rw[aA.cellAt h j aq,List.getElem?_map,List.getElem?_eq_getElem aq,bZ aq];rfl
def Own.gW{k:IntKind}{n:Nat}(h:Own w B e k A n c xs)(f:a<=B):Own w a e k A n c xs:=by
 refine⟨h.1, ?_⟩;rcases h.2 with d|⟨g,cap,cur,b,i,r⟩
 .exact .inl d
 .exact .inr ⟨g,cap,cur,b,aq,r⟩
def nF(w:EE)(v:EN)(t:IQ)(N:Nat)(h:w.heap.size=N):(w.alloc (RM #[v] t)).cell? ⟨N,0,OJ⟩=OH v:=by subst h;exact bk w v t
def bJ{a:EE}(h:EI B a w):EI B a w.drew:=⟨h.os,h.tape,h.output,h.size,h.block⟩
def callK{f:FuncId}{args:Array EN}{W w0:EE}{v:EN}{Q:IS->EE->Prop}(h:GK P f args W λe d=>e=RE v/\EI W.heap.size W d)(c:ak (EI w0.heap.size w0 W))(k:∀a,EI W.heap.size W a->ak (EI w0.heap.size w0 a)->Q (RE v) a):GK P f args W Q:=
 h.mono λ_ a ⟨e,b⟩=>e▸k a b ⟨c.o.trans (b.mono c.o.size)⟩
def cJ{n:Nat}:ak (EI n w w):=⟨Below.refl _ _⟩
def Rq(w:EE)(B k:Nat)(Q:aC->Prop)(A:aB)(n:Nat):Prop:=
 0<n->∃a,A=OH a/\a.block<B/\∀j,j<n->∃g:aC,g.length=k/\Q g/\∀q x,g[q]? =OH x->w.cell? ((a.add (j*k)).add q)=OH (ae aj x)
def dt(g:aC):List EN:=g.map (ae aj)
def Oq(w:EE)(B:Nat)(e:IQ)(k:Nat)(Q:aC->Prop)(A:aB)(n c:Nat):Prop:=
 ∃gs:List aC,gs.length=n/\(∀g∈gs,g.length=k/\Q g)/\aA w B e k A n c (gs.flatMap dt)
def wT{k:Nat}:∀(l:List aC) (h:∀g∈l,g.length=k) (q i:Nat) (g:aC),l[q]? =OH g->i<k->(l.flatMap dt)[q*k+i]? =(g[i]?).map (ae aj)
 |[],_,q,i,g,h,_=>by simp at h
 |y::l,hl,0,i,g,h,hi=>by
  simp at h;subst h;have:=hl y aT;rw[List.flatMap_cons,List.getElem?_append_left (by simp[dt];omega)];simp[dt]
 |y::l,hl,q+1,i,g,h,hi=>by
  simp at h;have b:=hl y aT;have hlen:(dt y).length=k:=by simp[dt,b]
  rw[List.flatMap_cons,List.getElem?_append_right (by rw[hlen,Nat.add_mul];omega),hlen,show(q+1)*k+i-k=q*k+i by rw[Nat.add_mul];omega];exact wT l (λg a=>hl g (by simp[a])) q i g h hi
def qo{k:Nat}(l:List aC)(h:∀g∈l,g.length=k):(l.flatMap dt).length=l.length*k:=by
 induction l with
 |nil=>simp
 |cons y l ih=>
  rw[List.flatMap_cons,List.length_append,ih λg a=>h g (by simp[a]),List.length_cons,Nat.add_mul];simp[dt,h y aT];omega
section
variable{w w':EE}{B B' k n c:Nat}{e:IQ}{Q Q':aC -> Prop}{A:aB}
def Rq.Z(h:Rq w B k Q A n)(f:EI B w w')(s:B<=B'):Rq w' B' k Q A n:=λp=>by
 obtain⟨o,b,aG,l⟩:=h p;refine⟨o,b,aq,λj a=> ?_⟩;obtain⟨g,i,m,d⟩:=l j a;exact⟨g,i,m,λq x r=>(f.cell AI).trans (d q x r)⟩
def Rq.imp(h:Rq w B k Q A n)(p:∀g,Q g->Q' g):Rq w B k Q' A n:=λo=>by
 obtain⟨m,q,a,f⟩:=h o;refine⟨m,q,a,λj l=> ?_⟩;obtain⟨g,d,i,b⟩:=f j l;exact⟨g,d,p g i,b⟩
def Rq.less(h:Rq w B k Q A n)(g:m<=n):Rq w B k Q A m:=λl=>by
 obtain⟨d,f,a,b⟩:=h aq;exact⟨d,f,a,λj i=>b j aq⟩
def Oq.nil(w:EE)(B:Nat)(e:IQ)(k:Nat)(Q:aC->Prop):Oq w B e k Q OJ 0 0:=⟨[],rfl,(λg h=>fD),aA.nil _ _ _ _⟩
def Oq.ar(h:Oq w B e k Q A n c)(b:az w w'):Oq w' B e k Q A n c:=by
 obtain⟨gs,d,f,a⟩:=h;exact⟨gs,d,f,aA.ar a b⟩
def Oq.cS(h:Oq w B e k Q A n c)(l:B'<=B):Oq w B' e k Q A n c:=by
 obtain⟨gs,b,f,a⟩:=h;refine⟨gs,b,f,a.1, ?_⟩;rcases a.2 with i|⟨g,cap,cur,d,j,r⟩
 .exact .inl i
 .exact .inr ⟨g,cap,cur,d,aq,r⟩
def Oq.imp(h:Oq w B e k Q A n c)(i:∀g,Q g->Q' g):Oq w B e k Q' A n c:=by
 obtain⟨gs,f,a,d⟩:=h;exact⟨gs,f,λg b=>⟨(a g b).1,i g (a g b).2⟩,d⟩
def Oq.form(h:Oq w B e k Q A n c)(b:0<n):∃g,A=OH ⟨g,0,OJ⟩/\B<=g/\g<w.heap.size:=by
 obtain⟨gs,d,f,a⟩:=h;exact aA.form a b
def Oq.rq(h:Oq w B e k Q A n c)(u:0<k):Rq w w.heap.size k Q A n:=λp=>by
 obtain⟨gs,s,d,b⟩:=h;obtain⟨g,rfl,_,a⟩:=aA.form b p;refine⟨_,rfl,a,λj r=> ?_⟩;have e:gs[j]? =OH gs[j]:=List.getElem?_eq_getElem aq;have f:=d _ (List.getElem_mem (l:=gs) (n:=j) aq);refine⟨gs[j],f.1,f.2,λq x i=> ?_⟩;have t:=(List.getElem?_eq_some_iff.1 i).1;have m:j*k+q<n*k:=by
  have:=Nat.mul_le_mul_right k (show j+1<=n by omega);rw[Nat.add_mul]at this;omega
 rw[aY,bC,aA.cellAt b (j*k+q) m,wT gs (λg o=>(d g o).1) j q _ e aq,i];rfl
def Oq.more{b:aB}{c':Nat}(h1:gs.length=n)(f:∀g∈gs,g.length=k/\Q g){g:aC}(i:g.length=k)(h:Q g)(d:aA w B e k b (n+1) c' (gs.flatMap dt++dt g)):Oq w B e k Q b (n+1) c':=by
 refine⟨gs++[g],mo,λx a=> ?_,by rw[List.flatMap_append];simpa using d⟩;rw[List.mem_append]at a;rcases a with a|a
 .exact f x a
 .simp at a;subst a;exact⟨i,h⟩
end
def jN{w:EE}{o:Oper}{a:Act}{K:Exit->Act->EE->Prop}{t e:IQ}{k:Nat}(T:aS P t e k bytes)(i:o.guard=OJ)(s x:Operand)
 (F:o.op=.call {callee:=.builtin .append,args:=#[s,x],argTypes:=#[t,t]}) {B:Nat} {Q:aC->Prop} {A:aB} {n c:Nat} (r:a.eval s=Pl A n c) (d:Oq w B e k Q A n c)
 {b:Nat} (E:a.eval x=Pl (OH ⟨b,0,OJ⟩) 1 1) (g:aC) (l:g.length=k) (z:∀j u,(dt g)[j]? =OH u->w.cell? ⟨b,j,OJ⟩=OH u) (q:Q g)
 (D:(n+1)*bytes<=140737488355328) (v:B<=w.heap.size)
 (h:∀f c' w',Oq w' B e k Q f (n+1) c'->EI B w w'->wpList P ops K rest (a.put o.dst (Pl f (n+1) c')) w'):wpList P ops K (o::rest) a w:=by
 obtain⟨gs,p,C,m⟩:=d;exact bE T i s x F r m E (by simp[dt,l]) z (λu hu=>zy) D v λf c' w' o b _ _=>h f c' w' (Oq.more p C l q o) b
def pd{k q:Nat}(v:Int)(f:q<k):∀(gs:List aC) (j:Nat) (_:∀g∈gs,g.length=k) (hj:j<gs.length),(gs.flatMap dt).set (j*k+q) (ae aj v)=(gs.set j (gs[j].set q v)).flatMap dt
 |[],j,_,hj=>by simp at hj
 |a::l,0,h,hj=>by
  have b:(dt a).length=k:=by simp[dt,h a (by simp)]
  rw[List.flatMap_cons,List.set_append_left _ _ aq];simp[dt,List.map_set]
 |a::l,j+1,h,hj=>by
  have b:(dt a).length=k:=by simp[dt,h a (by simp)]
  have hi:(j+1)*k+q-k=j*k+q:=Jq;rw[List.flatMap_cons,List.set_append_right _ _ (by rw[b,Nat.add_mul];omega),b,hi,pd v f l j (λg d=>h g (by simp[d])) vO];simp
def Oq.set{w:EE}{B k n c:Nat}{e:IQ}{Q:aC->Prop}(h:Oq w B e k Q (OH ⟨g,0,OJ⟩) n c){j q:Nat}(r:j<n)(p:q<k)(v:Int)(m:∀x,x.length=k->Q x->Q (x.set q v)):
 Oq (w.setCell ⟨g,j*k+q,OJ⟩ (ae aj v)) B e k Q (OH ⟨g,0,OJ⟩) n c:=by
 obtain⟨gs,h1,b,l⟩:=h;have a:j<gs.length:=aq;have d:=b _ (List.getElem_mem a);refine⟨gs.set j (gs[j].set q v),mo,λx f=> ?_, ?_⟩
 .rcases List.mem_or_eq_of_mem_set f with f|rfl
  .exact b x f
  .exact⟨by simp[d.1],m _ d.1 d.2⟩
 .have i:=(World.ownsRow.stored (cap:=c) l (j*k+q) (ae aj v)).1
  rwa [pd v p gs j (λg o=>(b g o).1) a]at i
def Rx(w:EE)(B k:Nat)(gs:List aC)(A:aB)(n:Nat):Prop:=
 gs.length=n/\(∀g∈gs,g.length=k)/\(0<n->∃b,A=OH b/\b.block<B/\∀(j:Nat) (g:aC),gs[j]? =OH g->∀q x,g[q]? =OH x->w.cell? ((b.add (j*k)).add q)=OH (ae aj x))
def Rx.Z{w c:EE}{k n:Nat}(h:Rx w B k gs A n)(i:EI B w c)(s:B<=b):Rx c b k gs A n:=⟨h.1,h.2.1,λp=>by
 obtain⟨m,f,aG,l⟩:=h.2.2 p;exact⟨m,f,aq,λj g d q x r=>(i.cell AI).trans (l j g d q x r)⟩⟩
def Rq.rx{w:EE}{k n:Nat}(h:Rq w B k Q A n):∃gs,Rx w B k gs A n/\∀g∈gs,Q g:=by
 rcases Nat.eq_zero_or_pos n with rfl|r
 .exact⟨[],⟨rfl,aT,λh=>absurd h aq⟩,aT⟩
 obtain⟨l,m,i,p⟩:=h r;have c:∀j:Fin n,∃g:aC,g.length=k/\Q g/\∀q x,g[q]? =OH x->w.cell? ((l.add (j.1*k)).add q)=OH (ae aj x):=λj=>p j.1 j.2
 let F:Fin n->aC:=λj=>(c j).choose
 have d:=λj=>(c j).choose_spec
 refine⟨List.ofFn F,⟨aT,λg f=> ?_,λ_=>⟨l,m,i,λj g b q x s=> ?_⟩⟩,λg f=> ?_⟩
 .obtain⟨j,rfl⟩:=List.mem_ofFn.1 f
  exact(d j).1
 .rw[List.getElem?_ofFn]at b
  split at b
  .injection b with b
   subst b;exact(d _).2.2 q x s
  .cases b
 .obtain⟨j,rfl⟩:=List.mem_ofFn.1 f
  exact(d j).2.1
def aM(gs:List aC):aC:=gs.map (nth · 1)
def dS(gs:List aC)(j:Nat):aC:=gs.getD j []
def gK(h:j<gs.length):nth (aM gs) j=nth (dS gs j) 1:=by simp[aM,nth,dS,h]
def Rx.at_{w:EE}{k n:Nat}(h:Rx w B k gs A n){j:Nat}(m:j<n):∃b,A=OH b/\(dS gs j).length=k/\dS gs j∈gs/\∀q,q<k->w.cell? ((b.add (j*k)).add q)=OH (ae aj (nth (dS gs j) q)):=by
 obtain⟨p,d,g⟩:=h;obtain⟨b,f,l,i⟩:=g aq;have e:gs[j]? =OH (dS gs j):=by simp[dS,List.getElem?_eq_getElem (show j<gs.length by omega)]
 have c:=List.mem_of_getElem? e;refine⟨b,f,d _ c,c,λq r=>i j _ e q _ ?_⟩;have:=d _ c;rw[bZ aq,List.getElem?_eq_getElem]
section
variable{P:I3}{w:EE}{o:Oper}{a:Act}{R:Exit -> Act -> EE -> Prop}{t e:IQ}{size bytes:Nat}
def nu(w:EE)(C:aB)(m:Nat)(news:List EN):Prop:=0<m->∃b,C=OH b/\∀j u,news[j]? =OH u->w.cell? (b.add j)=OH u
def oC{K:Act->EE->Prop}(T:aS P t e size bytes)(s x:Operand)
 (Q:o.op=.call {callee:=.builtin .append,args:=#[s,x],argTypes:=#[t,t]}) {B:Nat} {A:aB} {n c:Nat} {vs:List EN} (I:a.eval s=Pl A n c) (b:aA w B e size A n c vs)
 {C:aB} {m d:Nat} {news:List EN} (O:a.eval x=Pl C m d) (L:nu w C m news) (hl:news.length=m*size) (r:∀u∈news,u.oneCell'=OX)
 (W:(n+m)*bytes<=140737488355328) (J:B<=w.heap.size)
 (h:∀l c' q,aA q B e size l (n+m) c' (vs++news)->EI B w q->K (a.put o.dst (Pl l (n+m) c')) q):o.wp P a w K R:=by
 obtain⟨i,z,hi,S,H,D,F⟩:=T.info;have v:=T.Aw;have X:n+m<=140737488355328:=by
  have M:(n+m)*1<=(n+m)*bytes:=Nat.mul_le_mul_left _ v;omega
 cases C with
 |none=>
  obtain rfl:m=0:=by
   rcases Nat.eq_zero_or_pos m with f|f
   .exact f
   .obtain⟨_,E,_⟩:=L f;cases E
  obtain rfl:news=[]:=List.eq_nil_of_length_eq_zero Cr;have p:=run_append_nothing (P:=P) w t t o.type e i T.ht hi A n c (aA.le b) (Pl OJ 0 d) (Src.ofNil (size:=i.size) (w:=w) T.ht d);unfold Oper.wp execOp;simp only[Q,resolve,invoke,builtin,Sem.run_bind,Sem.run_pure,Result.andThen_ok,List.map_toArray,List.map_cons,List.map_nil,I,O,p];have:=h A c w (by simpa using b) (Below.refl _ _);simp only[Nat.add_zero]at this;exact this
 |some ad=>
  refine wp_append_own w s x t Q B e i z size bytes T.ht hi S H D F T.pos (Pl A n c) n _ I b ad m d news O hl (λj u N=> ?_) r ri W J ?_
  .have Y:=(List.getElem?_eq_some_iff.1 N).1
   obtain⟨y,E,V⟩:=L (by
    rcases Nat.eq_zero_or_pos m with f|f
    .subst f;omega
    .exact f)
   obtain rfl:ad=y:=Option.some.inj E;exact V j u N
  .intro U q r M _
   obtain⟨l,c',rfl⟩:∃l c',U=Pl l (n+m) c':=by
    rcases r.2 with⟨G,f⟩|⟨g,cap,cur,G,_⟩
    .exact⟨OJ,0,by rw[G,f]⟩
    .exact⟨_,_,G⟩
   exact h l c' q r (aA.dF b M J)
end
def xL(P:I3)(t:IQ)(k:Nat)(A:aB)(n c:Nat)(lo hi:Option EN)(i m:Nat)(b:aB)(d:Nat):Prop:=
 (∀w:EE,(Instr.slice t (Pl A n c) lo hi OJ).run P w=.ok (Pl b m d) w)/\m<=d/\d<=c/\(∀w B Q,Rq w B k Q A n->Rq w B k Q b m)/\∀w B gs,Rx w B k gs A n->Rx w B k ((gs.drop i).take m) b m
section
variable{P:I3}{t e:IQ}{bytes k:Nat}
def Rq.cut{w:EE}{n cap:Nat}(h:Rq w B k Q A n)(y:i+m<=n)(v:n<=cap):Rq w B k Q (if cap=i then A else A.map (·.add (i*k))) m:=λs=>by
 obtain⟨l,rfl,hb,b⟩:=h aq;rw[if_neg aq];refine⟨l.add (i*k),rfl,Mb,λj u=> ?_⟩;obtain⟨g,f,p,d⟩:=b (i+j) aq;refine⟨g,f,p,λq x r=> ?_⟩;have c:=d q x r;rw[aY]at c;rw[aY,aY];rwa [show i*k+(j*k+q)=(i+j)*k+q by rw[Nat.add_mul];omega]
def Rx.cut{w:EE}{n cap:Nat}(h:Rx w B k gs A n)(C:i+m<=n)(z:n<=cap):Rx w B k ((gs.drop i).take m) (if cap=i then A else A.map (·.add (i*k))) m:=by
 obtain⟨y,s,l⟩:=h;refine⟨br,λg r=>s g (List.mem_of_mem_drop (List.mem_of_mem_take r)),λv=> ?_⟩;obtain⟨p,rfl,hb,b⟩:=l aq;rw[if_neg aq];refine⟨p.add (i*k),rfl,Mb,λj g c q x u=> ?_⟩;have d:=(List.getElem?_eq_some_iff.1 c).1;rw[List.length_take]at d;rw[List.getElem?_take,if_pos aq,List.getElem?_drop]at c;have f:=b (i+j) g c q x u;rw[aY]at f;rw[aY,aY];rwa [show i*k+(j*k+q)=(i+j)*k+q by rw[Nat.add_mul];omega]
def Ie(T:aS P t e k bytes)(A:aB)(n c i j:Nat)(g:i<=j)(r:j<=n)(d:n<=c)(l h:Int)(p:l=i)(q:h=j):
 ∃f m,xL P t k A n c (OH (ae aj l)) (OH (ae aj h)) i (j-i) f m:=by
 subst p;subst q
 refine⟨if c=i then A else A.map (·.add (i*k)),c-i,λw=> ?_,aq,aq,λw B Q b=>b.cut aq d,λw B gs b=>b.cut aq d⟩;rw[run_slice_lh w t A n c (cY T) .i64 .i64 i j aq aq aq,de T];simp[Result.andThen,sliced]
def Ff(T:aS P t e k bytes)(A:aB)(n c j:Nat)(p:j<=n)(d:n<=c)(h:Int)(l:h=j):
 ∃f g,xL P t k A n c OJ (OH (ae aj h)) 0 j f g:=by
 subst l;refine⟨if c=0 then A else A.map (·.add 0),c,λw=> ?_,aq,aq,λw B Q b=>by have:=b.cut (i:=0) (m:=j) aq d;simpa using this,λw B gs b=>by have:=b.cut (i:=0) (m:=j) aq d;simpa using this⟩;rw[run_slice_h w t A n c (cY T) .i64 j aq aq,de T];simp[Result.andThen,sliced]
def Sc(T:aS P t e k bytes)(A:aB)(n c i:Nat)(hi:i<=n)(d:n<=c)(l:Int)(h:l=i):
 ∃f g,xL P t k A n c (OH (ae aj l)) OJ i (n-i) f g:=by
 subst h;refine⟨if c=i then A else A.map (·.add (i*k)),c-i,λw=> ?_,aq,aq,λw B Q b=>b.cut aq d,λw B gs b=>b.cut aq d⟩;rw[run_slice_l w t A n c (cY T) .i64 i aq aq,de T];simp[Result.andThen,sliced]
def xL.run{d:aB}{n:Nat}{lo hi:Option EN}(h:xL P t k A n c lo hi i m d b):∀w:EE,(Instr.slice t (Pl A n c) lo hi OJ).run P w=.ok (Pl d m b) w:=h.1
def xL.rq{b:aB}{n d:Nat}{lo hi:Option EN}(h:xL P t k A n c lo hi i m b d){w:EE}{B:Nat}{Q:aC->Prop}(f:Rq w B k Q A n):Rq w B k Q b m:=h.2.2.2.1 w B Q f
def xL.rx{b:aB}{n d:Nat}{lo hi:Option EN}(h:xL P t k A n c lo hi i m b d){w:EE}{B:Nat}{gs:List aC}(f:Rx w B k gs A n):Rx w B k ((gs.drop i).take m) b m:=h.2.2.2.2 w B gs f
end
def RL(w:EE)(B k:Nat)(L:List aC->Prop)(A:aB)(n:Nat):Prop:=∃gs,L gs/\Rx w B k gs A n
def OL(w:EE)(B:Nat)(e:IQ)(k:Nat)(L:List aC->Prop)(A:aB)(n c:Nat):Prop:=
 ∃gs:List aC,gs.length=n/\(∀g∈gs,g.length=k)/\L gs/\aA w B e k A n c (gs.flatMap dt)
section
variable{w w':EE}{B B' k n c:Nat}{e:IQ}{Q:aC -> Prop}{L L':List aC -> Prop}{A:aB}
def RL.Z(h:RL w B k L A n)(a:EI B w w')(f:B<=B'):RL w' B' k L A n:=by
 obtain⟨gs,b,d⟩:=h;exact⟨gs,b,d.Z a f⟩
def RL.imp(h:RL w B k L A n)(d:∀gs,gs.length=n->(∀g∈gs,g.length=k)->L gs->L' gs):RL w B k L' A n:=by
 obtain⟨gs,b,a⟩:=h;exact⟨gs,d gs a.1 a.2.1 b,a⟩
def Rx.rq(h:Rx w B k gs A n)(r:∀g∈gs,Q g):Rq w B k Q A n:=λq=>by
 obtain⟨t,o,f⟩:=h;obtain⟨p,d,a,m⟩:=f q;refine⟨p,d,a,λj s=> ?_⟩;have e:=List.getElem?_eq_getElem (l:=gs) (i:=j) aq;have b:=List.mem_of_getElem? e;exact⟨_,o _ b,r _ b,m j _ e⟩
def RL.rq(h:RL w B k L A n)(d:∀gs,L gs->∀g∈gs,Q g):Rq w B k Q A n:=by
 obtain⟨gs,a,b⟩:=h;exact b.rq (d gs a)
def OL.nil(w:EE)(B:Nat)(e:IQ)(k:Nat)(h:L []):OL w B e k L OJ 0 0:=⟨[],rfl,(λg h=>fD),h,aA.nil _ _ _ _⟩
def OL.ar(h:OL w B e k L A n c)(b:az w w'):OL w' B e k L A n c:=by
 obtain⟨gs,d,f,a,g⟩:=h;exact⟨gs,d,f,a,aA.ar g b⟩
def OL.oq(h:OL w B e k L A n c)(i:∀gs,L gs->∀g∈gs,Q g):Oq w B e k Q A n c:=by
 obtain⟨gs,d,f,b,j⟩:=h;exact⟨gs,d,λg a=>⟨f g a,i gs b g a⟩,j⟩
def OL.o(h:OL w B e k L A n c):Oq w B e k (λ_=>True) A n c:=h.oq λ_ _ _ _=>trivial
def OL.cS(h:OL w B e k L A n c)(m:B'<=B):OL w B' e k L A n c:=by
 obtain⟨gs,f,j,b,a⟩:=h;refine⟨gs,f,j,b,a.1, ?_⟩;rcases a.2 with d|⟨g,cap,cur,i,l,r⟩
 .exact .inl d
 .exact .inr ⟨g,cap,cur,i,aq,r⟩
def OL.imp(h:OL w B e k L A n c)(f:∀gs,gs.length=n->(∀g∈gs,g.length=k)->L gs->L' gs):OL w B e k L' A n c:=by
 obtain⟨gs,a,b,d,i⟩:=h;exact⟨gs,a,b,f gs a b d,i⟩
def OL.form(h:OL w B e k L A n c)(a:0<n):∃g,A=OH ⟨g,0,OJ⟩/\B<=g/\g<w.heap.size:=h.o.form a
def OL.alloc(h:OL w B e k L A n c)(o:Obj):OL (w.alloc o) B e k L A n c:=h.ar ((Below.refl _ _).alloc cr o)
def DZ(s:0<k)(l:gs.length=n)(b:∀g∈gs,g.length=k)(h:aA w B e k A n c (gs.flatMap dt)):Rx w w.heap.size k gs A n:=by
 refine⟨l,b,λm=> ?_⟩;obtain⟨g,rfl,_,o⟩:=aA.form h m;refine⟨_,rfl,o,λj r a q x f=> ?_⟩;have p:=(List.getElem?_eq_some_iff.1 a).1;have d:=(List.getElem?_eq_some_iff.1 f).1;rw[b r (List.mem_of_getElem? a)]at d;have i:j*k+q<n*k:=by
  have:=Nat.mul_le_mul_right k (show j+1<=n by omega);rw[Nat.add_mul]at this;omega
 rw[aY,bC,aA.cellAt h _ i,wT gs b j q _ a d,f];rfl
def OL.rl(h:OL w B e k L A n c)(g:0<k):RL w w.heap.size k L A n:=by
 obtain⟨gs,b,d,a,f⟩:=h;exact⟨gs,a,DZ g b d f⟩
end
def cd{w:EE}{o:Oper}{a:Act}{K:Exit->Act->EE->Prop}{t e:IQ}{k:Nat}(T:aS P t e k bytes)(l:o.guard=OJ)(s x:Operand)
 (H:o.op=.call {callee:=.builtin .append,args:=#[s,x],argTypes:=#[t,t]}) {B:Nat} {L L':List aC->Prop} {A:aB} {n c:Nat} (D:a.eval s=Pl A n c) (f:OL w B e k L A n c)
 {b:Nat} (d:a.eval x=Pl (OH ⟨b,0,OJ⟩) 1 1) (g:aC) (m:g.length=k) (F:∀j u,(dt g)[j]? =OH u->w.cell? ⟨b,j,OJ⟩=OH u) (v:∀gs,gs.length=n->(∀g∈gs,g.length=k)->L gs->L' (gs++[g]))
 (G:(n+1)*bytes<=140737488355328) (E:B<=w.heap.size)
 (h:∀i c' w',OL w' B e k L' i (n+1) c'->EI B w w'->w.grownBy w' (Value.slice A n c).ownBlock->(∀g,i=OH ⟨g,0,OJ⟩->A=OH ⟨g,0,OJ⟩∨w.heap.size<=g)->wpList P ops K rest (a.put o.dst (Pl i (n+1) c')) w'):wpList P ops K (o::rest) a w:=by
 obtain⟨gs,h1,p,r,q⟩:=f;exact bE T l s x H D q d (by simp[dt,m]) F (λu hu=>zy) G E λi c' w' o b C z=>h i c' w' ⟨gs++[g],mo,λx d=>by
  rcases List.mem_append.1 d with d|d
  .exact p x d
  .simp at d;subst d;exact m,v gs h1 p r,by rw[List.flatMap_append];simpa using o⟩ b C z
def Rx.cells{w:EE}{B k n:Nat}{A:aB}(h:Rx w B k gs A n):nu w A n (gs.flatMap dt):=λv=>by
 obtain⟨z,o,r⟩:=h;obtain⟨t,q,_,s⟩:=r v;refine⟨t,q,λj u i=> ?_⟩;have m:=(List.getElem?_eq_some_iff.1 i).1;rw[qo gs o]at m;have p:0<k:=by
  rcases Nat.eq_zero_or_pos k with d|d
  .subst d;omega
  .exact d
 have g:j/k<gs.length:=(Nat.div_lt_iff_lt_mul p).2 m;have l:j%k<k:=Nat.mod_lt _ p;have f:j=(j/k)*k+j%k:=by have:=Nat.div_add_mod j k;rw[Nat.mul_comm]at this;exact this.symm
 generalize j/k=a at*;generalize j%k=b at*;subst f;have e:=List.getElem?_eq_getElem g;rw[wT gs o a b _ e l,Option.map_eq_some_iff]at i;obtain⟨x,y,rfl⟩:=i;have:=s a _ e b x y;rwa [aY]at this
def cL{w:EE}{o:Oper}{a:Act}{R:Exit->Act->EE->Prop}{t e:IQ}{k:Nat}(T:aS P t e k bytes)(q:o.guard=OJ)(s x:Operand)
 (O:o.op=.call {callee:=.builtin .append,args:=#[s,x],argTypes:=#[t,t]}) {B B':Nat} {L M L':List aC->Prop} {A:aB} {n c:Nat} (f:a.eval s=Pl A n c) (i:OL w B e k L A n c)
 {C:aB} {m d:Nat} (N:a.eval x=Pl C m d) (I:RL w B' k M C m) (G:∀gs f,gs.length=n->f.length=m->(∀g∈gs,g.length=k)->(∀g∈f,g.length=k)->L gs->M f->L' (gs++f))
 (J:(n+m)*bytes<=140737488355328) (H:B<=w.heap.size)
 (h:∀p c' w',OL w' B e k L' p (n+m) c'->EI B w w'->wpList P ops R rest (a.put o.dst (Pl p (n+m) c')) w'):wpList P ops R (o::rest) a w:=by
 obtain⟨gs,r,v,F,E⟩:=i;obtain⟨l,K,b⟩:=I;exact wpList_plain q λ_ hK=>oC T s x O f E N b.cells (by rw[qo l b.2.1,b.1]) (λu z=>by simp[dt]at z;obtain⟨_,_,y,_,rfl⟩:=z;rfl) J H λp c' w' o1 D=>hK _ _ (h p c' w' ⟨gs++l,by simp[r,b.1],λg j=>by
  rcases List.mem_append.1 j with j|j
  .exact v g j
  .exact b.2.1 g j,G _ _ r b.1 v b.2.1 F K,by rw[List.flatMap_append];exact o1⟩ D)
def OL.set{w:EE}{B k n c:Nat}{e:IQ}{L L':List aC->Prop}(h:OL w B e k L (OH ⟨g,0,OJ⟩) n c){j q:Nat}(p:j<n)(o:q<k)(v:Int)(f:∀gs,(r:gs.length=n)->(∀g∈gs,g.length=k)->L gs->L' (gs.set j ((gs[j]' aq).set q v))):
 OL (w.setCell ⟨g,j*k+q,OJ⟩ (ae aj v)) B e k L' (OH ⟨g,0,OJ⟩) n c:=by
 obtain⟨gs,h1,b,l,i⟩:=h;have a:j<gs.length:=aq;refine⟨gs.set j (gs[j].set q v),mo,λx d=> ?_,f gs h1 b l, ?_⟩
 .rcases List.mem_or_eq_of_mem_set d with d|rfl
  .exact b x d
  .simp[b _ (List.getElem_mem a)]
 .have m:=(World.ownsRow.stored (cap:=c) i (j*k+q) (ae aj v)).1
  rwa [pd v o gs j b a]at m
def cR(c:Nat×Nat):aC:=[(c.1:Int),(c.2:Int)]
def sR(a:List (Nat×Nat))(s:Nat×Int):aC:=[((cV a s.1).2:Int),s.2]
structure Dh(S:List (Nat×Int))(i:Nat):Prop where
 up:S.Pairwise λx y=>x.1<y.1
 lt:∀x∈S,x.1<i
def Dh.nil(i:Nat):Dh [] i:=⟨.nil,aT⟩
def Dh.cS{S:List (Nat×Int)}(h:Dh S i):Dh S (i+1):=⟨h.up,λx a=>by have:=h.lt x a;omega⟩
def Dh.more{S:List (Nat×Int)}(h:Dh S i)(k:Int):Dh (S++[(i,k)]) (i+1):=⟨List.pairwise_append.2 ⟨h.up,List.pairwise_singleton _ _,λx a y b=>by obtain rfl:=List.mem_singleton.1 b;exact h.lt x a⟩,λx a=>by
 rcases List.mem_append.1 a with a|a
 .have:=h.lt x a;omega
 .obtain rfl:=List.mem_singleton.1 a;show i<i+1;omega⟩
def Dh.len{S:List (Nat×Int)}(h:Dh S i):S.length<=i:=by
 have key:∀q,(a:q<S.length)->q<=S[q].1:=λq=>by
  induction q with
  |zero=>intro _;omega
  |succ q ih=>
   intro a;have c:=ih aq;have d:=List.pairwise_iff_getElem.1 h.up q (q+1) aq a aq;omega
 rcases Nat.eq_zero_or_pos S.length with b|b
 .omega
 .have c:=key (S.length-1) aq
  have d:=h.lt _ (List.getElem_mem (show S.length-1<S.length by omega));omega
def EK(S:List (Nat×Int))(q:Nat):Nat:=(S.getD q (0,0)).1
def xS{S:List (Nat×Int)}(h:q<S.length):EK S q=S[q].1:=by unfold EK;simp[h]
def Dh.at_{S:List (Nat×Int)}(h:Dh S i)(a:q<S.length):EK S q<i:=by rw[xS a];exact h.lt _ (List.getElem_mem a)
def Dh.ag5{S:List (Nat×Int)}{r:Nat}(h:Dh S i)(a:q<r)(b:r<S.length):EK S q<EK S r:=by
 rw[xS aq,xS b];exact List.pairwise_iff_getElem.1 h.up q r aq b a
def Rx.vG{n:Nat}(h:Rx w B 2 gs A n)(d:j<n):∃a:Addr,A=OH a/\w.cell? (a.add (j*2))=OH (ae aj (nth (dS gs j) 0))/\w.cell? (bX (a.add (j*2)) 1)=OH (ae aj (nth (dS gs j) 1)):=by
 obtain⟨a,e,_,_,c⟩:=h.at_ d;have b:=c 0 aq;rw[show(a.add (j*2)).add 0=a.add (j*2) by simp[Addr.add]]at b;exact⟨a,e,b,c 1 aq⟩
def uK{a:List (Nat×Nat)}(h:j<a.length):dS (a.map cR) j=cR (cV a j):=by simp[dS,cV,h]
def IL{a:List (Nat×Nat)}(h:i<a.length):(a.map cR).take (i+1)=(a.map cR).take i++[cR (cV a i)]:=by
 rw[List.take_add_one,List.getElem?_map,List.getElem?_eq_getElem h];simp[cV,h]
def Hv{α:Type}(F:α->aC){l:List α}{j:Nat}(h:j<l.length):dS (l.map F) j=F l[j]:=by simp[dS,h]
structure KP(N:Nat)(w w':EE):Prop where
 sz:w.heap.size<=w'.heap.size
 bl:∀b,N<=b->b<w.heap.size->w'.heap[b]? =w.heap[b]?
def KP.refl(N:Nat)(w:EE):KP N w w:=⟨Nat.le_refl _,λ_ _ _=>rfl⟩
def KP.cell{a:EE}{v:EN}(h:KP N w a)(b:N<=g)(c:g<w.heap.size)(e:w.cell? ⟨g,j,OJ⟩=OH v):a.cell? ⟨g,j,OJ⟩=OH v:=by
 unfold World.cell? at e⊢;rw[h.bl g b c];exact e
def KP.set{a:EE}(h:KP N w a)(e:g<N)(v:EN):KP N w (a.setCell ⟨g,j,OJ⟩ v):=⟨by rw[World.size_setCell];exact h.sz,λb c d=>by
 rw[Below.heap_setCell _ _ _ _ (show b≠g by omega)];exact h.bl b c d⟩
def KP.below{c u:EE}(h:KP N w c)(a:az c u):KP N w u:=⟨by have:=a.size;have:=h.sz;omega,λb d e=>by
 rw[a.block b (by have:=h.sz;omega)];exact h.bl b d e⟩
def aa4(w:EE)(n:Nat)(e:IS)(a:EE):Prop:=∃(A:aB) (c:Nat) (xs:aC),e=RE (Pl A n c)/\Own a w.heap.size 3 .i64 A n c xs/\az w a
def eP(w:EE)(B:Nat)(A:aB)(n c:Nat)(e:IS)(a:EE):Prop:=∃b,e=RE (Pl A n c)/\Own a B 3 .i64 A n c b/\EI B w a
def aef(w:EE)(e:IS)(a:EE):Prop:=∃z:Int,e=RE (ae aj z)/\a=w
def agY(w:EE)(e:IS)(a:EE):Prop:=∃z:Bool,e=RE (PF z)/\a=w
def uy(x:Int)(w:EE):GK prog 230 #[ae aj x] w (aef w):=by
 go_enter func230,ntmps230;go_wp2_with fail
 all_goals
  go_ret;exact⟨_,rfl,rfl⟩
def vp(x:Int)(w:EE):GK prog 232 #[ae aj x] w (agY w):=by
 go_enter func232,ntmps232;go_wp2_with fail
 all_goals
  go_ret;exact⟨_,rfl,rfl⟩
def ll(s:G:=by
 obtain rfl:i=n:=by omega
 go_wp2;go_ret;exact⟨_,rfl,OM.o,BE.o⟩):G:=s
def aa8(B:Nat)(A:aB)(n c:Nat)(xs:aC)(w:EE)(h:Own w B 3 .i64 A n c xs)(k:n<=4000):GK prog 153 #[Pl A n c] w (eP w B A n c):=by
 have e:=sH h;go_enter func153,ntmps153;go_wp2;go_loopg[3,4](n+1)(λgg v3 v4 wr=>∃(i:Nat) (a:Int) (d:aC),n-i<gg/\i<=n/\v3=ae aj a/\v4=ae aj (i:Int)/\ak (Own wr B 3 .i64 A n c d)/\ak (EI B w wr))
 .exact⟨0,0,xs,aq,aq,rfl,rfl,e,cJ⟩
 obtain⟨i,a,d,j,hi,rfl,rfl,OM,BE⟩:=hrel;by_cases b:i<n
 .obtain⟨g,rfl,_,_⟩:=aA.form OM.o aq
  have f:=bU OM.o b;have f1:=aA.frozenAt OM.o i;generalize l:nth d i=x at*;have m:=aU i n;go_wp2_with fail
  all_goals go_roundg(n-i)
  all_goals first
   |omega
   |exact⟨i+1,_,_,aq,aq,rfl,by go_num,OM,BE⟩
   |exact⟨i+1,_,_,aq,aq,rfl,by go_num,⟨Own.sI OM.o i _⟩,⟨Below.setCell BE.o (p:=⟨g,i,OJ⟩) (aA.yp OM.o).1 _⟩⟩
 .exact ll
def ae5(s:G:=by
 obtain⟨g,rfl,_,_⟩:=aA.form OM.o aq
 have c1:=bU OM.o aG;have f1:=aA.frozenAt OM.o i;generalize hx:nth ys i=x at*;have i1:=aU i n;go_wp2_with fail
 all_goals go_roundg(n-i)
 all_goals first
  |omega
  |exact⟨i+1,_,aq,aq,by go_num,OM,BE⟩
  |exact⟨i+1,_,aq,aq,by go_num,⟨Own.sI OM.o i _⟩,⟨Below.setCell BE.o (p:=⟨g,i,OJ⟩) (aA.yp OM.o).1 _⟩⟩):G:=s
def aaK(B:Nat)(A:aB)(n c:Nat)(xs:aC)(w:EE)(h:Own w B 3 .i64 A n c xs)(d:n<=4000):GK prog 152 #[Pl A n c] w (eP w B A n c):=by
 have a:=sH h;go_enter func152,ntmps152;go_wp2;go_loopg[3](n+1)(λgg v3 wr=>∃(i:Nat) (ys:aC),n-i<gg/\i<=n/\v3=ae aj (i:Int)/\ak (Own wr B 3 .i64 A n c ys)/\ak (EI B w wr))
 .exact⟨0,xs,aq,aq,rfl,a,cJ⟩
 obtain⟨i,ys,b,hi,rfl,OM,BE⟩:=hrel;by_cases aG:i<n
 .exact ae5
 .exact ll
def abN(B:Nat)(A:aB)(n c:Nat)(xs:aC)(w:EE)(h:Own w B 3 .i64 A n c xs)(d:n<=4000):GK prog 149 #[Pl A n c] w (eP w B A n c):=by
 have a:=sH h;go_enter func149,ntmps149;go_wp2;go_loopg[3](n+1)(λgg v3 wr=>∃(i:Nat) (ys:aC),n-i<gg/\i<=n/\v3=ae aj (i:Int)/\ak (Own wr B 3 .i64 A n c ys)/\ak (EI B w wr))
 .exact⟨0,xs,aq,aq,rfl,a,cJ⟩
 obtain⟨i,ys,b,hi,rfl,OM,BE⟩:=hrel;by_cases aG:i<n
 .exact ae5
 .exact ll
section
open Go.Joins Go.Deep
inductive Ty where
 |num (k:IntKind)
 |JU
 |str
 |arr (e:Ty)
 |two (x y:Ty)
def Ty.n:Ty->Nat
 | .num _=>1
 | .JU=>1
 | .str=>1
 | .arr _=>1
 | .two x y=>x.n+y.n
def Ty.lb:Ty->Nat
 | .num .i64=>8
 | .num .i32=>4
 | .num _=>1
 | .JU=>1
 | .str=>16
 | .arr _=>24
 | .two x y=>x.lb+y.lb
def Rd(w:EE)(B:Nat):Ty->List EN->Prop
 | .num k,vs=>∃z,vs=[.int k z]/\(Lit.int k z).wf=OX
 | .JU,vs=>∃z,vs=[PF z]
 | .str,vs=>∃z:ByteArray,vs=[.string z]/\z.size<=maxLen
 | .arr e,vs=>∃A n c,vs=[Pl A n c]/\n<=c/\c<=9223372036854775807/\n*e.lb<=140737488351232/\(0<n->∃f,A=OH f/\f.block<B/\∀j,j<n->∃d,Rd w B e d/\∀q u,d[q]? =OH u->w.cell? ((f.add (j*e.n)).add q)=OH u)
 | .two a b,vs=>∃d g,vs=d++g/\Rd w B a d/\Rd w B b g
def Rd.len{w:EE}:∀{t:Ty} {vs:List EN},Rd w B t vs->vs.length=t.n
 | .num _,_,⟨_,e,_⟩=>by rw[e];rfl
 | .JU,_,⟨_,e⟩=>by rw[e];rfl
 | .str,_,⟨_,e,_⟩=>by rw[e];rfl
 | .arr _,_,⟨_,_,_,e,_⟩=>by rw[e];rfl
 | .two a b,_,⟨us,ws,e,h1,h2⟩=>by rw[e,List.length_append,h1.len,h2.len];rfl
def Rd.Z{w k:EE}{B i:Nat}(d:EI B w k)(g:B<=i):∀{t:Ty} {vs:List EN},Rd w B t vs->Rd k i t vs
 | .num _,_,h=>h
 | .JU,_,h=>h
 | .str,_,h=>h
 | .arr e,_,⟨A,n,c,hv,h1,h2,h9,h3⟩=>⟨A,n,c,hv,h1,h2,h9,λr=>by
   obtain⟨p,m,aG,o⟩:=h3 r;refine⟨p,m,aq,λj l=> ?_⟩;obtain⟨f,s,v⟩:=o j l;exact⟨f,Rd.Z d g s,λq u e=>(d.cell AI).trans (v q u e)⟩⟩
 | .two a b,_,⟨f,ws,e,h1,h2⟩=>⟨f,ws,e,Rd.Z d g h1,Rd.Z d g h2⟩
def uE(P:I3)(r:IQ->Ty->Bool):List Field->Ty->Nat->Bool
 |[],_,_=>OZ
 |[x],T,off=>decide (x.offset=off)&&decide (P.cellsOf x.type=T.n)&&r x.type T
 |x::y::fs,.two a b,off=>decide (x.offset=off)&&decide (P.cellsOf x.type=a.n)&&r x.type a&&uE P r (y::fs) b (off+a.n)
 |_::_::_,_,_=>OZ
def zB(P:I3):Nat->IQ->Ty->Bool
 |0,_,_=>OZ
 |f+1,t,T=>match P.underlying t,T with
  |some (.int k),.num k'=>decide (k=k')
  |some .bool,.JU=>OX
  |some .string,.str=>OX
  |some (.slice e),.arr T=>zB P f e T&&decide (P.cellsOf e=T.n)&&decide (T.lb<=P.bytesOf e)
  |some (.struct fs),T=>uE P (zB P f) fs.toList T 0&&decide (P.cellsOf t=T.n)
  |_,_=>OZ
section
variable{H:Type}{enc:IQ × EN -> H}{P:I3}{w:EE}{base:Nat}{held:Bool}
def rE{e:IQ}:∀(l:List (DataW H)) (d:DataW H),d∈l->∀m∈d.weights P e,m∈DataW.weightsAll P e l
 |[],d,h,_,_=>by cases h
 |x::l,d,h,m,hm=>by
  simp only[DataW.weightsAll,List.mem_append];rcases List.mem_cons.1 h with rfl|h
  .exact .inl hm
  .exact .inr (rE l d h m hm)
def Fits(P:I3)(t:IQ)(d:DataW H):Prop:=∀m∈d.weights P t,m<=140737488351232
def ZE(f:Nat)(ih:∀(t:IQ) (T:Ty) (fuel:Nat) (cs:List EN) (y:DataW H×List MemPlace),zB P f t T=OX->Fits P t y.1->DataW.trod enc P w base (λ_=>OX) held fuel t cs=OH y->Rd w w.heap.size T cs)
 (cs:List EN) (fuel:Nat):∀(c:List Field) (T:Ty) (off:Nat),uE P (zB P f) c T off=OX->(∀x∈c,∃y,Fits P x.type y.1/\DataW.trod enc P w base (λ_=>OX) held fuel x.type ((cs.drop x.offset).take (P.cellsOf x.type))=OH y)->Rd w w.heap.size T ((cs.drop off).take T.n)
 |[],_,_,h,_=>by simp[uE]at h
 |[x],T,off,h,hx=>by
  simp only[uE,Bool.and_eq_true,decide_eq_true_eq]at h;obtain⟨y,d,g⟩:=hx x aT;rw[h.1.1,h.1.2]at g;exact ih _ _ _ _ _ h.2 d g
 |x::y::c,.two a b,off,h,hx=>by
  simp only[uE,Bool.and_eq_true,decide_eq_true_eq]at h;obtain⟨z,d,e⟩:=hx x aT;rw[h.1.1.1,h.1.1.2]at e;have j:=ih _ _ _ _ _ h.1.2 d e;have k:=ZE f ih cs fuel (y::c) b (off+a.n) h.2 (λq i=>hx q (by simp at i⊢;exact .inr i));refine⟨_,_, ?_,j,k⟩;rw[show(Ty.two a b).n=a.n+b.n from rfl,List.take_add,List.drop_drop]
 |_::_::_,.num _,_,h,_=>by simp[uE]at h
 |_::_::_,.JU,_,h,_=>by simp[uE]at h
 |_::_::_,.str,_,h,_=>by simp[uE]at h
 |_::_::_,.arr _,_,h,_=>by simp[uE]at h
def tz:∀(f:Nat) (t:IQ) (T:Ty) (fuel:Nat) (cs:List EN) (y:DataW H×List MemPlace),zB P f t T=OX->Fits P t y.1->DataW.trod enc P w base (λ_=>OX) held fuel t cs=OH y->Rd w w.heap.size T cs
 |0,_,_,_,_,_,h,_,_=>by simp[zB]at h
 |f+1,t,T,fuel,cs,y,h,ED,hy=>by
  cases b:P.underlying t with
  |none=>simp[zB,b]at h
  |some u=>
   cases u with
   |int k=>
    cases T with
    |num k'=>
     simp[zB,b]at h;subst h;obtain⟨z,e,_,O⟩:=DataW.trod_int b hy;exact⟨z,e,O⟩
    |_=>simp[zB,b]at h
   |bool=>
    cases T with
    |JU=>
     obtain⟨z,e,_⟩:=DataW.trod_bool b hy;exact⟨z,e⟩
    |_=>simp[zB,b]at h
   |string=>
    cases T with
    |str=>
     obtain⟨z,e,_,U⟩:=DataW.trod_string b hy;exact⟨z,e,U⟩
    |_=>simp[zB,b]at h
   |slice e=>
    cases T with
    |arr E=>
     simp[zB,b]at h;rcases open_slice b hy with⟨h1,_⟩|⟨a,len,cap,m,n,D,Z,h1,_,N,l,I,c,g⟩
     .exact⟨OJ,0,0,h1,aq,aq,aT,λh=>absurd h aq⟩
     .simp only[if_true]at I
      have each:∀j,j<len->∃o,Rd w w.heap.size E o/\∀q u,o[q]? =OH u->w.cell? ((a.add (j*E.n)).add q)=OH u:=by
       intro j S;obtain⟨s,r,p⟩:=g j aq;rw[h.1.2]at r;obtain⟨_,hlen,d⟩:=World.cells?_some r;have V:D j∈(List.range len).map D:=List.mem_map.2 ⟨j,List.mem_range.2 S,rfl⟩;refine⟨s,tz f e E _ _ _ h.1.1 (λm l=>ED m (by rw[c];simp only[DataW.weights,b,List.mem_cons,List.mem_append];exact .inr (.inl (rE _ _ V m l)))) p,λq u M=> ?_⟩;have F:=(List.getElem?_eq_some_iff.1 M).1;rw[d q (by rw[<-hlen];exact F),M]
      have X:len*E.lb<=140737488351232:=by
       have K:=ED ((((List.range len).map D).length+((List.range (m-len)).map λj=>D (len+j)).length)*P.bytesOf e) (by rw[c];simp[DataW.weights,b]);simp only[List.length_map,List.length_range]at K;exact Nat.le_trans (Nat.mul_le_mul aq h.2) K
      refine⟨OH a,len,cap,h1,N,by unfold maxLen at l;omega,X,λR=>⟨a,rfl, ?_,each⟩⟩;obtain⟨o,B,C⟩:=each 0 R;have J:0<E.n:=by
       have:∀T:Ty,0<T.n:=by intro T;induction T<;>simp[Ty.n]<;>omega
       exact this E
      have hlen:=B.len;have:=block_lt_of_cell (C 0 o[0] (List.getElem?_eq_getElem aq));rwa [aL,aL]at this
    |_=>simp[zB,b]at h
   |struct fs=>
    have L:uE P (zB P f) fs.toList T 0=OX/\P.cellsOf t=T.n:=by
     cases T<;>simpa[zB,b]using h
    obtain⟨xs,n,_,c,hlen,G,Q⟩:=DataW.trod_struct b hy;have v:=ZE (H:=H) (enc:=enc) (w:=w) (base:=base) (held:=held) f (tz f) cs n fs.toList T 0 L.1 (λx Y=>by
     obtain⟨i,hi,e⟩:=List.getElem_of_mem Y;have h1:fs[i]? =OH x:=by rw[<-e];simp at hi⊢
     have r:=Q i x h1;have p:i<xs.length:=by rw[G];simpa using hi
     exact⟨xs[i],λm l=>ED m (by
      rw[c];simp only[DataW.weights,b];exact DataW.weights_mem_each (j:=i) mo (by simp[List.getElem?_eq_getElem p]) m l),by rw[r,List.getElem?_eq_getElem p]⟩)
    have A:=v.len;rw[List.drop_zero]at v A;have W:cs.length=T.n:=hlen.trans L.2;rwa [List.take_of_length_le aq]at v
   |_=>cases T<;>simp[zB,b]at h
end
end
section
open Ty
abbrev eD:Ty:=num .i64
abbrev Hx:Ty:=two eD (two eD (two eD (arr eD)))
abbrev ep:Ty:=two (num .i32) eD
abbrev sW:Ty:=two eD eD
abbrev tK:Ty:=two eD (two eD eD)
abbrev ye:Ty:=two (arr eD) eD
abbrev As:Ty:=two eD eD
abbrev IW:Ty:=two eD (two eD (two tK tK))
abbrev IU:Ty:=two eD (two JU (two JU (two sW sW)))
abbrev R7:Ty:=two eD (two eD sW)
abbrev uu:Ty:=two JU sW
abbrev Ig:Ty:=two eD (arr (arr uu))
abbrev VV:Ty:=two (arr eD) (two (arr (arr eD)) (two (arr (arr ye)) (two (arr (arr eD)) (two (arr (arr eD)) (two (arr (arr eD)) (two (arr As) (two (arr tK) (two (arr IW) (two (arr IU) (two (arr R7) (arr Ig)))))))))))
abbrev Bk:Ty:=two eD (two eD (two eD (arr VV)))
abbrev Ic:Ty:=two str (two eD (arr eD))
abbrev uv:Ty:=two eD (two (arr Hx) (two (arr ep) (two (arr Bk) (two (arr Ic) (arr (arr eD))))))
abbrev ym:Ty:=two eD (two eD (two eD eD))
abbrev uF:Ty:=two eD (two eD eD)
abbrev MX:Ty:=two eD eD
abbrev ZU:Ty:=two (arr uv) (two (arr ym) (two (arr str) (two eD eD)))
abbrev Zk:Ty:=two (arr (num .i32)) (two (arr uF) (two (arr MX) (two eD (two eD (two eD (two eD JU))))))
def KH:zB prog 20 26 ZU=OX:=by kernel_rfl
def JM:zB prog 9 31 Zk=OX:=by kernel_rfl
end
section
open Ty
def cU(w:EE)(B:Nat)(e:Ty)(A:aB)(n c:Nat):Prop:=
 n<=c/\c<=9223372036854775807/\n*e.lb<=140737488351232/\(0<n->∃a,A=OH a/\a.block<B/\∀j,j<n->∃b,Rd w B e b/\∀q u,b[q]? =OH u->w.cell? ((a.add (j*e.n)).add q)=OH u)
def cU.Z{e:Ty}{n:Nat}(h:cU w B e A n c)(g:EI B w d)(f:B<=b):cU d b e A n c:=by
 obtain⟨j,l,k,a,i⟩:=Rd.Z (t:=.arr e) (vs:=[Pl A n c]) g f ⟨A,n,c,rfl,h⟩;injection a with a
 injection a with e1 e2 e3
 subst e1;subst e2;subst e3
 exact i
def fA(a:Addr):a.add 0=a:=Ju
structure dv where
 em:Int
 G:aB
 gn:Nat
 gc:Nat
 M:aB
 mn:Nat
 mc:Nat
 L:aB
 ln:Nat
 lc:Nat
 F:aB
 fn:Nat
 fc:Nat
 S:aB
 sn:Nat
 sc:Nat
abbrev dv.v(x:dv):EN:=Q4 #[ae aj x.em,Pl x.G x.gn x.gc,Pl x.M x.mn x.mc,Pl x.L x.ln x.lc,Pl x.F x.fn x.fc,Pl x.S x.sn x.sc]
structure cC(w:EE)(B:Nat)(x:dv):Prop where
 rG:cU w B Hx x.G x.gn x.gc
 rM:cU w B ep x.M x.mn x.mc
 rL:cU w B Bk x.L x.ln x.lc
 rF:cU w B Ic x.F x.fn x.fc
 rS:cU w B (arr eD) x.S x.sn x.sc
def cC.Z{x:dv}(h:cC w B x)(a:EI B w d)(b:B<=c):cC d c x:=⟨h.rG.Z a b,h.rM.Z a b,h.rL.Z a b,h.rF.Z a b,h.rS.Z a b⟩
def aaZ{a:List EN}(h:Rd w B uv a):∃x:dv,a=[ae aj x.em,Pl x.G x.gn x.gc,Pl x.M x.mn x.mc,Pl x.L x.ln x.lc,Pl x.F x.fn x.fc,Pl x.S x.sn x.sc]/\cC w B x:=by
 obtain⟨_,_,rfl,⟨u,rfl,_⟩,⟨_,_,rfl,⟨r,k,b,rfl,q⟩,⟨_,_,rfl,⟨f,t,n,rfl,s⟩,⟨_,_,rfl,⟨g,c,d,rfl,o⟩,⟨_,_,rfl,⟨e,j,c4,rfl,i⟩,⟨m,l,c5,rfl,p⟩⟩⟩⟩⟩⟩:=h;exact⟨⟨u,r,k,b,f,t,n,g,c,d,e,j,c4,m,l,c5⟩,rfl,⟨q,s,o,i,p⟩⟩
def qz{n:Nat}(h:cU w B uv A n c)(f:j<n):∃(a:Addr) (x:dv),A=OH a/\cC w B x/\w.cell? (a.add (j*6))=OH (ae aj x.em)/\w.cell? (bX (a.add (j*6)) 1)=OH (Pl x.G x.gn x.gc)/\w.cell? (bX (a.add (j*6)) 2)=OH (Pl x.M x.mn x.mc)/\w.cell? (bX (a.add (j*6)) 3)=OH (Pl x.L x.ln x.lc)/\w.cell? (bX (a.add (j*6)) 4)=OH (Pl x.F x.fn x.fc)/\w.cell? (bX (a.add (j*6)) 5)=OH (Pl x.S x.sn x.sc):=by
 obtain⟨a,e,_,g⟩:=h.2.2.2 aq;obtain⟨l,i,b⟩:=g j f;obtain⟨x,rfl,k⟩:=aaZ i;have d:=b 0 _ rfl;rw[fA]at d;exact⟨a,x,e,k,d,b 1 _ rfl,b 2 _ rfl,b 3 _ rfl,b 4 _ rfl,b 5 _ rfl⟩
structure Lk where
 kind:Int
 flags:Int
 set:Int
 S:aB
 sn:Nat
 sc:Nat
abbrev Lk.v(x:Lk):EN:=Q4 #[ae aj x.kind,ae aj x.flags,ae aj x.set,Pl x.S x.sn x.sc]
structure ny(w:EE)(B:Nat)(x:Lk):Prop where
 rS:cU w B VV x.S x.sn x.sc
def ny.Z{b:EE}{x:Lk}(h:ny w B x)(c:EI B w b)(d:B<=a):ny b a x:=⟨h.rS.Z c d⟩
def mQ6(s:G:=by
 obtain⟨_,_,rfl,⟨x0,rfl,_⟩,⟨_,_,rfl,⟨x1,rfl,_⟩,⟨_,_,rfl,⟨x2,rfl,_⟩,⟨A3,n3,c3,rfl,h3⟩⟩⟩⟩:=h;exact⟨⟨x0,x1,x2,A3,n3,c3⟩,rfl,⟨h3⟩⟩):G:=s
def ac4{a:List EN}(h:Rd w B Bk a):∃x:Lk,a=[ae aj x.kind,ae aj x.flags,ae aj x.set,Pl x.S x.sn x.sc]/\ny w B x:=by
 exact mQ6
def ru{n:Nat}(h:cU w B Bk A n c)(f:j<n):∃(a:Addr) (x:Lk),A=OH a/\ny w B x/\w.cell? (a.add (j*4))=OH (ae aj x.kind)/\w.cell? (bX (a.add (j*4)) 1)=OH (ae aj x.flags)/\w.cell? (bX (a.add (j*4)) 2)=OH (ae aj x.set)/\w.cell? (bX (a.add (j*4)) 3)=OH (Pl x.S x.sn x.sc):=by
 obtain⟨a,e,_,g⟩:=h.2.2.2 aq;obtain⟨l,i,b⟩:=g j f;obtain⟨x,rfl,k⟩:=ac4 i;have d:=b 0 _ rfl;rw[fA]at d;exact⟨a,x,e,k,d,b 1 _ rfl,b 2 _ rfl,b 3 _ rfl⟩
structure Sb where
 C:aB
 cn:Nat
 cc:Nat
 T:aB
 tn:Nat
 tc:Nat
 L:aB
 ln:Nat
 lc:Nat
 B:aB
 bn:Nat
 bc:Nat
 J:aB
 jn:Nat
 jc:Nat
 A:aB
 an:Nat
 ac:Nat
 N:aB
 nn:Nat
 nc:Nat
 V:aB
 vn:Nat
 vc:Nat
 P:aB
 pn:Nat
 pc:Nat
 U:aB
 un:Nat
 uc:Nat
 M:aB
 mn:Nat
 mc:Nat
 H:aB
 hn:Nat
 hc:Nat
abbrev Sb.v(x:Sb):EN:=Q4 #[Pl x.C x.cn x.cc,Pl x.T x.tn x.tc,Pl x.L x.ln x.lc,Pl x.B x.bn x.bc,Pl x.J x.jn x.jc,Pl x.A x.an x.ac,Pl x.N x.nn x.nc,Pl x.V x.vn x.vc,Pl x.P x.pn x.pc,Pl x.U x.un x.uc,Pl x.M x.mn x.mc,Pl x.H x.hn x.hc]
structure nH(w:EE)(B:Nat)(x:Sb):Prop where
 rC:cU w B eD x.C x.cn x.cc
 rT:cU w B (arr eD) x.T x.tn x.tc
 rL:cU w B (arr ye) x.L x.ln x.lc
 rB:cU w B (arr eD) x.B x.bn x.bc
 rJ:cU w B (arr eD) x.J x.jn x.jc
 rA:cU w B (arr eD) x.A x.an x.ac
 rN:cU w B As x.N x.nn x.nc
 rV:cU w B tK x.V x.vn x.vc
 rP:cU w B IW x.P x.pn x.pc
 rU:cU w B IU x.U x.un x.uc
 rM:cU w B R7 x.M x.mn x.mc
 rH:cU w B Ig x.H x.hn x.hc
def nH.Z{x:Sb}(h:nH w B x)(a:EI B w d)(b:B<=c):nH d c x:=⟨h.rC.Z a b,h.rT.Z a b,h.rL.Z a b,h.rB.Z a b,h.rJ.Z a b,h.rA.Z a b,h.rN.Z a b,h.rV.Z a b,h.rP.Z a b,h.rU.Z a b,h.rM.Z a b,h.rH.Z a b⟩
def acW{i:List EN}(h:Rd w B VV i):∃x:Sb,i=[Pl x.C x.cn x.cc,Pl x.T x.tn x.tc,Pl x.L x.ln x.lc,Pl x.B x.bn x.bc,Pl x.J x.jn x.jc,Pl x.A x.an x.ac,Pl x.N x.nn x.nc,Pl x.V x.vn x.vc,Pl x.P x.pn x.pc,Pl x.U x.un x.uc,Pl x.M x.mn x.mc,Pl x.H x.hn x.hc]/\nH w B x:=by
 obtain⟨_,_,rfl,⟨t,U,c0,rfl,G⟩,⟨_,_,rfl,⟨R,q,j,rfl,y⟩,⟨_,_,rfl,⟨K,C,Q,rfl,S⟩,⟨_,_,rfl,⟨N,H,I,rfl,u⟩,⟨_,_,rfl,⟨J,p,c4,rfl,o⟩,⟨_,_,rfl,⟨s,r,c5,rfl,v⟩,⟨_,_,rfl,⟨P,L,c6,rfl,O⟩,⟨_,_,rfl,⟨m,n,F,rfl,M⟩,⟨_,_,rfl,⟨D,E,c8,rfl,l⟩,⟨_,_,rfl,⟨T,A,z,rfl,k⟩,⟨_,_,rfl,⟨g,c,Gs,rfl,b⟩,⟨d,a,e,rfl,f⟩⟩⟩⟩⟩⟩⟩⟩⟩⟩⟩⟩:=h;exact⟨⟨t,U,c0,R,q,j,K,C,Q,N,H,I,J,p,c4,s,r,c5,P,L,c6,m,n,F,D,E,c8,T,A,z,g,c,Gs,d,a,e⟩,rfl,⟨G,y,S,u,o,v,O,M,l,k,b,f⟩⟩
def ko{n:Nat}(h:cU w B VV A n c)(f:j<n):∃(a:Addr) (x:Sb),A=OH a/\nH w B x/\w.cell? (a.add (j*12))=OH (Pl x.C x.cn x.cc)/\w.cell? (bX (a.add (j*12)) 1)=OH (Pl x.T x.tn x.tc)/\w.cell? (bX (a.add (j*12)) 2)=OH (Pl x.L x.ln x.lc)/\w.cell? (bX (a.add (j*12)) 3)=OH (Pl x.B x.bn x.bc)/\w.cell? (bX (a.add (j*12)) 4)=OH (Pl x.J x.jn x.jc)/\w.cell? (bX (a.add (j*12)) 5)=OH (Pl x.A x.an x.ac)/\w.cell? (bX (a.add (j*12)) 6)=OH (Pl x.N x.nn x.nc)/\w.cell? (bX (a.add (j*12)) 7)=OH (Pl x.V x.vn x.vc)/\w.cell? (bX (a.add (j*12)) 8)=OH (Pl x.P x.pn x.pc)/\w.cell? (bX (a.add (j*12)) 9)=OH (Pl x.U x.un x.uc)/\w.cell? (bX (a.add (j*12)) 10)=OH (Pl x.M x.mn x.mc)/\w.cell? (bX (a.add (j*12)) 11)=OH (Pl x.H x.hn x.hc):=by
 obtain⟨a,e,_,g⟩:=h.2.2.2 aq;obtain⟨l,i,b⟩:=g j f;obtain⟨x,rfl,k⟩:=acW i;have d:=b 0 _ rfl;rw[fA]at d;exact⟨a,x,e,k,d,b 1 _ rfl,b 2 _ rfl,b 3 _ rfl,b 4 _ rfl,b 5 _ rfl,b 6 _ rfl,b 7 _ rfl,b 8 _ rfl,b 9 _ rfl,b 10 _ rfl,b 11 _ rfl⟩
structure Lg where
 P:aB
 pn:Nat
 pc:Nat
 gl:Int
abbrev Lg.v(x:Lg):EN:=Q4 #[Pl x.P x.pn x.pc,ae aj x.gl]
structure LgR(w:EE)(B:Nat)(x:Lg):Prop where
 rP:cU w B eD x.P x.pn x.pc
def LgR.Z{b:EE}{x:Lg}(h:LgR w B x)(c:EI B w b)(d:B<=a):LgR b a x:=⟨h.rP.Z c d⟩
def acP{a:List EN}(h:Rd w B ye a):∃x:Lg,a=[Pl x.P x.pn x.pc,ae aj x.gl]/\LgR w B x:=by
 obtain⟨_,_,rfl,⟨b,d,c0,rfl,c⟩,⟨e,rfl,_⟩⟩:=h;exact⟨⟨b,d,c0,e⟩,rfl,⟨c⟩⟩
def CL{n:Nat}(h:cU w B ye A n c)(f:j<n):∃(a:Addr) (x:Lg),A=OH a/\LgR w B x/\w.cell? (a.add (j*2))=OH (Pl x.P x.pn x.pc)/\w.cell? (bX (a.add (j*2)) 1)=OH (ae aj x.gl):=by
 obtain⟨a,e,_,g⟩:=h.2.2.2 aq;obtain⟨l,i,d⟩:=g j f;obtain⟨x,rfl,k⟩:=acP i;have b:=d 0 _ rfl;rw[fA]at b;exact⟨a,x,e,k,b,d 1 _ rfl⟩
structure Nf where
 adv:Int
 kind:Int
 att:Int
 K:aB
 kn:Nat
 kc:Nat
abbrev Nf.v(x:Nf):EN:=Q4 #[ae aj x.adv,ae aj x.kind,ae aj x.att,Pl x.K x.kn x.kc]
structure NfR(w:EE)(B:Nat)(x:Nf):Prop where
 rK:cU w B eD x.K x.kn x.kc
def NfR.Z{b:EE}{x:Nf}(h:NfR w B x)(c:EI B w b)(d:B<=a):NfR b a x:=⟨h.rK.Z c d⟩
def aeZ{a:List EN}(h:Rd w B Hx a):∃x:Nf,a=[ae aj x.adv,ae aj x.kind,ae aj x.att,Pl x.K x.kn x.kc]/\NfR w B x:=by
 exact mQ6
def Zq{n:Nat}(h:cU w B Hx A n c)(f:j<n):∃(a:Addr) (x:Nf),A=OH a/\NfR w B x/\w.cell? (a.add (j*4))=OH (ae aj x.adv)/\w.cell? (bX (a.add (j*4)) 1)=OH (ae aj x.kind)/\w.cell? (bX (a.add (j*4)) 2)=OH (ae aj x.att)/\w.cell? (bX (a.add (j*4)) 3)=OH (Pl x.K x.kn x.kc):=by
 obtain⟨a,e,_,g⟩:=h.2.2.2 aq;obtain⟨l,i,b⟩:=g j f;obtain⟨x,rfl,k⟩:=aeZ i;have d:=b 0 _ rfl;rw[fA]at d;exact⟨a,x,e,k,d,b 1 _ rfl,b 2 _ rfl,b 3 _ rfl⟩
structure Hs where
 gl:Int
 S:aB
 sn:Nat
 sc:Nat
abbrev Hs.v(x:Hs):EN:=Q4 #[ae aj x.gl,Pl x.S x.sn x.sc]
structure HsR(w:EE)(B:Nat)(x:Hs):Prop where
 rS:cU w B (arr uu) x.S x.sn x.sc
def HsR.Z{b:EE}{x:Hs}(h:HsR w B x)(c:EI B w b)(d:B<=a):HsR b a x:=⟨h.rS.Z c d⟩
def ada{a:List EN}(h:Rd w B Ig a):∃x:Hs,a=[ae aj x.gl,Pl x.S x.sn x.sc]/\HsR w B x:=by
 obtain⟨_,_,rfl,⟨e,rfl,_⟩,⟨d,f,b,rfl,c⟩⟩:=h;exact⟨⟨e,d,f,b⟩,rfl,⟨c⟩⟩
def Su{n:Nat}(h:cU w B Ig A n c)(f:j<n):∃(a:Addr) (x:Hs),A=OH a/\HsR w B x/\w.cell? (a.add (j*2))=OH (ae aj x.gl)/\w.cell? (bX (a.add (j*2)) 1)=OH (Pl x.S x.sn x.sc):=by
 obtain⟨a,e,_,g⟩:=h.2.2.2 aq;obtain⟨l,i,d⟩:=g j f;obtain⟨x,rfl,k⟩:=ada i;have b:=d 0 _ rfl;rw[fA]at b;exact⟨a,x,e,k,b,d 1 _ rfl⟩
structure cM where
 F:aB
 fn:Nat
 fc:Nat
 Y:aB
 yn:Nat
 yc:Nat
 P:aB
 pn:Nat
 pc:Nat
 ev:Int
 ld:Int
abbrev cM.v(x:cM):EN:=Q4 #[Pl x.F x.fn x.fc,Pl x.Y x.yn x.yc,Pl x.P x.pn x.pc,ae aj x.ev,ae aj x.ld]
structure gA(w:EE)(B:Nat)(x:cM):Prop where
 rF:cU w B uv x.F x.fn x.fc
 rY:cU w B ym x.Y x.yn x.yc
 rP:cU w B str x.P x.pn x.pc
def gA.Z{x:cM}(h:gA w B x)(a:EI B w d)(b:B<=c):gA d c x:=⟨h.rF.Z a b,h.rY.Z a b,h.rP.Z a b⟩
def Ww{a:List EN}(h:Rd w B ZU a):∃x:cM,a=[Pl x.F x.fn x.fc,Pl x.Y x.yn x.yc,Pl x.P x.pn x.pc,ae aj x.ev,ae aj x.ld]/\gA w B x:=by
 obtain⟨_,_,rfl,⟨i,n,c0,rfl,c⟩,⟨_,_,rfl,⟨k,f,b,rfl,j⟩,⟨_,_,rfl,⟨e,m,g,rfl,l⟩,⟨_,_,rfl,⟨d,rfl,_⟩,⟨o,rfl,_⟩⟩⟩⟩⟩:=h;exact⟨⟨i,n,c0,k,f,b,e,m,g,d,o⟩,rfl,⟨c,j,l⟩⟩
def mQ4(s:G:=by
 obtain⟨ad,e,_,hc⟩:=h.2.2.2 aq;obtain⟨us,hu,hq⟩:=hc j hj;obtain⟨_,_,rfl,⟨x0,rfl,_⟩,⟨x1,rfl,_⟩⟩:=hu;have q0:=hq 0 _ rfl;rw[fA]at q0;exact⟨ad,x0,x1,e,q0,hq 1 _ rfl⟩):G:=s
def yY{n:Nat}(h:cU w B ep A n c)(hj:j<n):∃(ad:Addr) (x0 x1:Int),A=OH ad/\w.cell? (ad.add (j*2))=OH (.int .i32 x0)/\w.cell? (bX (ad.add (j*2)) 1)=OH (ae aj x1):=by
 exact mQ4
def yP{n:Nat}(h:cU w B As A n c)(hj:j<n):∃(ad:Addr) (x0 x1:Int),A=OH ad/\w.cell? (ad.add (j*2))=OH (ae aj x0)/\w.cell? (bX (ad.add (j*2)) 1)=OH (ae aj x1):=by
 exact mQ4
def mQ5(s:G:=by
 obtain⟨ad,e,_,hc⟩:=h.2.2.2 aq;obtain⟨us,hu,hq⟩:=hc j hj;obtain⟨_,_,rfl,⟨x0,rfl,_⟩,⟨_,_,rfl,⟨x1,rfl,_⟩,⟨x2,rfl,_⟩⟩⟩:=hu;have q0:=hq 0 _ rfl;rw[fA]at q0;exact⟨ad,x0,x1,x2,e,q0,hq 1 _ rfl,hq 2 _ rfl⟩):G:=s
def NR{n:Nat}(h:cU w B tK A n c)(hj:j<n):∃(ad:Addr) (x0 x1 x2:Int),A=OH ad/\w.cell? (ad.add (j*3))=OH (ae aj x0)/\w.cell? (bX (ad.add (j*3)) 1)=OH (ae aj x1)/\w.cell? (bX (ad.add (j*3)) 2)=OH (ae aj x2):=by
 exact mQ5
def lQ{n:Nat}(h:cU w B uF A n c)(hj:j<n):∃(ad:Addr) (x0 x1 x2:Int),A=OH ad/\w.cell? (ad.add (j*3))=OH (ae aj x0)/\w.cell? (bX (ad.add (j*3)) 1)=OH (ae aj x1)/\w.cell? (bX (ad.add (j*3)) 2)=OH (ae aj x2):=by
 exact mQ5
def Ek{n:Nat}(h:cU w B MX A n c)(hj:j<n):∃(ad:Addr) (x0 x1:Int),A=OH ad/\w.cell? (ad.add (j*2))=OH (ae aj x0)/\w.cell? (bX (ad.add (j*2)) 1)=OH (ae aj x1):=by
 exact mQ4
def Cb{n:Nat}(h:cU w B ym A n c)(l:j<n):∃(a:Addr) (i g f d:Int),A=OH a/\w.cell? (a.add (j*4))=OH (ae aj i)/\w.cell? (bX (a.add (j*4)) 1)=OH (ae aj g)/\w.cell? (bX (a.add (j*4)) 2)=OH (ae aj f)/\w.cell? (bX (a.add (j*4)) 3)=OH (ae aj d):=by
 obtain⟨a,e,_,m⟩:=h.2.2.2 aq;obtain⟨p,o,b⟩:=m j l;obtain⟨_,_,rfl,⟨i,rfl,_⟩,⟨_,_,rfl,⟨g,rfl,_⟩,⟨_,_,rfl,⟨f,rfl,_⟩,⟨d,rfl,_⟩⟩⟩⟩:=o;have k:=b 0 _ rfl;rw[fA]at k;exact⟨a,i,g,f,d,e,k,b 1 _ rfl,b 2 _ rfl,b 3 _ rfl⟩
def il{n:Nat}(h:cU w B eD A n c)(f:j<n):∃(a:Addr) (d:Int),A=OH a/\w.cell? (a.add j)=OH (ae aj d):=by
 obtain⟨a,e,_,g⟩:=h.2.2.2 aq;obtain⟨l,i,k⟩:=g j f;obtain⟨d,rfl,_⟩:=i;have b:=k 0 _ rfl;rw[fA]at b;rw[show eD.n=1 from rfl,Nat.mul_one]at b;exact⟨a,d,e,b⟩
def fR{n:Nat}{e:Ty}(h:cU w B (arr e) A n c)(i:j<n):∃(d:Addr) (a:aB) (f b:Nat),A=OH d/\cU w B e a f b/\w.cell? (d.add j)=OH (Pl a f b):=by
 obtain⟨d,k,_,l⟩:=h.2.2.2 aq;obtain⟨q,o,p⟩:=l j i;obtain⟨a,f,b,rfl,m⟩:=o;have g:=p 0 _ rfl;rw[fA,show(arr e).n=1 from rfl,Nat.mul_one]at g;exact⟨d,a,f,b,k,m,g⟩
end
def aV(h:p:=by go_num):p:=h
theorem Tl{p:Prop}(h:p:=by simp[results,results209,go_sem]):p:=h
def cU.rb{e:Ty}{n:Nat}(h:cU w B e A n c):n*e.lb<=140737488351232:=h.2.2.1
def cU.bd{e:Ty}{n:Nat}(h:cU w B e A n c):n<=9223372036854775807:=Nat.le_trans h.1 h.2.1
def PIn(w:EE)(lo hi:Int)(e:IS)(a:EE):Prop:=∃z:Int,e=RE (ae aj z)/\lo<=z/\z<hi/\az w a
def PI(w:EE)(e:IS)(a:EE):Prop:=∃z:Int,e=RE (ae aj z)/\az w a
def PB(w:EE)(e:IS)(a:EE):Prop:=∃z:Bool,e=RE (PF z)/\az w a
def PIB(w:EE)(lo hi:Int)(e:IS)(a:EE):Prop:=∃(z:Int) (b:Bool),e=RE (.tuple #[ae aj z,PF b])/\lo<=z/\(b=OX->z<hi)/\az w a
abbrev dv.row(x:dv):Array EN:=#[ae aj x.em,Pl x.G x.gn x.gc,Pl x.M x.mn x.mc,Pl x.L x.ln x.lc,Pl x.F x.fn x.fc,Pl x.S x.sn x.sc]
def Bx(w:EE)(b:Nat)(cs:Array EN):Prop:=∃t,w.heap[b]? =OH (RM cs t (0,0))
def Bx.cell{cs:Array EN}(h:Bx w b cs)(o:Nat):w.cell? ⟨b,o,OJ⟩=cs[o]? :=by obtain⟨t,h⟩:=h;exact cell_of_row _ _ _ _ _ _ h
def Bx.lt{cs:Array EN}(h:Bx w b cs):b<w.heap.size:=by obtain⟨t,h⟩:=h;exact(Array.getElem?_eq_some_iff.1 h).1
def Bx.ar{a:EE}{cs:Array EN}(h:Bx w b cs)(c:EI B w a)(d:b<B):Bx a b cs:=by obtain⟨t,h⟩:=h;exact⟨t,(c.block b d).trans h⟩
def Bx.new(w:EE)(cs:Array EN)(t:IQ):Bx (w.alloc (RM cs t)) w.heap.size cs:=⟨t,heap_alloc_new w _⟩
def Bx.iR(w:EE)(cs:Array EN)(t:IQ){N:Nat}(h:w.heap.size=N):Bx (w.alloc (RM cs t)) N cs:=by subst h;exact Bx.new _ _ _
def box2(w:EE)(cs:Array EN)(t:IQ)(ds:Array EN)(u:IQ):∃W,W=(w.alloc (RM cs t)).alloc (RM ds u)/\ak (EI w.heap.size w W)/\ak (Bx W w.heap.size cs)/\ak (Bx W (w.heap.size+1) ds):=
 ⟨_,rfl,⟨(aw w _).alloc aT _⟩,⟨(Bx.new _ _ _).ar (aw _ _) aT⟩,⟨Bx.iR _ _ _ aT⟩⟩
def box1(w:EE)(cs:Array EN)(t:IQ):∃W,W=w.alloc (RM cs t)/\ak (EI w.heap.size w W)/\ak (Bx W w.heap.size cs):=⟨_,rfl,⟨aw _ _⟩,⟨Bx.new _ _ _⟩⟩
def ahs(f:dv)(r:Int)(w:EE)(h:cC w w.heap.size f):GK prog 254 #[f.v,.int .i32 r] w (PIn w (-1) f.mn):=by
 have p:f.mn<=9223372036854775807:=h.rM.bd;have⟨d,a,b,k⟩:=box1 w f.row 102;have R:=sH (h.Z b.o b.o.size);clear h;go_enter func254,ntmps254;go_wp2;rw[<-a];clear a;have g:d.cell? ⟨w.heap.size,2,OJ⟩=OH (Pl f.M f.mn f.mc):=k.o.cell 2;go_loopg[5](f.mn+1)(λgg j wr=>∃i:Nat,f.mn-i<gg/\i<=f.mn/\j=ae aj (i:Int)/\wr=d)
 .exact⟨0,aq,aq,rfl,rfl⟩
 obtain⟨i,o,hi,rfl,rfl⟩:=hrel;by_cases c:i<f.mn
 .obtain⟨m,y,z,e,l,n⟩:=yY R.o.rM c
  rw[e]at g;go_wp2_with fail
  all_goals first
   |(go_ret;exact⟨_,rfl,aq,aq,b.o⟩)
   |(go_roundg(f.mn-i)<;>first|omega|exact⟨i+1,aq,aq,aV,rfl⟩)
 .go_wp2
  go_ret;exact⟨_,rfl,aq,aq,b.o⟩
def td(f:dv)(r:Int)(w:EE)(h:cC w w.heap.size f):GK prog 188 #[f.v,.int .i32 r] w (PI w):=by
 have v:f.mn<=9223372036854775807:=h.rM.bd;have⟨o,b,c,g⟩:=box1 w f.row 102;have R:=sH (h.Z c.o c.o.size);go_enter func188,ntmps188;go_wp2_with fail;rw[<-b];refine(ahs f r o R.o).mono ?_;rintro e p ⟨z,rfl,m,n,a⟩;have d:=c.t a;have l:p.cell? ⟨w.heap.size,2,OJ⟩=OH (Pl f.M f.mn f.mc):=(g.o.ar a g.o.lt).cell 2;by_cases q:z<0
 .clear a
  go_wp2;go_ret;exact⟨_,rfl,d.o⟩
 .obtain⟨i,rfl⟩:∃i:Nat,z=(i:Int):=⟨z.toNat,aq⟩
  obtain⟨t,y,x,k,s,u⟩:=yY (R.o.rM.Z a a.size) (j:=i) aq;rw[k]at l;go_wp2;go_ret;exact⟨_,rfl,d.o⟩
def acR(w:EE)(e:IS)(c:EE):Prop:=∃(a k t:Int) (K:aB) (d b:Nat),e=RE (Q4 #[ae aj a,ae aj k,ae aj t,Pl K d b])/\az w c
def D'(f:dv)(g:Int)(w:EE)(h:cC w w.heap.size f):GK prog 209 #[f.v,ae aj g] w (acR w):=by
 have E:f.gn<=9223372036854775807:=h.rG.bd;have b:ak (∀o,az w ((w.alloc (RM f.row 102)).alloc o)):=⟨λo=>(aw _ _).alloc aT _⟩;by_cases q:g<0
 .go_enter func209,ntmps209
  go_wp2_with fail;exact bodyPost_ret (v:=Nf.v ⟨0,0,0,OJ,0,0⟩) Tl rfl ⟨_,_,_,_,_,_,rfl,b.o _⟩
 .obtain⟨i,rfl⟩:∃i:Nat,g=(i:Int):=⟨g.toNat,aq⟩
  obtain⟨C,G,l,I,M,r,B,L,m,p,F,z,H,S,A,n⟩:=f;simp only at*;by_cases c:i<l
  .obtain⟨t,x,rfl,J,e,k,d,j⟩:=Zq (h.rG) c
   have s:=λo1 a=>aH (aH e o1) a
   have u:=λo1 a=>aH (aH k o1) a
   have y:=λo1 a=>aH (aH d o1) a
   have D:=λo1 a=>aH (aH j o1) a
   go_enter func209,ntmps209;go_wp2_with fail;exact bodyPost_ret (v:=x.v) Tl rfl ⟨_,_,_,_,_,_,rfl,b.o _⟩
  .clear h
   go_enter func209,ntmps209;go_wp2_with fail;exact bodyPost_ret (v:=Nf.v ⟨0,0,0,OJ,0,0⟩) Tl rfl ⟨_,_,_,_,_,_,rfl,b.o _⟩
@[go_sem] theorem acM(a k t : Int)(K : aB)(c b : Nat)(w : EE) : (Instr.field 266 (Q4 #[ae aj a,ae aj k,ae aj t, Pl K c b]) 0).run prog w = .ok (ae aj a) w := by kernel_rfl
@[go_sem] theorem acL(a k t : Int)(K : aB)(c b : Nat)(w : EE) : (Instr.field 266 (Q4 #[ae aj a,ae aj k,ae aj t, Pl K c b]) 1).run prog w = .ok (ae aj k) w := by kernel_rfl
@[go_sem] theorem acO(a k t : Int)(K : aB)(c b : Nat)(w : EE) : (Instr.field 266 (Q4 #[ae aj a,ae aj k,ae aj t, Pl K c b]) 2).run prog w = .ok (ae aj t) w := by kernel_rfl
def uA(f:dv)(g:Int)(w:EE)(h:cC w w.heap.size f):GK prog 317 #[f.v,ae aj g] w (PI w):=by
 have l:f.gn<=9223372036854775807:=h.rG.bd;have a:ak (az w (w.alloc (RM f.row 102))):=⟨aw _ _⟩;have C:ak _:=⟨D' f g (w.alloc (RM f.row 102)) (h.Z a.o a.o.size)⟩;clear h;go_enter func317,ntmps317;go_wp2_with (go_at_call 209;refine C.o.mono ?_;rintro e m ⟨k,j,d,n,c,i,rfl,b⟩);go_ret;exact⟨_,rfl,a.o.trans (b.mono a.o.size)⟩
def Bc(f:dv)(g:Int)(w:EE)(h:cC w w.heap.size f):GK prog 320 #[f.v,ae aj g] w (PI w):=by
 have l:f.gn<=9223372036854775807:=h.rG.bd;have a:ak (az w (w.alloc (RM f.row 102))):=⟨aw _ _⟩;have C:ak _:=⟨D' f g (w.alloc (RM f.row 102)) (h.Z a.o a.o.size)⟩;clear h;go_enter func320,ntmps320;go_wp2_with (go_at_call 209;refine C.o.mono ?_;rintro e m ⟨k,j,d,n,c,i,rfl,b⟩);go_ret;exact⟨_,rfl,a.o.trans (b.mono a.o.size)⟩
def ac0(f:dv)(g:Int)(w:EE)(h:cC w w.heap.size f):GK prog 133 #[f.v,ae aj g] w (PI w):=by
 have l:f.gn<=9223372036854775807:=h.rG.bd;have a:ak (az w (w.alloc (RM f.row 102))):=⟨aw _ _⟩;have C:ak _:=⟨D' f g (w.alloc (RM f.row 102)) (h.Z a.o a.o.size)⟩;clear h;go_enter func133,ntmps133;go_wp2_with (go_at_call 209;refine C.o.mono ?_;rintro e m ⟨k,j,d,n,c,i,rfl,b⟩);go_ret;exact⟨_,rfl,a.o.trans (b.mono a.o.size)⟩
def VJ(A:aB)(n c:Nat)(g:Int)(w:EE)(h:cU w w.heap.size eD A n c):GK prog 355 #[Pl A n c,ae aj g] w (PIB w 0 n):=by
 have j:n<=9223372036854775807:=h.bd;have R:=sH h;go_enter func355,ntmps355;go_wp2;go_loopg[6](n+1)(λgg b wr=>∃i:Nat,n-i<gg/\i<=n/\b=ae aj (i:Int)/\wr=w)
 .exact⟨0,aq,aq,rfl,rfl⟩
 obtain⟨i,f,hi,rfl,rfl⟩:=hrel;by_cases a:i<n
 .obtain⟨e,y,rfl,d⟩:=il R.o a
  go_wp2_with fail
  all_goals first
   |(go_ret2;exact⟨_,_,rfl,aq,aq,Below.refl _ _⟩)
   |(go_roundg(n-i)<;>first|omega|exact⟨i+1,aq,aq,aV,rfl⟩)
 .go_wp2
  go_ret2;exact⟨_,_,rfl,aq,aT,Below.refl _ _⟩
abbrev Lk.row(x:Lk):Array EN:=#[ae aj x.kind,ae aj x.flags,ae aj x.set,Pl x.S x.sn x.sc]
def gh(A:aB)(n c:Nat)(g:Int)(w:EE)(h:cU w w.heap.size eD A n c):GK prog 318 #[Pl A n c,ae aj g] w (PB w):=by
 have j:n<=9223372036854775807:=h.bd;have R:=sH h;go_enter func318,ntmps318;go_wp2;go_loopg[5](n+1)(λgg b wr=>∃i:Nat,n-i<gg/\i<=n/\b=ae aj (i:Int)/\wr=w)
 .exact⟨0,aq,aq,rfl,rfl⟩
 obtain⟨i,f,hi,rfl,rfl⟩:=hrel;by_cases a:i<n
 .obtain⟨e,y,rfl,d⟩:=il R.o a
  go_wp2_with fail
  all_goals first
   |(go_ret;exact⟨_,rfl,Below.refl _ _⟩)
   |(go_roundg(n-i)<;>first|omega|exact⟨i+1,aq,aq,aV,rfl⟩)
 .go_wp2
  go_ret;exact⟨_,rfl,Below.refl _ _⟩
def PRd(w:EE)(e:Ty)(r:IS)(a:EE):Prop:=∃(A:aB) (n c:Nat),r=RE (Pl A n c)/\cU a a.heap.size e A n c/\az w a
def cU.nil(w:EE)(B:Nat)(e:Ty):cU w B e OJ 0 0:=⟨aq,aq,aT,λh=>absurd h aq⟩
def adn(f:dv)(k:Lk)(w:EE)(h:cC w w.heap.size f):GK prog 319 #[f.v,k.v] w (PRd w eD):=by
 have a:ak (az w ((w.alloc (RM f.row 102)).alloc (RM k.row 175))):=⟨(aw _ _).alloc aT _⟩;obtain⟨C,G,E,I,M,s,y,L,o,q,F,x,H,S,d,e⟩:=f;obtain⟨kind,flags,set,Z,z,p⟩:=k;have R:=sH h;by_cases r:set<0
 .go_enter func319,ntmps319
  go_wp2;go_ret;exact⟨_,_,_,rfl,cU.nil _ _ _,a.o⟩
 .obtain⟨i,rfl⟩:∃i:Nat,set=(i:Int):=⟨set.toNat,aq⟩
  by_cases b:i<d
  .obtain⟨u,B,v,D,rfl,m,g⟩:=fR (A:=S) (n:=d) (c:=e) R.o.rS b
   have t:=λo1 l=>aH (aH g o1) l
   have j:=sH (m.Z a.o a.o.size);go_enter func319,ntmps319;go_wp2;go_ret;exact⟨_,_,_,rfl,j.o,a.o⟩
  .go_enter func319,ntmps319
   go_wp2;go_ret;exact⟨_,_,_,rfl,cU.nil _ _ _,a.o⟩
def Bx.f6{x:dv}(h:Bx w b x.row):w.cell? ⟨b,0,OJ⟩=OH (ae aj x.em)/\w.cell? ⟨b,1,OJ⟩=OH (Pl x.G x.gn x.gc)/\w.cell? ⟨b,2,OJ⟩=OH (Pl x.M x.mn x.mc)/\w.cell? ⟨b,3,OJ⟩=OH (Pl x.L x.ln x.lc)/\w.cell? ⟨b,4,OJ⟩=OH (Pl x.F x.fn x.fc)/\w.cell? ⟨b,5,OJ⟩=OH (Pl x.S x.sn x.sc):=⟨h.cell 0,h.cell 1,h.cell 2,h.cell 3,h.cell 4,h.cell 5⟩
def Bx.k4{x:Lk}(h:Bx w b x.row):w.cell? ⟨b,0,OJ⟩=OH (ae aj x.kind)/\w.cell? ⟨b,1,OJ⟩=OH (ae aj x.flags)/\w.cell? ⟨b,2,OJ⟩=OH (ae aj x.set)/\w.cell? ⟨b,3,OJ⟩=OH (Pl x.S x.sn x.sc):=⟨h.cell 0,h.cell 1,h.cell 2,h.cell 3⟩
def pO(f:dv)(k:Lk)(g:Int)(w:EE)(h:cC w w.heap.size f):GK prog 298 #[f.v,k.v,ae aj g] w (PB w):=by
 have⟨j,aP⟩:=eX ((w.alloc (RM f.row 102)).alloc (RM k.row 175));have m:ak (az w j):=⟨aan⟩;have R:=sH (h.Z m.o m.o.size);have s:ak (Bx j w.heap.size f.row):=⟨by rw[aP];exact(Bx.new _ _ _).ar ((Below.refl (w.heap.size+1) _).alloc (by simp) _) (by simp)⟩;have q:ak (Bx j (w.heap.size+1) k.row):=⟨l7⟩;go_enter func298,ntmps298;go_wp2_with fail
 all_goals
  rw[<-aP];refine(uA f g j R.o).mono ?_;rintro e p ⟨z,rfl,u⟩;have c:=sH u;have⟨l,D⟩:=K' (s.o.ar c.o s.o.lt) (q.o.ar c.o q.o.lt);have⟨c0,t,E,B,c4,c5⟩:=l.o.f6;have⟨I,L,H,K⟩:=D.o.k4;have n:=sH (R.o.Z c.o c.o.size);have d:=m.t c.o;go_wp2_with (first
   |(go_at_call 320;refine(Bc f g p n.o).mono ?_;rintro e o ⟨y,rfl,a⟩)
   |(go_at_call 320;refine(Bc f g G A.o).mono ?_;rintro e o ⟨J,rfl,a⟩;have b:=b.trans (a.mono b.size);clear a)
   |(go_at_call 319;refine(adn f k p n.o).mono ?_;rintro e o ⟨C,x,v,rfl,F,a⟩)
   |(go_at_call 318;refine(gh C x v g o F).mono ?_;rintro e G ⟨y,rfl,i⟩;have b:=a.trans (i.mono a.size);have r:=l.o.ar b l.o.lt;have⟨c0,t,E,B,c4,c5⟩:=r.f6;have A:=sH (n.o.Z b b.size);clear a i r))
  all_goals first
   |(go_ret;exact⟨_,rfl,d.o⟩)
   |(go_ret;exact⟨_,rfl,d.o.trans (a.mono d.o.size)⟩)
   |(go_ret;exact⟨_,rfl,d.o.trans (b.mono d.o.size)⟩)
abbrev vv(w:EE)(Q:aC->Prop)(A:aB)(n:Nat):Prop:=Rq w w.heap.size 10 Q A n
def Rq.bK{n:Nat}(h:Rq w B 10 Q A n){j:Nat}(s:j<n):∃(a:Addr) (q o m f p c k d l i:Int),A=OH a/\Q [q,o,m,f,p,c,k,d,l,i]/\w.cell? (a.add (j*10))=OH (ae aj q)/\
 w.cell? (bX (a.add (j*10)) 1)=OH (ae aj o)/\w.cell? (bX (a.add (j*10)) 2)=OH (ae aj m)/\w.cell? (bX (a.add (j*10)) 3)=OH (ae aj f)/\
 w.cell? (bX (a.add (j*10)) 4)=OH (ae aj p)/\w.cell? (bX (a.add (j*10)) 5)=OH (ae aj c)/\w.cell? (bX (a.add (j*10)) 6)=OH (ae aj k)/\
 w.cell? (bX (a.add (j*10)) 7)=OH (ae aj d)/\w.cell? (bX (a.add (j*10)) 8)=OH (ae aj l)/\w.cell? (bX (a.add (j*10)) 9)=OH (ae aj i):=by
 obtain⟨a,e,_,u⟩:=h aq;obtain⟨g,v,t,b⟩:=u j s
 match g,v with
 |[q,o,m,f,p,c,k,d,l,i],_=>
  have r:=b 0 _ rfl;rw[fA]at r;exact⟨a,q,o,m,f,p,c,k,d,l,i,e,t,r,b 1 _ rfl,b 2 _ rfl,b 3 _ rfl,b 4 _ rfl,b 5 _ rfl,b 6 _ rfl,b 7 _ rfl,b 8 _ rfl,b 9 _ rfl⟩
def iS{f:dv}{k:Lk}{a:EE}(h:a=(w.alloc (RM f.row 102)).alloc (RM k.row 175)):az w a/\Bx a w.heap.size f.row/\Bx a (w.heap.size+1) k.row:=
 ⟨aal,by rw[h];exact(Bx.new _ _ _).ar ((Below.refl (w.heap.size+1) _).alloc (by simp) _) (by simp),by rw[h];exact Bx.iR _ _ _ (by simp)⟩
def bP{w0:EE}{n:aI w0}{f:FuncId}{args:Array EN}(h:GK P f args n.1 (PB n.1)):GK P f args n.1 λe a=>∃v,e=RE v/\SB v/\∃m:aI w0,a=m.1:=
 h.mono λe a ⟨b,d,c⟩=>⟨_,d,⟨b,rfl⟩,⟨a,n.2.trans (c.mono n.2.size)⟩,rfl⟩
def PNx(w:EE)(at_ n:Nat)(e:IS)(a:EE):Prop:=∃z:Int,e=RE (ae aj z)/\(z= -1∨((at_:Int)<z/\z<n))/\az w a
def yU(f:dv)(k:Lk)(Q:aC->Prop)(A:aB)(n c at_:Nat)(w:EE)(h:cC w w.heap.size f)(t:vv w Q A n)(Y:n<=100000)(ha:at_<n):GK prog 339 #[f.v,k.v,Pl A n c,ae aj (at_:Int)] w (PNx w at_ n):=by
 have⟨K,e⟩:=eX ((w.alloc (RM f.row 102)).alloc (RM k.row 175));have o:=iS e;have⟨d,p,r⟩:=MO o.1 o.2.1 o.2.2;have⟨R,L⟩:=K' (h.Z d.o d.o.size) (t.Z d.o d.o.size);have X:¬((at_:Int)< -1):=aq;have V:=aU at_ n;go_enter func339,ntmps339;go_wp2;rw[<-e];go_loopg[9](n+1)(λgg x wr=>∃i:Nat,n-i<gg/\i<=n/\at_<i/\x=ae aj (i:Int)/\ak (az K wr))
 .exact⟨at_+1,aq,aq,aq,aV,cJ⟩
 obtain⟨i,O,hi,G,rfl,a⟩:=hrel;have⟨c0,z,I,v,c4,c5⟩:=(p.o.ar a.o p.o.lt).f6;have⟨s,J,B,y⟩:=(r.o.ar a.o r.o.lt).k4;have D:=d.t a.o;by_cases j:i<n
 .obtain⟨ad,F,x1,x2,T,S,x5,x6,x7,M,x9,rfl,N,C,_⟩:=(L.o.Z a.o a.o.size).bK j
  have u:=sH (R.o.Z a.o a.o.size);have Z:=aU i n;go_wp2;have⟨L0,L1,L2,L3,L4,L5,M0,M1⟩:=lc8 c0 z I v c4 c5 s J;have⟨W,U,E0⟩:=lc3 B y C;refine aE (kC 32 SB) aF aF ?_
  repeat(refine cB aD aD aD ?_;intro H m;go_big_quiet_op;go_big_quiet_on)
  refine lsA SB (λg=> ?_) (λP l=> ?_)
  .go_simp
   exact bP (pO f k F g.1 (u.o.Z g.2 g.2.size))
  obtain⟨b,rfl⟩:=l;simp[Act.put]
  repeat(refine cB aD aD aD ?_;intro H m;go_big_quiet_op;go_big_quiet_on)
  intro g;have q:=a.t g.2;have E:=d.t q.o;cases b
  .go_wp2
   go_ret;exact⟨_,rfl,.inr ⟨aq,aq⟩,E.o⟩
  .go_wp2
   go_roundg(n-i)
   .exact⟨i+1,aq,aq,aq,aV,q⟩
   omega
 .go_wp2
  go_ret;exact⟨_,rfl,.inl rfl,D.o⟩
def yG(f:dv)(k:Lk)(Q:aC->Prop)(A:aB)(n c at_:Nat)(w:EE)(h:cC w w.heap.size f)(t:vv w Q A n)(hn:n<=100000)(ha:at_<n):GK prog 353 #[f.v,k.v,Pl A n c,ae aj (at_:Int)] w (PIn w (-1) at_):=by
 have⟨K,e⟩:=eX ((w.alloc (RM f.row 102)).alloc (RM k.row 175));have o:=iS e;have⟨d,p,r⟩:=MO o.1 o.2.1 o.2.2;have⟨R,L⟩:=K' (h.Z d.o d.o.size) (t.Z d.o d.o.size);have Z:¬((n:Int)<(at_:Int)):=aq;have X:=aU at_ n;go_enter func353,ntmps353;go_wp2;rw[<-e];go_loopg[9](n+1)(λgg x wr=>∃i:Nat,i<gg/\i<=at_/\x=ae aj ((i:Int)-1)/\ak (az K wr))
 .exact⟨at_,aq,aq,aV,cJ⟩
 obtain⟨i,S,hi,rfl,a⟩:=hrel;have⟨c0,z,I,v,c4,c5⟩:=(p.o.ar a.o p.o.lt).f6;have⟨s,J,C,y⟩:=(r.o.ar a.o r.o.lt).k4;have E:=d.t a.o;rcases i with _|i
 rotate_left
 .have B:(((i+1:Nat):Int)-1)=(i:Int):=by omega
  rw[B];have j:i<n:=aq;have M:=aU 0 at_;have N:=gT i;obtain⟨ad,G,x1,x2,V,U,x5,x6,x7,O,x9,rfl,P,D,_⟩:=(L.o.Z a.o a.o.size).bK j;have u:=sH (R.o.Z a.o a.o.size);have i1:=aU i n;go_wp2;have⟨L0,L1,L2,L3,L4,L5,M0,M1⟩:=lc8 c0 z I v c4 c5 s J;have⟨Y,W,E0⟩:=lc3 C y D;refine aE (kC 30 SB) aF aF ?_
  repeat(refine cB aD aD aD ?_;intro H m;go_big_quiet_op;go_big_quiet_on)
  refine lsA SB (λg=> ?_) (λT l=> ?_)
  .go_simp
   exact bP (pO f k G g.1 (u.o.Z g.2 g.2.size))
  obtain⟨b,rfl⟩:=l;simp[Act.put]
  repeat(refine cB aD aD aD ?_;intro H m;go_big_quiet_op;go_big_quiet_on)
  intro g;have q:=a.t g.2;have F:=d.t q.o;cases b
  .go_wp2
   go_ret;exact⟨_,rfl,aq,aq,F.o⟩
  .go_wp2
   go_roundg(i+1)
   .exact⟨i,aq,aq,aV,q⟩
   omega
 .go_wp2
  go_ret;exact⟨_,rfl,aq,aq,E.o⟩
def UK(w:EE)(n:Nat)(e:IS)(a:EE):Prop:=∃(A:aB) (m c:Nat) (b:Bool),e=RE (.tuple #[Pl A m c,PF b])/\(b=OX->m<=n/\∃xs,Own a w.heap.size 3 .i64 A m c xs/\∀x∈xs,0<=x/\x<n)/\az w a
def mQ8(s:G:=by
 obtain⟨j,rfl⟩:∃j:Nat,z=(j:Int):=⟨z.toNat,aq⟩
 have hj:j<n:=aq;obtain⟨sd,A3,n3,c3,rfl,r3,s0⟩:=fR (RS.o.Z BN.o BN.o.size) aG;obtain⟨ad,x0,x1,x2,x3,x4,x5,x6,x7,x8,x9,rfl,hQ,e0,_⟩:=(GL.o.Z BN.o BN.o.size).bK hj;clear hQ;have R3:ak (cU w1 w1.heap.size eD A3 n3 c3):=⟨r3⟩;clear r3;have i2:=aU j n;have i4:((j:Int)== -1)=OZ:=iY;go_wp2;have⟨S0,E0⟩:=lc2 s0 e0;clear s0 e0;refine aE (kC 45 SB) aF aF ?_
 repeat(refine cB aD aD aD ?_;intro K9 bQ;go_big_quiet_op;go_big_quiet_on)
 refine cK SB aD aD (λw9 cv=> ?_) (λv9 aX=> ?_)
 .obtain⟨nq,rfl⟩:=cv
  go_simp;exact bP (gh A3 n3 c3 x0 nq.1 (R3.o.Z nq.2 nq.2.size))
 obtain⟨b,rfl⟩:=aX;simp[Act.put]
 repeat(refine cB aD aD aD ?_;intro K9 bQ;go_big_quiet_op;go_big_quiet_on)
 intro nq;obtain⟨w5,b5⟩:=nq;have B5:ak (az w1 w5):=⟨b5⟩;dsimp only;clear b5 S0 E0;have OX5:ak (Own w5 W1.heap.size 3 .i64 A2 i c2 xs):=⟨OX1.o.ar B5.o⟩;have BN5:ak (az W1 w5):=⟨BN.o.trans (B5.o.mono BN.o.size)⟩;have sO:=BN5.o.size;cases b
 .go_wp2
  go_ret2;exact⟨_,_,_,_,rfl,aT,B1.o.trans (BN5.o.mono B1.o.size)⟩
 .go_wp2_with (at_builtin;refine ju TIv rfl (.tmp 48) (.tmp 50) rfl rfl (OX5.o.alloc _) rfl (y:=(j:Int)) (nF _ _ _ _ aT) aq br ?_;intro A4 c4 w4 o4 b4;have O4:ak _:=⟨o4⟩;have X4:ak (az W1 w4):=⟨(BN5.o.alloc aq _).trans b4⟩;clear o4 b4)
  go_roundg(sn-i)
  case measure=>omega
  case rel=>exact⟨i+1,j,A4,c4,_,aq,aq,hj,iY,rfl,rfl,aV,O4,⟨λx hx=>by
   rw[List.mem_append]at hx;rcases hx with hx|hx
   .exact HX.o x hx
   .simp at hx;omega⟩,X4⟩):G:=s
def mQ9(s:G:=by
 go_wp2
 go_quiet (fail);go_wp2;go_ret2;exact⟨_,_,_,_,rfl,aT,aO BM.o _⟩):G:=s
def Zz(f:dv)(k:Lk)(Q:aC->Prop)(A:aB)(n c at_:Nat)(I:aB)(sn K:Nat)(back:Bool)(w:EE)(h:cC w w.heap.size f)(P:vv w Q A n)(O:cU w w.heap.size (.arr eD) I sn K)(T:n<=100000)(X:at_<n):
 GK prog 351 #[f.v,k.v,Pl A n c,ae aj (at_:Int),Pl I sn K,PF back] w (UK w n):=by
 have⟨W1,m⟩:=eX ((w.alloc (RM f.row 102)).alloc (RM k.row 175));have F:=iS m;have B1:ak (az w W1):=⟨F.1⟩;have r:ak (Bx W1 w.heap.size f.row):=⟨F.2.1⟩;have u:ak (Bx W1 (w.heap.size+1) k.row):=⟨F.2.2⟩;have R:ak (cC W1 W1.heap.size f):=⟨h.Z B1.o B1.o.size⟩;have GL:ak (vv W1 Q A n):=⟨P.Z B1.o B1.o.size⟩;have RS:ak (cU W1 W1.heap.size (.arr eD) I sn K):=⟨O.Z B1.o B1.o.size⟩;have V:=O.bd;clear h P F O;go_enter func351,ntmps351;go_wp2;rw[<-m];clear m;go_loopg[3,14,15](sn+1)(λgg v3 J L wr=>∃(i a:Nat) (A2:aB) (c2:Nat) (xs:aC),sn-i<gg/\i<=sn/\a<n/\(if back then a+i<n else i<=a)/\v3=ae aj (a:Int)/\J=Pl A2 i c2/\L=ae aj (i:Int)/\ak (Own wr W1.heap.size 3 .i64 A2 i c2 xs)/\ak (∀x∈xs,0<=x/\x<n)/\ak (az W1 wr))
 .exact⟨0,at_,OJ,0,[],aq,aq,X,by split<;>omega,rfl,rfl,rfl,⟨Own.nil _ _ _ _⟩,⟨aT⟩,cJ⟩
 obtain⟨i,a,A2,c2,xs,Z,hi,D,l,rfl,rfl,rfl,E,HX,d⟩:=hrel;have⟨c0,s,g,c3,c4,c5⟩:=(r.o.ar d.o r.o.lt).f6;have⟨p,v,t,q⟩:=(u.o.ar d.o u.o.lt).k4;have Y:ak (az w wr):=⟨B1.o.trans (d.o.mono B1.o.size)⟩;by_cases aG:i<sn
 .have S:ak (cC wr wr.heap.size f):=⟨R.o.Z d.o d.o.size⟩
  have U:ak (vv wr Q A n):=⟨GL.o.Z d.o d.o.size⟩;have i1:=aU i sn;have M:ak _:=⟨yG f k Q A n c a wr S.o U.o T D⟩;have N:ak _:=⟨yU f k Q A n c a wr S.o U.o T D⟩;cases back
  .simp only[Bool.false_eq_true,if_false,if_true]at l
   clear c0 s g c3 c4 c5 p v t q;have⟨c0,s,g,c3,c4,c5⟩:=(r.o.ar d.o r.o.lt).f6;have⟨p,v,t,q⟩:=(u.o.ar d.o u.o.lt).k4;go_wp2_with fail;refine(N.o).mono ?_;rintro e w1 ⟨z,rfl,W,o⟩;have G:z= -1∨(0<=z/\z<n/\(a:Int)<z):=aq;clear c0 s g c3 c4 c5 p v t q M N;have BN:ak (az W1 w1):=⟨d.o.trans (o.mono d.o.size)⟩;have OX1:ak (Own w1 W1.heap.size 3 .i64 A2 i c2 xs):=⟨E.o.ar o⟩;have BM:ak (az w w1):=⟨B1.o.trans (BN.o.mono B1.o.size)⟩;clear o E;rcases G with rfl|⟨B,C,H⟩
   .exact mQ9
   .exact mQ8
  .simp only[Bool.false_eq_true,if_false,if_true]at l
   clear c0 s g c3 c4 c5 p v t q;have⟨c0,s,g,c3,c4,c5⟩:=(r.o.ar d.o r.o.lt).f6;have⟨p,v,t,q⟩:=(u.o.ar d.o u.o.lt).k4;go_wp2_with fail;refine(M.o).mono ?_;rintro e w1 ⟨z,rfl,B,C,o⟩;have G:z= -1∨(0<=z/\z<n/\z<a):=aq;clear c0 s g c3 c4 c5 p v t q M N;have BN:ak (az W1 w1):=⟨d.o.trans (o.mono d.o.size)⟩;have OX1:ak (Own w1 W1.heap.size 3 .i64 A2 i c2 xs):=⟨E.o.ar o⟩;have BM:ak (az w w1):=⟨B1.o.trans (BN.o.mono B1.o.size)⟩;clear o E;rcases G with rfl|⟨B,C,H⟩
   .exact mQ9
   .exact mQ8
 .go_wp2
  go_ret2;exact⟨_,_,_,_,rfl,λ_=>⟨by split at l<;>omega,xs,(E.o.gW B1.o.size),HX.o⟩,Y.o⟩
def Pm(f:dv)(k:Lk)(Q:aC->Prop)(A:aB)(n c at_:Nat)(l:aB)(j i:Nat)(w:EE)(h:cC w w.heap.size f)(q:vv w Q A n)(s:cU w w.heap.size (.arr eD) l j i)(v:n<=100000)(p:at_<n):
 GK prog 335 #[f.v,k.v,Pl A n c,ae aj (at_:Int),Pl l j i] w (UK w n):=by
 have⟨x,d⟩:=eX ((w.alloc (RM f.row 102)).alloc (RM k.row 175));have u:=iS d;have a:=sH u.1;have C:=sH (Zz f k Q A n c at_ l j i OZ x (h.Z a.o a.o.size) (q.Z a.o a.o.size) (s.Z a.o a.o.size) v p);go_enter func335,ntmps335;go_wp2_with fail;rw[<-d];refine C.o.mono ?_;rintro e y ⟨r,m,t,b,rfl,g,o⟩;go_wp2;go_ret2;exact⟨r,m,t,b,rfl,λe=>⟨(g e).1,(g e).2.choose,(g e).2.choose_spec.1.gW a.o.size,(g e).2.choose_spec.2⟩,a.o.trans (o.mono a.o.size)⟩
def Rf(f:dv)(k:Lk)(Q:aC->Prop)(A:aB)(n c at_:Nat)(l:aB)(j i:Nat)(w:EE)(h:cC w w.heap.size f)(q:vv w Q A n)(s:cU w w.heap.size (.arr eD) l j i)(v:n<=100000)(p:at_<n):
 GK prog 336 #[f.v,k.v,Pl A n c,ae aj (at_:Int),Pl l j i] w (UK w n):=by
 have⟨x,d⟩:=eX ((w.alloc (RM f.row 102)).alloc (RM k.row 175));have u:=iS d;have a:=sH u.1;have C:=sH (Zz f k Q A n c at_ l j i OX x (h.Z a.o a.o.size) (q.Z a.o a.o.size) (s.Z a.o a.o.size) v p);go_enter func336,ntmps336;go_wp2_with fail;rw[<-d];refine C.o.mono ?_;rintro e y ⟨r,m,t,b,rfl,g,o⟩;go_wp2;go_ret2;exact⟨r,m,t,b,rfl,λe=>⟨(g e).1,(g e).2.choose,(g e).2.choose_spec.1.gW a.o.size,(g e).2.choose_spec.2⟩,a.o.trans (o.mono a.o.size)⟩
def pT:aS prog 42 126 10 80:=bD underlying42 (z:=Q4 #[ae aj 0,ae aj 0,ae aj 0,ae aj 0,ae aj 0,ae aj 0,ae aj 0,ae aj 0,ae aj 0,ae aj 0]) aF rfl aq aq
abbrev lF(w:EE)(L:List aC->Prop)(A:aB)(n:Nat):Prop:=RL w w.heap.size 10 L A n
abbrev iZ(w:EE)(B:Nat)(L:List aC->Prop)(A:aB)(n c:Nat):Prop:=OL w B 126 10 L A n c
def Uk(w:EE)(L:List aC->Prop)(n:Nat)(r:IS)(a:EE):Prop:=∃(A:aB) (c:Nat),r=RE (Pl A n c)/\iZ a w.heap.size L A n c/\az w a
def AR(L:List aC->Prop)(A:aB)(n c:Nat)(w:EE)(h:lF w L A n)(m:n<=100000):GK prog 346 #[Pl A n c] w (Uk w L n):=by
 have R:=sH h;go_enter func346,ntmps346;go_wp2_with (at_builtin;refine cL (L':=L) pT rfl (.tmp 4) (.tmp 5) rfl rfl (OL.nil (L:=λgs=>gs=[]) w w.heap.size _ _ rfl) rfl R.o (λgs l _ _ _ _ h1 h2=>Dd) aq cr ?_;intro f i o a b;have j:=sH a;have d:=sH b;clear a b);go_ret;rw[Nat.zero_add]at*;exact⟨f,i,rfl,j.o,d.o⟩
def Lq(lo hi:Int)(g:aC):Prop:=lo<=nth g 1/\nth g 1<hi
def CS(lo hi:Int)(cs:aC):Prop:=(∀x∈cs,lo<=x/\x<hi)/\cs.Pairwise (·<= ·)
def bI(lo hi:Int)(gs:List aC):Prop:=CS lo hi (aM gs)
def CS.nil(lo hi:Int):CS lo hi []:=⟨aT,.nil⟩
def RL.jB{w:EE}{B n:Nat}(h:RL w B 10 (bI lo hi) A n):Rq w B 10 (Lq lo hi) A n:=h.rq λgs b g a=>b.1 (nth g 1) (List.mem_map.2 ⟨g,a,rfl⟩)
def OL.jB{w:EE}{B n c:Nat}{e:IQ}(h:OL w B e 10 (bI lo hi) A n c):Oq w B e 10 (Lq lo hi) A n c:=h.oq λgs b g a=>b.1 (nth g 1) (List.mem_map.2 ⟨g,a,rfl⟩)
def OL.le{w:EE}{B n c k:Nat}{e:IQ}{L:List aC->Prop}(h:OL w B e k L A n c):n<=c:=by
 obtain⟨gs,d,f,b,a⟩:=h;exact aA.le a
def gB(gs a:List aC):aM (gs++a)=aM gs++aM a:=by simp[aM]
def dK(gs:List aC):(aM gs).length=gs.length:=by simp[aM]
def lu(gs:List aC)(i m:Nat):aM ((gs.drop i).take m)=((aM gs).drop i).take m:=by simp[aM,List.map_take,List.map_drop]
def CS.sub{ds:aC}(h:CS lo hi cs)(a:ds.Sublist cs):CS lo hi ds:=⟨λx b=>h.1 x (a.subset b),h.2.sublist a⟩
def CS.le(h:CS lo hi cs){i j:Nat}(a:i<=j)(d:j<cs.length):nth cs i<=nth cs j:=by
 rw[bZ aq,bZ d];rcases Nat.eq_or_lt_of_le a with rfl|b
 .exact Int.le_refl _
 .exact List.pairwise_iff_getElem.1 h.2 i j aq d b
def CS.at_(h:CS lo hi cs){j:Nat}(a:j<cs.length):lo<=nth cs j/\nth cs j<hi:=by
 rw[bZ a];exact h.1 _ (List.getElem_mem a)
def CS.mid{ds:aC}(h:CS lo hi (cs++ds))(i:lo<=z/\z<hi)(j:∀x∈cs,x<=z)(l:∀x∈ds,z<=x)(m:Nat):CS lo hi (cs++(List.replicate m z++ds)):=by
 obtain⟨a,b⟩:=h;rw[List.pairwise_append]at b;refine⟨λx d=> ?_, ?_⟩
 .simp only[List.mem_append]at d
  rcases d with d|d|d
  .exact a x (List.mem_append_left _ d)
  .rw[List.eq_of_mem_replicate d];exact i
  .exact a x (List.mem_append_right _ d)
 .refine List.pairwise_append.2 ⟨b.1,List.pairwise_append.2 ⟨List.pairwise_replicate.2 (.inr (Int.le_refl _)),b.2.1,λx d y f=>by rw[List.eq_of_mem_replicate d];exact l y f⟩,λx d y f=> ?_⟩
  rcases List.mem_append.1 f with f|f
  .rw[List.eq_of_mem_replicate f];exact j x d
  .exact b.2.2 x d y f
def GP(lo hi z:Int)(k:Nat)(cs:aC):Prop:=CS lo hi cs/\(∀x∈cs.take k,x<=z)/\∀x∈cs.drop k,z<=x
def GP.set{k:Nat}(h:GP lo hi z k cs)(i:lo<=z/\z<hi)(b:k<cs.length):GP lo hi z (k+1) (cs.set k z):=by
 obtain⟨l,f,j⟩:=h;have e:cs.set k z=cs.take k++(List.replicate 1 z++cs.drop (k+1)):=by rw[List.set_eq_take_append_cons_drop,if_pos b];rfl
 have d:∀x∈cs.drop (k+1),z<=x:=λx a=>j x (by rw[List.drop_eq_getElem_cons b];exact List.mem_cons_of_mem _ a)
 have m:CS lo hi (cs.take k++cs.drop (k+1)):=l.sub (by
  conv=>rhs;rw[<-List.take_append_drop k cs]
  exact(List.Sublist.refl _).append (by rw[List.drop_eq_getElem_cons b];exact List.sublist_cons_self _ _))
 refine⟨by rw[e];exact m.mid i f d 1,λx a=> ?_,λx a=> ?_⟩
 .rw[e,List.take_append,List.length_take,Nat.min_eq_left aq,Nat.add_sub_cancel_left,List.take_of_length_le Ta]at a
  rcases List.mem_append.1 a with a|a
  .exact f x a
  .simp at a;omega
 .rw[List.drop_set_of_lt aq]at a
  exact d x a
def tR(gs:List aC)(j:Nat)(a:j<gs.length)(b:∀g∈gs,g.length=10)(z:Int):aM (gs.set j (gs[j].set 1 z))=(aM gs).set j z:=by
 unfold aM;rw[List.map_set]
 congr 1
 have:=b _ (List.getElem_mem a);simp[nth,this]
def qN(gs:List aC){j q:Nat}(hj:j<gs.length)(a:q≠1)(z:Int):aM (gs.set j (gs[j].set q z))=aM gs:=by
 unfold aM;rw[List.map_set];have e:nth (gs[j].set q z) 1=(gs.map (nth · 1))[j]' vO:=by
  unfold nth;simp[List.getElem?_set,a]
 rw[e,List.set_getElem_self]
def Ia(lo hi:Int)(gs:List aC)(A:aB)(n c:Nat)(w:EE)(h:Rx w w.heap.size 10 gs A n)(q:bI lo hi gs)(D:n<=100000)(o:0<n):
 GK prog 347 #[Pl A n c] w (λe m=>e=RE (ae aj (nth (aM gs) 0))/\m=w):=by
 have v:(aM gs).length=n:=by rw[dK];exact h.1
 have r:ak (∀i,i<n->nth (aM gs) 0<=nth (aM gs) i):=⟨λi hi=>q.le (Nat.zero_le _) aq⟩;have R:ak (∀i,i<n->∃a:Addr,A=OH a/\w.cell? (bX (a.add (i*10)) 1)=OH (ae aj (nth (aM gs) i))):=⟨λi hi=>by
  obtain⟨a,j,t,x,l⟩:=h.at_ hi;refine⟨a,j, ?_⟩;rw[gK (by rw[h.1];exact hi)];exact l 1 aq⟩
 obtain⟨a,rfl,f⟩:=R.o 0 o;rw[Nat.zero_mul,fA]at f;generalize nth (aM gs) 0=z at*;go_enter func347,ntmps347;go_wp2;go_loopg[3,4](n+1)(λgg v3 v4 wr=>∃(i:Nat),n-i<gg/\i<=n/\v3=ae aj z/\v4=ae aj (i:Int)/\wr=w)
 .exact⟨1,aq,aq,rfl,rfl,rfl⟩
 obtain⟨i,u,hi,rfl,rfl,rfl⟩:=hrel;by_cases b:i<n
 .obtain⟨d,p,f⟩:=R.o i b
  obtain rfl:a=d:=by injection p
  have C:=r.o i b;generalize nth (aM gs) i=y at*;have s:¬y<z:=aq;have E:=aU i n;go_wp2;go_roundg(n-i)
  .exact⟨i+1,aq,aq,rfl,aV,rfl⟩
  omega
 .go_wp2
  go_ret;exact⟨rfl,rfl⟩
def R10(w:EE)(A:aB)(j:Nat)(Q:aC->Prop):Prop:=∃(a:Addr) (p q b h i d m f o l:Int),A=OH a/\Q [p,q,b,h,i,d,m,f,o,l]/\w.cell? (a.add (j*10))=OH (ae aj p)/\w.cell? (bX (a.add (j*10)) 1)=OH (ae aj q)/\w.cell? (bX (a.add (j*10)) 2)=OH (ae aj b)/\w.cell? (bX (a.add (j*10)) 3)=OH (ae aj h)/\w.cell? (bX (a.add (j*10)) 4)=OH (ae aj i)/\w.cell? (bX (a.add (j*10)) 5)=OH (ae aj d)/\w.cell? (bX (a.add (j*10)) 6)=OH (ae aj m)/\w.cell? (bX (a.add (j*10)) 7)=OH (ae aj f)/\w.cell? (bX (a.add (j*10)) 8)=OH (ae aj o)/\w.cell? (bX (a.add (j*10)) 9)=OH (ae aj l)
def Rx.bK{w:EE}{B n:Nat}(h:Rx w B 10 gs A n)(d:j<n):R10 w A j (·=dS gs j):=by
 obtain⟨f,l,i,_,a⟩:=h.at_ d;generalize dS gs j=g at*
 match g,i with
 |[x0,x1,x2,x3,x4,x5,x6,x7,x8,x9],_=>
  have b:=a 0 aq;rw[fA]at b;exact⟨f,x0,x1,x2,x3,x4,x5,x6,x7,x8,x9,l,rfl,b,a 1 aq,a 2 aq,a 3 aq,a 4 aq,a 5 aq,a 6 aq,a 7 aq,a 8 aq,a 9 aq⟩
def Ky(h:i<gs.length):gs.take i++[dS gs i]=gs.take (i+1):=by
 rw[List.take_succ_eq_append_getElem h];simp[dS,h]
def yW(b a:Int)(w:EE):GK prog 261 #[ae aj b,ae aj a] w λe d=>e=RE (Q4 #[ae aj b,ae aj a,ae aj 0,ae aj 0,ae aj 0,ae aj (-1),ae aj (-1),ae aj 0,ae aj 0,ae aj 0])/\az w d:=by
 go_enter func261,ntmps261;go_wp2_with fail;exact bodyPost_ret (v:=Q4 #[ae aj b,ae aj a,ae aj 0,ae aj 0,ae aj 0,ae aj (-1),ae aj (-1),ae aj 0,ae aj 0,ae aj 0]) (by simp[results,results261,go_sem]) rfl ⟨rfl,aw _ _⟩
def agb(w:EE)(L:List aC->Prop)(N:Nat)(e:IS)(a:EE):Prop:=∃q,q<=N/\Uk w L q e a
def Oq.alloc{w:EE}{B k n c:Nat}{e:IQ}(h:Oq w B e k Q A n c)(o:Obj):Oq (w.alloc o) B e k Q A n c:=h.ar ((Below.refl _ _).alloc cr o)
def cP(g:aC)(w:EE)(t:IQ)(cs:Array EN)(N:Nat)(d:w.heap.size=N)(a:cs.toList=dt g):∀j u,(dt g)[j]? =OH u->(w.alloc (RM cs t)).cell? ⟨N,j,OJ⟩=OH u:=λj u b=>by
 subst d;rw[cell_of_row _ _ _ _ _ _ (heap_alloc_new w _),<-b,<-a];simp
def Oq.bK{w:EE}{B n c:Nat}{e:IQ}{g:Nat}(h:Oq w B e 10 Q (OH ⟨g,0,OJ⟩) n c){j:Nat}(y:j<n):∃m s i o l a d b f p:Int,Q [m,s,i,o,l,a,d,b,f,p]/\w.cell? ⟨g,j*10,OJ⟩=OH (ae aj m)/\
 w.cell? ⟨g,j*10+1,OJ⟩=OH (ae aj s)/\w.cell? ⟨g,j*10+2,OJ⟩=OH (ae aj i)/\w.cell? ⟨g,j*10+3,OJ⟩=OH (ae aj o)/\w.cell? ⟨g,j*10+4,OJ⟩=OH (ae aj l)/\w.cell? ⟨g,j*10+5,OJ⟩=OH (ae aj a)/\
 w.cell? ⟨g,j*10+6,OJ⟩=OH (ae aj d)/\w.cell? ⟨g,j*10+7,OJ⟩=OH (ae aj b)/\w.cell? ⟨g,j*10+8,OJ⟩=OH (ae aj f)/\w.cell? ⟨g,j*10+9,OJ⟩=OH (ae aj p):=by
 obtain⟨u,e,_,z⟩:=h.rq aq aq;obtain rfl:(⟨g,0,OJ⟩:Addr)=u:=CJ;obtain⟨r,v,t,A⟩:=z j y;have key:∀q x,r[q]? =OH x->w.cell? ⟨g,j*10+q,OJ⟩=OH (ae aj x):=λq x C=>by
  have:=A q x C;rwa [aY,bC]at this
 match r,v with
 |[m,s,i,o,l,a,d,b,f,p],_=>exact⟨m,s,i,o,l,a,d,b,f,p,t,key 0 _ rfl,key 1 _ rfl,key 2 _ rfl,key 3 _ rfl,key 4 _ rfl,key 5 _ rfl,key 6 _ rfl,key 7 _ rfl,key 8 _ rfl,key 9 _ rfl⟩
def Oq.fz{w:EE}{B n c k:Nat}{e:IQ}{g:Nat}(h:Oq w B e k Q (OH ⟨g,0,OJ⟩) n c)(j:Nat):w.frozen? ⟨g,j,OJ⟩=OZ:=by
 obtain⟨gs,b,d,a⟩:=h;exact aA.frozenAt a j
def Oq.lt{w:EE}{B n c k:Nat}{e:IQ}{g:Nat}(h:Oq w B e k Q (OH ⟨g,0,OJ⟩) n c):B<=g/\g<w.heap.size:=by
 obtain⟨gs,b,d,a⟩:=h;exact aA.yp a
section
variable{w:EE}{B n c k:Nat}{e:IQ}{L:List aC -> Prop}{g:Nat}
def OL.fz(h:OL w B e k L (OH ⟨g,0,OJ⟩) n c)(j:Nat):w.frozen? ⟨g,j,OJ⟩=OZ:=h.o.fz j
def OL.lt(h:OL w B e k L (OH ⟨g,0,OJ⟩) n c):B<=g/\g<w.heap.size:=h.o.lt
end
def Lv(lo hi:Int)(A:aB)(n c at_:Nat)(I:aB)(m d:Nat)(w:EE)(h:lF w (bI lo hi) A n)(O:cU w w.heap.size eD I m d)(hn:n<=50000)(hm:m<=1000)(ha:at_<n)(hc:n<=c):
 GK prog 328 #[Pl A n c,ae aj (at_:Int),ae aj 1,Pl I m d] w (agb w (bI lo hi) (n+m)):=by
 obtain⟨gs,D,b⟩:=h;have hl:(aM gs).length=n:=by rw[dK];exact b.1
 have R:ak (vv w (λ_=>True) A n):=⟨b.rq λ_ _=>trivial⟩;have RI:=sH O;obtain⟨A2,c2,C2⟩:=Ie pT A n c at_ (at_+1) aq aq hc (at_:Int) ((at_:Int)+1) rfl aT;obtain⟨A3,c3,C3⟩:=Ff pT A n c at_ aq hc (at_:Int) rfl;obtain⟨A4,c4,C4⟩:=Sc pT A n c (at_+1) aq hc ((at_:Int)+1) aT;have r2:=C2.run;have r3:=C3.run;have r4:=C4.run;have⟨z,V⟩:=eY (nth (aM gs) at_);have PZ:ak (lo<=z/\z<hi):=⟨by rw[<-V];exact CS.at_ D (by omega)⟩;have ez:nth (aM ((gs.drop at_).take (at_+1-at_))) 0=z:=by
  rw[<-V];unfold nth aM;simp
 have S2:bI lo hi ((gs.drop at_).take (at_+1-at_)):=CS.sub D ae8;have Y:=sH (Ia lo hi _ A2 _ c2 w (C2.rx b) S2 aq aq);rw[ez]at Y;have G3:ak (lF w (λxs=>aM xs=(aM gs).take at_) A3 at_):=⟨_,(lu _ _ _).trans aT,C3.rx b⟩;have G4:ak (lF w (λxs=>aM xs=(aM gs).drop (at_+1)) A4 (n-(at_+1))):=⟨_,(lu _ _ _).trans (List.take_of_length_le (by rw[List.length_drop];omega)),C4.rx b⟩;have a:aM gs=(aM gs).take at_++(z::(aM gs).drop (at_+1)):=by
  rw[<-V,bZ aq,<-List.drop_eq_getElem_cons aq,List.take_append_drop]
 have CT:ak (∀x∈(aM gs).take at_,x<=z):=⟨λx b=>by
  have j:=D.2;rw[a,List.pairwise_append]at j;exact j.2.2 x b z aT⟩
 have CD:ak (∀x∈(aM gs).drop (at_+1),z<=x):=⟨λx b=>by
  have j:=D.2;rw[a,List.pairwise_append,List.pairwise_cons]at j;exact j.2.1.1 x b⟩
 have CC:ak (CS lo hi ((aM gs).take at_++(aM gs).drop (at_+1))):=⟨CS.sub D (by
  conv=>rhs;rw[a]
  exact(List.Sublist.refl _).append (List.sublist_cons_self _ _))⟩
 have lT:ak (((aM gs).take at_).length=at_):=⟨Ta⟩;generalize(aM gs).take at_=cT at*;generalize(aM gs).drop (at_+1)=cD at*;obtain⟨F,e2⟩:at_+1-at_=1/\True:=⟨aq,trivial⟩;rw[F]at r2 Y;have b1:¬((n:Int)<(at_:Int)):=aq;have b2:¬((n:Int)-(at_:Int)<1):=aq;go_enter func328,ntmps328;go_wp2_with fail;refine Y.o.mono ?_;rintro e s ⟨rfl,rfl⟩;go_wp2_with fail;refine(AR _ A3 at_ c3 s G3.o aq).mono ?_;rintro e w2 ⟨A5,c5,rfl,o5,b5⟩;have⟨O5,B5⟩:=K' o5 b5;go_wp2;go_loopg[10,11,12](m+1)(λgg v10 S _ wr=>∃(i:Nat) (Q:aB) (c6:Nat),m-i<gg/\i<=m/\v10=Pl Q (at_+i) c6/\S=ae aj (i:Int)/\ak (iZ wr s.heap.size (λxs=>aM xs=cT++List.replicate i z) Q (at_+i) c6)/\ak (az s wr))
 .exact⟨0,A5,c5,aq,aq,rfl,rfl,⟨O5.o.imp λ_ _ _ h=>by simpa using h⟩,B5⟩
 obtain⟨i,Q,c6,hg,Mh,rfl,rfl,K,r⟩:=hrel;by_cases W:i<m
 .obtain⟨ai,y,rfl,d0⟩:=il (RI.o.Z r.o r.o.size) W
  go_wp2_with fail;refine callK (yW y z wr) r λw7 b7 J=> ?_;have O7:=sH (K.o.ar b7);obtain⟨ad,x0,x1,x2,x3,x4,x5,x6,x7,x8,x9,rfl,hQ,e0,F,e2,e3,e4,e5,e6,e7,e8,e9⟩:=(R.o.Z J.o J.o.size).bK ha;have f7:=λo=>aH e7 o
  have f8:=λo=>aH e8 o
  have f9:=λo=>aH e9 o
  have h7:=J.o.size;have a1:=aU at_ n;go_wp2_with (at_builtin;refine cd (L':=λxs=>aM xs=cT++List.replicate (i+1) z) pT rfl (.tmp 78) (.tmp 80) rfl rfl ((O7.o.alloc _).alloc _) rfl [y,z,0,0,0,-1,-1,x7,x8,x9] rfl (cP _ _ _ _ _ aT rfl) (λxs _ _ b=>by rw[gB,b,List.append_assoc,List.replicate_succ'];rfl) aq br ?_;intro H c8 C f l _ _;have q:=sH f;have u:ak (az s C):=⟨((J.o.alloc aq _).alloc br _).trans l⟩;clear f l);go_roundg(m-i)
  .exact⟨i+1,H,c8,aq,aq,rfl,aV,q,u⟩
  omega
 .obtain rfl:i=m:=by omega
  have U:=sH (G4.o.Z r.o r.o.size);have h6:=r.o.size;have⟨N,t⟩:=eX (at_+i+(n-(at_+1)));have T:N<=n+i:=aq;have K0:ak (∀cs,cs=cT++List.replicate 0 z++cD->GP lo hi z at_ cs):=⟨λcs h=>by
   simp only[List.replicate_zero,List.append_nil]at h;subst h;refine⟨CC.o,λx b=>CT.o x ?_,λx b=>CD.o x ?_⟩
   .rwa [List.take_append_of_le_length Za,List.take_of_length_le Za]at b
   .rwa [List.drop_append_of_le_length Za,List.drop_of_length_le Za,List.nil_append]at b⟩
  have M:ak (∀k cs,GP lo hi z k cs->CS lo hi cs):=⟨λ_ _ h=>h.1⟩;have K2:ak (∀m cs,cs=cT++List.replicate m z++cD->CS lo hi cs):=⟨λm cs h=>by
   subst h;rw[List.append_assoc];exact CC.o.mid PZ.o CT.o CD.o m⟩
  by_cases Z:i=0
  .have hN3:N+1=n:=by omega
   subst Z;by_cases hk:at_<N
   .go_wp2_with (at_builtin;refine cL (L':=λxs=>aM xs=cT++List.replicate 0 z++cD) pT rfl (.tmp 84) (.tmp 89) rfl rfl K.o rfl U.o (λxs ys _ _ _ _ G j=>by rw[gB,G,j]) aq aq ?_;intro H c8 C f l;rw[<-t]at f;rw[<-t];have q:ak (iZ C s.heap.size (λxs=>GP lo hi z at_ (aM xs)) H N c8):=⟨f.imp λxs _ _ h=>K0.o _ h⟩;have u:=sH (r.o.trans l);clear f l t;obtain⟨g,rfl,_,_⟩:=q.o.form aq;obtain⟨x0,x1,x2,x3,x4,x5,x6,x7,x8,x9,_,_,F,_⟩:=q.o.o.bK hk)
    rotate_left
    .go_ret
     exact⟨N,aq,_,_,rfl,q.o.imp λ_ _ _ h=>M.o _ _ h,u.o⟩
    .clear F
     go_loopg[13](N+1)(λgg P wr=>∃k:Nat,N-k<gg/\k<=N/\P=ae aj (k:Int)/\ak (iZ wr s.heap.size (λxs=>GP lo hi z k (aM xs)) (OH ⟨g,0,OJ⟩) N c8)/\ak (az s wr))
     .exact⟨at_,aq,aq,rfl,q,u⟩
     obtain⟨k,DQ,hkN,rfl,v,X⟩:=hrel;by_cases E:k<N
     .obtain⟨y0,y1,y2,y3,y4,y5,y6,y7,y8,y9,_,_,F,_⟩:=v.o.o.bK E
      have f1:=v.o.fz (k*10+1);have k1:=aU k N;go_wp2_with fail
      .have OS:ak (iZ (wr.setCell ⟨g,k*10+1,OJ⟩ (ae aj z)) s.heap.size (λxs=>GP lo hi z (k+1) (aM xs)) (OH ⟨g,0,OJ⟩) N c8):=⟨v.o.set E aq z λxs hn hl h=>by rw[tR xs k aq hl];exact h.set PZ.o (by rw[dK];omega)⟩
       have BS:ak (az s (wr.setCell ⟨g,k*10+1,OJ⟩ (ae aj z))):=⟨Below.setCell X.o (p:=⟨g,k*10+1,OJ⟩) v.o.lt.1 _⟩;go_roundg(N-k)
       .exact⟨k+1,aq,aq,aV,OS,BS⟩
       omega
      .go_ret
       exact⟨N,aq,_,_,rfl,v.o.imp λ_ _ _ h=>M.o _ _ h,X.o⟩
     .go_wp2
      go_ret;exact⟨N,aq,_,_,rfl,v.o.imp λ_ _ _ h=>M.o _ _ h,X.o⟩
   .go_wp2_with (at_builtin;refine cL (L':=λxs=>aM xs=cT++List.replicate 0 z++cD) pT rfl (.tmp 84) (.tmp 89) rfl rfl K.o rfl U.o (λxs ys _ _ _ _ G j=>by rw[gB,G,j]) aq aq ?_;intro H c8 C f l;rw[<-t]at f;rw[<-t];have q:=sH f;have u:=sH (r.o.trans l);clear f l t)
    go_ret;exact⟨N,aq,_,_,rfl,q.o.imp λ_ _ _ h=>K2.o _ _ h,u.o⟩
  .have i0:((i:Int)==0)=OZ:=pW
   go_wp2_with (at_builtin;refine cL (L':=λxs=>aM xs=cT++List.replicate i z++cD) pT rfl (.tmp 84) (.tmp 89) rfl rfl K.o rfl U.o (λxs ys _ _ _ _ G j=>by rw[gB,G,j]) aq aq ?_;intro H c8 C f l;rw[<-t]at f;rw[<-t];have q:=sH f;have u:=sH (r.o.trans l);clear f l t);go_ret;exact⟨N,T,_,_,rfl,q.o.imp λ_ _ _ h=>K2.o _ _ h,u.o⟩
def lZ(h:p:=by first|rfl|go_num):p:=h
def GP.start(h:CS lo hi cs)(e:nth cs b=z)(g:b<cs.length)(j:a<=b)(f:∀i,a<=i->i<=b->nth cs i=z):GP lo hi z a cs:=by
 refine⟨h,λx d=> ?_,λx d=> ?_⟩
 .obtain⟨i,hi,rfl⟩:=List.getElem_of_mem d
  rw[List.length_take]at hi;rw[List.getElem_take,<-bZ,<-e];exact h.le aq g
 .obtain⟨i,hi,rfl⟩:=List.getElem_of_mem d
  rw[List.length_drop]at hi;rw[List.getElem_drop,<-bZ];rcases Nat.le_total (a+i) b with c|c
  .rw[f _ aq c];exact Int.le_refl _
  .rw[<-e];exact h.le c aq
def Xl(lo hi:Int)(A:aB)(n c d t:Nat)(w:EE)(h:lF w (bI lo hi) A n)(S:n<=100000)(sN:d<t+1)(I:t+1<=n)(hc:n<=c):
 GK prog 330 #[Pl A n c,ae aj (d:Int),ae aj ((t:Int)+1)] w (Uk w (bI lo hi) n):=by
 obtain⟨gs,H,x⟩:=h;have Q:(aM gs).length=n:=by rw[dK];exact x.1
 have C:ak (∀W,az w W->∀i,i<n->∃k:Addr,A=OH k/\W.cell? (bX (k.add (i*10)) 1)=OH (ae aj (nth (aM gs) i))):=⟨λW o i hi=>by
  obtain⟨k,ea,s,J,h3⟩:=(x.Z o o.size).at_ hi;exact⟨k,ea,by rw[gK (by rw[x.1];exact hi)];exact h3 1 (by omega)⟩⟩
 have CO:=sH (AR (λxs=>aM xs=aM gs) A n c w ⟨gs,rfl,x⟩ S);obtain⟨A2,c2,R⟩:=Ie pT A n c d (t+1) aq I hc (d:Int) ((t:Int)+1) rfl aT;have r2:=R.run;have⟨z,m⟩:=eY (nth (aM gs) d);have PZ:ak (lo<=z/\z<hi):=⟨by rw[<-m];exact CS.at_ H (by omega)⟩;have Y:nth (aM ((gs.drop d).take (t+1-d))) 0=z:=by
  rw[<-m,lu];unfold nth;simp only[List.getD_eq_getElem?_getD,List.getElem?_take,List.getElem?_drop,Nat.add_zero];rw[if_pos aq]
 have S2:bI lo hi ((gs.drop d).take (t+1-d)):=CS.sub H ae8;have G2:ak (∀W,az w W->_):=⟨λW o=>Ia lo hi _ A2 _ c2 W (R.rx (x.Z o o.size)) S2 aq aq⟩;have SK:ak (∀a,a<=d->(∀i,a<=i->i<=d->nth (aM gs) i=z)->GP lo hi z a (aM gs)):=⟨λa ha he=>GP.start H m aq ha he⟩;generalize aM gs=cs at*;have b1:¬((t:Int)+1<=(d:Int)):=aq;have b2:¬((n:Int)<(t:Int)+1):=aq;have b3:¬((d:Int)<0):=aq;go_enter func330,ntmps330;go_wp2_with fail;refine CO.o.mono ?_;rintro e w1 ⟨T,c5,rfl,o5,V⟩;have⟨O5,F,X⟩:=MO o5 V (G2.o w1 V);rw[Y]at X;go_wp2_with fail;refine X.o.mono ?_;rintro e K ⟨rfl,rfl⟩;obtain⟨k,rfl,Z⟩:=C.o _ F.o d aq;obtain⟨f,q,O⟩:=C.o _ F.o t aq;obtain rfl:k=f:=by injection q
 rw[m]at Z;have AZ:=sH m;generalize nth cs t=y at*;have i1:=aU d n;have i2:=aU t n;go_wp2;go_quiet (fail);have M:ak (az w (K.drewN nq)):=⟨aO F.o _⟩;have O6:ak (iZ (K.drewN nq) w.heap.size (λxs=>aM xs=cs) T n c5):=⟨O5.o.ar (aO (Below.refl _ _) _)⟩;generalize K.drewN nq=B at*;go_upto_block 0 with fail;go_cut[1](λD N=>∃a:Nat,a<=d/\D=ae aj (a:Int)/\ak (∀i,a<=i->i<=d->nth cs i=z)/\B=N)
 ·
  go_wp2;go_loopg[1](d+1)(λgg D wr=>∃a:Nat,a<gg/\a<=d/\D=ae aj (a:Int)/\ak (∀i,a<=i->i<=d->nth cs i=z)/\B=wr)
  .exact⟨d,aq,aq,rfl,⟨λi s J=>by obtain rfl:i=d:=aq;exact AZ.o⟩,rfl⟩
  obtain⟨a,hga,v,rfl,r,rfl⟩:=hrel;rcases a with _|a
  .go_wp2
   go_meet;exact⟨0,aq,rfl,r,rfl⟩
  .obtain⟨f,q,O⟩:=C.o _ M.o a aq
   obtain rfl:k=f:=(by injection q);have i4:=aU a n;by_cases P:nth cs a=z
   .rw[P]at O
    have AM:ak (∀i,a<=i->i<=d->nth cs i=z):=⟨λi s J=>by
     rcases Nat.eq_or_lt_of_le s with rfl|s
     .exact P
     .exact r.o i s J⟩
    go_wp2;go_roundg(a+1)
    .exact⟨a,aq,aq,aV,AM,rfl⟩
    omega
   .have hu2:(nth cs a==z)=OZ:=by simp[P]
    generalize nth cs a=u at*;go_wp2;go_meet;exact⟨a+1,aq,aV,r,rfl⟩
 obtain⟨a,v,rfl,r,rfl⟩:=hcut;have ST:=sH (SK.o a v r.o);go_upto_block 2 with fail;go_cut[2](λv2 N=>∃b:Nat,b<=n/\v2=ae aj (b:Int)/\B=N)
 ·
  go_wp2;go_loopg[2](n+1)(λgg v2 wr=>∃b:Nat,n-b<gg/\b<=n/\v2=ae aj (b:Int)/\B=wr)
  .exact⟨t+1,aq,aq,aV,rfl⟩
  obtain⟨b,hgb,E,rfl,rfl⟩:=hrel;by_cases G:b<n
  .obtain⟨f,q,O⟩:=C.o _ (M.o) b G
   obtain rfl:k=f:=(by injection q);have i5:=aU b n;generalize nth cs b=u at*;go_wp2_with fail
   .go_roundg(n-b)
    case measure=>omega
    case rel=>exact⟨b+1,aq,aq,aV,rfl⟩
   .go_meet
    exact⟨b,aq,rfl,rfl⟩
  .have i5:=cI b n
   go_wp2;go_meet;exact⟨b,aq,rfl,rfl⟩
 obtain⟨b,E,rfl,rfl⟩:=hcut;go_wp2;go_loopg[11](n+1)(λgg L wr=>∃i:Nat,n-i<gg/\i<=n/\L=ae aj (i:Int)/\ak (iZ wr w.heap.size (λxs=>GP lo hi z i (aM xs)) T n c5)/\ak (az w wr))
 .exact⟨a,aq,aq,lZ,⟨O6.o.imp λxs _ _ h=>by rw[h];exact ST.o⟩,M⟩
 obtain⟨i,hgi,ve,rfl,l,U⟩:=hrel;by_cases hil:i<b
 .obtain⟨g,rfl,_,_⟩:=l.o.form aq
  obtain⟨p0,p1,p2,p3,p4,p5,p6,p7,p8,p9,_,_,q1,_⟩:=l.o.o.bK (j:=i) aq;have f1:=l.o.fz (i*10+1);have i6:=aU i n;have i7:=aU i b;have OS:ak (iZ (wr.setCell ⟨g,i*10+1,OJ⟩ (ae aj z)) w.heap.size (λxs=>GP lo hi z (i+1) (aM xs)) (OH ⟨g,0,OJ⟩) n c5):=⟨l.o.set aq aq z λxs S Q h=>by rw[tR xs i aq Q];exact h.set PZ.o (by rw[dK];omega)⟩;have BS:ak (az w (wr.setCell ⟨g,i*10+1,OJ⟩ (ae aj z))):=⟨Below.setCell U.o (p:=⟨g,i*10+1,OJ⟩) l.o.lt.1 _⟩;go_wp2;go_roundg(n-i)
  .exact⟨i+1,aq,aq,aV,OS,BS⟩
  omega
 .have i7:=cI i b
  go_wp2;go_ret;exact⟨_,_,rfl,l.o.imp λ_ _ _ h=>h.1,U.o⟩
def FN(L:List aC->Prop)(A:aB)(n c:Nat)(w:EE)(h:lF w L A n)(O:n<=100000):GK prog 326 #[Pl A n c] w (Uk w L n):=by
 obtain⟨gs,C,x⟩:=h;have⟨R,D⟩:=K' x C;have hlen:=x.1;have m:=sH hlen;go_enter func326,ntmps326;go_wp2;go_loopg[3,4](n+1)(λgg v3 v4 wr=>∃(i:Nat) (d:aB) (e:Nat),n-i<gg/\i<=n/\v3=Pl d i e/\v4=ae aj (i:Int)/\ak (iZ wr w.heap.size (λxs=>xs=gs.take i) d i e)/\ak (az w wr))
 .exact⟨0,OJ,0,aq,aq,rfl,rfl,⟨OL.nil _ _ _ _ rfl⟩,cJ⟩
 obtain⟨i,d,e,H,hi,rfl,rfl,v,b⟩:=hrel;by_cases a:i<n
 .obtain⟨T,t,o,s,k,j,p,r,q,f,u,rfl,B,Q,J,K,N,S,P,U,W,M,I⟩:=(R.o.Z b.o b.o.size).bK a
  have z:ak (∀xs:List aC,xs=gs.take i->xs++[[t,o,s,k,j,p,r,q,f,u]]=gs.take (i+1)):=⟨λxs h=>by rw[h,B,Ky (by rw[m.o];exact a)]⟩;have V:=b.o.size;go_wp2_with (at_builtin;refine cd (L':=λxs=>xs=gs.take (i+1)) pT rfl (.tmp 11) (.tmp 16) rfl rfl (v.o.alloc _) rfl [t,o,s,k,j,p,r,q,f,u] rfl (cP _ _ _ _ _ aT rfl) (λxs _ _ h=>z.o xs h) aq br ?_;intro G c8 y l g _ _;have F:=sH l;have E:ak (az w y):=⟨(b.o.alloc aq _).trans g⟩;clear l g);go_roundg(n-i)
  .exact⟨i+1,G,c8,aq,aq,rfl,aV,F,E⟩
  omega
 .obtain rfl:i=n:=by omega
  go_wp2;go_ret;exact⟨_,_,rfl,v.o.imp λxs _ _ h=>by rw[h,List.take_of_length_le (by rw[m.o];exact Nat.le_refl _)];exact D.o,b.o⟩
section
variable{w w':EE}{B B':Nat}
def Ef(w:EE)(B:Nat)(kind:Int)(T:aB)(b:Nat):Prop:=∀i,i<b->∃(a:Addr) (A:aB) (n c:Nat),T=OH a/\a.block<B/\w.cell? (a.add i)=OH (Pl A n c)/\n<=16/\(kind=2∨1<=n)
def Mx(kind:Int):Prop:=kind=1∨kind=2∨kind=5
def FK(w:EE)(B:Nat)(k:Lk):Prop:=Mx k.kind->∀j,j<k.sn->∃(a:Addr) (C:aB) (b d:Nat) (T:aB) (c:Nat),k.S=OH a/\a.block<B/\w.cell? (a.add (j*12))=OH (Pl C b d)/\w.cell? (bX (a.add (j*12)) 1)=OH (Pl T b c)/\Ef w B k.kind T b
def T8(w:EE)(B:Nat)(f:dv):Prop:=f.fn<=64/\∀j,j<f.fn->∃(a:Addr) (A:aB) (n c:Nat),f.F=OH a/\a.block<B/\w.cell? (bX (a.add (j*3)) 2)=OH (Pl A n c)/\n<=64
def Mj(w:EE)(B:Nat)(f:dv):Prop:=∀j,j<f.ln->∃(a:Addr) (k:Lk),f.L=OH a/\a.block<B/\w.cell? (a.add (j*4))=OH (ae aj k.kind)/\w.cell? (bX (a.add (j*4)) 1)=OH (ae aj k.flags)/\w.cell? (bX (a.add (j*4)) 2)=OH (ae aj k.set)/\w.cell? (bX (a.add (j*4)) 3)=OH (Pl k.S k.sn k.sc)/\FK w B k
def Ef.Z{kind:Int}{T:aB}(h:Ef w B kind T b)(f:EI B w w')(k:B<=B'):Ef w' B' kind T b:=λi hi=>by
 obtain⟨a,A,n,c,j,h2,e,d⟩:=h i hi;exact⟨a,A,n,c,j,aq,(f.cell zk).trans e,d⟩
def FK.Z{k:Lk}(h:FK w B k)(b:EI B w w')(f:B<=B'):FK w' B' k:=λp j d=>by
 obtain⟨a,C,c,i,T,o,n,h2,l,e,m⟩:=h p j d;exact⟨a,C,c,i,T,o,n,aq,(b.cell zk).trans l,(b.cell To).trans e,m.Z b f⟩
def T8.Z{f:dv}(h:T8 w B f)(d:EI B w w')(l:B<=B'):T8 w' B' f:=⟨h.1,λj i=>by
 obtain⟨a,A,n,c,e,h2,b,k⟩:=h.2 j i;exact⟨a,A,n,c,e,aq,(d.cell To).trans b,k⟩⟩
def Mj.Z{f:dv}(h:Mj w B f)(b:EI B w w')(n:B<=B'):Mj w' B' f:=λj i=>by
 obtain⟨a,k,e,h2,c,o,d,l,m⟩:=h j i;exact⟨a,k,e,aq,(b.cell zk).trans c,(b.cell To).trans o,(b.cell To).trans d,(b.cell To).trans l,m.Z b n⟩
def Mj.at{f:dv}{b:Addr}{x:Lk}(h:Mj w B f)(z:j<f.ln)(e:f.L=OH b)(i:w.cell? (b.add (j*4))=OH (ae aj x.kind))(o:w.cell? (bX (b.add (j*4)) 1)=OH (ae aj x.flags))(d:w.cell? (bX (b.add (j*4)) 2)=OH (ae aj x.set))(n:w.cell? (bX (b.add (j*4)) 3)=OH (Pl x.S x.sn x.sc)):FK w B x:=by
 obtain⟨a,k,h1,G,r,q,t,A,m⟩:=h j z;obtain rfl:a=b:=oi;rw[r]at i;rw[q]at o;rw[t]at d;rw[A]at n
 obtain⟨kind,flags,set,S,E,D⟩:=x;obtain⟨l,c,p,F,s,u⟩:=k;simp at i o d n h1 m⊢;obtain⟨v,y,C⟩:=n;rw[i,o,d,v,y,C]at m;exact m
def FK.at{k:Lk}{b:Addr}{x:Sb}(h:FK w B k)(p:Mx k.kind)(i:j<k.sn)(e:k.S=OH b)(c:w.cell? (b.add (j*12))=OH (Pl x.C x.cn x.cc))(d:w.cell? (bX (b.add (j*12)) 1)=OH (Pl x.T x.tn x.tc)):x.tn=x.cn/\Ef w B k.kind x.T x.tn:=by
 obtain⟨a,C,q,r,T,z,h1,v,n,l,f⟩:=h p j i;obtain rfl:a=b:=oi;rw[n]at c;rw[l]at d
 simp at c d;obtain⟨s,y,u⟩:=c;obtain⟨m,o,t⟩:=d;rw[m,o]at f;exact⟨aq,f⟩
def Ef.at{kind:Int}{T:aB}{f:Nat}{b:Addr}{n:Nat}(h:Ef w B kind T f)(hi:i<f)(e:T=OH b)(d:w.cell? (b.add i)=OH (Pl A n c)):n<=16/\(kind=2∨1<=n):=by
 obtain⟨a,m,o,c',h1,l,k,j⟩:=h i hi;obtain rfl:a=b:=oi;rw[k]at d;simp at d;rw[<-d.2.1];exact j
end
def abB{w:EE}{B n:Nat}(h:Own w B e .i64 A n c xs)(i:∀x∈xs,(Lit.int .i64 x).wf=OX)(k:n<=1000000):cU w w.heap.size eD A n c:=
 ⟨aA.le h,aA.tE h,by simp only[Ty.lb];omega,λd=>by
  obtain⟨g,rfl,_,b⟩:=aA.form h d;refine⟨_,rfl,b,λj f=>⟨[ae aj (nth xs j)],⟨_,rfl,i _ ?_⟩,λq u a=> ?_⟩⟩
  .have l:=h.len
   rw[bZ aq];exact List.getElem_mem _
  .obtain rfl:q=0:=by have:=(List.getElem?_eq_some_iff.1 a).1;simpa using this
   simp at a;subst a;rw[aY,bC];simpa[Ty.n]using bU h f⟩
structure dk(g:Nat)(w w':EE):Prop where
 os:w'.os=w.os
 tape:w'.tape=w.tape
 output:w'.output=w.output
 size:w.heap.size<=w'.heap.size
 block:∀k,k<w.heap.size->k≠g->w'.heap[k]? =w.heap[k]?
section
variable{g:Nat}{w w' sA:EE}
def dk.refl(g:Nat)(w:EE):dk g w w:=⟨rfl,rfl,rfl,Nat.le_refl _,λ_ _ _=>rfl⟩
def dk.of(h:az w w'):dk g w w':=⟨h.os,h.tape,h.output,h.size,λk a _=>h.block k a⟩
def dk.trans(h:dk g w w')(k:dk g w' sA):dk g w sA:=
 ⟨k.os.trans h.os,k.tape.trans h.tape,k.output.trans h.output,Nat.le_trans h.size k.size,λi hi a=>(k.block i (Nat.lt_of_lt_of_le hi h.size) a).trans (h.block i hi a)⟩
def dk.below(h:dk g w w'){B:Nat}(b:B<=g)(a:B<=w.heap.size):EI B w w':=⟨h.os,h.tape,h.output,h.size,λk c=>h.block k aq aq⟩
def dk.set(h:dk g w w')(o:Nat)(v:EN):dk g w (w'.setCell ⟨g,o,OJ⟩ v):=
 h.trans ⟨rfl,rfl,rfl,by simp[World.setCell],λk _ a=>Below.heap_setCell _ _ _ _ a⟩
def dk.cell(h:dk g w w'){p:Addr}{v:EN}(b:w.cell? p=OH v)(c:p.block≠g):w'.cell? p=OH v:=by
 have a:=block_lt_of_cell b;exact(World.cell?_of_block (w:=w) (h.block p.block a c)).trans b
def mI(g:Nat)(A:aB)(n:Nat):Prop:=0<n->∀a,A=OH a->a.block≠g
def Rq.ky{k n:Nat}(h:Rq w w.heap.size k Q A n)(o:mI g A n)(c:dk g w w'):Rq w' w'.heap.size k Q A n:=λa=>by
 obtain⟨d,b,s,l⟩:=h a;have:=c.size;refine⟨d,b,aq,λj e=> ?_⟩;obtain⟨r,i,m,f⟩:=l j e;exact⟨r,i,m,λq x p=>c.cell (f q x p) (by rw[aL,aL];exact o a d b)⟩
def Oq.Al{B k n:Nat}(h:Oq w B e k Q A n c)(j:g<B):mI g A n:=λd m a=>by
 obtain⟨b,f,l,_⟩:=h.form d;rw[f]at a;have i:=Option.some.inj a;rw[<-i];show b≠g;omega
end
