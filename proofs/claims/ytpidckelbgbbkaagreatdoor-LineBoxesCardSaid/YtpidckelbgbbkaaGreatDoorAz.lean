/- Part of LineBoxes. -/
import Derived.Test.YtpidckelbgbbkaaGreatDoorAy
import Derived.Deep.MidRow
namespace Go.Proofs.YtpidckelbgbbkaaGreatDoor
open Go.ChangeShapes Go.WideShapes Go.ChangeAt Go.RowKit Go.Proofs.Tryz
open Go.Value renaming int → ae
open Go.IntKind renaming i64 → aj
set_option linter.all false
set_option maxRecDepth 100000
set_option maxHeartbeats 16000000
variable{w w0:World}{a:Act}{B b c g i j k n:Nat}{gs:List aE}{A:aC}{K Q:(World->Prop)->Act->Prop}{rest:List Oper}{o:Oper}{cs:Array Value}{E:World->Prop}{Q':Exit->Act->World->Prop}{V:Value->Prop}{G:Value->(World->Prop)->World->Prop}
def Rx(w:World)(B k:Nat)(gs:List aE)(A:aC)(n:Nat):Prop:=
 gs.length=n/\(∀g∈gs,g.length=k)/\(0<n->∃a,A=some a/\a.block<B/\∀(j:Nat) (g:aE),gs[j]? =some g->∀q x,g[q]? =some x->w.cell? ((a.add (j*k)).add q)=some (ae aj x))
theorem Rx.Z{a:World}(h:Rx w B k gs A n)(c:Below B w a)(o:B<=b):Rx a b k gs A n:=⟨h.1,h.2.1,fun d=>by
 obtain⟨f,m,aH,e⟩:=h.2.2 d;exact⟨f,m,aq,fun j g l q x i=>(c.cell aaJ).trans (e j g l q x i)⟩⟩
theorem Rq.rx{Q:aE->Prop}(h:Rq w B k Q A n):∃gs,Rx w B k gs A n/\∀g∈gs,Q g:=by
 rcases Nat.eq_zero_or_pos n with rfl|i
 ·exact⟨[],⟨rfl,aD,fun h=>absurd h aq⟩,aD⟩
 obtain⟨f,o,d,l⟩:=h i;have b:∀j:Fin n,∃g:aE,g.length=k/\Q g/\∀q x,g[q]? =some x->w.cell? ((f.add (j.1*k)).add q)=some (ae aj x):=fun j=>l j.1 j.2
 let F:Fin n->aE:=fun j=>(b j).choose
 have c:=fun j=>(b j).choose_spec
 refine⟨List.ofFn F,⟨aD,fun g e=> ?_,fun _=>⟨f,o,d,fun j g a q x m=> ?_⟩⟩,fun g e=> ?_⟩
 ·obtain⟨j,rfl⟩:=List.mem_ofFn.1 e
  exact(c j).1
 ·rw[List.getElem?_ofFn]at a
  split at a
  ·injection a with a
   subst a;exact(c _).2.2 q x m
  ·cases a
 ·obtain⟨j,rfl⟩:=List.mem_ofFn.1 e
  exact(c j).2.1
def bY(gs:List aE):aE:=gs.map (nth · 1)
def fW(gs:List aE)(j:Nat):aE:=gs.getD j []
theorem oW(h:j<gs.length):nth (bY gs) j=nth (fW gs j) 1:=by simp[bY,nth,fW,h]
theorem Rx.at_(h:Rx w B k gs A n){j:Nat}(l:j<n):∃a,A=some a/\(fW gs j).length=k/\fW gs j∈gs/\∀q,q<k->w.cell? ((a.add (j*k)).add q)=some (ae aj (nth (fW gs j) q)):=by
 obtain⟨m,c,g⟩:=h;obtain⟨a,i,f,d⟩:=g aq;have e:gs[j]? =some (fW gs j):=by simp[fW,List.getElem?_eq_getElem (show j<gs.length by omega)]
 have b:=List.mem_of_getElem? e;refine⟨a,i,c _ b,b,fun q o=>d j _ e q _ ?_⟩;have:=c _ b;rw[dQ aq,List.getElem?_eq_getElem]
theorem TCu:aS prog 53 60 2 16:=bD underlying53 (z:= .agg #[ae aj 0,ae aj 0]) aF rfl aq aq
abbrev Bv(w:World)(B:Nat)(ps:List (Nat×Nat))(A:aC)(n c:Nat):Prop:=aB w B 60 2 A n c (dt ps)
section
variable {w w' : World} {B B' n c : Nat} {e : TypeId} {k : IntKind} {P P' : Int -> Prop} {A : aC}
def Ow(w:World)(B:Nat)(e:TypeId)(k:IntKind)(P:Int->Prop)(A:aC)(n c:Nat):Prop:=∃xs,Own w B e k A n c xs/\∀x∈xs,P x
def Nw(w:World)(e:TypeId)(k:IntKind)(P:Int->Prop)(n:Nat)(r:Ending)(w':World):Prop:=∃(A:aC) (c:Nat),r= .returned (.slice A n c)/\Ow w' w.heap.size e k P A n c/\aA w w'
def Iw(w:World)(B:Nat)(k:IntKind)(P:Int->Prop)(A:aC)(n:Nat):Prop:=∃xs,bh w B k A n xs/\∀x∈xs,P x
abbrev Wf(k:IntKind)(x:Int):Prop:=(Lit.int k x).wf=true
theorem Iw.Z(h:Iw w B k P A n)(a:Below B w w')(f:B<=B'):Iw w' B' k P A n:=by
 obtain⟨xs,b,d⟩:=h;exact⟨xs,(b.below a).more f,d⟩
theorem Iw.get(h:Iw w B k P A n){j:Nat}(d:j<n):∃(a:Addr) (z:Int),A=some a/\P z/\w.cell? (a.add j)=some (.int k z):=by
 obtain⟨xs,b,g⟩:=h;obtain⟨a,e,f⟩:=b.gj d;have:=b.len;exact⟨a,_,e,g _ Bi,f⟩
theorem aL.iw{xs:aE}(h:aL k w A n c xs):Iw w w.heap.size k (Wf k) A n:=⟨xs,h.at_,h.wf⟩
theorem Ow.nil(w:World)(B:Nat)(e:TypeId)(k:IntKind)(P:Int->Prop):Ow w B e k P none 0 0:=⟨[],Own.nil _ _ _ _,aD⟩
theorem Ow.ar(h:Ow w B e k P A n c)(a:aA w w'):Ow w' B e k P A n c:=by
 obtain⟨xs,b,d⟩:=h;exact⟨xs,b.ar a,d⟩
theorem Ow.alloc(h:Ow w B e k P A n c)(o:Obj):Ow (w.alloc o) B e k P A n c:=h.ar (av _ _)
theorem Ow.cN(h:Ow w B e k P A n c)(i:B'<=B):Ow w B' e k P A n c:=by
 obtain⟨xs,b,a⟩:=h;refine⟨xs,⟨b.1, ?_⟩,a⟩;rcases b.2 with a|⟨g,cap,cur,d,f,r⟩
 ·exact .inl a
 ·exact .inr ⟨g,cap,cur,d,aq,r⟩
theorem Ow.imp(h:Ow w B e k P A n c)(f:∀x,P x->P' x):Ow w B e k P' A n c:=by
 obtain⟨xs,b,d⟩:=h;exact⟨xs,b,fun x a=>f x (d x a)⟩
theorem Ow.form(h:Ow w B e k P A n c)(a:0<n):∃g,A=some ⟨g,0,none⟩/\B<=g/\g<w.heap.size:=by
 obtain⟨xs,b,d⟩:=h;exact aB.form b a
theorem Ow.lt(h:Ow w B e k P (some ⟨g,0,none⟩) n c):B<=g/\g<w.heap.size:=by
 obtain⟨xs,a,b⟩:=h;exact aB.sY a
theorem Ow.le(h:Ow w B e k P A n c):n<=c/\c<=9223372036854775807:=by
 obtain⟨xs,a,b⟩:=h;exact⟨aB.le a,aB.wL a⟩
theorem Ow.fz(h:Ow w B e k P (some ⟨g,0,none⟩) n c)(j:Nat):w.frozen? ⟨g,j,none⟩=false:=by
 obtain⟨xs,a,b⟩:=h;exact aB.frozenAt a j
theorem Ow.get(h:Ow w B e k P (some ⟨g,0,none⟩) n c){j:Nat}(b:j<n):∃z:Int,P z/\w.cell? ⟨g,j,none⟩=some (.int k z):=by
 obtain⟨xs,a,d⟩:=h;have:=a.len;exact⟨_,d _ Bi,bI a b⟩
theorem Ow.set(h:Ow w B e k P (some ⟨g,0,none⟩) n c)(j:Nat){y:Int}(f:P y):Ow (w.setCell ⟨g,j,none⟩ (.int k y)) B e k P (some ⟨g,0,none⟩) n c:=by
 obtain⟨xs,b,d⟩:=h;refine⟨_,Own.nY b j y,fun x a=> ?_⟩;rcases List.mem_or_eq_of_mem_set a with a|rfl
 ·exact d x a
 ·exact f
theorem Ow.iw(h:Ow w B e k P A n c):Iw w w.heap.size k P A n:=by
 obtain⟨xs,b,a⟩:=h;exact⟨xs,b.ints,a⟩
theorem Ow.sl(h:Ow w B e k (Wf k) A n c):∃xs,aL k w A n c xs:=by
 obtain⟨xs,b,a⟩:=h;exact⟨xs,b.jv a⟩
theorem aa5{xs:aE}{r:Ending}(h:fH w e k n xs r w')(f:∀x∈xs,P x):Nw w e k P n r w':=by
 obtain⟨A,c,b,d,a⟩:=h;exact⟨A,c,b,⟨xs,d,f⟩,a⟩
theorem bS{P:Program}{w:World}{ops:Array Oper}{K:Exit->Act->World->Prop}{t e:TypeId}{bytes:Nat}(T:aS P t e 1 bytes)(j:o.guard=none)(s x:Operand)
 (C:o.op= .call {callee:= .builtin .append,args:= #[s,x],argTypes:= #[t,t]}) {B:Nat} {k:IntKind} {p:Int->Prop} {A:aC} {n c:Nat} (m:a.eval s= .slice A n c) (f:Ow w B e k p A n c)
 {g:Nat} (q:a.eval x= .slice (some ⟨g,0,none⟩) 1 1) {y:Int} (l:w.cell? ⟨g,0,none⟩=some (.int k y)) (u:p y)
 (v:(n+1)*bytes<=140737488355328) (E:B<=w.heap.size)
 (h:∀i c' w',Ow w' B e k p i (n+1) c'->Below B w w'->wpList P ops K rest (a.put o.dst (.slice i (n+1) c')) w'):wpList P ops K (o::rest) a w:=by
 obtain⟨xs,D,r⟩:=f;refine dD T j s x C m D q l v E fun i c' w' o b=>h i c' w' ⟨_,o,fun z d=> ?_⟩ b
 rw[List.mem_append]at d;rcases d with d|d
 ·exact r z d
 ·simp at d;subst d;exact u
theorem dY{P:Program}{w:World}{ops:Array Oper}{Q:Exit->Act->World->Prop}{t e:TypeId}{bytes:Nat}{k:IntKind}{p:Int->Prop}(T:aS P t e 1 bytes)(d:(P.info? e).map (·.zero)=some (some (.int k 0)))(q:p 0)(b:o.guard=none)(l c:Operand)
 (y:o.op= .makeSlice t l c) {r u:IntKind} {L C:Int} (n:Nat) (s:a.eval l= .int r L) (i:a.eval c= .int u C) (z:L=(n:Int)) (f:C=(n:Int)) (v:n*bytes<=140737488355328) (B:Nat) (E:B<=w.heap.size)
 (h:∀g w',Ow w' B e k p (some ⟨g,0,none⟩) n n->Below B w w'->wpList P ops Q rest (a.put o.dst (.slice (some ⟨g,0,none⟩) n n)) w'):wpList P ops Q (o::rest) a w:=
 dw T d b l c y n s i z f v B E fun g w' D m=>h g w' ⟨_,D,fun x j=>by rw[(List.mem_replicate.1 j).2];exact q⟩ m
end
theorem nA:aS prog 43 3 1 8:=bD underlying43 (z:=ae aj 0) aF rfl aq aq
theorem UR:aS prog 27 21 1 4:=bD underlying27 (z:= .int .i32 0) aF rfl aq aq
abbrev aN(_:Int):Prop:=True
namespace Kx
def kd:Value->Nat
 | ae aj _=>0
 | .bool _=>1
 |_=>2
def Ext(w c:World):Prop:=∀b cs,Bx w b cs->(∀v∈cs.toList,kd v≠2)->∃a:Array Value,Bx c b a/\a.toList.map kd=cs.toList.map kd
theorem Ext.of{c:World}(h:aA w c):Ext w c:=fun b cs a _=>⟨cs,a.ar h a.lt,rfl⟩
theorem Ext.refl(w:World):Ext w w:=fun b cs a _=>⟨cs,a,rfl⟩
theorem Ext.row{ds:Array Value}(h:Bx w g cs)(i:ds.toList.map kd=cs.toList.map kd):Ext w (w.setRow g ds):=fun b e d _=>by
 by_cases c:b=g
 ·subst c
  refine⟨ds,h.row, ?_⟩;obtain⟨t,f⟩:=h;obtain⟨j,a⟩:=d;rw[f]at a;injection a with a
  injection a with a
  rw[i,a]
 ·obtain⟨t,d⟩:=d
  exact⟨e,⟨t,by rw[setRow_other _ _ _ _ c];exact d⟩,rfl⟩
structure Sat where
 p:Value->World->Prop
 st:∀v w w',p v w->Ext w w'->p v w'
section
variable {P : Program} {ops : Array Oper} {md : Region.Mode} {C : World -> Prop} {T : Option Tmp -> Option Sat}
def iB(P:Program)(C:World->Prop)(w:World)(S:Sat):Result Next->Prop
 | .ok (.value u) w'=>S.p u w'/\C w'/\Ext w w'
 | .ok (.enter f args) w'=>w'=w/\Calls P f args w (fun e a=>∃v,e= .returned v/\S.p v a/\C a/\Ext w a)
 |_=>False
attribute [go_sem] iB
@[go_sem] def mh(P : Program)(o : Oper)(a : Act)(C : World -> Prop)(w : World)(S : Sat) : Prop := iB P C w S ((execOp a.eval o).run P w)
def xQ(C:World->Prop)(w:World):Result Next->Prop
 | .ok .skip w'=>C w'/\Ext w w'
 |_=>False
attribute [go_sem] xQ
@[go_sem] def Ac(P : Program)(o : Oper)(a : Act)(C : World -> Prop)(w : World) : Prop := xQ C w ((execOp a.eval o).run P w)
def Has(C:World->Prop)(S:Sat)(v:Value):Prop:=∃w,C w/\S.p v w
def fU(P:Program)(T:Option Tmp->Option Sat)(C:World->Prop)(o:Oper)(E:World->Prop)(a:Act)(K:(World->Prop)->Act->Prop):Prop:=
 if o.dst=none then(∀w,C w->E w->Ac P o a C w)/\K E (a.put o.dst undef)else
 match T o.dst with
 |some S=>(∀w,C w->mh P o a C w S)/\∀v,Has C S v->K (fun w=>E w/\S.p v w) (a.put o.dst v)
 |none=>eW o=true/\o.quiet P a C (K E)
def dh(P:Program)(ops:Array Oper)(T:Option Tmp->Option Sat)(C:World->Prop)(Q:(World->Prop)->Act->Prop):List Oper->(World->Prop)->Act->Prop
 |[],E,a=>Q E a
 |o::rest,E,a=>if Region.wanted o (yielded ops a.tmps)then fU P T C o E a (dh P ops T C Q rest)else dh P ops T C Q rest E (a.put o.dst undef)
def fX(P:Program)(ops:Array Oper)(T:Option Tmp->Option Sat)(C:World->Prop)(i:Nat)(K:(World->Prop)->Act->Prop)(E:World->Prop)(a:Act):Prop:=
 match ops[i]? with
 |none=>K E a
 |some o=>if Region.wanted o (yielded ops a.tmps)then fU P T C o E a K else K E (a.put o.dst undef)
theorem nh{c:(World->Prop)->Act->Prop}(h:∀E a,K E a->c E a)(b:fU P T C o E a K):fU P T C o E a c:=by
 unfold fU at*;by_cases d:o.dst=none
 ·rw[if_pos d]at*
  exact⟨b.1,h _ _ b.2⟩
 rw[if_neg d]at*;split
 ·rename_i S e
  rw[e]at b;exact⟨b.1,fun v f=>h _ _ (b.2 v f)⟩
 ·rename_i e
  rw[e]at b;exact⟨b.1,Oper.quiet_mono (h E) b.2⟩
theorem pV{d:(World->Prop)->Act->Prop}(h:∀E a,K E a->d E a)(b:fX P ops T C i K E a):fX P ops T C i d E a:=by
 unfold fX at*;split
 ·exact h _ _ (by simpa[*]using b)
 ·rename_i o e
  simp only[e]at b;split
  ·rename_i c;simp only[c,if_true]at b;exact nh h b
  ·rename_i c;simp only[c]at b;exact h _ _ b
def fQ(P:Program)(md:Region.Mode)(ops:Array Oper)(T:Option Tmp->Option Sat)(C:World->Prop)(Q:(World->Prop)->Act->Prop):Nat->Array Bool->(World->Prop)->Act->Prop
 |0,az,E,a=>Region.ready md ops az=[]/\Q E a
 |fuel+1,az,E,a=>
  (Region.ready md ops az=[]->Q E a)/\
  ∀i∈Region.ready md ops az,fX P ops T C i (fQ P md ops T C Q fuel (az.setIfInBounds i true)) E a
def nx(E:World->Prop):Prop:=∀w a,E w->Ext w a->E a
theorem oH{y:Act->World->Prop}(m:C w)(l:E w)(g:nx E)(h:∀E a c,C c->E c->nx E->K E a->y a c)(j:fU P T C o E a K):o.wp P a w y Q':=by
 unfold fU at j;by_cases z:o.dst=none
 ·rw[if_pos z]at j
  obtain⟨q,k⟩:=j;have b:=q w m l;unfold Ac at b;unfold Oper.wp;generalize(execOp a.eval o).run P w=r at*;cases r with
  |ok n c=>
   cases n<;>simp only[xQ]at b<;>simp only[Oper.upon]
   case skip=>exact h E _ _ b.1 (g _ _ l b.2) g k
  |halt x c=>simp only[xQ]at b
 rw[if_neg z]at j;split at j
 ·obtain⟨q,k⟩:=j
  have b:=q w m;unfold mh at b;unfold Oper.wp;generalize(execOp a.eval o).run P w=r at*;cases r with
  |ok n c=>
   cases n<;>simp only[iB]at b<;>simp only[Oper.upon]
   case value u=>
    rename_i S e;exact h (fun w=>E w/\S.p u w) _ _ b.2.1 ⟨g _ _ l b.2.2,b.1⟩ (fun u D p i=>⟨g _ _ p.1 i,S.st _ _ _ p.2 i⟩) (k _ ⟨_,b.2.1,b.1⟩)
   case enter f args=>
    rename_i S e;rw[b.1];refine b.2.mono fun e F ⟨v,B,t,d,i⟩=> ?_;subst B;exact h (fun w=>E w/\S.p v w) _ _ d ⟨g _ _ l i,t⟩ (fun u D p i=>⟨g _ _ p.1 i,S.st _ _ _ p.2 i⟩) (k _ ⟨_,d,t⟩)
  |halt x c=>simp only[iB]at b
 ·obtain⟨A,v,q,k⟩:=j
  have b:=q w m;unfold Oper.quietAt at b;unfold Oper.wp;have s:=ki (P:=P) A a.eval w;generalize(execOp a.eval o).run P w=r at*;cases r with
  |ok n c=>
   cases n<;>simp only[Oper.quietUpon]at b<;>simp only[Oper.upon]
   case value u=>rw[b.1,b.2];exact h _ _ _ m l g k
   case skip=>rw[b.1,<-b.2];exact h _ _ _ m l g k
   case enter f args=>exact absurd rfl (s f args c)
  |halt x c=>simp only[Oper.quietUpon]at b
theorem dV{k:Act->World->Prop}(d:C w)(c:E w)(e:nx E)(h:∀E a g,C g->E g->nx E->K E a->k a g)(b:fX P ops T C i K E a):wpOp P ops Q' i k a w:=by
 unfold fX at b;unfold wpOp;split
 ·rename_i j;simp only[j]at b;exact h _ _ _ d c e b
 ·rename_i o j
  simp only[j]at b;split
  ·rename_i f;simp only[f,if_true]at b;exact .inl (oH d c e h b)
  ·rename_i f;simp only[f]at b;exact h _ _ _ d c e b
theorem gJ{Q:(World->Prop)->Act->Prop}{Q':Exit->Act->World->Prop}(f:∀E a w,C w->E w->Q E a->Q' .normal a w):∀(fuel:Nat) (b:Array Bool) (E:World->Prop) (a:Act) (w:World),C w->E w->nx E->
 fQ P md ops T C Q fuel b E a->wpAny P md ops Q' fuel b a w
 |0,_,_,_,_,hw,hE,_,h=>⟨h.1,f _ _ _ hw hE h.2⟩
 |fuel+1,_,_,_,_,hw,hE,hs,h=>⟨fun j=>f _ _ _ hw hE (h.1 j),fun i l=>dV hw hE hs (fun g m k d c e=>gJ f fuel _ g m k d c e) (h.2 i l)⟩
def fb(P:Program)(ops:Array Oper)(T:Option Tmp->Option Sat)(C:World->Prop)(o:Oper)(V:Value->Prop)(G:Value->(World->Prop)->World->Prop)(E:World->Prop)(a:Act):Prop:=
 (Region.wanted o (yielded ops a.tmps)=true/\o.dst≠none/\∃S,T o.dst=some S/\V=Has C S/\G=(fun v E w=>E w/\S.p v w)/\∀w,C w->mh P o a C w S)∨
 (Region.wanted o (yielded ops a.tmps)=true/\o.dst≠none/\T o.dst=none/\eW o=true/\(G=fun _ E=>E)/\∃v,(V=fun u=>u=v)/\∀w,C w->o.quietAt P a C w v)∨
 (Region.wanted o (yielded ops a.tmps)=false/\(G=fun _ E=>E)/\V=fun v=>v=undef)∨
 (Region.wanted o (yielded ops a.tmps)=true/\o.dst=none/\(G=fun _ E=>E)/\(V=fun v=>v=undef)/\∀w,C w->E w->Ac P o a C w)
theorem fb.mono{b:World->Prop}(h:fb P ops T C o V G E a)(i:∀w,b w->E w):fb P ops T C o V G b a:=by
 rcases h with h|h|h|⟨g,j,f,k,d⟩
 ·exact .inl h
 ·exact .inr (.inl h)
 ·exact .inr (.inr (.inl h))
 ·exact .inr (.inr (.inr ⟨g,j,f,k,fun w e c=>d w e (i w c)⟩))
theorem fb.has(h:fb P ops T C o V G E a)(c:∃w,C w):∃v,V v:=by
 rcases h with⟨_,_,S,_,rfl,_,h⟩|⟨_,_,_,_,_,v,rfl,_⟩|⟨_,_,rfl⟩|⟨_,_,_,rfl,_⟩
 ·obtain⟨w,i⟩:=c
  have:=h w i;unfold mh at this;generalize(execOp a.eval o).run P w=r at*;cases r with
  |ok n b=>
   cases n<;>simp only[iB]at this
   case value u=>exact⟨u,b,this.2.1,this.1⟩
   case enter f args=>
    obtain⟨e,b,j,⟨v,_,g,d,_⟩,_⟩:=this.2 [];exact⟨v,b,d,g⟩
  |halt x b=>simp only[iB]at this
 ·exact⟨v,rfl⟩
 ·exact⟨_,rfl⟩
 ·exact⟨_,rfl⟩
theorem fb.comm{e:World->Prop}(h:fb P ops T C o V G e a)(v:Value)(E X:World->Prop):G v (fun w=>E w/\X w)=fun w=>G v E w/\X w:=by
 rcases h with⟨_,_,S,_,_,rfl,_⟩|⟨_,_,_,_,rfl,_⟩|⟨_,rfl,_⟩|⟨_,_,rfl,_⟩
 ·funext w
  exact propext ⟨fun⟨⟨c,d⟩,b⟩=>⟨⟨c,b⟩,d⟩,fun⟨⟨c,b⟩,d⟩=>⟨⟨c,d⟩,b⟩⟩
 ·rfl
 ·rfl
 ·rfl
theorem fb.of_same{b:Act}(c:fb P ops T C o V G E a)(d:execOp b.eval o=execOp a.eval o)
 (e:Region.wanted o (yielded ops b.tmps)=Region.wanted o (yielded ops a.tmps)):fb P ops T C o V G E b:=by
 unfold fb mh Ac Oper.quietAt at*;rw[d,e];exact c
theorem fb.lv(g:ops[i]? =some o)(j:fb P ops T C o V G E a){K:(World->Prop)->Act->Prop}(h:∀v,V v->K (G v E) (a.put o.dst v)):fX P ops T C i K E a:=by
 unfold fX;simp only[g];rcases j with⟨b,d,S,e,rfl,rfl,c⟩|⟨b,d,e,f,rfl,v,rfl,c⟩|⟨b,rfl,rfl⟩|⟨b,d,rfl,rfl,c⟩
 ·simp only[b,if_true]
  unfold fU;rw[if_neg d];simp only[e];exact⟨c,h⟩
 ·simp only[b,if_true]
  unfold fU;rw[if_neg d];simp only[e];exact⟨f,v,c,h v rfl⟩
 ·simp only[b,Bool.false_eq_true,if_false]
  exact h _ rfl
 ·simp only[b,if_true]
  unfold fU;rw[if_pos d];exact⟨c,h _ rfl⟩
theorem js(g:ops[i]? =some o)(h:fX P ops T C i K E a):∃V G,fb P ops T C o V G E a/\∀v,V v->K (G v E) (a.put o.dst v):=by
 unfold fX at h;simp only[g]at h;by_cases b:Region.wanted o (yielded ops a.tmps)=true
 ·simp only[b,if_true]at h
  unfold fU at h;by_cases d:o.dst=none
  ·rw[if_pos d]at h
   exact⟨fun v=>v=undef,fun _ E=>E, .inr (.inr (.inr ⟨b,d,rfl,rfl,h.1⟩)),fun u c=>by rw[c];exact h.2⟩
  rw[if_neg d]at h;split at h
  ·rename_i S e
   exact⟨_,_, .inl ⟨b,d,S,e,rfl,rfl,h.1⟩,h.2⟩
  ·rename_i e
   obtain⟨f,v,j,k⟩:=h;exact⟨fun u=>u=v,fun _ E=>E, .inr (.inl ⟨b,d,e,f,rfl,v,rfl,j⟩),fun u c=>by rw[c];exact k⟩
 ·simp only[b]at h
  exact⟨fun v=>v=undef,fun _ E=>E, .inr (.inr (.inl ⟨by simpa using b,rfl,rfl⟩)),fun u c=>by rw[c];exact h⟩
theorem tj{c d:Oper}(H:∃w,C w)(W:ops[j]? =some d)(D:c.apart ops d=true)(Q:d.dst=none->T c.dst=none∨c.dst=none)
 (t:∀cs b,c.op≠ .select cs b) (k:∀cs b,d.op≠ .select cs b) {K:(World->Prop)->Act->Prop} {E:World->Prop} {a:Act}
 (i:fb P ops T C c V G E a) (h:∀v,V v->fX P ops T C j K (G v E) (a.put c.dst v)):
 fX P ops T C j (fun I M=>fb P ops T C c V G I M/\∀v,V v->K (G v I) (M.put c.dst v)) E a:=by
 obtain⟨q,r,L⟩:=Oper.apart_spec D;have mC:∀(a:Act),fb P ops T C c V G E a->∀u,fb P ops T C c V G E (a.put d.dst u):=fun a i u=>
  i.of_same (execOp_put c t a d.dst u L) (wanted_put c a d.dst u L)
 obtain⟨o,n⟩:=i.has H;obtain⟨w0,p⟩:=H;unfold fX at*;simp only[W]at*;have f:∀v,V v->if Region.wanted d (yielded ops a.tmps)=true then fU P T C d (G v E) (a.put c.dst v) K else K (G v E) ((a.put c.dst v).put d.dst undef):=fun v l=>by
  have:=h v l;rwa [wanted_put d a c.dst v q]at this
 split
 ·rename_i F
  simp only[F,if_true]at f;unfold fU at*;by_cases B:d.dst=none
  ·simp only[if_pos B]at f⊢
   have O:∀v,G v E=E:=fun v=>by
    rcases i with⟨_,z,S,s,_⟩|⟨_,_,_,_,rfl,_⟩|⟨_,rfl,_⟩|⟨_,_,rfl,_⟩
    ·rcases Q B with h|h
     ·rw[s]at h;cases h
     ·exact absurd h z
    ·rfl
    ·rfl
    ·rfl
   refine⟨fun w g N=> ?_,mC a i _,fun v l=> ?_⟩
   ·have:=(f o n).1 w g (by rw[O];exact N)
    unfold Ac at*;rwa [execOp_put d k a c.dst o q]at this
   ·rw[<-Act.put_comm a v undef r]
    exact(f v l).2
  simp only[if_neg B]at f⊢;cases s:T d.dst with
  |some S'=>
   simp only[s]at f⊢;refine⟨fun w g=> ?_,fun u y=>⟨(mC a i u).mono fun w h=>h.1,fun v l=> ?_⟩⟩
   ·have:=(f o n).1 w g
    unfold mh at*;rwa [execOp_put d k a c.dst o q]at this
   ·rw[<-Act.put_comm a v u r,i.comm]
    exact(f v l).2 u y
  |none=>
   simp only[s]at f⊢;obtain⟨J,u0,x,R⟩:=f o n;have m:∀w,C w->d.quietAt P a C w u0:=fun w g=>by
    have:=x w g;unfold Oper.quietAt at*;rwa [execOp_put d k a c.dst o q]at this
   refine⟨J,u0,m,mC a i u0,fun v l=> ?_⟩;obtain⟨_,u,y,U⟩:=f v l;have A:d.quietAt P a C w0 u:=by
    have:=y w0 p;unfold Oper.quietAt at*;rwa [execOp_put d k a c.dst v q]at this
   have e:=mG J (m w0 p) A;subst e;rw[<-Act.put_comm a v u0 r];exact U
 ·rename_i F
  simp only[F]at f;exact⟨mC a i _,fun v l=>by rw[<-Act.put_comm a v undef r];exact f v l⟩
theorem jk{l:Oper}(K:∃w,C w)(J:ops[i]? =some l)(r:∀(j:Nat) (o:Oper) cs b,ops[j]? =some o->o.op≠ .select cs b):
 ∀(fuel:Nat) (c:Array Bool) (E:World->Prop) (a:Act),
  (∀j p,ops[j]? =some p->j≠i->c.getD j true=false->(∀e∈p.after,Region.binds md e=true->e.on≠i)->l.apart ops p=true/\(p.dst=none->T l.dst=none∨l.dst=none))->
  i∈Region.ready md ops c->fb P ops T C l V G E a->
  (∀v,V v->fQ P md ops T C Q fuel (c.setIfInBounds i true) (G v E) (a.put l.dst v))->fQ P md ops T C Q (fuel+1) c E a:=by
 intro fuel
 induction fuel with
 |zero=>
  intro c E a _ hr y H;refine⟨fun h=>JG,fun j A=> ?_⟩;by_cases d:j=i
  ·subst d;exact y.lv J H
  ·have:=ready_mono A d
   obtain⟨v,D⟩:=y.has K;rw[(H v D).1]at this;cases this
 |succ fuel ih=>
  intro c E a f hr y H;refine⟨fun h=>JG,fun j A=> ?_⟩;by_cases d:j=i
  ·subst d;exact y.lv J H
  ·have s:=fun v D=>(H v D).2 j (ready_mono A d)
   obtain⟨g,p,n,z⟩:=mem_ready.1 A;have q:∀e∈p.after,Region.binds md e=true->e.on≠i:=fun e O U heq=>by
    have s:=z e O U;have L:=(mem_ready.1 hr).1;rw[heq]at s;rcases Nat.lt_or_ge i c.size with I|I
    ·simp[I]at L s;rw[L]at s;cases s
    ·simp[Array.getElem?_eq_none I]at s
   have R:=tj K n (f j p n d g q).1 (f j p n d g q).2 (fun cs b=>r i l cs b J) (fun cs b=>r j p cs b n) y s;have m:∀k t,ops[k]? =some t->k≠i->(c.setIfInBounds j true).getD k true=false->
    (∀e∈t.after,Region.binds md e=true->e.on≠i)->l.apart ops t=true/\(t.dst=none->T l.dst=none∨l.dst=none):=fun k t S B u F=>by
    refine f k t S B ?_ F;by_cases x:j=k
    ·subst x;exact g
    ·rw[getD_set_ne true x]at u;exact u
   refine pV (fun N W M=>ih (c.setIfInBounds j true) N W m (ready_mono hr (Ne.symm d)) M.1 ?_) R;rw[Array.setIfInBounds_comm _ _ d];exact M.2
def stB(md:Region.Mode)(ops:Array Oper)(c:Option Tmp->Bool):Bool:=(List.range ops.size).all fun j=>(List.range ops.size).all fun i=>((ops[j]?).bind fun b=>(ops[i]?).map fun a=>b.dst.isSome||a.dst.isNone|| !c a.dst||b.after.any (fun e=>Region.binds md e&&e.on==i)).getD true
theorem Lz{m:Option Tmp->Bool}(h:stB md ops m=true)(p:∀d,m d=false->T d=none){i j:Nat}{f a:Oper}(n:ops[i]? =some f)(o:ops[j]? =some a)(b:∀e∈a.after,Region.binds md e=true->e.on≠i)(r:a.dst=none):T f.dst=none∨f.dst=none:=by
 have l:=(Array.getElem?_eq_some_iff.1 n).1;have c:=(Array.getElem?_eq_some_iff.1 o).1;have h1:=(List.all_eq_true.1 ((List.all_eq_true.1 h) j (List.mem_range.2 c))) i (List.mem_range.2 l);simp only[n,o,Option.bind_some,Option.map_some,Option.getD_some,r,Option.isSome_none,Bool.false_or,Bool.or_eq_true]at h1;rcases h1 with(h1|h1)|h1
 ·exact .inr wU
 ·exact .inl (p _ wU)
 ·exfalso
  rw[Array.any_eq_true]at h1;obtain⟨k,q,g⟩:=h1;rw[Bool.and_eq_true]at g;exact b _ (Array.getElem_mem q) g.1 (by simpa using g.2)
theorem iC{Q:(World->Prop)->Act->Prop}{s:Option Tmp->Bool}(c:stB md ops s=true)(g:∀d,s d=false->T d=none)(q:∃w,C w)(r:Region.noSelect ops=true):∀(l:List Oper) (k:Nat) (b:Array Bool) (E:World->Prop) (a:Act),(∀j,l[j]? =ops[k+j]?)->
 Region.lexFrom md ops l.length k b=true->dh P ops T C Q l E a->fQ P md ops T C Q l.length b E a
 |[],_,_,_,_,_,hB,h=>⟨VF,h⟩
 |o::l,k,b,E,a,hl,hB,h=>by
  have h0:ops[k]? =some o:=by simpa using (hl 0).symm
  simp only[List.length_cons,Region.lexFrom,Bool.and_eq_true]at hB;obtain⟨⟨y,x⟩,p⟩:=hB;have m:fX P ops T C k (dh P ops T C Q l) E a:=Qa;obtain⟨V,G,z,hK⟩:=js h0 m;exact jk q h0 (Region.noSelect_spec r) l.length b E a (fun j t e n i f=>⟨Region.free_spec h0 x j t e n i f,Lz c g h0 e f⟩) (by simpa using y) z
   (fun v u=>iC c g q r l (k+1) _ _ _ (fun j=>aaD) p (hK v u))
theorem aY{Q:Exit->Act->World->Prop}{l:List Oper}(T:Option Tmp->Option Sat)(j:Option Tmp->Bool)(f:∀d,j d=false->T d=none)(m:P.follows .mixedOrders=true)(c:stB .any l.toArray j=true)(g:Region.lexB .any l.toArray=true)
 (h:dh P l.toArray T (fun b=>∃n:aI w,b=n.1) (fun E e=>∀n:aI w,E n.1->Q .normal e n.1) l (fun _=>True) a):(Code.region k l.toArray true).wp P Q a w:=by
 simp only[Region.lexB,Bool.and_eq_true]at g;have i:(fun b=>∃n:aI w,b=n.1) {w with drawn:=w.drawn+1}:=⟨⟨{w with drawn:=w.drawn+1},⟨rfl,rfl,rfl,Nat.le_refl _,fun _ _=>rfl⟩⟩,rfl⟩;refine wp_region_any m (gJ (T:=T) (C:=fun b=>∃n:aI w,b=n.1) (Q:=fun E e=>∀n:aI w,E n.1->Q .normal e n.1) (fun E e b jj hE h=>Py) _ _ (fun _=>True) _ _ i trivial (fun _ _ _ _=>trivial) ?_);have:=iC (md:= .any) c f ⟨_,i⟩ g.1 l 0 (Array.replicate l.toArray.size false) (fun _=>True) a aD (by simpa using g.2) h;simpa using this
theorem sO(hw:Region.wanted o (yielded ops a.tmps)=false)(h:dh P ops T C Q rest E (a.put o.dst undef)):dh P ops T C Q (o::rest) E a:=by
 unfold dh;rw[if_neg Pn];exact h
theorem bR(d:Region.wanted o (yielded ops a.tmps)=true)(e:o.dst≠none)(c:T o.dst=none)(b:eW o=true)
 (h:∀K:Act->Prop,(∀a,dh P ops T C Q rest E a->K a)->o.quiet P a C K):dh P ops T C Q (o::rest) E a:=by
 unfold dh;rw[if_pos d];unfold fU;rw[if_neg e,c];exact⟨b,h _ fun _ h=>h⟩
theorem cG(S:Sat)(e:Region.wanted o (yielded ops a.tmps)=true)(f:o.dst≠none)(c:T o.dst=some S)
 (b:∀w,C w->mh P o a C w S) (d:∀v,Has C S v->dh P ops T C Q rest (fun w=>E w/\S.p v w) (a.put o.dst v)):dh P ops T C Q (o::rest) E a:=by
 unfold dh;rw[if_pos e];unfold fU;rw[if_neg f,c];exact⟨b,d⟩
theorem dO(d:Region.wanted o (yielded ops a.tmps)=true)(e:o.dst=none)
 (b:∀w,C w->E w->Ac P o a C w) (c:dh P ops T C Q rest E (a.put o.dst undef)):dh P ops T C Q (o::rest) E a:=by
 unfold dh;rw[if_pos d];unfold fU;rw[if_pos e];exact⟨b,c⟩
theorem vb{q:Nat}{Q:Exit->Act->World->Prop}{l:List Oper}(T:Option Tmp->Option Sat)(p:Option Tmp->Bool)(e:World->Prop)(g:aA w0 w)(j:e w)(c:nx e)(k:∀d,p d=false->T d=none)(r:P.follows .mixedOrders=true)(f:stB .any l.toArray p=true)(m:Region.lexB .any l.toArray=true)
 (h:dh P l.toArray T (fun b=>∃n:aI w0,b=n.1) (fun E i=>∀n:aI w0,E n.1->Q .normal i n.1) l e a):(Code.region q l.toArray true).wp P Q a w:=by
 simp only[Region.lexB,Bool.and_eq_true]at m;have o:(fun b=>∃n:aI w0,b=n.1) {w with drawn:=w.drawn+1}:=⟨⟨{w with drawn:=w.drawn+1},⟨g.os,g.tape,g.output,g.size,g.block⟩⟩,rfl⟩;refine wp_region_any r (gJ (T:=T) (C:=fun b=>∃n:aI w0,b=n.1) (Q:=fun E i=>∀n:aI w0,E n.1->Q .normal i n.1) (fun E i b jj hE h=>Py) _ _ e _ _ o (c _ _ j (Ext.of ⟨rfl,rfl,rfl,Nat.le_refl _,fun _ _=>rfl⟩)) c ?_);have:=iC (md:= .any) f k ⟨_,o⟩ m.1 l 0 (Array.replicate l.toArray.size false) e a aD (by simpa using m.2) h;simpa using this
end
def ZP(p:Value->Prop):Sat:=⟨fun v _=>p v,fun _ _ _ h _=>h⟩
def ZK(N:Nat)(ks:List Nat):Sat:=⟨fun v w=>∃g:Nat,v= .pointer (some ⟨g,0,none⟩)/\N<=g/\2∉ks/\∃cs:Array Value,Bx w g cs/\cs.toList.map kd=ks,fun v w m ⟨g,i,k,c,cs,l,b⟩ d=>by
 obtain⟨a,j,h⟩:=d g cs l (fun v f e=>c (by rw[<-b,<-e];exact List.mem_map_of_mem f));exact⟨g,i,k,c,a,j,h.trans b⟩⟩
theorem ZK.get{N:Nat}{ks:List Nat}(h:(ZK N ks).p (.pointer (some ⟨g,0,none⟩)) w):∃cs:Array Value,Bx w g cs/\cs.toList.map kd=ks:=by
 obtain⟨a,e,_,_,h⟩:=h;injection e with e
 injection e with e
 injection e with e
 subst e;exact h
theorem aW{n:aI w0}{P:Program}{f:FuncId}{args:Array Value}(S:Sat)(h:Calls P f args n.1 fun e a=>∃v,e= .returned v/\S.p v a/\Below n.1.heap.size n.1 a):Calls P f args n.1 fun e a=>∃v,e= .returned v/\S.p v a/\(∃m:aI w0,a=m.1)/\Ext n.1 a:=
 h.mono fun e a ⟨v,c,d,b⟩=>⟨v,c,d,⟨⟨a,n.2.trans (b.mono n.2.size)⟩,rfl⟩,Ext.of b⟩
theorem jC(n:aI w0)(t:TypeId)(cs:Array Value)(ks:List Nat)(b:cs.toList.map kd=ks)(a:2∉ks):(ZK w0.heap.size ks).p (.pointer (some ⟨n.1.heap.size,0,none⟩)) (n.1.alloc (.cells cs t))/\(∃m:aI w0,n.1.alloc (.cells cs t)=m.1)/\Ext n.1 (n.1.alloc (.cells cs t)):=
 ⟨⟨_,rfl,n.2.size,a,cs,Bx.new _ _ _,b⟩,⟨⟨_,n.2.trans ((av _ _).mono n.2.size)⟩,rfl⟩,Ext.of (av _ _)⟩
theorem dR{P:Program}{n:aI w0}(c:TypeId)(x y:Operand)(l:o.op= .store c x y)(g:Nat)(cells:Array Value)(p:a.eval x= .pointer (some ⟨g,0,none⟩))(s:a.eval y= .agg cells)
 (f:∃cs:Array Value,Bx n.1 g cs/\cs.toList.map kd=cells.toList.map kd) (q:(P.info? c).map (·.size)=some cells.size) (r:cells.all (·.oneCell')=true) (j:w0.heap.size<=g):Ac P o a (fun i=>∃m:aI w0,i=m.1) n.1:=by
 obtain⟨cs,d,e⟩:=f;have b:=d;obtain⟨t,k⟩:=d;have h:cs.size=cells.size:=by have:=congrArg List.length e;simpa using this
 unfold Ac execOp;simp only[l,p,s,Instr.storeAt,Instr.sureAddr,Sem.run_bind,Sem.run_pure,Result.andThen_ok,run_storeVar_row n.1 g t c cs cells k q h r];exact⟨⟨⟨_,below_setRow n.2 j _⟩,rfl⟩,Ext.row b e.symm⟩
theorem WG{d:World}(h:∃cs:Array Value,Bx w b cs/\cs.toList.map kd=[0,0,0])(j:Ext w d):∃cs:Array Value,Bx d b cs/\cs.toList.map kd=[0,0,0]:=by
 obtain⟨cs,i,c⟩:=h;obtain⟨a,g,l⟩:=j b cs i (fun v k e=>by have:=List.mem_map_of_mem (f:=kd) k;rw[c,e]at this;simp at this);exact⟨a,g,l.trans c⟩
theorem yX(h:cs.toList.map kd=[0,0,0]):∃a b c:Int,cs= #[ae aj a,ae aj b,ae aj c]:=by
 have key:∀v:Value,kd v=0->∃z,v=ae aj z:=fun v d=>by
  unfold kd at d;split at d
  ·exact⟨_,rfl⟩
  ·cases d
  ·cases d
 obtain⟨l,hl⟩:=eY cs.toList;rw[hl]at h;rcases l with _|⟨u,_|⟨v,_|⟨x,_|⟨y,l⟩⟩⟩⟩<;>simp at h
 obtain⟨a,rfl⟩:=key _ h.1;obtain⟨b,rfl⟩:=key _ h.2.1;obtain⟨c,rfl⟩:=key _ h.2.2;exact⟨a,b,c,VK⟩
end Kx
theorem mKx{R G:Prop}(h:R)(s:R->G:=by
 intro b
 repeat(refine Kx.bR aK aD aK aK ?_;intro c a;go_big_quiet_op;go_big_quiet_on)
 exact b):G:=s h
theorem kxA{P:Program}{ops:Array Oper}{T:Option Tmp->Option Kx.Sat}(S:Kx.Sat)
 (g:∀c:aI w0,Kx.mh P o a (fun b=>∃n:aI w0,b=n.1) c.1 S) (h:∀v,Kx.Has (fun b=>∃n:aI w0,b=n.1) S v->Kx.dh P ops T (fun b=>∃n:aI w0,b=n.1) Q rest (fun w=>E w/\S.p v w) (a.put o.dst v)) (d:Region.wanted o (yielded ops a.tmps)=true:=by rfl) (i:o.dst≠none:=by simp) (f:T o.dst=some S:=by rfl):Kx.dh P ops T (fun b=>∃n:aI w0,b=n.1) Q (o::rest) E a:=
 Kx.cG S d i f (fun _ ⟨n,e⟩=>e▸g n) h
def aew(w:World)(e:Ending)(c:World):Prop:=∃(a d y:Int) (b:Bool),e= .returned (.tuple #[.agg #[ae aj a,ae aj d,ae aj y], .bool b])/\aA w c
abbrev v3(a d y:Int):Array Value:= #[ae aj a,ae aj d,ae aj y]
theorem aa4(k:Lk)(g:Int)(w:World)(h:lS w w.heap.size k):Calls prog 324 #[k.v,ae aj g] w (aew w):=by
 obtain⟨E,aP,W,B⟩:=box1 w k.row 132;obtain⟨u,cd⟩:=eX (E.alloc (.cells (v3 0 0 0) 295));have F:aA E u:=jT;have hN:E.heap.size=w.heap.size+1:=oL;have ED:u.heap.size=w.heap.size+2:=Bh;have p:=W.t F;have r:ak (Bx u (w.heap.size+1) (v3 0 0 0)):=⟨OU⟩;have X4:=sH (B.o.ar F B.o.lt);rw[aP]at cd;have R:=sH (h.Z p.o p.o.size);have C:=h.rS.bd;clear h F hN aP B W;obtain⟨kk,fl,st,S,a,sc⟩:=k;dsimp only at C cd;go_enter func324,ntmps324;go_wp2;rw[<-cd];clear cd;go_loopg [6,7,8] (a+1) (fun gg v6 _ _ wr=>∃i:Nat,a-i<gg/\i<=a/\v6=ae aj (i:Int)/\ak (aA u wr))
 ·exact⟨0,aq,aq,rfl,cB⟩
 obtain⟨i,hg,hi,rfl,l⟩:=hrel;obtain⟨U,Q,P,d3⟩:=(X4.o.ar l.o X4.o.lt).k4;dsimp only at U Q P d3;have BW:=p.t l.o;by_cases I:i<a
 ·obtain⟨ad,x,rfl,Z,e0,e1,e2,e3,e4,e5,e6,e7,e8,e9,L,M⟩:=jh (A:=S) (n:=a) (c:=sc) (R.o.rS.Z l.o l.o.size) I
  obtain⟨W3,f⟩:=eX (wr.alloc (.cells x.row 141));obtain⟨V,T,t⟩:=sT Z f;have m:=l.t V;have X5:=sH T;have X:=sH t;have JT:=t.rC.bd;have hvn:=t.rV.bd;have i4:=aR i a;clear Z T t V;go_wp2;rw[<-f];clear f e0 e1 e2 e3 e4 e5 e6 e7 e8 e9 L M U Q P d3;go_loopg [8] (x.cn+1) (fun gg v8 wr=>∃j:Nat,x.cn-j<gg/\j<=x.cn/\v8=ae aj (j:Int)/\wr=W3)
  ·exact⟨0,aq,aq,rfl,rfl⟩
  obtain⟨j,Wi,hj,rfl,rfl⟩:=hrel;obtain⟨c0,_,_,_,_,_,_,c7,_⟩:=X5.o.mS;by_cases K:j<x.cn
  ·obtain⟨ady,y,O,dy⟩:=ie X.o.rC K
   rw[O]at c0;clear O;by_cases s:y=g
   ·have N:(y !=g)=false:=by simp[s]
    by_cases z:j<x.vn
    ·obtain⟨Yq,G,D,v,Y,f0,f1,f2⟩:=Ly X.o.rV z
     rw[Y]at c7;clear Y;have q:(j:Int)<(x.vn:Int):=aq;have o:=r.o.ar m.o r.o.lt;obtain⟨b,H⟩:=o.heap;have gM:=m.o.size;clear s;go_wp2_with (refine wpList_store_row rfl 295 (.tmp 4) (.tmp 44) rfl (w.heap.size+1) (v3 G D v) rfl rfl b _ H aF aK dK ?_;have J:=o.row (ds:=v3 G D v));obtain⟨e,d⟩:=J.heap;refine bodyPost_ret (bT results324 _ _ (w.heap.size+1) e _ (0,0) _ aK d underlying295 rfl aF) rfl ?_;exact⟨G,D,v,true,rfl,below_setRow (p.o.trans (m.o.mono p.o.size)) aq _⟩
    ·have q:¬(j:Int)<(x.vn:Int):=by omega
     clear s;go_wp2;go_roundg (a-i)
     ·exact⟨i+1,aq,aq,aQ,m⟩
     omega
   ·have N:(y !=g)=true:=by simp[s]
    go_wp2;go_roundg (x.cn-j)
    ·exact⟨j+1,aq,aq,aQ,rfl⟩
    omega
  ·go_wp2
   go_roundg (a-i)
   ·exact⟨i+1,aq,aq,aQ,m⟩
   omega
 ·have o:=r.o.ar l.o r.o.lt
  obtain⟨b,H⟩:=o.heap;go_wp2_with (refine wpList_store_row rfl 295 (.tmp 4) (.tmp 45) rfl (w.heap.size+1) (v3 0 0 0) rfl aK b _ H aF aK dK ?_;have J:=o.row (ds:=v3 0 0 0));obtain⟨e,d⟩:=J.heap;refine bodyPost_ret (bT results324 _ _ (w.heap.size+1) e _ (0,0) _ aK d underlying295 rfl aF) rfl ?_;exact⟨0,0,0,false,rfl,below_setRow BW.o aq _⟩
abbrev v10(g b h i f a d j e c:Int):Array Value:= #[ae aj g,ae aj b,ae aj h,ae aj i,ae aj f,ae aj a,ae aj d,ae aj j,ae aj e,ae aj c]
def T9(g:Int)(v:Value):Prop:=∃f h i e a c j d b:Int,v= .agg (v10 f g h i e a c j d b)
def PAg(w:World)(a:Int)(e:Ending)(b:World):Prop:=∃v,e= .returned v/\T9 a v/\aA w b
theorem WY(f b k g j c e l i h a d y:Int)(w:World):Calls prog 325 #[.agg (v10 f b k g j c e l i h), .agg (v3 a d y)] w (PAg w b):=by
 have o:∀o1 n:Obj,(((w.alloc o1).alloc n).alloc (.cells (v10 f b (wrap64 (k+a)) (wrap64 (g+d)) (wrap64 (j+y)) c e l i h) 108)).heap[w.heap.size+2]? =some (.cells (v10 f b (wrap64 (k+a)) (wrap64 (g+d)) (wrap64 (j+y)) c e l i h) 108 (0,0)):=fun o1 n=>by
  have:=heap_alloc_new ((w.alloc o1).alloc n) (.cells (v10 f b (wrap64 (k+a)) (wrap64 (g+d)) (wrap64 (j+y)) c e l i h) 108);simpa using this
 have m:=Lib.hid o;go_enter func325,ntmps325;go_wp2_with fail;refine bodyPost_ret (results_cell_row results325 _ _ (w.heap.size+2) 108 _ (0,0) _ aK (m.out _ _) underlying108 rfl aF) rfl ?_;exact⟨_,rfl,⟨_,_,_,_,_,_,_,_,_,rfl⟩,((av _ _).alloc aD _).alloc cA _⟩
theorem kK{P:Program}{n:Func}{p q b:Tmp}{a:TypeId}(h:n.results= #[.cell p a, .cell q a, .tmp b])(tmps:Array Value)(w:World)(g g2:Nat)(t k:TypeId)(cs ds:Array Value)(l c:Nat×Nat)(d:TypeDesc)
 (hp:tmps.getD p undef= .pointer (some ⟨g,0,none⟩)) (u:tmps.getD q undef= .pointer (some ⟨g2,0,none⟩)) (r:w.heap[g]? =some (.cells cs t l)) (i:w.heap[g2]? =some (.cells ds k c))
 (m:P.underlying a=some d) (o:(match d with| .struct _| .array _ _=>true|_=>false)=true) (s:(P.info? a).map (·.size)=some cs.size) (j:(P.info? a).map (·.size)=some ds.size):
 (results n tmps).run P w= .ok (.tuple #[.agg cs, .agg ds,tmps.getD b undef]) w:=by
 have f:tmps[p]?.getD undef= .pointer (some ⟨g,0,none⟩):=Pk;have e:tmps[q]?.getD undef= .pointer (some ⟨g2,0,none⟩):=by simpa using u
 simp[results,h,f,e,asAddr,run_loadVar_row w g t a cs l d r m o s,run_loadVar_row w g2 k a ds c d i m o j]
theorem xL(h:cM w B Gl A n c)(s:j<n):∃(a:Addr) (i f m k l d g o:Int),A=some a/\w.cell? (a.add (j*8))=some (ae aj i)/\w.cell? (bW (a.add (j*8)) 1)=some (ae aj f)/\w.cell? (bW (a.add (j*8)) 2)=some (ae aj m)/\w.cell? (bW (a.add (j*8)) 3)=some (ae aj k)/\w.cell? (bW (a.add (j*8)) 4)=some (ae aj l)/\w.cell? (bW (a.add (j*8)) 5)=some (ae aj d)/\w.cell? (bW (a.add (j*8)) 6)=some (ae aj g)/\w.cell? (bW (a.add (j*8)) 7)=some (ae aj o):=by
 obtain⟨a,e,_,q⟩:=h.2.2.2 aq;obtain⟨t,r,b⟩:=q j s;obtain⟨_,_,rfl,⟨i,rfl,_⟩,⟨_,_,rfl,⟨f,rfl,_⟩,⟨_,_,rfl,⟨_,_,rfl,⟨m,rfl,_⟩,⟨_,_,rfl,⟨k,rfl,_⟩,⟨l,rfl,_⟩⟩⟩,⟨_,_,rfl,⟨d,rfl,_⟩,⟨_,_,rfl,⟨g,rfl,_⟩,⟨o,rfl,_⟩⟩⟩⟩⟩⟩:=r;have p:=b 0 _ rfl;rw[eQ]at p;exact⟨a,i,f,m,k,l,d,g,o,e,p,b 1 _ rfl,b 2 _ rfl,b 3 _ rfl,b 4 _ rfl,b 5 _ rfl,b 6 _ rfl,b 7 _ rfl⟩
theorem Bx.ach(h:Bx w b cs)(a:b≠g)(ds:Array Value):Bx (w.setRow g ds) b cs:=by
 obtain⟨t,h⟩:=h;exact⟨t,by rw[setRow_other _ _ _ _ a];exact h⟩
def acn(w:World)(e:Ending)(h:World):Prop:=∃(a d y g c f:Int) (b:Bool),e= .returned (.tuple #[.agg (v3 a d y), .agg (v3 g c f), .bool b])/\aA w h
theorem aau(k:Lk)(v g2:Int)(w:World)(h:lS w w.heap.size k):Calls prog 327 #[k.v,ae aj v,ae aj g2] w (acn w):=by
 obtain⟨Y,aP,B1,W⟩:=box1 w k.row 132;obtain⟨t,cd⟩:=eX ((Y.alloc (.cells (v3 0 0 0) 295)).alloc (.cells (v3 0 0 0) 295));have I:aA Y t:=Xl;have hN:Y.heap.size=w.heap.size+1:=oL;have ED:t.heap.size=w.heap.size+3:=Bh;have r:=B1.t I;have V:ak (Bx t (w.heap.size+1) (v3 0 0 0)):=⟨by rw[cd];exact(Bx.jt _ _ _ hN).ar ((Below.refl (w.heap.size+2) _).alloc (by simp;omega) _) (by omega)⟩;have s:ak (Bx t (w.heap.size+2) (v3 0 0 0)):=⟨by rw[cd];exact Bx.jt _ _ _ (by simp;omega)⟩;have X4:=sH (W.o.ar I W.o.lt);rw[aP]at cd;have R:=sH h;have H:=h.rS.bd;clear h I hN aP W B1;obtain⟨kk,fl,st,S,f,sc⟩:=k;dsimp only at H cd;go_enter func327,ntmps327;go_wp2;rw[<-cd];clear cd;go_loopg [9,10,11] (f+1) (fun gg v9 _ _ wr=>∃i:Nat,f-i<gg/\i<=f/\v9=ae aj (i:Int)/\wr=t)
 ·exact⟨0,aq,aq,rfl,rfl⟩
 obtain⟨i,hg,hi,rfl,rfl⟩:=hrel;obtain⟨d0,d1,d2,d3⟩:=X4.o.k4;dsimp only at d0 d1 d2 d3;by_cases N:i<f
 ·obtain⟨ad,x,rfl,hx,e0,e1,e2,e3,e4,e5,e6,e7,K,e9,O,T⟩:=jh (A:=S) (n:=f) (c:=sc) R.o.rS N
  have K:=au K r.o;have RP:=sH hx.rP;have zB:=hx.rP.bd;generalize x.P=PA at*;have i4:=aR i f;clear hx;go_wp2;clear d0 d1 d2 d3 e0 e1 e2 e3 e4 e5 e6 e7 K e9 O T;go_loopg [11] (x.pn+1) (fun gg v11 L=>∃j:Nat,x.pn-j<gg/\j<=x.pn/\v11=ae aj (j:Int)/\L=wr)
  ·exact⟨0,aq,aq,rfl,rfl⟩
  obtain⟨j,Wi,hj,rfl,rfl⟩:=hrel;by_cases R':j<x.pn
  ·obtain⟨adp,C,U,x2,x3,x4,x5,x6,x7,rfl,Z,G,p2,p3,p4,p5,p6,p7⟩:=xL RP.o R'
   have aeM:(j:Int)<(x.pn:Int):=aq;obtain⟨F,B,z,D,y,E⟩:=lc6 p2 p3 p4 p5 p6 p7;have LS:=sH (And.intro F (And.intro B (And.intro z (And.intro D (And.intro y E)))));have Z:=au Z r.o;have G:=au G r.o;clear F B z D y E p2 p3 p4 p5 p6 p7;by_cases p:C=v
   ·by_cases h2:U=g2
    ·have q:(C==v)=true:=by simp[p]
     have Dg:(U==g2)=true:=pO;clear p h2;go_wp2;obtain⟨F,B,z,D,y,E⟩:=LS.o;clear Z G;refine Kx.vb (w0:=w) (fun _=>none) (fun _=>false) (fun w'=>(∃cs:Array Value,Bx w' (w.heap.size+1) cs/\cs.toList.map Kx.kd=[0,0,0])/\(∃cs:Array Value,Bx w' (w.heap.size+2) cs/\cs.toList.map Kx.kd=[0,0,0])) r.o ⟨⟨_,V.o,rfl⟩,⟨_,s.o,rfl⟩⟩ (fun u u' hu he=>⟨Kx.WG hu.1 he,Kx.WG hu.2 he⟩) (fun _ _=>rfl) aF aF aF ?_;refine mKx ?_;refine Kx.dO aK aK (fun w9 o l=> ?_) ?_
     ·obtain⟨Q,rfl⟩:=o
      exact Kx.dR 295 (.tmp 6) (.tmp 51) rfl (w.heap.size+1) (v3 x2 x3 x4) rfl rfl l.1 aF dK aq
     simp[Act.put];refine mKx ?_;refine Kx.dO aK aK (fun w9 o l=> ?_) ?_
     ·obtain⟨Q,rfl⟩:=o
      exact Kx.dR 295 (.tmp 7) (.tmp 56) rfl (w.heap.size+2) (v3 x5 x6 x7) rfl rfl l.2 aF dK aq
     simp[Act.put];refine mKx ?_;intro Q hE;obtain⟨⟨cs,X,k1⟩,⟨ds,hX2,k2⟩⟩:=hE;obtain⟨a,b,c,rfl⟩:=Kx.yX k1;obtain⟨a',b',c',rfl⟩:=Kx.yX k2;obtain⟨m,P⟩:=X.heap;obtain⟨e,d⟩:=hX2.heap;have BN:=sH Q.2;clear F B z D y E k1 k2;go_wp2_with fail;refine bodyPost_ret (kK results327 _ _ (w.heap.size+1) (w.heap.size+2) m e _ _ (0,0) (0,0) _ aK aK P d underlying295 rfl aF aF) rfl ?_;exact⟨a,b,c,a',b',c',true,rfl,BN.o⟩
    ·have q:(C==v)=true:=by simp[p]
     have Dg:(U==g2)=false:=pO;clear p h2;go_wp2;go_roundg (x.pn-j)
     ·exact⟨j+1,aq,aq,aQ,rfl⟩
     omega
   ·have q:(C==v)=false:=by simp[p]
    clear p;go_wp2;go_roundg (x.pn-j)
    ·exact⟨j+1,aq,aq,aQ,rfl⟩
    omega
  ·go_wp2
   go_roundg (f-i)
   ·exact⟨i+1,aq,aq,aQ,rfl⟩
   omega
 ·obtain⟨J,hX⟩:=V.o.heap
  go_wp2_with (first
   |(refine wpList_store_row rfl 295 (.tmp 6) (.tmp 57) rfl (w.heap.size+1) (v3 0 0 0) rfl aK J _ hX aF aK dK ?_;have X5:=V.o.row (ds:=v3 0 0 0);have X6:=s.o.ach (g:=w.heap.size+1) aq (v3 0 0 0);obtain⟨M,hY⟩:=X6.heap)
   |(refine wpList_store_row rfl 295 (.tmp 7) (.tmp 58) rfl (w.heap.size+2) (v3 0 0 0) rfl aK M _ hY aF aK dK ?_;have X7:=X6.row (ds:=v3 0 0 0);have X8:=X5.ach (g:=w.heap.size+2) aq (v3 0 0 0)))
  obtain⟨m,P⟩:=X8.heap;obtain⟨e,d⟩:=X7.heap;refine bodyPost_ret (kK results327 _ _ (w.heap.size+1) (w.heap.size+2) m e _ _ (0,0) (0,0) _ aK aK P d underlying295 rfl aF aF) rfl ?_;exact⟨0,0,0,0,0,0,false,rfl,below_setRow (below_setRow r.o aq _) aq _⟩
section
open Go.Deep
theorem Oq.Cm{e:TypeId}{lo b:Int}(h:Oq w B e 10 (bV lo b) (some ⟨g,0,none⟩) n c){j:Nat}(a:j<n)(l d t p s f i o r m:Int)(C:lo<=d/\d<b):
 Oq (w.setCells g (j*10) (v10 l d t p s f i o r m).toList) B e 10 (bV lo b) (some ⟨g,0,none⟩) n c:=by
 have k:∀(q:Nat) (v:Int),q≠1->∀x:aE,x.length=10->bV lo b x->bV lo b (x.set q v):=fun q v I x _ y=>cL I y
 have F:=h.set a (q:=0) aq l (k 0 l aq);have H:=F.set a (q:=1) aq d (fun x E _=>sU E C);have D:=H.set a (q:=2) aq t (k 2 t aq);have G:=D.set a (q:=3) aq p (k 3 p aq);have J:=G.set a (q:=4) aq s (k 4 s aq);have u:=J.set a (q:=5) aq f (k 5 f aq);have A:=u.set a (q:=6) aq i (k 6 i aq);have z:=A.set a (q:=7) aq o (k 7 o aq);have K:=z.set a (q:=8) aq r (k 8 r aq);exact K.set a (q:=9) aq m (k 9 m aq)
theorem Oq.xS{e:TypeId}{Q:aE->Prop}(h:Oq w B e 10 Q (some ⟨g,0,none⟩) n c){j:Nat}(p:j<n):w.there g (j*10) 10:=fun i o=>by
 obtain⟨x,u,E,A,D,t,v,z,C,y,_,f,m,b,a,d,k,l,s,r,q⟩:=h.ba p;refine⟨?_,h.fz _⟩
 match i,o with
 |0,_=>rw[Nat.add_zero,f];rfl
 |1,_=>rw[m];rfl
 |2,_=>rw[b];rfl
 |3,_=>rw[a];rfl
 |4,_=>rw[d];rfl
 |5,_=>rw[k];rfl
 |6,_=>rw[l];rfl
 |7,_=>rw[s];rfl
 |8,_=>rw[r];rfl
 |9,_=>rw[q];rfl
theorem dA{B g:Nat}{a:World}(b:B<=g):∀(vs:List Value) (o:Nat) (w:World),Below B a w->Below B a (w.setCells g o vs)
 |[],_,_,h=>h
 |v::vs,o,w,h=>dA b vs (o+1) _ (Below.setCell h (p:=⟨g,o,none⟩) b v)
def PAs(w:World)(B:Nat)(Q:aE->Prop)(n:Nat)(e:Ending)(a:World):Prop:=∃(A:aC) (m c x:Nat) (b:Bool),e= .returned (.tuple #[.slice A m c,ae aj (x:Int), .bool b])/\(b=true->m=n/\x<=n+1/\fM a B Q A m c)/\aA w a
theorem Bx.iA(h:Bx w b cs)(a:b≠g)(o:Nat)(v:Value):Bx (w.setCell ⟨g,o,none⟩ v) b cs:=by
 obtain⟨t,h⟩:=h;exact⟨t,(Below.heap_setCell _ _ _ _ a).trans h⟩
theorem Bx.uq{b g:Nat}{cs:Array Value}(a:b≠g):∀(vs:List Value) (o:Nat) {w:World},Bx w b cs->Bx (w.setCells g o vs) b cs
 |[],_,_,h=>h
 |v::vs,o,w,h=>Bx.uq a vs (o+1) (h.iA a o v)
def ZQ(p:Value->Prop):Sat:=⟨fun v _=>p v,fun _ _ _ h _=>h⟩
def Yc(v:Value):Prop:=∃(a d y:Int) (b:Bool),v= .tuple #[.agg (v3 a d y), .bool b]
def KI(v:Value):Prop:=∃(a d y f c e:Int) (b:Bool),v= .tuple #[.agg (v3 a d y), .agg (v3 f c e), .bool b]
theorem acZ{G:Prop}(s:G:=by
 go_simp
 refine aW (ZQ (T9 x1)) ((WY x0 x1 x2 x3 x4 x5 x6 x7 x8 x9 a1 a2 a3 nq.1).mono ?_);rintro e w5 ⟨v,rfl,hv,hb⟩;exact⟨_,rfl,hv,hb⟩):G:=s
theorem Sg(f:db)(k:Lk)(lo hi:Int)(A:aC)(n c at_:Nat)(w:World)(h:ca w w.heap.size f)(hk:lS w w.heap.size k)(hl:gi w (bV lo hi) A n)(hn:n<=50000)(ha:at_<n):
 Calls prog 310 #[f.v,k.v, .slice A n c,ae aj (at_:Int)] w (PAs w w.heap.size (bV lo hi) n):=by
 obtain⟨W,aP,U,X1,X2⟩:=box2 w f.row 82 k.row 132;have R:=sH (h.Z U.o U.o.size);have RK:=sH (hk.Z U.o U.o.size);have GL:=sH (hl.Z U.o U.o.size);clear h hl hk;have i1:¬((n:Int)<=(at_:Int)):=aq;have i3:=aR at_ n;obtain⟨kk,fl,st,S,sn,sc⟩:=k;have Gi:kk=6∨kk=7∨((kk==6)=false/\(kk==7)=false):=cA;rcases Gi with rfl|rfl|⟨k1,k2⟩
 rotate_left 2
 ·go_enter func310,ntmps310
  go_wp2_with (at_builtin;rw[<-aP];refine cw mf rfl (.tmp 26) (.tmp 27) rfl rfl (Oq.nil W W.heap.size _ _ _) rfl GL.o aq cr ?_;intro A7 c7 w7 Z M;rw[Nat.zero_add]at Z;have O7:=sH Z;have G:=sH M;obtain⟨Y,T,X,V⟩:=(X2.o.ar M X2.o.lt).k4;obtain⟨c0,c1,c2,c3,c4,c5⟩:=(X1.o.ar M X1.o.lt).f6;dsimp only at Y T X V;clear Z M);go_ret3;exact⟨none,0,0,0,false,rfl,aD,U.o.trans (G.o.mono U.o.size)⟩
 ·go_enter func310,ntmps310
  go_wp2_with (at_builtin;rw[<-aP];refine cw mf rfl (.tmp 26) (.tmp 27) rfl rfl (Oq.nil W W.heap.size _ _ _) rfl GL.o aq cr ?_;intro A7 c7 w7 Z M;rw[Nat.zero_add]at Z;have O7:=sH Z;have G:=sH M;obtain⟨Y,T,X,V⟩:=(X2.o.ar M X2.o.lt).k4;obtain⟨c0,c1,c2,c3,c4,c5⟩:=(X1.o.ar M X1.o.lt).f6;dsimp only at Y T X V;clear Z M);have hs7:=G.o.size;obtain⟨M0,M1,M2,M3⟩:=lc4 Y T X V;have ZN:=U.t G.o;have G7:=sH (GL.o.Z G.o G.o.size);have Tv:=sH (RK.o.Z G.o G.o.size);obtain⟨ad,x0,x1,x2,x3,x4,x5,x6,x7,x8,x9,rfl,Q,P,_⟩:=G7.o.ba ha;have E0:=aw P;clear Y T X V c0 c1 c2 c3 c4 c5 P Q;refine Kx.aY (fun d=>if d=some 40 then some (Kx.ZP Yc)else if d=some 12 then some (Kx.ZK w7.heap.size [0,0,0])else none) (fun d=>d==some 40||d==some 12) (fun d hd=>vh) aF aF aF ?_;refine mKx ?_;refine kxA (Kx.ZP Yc) (fun nq=> ?_) (fun v9 j=> ?_)
  ·go_simp
   refine Kx.aW (Kx.ZP Yc) ((aa4 ⟨6,fl,st,S,sn,sc⟩ x0 nq.1 (Tv.o.Z nq.2 nq.2.size)).mono ?_);rintro e w5 ⟨a,d,y,b,rfl,hb⟩;exact⟨_,rfl,⟨a,d,y,b,rfl⟩,hb⟩
  obtain⟨_,_,va,vd,vy,b,rfl⟩:=j;simp[Act.put];refine mKx ?_;refine kxA (Kx.ZK w7.heap.size [0,0,0]) (fun nq=> ?_) (fun v9 j=> ?_)
  ·go_simp
   exact Kx.jC nq _ _ _ rfl aD
  obtain⟨_,_,g2,rfl,fL,_⟩:=j;simp[Act.put];refine Kx.dO aK aK (fun w9 i K=> ?_) ?_
  ·obtain⟨nq,rfl⟩:=i
   exact Kx.dR 295 (.tmp 12) (.tmp 41) rfl g2 (v3 va vd vy) rfl rfl (Kx.ZK.get K.2) aF dK fL
  simp[Act.put];refine mKx ?_;intro nq O;obtain⟨cs,hX,lZ⟩:=Kx.ZK.get O.2;obtain⟨a1,a2,a3,rfl⟩:=Kx.yX lZ;have X8:=sH hX;have I:=sH (G.o.trans (nq.2.mono hs7));have O8:=sH (O7.o.ar nq.2);have l:=ZN.t nq.2;obtain⟨w8,J⟩:=eX nq.1;rw[<-J]at I O8 l X8
  try dsimp only
  rw[<-J];clear J O E0 M0 M1 M2 M3 hX lZ;have jg:=U.o.size;cases b
  ·go_wp2
   go_ret3;exact⟨none,0,0,0,false,rfl,aD,l.o⟩
  go_wp2;obtain⟨m,rfl,zj,Kf⟩:=O8.o.form aq;obtain⟨ad8,x0,x1,x2,x3,x4,x5,x6,x7,x8,x9,p,Q,P,e1,e2,e3,e4,e5,e6,e7,e8,e9⟩:=(GL.o.Z I.o I.o.size).ba ha;obtain rfl:ad=ad8:=Option.some.inj p;have QX:=sH Q;obtain⟨F0,F1,F2,F3,F4,F5,F6,F7⟩:=lc8 P e1 e2 e3 e4 e5 e6 e7;obtain⟨F8,F9,H0,H1,H2⟩:=lc5 e8 e9 (X8.o.cell 0) (X8.o.cell 1) (X8.o.cell 2);clear P e1 e2 e3 e4 e5 e6 e7 e8 e9 p Q;refine aT (jd 51 (ZQ (T9 x1))) 9 rfl aF aF aF aF aF rfl ?_;refine mLw ?_;refine lwA (ZQ (T9 x1)) (fun nq=> ?_) (fun v9 j=> ?_)
  ·exact acZ
  obtain⟨_,_,D,F,E,r,u,s,B,C,x,rfl⟩:=j;simp[Act.put];refine mLw ?_;intro nq O;have o:fM nq.1 W.heap.size (bV lo hi) (some ⟨m,0,none⟩) n c7:=O8.o.ar nq.2;have TH:=o.xS ha;have O9:=sH (o.Cm ha D x1 F E r u s B C x QX.o);have q:ak (aA w (nq.1.setCells m (at_*10) (v10 D x1 F E r u s B C x).toList)):=⟨dA aq _ _ _ (l.o.trans (nq.2.mono l.o.size))⟩;have L:ak (aA W (nq.1.setCells m (at_*10) (v10 D x1 F E r u s B C x).toList)):=⟨dA aq _ _ _ (I.o.trans (nq.2.mono I.o.size))⟩;have KB:ak (∀(b:Nat) (cs:Array Value),Bx w8 b cs->b≠m->Bx (nq.1.setCells m (at_*10) (v10 D x1 F E r u s B C x).toList) b cs):=⟨fun b cs hb hn=>Bx.uq hn _ _ (hb.ar nq.2 hb.lt)⟩;clear F0 F1 F2 F3 F4 F5 F6 F7 F8 F9 H0 H1 H2;refine wp_store_mid 108 (.tmp 52) (.tmp 51) rfl m (at_*10) (v10 D x1 F E r u s B C x) rfl rfl TH aF dK ?_;obtain⟨w9,i⟩:=eX (nq.1.setCells m (at_*10) (v10 D x1 F E r u s B C x).toList);rw[<-i]at O9 q L KB
  try dsimp only
  rw[<-i]
  try simp only[Act.put]
  clear i TH o O;go_wp2;go_ret3;exact⟨_,n,c7,at_+1,true,rfl,fun _=>⟨rfl,aq,O9.o.cN aq⟩,q.o⟩
 ·go_enter func310,ntmps310
  go_wp2_with (at_builtin;rw[<-aP];refine cw mf rfl (.tmp 26) (.tmp 27) rfl rfl (Oq.nil W W.heap.size _ _ _) rfl GL.o aq cr ?_;intro A7 c7 w7 Z M;rw[Nat.zero_add]at Z;have O7:=sH Z;have G:=sH M;obtain⟨Y,T,X,V⟩:=(X2.o.ar M X2.o.lt).k4;obtain⟨c0,c1,c2,c3,c4,c5⟩:=(X1.o.ar M X1.o.lt).f6;dsimp only at Y T X V;clear Z M);have hs7:=G.o.size;have ZN:=U.t G.o;have G7:=sH (GL.o.Z G.o G.o.size);have Tv:=sH (RK.o.Z G.o G.o.size);have NX:=sH (xN f ⟨7,fl,st,S,sn,sc⟩ (bV lo hi) A n c at_ w7 (R.o.Z G.o G.o.size) G7.o aq ha);refine NX.o.mono ?_;rintro e w6 ⟨z,rfl,hz,H⟩;have B6:=sH (G.o.trans (H.mono hs7));have AK:=ZN.t H;have O6:=sH (O7.o.ar H);have G6:=sH (G7.o.Z H H.size);have RK6:=sH (Tv.o.Z H H.size);clear NX H c0 c1 c2 c3 c4 c5 Y T X V;rcases hz with rfl|⟨iE,fA⟩
  ·go_wp2
   go_ret3;exact⟨none,0,0,0,false,rfl,aD,AK.o⟩
  obtain⟨t,rfl⟩:∃t:Nat,z=(t:Int):=⟨z.toNat,aq⟩;have fJ:t<n:=aq;have i5:=aR t n;have i6:((t:Int)== -1)=false:=ij;obtain⟨Y,T,X,V⟩:=(X2.o.ar B6.o X2.o.lt).k4;dsimp only at Y T X V;obtain⟨ad,x0,x1,x2,x3,x4,x5,x6,x7,x8,x9,rfl,Q,P,_⟩:=G6.o.ba ha;obtain⟨gS,y0,y1,y2,y3,y4,y5,y6,y7,y8,y9,p,Uu,f0,_⟩:=G6.o.ba fJ;obtain rfl:ad=gS:=Option.some.inj p;obtain⟨E0,E1,M0,M1,M2,M3⟩:=lc6 P f0 Y T X V;clear Y T X V P f0 Q Uu p iE fA;go_wp2;refine Kx.aY (fun d=>if d=some 77 then some (Kx.ZP KI)else if d=some 15 then some (Kx.ZK w6.heap.size [0,0,0])else if d=some 16 then some (Kx.ZK w6.heap.size [0,0,0])else none) (fun d=>d==some 77||d==some 15||d==some 16) (fun d hd=>vh) aF aF aF ?_;refine mKx ?_;refine kxA (Kx.ZP KI) (fun nq=> ?_) (fun v9 j=> ?_)
  ·go_simp
   refine Kx.aW (Kx.ZP KI) ((aau ⟨7,fl,st,S,sn,sc⟩ x0 y0 nq.1 (RK6.o.Z nq.2 nq.2.size)).mono ?_);rintro e w5 ⟨a,d,y,a',d',y',b,rfl,hb⟩;exact⟨_,rfl,⟨a,d,y,a',d',y',b,rfl⟩,hb⟩
  obtain⟨_,_,va,vd,vy,va',vd',vy',b,rfl⟩:=j;simp[Act.put];refine mKx ?_;refine kxA (Kx.ZK w6.heap.size [0,0,0]) (fun nq=> ?_) (fun v9 j=> ?_)
  ·go_simp
   exact Kx.jC nq _ _ _ rfl aD
  obtain⟨_,_,g2,rfl,fL,_⟩:=j;simp[Act.put];refine kxA (Kx.ZK w6.heap.size [0,0,0]) (fun nq=> ?_) (fun v9 j=> ?_)
  ·go_simp
   exact Kx.jC nq _ _ _ rfl aD
  obtain⟨_,_,g3,rfl,zY,_⟩:=j;simp[Act.put];refine Kx.dO aK aK (fun w9 i K=> ?_) ?_
  ·obtain⟨nq,rfl⟩:=i
   exact Kx.dR 295 (.tmp 15) (.tmp 78) rfl g2 (v3 va vd vy) rfl rfl (Kx.ZK.get (by first|exact K.1.2|exact K.2.1)) aF dK fL
  simp[Act.put];refine Kx.dO aK aK (fun w9 i K=> ?_) ?_
  ·obtain⟨nq,rfl⟩:=i
   exact Kx.dR 295 (.tmp 16) (.tmp 79) rfl g3 (v3 va' vd' vy') rfl rfl (Kx.ZK.get (by first|exact K.2|exact K.2.2)) aF dK zY
  simp[Act.put];refine mKx ?_;intro nq O;obtain⟨cs,hX,lZ⟩:=Kx.ZK.get (w:=nq.1) (g:=g2) (N:=w6.heap.size) (by first|exact O.1.2|exact O.2.1);obtain⟨a1,a2,a3,rfl⟩:=Kx.yX lZ;obtain⟨ds,hX',ab9⟩:=Kx.ZK.get (w:=nq.1) (g:=g3) (N:=w6.heap.size) (by first|exact O.2.2|exact O.2);obtain⟨b1,b2,b3,rfl⟩:=Kx.yX ab9;have X8:=sH hX;have X9:=sH hX';have Qj:=B6.o.size;have I:=sH (B6.o.trans (nq.2.mono Qj));have O8:=sH (O6.o.ar nq.2);have l:=AK.t nq.2;have hO6:∀g,A7=some ⟨g,0,none⟩->g<w6.heap.size:=fun g e=>by
   obtain⟨g',e',_,h⟩:=O6.o.form aq;rw[e]at e';injection e' with e'
   injection e' with e'
   omega
  have HO6:=sH hO6;obtain⟨w8,J⟩:=eX nq.1;rw[<-J]at I O8 l X8 X9
  try dsimp only
  rw[<-J];clear J O E0 E1 M0 M1 M2 M3 hX lZ hX' ab9 hO6;have jg:=U.o.size;cases b
  ·go_wp2
   go_ret3;exact⟨none,0,0,0,false,rfl,aD,l.o⟩
  go_wp2;obtain⟨m,rfl,zj,Kf⟩:=O8.o.form aq;have dX:g3≠m:=by have:=HO6.o m rfl;omega
  obtain⟨ad8,x0,x1,x2,x3,x4,x5,x6,x7,x8,x9,p,Q,P,e1,e2,e3,e4,e5,e6,e7,e8,e9⟩:=(GL.o.Z I.o I.o.size).ba ha;obtain rfl:ad=ad8:=Option.some.inj p;have QX:=sH Q;obtain⟨F0,F1,F2,F3,F4,F5,F6,F7⟩:=lc8 P e1 e2 e3 e4 e5 e6 e7;obtain⟨F8,F9,H0,H1,H2⟩:=lc5 e8 e9 (X8.o.cell 0) (X8.o.cell 1) (X8.o.cell 2);clear P e1 e2 e3 e4 e5 e6 e7 e8 e9 p Q;refine aT (jd 89 (ZQ (T9 x1))) 9 rfl aF aF aF aF aF rfl ?_;refine mLw ?_;refine lwA (ZQ (T9 x1)) (fun nq=> ?_) (fun v9 j=> ?_)
  ·exact acZ
  obtain⟨_,_,D,F,E,r,u,s,B,C,x,rfl⟩:=j;simp[Act.put];refine mLw ?_;intro nq O;have o:fM nq.1 W.heap.size (bV lo hi) (some ⟨m,0,none⟩) n c7:=O8.o.ar nq.2;have TH:=o.xS ha;have O9:=sH (o.Cm ha D x1 F E r u s B C x QX.o);have q:ak (aA w (nq.1.setCells m (at_*10) (v10 D x1 F E r u s B C x).toList)):=⟨dA aq _ _ _ (l.o.trans (nq.2.mono l.o.size))⟩;have L:ak (aA W (nq.1.setCells m (at_*10) (v10 D x1 F E r u s B C x).toList)):=⟨dA aq _ _ _ (I.o.trans (nq.2.mono I.o.size))⟩;have KB:ak (∀(b:Nat) (cs:Array Value),Bx w8 b cs->b≠m->Bx (nq.1.setCells m (at_*10) (v10 D x1 F E r u s B C x).toList) b cs):=⟨fun b cs hb hn=>Bx.uq hn _ _ (hb.ar nq.2 hb.lt)⟩;clear F0 F1 F2 F3 F4 F5 F6 F7 F8 F9 H0 H1 H2;refine wp_store_mid 108 (.tmp 90) (.tmp 89) rfl m (at_*10) (v10 D x1 F E r u s B C x) rfl rfl TH aF dK ?_;obtain⟨w9,i⟩:=eX (nq.1.setCells m (at_*10) (v10 D x1 F E r u s B C x).toList);rw[<-i]at O9 q L KB
  try dsimp only
  rw[<-i]
  try simp only[Act.put]
  clear i TH o O;have KV:=sH (KB.o g3 _ X9.o dX);have O8:=O9;have I:=L;have l:=q;clear O9 L q KB;go_wp2;obtain⟨ad8,x0,x1,x2,x3,x4,x5,x6,x7,x8,x9,p,Q,P,e1,e2,e3,e4,e5,e6,e7,e8,e9⟩:=(GL.o.Z I.o I.o.size).ba fJ;obtain rfl:ad=ad8:=Option.some.inj p;have QX:=sH Q;obtain⟨F0,F1,F2,F3,F4,F5,F6,F7⟩:=lc8 P e1 e2 e3 e4 e5 e6 e7;obtain⟨F8,F9,H0,H1,H2⟩:=lc5 e8 e9 (KV.o.cell 0) (KV.o.cell 1) (KV.o.cell 2);clear P e1 e2 e3 e4 e5 e6 e7 e8 e9 p Q;refine aT (jd 98 (ZQ (T9 x1))) 9 rfl aF aF aF aF aF rfl ?_;refine mLw ?_;refine lwA (ZQ (T9 x1)) (fun nq=> ?_) (fun v9 j=> ?_)
  ·go_simp
   refine aW (ZQ (T9 x1)) ((WY x0 x1 x2 x3 x4 x5 x6 x7 x8 x9 b1 b2 b3 nq.1).mono ?_);rintro e w5 ⟨v,rfl,hv,hb⟩;exact⟨_,rfl,hv,hb⟩
  obtain⟨_,_,D,F,E,r,u,s,B,C,x,rfl⟩:=j;simp[Act.put];refine mLw ?_;intro nq O;have o:fM nq.1 W.heap.size (bV lo hi) (some ⟨m,0,none⟩) n c7:=O8.o.ar nq.2;have TH:=o.xS fJ;have O9:=sH (o.Cm fJ D x1 F E r u s B C x QX.o);have q:ak (aA w (nq.1.setCells m (t*10) (v10 D x1 F E r u s B C x).toList)):=⟨dA aq _ _ _ (l.o.trans (nq.2.mono l.o.size))⟩;have L:ak (aA W (nq.1.setCells m (t*10) (v10 D x1 F E r u s B C x).toList)):=⟨dA aq _ _ _ (I.o.trans (nq.2.mono I.o.size))⟩;have KB:ak (∀(b:Nat) (cs:Array Value),Bx w9 b cs->b≠m->Bx (nq.1.setCells m (t*10) (v10 D x1 F E r u s B C x).toList) b cs):=⟨fun b cs hb hn=>Bx.uq hn _ _ (hb.ar nq.2 hb.lt)⟩;clear F0 F1 F2 F3 F4 F5 F6 F7 F8 F9 H0 H1 H2;refine wp_store_mid 108 (.tmp 99) (.tmp 98) rfl m (t*10) (v10 D x1 F E r u s B C x) rfl rfl TH aF dK ?_;obtain⟨w9,i⟩:=eX (nq.1.setCells m (t*10) (v10 D x1 F E r u s B C x).toList);rw[<-i]at O9 q L KB
  try dsimp only
  rw[<-i]
  try simp only[Act.put]
  clear i TH o O;have X11:=KB.o g3 _ KV.o dX;have q0:=X11.cell 0;have q1:=X11.cell 1;have q2:=X11.cell 2;simp at q0 q1 q2;go_wp2_with fail
  all_goals first
   |(go_ret3;exact⟨_,n,c7,t+1,true,rfl,fun _=>⟨rfl,aq,O9.o.cN aq⟩,q.o⟩)
   |(go_ret3;exact⟨_,n,c7,t,true,rfl,fun _=>⟨rfl,aq,O9.o.cN aq⟩,q.o⟩)
end
abbrev v7(g:Int)(a d:Bool)(x y b c:Int):Array Value:= #[ae aj g, .bool a, .bool d,ae aj x,ae aj y,ae aj b,ae aj c]
theorem ym(h:cM w B Fm A n c)(s:j<n):∃(a:Addr) (g:Int) (d f:Bool) (x y l t:Int),A=some a/\w.cell? (a.add (j*7))=some (ae aj g)/\w.cell? (bW (a.add (j*7)) 1)=some (.bool d)/\w.cell? (bW (a.add (j*7)) 2)=some (.bool f)/\w.cell? (bW (a.add (j*7)) 3)=some (ae aj x)/\w.cell? (bW (a.add (j*7)) 4)=some (ae aj y)/\w.cell? (bW (a.add (j*7)) 5)=some (ae aj l)/\w.cell? (bW (a.add (j*7)) 6)=some (ae aj t):=by
 obtain⟨a,e,_,o⟩:=h.2.2.2 aq;obtain⟨v,r,b⟩:=o j s;obtain⟨_,_,rfl,⟨p,rfl,_⟩,⟨_,_,rfl,⟨d,rfl⟩,⟨_,_,rfl,⟨f,rfl⟩,⟨_,_,rfl,⟨_,_,rfl,⟨q,rfl,_⟩,⟨u,rfl,_⟩⟩,⟨_,_,rfl,⟨k,rfl,_⟩,⟨m,rfl,_⟩⟩⟩⟩⟩⟩:=r;have i:=b 0 _ rfl;rw[eQ]at i;exact⟨a,p,d,f,q,u,k,m,e,i,b 1 _ rfl,b 2 _ rfl,b 3 _ rfl,b 4 _ rfl,b 5 _ rfl,b 6 _ rfl⟩
def rZ(v:Value):Prop:=∃(g:Int) (a e:Bool) (x y c d:Int) (b:Bool),v= .tuple #[.agg (v7 g a e x y c d), .bool b]
def aee(w:World)(e:Ending)(h:World):Prop:=∃(g:Int) (a f:Bool) (x y c d:Int) (b:Bool),e= .returned (.tuple #[.agg (v7 g a f x y c d), .bool b])/\aA w h
abbrev k7:List Nat:=[0,1,1,0,0,0,0]
theorem TG(h:cs.toList.map Kx.kd=k7):∃(g:Int) (d i:Bool) (x y e f:Int),cs=v7 g d i x y e f:=by
 have key:∀v:Value,Kx.kd v=0->∃z,v=ae aj z:=fun v b=>by
  unfold Kx.kd at b;split at b
  ·exact⟨_,rfl⟩
  ·cases b
  ·cases b
 have c:∀v:Value,Kx.kd v=1->∃z,v= .bool z:=fun v b=>by
  unfold Kx.kd at b;split at b
  ·cases b
  ·exact⟨_,rfl⟩
  ·cases b
 obtain⟨l,hl⟩:=eY cs.toList;rw[hl]at h;rcases l with _|⟨u0,_|⟨u1,_|⟨u2,_|⟨u3,_|⟨u4,_|⟨u5,_|⟨u6,_|⟨y,l⟩⟩⟩⟩⟩⟩⟩⟩<;>simp[k7]at h
 obtain⟨n,p,m,o,q,j,k⟩:=h;obtain⟨a,rfl⟩:=key _ n;obtain⟨d,rfl⟩:=c _ p;obtain⟨i,rfl⟩:=c _ m;obtain⟨x,rfl⟩:=key _ o;obtain⟨y,rfl⟩:=key _ q;obtain⟨e,rfl⟩:=key _ j;obtain⟨f,rfl⟩:=key _ k;exact⟨a,d,i,x,y,e,f,VK⟩
theorem yw(k:Lk)(g:Int)(w:World)(h:lS w w.heap.size k):Calls prog 329 #[k.v,ae aj g] w (aee w):=by
 obtain⟨B,aP,T,y⟩:=box1 w k.row 132;obtain⟨u,cd⟩:=eX (B.alloc (.cells (v7 0 false false 0 0 0 0) 319));have C:aA B u:=jT;have hN:B.heap.size=w.heap.size+1:=oL;have Y:u.heap.size=w.heap.size+2:=Bh;have p:=T.t C;have r:ak (Bx u (w.heap.size+1) (v7 0 false false 0 0 0 0)):=⟨OU⟩;have X4:=sH (y.o.ar C y.o.lt);rw[aP]at cd;have R:=sH (h.Z p.o p.o.size);have z:=h.rS.bd;clear h C hN aP y T;obtain⟨P,fl,st,S,l,Z⟩:=k;dsimp only at z cd;by_cases e:P=8;rotate_left
 ·have h8:(P !=8)=true:=by simp[e]
  have f:=r.o;have o:=p.o;rw[cd]at f o;obtain⟨d,s⟩:=f.heap;have q:=f.row (ds:=v7 0 false false 0 0 0 0);clear e;go_enter func329,ntmps329;go_wp2_with (refine wpList_store_row rfl 319 (.tmp 4) (.tmp 11) rfl (w.heap.size+1) (v7 0 false false 0 0 0 0) rfl aK d _ s aF aK dK ?_);obtain⟨b,a⟩:=q.heap;refine bodyPost_ret (bT results329 _ _ (w.heap.size+1) b _ (0,0) _ aK a underlying319 rfl aF) rfl ?_;exact⟨0,false,false,0,0,0,0,false,rfl,below_setRow o aq _⟩
 subst e;go_enter func329,ntmps329;go_wp2;rw[<-cd];clear cd;go_loopg [6,7] (l+1) (fun gg V _ wr=>∃i:Nat,l-i<gg/\i<=l/\V=ae aj (i:Int)/\wr=u)
 ·exact⟨0,aq,aq,rfl,rfl⟩
 obtain⟨i,hg,hi,rfl,rfl⟩:=hrel;obtain⟨d0,d1,d2,d3⟩:=X4.o.k4;dsimp only at d0 d1 d2 d3;obtain⟨d,s⟩:=r.o.heap;by_cases J:i<l
 ·obtain⟨ad,x,rfl,K,e0,e1,U,e3,X,e5,e6,e7,e8,e9,M,N⟩:=jh (A:=S) (n:=l) (c:=Z) R.o.rS J
  have W:=sH K.rU;have zB:=K.rU.bd;generalize x.U=PA at*;have i4:=aR i l;clear K e0 e1 U e3 X e5 e6 e7 e8 M N;go_wp2;go_loopg [7] (x.un+1) (fun gg v7 H=>∃j:Nat,x.un-j<gg/\j<=x.un/\v7=ae aj (j:Int)/\H=wr)
  ·exact⟨0,aq,aq,rfl,rfl⟩
  obtain⟨j,Wi,hj,rfl,rfl⟩:=hrel;by_cases L:j<x.un
  ·obtain⟨adp,m,G,O,D,E,F,I,rfl,p0,p1,p2,p3,p4,p5,p6⟩:=ym W.o L
   have Q:(j:Int)<(x.un:Int):=aq;by_cases t:m=g
   ·have v:(m==g)=true:=by simp[t]
    clear t;have q:=r.o.row (ds:=v7 m G O D E F I);obtain⟨b,a⟩:=q.heap;go_wp2_with (refine wpList_store_row rfl 319 (.tmp 4) (.tmp 50) rfl (w.heap.size+1) (v7 m G O D E F I) rfl aK d _ s aF aK dK ?_);refine bodyPost_ret (bT results329 _ _ (w.heap.size+1) b _ (0,0) _ aK a underlying319 rfl aF) rfl ?_;exact⟨m,G,O,D,E,F,I,true,rfl,below_setRow p.o aq _⟩
   ·have v:(m==g)=false:=by simp[t]
    clear t;go_wp2;go_roundg (x.un-j)
    ·exact⟨j+1,aq,aq,aQ,rfl⟩
    omega
  ·go_wp2
   go_roundg (l-i)
   ·exact⟨i+1,aq,aq,aQ,rfl⟩
   omega
 ·have q:=r.o.row (ds:=v7 0 false false 0 0 0 0)
  obtain⟨b,a⟩:=q.heap;go_wp2_with (refine wpList_store_row rfl 319 (.tmp 4) (.tmp 51) rfl (w.heap.size+1) (v7 0 false false 0 0 0 0) rfl aK d _ s aF aK dK ?_);refine bodyPost_ret (bT results329 _ _ (w.heap.size+1) b _ (0,0) _ aK a underlying319 rfl aF) rfl ?_;exact⟨0,false,false,0,0,0,0,false,rfl,below_setRow p.o aq _⟩
theorem aaB{G:Prop}(s:G:=by
 go_wp2
 go_ret;exact⟨_,rfl, .inl rfl,AK.o⟩):G:=s
theorem Zk(f:db)(k:Lk)(Q:aE->Prop)(A:aC)(n c at_:Nat)(w:World)(h:ca w w.heap.size f)(hk:lS w w.heap.size k)(hl:gi w Q A n)(hn:n<=50000)(ha:at_<n):
 Calls prog 328 #[f.v,k.v, .slice A n c,ae aj (at_:Int)] w (PNx w at_ n):=by
 obtain⟨W1,I,u,X1,K⟩:=box2 w f.row 82 k.row 132;have R:=sH (h.Z u.o u.o.size);have RK:=sH (hk.Z u.o u.o.size);have GL:=sH (hl.Z u.o u.o.size);clear h hl hk;have i1:¬((n:Int)<=(at_:Int)):=aq;have i3:=aR at_ n;obtain⟨E,r,C,y⟩:=K.o.k4;obtain⟨ad,x0,x1,x2,x3,x4,x5,x6,x7,x8,x9,rfl,hQ,e0,_⟩:=GL.o.ba ha;clear hQ;go_enter func328,ntmps328;go_wp2;rw[<-I];clear I;obtain⟨W,M1,V,P,E0⟩:=lc5 E r C y e0;clear E r C y e0;refine Kx.aY (fun d=>if d=some 29 then some (Kx.ZP rZ)else if d=some 9 then some (Kx.ZK W1.heap.size k7)else none) (fun d=>d==some 29||d==some 9) (fun d hd=>vh) aF aF aF ?_;refine mKx ?_;refine kxA (Kx.ZP rZ) (fun a=> ?_) (fun Z l=> ?_)
 ·go_simp
  refine Kx.aW (Kx.ZP rZ) ((yw k x0 a.1 (RK.o.Z a.2 a.2.size)).mono ?_);rintro e w5 ⟨G,p,o,D,q,g,j,b,rfl,hb⟩;exact⟨_,rfl,⟨G,p,o,D,q,g,j,b,rfl⟩,hb⟩
 obtain⟨_,_,G,p,o,D,q,g,j,b,rfl⟩:=l;simp[Act.put];refine mKx ?_;refine kxA (Kx.ZK W1.heap.size k7) (fun a=> ?_) (fun Z l=> ?_)
 ·go_simp
  exact Kx.jC a _ _ _ rfl aD
 obtain⟨_,_,g2,rfl,fL,_⟩:=l;simp[Act.put];refine Kx.dO aK aK (fun w9 B x=> ?_) ?_
 ·obtain⟨a,rfl⟩:=B
  exact Kx.dR 319 (.tmp 9) (.tmp 30) rfl g2 (v7 G p o D q g j) rfl rfl (Kx.ZK.get x.2) aF dK fL
 simp[Act.put];refine mKx ?_;intro a J;obtain⟨cs,M,m⟩:=Kx.ZK.get J.2;obtain⟨a0,ab,ac,ax,ay,ax',ay',rfl⟩:=TG m;have B8:=sH a.2;have X8:=sH M;obtain⟨w8,s⟩:=eX a.1;rw[<-s]at B8 X8
 try dsimp only
 rw[<-s];clear s J E0 W M1 V P M m;have i:=B8.o;have NX:=sH (xN f k Q (some ad) n c at_ w8 (R.o.Z i i.size) (GL.o.Z i i.size) aq ha);obtain⟨c0,c1,S,c3,c4,c5⟩:=(X1.o.ar i X1.o.lt).f6;obtain⟨E,r,C,y⟩:=(K.o.ar i K.o.lt).k4;clear i;go_wp2_with fail;refine NX.o.mono ?_;rintro e w6 ⟨z,rfl,hz,v⟩;have H:=B8.t v;have AK:=u.t H.o;have X6:=X8.o.ar v X8.o.lt;have q2:=X6.cell 2;simp at q2;clear NX v c0 c1 S c3 c4 c5 E r C y X6;rcases hz with rfl|⟨X,T⟩
 ·cases b<;>cases ac<;>
  ·exact aaB
 obtain⟨t,rfl⟩:∃t:Nat,z=(t:Int):=⟨z.toNat,aq⟩;have Y:t<n:=aq;have vI:at_<t:=aq;have i5:=aR t n;have i6:((t:Int)== -1)=false:=ij;clear X T;cases b
 ·exact aaB
 cases ac
 ·exact aaB
 obtain⟨E,r,C,y⟩:=(K.o.ar H.o K.o.lt).k4;obtain⟨U,y0,y1,y2,y3,y4,y5,y6,y7,y8,y9,L,Uu,f0,_⟩:=(GL.o.Z H.o H.o.size).ba Y;obtain rfl:ad=U:=Option.some.inj L;have O:=sH (RK.o.Z H.o H.o.size);go_wp2;obtain⟨E1,W,M1,V,P⟩:=lc5 f0 E r C y;clear E r C y f0 Uu L q2;refine Kx.aY (fun d=>if d=some 55 then some (Kx.ZP rZ)else if d=some 12 then some (Kx.ZK w6.heap.size k7)else none) (fun d=>d==some 55||d==some 12) (fun d hd=>vh) aF aF aF ?_;refine mKx ?_;refine kxA (Kx.ZP rZ) (fun a=> ?_) (fun Z l=> ?_)
 ·go_simp
  refine Kx.aW (Kx.ZP rZ) ((yw k y0 a.1 (O.o.Z a.2 a.2.size)).mono ?_);rintro e w5 ⟨G,p,o,D,q,g,j,b,rfl,hb⟩;exact⟨_,rfl,⟨G,p,o,D,q,g,j,b,rfl⟩,hb⟩
 obtain⟨_,_,G,p,o,D,q,g,j,b',rfl⟩:=l;simp[Act.put];refine mKx ?_;refine kxA (Kx.ZK w6.heap.size k7) (fun a=> ?_) (fun Z l=> ?_)
 ·go_simp
  exact Kx.jC a _ _ _ rfl aD
 obtain⟨_,_,g3,rfl,zY,_⟩:=l;simp[Act.put];refine Kx.dO aK aK (fun w9 B x=> ?_) ?_
 ·obtain⟨a,rfl⟩:=B
  exact Kx.dR 319 (.tmp 12) (.tmp 56) rfl g3 (v7 G p o D q g j) rfl rfl (Kx.ZK.get x.2) aF dK zY
 simp[Act.put];refine mKx ?_;intro a J;obtain⟨cs,M,m⟩:=Kx.ZK.get J.2;obtain⟨c0,cb,cc,cx,cy,cx',cy',rfl⟩:=TG m;have N:=AK.t a.2;have q1:=M.cell 1;simp at q1;obtain⟨w7,F⟩:=eX a.1;rw[<-F]at N q1
 try dsimp only
 rw[<-F];clear F J E1 W M1 V P M m;cases b'
 ·go_wp2
  go_ret;exact⟨_,rfl, .inl rfl,N.o⟩
 cases cb
 ·go_wp2
  go_ret;exact⟨_,rfl, .inl rfl,N.o⟩
 ·go_wp2
  go_ret;exact⟨_,rfl, .inr ⟨aq,aq⟩,N.o⟩
end Go.Proofs.YtpidckelbgbbkaaGreatDoor
