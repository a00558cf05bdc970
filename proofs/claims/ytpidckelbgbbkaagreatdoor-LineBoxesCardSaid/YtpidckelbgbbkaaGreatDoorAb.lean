/- Part of LineBoxes. -/
import Derived.Test.YtpidckelbgbbkaaGreatDoorAa
import Derived.WalkKit
import Derived.ProofKit
import Derived.Laws.CopyOwn
namespace Go.Proofs.YtpidckelbgbbkaaGreatDoor
open Go.ChangeShapes Go.WideShapes Go.ChangeAt Go.RowKit
set_option linter.all false
set_option maxRecDepth 100000
set_option maxHeartbeats 16000000
variable{d g n:Nat}{o:Oper}{K:Act->World->Prop}{Q:Exit->Act->World->Prop}{ops:Array Oper}{r:Int}{v:Value}{S:FuncId->Array Value->Option Value}
def iU(P:Program)(f:FuncId):Prop:=∀(args:Array Value) (w:World),(callFunc f args).run P w= .ok (.enter f args) w
def jo(P:Program)(S:FuncId->Array Value->Option Value):Prop:=
 ∀f xs v,S f xs=some v->iU P f/\∀w,Calls P f xs w fun e b=>e= .returned v/\Below w.heap.size w b
section
variable {P : Program} {a : Act} {w : World}
theorem bH(v:Value)(h:d<a.tmps.size):(a.put (some d) v).tmps.getD d undef=v:=by
 simp[Act.put,h]
theorem bJ{e:Nat}(v:Value)(h:e≠d):(a.put (some d) v).tmps.getD e undef=a.tmps.getD e undef:=by
 simp[Act.put,Array.getElem?_setIfInBounds,Ne.symm h]
theorem size_put(d:Option Nat)(v:Value):(a.put d v).tmps.size=a.tmps.size:=by
 cases d<;>simp[Act.put]
theorem oE(d:Option Nat)(v:Value):(a.put d v).defers=a.defers:=by
 cases d<;>simp[Act.put]
theorem dr(x:Operand)(b:o.op= .move x∨o.op= .assign x)(h:K (a.put o.dst (a.eval x)) w):o.wp P a w K Q:=by
 unfold Oper.wp execOp;rcases b with b|b<;>simp only[b]<;>exact h
theorem ou(f:FuncId)(xs:Array Operand)(c:Array TypeId)
 (d:o.op= .call {callee:= .value (.func f),args:=xs,argTypes:=c}) (k:iU P f) {v:Value}
 (h:Calls P f (xs.map a.eval) w fun e b=>e= .returned v/\Below w.heap.size w b)
 (m:∀b,Below w.heap.size w b->K (a.put o.dst v) b):o.wp P a w K Q:=by
 obtain⟨dst,n,p,pos,after,g⟩:=o;simp only at d;subst d;unfold Oper.wp;rw[execOp_call_go];have i: #[]++Array.map a.eval xs++ #[]=Array.map a.eval xs:=aD;rw[i,k,Oper.upon_enter];exact h.mono fun e b ⟨j,l⟩=>by subst j;exact m b l
theorem wpList_store_row{rest:List Oper}(b:o.guard=none)(c:TypeId)(x y:Operand)(e:o.op= .store c x y)
 (g:Nat) (cells:Array Value) (f:a.eval x= .pointer (some ⟨g,0,none⟩)) (k:a.eval y= .agg cells)
 (t:TypeId) (old:Array Value) (d:w.heap[g]? =some (.cells old t (0,0))) (i:(P.info? c).map (·.size)=some cells.size)
 (hold:old.size=cells.size) (j:cells.all (·.oneCell')=true)
 (h:wpList P ops Q rest (a.put o.dst undef) (w.setRow g cells)):wpList P ops Q (o::rest) a w:=
 wpList_plain b fun _ hK=>wp_store_row c x y e g cells f k t old d i hold j (hK _ _ h)
def qF(n c:Nat):List Oper->Option (Int×Int)
 |[⟨some d1, .move (.tmp 0),_,_,_,none⟩,⟨some d2, .binOp .geq _ (.tmp e1) (.const (.int .i32 lo)) _,_,_,_,none⟩,⟨some d3, .move (.tmp e2),_,_,_,none⟩,
   ⟨some d4, .move (.tmp 0),_,_,_,some (2,true)⟩,⟨some d5, .binOp .leq _ (.tmp e4) (.const (.int .i32 hi)) _,_,_,_,some (2,true)⟩,
   ⟨some d6, .pick (.tmp e3) (.tmp e5) (.const (.bool false)),_,_,_,none⟩]=>
  if e1=d1/\e2=d2/\e3=d3/\e4=d4/\e5=d5/\c=d6/\4<=d1/\d1<d2/\d2<d3/\d3<d4/\d4<d5/\d5<d6/\d6<n then some (lo,hi)else none
 |_=>none
structure Fr(n:Nat)(r:Int)(g:Nat)(a:Act):Prop where
 size:a.tmps.size=n
 s0:a.tmps.getD 0 undef= .int .i32 r
 s2:a.tmps.getD 2 undef= .pointer (some ⟨g,0,none⟩)
 df:a.defers=[]
theorem Fr.put(h:Fr n r g a)(b:4<=d):Fr n r g (a.put (some d) v):=
 ⟨by rw[size_put];exact h.size,by rw[bJ _ (by omega)];exact h.s0,by rw[bJ _ (by omega)];exact h.s2,by rw[oE];exact h.df⟩
theorem YP{t f:TypeId}{x y:Operand}{c:Int}(b:o.op= .binOp .geq t x y f) (d:a.eval x= .int .i32 r) (g:a.eval y= .int .i32 c) (h:K (a.put o.dst (.bool (decide (c<=r)))) w):o.wp P a w K Q:=by
 have e:(execOp a.eval o).run P w= .ok (.value (.bool (decide (c<=r)))) w:=by
  unfold execOp;simp only[b,d,g];simp[go_sem]
 unfold Oper.wp;rw[e];exact h
theorem Zx{t f:TypeId}{x y:Operand}{c:Int}(b:o.op= .binOp .leq t x y f) (d:a.eval x= .int .i32 r) (g:a.eval y= .int .i32 c) (h:K (a.put o.dst (.bool (decide (r<=c)))) w):o.wp P a w K Q:=by
 have e:(execOp a.eval o).run P w= .ok (.value (.bool (decide (r<=c)))) w:=by
  unfold execOp;simp only[b,d,g];simp[go_sem]
 unfold Oper.wp;rw[e];exact h
theorem GJ{c x y:Operand}{b:Bool}(d:o.op= .pick c x y) (f:a.eval c= .bool b) (h:K (a.put o.dst (if b then a.eval x else a.eval y)) w):o.wp P a w K Q:=by
 have e:(execOp a.eval o).run P w= .ok (.value (if b then a.eval x else a.eval y)) w:=by
  unfold execOp;simp only[d,f];cases b<;>simp[go_sem]
 unfold Oper.wp;rw[e];exact h
theorem gf(h:a.tmps.getD d undef=v)(b:d<a.tmps.size):a.tmps[d]? =some v:=by
 rw[<-h];simp[b]
theorem sN{j:Nat}{b c:Bool}(e:o.guard=some (j,c))(f:(ops[j]?).bind (·.dst)=some d)(g:a.tmps[d]? =some (.bool b)):
 Region.wanted o (yielded ops a.tmps)=(b==c):=by
 simp[Region.wanted,e,yielded,f,g]
theorem uP{c:Nat}{lo N:Int}{W:Nat}(h:qF n c ops.toList=some (lo,N))(B:Fr n r g a)
 (J:∀F,Fr n r g F->F.tmps.getD c undef= .bool (decide (lo<=r/\r<=N))->Q .normal F w):(Code.region W ops false).wp P Q a w:=by
 refine wp_region_list ?_;obtain⟨l⟩:=ops;simp only at h;unfold qF at h;split at h
 case h_2=>cases h
 case h_1 l d1 t1 p1 f1 d2 t2 e1 lo' t2' u2 p2 f2 d3 e2 u3 p3 f3 d4 u4 p4 f4 d5 t5 e4 wZ t5' u5 p5 f5 d6 e3 e5 u6 p6 f6=>
  split at h
  case isFalse=>cases h
  case isTrue hd=>
   injection h with h
   injection h with h1 h2
   subst h1 h2;obtain⟨rfl,rfl,rfl,rfl,rfl,rfl,E,L,M,q4,H,I,O⟩:=hd
   replace E: @LE.le Nat _ 4 e1:=E
   replace L: @LT.lt Nat _ e1 e2:=L
   replace M: @LT.lt Nat _ e2 e3:=M
   replace q4: @LT.lt Nat _ e3 e4:=q4
   replace H: @LT.lt Nat _ e4 e5:=H
   replace I: @LT.lt Nat _ e5 c:=I
   replace O: @LT.lt Nat _ c n:=O
   have sz:=B.size;refine wpList_plain rfl fun K1 z=>dr (.tmp 0) (.inl rfl) (z _ _ ?_)
   have f1:=B.put (d:=e1) (v:=a.eval (.tmp 0)) E;have R:(a.put (some e1) (a.eval (.tmp 0))).tmps.getD e1 undef= .int .i32 r:=by rw[bH _ (by omega)];exact B.s0
   simp only;generalize a.put (some e1) (a.eval (.tmp 0))=K at*;have S:=f1.size;refine wpList_plain rfl fun K2 s=>YP (r:=r) (c:=lo') rfl R rfl (s _ _ ?_)
   have f2:=f1.put (d:=e2) (v:= .bool (decide (lo'<=r))) aq;have v2:(K.put (some e2) (.bool (decide (lo'<=r)))).tmps.getD e2 undef= .bool (decide (lo'<=r)):=bH _ aq;simp only;generalize K.put (some e2) (.bool (decide (lo'<=r)))=t at*;have Y:=f2.size;refine wpList_plain rfl fun K3 D=>dr (.tmp e2) (.inl rfl) (D _ _ ?_)
   have T:t.eval (.tmp e2)= .bool (decide (lo'<=r)):=v2;rw[T];have f3:=f2.put (d:=e3) (v:= .bool (decide (lo'<=r))) aq;have v3:(t.put (some e3) (.bool (decide (lo'<=r)))).tmps.getD e3 undef= .bool (decide (lo'<=r)):=bH _ aq;simp only;generalize t.put (some e3) (.bool (decide (lo'<=r)))=p at*;have U:=f3.size;by_cases f:lo'<=r
   ·simp only[f,decide_true]at v3
    refine wpList_step fun V j=> ?_;rw[sN (d:=e3) (b:=true) rfl rfl (gf v3 aq)];refine dr (.tmp 0) (.inl rfl) (j _ _ ?_);have x:p.eval (.tmp 0)= .int .i32 r:=f3.s0;rw[x];have f4:=f3.put (d:=e4) (v:= .int .i32 r) aq;have e:(p.put (some e4) (.int .i32 r)).tmps.getD e3 undef= .bool true:=by rw[bJ _ (by omega)];exact v3
    have A:(p.put (some e4) (.int .i32 r)).tmps.getD e4 undef= .int .i32 r:=bH _ aq;simp only;generalize p.put (some e4) (.int .i32 r)=q at*;have y:=f4.size;refine wpList_step fun X k=> ?_;rw[sN (d:=e3) (b:=true) rfl rfl (gf e aq)];refine Zx (r:=r) (c:=wZ) rfl A rfl (k _ _ ?_);have f5:=f4.put (d:=e5) (v:= .bool (decide (r<=wZ))) aq;have i:(q.put (some e5) (.bool (decide (r<=wZ)))).tmps.getD e3 undef= .bool true:=by rw[bJ _ (by omega)];exact e
    have C:(q.put (some e5) (.bool (decide (r<=wZ)))).tmps.getD e5 undef= .bool (decide (r<=wZ)):=bH _ aq;simp only;generalize q.put (some e5) (.bool (decide (r<=wZ)))=u at*;have G:=f5.size;refine wpList_plain rfl fun Z m=>GJ (b:=true) rfl i (m _ _ ?_)
    have o:u.eval (.tmp e5)= .bool (decide (r<=wZ)):=C;rw[o];refine wpList_nil (J _ (f5.put aq) ?_);rw[if_pos rfl,bH _ aq];simp[f]
   ·simp only[f,decide_false]at v3
    refine wpList_step fun V j=> ?_;rw[sN (d:=e3) (b:=false) rfl rfl (gf v3 aq)];refine j _ _ ?_;have f4:=f3.put (d:=e4) (v:=undef) aq;have e:(p.put (some e4) undef).tmps.getD e3 undef= .bool false:=by rw[bJ _ (by omega)];exact v3
    simp only;generalize p.put (some e4) undef=q at*;have y:=f4.size;refine wpList_step fun X k=> ?_;rw[sN (d:=e3) (b:=false) rfl rfl (gf e aq)];refine k _ _ ?_;have f5:=f4.put (d:=e5) (v:=undef) aq;have i:(q.put (some e5) undef).tmps.getD e3 undef= .bool false:=by rw[bJ _ (by omega)];exact e
    simp only;generalize q.put (some e5) undef=u at*;have G:=f5.size;refine wpList_plain rfl fun Z m=>GJ (b:=false) rfl i (m _ _ ?_)
    have o:u.eval (.const (.bool false))= .bool false:=rfl;rw[o];refine wpList_nil (J _ (f5.put aq) ?_);rw[if_neg aD,bH _ aq];simp[f]
def opC:Operand->Option Value
 | .const v=>some v
 |_=>none
def mH:List Operand->Option (List Value)
 |[]=>some []
 |x::xs=>match opC x,mH xs with
  |some v,some vs=>some (v::vs)
  |_,_=>none
theorem nM:∀{xs:List Operand} {vs:List Value},mH xs=some vs->xs.map a.eval=vs
 |[],vs,h=>by simp[mH]at h;simp[h]
 |x::xs,vs,h=>by
  unfold mH at h;split at h
  ·rename_i v c b d
   injection h with h
   subst h;rw[List.map_cons,nM d];cases x<;>simp[opC]at b
   subst b;rfl
  ·cases h
def mJ(S:FuncId->Array Value->Option Value)(n m:Nat)(T:TypeId):List Oper->Option (Array Value×Bool)
 |[⟨some d1, .call ⟨.value (.func f),xs,_⟩,_,_,_,none⟩,⟨none, .store c (.tmp 2) (.tmp d),_,_,_,none⟩,⟨some 3, .assign (.const (.bool b)),_,_,_,none⟩]=>
  match mH xs.toList with
  |some vs=>match S f vs.toArray with
   |some (.agg cs)=>if d=d1/\c=T/\4<=d1/\d1<n/\cs.size=m/\cs.all (·.oneCell')=true then some (cs,b)else none
   |_=>none
  |none=>none
 |_=>none
theorem lA(D:jo P S){n m:Nat}{T:TypeId}{ops:Array Oper}{cs:Array Value}{b:Bool}{g F:Nat}{r:Int}{Q:Exit->Act->World->Prop}
 (h:mJ S n m T ops.toList=some (cs,b)) (A:Fr n r g a) {old:Array Value} (hold:old.size=m) (x:w.heap[g]? =some (.cells old T (0,0))) (K:(P.info? T).map (·.size)=some m)
 (H:∀u o,Fr n r g u->u.tmps.getD 3 undef= .bool b->Below g w o->o.heap[g]? =some (.cells cs T (0,0))->Q .normal u o):(Code.region F ops false).wp P Q a w:=by
 refine wp_region_list ?_;obtain⟨l⟩:=ops;simp only at h;unfold mJ at h;split at h
 case h_2=>cases h
 case h_1 l d1 f xs Wu t1 p1 f1 T' e1 u2 p2 f2 b' u3 p3 f3=>
  split at h
  case h_2=>cases h
  case h_1 _ vs hvs=>
   split at h
   case h_2=>cases h
   case h_1 _ uE xR=>
    split at h
    case isFalse=>cases h
    case isTrue hd=>
     injection h with h
     injection h with h1 h2
     subst h1 h2;obtain⟨rfl,rfl,t,z,J,q4⟩:=hd
     replace t: @LE.le Nat _ 4 e1:=t
     replace z: @LT.lt Nat _ e1 n:=z
     obtain⟨G,C⟩:=D _ _ _ xR;have M:=A.size;have p:g<w.heap.size:=(Array.getElem?_eq_some_iff.1 x).1;have i:xs.map a.eval=vs.toArray:=by
      have:=nM (a:=a) hvs;apply Array.ext';simpa using this
     refine wpList_plain rfl fun O q=>ou f xs Wu rfl G (v:= .agg uE) (by rw[i];exact C w) (fun I c=>q _ _ ?_)
     have f1:=A.put (d:=e1) (v:= .agg uE) t;have B:(a.put (some e1) (.agg uE)).tmps.getD e1 undef= .agg uE:=bH _ aq;simp only;generalize a.put (some e1) (.agg uE)=y at*;have k:=f1.size;have e:I.heap[g]? =some (.cells old T' (0,0)):=(c.block g p).trans x;refine wpList_plain rfl fun N j=>wp_store_row T' (.tmp 2) (.tmp e1) rfl g uE f1.s2 B T' old e (by rw[K,J]) aq q4 (j _ _ ?_)
     refine wpList_plain rfl fun L s=>dr (.const (.bool b')) (.inr rfl) (s _ _ ?_)
     have E:(y.put none undef)=y:=rfl;simp only[E];refine wpList_nil (H _ _ ⟨by rw[size_put];exact k, ?_, ?_,by rw[oE];exact f1.df⟩ ?_ ?_ ?_)
     ·rw[bJ _ aq];exact f1.s0
     ·rw[bJ _ aq];exact f1.s2
     ·exact bH _ aq
     ·exact below_setRow (c.mono aq) cr _
     ·exact setRow_heap _ _ _ _ _ _ e
def dC(rest:Array Value):List (Int×Int×Array Value)->Int->Array Value×Bool
 |[],_=>(rest,false)
 |(lo,hi,c)::l,r=>if lo<=r/\r<=hi then(c,true)else dC rest l r
def chain(S:FuncId->Array Value->Option Value)(n m:Nat)(T:TypeId):Code->Option (List (Int×Int×Array Value)×Array Value)
 | .seq (.seq (.region _ ops1 false) (.cond (.tmp c) (.seq (.region _ ops2 false) .ret) .skip)) rest=>
   match qF n c ops1.toList,mJ S n m T ops2.toList,chain S n m T rest with
   |some (lo,hi),some (cs,true),some (l,fin)=>some ((lo,hi,cs)::l,fin)
   |_,_,_=>none
 | .seq (.region _ ops false) .ret=>
   match mJ S n m T ops.toList with
   |some (cs,false)=>some ([],cs)
   |_=>none
 |_=>none
theorem Ku(A:jo P S){n m:Nat}{T:TypeId}(D:(P.info? T).map (·.size)=some m){g:Nat}{r:Int}{old:Array Value}(hold:old.size=m)
 (B:w.heap[g]? =some (.cells old T (0,0))) {Q:Exit->Act->World->Prop}:∀(c:Code) (l:List (Int×Int×Array Value)) (fin:Array Value) (a:Act),chain S n m T c=some (l,fin)->Fr n r g a->
 (∀z u,Fr n r g z->z.tmps.getD 3 undef= .bool (dC fin l r).2->Below g w u->u.heap[g]? =some (.cells (dC fin l r).1 T (0,0))->Q .ret z u)->c.wp P Q a w:=by
 intro c
 induction c with
 |seq x y ihx ihy=>
  intro l fin a h C v;unfold chain at h;split at h
  case h_1 _ id1 ops1 c1 id2 ops2 rest hc=>
   cases hc;split at h
   case h_2=>cases h
   case h_1 lo hi cs l' fin' h1 h2 h3=>
    injection h with h
    injection h with e1 e2
    subst e1 e2;refine wp_seq_k fun K hK=> ?_;refine wp_seq (uP h1 C fun E o p=> ?_);refine wp_cond_split (t:=decide (lo<=r/\r<=hi)) p (fun s=> ?_) (fun s=> ?_)
    ·have q:=of_decide_eq_true s
     simp only[s]at p;refine wp_seq (lA A h2 o hold B D fun j k b f e d=> ?_);refine wp_ret (v j k b ?_ e ?_)
     ·simp only[dC,if_pos q];exact f
     ·simp only[dC,if_pos q];exact d
    ·have i:=of_decide_eq_false s
     refine wp_skip (hK _ _ (ihy l' fin' E h3 o fun j k b f e d=> ?_));refine v j k b ?_ e ?_
     ·simp only[dC,if_neg i];exact f
     ·simp only[dC,if_neg i];exact d
  case h_2 _ id ops hc=>
   cases hc;split at h
   case h_2=>cases h
   case h_1 cs h1=>
    injection h with h
    injection h with e1 e2
    subst e1 e2;refine wp_seq (lA A h1 C hold B D fun j k b f e d=> ?_);exact wp_ret (v j k b f e d)
  case h_3=>cases h
 |_=>intro l fin a h;simp[chain]at h
def opV(t:List Value):Operand->Value
 | .tmp i=>t.getD i undef
 | .const v=>v
 | .global g=> .pointer (some ⟨g,0,none⟩)
 | .func f=> .func (.func f) #[] #[]
theorem yZ(t:List Value)(ds:List Deferred)(x:Operand):(Act.mk t.toArray ds).eval x=opV t x:=by
 cases x<;>simp[Act.eval,opV]
def iO(S:FuncId->Array Value->Option Value):List Oper->List Value->Option (List Oper×List Value)
 |[],t=>some ([],t)
 |o::rest,t=>
  match o with
  |⟨some d, .call ⟨.value (.func f),xs,_⟩,_,_,_,none⟩=>
   match S f (xs.toList.map (opV t)).toArray with
   |some v=>iO S rest (t.set d v)
   |none=>none
  |_=>some (o::rest,t)
theorem qU{S:FuncId->Array Value->Option Value}(i:jo P S){ops:Array Oper}{Q:Exit->Act->World->Prop}{j:List Oper}{k:List Value}{ds:List Deferred}{B:Nat}:∀(l:List Oper) (t:List Value) (w:World),
 iO S l t=some (j,k)->B<=w.heap.size->(∀c,Below B w c->wpList P ops Q j ⟨k.toArray,ds⟩ c)->wpList P ops Q l ⟨t.toArray,ds⟩ w
 |[],t,w,h,_,hk=>by
  simp[iO]at h;obtain⟨rfl,rfl⟩:=h;exact hk w (Below.refl _ _)
 |o::rest,t,w,h,hB,hk=>by
  unfold iO at h;split at h
  case h_1 d f xs Wu ty p af=>
   split at h
   case h_2=>cases h
   case h_1 v hv=>
    obtain⟨q,m⟩:=i _ _ _ hv;have g:xs.map (Act.mk t.toArray ds).eval=(xs.toList.map (opV t)).toArray:=by
     apply Array.ext';simp[funext (yZ t ds)]
    refine wpList_plain rfl fun K hK=>ou f xs Wu rfl q (v:=v) (by rw[g];exact m w) (fun n b=>hK _ _ ?_)
    have r:(Act.put ⟨t.toArray,ds⟩ (some d) v)=⟨(t.set d v).toArray,ds⟩:=uC;simp only[r];exact qU i rest _ n h (Nat.le_trans hB b.size) fun c e=>hk c ((b.mono hB).trans e)
  case h_2=>
   injection h with h
   injection h with h1 h2
   subst h1 h2;exact hk w (Below.refl _ _)
def xv(P:Program)(S:FuncId->Array Value->Option Value)(n m:Nat)(T:TypeId)(b:Value):Code->Option (Array Value)
 | .seq (.region _ ops0 false) (.seq (.region _ ops false) .ret)=>
   match ops0.toList with
   |[⟨some 0, .alloc T0,_,_,_,none⟩]=>
    match iO S ops.toList (b::List.replicate (n-1) undef)with
    |some ([⟨some d, .build T1 parts,_,_,_,none⟩,⟨none, .store T2 (.tmp 0) (.tmp e),_,_,_,none⟩],t)=>
     match P.built T1 (parts.toList.map fun(i,x)=>(i,opV t x))with
     |some cs=>if T0=T/\T1=T/\T2=T/\e=d/\0<d/\d<n/\t.length=n/\cs.size=m/\cs.all (·.oneCell')=true then some cs else none
     |none=>none
    |_=>none
   |_=>none
 |_=>none
theorem gH(T:TypeId)(b:o.op= .alloc T){i:TypeInfo}{z:Value}(c:P.info? T=some i)(d:i.zero=some z)
 (h:K (a.put o.dst (.pointer (some ⟨w.heap.size,0,none⟩))) (w.alloc (.cells z.cells T))):o.wp P a w K Q:=by
 have e:(execOp a.eval o).run P w= .ok (.value (.pointer (some ⟨w.heap.size,0,none⟩))) (w.alloc (.cells z.cells T)):=by
  unfold execOp;simp only[b];simp[Instr.alloc,zeroValue,typeInfo,c,d,newVar,newRow,go_sem]
 unfold Oper.wp;rw[e];exact h
theorem nO{S:FuncId->Array Value->Option Value}:∀(l:List Oper) (t:List Value) (c:List Oper) (b:List Value),iO S l t=some (c,b)->(∀o∈l,o.dst≠some 0)->b.getD 0 undef=t.getD 0 undef/\b.length=t.length
 |[],t,c,b,h,_=>by simp[iO]at h;simp[h]
 |o::rest,t,c,b,h,h0=>by
  unfold iO at h;split at h
  case h_1 d f xs Wu ty p af=>
   split at h
   case h_2=>cases h
   case h_1 v hv=>
    have k:d≠0:=fun e=>h0 _ (List.mem_cons_self ..) (by simp[e])
    obtain⟨g,i⟩:=nO rest _ _ _ h fun o j=>h0 o (List.mem_cons_of_mem _ j)
    refine⟨?_,by rw[i];simp⟩;rw[g];simp[List.getElem?_set,k]
  case h_2=>
   injection h with h
   injection h with g i
   subst g i;exact⟨rfl,rfl⟩
def Md:Code->Bool
 | .seq _ (.seq (.region _ ops _) _)=>ops.toList.all (fun o=>o.dst !=some 0)
 |_=>false
theorem zP(M:jo P S){f:FuncId}{q:Func}{c:Code}{n m:Nat}{T:TypeId}{cs:Array Value}{i:TypeInfo}{z:Value}
 (hf:P.funcs[f]? =some q) (W:q.body=some c) (X:q.ntmps=n) (R:0<n) (O:q.results= #[.cell 0 T]) (E:P.info? T=some i) (J:i.zero=some z) (pQ:z.cells.size=m) (l:i.size=m)
 {d:TypeDesc} (Q:P.underlying T=some d) (V:(match d with| .struct _| .array _ _=>true|_=>false)=true)
 (L:∀r,xv P S n m T r c=some cs)
 (A:Md c=true) (w:World):
 Calls P f #[] w fun e N=>e= .returned (.agg cs)/\Below w.heap.size w N:=by
 refine calls_of_wp hf W ?_;have b:=L (.pointer (some ⟨w.heap.size,0,none⟩));unfold xv at b;split at b
 case h_2=>cases b
 case h_1 id0 ops0 id1 ops=>
  split at b
  case h_2=>cases b
  case h_1 T0 ee p0 af0 hops0=>
   split at b
   case h_2=>cases b
   case h_1 d1 T1 parts fB p1 af1 T2 e1 ty2 p2 af2 t fe=>
    split at b
    case h_2=>cases b
    case h_1 uE hbuilt=>
     split at b
     case isFalse=>cases b
     case isTrue hd'=>
      injection b with xR
      subst xR;obtain⟨rfl,rfl,rfl,rfl,G,y,Y,q4,H⟩:=hd'
      replace G: @LT.lt Nat _ 0 e1:=G
      replace y: @LT.lt Nat _ e1 n:=y
      have u:(#[]++Array.replicate (q.ntmps-(#[]:Array Value).size) undef)=(List.replicate n undef).toArray:=(by simp[X]);rw[u];refine wp_seq (wp_region_list ?_);rw[hops0];refine wpList_plain rfl fun K hK=>gH _ rfl E J (hK _ _ (wpList_nil ?_))
      have U:(Act.put ⟨(List.replicate n undef).toArray,[]⟩ (some 0) (.pointer (some ⟨w.heap.size,0,none⟩)))=⟨(Value.pointer (some ⟨w.heap.size,0,none⟩)::List.replicate (n-1) undef).toArray,[]⟩:=by
       obtain⟨k,rfl⟩:∃k,n=k+1:=⟨n-1,aq⟩;simp[Act.put,List.replicate_succ]
      simp only[U];have Z:∀o∈ops.toList,o.dst≠some 0:=fun o ho=>by
       have:=List.all_eq_true.1 A o ho;simpa using this
      obtain⟨D,hlen⟩:=nO _ _ _ _ fe Z;have p:(w.alloc (.cells z.cells T2)).heap[w.heap.size]? =some (.cells z.cells T2 (0,0)):=heap_alloc_new w _;refine wp_seq (wp_region_list (qU M (B:=w.heap.size+1) _ _ _ fe aD fun F h=> ?_));have aH:e1<t.length:=by rw[Y];exact y
      have j:F.heap[w.heap.size]? =some (.cells z.cells T2 (0,0)):=(h.block _ aq).trans p;have g:(Array.map (fun(x:Nat×Operand)=>(x.1,(Act.mk t.toArray []).eval x.2)) parts).toList=parts.toList.map fun(x:Nat×Operand)=>(x.1,opV t x.2):=by
       simp[funext (yZ t [])]
      refine wpList_build rfl T2 parts rfl (by rw[g];rw[hbuilt];rfl) ?_;rw[g,hbuilt];have I:(Act.put ⟨t.toArray,[]⟩ (some e1) (.agg uE)).eval (.tmp e1)= .agg uE:=bH _ Ew;have r:(Act.put ⟨t.toArray,[]⟩ (some e1) (.agg uE)).eval (.tmp 0)= .pointer (some ⟨w.heap.size,0,none⟩):=by
       show Array.getD _ _ _=_;rw[bJ _ aq];simpa using D
      refine wpList_plain rfl fun K1 C=>wp_store_row _ (.tmp 0) (.tmp e1) rfl w.heap.size uE r I T2 z.cells j (by rw[E];simp[l,q4]) aq H (C _ _ (wpList_nil (wp_ret ?_)))
      have s:(F.setRow w.heap.size uE).heap[w.heap.size]? =some (.cells uE T2 (0,0)):=setRow_heap _ _ _ _ _ _ j;refine bodyPost_ret (v:= .agg uE) (results_cell_row O _ _ w.heap.size T2 uE (0,0) d r s Q V (by rw[E];simp[l,q4])) rfl ⟨rfl, ?_⟩;exact below_setRow (((Below.refl _ _).alloc cr _).trans (h.mono aq)) cr _
def qj(T:TypeId):Code->Bool
 | .seq (.region _ ops false) _=>match ops.toList with
   |[⟨some 2, .alloc T0,_,_,_,none⟩,⟨some 3, .assign (.const (.bool false)),_,_,_,none⟩]=>decide (T0=T)
   |_=>false
 |_=>false
def xr:Code->Code
 | .seq _ c=>c
 |c=>c
theorem yP(G:jo P S){f:FuncId}{o:Func}{c0:Code}{n m:Nat}{T:TypeId}{l:List (Int×Int×Array Value)}{fin:Array Value}{i:TypeInfo}{z:Value}
 (O:P.funcs[f]? =some o) (M:o.body=some c0) (N:o.ntmps=n) (J:4<=n) (H:o.results= #[.cell 2 T, .tmp 3]) (D:P.info? T=some i) (E:i.zero=some z) (B:z.cells.size=m) (u:i.size=m)
 {d:TypeDesc} (I:P.underlying T=some d) (L:(match d with| .struct _| .array _ _=>true|_=>false)=true)
 (b:qj T c0=true) (F:chain S n m T (xr c0)=some (l,fin)) (s:∀r,(dC fin l r).1.size=m) (r:Int) (w:World):
 Calls P f #[.int .i32 r] w fun e t=>e= .returned (.tuple #[.agg (dC fin l r).1, .bool (dC fin l r).2])/\Below w.heap.size w t:=by
 unfold qj at b;split at b
 case h_2=>cases b
 case h_1 id ops c=>
  split at b
  case h_2=>cases b
  case h_1 T0 t0 p0 f0 t1 p1 f1 hops=>
   obtain rfl:=of_decide_eq_true b;refine calls_of_wp O M ?_;refine wp_seq (wp_region_list ?_);rw[hops];obtain⟨k,rfl⟩:∃k,n=k+4:=⟨n-4,aq⟩;have y:(#[Value.int .i32 r]++Array.replicate (o.ntmps-(#[Value.int .i32 r]:Array Value).size) undef)=(Value.int .i32 r::undef::undef::undef::List.replicate k undef).toArray:=by
    rw[N];simp[List.replicate_succ]
   rw[y];refine wpList_plain rfl fun K hK=>gH _ rfl D E (hK _ _ ?_)
   refine wpList_plain rfl fun Q A=>dr (.const (.bool false)) (.inr rfl) (A _ _ (wpList_nil ?_))
   have j:(w.alloc (.cells z.cells T0)).heap[w.heap.size]? =some (.cells z.cells T0 (0,0)):=heap_alloc_new w _;have C:(P.info? T0).map (·.size)=some m:=by rw[D];simp[u]
   refine Ku G C B j c l fin _ F (r:=r) ⟨uC,uC,uC,rfl⟩ fun R t h q p x=> ?_;have g:=run_loadVar_row (P:=P) t w.heap.size T0 T0 _ (0,0) d x I L (by rw[C,s r]);refine bodyPost_ret (v:= .tuple #[.agg (dC fin l r).1, .bool (dC fin l r).2]) ?_ h.df ⟨rfl, ?_⟩
   ·rw[results_cell_tmp H,h.s2,q]
    simp[asAddr,g,Result.andThen]
   ·exact((Below.refl _ _).alloc cr _).trans p
def tV(n:Nat)(T:TypeId):List Oper->Option (FuncId×Nat×Nat)
 |[⟨some d1, .move (.tmp 0),_,_,_,none⟩,⟨some d2, .call ⟨.value (.func f),xs,_⟩,_,_,_,none⟩,⟨some d3, .move (.tmp e2),_,_,_,none⟩,
   ⟨some d4, .extract (.tmp e3) 0,_,_,_,none⟩,⟨some d5, .extract (.tmp e3') 1,_,_,_,none⟩,⟨some v, .alloc T1,_,_,_,none⟩,
   ⟨none, .store T2 (.tmp v') (.tmp e4),_,_,_,none⟩,⟨some b, .assign (.tmp e5),_,_,_,none⟩]=>
  match xs.toList with
  |[.tmp e1]=>
   if e1=d1/\e2=d2/\e3=d3/\e3'=d3/\e4=d4/\e5=d5/\v'=v/\T1=T/\T2=T/\Nat.ble 4 d1=true/\Nat.ble 4 d2=true/\Nat.ble 4 d3=true/\Nat.ble 4 d4=true/\Nat.ble 4 d5=true/\Nat.ble 4 v=true/\Nat.ble 4 b=true/\
    Nat.blt d1 n=true/\Nat.blt d2 n=true/\Nat.blt d3 n=true/\Nat.blt d4 n=true/\Nat.blt d5 n=true/\Nat.blt v n=true/\Nat.blt b n=true/\
    d4≠d3/\d5≠d4/\v≠d4/\v≠d5/\b≠v then some (f,v,b)else none
  |_=>none
 |_=>none
theorem ux{t:Operand}{i:Nat}{vs:Array Value}(b:o.op= .extract t i) (c:a.eval t= .tuple vs) (d:vs[i]? =some v) (h:K (a.put o.dst v) w):o.wp P a w K Q:=by
 have e:(execOp a.eval o).run P w= .ok (.value v) w:=by
  unfold execOp;simp only[b,c];simp[Instr.extract,d,go_sem]
 unfold Oper.wp;rw[e];exact h
theorem yq{m:Nat}{T:TypeId}{f:FuncId}{v b:Nat}{id:Nat}{c:Array Value}{t:Bool}(h:tV n T ops.toList=some (f,v,b)) (he:iU P f) (hc:∀w,Calls P f #[.int .i32 r] w fun e s=>e= .returned (.tuple #[.agg c, .bool t])/\Below w.heap.size w s)
 (xR:c.size=m) (l4:c.all (·.oneCell')=true) (R:Fr n r g a) {i:TypeInfo} {z:Value} (hi:P.info? T=some i) (hz:i.zero=some z) (pQ:z.cells.size=m) (E:i.size=m)
 (hQ:∀A s k,Fr n r g A->A.tmps.getD v undef= .pointer (some ⟨k,0,none⟩)->A.tmps.getD b undef= .bool t->w.heap.size<=k->Below w.heap.size w s->s.heap[k]? =some (.cells c T (0,0))->Q .normal A s):
 (Code.region id ops false).wp P Q a w:=by
 refine wp_region_list ?_;obtain⟨l⟩:=ops;simp only at h;unfold tV at h;split at h
 case h_2=>cases h
 case h_1 l d1 t1 p1 f1 d2 f' xs Wu t2 p2 f2 d3 e2 t3 p3 f3 d4 e3 t4 p4 f4 d5 e3' t5 p5 f5 v' T1 t6 p6 f6 T2 v'' e4 t7 p7 f7 b' e5 t8 p8 f8=>
  split at h
  case h_2=>cases h
  case h_1 _ e1 o=>
   split at h
   case isFalse=>cases h
   case isTrue hd=>
    injection h with h
    injection h with h1 h
    injection h with h2 h3
    subst h1 h2 h3;obtain⟨rfl,rfl,rfl,rfl,rfl,rfl,rfl,rfl,rfl,Z,M,q3,q4,q5,G,q7,s1,C,N,Y,s5,s6,I,n1,n2,n3,n4,n5⟩:=hd
    replace Z:=Nat.le_of_ble_eq_true Z
    replace M:=Nat.le_of_ble_eq_true M
    replace q3:=Nat.le_of_ble_eq_true q3
    replace q4:=Nat.le_of_ble_eq_true q4
    replace q5:=Nat.le_of_ble_eq_true q5
    replace G:=Nat.le_of_ble_eq_true G
    replace q7:=Nat.le_of_ble_eq_true q7
    replace s1:=Nat.le_of_ble_eq_true s1
    replace C:=Nat.le_of_ble_eq_true C
    replace N:=Nat.le_of_ble_eq_true N
    replace Y:=Nat.le_of_ble_eq_true Y
    replace s5:=Nat.le_of_ble_eq_true s5
    replace s6:=Nat.le_of_ble_eq_true s6
    replace I:=Nat.le_of_ble_eq_true I
    obtain⟨xl⟩:=xs;simp only at o;subst o;have sz:=R.size;refine wpList_plain rfl fun K1 Jt=>dr (.tmp 0) (.inl rfl) (Jt _ _ ?_)
    have S:a.eval (.tmp 0)= .int .i32 r:=R.s0;rw[S];have g1:=R.put (d:=e1) (v:= .int .i32 r) Z;have v1:(a.put (some e1) (.int .i32 r)).tmps.getD e1 undef= .int .i32 r:=bH _ (by rw[sz];exact s1);simp only;generalize a.put (some e1) (.int .i32 r)=x at*;have sz1:=g1.size;have o:(#[Operand.tmp e1]).map x.eval= #[.int .i32 r]:=by
     have:x.eval (.tmp e1)= .int .i32 r:=v1;simp[this]
    refine wpList_plain rfl fun K2 B=>ou f' _ Wu rfl he (v:= .tuple #[.agg c, .bool t]) (by rw[o];exact hc w) (fun j p=>B _ _ ?_)
    have g2:=g1.put (d:=e2) (v:= .tuple #[.agg c, .bool t]) M;have v2:(x.put (some e2) (.tuple #[.agg c, .bool t])).tmps.getD e2 undef= .tuple #[.agg c, .bool t]:=bH _ (by rw[sz1];exact C);simp only;generalize x.put (some e2) (.tuple #[.agg c, .bool t])=D at*;have W:=g2.size;refine wpList_plain rfl fun K3 hK3=>dr (.tmp e2) (.inl rfl) (hK3 _ _ ?_)
    have ev3:D.eval (.tmp e2)= .tuple #[.agg c, .bool t]:=v2;rw[ev3];have g3:=g2.put (d:=e3') (v:= .tuple #[.agg c, .bool t]) q3;have v3:(D.put (some e3') (.tuple #[.agg c, .bool t])).tmps.getD e3' undef= .tuple #[.agg c, .bool t]:=bH _ (by rw[W];exact N);simp only;generalize D.put (some e3') (.tuple #[.agg c, .bool t])=F at*;have sz3:=g3.size;refine wpList_plain rfl fun K4 XO=>ux (v:= .agg c) rfl v3 rfl (XO _ _ ?_)
    have g4:=g3.put (d:=e4) (v:= .agg c) q4;have X:(F.put (some e4) (.agg c)).tmps.getD e3' undef= .tuple #[.agg c, .bool t]:=by rw[bJ _ (Ne.symm n1)];exact v3
    have v44:(F.put (some e4) (.agg c)).tmps.getD e4 undef= .agg c:=bH _ (by rw[sz3];exact Y);simp only;generalize F.put (some e4) (.agg c)=a4 at*;have L:=g4.size;refine wpList_plain rfl fun K5 hK5=>ux (v:= .bool t) rfl X rfl (hK5 _ _ ?_)
    have g5:=g4.put (d:=e5) (v:= .bool t) q5;have J:(a4.put (some e5) (.bool t)).tmps.getD e4 undef= .agg c:=by rw[bJ _ (Ne.symm n2)];exact v44
    have U:(a4.put (some e5) (.bool t)).tmps.getD e5 undef= .bool t:=bH _ (by rw[L];exact s5);simp only;generalize a4.put (some e5) (.bool t)=y at*;have sz5:=g5.size;refine wpList_plain rfl fun K6 hK6=>gH _ rfl hi hz (hK6 _ _ ?_)
    have g6:=g5.put (d:=v'') (v:= .pointer (some ⟨j.heap.size,0,none⟩)) G;have H:(y.put (some v'') (.pointer (some ⟨j.heap.size,0,none⟩))).tmps.getD e4 undef= .agg c:=by rw[bJ _ (Ne.symm n3)];exact J
    have V:(y.put (some v'') (.pointer (some ⟨j.heap.size,0,none⟩))).tmps.getD e5 undef= .bool t:=by rw[bJ _ (Ne.symm n4)];exact U
    have u:(y.put (some v'') (.pointer (some ⟨j.heap.size,0,none⟩))).tmps.getD v'' undef= .pointer (some ⟨j.heap.size,0,none⟩):=bH _ (by rw[sz5];exact s6);simp only;generalize y.put (some v'') (.pointer (some ⟨j.heap.size,0,none⟩))=K at*;have O:=g6.size;have q:(j.alloc (.cells z.cells T2)).heap[j.heap.size]? =some (.cells z.cells T2 (0,0)):=heap_alloc_new j _;refine wpList_plain rfl fun K7 hK7=>wp_store_row T2 (.tmp v'') (.tmp e4) rfl j.heap.size c u H T2 z.cells q (by rw[hi];simp[E,xR]) aq l4 (hK7 _ _ ?_)
    refine wpList_plain rfl fun K8 hK8=>dr (.tmp e5) (.inr rfl) (hK8 _ _ (wpList_nil ?_))
    have e7:(K.put none undef)=K:=rfl;simp only[e7];have ev8:K.eval (.tmp e5)= .bool t:=V;rw[ev8];refine hQ _ _ j.heap.size (g6.put q7) ?_ ?_ p.size ?_ (setRow_heap _ _ _ _ _ _ q)
    ·rw[bJ _ (Ne.symm n5)];exact u
    ·exact bH _ (by rw[O];exact I)
    ·exact below_setRow (p.alloc p.size _) p.size _
def vH(n:Nat)(T:TypeId)(v:Nat):List Oper->Bool
 |[⟨some d, .load T1 (.tmp v'),_,_,_,none⟩,⟨none, .store T2 (.tmp 2) (.tmp d'),_,_,_,none⟩,⟨some 3, .assign (.const (.bool true)),_,_,_,none⟩]=>
  decide (v'=v/\d'=d/\T1=T/\T2=T/\Nat.ble 4 d=true/\Nat.blt d n=true)
 |_=>false
def vV(n b:Nat)(c:Nat):List Oper->Bool
 |[⟨some c', .move (.tmp b'),_,_,_,none⟩]=>decide (c'=c/\b'=b/\Nat.ble 4 c=true/\Nat.blt c n=true/\c≠b)
 |_=>false
def dW(fin:Array Value)(A:FuncId->Int->Array Value×Bool):List FuncId->Int->Array Value×Bool
 |[],_=>(fin,false)
 |f::fs,r=>if(A f r).2 then((A f r).1,true)else dW fin A fs r
def qC(S:FuncId->Array Value->Option Value)(n m:Nat)(T:TypeId):Code->Option (List FuncId×Array Value)
 | .seq (.region _ ops1 false) (.seq (.seq (.region _ ops2 false) (.cond (.tmp c) (.seq (.region _ ops3 false) .ret) .skip)) rest)=>
   match tV n T ops1.toList,qC S n m T rest with
   |some (f,v,b),some (fs,fin)=>if vV n b c ops2.toList=true/\vH n T v ops3.toList=true/\c≠v then some (f::fs,fin)else none
   |_,_=>none
 | .seq (.region _ ops false) .ret=>
   match mJ S n m T ops.toList with
   |some (cs,false)=>some ([],cs)
   |_=>none
 |_=>none
theorem Is(hS:jo P S){n m:Nat}(hn:4<=n){T:TypeId}{i:TypeInfo}{z:Value}(hi:P.info? T=some i)(hz:i.zero=some z)(pQ:z.cells.size=m)(D:i.size=m)
 {d:TypeDesc} (hu:P.underlying T=some d) (hd:(match d with| .struct _| .array _ _=>true|_=>false)=true)
 {A:FuncId->Int->Array Value×Bool} {g:Nat} {r:Int} {w0:World} {Q:Exit->Act->World->Prop} (j:∀f,(A f r).1.size=m/\(A f r).1.all (·.oneCell')=true):
 ∀(k:Nat) (c:Code) (y:List FuncId) (fin:Array Value) (a:Act) (w:World) (old:Array Value),y.length=k->qC S n m T c=some (y,fin)->
 (∀f∈y,iU P f/\∀w,Calls P f #[.int .i32 r] w fun e u=>e= .returned (.tuple #[.agg (A f r).1, .bool (A f r).2])/\Below w.heap.size w u)->
 Fr n r g a->old.size=m->w.heap[g]? =some (.cells old T (0,0))->Below g w0 w->
 (∀L u,Fr n r g L->L.tmps.getD 3 undef= .bool (dW fin A y r).2->Below g w0 u->u.heap[g]? =some (.cells (dW fin A y r).1 T (0,0))->Q .ret L u)->c.wp P Q a w:=by
 have hT:(P.info? T).map (·.size)=some m:=by rw[hi];simp[D]
 intro k
 induction k with
 |zero=>
  intro c y fin a w old O h _ Z hold R x M;obtain rfl:=List.eq_nil_of_length_eq_zero O;unfold qC at h;split at h
  case h_1=>
   split at h
   ·split at h
    ·injection h with h;injection h with h1 h2;cases h1
    ·cases h
   ·cases h
  case h_2 id ops=>
   split at h
   case h_2=>cases h
   case h_1 cs h1=>
    injection h with h
    injection h with _ e2
    subst e2;refine wp_seq (lA hS h1 Z hold R hT fun C w2 o B fK fL=> ?_);exact wp_ret (M C w2 o B (x.trans fK) fL)
  case h_3=>cases h
 |succ k ih=>
  intro c y fin a w old O h I Z hold R x M;unfold qC at h;split at h
  case h_2=>
   split at h
   ·injection h with h;injection h with h1 h2;subst h1;cases O
   ·cases h
  case h_3=>cases h
  case h_1 id1 ops1 id2 ops2 c1 id3 ops3 rest=>
   split at h
   case h_2=>cases h
   case h_1 f v b fs' fin' h1 h2=>
    split at h
    case isFalse=>cases h
    case isTrue hh=>
     obtain⟨J,G,hcv⟩:=hh;injection h with h
     injection h with e1 e2
     subst e1 e2;obtain⟨he,hc⟩:=I f (List.mem_cons_self ..);have F:g<w.heap.size:=(Array.getElem?_eq_some_iff.1 R).1;refine wp_seq (yq h1 he hc (j f).1 (j f).2 Z hi hz pQ D fun N w1 Y E hv1 cT BP q V=> ?_);have p:w1.heap[g]? =some (.cells old T (0,0)):=(q.block _ F).trans R;have s:Below g w0 w1:=x.trans (q.mono aq);refine wp_seq_k fun K hK=> ?_;refine wp_seq (wp_region_list ?_);obtain⟨l2⟩:=ops2;simp only at J;unfold vV at J;split at J
     case h_2=>cases J
     case h_1 l2 c' b' t2 p2 f2=>
      obtain⟨rfl,rfl,u1,u2,u3⟩:=of_decide_eq_true J
      replace u1:=Nat.le_of_ble_eq_true u1
      replace u2:=Nat.le_of_ble_eq_true u2
      refine wpList_plain rfl fun K1 Jt=>dr (.tmp b') (.inl rfl) (Jt _ _ (wpList_nil ?_))
      have ev:N.eval (.tmp b')= .bool (A f r).2:=cT;rw[ev];have o:=E.put (d:=c') (v:= .bool (A f r).2) u1;have lI:(N.put (some c') (.bool (A f r).2)).tmps.getD c' undef= .bool (A f r).2:=bH _ (by rw[E.size];exact u2);have B:(N.put (some c') (.bool (A f r).2)).tmps.getD v undef= .pointer (some ⟨Y,0,none⟩):=by rw[bJ _ (Ne.symm hcv)];exact hv1
      simp only[Exit.then];generalize N.put (some c') (.bool (A f r).2)=C at*;refine wp_cond_split (t:=(A f r).2) lI (fun H=> ?_) (fun H=> ?_)
      ·obtain⟨l3⟩:=ops3
       simp only at G;unfold vH at G;split at G
       case h_2=>cases G
       case h_1 l3 d1 T1 v' t3 p3 f3 T2 d1' t4 p4 f4 t5 p5 f5=>
        obtain⟨rfl,rfl,rfl,rfl,y1,X⟩:=of_decide_eq_true G
        replace y1:=Nat.le_of_ble_eq_true y1
        replace X:=Nat.le_of_ble_eq_true X
        refine wp_seq (wp_region_list ?_);have dX:Y≠g:=aq;refine wpList_load_row rfl _ (.tmp v') rfl Y B _ _ (0,0) d V hu hd (by rw[hT,(j f).1]) ?_;have l:=o.put (d:=d1') (v:= .agg (A f r).1) y1;have hv3:(C.put (some d1') (.agg (A f r).1)).tmps.getD d1' undef= .agg (A f r).1:=bH _ (by rw[o.size];exact X);simp only;generalize C.put (some d1') (.agg (A f r).1)=W at*;refine wpList_plain rfl fun K3 hK3=>wp_store_row _ (.tmp 2) (.tmp d1') rfl g (A f r).1 l.s2 hv3 _ old p (by rw[hT,(j f).1]) (by rw[hold,(j f).1]) (j f).2 (hK3 _ _ ?_)
        refine wpList_plain rfl fun K4 XO=>dr (.const (.bool true)) (.inr rfl) (XO _ _ (wpList_nil (wp_ret ?_)))
        have e7:(W.put none undef)=W:=rfl;simp only[e7];have ev8:W.eval (.const (.bool true))= .bool true:=rfl;rw[ev8];refine M _ _ ⟨by rw[size_put];exact l.size,by rw[bJ _ (by omega)];exact l.s0,by rw[bJ _ (by omega)];exact l.s2,by rw[oE];exact l.df⟩ ?_ ?_ ?_
        ·rw[bH _ (by rw[l.size];omega)]
         simp only[dW,H,if_true]
        ·exact below_setRow s cr _
        ·simp only[dW,H,if_true]
         exact setRow_heap _ _ _ _ _ _ p
      ·refine wp_skip (hK _ _ (ih rest fs' fin' C w1 old (by simpa using O) h2 (fun f' U=>I f' (List.mem_cons_of_mem _ U)) o hold p s fun L u x1 x2 x3 x4=> ?_))
       refine M L u x1 ?_ x3 ?_
       ·simp only[dW,H];exact x2
       ·simp only[dW,H];exact x4
theorem El(O:jo P S){f:FuncId}{x:Func}{c0:Code}{n m:Nat}{T:TypeId}{h:List FuncId}{fin:Array Value}{i:TypeInfo}{z:Value}
 (V:P.funcs[f]? =some x) (R:x.body=some c0) (U:x.ntmps=n) (F:4<=n) (Q:x.results= #[.cell 2 T, .tmp 3]) (I:P.info? T=some i) (J:i.zero=some z) (y:z.cells.size=m) (p:i.size=m)
 {d:TypeDesc} (M:P.underlying T=some d) (N:(match d with| .struct _| .array _ _=>true|_=>false)=true)
 (b:qj T c0=true) (L:qC S n m T (xr c0)=some (h,fin)) {A:FuncId->Int->Array Value×Bool} (r:Int) (s:∀f,(A f r).1.size=m/\(A f r).1.all (·.oneCell')=true) (t:fin.size=m)
 (u:∀f∈h,iU P f/\∀w,Calls P f #[.int .i32 r] w fun e o=>e= .returned (.tuple #[.agg (A f r).1, .bool (A f r).2])/\Below w.heap.size w o) (w:World):
 Calls P f #[.int .i32 r] w fun e o=>e= .returned (.tuple #[.agg (dW fin A h r).1, .bool (dW fin A h r).2])/\Below w.heap.size w o:=by
 have D:(dW fin A h r).1.size=m:=by
  clear u L
  induction h with
  |nil=>exact t
  |cons f h ih=>
   simp only[dW];split
   ·exact(s f).1
   ·exact ih
 unfold qj at b;split at b
 case h_2=>cases b
 case h_1 id ops c=>
  split at b
  case h_2=>cases b
  case h_1 T0 t0 p0 f0 t1 p1 f1 hops=>
   obtain rfl:=of_decide_eq_true b;refine calls_of_wp V R ?_;refine wp_seq (wp_region_list ?_);rw[hops];obtain⟨k,rfl⟩:∃k,n=k+4:=⟨n-4,aq⟩;have G:(#[Value.int .i32 r]++Array.replicate (x.ntmps-(#[Value.int .i32 r]:Array Value).size) undef)=(Value.int .i32 r::undef::undef::undef::List.replicate k undef).toArray:=by
    rw[U];simp[List.replicate_succ]
   rw[G];refine wpList_plain rfl fun K hK=>gH _ rfl I J (hK _ _ ?_)
   refine wpList_plain rfl fun X H=>dr (.const (.bool false)) (.inr rfl) (H _ _ (wpList_nil ?_))
   have q:(w.alloc (.cells z.cells T0)).heap[w.heap.size]? =some (.cells z.cells T0 (0,0)):=heap_alloc_new w _;have W:(P.info? T0).map (·.size)=some m:=by rw[I];simp[p]
   refine Is O F I J y p M N (w0:=w) (g:=w.heap.size) (r:=r) s h.length c h fin _ _ z.cells rfl L u ⟨uC,uC,uC,rfl⟩ y q ((Below.refl _ _).alloc cr _) fun Y o l C B E=> ?_;have j:=run_loadVar_row (P:=P) o w.heap.size T0 T0 _ (0,0) d E M N (by rw[W,D]);refine bodyPost_ret (v:= .tuple #[.agg (dW fin A h r).1, .bool (dW fin A h r).2]) ?_ l.df ⟨rfl,B⟩
   ·rw[results_cell_tmp Q,l.s2,C]
    simp[asAddr,j,Result.andThen]
end
end Go.Proofs.YtpidckelbgbbkaaGreatDoor
