/- Part of LineCovers. -/
import Derived.Test.YtklncadpkniojaaGreatDoorAa
import Derived.WalkKit
import Derived.ProofKit
import Derived.Laws.CopyOwn
namespace Go.Proofs.YtklncadpkniojaaGreatDoor
open Go.ChangeShapes Go.WideShapes Go.ChangeAt Go.RowKit
open Go renaming World->ahh,Value->ahj,Calls->ahk,TypeId->ahm,Program->aho
open Go.RowKit renaming Below->ahi
set_option linter.all false
set_option maxRecDepth 100000
set_option maxHeartbeats 16000000
variable{d g n:Nat}{o:Oper}{K:Act->ahh->Prop}{Q:Exit->Act->ahh->Prop}{ops:Array Oper}{r:Int}{v:ahj}{S:FuncId->Array ahj->Option ahj}
def iN(P:aho)(f:FuncId):Prop:=∀(args:Array ahj) (w:ahh),(callFunc f args).run P w=.ok (.enter f args) w
def jv(P:aho)(S:FuncId->Array ahj->Option ahj):Prop:=
 ∀f xs v,S f xs=some v->iN P f/\∀w,ahk P f xs w fun e b=>e=.returned v/\ahi w.heap.size w b
section
variable{P:aho}{a:Act}{w:ahh}
theorem bJ(v:ahj)(h:d<a.tmps.size):(a.put (some d) v).tmps.getD d undef=v:=by
 simp[Act.put,h]
theorem bL{e:Nat}(v:ahj)(h:e≠d):(a.put (some d) v).tmps.getD e undef=a.tmps.getD e undef:=by
 simp[Act.put,Array.getElem?_setIfInBounds,Ne.symm h]
theorem size_put(d:Option Nat)(v:ahj):(a.put d v).tmps.size=a.tmps.size:=by
 cases d<;>simp[Act.put]
theorem oE(d:Option Nat)(v:ahj):(a.put d v).defers=a.defers:=by
 cases d<;>simp[Act.put]
theorem dq(x:Operand)(b:o.op=.move x∨o.op=.assign x)(h:K (a.put o.dst (a.eval x)) w):o.wp P a w K Q:=by
 unfold Oper.wp execOp;rcases b with b|b<;>simp only[b]<;>exact h
theorem oa(f:FuncId)(xs:Array Operand)(c:Array ahm)
 (d:o.op=.call {callee:=.value (.func f),args:=xs,argTypes:=c}) (h:iN P f) {v:ahj}
 (j:ahk P f (xs.map a.eval) w fun e b=>e=.returned v/\ahi w.heap.size w b)
 (k:∀b,ahi w.heap.size w b->K (a.put o.dst v) b):o.wp P a w K Q:=by
 obtain⟨dst,n,p,pos,after,g⟩:=o;simp only at d;subst d;unfold Oper.wp;rw[execOp_call_go];have m: #[]++Array.map a.eval xs++ #[]=Array.map a.eval xs:=aQ;rw[m,h,Oper.upon_enter];exact j.mono fun e b ⟨i,l⟩=>by subst i;exact k b l
theorem wpList_store_row{rest:List Oper}(b:o.guard=none)(c:ahm)(x y:Operand)(d:o.op=.store c x y)
 (g:Nat) (cells:Array ahj) (j:a.eval x=.pointer (some ⟨g,0,none⟩)) (i:a.eval y=.agg cells)
 (t:ahm) (old:Array ahj) (f:w.heap[g]? =some (.cells old t (0,0))) (k:(P.info? c).map (·.size)=some cells.size)
 (hold:old.size=cells.size) (e:cells.all (·.oneCell')=true)
 (h:wpList P ops Q rest (a.put o.dst undef) (w.setRow g cells)):wpList P ops Q (o::rest) a w:=
 wpList_plain b fun _ hK=>wp_store_row c x y d g cells j i t old f k hold e (hK _ _ h)
def pT(n c:Nat):List Oper->Option (Int×Int)
 |[⟨some d1,.move (.tmp 0),_,_,_,none⟩,⟨some d2,.binOp .geq _ (.tmp e1) (.const (.int .i32 lo)) _,_,_,_,none⟩,⟨some d3,.move (.tmp e2),_,_,_,none⟩,
   ⟨some d4,.move (.tmp 0),_,_,_,some (2,true)⟩,⟨some d5,.binOp .leq _ (.tmp e4) (.const (.int .i32 hi)) _,_,_,_,some (2,true)⟩,
   ⟨some d6,.pick (.tmp e3) (.tmp e5) (.const (.bool false)),_,_,_,none⟩]=>
  if e1=d1/\e2=d2/\e3=d3/\e4=d4/\e5=d5/\c=d6/\4<=d1/\d1<d2/\d2<d3/\d3<d4/\d4<d5/\d5<d6/\d6<n then some (lo,hi)else none
 |_=>none
structure Fr(n:Nat)(r:Int)(g:Nat)(a:Act):Prop where
 size:a.tmps.size=n
 s0:a.tmps.getD 0 undef=.int .i32 r
 s2:a.tmps.getD 2 undef=.pointer (some ⟨g,0,none⟩)
 df:a.defers=[]
theorem Fr.put(h:Fr n r g a)(b:4<=d):Fr n r g (a.put (some d) v):=
 ⟨by rw[size_put];exact h.size,by rw[bL _ (by omega)];exact h.s0,by rw[bL _ (by omega)];exact h.s2,by rw[oE];exact h.df⟩
theorem Zw{t g:ahm}{x y:Operand}{c:Int}(b:o.op=.binOp .geq t x y g) (f:a.eval x=.int .i32 r) (d:a.eval y=.int .i32 c) (h:K (a.put o.dst (.bool (decide (c<=r)))) w):o.wp P a w K Q:=by
 have e:(execOp a.eval o).run P w=.ok (.value (.bool (decide (c<=r)))) w:=by
  unfold execOp;simp only[b,f,d];simp[go_sem]
 unfold Oper.wp;rw[e];exact h
theorem aaC{t g:ahm}{x y:Operand}{c:Int}(b:o.op=.binOp .leq t x y g) (f:a.eval x=.int .i32 r) (d:a.eval y=.int .i32 c) (h:K (a.put o.dst (.bool (decide (r<=c)))) w):o.wp P a w K Q:=by
 have e:(execOp a.eval o).run P w=.ok (.value (.bool (decide (r<=c)))) w:=by
  unfold execOp;simp only[b,f,d];simp[go_sem]
 unfold Oper.wp;rw[e];exact h
theorem Fm{c x y:Operand}{b:Bool}(d:o.op=.pick c x y) (f:a.eval c=.bool b) (h:K (a.put o.dst (if b then a.eval x else a.eval y)) w):o.wp P a w K Q:=by
 have e:(execOp a.eval o).run P w=.ok (.value (if b then a.eval x else a.eval y)) w:=by
  unfold execOp;simp only[d,f];cases b<;>simp[go_sem]
 unfold Oper.wp;rw[e];exact h
theorem fQ(h:a.tmps.getD d undef=v)(b:d<a.tmps.size):a.tmps[d]? =some v:=by
 rw[<-h];simp[b]
theorem te{j:Nat}{b c:Bool}(e:o.guard=some (j,c))(f:(ops[j]?).bind (·.dst)=some d)(g:a.tmps[d]? =some (.bool b)):
 Region.wanted o (yielded ops a.tmps)=(b==c):=by
 simp[Region.wanted,e,yielded,f,g]
theorem vb{c:Nat}{lo J:Int}{X:Nat}(h:pT n c ops.toList=some (lo,J))(s:Fr n r g a)
 (L:∀F,Fr n r g F->F.tmps.getD c undef=.bool (decide (lo<=r/\r<=J))->Q .normal F w):(Code.region X ops false).wp P Q a w:=by
 refine wp_region_list ?_;obtain⟨l⟩:=ops;simp only at h;unfold pT at h;split at h
 case h_2=>cases h
 case h_1 l d1 t1 p1 f1 d2 t2 e1 lo' t2' u2 p2 f2 d3 e2 u3 p3 f3 d4 u4 p4 f4 d5 t5 e4 xX t5' u5 p5 f5 d6 e3 e5 u6 p6 f6=>
  split at h
  case isFalse=>cases h
  case isTrue hd=>
   injection h with h
   injection h with h1 h2
   subst h1 h2;obtain⟨rfl,rfl,rfl,rfl,rfl,rfl,u,I,N,q4,O,K,H⟩:=hd
   replace u: @LE.le Nat _ 4 e1:=u
   replace I: @LT.lt Nat _ e1 e2:=I
   replace N: @LT.lt Nat _ e2 e3:=N
   replace q4: @LT.lt Nat _ e3 e4:=q4
   replace O: @LT.lt Nat _ e4 e5:=O
   replace K: @LT.lt Nat _ e5 c:=K
   replace H: @LT.lt Nat _ c n:=H
   have sz:=s.size;refine wpList_plain rfl fun K1 A=>dq (.tmp 0) (.inl rfl) (A _ _ ?_)
   have f1:=s.put (d:=e1) (v:=a.eval (.tmp 0)) u;have T:(a.put (some e1) (a.eval (.tmp 0))).tmps.getD e1 undef=.int .i32 r:=by rw[bJ _ (by omega)];exact s.s0
   simp only;generalize a.put (some e1) (a.eval (.tmp 0))=M at*;have Z:=f1.size;refine wpList_plain rfl fun K2 z=>Zw (r:=r) (c:=lo') rfl T rfl (z _ _ ?_)
   have f2:=f1.put (d:=e2) (v:=.bool (decide (lo'<=r))) ak;have v2:(M.put (some e2) (.bool (decide (lo'<=r)))).tmps.getD e2 undef=.bool (decide (lo'<=r)):=bJ _ ak;simp only;generalize M.put (some e2) (.bool (decide (lo'<=r)))=B at*;have Y:=f2.size;refine wpList_plain rfl fun K3 x=>dq (.tmp e2) (.inl rfl) (x _ _ ?_)
   have V:B.eval (.tmp e2)=.bool (decide (lo'<=r)):=v2;rw[V];have f3:=f2.put (d:=e3) (v:=.bool (decide (lo'<=r))) ak;have v3:(B.put (some e3) (.bool (decide (lo'<=r)))).tmps.getD e3 undef=.bool (decide (lo'<=r)):=bJ _ ak;simp only;generalize B.put (some e3) (.bool (decide (lo'<=r)))=p at*;have S:=f3.size;by_cases f:lo'<=r
   .simp only[f,decide_true]at v3
    refine wpList_step fun W m=> ?_;rw[te (d:=e3) (b:=true) rfl rfl (fQ v3 ak)];refine dq (.tmp 0) (.inl rfl) (m _ _ ?_);have D:p.eval (.tmp 0)=.int .i32 r:=f3.s0;rw[D];have f4:=f3.put (d:=e4) (v:=.int .i32 r) ak;have e:(p.put (some e4) (.int .i32 r)).tmps.getD e3 undef=.bool true:=by rw[bL _ (by omega)];exact v3
    have t:(p.put (some e4) (.int .i32 r)).tmps.getD e4 undef=.int .i32 r:=bJ _ ak;simp only;generalize p.put (some e4) (.int .i32 r)=q at*;have E:=f4.size;refine wpList_step fun R o=> ?_;rw[te (d:=e3) (b:=true) rfl rfl (fQ e ak)];refine aaC (r:=r) (c:=xX) rfl t rfl (o _ _ ?_);have f5:=f4.put (d:=e5) (v:=.bool (decide (r<=xX))) ak;have j:(q.put (some e5) (.bool (decide (r<=xX)))).tmps.getD e3 undef=.bool true:=by rw[bL _ (by omega)];exact e
    have G:(q.put (some e5) (.bool (decide (r<=xX)))).tmps.getD e5 undef=.bool (decide (r<=xX)):=bJ _ ak;simp only;generalize q.put (some e5) (.bool (decide (r<=xX)))=C at*;have y:=f5.size;refine wpList_plain rfl fun U i=>Fm (b:=true) rfl j (i _ _ ?_)
    have k:C.eval (.tmp e5)=.bool (decide (r<=xX)):=G;rw[k];refine wpList_nil (L _ (f5.put ak) ?_);rw[if_pos rfl,bJ _ ak];simp[f]
   .simp only[f,decide_false]at v3
    refine wpList_step fun W m=> ?_;rw[te (d:=e3) (b:=false) rfl rfl (fQ v3 ak)];refine m _ _ ?_;have f4:=f3.put (d:=e4) (v:=undef) ak;have e:(p.put (some e4) undef).tmps.getD e3 undef=.bool false:=by rw[bL _ (by omega)];exact v3
    simp only;generalize p.put (some e4) undef=q at*;have E:=f4.size;refine wpList_step fun R o=> ?_;rw[te (d:=e3) (b:=false) rfl rfl (fQ e ak)];refine o _ _ ?_;have f5:=f4.put (d:=e5) (v:=undef) ak;have j:(q.put (some e5) undef).tmps.getD e3 undef=.bool false:=by rw[bL _ (by omega)];exact e
    simp only;generalize q.put (some e5) undef=C at*;have y:=f5.size;refine wpList_plain rfl fun U i=>Fm (b:=false) rfl j (i _ _ ?_)
    have k:C.eval (.const (.bool false))=.bool false:=rfl;rw[k];refine wpList_nil (L _ (f5.put ak) ?_);rw[if_neg aQ,bJ _ ak];simp[f]
def opC:Operand->Option ahj
 | .const v=>some v
 |_=>none
def mU:List Operand->Option (List ahj)
 |[]=>some []
 |x::xs=>match opC x,mU xs with
  |some v,some vs=>some (v::vs)
  |_,_=>none
theorem nJ:∀{xs:List Operand} {vs:List ahj},mU xs=some vs->xs.map a.eval=vs
 |[],vs,h=>by simp[mU]at h;simp[h]
 |x::xs,vs,h=>by
  unfold mU at h;split at h
  .rename_i v d b c
   injection h with h
   subst h;rw[List.map_cons,nJ c];cases x<;>simp[opC]at b
   subst b;rfl
  .cases h
def mZ(S:FuncId->Array ahj->Option ahj)(n m:Nat)(T:ahm):List Oper->Option (Array ahj×Bool)
 |[⟨some d1,.call ⟨.value (.func f),xs,_⟩,_,_,_,none⟩,⟨none,.store d (.tmp 2) (.tmp c),_,_,_,none⟩,⟨some 3,.assign (.const (.bool b)),_,_,_,none⟩]=>
  match mU xs.toList with
  |some vs=>match S f vs.toArray with
   |some (.agg cs)=>if c=d1/\d=T/\4<=d1/\d1<n/\cs.size=m/\cs.all (·.oneCell')=true then some (cs,b)else none
   |_=>none
  |none=>none
 |_=>none
theorem lS(E:jv P S){n m:Nat}{T:ahm}{ops:Array Oper}{cs:Array ahj}{b:Bool}{g F:Nat}{r:Int}{Q:Exit->Act->ahh->Prop}
 (h:mZ S n m T ops.toList=some (cs,b)) (x:Fr n r g a) {old:Array ahj} (hold:old.size=m) (y:w.heap[g]? =some (.cells old T (0,0))) (H:(P.info? T).map (·.size)=some m)
 (I:∀u j,Fr n r g u->u.tmps.getD 3 undef=.bool b->ahi g w j->j.heap[g]? =some (.cells cs T (0,0))->Q .normal u j):(Code.region F ops false).wp P Q a w:=by
 refine wp_region_list ?_;obtain⟨l⟩:=ops;simp only at h;unfold mZ at h;split at h
 case h_2=>cases h
 case h_1 l d1 f xs YD t1 p1 f1 T' e1 u2 p2 f2 b' u3 p3 f3=>
  split at h
  case h_2=>cases h
  case h_1 _ vs hvs=>
   split at h
   case h_2=>cases h
   case h_1 _ sL Ba=>
    split at h
    case isFalse=>cases h
    case isTrue hd=>
     injection h with h
     injection h with h1 h2
     subst h1 h2;obtain⟨rfl,rfl,k,z,K,q4⟩:=hd
     replace k: @LE.le Nat _ 4 e1:=k
     replace z: @LT.lt Nat _ e1 n:=z
     obtain⟨B,G⟩:=E _ _ _ Ba;have O:=x.size;have p:g<w.heap.size:=(Array.getElem?_eq_some_iff.1 y).1;have i:xs.map a.eval=vs.toArray:=by
      have:=nJ (a:=a) hvs;apply Array.ext';simpa using this
     refine wpList_plain rfl fun N s=>oa f xs YD rfl B (v:=.agg sL) (by rw[i];exact G w) (fun J e=>s _ _ ?_)
     have f1:=x.put (d:=e1) (v:=.agg sL) k;have C:(a.put (some e1) (.agg sL)).tmps.getD e1 undef=.agg sL:=bJ _ ak;simp only;generalize a.put (some e1) (.agg sL)=A at*;have t:=f1.size;have c:J.heap[g]? =some (.cells old T' (0,0)):=(e.block g p).trans y;refine wpList_plain rfl fun L q=>wp_store_row T' (.tmp 2) (.tmp e1) rfl g sL f1.s2 C T' old c (by rw[H,K]) ak q4 (q _ _ ?_)
     refine wpList_plain rfl fun M o=>dq (.const (.bool b')) (.inr rfl) (o _ _ ?_)
     have D:(A.put none undef)=A:=rfl;simp only[D];refine wpList_nil (I _ _ ⟨by rw[size_put];exact t, ?_, ?_,by rw[oE];exact f1.df⟩ ?_ ?_ ?_)
     .rw[bL _ ak];exact f1.s0
     .rw[bL _ ak];exact f1.s2
     .exact bJ _ ak
     .exact below_setRow (e.mono ak) bW _
     .exact setRow_heap _ _ _ _ _ _ c
def dC(rest:Array ahj):List (Int×Int×Array ahj)->Int->Array ahj×Bool
 |[],_=>(rest,false)
 |(lo,hi,c)::l,r=>if lo<=r/\r<=hi then(c,true)else dC rest l r
def chain(S:FuncId->Array ahj->Option ahj)(n m:Nat)(T:ahm):Code->Option (List (Int×Int×Array ahj)×Array ahj)
 | .seq (.seq (.region _ ops1 false) (.cond (.tmp c) (.seq (.region _ ops2 false) .ret) .skip)) rest=>
   match pT n c ops1.toList,mZ S n m T ops2.toList,chain S n m T rest with
   |some (lo,hi),some (cs,true),some (l,fin)=>some ((lo,hi,cs)::l,fin)
   |_,_,_=>none
 | .seq (.region _ ops false) .ret=>
   match mZ S n m T ops.toList with
   |some (cs,false)=>some ([],cs)
   |_=>none
 |_=>none
theorem NI(C:jv P S){n m:Nat}{T:ahm}(D:(P.info? T).map (·.size)=some m){g:Nat}{r:Int}{old:Array ahj}(hold:old.size=m)
 (B:w.heap[g]? =some (.cells old T (0,0))) {Q:Exit->Act->ahh->Prop}:∀(c:Code) (l:List (Int×Int×Array ahj)) (fin:Array ahj) (a:Act),chain S n m T c=some (l,fin)->Fr n r g a->
 (∀z u,Fr n r g z->z.tmps.getD 3 undef=.bool (dC fin l r).2->ahi g w u->u.heap[g]? =some (.cells (dC fin l r).1 T (0,0))->Q .ret z u)->c.wp P Q a w:=by
 intro c
 induction c with
 |seq x y ihx ihy=>
  intro l fin a h A v;unfold chain at h;split at h
  case h_1 _ id1 ops1 c1 id2 ops2 rest hc=>
   cases hc;split at h
   case h_2=>cases h
   case h_1 lo hi cs l' fin' h1 h2 h3=>
    injection h with h
    injection h with e1 e2
    subst e1 e2;refine wp_seq_k fun K hK=> ?_;refine wp_seq (vb h1 A fun E o p=> ?_);refine wp_cond_split (t:=decide (lo<=r/\r<=hi)) p (fun s=> ?_) (fun s=> ?_)
    .have q:=of_decide_eq_true s
     simp only[s]at p;refine wp_seq (lS C h2 o hold B D fun j k f b e d=> ?_);refine wp_ret (v j k f ?_ e ?_)
     .simp only[dC,if_pos q];exact b
     .simp only[dC,if_pos q];exact d
    .have i:=of_decide_eq_false s
     refine wp_skip (hK _ _ (ihy l' fin' E h3 o fun j k f b e d=> ?_));refine v j k f ?_ e ?_
     .simp only[dC,if_neg i];exact b
     .simp only[dC,if_neg i];exact d
  case h_2 _ id ops hc=>
   cases hc;split at h
   case h_2=>cases h
   case h_1 cs h1=>
    injection h with h
    injection h with e1 e2
    subst e1 e2;refine wp_seq (lS C h1 A hold B D fun j k f b e d=> ?_);exact wp_ret (v j k f b e d)
  case h_3=>cases h
 |_=>intro l fin a h;simp[chain]at h
def opV(t:List ahj):Operand->ahj
 | .tmp i=>t.getD i undef
 | .const v=>v
 | .global g=> .pointer (some ⟨g,0,none⟩)
 | .func f=> .func (.func f) #[] #[]
theorem AD(t:List ahj)(ds:List Deferred)(x:Operand):(Act.mk t.toArray ds).eval x=opV t x:=by
 cases x<;>simp[Act.eval,opV]
def iM(S:FuncId->Array ahj->Option ahj):List Oper->List ahj->Option (List Oper×List ahj)
 |[],t=>some ([],t)
 |o::rest,t=>
  match o with
  |⟨some d,.call ⟨.value (.func f),xs,_⟩,_,_,_,none⟩=>
   match S f (xs.toList.map (opV t)).toArray with
   |some v=>iM S rest (t.set d v)
   |none=>none
  |_=>some (o::rest,t)
theorem qW{S:FuncId->Array ahj->Option ahj}(j:jv P S){ops:Array Oper}{Q:Exit->Act->ahh->Prop}{k:List Oper}{i:List ahj}{ds:List Deferred}{B:Nat}:∀(l:List Oper) (t:List ahj) (w:ahh),
 iM S l t=some (k,i)->B<=w.heap.size->(∀c,ahi B w c->wpList P ops Q k ⟨i.toArray,ds⟩ c)->wpList P ops Q l ⟨t.toArray,ds⟩ w
 |[],t,w,h,_,hk=>by
  simp[iM]at h;obtain⟨rfl,rfl⟩:=h;exact hk w (Below.refl _ _)
 |o::rest,t,w,h,hB,hk=>by
  unfold iM at h;split at h
  case h_1 d f xs YD ty p af=>
   split at h
   case h_2=>cases h
   case h_1 v hv=>
    obtain⟨m,q⟩:=j _ _ _ hv;have e:xs.map (Act.mk t.toArray ds).eval=(xs.toList.map (opV t)).toArray:=by
     apply Array.ext';simp[funext (AD t ds)]
    refine wpList_plain rfl fun K hK=>oa f xs YD rfl m (v:=v) (by rw[e];exact q w) (fun r b=>hK _ _ ?_)
    have n:(Act.put ⟨t.toArray,ds⟩ (some d) v)=⟨(t.set d v).toArray,ds⟩:=uL;simp only[n];exact qW j rest _ r h (Nat.le_trans hB b.size) fun c g=>hk c ((b.mono hB).trans g)
  case h_2=>
   injection h with h
   injection h with h1 h2
   subst h1 h2;exact hk w (Below.refl _ _)
def xQ(P:aho)(S:FuncId->Array ahj->Option ahj)(n m:Nat)(T:ahm)(b:ahj):Code->Option (Array ahj)
 | .seq (.region _ ops0 false) (.seq (.region _ ops false) .ret)=>
   match ops0.toList with
   |[⟨some 0,.alloc T0,_,_,_,none⟩]=>
    match iM S ops.toList (b::List.replicate (n-1) undef)with
    |some ([⟨some d,.build T1 parts,_,_,_,none⟩,⟨none,.store T2 (.tmp 0) (.tmp e),_,_,_,none⟩],t)=>
     match P.built T1 (parts.toList.map fun(i,x)=>(i,opV t x))with
     |some cs=>if T0=T/\T1=T/\T2=T/\e=d/\0<d/\d<n/\t.length=n/\cs.size=m/\cs.all (·.oneCell')=true then some cs else none
     |none=>none
    |_=>none
   |_=>none
 |_=>none
theorem gu(T:ahm)(b:o.op=.alloc T){i:TypeInfo}{z:ahj}(d:P.info? T=some i)(c:i.zero=some z)
 (h:K (a.put o.dst (.pointer (some ⟨w.heap.size,0,none⟩))) (w.alloc (.cells z.cells T))):o.wp P a w K Q:=by
 have e:(execOp a.eval o).run P w=.ok (.value (.pointer (some ⟨w.heap.size,0,none⟩))) (w.alloc (.cells z.cells T)):=by
  unfold execOp;simp only[b];simp[Instr.alloc,zeroValue,typeInfo,d,c,newVar,newRow,go_sem]
 unfold Oper.wp;rw[e];exact h
theorem nK{S:FuncId->Array ahj->Option ahj}:∀(l:List Oper) (t:List ahj) (i:List Oper) (b:List ahj),iM S l t=some (i,b)->(∀o∈l,o.dst≠some 0)->b.getD 0 undef=t.getD 0 undef/\b.length=t.length
 |[],t,i,b,h,_=>by simp[iM]at h;simp[h]
 |o::rest,t,i,b,h,h0=>by
  unfold iM at h;split at h
  case h_1 d f xs YD ty p af=>
   split at h
   case h_2=>cases h
   case h_1 v hv=>
    have j:d≠0:=fun e=>h0 _ (List.mem_cons_self ..) (by simp[e])
    obtain⟨c,g⟩:=nK rest _ _ _ h fun o k=>h0 o (List.mem_cons_of_mem _ k)
    refine⟨?_,by rw[g];simp⟩;rw[c];simp[List.getElem?_set,j]
  case h_2=>
   injection h with h
   injection h with c g
   subst c g;exact⟨rfl,rfl⟩
def Nh:Code->Bool
 | .seq _ (.seq (.region _ ops _) _)=>ops.toList.all (fun o=>o.dst !=some 0)
 |_=>false
theorem zI(M:jv P S){f:FuncId}{h:Func}{c:Code}{n m:Nat}{T:ahm}{cs:Array ahj}{i:TypeInfo}{z:ahj}
 (H:P.funcs[f]? =some h) (hb:h.body=some c) (hn:h.ntmps=n) (we:0<n) (N:h.results=#[.cell 0 T]) (y:P.info? T=some i) (Q:i.zero=some z) (W:z.cells.size=m) (q:i.size=m)
 {d:TypeDesc} (U:P.underlying T=some d) (O:(match d with| .struct _| .array _ _=>true|_=>false)=true)
 (R:∀r,xQ P S n m T r c=some cs)
 (E:Nh c=true) (w:ahh):
 ahk P f #[] w fun e L=>e=.returned (.agg cs)/\ahi w.heap.size w L:=by
 refine calls_of_wp H hb ?_;have b:=R (.pointer (some ⟨w.heap.size,0,none⟩));unfold xQ at b;split at b
 case h_2=>cases b
 case h_1 id0 ops0 id1 ops=>
  split at b
  case h_2=>cases b
  case h_1 T0 eD p0 af0 hops0=>
   split at b
   case h_2=>cases b
   case h_1 d1 T1 parts fJ p1 af1 T2 e1 ty2 p2 af2 t eW=>
    split at b
    case h_2=>cases b
    case h_1 sL hbuilt=>
     split at b
     case isFalse=>cases b
     case isTrue hd'=>
      injection b with Ba
      subst Ba;obtain⟨rfl,rfl,rfl,rfl,F,u,Y,q4,Z⟩:=hd'
      replace F: @LT.lt Nat _ 0 e1:=F
      replace u: @LT.lt Nat _ e1 n:=u
      have s:(#[]++Array.replicate (h.ntmps-(#[]:Array ahj).size) undef)=(List.replicate n undef).toArray:=(by simp[hn]);rw[s];refine wp_seq (wp_region_list ?_);rw[hops0];refine wpList_plain rfl fun K hK=>gu _ rfl y Q (hK _ _ (wpList_nil ?_))
      have J:(Act.put ⟨(List.replicate n undef).toArray,[]⟩ (some 0) (.pointer (some ⟨w.heap.size,0,none⟩)))=⟨(Value.pointer (some ⟨w.heap.size,0,none⟩)::List.replicate (n-1) undef).toArray,[]⟩:=by
       obtain⟨k,rfl⟩:∃k,n=k+1:=⟨n-1,ak⟩;simp[Act.put,List.replicate_succ]
      simp only[J];have V:∀o∈ops.toList,o.dst≠some 0:=fun o X=>by
       have:=List.all_eq_true.1 E o X;simpa using this
      obtain⟨D,hlen⟩:=nK _ _ _ _ eW V;have l:(w.alloc (.cells z.cells T2)).heap[w.heap.size]? =some (.cells z.cells T2 (0,0)):=heap_alloc_new w _;refine wp_seq (wp_region_list (qW M (B:=w.heap.size+1) _ _ _ eW aQ fun G p=> ?_));have aK:e1<t.length:=by rw[Y];exact u
      have j:G.heap[w.heap.size]? =some (.cells z.cells T2 (0,0)):=(p.block _ ak).trans l;have g:(Array.map (fun(x:Nat×Operand)=>(x.1,(Act.mk t.toArray []).eval x.2)) parts).toList=parts.toList.map fun(x:Nat×Operand)=>(x.1,opV t x.2):=by
       simp[funext (AD t [])]
      refine wpList_build rfl T2 parts rfl (by rw[g];rw[hbuilt];rfl) ?_;rw[g,hbuilt];have I:(Act.put ⟨t.toArray,[]⟩ (some e1) (.agg sL)).eval (.tmp e1)=.agg sL:=bJ _ Fe;have r:(Act.put ⟨t.toArray,[]⟩ (some e1) (.agg sL)).eval (.tmp 0)=.pointer (some ⟨w.heap.size,0,none⟩):=by
       show Array.getD _ _ _=_;rw[bL _ ak];simpa using D
      refine wpList_plain rfl fun K1 C=>wp_store_row _ (.tmp 0) (.tmp e1) rfl w.heap.size sL r I T2 z.cells j (by rw[y];simp[q,q4]) ak Z (C _ _ (wpList_nil (wp_ret ?_)))
      have A:(G.setRow w.heap.size sL).heap[w.heap.size]? =some (.cells sL T2 (0,0)):=setRow_heap _ _ _ _ _ _ j;refine bodyPost_ret (v:=.agg sL) (results_cell_row N _ _ w.heap.size T2 sL (0,0) d r A U O (by rw[y];simp[q,q4])) rfl ⟨rfl, ?_⟩;exact below_setRow (((Below.refl _ _).alloc bW _).trans (p.mono ak)) bW _
def qy(T:ahm):Code->Bool
 | .seq (.region _ ops false) _=>match ops.toList with
   |[⟨some 2,.alloc T0,_,_,_,none⟩,⟨some 3,.assign (.const (.bool false)),_,_,_,none⟩]=>decide (T0=T)
   |_=>false
 |_=>false
def xu:Code->Code
 | .seq _ c=>c
 |c=>c
theorem zU(F:jv P S){f:FuncId}{h:Func}{c0:Code}{n m:Nat}{T:ahm}{l:List (Int×Int×Array ahj)}{fin:Array ahj}{i:TypeInfo}{z:ahj}
 (E:P.funcs[f]? =some h) (M:h.body=some c0) (O:h.ntmps=n) (N:4<=n) (G:h.results=#[.cell 2 T,.tmp 3]) (C:P.info? T=some i) (I:i.zero=some z) (t:z.cells.size=m) (y:i.size=m)
 {d:TypeDesc} (L:P.underlying T=some d) (H:(match d with| .struct _| .array _ _=>true|_=>false)=true)
 (b:qy T c0=true) (J:chain S n m T (xu c0)=some (l,fin)) (B:∀r,(dC fin l r).1.size=m) (r:Int) (w:ahh):
 ahk P f #[.int .i32 r] w fun e s=>e=.returned (.tuple #[.agg (dC fin l r).1,.bool (dC fin l r).2])/\ahi w.heap.size w s:=by
 unfold qy at b;split at b
 case h_2=>cases b
 case h_1 id ops c=>
  split at b
  case h_2=>cases b
  case h_1 T0 t0 p0 f0 t1 p1 f1 hops=>
   obtain rfl:=of_decide_eq_true b;refine calls_of_wp E M ?_;refine wp_seq (wp_region_list ?_);rw[hops];obtain⟨k,rfl⟩:∃k,n=k+4:=⟨n-4,ak⟩;have q:(#[Value.int .i32 r]++Array.replicate (h.ntmps-(#[Value.int .i32 r]:Array ahj).size) undef)=(Value.int .i32 r::undef::undef::undef::List.replicate k undef).toArray:=by
    rw[O];simp[List.replicate_succ]
   rw[q];refine wpList_plain rfl fun K hK=>gu _ rfl C I (hK _ _ ?_)
   refine wpList_plain rfl fun Q x=>dq (.const (.bool false)) (.inr rfl) (x _ _ (wpList_nil ?_))
   have j:(w.alloc (.cells z.cells T0)).heap[w.heap.size]? =some (.cells z.cells T0 (0,0)):=heap_alloc_new w _;have D:(P.info? T0).map (·.size)=some m:=by rw[C];simp[y]
   refine NI F D t j c l fin _ J (r:=r) ⟨uL,uL,uL,rfl⟩ fun R s o p u A=> ?_;have g:=run_loadVar_row (P:=P) s w.heap.size T0 T0 _ (0,0) d A L H (by rw[D,B r]);refine bodyPost_ret (v:=.tuple #[.agg (dC fin l r).1,.bool (dC fin l r).2]) ?_ o.df ⟨rfl, ?_⟩
   .rw[results_cell_tmp G,o.s2,p]
    simp[asAddr,g,Result.andThen]
   .exact((Below.refl _ _).alloc bW _).trans u
def uk(n:Nat)(T:ahm):List Oper->Option (FuncId×Nat×Nat)
 |[⟨some d1,.move (.tmp 0),_,_,_,none⟩,⟨some d2,.call ⟨.value (.func f),xs,_⟩,_,_,_,none⟩,⟨some d3,.move (.tmp e2),_,_,_,none⟩,
   ⟨some d4,.extract (.tmp e3) 0,_,_,_,none⟩,⟨some d5,.extract (.tmp e3') 1,_,_,_,none⟩,⟨some v,.alloc T1,_,_,_,none⟩,
   ⟨none,.store T2 (.tmp v') (.tmp e4),_,_,_,none⟩,⟨some b,.assign (.tmp e5),_,_,_,none⟩]=>
  match xs.toList with
  |[.tmp e1]=>
   if e1=d1/\e2=d2/\e3=d3/\e3'=d3/\e4=d4/\e5=d5/\v'=v/\T1=T/\T2=T/\Nat.ble 4 d1=true/\Nat.ble 4 d2=true/\Nat.ble 4 d3=true/\Nat.ble 4 d4=true/\Nat.ble 4 d5=true/\Nat.ble 4 v=true/\Nat.ble 4 b=true/\
    Nat.blt d1 n=true/\Nat.blt d2 n=true/\Nat.blt d3 n=true/\Nat.blt d4 n=true/\Nat.blt d5 n=true/\Nat.blt v n=true/\Nat.blt b n=true/\
    d4≠d3/\d5≠d4/\v≠d4/\v≠d5/\b≠v then some (f,v,b)else none
  |_=>none
 |_=>none
theorem tK{t:Operand}{i:Nat}{vs:Array ahj}(c:o.op=.extract t i) (b:a.eval t=.tuple vs) (d:vs[i]? =some v) (h:K (a.put o.dst v) w):o.wp P a w K Q:=by
 have e:(execOp a.eval o).run P w=.ok (.value v) w:=by
  unfold execOp;simp only[c,b];simp[Instr.extract,d,go_sem]
 unfold Oper.wp;rw[e];exact h
theorem yl{m:Nat}{T:ahm}{f:FuncId}{v b:Nat}{id:Nat}{c:Array ahj}{t:Bool}(h:uk n T ops.toList=some (f,v,b)) (he:iN P f) (hc:∀w,ahk P f #[.int .i32 r] w fun e u=>e=.returned (.tuple #[.agg c,.bool t])/\ahi w.heap.size w u)
 (Ba:c.size=m) (C:c.all (·.oneCell')=true) (B:Fr n r g a) {i:TypeInfo} {z:ahj} (hi:P.info? T=some i) (hz:i.zero=some z) (pM:z.cells.size=m) (gH:i.size=m)
 (hQ:∀A u k,Fr n r g A->A.tmps.getD v undef=.pointer (some ⟨k,0,none⟩)->A.tmps.getD b undef=.bool t->w.heap.size<=k->ahi w.heap.size w u->u.heap[k]? =some (.cells c T (0,0))->Q .normal A u):
 (Code.region id ops false).wp P Q a w:=by
 refine wp_region_list ?_;obtain⟨l⟩:=ops;simp only at h;unfold uk at h;split at h
 case h_2=>cases h
 case h_1 l d1 t1 p1 f1 d2 f' xs YD t2 p2 f2 d3 e2 t3 p3 f3 d4 e3 t4 p4 f4 d5 e3' t5 p5 f5 v' T1 t6 p6 f6 T2 v'' e4 t7 p7 f7 b' e5 t8 p8 f8=>
  split at h
  case h_2=>cases h
  case h_1 _ e1 p=>
   split at h
   case isFalse=>cases h
   case isTrue hd=>
    injection h with h
    injection h with h1 h
    injection h with h2 h3
    subst h1 h2 h3;obtain⟨rfl,rfl,rfl,rfl,rfl,rfl,rfl,rfl,rfl,q1,U,q3,q4,q5,V,F,S,M,N,s4,s5,O,s7,n1,n2,n3,n4,n5⟩:=hd
    replace q1:=Nat.le_of_ble_eq_true q1
    replace U:=Nat.le_of_ble_eq_true U
    replace q3:=Nat.le_of_ble_eq_true q3
    replace q4:=Nat.le_of_ble_eq_true q4
    replace q5:=Nat.le_of_ble_eq_true q5
    replace V:=Nat.le_of_ble_eq_true V
    replace F:=Nat.le_of_ble_eq_true F
    replace S:=Nat.le_of_ble_eq_true S
    replace M:=Nat.le_of_ble_eq_true M
    replace N:=Nat.le_of_ble_eq_true N
    replace s4:=Nat.le_of_ble_eq_true s4
    replace s5:=Nat.le_of_ble_eq_true s5
    replace O:=Nat.le_of_ble_eq_true O
    replace s7:=Nat.le_of_ble_eq_true s7
    obtain⟨xl⟩:=xs;simp only at p;subst p;have sz:=B.size;refine wpList_plain rfl fun K1 X=>dq (.tmp 0) (.inl rfl) (X _ _ ?_)
    have L:a.eval (.tmp 0)=.int .i32 r:=B.s0;rw[L];have g1:=B.put (d:=e1) (v:=.int .i32 r) q1;have v1:(a.put (some e1) (.int .i32 r)).tmps.getD e1 undef=.int .i32 r:=bJ _ (by rw[sz];exact S);simp only;generalize a.put (some e1) (.int .i32 r)=x at*;have sz1:=g1.size;have p:(#[Operand.tmp e1]).map x.eval=#[.int .i32 r]:=by
     have:x.eval (.tmp e1)=.int .i32 r:=v1;simp[this]
    refine wpList_plain rfl fun K2 hK2=>oa f' _ YD rfl he (v:=.tuple #[.agg c,.bool t]) (by rw[p];exact hc w) (fun j o=>hK2 _ _ ?_)
    have g2:=g1.put (d:=e2) (v:=.tuple #[.agg c,.bool t]) U;have v2:(x.put (some e2) (.tuple #[.agg c,.bool t])).tmps.getD e2 undef=.tuple #[.agg c,.bool t]:=bJ _ (by rw[sz1];exact M);simp only;generalize x.put (some e2) (.tuple #[.agg c,.bool t])=a2 at*;have Z:=g2.size;refine wpList_plain rfl fun K3 K=>dq (.tmp e2) (.inl rfl) (K _ _ ?_)
    have ev3:a2.eval (.tmp e2)=.tuple #[.agg c,.bool t]:=v2;rw[ev3];have g3:=g2.put (d:=e3') (v:=.tuple #[.agg c,.bool t]) q3;have v3:(a2.put (some e3') (.tuple #[.agg c,.bool t])).tmps.getD e3' undef=.tuple #[.agg c,.bool t]:=bJ _ (by rw[Z];exact N);simp only;generalize a2.put (some e3') (.tuple #[.agg c,.bool t])=J at*;have E:=g3.size;refine wpList_plain rfl fun K4 hK4=>tK (v:=.agg c) rfl v3 rfl (hK4 _ _ ?_)
    have g4:=g3.put (d:=e4) (v:=.agg c) q4;have v43:(J.put (some e4) (.agg c)).tmps.getD e3' undef=.tuple #[.agg c,.bool t]:=by rw[bL _ (Ne.symm n1)];exact v3
    have D:(J.put (some e4) (.agg c)).tmps.getD e4 undef=.agg c:=bJ _ (by rw[E];exact s4);simp only;generalize J.put (some e4) (.agg c)=a4 at*;have sz4:=g4.size;refine wpList_plain rfl fun K5 hK5=>tK (v:=.bool t) rfl v43 rfl (hK5 _ _ ?_)
    have g5:=g4.put (d:=e5) (v:=.bool t) q5;have G:(a4.put (some e5) (.bool t)).tmps.getD e4 undef=.agg c:=by rw[bL _ (Ne.symm n2)];exact D
    have v55:(a4.put (some e5) (.bool t)).tmps.getD e5 undef=.bool t:=bJ _ (by rw[sz4];exact s5);simp only;generalize a4.put (some e5) (.bool t)=y at*;have R:=g5.size;refine wpList_plain rfl fun K6 hK6=>gu _ rfl hi hz (hK6 _ _ ?_)
    have g6:=g5.put (d:=v'') (v:=.pointer (some ⟨j.heap.size,0,none⟩)) V;have I:(y.put (some v'') (.pointer (some ⟨j.heap.size,0,none⟩))).tmps.getD e4 undef=.agg c:=by rw[bL _ (Ne.symm n3)];exact G
    have v65:(y.put (some v'') (.pointer (some ⟨j.heap.size,0,none⟩))).tmps.getD e5 undef=.bool t:=by rw[bL _ (Ne.symm n4)];exact v55
    have s:(y.put (some v'') (.pointer (some ⟨j.heap.size,0,none⟩))).tmps.getD v'' undef=.pointer (some ⟨j.heap.size,0,none⟩):=bJ _ (by rw[R];exact O);simp only;generalize y.put (some v'') (.pointer (some ⟨j.heap.size,0,none⟩))=a6 at*;have H:=g6.size;have q:(j.alloc (.cells z.cells T2)).heap[j.heap.size]? =some (.cells z.cells T2 (0,0)):=heap_alloc_new j _;refine wpList_plain rfl fun K7 Y=>wp_store_row T2 (.tmp v'') (.tmp e4) rfl j.heap.size c s I T2 z.cells q (by rw[hi];simp[gH,Ba]) ak C (Y _ _ ?_)
    refine wpList_plain rfl fun K8 W=>dq (.tmp e5) (.inr rfl) (W _ _ (wpList_nil ?_))
    have e7:(a6.put none undef)=a6:=rfl;simp only[e7];have ev8:a6.eval (.tmp e5)=.bool t:=v65;rw[ev8];refine hQ _ _ j.heap.size (g6.put F) ?_ ?_ o.size ?_ (setRow_heap _ _ _ _ _ _ q)
    .rw[bL _ (Ne.symm n5)];exact s
    .exact bJ _ (by rw[H];exact s7)
    .exact below_setRow (o.alloc o.size _) o.size _
def wJ(n:Nat)(T:ahm)(v:Nat):List Oper->Bool
 |[⟨some d,.load T1 (.tmp v'),_,_,_,none⟩,⟨none,.store T2 (.tmp 2) (.tmp d'),_,_,_,none⟩,⟨some 3,.assign (.const (.bool true)),_,_,_,none⟩]=>
  decide (v'=v/\d'=d/\T1=T/\T2=T/\Nat.ble 4 d=true/\Nat.blt d n=true)
 |_=>false
def vC(n b:Nat)(c:Nat):List Oper->Bool
 |[⟨some c',.move (.tmp b'),_,_,_,none⟩]=>decide (c'=c/\b'=b/\Nat.ble 4 c=true/\Nat.blt c n=true/\c≠b)
 |_=>false
def dV(fin:Array ahj)(A:FuncId->Int->Array ahj×Bool):List FuncId->Int->Array ahj×Bool
 |[],_=>(fin,false)
 |f::fs,r=>if(A f r).2 then((A f r).1,true)else dV fin A fs r
def pW(S:FuncId->Array ahj->Option ahj)(n m:Nat)(T:ahm):Code->Option (List FuncId×Array ahj)
 | .seq (.region _ ops1 false) (.seq (.seq (.region _ ops2 false) (.cond (.tmp c) (.seq (.region _ ops3 false) .ret) .skip)) rest)=>
   match uk n T ops1.toList,pW S n m T rest with
   |some (f,v,b),some (fs,fin)=>if vC n b c ops2.toList=true/\wJ n T v ops3.toList=true/\c≠v then some (f::fs,fin)else none
   |_,_=>none
 | .seq (.region _ ops false) .ret=>
   match mZ S n m T ops.toList with
   |some (cs,false)=>some ([],cs)
   |_=>none
 |_=>none
theorem J3(hS:jv P S){n m:Nat}(hn:4<=n){T:ahm}{i:TypeInfo}{z:ahj}(hi:P.info? T=some i)(hz:i.zero=some z)(pM:z.cells.size=m)(I:i.size=m)
 {d:TypeDesc} (hu:P.underlying T=some d) (hd:(match d with| .struct _| .array _ _=>true|_=>false)=true)
 {A:FuncId->Int->Array ahj×Bool} {g:Nat} {r:Int} {w0:ahh} {Q:Exit->Act->ahh->Prop} (l:∀f,(A f r).1.size=m/\(A f r).1.all (·.oneCell')=true):
 ∀(k:Nat) (c:Code) (u:List FuncId) (fin:Array ahj) (a:Act) (w:ahh) (old:Array ahj),u.length=k->pW S n m T c=some (u,fin)->
 (∀f∈u,iN P f/\∀w,ahk P f #[.int .i32 r] w fun e B=>e=.returned (.tuple #[.agg (A f r).1,.bool (A f r).2])/\ahi w.heap.size w B)->
 Fr n r g a->old.size=m->w.heap[g]? =some (.cells old T (0,0))->ahi g w0 w->
 (∀L B,Fr n r g L->L.tmps.getD 3 undef=.bool (dV fin A u r).2->ahi g w0 B->B.heap[g]? =some (.cells (dV fin A u r).1 T (0,0))->Q .ret L B)->c.wp P Q a w:=by
 have hT:(P.info? T).map (·.size)=some m:=by rw[hi];simp[I]
 intro k
 induction k with
 |zero=>
  intro c u fin a w old hk h _ R hold M x N;obtain rfl:=List.eq_nil_of_length_eq_zero hk;unfold pW at h;split at h
  case h_1=>
   split at h
   .split at h
    .injection h with h;injection h with h1 h2;cases h1
    .cases h
   .cases h
  case h_2 id ops=>
   split at h
   case h_2=>cases h
   case h_1 cs h1=>
    injection h with h
    injection h with _ e2
    subst e2;refine wp_seq (lS hS h1 R hold M hT fun H w2 p y ef dw=> ?_);exact wp_ret (N H w2 p y (x.trans ef) dw)
  case h_3=>cases h
 |succ k ih=>
  intro c u fin a w old hk h G R hold M x N;unfold pW at h;split at h
  case h_2=>
   split at h
   .injection h with h;injection h with h1 h2;subst h1;cases hk
   .cases h
  case h_3=>cases h
  case h_1 id1 ops1 id2 ops2 c1 id3 ops3 rest=>
   split at h
   case h_2=>cases h
   case h_1 f v b fs' fin' h1 h2=>
    split at h
    case isFalse=>cases h
    case isTrue hh=>
     obtain⟨C,F,U⟩:=hh;injection h with h
     injection h with e1 e2
     subst e1 e2;obtain⟨he,hc⟩:=G f (List.mem_cons_self ..);have D:g<w.heap.size:=(Array.getElem?_eq_some_iff.1 M).1;refine wp_seq (yl h1 he hc (l f).1 (l f).2 R hi hz pM I fun O Z kb J hv1 Y uX s X=> ?_);have o:Z.heap[g]? =some (.cells old T (0,0)):=(s.block _ D).trans M;have q:ahi g w0 Z:=x.trans (s.mono ak);refine wp_seq_k fun K hK=> ?_;refine wp_seq (wp_region_list ?_);obtain⟨l2⟩:=ops2;simp only at C;unfold vC at C;split at C
     case h_2=>cases C
     case h_1 l2 c' b' t2 p2 f2=>
      obtain⟨rfl,rfl,u1,u2,u3⟩:=of_decide_eq_true C
      replace u1:=Nat.le_of_ble_eq_true u1
      replace u2:=Nat.le_of_ble_eq_true u2
      refine wpList_plain rfl fun K1 JN=>dq (.tmp b') (.inl rfl) (JN _ _ (wpList_nil ?_))
      have ev:O.eval (.tmp b')=.bool (A f r).2:=Y;rw[ev];have p:=J.put (d:=c') (v:=.bool (A f r).2) u1;have pZ:(O.put (some c') (.bool (A f r).2)).tmps.getD c' undef=.bool (A f r).2:=bJ _ (by rw[J.size];exact u2);have y:(O.put (some c') (.bool (A f r).2)).tmps.getD v undef=.pointer (some ⟨kb,0,none⟩):=by rw[bL _ (Ne.symm U)];exact hv1
      simp only[Exit.then];generalize O.put (some c') (.bool (A f r).2)=H at*;refine wp_cond_split (t:=(A f r).2) pZ (fun E=> ?_) (fun E=> ?_)
      .obtain⟨l3⟩:=ops3
       simp only at F;unfold wJ at F;split at F
       case h_2=>cases F
       case h_1 l3 d1 T1 v' t3 p3 f3 T2 Yp t4 p4 f4 t5 p5 f5=>
        obtain⟨rfl,rfl,rfl,rfl,y1,y2⟩:=of_decide_eq_true F
        replace y1:=Nat.le_of_ble_eq_true y1
        replace y2:=Nat.le_of_ble_eq_true y2
        refine wp_seq (wp_region_list ?_);have dY:kb≠g:=ak;refine wpList_load_row rfl _ (.tmp v') rfl kb y _ _ (0,0) d X hu hd (by rw[hT,(l f).1]) ?_;have j:=p.put (d:=Yp) (v:=.agg (A f r).1) y1;have hv3:(H.put (some Yp) (.agg (A f r).1)).tmps.getD Yp undef=.agg (A f r).1:=bJ _ (by rw[p.size];exact y2);simp only;generalize H.put (some Yp) (.agg (A f r).1)=V at*;refine wpList_plain rfl fun K3 W=>wp_store_row _ (.tmp 2) (.tmp Yp) rfl g (A f r).1 j.s2 hv3 _ old o (by rw[hT,(l f).1]) (by rw[hold,(l f).1]) (l f).2 (W _ _ ?_)
        refine wpList_plain rfl fun K4 hK4=>dq (.const (.bool true)) (.inr rfl) (hK4 _ _ (wpList_nil (wp_ret ?_)))
        have e7:(V.put none undef)=V:=rfl;simp only[e7];have ev8:V.eval (.const (.bool true))=.bool true:=rfl;rw[ev8];refine N _ _ ⟨by rw[size_put];exact j.size,by rw[bL _ (by omega)];exact j.s0,by rw[bL _ (by omega)];exact j.s2,by rw[oE];exact j.df⟩ ?_ ?_ ?_
        .rw[bJ _ (by rw[j.size];omega)]
         simp only[dV,E,if_true]
        .exact below_setRow q bW _
        .simp only[dV,E,if_true]
         exact setRow_heap _ _ _ _ _ _ o
      .refine wp_skip (hK _ _ (ih rest fs' fin' H Z old Bl h2 (fun f' Gi=>G f' (List.mem_cons_of_mem _ Gi)) p hold o q fun L B x1 x2 x3 x4=> ?_))
       refine N L B x1 ?_ x3 ?_
       .simp only[dV,E];exact x2
       .simp only[dV,E];exact x4
theorem CY(Q:jv P S){f:FuncId}{l:Func}{c0:Code}{n m:Nat}{T:ahm}{h:List FuncId}{fin:Array ahj}{i:TypeInfo}{z:ahj}
 (O:P.funcs[f]? =some l) (V:l.body=some c0) (W:l.ntmps=n) (I:4<=n) (R:l.results=#[.cell 2 T,.tmp 3]) (E:P.info? T=some i) (L:i.zero=some z) (s:z.cells.size=m) (x:i.size=m)
 {d:TypeDesc} (N:P.underlying T=some d) (J:(match d with| .struct _| .array _ _=>true|_=>false)=true)
 (b:qy T c0=true) (M:pW S n m T (xu c0)=some (h,fin)) {A:FuncId->Int->Array ahj×Bool} (r:Int) (o:∀f,(A f r).1.size=m/\(A f r).1.all (·.oneCell')=true) (u:fin.size=m)
 (q:∀f∈h,iN P f/\∀w,ahk P f #[.int .i32 r] w fun e p=>e=.returned (.tuple #[.agg (A f r).1,.bool (A f r).2])/\ahi w.heap.size w p) (w:ahh):
 ahk P f #[.int .i32 r] w fun e p=>e=.returned (.tuple #[.agg (dV fin A h r).1,.bool (dV fin A h r).2])/\ahi w.heap.size w p:=by
 have B:(dV fin A h r).1.size=m:=by
  clear q M
  induction h with
  |nil=>exact u
  |cons f h ih=>
   simp only[dV];split
   .exact(o f).1
   .exact ih
 unfold qy at b;split at b
 case h_2=>cases b
 case h_1 id ops c=>
  split at b
  case h_2=>cases b
  case h_1 T0 t0 p0 f0 t1 p1 f1 hops=>
   obtain rfl:=of_decide_eq_true b;refine calls_of_wp O V ?_;refine wp_seq (wp_region_list ?_);rw[hops];obtain⟨k,rfl⟩:∃k,n=k+4:=⟨n-4,ak⟩;have D:(#[Value.int .i32 r]++Array.replicate (l.ntmps-(#[Value.int .i32 r]:Array ahj).size) undef)=(Value.int .i32 r::undef::undef::undef::List.replicate k undef).toArray:=by
    rw[W];simp[List.replicate_succ]
   rw[D];refine wpList_plain rfl fun K hK=>gu _ rfl E L (hK _ _ ?_)
   refine wpList_plain rfl fun X G=>dq (.const (.bool false)) (.inr rfl) (G _ _ (wpList_nil ?_))
   have t:(w.alloc (.cells z.cells T0)).heap[w.heap.size]? =some (.cells z.cells T0 (0,0)):=heap_alloc_new w _;have U:(P.info? T0).map (·.size)=some m:=by rw[E];simp[x]
   refine J3 Q I E L s x N J (w0:=w) (g:=w.heap.size) (r:=r) o h.length c h fin _ _ z.cells rfl M q ⟨uL,uL,uL,rfl⟩ s t ((Below.refl _ _).alloc bW _) fun Y p y C F H=> ?_;have j:=run_loadVar_row (P:=P) p w.heap.size T0 T0 _ (0,0) d H N J (by rw[U,B]);refine bodyPost_ret (v:=.tuple #[.agg (dV fin A h r).1,.bool (dV fin A h r).2]) ?_ y.df ⟨rfl,F⟩
   .rw[results_cell_tmp R,y.s2,C]
    simp[asAddr,j,Result.andThen]
end
end Go.Proofs.YtklncadpkniojaaGreatDoor
