/- Part of LineFills. -/
import Derived.Test.YtijcgdkpconjcaaGreatDoorAa
import Derived.WalkKit
import Derived.ProofKit
import Derived.Laws.CopyOwn
import Derived.Test.YtijcgdkpconjcaaGreatDoorRows
import Derived.Lib.Hide
import Derived.StillTailTactics
import Derived.BigRegion
namespace Go.Proofs.YtijcgdkpconjcaaGreatDoor
open Go.ChangeShapes Go.WideShapes Go.ChangeAt Go.RowKit Go.Proofs.Tryz
open Go renaming World->EE,Value->EN,Calls->GK,TypeId->IQ,Ending->IS,Program->I3
open Go.RowKit renaming Below->EI
open Option renaming some->OH,none->OJ
open Bool renaming true->OX,false->OZ
open Go.Value renaming bool->PF,pointer->PK,tuple->P8,agg->Q4
open Go.Ending renaming returned->RE
open Go.Obj renaming cells->RM
open Go.Value renaming int->ae
open Go.IntKind renaming i64->aj
set_option linter.all false
set_option maxRecDepth 100000
set_option maxHeartbeats 16000000
variable{d g n:Nat}{o:Oper}{K:Act->EE->Prop}{Q:Exit->Act->EE->Prop}{ops:Array Oper}{r:Int}{v:EN}{S:FuncId->Array EN->Option EN}{f:FuncId}
def jw(P:I3)(f:FuncId):Prop:=∀(args:Array EN) (w:EE),(callFunc f args).run P w=.ok (.enter f args) w
def jO(P:I3)(S:FuncId->Array EN->Option EN):Prop:=
 ∀f xs v,S f xs=OH v->jw P f/\∀w,GK P f xs w λe b=>e=RE v/\EI w.heap.size w b
section
variable{P:I3}{a:Act}{w:EE}
def eW(v:EN)(h:d<a.tmps.size):(a.put (OH d) v).tmps.getD d undef=v:=by
 simp[Act.put,h]
def dh{e:Nat}(v:EN)(h:e≠d):(a.put (OH d) v).tmps.getD e undef=a.tmps.getD e undef:=by
 simp[Act.put,Array.getElem?_setIfInBounds,Ne.symm h]
def size_put(d:Option Nat)(v:EN):(a.put d v).tmps.size=a.tmps.size:=by
 cases d<;>simp[Act.put]
def oG(d:Option Nat)(v:EN):(a.put d v).defers=a.defers:=by
 cases d<;>simp[Act.put]
def dE(x:Operand)(b:o.op=.move x∨o.op=.assign x)(h:K (a.put o.dst (a.eval x)) w):o.wp P a w K Q:=by
 unfold Oper.wp execOp;rcases b with b|b<;>simp only[b]<;>exact h
def oP(f:FuncId)(xs:Array Operand)(c:Array IQ)
 (d:o.op=.call {callee:=.value (.func f),args:=xs,argTypes:=c}) (h:jw P f) {v:EN}
 (j:GK P f (xs.map a.eval) w λe b=>e=RE v/\EI w.heap.size w b)
 (m:∀b,EI w.heap.size w b->K (a.put o.dst v) b):o.wp P a w K Q:=by
 obtain⟨dst,n,p,pos,after,g⟩:=o;simp only at d;subst d;unfold Oper.wp;rw[execOp_call_go];have l: #[]++Array.map a.eval xs++ #[]=Array.map a.eval xs:=aT;rw[l,h,Oper.upon_enter];exact j.mono λe b ⟨i,k⟩=>by subst i;exact m b k
def wpList_store_row{rest:List Oper}(c:o.guard=OJ)(b:IQ)(x y:Operand)(i:o.op=.store b x y)
 (g:Nat) (cells:Array EN) (j:a.eval x=PK (OH ⟨g,0,OJ⟩)) (d:a.eval y=Q4 cells)
 (t:IQ) (old:Array EN) (f:w.heap[g]? =OH (RM old t (0,0))) (hi:(P.info? b).map (·.size)=OH cells.size)
 (hold:old.size=cells.size) (e:cells.all (·.oneCell')=OX)
 (h:wpList P ops Q rest (a.put o.dst undef) (w.setRow g cells)):wpList P ops Q (o::rest) a w:=
 wpList_plain c λ_ hK=>wp_store_row b x y i g cells j d t old f hi hold e (hK _ _ h)
def qx(n c:Nat):List Oper->Option (Int×Int)
 |[⟨OH d1,.move (.tmp 0),_,_,_,OJ⟩,⟨OH d2,.binOp .geq _ (.tmp e1) (.const (.int .i32 lo)) _,_,_,_,OJ⟩,⟨OH d3,.move (.tmp e2),_,_,_,OJ⟩,
   ⟨OH d4,.move (.tmp 0),_,_,_,OH (2,OX)⟩,⟨OH d5,.binOp .leq _ (.tmp e4) (.const (.int .i32 hi)) _,_,_,_,OH (2,OX)⟩,
   ⟨OH d6,.pick (.tmp e3) (.tmp e5) (.const (PF OZ)),_,_,_,OJ⟩]=>
  if e1=d1/\e2=d2/\e3=d3/\e4=d4/\e5=d5/\c=d6/\4<=d1/\d1<d2/\d2<d3/\d3<d4/\d4<d5/\d5<d6/\d6<n then OH (lo,hi)else OJ
 |_=>OJ
structure Fr(n:Nat)(r:Int)(g:Nat)(a:Act):Prop where
 size:a.tmps.size=n
 s0:a.tmps.getD 0 undef=.int .i32 r
 s2:a.tmps.getD 2 undef=PK (OH ⟨g,0,OJ⟩)
 df:a.defers=[]
def Fr.put(h:Fr n r g a)(b:4<=d):Fr n r g (a.put (OH d) v):=
 ⟨by rw[size_put];exact h.size,by rw[dh _ (by omega)];exact h.s0,by rw[dh _ (by omega)];exact h.s2,by rw[oG];exact h.df⟩
def Fr.go(h:Fr n r g a)(i:4<=d)(f:d<n):∃b:Act,b=a.put (OH d) v/\Fr n r g b/\b.tmps.getD d undef=v/\∀e,e≠d->b.tmps.getD e undef=a.tmps.getD e undef:=
 ⟨_,rfl,h.put i,eW _ (by rw[h.size];exact f),λ_ c=>dh _ c⟩
def abv{t b:IQ}{x y:Operand}{c:Int}(g:o.op=.binOp .geq t x y b) (f:a.eval x=.int .i32 r) (d:a.eval y=.int .i32 c) (h:K (a.put o.dst (PF (decide (c<=r)))) w):o.wp P a w K Q:=by
 have e:(execOp a.eval o).run P w=.ok (.value (PF (decide (c<=r)))) w:=by
  unfold execOp;simp only[g,f,d];simp[go_sem]
 unfold Oper.wp;rw[e];exact h
def aaB{t b:IQ}{x y:Operand}{c:Int}(g:o.op=.binOp .leq t x y b) (f:a.eval x=.int .i32 r) (d:a.eval y=.int .i32 c) (h:K (a.put o.dst (PF (decide (r<=c)))) w):o.wp P a w K Q:=by
 have e:(execOp a.eval o).run P w=.ok (.value (PF (decide (r<=c)))) w:=by
  unfold execOp;simp only[g,f,d];simp[go_sem]
 unfold Oper.wp;rw[e];exact h
def Vn{c x y:Operand}{b:Bool}(f:o.op=.pick c x y) (d:a.eval c=PF b) (h:K (a.put o.dst (if b then a.eval x else a.eval y)) w):o.wp P a w K Q:=by
 have e:(execOp a.eval o).run P w=.ok (.value (if b then a.eval x else a.eval y)) w:=by
  unfold execOp;simp only[f,d];cases b<;>simp[go_sem]
 unfold Oper.wp;rw[e];exact h
def gJ(h:a.tmps.getD d undef=v)(b:d<a.tmps.size):a.tmps[d]? =OH v:=by
 rw[<-h];simp[b]
def tt{j:Nat}{b c:Bool}(g:o.guard=OH (j,c))(f:(ops[j]?).bind (·.dst)=OH d)(e:a.tmps[d]? =OH (PF b)):
 Region.wanted o (yielded ops a.tmps)=(b==c):=by
 simp[Region.wanted,g,yielded,f,e]
def vI{c:Nat}{lo hi:Int}{id:Nat}(h:qx n c ops.toList=OH (lo,hi))(O:Fr n r g a)
 (I:∀u,Fr n r g u->u.tmps.getD c undef=PF (decide (lo<=r/\r<=hi))->Q .normal u w):(Code.region id ops OZ).wp P Q a w:=by
 refine wp_region_list ?_;obtain⟨l⟩:=ops;simp only at h;unfold qx at h;split at h
 case h_2=>cases h
 case h_1 l d1 t1 p1 f1 d2 t2 e1 lo' t2' u2 p2 f2 d3 e2 u3 p3 f3 d4 u4 p4 f4 d5 t5 e4 Dp t5' u5 p5 f5 d6 e3 e5 u6 p6 f6=>
  split at h
  case isFalse=>cases h
  case isTrue hd=>
   injection h with h
   injection h with h1 h2
   subst h1 h2;obtain⟨rfl,rfl,rfl,rfl,rfl,rfl,y,J,H,q4,N,R,s⟩:=hd
   replace y: @LE.le Nat _ 4 e1:=y
   replace J: @LT.lt Nat _ e1 e2:=J
   replace H: @LT.lt Nat _ e2 e3:=H
   replace q4: @LT.lt Nat _ e3 e4:=q4
   replace N: @LT.lt Nat _ e4 e5:=N
   replace R: @LT.lt Nat _ e5 c:=R
   replace s: @LT.lt Nat _ c n:=s
   have k2: @LE.le Nat _ 4 e2:=aq;have Y: @LE.le Nat _ 4 e3:=aq;have k4: @LE.le Nat _ 4 e4:=aq;have M: @LE.le Nat _ 4 e5:=aq;refine wpList_plain rfl λK1 B=>dE (.tmp 0) (.inl rfl) (B _ _ ?_)
   obtain⟨a1,E1,f1,T,-⟩:=O.go (v:=a.eval (.tmp 0)) y aq;simp only[<-E1];refine wpList_plain rfl λK2 p=>abv (r:=r) (c:=lo') rfl (T.trans O.s0) rfl (p _ _ ?_)
   obtain⟨a2,E2,f2,v2,-⟩:=f1.go (v:=PF (decide (lo'<=r))) k2 aq;simp only[<-E2];refine wpList_plain rfl λK3 D=>dE (.tmp e2) (.inl rfl) (D _ _ ?_)
   obtain⟨S,U,f3,v3,-⟩:=f2.go (v:=a2.eval (.tmp e2)) Y aq;simp only[<-U]
   replace v3:=v3.trans v2
   have fin:∀b:Bool,decide (lo'<=r)=b->∀f,Fr n r g f->f.tmps.getD e3 undef=PF b->(b=OX->f.tmps.getD e5 undef=PF (decide (r<=Dp)))->∀K:Act->EE->Prop,(∀x,Fr n r g x->x.tmps.getD c undef=PF (decide (lo'<=r/\r<=Dp))->K x w)->(⟨OH c,.pick (.tmp e3) (.tmp e5) (.const (PF OZ)),u6,p6,f6,OJ⟩:Oper).wp P f w K Q:=λb L f f5 C t K hK=>by
    refine Vn (b:=b) rfl C ?_;obtain⟨a6,Z,g6,v6,-⟩:=f5.go (v:=if b=OX then f.eval (.tmp e5)else f.eval (.const (PF OZ))) (d:=c) aq s;simp only[<-Z];refine hK a6 g6 (v6.trans ?_);cases b
    .have o:=of_decide_eq_false L
     simp[o];rfl
    .have o:=of_decide_eq_true L
     simp only[if_true];exact(t rfl).trans (by simp[o])
   by_cases i:lo'<=r
   .simp only[i,decide_true]at v3
    refine wpList_step λW m=> ?_;rw[tt (d:=e3) (b:=OX) rfl rfl (gJ v3 (by rw[f3.size];omega))];refine dE (.tmp 0) (.inl rfl) (m _ _ ?_);obtain⟨X,A,f4,v4,q⟩:=f3.go (v:=S.eval (.tmp 0)) k4 aq;simp only[<-A];have e:=(q e3 aq).trans v3;refine wpList_step λK5 j=> ?_;rw[tt (d:=e3) (b:=OX) rfl rfl (gJ e (by rw[f4.size];omega))];refine aaB (r:=r) (c:=Dp) rfl (v4.trans f3.s0) rfl (j _ _ ?_);obtain⟨f,F,f5,V,z⟩:=f4.go (v:=PF (decide (r<=Dp))) M aq;simp only[<-F];exact wpList_plain rfl λK6 k=>fin OX (decide_eq_true i) f f5 ((z e3 aq).trans e) (λ_=>V) _ λx G E=>k _ _ (wpList_nil (I x G E))
   .simp only[i,decide_false]at v3
    refine wpList_step λW m=> ?_;rw[tt (d:=e3) (b:=OZ) rfl rfl (gJ v3 (by rw[f3.size];omega))];refine m _ _ ?_;obtain⟨X,A,f4,-,q⟩:=f3.go (v:=undef) k4 aq;simp only[<-A];have e:=(q e3 aq).trans v3;refine wpList_step λK5 j=> ?_;rw[tt (d:=e3) (b:=OZ) rfl rfl (gJ e (by rw[f4.size];omega))];refine j _ _ ?_;obtain⟨f,F,f5,-,z⟩:=f4.go (v:=undef) M aq;simp only[<-F];exact wpList_plain rfl λK6 k=>fin OZ (decide_eq_false i) f f5 ((z e3 aq).trans e) (λh=>fD) _ λx G E=>k _ _ (wpList_nil (I x G E))
def opC:Operand->Option EN
 | .const v=>OH v
 |_=>OJ
def na:List Operand->Option (List EN)
 |[]=>OH []
 |x::xs=>match opC x,na xs with
  |some v,OH vs=>OH (v::vs)
  |_,_=>OJ
def nS:∀{xs:List Operand} {vs:List EN},na xs=OH vs->xs.map a.eval=vs
 |[],vs,h=>by simp[na]at h;simp[h]
 |x::xs,vs,h=>by
  unfold na at h;split at h
  .rename_i v d b c
   injection h with h
   subst h;rw[List.map_cons,nS c];cases x<;>simp[opC]at b
   subst b;rfl
  .cases h
def mY(S:FuncId->Array EN->Option EN)(n m:Nat)(T:IQ):List Oper->Option (Array EN×Bool)
 |[⟨OH d1,.call ⟨.value (.func f),xs,_⟩,_,_,_,OJ⟩,⟨OJ,.store c (.tmp 2) (.tmp d),_,_,_,OJ⟩,⟨OH 3,.assign (.const (PF b)),_,_,_,OJ⟩]=>
  match na xs.toList with
  |some vs=>match S f vs.toArray with
   |some (Q4 cs)=>if d=d1/\c=T/\4<=d1/\d1<n/\cs.size=m/\cs.all (·.oneCell')=OX then OH (cs,b)else OJ
   |_=>OJ
  |none=>OJ
 |_=>OJ
def lD(I:jO P S){n m:Nat}{T:IQ}{ops:Array Oper}{cs:Array EN}{b:Bool}{g K:Nat}{r:Int}{Q:Exit->Act->EE->Prop}
 (h:mY S n m T ops.toList=OH (cs,b)) (z:Fr n r g a) {old:Array EN} (hold:old.size=m) (y:w.heap[g]? =OH (RM old T (0,0))) (G:(P.info? T).map (·.size)=OH m)
 (D:∀u o,Fr n r g u->u.tmps.getD 3 undef=PF b->EI g w o->o.heap[g]? =OH (RM cs T (0,0))->Q .normal u o):(Code.region K ops OZ).wp P Q a w:=by
 refine wp_region_list ?_;obtain⟨l⟩:=ops;simp only at h;unfold mY at h;split at h
 case h_2=>cases h
 case h_1 l d1 f xs ats t1 p1 f1 T' e1 u2 p2 f2 b' u3 p3 f3=>
  split at h
  case h_2=>cases h
  case h_1 _ vs hvs=>
   split at h
   case h_2=>cases h
   case h_1 _ tp yE=>
    split at h
    case isFalse=>cases h
    case isTrue hd=>
     injection h with h
     injection h with h1 h2
     subst h1 h2;obtain⟨rfl,rfl,i,A,C,q4⟩:=hd
     replace i: @LE.le Nat _ 4 e1:=i
     replace A: @LT.lt Nat _ e1 n:=A
     obtain⟨H,J⟩:=I _ _ _ yE;have N:=z.size;have p:g<w.heap.size:=(Array.getElem?_eq_some_iff.1 y).1;have t:xs.map a.eval=vs.toArray:=by
      have:=nS (a:=a) hvs;apply Array.ext';simpa using this
     refine wpList_plain rfl λL q=>oP f xs ats rfl H (v:=Q4 tp) (by rw[t];exact J w) (λE c=>q _ _ ?_)
     have f1:=z.put (d:=e1) (v:=Q4 tp) i;have B:(a.put (OH e1) (Q4 tp)).tmps.getD e1 undef=Q4 tp:=eW _ aq;simp only;generalize a.put (OH e1) (Q4 tp)=x at*;have k:=f1.size;have e:E.heap[g]? =OH (RM old T' (0,0)):=(c.block g p).trans y;refine wpList_plain rfl λO j=>wp_store_row T' (.tmp 2) (.tmp e1) rfl g tp f1.s2 B T' old e (by rw[G,C]) aq q4 (j _ _ ?_)
     refine wpList_plain rfl λM s=>dE (.const (PF b')) (.inr rfl) (s _ _ ?_)
     have F:(x.put OJ undef)=x:=rfl;simp only[F];refine wpList_nil (D _ _ ⟨by rw[size_put];exact k, ?_, ?_,by rw[oG];exact f1.df⟩ ?_ ?_ ?_)
     .rw[dh _ aq];exact f1.s0
     .rw[dh _ aq];exact f1.s2
     .exact eW _ aq
     .exact below_setRow (c.mono aq) cr _
     .exact setRow_heap _ _ _ _ _ _ e
def dM(rest:Array EN):List (Int×Int×Array EN)->Int->Array EN×Bool
 |[],_=>(rest,OZ)
 |(lo,hi,c)::l,r=>if lo<=r/\r<=hi then(c,OX)else dM rest l r
def chain(S:FuncId->Array EN->Option EN)(n m:Nat)(T:IQ):Code->Option (List (Int×Int×Array EN)×Array EN)
 | .seq (.seq (.region _ ops1 OZ) (.cond (.tmp c) (.seq (.region _ ops2 OZ) .ret) .skip)) rest=>
   match qx n c ops1.toList,mY S n m T ops2.toList,chain S n m T rest with
   |some (lo,hi),OH (cs,OX),OH (l,fin)=>OH ((lo,hi,cs)::l,fin)
   |_,_,_=>OJ
 | .seq (.region _ ops OZ) .ret=>
   match mY S n m T ops.toList with
   |some (cs,OZ)=>OH ([],cs)
   |_=>OJ
 |_=>OJ
def Nq(D:jO P S){n m:Nat}{T:IQ}(C:(P.info? T).map (·.size)=OH m){g:Nat}{r:Int}{old:Array EN}(hold:old.size=m)
 (A:w.heap[g]? =OH (RM old T (0,0))) {Q:Exit->Act->EE->Prop}:∀(c:Code) (l:List (Int×Int×Array EN)) (fin:Array EN) (a:Act),chain S n m T c=OH (l,fin)->Fr n r g a->
 (∀z v,Fr n r g z->z.tmps.getD 3 undef=PF (dM fin l r).2->EI g w v->v.heap[g]? =OH (RM (dM fin l r).1 T (0,0))->Q .ret z v)->c.wp P Q a w:=by
 intro c
 induction c with
 |seq x y ihx ihy=>
  intro l fin a h B u;unfold chain at h;split at h
  case h_1 _ id1 ops1 c1 id2 ops2 rest hc=>
   cases hc;split at h
   case h_2=>cases h
   case h_1 lo hi cs l' fin' h1 h2 h3=>
    injection h with h
    injection h with e1 e2
    subst e1 e2;refine wp_seq_k λK hK=> ?_;refine wp_seq (vI h1 B λE o q=> ?_);refine wp_cond_split (t:=decide (lo<=r/\r<=hi)) q (λs=> ?_) (λs=> ?_)
    .have j:=of_decide_eq_true s
     simp only[s]at q;refine wp_seq (lD D h2 o hold A C λk p e d f b=> ?_);refine wp_ret (u k p e ?_ f ?_)
     .simp only[dM,if_pos j];exact d
     .simp only[dM,if_pos j];exact b
    .have i:=of_decide_eq_false s
     refine wp_skip (hK _ _ (ihy l' fin' E h3 o λk p e d f b=> ?_));refine u k p e ?_ f ?_
     .simp only[dM,if_neg i];exact d
     .simp only[dM,if_neg i];exact b
  case h_2 _ id ops hc=>
   cases hc;split at h
   case h_2=>cases h
   case h_1 cs h1=>
    injection h with h
    injection h with e1 e2
    subst e1 e2;refine wp_seq (lD D h1 B hold A C λk p e d f b=> ?_);exact wp_ret (u k p e d f b)
  case h_3=>cases h
 |_=>intro l fin a h;simp[chain]at h
def opV(t:List EN):Operand->EN
 | .tmp i=>t.getD i undef
 | .const v=>v
 | .global g=> PK (OH ⟨g,0,OJ⟩)
 | .func f=> .func (.func f) #[] #[]
def Aj(t:List EN)(ds:List Deferred)(x:Operand):(Act.mk t.toArray ds).eval x=opV t x:=by
 cases x<;>simp[Act.eval,opV]
def jj(S:FuncId->Array EN->Option EN):List Oper->List EN->Option (List Oper×List EN)
 |[],t=>OH ([],t)
 |o::rest,t=>
  match o with
  |⟨OH d,.call ⟨.value (.func f),xs,_⟩,_,_,_,OJ⟩=>
   match S f (xs.toList.map (opV t)).toArray with
   |some v=>jj S rest (t.set d v)
   |none=>OJ
  |_=>OH (o::rest,t)
def sf{S:FuncId->Array EN->Option EN}(i:jO P S){ops:Array Oper}{Q:Exit->Act->EE->Prop}{k:List Oper}{j:List EN}{ds:List Deferred}{B:Nat}:∀(l:List Oper) (t:List EN) (w:EE),
 jj S l t=OH (k,j)->B<=w.heap.size->(∀c,EI B w c->wpList P ops Q k ⟨j.toArray,ds⟩ c)->wpList P ops Q l ⟨t.toArray,ds⟩ w
 |[],t,w,h,_,hk=>by
  simp[jj]at h;obtain⟨rfl,rfl⟩:=h;exact hk w (Below.refl _ _)
 |o::rest,t,w,h,hB,hk=>by
  unfold jj at h;split at h
  case h_1 d f xs ats ty p af=>
   split at h
   case h_2=>cases h
   case h_1 v hv=>
    obtain⟨n,q⟩:=i _ _ _ hv;have e:xs.map (Act.mk t.toArray ds).eval=(xs.toList.map (opV t)).toArray:=by
     apply Array.ext';simp[funext (Aj t ds)]
    refine wpList_plain rfl λK hK=>oP f xs ats rfl n (v:=v) (by rw[e];exact q w) (λr b=>hK _ _ ?_)
    have m:(Act.put ⟨t.toArray,ds⟩ (OH d) v)=⟨(t.set d v).toArray,ds⟩:=vb;simp only[m];exact sf i rest _ r h (Nat.le_trans hB b.size) λc g=>hk c ((b.mono hB).trans g)
  case h_2=>
   injection h with h
   injection h with h1 h2
   subst h1 h2;exact hk w (Below.refl _ _)
def xT(P:I3)(S:FuncId->Array EN->Option EN)(n m:Nat)(T:IQ)(b:EN):Code->Option (Array EN)
 | .seq (.region _ ops0 OZ) (.seq (.region _ ops OZ) .ret)=>
   match ops0.toList with
   |[⟨OH 0,.alloc T0,_,_,_,OJ⟩]=>
    match jj S ops.toList (b::List.replicate (n-1) undef)with
    |some ([⟨OH d,.build T1 parts,_,_,_,OJ⟩,⟨OJ,.store T2 (.tmp 0) (.tmp e),_,_,_,OJ⟩],t)=>
     match P.built T1 (parts.toList.map fun(i,x)=>(i,opV t x))with
     |some cs=>if T0=T/\T1=T/\T2=T/\e=d/\0<d/\d<n/\t.length=n/\cs.size=m/\cs.all (·.oneCell')=OX then OH cs else OJ
     |none=>OJ
    |_=>OJ
   |_=>OJ
 |_=>OJ
def gV(T:IQ)(c:o.op=.alloc T){i:TypeInfo}{z:EN}(hi:P.info? T=OH i)(b:i.zero=OH z)
 (h:K (a.put o.dst (PK (OH ⟨w.heap.size,0,OJ⟩))) (w.alloc (RM z.cells T))):o.wp P a w K Q:=by
 have e:(execOp a.eval o).run P w=.ok (.value (PK (OH ⟨w.heap.size,0,OJ⟩))) (w.alloc (RM z.cells T)):=by
  unfold execOp;simp only[c];simp[Instr.alloc,zeroValue,typeInfo,hi,b,newVar,newRow,go_sem]
 unfold Oper.wp;rw[e];exact h
def nU{S:FuncId->Array EN->Option EN}:∀(l:List Oper) (t:List EN) (i:List Oper) (b:List EN),jj S l t=OH (i,b)->(∀o∈l,o.dst≠OH 0)->b.getD 0 undef=t.getD 0 undef/\b.length=t.length
 |[],t,i,b,h,_=>by simp[jj]at h;simp[h]
 |o::rest,t,i,b,h,h0=>by
  unfold jj at h;split at h
  case h_1 d f xs ats ty p af=>
   split at h
   case h_2=>cases h
   case h_1 v hv=>
    have j:d≠0:=λe=>h0 _ (List.mem_cons_self ..) (by simp[e])
    obtain⟨c,g⟩:=nU rest _ _ _ h λo k=>h0 o (List.mem_cons_of_mem _ k)
    refine⟨?_,by rw[g];simp⟩;rw[c];simp[List.getElem?_set,j]
  case h_2=>
   injection h with h
   injection h with c g
   subst c g;exact⟨rfl,rfl⟩
def Q3:Code->Bool
 | .seq _ (.seq (.region _ ops _) _)=>ops.toList.all (λo=>o.dst !=OH 0)
 |_=>OZ
def zQ(V:jO P S){f:FuncId}{h:Func}{c:Code}{n m:Nat}{T:IQ}{cs:Array EN}{i:TypeInfo}{z:EN}
 (N:P.funcs[f]? =OH h) (M:h.body=OH c) (Y:h.ntmps=n) (I:0<n) (X:h.results=#[.cell 0 T]) (hi:P.info? T=OH i) (L:i.zero=OH z) (pZ:z.cells.size=m) (q:i.size=m)
 {d:TypeDesc} (Z:P.underlying T=OH d) (G:(match d with| .struct _| .array _ _=>OX|_=>OZ)=OX)
 (W:∀r,xT P S n m T r c=OH cs)
 (s:Q3 c=OX) (w:EE):
 GK P f #[] w λe O=>e=RE (Q4 cs)/\EI w.heap.size w O:=by
 refine calls_of_wp N M ?_;have b:=W (PK (OH ⟨w.heap.size,0,OJ⟩));unfold xT at b;split at b
 case h_2=>cases b
 case h_1 id0 ops0 id1 ops=>
  split at b
  case h_2=>cases b
  case h_1 T0 fg p0 af0 hops0=>
   split at b
   case h_2=>cases b
   case h_1 d1 T1 parts gv p1 af1 T2 e1 ty2 p2 af2 t fB=>
    split at b
    case h_2=>cases b
    case h_1 tp hbuilt=>
     split at b
     case isFalse=>cases b
     case isTrue hd'=>
      injection b with yE
      subst yE;obtain⟨rfl,rfl,rfl,rfl,E,u,J,q4,Q⟩:=hd'
      replace E: @LT.lt Nat _ 0 e1:=E
      replace u: @LT.lt Nat _ e1 n:=u
      have C:(#[]++Array.replicate (h.ntmps-(#[]:Array EN).size) undef)=(List.replicate n undef).toArray:=(by simp[Y]);rw[C];refine wp_seq (wp_region_list ?_);rw[hops0];refine wpList_plain rfl λK hK=>gV _ rfl hi L (hK _ _ (wpList_nil ?_))
      have U:(Act.put ⟨(List.replicate n undef).toArray,[]⟩ (OH 0) (PK (OH ⟨w.heap.size,0,OJ⟩)))=⟨(Value.pointer (OH ⟨w.heap.size,0,OJ⟩)::List.replicate (n-1) undef).toArray,[]⟩:=by
       obtain⟨k,rfl⟩:∃k,n=k+1:=⟨n-1,aq⟩;simp[Act.put,List.replicate_succ]
      simp only[U];have R:∀o∈ops.toList,o.dst≠OH 0:=λo ho=>by
       have:=List.all_eq_true.1 s o ho;simpa using this
      obtain⟨D,hlen⟩:=nU _ _ _ _ fB R;have p:(w.alloc (RM z.cells T2)).heap[w.heap.size]? =OH (RM z.cells T2 (0,0)):=heap_alloc_new w _;refine wp_seq (wp_region_list (sf V (B:=w.heap.size+1) _ _ _ fB aT λF j=> ?_));have aG:e1<t.length:=by rw[J];exact u
      have l:F.heap[w.heap.size]? =OH (RM z.cells T2 (0,0)):=(j.block _ aq).trans p;have g:(Array.map (fun(x:Nat×Operand)=>(x.1,(Act.mk t.toArray []).eval x.2)) parts).toList=parts.toList.map fun(x:Nat×Operand)=>(x.1,opV t x.2):=by
       simp[funext (Aj t [])]
      refine wpList_build rfl T2 parts rfl (by rw[g];rw[hbuilt];rfl) ?_;rw[g,hbuilt];have H:(Act.put ⟨t.toArray,[]⟩ (OH e1) (Q4 tp)).eval (.tmp e1)=Q4 tp:=eW _ CG;have r:(Act.put ⟨t.toArray,[]⟩ (OH e1) (Q4 tp)).eval (.tmp 0)=PK (OH ⟨w.heap.size,0,OJ⟩):=by
       show Array.getD _ _ _=_;rw[dh _ aq];simpa using D
      refine wpList_plain rfl λK1 y=>wp_store_row _ (.tmp 0) (.tmp e1) rfl w.heap.size tp r H T2 z.cells l (by rw[hi];simp[q,q4]) aq Q (y _ _ (wpList_nil (wp_ret ?_)))
      have A:(F.setRow w.heap.size tp).heap[w.heap.size]? =OH (RM tp T2 (0,0)):=setRow_heap _ _ _ _ _ _ l;refine bodyPost_ret (v:=Q4 tp) (results_cell_row X _ _ w.heap.size T2 tp (0,0) d r A Z G (by rw[hi];simp[q,q4])) rfl ⟨rfl, ?_⟩;exact below_setRow (((Below.refl _ _).alloc cr _).trans (j.mono aq)) cr _
def qu(T:IQ):Code->Bool
 | .seq (.region _ ops OZ) _=>match ops.toList with
   |[⟨OH 2,.alloc T0,_,_,_,OJ⟩,⟨OH 3,.assign (.const (PF OZ)),_,_,_,OJ⟩]=>decide (T0=T)
   |_=>OZ
 |_=>OZ
def yC:Code->Code
 | .seq _ c=>c
 |c=>c
def AG(I:jO P S){f:FuncId}{j:Func}{c0:Code}{n m:Nat}{T:IQ}{l:List (Int×Int×Array EN)}{fin:Array EN}{i:TypeInfo}{z:EN}
 (H:P.funcs[f]? =OH j) (G:j.body=OH c0) (M:j.ntmps=n) (E:4<=n) (L:j.results=#[.cell 2 T,.tmp 3]) (hi:P.info? T=OH i) (F:i.zero=OH z) (y:z.cells.size=m) (B:i.size=m)
 {d:TypeDesc} (N:P.underlying T=OH d) (D:(match d with| .struct _| .array _ _=>OX|_=>OZ)=OX)
 (b:qu T c0=OX) (J:chain S n m T (yC c0)=OH (l,fin)) (u:∀r,(dM fin l r).1.size=m) (r:Int) (w:EE):
 GK P f #[.int .i32 r] w λe q=>e=RE (P8 #[Q4 (dM fin l r).1,PF (dM fin l r).2])/\EI w.heap.size w q:=by
 unfold qu at b;split at b
 case h_2=>cases b
 case h_1 id ops c=>
  split at b
  case h_2=>cases b
  case h_1 T0 t0 p0 f0 t1 p1 f1 hops=>
   obtain rfl:=of_decide_eq_true b;refine calls_of_wp H G ?_;refine wp_seq (wp_region_list ?_);rw[hops];obtain⟨k,rfl⟩:∃k,n=k+4:=⟨n-4,aq⟩;have x:(#[Value.int .i32 r]++Array.replicate (j.ntmps-(#[Value.int .i32 r]:Array EN).size) undef)=(Value.int .i32 r::undef::undef::undef::List.replicate k undef).toArray:=by
    rw[M];simp[List.replicate_succ]
   rw[x];refine wpList_plain rfl λK hK=>gV _ rfl hi F (hK _ _ ?_)
   refine wpList_plain rfl λO t=>dE (.const (PF OZ)) (.inr rfl) (t _ _ (wpList_nil ?_))
   have o:(w.alloc (RM z.cells T0)).heap[w.heap.size]? =OH (RM z.cells T0 (0,0)):=heap_alloc_new w _;have C:(P.info? T0).map (·.size)=OH m:=by rw[hi];simp[B]
   refine Nq I C y o c l fin _ J (r:=r) ⟨vb,vb,vb,rfl⟩ λQ q h p A s=> ?_;have g:=run_loadVar_row (P:=P) q w.heap.size T0 T0 _ (0,0) d s N D (by rw[C,u r]);refine bodyPost_ret (v:=P8 #[Q4 (dM fin l r).1,PF (dM fin l r).2]) ?_ h.df ⟨rfl, ?_⟩
   .rw[results_cell_tmp L,h.s2,p]
    simp[asAddr,g,Result.andThen]
   .exact((Below.refl _ _).alloc cr _).trans A
def ud(n:Nat)(T:IQ):List Oper->Option (FuncId×Nat×Nat)
 |[⟨OH d1,.move (.tmp 0),_,_,_,OJ⟩,⟨OH d2,.call ⟨.value (.func f),xs,_⟩,_,_,_,OJ⟩,⟨OH d3,.move (.tmp e2),_,_,_,OJ⟩,
   ⟨OH d4,.extract (.tmp e3) 0,_,_,_,OJ⟩,⟨OH d5,.extract (.tmp e3') 1,_,_,_,OJ⟩,⟨OH v,.alloc T1,_,_,_,OJ⟩,
   ⟨OJ,.store T2 (.tmp v') (.tmp e4),_,_,_,OJ⟩,⟨OH b,.assign (.tmp e5),_,_,_,OJ⟩]=>
  match xs.toList with
  |[.tmp e1]=>
   if e1=d1/\e2=d2/\e3=d3/\e3'=d3/\e4=d4/\e5=d5/\v'=v/\T1=T/\T2=T/\Nat.ble 4 d1=OX/\Nat.ble 4 d2=OX/\Nat.ble 4 d3=OX/\Nat.ble 4 d4=OX/\Nat.ble 4 d5=OX/\Nat.ble 4 v=OX/\Nat.ble 4 b=OX/\
    Nat.blt d1 n=OX/\Nat.blt d2 n=OX/\Nat.blt d3 n=OX/\Nat.blt d4 n=OX/\Nat.blt d5 n=OX/\Nat.blt v n=OX/\Nat.blt b n=OX/\
    d4≠d3/\d5≠d4/\v≠d4/\v≠d5/\b≠v then OH (f,v,b)else OJ
  |_=>OJ
 |_=>OJ
def uT{t:Operand}{i:Nat}{vs:Array EN}(d:o.op=.extract t i) (c:a.eval t=P8 vs) (b:vs[i]? =OH v) (h:K (a.put o.dst v) w):o.wp P a w K Q:=by
 have e:(execOp a.eval o).run P w=.ok (.value v) w:=by
  unfold execOp;simp only[d,c];simp[Instr.extract,b,go_sem]
 unfold Oper.wp;rw[e];exact h
def yz{m:Nat}{T:IQ}{v b:Nat}{id:Nat}{c:Array EN}{t:Bool}(h:ud n T ops.toList=OH (f,v,b)) (he:jw P f) (hc:∀w,GK P f #[.int .i32 r] w λe q=>e=RE (P8 #[Q4 c,PF t])/\EI w.heap.size w q)
 (J:c.size=m) (V:c.all (·.oneCell')=OX) (hf:Fr n r g a) {i:TypeInfo} {z:EN} (hi:P.info? T=OH i) (hz:i.zero=OH z) (pZ:z.cells.size=m) (Y:i.size=m)
 (hQ:∀s q k,Fr n r g s->s.tmps.getD v undef=PK (OH ⟨k,0,OJ⟩)->s.tmps.getD b undef=PF t->w.heap.size<=k->EI w.heap.size w q->q.heap[k]? =OH (RM c T (0,0))->Q .normal s q):
 (Code.region id ops OZ).wp P Q a w:=by
 refine wp_region_list ?_;obtain⟨l⟩:=ops;simp only at h;unfold ud at h;split at h
 case h_2=>cases h
 case h_1 l d1 t1 p1 f1 d2 f' xs ats t2 p2 f2 d3 e2 t3 p3 f3 d4 e3 t4 p4 f4 d5 e3' t5 p5 f5 v' T1 t6 p6 f6 T2 v'' e4 t7 p7 f7 b' e5 t8 p8 f8=>
  split at h
  case h_2=>cases h
  case h_1 _ e1 d=>
   split at h
   case isFalse=>cases h
   case isTrue hd=>
    injection h with h
    injection h with h1 h
    injection h with h2 h3
    subst h1 h2 h3;obtain⟨rfl,rfl,rfl,rfl,rfl,rfl,rfl,rfl,rfl,H,D,y,q4,K,R,E,x,I,S,u,B,F,G,n1,n2,n3,n4,n5⟩:=hd
    replace H:=Nat.le_of_ble_eq_true H
    replace D:=Nat.le_of_ble_eq_true D
    replace y:=Nat.le_of_ble_eq_true y
    replace q4:=Nat.le_of_ble_eq_true q4
    replace K:=Nat.le_of_ble_eq_true K
    replace R:=Nat.le_of_ble_eq_true R
    replace E:=Nat.le_of_ble_eq_true E
    replace x:=Nat.le_of_ble_eq_true x
    replace I:=Nat.le_of_ble_eq_true I
    replace S:=Nat.le_of_ble_eq_true S
    replace u:=Nat.le_of_ble_eq_true u
    replace B:=Nat.le_of_ble_eq_true B
    replace F:=Nat.le_of_ble_eq_true F
    replace G:=Nat.le_of_ble_eq_true G
    obtain⟨xl⟩:=xs;simp only at d;subst d;refine wpList_plain rfl λK1 M=>dE (.tmp 0) (.inl rfl) (M _ _ ?_)
    obtain⟨Z,E1,g1,v1,-⟩:=hf.go (v:=a.eval (.tmp 0)) H x;simp only[<-E1];have d:(#[Operand.tmp e1]).map Z.eval=#[.int .i32 r]:=by
     have:Z.eval (.tmp e1)=.int .i32 r:=v1.trans hf.s0;simp[this]
    refine wpList_plain rfl λK2 A=>oP f' _ ats rfl he (v:=P8 #[Q4 c,PF t]) (by rw[d];exact hc w) (λp j=>A _ _ ?_)
    obtain⟨a2,E2,g2,v2,-⟩:=g1.go (v:=P8 #[Q4 c,PF t]) D I;simp only[<-E2];refine wpList_plain rfl λK3 N=>dE (.tmp e2) (.inl rfl) (N _ _ ?_)
    obtain⟨a3,E3,g3,v3,-⟩:=g2.go (v:=a2.eval (.tmp e2)) y S;simp only[<-E3]
    replace v3:=v3.trans v2
    refine wpList_plain rfl λK4 U=>uT (v:=Q4 c) rfl v3 rfl (U _ _ ?_)
    obtain⟨a4,E4,g4,v4,o4⟩:=g3.go (v:=Q4 c) q4 u;simp only[<-E4];refine wpList_plain rfl λK5 L=>uT (v:=PF t) rfl ((o4 _ (Ne.symm n1)).trans v3) rfl (L _ _ ?_)
    obtain⟨a5,E5,g5,v5,o5⟩:=g4.go (v:=PF t) K B;simp only[<-E5];refine wpList_plain rfl λK6 O=>gV _ rfl hi hz (O _ _ ?_)
    obtain⟨X,E6,g6,v6,o6⟩:=g5.go (v:=PK (OH ⟨p.heap.size,0,OJ⟩)) R F;simp only[<-E6];have o:(p.alloc (RM z.cells T2)).heap[p.heap.size]? =OH (RM z.cells T2 (0,0)):=heap_alloc_new p _;refine wpList_plain rfl λK7 C=>wp_store_row T2 (.tmp v'') (.tmp e4) rfl p.heap.size c v6 ((o6 _ (Ne.symm n3)).trans ((o5 _ (Ne.symm n2)).trans v4)) T2 z.cells o (by rw[hi];simp[Y,J]) aq V (C _ _ ?_)
    refine wpList_plain rfl λK8 W=>dE (.tmp e5) (.inr rfl) (W _ _ (wpList_nil ?_))
    have e7:(X.put OJ undef)=X:=rfl;simp only[e7];obtain⟨a8,E8,g8,v8,o8⟩:=g6.go (v:=X.eval (.tmp e5)) E G;simp only[<-E8];exact hQ _ _ p.heap.size g8 ((o8 _ (Ne.symm n5)).trans v6) (v8.trans ((o6 _ (Ne.symm n4)).trans v5)) j.size (below_setRow (j.alloc j.size _) j.size _) (setRow_heap _ _ _ _ _ _ o)
def wG(n:Nat)(T:IQ)(v:Nat):List Oper->Bool
 |[⟨OH d,.load T1 (.tmp v'),_,_,_,OJ⟩,⟨OJ,.store T2 (.tmp 2) (.tmp d'),_,_,_,OJ⟩,⟨OH 3,.assign (.const (PF OX)),_,_,_,OJ⟩]=>
  decide (v'=v/\d'=d/\T1=T/\T2=T/\Nat.ble 4 d=OX/\Nat.blt d n=OX)
 |_=>OZ
def wL(n b:Nat)(c:Nat):List Oper->Bool
 |[⟨OH c',.move (.tmp b'),_,_,_,OJ⟩]=>decide (c'=c/\b'=b/\Nat.ble 4 c=OX/\Nat.blt c n=OX/\c≠b)
 |_=>OZ
def eZ(fin:Array EN)(A:FuncId->Int->Array EN×Bool):List FuncId->Int->Array EN×Bool
 |[],_=>(fin,OZ)
 |f::fs,r=>if(A f r).2 then((A f r).1,OX)else eZ fin A fs r
def qB(S:FuncId->Array EN->Option EN)(n m:Nat)(T:IQ):Code->Option (List FuncId×Array EN)
 | .seq (.region _ ops1 OZ) (.seq (.seq (.region _ ops2 OZ) (.cond (.tmp c) (.seq (.region _ ops3 OZ) .ret) .skip)) rest)=>
   match ud n T ops1.toList,qB S n m T rest with
   |some (f,v,b),OH (fs,fin)=>if wL n b c ops2.toList=OX/\wG n T v ops3.toList=OX/\c≠v then OH (f::fs,fin)else OJ
   |_,_=>OJ
 | .seq (.region _ ops OZ) .ret=>
   match mY S n m T ops.toList with
   |some (cs,OZ)=>OH ([],cs)
   |_=>OJ
 |_=>OJ
def JF(hS:jO P S){n m:Nat}(hn:4<=n){T:IQ}{i:TypeInfo}{z:EN}(hi:P.info? T=OH i)(hz:i.zero=OH z)(pZ:z.cells.size=m)(L:i.size=m)
 {d:TypeDesc} (hu:P.underlying T=OH d) (hd:(match d with| .struct _| .array _ _=>OX|_=>OZ)=OX)
 {A:FuncId->Int->Array EN×Bool} {g:Nat} {r:Int} {w0:EE} {Q:Exit->Act->EE->Prop} (l:∀f,(A f r).1.size=m/\(A f r).1.all (·.oneCell')=OX):
 ∀(k:Nat) (c:Code) (u:List FuncId) (fin:Array EN) (a:Act) (w:EE) (old:Array EN),u.length=k->qB S n m T c=OH (u,fin)->
 (∀f∈u,jw P f/\∀w,GK P f #[.int .i32 r] w λe x=>e=RE (P8 #[Q4 (A f r).1,PF (A f r).2])/\EI w.heap.size w x)->
 Fr n r g a->old.size=m->w.heap[g]? =OH (RM old T (0,0))->EI g w0 w->
 (∀G x,Fr n r g G->G.tmps.getD 3 undef=PF (eZ fin A u r).2->EI g w0 x->x.heap[g]? =OH (RM (eZ fin A u r).1 T (0,0))->Q .ret G x)->c.wp P Q a w:=by
 have W:(P.info? T).map (·.size)=OH m:=by rw[hi];simp[L]
 intro k
 induction k with
 |zero=>
  intro c u fin a w old hk h _ hf hold O y N;obtain rfl:=List.eq_nil_of_length_eq_zero hk;unfold qB at h;split at h
  case h_1=>
   split at h
   .split at h
    .injection h with h;injection h with h1 h2;cases h1
    .cases h
   .cases h
  case h_2 id ops=>
   split at h
   case h_2=>cases h
   case h_1 cs h1=>
    injection h with h
    injection h with _ e2
    subst e2;refine wp_seq (lD hS h1 hf hold O W λI w2 p B fa dV=> ?_);exact wp_ret (N I w2 p B (y.trans fa) dV)
  case h_3=>cases h
 |succ k ih=>
  intro c u fin a w old hk h D hf hold O y N;unfold qB at h;split at h
  case h_2=>
   split at h
   .injection h with h;injection h with h1 h2;subst h1;cases hk
   .cases h
  case h_3=>cases h
  case h_1 id1 ops1 id2 ops2 c1 id3 ops3 rest=>
   split at h
   case h_2=>cases h
   case h_1 f v b fs' fin' h1 h2=>
    split at h
    case isFalse=>cases h
    case isTrue hh=>
     obtain⟨H,C,hcv⟩:=hh;injection h with h
     injection h with e1 e2
     subst e1 e2;obtain⟨he,hc⟩:=D f (List.mem_cons_self ..);have F:g<w.heap.size:=(Array.getElem?_eq_some_iff.1 O).1;refine wp_seq (yz h1 he hc (l f).1 (l f).2 hf hi hz pZ L λM w1 X J hv1 cX uR s Y=> ?_);have o:w1.heap[g]? =OH (RM old T (0,0)):=(s.block _ F).trans O;have q:EI g w0 w1:=y.trans (s.mono aq);refine wp_seq_k λK hK=> ?_;refine wp_seq (wp_region_list ?_);obtain⟨l2⟩:=ops2;simp only at H;unfold wL at H;split at H
     case h_2=>cases H
     case h_1 l2 c' b' t2 p2 f2=>
      obtain⟨rfl,rfl,u1,u2,u3⟩:=of_decide_eq_true H
      replace u1:=Nat.le_of_ble_eq_true u1
      replace u2:=Nat.le_of_ble_eq_true u2
      refine wpList_plain rfl λK1 Ld=>dE (.tmp b') (.inl rfl) (Ld _ _ (wpList_nil ?_))
      have ev:M.eval (.tmp b')=PF (A f r).2:=cX;rw[ev];have p:=J.put (d:=c') (v:=PF (A f r).2) u1;have mu:(M.put (OH c') (PF (A f r).2)).tmps.getD c' undef=PF (A f r).2:=eW _ (by rw[J.size];exact u2);have B:(M.put (OH c') (PF (A f r).2)).tmps.getD v undef=PK (OH ⟨X,0,OJ⟩):=by rw[dh _ (Ne.symm hcv)];exact hv1
      simp only[Exit.then];generalize M.put (OH c') (PF (A f r).2)=I at*;refine wp_cond_split (t:=(A f r).2) mu (λE=> ?_) (λE=> ?_)
      .obtain⟨l3⟩:=ops3
       simp only at C;unfold wG at C;split at C
       case h_2=>cases C
       case h_1 l3 d1 T1 v' t3 p3 f3 T2 Zx t4 p4 f4 t5 p5 f5=>
        obtain⟨rfl,rfl,rfl,rfl,U,Z⟩:=of_decide_eq_true C
        replace U:=Nat.le_of_ble_eq_true U
        replace Z:=Nat.le_of_ble_eq_true Z
        refine wp_seq (wp_region_list ?_);have fh:X≠g:=aq;refine wpList_load_row rfl _ (.tmp v') rfl X B _ _ (0,0) d Y hu hd (by rw[W,(l f).1]) ?_;have j:=p.put (d:=Zx) (v:=Q4 (A f r).1) U;have V:(I.put (OH Zx) (Q4 (A f r).1)).tmps.getD Zx undef=Q4 (A f r).1:=eW _ (by rw[p.size];exact Z);simp only;generalize I.put (OH Zx) (Q4 (A f r).1)=R at*;refine wpList_plain rfl λK3 hK3=>wp_store_row _ (.tmp 2) (.tmp Zx) rfl g (A f r).1 j.s2 V _ old o (by rw[W,(l f).1]) (by rw[hold,(l f).1]) (l f).2 (hK3 _ _ ?_)
        refine wpList_plain rfl λK4 hK4=>dE (.const (PF OX)) (.inr rfl) (hK4 _ _ (wpList_nil (wp_ret ?_)))
        have e7:(R.put OJ undef)=R:=rfl;simp only[e7];have ev8:R.eval (.const (PF OX))=PF OX:=rfl;rw[ev8];refine N _ _ ⟨by rw[size_put];exact j.size,by rw[dh _ (by omega)];exact j.s0,by rw[dh _ (by omega)];exact j.s2,by rw[oG];exact j.df⟩ ?_ ?_ ?_
        .rw[eW _ (by rw[j.size];omega)]
         simp only[eZ,E,if_true]
        .exact below_setRow q cr _
        .simp only[eZ,E,if_true]
         exact setRow_heap _ _ _ _ _ _ o
      .refine wp_skip (hK _ _ (ih rest fs' fin' I w1 old Cq h2 (λf' IG=>D f' (List.mem_cons_of_mem _ IG)) p hold o q λG x x1 x2 x3 x4=> ?_))
       refine N G x x1 ?_ x3 ?_
       .simp only[eZ,E];exact x2
       .simp only[eZ,E];exact x4
def FH(R:jO P S){f:FuncId}{q:Func}{c0:Code}{n m:Nat}{T:IQ}{h:List FuncId}{fin:Array EN}{i:TypeInfo}{z:EN}
 (O:P.funcs[f]? =OH q) (N:q.body=OH c0) (V:q.ntmps=n) (B:4<=n) (U:q.results=#[.cell 2 T,.tmp 3]) (hi:P.info? T=OH i) (J:i.zero=OH z) (u:z.cells.size=m) (y:i.size=m)
 {d:TypeDesc} (M:P.underlying T=OH d) (I:(match d with| .struct _| .array _ _=>OX|_=>OZ)=OX)
 (b:qu T c0=OX) (L:qB S n m T (yC c0)=OH (h,fin)) {A:FuncId->Int->Array EN×Bool} (r:Int) (o:∀f,(A f r).1.size=m/\(A f r).1.all (·.oneCell')=OX) (x:fin.size=m)
 (t:∀f∈h,jw P f/\∀w,GK P f #[.int .i32 r] w λe p=>e=RE (P8 #[Q4 (A f r).1,PF (A f r).2])/\EI w.heap.size w p) (w:EE):
 GK P f #[.int .i32 r] w λe p=>e=RE (P8 #[Q4 (eZ fin A h r).1,PF (eZ fin A h r).2])/\EI w.heap.size w p:=by
 have C:(eZ fin A h r).1.size=m:=by
  clear t L
  induction h with
  |nil=>exact x
  |cons f h ih=>
   simp only[eZ];split
   .exact(o f).1
   .exact ih
 unfold qu at b;split at b
 case h_2=>cases b
 case h_1 id ops c=>
  split at b
  case h_2=>cases b
  case h_1 T0 t0 p0 f0 t1 p1 f1 hops=>
   obtain rfl:=of_decide_eq_true b;refine calls_of_wp O N ?_;refine wp_seq (wp_region_list ?_);rw[hops];obtain⟨k,rfl⟩:∃k,n=k+4:=⟨n-4,aq⟩;have G:(#[Value.int .i32 r]++Array.replicate (q.ntmps-(#[Value.int .i32 r]:Array EN).size) undef)=(Value.int .i32 r::undef::undef::undef::List.replicate k undef).toArray:=by
    rw[V];simp[List.replicate_succ]
   rw[G];refine wpList_plain rfl λK hK=>gV _ rfl hi J (hK _ _ ?_)
   refine wpList_plain rfl λW F=>dE (.const (PF OZ)) (.inr rfl) (F _ _ (wpList_nil ?_))
   have s:(w.alloc (RM z.cells T0)).heap[w.heap.size]? =OH (RM z.cells T0 (0,0)):=heap_alloc_new w _;have Q:(P.info? T0).map (·.size)=OH m:=by rw[hi];simp[y]
   refine JF R B hi J u y M I (w0:=w) (g:=w.heap.size) (r:=r) o h.length c h fin _ _ z.cells rfl L t ⟨vb,vb,vb,rfl⟩ u s ((Below.refl _ _).alloc cr _) λX p l D H E=> ?_;have j:=run_loadVar_row (P:=P) p w.heap.size T0 T0 _ (0,0) d E M I (by rw[Q,C]);refine bodyPost_ret (v:=P8 #[Q4 (eZ fin A h r).1,PF (eZ fin A h r).2]) ?_ l.df ⟨rfl,H⟩
   .rw[results_cell_tmp U,l.s2,D]
    simp[asAddr,j,Result.andThen]
end
theorem cw{p:Prop}(h:p:=by kernel_rfl):p:=h
def Pr.cells(p:Pr):Array EN:=#[ae aj p.jv,ae aj p.bT,ae aj p.xc,ae aj p.script,ae aj p.join,ae aj p.word,.int .i32 p.fM,.int .i32 p.pair,PF p.opens]
def Ib(a b c d e f g h:Int)(o:Bool)(w:EE):
 GK prog 229 #[ae aj a,ae aj b,ae aj c,ae aj d,ae aj e,ae aj f,.int .i32 g,.int .i32 h,PF o] w λi j=>
  i=RE (Q4 #[ae aj a,ae aj b,ae aj c,ae aj d,ae aj e,ae aj f,.int .i32 g,.int .i32 h,PF o])/\EI w.heap.size w j:=by
 go_enter func229,ntmps229;go_wp2;refine bodyPost_ret (v:=Q4 #[ae aj a,ae aj b,ae aj c,ae aj d,ae aj e,ae aj f,.int .i32 g,.int .i32 h,PF o]) (by simp[results,results229,go_sem]) rfl ⟨rfl,(Below.refl _ _).alloc cr _⟩
def kt{B:Nat}{W a:EE}(c:EI B W a):(∀b o,b<B->a.cell? ⟨b,o,OJ⟩=W.cell? ⟨b,o,OJ⟩)/\(∀b o,b<B->a.frozen? ⟨b,o,OJ⟩=W.frozen? ⟨b,o,OJ⟩):=
 ⟨λb o h=>c.cell (p:=⟨b,o,OJ⟩) h,λb o h=>c.frozen (p:=⟨b,o,OJ⟩) h⟩
def Pr.xa(p:Pr):p.cells.all (·.oneCell')=OX:=by simp[Pr.cells,Value.oneCell']
def Ce:(prog.info? 129).map (λi=>(i.zero,i.size,i.bytes))=OH (OH (Q4 #[ae aj 0,ae aj 0,ae aj 0,ae aj 0,ae aj 0,ae aj 0,.int .i32 0,.int .i32 0,PF OZ]),9,64):=by kernel_rfl
def zK:(prog.info? 129).map (·.size)=OH 9:=by kernel_rfl
def wV(w:EE):
 GK prog 141 #[] w λc b=>c=RE (Q4 Pr.rest.cells)/\EI w.heap.size w b:=by
 go_enter func141,ntmps141;go_wp2_with (first
  |(go_at_call 229;refine(Ib 1 0 0 0 0 0 0 0 OZ _).mono ?_;rintro e b ⟨rfl,a⟩)
  |(refine wpList_store_row rfl 129 (.tmp 0) (.tmp 1) rfl w.heap.size Pr.rest.cells rfl rfl 129 _ ((a.block _ aT).trans (heap_alloc_new w _)) zK aD (Pr.xa _) ?_))
 refine bodyPost_ret (v:=Q4 Pr.rest.cells) (results_cell_row results141 _ _ w.heap.size 129 _ (0,0) _ rfl (setRow_heap _ _ _ _ _ _ ((a.block _ aT).trans (heap_alloc_new w _))) underlying129 rfl zK) rfl ⟨rfl, ?_⟩;exact below_setRow (((Below.refl _ _).alloc cr _).trans (a.mono aT)) cr _
def UG(f:FuncId)(xs:Array EN):Option EN:=
 if f=229 then
  match xs.toList with
  |[ae aj a,ae aj b,ae aj c,ae aj d,ae aj e,ae aj f,.int .i32 g,.int .i32 h,PF o]=>OH (Q4 #[ae aj a,ae aj b,ae aj c,ae aj d,ae aj e,ae aj f,.int .i32 g,.int .i32 h,PF o])
  |_=>OJ
 else if f=141 then
  match xs.toList with
  |[]=>OH (Q4 Pr.rest.cells)
  |_=>OJ
 else OJ
def Ej:jw prog 229:=λ_ _=>by kernel_rfl
def Ck:jw prog 141:=λ_ _=>by kernel_rfl
def pP:jO prog UG:=by
 intro f xs v h;obtain⟨l⟩:=xs;unfold UG at h;split at h
 case isTrue hf=>
  subst hf;simp only at h;split at h
  case h_1=>
   injection h with h
   subst h;exact⟨Ej,λw=>Ib _ _ _ _ _ _ _ _ _ w⟩
  case h_2=>cases h
 case isFalse=>
  split at h
  case isTrue hf=>
   subst hf;simp only at h;split at h
   case h_1=>
    injection h with h
    subst h;exact⟨Ck,λw=>wV w⟩
   case h_2=>cases h
  case isFalse=>cases h
def rowsOf(l:List (Int×Int×Pr)):List (Int×Int×Array EN):=l.map fun(lo,hi,p)=>(lo,hi,p.cells)
def jG:∀(l:List (Int×Int×Pr)) (r:Int),dM Pr.rest.cells (rowsOf l) r=(((look l r).getD Pr.rest).cells,(look l r).isSome)
 |[],r=>rfl
 |(lo,hi,p)::l,r=>by
  simp only[rowsOf,List.map_cons,dM,look];split
  .rfl
  .exact jG l r
def gO{a:Func}{c0:Code}{l:List (Int×Int×Pr)}(o:prog.funcs[f]? =OH a)(h:a.body=OH c0)(k:a.ntmps=n)(b:4<=n)
 (j:a.results=#[.cell 2 129,.tmp 3]) (g:qu 129 c0=OX) (i:chain UG n 9 129 (yC c0)=OH (rowsOf l,Pr.rest.cells)) (r:Int) (w:EE):
 GK prog f #[.int .i32 r] w λe p=>e=RE (P8 #[Q4 ((look l r).getD Pr.rest).cells,PF (look l r).isSome])/\EI w.heap.size w p:=by
 obtain⟨q,hi,d,c,m⟩:=info_parts Ce;have:=AG pP o h k b j hi d rfl c underlying129 rfl g i (λr=>by rw[jG];rfl) r w;rw[jG]at this;exact this
def UL(r:Int)(w:EE):GK prog 214 #[.int .i32 r] w λe a=>e=RE (P8 #[Q4 ((look Yd r).getD Pr.rest).cells,PF (look Yd r).isSome])/\EI w.heap.size w a:=
 gO func214 (c0:=(f214.body).getD .skip) (n:=f214.ntmps) cw rfl (of_decide_eq_true cw) cw cw cw r w
def VF(r:Int)(w:EE):GK prog 215 #[.int .i32 r] w λe a=>e=RE (P8 #[Q4 ((look Us r).getD Pr.rest).cells,PF (look Us r).isSome])/\EI w.heap.size w a:=
 gO func215 (c0:=(f215.body).getD .skip) (n:=f215.ntmps) cw rfl (of_decide_eq_true cw) cw cw cw r w
def Vy(r:Int)(w:EE):GK prog 216 #[.int .i32 r] w λe a=>e=RE (P8 #[Q4 ((look Xz r).getD Pr.rest).cells,PF (look Xz r).isSome])/\EI w.heap.size w a:=
 gO func216 (c0:=(f216.body).getD .skip) (n:=f216.ntmps) cw rfl (of_decide_eq_true cw) cw cw cw r w
def UJ(r:Int)(w:EE):GK prog 217 #[.int .i32 r] w λe a=>e=RE (P8 #[Q4 ((look WW r).getD Pr.rest).cells,PF (look WW r).isSome])/\EI w.heap.size w a:=
 gO func217 (c0:=(f217.body).getD .skip) (n:=f217.ntmps) cw rfl (of_decide_eq_true cw) cw cw cw r w
def Wr(r:Int)(w:EE):GK prog 218 #[.int .i32 r] w λe a=>e=RE (P8 #[Q4 ((look Xo r).getD Pr.rest).cells,PF (look Xo r).isSome])/\EI w.heap.size w a:=
 gO func218 (c0:=(f218.body).getD .skip) (n:=f218.ntmps) cw rfl (of_decide_eq_true cw) cw cw cw r w
def VX(r:Int)(w:EE):GK prog 219 #[.int .i32 r] w λe a=>e=RE (P8 #[Q4 ((look XD r).getD Pr.rest).cells,PF (look XD r).isSome])/\EI w.heap.size w a:=
 gO func219 (c0:=(f219.body).getD .skip) (n:=f219.ntmps) cw rfl (of_decide_eq_true cw) cw cw cw r w
def WT(r:Int)(w:EE):GK prog 220 #[.int .i32 r] w λe a=>e=RE (P8 #[Q4 ((look Vb r).getD Pr.rest).cells,PF (look Vb r).isSome])/\EI w.heap.size w a:=
 gO func220 (c0:=(f220.body).getD .skip) (n:=f220.ntmps) cw rfl (of_decide_eq_true cw) cw cw cw r w
def U3(r:Int)(w:EE):GK prog 221 #[.int .i32 r] w λe a=>e=RE (P8 #[Q4 ((look Wz r).getD Pr.rest).cells,PF (look Wz r).isSome])/\EI w.heap.size w a:=
 gO func221 (c0:=(f221.body).getD .skip) (n:=f221.ntmps) cw rfl (of_decide_eq_true cw) cw cw cw r w
def Yi(r:Int)(w:EE):GK prog 222 #[.int .i32 r] w λe a=>e=RE (P8 #[Q4 ((look Yk r).getD Pr.rest).cells,PF (look Yk r).isSome])/\EI w.heap.size w a:=
 gO func222 (c0:=(f222.body).getD .skip) (n:=f222.ntmps) cw rfl (of_decide_eq_true cw) cw cw cw r w
def Vh(r:Int)(w:EE):GK prog 223 #[.int .i32 r] w λe a=>e=RE (P8 #[Q4 ((look Wi r).getD Pr.rest).cells,PF (look Wi r).isSome])/\EI w.heap.size w a:=
 gO func223 (c0:=(f223.body).getD .skip) (n:=f223.ntmps) cw rfl (of_decide_eq_true cw) cw cw cw r w
def NH(r:Int)(w:EE):GK prog 224 #[.int .i32 r] w λe a=>e=RE (P8 #[Q4 ((look Hc r).getD Pr.rest).cells,PF (look Hc r).isSome])/\EI w.heap.size w a:=
 gO func224 (c0:=(f224.body).getD .skip) (n:=f224.ntmps) cw rfl (of_decide_eq_true cw) cw cw cw r w
def Qc(r:Int)(w:EE):GK prog 225 #[.int .i32 r] w λe a=>e=RE (P8 #[Q4 ((look Hw r).getD Pr.rest).cells,PF (look Hw r).isSome])/\EI w.heap.size w a:=
 gO func225 (c0:=(f225.body).getD .skip) (n:=f225.ntmps) cw rfl (of_decide_eq_true cw) cw cw cw r w
def QR(r:Int)(w:EE):GK prog 226 #[.int .i32 r] w λe a=>e=RE (P8 #[Q4 ((look Ih r).getD Pr.rest).cells,PF (look Ih r).isSome])/\EI w.heap.size w a:=
 gO func226 (c0:=(f226.body).getD .skip) (n:=f226.ntmps) cw rfl (of_decide_eq_true cw) cw cw cw r w
def SR(r:Int)(w:EE):GK prog 227 #[.int .i32 r] w λe a=>e=RE (P8 #[Q4 ((look I8 r).getD Pr.rest).cells,PF (look I8 r).isSome])/\EI w.heap.size w a:=
 gO func227 (c0:=(f227.body).getD .skip) (n:=f227.ntmps) cw rfl (of_decide_eq_true cw) cw cw cw r w
def Sz(r:Int)(w:EE):GK prog 228 #[.int .i32 r] w λe a=>e=RE (P8 #[Q4 ((look ID r).getD Pr.rest).cells,PF (look ID r).isSome])/\EI w.heap.size w a:=
 gO func228 (c0:=(f228.body).getD .skip) (n:=f228.ntmps) cw rfl (of_decide_eq_true cw) cw cw cw r w
def iy(f:FuncId):List (Int×Int×Pr):=
 if f=214 then Yd
 else if f=215 then Us
 else if f=216 then Xz
 else if f=217 then WW
 else if f=218 then Xo
 else if f=219 then XD
 else if f=220 then Vb
 else if f=221 then Wz
 else if f=222 then Yk
 else if f=223 then Wi
 else if f=224 then Hc
 else if f=225 then Hw
 else if f=226 then Ih
 else if f=227 then I8
 else if f=228 then ID
 else[]
def At(f:FuncId)(r:Int):Array EN×Bool:=(((look (iy f) r).getD Pr.rest).cells,(look (iy f) r).isSome)
def oY:∀(a:List FuncId) (r:Int),eZ Pr.rest.cells At a r=(((look (a.flatMap iy) r).getD Pr.rest).cells,(look (a.flatMap iy) r).isSome)
 |[],r=>rfl
 |f::a,r=>by
  have ih:=oY a r;have b:(At f r).2=(look (iy f) r).isSome:=rfl;have e:(At f r).1=((look (iy f) r).getD Pr.rest).cells:=rfl;rw[eZ,List.flatMap_cons,js];by_cases hs:(At f r).2=OX
  .rw[if_pos hs,e]
   rw[b]at hs;obtain⟨p,d⟩:=Option.isSome_iff_exists.1 hs;simp[d]
  .rw[if_neg hs,ih]
   rw[b]at hs;have c:look (iy f) r=OJ:=rk;simp[c]
def Vf(r:Int)(f:FuncId):(At f r).1.size=9/\(At f r).1.all (·.oneCell')=OX:=⟨rfl,Pr.xa _⟩
def Bz{a:Func}{b:List FuncId}(o:prog.funcs[f]? =OH a){c0:Code}(k:a.body=OH c0)(c:4<=a.ntmps)(m:a.results=#[.cell 2 129,.tmp 3])
 (j:qu 129 c0=OX) (l:qB UG a.ntmps 9 129 (yC c0)=OH (b,Pr.rest.cells)) (r:Int)
 (d:∀f∈b,jw prog f/\∀w,GK prog f #[.int .i32 r] w λe i=>e=RE (P8 #[Q4 (At f r).1,PF (At f r).2])/\EI w.heap.size w i) (w:EE):
 GK prog f #[.int .i32 r] w λe i=>e=RE (P8 #[Q4 ((look (b.flatMap iy) r).getD Pr.rest).cells,PF (look (b.flatMap iy) r).isSome])/\EI w.heap.size w i:=by
 obtain⟨p,hi,h,g,n⟩:=info_parts Ce;have:=FH pP o k rfl c m hi h rfl g underlying129 rfl j l r (Vf r) rfl d w;rw[oY]at this;exact this
def fs0:List FuncId:=[214,215,216,217,218,219,220,221]
def wg(r:Int)(w:EE):
 GK prog 139 #[.int .i32 r] w λe b=>e=RE (P8 #[Q4 ((look (fs0.flatMap iy) r).getD Pr.rest).cells,PF (look (fs0.flatMap iy) r).isSome])/\EI w.heap.size w b:=by
 refine Bz func139 (c0:=(f139.body).getD .skip) cw (of_decide_eq_true cw) cw cw cw r (λf a=> ?_) w;simp only[fs0,List.mem_cons,List.not_mem_nil,or_false]at a;rcases a with rfl|rfl|rfl|rfl|rfl|rfl|rfl|rfl
 .exact⟨λ_ _=>by kernel_rfl,UL r⟩
 .exact⟨λ_ _=>by kernel_rfl,VF r⟩
 .exact⟨λ_ _=>by kernel_rfl,Vy r⟩
 .exact⟨λ_ _=>by kernel_rfl,UJ r⟩
 .exact⟨λ_ _=>by kernel_rfl,Wr r⟩
 .exact⟨λ_ _=>by kernel_rfl,VX r⟩
 .exact⟨λ_ _=>by kernel_rfl,WT r⟩
 .exact⟨λ_ _=>by kernel_rfl,U3 r⟩
def fs1:List FuncId:=[222,223,224,225,226,227,228]
def vR(r:Int)(w:EE):
 GK prog 140 #[.int .i32 r] w λe b=>e=RE (P8 #[Q4 ((look (fs1.flatMap iy) r).getD Pr.rest).cells,PF (look (fs1.flatMap iy) r).isSome])/\EI w.heap.size w b:=by
 refine Bz func140 (c0:=(f140.body).getD .skip) cw (of_decide_eq_true cw) cw cw cw r (λf a=> ?_) w;simp only[fs1,List.mem_cons,List.not_mem_nil,or_false]at a;rcases a with rfl|rfl|rfl|rfl|rfl|rfl|rfl
 .exact⟨λ_ _=>by kernel_rfl,Yi r⟩
 .exact⟨λ_ _=>by kernel_rfl,Vh r⟩
 .exact⟨λ_ _=>by kernel_rfl,NH r⟩
 .exact⟨λ_ _=>by kernel_rfl,Qc r⟩
 .exact⟨λ_ _=>by kernel_rfl,QR r⟩
 .exact⟨λ_ _=>by kernel_rfl,SR r⟩
 .exact⟨λ_ _=>by kernel_rfl,Sz r⟩
def Ov(lo hi a b c d e f:Int)(w:EE):
 GK prog 302 #[.int .i32 lo,.int .i32 hi,ae aj a,ae aj b,ae aj c,ae aj d,ae aj e,ae aj f] w λg h=>
  g=RE (Q4 #[.int .i32 lo,.int .i32 hi,ae aj a,ae aj b,ae aj c,ae aj d,ae aj e,ae aj f,.int .i32 0,.int .i32 0,PF OZ])/\EI w.heap.size w h:=by
 go_enter func302,ntmps302;go_wp2;refine bodyPost_ret (v:=Q4 #[.int .i32 lo,.int .i32 hi,ae aj a,ae aj b,ae aj c,ae aj d,ae aj e,ae aj f,.int .i32 0,.int .i32 0,PF OZ]) (by simp[results,results302,go_sem]) rfl ⟨rfl,(Below.refl _ _).alloc cr _⟩
def xO(lo hi a b c d e f g h m:Int)(o:Bool)(w:EE):
 GK prog 304 #[Q4 #[.int .i32 lo,.int .i32 hi,ae aj a,ae aj b,ae aj c,ae aj d,ae aj e,ae aj f,.int .i32 g,.int .i32 h,PF o],.int .i32 m] w λi j=>
  i=RE (Q4 #[.int .i32 lo,.int .i32 hi,ae aj a,ae aj b,ae aj c,ae aj d,ae aj e,ae aj f,.int .i32 m,.int .i32 h,PF o])/\EI w.heap.size w j:=by
 go_enter func304,ntmps304;go_wp2;refine bodyPost_ret (v:=Q4 #[.int .i32 lo,.int .i32 hi,ae aj a,ae aj b,ae aj c,ae aj d,ae aj e,ae aj f,.int .i32 m,.int .i32 h,PF o]) (by simp[results,results304,go_sem]) rfl ⟨rfl, ?_⟩;exact((Below.refl _ _).alloc cr _).alloc aT _
def FO(lo hi a b c d e f g h m:Int)(o i:Bool)(w:EE):
 GK prog 303 #[Q4 #[.int .i32 lo,.int .i32 hi,ae aj a,ae aj b,ae aj c,ae aj d,ae aj e,ae aj f,.int .i32 g,.int .i32 h,PF o],.int .i32 m,PF i] w λk j=>
  k=RE (Q4 #[.int .i32 lo,.int .i32 hi,ae aj a,ae aj b,ae aj c,ae aj d,ae aj e,ae aj f,.int .i32 m,.int .i32 m,PF i])/\EI w.heap.size w j:=by
 go_enter func303,ntmps303;go_wp2;refine bodyPost_ret (v:=Q4 #[.int .i32 lo,.int .i32 hi,ae aj a,ae aj b,ae aj c,ae aj d,ae aj e,ae aj f,.int .i32 m,.int .i32 m,PF i]) (by simp[results,results303,go_sem]) rfl ⟨rfl, ?_⟩;exact((Below.refl _ _).alloc cr _).alloc aT _
def Pj(f:FuncId)(xs:Array EN):Option EN:=
 if f=302 then
  match xs.toList with
  |[.int .i32 lo,.int .i32 hi,ae aj a,ae aj b,ae aj c,ae aj d,ae aj e,ae aj f]=>OH (Q4 #[.int .i32 lo,.int .i32 hi,ae aj a,ae aj b,ae aj c,ae aj d,ae aj e,ae aj f,.int .i32 0,.int .i32 0,PF OZ])
  |_=>OJ
 else if f=304 then
  match xs.toList with
  |[Q4 cs,.int .i32 m]=>match cs.toList with
   |[.int .i32 lo,.int .i32 hi,ae aj a,ae aj b,ae aj c,ae aj d,ae aj e,ae aj f,.int .i32 _,.int .i32 h,PF o]=>OH (Q4 #[.int .i32 lo,.int .i32 hi,ae aj a,ae aj b,ae aj c,ae aj d,ae aj e,ae aj f,.int .i32 m,.int .i32 h,PF o])
   |_=>OJ
  |_=>OJ
 else if f=303 then
  match xs.toList with
  |[Q4 cs,.int .i32 m,PF o']=>match cs.toList with
   |[.int .i32 lo,.int .i32 hi,ae aj a,ae aj b,ae aj c,ae aj d,ae aj e,ae aj f,.int .i32 _,.int .i32 _,PF _]=>OH (Q4 #[.int .i32 lo,.int .i32 hi,ae aj a,ae aj b,ae aj c,ae aj d,ae aj e,ae aj f,.int .i32 m,.int .i32 m,PF o'])
   |_=>OJ
  |_=>OJ
 else OJ
def vD:jO prog Pj:=by
 intro f xs v h;obtain⟨l⟩:=xs;unfold Pj at h;split at h
 case isTrue hf=>
  subst hf;simp only at h;split at h
  case h_1=>
   injection h with h
   subst h;exact⟨λ_ _=>by kernel_rfl,λw=>Ov _ _ _ _ _ _ _ _ w⟩
  case h_2=>cases h
 case isFalse=>
  split at h
  case isTrue hf=>
   subst hf;simp only at h;split at h
   case h_2=>cases h
   case h_1 cs m=>
    obtain⟨a⟩:=cs;simp only at h;split at h
    case h_2=>cases h
    case h_1=>
     injection h with h
     subst h;exact⟨λ_ _=>by kernel_rfl,λw=>xO _ _ _ _ _ _ _ _ _ _ _ _ w⟩
  case isFalse=>
   split at h
   case isTrue hf=>
    subst hf;simp only at h;split at h
    case h_2=>cases h
    case h_1 cs m o'=>
     obtain⟨a⟩:=cs;simp only at h;split at h
     case h_2=>cases h
     case h_1=>
      injection h with h
      subst h;exact⟨λ_ _=>by kernel_rfl,λw=>FO _ _ _ _ _ _ _ _ _ _ _ _ _ w⟩
   case isFalse=>cases h
def bH(x:Int×Int×Pr):List EN:=[.int .i32 x.1,.int .i32 x.2.1,ae aj x.2.2.jv,ae aj x.2.2.bT,ae aj x.2.2.xc,ae aj x.2.2.script,ae aj x.2.2.join,ae aj x.2.2.word,.int .i32 x.2.2.fM,.int .i32 x.2.2.pair,PF x.2.2.opens]
def nA(k:Nat):List (Int×Int×Pr):=(iX.drop (20*k)).take 20
def bN(k:Nat):Array EN:=((nA k).flatMap bH).toArray
def wJ:(prog.info? 276).map (λi=>(i.zero,i.size,i.bytes))=OH (OH (Q4 ((List.replicate 20 (bH (0,0,⟨0,0,0,0,0,0,0,0,OZ⟩))).flatten.toArray)),220,1440):=by kernel_rfl
def qg:(prog.info? 276).map (·.size)=OH 220:=by kernel_rfl
def dB{a:Func}{c:Code}{k:Nat}(o:prog.funcs[f]? =OH a)(i:a.body=OH c)(b:0<a.ntmps)(m:a.results=#[.cell 0 276])
 (l:∀j,xT prog Pj a.ntmps 220 276 j c=OH (bN k))
 (g:Q3 c=OX) (w:EE):
 GK prog f #[] w λe p=>e=RE (Q4 (bN k))/\EI w.heap.size w p:=by
 obtain⟨q,hi,h,d,n⟩:=info_parts wJ;exact zQ vD o i rfl b m hi h aD d underlying276 rfl l g w
def DV(w:EE):GK prog 266 #[] w λe a=>e=RE (Q4 (bN 0))/\EI w.heap.size w a:=
 dB func266 (c:=(f266.body).getD .skip) cw (of_decide_eq_true cw) cw (λ_=>cw) cw w
def Ga(w:EE):GK prog 267 #[] w λe a=>e=RE (Q4 (bN 1))/\EI w.heap.size w a:=
 dB func267 (c:=(f267.body).getD .skip) cw (of_decide_eq_true cw) cw (λ_=>cw) cw w
def FM(w:EE):GK prog 268 #[] w λe a=>e=RE (Q4 (bN 2))/\EI w.heap.size w a:=
 dB func268 (c:=(f268.body).getD .skip) cw (of_decide_eq_true cw) cw (λ_=>cw) cw w
def Fo(w:EE):GK prog 269 #[] w λe a=>e=RE (Q4 (bN 3))/\EI w.heap.size w a:=
 dB func269 (c:=(f269.body).getD .skip) cw (of_decide_eq_true cw) cw (λ_=>cw) cw w
def Fa(w:EE):GK prog 270 #[] w λe a=>e=RE (Q4 (bN 4))/\EI w.heap.size w a:=
 dB func270 (c:=(f270.body).getD .skip) cw (of_decide_eq_true cw) cw (λ_=>cw) cw w
def Gd(w:EE):GK prog 271 #[] w λe a=>e=RE (Q4 (bN 5))/\EI w.heap.size w a:=
 dB func271 (c:=(f271.body).getD .skip) cw (of_decide_eq_true cw) cw (λ_=>cw) cw w
def Ec(w:EE):GK prog 272 #[] w λe a=>e=RE (Q4 (bN 6))/\EI w.heap.size w a:=
 dB func272 (c:=(f272.body).getD .skip) cw (of_decide_eq_true cw) cw (λ_=>cw) cw w
def D8(w:EE):GK prog 273 #[] w λe a=>e=RE (Q4 (bN 7))/\EI w.heap.size w a:=
 dB func273 (c:=(f273.body).getD .skip) cw (of_decide_eq_true cw) cw (λ_=>cw) cw w
def Dq(w:EE):GK prog 274 #[] w λe a=>e=RE (Q4 (bN 8))/\EI w.heap.size w a:=
 dB func274 (c:=(f274.body).getD .skip) cw (of_decide_eq_true cw) cw (λ_=>cw) cw w
def FJ(w:EE):GK prog 275 #[] w λe a=>e=RE (Q4 (bN 9))/\EI w.heap.size w a:=
 dB func275 (c:=(f275.body).getD .skip) cw (of_decide_eq_true cw) cw (λ_=>cw) cw w
def zP(w:EE):GK prog 276 #[] w λe a=>e=RE (Q4 (bN 10))/\EI w.heap.size w a:=
 dB func276 (c:=(f276.body).getD .skip) cw (of_decide_eq_true cw) cw (λ_=>cw) cw w
def Bh(w:EE):GK prog 277 #[] w λe a=>e=RE (Q4 (bN 11))/\EI w.heap.size w a:=
 dB func277 (c:=(f277.body).getD .skip) cw (of_decide_eq_true cw) cw (λ_=>cw) cw w
def Ax(w:EE):GK prog 278 #[] w λe a=>e=RE (Q4 (bN 12))/\EI w.heap.size w a:=
 dB func278 (c:=(f278.body).getD .skip) cw (of_decide_eq_true cw) cw (λ_=>cw) cw w
theorem ns{p:Prop}(h:p:=by go_num):p:=h
def ff:∀k,k<13->(bN k).size=220:=zm
def mT(k:Nat):(bN k).all (·.oneCell')=OX:=by
 unfold bN;generalize nA k=l;rw[List.all_toArray,List.all_flatMap];simp[bH,Value.oneCell',Function.comp_def]
attribute [local irreducible] bN
def tN:∃(i:TypeInfo) (z:EN),prog.info? 276=OH i/\i.zero=OH z/\z.cells.size=220:=by
 obtain⟨d,hi,a,b,c⟩:=info_parts wJ;exact⟨d,_,hi,a,rfl⟩
def db{k:Nat}{z:Array EN}{w b:EE}{tmps:Array EN}(f:k<13)(c:tmps.getD 2 undef=PK (OH ⟨w.heap.size,0,OJ⟩))
 (a:EI (w.alloc (RM z 276)).heap.size (w.alloc (RM z 276)) b):
 bodyPost prog f234 (λe d=>e=RE (Q4 (bN k))/\EI w.heap.size w d) .ret ⟨tmps,[]⟩ (b.setRow w.heap.size (bN k)):=by
 refine bodyPost_ret (v:=Q4 (bN k)) (results_cell_row results234 _ _ w.heap.size 276 _ (0,0) _ c (setRow_heap _ _ _ _ _ _ ((a.block _ aT).trans (heap_alloc_new w _))) underlying276 rfl (qg.trans (congrArg OH (ff k f).symm))) rfl ⟨rfl, ?_⟩;exact below_setRow (((Below.refl _ _).alloc cr _).trans (a.mono aT)) cr _
def Az(k:Nat)(A:k<13)(w:EE):
 GK prog 234 #[ae aj k] w λe m=>e=RE (Q4 (bN k))/\EI w.heap.size w m:=by
 obtain⟨r,z,hi,f,c⟩:=tN;have j:=Lib.hid hi;have g:=Lib.hid f;have i:=Lib.hid c;go_enter func234,ntmps234;go_wp2_with (first
  |(refine wpList_plain rfl λK hK=>gV 276 rfl j.out g.out (hK _ _ ?_);simp only[Act.put])
  |(refine wpList_store_row rfl _ _ _ rfl w.heap.size _ rfl rfl 276 z.cells ((a.block _ aT).trans (heap_alloc_new w _)) ?iW ?gz (mT _) ?_;(case iW=>exact qg.trans (congrArg OH (ff _ aq).symm));(case gz=>exact i.out.trans (ff _ aq).symm))
  |(go_at_call 266;refine(DV _).mono ?_;rintro e b ⟨rfl,a⟩)
  |(go_at_call 267;refine(Ga _).mono ?_;rintro e b ⟨rfl,a⟩)
  |(go_at_call 268;refine(FM _).mono ?_;rintro e b ⟨rfl,a⟩)
  |(go_at_call 269;refine(Fo _).mono ?_;rintro e b ⟨rfl,a⟩)
  |(go_at_call 270;refine(Fa _).mono ?_;rintro e b ⟨rfl,a⟩)
  |(go_at_call 271;refine(Gd _).mono ?_;rintro e b ⟨rfl,a⟩)
  |(go_at_call 272;refine(Ec _).mono ?_;rintro e b ⟨rfl,a⟩)
  |(go_at_call 273;refine(D8 _).mono ?_;rintro e b ⟨rfl,a⟩)
  |(go_at_call 274;refine(Dq _).mono ?_;rintro e b ⟨rfl,a⟩)
  |(go_at_call 275;refine(FJ _).mono ?_;rintro e b ⟨rfl,a⟩)
  |(go_at_call 276;refine(zP _).mono ?_;rintro e b ⟨rfl,a⟩)
  |(go_at_call 277;refine(Bh _).mono ?_;rintro e b ⟨rfl,a⟩)
  |(go_at_call 278;refine(Ax _).mono ?_;rintro e b ⟨rfl,a⟩))
 .obtain rfl:k=0:=by{have h:=‹((k:Int)==0)=OX›;simp at h;omega}
  exact db aq rfl a
 .obtain rfl:k=1:=by{have h:=‹((k:Int)==1)=OX›;simp at h;omega}
  exact db aq rfl a
 .obtain rfl:k=2:=by{have h:=‹((k:Int)==2)=OX›;simp at h;omega}
  exact db aq rfl a
 .obtain rfl:k=3:=by{have h:=‹((k:Int)==3)=OX›;simp at h;omega}
  exact db aq rfl a
 .obtain rfl:k=4:=by{have h:=‹((k:Int)==4)=OX›;simp at h;omega}
  exact db aq rfl a
 .obtain rfl:k=5:=by{have h:=‹((k:Int)==5)=OX›;simp at h;omega}
  exact db aq rfl a
 .obtain rfl:k=6:=by{have h:=‹((k:Int)==6)=OX›;simp at h;omega}
  exact db aq rfl a
 .obtain rfl:k=7:=by{have h:=‹((k:Int)==7)=OX›;simp at h;omega}
  exact db aq rfl a
 .obtain rfl:k=8:=by{have h:=‹((k:Int)==8)=OX›;simp at h;omega}
  exact db aq rfl a
 .obtain rfl:k=9:=by{have h:=‹((k:Int)==9)=OX›;simp at h;omega}
  exact db aq rfl a
 .obtain rfl:k=10:=by{have h:=‹((k:Int)==10)=OX›;simp at h;omega}
  exact db aq rfl a
 .obtain rfl:k=11:=by{have h:=‹((k:Int)==11)=OX›;simp at h;omega}
  exact db aq rfl a
 .have n:¬((k:Int)=0):=by simpa using‹((k:Int)==0)=OZ›
  have x:¬((k:Int)=1):=by simpa using‹((k:Int)==1)=OZ›
  have y:¬((k:Int)=2):=by simpa using‹((k:Int)==2)=OZ›
  have u:¬((k:Int)=3):=by simpa using‹((k:Int)==3)=OZ›
  have s:¬((k:Int)=4):=by simpa using‹((k:Int)==4)=OZ›
  have v:¬((k:Int)=5):=by simpa using‹((k:Int)==5)=OZ›
  have t:¬((k:Int)=6):=by simpa using‹((k:Int)==6)=OZ›
  have q:¬((k:Int)=7):=by simpa using‹((k:Int)==7)=OZ›
  have p:¬((k:Int)=8):=by simpa using‹((k:Int)==8)=OZ›
  have o:¬((k:Int)=9):=by simpa using‹((k:Int)==9)=OZ›
  have d:¬((k:Int)=10):=by simpa using‹((k:Int)==10)=OZ›
  have l:¬((k:Int)=11):=by simpa using‹((k:Int)==11)=OZ›
  obtain rfl:k=12:=aq;exact db aq rfl a
def An:∀i j,i<=j->j<13->kM i<=kM j:=by
 have h:∀j,j<13->∀i,i<14->i<=j->kM i<=kM j:=zm;exact λi j a b=>h j b i aq a
def Ba:∀(l:List (Int×Int×Pr)) (i j:Nat),i<l.length->j<11->(l.flatMap bH)[11*i+j]? =(bH (l.getD i Uq))[j]?
 |[],_,_,h,_=>absurd h aT
 |x::l,0,j,_,hj=>by
  rw[List.flatMap_cons,List.getElem?_append_left TD];simp
 |x::l,i+1,j,h,hj=>by
  rw[List.flatMap_cons,List.getElem?_append_right TD];have e:11*(i+1)+j-(bH x).length=11*i+j:=TD;rw[e];exact Ba l i j zl hj
def Jz(k i j:Nat)(b:k<13)(hi:i<20)(a:j<11):(bN k)[11*i+j]? =(bH (sL (20*k+i)))[j]? :=by
 unfold bN;rw[List.getElem?_toArray,Ba _ _ _ (by simp[nA,lH];omega) a]
 congr 2
 unfold nA sL;simp only[List.getD_eq_getElem?_getD,List.getElem?_take,List.getElem?_drop,hi,if_true]
def Laid(w:EE):Prop:=0<w.heap.size/\∀i,i<13->w.cell? ⟨0,i,OJ⟩=OH (.int .i32 (kM i))
def Laid.below{B:Nat}{w b:EE}(h:Laid w)(a:EI B w b)(c:0<B):Laid b:=
 ⟨Nat.lt_of_lt_of_le h.1 a.size,λi hi=>(a.cell (p:=⟨0,i,OJ⟩) c).trans (h.2 i hi)⟩
def qC(r:Int)(x:Int×Int×Pr)(b:Bool):Prop:=
 match look iX r with
 |some p=>b=OX/\x.2.2=p/\(p.bT=13->x.1=44032)
 |none=>b=OZ
def Xc(r:Int)(w:EE)(e:IS)(a:EE):Prop:=
 ∃(x:Int×Int×Pr) (b:Bool),e=RE (P8 #[Q4 (bH x).toArray,PF b])/\qC r x b/\EI w.heap.size w a
def VL:∀i,i<260->(sL i).2.2.bT=13->(sL i).1=44032:=zm
def JG{lo x:Nat}{P:Int×Int×Pr}(n:lo<=13)(m:¬lo=13)(o:x<=19)(k:∀i,i<lo->kM i<r)(j:∀i,lo<=i->i<13->r<=kM i)
 (g:∀i,i<x->KW (20*lo+i)<r) (l:∀i,x<=i->i<19->r<=KW (20*lo+i)) (h:sL (20*lo+x)=P):qC r P (decide (P.1<=r)):=by
 have d:20*lo+x<260:=aq;have f:look iX r=if(sL (20*lo+x)).1<=r then OH (sL (20*lo+x)).2.2 else OJ:=by
  refine Ew d ?_ ?_
  .rcases Nat.eq_zero_or_pos x with a|a
   .subst a
    rcases Nat.eq_zero_or_pos lo with c|c
    .subst c;exact .inl rfl
    .refine .inr ?_
     have:=k (lo-1) aq;rw[yj _ aq]at this;rwa [show 20*lo+0-1=20*(lo-1)+19 by omega]
   .refine .inr ?_
    have:=g (x-1) aq;rwa [show 20*lo+x-1=20*lo+(x-1) by omega]
  .rcases Nat.lt_or_ge x 19 with a|a
   .exact l x cr a
   .have:=j lo cr aq
    rw[yj _ aq]at this;rwa [show x=19 by omega]
 have e:=VL _ d;rw[h]at f e;unfold qC;rw[f];by_cases b:P.1<=r
 .rw[if_pos b]
  exact⟨by simp[b],rfl,e⟩
 .rw[if_neg b]
  simp[b]
def Bt(r:Int)(w:EE)(hl:Laid w):
 GK prog 160 #[.int .i32 r] w (Xc r w):=by
 obtain⟨h0,hl⟩:=hl;go_enter func160,ntmps160;go_wp2;go_loop [4,5] (λa b=>∃lo hi:Nat,lo<=hi/\hi<=13/\a=ae aj lo/\b=ae aj hi/\(∀i,i<lo->kM i<r)/\(∀i,hi<=i->i<13->r<=kM i)) (λa b=>(intOf b-intOf a).toNat)
 case atStart=>exact⟨0,13,aq,aq,rfl,rfl,λi hi=>by omega,λi h1 h2=>by omega⟩
 case round=>
  obtain⟨lo,hi,h1,h2,rfl,rfl,h3,h4⟩:=hrel;have H3:=Lib.hid h3;have H4:=Lib.hid h4;by_cases aG:lo<hi
  .have hc:w.cell? ⟨0,(lo+hi)/2,OJ⟩=OH (.int .i32 (kM ((lo+hi)/2))):=hl _ aq
   go_wp2
   .go_round
    case rel=>exact⟨(lo+hi)/2+1,hi,aq,aq,ns,rfl,λi Dp=>Int.lt_of_le_of_lt (An i ((lo+hi)/2) aq aq) (by assumption),H4.out⟩
    case measure=>simp[intOf];omega
   .go_round
    case rel=>exact⟨lo,(lo+hi)/2,aq,aq,rfl,ns,H3.out,λi Li Eb=>Int.le_trans (by assumption) (An ((lo+hi)/2) i Li Eb)⟩
    case measure=>simp[intOf];omega
  .obtain rfl:lo=hi:=by omega
   by_cases Zu:lo=13
   .subst Zu
    go_wp2;refine bodyPost_ret (v:=P8 #[Q4 (bH (0,0,⟨0,0,0,0,0,0,0,0,OZ⟩)).toArray,PF OZ]) (by simp[results,results160,go_sem,bH]) rfl ⟨(0,0,⟨0,0,0,0,0,0,0,0,OZ⟩),_,rfl, ?_, ?_⟩
    .unfold qC
     rw[Bw (H3.out 12 aq)]
    ·(repeat(first|(with_reducible refine Below.setCell ?_ ?_ _)|(with_reducible refine Below.alloc ?_ ?_ _)|(with_reducible refine Below.drew ?_)|(with_reducible exact Below.refl _ _)|(with_reducible exact HB.out)|(with_reducible exact Nat.le_refl _)|omega|(simp;omega)|simp))
   .have ahK:(((lo:Int))==13)=OZ:=pW
    obtain⟨i0,z,hi,hz,pZ⟩:=tN;have HI:=Lib.hid hi;have HZ:=Lib.hid hz;have HS:=Lib.hid pZ;go_wp2_with (first
     |(go_at_call 234;refine(Az lo aq _).mono ?_;rintro e w1 ⟨rfl,hb⟩)
     |(refine wpList_plain rfl λK hK=>gV 276 rfl HI.out HZ.out (hK _ _ ?_);simp only[Act.put])
     |(refine wpList_store_row rfl _ _ _ rfl w1.heap.size _ rfl rfl 276 z.cells (heap_alloc_new w1 _) ?iW ?gz (mT _) ?_;(case iW=>exact qg.trans (congrArg OH (ff _ aq).symm));(case gz=>exact HS.out.trans (ff _ aq).symm);generalize cg:World.setRow _ _ _=W2;have HW2:=Lib.hid cg;clear cg))
    have gL:w.heap.size<w1.heap.size:=by have:=hb.size;simp only[World.size_alloc]at this;omega
    have dV:W2.heap[w1.heap.size]? =OH (RM (bN lo) 276 (0,0)):=by rw[<-HW2.out];exact setRow_heap _ _ _ _ _ _ (heap_alloc_new w1 _)
    have Ul:W2.heap[w.heap.size]? =OH (RM (bH (0,0,⟨0,0,0,0,0,0,0,0,OZ⟩)).toArray 230 (0,0)):=by
     rw[<-HW2.out,setRow_other _ _ _ _ aq,Below.heap_alloc _ _ _ gL];exact(hb.block _ aT).trans (heap_alloc_new w _)
    have hB:EI w.heap.size w W2:=by
     rw[<-HW2.out];exact below_setRow ((((Below.refl _ _).alloc cr _).trans (hb.mono aT)).alloc aq _) aq _
    have gz:w1.heap.size<W2.heap.size:=(Array.getElem?_eq_some_iff.1 dV).1;have kj:∀i j,i<20->j<11->W2.cell? ⟨w1.heap.size,i*11+j,OJ⟩=(bH (sL (20*lo+i)))[j]? :=λi j hi hj=>by
     rw[Nat.mul_comm,cell_of_row _ _ _ _ _ _ dV];exact Jz lo i j aq hi hj
    have te:=Lib.hid Ul;have jL:=Lib.hid dV;have HB:=Lib.hid hB;have HC:=Lib.hid kj;generalize w1.heap.size=g2 at*;go_loop [4,5] (λa b=>∃x y:Nat,x<=y/\y<=19/\a=ae aj x/\b=ae aj y/\(∀i,i<x->KW (20*lo+i)<r)/\(∀i,y<=i->i<19->r<=KW (20*lo+i))) (λa b=>(intOf b-intOf a).toNat)
    case atStart=>exact⟨0,19,aq,aq,rfl,rfl,λi hi=>by omega,λi h1 h2=>by omega⟩
    case round=>
     obtain⟨x,y,sU,sC,rfl,rfl,hx3,hx4⟩:=hrel;have X3:=Lib.hid hx3;have X4:=Lib.hid hx4;by_cases nK:x<y
     .have hc:W2.cell? ⟨g2,(x+y)/2*11+1,OJ⟩=OH (.int .i32 (KW (20*lo+(x+y)/2))):=HC.out _ 1 aq aq
      go_wp2
      .go_round
       case rel=>exact⟨(x+y)/2+1,y,aq,aq,ns,rfl,λi Dp=>Int.lt_of_le_of_lt (xN (i:=20*lo+i) (j:=20*lo+(x+y)/2) aq aq) (by assumption),X4.out⟩
       case measure=>simp[intOf];omega
      .go_round
       case rel=>exact⟨x,(x+y)/2,aq,aq,rfl,ns,X3.out,λi Li Eb=>Int.le_trans (by assumption) (xN (i:=20*lo+(x+y)/2) (j:=20*lo+i) aq aq)⟩
       case measure=>simp[intOf];omega
     .obtain rfl:x=y:=by omega
      generalize hP:sL (20*lo+x)=P at*;have HP:=Lib.hid hP;have c0:W2.cell? ⟨g2,x*11,OJ⟩=OH ((bH (P)).getD 0 undef):=HP.out▸HC.out x 0 aq aq;have c1:W2.cell? ⟨g2,x*11+1,OJ⟩=OH ((bH (P)).getD 1 undef):=HP.out▸HC.out x 1 aq aq;have c2:W2.cell? ⟨g2,x*11+2,OJ⟩=OH ((bH (P)).getD 2 undef):=HP.out▸HC.out x 2 aq aq;have c3:W2.cell? ⟨g2,x*11+3,OJ⟩=OH ((bH (P)).getD 3 undef):=HP.out▸HC.out x 3 aq aq;have c4:W2.cell? ⟨g2,x*11+4,OJ⟩=OH ((bH (P)).getD 4 undef):=HP.out▸HC.out x 4 aq aq;have c5:W2.cell? ⟨g2,x*11+5,OJ⟩=OH ((bH (P)).getD 5 undef):=HP.out▸HC.out x 5 aq aq;have c6:W2.cell? ⟨g2,x*11+6,OJ⟩=OH ((bH (P)).getD 6 undef):=HP.out▸HC.out x 6 aq aq;have c7:W2.cell? ⟨g2,x*11+7,OJ⟩=OH ((bH (P)).getD 7 undef):=HP.out▸HC.out x 7 aq aq;have c8:W2.cell? ⟨g2,x*11+8,OJ⟩=OH ((bH (P)).getD 8 undef):=HP.out▸HC.out x 8 aq aq;have c9:W2.cell? ⟨g2,x*11+9,OJ⟩=OH ((bH (P)).getD 9 undef):=HP.out▸HC.out x 9 aq aq;have Gs:W2.cell? ⟨g2,x*11+10,OJ⟩=OH ((bH (P)).getD 10 undef):=HP.out▸HC.out x 10 aq aq;have d0:W2.cell? ⟨w.heap.size,0,OJ⟩=OH ((bH (0,0,⟨0,0,0,0,0,0,0,0,OZ⟩)).getD 0 undef):=cell_of_row _ _ _ _ _ _ te.out;have e0:W2.frozen? ⟨w.heap.size,0,OJ⟩=OZ:=frozen_of_row _ _ _ _ _ te.out;have d1:W2.cell? ⟨w.heap.size,1,OJ⟩=OH ((bH (0,0,⟨0,0,0,0,0,0,0,0,OZ⟩)).getD 1 undef):=cell_of_row _ _ _ _ _ _ te.out;have e1:W2.frozen? ⟨w.heap.size,1,OJ⟩=OZ:=frozen_of_row _ _ _ _ _ te.out;have d2:W2.cell? ⟨w.heap.size,2,OJ⟩=OH ((bH (0,0,⟨0,0,0,0,0,0,0,0,OZ⟩)).getD 2 undef):=cell_of_row _ _ _ _ _ _ te.out;have e2:W2.frozen? ⟨w.heap.size,2,OJ⟩=OZ:=frozen_of_row _ _ _ _ _ te.out;have d3:W2.cell? ⟨w.heap.size,3,OJ⟩=OH ((bH (0,0,⟨0,0,0,0,0,0,0,0,OZ⟩)).getD 3 undef):=cell_of_row _ _ _ _ _ _ te.out;have e3:W2.frozen? ⟨w.heap.size,3,OJ⟩=OZ:=frozen_of_row _ _ _ _ _ te.out;have d4:W2.cell? ⟨w.heap.size,4,OJ⟩=OH ((bH (0,0,⟨0,0,0,0,0,0,0,0,OZ⟩)).getD 4 undef):=cell_of_row _ _ _ _ _ _ te.out;have e4:W2.frozen? ⟨w.heap.size,4,OJ⟩=OZ:=frozen_of_row _ _ _ _ _ te.out;have d5:W2.cell? ⟨w.heap.size,5,OJ⟩=OH ((bH (0,0,⟨0,0,0,0,0,0,0,0,OZ⟩)).getD 5 undef):=cell_of_row _ _ _ _ _ _ te.out;have e5:W2.frozen? ⟨w.heap.size,5,OJ⟩=OZ:=frozen_of_row _ _ _ _ _ te.out;have d6:W2.cell? ⟨w.heap.size,6,OJ⟩=OH ((bH (0,0,⟨0,0,0,0,0,0,0,0,OZ⟩)).getD 6 undef):=cell_of_row _ _ _ _ _ _ te.out;have e6:W2.frozen? ⟨w.heap.size,6,OJ⟩=OZ:=frozen_of_row _ _ _ _ _ te.out;have d7:W2.cell? ⟨w.heap.size,7,OJ⟩=OH ((bH (0,0,⟨0,0,0,0,0,0,0,0,OZ⟩)).getD 7 undef):=cell_of_row _ _ _ _ _ _ te.out;have e7:W2.frozen? ⟨w.heap.size,7,OJ⟩=OZ:=frozen_of_row _ _ _ _ _ te.out;have d8:W2.cell? ⟨w.heap.size,8,OJ⟩=OH ((bH (0,0,⟨0,0,0,0,0,0,0,0,OZ⟩)).getD 8 undef):=cell_of_row _ _ _ _ _ _ te.out;have e8:W2.frozen? ⟨w.heap.size,8,OJ⟩=OZ:=frozen_of_row _ _ _ _ _ te.out;have d9:W2.cell? ⟨w.heap.size,9,OJ⟩=OH ((bH (0,0,⟨0,0,0,0,0,0,0,0,OZ⟩)).getD 9 undef):=cell_of_row _ _ _ _ _ _ te.out;have e9:W2.frozen? ⟨w.heap.size,9,OJ⟩=OZ:=frozen_of_row _ _ _ _ _ te.out;have d10:W2.cell? ⟨w.heap.size,10,OJ⟩=OH ((bH (0,0,⟨0,0,0,0,0,0,0,0,OZ⟩)).getD 10 undef):=cell_of_row _ _ _ _ _ _ te.out;have sV:W2.frozen? ⟨w.heap.size,10,OJ⟩=OZ:=frozen_of_row _ _ _ _ _ te.out;simp only[bH,List.getD_cons_zero,List.getD_cons_succ]at c0 c1 c2 c3 c4 c5 c6 c7 c8 c9 Gs d0 d1 d2 d3 d4 d5 d6 d7 d8 d9 d10;have fh:¬(g2=w.heap.size):=aq;have ahQ:¬(w.heap.size=g2):=aq;go_wp2;go_region;go_wp2;refine bodyPost_ret (v:=P8 #[Q4 (bH P).toArray,PF (decide (P.1<=r))]) (by simp[results,results160,go_sem,bH,d0,d1,d2,d3,d4,d5,d6,d7,d8,d9,d10]) rfl ⟨P,_,rfl,JG h2 Zu sC H3.out H4.out X3.out X4.out HP.out, ?_⟩
      (repeat(first|(with_reducible refine Below.setCell ?_ ?_ _)|(with_reducible refine Below.alloc ?_ ?_ _)|(with_reducible refine Below.drew ?_)|(with_reducible exact Below.refl _ _)|(with_reducible exact HB.out)|(with_reducible exact Nat.le_refl _)|omega|(simp;omega)|simp))
