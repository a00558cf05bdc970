/- Part of LineBoxes. -/
import Derived.Test.YtpidckelbgbbkaaGreatDoorAd
import Derived.Deep.Upon
namespace Go.Proofs.YtpidckelbgbbkaaGreatDoor
open Go.ChangeShapes Go.WideShapes Go.ChangeAt Go.RowKit
open Go.Value renaming int → ae
open Go.IntKind renaming i64 → aj
set_option linter.all false
set_option maxRecDepth 100000
set_option maxHeartbeats 16000000
variable{A:aC}{c i j m n:Nat}{lo:Option Value}
section
variable {P : Program} {w : World} {o : Oper} {a : Act} {Q : Exit -> Act -> World -> Prop} {t e : TypeId} {bytes : Nat}
theorem Co{K:Act->World->Prop}(T:aS P t e 1 bytes)(s x:Operand)
 (S:o.op= .call {callee:= .builtin .append,args:= #[s,x],argTypes:= #[t,t]}) {B:Nat} {k:IntKind} {A:aC} {n c:Nat} {xs:aE} (N:a.eval s= .slice A n c) (b:Own w B e k A n c xs)
 {C:aC} {m d:Nat} {r:aE} (O:a.eval x= .slice C m d) (l:bh w w.heap.size k C m r)
 (Z:(n+m)*bytes<=140737488355328) (W:B<=w.heap.size)
 (h:∀f c' p,Own p B e k f (n+m) c' (xs++r)->Below B w p->K (a.put o.dst (.slice f (n+m) c')) p):o.wp P a w K Q:=by
 obtain⟨i,z,U,X,E,I,M⟩:=T.info;have G:=T.zG;have tD:n+m<=140737488355328:=by
  have R:(n+m)*1<=(n+m)*bytes:=Nat.mul_le_mul_left _ G;omega
 cases C with
 |none=>
  obtain rfl:m=0:=by
   rcases Nat.eq_zero_or_pos m with q|q
   ·exact q
   ·obtain⟨_,F,_⟩:=l.2 q;cases F
  obtain rfl:r=[]:=List.eq_nil_of_length_eq_zero l.1;have v:=run_append_nothing (P:=P) w t t o.type e i T.ht U A n c (aB.le b) (.slice none 0 d) (Src.ofNil (size:=i.size) (w:=w) T.ht d);unfold Oper.wp execOp;simp only[S,resolve,invoke,builtin,Sem.run_bind,Sem.run_pure,Result.andThen_ok,List.map_toArray,List.map_cons,List.map_nil,N,O,v];have:=h A c w (by simpa using b) (Below.refl _ _);simp only[Nat.add_zero]at this;exact this
 |some ad=>
  refine wp_append_own w s x t S B e i z 1 bytes T.ht U X E I M T.pos (.slice A n c) n _ N b ad m d (r.map (Value.int k)) O (by simp[l.1]) (fun j u D=> ?_) (fun u D=> ?_) pN Z W ?_
  ·have J:j<r.length:=by
    have:=(List.getElem?_eq_some_iff.1 D).1;simpa using this
   obtain⟨L,F,_,Y⟩:=l.2 (by rw[<-l.1];omega);obtain rfl:ad=L:=Option.some.inj F;rw[Y j (by rw[<-l.1];exact J),<-D,List.getElem?_map,List.getElem?_eq_getElem J,dQ J];rfl
  ·obtain⟨y,_,rfl⟩:=List.mem_map.1 D
   rfl
  ·intro v' p V R _
   obtain⟨f,c',rfl⟩:∃f c',v'= .slice f (n+m) c':=by
    rcases V.2 with⟨H,q⟩|⟨g,cap,cur,H,_⟩
    ·exact⟨none,0,by rw[H,q]⟩
    ·exact⟨_,_,H⟩
   refine h f c' p ?_ (aB.dq b R W);unfold Own aB;rw[List.map_append];exact V
theorem gT{ops:Array Oper}{rest:List Oper}(T:aS P t e 1 bytes)(i:o.guard=none)(s x:Operand)
 (v:o.op= .call {callee:= .builtin .append,args:= #[s,x],argTypes:= #[t,t]}) {B:Nat} {k:IntKind} {A:aC} {n c:Nat} {xs:aE} (l:a.eval s= .slice A n c) (f:Own w B e k A n c xs)
 {C:aC} {m d:Nat} {j:aE} (p:a.eval x= .slice C m d) (r:bh w w.heap.size k C m j)
 (u:(n+m)*bytes<=140737488355328) (z:B<=w.heap.size)
 (h:∀g c' b,Own b B e k g (n+m) c' (xs++j)->Below B w b->wpList P ops Q rest (a.put o.dst (.slice g (n+m) c')) b):wpList P ops Q (o::rest) a w:=
 wpList_plain i fun _ hK=>Co T s x v l f p r u z fun g c' b y q=>hK _ _ (h g c' b y q)
theorem ue{ops:Array Oper}{rest:List Oper}(T:aS P t e 1 bytes)(f:o.guard=none)(s x:Operand)
 (r:o.op= .call {callee:= .builtin .append,args:= #[s,x],argTypes:= #[t,t]}) {B:Nat} {k:IntKind} {A:aC} {n c:Nat} {xs:aE} (p:a.eval s= .slice A n c) (b:Own w B e k A n c xs)
 {C:aC} {m d:Nat} {j:aE} (u:a.eval x= .slice C m d) (y:bh w w.heap.size k C m j)
 (N:Nat) (q:n+m=N) (l:N*bytes<=140737488355328) (v:B<=w.heap.size)
 (h:∀i c' g,Own g B e k i N c' (xs++j)->Below B w g->wpList P ops Q rest (a.put o.dst (.slice i N c')) g):wpList P ops Q (o::rest) a w:=by
 subst q;exact gT T f s x r p b u y l v h
end
def oG(P:Program)(t:TypeId)(A:aC)(n c:Nat)(lo d:Option Value)(i j m:Nat)(b:aC)(a:Nat):Prop:=
 (∀w:World,(Instr.slice t (.slice A n c) lo d none).run P w= .ok (.slice b m a) w)/\m<=a/\a<=c/\∀w B k xs,bh w B k A n xs->bh w B k b m ((xs.take j).drop i)
section
variable {P : Program} {t e : TypeId} {bytes : Nat}
theorem cQ{size:Nat}(T:aS P t e size bytes)(w:World):(sizeOf (P.elem t)).run P w= .ok size w:=by
 obtain⟨i,z,b,f,a,g,d⟩:=T.info;have c:P.elem t=e:=by simp[Program.elem,T.ht]
 rw[c];simp[sizeOf,typeInfo,b,a]
theorem cP{size:Nat}(T:aS P t e size bytes):P.underlying t=some (.slice (P.elem t)):=by
 have a:P.elem t=e:=by simp[Program.elem,T.ht]
 rw[a];exact T.ht
theorem mQ(T:aS P t e 1 bytes)(A:aC)(n c i j:Nat)(a:i<=j)(p:j<=n)(d:n<=c)(l h:Int)(b:l=i)(f:h=j):
 ∃m o,oG P t A n c (some (ae aj l)) (some (ae aj h)) i j (j-i) m o:=by
 subst b;subst f
 refine⟨if c=i then A else A.map (·.add i),c-i,fun w=> ?_,aq,aq,fun w B k xs g=>g.cut a p d⟩;rw[run_slice_lh w t A n c (cP T) .i64 .i64 i j aq aq aq,cQ T];simp[Result.andThen,sliced]
theorem oG.run{a:aC}{d:Nat}{b:Option Value}(h:oG P t A n c lo b i j m a d):∀w:World,(Instr.slice t (.slice A n c) lo b none).run P w= .ok (.slice a m d) w:=h.1
theorem oG.at_{a:aC}{f:Nat}{d:Option Value}(h:oG P t A n c lo d i j m a f){w:World}{B:Nat}{k:IntKind}{xs:aE}(b:bh w B k A n xs):bh w B k a m ((xs.take j).drop i):=h.2.2.2 w B k xs b
theorem oG.jv{b:aC}{d:Nat}{f:Option Value}(h:oG P t A n c lo f i j m b d){w:World}{k:IntKind}{xs:aE}(a:aL k w A n c xs):aL k w b m d ((xs.take j).drop i):=
 ⟨h.at_ a.at_,h.2.1,Nat.le_trans h.2.2.1 a.cap,fun x g=>a.wf x (List.mem_of_mem_take (List.mem_of_mem_drop g))⟩
end
theorem Own.jv{w:World}{B:Nat}{e:TypeId}{k:IntKind}{xs:aE}(h:Own w B e k A n c xs)(a:∀x∈xs,(Lit.int k x).wf=true):aL k w A n c xs:=
 ⟨h.ints,aB.le h,aB.wL h,a⟩
theorem av(w:World)(o:Obj):aA w (w.alloc o):=(Below.refl _ _).alloc cr o
theorem add_succ(a:Addr)(k:Nat):a.add (k+1)=⟨a.block,a.off+(k+1),none⟩:=Hn
end Go.Proofs.YtpidckelbgbbkaaGreatDoor
