/- Part of LineCovers. -/
import Derived.Test.YtklncadpkniojaaGreatDoorAd
import Derived.Deep.Upon
namespace Go.Proofs.YtklncadpkniojaaGreatDoor
open Go.ChangeShapes Go.WideShapes Go.ChangeAt Go.RowKit
open Go renaming World->ahh,Value->ahj,TypeId->ahm,Program->aho
open Go.RowKit renaming Below->ahi
open Go.Value renaming int->ae
open Go.IntKind renaming i64->aj
set_option linter.all false
set_option maxRecDepth 100000
set_option maxHeartbeats 16000000
variable{A:aA}{c i j m n:Nat}{lo:Option ahj}
section
variable{P:aho}{w:ahh}{o:Oper}{a:Act}{Q:Exit -> Act -> ahh -> Prop}{t e:ahm}{bytes:Nat}
theorem Et{K:Act->ahh->Prop}(T:aR P t e 1 bytes)(s x:Operand)
 (U:o.op=.call {callee:=.builtin .append,args:=#[s,x],argTypes:=#[t,t]}) {B:Nat} {k:IntKind} {A:aA} {n c:Nat} {xs:aC} (N:a.eval s=.slice A n c) (b:Own w B e k A n c xs)
 {C:aA} {m d:Nat} {v:aC} (O:a.eval x=.slice C m d) (f:bH w w.heap.size k C m v)
 (hn:(n+m)*bytes<=140737488355328) (W:B<=w.heap.size)
 (h:∀l c' q,Own q B e k l (n+m) c' (xs++v)->ahi B w q->K (a.put o.dst (.slice l (n+m) c')) q):o.wp P a w K Q:=by
 obtain⟨i,z,S,X,J,F,I⟩:=T.info;have G:=T.yY;have qM:n+m<=140737488355328:=by
  have R:(n+m)*1<=(n+m)*bytes:=Nat.mul_le_mul_left _ G;omega
 cases C with
 |none=>
  obtain rfl:m=0:=by
   rcases Nat.eq_zero_or_pos m with r|r
   .exact r
   .obtain⟨_,E,_⟩:=f.2 r;cases E
  obtain rfl:v=[]:=List.eq_nil_of_length_eq_zero f.1;have p:=run_append_nothing (P:=P) w t t o.type e i T.ht S A n c (aw.le b) (.slice none 0 d) (Src.ofNil (size:=i.size) (w:=w) T.ht d);unfold Oper.wp execOp;simp only[U,resolve,invoke,builtin,Sem.run_bind,Sem.run_pure,Result.andThen_ok,List.map_toArray,List.map_cons,List.map_nil,N,O,p];have:=h A c w (by simpa using b) (Below.refl _ _);simp only[Nat.add_zero]at this;exact this
 |some ad=>
  refine wp_append_own w s x t U B e i z 1 bytes T.ht S X J F I T.pos (.slice A n c) n _ N b ad m d (v.map (Value.int k)) O (by simp[f.1]) (fun j u D=> ?_) (fun u D=> ?_) qT hn W ?_
  .have H:j<v.length:=by
    have:=(List.getElem?_eq_some_iff.1 D).1;simpa using this
   obtain⟨L,E,_,Y⟩:=f.2 (by rw[<-f.1];omega);obtain rfl:ad=L:=Option.some.inj E;rw[Y j (by rw[<-f.1];exact H),<-D,List.getElem?_map,List.getElem?_eq_getElem H,cB H];rfl
  .obtain⟨y,_,rfl⟩:=List.mem_map.1 D
   rfl
  .intro Z q V R _
   obtain⟨l,c',rfl⟩:∃l c',Z=.slice l (n+m) c':=by
    rcases V.2 with⟨M,r⟩|⟨g,cap,cur,M,_⟩
    .exact⟨none,0,by rw[M,r]⟩
    .exact⟨_,_,M⟩
   refine h l c' q ?_ (aw.dm b R W);unfold Own aw;rw[List.map_append];exact V
theorem gS{ops:Array Oper}{rest:List Oper}(T:aR P t e 1 bytes)(i:o.guard=none)(s x:Operand)
 (u:o.op=.call {callee:=.builtin .append,args:=#[s,x],argTypes:=#[t,t]}) {B:Nat} {k:IntKind} {A:aA} {n c:Nat} {xs:aC} (l:a.eval s=.slice A n c) (f:Own w B e k A n c xs)
 {C:aA} {m d:Nat} {j:aC} (q:a.eval x=.slice C m d) (p:bH w w.heap.size k C m j)
 (z:(n+m)*bytes<=140737488355328) (y:B<=w.heap.size)
 (h:∀g c' b,Own b B e k g (n+m) c' (xs++j)->ahi B w b->wpList P ops Q rest (a.put o.dst (.slice g (n+m) c')) b):wpList P ops Q (o::rest) a w:=
 wpList_plain i fun _ hK=>Et T s x u l f q p z y fun g c' b v r=>hK _ _ (h g c' b v r)
theorem tu{ops:Array Oper}{rest:List Oper}(T:aR P t e 1 bytes)(g:o.guard=none)(s x:Operand)
 (l:o.op=.call {callee:=.builtin .append,args:=#[s,x],argTypes:=#[t,t]}) {B:Nat} {k:IntKind} {A:aA} {n c:Nat} {xs:aC} (p:a.eval s=.slice A n c) (b:Own w B e k A n c xs)
 {C:aA} {m d:Nat} {i:aC} (y:a.eval x=.slice C m d) (r:bH w w.heap.size k C m i)
 (N:Nat) (u:n+m=N) (v:N*bytes<=140737488355328) (q:B<=w.heap.size)
 (h:∀j c' f,Own f B e k j N c' (xs++i)->ahi B w f->wpList P ops Q rest (a.put o.dst (.slice j N c')) f):wpList P ops Q (o::rest) a w:=by
 subst u;exact gS T g s x l p b y r v q h
end
def oy(P:aho)(t:ahm)(A:aA)(n c:Nat)(lo d:Option ahj)(i j m:Nat)(b:aA)(a:Nat):Prop:=
 (∀w:ahh,(Instr.slice t (.slice A n c) lo d none).run P w=.ok (.slice b m a) w)/\m<=a/\a<=c/\∀w B k xs,bH w B k A n xs->bH w B k b m ((xs.take j).drop i)
section
variable{P:aho}{t e:ahm}{bytes:Nat}
theorem cO{size:Nat}(T:aR P t e size bytes)(w:ahh):(sizeOf (P.elem t)).run P w=.ok size w:=by
 obtain⟨i,z,b,f,c,d,g⟩:=T.info;have a:P.elem t=e:=by simp[Program.elem,T.ht]
 rw[a];simp[sizeOf,typeInfo,b,c]
theorem cQ{size:Nat}(T:aR P t e size bytes):P.underlying t=some (.slice (P.elem t)):=by
 have a:P.elem t=e:=by simp[Program.elem,T.ht]
 rw[a];exact T.ht
theorem jj(T:aR P t e 1 bytes)(A:aA)(n c i j:Nat)(a:i<=j)(m:j<=n)(o:n<=c)(l h:Int)(f:l=i)(b:h=j):
 ∃d g,oy P t A n c (some (ae aj l)) (some (ae aj h)) i j (j-i) d g:=by
 subst f;subst b
 refine⟨if c=i then A else A.map (·.add i),c-i,fun w=> ?_,ak,ak,fun w B k xs p=>p.cut a m o⟩;rw[run_slice_lh w t A n c (cQ T) .i64 .i64 i j ak ak ak,cO T];simp[Result.andThen,sliced]
theorem oy.run{a:aA}{b:Nat}{d:Option ahj}(h:oy P t A n c lo d i j m a b):∀w:ahh,(Instr.slice t (.slice A n c) lo d none).run P w=.ok (.slice a m b) w:=h.1
theorem oy.at_{a:aA}{b:Nat}{f:Option ahj}(h:oy P t A n c lo f i j m a b){w:ahh}{B:Nat}{k:IntKind}{xs:aC}(d:bH w B k A n xs):bH w B k a m ((xs.take j).drop i):=h.2.2.2 w B k xs d
theorem oy.fT{b:aA}{d:Nat}{g:Option ahj}(h:oy P t A n c lo g i j m b d){w:ahh}{k:IntKind}{xs:aC}(a:aM k w A n c xs):aM k w b m d ((xs.take j).drop i):=
 ⟨h.at_ a.at_,h.2.1,Nat.le_trans h.2.2.1 a.cap,fun x f=>a.wf x (List.mem_of_mem_take (List.mem_of_mem_drop f))⟩
end
theorem Own.fT{w:ahh}{B:Nat}{e:ahm}{k:IntKind}{xs:aC}(h:Own w B e k A n c xs)(a:∀x∈xs,(Lit.int k x).wf=true):aM k w A n c xs:=
 ⟨h.ints,aw.le h,aw.uD h,a⟩
theorem av(w:ahh)(o:Obj):az w (w.alloc o):=(Below.refl _ _).alloc bW o
theorem add_succ(a:Addr)(k:Nat):a.add (k+1)=⟨a.block,a.off+(k+1),none⟩:=H5
end Go.Proofs.YtklncadpkniojaaGreatDoor
