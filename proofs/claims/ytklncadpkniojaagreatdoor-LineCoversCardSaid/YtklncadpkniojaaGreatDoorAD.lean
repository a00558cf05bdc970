/- Part of LineCovers. -/
import Derived.Test.YtklncadpkniojaaGreatDoorAB
namespace Go.Proofs.YtklncadpkniojaaGreatDoor
open Go.ChangeShapes Go.WideShapes Go.ChangeAt Go.RowKit Go.Proofs.Tryz
open Go renaming World->ahh,TypeId->ahm,Ending->ahn,Program->aho
open Go.RowKit renaming Below->ahi
open Go.Value renaming int->ae
open Go.IntKind renaming i64->aj
set_option linter.all false
set_option maxRecDepth 100000
set_option maxHeartbeats 16000000
variable{g:Nat}
section
variable{w w':ahh}{B B' n c:Nat}{e:ahm}{k:IntKind}{P P':Int -> Prop}{A:aA}
def Ow(w:ahh)(B:Nat)(e:ahm)(k:IntKind)(P:Int->Prop)(A:aA)(n c:Nat):Prop:=∃xs,Own w B e k A n c xs/\∀x∈xs,P x
def Nw(w:ahh)(e:ahm)(k:IntKind)(P:Int->Prop)(n:Nat)(r:ahn)(w':ahh):Prop:=∃(A:aA) (c:Nat),r=.returned (.slice A n c)/\Ow w' w.heap.size e k P A n c/\az w w'
def Iw(w:ahh)(B:Nat)(k:IntKind)(P:Int->Prop)(A:aA)(n:Nat):Prop:=∃xs,bH w B k A n xs/\∀x∈xs,P x
abbrev Wf(k:IntKind)(x:Int):Prop:=(Lit.int k x).wf=true
theorem Iw.Z(h:Iw w B k P A n)(b:ahi B w w')(a:B<=B'):Iw w' B' k P A n:=by
 obtain⟨xs,d,f⟩:=h;exact⟨xs,(d.below b).more a,f⟩
theorem Iw.get(h:Iw w B k P A n){j:Nat}(d:j<n):∃(a:Addr) (z:Int),A=some a/\P z/\w.cell? (a.add j)=some (.int k z):=by
 obtain⟨xs,b,g⟩:=h;obtain⟨a,e,f⟩:=b.fP d;have:=b.len;exact⟨a,_,e,g _ Bk,f⟩
theorem aM.iw{xs:aC}(h:aM k w A n c xs):Iw w w.heap.size k (Wf k) A n:=⟨xs,h.at_,h.wf⟩
theorem Ow.nil(w:ahh)(B:Nat)(e:ahm)(k:IntKind)(P:Int->Prop):Ow w B e k P none 0 0:=⟨[],Own.nil _ _ _ _,aQ⟩
theorem Ow.ar(h:Ow w B e k P A n c)(a:az w w'):Ow w' B e k P A n c:=by
 obtain⟨xs,b,d⟩:=h;exact⟨xs,b.ar a,d⟩
theorem Ow.alloc(h:Ow w B e k P A n c)(o:Obj):Ow (w.alloc o) B e k P A n c:=h.ar (av _ _)
theorem Ow.cJ(h:Ow w B e k P A n c)(f:B'<=B):Ow w B' e k P A n c:=by
 obtain⟨xs,b,a⟩:=h;refine⟨xs,⟨b.1, ?_⟩,a⟩;rcases b.2 with a|⟨g,cap,cur,d,i,r⟩
 .exact .inl a
 .exact .inr ⟨g,cap,cur,d,ak,r⟩
theorem Ow.imp(h:Ow w B e k P A n c)(a:∀x,P x->P' x):Ow w B e k P' A n c:=by
 obtain⟨xs,b,f⟩:=h;exact⟨xs,b,fun x d=>a x (f x d)⟩
theorem Ow.form(h:Ow w B e k P A n c)(b:0<n):∃g,A=some ⟨g,0,none⟩/\B<=g/\g<w.heap.size:=by
 obtain⟨xs,a,d⟩:=h;exact aw.form a b
theorem Ow.lt(h:Ow w B e k P (some ⟨g,0,none⟩) n c):B<=g/\g<w.heap.size:=by
 obtain⟨xs,a,b⟩:=h;exact aw.xD a
theorem Ow.le(h:Ow w B e k P A n c):n<=c/\c<=9223372036854775807:=by
 obtain⟨xs,a,b⟩:=h;exact⟨aw.le a,aw.uD a⟩
theorem Ow.fz(h:Ow w B e k P (some ⟨g,0,none⟩) n c)(j:Nat):w.frozen? ⟨g,j,none⟩=false:=by
 obtain⟨xs,a,b⟩:=h;exact aw.frozenAt a j
theorem Ow.get(h:Ow w B e k P (some ⟨g,0,none⟩) n c){j:Nat}(b:j<n):∃z:Int,P z/\w.cell? ⟨g,j,none⟩=some (.int k z):=by
 obtain⟨xs,a,d⟩:=h;have:=a.len;exact⟨_,d _ Bk,bT a b⟩
theorem Ow.set(h:Ow w B e k P (some ⟨g,0,none⟩) n c)(j:Nat){y:Int}(b:P y):Ow (w.setCell ⟨g,j,none⟩ (.int k y)) B e k P (some ⟨g,0,none⟩) n c:=by
 obtain⟨xs,d,f⟩:=h;refine⟨_,Own.uw d j y,fun x a=> ?_⟩;rcases List.mem_or_eq_of_mem_set a with a|rfl
 .exact f x a
 .exact b
theorem Ow.iw(h:Ow w B e k P A n c):Iw w w.heap.size k P A n:=by
 obtain⟨xs,a,b⟩:=h;exact⟨xs,a.ints,b⟩
theorem Ow.sl(h:Ow w B e k (Wf k) A n c):∃xs,aM k w A n c xs:=by
 obtain⟨xs,a,b⟩:=h;exact⟨xs,a.fT b⟩
theorem ac9{xs:aC}{r:ahn}(h:lN w e k n xs r w')(f:∀x∈xs,P x):Nw w e k P n r w':=by
 obtain⟨A,c,a,d,b⟩:=h;exact⟨A,c,a,⟨xs,d,f⟩,b⟩
theorem bO{P:aho}{w:ahh}{ops:Array Oper}{rest:List Oper}{o:Oper}{a:Act}{K:Exit->Act->ahh->Prop}{t e:ahm}{bytes:Nat}(T:aR P t e 1 bytes)(j:o.guard=none)(s x:Operand)
 (v:o.op=.call {callee:=.builtin .append,args:=#[s,x],argTypes:=#[t,t]}) {B:Nat} {k:IntKind} {p:Int->Prop} {A:aA} {n c:Nat} (m:a.eval s=.slice A n c) (f:Ow w B e k p A n c)
 {g:Nat} (r:a.eval x=.slice (some ⟨g,0,none⟩) 1 1) {y:Int} (q:w.cell? ⟨g,0,none⟩=some (.int k y)) (l:p y)
 (E:(n+1)*bytes<=140737488355328) (D:B<=w.heap.size)
 (h:∀i c' w',Ow w' B e k p i (n+1) c'->ahi B w w'->wpList P ops K rest (a.put o.dst (.slice i (n+1) c')) w'):wpList P ops K (o::rest) a w:=by
 obtain⟨xs,C,u⟩:=f;refine kA T j s x v m C r q E D fun i c' w' o b=>h i c' w' ⟨_,o,fun z d=> ?_⟩ b
 rw[List.mem_append]at d;rcases d with d|d
 .exact u z d
 .simp at d;subst d;exact l
theorem cS{P:aho}{w:ahh}{ops:Array Oper}{rest:List Oper}{o:Oper}{a:Act}{Q:Exit->Act->ahh->Prop}{t e:ahm}{bytes:Nat}{k:IntKind}{p:Int->Prop}(T:aR P t e 1 bytes)(d:(P.info? e).map (·.zero)=some (some (.int k 0)))(m:p 0)(b:o.guard=none)(l c:Operand)
 (y:o.op=.makeSlice t l c) {f s:IntKind} {L C:Int} (n:Nat) (j:a.eval l=.int f L) (r:a.eval c=.int s C) (i:L=(n:Int)) (q:C=(n:Int)) (E:n*bytes<=140737488355328) (B:Nat) (D:B<=w.heap.size)
 (h:∀g w',Ow w' B e k p (some ⟨g,0,none⟩) n n->ahi B w w'->wpList P ops Q rest (a.put o.dst (.slice (some ⟨g,0,none⟩) n n)) w'):wpList P ops Q (o::rest) a w:=
 eh T d b l c y n j r i q E B D fun g w' z v=>h g w' ⟨_,z,fun x u=>by rw[(List.mem_replicate.1 u).2];exact m⟩ v
end
theorem lO:aR prog 39 3 1 8:=bu underlying39 (z:=ae aj 0) aF rfl ak ak
theorem Ko:aR prog 27 21 1 4:=bu underlying27 (z:=.int .i32 0) aF rfl ak ak
abbrev aH(_:Int):Prop:=True
theorem YK:aR prog 57 64 2 16:=bu underlying57 (z:=.agg #[ae aj 0,ae aj 0]) aF rfl ak ak
abbrev Cm(w:ahh)(B:Nat)(ps:List (Nat×Nat))(A:aA)(n c:Nat):Prop:=aw w B 64 2 A n c (dx ps)
end Go.Proofs.YtklncadpkniojaaGreatDoor
