/- Part of LineBoxes. -/
import Derived.Test.YtpidckelbgbbkaaGreatDoorAt
import Derived.Test.YtpidckelbgbbkaaGreatDoorAh
namespace Go.Proofs.YtpidckelbgbbkaaGreatDoor
open Go.ChangeShapes Go.WideShapes Go.ChangeAt Go.RowKit Go.Proofs.Tryz
open Go.Value renaming int → ae
open Go.IntKind renaming i64 → aj
set_option linter.all false
set_option maxRecDepth 100000
set_option maxHeartbeats 16000000
variable{b:Addr}{f:db}{A:aC}{c n:Nat}
theorem Dt(Q:aE->Prop)(A:aC)(n c:Nat)(w:World)(h:gi w Q A n)(N:n<=100000):Calls prog 313 #[.slice A n c] w (Qz w Q n):=by
 have R:=sH h;go_enter func313,ntmps313;go_wp2;go_loopg [3,4] (n+1) (fun gg v3 v4 wr=>∃(i:Nat) (d:aC) (e:Nat),n-i<gg/\i<=n/\v3= .slice d i e/\v4=ae aj (i:Int)/\ak (fM wr w.heap.size Q d i e)/\ak (aA w wr))
 ·exact⟨0,none,0,aq,aq,rfl,rfl,⟨Oq.nil _ _ _ _ _⟩,cB⟩
 obtain⟨i,d,e,I,P,rfl,rfl,g,a⟩:=hrel;by_cases b:i<n
 ·obtain⟨G,o,l,C,v,B,k,m,s,z,p,rfl,q,K,O,H,F,J,L,M,T,D,S⟩:=(R.o.Z a.o a.o.size).ba b
  have y:=sH q;have E:=a.o.size;go_wp2_with (at_builtin;refine bU mf rfl (.tmp 11) (.tmp 16) rfl rfl (g.o.alloc _) rfl [o,l,C,v,B,k,m,s,z,p] rfl (cJ _ _ _ _ _ aD rfl) y.o aq cA ?_;intro r c8 u f j;have t:=sH f;have x:ak (aA w u):=⟨(a.o.alloc aq _).trans j⟩;clear f j);go_roundg (n-i)
  ·exact⟨i+1,r,c8,aq,aq,rfl,wQ,t,x⟩
  omega
 ·obtain rfl:i=n:=by omega
  go_wp2;go_ret;exact⟨_,_,rfl,g.o,a.o⟩
section
variable {w w' : World} {B B' : Nat}
def yN(w:World)(B:Nat)(kind:Int)(T:aC)(b:Nat):Prop:=∀i,i<b->∃(a:Addr) (A:aC) (n c:Nat),T=some a/\a.block<B/\w.cell? (a.add i)=some (.slice A n c)/\n<=16/\(kind=2∨1<=n)
def JU(kind:Int):Prop:=kind=1∨kind=2∨kind=5
def zI(w:World)(B:Nat)(k:Lk):Prop:=JU k.kind->∀j,j<k.sn->∃(a:Addr) (C:aC) (b c:Nat) (T:aC) (d:Nat),k.S=some a/\a.block<B/\w.cell? (a.add (j*12))=some (.slice C b c)/\w.cell? (bW (a.add (j*12)) 1)=some (.slice T b d)/\yN w B k.kind T b
def Qt(w:World)(B:Nat)(f:db):Prop:=f.fn<=64/\∀j,j<f.fn->∃(a:Addr) (A:aC) (n c:Nat),f.F=some a/\a.block<B/\w.cell? (bW (a.add (j*3)) 2)=some (.slice A n c)/\n<=64
def J0(w:World)(B:Nat)(f:db):Prop:=∀j,j<f.ln->∃(a:Addr) (k:Lk),f.L=some a/\a.block<B/\w.cell? (a.add (j*4))=some (ae aj k.kind)/\w.cell? (bW (a.add (j*4)) 1)=some (ae aj k.flags)/\w.cell? (bW (a.add (j*4)) 2)=some (ae aj k.set)/\w.cell? (bW (a.add (j*4)) 3)=some (.slice k.S k.sn k.sc)/\zI w B k
theorem yN.Z{kind:Int}{T:aC}{b:Nat}(h:yN w B kind T b)(d:Below B w w')(l:B<=B'):yN w' B' kind T b:=fun i f=>by
 obtain⟨a,A,n,c,j,h2,e,k⟩:=h i f;exact⟨a,A,n,c,j,aq,(d.cell yG).trans e,k⟩
theorem zI.Z{k:Lk}(h:zI w B k)(b:Below B w w')(m:B<=B'):zI w' B' k:=fun o j i=>by
 obtain⟨a,C,e,d,T,p,l,h2,f,n,c⟩:=h o j i;exact⟨a,C,e,d,T,p,l,aq,(b.cell yG).trans f,(b.cell Pm).trans n,c.Z b m⟩
theorem Qt.Z(h:Qt w B f)(b:Below B w w')(l:B<=B'):Qt w' B' f:=⟨h.1,fun j e=>by
 obtain⟨a,A,n,c,i,h2,d,k⟩:=h.2 j e;exact⟨a,A,n,c,i,aq,(b.cell Pm).trans d,k⟩⟩
theorem J0.Z(h:J0 w B f)(b:Below B w w')(n:B<=B'):J0 w' B' f:=fun j i=>by
 obtain⟨a,k,l,h2,c,o,e,m,d⟩:=h j i;exact⟨a,k,l,aq,(b.cell yG).trans c,(b.cell Pm).trans o,(b.cell Pm).trans e,(b.cell Pm).trans m,d.Z b n⟩
theorem J0.at{j:Nat}{x:Lk}(h:J0 w B f)(A:j<f.ln)(e:f.L=some b)(o:w.cell? (b.add (j*4))=some (ae aj x.kind))(n:w.cell? (bW (b.add (j*4)) 1)=some (ae aj x.flags))(l:w.cell? (bW (b.add (j*4)) 2)=some (ae aj x.set))(m:w.cell? (bW (b.add (j*4)) 3)=some (.slice x.S x.sn x.sc)):zI w B x:=by
 obtain⟨a,k,h1,G,z,C,q,t,i⟩:=h j A;obtain rfl:a=b:=aaT;rw[z]at o;rw[C]at n;rw[q]at l;rw[t]at m
 obtain⟨kind,flags,set,S,D,F⟩:=x;obtain⟨d,c,p,E,y,u⟩:=k;simp at o n l m h1 i⊢;obtain⟨v,s,r⟩:=m;rw[o,n,l,v,s,r]at i;exact i
theorem zI.at{k:Lk}{j:Nat}{x:Sb}(h:zI w B k)(o:JU k.kind)(m:j<k.sn)(e:k.S=some b)(d:w.cell? (b.add (j*12))=some (.slice x.C x.cn x.cc))(c:w.cell? (bW (b.add (j*12)) 1)=some (.slice x.T x.tn x.tc)):x.tn=x.cn/\yN w B k.kind x.T x.tn:=by
 obtain⟨a,C,r,q,T,z,h1,v,l,n,f⟩:=h o j m;obtain rfl:a=b:=aaT;rw[l]at d;rw[n]at c
 simp at d c;obtain⟨y,s,t⟩:=d;obtain⟨p,i,u⟩:=c;rw[p,i]at f;exact⟨aq,f⟩
theorem yN.at{kind:Int}{T:aC}{f i:Nat}(h:yN w B kind T f)(k:i<f)(e:T=some b)(d:w.cell? (b.add i)=some (.slice A n c)):n<=16/\(kind=2∨1<=n):=by
 obtain⟨a,o,m,c',h1,p,j,l⟩:=h i k;obtain rfl:a=b:=aaT;rw[j]at d;simp at d;rw[<-d.2.1];exact l
end
theorem Yp{w:World}{B:Nat}{e:TypeId}{xs:aE}(h:Own w B e .i64 A n c xs)(f:∀x∈xs,(Lit.int .i64 x).wf=true)(l:n<=1000000):cM w w.heap.size ew A n c:=
 ⟨aB.le h,aB.wL h,by simp only[Ty.lb];omega,fun d=>by
  obtain⟨g,rfl,_,a⟩:=aB.form h d;refine⟨_,rfl,a,fun j i=>⟨[ae aj (nth xs j)],⟨_,rfl,f _ ?_⟩,fun q u b=> ?_⟩⟩
  ·have k:=h.len
   rw[dQ aq];exact List.getElem_mem _
  ·obtain rfl:q=0:=by have:=(List.getElem?_eq_some_iff.1 b).1;simpa using this
   simp at b;subst b;rw[bm,bB];simpa[Ty.n]using bI h i⟩
structure cW(g:Nat)(w w':World):Prop where
 os:w'.os=w.os
 tape:w'.tape=w.tape
 output:w'.output=w.output
 size:w.heap.size<=w'.heap.size
 block:∀k,k<w.heap.size->k≠g->w'.heap[k]? =w.heap[k]?
section
variable {g : Nat} {w w' oN : World}
theorem cW.refl(g:Nat)(w:World):cW g w w:=⟨rfl,rfl,rfl,Nat.le_refl _,fun _ _ _=>rfl⟩
theorem cW.of(h:aA w w'):cW g w w':=⟨h.os,h.tape,h.output,h.size,fun k a _=>h.block k a⟩
theorem cW.trans(h:cW g w w')(k:cW g w' oN):cW g w oN:=
 ⟨k.os.trans h.os,k.tape.trans h.tape,k.output.trans h.output,Nat.le_trans h.size k.size,fun i a b=>(k.block i (Nat.lt_of_lt_of_le a h.size) b).trans (h.block i a b)⟩
theorem cW.below(h:cW g w w'){B:Nat}(b:B<=g)(a:B<=w.heap.size):Below B w w':=⟨h.os,h.tape,h.output,h.size,fun k c=>h.block k aq aq⟩
theorem cW.set(h:cW g w w')(o:Nat)(v:Value):cW g w (w'.setCell ⟨g,o,none⟩ v):=
 h.trans ⟨rfl,rfl,rfl,by simp[World.setCell],fun k _ a=>Below.heap_setCell _ _ _ _ a⟩
theorem cW.cell(h:cW g w w'){p:Addr}{v:Value}(b:w.cell? p=some v)(c:p.block≠g):w'.cell? p=some v:=by
 have a:=block_lt_of_cell b;exact(World.cell?_of_block (w:=w) (h.block p.block a c)).trans b
def nN(g:Nat)(A:aC)(n:Nat):Prop:=0<n->∀a,A=some a->a.block≠g
theorem Rq.kE{k:Nat}{Q:aE->Prop}(h:Rq w w.heap.size k Q A n)(e:nN g A n)(a:cW g w w'):Rq w' w'.heap.size k Q A n:=fun b=>by
 obtain⟨c,d,i,f⟩:=h b;have:=a.size;refine⟨c,d,aq,fun j o=> ?_⟩;obtain⟨r,p,s,m⟩:=f j o;exact⟨r,p,s,fun q x l=>a.cell (m q x l) (by rw[aO,aO];exact e b c d)⟩
theorem Oq.zV{B k:Nat}{e:TypeId}{Q:aE->Prop}(h:Oq w B e k Q A n c)(m:g<B):nN g A n:=fun d l a=>by
 obtain⟨b,i,j,_⟩:=h.form d;rw[i]at a;have f:=Option.some.inj a;rw[<-f];show b≠g;omega
end
end Go.Proofs.YtpidckelbgbbkaaGreatDoor
