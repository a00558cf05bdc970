/- Part of LineCovers. -/
import Derived.Test.YtklncadpkniojaaGreatDoorAv
import Derived.Test.YtklncadpkniojaaGreatDoorAg
namespace Go.Proofs.YtklncadpkniojaaGreatDoor
open Go.ChangeShapes Go.WideShapes Go.ChangeAt Go.RowKit Go.Proofs.Tryz
open Go renaming World->ahh,Value->ahj,Calls->ahk,TypeId->ahm
open Go.RowKit renaming Below->ahi
open Go.Value renaming int->ae
open Go.IntKind renaming i64->aj
set_option linter.all false
set_option maxRecDepth 100000
set_option maxHeartbeats 16000000
variable{b:Addr}{f:cY}{A:aA}{c n:Nat}
theorem EJ(L:List aC->Prop)(A:aA)(n c:Nat)(w:ahh)(h:kT w L A n)(P:n<=100000):ahk prog 320 #[.slice A n c] w (Sc w L n):=by
 obtain⟨gs,C,k⟩:=h;have R:=sH k;have y:=sH C;have hlen:=k.1;have s:=sH hlen;go_enter func320,ntmps320;go_wp2;go_loopg[3,4](n+1)(fun gg v3 v4 wr=>∃(i:Nat) (d:aA) (e:Nat),n-i<gg/\i<=n/\v3=.slice d i e/\v4=ae aj (i:Int)/\aq (fR wr w.heap.size (fun xs=>xs=gs.take i) d i e)/\aq (az w wr))
 .exact⟨0,none,0,ak,ak,rfl,rfl,⟨OL.nil _ _ _ _ rfl⟩,cA⟩
 obtain⟨i,d,e,U,V,rfl,rfl,l,b⟩:=hrel;by_cases a:i<n
 .obtain⟨O,o,t,q,p,u,f,r,v,j,m,rfl,D,Q,X,I,M,S,J,W,T,K,N⟩:=(R.o.Z b.o b.o.size).bD a
  have E:aq (∀xs:List aC,xs=gs.take i->xs++[[o,t,q,p,u,f,r,v,j,m]]=gs.take (i+1)):=⟨fun xs h=>by rw[h,D,JM (by rw[s.o];exact a)]⟩;have H:=b.o.size;go_wp2_with (at_builtin;refine bK (L':=fun xs=>xs=gs.take (i+1)) my rfl (.tmp 11) (.tmp 16) rfl rfl (l.o.alloc _) rfl [o,t,q,p,u,f,r,v,j,m] rfl (cg _ _ _ _ _ aQ rfl) (fun xs _ _ h=>E.o xs h) ak cw ?_;intro F c8 G x g _ _;have z:=sH x;have B:aq (az w G):=⟨(b.o.alloc ak _).trans g⟩;clear x g);go_roundg(n-i)
  .exact⟨i+1,F,c8,ak,ak,rfl,aT,z,B⟩
  omega
 .obtain rfl:i=n:=by omega
  go_wp2;go_ret;exact⟨_,_,rfl,l.o.imp fun xs _ _ h=>by rw[h,List.take_of_length_le (by rw[s.o];exact Nat.le_refl _)];exact y.o,b.o⟩
section
variable{w w':ahh}{B B':Nat}
def As(w:ahh)(B:Nat)(kind:Int)(T:aA)(b:Nat):Prop:=∀i,i<b->∃(a:Addr) (A:aA) (n c:Nat),T=some a/\a.block<B/\w.cell? (a.add i)=some (.slice A n c)/\n<=16/\(kind=2∨1<=n)
def KU(kind:Int):Prop:=kind=1∨kind=2∨kind=5
def Bz(w:ahh)(B:Nat)(k:Lk):Prop:=KU k.kind->∀j,j<k.sn->∃(a:Addr) (C:aA) (b d:Nat) (T:aA) (c:Nat),k.S=some a/\a.block<B/\w.cell? (a.add (j*12))=some (.slice C b d)/\w.cell? (bP (a.add (j*12)) 1)=some (.slice T b c)/\As w B k.kind T b
def R'(w:ahh)(B:Nat)(f:cY):Prop:=f.fn<=64/\∀j,j<f.fn->∃(a:Addr) (A:aA) (n c:Nat),f.F=some a/\a.block<B/\w.cell? (bP (a.add (j*3)) 2)=some (.slice A n c)/\n<=64
def KO(w:ahh)(B:Nat)(f:cY):Prop:=∀j,j<f.ln->∃(a:Addr) (k:Lk),f.L=some a/\a.block<B/\w.cell? (a.add (j*4))=some (ae aj k.kind)/\w.cell? (bP (a.add (j*4)) 1)=some (ae aj k.flags)/\w.cell? (bP (a.add (j*4)) 2)=some (ae aj k.set)/\w.cell? (bP (a.add (j*4)) 3)=some (.slice k.S k.sn k.sc)/\Bz w B k
theorem As.Z{kind:Int}{T:aA}{b:Nat}(h:As w B kind T b)(f:ahi B w w')(l:B<=B'):As w' B' kind T b:=fun i k=>by
 obtain⟨a,A,n,c,d,h2,e,j⟩:=h i k;exact⟨a,A,n,c,d,ak,(f.cell yD).trans e,j⟩
theorem Bz.Z{k:Lk}(h:Bz w B k)(b:ahi B w w')(l:B<=B'):Bz w' B' k:=fun o j m=>by
 obtain⟨a,C,i,f,T,n,c,h2,d,p,e⟩:=h o j m;exact⟨a,C,i,f,T,n,c,ak,(b.cell yD).trans d,(b.cell QU).trans p,e.Z b l⟩
theorem R'.Z(h:R' w B f)(b:ahi B w w')(l:B<=B'):R' w' B' f:=⟨h.1,fun j e=>by
 obtain⟨a,A,n,c,i,h2,k,d⟩:=h.2 j e;exact⟨a,A,n,c,i,ak,(b.cell QU).trans k,d⟩⟩
theorem KO.Z(h:KO w B f)(b:ahi B w w')(d:B<=B'):KO w' B' f:=fun j l=>by
 obtain⟨a,k,m,h2,n,i,o,e,c⟩:=h j l;exact⟨a,k,m,ak,(b.cell yD).trans n,(b.cell QU).trans i,(b.cell QU).trans o,(b.cell QU).trans e,c.Z b d⟩
theorem KO.at{j:Nat}{x:Lk}(h:KO w B f)(s:j<f.ln)(e:f.L=some b)(l:w.cell? (b.add (j*4))=some (ae aj x.kind))(d:w.cell? (bP (b.add (j*4)) 1)=some (ae aj x.flags))(o:w.cell? (bP (b.add (j*4)) 2)=some (ae aj x.set))(n:w.cell? (bP (b.add (j*4)) 3)=some (.slice x.S x.sn x.sc)):Bz w B x:=by
 obtain⟨a,k,h1,D,q,A,y,t,m⟩:=h j s;obtain rfl:a=b:=abP;rw[q]at l;rw[A]at d;rw[y]at o;rw[t]at n
 obtain⟨kind,flags,set,S,E,F⟩:=x;obtain⟨i,c,p,G,v,z⟩:=k;simp at l d o n h1 m⊢;obtain⟨C,r,u⟩:=n;rw[l,d,o,C,r,u]at m;exact m
theorem Bz.at{k:Lk}{j:Nat}{x:Sb}(h:Bz w B k)(o:KU k.kind)(n:j<k.sn)(e:k.S=some b)(d:w.cell? (b.add (j*12))=some (.slice x.C x.cn x.cc))(c:w.cell? (bP (b.add (j*12)) 1)=some (.slice x.T x.tn x.tc)):x.tn=x.cn/\As w B k.kind x.T x.tn:=by
 obtain⟨a,C,t,s,T,v,h1,z,i,m,f⟩:=h o j n;obtain rfl:a=b:=abP;rw[i]at d;rw[m]at c
 simp at d c;obtain⟨q,y,u⟩:=d;obtain⟨l,p,r⟩:=c;rw[l,p]at f;exact⟨ak,f⟩
theorem As.at{kind:Int}{T:aA}{f i:Nat}(h:As w B kind T f)(l:i<f)(e:T=some b)(d:w.cell? (b.add i)=some (.slice A n c)):n<=16/\(kind=2∨1<=n):=by
 obtain⟨a,m,o,c',h1,p,j,k⟩:=h i l;obtain rfl:a=b:=abP;rw[j]at d;simp at d;rw[<-d.2.1];exact k
end
theorem aba{w:ahh}{B:Nat}{e:ahm}{xs:aC}(h:Own w B e .i64 A n c xs)(d:∀x∈xs,(Lit.int .i64 x).wf=true)(l:n<=1000000):cK w w.heap.size dR A n c:=
 ⟨aw.le h,aw.uD h,by simp only[Ty.lb];omega,fun i=>by
  obtain⟨g,rfl,_,b⟩:=aw.form h i;refine⟨_,rfl,b,fun j f=>⟨[ae aj (nth xs j)],⟨_,rfl,d _ ?_⟩,fun q u a=> ?_⟩⟩
  .have k:=h.len
   rw[cB ak];exact List.getElem_mem _
  .obtain rfl:q=0:=by have:=(List.getElem?_eq_some_iff.1 a).1;simpa using this
   simp at a;subst a;rw[aY,bj];simpa[Ty.n]using bT h f⟩
structure cW(g:Nat)(w w':ahh):Prop where
 os:w'.os=w.os
 tape:w'.tape=w.tape
 output:w'.output=w.output
 size:w.heap.size<=w'.heap.size
 block:∀k,k<w.heap.size->k≠g->w'.heap[k]? =w.heap[k]?
section
variable{g:Nat}{w w' oQ:ahh}
theorem cW.refl(g:Nat)(w:ahh):cW g w w:=⟨rfl,rfl,rfl,Nat.le_refl _,fun _ _ _=>rfl⟩
theorem cW.of(h:az w w'):cW g w w':=⟨h.os,h.tape,h.output,h.size,fun k a _=>h.block k a⟩
theorem cW.trans(h:cW g w w')(k:cW g w' oQ):cW g w oQ:=
 ⟨k.os.trans h.os,k.tape.trans h.tape,k.output.trans h.output,Nat.le_trans h.size k.size,fun i b a=>(k.block i (Nat.lt_of_lt_of_le b h.size) a).trans (h.block i b a)⟩
theorem cW.below(h:cW g w w'){B:Nat}(a:B<=g)(c:B<=w.heap.size):ahi B w w':=⟨h.os,h.tape,h.output,h.size,fun k b=>h.block k ak ak⟩
theorem cW.set(h:cW g w w')(o:Nat)(v:ahj):cW g w (w'.setCell ⟨g,o,none⟩ v):=
 h.trans ⟨rfl,rfl,rfl,by simp[World.setCell],fun k _ a=>Below.heap_setCell _ _ _ _ a⟩
theorem cW.cell(h:cW g w w'){p:Addr}{v:ahj}(b:w.cell? p=some v)(c:p.block≠g):w'.cell? p=some v:=by
 have a:=block_lt_of_cell b;exact(World.cell?_of_block (w:=w) (h.block p.block a c)).trans b
def nL(g:Nat)(A:aA)(n:Nat):Prop:=0<n->∀a,A=some a->a.block≠g
theorem Oq.zK{B k:Nat}{e:ahm}{Q:aC->Prop}(h:Oq w B e k Q A n c)(l:g<B):nL g A n:=fun i j a=>by
 obtain⟨b,d,m,_⟩:=h.form i;rw[d]at a;have f:=Option.some.inj a;rw[<-f];show b≠g;omega
end
end Go.Proofs.YtklncadpkniojaaGreatDoor
