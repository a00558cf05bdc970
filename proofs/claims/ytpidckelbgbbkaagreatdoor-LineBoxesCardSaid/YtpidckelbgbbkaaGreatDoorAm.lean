/- Part of LineBoxes. -/
import Derived.Test.YtpidckelbgbbkaaGreatDoorAj
import Derived.Test.YtpidckelbgbbkaaGreatDoorAi
namespace Go.Proofs.YtpidckelbgbbkaaGreatDoor
open Go.ChangeShapes Go.WideShapes Go.ChangeAt Go.RowKit
open Go.Value renaming int → ae
open Go.IntKind renaming i64 → aj
set_option linter.all false
set_option maxRecDepth 100000
set_option maxHeartbeats 16000000
theorem kf{α β:Type}{k:Nat}(F:α->List β)(a:∀x,(F x).length=k):∀(l:List α) (q i:Nat) (x:α),l[q]? =some x->i<k->(l.flatMap F)[q*k+i]? =(F x)[i]?
 |[],q,i,x,h,_=>by simp at h
 |y::l,0,i,x,h,hi=>by
  simp at h;subst h;rw[List.flatMap_cons,List.getElem?_append_left (by rw[a];omega)];simp
 |y::l,q+1,i,x,h,hi=>by
  simp at h;rw[List.flatMap_cons,List.getElem?_append_right (by rw[a,Nat.add_mul];omega),a,show(q+1)*k+i-k=q*k+i by rw[Nat.add_mul];omega];exact kf F a l q i x h hi
theorem LZ{α β:Type}{k:Nat}(F:α->List β)(a:∀x,(F x).length=k)(l:List α):(l.flatMap F).length=l.length*k:=by
 induction l with
 |nil=>simp
 |cons y l ih=>rw[List.flatMap_cons,List.length_append,a,ih,List.length_cons,Nat.add_mul];omega
def iV(g:gN):List Value:=[ae aj g.iX,ae aj g.id,ae aj g.x,ae aj g.y]
theorem NF(g:gN):(iV g).length=4:=rfl
def gv(w:World)(B:Nat)(G:aC)(gc:Nat)(gs:List gN):Prop:=aB w B 86 4 G gs.length gc (gs.flatMap iV)
abbrev BoxM:=bP×aC×Nat
def jD(p:BoxM):List Value:=[ae aj p.1.f,ae aj p.1.t,ae aj p.1.lv,ae aj p.1.x,ae aj p.1.wd, .slice p.2.1 p.1.gs.length p.2.2]
theorem Oy(p:BoxM):(jD p).length=6:=rfl
structure iD(w:World)(B:Nat)(A:aC)(c:Nat)(ps:List BoxM):Prop where
 row:aB w B 50 6 A ps.length c (ps.flatMap jD)
 gl:∀p∈ps,gv w B p.2.1 p.2.2 p.1.gs
section
variable {w w' : World} {B n c gc : Nat} {A G : aC} {ps : List BoxM} {gs : List gN}
theorem gv.ar(h:gv w B G gc gs)(a:aA w w'):gv w' B G gc gs:=aB.ar h a
theorem iD.ar(h:iD w B A c ps)(a:aA w w'):iD w' B A c ps:=⟨aB.ar h.row a,fun p b=>(h.gl p b).ar a⟩
theorem iD.nil(w:World)(B:Nat):iD w B none 0 []:=⟨aB.nil _ _ _ _,fun p a=>by cases a⟩
theorem gv.nil(w:World)(B:Nat):gv w B none 0 []:=aB.nil _ _ _ _
theorem bZ{r q x p s:Nat}{i j:TypeId}{vs v:List Value}(h:aB w B i p A n c vs)(k:aB w r j s G q x v)(e:i≠j):bO A G:=by
 intro g y t;subst y;subst t;rcases h.2 with⟨a,_⟩|⟨z,o,f,a,_,u,_⟩
 ·cases a
 ·rcases k.2 with⟨b,_⟩|⟨g2,l,m,b,_,d,_⟩
  ·cases b
  ·injection a with a
   injection a with a
   injection a with a
   injection b with b
   injection b with b
   injection b with b
   subst a;subst b;rw[u]at d;injection d with d
   injection d with _ d
   exact e d
theorem iD.push(h:iD w B A c ps){d:aC}{c':Nat}{p:BoxM}(e:aB w' B 50 6 d (ps.length+1) c' (ps.flatMap jD++jD p))(f:w.grownBy w' (Value.slice A ps.length c).ownBlock)
 (g:gv w B p.2.1 p.2.2 p.1.gs):iD w' B d c' (ps++[p]):=by
 refine⟨?_,fun q a=> ?_⟩
 ·rw[List.length_append,List.flatMap_append]
  simpa using e
 ·have b:∀q:BoxM,gv w B q.2.1 q.2.2 q.1.gs->gv w' B q.2.1 q.2.2 q.1.gs:=fun q k=>aB.kept k f (bZ k h.row bQ) (aB.dN h.row)
  rw[List.mem_append]at a;rcases a with a|a
  ·exact b q (h.gl q a)
  ·simp at a
   subst a;exact b _ g
theorem gv.afh(h:gv w B G gc gs):lj w w.heap.size G gs.length gs:=by
 refine⟨rfl,fun m=> ?_⟩;obtain⟨g,rfl,_,a⟩:=aB.form h m;refine⟨_,rfl,a,fun j l=> ?_⟩;have e:gs[j]? =some (mL gs j):=by rw[Fa l,List.getElem?_eq_getElem l]
 have k:∀i v,i<4->(iV (mL gs j))[i]? =some v->w.cell? ⟨g,j*4+i,none⟩=some v:=by
  intro i v b f;rw[aB.cellAt h (j*4+i) aq,kf iV NF gs j i _ e b];exact f
 have d:∀i v,i<4->(iV (mL gs j))[i]? =some v->w.cell? (((⟨g,0,none⟩:Addr).add (j*4)).add i)=some v:=by
  intro i v b f;rw[bm,bB];exact k i v b f
 refine⟨?_,d 1 _ aq rfl,d 2 _ aq rfl,d 3 _ aq rfl⟩;rw[bB];exact k 0 _ aq rfl
theorem iD.boxes(h:iD w B A c ps):cZ w w.heap.size A ps.length (ps.map (·.1)):=by
 refine⟨aD,fun f=> ?_⟩;obtain⟨g,rfl,_,b⟩:=aB.form h.row f;refine⟨_,rfl,b,fun j d=> ?_⟩;have e:ps[j]? =some ps[j]:=List.getElem?_eq_getElem d;have o:bN (ps.map (·.1)) j=ps[j].1:=by rw[xW (by simpa using d)];simp
 have l:=(h.gl _ (List.getElem_mem d)).afh;rw[o];generalize ps[j]=p at*;have a:∀i v,i<6->(jD p)[i]? =some v->w.cell? (((⟨g,0,none⟩:Addr).add (j*6)).add i)=some v:=by
  intro i v m k;rw[bm,bB,aB.cellAt h.row (j*6+i) aq,kf jD Oy ps j i _ e m];exact k
 refine⟨?_,a 1 _ aq rfl,a 2 _ aq rfl,a 3 _ aq rfl,a 4 _ aq rfl,p.2.1,p.2.2,a 5 _ aq rfl,l⟩;have:=a 0 _ aq rfl;rwa [bm,Nat.add_zero]at this
end
end Go.Proofs.YtpidckelbgbbkaaGreatDoor
