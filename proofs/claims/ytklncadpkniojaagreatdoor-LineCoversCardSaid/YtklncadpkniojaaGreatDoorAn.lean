/- Part of LineCovers. -/
import Derived.Test.YtklncadpkniojaaGreatDoorAk
import Derived.Test.YtklncadpkniojaaGreatDoorAj
namespace Go.Proofs.YtklncadpkniojaaGreatDoor
open Go.ChangeShapes Go.WideShapes Go.ChangeAt Go.RowKit
open Go renaming World->ahh,Value->ahj,TypeId->ahm
open Go.Value renaming int->ae
open Go.IntKind renaming i64->aj
set_option linter.all false
set_option maxRecDepth 100000
set_option maxHeartbeats 16000000
theorem iG{α β:Type}{k:Nat}(F:α->List β)(a:∀x,(F x).length=k):∀(l:List α) (q i:Nat) (x:α),l[q]? =some x->i<k->(l.flatMap F)[q*k+i]? =(F x)[i]?
 |[],q,i,x,h,_=>by simp at h
 |y::l,0,i,x,h,hi=>by
  simp at h;subst h;rw[List.flatMap_cons,List.getElem?_append_left (by rw[a];omega)];simp
 |y::l,q+1,i,x,h,hi=>by
  simp at h;rw[List.flatMap_cons,List.getElem?_append_right (by rw[a,Nat.add_mul];omega),a,show(q+1)*k+i-k=q*k+i by rw[Nat.add_mul];omega];exact iG F a l q i x h hi
theorem Nl{α β:Type}{k:Nat}(F:α->List β)(a:∀x,(F x).length=k)(l:List α):(l.flatMap F).length=l.length*k:=by
 induction l with
 |nil=>simp
 |cons y l ih=>rw[List.flatMap_cons,List.length_append,a,ih,List.length_cons,Nat.add_mul];omega
def jZ(g:fK):List ahj:=[ae aj g.gK,ae aj g.id,ae aj g.x,ae aj g.y]
theorem Qy(g:fK):(jZ g).length=4:=rfl
def iD(w:ahh)(B:Nat)(G:aA)(gc:Nat)(gs:List fK):Prop:=aw w B 101 4 G gs.length gc (gs.flatMap jZ)
abbrev BoxM:=aZ×aA×Nat
def iE(p:BoxM):List ahj:=[ae aj p.1.f,ae aj p.1.t,ae aj p.1.lv,ae aj p.1.x,ae aj p.1.wd,.slice p.2.1 p.1.gs.length p.2.2]
theorem pt(p:BoxM):(iE p).length=6:=rfl
structure fa(w:ahh)(B:Nat)(A:aA)(c:Nat)(ps:List BoxM):Prop where
 row:aw w B 51 6 A ps.length c (ps.flatMap iE)
 gl:∀p∈ps,iD w B p.2.1 p.2.2 p.1.gs
section
variable{w w':ahh}{B n c gc:Nat}{A G:aA}{ps:List BoxM}{gs:List fK}
theorem iD.ar(h:iD w B G gc gs)(a:az w w'):iD w' B G gc gs:=aw.ar h a
theorem fa.ar(h:fa w B A c ps)(a:az w w'):fa w' B A c ps:=⟨aw.ar h.row a,fun p b=>(h.gl p b).ar a⟩
theorem fa.nil(w:ahh)(B:Nat):fa w B none 0 []:=⟨aw.nil _ _ _ _,fun p a=>by cases a⟩
theorem iD.nil(w:ahh)(B:Nat):iD w B none 0 []:=aw.nil _ _ _ _
theorem bS{u r t y v:Nat}{m i:ahm}{vs s:List ahj}(h:aw w B m y A n c vs)(k:aw w u i v G r t s)(e:m≠i):bM A G:=by
 intro g x p;subst x;subst p;rcases h.2 with⟨a,_⟩|⟨z,l,j,a,_,q,_⟩
 .cases a
 .rcases k.2 with⟨b,_⟩|⟨g2,o,f,b,_,d,_⟩
  .cases b
  .injection a with a
   injection a with a
   injection a with a
   injection b with b
   injection b with b
   injection b with b
   subst a;subst b;rw[q]at d;injection d with d
   injection d with _ d
   exact e d
theorem fa.push(h:fa w B A c ps){b:aA}{c':Nat}{p:BoxM}(f:aw w' B 51 6 b (ps.length+1) c' (ps.flatMap iE++iE p))(e:w.grownBy w' (Value.slice A ps.length c).ownBlock)
 (g:iD w B p.2.1 p.2.2 p.1.gs):fa w' B b c' (ps++[p]):=by
 refine⟨?_,fun q a=> ?_⟩
 .rw[List.length_append,List.flatMap_append]
  simpa using f
 .have d:∀q:BoxM,iD w B q.2.1 q.2.2 q.1.gs->iD w' B q.2.1 q.2.2 q.1.gs:=fun q k=>aw.kept k e (bS k h.row cr) (aw.dK h.row)
  rw[List.mem_append]at a;rcases a with a|a
  .exact d q (h.gl q a)
  .simp at a
   subst a;exact d _ g
theorem iD.TP(h:iD w B G gc gs):lJ w w.heap.size G gs.length gs:=by
 refine⟨rfl,fun m=> ?_⟩;obtain⟨g,rfl,_,f⟩:=aw.form h m;refine⟨_,rfl,f,fun j k=> ?_⟩;have e:gs[j]? =some (pE gs j):=by rw[FZ k,List.getElem?_eq_getElem k]
 have l:∀i v,i<4->(jZ (pE gs j))[i]? =some v->w.cell? ⟨g,j*4+i,none⟩=some v:=by
  intro i v b d;rw[aw.cellAt h (j*4+i) ak,iG jZ Qy gs j i _ e b];exact d
 have a:∀i v,i<4->(jZ (pE gs j))[i]? =some v->w.cell? (((⟨g,0,none⟩:Addr).add (j*4)).add i)=some v:=by
  intro i v b d;rw[aY,bj];exact l i v b d
 refine⟨?_,a 1 _ ak rfl,a 2 _ ak rfl,a 3 _ ak rfl⟩;rw[bj];exact l 0 _ ak rfl
theorem fa.boxes(h:fa w B A c ps):db w w.heap.size A ps.length (ps.map (·.1)):=by
 refine⟨aQ,fun l=> ?_⟩;obtain⟨g,rfl,_,b⟩:=aw.form h.row l;refine⟨_,rfl,b,fun j hj=> ?_⟩;have e:ps[j]? =some ps[j]:=List.getElem?_eq_getElem hj;have f:aJ (ps.map (·.1)) j=ps[j].1:=Xm;have d:=(h.gl _ (List.getElem_mem hj)).TP;rw[f];generalize ps[j]=p at*;have a:∀i v,i<6->(iE p)[i]? =some v->w.cell? (((⟨g,0,none⟩:Addr).add (j*6)).add i)=some v:=by
  intro i v m k;rw[aY,bj,aw.cellAt h.row (j*6+i) ak,iG iE pt ps j i _ e m];exact k
 refine⟨?_,a 1 _ ak rfl,a 2 _ ak rfl,a 3 _ ak rfl,a 4 _ ak rfl,p.2.1,p.2.2,a 5 _ ak rfl,d⟩;have:=a 0 _ ak rfl;rwa [aY,Nat.add_zero]at this
end
end Go.Proofs.YtklncadpkniojaaGreatDoor
