/- Part of LineCovers. -/
import Derived.Test.YtklncadpkniojaaGreatDoorAd
import Derived.Lib.SmallJoins
import Derived.Deep.SlicePairs
namespace Go.Proofs.YtklncadpkniojaaGreatDoor
open Go.ChangeShapes Go.WideShapes Go.RowKit
open Go renaming World->ahh,Value->ahj,TypeId->ahm,Program->aho
open Go.RowKit renaming Below->ahi
open Go.Value renaming int->ae
open Go.IntKind renaming i64->aj
set_option linter.all false
set_option maxRecDepth 100000
set_option maxHeartbeats 16000000
section
open Go.Joins Go.Deep
theorem kN{cs:Array ahj}(h:cs.size=6):∃a b c d e f,cs=#[a,b,c,d,e,f]:=by
 obtain⟨l⟩:=cs
 match l,h with
 |[a,b,c,d,e,f],_=>exact⟨a,b,c,d,e,f,rfl⟩
section
variable{H:Type}{enc:ahm × ahj -> H}{P:aho}{w:ahh}{base:Nat}{spare:Nat -> Bool}{held:Bool}
end
end
section
open Go.Joins Go.Deep
def zB(w:ahh)(p:Addr)(g:fK):Prop:=w.cell? p=some (ae aj g.gK)/\w.cell? (p.add 1)=some (ae aj g.id)/\w.cell? (p.add 2)=some (ae aj g.x)/\w.cell? (p.add 3)=some (ae aj g.y)
def lJ(w:ahh)(B:Nat)(G:aA)(n:Nat)(gs:List fK):Prop:=
 gs.length=n/\(0<n->∃a,G=some a/\a.block<B/\∀j,j<n->zB w (a.add (j*4)) (pE gs j))
def zY(w:ahh)(B:Nat)(p:Addr)(b:aZ):Prop:=
 w.cell? p=some (ae aj b.f)/\w.cell? (p.add 1)=some (ae aj b.t)/\w.cell? (p.add 2)=some (ae aj b.lv)/\w.cell? (p.add 3)=some (ae aj b.x)/\w.cell? (p.add 4)=some (ae aj b.wd)/\
  ∃(G:aA) (a:Nat),w.cell? (p.add 5)=some (.slice G b.gs.length a)/\lJ w B G b.gs.length b.gs
def db(w:ahh)(B:Nat)(A:aA)(n:Nat)(bs:List aZ):Prop:=
 bs.length=n/\(0<n->∃a,A=some a/\a.block<B/\∀j,j<n->zY w B (a.add (j*6)) (aJ bs j))
section
variable{w w':ahh}{B n:Nat}{A G:aA}{bs:List aZ}{gs:List fK}{p:Addr}{b:aZ}{g:fK}
theorem zB.jS(h:zB w p g)(a:∀q:Addr,q.block=p.block->w'.cell? q=w.cell? q):zB w' p g:=by
 obtain⟨e,c,f,d⟩:=h;exact⟨(a _ rfl).trans e,(a _ (aO _ _)).trans c,(a _ (aO _ _)).trans f,(a _ (aO _ _)).trans d⟩
theorem lJ.Z(h:lJ w B G n gs)(d:ahi B w w'){a:Nat}(m:B<=a):lJ w' a G n gs:=
 ⟨h.1,fun i=>by
  obtain⟨l,e,o,k⟩:=h.2 i;refine⟨l,e,ak,fun j f=>(k j f).jS fun q c=>d.cell ?_⟩;rw[aO]at c;omega⟩
theorem zY.Z(h:zY w B p b)(e:p.block<B)(c:ahi B w w'){d:Nat}(m:B<=d):zY w' d p b:=by
 obtain⟨q,f,o,i,r,G,l,j,s⟩:=h;have a:∀k v,w.cell? (p.add k)=some v->w'.cell? (p.add k)=some v:=fun k v h=>(c.cell (by rw[aO];exact e)).trans h
 exact⟨(c.cell e).trans q,a _ _ f,a _ _ o,a _ _ i,a _ _ r,G,l,a _ _ j,s.Z c m⟩
theorem db.Z(h:db w w.heap.size A n bs)(a:az w w'):db w' w'.heap.size A n bs:=
 ⟨h.1,fun f=>by
  obtain⟨k,e,c,i⟩:=h.2 f;refine⟨k,e,Nat.lt_of_lt_of_le c a.size,fun j d=>(i j d).Z (by rw[aO];exact c) a a.size⟩⟩
end
section
variable{H:Type}{enc:ahm × ahj -> H}{P:aho}{w:ahh}{base:Nat}{held:Bool}
end
end
end Go.Proofs.YtklncadpkniojaaGreatDoor
