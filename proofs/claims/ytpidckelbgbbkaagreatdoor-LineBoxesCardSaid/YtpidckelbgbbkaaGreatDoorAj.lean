/- Part of LineBoxes. -/
import Derived.Test.YtpidckelbgbbkaaGreatDoorAd
import Derived.Lib.SmallJoins
import Derived.Deep.SlicePairs
namespace Go.Proofs.YtpidckelbgbbkaaGreatDoor
open Go.ChangeShapes Go.WideShapes Go.RowKit
open Go.Value renaming int → ae
open Go.IntKind renaming i64 → aj
set_option linter.all false
set_option maxRecDepth 100000
set_option maxHeartbeats 16000000
section
open Go.Joins Go.Deep
theorem lN{cs:Array Value}(h:cs.size=6):∃a b c d e f,cs= #[a,b,c,d,e,f]:=by
 obtain⟨l⟩:=cs
 match l,h with
 |[a,b,c,d,e,f],_=>exact⟨a,b,c,d,e,f,rfl⟩
section
variable {H : Type} {enc : TypeId × Value -> H} {P : Program} {w : World} {base : Nat} {spare : Nat -> Bool} {held : Bool}
end
end
section
open Go.Joins Go.Deep
def zm(w:World)(p:Addr)(g:gN):Prop:=w.cell? p=some (ae aj g.iX)/\w.cell? (p.add 1)=some (ae aj g.id)/\w.cell? (p.add 2)=some (ae aj g.x)/\w.cell? (p.add 3)=some (ae aj g.y)
def lj(w:World)(B:Nat)(G:aC)(n:Nat)(gs:List gN):Prop:=
 gs.length=n/\(0<n->∃a,G=some a/\a.block<B/\∀j,j<n->zm w (a.add (j*4)) (mL gs j))
def yU(w:World)(B:Nat)(p:Addr)(b:bP):Prop:=
 w.cell? p=some (ae aj b.f)/\w.cell? (p.add 1)=some (ae aj b.t)/\w.cell? (p.add 2)=some (ae aj b.lv)/\w.cell? (p.add 3)=some (ae aj b.x)/\w.cell? (p.add 4)=some (ae aj b.wd)/\
  ∃(G:aC) (a:Nat),w.cell? (p.add 5)=some (.slice G b.gs.length a)/\lj w B G b.gs.length b.gs
def cZ(w:World)(B:Nat)(A:aC)(n:Nat)(bs:List bP):Prop:=
 bs.length=n/\(0<n->∃a,A=some a/\a.block<B/\∀j,j<n->yU w B (a.add (j*6)) (bN bs j))
section
variable {w w' : World} {B n : Nat} {A G : aC} {bs : List bP} {gs : List gN} {p : Addr} {b : bP} {g : gN}
theorem zm.mC(h:zm w p g)(a:∀q:Addr,q.block=p.block->w'.cell? q=w.cell? q):zm w' p g:=by
 obtain⟨f,d,e,c⟩:=h;exact⟨(a _ rfl).trans f,(a _ (aO _ _)).trans d,(a _ (aO _ _)).trans e,(a _ (aO _ _)).trans c⟩
theorem lj.Z(h:lj w B G n gs)(c:Below B w w'){a:Nat}(o:B<=a):lj w' a G n gs:=
 ⟨h.1,fun f=>by
  obtain⟨l,e,m,i⟩:=h.2 f;refine⟨l,e,aq,fun j d=>(i j d).mC fun q k=>c.cell ?_⟩;rw[aO]at k;omega⟩
theorem yU.Z(h:yU w B p b)(e:p.block<B)(c:Below B w w'){d:Nat}(r:B<=d):yU w' d p b:=by
 obtain⟨j,m,q,l,s,G,f,i,o⟩:=h;have a:∀k v,w.cell? (p.add k)=some v->w'.cell? (p.add k)=some v:=fun k v h=>(c.cell (by rw[aO];exact e)).trans h
 exact⟨(c.cell e).trans j,a _ _ m,a _ _ q,a _ _ l,a _ _ s,G,f,a _ _ i,o.Z c r⟩
theorem cZ.Z(h:cZ w w.heap.size A n bs)(a:aA w w'):cZ w' w'.heap.size A n bs:=
 ⟨h.1,fun f=>by
  obtain⟨k,e,c,i⟩:=h.2 f;refine⟨k,e,Nat.lt_of_lt_of_le c a.size,fun j d=>(i j d).Z (by rw[aO];exact c) a a.size⟩⟩
end
section
variable {H : Type} {enc : TypeId × Value -> H} {P : Program} {w : World} {base : Nat} {held : Bool}
end
end
end Go.Proofs.YtpidckelbgbbkaaGreatDoor
