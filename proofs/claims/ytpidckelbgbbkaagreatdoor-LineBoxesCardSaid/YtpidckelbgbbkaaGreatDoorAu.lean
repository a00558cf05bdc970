/- Part of LineBoxes. -/
import Derived.Test.YtpidckelbgbbkaaGreatDoorAn
import Derived.Test.YtpidckelbgbbkaaGreatDoorAl
import Derived.IntWalk
namespace Go.Proofs.YtpidckelbgbbkaaGreatDoor
open Go.ChangeShapes Go.WideShapes Go.ChangeAt Go.RowKit Go.Proofs.Tryz
open Go.Value renaming int → ae
open Go.IntKind renaming i64 → aj
set_option linter.all false
set_option maxRecDepth 100000
set_option maxHeartbeats 16000000
theorem aL.ce{k:IntKind}{w:World}{A:aC}{n c i:Nat}{xs:aE}(h:aL k w A n c xs)(b:i<n):∃a,A=some a/\w.cell? (a.add i)=some (.int k (nth xs i)):=by
 obtain⟨a,e,_,d⟩:=h.at_.2 aq;exact⟨a,e,d i b⟩
def jU(ts:aE)(a:Nat):Nat->Nat
 |0=>0
 |k+1=>if a<k+1/\(aZ (nth ts k)).word=7 then jU ts a k else k+1
theorem Ks(ts:aE)(a:Nat):∀k,jU ts a k<=k
 |0=>Nat.le_refl _
 |k+1=>by
  have:=Ks ts a k;unfold jU;split<;>omega
def rX(w:World)(z:Nat)(e:Ending)(a:World):Prop:=e= .returned (ae aj (z:Int))/\aA w a
theorem Hc(A:aC)(n c a b:Nat)(ts:aE)(w:World)(h:aL .i32 w A n c ts)(o:a<=b)(K:b<=n)(M:n<=100000):Calls prog 56 #[.slice A n c,ae aj (a:Int),ae aj (b:Int)] w (rX w (jU ts a b)):=by
 have R:=sH h;have I:¬(a:Int)<0:=aq;have g2:=cF b a;have F:=cF n b;go_enter func56,ntmps56;go_wp2;go_loopg [2] (b+1) (fun gg v wr=>∃(k:Nat),k<gg/\k<=b/\v=ae aj (k:Int)/\ak (jU ts a k=jU ts a b)/\ak (aA w wr))
 ·exact⟨b,aq,aq,rfl,⟨rfl⟩,cB⟩
 obtain⟨k,G,H,rfl,e,g⟩:=hrel;by_cases u:a<k;rotate_left
 ·have p:=cF a k
  have E:ak (jU ts a b=k):=⟨by
   rw[<-e.o];rcases k with _|k
   ·rfl
   ·unfold jU;rw[if_neg aq]⟩
  go_wp2;go_ret;exact⟨by rw[E.o];simp,g.o⟩
 have p:=aR a k;obtain⟨j,rfl⟩:∃j,k=j+1:=⟨k-1,aq⟩;have L:wrap64 (j:Int)=(j:Int):=IntWalk.wrap64_in _ aq;have k0:=jB j;have C:=aR j n;have N:(a:Int)<(j:Int)+1:=aq;obtain⟨D,rfl,J⟩:=(R.o.ar g.o).ce (show j<n by omega);obtain⟨i,f⟩:=bounds_i32 (R.o.dF (show j<n by omega));have t:=sH (eZ (nth ts j) i f wr);have s:ak ((aZ (nth ts j)).word=7->jU ts a j=jU ts a b):=⟨fun h=>by rw[<-e.o];show _=jU ts a (j+1);unfold jU;rw[if_pos ⟨aq,h⟩];cases j<;>rfl⟩;have r:ak (¬(aZ (nth ts j)).word=7->jU ts a b=j+1):=⟨fun h=>by rw[<-e.o];unfold jU;rw[if_neg (fun q=>h q.2)]⟩;generalize nth ts j=z at*;go_wp2_with fail;refine callK t.o g fun y B m=> ?_;generalize(aZ z).word=x at*;by_cases d:x=7
 ·have l:=sH (s.o d)
  subst d;go_wp2;go_roundg (j+1)
  ·exact⟨j,aq,aq,by first|rfl|go_num,l,m⟩
  omega
 ·have l:=sH (r.o d)
  have d:(x==7)=false:=by simpa using d
  go_wp2;go_ret;exact⟨by rw[l.o];simp,m.o⟩
end Go.Proofs.YtpidckelbgbbkaaGreatDoor
