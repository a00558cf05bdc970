/- Part of LineCovers. -/
import Derived.Test.YtklncadpkniojaaGreatDoorAo
import Derived.Test.YtklncadpkniojaaGreatDoorAm
import Derived.IntWalk
namespace Go.Proofs.YtklncadpkniojaaGreatDoor
open Go.ChangeShapes Go.WideShapes Go.ChangeAt Go.RowKit Go.Proofs.Tryz
open Go renaming World->ahh,Calls->ahk,Ending->ahn
open Go.RowKit renaming wrap64->ahl
open Go.Value renaming int->ae
open Go.IntKind renaming i64->aj
set_option linter.all false
set_option maxRecDepth 100000
set_option maxHeartbeats 16000000
theorem aM.ce{k:IntKind}{w:ahh}{A:aA}{n c i:Nat}{xs:aC}(h:aM k w A n c xs)(b:i<n):∃a,A=some a/\w.cell? (a.add i)=some (.int k (nth xs i)):=by
 obtain⟨a,e,_,d⟩:=h.at_.2 ak;exact⟨a,e,d i b⟩
def gG(ts:aC)(a:Nat):Nat->Nat
 |0=>0
 |k+1=>if a<k+1/\(a7 (nth ts k)).word=7 then gG ts a k else k+1
theorem NU(ts:aC)(a:Nat):∀k,gG ts a k<=k
 |0=>Nat.le_refl _
 |k+1=>by
  have:=NU ts a k;unfold gG;split<;>omega
def Bd(w:ahh)(z:Nat)(e:ahn)(a:ahh):Prop:=e=.returned (ae aj (z:Int))/\az w a
theorem GO(A:aA)(n c a b:Nat)(ts:aC)(w:ahh)(h:aM .i32 w A n c ts)(q:a<=b)(I:b<=n)(J:n<=100000):ahk prog 9 #[.slice A n c,ae aj (a:Int),ae aj (b:Int)] w (Bd w (gG ts a b)):=by
 have R:=sH h;have L:¬(a:Int)<0:=ak;have g2:=cv b a;have y:=cv n b;go_enter func9,ntmps9;go_wp2;go_loopg[2](b+1)(fun gg v wr=>∃(k:Nat),k<gg/\k<=b/\v=ae aj (k:Int)/\aq (gG ts a k=gG ts a b)/\aq (az w wr))
 .exact⟨b,ak,ak,rfl,⟨rfl⟩,cA⟩
 obtain⟨k,D,K,rfl,i,f⟩:=hrel;by_cases s:a<k;rotate_left
 .have u:=cv a k
  have E:aq (gG ts a b=k):=⟨by
   rw[<-i.o];rcases k with _|k
   .rfl
   .unfold gG;rw[if_neg ak]⟩
  go_wp2;go_ret;exact⟨by rw[E.o];simp,f.o⟩
 have u:=aU a k;obtain⟨j,rfl⟩:∃j,k=j+1:=⟨k-1,ak⟩;have wk:ahl (j:Int)=(j:Int):=IntWalk.wrap64_in _ ak;have k0:=ie j;have k1:=aU j n;have H:(a:Int)<(j:Int)+1:=ak;obtain⟨G,rfl,B⟩:=(R.o.ar f.o).ce (show j<n by omega);obtain⟨e,g⟩:=bounds_i32 (R.o.dt (show j<n by omega));have t:=sH (fD (nth ts j) e g wr);have p:aq ((a7 (nth ts j)).word=7->gG ts a j=gG ts a b):=⟨fun h=>by rw[<-i.o];show _=gG ts a (j+1);unfold gG;rw[if_pos ⟨ak,h⟩];cases j<;>rfl⟩;have o:aq (¬(a7 (nth ts j)).word=7->gG ts a b=j+1):=⟨fun h=>by rw[<-i.o];unfold gG;rw[if_neg (fun r=>h r.2)]⟩;generalize nth ts j=z at*;go_wp2_with fail;refine callK t.o f fun F C m=> ?_;generalize(a7 z).word=x at*;by_cases d:x=7
 .have l:=sH (p.o d)
  subst d;go_wp2;go_roundg(j+1)
  .exact⟨j,ak,ak,by first|rfl|go_num,l,m⟩
  omega
 .have l:=sH (o.o d)
  have d:(x==7)=false:=by simpa using d
  go_wp2;go_ret;exact⟨by rw[l.o];simp,m.o⟩
end Go.Proofs.YtklncadpkniojaaGreatDoor
