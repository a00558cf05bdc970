/- Part of LineBoxes. -/
import Derived.Test.YtpidckelbgbbkaaGreatDoorAc
import Derived.Deep.QuietTactic
import Derived.BigQuiet
namespace Go.Proofs.YtpidckelbgbbkaaGreatDoor
open Go.ChangeShapes Go.WideShapes Go.ChangeAt Go.RowKit Go.Proofs.Tryz
open Go.Value renaming int → ae
open Go.IntKind renaming i64 → aj
set_option linter.all false
set_option maxRecDepth 100000
set_option maxHeartbeats 16000000
variable{r:Int}
theorem aaL{p:Prop}(h:p:=by simp[results,results76,Pr.cells,go_sem,jY,qG,sk,DO,CV,CZ]):p:=h
def L0:List (Int×Int×Pr):=fs0.flatMap ig
def L1:List (Int×Int×Pr):=fs1.flatMap ig
theorem qz:gQ=L0++L1:=by kernel_rfl
theorem Hb{M:Int}:∀(l:List (Int×Int×Pr)) (r:Int) (p:Pr),l.all (fun x=>decide (x.2.1<=M))=true->look l r=some p->r<=M
 |[],r,p,_,h=>by simp[look]at h
 |(lo,hi,q)::l,r,p,ha,h=>by
  simp only[List.all_cons,Bool.and_eq_true,decide_eq_true_eq]at ha;simp only[look]at h;split at h
  ·omega
  ·exact Hb l r p ha.2 h
theorem Wm(r:Int)(p:Pr)(h:look L0 r=some p):r<44032:=by
 have:=Hb (M:=44031) L0 r p bX h;omega
theorem UB{p:Pr}(h:look L0 r=some p):aZ r=p:=by
 have:=Wm r p h;unfold aZ;rw[qz,iT,h];simp only[Option.some_or];rw[if_neg aq]
theorem UO{p:Pr}(a:look L0 r=none)(h:look L1 r=some p):aZ r=if 44032<=r/\r<=55203/\(r-44032)%28=0 then{p with bM:=12,vj:=33}else p:=by
 unfold aZ;rw[qz,iT,a,h];rfl
theorem Tb(a:look L0 r=none)(h:look L1 r=none):aZ r=Pr.rest:=by
 unfold aZ;rw[qz,iT,a,h];rfl
theorem Ec(r:Int)(p:Pr)(h:look L0 r=some p)(w:World):
 Calls prog 138 #[.int .i32 r] w fun e a=>e= .returned (.tuple #[.agg #[ae aj p.iZ,ae aj p.bM,ae aj p.vj,ae aj p.gF,ae aj p.join,ae aj p.word, .int .i32 p.fw, .int .i32 p.pair, .bool p.opens], .bool true])/\Below w.heap.size w a:=by
 have:=wB r w;rw[show fs0.flatMap ig=L0 from rfl,h]at this;exact this
theorem th(r:Int)(h:look L0 r=none)(w:World):
 Calls prog 138 #[.int .i32 r] w fun e a=>e= .returned (.tuple #[.agg #[ae aj 1,ae aj 0,ae aj 0,ae aj 0,ae aj 0,ae aj 0, .int .i32 0, .int .i32 0, .bool false], .bool false])/\Below w.heap.size w a:=by
 have:=wB r w;rw[show fs0.flatMap ig=L0 from rfl,h]at this;exact this
theorem DL(r:Int)(p:Pr)(h:look L1 r=some p)(w:World):
 Calls prog 139 #[.int .i32 r] w fun e a=>e= .returned (.tuple #[.agg #[ae aj p.iZ,ae aj p.bM,ae aj p.vj,ae aj p.gF,ae aj p.join,ae aj p.word, .int .i32 p.fw, .int .i32 p.pair, .bool p.opens], .bool true])/\Below w.heap.size w a:=by
 have:=wO r w;rw[show fs1.flatMap ig=L1 from rfl,h]at this;exact this
theorem Dn(r:Int)(h:look L1 r=none)(w:World):
 Calls prog 139 #[.int .i32 r] w fun e a=>e= .returned (.tuple #[.agg #[ae aj 1,ae aj 0,ae aj 0,ae aj 0,ae aj 0,ae aj 0, .int .i32 0, .int .i32 0, .bool false], .bool false])/\Below w.heap.size w a:=by
 have:=wO r w;rw[show fs1.flatMap ig=L1 from rfl,h]at this;exact this
theorem Ii(w:World):Calls prog 140 #[] w fun a b=>a= .returned (.agg #[ae aj 1,ae aj 0,ae aj 0,ae aj 0,ae aj 0,ae aj 0, .int .i32 0, .int .i32 0, .bool false])/\Below w.heap.size w b:=vR w
theorem abB(r:Int)(p:Pr)(h:look L0 r=some p)(w:World):
 Calls prog 76 #[.int .i32 r] w fun e i=>e= .returned (.agg p.cells)/\Below w.heap.size w i:=by
 have j:=Wm r p h;have k:¬(44032<=r):=aq;have g:=Lib.hid (Ec r p h);go_enter func76,ntmps76;go_wp2_with (go_at_call 138;refine(g.out _).mono ?_;rintro e f ⟨rfl,a⟩;obtain⟨b,d⟩:=jS a;have c:w.heap.size<f.heap.size:=by{have:=a.size;simp only[World.size_alloc]at this;omega};simp only[World.size_alloc]at b d);refine bodyPost_ret (v:= .agg p.cells) (by simp[results,results76,Pr.cells,go_sem,b,c]) rfl ⟨rfl, ?_⟩
 (repeat(first|(with_reducible refine Below.setCell ?_ ?_ _)|(with_reducible refine Below.alloc ?_ ?_ _)|(with_reducible exact Below.refl _ _)|(with_reducible refine Below.trans ?_ (Below.mono a ?_))|(with_reducible exact Nat.le_refl _)|omega|(simp;omega)|simp))
theorem abG(r:Int)(p:Pr)(q:look L0 r=none)(h:look L1 r=some p)(u: -2147483648<=r)(z:r<=2147483647)(w:World):
 Calls prog 76 #[.int .i32 r] w fun e t=>e= .returned (.agg (aZ r).cells)/\Below w.heap.size w t:=by
 have PR:=Lib.hid (UO q h);have o:=Lib.hid (th r q);have n:=Lib.hid (DL r p h);by_cases s:44032<=r/\r<=55203
 ·obtain⟨l,f⟩:=s
  by_cases j:(r-44032)%28=0
  ·have k:=Lib.hid (PR.out.trans (if_pos ⟨l,f,j⟩))
   have x:(((r-44032)%28:Int)==0)=true:=(by simp[j]);have y:=Lib.hid j;go_enter func76,ntmps76;go_wp2_with (first|(go_at_call 138;refine(o.out _).mono ?_;rintro e g ⟨rfl,b⟩;obtain⟨jY,d⟩:=jS b;have qG:w.heap.size<g.heap.size:=by{have:=b.size;simp only[World.size_alloc]at this;omega};simp only[World.size_alloc]at jY d)|(go_at_call 139;refine(n.out _).mono ?_;rintro e i ⟨rfl,a⟩;obtain⟨sk,c⟩:=jS a;have DO:g.heap.size<i.heap.size:=by{have:=a.size;simp only[World.size_alloc]at this;omega};have CV:w.heap.size<i.heap.size:=aq;have CZ:w.heap.size<g.heap.size+1:=aq;simp only[World.size_alloc]at sk c));rw[k.out];refine bodyPost_ret (v:= .agg (Pr.cells {p with bM:=12,vj:=33})) aaL rfl ⟨rfl, ?_⟩
   (repeat(first|(with_reducible refine Below.setCell ?_ ?_ _)|(with_reducible refine Below.alloc ?_ ?_ _)|(with_reducible exact Below.refl _ _)|(with_reducible refine Below.trans ?_ (Below.mono a ?_))|(with_reducible refine Below.trans ?_ (Below.mono b ?_))|(with_reducible exact Nat.le_refl _)|omega|(simp;omega)|simp))
  ·have k:=Lib.hid (PR.out.trans (if_neg (fun m=>j m.2.2)))
   have x:(((r-44032)%28:Int)==0)=false:=(by simp[j]);have y:=Lib.hid j;go_enter func76,ntmps76;go_wp2_with (first|(go_at_call 138;refine(o.out _).mono ?_;rintro e g ⟨rfl,b⟩;obtain⟨jY,d⟩:=jS b;have qG:w.heap.size<g.heap.size:=by{have:=b.size;simp only[World.size_alloc]at this;omega};simp only[World.size_alloc]at jY d)|(go_at_call 139;refine(n.out _).mono ?_;rintro e i ⟨rfl,a⟩;obtain⟨sk,c⟩:=jS a;have DO:g.heap.size<i.heap.size:=by{have:=a.size;simp only[World.size_alloc]at this;omega};have CV:w.heap.size<i.heap.size:=aq;have CZ:w.heap.size<g.heap.size+1:=aq;simp only[World.size_alloc]at sk c));rw[k.out];refine bodyPost_ret (v:= .agg p.cells) aaL rfl ⟨rfl, ?_⟩
   (repeat(first|(with_reducible refine Below.setCell ?_ ?_ _)|(with_reducible refine Below.alloc ?_ ?_ _)|(with_reducible exact Below.refl _ _)|(with_reducible refine Below.trans ?_ (Below.mono a ?_))|(with_reducible refine Below.trans ?_ (Below.mono b ?_))|(with_reducible exact Nat.le_refl _)|omega|(simp;omega)|simp))
 ·have k:=Lib.hid (PR.out.trans (if_neg (fun m=>s ⟨m.1,m.2.1⟩)))
  by_cases l:44032<=r
  all_goals
   have f:r<44032∨55203<r:=aq;rcases f with f|f
   all_goals first
    |(exfalso;omega)
    |(go_enter func76,ntmps76
      go_wp2_with (first|(go_at_call 138;refine(o.out _).mono ?_;rintro e g ⟨rfl,b⟩;obtain⟨jY,d⟩:=jS b;have qG:w.heap.size<g.heap.size:=by{have:=b.size;simp only[World.size_alloc]at this;omega};simp only[World.size_alloc]at jY d)|(go_at_call 139;refine(n.out _).mono ?_;rintro e i ⟨rfl,a⟩;obtain⟨sk,c⟩:=jS a;have DO:g.heap.size<i.heap.size:=by{have:=a.size;simp only[World.size_alloc]at this;omega};have CV:w.heap.size<i.heap.size:=aq;have CZ:w.heap.size<g.heap.size+1:=aq;simp only[World.size_alloc]at sk c));rw[k.out];refine bodyPost_ret (v:= .agg p.cells) aaL rfl ⟨rfl, ?_⟩
      (repeat(first|(with_reducible refine Below.setCell ?_ ?_ _)|(with_reducible refine Below.alloc ?_ ?_ _)|(with_reducible exact Below.refl _ _)|(with_reducible refine Below.trans ?_ (Below.mono a ?_))|(with_reducible refine Below.trans ?_ (Below.mono b ?_))|(with_reducible exact Nat.le_refl _)|omega|(simp;omega)|simp)))
theorem aba(r:Int)(x:look L0 r=none)(h:look L1 r=none)(w:World):
 Calls prog 76 #[.int .i32 r] w fun e z=>e= .returned (.agg (aZ r).cells)/\Below w.heap.size w z:=by
 rw[Tb x h];have A:=Lib.hid (th r x);have B:=Lib.hid (Dn r h);go_enter func76,ntmps76;go_wp2_with (first|(go_at_call 138;refine(A.out _).mono ?_;rintro e u ⟨rfl,c⟩;obtain⟨g,i⟩:=jS c;have p:w.heap.size<u.heap.size:=by{have:=c.size;simp only[World.size_alloc]at this;omega};simp only[World.size_alloc]at g i)|(go_at_call 139;refine(B.out _).mono ?_;rintro e t ⟨rfl,b⟩;obtain⟨f,n⟩:=jS b;have m:u.heap.size<t.heap.size:=by{have:=b.size;simp only[World.size_alloc]at this;omega};have k:w.heap.size<t.heap.size:=aq;have q:w.heap.size<u.heap.size+1:=aq;simp only[World.size_alloc]at f n)|(go_at_call 140;refine(Ii _).mono ?_;rintro e y ⟨rfl,a⟩;obtain⟨d,l⟩:=jS a;have j:t.heap.size<y.heap.size:=by{have:=a.size;simp only[World.size_alloc]at this;omega};have o:w.heap.size<y.heap.size:=aq;have s:w.heap.size<t.heap.size+1:=aq;simp only[World.size_alloc]at d l));refine bodyPost_ret (v:= .agg (Pr.cells Pr.rest)) (by simp[results,results76,Pr.cells,Pr.rest,go_sem,g,p,f,m,k,q,d,j,o,s]) rfl ⟨rfl, ?_⟩
 (repeat(first|(with_reducible refine Below.setCell ?_ ?_ _)|(with_reducible refine Below.alloc ?_ ?_ _)|(with_reducible exact Below.refl _ _)|(with_reducible refine Below.trans ?_ (Below.mono a ?_))|(with_reducible refine Below.trans ?_ (Below.mono b ?_))|(with_reducible refine Below.trans ?_ (Below.mono c ?_))|(with_reducible exact Nat.le_refl _)|omega|(simp;omega)|simp))
theorem Vk(r:Int)(b: -2147483648<=r)(c:r<=2147483647)(w:World):
 Calls prog 76 #[.int .i32 r] w fun e f=>e= .returned (.agg (aZ r).cells)/\Below w.heap.size w f:=by
 cases a:look L0 r with
 |some p=>rw[UB a];exact abB r p a w
 |none=>
  cases d:look L1 r with
  |some p=>exact abG r p a d b c w
  |none=>exact aba r a d w
end Go.Proofs.YtpidckelbgbbkaaGreatDoor
