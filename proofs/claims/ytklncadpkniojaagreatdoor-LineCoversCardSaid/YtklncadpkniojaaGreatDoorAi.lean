/- Part of LineCovers. -/
import Derived.Test.YtklncadpkniojaaGreatDoorAc
import Derived.Deep.QuietTactic
import Derived.BigQuiet
namespace Go.Proofs.YtklncadpkniojaaGreatDoor
open Go.ChangeShapes Go.WideShapes Go.ChangeAt Go.RowKit Go.Proofs.Tryz
open Go renaming World->ahh,Calls->ahk
open Go.RowKit renaming Below->ahi
open Go.Value renaming int->ae
open Go.IntKind renaming i64->aj
set_option linter.all false
set_option maxRecDepth 100000
set_option maxHeartbeats 16000000
variable{r:Int}
theorem abK{p:Prop}(h:p:=by simp[results,results35,Pr.cells,go_sem,kt,pX,sa,Cn,Cx,Ed]):p:=h
def L0:List (Int×Int×Pr):=fs0.flatMap gN
def L1:List (Int×Int×Pr):=fs1.flatMap gN
theorem qv:iF=L0++L1:=by kernel_rfl
theorem Gh{M:Int}:∀(l:List (Int×Int×Pr)) (r:Int) (p:Pr),l.all (fun x=>decide (x.2.1<=M))=true->look l r=some p->r<=M
 |[],r,p,_,h=>by simp[look]at h
 |(lo,hi,q)::l,r,p,ha,h=>by
  simp only[List.all_cons,Bool.and_eq_true,decide_eq_true_eq]at ha;simp only[look]at h;split at h
  .omega
  .exact Gh l r p ha.2 h
theorem Yj(r:Int)(p:Pr)(h:look L0 r=some p):r<44032:=by
 have:=Gh (M:=44031) L0 r p bX h;omega
theorem Sy{p:Pr}(h:look L0 r=some p):a7 r=p:=by
 have:=Yj r p h;unfold a7;rw[qv,iT,h];simp only[Option.some_or];rw[if_neg ak]
theorem Vn{p:Pr}(a:look L0 r=none)(h:look L1 r=some p):a7 r=if 44032<=r/\r<=55203/\(r-44032)%28=0 then{p with bN:=12,wY:=33}else p:=by
 unfold a7;rw[qv,iT,a,h];rfl
theorem Uy(a:look L0 r=none)(h:look L1 r=none):a7 r=Pr.rest:=by
 unfold a7;rw[qv,iT,a,h];rfl
theorem Dd(r:Int)(p:Pr)(h:look L0 r=some p)(w:ahh):
 ahk prog 88 #[.int .i32 r] w fun e a=>e=.returned (.tuple #[.agg #[ae aj p.iU,ae aj p.bN,ae aj p.wY,ae aj p.script,ae aj p.join,ae aj p.word,.int .i32 p.fg,.int .i32 p.pair,.bool p.opens],.bool true])/\ahi w.heap.size w a:=by
 have:=wD r w;rw[show fs0.flatMap gN=L0 from rfl,h]at this;exact this
theorem tq(r:Int)(h:look L0 r=none)(w:ahh):
 ahk prog 88 #[.int .i32 r] w fun e a=>e=.returned (.tuple #[.agg #[ae aj 1,ae aj 0,ae aj 0,ae aj 0,ae aj 0,ae aj 0,.int .i32 0,.int .i32 0,.bool false],.bool false])/\ahi w.heap.size w a:=by
 have:=wD r w;rw[show fs0.flatMap gN=L0 from rfl,h]at this;exact this
theorem Dq(r:Int)(p:Pr)(h:look L1 r=some p)(w:ahh):
 ahk prog 89 #[.int .i32 r] w fun e a=>e=.returned (.tuple #[.agg #[ae aj p.iU,ae aj p.bN,ae aj p.wY,ae aj p.script,ae aj p.join,ae aj p.word,.int .i32 p.fg,.int .i32 p.pair,.bool p.opens],.bool true])/\ahi w.heap.size w a:=by
 have:=wP r w;rw[show fs1.flatMap gN=L1 from rfl,h]at this;exact this
theorem Dk(r:Int)(h:look L1 r=none)(w:ahh):
 ahk prog 89 #[.int .i32 r] w fun e a=>e=.returned (.tuple #[.agg #[ae aj 1,ae aj 0,ae aj 0,ae aj 0,ae aj 0,ae aj 0,.int .i32 0,.int .i32 0,.bool false],.bool false])/\ahi w.heap.size w a:=by
 have:=wP r w;rw[show fs1.flatMap gN=L1 from rfl,h]at this;exact this
theorem Iv(w:ahh):ahk prog 90 #[] w fun b a=>b=.returned (.agg #[ae aj 1,ae aj 0,ae aj 0,ae aj 0,ae aj 0,ae aj 0,.int .i32 0,.int .i32 0,.bool false])/\ahi w.heap.size w a:=wu w
theorem abZ(r:Int)(p:Pr)(h:look L0 r=some p)(w:ahh):
 ahk prog 35 #[.int .i32 r] w fun e f=>e=.returned (.agg p.cells)/\ahi w.heap.size w f:=by
 have j:=Yj r p h;have k:¬(44032<=r):=ak;have i:=Lib.hid (Dd r p h);go_enter func35,ntmps35;go_wp2_with (go_at_call 88;refine(i.out _).mono ?_;rintro e g ⟨rfl,a⟩;obtain⟨b,d⟩:=jH a;have c:w.heap.size<g.heap.size:=by{have:=a.size;simp only[World.size_alloc]at this;omega};simp only[World.size_alloc]at b d);refine bodyPost_ret (v:=.agg p.cells) (by simp[results,results35,Pr.cells,go_sem,b,c]) rfl ⟨rfl, ?_⟩
 (repeat(first|(with_reducible refine Below.setCell ?_ ?_ _)|(with_reducible refine Below.alloc ?_ ?_ _)|(with_reducible exact Below.refl _ _)|(with_reducible refine Below.trans ?_ (Below.mono a ?_))|(with_reducible exact Nat.le_refl _)|omega|(simp;omega)|simp))
theorem adD(r:Int)(p:Pr)(q:look L0 r=none)(h:look L1 r=some p)(y: -2147483648<=r)(x:r<=2147483647)(w:ahh):
 ahk prog 35 #[.int .i32 r] w fun e t=>e=.returned (.agg (a7 r).cells)/\ahi w.heap.size w t:=by
 have PR:=Lib.hid (Vn q h);have n:=Lib.hid (tq r q);have o:=Lib.hid (Dq r p h);by_cases s:44032<=r/\r<=55203
 .obtain⟨l,f⟩:=s
  by_cases j:(r-44032)%28=0
  .have k:=Lib.hid (PR.out.trans (if_pos ⟨l,f,j⟩))
   have z:(((r-44032)%28:Int)==0)=true:=(by simp[j]);have u:=Lib.hid j;go_enter func35,ntmps35;go_wp2_with (first|(go_at_call 88;refine(n.out _).mono ?_;rintro e g ⟨rfl,b⟩;obtain⟨kt,c⟩:=jH b;have pX:w.heap.size<g.heap.size:=by{have:=b.size;simp only[World.size_alloc]at this;omega};simp only[World.size_alloc]at kt c)|(go_at_call 89;refine(o.out _).mono ?_;rintro e i ⟨rfl,a⟩;obtain⟨sa,d⟩:=jH a;have Cn:g.heap.size<i.heap.size:=by{have:=a.size;simp only[World.size_alloc]at this;omega};have Cx:w.heap.size<i.heap.size:=ak;have Ed:w.heap.size<g.heap.size+1:=ak;simp only[World.size_alloc]at sa d));rw[k.out];refine bodyPost_ret (v:=.agg (Pr.cells {p with bN:=12,wY:=33})) abK rfl ⟨rfl, ?_⟩
   (repeat(first|(with_reducible refine Below.setCell ?_ ?_ _)|(with_reducible refine Below.alloc ?_ ?_ _)|(with_reducible exact Below.refl _ _)|(with_reducible refine Below.trans ?_ (Below.mono a ?_))|(with_reducible refine Below.trans ?_ (Below.mono b ?_))|(with_reducible exact Nat.le_refl _)|omega|(simp;omega)|simp))
  .have k:=Lib.hid (PR.out.trans (if_neg (fun m=>j m.2.2)))
   have z:(((r-44032)%28:Int)==0)=false:=(by simp[j]);have u:=Lib.hid j;go_enter func35,ntmps35;go_wp2_with (first|(go_at_call 88;refine(n.out _).mono ?_;rintro e g ⟨rfl,b⟩;obtain⟨kt,c⟩:=jH b;have pX:w.heap.size<g.heap.size:=by{have:=b.size;simp only[World.size_alloc]at this;omega};simp only[World.size_alloc]at kt c)|(go_at_call 89;refine(o.out _).mono ?_;rintro e i ⟨rfl,a⟩;obtain⟨sa,d⟩:=jH a;have Cn:g.heap.size<i.heap.size:=by{have:=a.size;simp only[World.size_alloc]at this;omega};have Cx:w.heap.size<i.heap.size:=ak;have Ed:w.heap.size<g.heap.size+1:=ak;simp only[World.size_alloc]at sa d));rw[k.out];refine bodyPost_ret (v:=.agg p.cells) abK rfl ⟨rfl, ?_⟩
   (repeat(first|(with_reducible refine Below.setCell ?_ ?_ _)|(with_reducible refine Below.alloc ?_ ?_ _)|(with_reducible exact Below.refl _ _)|(with_reducible refine Below.trans ?_ (Below.mono a ?_))|(with_reducible refine Below.trans ?_ (Below.mono b ?_))|(with_reducible exact Nat.le_refl _)|omega|(simp;omega)|simp))
 .have k:=Lib.hid (PR.out.trans (if_neg (fun m=>s ⟨m.1,m.2.1⟩)))
  by_cases l:44032<=r
  all_goals
   have f:r<44032∨55203<r:=ak;rcases f with f|f
   all_goals first
    |(exfalso;omega)
    |(go_enter func35,ntmps35
      go_wp2_with (first|(go_at_call 88;refine(n.out _).mono ?_;rintro e g ⟨rfl,b⟩;obtain⟨kt,c⟩:=jH b;have pX:w.heap.size<g.heap.size:=by{have:=b.size;simp only[World.size_alloc]at this;omega};simp only[World.size_alloc]at kt c)|(go_at_call 89;refine(o.out _).mono ?_;rintro e i ⟨rfl,a⟩;obtain⟨sa,d⟩:=jH a;have Cn:g.heap.size<i.heap.size:=by{have:=a.size;simp only[World.size_alloc]at this;omega};have Cx:w.heap.size<i.heap.size:=ak;have Ed:w.heap.size<g.heap.size+1:=ak;simp only[World.size_alloc]at sa d));rw[k.out];refine bodyPost_ret (v:=.agg p.cells) abK rfl ⟨rfl, ?_⟩
      (repeat(first|(with_reducible refine Below.setCell ?_ ?_ _)|(with_reducible refine Below.alloc ?_ ?_ _)|(with_reducible exact Below.refl _ _)|(with_reducible refine Below.trans ?_ (Below.mono a ?_))|(with_reducible refine Below.trans ?_ (Below.mono b ?_))|(with_reducible exact Nat.le_refl _)|omega|(simp;omega)|simp)))
theorem adw(r:Int)(y:look L0 r=none)(h:look L1 r=none)(w:ahh):
 ahk prog 35 #[.int .i32 r] w fun e A=>e=.returned (.agg (a7 r).cells)/\ahi w.heap.size w A:=by
 rw[Uy y h];have z:=Lib.hid (tq r y);have B:=Lib.hid (Dk r h);go_enter func35,ntmps35;go_wp2_with (first|(go_at_call 88;refine(z.out _).mono ?_;rintro e u ⟨rfl,c⟩;obtain⟨f,m⟩:=jH c;have q:w.heap.size<u.heap.size:=by{have:=c.size;simp only[World.size_alloc]at this;omega};simp only[World.size_alloc]at f m)|(go_at_call 89;refine(B.out _).mono ?_;rintro e t ⟨rfl,a⟩;obtain⟨g,s⟩:=jH a;have i:u.heap.size<t.heap.size:=by{have:=a.size;simp only[World.size_alloc]at this;omega};have k:w.heap.size<t.heap.size:=ak;have j:w.heap.size<u.heap.size+1:=ak;simp only[World.size_alloc]at g s)|(go_at_call 90;refine(Iv _).mono ?_;rintro e x ⟨rfl,b⟩;obtain⟨d,l⟩:=jH b;have n:t.heap.size<x.heap.size:=by{have:=b.size;simp only[World.size_alloc]at this;omega};have o:w.heap.size<x.heap.size:=ak;have p:w.heap.size<t.heap.size+1:=ak;simp only[World.size_alloc]at d l));refine bodyPost_ret (v:=.agg (Pr.cells Pr.rest)) (by simp[results,results35,Pr.cells,Pr.rest,go_sem,f,q,g,i,k,j,d,n,o,p]) rfl ⟨rfl, ?_⟩
 (repeat(first|(with_reducible refine Below.setCell ?_ ?_ _)|(with_reducible refine Below.alloc ?_ ?_ _)|(with_reducible exact Below.refl _ _)|(with_reducible refine Below.trans ?_ (Below.mono b ?_))|(with_reducible refine Below.trans ?_ (Below.mono a ?_))|(with_reducible refine Below.trans ?_ (Below.mono c ?_))|(with_reducible exact Nat.le_refl _)|omega|(simp;omega)|simp))
theorem Wq(r:Int)(c: -2147483648<=r)(b:r<=2147483647)(w:ahh):
 ahk prog 35 #[.int .i32 r] w fun e f=>e=.returned (.agg (a7 r).cells)/\ahi w.heap.size w f:=by
 cases a:look L0 r with
 |some p=>rw[Sy a];exact abZ r p a w
 |none=>
  cases d:look L1 r with
  |some p=>exact adD r p a d c b w
  |none=>exact adw r a d w
end Go.Proofs.YtklncadpkniojaaGreatDoor
