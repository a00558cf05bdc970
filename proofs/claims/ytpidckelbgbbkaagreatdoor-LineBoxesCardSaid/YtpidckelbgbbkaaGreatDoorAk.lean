/- Part of LineBoxes. -/
import Derived.Test.YtpidckelbgbbkaaGreatDoorAf
import Derived.Test.YtpidckelbgbbkaaGreatDoorAg
namespace Go.Proofs.YtpidckelbgbbkaaGreatDoor
open Go.ChangeShapes Go.WideShapes Go.ChangeAt Go.RowKit Go.Proofs.Tryz
open Go.Value renaming int → ae
open Go.IntKind renaming i64 → aj
set_option linter.all false
set_option maxRecDepth 100000
set_option maxHeartbeats 16000000
variable{r:Int}
theorem VQ{p:Prop}(h:p:=by have:=dJ.size;simp only[World.size_alloc]at this;omega):p:=h
theorem aaU{p:Prop}(h:p:=by simp[results,results75,Pr.cells,go_sem,jY,qG]):p:=h
theorem pG:∀(l:List (Int×Int×Pr)) (r:Int) (p:Pr),look l r=some p->∃lo c,(lo,c,p)∈l/\lo<=r/\r<=c
 |[],_,_,h=>by simp[look]at h
 |(a,b,q)::l,r,p,h=>by
  simp only[look]at h;split at h
  ·injection h with h
   subst h;exact⟨a,b,List.mem_cons_self ..,aq,aq⟩
  ·obtain⟨lo,c,e,f,d⟩:=pG l r p h
   exact⟨lo,c,List.mem_cons_of_mem _ e,f,d⟩
theorem Gb{p:Pr}(h:look gQ r=some p):p.bM=13↔44032<=r/\r<=55203:=by
 obtain⟨lo,e,c,f,d⟩:=pG _ _ _ h;have a:gQ.all (fun x=>decide ((x.2.2.bM=13->x.1=44032/\x.2.1=55203)/\(x.2.2.bM≠13->x.2.1<44032∨55203<x.1)))=true:=yC;have:=of_decide_eq_true (List.all_eq_true.1 a _ c);simp only at this;by_cases b:p.bM=13
 ·have:=this.1 b;simp only[b,true_iff];omega
 ·have:=this.2 b;simp only[b,false_iff];omega
theorem mA{p:Pr}(h:look gQ r=some p):aZ r=if p.bM=13/\(r-44032)%28=0 then{p with bM:=12,vj:=33}else p:=by
 have c:=Gb h;unfold aZ;rw[h];simp only;by_cases a:p.bM=13
 ·have:=c.1 a
  by_cases b:(r-44032)%28=0
  ·rw[if_pos ⟨this.1,this.2,b⟩,if_pos ⟨a,b⟩]
  ·rw[if_neg (fun h=>b h.2.2),if_neg (fun h=>b h.2)]
 ·rw[if_neg (fun h=>a (c.2 ⟨h.1,h.2.1⟩)),if_neg (fun h=>a h.1)]
theorem mK(h:look gQ r=none):aZ r=Pr.rest:=by unfold aZ;rw[h]
theorem IB(w:World):Calls prog 137 #[] w fun a b=>a= .returned (.agg #[ae aj 1,ae aj 0,ae aj 0,ae aj 0,ae aj 0,ae aj 0, .int .i32 0, .int .i32 0, .bool false])/\Below w.heap.size w b:=by
 go_enter func137,ntmps137;go_wp2;refine bodyPost_ret (v:= .agg #[ae aj 1,ae aj 0,ae aj 0,ae aj 0,ae aj 0,ae aj 0, .int .i32 0, .int .i32 0, .bool false]) (by simp[results,results137,go_sem]) rfl ⟨rfl,(Below.refl _ _).alloc cr _⟩
theorem Hy{p:Pr}(h:look gQ r=some p)(w:World)(j:Laid w):
 Calls prog 136 #[.int .i32 r] w fun e c=>∃f t:Int,e= .returned (.tuple #[.agg #[.int .i32 f, .int .i32 t,ae aj p.iZ,ae aj p.bM,ae aj p.vj,ae aj p.gF,ae aj p.join,ae aj p.word, .int .i32 p.fw, .int .i32 p.pair, .bool p.opens], .bool true])/\(p.bM=13->f=44032)/\Below w.heap.size w c:=by
 refine(yV r w j).mono ?_;rintro e c ⟨⟨f,t,q⟩,b,rfl,a,i⟩;unfold qn at a;rw[h]at a;obtain⟨rfl,g,d⟩:=a;simp only at g d;subst g;exact⟨f,t,rfl,d,i⟩
theorem Jm(h:look gQ r=none)(w:World)(g:Laid w):
 Calls prog 136 #[.int .i32 r] w fun e c=>∃(f t:Int) (p:Pr),e= .returned (.tuple #[.agg #[.int .i32 f, .int .i32 t,ae aj p.iZ,ae aj p.bM,ae aj p.vj,ae aj p.gF,ae aj p.join,ae aj p.word, .int .i32 p.fw, .int .i32 p.pair, .bool p.opens], .bool false])/\Below w.heap.size w c:=by
 refine(yV r w g).mono ?_;rintro e c ⟨⟨f,t,q⟩,b,rfl,a,d⟩;unfold qn at a;rw[h]at a;obtain rfl:=a;exact⟨f,t,q,rfl,d⟩
theorem Laid.alloc{w:World}(h:Laid w)(o:Obj):Laid (w.alloc o):=h.below ((Below.refl w.heap.size w).alloc cr o) h.1
theorem Oa(r:Int)(h:look gQ r=none)(w:World)(o:Laid w):
 Calls prog 75 #[.int .i32 r] w fun e s=>e= .returned (.agg (aZ r).cells)/\Below w.heap.size w s:=by
 rw[mK h];have F:=Lib.hid (Jm h);have q:=Lib.hid o;go_enter func75,ntmps75;go_wp2_with (first
  |(go_at_call 136;refine(F.out _ (q.out.alloc _)).mono ?_;rintro e m ⟨f,t,p,rfl,dJ⟩;obtain⟨c,d⟩:=jS dJ;have k:w.heap.size<m.heap.size:=VQ;simp only[World.size_alloc]at c d)
  |(go_at_call 137;refine(IB _).mono ?_;rintro e n ⟨rfl,a⟩;obtain⟨b,j⟩:=jS a;have i:m.heap.size<n.heap.size:=(by have:=a.size;simp only[World.size_alloc]at this;omega);have g:w.heap.size<n.heap.size:=aq;have l:w.heap.size<m.heap.size+1:=aq;simp only[World.size_alloc]at b j))
 refine bodyPost_ret (v:= .agg (Pr.cells Pr.rest)) (by simp[results,results75,Pr.cells,Pr.rest,go_sem,c,k,b,i,g,l]) rfl ⟨rfl, ?_⟩
 (repeat(first|(with_reducible refine Below.setCell ?_ ?_ _)|(with_reducible refine Below.alloc ?_ ?_ _)|(with_reducible refine Below.drew ?_)|(with_reducible exact Below.refl _ _)|(with_reducible refine Below.trans ?_ (Below.mono a ?_))|(with_reducible refine Below.trans ?_ (Below.mono dJ ?_))|(with_reducible exact Nat.le_refl _)|omega|(simp;omega)|simp))
theorem Of(r:Int)(p:Pr)(h:look gQ r=some p)(u: -2147483648<=r)(A:r<=2147483647)(w:World)(n:Laid w):
 Calls prog 75 #[.int .i32 r] w fun e o=>e= .returned (.agg (aZ r).cells)/\Below w.heap.size w o:=by
 have PR:=Lib.hid (mA h);have z:=Lib.hid (Gb h);have F:=Lib.hid (Hy h);have k:=Lib.hid n;clear h n;by_cases c:p.bM=13
 ·have q:=z.out.1 c
  obtain⟨s,B⟩:=q;have m:((p.bM:Int)==13)=true:=by simp[c]
  by_cases d:(r-44032)%28=0
  ·have g:=Lib.hid (PR.out.trans (if_pos ⟨c,d⟩))
   have x:(((r-44032)%28:Int)==0)=true:=(by simp[d]);have y:=Lib.hid d;have j:=Lib.hid c;clear d PR c;go_enter func75,ntmps75;go_wp2_with (go_at_call 136;refine(F.out _ (k.out.alloc _)).mono ?_;rintro e i ⟨f,t,rfl,a,dJ⟩;obtain rfl:=a j.out;clear a;obtain⟨jY,b⟩:=jS dJ;have qG:w.heap.size<i.heap.size:=VQ;simp only[World.size_alloc]at jY b);rw[g.out];refine bodyPost_ret (v:= .agg (Pr.cells {p with bM:=12,vj:=33})) aaU rfl ⟨rfl, ?_⟩
   (repeat(first|(with_reducible refine Below.setCell ?_ ?_ _)|(with_reducible refine Below.alloc ?_ ?_ _)|(with_reducible refine Below.drew ?_)|(with_reducible exact Below.refl _ _)|(with_reducible refine Below.trans ?_ (Below.mono dJ ?_))|(with_reducible exact Nat.le_refl _)|omega|(simp;omega)|simp))
  ·have g:=Lib.hid (PR.out.trans (if_neg (fun l=>d l.2)))
   have x:(((r-44032)%28:Int)==0)=false:=(by simp[d]);have y:=Lib.hid d;have j:=Lib.hid c;clear d PR c;go_enter func75,ntmps75;go_wp2_with (go_at_call 136;refine(F.out _ (k.out.alloc _)).mono ?_;rintro e i ⟨f,t,rfl,a,dJ⟩;obtain rfl:=a j.out;clear a;obtain⟨jY,b⟩:=jS dJ;have qG:w.heap.size<i.heap.size:=VQ;simp only[World.size_alloc]at jY b);rw[g.out];refine bodyPost_ret (v:= .agg p.cells) aaU rfl ⟨rfl, ?_⟩
   (repeat(first|(with_reducible refine Below.setCell ?_ ?_ _)|(with_reducible refine Below.alloc ?_ ?_ _)|(with_reducible refine Below.drew ?_)|(with_reducible exact Below.refl _ _)|(with_reducible refine Below.trans ?_ (Below.mono dJ ?_))|(with_reducible exact Nat.le_refl _)|omega|(simp;omega)|simp))
 ·have g:=Lib.hid (PR.out.trans (if_neg (fun l=>c l.1)))
  have m:((p.bM:Int)==13)=false:=by simp[c]
  have j:=Lib.hid c;clear PR c;go_enter func75,ntmps75;go_wp2_with (go_at_call 136;refine(F.out _ (k.out.alloc _)).mono ?_;rintro e i ⟨f,t,rfl,a,dJ⟩;clear a;obtain⟨jY,b⟩:=jS dJ;have qG:w.heap.size<i.heap.size:=VQ;simp only[World.size_alloc]at jY b);rw[g.out];refine bodyPost_ret (v:= .agg p.cells) aaU rfl ⟨rfl, ?_⟩
  (repeat(first|(with_reducible refine Below.setCell ?_ ?_ _)|(with_reducible refine Below.alloc ?_ ?_ _)|(with_reducible refine Below.drew ?_)|(with_reducible exact Below.refl _ _)|(with_reducible refine Below.trans ?_ (Below.mono dJ ?_))|(with_reducible exact Nat.le_refl _)|omega|(simp;omega)|simp))
theorem QR(r:Int)(a: -2147483648<=r)(b:r<=2147483647)(w:World)(c:Laid w):
 Calls prog 75 #[.int .i32 r] w fun e d=>e= .returned (.agg (aZ r).cells)/\Below w.heap.size w d:=by
 cases h:look gQ r with
 |some p=>exact Of r p h a b w c
 |none=>exact Oa r h w c
end Go.Proofs.YtpidckelbgbbkaaGreatDoor
