/- Part of LineCovers. -/
import Derived.Test.YtklncadpkniojaaGreatDoorAh
import Derived.Test.YtklncadpkniojaaGreatDoorAi
namespace Go.Proofs.YtklncadpkniojaaGreatDoor
open Go.ChangeShapes Go.WideShapes Go.ChangeAt Go.RowKit Go.Proofs.Tryz
open Go renaming World->ahh,Calls->ahk
open Go.RowKit renaming Below->ahi
open Go.Value renaming int->ae
open Go.IntKind renaming i64->aj
set_option linter.all false
set_option maxRecDepth 100000
set_option maxHeartbeats 16000000
variable{r:Int}
theorem Xp{p:Prop}(h:p:=by have:=dH.size;simp only[World.size_alloc]at this;omega):p:=h
theorem abE{p:Prop}(h:p:=by simp[results,results79,Pr.cells,go_sem,kt,pX]):p:=h
theorem pq:∀(l:List (Int×Int×Pr)) (r:Int) (p:Pr),look l r=some p->∃lo c,(lo,c,p)∈l/\lo<=r/\r<=c
 |[],_,_,h=>by simp[look]at h
 |(a,b,q)::l,r,p,h=>by
  simp only[look]at h;split at h
  .injection h with h
   subst h;exact⟨a,b,List.mem_cons_self ..,ak,ak⟩
  .obtain⟨lo,c,d,f,e⟩:=pq l r p h
   exact⟨lo,c,List.mem_cons_of_mem _ d,f,e⟩
theorem Hf{p:Pr}(h:look iF r=some p):p.bN=13↔44032<=r/\r<=55203:=by
 obtain⟨lo,f,c,e,d⟩:=pq _ _ _ h;have a:iF.all (fun x=>decide ((x.2.2.bN=13->x.1=44032/\x.2.1=55203)/\(x.2.2.bN≠13->x.2.1<44032∨55203<x.1)))=true:=yE;have:=of_decide_eq_true (List.all_eq_true.1 a _ c);simp only at this;by_cases b:p.bN=13
 .have:=this.1 b;simp only[b,true_iff];omega
 .have:=this.2 b;simp only[b,false_iff];omega
theorem mB{p:Pr}(h:look iF r=some p):a7 r=if p.bN=13/\(r-44032)%28=0 then{p with bN:=12,wY:=33}else p:=by
 have c:=Hf h;unfold a7;rw[h];simp only;by_cases a:p.bN=13
 .have:=c.1 a
  by_cases b:(r-44032)%28=0
  .rw[if_pos ⟨this.1,this.2,b⟩,if_pos ⟨a,b⟩]
  .rw[if_neg (fun h=>b h.2.2),if_neg (fun h=>b h.2)]
 .rw[if_neg (fun h=>a (c.2 ⟨h.1,h.2.1⟩)),if_neg (fun h=>a h.1)]
theorem mC(h:look iF r=none):a7 r=Pr.rest:=by unfold a7;rw[h]
theorem JU(w:ahh):ahk prog 155 #[] w fun b a=>b=.returned (.agg #[ae aj 1,ae aj 0,ae aj 0,ae aj 0,ae aj 0,ae aj 0,.int .i32 0,.int .i32 0,.bool false])/\ahi w.heap.size w a:=by
 go_enter func155,ntmps155;go_wp2;refine bodyPost_ret (v:=.agg #[ae aj 1,ae aj 0,ae aj 0,ae aj 0,ae aj 0,ae aj 0,.int .i32 0,.int .i32 0,.bool false]) (by simp[results,results155,go_sem]) rfl ⟨rfl,(Below.refl _ _).alloc bW _⟩
theorem Je{p:Pr}(h:look iF r=some p)(w:ahh)(i:Laid w):
 ahk prog 154 #[.int .i32 r] w fun e g=>∃f t:Int,e=.returned (.tuple #[.agg #[.int .i32 f,.int .i32 t,ae aj p.iU,ae aj p.bN,ae aj p.wY,ae aj p.script,ae aj p.join,ae aj p.word,.int .i32 p.fg,.int .i32 p.pair,.bool p.opens],.bool true])/\(p.bN=13->f=44032)/\ahi w.heap.size w g:=by
 refine(ze r w i).mono ?_;rintro e g ⟨⟨f,t,q⟩,b,rfl,a,j⟩;unfold pR at a;rw[h]at a;obtain⟨rfl,d,c⟩:=a;simp only at d c;subst d;exact⟨f,t,rfl,c,j⟩
theorem Jo(h:look iF r=none)(w:ahh)(g:Laid w):
 ahk prog 154 #[.int .i32 r] w fun e c=>∃(f t:Int) (p:Pr),e=.returned (.tuple #[.agg #[.int .i32 f,.int .i32 t,ae aj p.iU,ae aj p.bN,ae aj p.wY,ae aj p.script,ae aj p.join,ae aj p.word,.int .i32 p.fg,.int .i32 p.pair,.bool p.opens],.bool false])/\ahi w.heap.size w c:=by
 refine(ze r w g).mono ?_;rintro e c ⟨⟨f,t,q⟩,b,rfl,a,d⟩;unfold pR at a;rw[h]at a;obtain rfl:=a;exact⟨f,t,q,rfl,d⟩
theorem Laid.alloc{w:ahh}(h:Laid w)(o:Obj):Laid (w.alloc o):=h.below ((Below.refl w.heap.size w).alloc bW o) h.1
theorem NJ(r:Int)(h:look iF r=none)(w:ahh)(q:Laid w):
 ahk prog 79 #[.int .i32 r] w fun e s=>e=.returned (.agg (a7 r).cells)/\ahi w.heap.size w s:=by
 rw[mC h];have F:=Lib.hid (Jo h);have o:=Lib.hid q;go_enter func79,ntmps79;go_wp2_with (first
  |(go_at_call 154;refine(F.out _ (o.out.alloc _)).mono ?_;rintro e m ⟨f,t,p,rfl,dH⟩;obtain⟨b,j⟩:=jH dH;have k:w.heap.size<m.heap.size:=Xp;simp only[World.size_alloc]at b j)
  |(go_at_call 155;refine(JU _).mono ?_;rintro e n ⟨rfl,a⟩;obtain⟨c,l⟩:=jH a;have d:m.heap.size<n.heap.size:=(by have:=a.size;simp only[World.size_alloc]at this;omega);have i:w.heap.size<n.heap.size:=ak;have g:w.heap.size<m.heap.size+1:=ak;simp only[World.size_alloc]at c l))
 refine bodyPost_ret (v:=.agg (Pr.cells Pr.rest)) (by simp[results,results79,Pr.cells,Pr.rest,go_sem,b,k,c,d,i,g]) rfl ⟨rfl, ?_⟩
 (repeat(first|(with_reducible refine Below.setCell ?_ ?_ _)|(with_reducible refine Below.alloc ?_ ?_ _)|(with_reducible refine Below.drew ?_)|(with_reducible exact Below.refl _ _)|(with_reducible refine Below.trans ?_ (Below.mono a ?_))|(with_reducible refine Below.trans ?_ (Below.mono dH ?_))|(with_reducible exact Nat.le_refl _)|omega|(simp;omega)|simp))
theorem Ma(r:Int)(p:Pr)(h:look iF r=some p)(z: -2147483648<=r)(y:r<=2147483647)(w:ahh)(n:Laid w):
 ahk prog 79 #[.int .i32 r] w fun e s=>e=.returned (.agg (a7 r).cells)/\ahi w.heap.size w s:=by
 have PR:=Lib.hid (mB h);have o:=Lib.hid (Hf h);have F:=Lib.hid (Je h);have k:=Lib.hid n;clear h n;by_cases c:p.bN=13
 .have x:=o.out.1 c
  obtain⟨q,A⟩:=x;have l:((p.bN:Int)==13)=true:=by simp[c]
  by_cases d:(r-44032)%28=0
  .have g:=Lib.hid (PR.out.trans (if_pos ⟨c,d⟩))
   have B:(((r-44032)%28:Int)==0)=true:=(by simp[d]);have u:=Lib.hid d;have j:=Lib.hid c;clear d PR c;go_enter func79,ntmps79;go_wp2_with (go_at_call 154;refine(F.out _ (k.out.alloc _)).mono ?_;rintro e i ⟨f,t,rfl,a,dH⟩;obtain rfl:=a j.out;clear a;obtain⟨kt,b⟩:=jH dH;have pX:w.heap.size<i.heap.size:=Xp;simp only[World.size_alloc]at kt b);rw[g.out];refine bodyPost_ret (v:=.agg (Pr.cells {p with bN:=12,wY:=33})) abE rfl ⟨rfl, ?_⟩
   (repeat(first|(with_reducible refine Below.setCell ?_ ?_ _)|(with_reducible refine Below.alloc ?_ ?_ _)|(with_reducible refine Below.drew ?_)|(with_reducible exact Below.refl _ _)|(with_reducible refine Below.trans ?_ (Below.mono dH ?_))|(with_reducible exact Nat.le_refl _)|omega|(simp;omega)|simp))
  .have g:=Lib.hid (PR.out.trans (if_neg (fun m=>d m.2)))
   have B:(((r-44032)%28:Int)==0)=false:=(by simp[d]);have u:=Lib.hid d;have j:=Lib.hid c;clear d PR c;go_enter func79,ntmps79;go_wp2_with (go_at_call 154;refine(F.out _ (k.out.alloc _)).mono ?_;rintro e i ⟨f,t,rfl,a,dH⟩;obtain rfl:=a j.out;clear a;obtain⟨kt,b⟩:=jH dH;have pX:w.heap.size<i.heap.size:=Xp;simp only[World.size_alloc]at kt b);rw[g.out];refine bodyPost_ret (v:=.agg p.cells) abE rfl ⟨rfl, ?_⟩
   (repeat(first|(with_reducible refine Below.setCell ?_ ?_ _)|(with_reducible refine Below.alloc ?_ ?_ _)|(with_reducible refine Below.drew ?_)|(with_reducible exact Below.refl _ _)|(with_reducible refine Below.trans ?_ (Below.mono dH ?_))|(with_reducible exact Nat.le_refl _)|omega|(simp;omega)|simp))
 .have g:=Lib.hid (PR.out.trans (if_neg (fun m=>c m.1)))
  have l:((p.bN:Int)==13)=false:=by simp[c]
  have j:=Lib.hid c;clear PR c;go_enter func79,ntmps79;go_wp2_with (go_at_call 154;refine(F.out _ (k.out.alloc _)).mono ?_;rintro e i ⟨f,t,rfl,a,dH⟩;clear a;obtain⟨kt,b⟩:=jH dH;have pX:w.heap.size<i.heap.size:=Xp;simp only[World.size_alloc]at kt b);rw[g.out];refine bodyPost_ret (v:=.agg p.cells) abE rfl ⟨rfl, ?_⟩
  (repeat(first|(with_reducible refine Below.setCell ?_ ?_ _)|(with_reducible refine Below.alloc ?_ ?_ _)|(with_reducible refine Below.drew ?_)|(with_reducible exact Below.refl _ _)|(with_reducible refine Below.trans ?_ (Below.mono dH ?_))|(with_reducible exact Nat.le_refl _)|omega|(simp;omega)|simp))
theorem Uv(r:Int)(b: -2147483648<=r)(a:r<=2147483647)(w:ahh)(c:Laid w):
 ahk prog 79 #[.int .i32 r] w fun e d=>e=.returned (.agg (a7 r).cells)/\ahi w.heap.size w d:=by
 cases h:look iF r with
 |some p=>exact Ma r p h b a w c
 |none=>exact NJ r h w c
end Go.Proofs.YtklncadpkniojaaGreatDoor
