/- Part of LineCovers. -/
import Derived.Test.YtklncadpkniojaaGreatDoorAb
import Derived.Test.YtklncadpkniojaaGreatDoorRows
import Derived.Lib.Hide
namespace Go.Proofs.YtklncadpkniojaaGreatDoor
open Go.ChangeShapes Go.WideShapes Go.ChangeAt Go.RowKit Go.Proofs.Tryz
open Go renaming World->ahh,Value->ahj,Calls->ahk
open Go.RowKit renaming Below->ahi
open Go.Value renaming int->ae
open Go.IntKind renaming i64->aj
set_option linter.all false
set_option maxRecDepth 100000
set_option maxHeartbeats 16000000
variable{f:FuncId}
theorem bX{p:Prop}(h:p:=by kernel_rfl):p:=h
def Pr.cells(p:Pr):Array ahj:=#[ae aj p.iU,ae aj p.bN,ae aj p.wY,ae aj p.script,ae aj p.join,ae aj p.word,.int .i32 p.fg,.int .i32 p.pair,.bool p.opens]
theorem Hy(a b c d e f g h:Int)(o:Bool)(w:ahh):
 ahk prog 177 #[ae aj a,ae aj b,ae aj c,ae aj d,ae aj e,ae aj f,.int .i32 g,.int .i32 h,.bool o] w fun j i=>
  j=.returned (.agg #[ae aj a,ae aj b,ae aj c,ae aj d,ae aj e,ae aj f,.int .i32 g,.int .i32 h,.bool o])/\ahi w.heap.size w i:=by
 go_enter func177,ntmps177;go_wp2;refine bodyPost_ret (v:=.agg #[ae aj a,ae aj b,ae aj c,ae aj d,ae aj e,ae aj f,.int .i32 g,.int .i32 h,.bool o]) (by simp[results,results177,go_sem]) rfl ⟨rfl,(Below.refl _ _).alloc bW _⟩
theorem jH{B:Nat}{W a:ahh}(c:ahi B W a):(∀b o,b<B->a.cell? ⟨b,o,none⟩=W.cell? ⟨b,o,none⟩)/\(∀b o,b<B->a.frozen? ⟨b,o,none⟩=W.frozen? ⟨b,o,none⟩):=
 ⟨fun b o h=>c.cell (p:=⟨b,o,none⟩) h,fun b o h=>c.frozen (p:=⟨b,o,none⟩) h⟩
theorem Pr.wU(p:Pr):p.cells.all (·.oneCell')=true:=by simp[Pr.cells,Value.oneCell']
theorem zl:(prog.info? 87).map (fun i=>(i.zero,i.size,i.bytes))=some (some (.agg #[ae aj 0,ae aj 0,ae aj 0,ae aj 0,ae aj 0,ae aj 0,.int .i32 0,.int .i32 0,.bool false]),9,64):=by kernel_rfl
theorem yM:(prog.info? 87).map (·.size)=some 9:=by kernel_rfl
theorem wu(w:ahh):
 ahk prog 90 #[] w fun c b=>c=.returned (.agg Pr.rest.cells)/\ahi w.heap.size w b:=by
 go_enter func90,ntmps90;go_wp2_with (first
  |(go_at_call 177;refine(Hy 1 0 0 0 0 0 0 0 false _).mono ?_;rintro e b ⟨rfl,a⟩)
  |(refine wpList_store_row rfl 87 (.tmp 0) (.tmp 1) rfl w.heap.size Pr.rest.cells rfl rfl 87 _ ((a.block _ aQ).trans (heap_alloc_new w _)) yM aB (Pr.wU _) ?_))
 refine bodyPost_ret (v:=.agg Pr.rest.cells) (results_cell_row results90 _ _ w.heap.size 87 _ (0,0) _ rfl (setRow_heap _ _ _ _ _ _ ((a.block _ aQ).trans (heap_alloc_new w _))) underlying87 rfl yM) rfl ⟨rfl, ?_⟩;exact below_setRow (((Below.refl _ _).alloc bW _).trans (a.mono aQ)) bW _
def VU(f:FuncId)(xs:Array ahj):Option ahj:=
 if f=177 then
  match xs.toList with
  |[ae aj a,ae aj b,ae aj c,ae aj d,ae aj e,ae aj f,.int .i32 g,.int .i32 h,.bool o]=>some (.agg #[ae aj a,ae aj b,ae aj c,ae aj d,ae aj e,ae aj f,.int .i32 g,.int .i32 h,.bool o])
  |_=>none
 else if f=90 then
  match xs.toList with
  |[]=>some (.agg Pr.rest.cells)
  |_=>none
 else none
theorem Dv:iN prog 177:=fun _ _=>by kernel_rfl
theorem Ar:iN prog 90:=fun _ _=>by kernel_rfl
theorem pg:jv prog VU:=by
 intro f xs v h;obtain⟨l⟩:=xs;unfold VU at h;split at h
 case isTrue hf=>
  subst hf;simp only at h;split at h
  case h_1=>
   injection h with h
   subst h;exact⟨Dv,fun w=>Hy _ _ _ _ _ _ _ _ _ w⟩
  case h_2=>cases h
 case isFalse=>
  split at h
  case isTrue hf=>
   subst hf;simp only at h;split at h
   case h_1=>
    injection h with h
    subst h;exact⟨Ar,fun w=>wu w⟩
   case h_2=>cases h
  case isFalse=>cases h
def rowsOf(l:List (Int×Int×Pr)):List (Int×Int×Array ahj):=l.map fun(lo,a,p)=>(lo,a,p.cells)
theorem ji:∀(l:List (Int×Int×Pr)) (r:Int),dC Pr.rest.cells (rowsOf l) r=(((look l r).getD Pr.rest).cells,(look l r).isSome)
 |[],r=>rfl
 |(lo,hi,p)::l,r=>by
  simp only[rowsOf,List.map_cons,dC,look];split
  .rfl
  .exact ji l r
theorem fW{a:Func}{c0:Code}{n:Nat}{l:List (Int×Int×Pr)}(g:prog.funcs[f]? =some a)(k:a.body=some c0)(o:a.ntmps=n)(d:4<=n)
 (m:a.results=#[.cell 2 87,.tmp 3]) (j:qy 87 c0=true) (p:chain VU n 9 87 (xu c0)=some (rowsOf l,Pr.rest.cells)) (r:Int) (w:ahh):
 ahk prog f #[.int .i32 r] w fun e i=>e=.returned (.tuple #[.agg ((look l r).getD Pr.rest).cells,.bool (look l r).isSome])/\ahi w.heap.size w i:=by
 obtain⟨s,q,c,b,h⟩:=info_parts zl;have:=zU pg g k o d m q c rfl b underlying87 rfl j p (fun r=>by rw[ji];rfl) r w;rw[ji]at this;exact this
theorem Ta(r:Int)(w:ahh):ahk prog 162 #[.int .i32 r] w fun e a=>e=.returned (.tuple #[.agg ((look Vw r).getD Pr.rest).cells,.bool (look Vw r).isSome])/\ahi w.heap.size w a:=
 fW func162 (c0:=(f162.body).getD .skip) (n:=f162.ntmps) bX rfl (of_decide_eq_true bX) bX bX bX r w
theorem VM(r:Int)(w:ahh):ahk prog 163 #[.int .i32 r] w fun e a=>e=.returned (.tuple #[.agg ((look Sp r).getD Pr.rest).cells,.bool (look Sp r).isSome])/\ahi w.heap.size w a:=
 fW func163 (c0:=(f163.body).getD .skip) (n:=f163.ntmps) bX rfl (of_decide_eq_true bX) bX bX bX r w
theorem Vh(r:Int)(w:ahh):ahk prog 164 #[.int .i32 r] w fun e a=>e=.returned (.tuple #[.agg ((look Tr r).getD Pr.rest).cells,.bool (look Tr r).isSome])/\ahi w.heap.size w a:=
 fW func164 (c0:=(f164.body).getD .skip) (n:=f164.ntmps) bX rfl (of_decide_eq_true bX) bX bX bX r w
theorem Wy(r:Int)(w:ahh):ahk prog 165 #[.int .i32 r] w fun e a=>e=.returned (.tuple #[.agg ((look Ti r).getD Pr.rest).cells,.bool (look Ti r).isSome])/\ahi w.heap.size w a:=
 fW func165 (c0:=(f165.body).getD .skip) (n:=f165.ntmps) bX rfl (of_decide_eq_true bX) bX bX bX r w
theorem TR(r:Int)(w:ahh):ahk prog 166 #[.int .i32 r] w fun e a=>e=.returned (.tuple #[.agg ((look VV r).getD Pr.rest).cells,.bool (look VV r).isSome])/\ahi w.heap.size w a:=
 fW func166 (c0:=(f166.body).getD .skip) (n:=f166.ntmps) bX rfl (of_decide_eq_true bX) bX bX bX r w
theorem UA(r:Int)(w:ahh):ahk prog 167 #[.int .i32 r] w fun e a=>e=.returned (.tuple #[.agg ((look Sn r).getD Pr.rest).cells,.bool (look Sn r).isSome])/\ahi w.heap.size w a:=
 fW func167 (c0:=(f167.body).getD .skip) (n:=f167.ntmps) bX rfl (of_decide_eq_true bX) bX bX bX r w
theorem Tq(r:Int)(w:ahh):ahk prog 168 #[.int .i32 r] w fun e a=>e=.returned (.tuple #[.agg ((look Vj r).getD Pr.rest).cells,.bool (look Vj r).isSome])/\ahi w.heap.size w a:=
 fW func168 (c0:=(f168.body).getD .skip) (n:=f168.ntmps) bX rfl (of_decide_eq_true bX) bX bX bX r w
theorem Tj(r:Int)(w:ahh):ahk prog 169 #[.int .i32 r] w fun e a=>e=.returned (.tuple #[.agg ((look TV r).getD Pr.rest).cells,.bool (look TV r).isSome])/\ahi w.heap.size w a:=
 fW func169 (c0:=(f169.body).getD .skip) (n:=f169.ntmps) bX rfl (of_decide_eq_true bX) bX bX bX r w
theorem Wt(r:Int)(w:ahh):ahk prog 170 #[.int .i32 r] w fun e a=>e=.returned (.tuple #[.agg ((look Wd r).getD Pr.rest).cells,.bool (look Wd r).isSome])/\ahi w.heap.size w a:=
 fW func170 (c0:=(f170.body).getD .skip) (n:=f170.ntmps) bX rfl (of_decide_eq_true bX) bX bX bX r w
theorem UB(r:Int)(w:ahh):ahk prog 171 #[.int .i32 r] w fun e a=>e=.returned (.tuple #[.agg ((look TN r).getD Pr.rest).cells,.bool (look TN r).isSome])/\ahi w.heap.size w a:=
 fW func171 (c0:=(f171.body).getD .skip) (n:=f171.ntmps) bX rfl (of_decide_eq_true bX) bX bX bX r w
theorem Np(r:Int)(w:ahh):ahk prog 172 #[.int .i32 r] w fun e a=>e=.returned (.tuple #[.agg ((look Hc r).getD Pr.rest).cells,.bool (look Hc r).isSome])/\ahi w.heap.size w a:=
 fW func172 (c0:=(f172.body).getD .skip) (n:=f172.ntmps) bX rfl (of_decide_eq_true bX) bX bX bX r w
theorem NG(r:Int)(w:ahh):ahk prog 173 #[.int .i32 r] w fun e a=>e=.returned (.tuple #[.agg ((look Fs r).getD Pr.rest).cells,.bool (look Fs r).isSome])/\ahi w.heap.size w a:=
 fW func173 (c0:=(f173.body).getD .skip) (n:=f173.ntmps) bX rfl (of_decide_eq_true bX) bX bX bX r w
theorem Ox(r:Int)(w:ahh):ahk prog 174 #[.int .i32 r] w fun e a=>e=.returned (.tuple #[.agg ((look Hb r).getD Pr.rest).cells,.bool (look Hb r).isSome])/\ahi w.heap.size w a:=
 fW func174 (c0:=(f174.body).getD .skip) (n:=f174.ntmps) bX rfl (of_decide_eq_true bX) bX bX bX r w
theorem Qe(r:Int)(w:ahh):ahk prog 175 #[.int .i32 r] w fun e a=>e=.returned (.tuple #[.agg ((look Hi r).getD Pr.rest).cells,.bool (look Hi r).isSome])/\ahi w.heap.size w a:=
 fW func175 (c0:=(f175.body).getD .skip) (n:=f175.ntmps) bX rfl (of_decide_eq_true bX) bX bX bX r w
theorem LO(r:Int)(w:ahh):ahk prog 176 #[.int .i32 r] w fun e a=>e=.returned (.tuple #[.agg ((look F' r).getD Pr.rest).cells,.bool (look F' r).isSome])/\ahi w.heap.size w a:=
 fW func176 (c0:=(f176.body).getD .skip) (n:=f176.ntmps) bX rfl (of_decide_eq_true bX) bX bX bX r w
def gN(f:FuncId):List (Int×Int×Pr):=
 if f=162 then Vw
 else if f=163 then Sp
 else if f=164 then Tr
 else if f=165 then Ti
 else if f=166 then VV
 else if f=167 then Sn
 else if f=168 then Vj
 else if f=169 then TV
 else if f=170 then Wd
 else if f=171 then TN
 else if f=172 then Hc
 else if f=173 then Fs
 else if f=174 then Hb
 else if f=175 then Hi
 else if f=176 then F'
 else[]
def yV(f:FuncId)(r:Int):Array ahj×Bool:=(((look (gN f) r).getD Pr.rest).cells,(look (gN f) r).isSome)
theorem oW:∀(a:List FuncId) (r:Int),dV Pr.rest.cells yV a r=(((look (a.flatMap gN) r).getD Pr.rest).cells,(look (a.flatMap gN) r).isSome)
 |[],r=>rfl
 |f::a,r=>by
  have ih:=oW a r;have b:(yV f r).2=(look (gN f) r).isSome:=rfl;have d:(yV f r).1=((look (gN f) r).getD Pr.rest).cells:=rfl;rw[dV,List.flatMap_cons,iT];by_cases hs:(yV f r).2=true
  .rw[if_pos hs,d]
   rw[b]at hs;obtain⟨p,e⟩:=Option.isSome_iff_exists.1 hs;simp[e]
  .rw[if_neg hs,ih]
   rw[b]at hs;have c:look (gN f) r=none:=oP;simp[c]
theorem VL(r:Int)(f:FuncId):(yV f r).1.size=9/\(yV f r).1.all (·.oneCell')=true:=⟨rfl,Pr.wU _⟩
theorem yX{a:Func}{b:List FuncId}(j:prog.funcs[f]? =some a){c0:Code}(m:a.body=some c0)(h:4<=a.ntmps)(n:a.results=#[.cell 2 87,.tmp 3])
 (l:qy 87 c0=true) (o:pW VU a.ntmps 9 87 (xu c0)=some (b,Pr.rest.cells)) (r:Int)
 (i:∀f∈b,iN prog f/\∀w,ahk prog f #[.int .i32 r] w fun e d=>e=.returned (.tuple #[.agg (yV f r).1,.bool (yV f r).2])/\ahi w.heap.size w d) (w:ahh):
 ahk prog f #[.int .i32 r] w fun e d=>e=.returned (.tuple #[.agg ((look (b.flatMap gN) r).getD Pr.rest).cells,.bool (look (b.flatMap gN) r).isSome])/\ahi w.heap.size w d:=by
 obtain⟨q,p,g,c,k⟩:=info_parts zl;have:=CY pg j m rfl h n p g rfl c underlying87 rfl l o r (VL r) rfl i w;rw[oW]at this;exact this
def fs0:List FuncId:=[162,163,164,165,166,167,168,169]
theorem wD(r:Int)(w:ahh):
 ahk prog 88 #[.int .i32 r] w fun e b=>e=.returned (.tuple #[.agg ((look (fs0.flatMap gN) r).getD Pr.rest).cells,.bool (look (fs0.flatMap gN) r).isSome])/\ahi w.heap.size w b:=by
 refine yX func88 (c0:=(f88.body).getD .skip) bX (of_decide_eq_true bX) bX bX bX r (fun f a=> ?_) w;simp only[fs0,List.mem_cons,List.not_mem_nil,or_false]at a;rcases a with rfl|rfl|rfl|rfl|rfl|rfl|rfl|rfl
 .exact⟨fun _ _=>by kernel_rfl,Ta r⟩
 .exact⟨fun _ _=>by kernel_rfl,VM r⟩
 .exact⟨fun _ _=>by kernel_rfl,Vh r⟩
 .exact⟨fun _ _=>by kernel_rfl,Wy r⟩
 .exact⟨fun _ _=>by kernel_rfl,TR r⟩
 .exact⟨fun _ _=>by kernel_rfl,UA r⟩
 .exact⟨fun _ _=>by kernel_rfl,Tq r⟩
 .exact⟨fun _ _=>by kernel_rfl,Tj r⟩
def fs1:List FuncId:=[170,171,172,173,174,175,176]
theorem wP(r:Int)(w:ahh):
 ahk prog 89 #[.int .i32 r] w fun e b=>e=.returned (.tuple #[.agg ((look (fs1.flatMap gN) r).getD Pr.rest).cells,.bool (look (fs1.flatMap gN) r).isSome])/\ahi w.heap.size w b:=by
 refine yX func89 (c0:=(f89.body).getD .skip) bX (of_decide_eq_true bX) bX bX bX r (fun f a=> ?_) w;simp only[fs1,List.mem_cons,List.not_mem_nil,or_false]at a;rcases a with rfl|rfl|rfl|rfl|rfl|rfl|rfl
 .exact⟨fun _ _=>by kernel_rfl,Wt r⟩
 .exact⟨fun _ _=>by kernel_rfl,UB r⟩
 .exact⟨fun _ _=>by kernel_rfl,Np r⟩
 .exact⟨fun _ _=>by kernel_rfl,NG r⟩
 .exact⟨fun _ _=>by kernel_rfl,Ox r⟩
 .exact⟨fun _ _=>by kernel_rfl,Qe r⟩
 .exact⟨fun _ _=>by kernel_rfl,LO r⟩
theorem OT(lo g a b c d e f:Int)(w:ahh):
 ahk prog 296 #[.int .i32 lo,.int .i32 g,ae aj a,ae aj b,ae aj c,ae aj d,ae aj e,ae aj f] w fun i h=>
  i=.returned (.agg #[.int .i32 lo,.int .i32 g,ae aj a,ae aj b,ae aj c,ae aj d,ae aj e,ae aj f,.int .i32 0,.int .i32 0,.bool false])/\ahi w.heap.size w h:=by
 go_enter func296,ntmps296;go_wp2;refine bodyPost_ret (v:=.agg #[.int .i32 lo,.int .i32 g,ae aj a,ae aj b,ae aj c,ae aj d,ae aj e,ae aj f,.int .i32 0,.int .i32 0,.bool false]) (by simp[results,results296,go_sem]) rfl ⟨rfl,(Below.refl _ _).alloc bW _⟩
theorem xm(lo i a b c d e f g h m:Int)(o:Bool)(w:ahh):
 ahk prog 298 #[.agg #[.int .i32 lo,.int .i32 i,ae aj a,ae aj b,ae aj c,ae aj d,ae aj e,ae aj f,.int .i32 g,.int .i32 h,.bool o],.int .i32 m] w fun k j=>
  k=.returned (.agg #[.int .i32 lo,.int .i32 i,ae aj a,ae aj b,ae aj c,ae aj d,ae aj e,ae aj f,.int .i32 m,.int .i32 h,.bool o])/\ahi w.heap.size w j:=by
 go_enter func298,ntmps298;go_wp2;refine bodyPost_ret (v:=.agg #[.int .i32 lo,.int .i32 i,ae aj a,ae aj b,ae aj c,ae aj d,ae aj e,ae aj f,.int .i32 m,.int .i32 h,.bool o]) (by simp[results,results298,go_sem]) rfl ⟨rfl, ?_⟩;exact((Below.refl _ _).alloc bW _).alloc aQ _
theorem DF(lo j a b c d e f g h m:Int)(o i:Bool)(w:ahh):
 ahk prog 297 #[.agg #[.int .i32 lo,.int .i32 j,ae aj a,ae aj b,ae aj c,ae aj d,ae aj e,ae aj f,.int .i32 g,.int .i32 h,.bool o],.int .i32 m,.bool i] w fun l k=>
  l=.returned (.agg #[.int .i32 lo,.int .i32 j,ae aj a,ae aj b,ae aj c,ae aj d,ae aj e,ae aj f,.int .i32 m,.int .i32 m,.bool i])/\ahi w.heap.size w k:=by
 go_enter func297,ntmps297;go_wp2;refine bodyPost_ret (v:=.agg #[.int .i32 lo,.int .i32 j,ae aj a,ae aj b,ae aj c,ae aj d,ae aj e,ae aj f,.int .i32 m,.int .i32 m,.bool i]) (by simp[results,results297,go_sem]) rfl ⟨rfl, ?_⟩;exact((Below.refl _ _).alloc bW _).alloc aQ _
def Ou(f:FuncId)(xs:Array ahj):Option ahj:=
 if f=296 then
  match xs.toList with
  |[.int .i32 lo,.int .i32 hi,ae aj a,ae aj b,ae aj c,ae aj d,ae aj e,ae aj f]=>some (.agg #[.int .i32 lo,.int .i32 hi,ae aj a,ae aj b,ae aj c,ae aj d,ae aj e,ae aj f,.int .i32 0,.int .i32 0,.bool false])
  |_=>none
 else if f=298 then
  match xs.toList with
  |[.agg cs,.int .i32 m]=>match cs.toList with
   |[.int .i32 lo,.int .i32 hi,ae aj a,ae aj b,ae aj c,ae aj d,ae aj e,ae aj f,.int .i32 _,.int .i32 h,.bool o]=>some (.agg #[.int .i32 lo,.int .i32 hi,ae aj a,ae aj b,ae aj c,ae aj d,ae aj e,ae aj f,.int .i32 m,.int .i32 h,.bool o])
   |_=>none
  |_=>none
 else if f=297 then
  match xs.toList with
  |[.agg cs,.int .i32 m,.bool o']=>match cs.toList with
   |[.int .i32 lo,.int .i32 hi,ae aj a,ae aj b,ae aj c,ae aj d,ae aj e,ae aj f,.int .i32 _,.int .i32 _,.bool _]=>some (.agg #[.int .i32 lo,.int .i32 hi,ae aj a,ae aj b,ae aj c,ae aj d,ae aj e,ae aj f,.int .i32 m,.int .i32 m,.bool o'])
   |_=>none
  |_=>none
 else none
theorem vo:jv prog Ou:=by
 intro f xs v h;obtain⟨l⟩:=xs;unfold Ou at h;split at h
 case isTrue hf=>
  subst hf;simp only at h;split at h
  case h_1=>
   injection h with h
   subst h;exact⟨fun _ _=>by kernel_rfl,fun w=>OT _ _ _ _ _ _ _ _ w⟩
  case h_2=>cases h
 case isFalse=>
  split at h
  case isTrue hf=>
   subst hf;simp only at h;split at h
   case h_2=>cases h
   case h_1 cs m=>
    obtain⟨a⟩:=cs;simp only at h;split at h
    case h_2=>cases h
    case h_1=>
     injection h with h
     subst h;exact⟨fun _ _=>by kernel_rfl,fun w=>xm _ _ _ _ _ _ _ _ _ _ _ _ w⟩
  case isFalse=>
   split at h
   case isTrue hf=>
    subst hf;simp only at h;split at h
    case h_2=>cases h
    case h_1 cs m o'=>
     obtain⟨a⟩:=cs;simp only at h;split at h
     case h_2=>cases h
     case h_1=>
      injection h with h
      subst h;exact⟨fun _ _=>by kernel_rfl,fun w=>DF _ _ _ _ _ _ _ _ _ _ _ _ _ w⟩
   case isFalse=>cases h
def bB(x:Int×Int×Pr):List ahj:=[.int .i32 x.1,.int .i32 x.2.1,ae aj x.2.2.iU,ae aj x.2.2.bN,ae aj x.2.2.wY,ae aj x.2.2.script,ae aj x.2.2.join,ae aj x.2.2.word,.int .i32 x.2.2.fg,.int .i32 x.2.2.pair,.bool x.2.2.opens]
def nj(k:Nat):List (Int×Int×Pr):=(iF.drop (20*k)).take 20
def bI(k:Nat):Array ahj:=((nj k).flatMap bB).toArray
theorem vQ:(prog.info? 270).map (fun i=>(i.zero,i.size,i.bytes))=some (some (.agg ((List.replicate 20 (bB (0,0,⟨0,0,0,0,0,0,0,0,false⟩))).flatten.toArray)),220,1440):=by kernel_rfl
theorem qD:(prog.info? 270).map (·.size)=some 220:=by kernel_rfl
theorem dh{a:Func}{c:Code}{k:Nat}(i:prog.funcs[f]? =some a)(m:a.body=some c)(g:0<a.ntmps)(n:a.results=#[.cell 0 270])
 (o:∀p,xQ prog Ou a.ntmps 220 270 p c=some (bI k))
 (h:Nh c=true) (w:ahh):
 ahk prog f #[] w fun e l=>e=.returned (.agg (bI k))/\ahi w.heap.size w l:=by
 obtain⟨r,q,d,b,j⟩:=info_parts vQ;exact zI vo i m rfl g n q d aB b underlying270 rfl o h w
theorem Ds(w:ahh):ahk prog 260 #[] w fun e a=>e=.returned (.agg (bI 0))/\ahi w.heap.size w a:=
 dh func260 (c:=(f260.body).getD .skip) bX (of_decide_eq_true bX) bX (fun _=>bX) bX w
theorem El(w:ahh):ahk prog 261 #[] w fun e a=>e=.returned (.agg (bI 1))/\ahi w.heap.size w a:=
 dh func261 (c:=(f261.body).getD .skip) bX (of_decide_eq_true bX) bX (fun _=>bX) bX w
theorem Dc(w:ahh):ahk prog 262 #[] w fun e a=>e=.returned (.agg (bI 2))/\ahi w.heap.size w a:=
 dh func262 (c:=(f262.body).getD .skip) bX (of_decide_eq_true bX) bX (fun _=>bX) bX w
theorem Ek(w:ahh):ahk prog 263 #[] w fun e a=>e=.returned (.agg (bI 3))/\ahi w.heap.size w a:=
 dh func263 (c:=(f263.body).getD .skip) bX (of_decide_eq_true bX) bX (fun _=>bX) bX w
theorem Eg(w:ahh):ahk prog 264 #[] w fun e a=>e=.returned (.agg (bI 4))/\ahi w.heap.size w a:=
 dh func264 (c:=(f264.body).getD .skip) bX (of_decide_eq_true bX) bX (fun _=>bX) bX w
theorem Dz(w:ahh):ahk prog 265 #[] w fun e a=>e=.returned (.agg (bI 5))/\ahi w.heap.size w a:=
 dh func265 (c:=(f265.body).getD .skip) bX (of_decide_eq_true bX) bX (fun _=>bX) bX w
theorem Dn(w:ahh):ahk prog 266 #[] w fun e a=>e=.returned (.agg (bI 6))/\ahi w.heap.size w a:=
 dh func266 (c:=(f266.body).getD .skip) bX (of_decide_eq_true bX) bX (fun _=>bX) bX w
theorem Cs(w:ahh):ahk prog 267 #[] w fun e a=>e=.returned (.agg (bI 7))/\ahi w.heap.size w a:=
 dh func267 (c:=(f267.body).getD .skip) bX (of_decide_eq_true bX) bX (fun _=>bX) bX w
theorem De(w:ahh):ahk prog 268 #[] w fun e a=>e=.returned (.agg (bI 8))/\ahi w.heap.size w a:=
 dh func268 (c:=(f268.body).getD .skip) bX (of_decide_eq_true bX) bX (fun _=>bX) bX w
theorem Eu(w:ahh):ahk prog 269 #[] w fun e a=>e=.returned (.agg (bI 9))/\ahi w.heap.size w a:=
 dh func269 (c:=(f269.body).getD .skip) bX (of_decide_eq_true bX) bX (fun _=>bX) bX w
theorem zS(w:ahh):ahk prog 270 #[] w fun e a=>e=.returned (.agg (bI 10))/\ahi w.heap.size w a:=
 dh func270 (c:=(f270.body).getD .skip) bX (of_decide_eq_true bX) bX (fun _=>bX) bX w
theorem zT(w:ahh):ahk prog 271 #[] w fun e a=>e=.returned (.agg (bI 11))/\ahi w.heap.size w a:=
 dh func271 (c:=(f271.body).getD .skip) bX (of_decide_eq_true bX) bX (fun _=>bX) bX w
theorem zO(w:ahh):ahk prog 272 #[] w fun e a=>e=.returned (.agg (bI 12))/\ahi w.heap.size w a:=
 dh func272 (c:=(f272.body).getD .skip) bX (of_decide_eq_true bX) bX (fun _=>bX) bX w
end Go.Proofs.YtklncadpkniojaaGreatDoor
