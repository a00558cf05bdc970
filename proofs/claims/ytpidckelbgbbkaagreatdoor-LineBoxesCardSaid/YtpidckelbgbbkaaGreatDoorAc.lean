/- Part of LineBoxes. -/
import Derived.Test.YtpidckelbgbbkaaGreatDoorAb
import Derived.Test.YtpidckelbgbbkaaGreatDoorRows
import Derived.Lib.Hide
namespace Go.Proofs.YtpidckelbgbbkaaGreatDoor
open Go.ChangeShapes Go.WideShapes Go.ChangeAt Go.RowKit Go.Proofs.Tryz
open Go.Value renaming int → ae
open Go.IntKind renaming i64 → aj
set_option linter.all false
set_option maxRecDepth 100000
set_option maxHeartbeats 16000000
variable{f:FuncId}
theorem bX{p:Prop}(h:p:=by kernel_rfl):p:=h
def Pr.cells(p:Pr):Array Value:= #[ae aj p.iZ,ae aj p.bM,ae aj p.vj,ae aj p.gF,ae aj p.join,ae aj p.word, .int .i32 p.fw, .int .i32 p.pair, .bool p.opens]
theorem GU(a b c d e f g h:Int)(o:Bool)(w:World):
 Calls prog 217 #[ae aj a,ae aj b,ae aj c,ae aj d,ae aj e,ae aj f, .int .i32 g, .int .i32 h, .bool o] w fun i j=>
  i= .returned (.agg #[ae aj a,ae aj b,ae aj c,ae aj d,ae aj e,ae aj f, .int .i32 g, .int .i32 h, .bool o])/\Below w.heap.size w j:=by
 go_enter func217,ntmps217;go_wp2;refine bodyPost_ret (v:= .agg #[ae aj a,ae aj b,ae aj c,ae aj d,ae aj e,ae aj f, .int .i32 g, .int .i32 h, .bool o]) (by simp[results,results217,go_sem]) rfl ⟨rfl,(Below.refl _ _).alloc cr _⟩
theorem jS{B:Nat}{W a:World}(c:Below B W a):(∀b o,b<B->a.cell? ⟨b,o,none⟩=W.cell? ⟨b,o,none⟩)/\(∀b o,b<B->a.frozen? ⟨b,o,none⟩=W.frozen? ⟨b,o,none⟩):=
 ⟨fun b o h=>c.cell (p:=⟨b,o,none⟩) h,fun b o h=>c.frozen (p:=⟨b,o,none⟩) h⟩
theorem Pr.wG(p:Pr):p.cells.all (·.oneCell')=true:=by simp[Pr.cells,Value.oneCell']
theorem Aw:(prog.info? 128).map (fun i=>(i.zero,i.size,i.bytes))=some (some (.agg #[ae aj 0,ae aj 0,ae aj 0,ae aj 0,ae aj 0,ae aj 0, .int .i32 0, .int .i32 0, .bool false]),9,64):=by kernel_rfl
theorem Ba:(prog.info? 128).map (·.size)=some 9:=by kernel_rfl
theorem vR(w:World):
 Calls prog 140 #[] w fun c b=>c= .returned (.agg Pr.rest.cells)/\Below w.heap.size w b:=by
 go_enter func140,ntmps140;go_wp2_with (first
  |(go_at_call 217;refine(GU 1 0 0 0 0 0 0 0 false _).mono ?_;rintro e b ⟨rfl,a⟩)
  |(refine wpList_store_row rfl 128 (.tmp 0) (.tmp 1) rfl w.heap.size Pr.rest.cells rfl rfl 128 _ ((a.block _ aD).trans (heap_alloc_new w _)) Ba aK (Pr.wG _) ?_))
 refine bodyPost_ret (v:= .agg Pr.rest.cells) (results_cell_row results140 _ _ w.heap.size 128 _ (0,0) _ rfl (setRow_heap _ _ _ _ _ _ ((a.block _ aD).trans (heap_alloc_new w _))) underlying128 rfl Ba) rfl ⟨rfl, ?_⟩;exact below_setRow (((Below.refl _ _).alloc cr _).trans (a.mono aD)) cr _
def Se(f:FuncId)(xs:Array Value):Option Value:=
 if f=217 then
  match xs.toList with
  |[ae aj a,ae aj b,ae aj c,ae aj d,ae aj e,ae aj f, .int .i32 g, .int .i32 h, .bool o]=>some (.agg #[ae aj a,ae aj b,ae aj c,ae aj d,ae aj e,ae aj f, .int .i32 g, .int .i32 h, .bool o])
  |_=>none
 else if f=140 then
  match xs.toList with
  |[]=>some (.agg Pr.rest.cells)
  |_=>none
 else none
theorem Cp:iU prog 217:=fun _ _=>by kernel_rfl
theorem yW:iU prog 140:=fun _ _=>by kernel_rfl
theorem pB:jo prog Se:=by
 intro f xs v h;obtain⟨l⟩:=xs;unfold Se at h;split at h
 case isTrue hf=>
  subst hf;simp only at h;split at h
  case h_1=>
   injection h with h
   subst h;exact⟨Cp,fun w=>GU _ _ _ _ _ _ _ _ _ w⟩
  case h_2=>cases h
 case isFalse=>
  split at h
  case isTrue hf=>
   subst hf;simp only at h;split at h
   case h_1=>
    injection h with h
    subst h;exact⟨yW,fun w=>vR w⟩
   case h_2=>cases h
  case isFalse=>cases h
def rowsOf(l:List (Int×Int×Pr)):List (Int×Int×Array Value):=l.map fun(lo,a,p)=>(lo,a,p.cells)
theorem jf:∀(l:List (Int×Int×Pr)) (r:Int),dC Pr.rest.cells (rowsOf l) r=(((look l r).getD Pr.rest).cells,(look l r).isSome)
 |[],r=>rfl
 |(lo,hi,p)::l,r=>by
  simp only[rowsOf,List.map_cons,dC,look];split
  ·rfl
  ·exact jf l r
theorem gG{a:Func}{c0:Code}{n:Nat}{l:List (Int×Int×Pr)}(o:prog.funcs[f]? =some a)(g:a.body=some c0)(i:a.ntmps=n)(b:4<=n)
 (p:a.results= #[.cell 2 128, .tmp 3]) (k:qj 128 c0=true) (j:chain Se n 9 128 (xr c0)=some (rowsOf l,Pr.rest.cells)) (r:Int) (w:World):
 Calls prog f #[.int .i32 r] w fun e m=>e= .returned (.tuple #[.agg ((look l r).getD Pr.rest).cells, .bool (look l r).isSome])/\Below w.heap.size w m:=by
 obtain⟨s,q,c,d,h⟩:=info_parts Aw;have:=yP pB o g i b p q c rfl d underlying128 rfl k j (fun r=>by rw[jf];rfl) r w;rw[jf]at this;exact this
theorem Tl(r:Int)(w:World):Calls prog 202 #[.int .i32 r] w fun e a=>e= .returned (.tuple #[.agg ((look Te r).getD Pr.rest).cells, .bool (look Te r).isSome])/\Below w.heap.size w a:=
 gG func202 (c0:=(f202.body).getD .skip) (n:=f202.ntmps) bX rfl (of_decide_eq_true bX) bX bX bX r w
theorem Ux(r:Int)(w:World):Calls prog 203 #[.int .i32 r] w fun e a=>e= .returned (.tuple #[.agg ((look UW r).getD Pr.rest).cells, .bool (look UW r).isSome])/\Below w.heap.size w a:=
 gG func203 (c0:=(f203.body).getD .skip) (n:=f203.ntmps) bX rfl (of_decide_eq_true bX) bX bX bX r w
theorem Rf(r:Int)(w:World):Calls prog 204 #[.int .i32 r] w fun e a=>e= .returned (.tuple #[.agg ((look Vd r).getD Pr.rest).cells, .bool (look Vd r).isSome])/\Below w.heap.size w a:=
 gG func204 (c0:=(f204.body).getD .skip) (n:=f204.ntmps) bX rfl (of_decide_eq_true bX) bX bX bX r w
theorem UT(r:Int)(w:World):Calls prog 205 #[.int .i32 r] w fun e a=>e= .returned (.tuple #[.agg ((look Vf r).getD Pr.rest).cells, .bool (look Vf r).isSome])/\Below w.heap.size w a:=
 gG func205 (c0:=(f205.body).getD .skip) (n:=f205.ntmps) bX rfl (of_decide_eq_true bX) bX bX bX r w
theorem UE(r:Int)(w:World):Calls prog 206 #[.int .i32 r] w fun e a=>e= .returned (.tuple #[.agg ((look Tz r).getD Pr.rest).cells, .bool (look Tz r).isSome])/\Below w.heap.size w a:=
 gG func206 (c0:=(f206.body).getD .skip) (n:=f206.ntmps) bX rfl (of_decide_eq_true bX) bX bX bX r w
theorem QV(r:Int)(w:World):Calls prog 207 #[.int .i32 r] w fun e a=>e= .returned (.tuple #[.agg ((look Ur r).getD Pr.rest).cells, .bool (look Ur r).isSome])/\Below w.heap.size w a:=
 gG func207 (c0:=(f207.body).getD .skip) (n:=f207.ntmps) bX rfl (of_decide_eq_true bX) bX bX bX r w
theorem US(r:Int)(w:World):Calls prog 208 #[.int .i32 r] w fun e a=>e= .returned (.tuple #[.agg ((look Ts r).getD Pr.rest).cells, .bool (look Ts r).isSome])/\Below w.heap.size w a:=
 gG func208 (c0:=(f208.body).getD .skip) (n:=f208.ntmps) bX rfl (of_decide_eq_true bX) bX bX bX r w
theorem Vq(r:Int)(w:World):Calls prog 209 #[.int .i32 r] w fun e a=>e= .returned (.tuple #[.agg ((look Tt r).getD Pr.rest).cells, .bool (look Tt r).isSome])/\Below w.heap.size w a:=
 gG func209 (c0:=(f209.body).getD .skip) (n:=f209.ntmps) bX rfl (of_decide_eq_true bX) bX bX bX r w
theorem Tc(r:Int)(w:World):Calls prog 210 #[.int .i32 r] w fun e a=>e= .returned (.tuple #[.agg ((look Ru r).getD Pr.rest).cells, .bool (look Ru r).isSome])/\Below w.heap.size w a:=
 gG func210 (c0:=(f210.body).getD .skip) (n:=f210.ntmps) bX rfl (of_decide_eq_true bX) bX bX bX r w
theorem U3(r:Int)(w:World):Calls prog 211 #[.int .i32 r] w fun e a=>e= .returned (.tuple #[.agg ((look T8 r).getD Pr.rest).cells, .bool (look T8 r).isSome])/\Below w.heap.size w a:=
 gG func211 (c0:=(f211.body).getD .skip) (n:=f211.ntmps) bX rfl (of_decide_eq_true bX) bX bX bX r w
theorem KD(r:Int)(w:World):Calls prog 212 #[.int .i32 r] w fun e a=>e= .returned (.tuple #[.agg ((look Gk r).getD Pr.rest).cells, .bool (look Gk r).isSome])/\Below w.heap.size w a:=
 gG func212 (c0:=(f212.body).getD .skip) (n:=f212.ntmps) bX rfl (of_decide_eq_true bX) bX bX bX r w
theorem Ky(r:Int)(w:World):Calls prog 213 #[.int .i32 r] w fun e a=>e= .returned (.tuple #[.agg ((look GX r).getD Pr.rest).cells, .bool (look GX r).isSome])/\Below w.heap.size w a:=
 gG func213 (c0:=(f213.body).getD .skip) (n:=f213.ntmps) bX rfl (of_decide_eq_true bX) bX bX bX r w
theorem Oe(r:Int)(w:World):Calls prog 214 #[.int .i32 r] w fun e a=>e= .returned (.tuple #[.agg ((look GR r).getD Pr.rest).cells, .bool (look GR r).isSome])/\Below w.heap.size w a:=
 gG func214 (c0:=(f214.body).getD .skip) (n:=f214.ntmps) bX rfl (of_decide_eq_true bX) bX bX bX r w
theorem Ll(r:Int)(w:World):Calls prog 215 #[.int .i32 r] w fun e a=>e= .returned (.tuple #[.agg ((look FR r).getD Pr.rest).cells, .bool (look FR r).isSome])/\Below w.heap.size w a:=
 gG func215 (c0:=(f215.body).getD .skip) (n:=f215.ntmps) bX rfl (of_decide_eq_true bX) bX bX bX r w
theorem KN(r:Int)(w:World):Calls prog 216 #[.int .i32 r] w fun e a=>e= .returned (.tuple #[.agg ((look F' r).getD Pr.rest).cells, .bool (look F' r).isSome])/\Below w.heap.size w a:=
 gG func216 (c0:=(f216.body).getD .skip) (n:=f216.ntmps) bX rfl (of_decide_eq_true bX) bX bX bX r w
def ig(f:FuncId):List (Int×Int×Pr):=
 if f=202 then Te
 else if f=203 then UW
 else if f=204 then Vd
 else if f=205 then Vf
 else if f=206 then Tz
 else if f=207 then Ur
 else if f=208 then Ts
 else if f=209 then Tt
 else if f=210 then Ru
 else if f=211 then T8
 else if f=212 then Gk
 else if f=213 then GX
 else if f=214 then GR
 else if f=215 then FR
 else if f=216 then F'
 else[]
def Am(f:FuncId)(r:Int):Array Value×Bool:=(((look (ig f) r).getD Pr.rest).cells,(look (ig f) r).isSome)
theorem pE:∀(a:List FuncId) (r:Int),dW Pr.rest.cells Am a r=(((look (a.flatMap ig) r).getD Pr.rest).cells,(look (a.flatMap ig) r).isSome)
 |[],r=>rfl
 |f::a,r=>by
  have ih:=pE a r;have b:(Am f r).2=(look (ig f) r).isSome:=rfl;have e:(Am f r).1=((look (ig f) r).getD Pr.rest).cells:=rfl;rw[dW,List.flatMap_cons,iT];by_cases hs:(Am f r).2=true
  ·rw[if_pos hs,e]
   rw[b]at hs;obtain⟨p,d⟩:=Option.isSome_iff_exists.1 hs;simp[d]
  ·rw[if_neg hs,ih]
   rw[b]at hs;have c:look (ig f) r=none:=oM;simp[c]
theorem QS(r:Int)(f:FuncId):(Am f r).1.size=9/\(Am f r).1.all (·.oneCell')=true:=⟨rfl,Pr.wG _⟩
theorem Ap{a:Func}{b:List FuncId}(n:prog.funcs[f]? =some a){c0:Code}(j:a.body=some c0)(g:4<=a.ntmps)(o:a.results= #[.cell 2 128, .tmp 3])
 (m:qj 128 c0=true) (l:qC Se a.ntmps 9 128 (xr c0)=some (b,Pr.rest.cells)) (r:Int)
 (d:∀f∈b,iU prog f/\∀w,Calls prog f #[.int .i32 r] w fun e c=>e= .returned (.tuple #[.agg (Am f r).1, .bool (Am f r).2])/\Below w.heap.size w c) (w:World):
 Calls prog f #[.int .i32 r] w fun e c=>e= .returned (.tuple #[.agg ((look (b.flatMap ig) r).getD Pr.rest).cells, .bool (look (b.flatMap ig) r).isSome])/\Below w.heap.size w c:=by
 obtain⟨q,p,h,i,k⟩:=info_parts Aw;have:=El pB n j rfl g o p h rfl i underlying128 rfl m l r (QS r) rfl d w;rw[pE]at this;exact this
def fs0:List FuncId:=[202,203,204,205,206,207,208,209]
theorem wB(r:Int)(w:World):
 Calls prog 138 #[.int .i32 r] w fun e b=>e= .returned (.tuple #[.agg ((look (fs0.flatMap ig) r).getD Pr.rest).cells, .bool (look (fs0.flatMap ig) r).isSome])/\Below w.heap.size w b:=by
 refine Ap func138 (c0:=(f138.body).getD .skip) bX (of_decide_eq_true bX) bX bX bX r (fun f a=> ?_) w;simp only[fs0,List.mem_cons,List.not_mem_nil,or_false]at a;rcases a with rfl|rfl|rfl|rfl|rfl|rfl|rfl|rfl
 ·exact⟨fun _ _=>by kernel_rfl,Tl r⟩
 ·exact⟨fun _ _=>by kernel_rfl,Ux r⟩
 ·exact⟨fun _ _=>by kernel_rfl,Rf r⟩
 ·exact⟨fun _ _=>by kernel_rfl,UT r⟩
 ·exact⟨fun _ _=>by kernel_rfl,UE r⟩
 ·exact⟨fun _ _=>by kernel_rfl,QV r⟩
 ·exact⟨fun _ _=>by kernel_rfl,US r⟩
 ·exact⟨fun _ _=>by kernel_rfl,Vq r⟩
def fs1:List FuncId:=[210,211,212,213,214,215,216]
theorem wO(r:Int)(w:World):
 Calls prog 139 #[.int .i32 r] w fun e b=>e= .returned (.tuple #[.agg ((look (fs1.flatMap ig) r).getD Pr.rest).cells, .bool (look (fs1.flatMap ig) r).isSome])/\Below w.heap.size w b:=by
 refine Ap func139 (c0:=(f139.body).getD .skip) bX (of_decide_eq_true bX) bX bX bX r (fun f a=> ?_) w;simp only[fs1,List.mem_cons,List.not_mem_nil,or_false]at a;rcases a with rfl|rfl|rfl|rfl|rfl|rfl|rfl
 ·exact⟨fun _ _=>by kernel_rfl,Tc r⟩
 ·exact⟨fun _ _=>by kernel_rfl,U3 r⟩
 ·exact⟨fun _ _=>by kernel_rfl,KD r⟩
 ·exact⟨fun _ _=>by kernel_rfl,Ky r⟩
 ·exact⟨fun _ _=>by kernel_rfl,Oe r⟩
 ·exact⟨fun _ _=>by kernel_rfl,Ll r⟩
 ·exact⟨fun _ _=>by kernel_rfl,KN r⟩
theorem Oh(lo g a b c d e f:Int)(w:World):
 Calls prog 296 #[.int .i32 lo, .int .i32 g,ae aj a,ae aj b,ae aj c,ae aj d,ae aj e,ae aj f] w fun h i=>
  h= .returned (.agg #[.int .i32 lo, .int .i32 g,ae aj a,ae aj b,ae aj c,ae aj d,ae aj e,ae aj f, .int .i32 0, .int .i32 0, .bool false])/\Below w.heap.size w i:=by
 go_enter func296,ntmps296;go_wp2;refine bodyPost_ret (v:= .agg #[.int .i32 lo, .int .i32 g,ae aj a,ae aj b,ae aj c,ae aj d,ae aj e,ae aj f, .int .i32 0, .int .i32 0, .bool false]) (by simp[results,results296,go_sem]) rfl ⟨rfl,(Below.refl _ _).alloc cr _⟩
theorem yg(lo i a b c d e f g h m:Int)(o:Bool)(w:World):
 Calls prog 298 #[.agg #[.int .i32 lo, .int .i32 i,ae aj a,ae aj b,ae aj c,ae aj d,ae aj e,ae aj f, .int .i32 g, .int .i32 h, .bool o], .int .i32 m] w fun j k=>
  j= .returned (.agg #[.int .i32 lo, .int .i32 i,ae aj a,ae aj b,ae aj c,ae aj d,ae aj e,ae aj f, .int .i32 m, .int .i32 h, .bool o])/\Below w.heap.size w k:=by
 go_enter func298,ntmps298;go_wp2;refine bodyPost_ret (v:= .agg #[.int .i32 lo, .int .i32 i,ae aj a,ae aj b,ae aj c,ae aj d,ae aj e,ae aj f, .int .i32 m, .int .i32 h, .bool o]) (by simp[results,results298,go_sem]) rfl ⟨rfl, ?_⟩;exact((Below.refl _ _).alloc cr _).alloc aD _
theorem DU(lo j a b c d e f g h m:Int)(o i:Bool)(w:World):
 Calls prog 297 #[.agg #[.int .i32 lo, .int .i32 j,ae aj a,ae aj b,ae aj c,ae aj d,ae aj e,ae aj f, .int .i32 g, .int .i32 h, .bool o], .int .i32 m, .bool i] w fun k l=>
  k= .returned (.agg #[.int .i32 lo, .int .i32 j,ae aj a,ae aj b,ae aj c,ae aj d,ae aj e,ae aj f, .int .i32 m, .int .i32 m, .bool i])/\Below w.heap.size w l:=by
 go_enter func297,ntmps297;go_wp2;refine bodyPost_ret (v:= .agg #[.int .i32 lo, .int .i32 j,ae aj a,ae aj b,ae aj c,ae aj d,ae aj e,ae aj f, .int .i32 m, .int .i32 m, .bool i]) (by simp[results,results297,go_sem]) rfl ⟨rfl, ?_⟩;exact((Below.refl _ _).alloc cr _).alloc aD _
def Kz(f:FuncId)(xs:Array Value):Option Value:=
 if f=296 then
  match xs.toList with
  |[.int .i32 lo, .int .i32 hi,ae aj a,ae aj b,ae aj c,ae aj d,ae aj e,ae aj f]=>some (.agg #[.int .i32 lo, .int .i32 hi,ae aj a,ae aj b,ae aj c,ae aj d,ae aj e,ae aj f, .int .i32 0, .int .i32 0, .bool false])
  |_=>none
 else if f=298 then
  match xs.toList with
  |[.agg cs, .int .i32 m]=>match cs.toList with
   |[.int .i32 lo, .int .i32 hi,ae aj a,ae aj b,ae aj c,ae aj d,ae aj e,ae aj f, .int .i32 _, .int .i32 h, .bool o]=>some (.agg #[.int .i32 lo, .int .i32 hi,ae aj a,ae aj b,ae aj c,ae aj d,ae aj e,ae aj f, .int .i32 m, .int .i32 h, .bool o])
   |_=>none
  |_=>none
 else if f=297 then
  match xs.toList with
  |[.agg cs, .int .i32 m, .bool o']=>match cs.toList with
   |[.int .i32 lo, .int .i32 hi,ae aj a,ae aj b,ae aj c,ae aj d,ae aj e,ae aj f, .int .i32 _, .int .i32 _, .bool _]=>some (.agg #[.int .i32 lo, .int .i32 hi,ae aj a,ae aj b,ae aj c,ae aj d,ae aj e,ae aj f, .int .i32 m, .int .i32 m, .bool o'])
   |_=>none
  |_=>none
 else none
theorem vf:jo prog Kz:=by
 intro f xs v h;obtain⟨l⟩:=xs;unfold Kz at h;split at h
 case isTrue hf=>
  subst hf;simp only at h;split at h
  case h_1=>
   injection h with h
   subst h;exact⟨fun _ _=>by kernel_rfl,fun w=>Oh _ _ _ _ _ _ _ _ w⟩
  case h_2=>cases h
 case isFalse=>
  split at h
  case isTrue hf=>
   subst hf;simp only at h;split at h
   case h_2=>cases h
   case h_1 cs m=>
    obtain⟨a⟩:=cs;simp only at h;split at h
    case h_2=>cases h
    case h_1=>
     injection h with h
     subst h;exact⟨fun _ _=>by kernel_rfl,fun w=>yg _ _ _ _ _ _ _ _ _ _ _ _ w⟩
  case isFalse=>
   split at h
   case isTrue hf=>
    subst hf;simp only at h;split at h
    case h_2=>cases h
    case h_1 cs m o'=>
     obtain⟨a⟩:=cs;simp only at h;split at h
     case h_2=>cases h
     case h_1=>
      injection h with h
      subst h;exact⟨fun _ _=>by kernel_rfl,fun w=>DU _ _ _ _ _ _ _ _ _ _ _ _ _ w⟩
   case isFalse=>cases h
def bC(x:Int×Int×Pr):List Value:=[.int .i32 x.1, .int .i32 x.2.1,ae aj x.2.2.iZ,ae aj x.2.2.bM,ae aj x.2.2.vj,ae aj x.2.2.gF,ae aj x.2.2.join,ae aj x.2.2.word, .int .i32 x.2.2.fw, .int .i32 x.2.2.pair, .bool x.2.2.opens]
def nu(k:Nat):List (Int×Int×Pr):=(gQ.drop (20*k)).take 20
def bG(k:Nat):Array Value:=((nu k).flatMap bC).toArray
theorem vX:(prog.info? 260).map (fun i=>(i.zero,i.size,i.bytes))=some (some (.agg ((List.replicate 20 (bC (0,0,⟨0,0,0,0,0,0,0,0,false⟩))).flatten.toArray)),220,1440):=by kernel_rfl
theorem qk:(prog.info? 260).map (·.size)=some 220:=by kernel_rfl
theorem dk{a:Func}{c:Code}{k:Nat}(n:prog.funcs[f]? =some a)(i:a.body=some c)(d:0<a.ntmps)(o:a.results= #[.cell 0 260])
 (l:∀q,xv prog Kz a.ntmps 220 260 q c=some (bG k))
 (b:Md c=true) (w:World):
 Calls prog f #[] w fun e m=>e= .returned (.agg (bG k))/\Below w.heap.size w m:=by
 obtain⟨r,p,g,h,j⟩:=info_parts vX;exact zP vf n i rfl d o p g aK h underlying260 rfl l b w
theorem DP(w:World):Calls prog 257 #[] w fun e a=>e= .returned (.agg (bG 0))/\Below w.heap.size w a:=
 dk func257 (c:=(f257.body).getD .skip) bX (of_decide_eq_true bX) bX (fun _=>bX) bX w
theorem Ep(w:World):Calls prog 258 #[] w fun e a=>e= .returned (.agg (bG 1))/\Below w.heap.size w a:=
 dk func258 (c:=(f258.body).getD .skip) bX (of_decide_eq_true bX) bX (fun _=>bX) bX w
theorem Di(w:World):Calls prog 259 #[] w fun e a=>e= .returned (.agg (bG 2))/\Below w.heap.size w a:=
 dk func259 (c:=(f259.body).getD .skip) bX (of_decide_eq_true bX) bX (fun _=>bX) bX w
theorem Cq(w:World):Calls prog 260 #[] w fun e a=>e= .returned (.agg (bG 3))/\Below w.heap.size w a:=
 dk func260 (c:=(f260.body).getD .skip) bX (of_decide_eq_true bX) bX (fun _=>bX) bX w
theorem Dz(w:World):Calls prog 261 #[] w fun e a=>e= .returned (.agg (bG 4))/\Below w.heap.size w a:=
 dk func261 (c:=(f261.body).getD .skip) bX (of_decide_eq_true bX) bX (fun _=>bX) bX w
theorem Dx(w:World):Calls prog 262 #[] w fun e a=>e= .returned (.agg (bG 5))/\Below w.heap.size w a:=
 dk func262 (c:=(f262.body).getD .skip) bX (of_decide_eq_true bX) bX (fun _=>bX) bX w
theorem Cz(w:World):Calls prog 263 #[] w fun e a=>e= .returned (.agg (bG 6))/\Below w.heap.size w a:=
 dk func263 (c:=(f263.body).getD .skip) bX (of_decide_eq_true bX) bX (fun _=>bX) bX w
theorem DY(w:World):Calls prog 264 #[] w fun e a=>e= .returned (.agg (bG 7))/\Below w.heap.size w a:=
 dk func264 (c:=(f264.body).getD .skip) bX (of_decide_eq_true bX) bX (fun _=>bX) bX w
theorem D'(w:World):Calls prog 265 #[] w fun e a=>e= .returned (.agg (bG 8))/\Below w.heap.size w a:=
 dk func265 (c:=(f265.body).getD .skip) bX (of_decide_eq_true bX) bX (fun _=>bX) bX w
theorem Eg(w:World):Calls prog 266 #[] w fun e a=>e= .returned (.agg (bG 9))/\Below w.heap.size w a:=
 dk func266 (c:=(f266.body).getD .skip) bX (of_decide_eq_true bX) bX (fun _=>bX) bX w
theorem Ag(w:World):Calls prog 267 #[] w fun e a=>e= .returned (.agg (bG 10))/\Below w.heap.size w a:=
 dk func267 (c:=(f267.body).getD .skip) bX (of_decide_eq_true bX) bX (fun _=>bX) bX w
theorem Ae(w:World):Calls prog 268 #[] w fun e a=>e= .returned (.agg (bG 11))/\Below w.heap.size w a:=
 dk func268 (c:=(f268.body).getD .skip) bX (of_decide_eq_true bX) bX (fun _=>bX) bX w
theorem Al(w:World):Calls prog 269 #[] w fun e a=>e= .returned (.agg (bG 12))/\Below w.heap.size w a:=
 dk func269 (c:=(f269.body).getD .skip) bX (of_decide_eq_true bX) bX (fun _=>bX) bX w
end Go.Proofs.YtpidckelbgbbkaaGreatDoor
