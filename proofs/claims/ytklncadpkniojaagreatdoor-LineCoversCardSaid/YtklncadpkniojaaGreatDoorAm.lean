/- Part of LineCovers. -/
import Derived.Test.YtklncadpkniojaaGreatDoorAd
import Derived.Test.YtklncadpkniojaaGreatDoorAl
namespace Go.Proofs.YtklncadpkniojaaGreatDoor
open Go.ChangeShapes Go.WideShapes Go.ChangeAt Go.RowKit Go.Proofs.Tryz
open Go renaming World->ahh,Calls->ahk
open Go.Value renaming int->ae
open Go.IntKind renaming i64->aj
set_option linter.all false
set_option maxRecDepth 100000
set_option maxHeartbeats 16000000
theorem lP(r:Int)(b: -2147483648<=r)(a:r<=2147483647)(w:ahh)(c:Laid w):
 ahk prog 79 #[.int .i32 r] w fun e d=>e=.returned (.agg #[ae aj (a7 r).iU,ae aj (a7 r).bN,ae aj (a7 r).wY,ae aj (a7 r).script,ae aj (a7 r).join,ae aj (a7 r).word,.int .i32 (a7 r).fg,.int .i32 (a7 r).pair,.bool (a7 r).opens])/\az w d:=
 Uv r b a w c
theorem fD(r:Int)(b: -2147483648<=r)(a:r<=2147483647)(w:ahh):
 ahk prog 35 #[.int .i32 r] w fun e c=>e=.returned (.agg #[ae aj (a7 r).iU,ae aj (a7 r).bN,ae aj (a7 r).wY,ae aj (a7 r).script,ae aj (a7 r).join,ae aj (a7 r).word,.int .i32 (a7 r).fg,.int .i32 (a7 r).pair,.bool (a7 r).opens])/\az w c:=
 Wq r b a w
theorem Wl(r:Int):(a7 r).iU<=23:=by
 have h:iF.all (fun x=>decide (x.2.2.iU<=23))=true:=yE;cases a:look iF r with
 |none=>rw[mC a];decide
 |some p=>
  obtain⟨lo,c,b,_,_⟩:=pq _ _ _ a;have:=of_decide_eq_true (List.all_eq_true.1 h _ b);rw[mB a];split<;>exact this
@[go_sem] theorem ab7(a b c d e f g h : Int)(o : Bool)(w : ahh) : (Instr.field 87 (.agg #[ae aj a,ae aj b,ae aj c,ae aj d,ae aj e,ae aj f, .int .i32 g, .int .i32 h, .bool o]) 0).run prog w = .ok (ae aj a) w := by kernel_rfl
@[go_sem] theorem Yc(a b c d e f g h : Int)(o : Bool)(w : ahh) : (Instr.field 87 (.agg #[ae aj a,ae aj b,ae aj c,ae aj d,ae aj e,ae aj f, .int .i32 g, .int .i32 h, .bool o]) 1).run prog w = .ok (ae aj b) w := by kernel_rfl
@[go_sem] theorem ae4(a b c d e f g h : Int)(o : Bool)(w : ahh) : (Instr.field 87 (.agg #[ae aj a,ae aj b,ae aj c,ae aj d,ae aj e,ae aj f, .int .i32 g, .int .i32 h, .bool o]) 2).run prog w = .ok (ae aj c) w := by kernel_rfl
@[go_sem] theorem aah(a b c d e f g h : Int)(o : Bool)(w : ahh) : (Instr.field 87 (.agg #[ae aj a,ae aj b,ae aj c,ae aj d,ae aj e,ae aj f, .int .i32 g, .int .i32 h, .bool o]) 3).run prog w = .ok (ae aj d) w := by kernel_rfl
@[go_sem] theorem acE(a b c d e f g h : Int)(o : Bool)(w : ahh) : (Instr.field 87 (.agg #[ae aj a,ae aj b,ae aj c,ae aj d,ae aj e,ae aj f, .int .i32 g, .int .i32 h, .bool o]) 4).run prog w = .ok (ae aj e) w := by kernel_rfl
@[go_sem] theorem adQ(a b c d e f g h : Int)(o : Bool)(w : ahh) : (Instr.field 87 (.agg #[ae aj a,ae aj b,ae aj c,ae aj d,ae aj e,ae aj f, .int .i32 g, .int .i32 h, .bool o]) 5).run prog w = .ok (ae aj f) w := by kernel_rfl
@[go_sem] theorem aa3(a b c d e f g h : Int)(o : Bool)(w : ahh) : (Instr.field 87 (.agg #[ae aj a,ae aj b,ae aj c,ae aj d,ae aj e,ae aj f, .int .i32 g, .int .i32 h, .bool o]) 6).run prog w = .ok (.int .i32 g) w := by kernel_rfl
@[go_sem] theorem ad0(a b c d e f g h : Int)(o : Bool)(w : ahh) : (Instr.field 87 (.agg #[ae aj a,ae aj b,ae aj c,ae aj d,ae aj e,ae aj f, .int .i32 g, .int .i32 h, .bool o]) 7).run prog w = .ok (.int .i32 h) w := by kernel_rfl
@[go_sem] theorem abW(a b c d e f g h : Int)(o : Bool)(w : ahh) : (Instr.field 87 (.agg #[ae aj a,ae aj b,ae aj c,ae aj d,ae aj e,ae aj f, .int .i32 g, .int .i32 h, .bool o]) 8).run prog w = .ok (.bool o) w := by kernel_rfl
theorem Laid.ar{w a:ahh}(h:Laid w)(b:az w a):Laid a:=h.below b h.1
theorem aM.ar{k:IntKind}{w a:ahh}{A:aA}{n c:Nat}{xs:aC}(h:aM k w A n c xs)(b:az w a):aM k a A n c xs:=
 ⟨h.at_.Z b,h.le,h.cap,h.wf⟩
def uC(p:Pr):Bool:= !(p.bN==1||p.bN==2||p.bN==3||p.bN==5)&&(p.iU !=10&&decide (p.iU<15))
def nU(r:Int):Bool:=uC (a7 r)
theorem DL(r:Int)(c: -2147483648<=r)(b:r<=2147483647)(w:ahh)(d:Laid w):
 ahk prog 259 #[.int .i32 r] w fun e g=>e=.returned (.bool (nU r))/\az w g:=by
 have O:=Lib.hid (lP r c b w d);have h:=Wl r;have f:nU r=uC (a7 r):=rfl;rw[f];generalize a7 r=p at*;go_enter func259,ntmps259;go_wp2_with (go_at_call 79;refine O.out.mono ?_;rintro e i ⟨rfl,a⟩)
 all_goals go_ret
 all_goals refine⟨mr ?_,a.alloc a.size _⟩
 all_goals clear O a
 all_goals rw[Bool.eq_iff_iff]
 all_goals simp only[beq_iff_eq,beq_eq_false_iff_ne]at*
 all_goals simp[uC]
 all_goals omega
theorem uE(r:Int)(c: -2147483648<=r)(b:r<=2147483647)(w:ahh):
 ahk prog 211 #[.int .i32 r] w fun e f=>e=.returned (.bool (nU r))/\az w f:=by
 have O:=Lib.hid (fD r c b w);have d:nU r=uC (a7 r):=rfl;rw[d];generalize a7 r=p at*;go_enter func211,ntmps211;go_wp2_with (go_at_call 35;refine O.out.mono ?_;rintro e g ⟨rfl,a⟩)
 all_goals go_ret
 all_goals refine⟨mr ?_,a.alloc a.size _⟩
 all_goals clear O a
 all_goals rw[Bool.eq_iff_iff]
 all_goals simp only[beq_iff_eq,beq_eq_false_iff_ne]at*
 all_goals simp[uC]
 all_goals omega
def ub(r:Int):Int:=(a7 r).iU
theorem TI:aR prog 39 3 1 8:=bu underlying39 (z:=ae aj 0) aF rfl ak ak
theorem vB(A:aA)(n c:Nat)(xs:aC)(w:ahh)(s:aM .i32 w A n c xs)(G:n*8<=140737488355328):
 ahk prog 22 #[.slice A n c] w (lN w 3 .i64 n (xs.map ub)):=by
 have q:=Lib.hid s;have hlen:=s.at_.len;have b:=Lib.hid hlen;go_enter func22,ntmps22;go_wp2;go_loopw [3,4] (fun v i wr=>∃(k:Nat) (l:aA) (c':Nat),k<=n/\i=ae aj k/\v=.slice l k c'/\Own wr w.heap.size 3 .i64 l k c' ((xs.take k).map ub)/\az w wr) (fun _ i _=>n-(intOf i).toNat)
 case atStart=>exact⟨0,none,0,Nat.zero_le _,rfl,rfl,Own.nil _ _ _ _,Below.refl _ _⟩
 case round=>
  obtain⟨k,l,c',H,rfl,rfl,a,j⟩:=hrel;by_cases h:k<n
  .obtain⟨z,u⟩:=bounds_i32 (q.out.dt h)
   obtain⟨F,rfl,t,r⟩:=(q.out.at_.below j).2 ak;have r:=r k h;have O:=Lib.hid (fD (nth xs k) z u wr);have m:=j.size;go_wp2_with (first
    |(go_at_call 35;refine O.out.mono ?_;rintro e E ⟨rfl,g⟩;have d:=a.ar g;have D:=g.size)
    |(at_builtin;refine kA TI rfl (.tmp 11) (.tmp 18) rfl rfl (d.alloc _) rfl (y:=ub (nth xs k)) (bh _ _ _) ak cw ?_;intro x C B f p))
   have o:az w B:=((j.trans (g.mono m)).alloc ak _).trans p;go_roundw
   case rel=>exact⟨k+1,x,C,ak,nS,rfl,by rw[vk _ (by rw[b.out];exact h)];exact f,o⟩
   case measure=>simp[intOf];omega
  .obtain rfl:k=n:=by omega
   go_wp2;go_ret;rw[List.take_of_length_le (by rw[b.out];exact Nat.le_refl _)]at a;exact⟨l,c',rfl,a,j⟩
end Go.Proofs.YtklncadpkniojaaGreatDoor
