/- Part of LineBoxes. -/
import Derived.Test.YtpidckelbgbbkaaGreatDoorAd
import Derived.Test.YtpidckelbgbbkaaGreatDoorAk
namespace Go.Proofs.YtpidckelbgbbkaaGreatDoor
open Go.ChangeShapes Go.WideShapes Go.ChangeAt Go.RowKit Go.Proofs.Tryz
open Go.Value renaming int → ae
open Go.IntKind renaming i64 → aj
set_option linter.all false
set_option maxRecDepth 100000
set_option maxHeartbeats 16000000
theorem xI(r:Int)(a: -2147483648<=r)(b:r<=2147483647)(w:World)(c:Laid w):
 Calls prog 75 #[.int .i32 r] w fun e d=>e= .returned (.agg #[ae aj (aZ r).iZ,ae aj (aZ r).bM,ae aj (aZ r).vj,ae aj (aZ r).gF,ae aj (aZ r).join,ae aj (aZ r).word, .int .i32 (aZ r).fw, .int .i32 (aZ r).pair, .bool (aZ r).opens])/\aA w d:=
 QR r a b w c
theorem eZ(r:Int)(a: -2147483648<=r)(b:r<=2147483647)(w:World):
 Calls prog 76 #[.int .i32 r] w fun e c=>e= .returned (.agg #[ae aj (aZ r).iZ,ae aj (aZ r).bM,ae aj (aZ r).vj,ae aj (aZ r).gF,ae aj (aZ r).join,ae aj (aZ r).word, .int .i32 (aZ r).fw, .int .i32 (aZ r).pair, .bool (aZ r).opens])/\aA w c:=
 Vk r a b w
theorem Vb(r:Int):(aZ r).iZ<=23:=by
 have h:gQ.all (fun x=>decide (x.2.2.iZ<=23))=true:=yC;cases a:look gQ r with
 |none=>rw[mK a];decide
 |some p=>
  obtain⟨lo,c,b,_,_⟩:=pG _ _ _ a;have:=of_decide_eq_true (List.all_eq_true.1 h _ b);rw[mA a];split<;>exact this
@[go_sem] theorem abz(a b c d e f g h : Int)(o : Bool)(w : World) : (Instr.field 128 (.agg #[ae aj a,ae aj b,ae aj c,ae aj d,ae aj e,ae aj f, .int .i32 g, .int .i32 h, .bool o]) 0).run prog w = .ok (ae aj a) w := by kernel_rfl
@[go_sem] theorem Ww(a b c d e f g h : Int)(o : Bool)(w : World) : (Instr.field 128 (.agg #[ae aj a,ae aj b,ae aj c,ae aj d,ae aj e,ae aj f, .int .i32 g, .int .i32 h, .bool o]) 1).run prog w = .ok (ae aj b) w := by kernel_rfl
@[go_sem] theorem adW(a b c d e f g h : Int)(o : Bool)(w : World) : (Instr.field 128 (.agg #[ae aj a,ae aj b,ae aj c,ae aj d,ae aj e,ae aj f, .int .i32 g, .int .i32 h, .bool o]) 2).run prog w = .ok (ae aj c) w := by kernel_rfl
@[go_sem] theorem YG(a b c d e f g h : Int)(o : Bool)(w : World) : (Instr.field 128 (.agg #[ae aj a,ae aj b,ae aj c,ae aj d,ae aj e,ae aj f, .int .i32 g, .int .i32 h, .bool o]) 3).run prog w = .ok (ae aj d) w := by kernel_rfl
@[go_sem] theorem abp(a b c d e f g h : Int)(o : Bool)(w : World) : (Instr.field 128 (.agg #[ae aj a,ae aj b,ae aj c,ae aj d,ae aj e,ae aj f, .int .i32 g, .int .i32 h, .bool o]) 4).run prog w = .ok (ae aj e) w := by kernel_rfl
@[go_sem] theorem abP(a b c d e f g h : Int)(o : Bool)(w : World) : (Instr.field 128 (.agg #[ae aj a,ae aj b,ae aj c,ae aj d,ae aj e,ae aj f, .int .i32 g, .int .i32 h, .bool o]) 5).run prog w = .ok (ae aj f) w := by kernel_rfl
@[go_sem] theorem Yb(a b c d e f g h : Int)(o : Bool)(w : World) : (Instr.field 128 (.agg #[ae aj a,ae aj b,ae aj c,ae aj d,ae aj e,ae aj f, .int .i32 g, .int .i32 h, .bool o]) 6).run prog w = .ok (.int .i32 g) w := by kernel_rfl
@[go_sem] theorem abL(a b c d e f g h : Int)(o : Bool)(w : World) : (Instr.field 128 (.agg #[ae aj a,ae aj b,ae aj c,ae aj d,ae aj e,ae aj f, .int .i32 g, .int .i32 h, .bool o]) 7).run prog w = .ok (.int .i32 h) w := by kernel_rfl
@[go_sem] theorem aaV(a b c d e f g h : Int)(o : Bool)(w : World) : (Instr.field 128 (.agg #[ae aj a,ae aj b,ae aj c,ae aj d,ae aj e,ae aj f, .int .i32 g, .int .i32 h, .bool o]) 8).run prog w = .ok (.bool o) w := by kernel_rfl
theorem Laid.ar{w a:World}(h:Laid w)(b:aA w a):Laid a:=h.below b h.1
theorem aL.ar{k:IntKind}{w a:World}{A:aC}{n c:Nat}{xs:aE}(h:aL k w A n c xs)(b:aA w a):aL k a A n c xs:=
 ⟨h.at_.Z b,h.le,h.cap,h.wf⟩
def tY(p:Pr):Bool:= !(p.bM==1||p.bM==2||p.bM==3||p.bM==5)&&(p.iZ !=10&&decide (p.iZ<15))
def kY(r:Int):Bool:=tY (aZ r)
theorem DB(r:Int)(b: -2147483648<=r)(c:r<=2147483647)(w:World)(f:Laid w):
 Calls prog 200 #[.int .i32 r] w fun e g=>e= .returned (.bool (kY r))/\aA w g:=by
 have O:=Lib.hid (xI r b c w f);have h:=Vb r;have d:kY r=tY (aZ r):=rfl;rw[d];generalize aZ r=p at*;go_enter func200,ntmps200;go_wp2_with (go_at_call 75;refine O.out.mono ?_;rintro e i ⟨rfl,a⟩)
 all_goals go_ret
 all_goals refine⟨lW ?_,a.alloc a.size _⟩
 all_goals clear O a
 all_goals rw[Bool.eq_iff_iff]
 all_goals simp only[beq_iff_eq,beq_eq_false_iff_ne]at*
 all_goals simp[tY]
 all_goals omega
theorem oz(r:Int)(b: -2147483648<=r)(c:r<=2147483647)(w:World):
 Calls prog 130 #[.int .i32 r] w fun e f=>e= .returned (.bool (kY r))/\aA w f:=by
 have O:=Lib.hid (eZ r b c w);have d:kY r=tY (aZ r):=rfl;rw[d];generalize aZ r=p at*;go_enter func130,ntmps130;go_wp2_with (go_at_call 76;refine O.out.mono ?_;rintro e g ⟨rfl,a⟩)
 all_goals go_ret
 all_goals refine⟨lW ?_,a.alloc a.size _⟩
 all_goals clear O a
 all_goals rw[Bool.eq_iff_iff]
 all_goals simp only[beq_iff_eq,beq_eq_false_iff_ne]at*
 all_goals simp[tY]
 all_goals omega
def tK(r:Int):Int:=(aZ r).iZ
theorem TI:aS prog 43 3 1 8:=bD underlying43 (z:=ae aj 0) aF rfl aq aq
theorem vt(A:aC)(n c:Nat)(xs:aE)(w:World)(s:aL .i32 w A n c xs)(G:n*8<=140737488355328):
 Calls prog 84 #[.slice A n c] w (fH w 3 .i64 n (xs.map tK)):=by
 have r:=Lib.hid s;have hlen:=s.at_.len;have b:=Lib.hid hlen;go_enter func84,ntmps84;go_wp2;go_loopw [3,4] (fun v i wr=>∃(k:Nat) (j:aC) (c':Nat),k<=n/\i=ae aj k/\v= .slice j k c'/\Own wr w.heap.size 3 .i64 j k c' ((xs.take k).map tK)/\aA w wr) (fun _ i _=>n-(intOf i).toNat)
 case atStart=>exact⟨0,none,0,Nat.zero_le _,rfl,rfl,Own.nil _ _ _ _,Below.refl _ _⟩
 case round=>
  obtain⟨k,j,c',F,rfl,rfl,a,l⟩:=hrel;by_cases f:k<n
  ·obtain⟨C,x⟩:=bounds_i32 (r.out.dF f)
   obtain⟨E,rfl,t,q⟩:=(r.out.at_.below l).2 aq;have q:=q k f;have O:=Lib.hid (eZ (nth xs k) C x wr);have p:=l.size;go_wp2_with (first
    |(go_at_call 76;refine O.out.mono ?_;rintro e H ⟨rfl,d⟩;have g:=a.ar d;have D:=d.size)
    |(at_builtin;refine dD TI rfl (.tmp 11) (.tmp 18) rfl rfl (g.alloc _) rfl (y:=tK (nth xs k)) (aX _ _ _) aq cA ?_;intro z B u h o))
   have m:aA w u:=((l.trans (d.mono p)).alloc aq _).trans o;go_roundw
   case rel=>exact⟨k+1,z,B,aq,aQ,rfl,by rw[nK _ (by rw[b.out];exact f)];exact h,m⟩
   case measure=>simp[intOf];omega
  ·obtain rfl:k=n:=by omega
   go_wp2;go_ret;rw[List.take_of_length_le (by rw[b.out];exact Nat.le_refl _)]at a;exact⟨j,c',rfl,a,l⟩
end Go.Proofs.YtpidckelbgbbkaaGreatDoor
