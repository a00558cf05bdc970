/- Part of LineBoxes. -/
import Derived.Test.YtpidckelbgbbkaaGreatDoorAi
import Derived.Test.YtpidckelbgbbkaaGreatDoorAl
import Derived.Deep.RegionLaw
namespace Go.Proofs.YtpidckelbgbbkaaGreatDoor
open Go.ChangeShapes Go.WideShapes Go.ChangeAt Go.RowKit Go.Proofs.Tryz
open Go.Value renaming int → ae
open Go.IntKind renaming i64 → aj
set_option linter.all false
set_option maxRecDepth 100000
set_option maxHeartbeats 16000000
variable{w:World}{B c n:Nat}{e:TypeId}{k:IntKind}{xs:aE}
theorem YT:aS prog 43 3 1 8:=bD underlying43 (z:=ae aj 0) aF rfl aq aq
theorem ov(c:Int)(w:World):Calls prog 225 #[ae aj c] w fun e a=>e= .returned (.bool (fP c))/\aA w a:=by
 go_enter func225,ntmps225;go_wp2
 all_goals go_ret
 all_goals refine⟨lW ?_,Below.refl _ _⟩
 all_goals try simp only[beq_iff_eq,beq_eq_false_iff_ne]at*
 all_goals simp_all[fP]
def Ee(s:List Nat):aE:=s.reverse.map Int.ofNat
theorem LR(s:List Nat):(Ee s).length=s.length:=by simp[Ee]
theorem wm(k:Nat)(s:List Nat):Ee (k::s)=Ee s++[(k:Int)]:=by simp[Ee]
theorem uu{g:Nat}(h:Own w B e k (some ⟨g,0,none⟩) n c xs){j:Nat}(hj:j<n):w.cell? ⟨g,j,none⟩=some (.int k (nth xs j)):=by
 rw[aB.cellAt h j aq];have:j<xs.length:=Hl;rw[List.getElem?_map,List.getElem?_eq_getElem this,dQ this];rfl
theorem qP{b:Nat}{A:aC}{a:aE}(h:Own w B e k A n c xs)(d:xs=a)(f:n=b):Own w B e k A b c a:=by subst d;subst f;exact h
theorem SR{o:aE}{k:Nat}(a:o.length=k)(u v:Int):(o++[u]).set k v=o++[v]:=by
 rw[List.set_append_right _ _ aq,a,Nat.sub_self];rfl
theorem iG{j d f:aC}(h:bO d j)(b:∀g,f=some ⟨g,0,none⟩->j=some ⟨g,0,none⟩∨w.heap.size<=g)(l:Own w B e k d n c xs):bO d f:=by
 intro g i m;rcases b g m with a|a
 ·exact h g i a
 ·exact aB.jy l a g i rfl
theorem oe(A:aC)(n c:Nat)(xs:aE)(w:World)(hx:bh w w.heap.size .i64 A n xs)(hn:n*8<=140737488355328):
 Calls prog 151 #[.slice A n c] w (fH w 3 .i64 n (mg xs)):=by
 have HX:=Lib.hid hx;have R:=Lib.hid hx.len;go_enter func151,ntmps151;go_wp2;go_loopw [3,4,5] (fun u v i wr=>∃(k:Nat) (A1 A2:aC) (c1 c2:Nat),k<=n/\i=ae aj k/\u= .slice A1 k c1/\v= .slice A2 (lx xs k).2.length c2/\Own wr w.heap.size 3 .i64 A1 k c1 (lx xs k).1/\Own wr w.heap.size 3 .i64 A2 (lx xs k).2.length c2 (Ee (lx xs k).2)/\bO A2 A1/\aA w wr) (fun _ _ i _=>n-(intOf i).toNat)
 case atStart=>exact⟨0,none,none,0,0,Nat.zero_le _,rfl,rfl,rfl,Own.nil _ _ _ _,Own.nil _ _ _ _,ud _,Below.refl _ _⟩
 case round=>
  obtain⟨k,A1,A2,c1,c2,hk,rfl,rfl,rfl,ho,hs,ap,hb⟩:=hrel;by_cases aH:k<n
  ·obtain⟨ad,rfl,iN,oa⟩:=(HX.out.below hb).2 aq
   have D:=oa k aH;have Qq:k<=xs.length:=by rw[R.out];exact hk
   have MI:=Lib.hid (Yk xs k Qq);obtain⟨x,hxk⟩:=eY (nth xs k);have U:=Lib.hid hxk;rw[hxk]at D;have H:=Lib.hid ap;have G:=Lib.hid ho;have l:=Lib.hid hs;have o:=Lib.hid hb;have X:=Lib.hid (ov x);cases L:fP x
   ·rw[L]at X
    by_cases W:x=11
    ·subst W
     have E:=Lib.hid (WU U.out);go_wp2_with (at_builtin;refine a7 YT rfl (.tmp 13) (.tmp 14) rfl rfl (G.out.alloc _) rfl (y:=(-1:Int)) (aX _ _ _) aq (by have:=o.out.size;simp;omega) ?_;intro T I P o1 g q b;have O:aA w P:=(o.out.alloc (by have:=o.out.size;omega) _).trans g;have t:=(l.out.alloc (.cells #[ae aj (-1)] 3)).kept q H.out (aB.dN G.out);have h:=(g.cell (p:=ad.add k) yF).trans (aJ D (.cells #[ae aj (-1)] 3));have d:=iG H.out b (l.out.alloc (.cells #[ae aj (-1)] 3));have r:=Lib.hid O;have M:=Lib.hid o1;have K:=Lib.hid t;have f:=Lib.hid d;clear D o1 t d b q g);refine(X.out _).mono ?_;rintro e w2 ⟨rfl,a⟩;have N:=au h a;have z:=Lib.hid (M.out.ar a);have C:=Lib.hid (K.out.ar a);have J:=r.out.trans (a.mono r.out.size);have F:=Lib.hid J;go_wp2;go_roundw
     case rel=>
      refine⟨k+1,T,none,I,0,aq,aQ,rfl, ?_, ?_, ?_,iF _,F.out⟩
      ·rw[E.out];rfl
      ·rw[E.out];exact z.out
      ·rw[E.out];exact Own.nil _ _ _ _
     case measure=>simp[intOf];omega
    ·by_cases V:x=23
     ·subst V
      have g:((23:Int)==11)=false:=bQ;cases B:(lx xs k).2 with
      |nil=>
       have E:=Lib.hid (Bd U.out B);rw[B]at l;have d0:¬(0:Int)<((List.length ([]:List Nat):Nat):Int):=aD;simp only[List.length_nil]at l d0⊢;go_wp2_with (at_builtin;refine a7 YT rfl (.tmp 13) (.tmp 14) rfl rfl (G.out.alloc _) rfl (y:=(-1:Int)) (aX _ _ _) aq (by have:=o.out.size;simp;omega) ?_;intro T I P o1 g q b;have O:aA w P:=(o.out.alloc (by have:=o.out.size;omega) _).trans g;have t:=(l.out.alloc (.cells #[ae aj (-1)] 3)).kept q H.out (aB.dN G.out);have h:=(g.cell (p:=ad.add k) yF).trans (aJ D (.cells #[ae aj (-1)] 3));have d:=iG H.out b (l.out.alloc (.cells #[ae aj (-1)] 3));have r:=Lib.hid O;have M:=Lib.hid o1;have K:=Lib.hid t;have f:=Lib.hid d;clear D o1 t d b q g);refine(X.out _).mono ?_;rintro e w2 ⟨rfl,a⟩;have N:=au h a;have z:=Lib.hid (M.out.ar a);have C:=Lib.hid (K.out.ar a);have J:=r.out.trans (a.mono r.out.size);have F:=Lib.hid J;go_wp2;go_roundw
       case rel=>
        refine⟨k+1,T,A2,I,c2,aq,aQ,rfl, ?_, ?_, ?_,f.out,F.out⟩
        ·rw[E.out];rfl
        ·rw[E.out];exact z.out
        ·rw[E.out];exact C.out
       case measure=>simp[intOf];omega
      |cons j s=>
       have E:=Lib.hid (GV U.out B);have hj:j<k:=(MI.out.st j (by rw[B];exact List.mem_cons_self ..)).1;rw[B]at l;obtain⟨m,S⟩:=eY s.length;have Z:=Lib.hid S;simp only[List.length_cons,S]at l⊢;have aeH:=wm j s;have mk:m+1<=k:=by have Y:=MI.out.Lx;rw[B]at Y;simp only[List.length_cons,S]at Y;exact Y
       rw[aeH]at l;have d0:(0:Int)<(m:Int)+1:=aq;go_wp2_with (at_builtin;refine a7 YT rfl (.tmp 13) (.tmp 14) rfl rfl (G.out.alloc _) rfl (y:=(-1:Int)) (aX _ _ _) aq (by have:=o.out.size;simp;omega) ?_;intro T I P o1 g q b;have O:aA w P:=(o.out.alloc (by have:=o.out.size;omega) _).trans g;have t:=(l.out.alloc (.cells #[ae aj (-1)] 3)).kept q H.out (aB.dN G.out);have h:=(g.cell (p:=ad.add k) yF).trans (aJ D (.cells #[ae aj (-1)] 3));have d:=iG H.out b (l.out.alloc (.cells #[ae aj (-1)] 3));have r:=Lib.hid O;have M:=Lib.hid o1;have K:=Lib.hid t;have f:=Lib.hid d;clear D o1 t d b q g);refine(X.out _).mono ?_;rintro e w2 ⟨rfl,a⟩;have N:=au h a;have z:=Lib.hid (M.out.ar a);have C:=Lib.hid (K.out.ar a);have J:=r.out.trans (a.mono r.out.size);have F:=Lib.hid J;obtain⟨gs,rfl,afR,afD⟩:=aB.form C.out aq;obtain⟨gt,rfl,Q,afG⟩:=aB.form z.out aq;have dX:gs≠gt:=fun e=>f.out gs rfl (by rw[e])
       have oy:gt≠gs:=fun e=>dX e.symm
       have lm:(Ee s).length=m:=by rw[LR];exact Z.out
       have cj:w2.cell? ⟨gs,m,none⟩=some (ae aj j):=by
        have:=uu C.out (j:=m) aq;rwa [gz lm]at this
       obtain⟨rp,afm⟩:=UI YT C.out (m:Int) rfl;have HP:=Lib.hid afm;have ck:=uu z.out (j:=k) aq;have fk:=aB.frozenAt z.out k;have fj:=aB.frozenAt z.out j;have O4:=Lib.hid (Own.nY z.out k j);have cj2:=uu O4.out (j:=j) aq;go_wp2;go_roundw
       case rel=>
        refine⟨k+1,some ⟨gt,0,none⟩,some ⟨gs,0,none⟩,I,c2,aq,aQ,aD, ?_, ?_, ?_,f.out, ?_⟩
        ·rw[E.out];simp[Z.out]
        ·rw[E.out]
         have h7:=Own.nY O4.out j (k:Int);rw[SR MI.out.len]at h7;exact h7
        ·rw[E.out]
         have h7:=Own.mE (j:=j) (Own.mE (j:=k) HP.out f.out (ae aj j)) f.out (ae aj k);exact qP h7 rfl Z.out.symm
        ·exact(F.out.setCell (p:=⟨gt,k,none⟩) Q _).setCell (p:=⟨gt,j,none⟩) Q _
       case measure=>simp[intOf];omega
     ·have g:((x:Int)==11)=false:=by simpa using W
      have b2:((x:Int)==23)=false:=(by simpa using V);have E:=Lib.hid (zS (by rw[U.out];exact L) (by rw[U.out];exact W) (by rw[U.out];exact V));go_wp2_with (at_builtin;refine a7 YT rfl (.tmp 13) (.tmp 14) rfl rfl (G.out.alloc _) rfl (y:=(-1:Int)) (aX _ _ _) aq (by have:=o.out.size;simp;omega) ?_;intro T I P o1 g q b;have O:aA w P:=(o.out.alloc (by have:=o.out.size;omega) _).trans g;have t:=(l.out.alloc (.cells #[ae aj (-1)] 3)).kept q H.out (aB.dN G.out);have h:=(g.cell (p:=ad.add k) yF).trans (aJ D (.cells #[ae aj (-1)] 3));have d:=iG H.out b (l.out.alloc (.cells #[ae aj (-1)] 3));have r:=Lib.hid O;have M:=Lib.hid o1;have K:=Lib.hid t;have f:=Lib.hid d;clear D o1 t d b q g);refine(X.out _).mono ?_;rintro e w2 ⟨rfl,a⟩;have N:=au h a;have z:=Lib.hid (M.out.ar a);have C:=Lib.hid (K.out.ar a);have J:=r.out.trans (a.mono r.out.size);have F:=Lib.hid J;go_wp2;go_roundw
      case rel=>
       refine⟨k+1,T,A2,I,c2,aq,aQ,rfl, ?_, ?_, ?_,f.out,F.out⟩
       ·rw[E.out]
       ·rw[E.out];exact z.out
       ·rw[E.out];exact C.out
      case measure=>simp[intOf];omega
   ·rw[L]at X
    have E:=Lib.hid (zl (by rw[U.out];exact L));obtain⟨m,S⟩:=eY ((lx xs k).2.length);have Z:=Lib.hid S;have mk:m<=k:=by have Y:=MI.out.Lx;rw[S]at Y;exact Y
    rw[S]at l;simp only[S];go_wp2_with (at_builtin;refine a7 YT rfl (.tmp 13) (.tmp 14) rfl rfl (G.out.alloc _) rfl (y:=(-1:Int)) (aX _ _ _) aq (by have:=o.out.size;simp;omega) ?_;intro T I P o1 g q b;have O:aA w P:=(o.out.alloc (by have:=o.out.size;omega) _).trans g;have t:=(l.out.alloc (.cells #[ae aj (-1)] 3)).kept q H.out (aB.dN G.out);have h:=(g.cell (p:=ad.add k) yF).trans (aJ D (.cells #[ae aj (-1)] 3));have d:=iG H.out b (l.out.alloc (.cells #[ae aj (-1)] 3));have r:=Lib.hid O;have M:=Lib.hid o1;have K:=Lib.hid t;have f:=Lib.hid d;clear D o1 t d b q g);refine(X.out _).mono ?_;rintro e w2 ⟨rfl,a⟩;have N:=au h a;have z:=Lib.hid (M.out.ar a);have C:=Lib.hid (K.out.ar a);have J:=r.out.trans (a.mono r.out.size);have F:=Lib.hid J;go_wp2_with (at_builtin;refine a7 YT rfl (.tmp 24) (.tmp 26) rfl rfl (C.out.alloc _) rfl (y:=(k:Int)) (aX _ _ _) aq (by have:=F.out.size;simp;omega) ?_;intro A4 c4 w3 o3 b3 g3 at3;have o4:=(z.out.alloc (.cells #[ae aj (k:Int)] 3)).kept g3 f.out.symm (aB.dN C.out);have y3:aA w w3:=(F.out.alloc (by have:=F.out.size;omega) _).trans b3;have ap3:=iG f.out.symm at3 (z.out.alloc (.cells #[ae aj (k:Int)] 3)));go_roundw
    case rel=>
     refine⟨k+1,T,A4,I,c4,aq,aQ,rfl, ?_, ?_, ?_,ap3.symm,y3⟩
     ·rw[E.out];simp[Z.out]
     ·rw[E.out];exact o4
     ·rw[E.out];exact qP o3 (wm _ _).symm (by simp[Z.out])
    case measure=>simp[intOf];omega
  ·obtain rfl:k=n:=by omega
   go_wp2;go_ret;refine⟨_,_,rfl, ?_,hb⟩;refine qP ho ?_ rfl;unfold mg;rw[R.out]
end Go.Proofs.YtpidckelbgbbkaaGreatDoor
