/- Part of LineCovers. -/
import Derived.Test.YtklncadpkniojaaGreatDoorAj
import Derived.Test.YtklncadpkniojaaGreatDoorAm
import Derived.Deep.RegionLaw
namespace Go.Proofs.YtklncadpkniojaaGreatDoor
open Go.ChangeShapes Go.WideShapes Go.ChangeAt Go.RowKit Go.Proofs.Tryz
open Go renaming World->ahh,Calls->ahk,TypeId->ahm
open Go.Value renaming int->ae
open Go.IntKind renaming i64->aj
set_option linter.all false
set_option maxRecDepth 100000
set_option maxHeartbeats 16000000
variable{w:ahh}{B c n:Nat}{e:ahm}{k:IntKind}{xs:aC}
theorem Z':aR prog 39 3 1 8:=bu underlying39 (z:=ae aj 0) aF rfl ak ak
theorem nX(c:Int)(w:ahh):ahk prog 128 #[ae aj c] w fun e a=>e=.returned (.bool (fY c))/\az w a:=by
 go_enter func128,ntmps128;go_wp2
 all_goals go_ret
 all_goals refine⟨mr ?_,Below.refl _ _⟩
 all_goals try simp only[beq_iff_eq,beq_eq_false_iff_ne]at*
 all_goals simp_all[fY]
def DR(s:List Nat):aC:=s.reverse.map Int.ofNat
theorem Le(s:List Nat):(DR s).length=s.length:=by simp[DR]
theorem wK(k:Nat)(s:List Nat):DR (k::s)=DR s++[(k:Int)]:=by simp[DR]
theorem uq{g:Nat}(h:Own w B e k (some ⟨g,0,none⟩) n c xs){j:Nat}(hj:j<n):w.cell? ⟨g,j,none⟩=some (.int k (nth xs j)):=by
 rw[aw.cellAt h j ak];have:j<xs.length:=Ij;rw[List.getElem?_map,List.getElem?_eq_getElem this,cB this];rfl
theorem pQ{b:Nat}{A:aA}{a:aC}(h:Own w B e k A n c xs)(f:xs=a)(d:n=b):Own w B e k A b c a:=by subst f;subst d;exact h
theorem VI{o:aC}{k:Nat}(a:o.length=k)(u v:Int):(o++[u]).set k v=o++[v]:=by
 rw[List.set_append_right _ _ ak,a,Nat.sub_self];rfl
theorem iz{j a i:aA}(h:bM a j)(b:∀g,i=some ⟨g,0,none⟩->j=some ⟨g,0,none⟩∨w.heap.size<=g)(l:Own w B e k a n c xs):bM a i:=by
 intro g f m;rcases b g m with d|d
 .exact h g f d
 .exact aw.gA l d g f rfl
theorem nZ(A:aA)(n c:Nat)(xs:aC)(w:ahh)(hx:bH w w.heap.size .i64 A n xs)(hn:n*8<=140737488355328):
 ahk prog 57 #[.slice A n c] w (lN w 3 .i64 n (mX xs)):=by
 have HX:=Lib.hid hx;have S:=Lib.hid hx.len;go_enter func57,ntmps57;go_wp2;go_loopw [3,4,5] (fun u v i wr=>∃(k:Nat) (A1 Z:aA) (c1 c2:Nat),k<=n/\i=ae aj k/\u=.slice A1 k c1/\v=.slice Z (lU xs k).2.length c2/\Own wr w.heap.size 3 .i64 A1 k c1 (lU xs k).1/\Own wr w.heap.size 3 .i64 Z (lU xs k).2.length c2 (DR (lU xs k).2)/\bM Z A1/\az w wr) (fun _ _ i _=>n-(intOf i).toNat)
 case atStart=>exact⟨0,none,none,0,0,Nat.zero_le _,rfl,rfl,rfl,Own.nil _ _ _ _,Own.nil _ _ _ _,tN _,Below.refl _ _⟩
 case round=>
  obtain⟨k,A1,Z,c1,c2,hk,rfl,rfl,rfl,ho,hs,ap,hb⟩:=hrel;by_cases aK:k<n
  .obtain⟨ad,rfl,jB,oJ⟩:=(HX.out.below hb).2 ak
   have F:=oJ k aK;have hkl:k<=xs.length:=by rw[S.out];exact hk
   have MI:=Lib.hid (Zl xs k hkl);have⟨x,hxk⟩:=eY (nth xs k);have X:=Lib.hid hxk;rw[hxk]at F;have G:=Lib.hid ap;have H:=Lib.hid ho;have l:=Lib.hid hs;have o:=Lib.hid hb;have U:=Lib.hid (nX x);cases O:fY x
   .rw[O]at U
    by_cases V:x=11
    .subst V
     have E:=Lib.hid (Ya X.out);go_wp2_with (at_builtin;refine bE Z' rfl (.tmp 13) (.tmp 14) rfl rfl (H.out.alloc _) rfl (y:=(-1:Int)) (bh _ _ _) ak (by have:=o.out.size;simp;omega) ?_;intro Q P I o1 g z d;have N:az w I:=(o.out.alloc (by have:=o.out.size;omega) _).trans g;have q:=(l.out.alloc (.cells #[ae aj (-1)] 3)).kept z G.out (aw.dK H.out);have h:=(g.cell (p:=ad.add k) Bq).trans (aI F (.cells #[ae aj (-1)] 3));have b:=iz G.out d (l.out.alloc (.cells #[ae aj (-1)] 3));have t:=Lib.hid N;have L:=Lib.hid o1;have J:=Lib.hid q;have f:=Lib.hid b;clear F o1 q b d z g);refine(U.out _).mono ?_;rintro e w2 ⟨rfl,a⟩;have K:=au h a;have r:=Lib.hid (L.out.ar a);have C:=Lib.hid (J.out.ar a);have M:=t.out.trans (a.mono t.out.size);have D:=Lib.hid M;go_wp2;go_roundw
     case rel=>
      refine⟨k+1,Q,none,P,0,ak,nS,rfl, ?_, ?_, ?_,lX _,D.out⟩
      .rw[E.out];rfl
      .rw[E.out];exact r.out
      .rw[E.out];exact Own.nil _ _ _ _
     case measure=>simp[intOf];omega
    .by_cases W:x=23
     .subst W
      have g:((23:Int)==11)=false:=cr;cases B:(lU xs k).2 with
      |nil=>
       have E:=Lib.hid (yL X.out B);rw[B]at l;have d0:¬(0:Int)<((List.length ([]:List Nat):Nat):Int):=aQ;simp only[List.length_nil]at l d0⊢;go_wp2_with (at_builtin;refine bE Z' rfl (.tmp 13) (.tmp 14) rfl rfl (H.out.alloc _) rfl (y:=(-1:Int)) (bh _ _ _) ak (by have:=o.out.size;simp;omega) ?_;intro Q P I o1 g z d;have N:az w I:=(o.out.alloc (by have:=o.out.size;omega) _).trans g;have q:=(l.out.alloc (.cells #[ae aj (-1)] 3)).kept z G.out (aw.dK H.out);have h:=(g.cell (p:=ad.add k) Bq).trans (aI F (.cells #[ae aj (-1)] 3));have b:=iz G.out d (l.out.alloc (.cells #[ae aj (-1)] 3));have t:=Lib.hid N;have L:=Lib.hid o1;have J:=Lib.hid q;have f:=Lib.hid b;clear F o1 q b d z g);refine(U.out _).mono ?_;rintro e w2 ⟨rfl,a⟩;have K:=au h a;have r:=Lib.hid (L.out.ar a);have C:=Lib.hid (J.out.ar a);have M:=t.out.trans (a.mono t.out.size);have D:=Lib.hid M;go_wp2;go_roundw
       case rel=>
        refine⟨k+1,Q,Z,P,c2,ak,nS,rfl, ?_, ?_, ?_,f.out,D.out⟩
        .rw[E.out];rfl
        .rw[E.out];exact r.out
        .rw[E.out];exact C.out
       case measure=>simp[intOf];omega
      |cons j s=>
       have E:=Lib.hid (Hr X.out B);have hj:j<k:=(MI.out.st j (by rw[B];exact List.mem_cons_self ..)).1;rw[B]at l;have⟨m,R⟩:=eY s.length;have HM:=Lib.hid R;simp only[List.length_cons,R]at l⊢;have afm:=wK j s;have mk:m+1<=k:=by have Y:=MI.out.NC;rw[B]at Y;simp only[List.length_cons,R]at Y;exact Y
       rw[afm]at l;have d0:(0:Int)<(m:Int)+1:=ak;go_wp2_with (at_builtin;refine bE Z' rfl (.tmp 13) (.tmp 14) rfl rfl (H.out.alloc _) rfl (y:=(-1:Int)) (bh _ _ _) ak (by have:=o.out.size;simp;omega) ?_;intro Q P I o1 g z d;have N:az w I:=(o.out.alloc (by have:=o.out.size;omega) _).trans g;have q:=(l.out.alloc (.cells #[ae aj (-1)] 3)).kept z G.out (aw.dK H.out);have h:=(g.cell (p:=ad.add k) Bq).trans (aI F (.cells #[ae aj (-1)] 3));have b:=iz G.out d (l.out.alloc (.cells #[ae aj (-1)] 3));have t:=Lib.hid N;have L:=Lib.hid o1;have J:=Lib.hid q;have f:=Lib.hid b;clear F o1 q b d z g);refine(U.out _).mono ?_;rintro e w2 ⟨rfl,a⟩;have K:=au h a;have r:=Lib.hid (L.out.ar a);have C:=Lib.hid (J.out.ar a);have M:=t.out.trans (a.mono t.out.size);have D:=Lib.hid M;obtain⟨gs,rfl,agU,ag7⟩:=aw.form C.out ak;obtain⟨gt,rfl,T,ag4⟩:=aw.form r.out ak;have dY:gs≠gt:=fun e=>f.out gs rfl (by rw[e])
       have oL:gt≠gs:=fun e=>dY e.symm
       have lm:(DR s).length=m:=by rw[Le];exact HM.out
       have cj:w2.cell? ⟨gs,m,none⟩=some (ae aj j):=by
        have:=uq C.out (j:=m) ak;rwa [il lm]at this
       obtain⟨rp,af9⟩:=VW Z' C.out (m:Int) rfl;have HP:=Lib.hid af9;have ck:=uq r.out (j:=k) ak;have fk:=aw.frozenAt r.out k;have fj:=aw.frozenAt r.out j;have O4:=Lib.hid (Own.uw r.out k j);have cj2:=uq O4.out (j:=j) ak;go_wp2;go_roundw
       case rel=>
        refine⟨k+1,some ⟨gt,0,none⟩,some ⟨gs,0,none⟩,P,c2,ak,nS,aQ, ?_, ?_, ?_,f.out, ?_⟩
        .rw[E.out];simp[HM.out]
        .rw[E.out]
         have h7:=Own.uw O4.out j (k:Int);rw[VI MI.out.len]at h7;exact h7
        .rw[E.out]
         have h7:=Own.mu (j:=j) (Own.mu (j:=k) HP.out f.out (ae aj j)) f.out (ae aj k);exact pQ h7 rfl HM.out.symm
        .exact(D.out.setCell (p:=⟨gt,k,none⟩) T _).setCell (p:=⟨gt,j,none⟩) T _
       case measure=>simp[intOf];omega
     .have g:((x:Int)==11)=false:=by simpa using V
      have b2:((x:Int)==23)=false:=(by simpa using W);have E:=Lib.hid (yN (by rw[X.out];exact O) (by rw[X.out];exact V) (by rw[X.out];exact W));go_wp2_with (at_builtin;refine bE Z' rfl (.tmp 13) (.tmp 14) rfl rfl (H.out.alloc _) rfl (y:=(-1:Int)) (bh _ _ _) ak (by have:=o.out.size;simp;omega) ?_;intro Q P I o1 g z d;have N:az w I:=(o.out.alloc (by have:=o.out.size;omega) _).trans g;have q:=(l.out.alloc (.cells #[ae aj (-1)] 3)).kept z G.out (aw.dK H.out);have h:=(g.cell (p:=ad.add k) Bq).trans (aI F (.cells #[ae aj (-1)] 3));have b:=iz G.out d (l.out.alloc (.cells #[ae aj (-1)] 3));have t:=Lib.hid N;have L:=Lib.hid o1;have J:=Lib.hid q;have f:=Lib.hid b;clear F o1 q b d z g);refine(U.out _).mono ?_;rintro e w2 ⟨rfl,a⟩;have K:=au h a;have r:=Lib.hid (L.out.ar a);have C:=Lib.hid (J.out.ar a);have M:=t.out.trans (a.mono t.out.size);have D:=Lib.hid M;go_wp2;go_roundw
      case rel=>
       refine⟨k+1,Q,Z,P,c2,ak,nS,rfl, ?_, ?_, ?_,f.out,D.out⟩
       .rw[E.out]
       .rw[E.out];exact r.out
       .rw[E.out];exact C.out
      case measure=>simp[intOf];omega
   .rw[O]at U
    have E:=Lib.hid (Aj (by rw[X.out];exact O));have⟨m,R⟩:=eY ((lU xs k).2.length);have HM:=Lib.hid R;have mk:m<=k:=by have Y:=MI.out.NC;rw[R]at Y;exact Y
    rw[R]at l;simp only[R];go_wp2_with (at_builtin;refine bE Z' rfl (.tmp 13) (.tmp 14) rfl rfl (H.out.alloc _) rfl (y:=(-1:Int)) (bh _ _ _) ak (by have:=o.out.size;simp;omega) ?_;intro Q P I o1 g z d;have N:az w I:=(o.out.alloc (by have:=o.out.size;omega) _).trans g;have q:=(l.out.alloc (.cells #[ae aj (-1)] 3)).kept z G.out (aw.dK H.out);have h:=(g.cell (p:=ad.add k) Bq).trans (aI F (.cells #[ae aj (-1)] 3));have b:=iz G.out d (l.out.alloc (.cells #[ae aj (-1)] 3));have t:=Lib.hid N;have L:=Lib.hid o1;have J:=Lib.hid q;have f:=Lib.hid b;clear F o1 q b d z g);refine(U.out _).mono ?_;rintro e w2 ⟨rfl,a⟩;have K:=au h a;have r:=Lib.hid (L.out.ar a);have C:=Lib.hid (J.out.ar a);have M:=t.out.trans (a.mono t.out.size);have D:=Lib.hid M;go_wp2_with (at_builtin;refine bE Z' rfl (.tmp 24) (.tmp 26) rfl rfl (C.out.alloc _) rfl (y:=(k:Int)) (bh _ _ _) ak (by have:=D.out.size;simp;omega) ?_;intro A4 c4 w3 o3 b3 g3 at3;have o4:=(r.out.alloc (.cells #[ae aj (k:Int)] 3)).kept g3 f.out.symm (aw.dK C.out);have y3:az w w3:=(D.out.alloc (by have:=D.out.size;omega) _).trans b3;have ap3:=iz f.out.symm at3 (r.out.alloc (.cells #[ae aj (k:Int)] 3)));go_roundw
    case rel=>
     refine⟨k+1,Q,A4,P,c4,ak,nS,rfl, ?_, ?_, ?_,ap3.symm,y3⟩
     .rw[E.out];simp[HM.out]
     .rw[E.out];exact o4
     .rw[E.out];exact pQ o3 (wK _ _).symm (by simp[HM.out])
    case measure=>simp[intOf];omega
  .obtain rfl:k=n:=by omega
   go_wp2;go_ret;refine⟨_,_,rfl, ?_,hb⟩;refine pQ ho ?_ rfl;unfold mX;rw[S.out]
end Go.Proofs.YtklncadpkniojaaGreatDoor
