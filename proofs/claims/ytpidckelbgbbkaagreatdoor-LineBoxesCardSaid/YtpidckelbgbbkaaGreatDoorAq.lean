/- Part of LineBoxes. -/
import Derived.Test.YtpidckelbgbbkaaGreatDoorAl
import Derived.Test.YtpidckelbgbbkaaGreatDoorAi
namespace Go.Proofs.YtpidckelbgbbkaaGreatDoor
open Go.ChangeShapes Go.WideShapes Go.ChangeAt Go.RowKit Go.Proofs.Tryz
open Go.Value renaming int → ae
open Go.IntKind renaming i64 → aj
set_option linter.all false
set_option maxRecDepth 100000
set_option maxHeartbeats 16000000
theorem TC:aS prog 53 60 2 16:=bD underlying53 (z:= .agg #[ae aj 0,ae aj 0]) aF rfl aq aq
def GY(w:World)(ps:List (Nat×Nat))(r:Ending)(a:World):Prop:=
 ∃(A:aC) (c:Nat),r= .returned (.slice A ps.length c)/\aB a w.heap.size 60 2 A ps.length c (dt ps)/\aA w a
theorem jH(w:World)(a b:Value)(t:TypeId):∀j u,[a,b][j]? =some u->(w.alloc (.cells #[a,b] t)).cell? ⟨w.heap.size,j,none⟩=some u:=by
 intro j u h;rw[cell_of_row _ _ _ _ _ _ (heap_alloc_new w _)];simpa using h
theorem pk(a b:Int):∀u∈[ae aj a,ae aj b],u.oneCell'=true:=by
 intro u c;simp at c;rcases c with rfl|rfl<;>rfl
theorem Ub{xs:aE}{k:Nat}(h:k<xs.length):nth (xs.map tK) k=tz xs k:=by
 unfold nth tz tK nth;simp[h]
theorem Ed(ps:List (Nat×Nat))(f k:Nat):dt ps++[ae aj f,ae aj ((k:Int)+1)]=dt (ps++[(f,k+1)]):=by
 rw[mZ,we]
 congr 3
theorem De{w:World}{B n b c size:Nat}{e:TypeId}{A:aC}{xs a:List Value}(h:aB w B e size A n c xs)(d:xs=a)(f:n=b):aB w B e size A b c a:=by subst d;subst f;exact h
theorem aB.acp{w:World}{B a n c size:Nat}{e:TypeId}{A:aC}{vs:List Value}(h:aB w B e size A n c vs)(f:a<=B):aB w a e size A n c vs:=by
 refine⟨h.1, ?_⟩;rcases h.2 with d|⟨g,cap,cur,b,i,r⟩
 ·exact .inl d
 ·exact .inr ⟨g,cap,cur,b,aq,r⟩
theorem Ps{G:Prop}(s:G:=by
 refine⟨k+1,A2,d2,aq,aQ, ?_, ?_, ?_,Fo⟩
 ·rw[PY];simp
 ·rw[FY];first|rfl|go_num
 ·rw[PY,<-Ed];exact De tw rfl aD):G:=s
theorem Du(A:aC)(n c:Nat)(xs:aE)(w:World)(F:aL .i32 w A n c xs)(hn:n*16<=140737488355328):
 Calls prog 83 #[.slice A n c] w (GY w (rD xs)):=by
 have PB:=Lib.hid (vt A n c xs w F aq);have HX:=Lib.hid F.at_;have a:=Lib.hid F.at_.len;clear F;go_enter func83,ntmps83;go_wp2_with fail;refine PB.out.mono ?_;rintro e Y ⟨Ab,cb,rfl,L,z⟩;have OB:=Lib.hid L.ints;have U:=Lib.hid (HX.out.Z z);have D:=z.size;have P:=Lib.hid z;clear L z PB;go_wp2;go_loopw [3,5,6] (fun u v i wr=>∃(k:Nat) (E:aC) (C:Nat),k<=n/\i=ae aj k/\u= .slice E (par xs k).length C/\v=ae aj ((uR xs k:Nat):Int)/\aB wr Y.heap.size 60 2 E (par xs k).length C (dt (par xs k))/\aA Y wr) (fun _ _ i _=>n-(intOf i).toNat)
 case atStart=>exact⟨0,none,0,Nat.zero_le _,rfl,rfl,rfl,aB.nil _ _ _ _,Below.refl _ _⟩
 case round=>
  obtain⟨k,E,C,hk,rfl,rfl,rfl,Z,N⟩:=hrel;have q:=Lib.hid Z;have f:=Lib.hid N;have V:=Lib.hid N;by_cases J:k<n
  ·obtain⟨W,rfl,iN,I⟩:=(U.out.below (N.mono cr)).2 aq
   have hc:=I k J;obtain⟨ab,rfl,hbb,K⟩:=(OB.out.below N).2 aq;have X:=K k J;rw[Ub (by rw[a.out];exact J)]at X;obtain⟨x,F⟩:=eY (tz xs k);have m:=Lib.hid F;obtain⟨r,Q⟩:=eY (nth xs k);have l:=Lib.hid Q;obtain⟨s,S⟩:=eY (nth xs (k+1));have SE:=Lib.hid S;have B:k+1<n->wr.cell? ⟨W.block,W.off+(k+1),none⟩=some (.int .i32 s):=fun h=>by rw[<-S,<-add_succ];exact I (k+1) h
   rw[F]at X;rw[Q]at hc;have hpl:=xA xs k;clear I K F Q S Z N;have hfl:=N7 xs k;by_cases G:r=13
   ·subst G
    by_cases p:k+1<n
    ·have MD:=B p
     clear B;have l1:(k:Int)+1<n:=aq;have T:((k:Int)==(n:Int)-1)=false:=pM;have R:((k:Int)+1==(n:Int))=false:=pM;by_cases y:s=10
     ·subst y
      by_cases d:x=11
      ·subst d
       have b:ff xs k=false:=by first|(unfold ff fY;rw[m.out,l.out,SE.out,a.out];simp;omega)|(unfold ff fY;rw[m.out,l.out,SE.out,a.out];simp[p])
       go_wp2;have PY:=tC b;have FY:=yk b;clear b;go_roundw
       case rel=>
        refine⟨k+1,E,C,aq,aQ, ?_, ?_, ?_,f.out⟩
        ·rw[PY]
        ·rw[FY]
        ·rw[PY];exact q.out
       case measure=>simp[intOf]<;>omega
      ·have H:((x:Int)==11)=false:=by simpa using d
       have b:ff xs k=false:=by first|(unfold ff fY;rw[m.out,l.out,SE.out,a.out];simp;omega)|(unfold ff fY;rw[m.out,l.out,SE.out,a.out];simp[p,d])
       go_wp2;have PY:=tC b;have FY:=yk b;clear b;go_roundw
       case rel=>
        refine⟨k+1,E,C,aq,aQ, ?_, ?_, ?_,f.out⟩
        ·rw[PY]
        ·rw[FY]
        ·rw[PY];exact q.out
       case measure=>simp[intOf]<;>omega
     ·have n10:((s:Int)==10)=false:=by simpa using y
      by_cases d:x=11
      ·subst d
       have b:ff xs k=true:=by first|(unfold ff fY;rw[m.out,l.out,SE.out,a.out];simp;omega)|(unfold ff fY;rw[m.out,l.out,SE.out,a.out];simp[p,y])
       go_wp2_with (at_builtin;refine cz TC rfl (.tmp 50) (.tmp 55) rfl rfl (q.out.alloc _) rfl (news:=[ae aj ((uR xs k:Nat):Int),ae aj ((k:Int)+1)]) rfl (jH _ _ _ _) (pk _ _) Pc (by have:=f.out.size;simp;omega) ?_;intro A2 d2 O tw j;have g:=f.out.alloc (by have:=f.out.size;omega) (.cells #[ae aj ((uR xs k:Nat):Int),ae aj ((k:Int)+1)] 60));have Fo:=g.trans j;have PY:=oZ b;have FY:=pa b;clear b;go_roundw
       case rel=>exact Ps
       case measure=>simp[intOf]<;>omega
      ·have H:((x:Int)==11)=false:=by simpa using d
       have b:ff xs k=false:=by first|(unfold ff fY;rw[m.out,l.out,SE.out,a.out];simp;omega)|(unfold ff fY;rw[m.out,l.out,SE.out,a.out];simp[p,d,y])
       go_wp2;have PY:=tC b;have FY:=yk b;clear b;go_roundw
       case rel=>
        refine⟨k+1,E,C,aq,aQ, ?_, ?_, ?_,f.out⟩
        ·rw[PY]
        ·rw[FY]
        ·rw[PY];exact q.out
       case measure=>simp[intOf]<;>omega
    ·have l1:¬(k:Int)+1<n:=by omega
     have T:((k:Int)==(n:Int)-1)=true:=cA;have R:((k:Int)+1==(n:Int))=true:=cA;have o:k+1=n:=aq;have t:=Lib.hid o;clear B;by_cases d:x=11
     ·subst d
      clear o;have b:ff xs k=true:=by first|(unfold ff fY;rw[m.out,l.out,SE.out,a.out];simp;omega)|(unfold ff fY;rw[m.out,l.out,SE.out,a.out];simp[t.out])
      go_wp2_with (at_builtin;refine cz TC rfl (.tmp 50) (.tmp 55) rfl rfl (q.out.alloc _) rfl (news:=[ae aj ((uR xs k:Nat):Int),ae aj ((k:Int)+1)]) rfl (jH _ _ _ _) (pk _ _) Pc (by have:=f.out.size;simp;omega) ?_;intro A2 d2 O tw j;have g:=f.out.alloc (by have:=f.out.size;omega) (.cells #[ae aj ((uR xs k:Nat):Int),ae aj ((k:Int)+1)] 60));have Fo:=g.trans j;have PY:=oZ b;have FY:=pa b;clear b;go_roundw
      case rel=>exact Ps
      case measure=>simp[intOf]<;>omega
     ·have H:((x:Int)==11)=false:=by simpa using d
      clear o;have b:ff xs k=true:=by first|(unfold ff fY;rw[m.out,l.out,SE.out,a.out];simp;omega)|(unfold ff fY;rw[m.out,l.out,SE.out,a.out];simp[t.out])
      go_wp2_with (at_builtin;refine cz TC rfl (.tmp 50) (.tmp 55) rfl rfl (q.out.alloc _) rfl (news:=[ae aj ((uR xs k:Nat):Int),ae aj ((k:Int)+1)]) rfl (jH _ _ _ _) (pk _ _) Pc (by have:=f.out.size;simp;omega) ?_;intro A2 d2 O tw j;have g:=f.out.alloc (by have:=f.out.size;omega) (.cells #[ae aj ((uR xs k:Nat):Int),ae aj ((k:Int)+1)] 60));have Fo:=g.trans j;have PY:=oZ b;have FY:=pa b;clear b;go_roundw
      case rel=>exact Ps
      case measure=>simp[intOf]<;>omega
   ·have n13:((r:Int)==13)=false:=by simpa using G
    clear B;by_cases d:x=11
    ·subst d
     have b:ff xs k=true:=by first|(unfold ff fY;rw[m.out,l.out,SE.out,a.out];simp;omega)|(unfold ff fY;rw[m.out,l.out,SE.out,a.out];simp[G])
     go_wp2_with (at_builtin;refine cz TC rfl (.tmp 50) (.tmp 55) rfl rfl (q.out.alloc _) rfl (news:=[ae aj ((uR xs k:Nat):Int),ae aj ((k:Int)+1)]) rfl (jH _ _ _ _) (pk _ _) Pc (by have:=f.out.size;simp;omega) ?_;intro A2 d2 O tw j;have g:=f.out.alloc (by have:=f.out.size;omega) (.cells #[ae aj ((uR xs k:Nat):Int),ae aj ((k:Int)+1)] 60));have Fo:=g.trans j;have PY:=oZ b;have FY:=pa b;clear b;go_roundw
     case rel=>exact Ps
     case measure=>simp[intOf]<;>omega
    ·have H:((x:Int)==11)=false:=by simpa using d
     by_cases o:k+1=n
     ·have T:((k:Int)==(n:Int)-1)=true:=by simp;omega
      have R:((k:Int)+1==(n:Int))=true:=cA;have t:=Lib.hid o;clear o;have b:ff xs k=true:=by first|(unfold ff fY;rw[m.out,l.out,SE.out,a.out];simp;omega)|(unfold ff fY;rw[m.out,l.out,SE.out,a.out];simp[t.out])
      go_wp2_with (at_builtin;refine cz TC rfl (.tmp 50) (.tmp 55) rfl rfl (q.out.alloc _) rfl (news:=[ae aj ((uR xs k:Nat):Int),ae aj ((k:Int)+1)]) rfl (jH _ _ _ _) (pk _ _) Pc (by have:=f.out.size;simp;omega) ?_;intro A2 d2 O tw j;have g:=f.out.alloc (by have:=f.out.size;omega) (.cells #[ae aj ((uR xs k:Nat):Int),ae aj ((k:Int)+1)] 60));have Fo:=g.trans j;have PY:=oZ b;have FY:=pa b;clear b;go_roundw
      case rel=>exact Ps
      case measure=>simp[intOf]<;>omega
     ·have T:((k:Int)==(n:Int)-1)=false:=pM
      have R:((k:Int)+1==(n:Int))=false:=pM;have b:ff xs k=false:=by first|(unfold ff fY;rw[m.out,l.out,SE.out,a.out];simp;omega)|(unfold ff fY;rw[m.out,l.out,SE.out,a.out];simp[d,o])
      go_wp2;have PY:=tC b;have FY:=yk b;clear b;go_roundw
      case rel=>
       refine⟨k+1,E,C,aq,aQ, ?_, ?_, ?_,f.out⟩
       ·rw[PY]
       ·rw[FY]
       ·rw[PY];exact q.out
      case measure=>simp[intOf]<;>omega
  ·obtain rfl:k=n:=by omega
   have M:rD xs=par xs k:=by unfold rD;rw[a.out]
   go_wp2;go_ret;exact⟨E,C,by rw[M];rfl,by rw[M];exact q.out.acp D,P.out.trans (V.out.mono D)⟩
end Go.Proofs.YtpidckelbgbbkaaGreatDoor
