/- Part of LineCovers. -/
import Derived.Test.YtklncadpkniojaaGreatDoorAm
import Derived.Test.YtklncadpkniojaaGreatDoorAj
namespace Go.Proofs.YtklncadpkniojaaGreatDoor
open Go.ChangeShapes Go.WideShapes Go.ChangeAt Go.RowKit Go.Proofs.Tryz
open Go renaming World->ahh,Value->ahj,Calls->ahk,TypeId->ahm,Ending->ahn
open Go.Value renaming int->ae
open Go.IntKind renaming i64->aj
set_option linter.all false
set_option maxRecDepth 100000
set_option maxHeartbeats 16000000
theorem TC:aR prog 57 64 2 16:=bu underlying57 (z:=.agg #[ae aj 0,ae aj 0]) aF rfl ak ak
def Hl(w:ahh)(ps:List (Nat×Nat))(r:ahn)(a:ahh):Prop:=
 ∃(A:aA) (c:Nat),r=.returned (.slice A ps.length c)/\aw a w.heap.size 64 2 A ps.length c (dx ps)/\az w a
theorem jF(w:ahh)(a b:ahj)(t:ahm):∀j u,[a,b][j]? =some u->(w.alloc (.cells #[a,b] t)).cell? ⟨w.heap.size,j,none⟩=some u:=by
 intro j u h;rw[cell_of_row _ _ _ _ _ _ (heap_alloc_new w _)];simpa using h
theorem oX(a b:Int):∀u∈[ae aj a,ae aj b],u.oneCell'=true:=by
 intro u c;simp at c;rcases c with rfl|rfl<;>rfl
theorem Sq{xs:aC}{k:Nat}(h:k<xs.length):nth (xs.map ub) k=tU xs k:=by
 unfold nth tU ub nth;simp[h]
theorem DY(ps:List (Nat×Nat))(f k:Nat):dx ps++[ae aj f,ae aj ((k:Int)+1)]=dx (ps++[(f,k+1)]):=by
 rw[ny,vH]
 congr 3
theorem Cu{w:ahh}{B n b c size:Nat}{e:ahm}{A:aA}{xs a:List ahj}(h:aw w B e size A n c xs)(f:xs=a)(d:n=b):aw w B e size A b c a:=by subst f;subst d;exact h
theorem aw.acB{w:ahh}{B a n c size:Nat}{e:ahm}{A:aA}{vs:List ahj}(h:aw w B e size A n c vs)(i:a<=B):aw w a e size A n c vs:=by
 refine⟨h.1, ?_⟩;rcases h.2 with d|⟨g,cap,cur,b,f,r⟩
 .exact .inl d
 .exact .inr ⟨g,cap,cur,b,ak,r⟩
theorem QL{G:Prop}(s:G:=by
 refine⟨k+1,A2,d2,ak,nS, ?_, ?_, ?_,zQ⟩
 .rw[PY];simp
 .rw[FY];first|rfl|go_num
 .rw[PY,<-DY];exact Cu uF rfl aQ):G:=s
theorem Es(A:aA)(n c:Nat)(xs:aC)(w:ahh)(E:aM .i32 w A n c xs)(hn:n*16<=140737488355328):
 ahk prog 21 #[.slice A n c] w (Hl w (rz xs)):=by
 have PB:=Lib.hid (vB A n c xs w E ak);have HX:=Lib.hid E.at_;have a:=Lib.hid E.at_.len;clear E;go_enter func21,ntmps21;go_wp2_with fail;refine PB.out.mono ?_;rintro e W ⟨Ab,cb,rfl,L,t⟩;have OB:=Lib.hid L.ints;have V:=Lib.hid (HX.out.Z t);have F:=t.size;have R:=Lib.hid t;clear L t PB;go_wp2;go_loopw [3,5,6] (fun u v i wr=>∃(k:Nat) (D:aA) (C:Nat),k<=n/\i=ae aj k/\u=.slice D (par xs k).length C/\v=ae aj ((vr xs k:Nat):Int)/\aw wr W.heap.size 64 2 D (par xs k).length C (dx (par xs k))/\az W wr) (fun _ _ i _=>n-(intOf i).toNat)
 case atStart=>exact⟨0,none,0,Nat.zero_le _,rfl,rfl,rfl,aw.nil _ _ _ _,Below.refl _ _⟩
 case round=>
  obtain⟨k,D,C,hk,rfl,rfl,rfl,Z,N⟩:=hrel;have q:=Lib.hid Z;have j:=Lib.hid N;have T:=Lib.hid N;by_cases H:k<n
  .obtain⟨X,rfl,jB,G⟩:=(V.out.below (N.mono bW)).2 ak
   have hc:=G k H;obtain⟨ab,rfl,hbb,K⟩:=(OB.out.below N).2 ak;have Y:=K k H;rw[Sq (by rw[a.out];exact H)]at Y;have⟨x,E⟩:=eY (tU xs k);have l:=Lib.hid E;have⟨r,U⟩:=eY (nth xs k);have m:=Lib.hid U;have⟨s,Q⟩:=eY (nth xs (k+1));have SE:=Lib.hid Q;have y:k+1<n->wr.cell? ⟨X.block,X.off+(k+1),none⟩=some (.int .i32 s):=fun h=>by rw[<-Q,<-add_succ];exact G (k+1) h
   rw[E]at Y;rw[U]at hc;have hpl:=xR xs k;clear G K E U Q Z N;have hfl:=Qo xs k;by_cases J:r=13
   .subst J
    by_cases p:k+1<n
    .have Zx:=y p
     clear y;have l1:(k:Int)+1<n:=ak;have S:((k:Int)==(n:Int)-1)=false:=pI;have P:((k:Int)+1==(n:Int))=false:=pI;by_cases z:s=10
     .subst z
      by_cases d:x=11
      .subst d
       have b:fw xs k=false:=by first|(unfold fw fO;rw[l.out,m.out,SE.out,a.out];simp;omega)|(unfold fw fO;rw[l.out,m.out,SE.out,a.out];simp[p])
       go_wp2;have PY:=tV b;have FY:=yr b;clear b;go_roundw
       case rel=>
        refine⟨k+1,D,C,ak,nS, ?_, ?_, ?_,j.out⟩
        .rw[PY]
        .rw[FY]
        .rw[PY];exact q.out
       case measure=>simp[intOf]<;>omega
      .have I:((x:Int)==11)=false:=by simpa using d
       have b:fw xs k=false:=by first|(unfold fw fO;rw[l.out,m.out,SE.out,a.out];simp;omega)|(unfold fw fO;rw[l.out,m.out,SE.out,a.out];simp[p,d])
       go_wp2;have PY:=tV b;have FY:=yr b;clear b;go_roundw
       case rel=>
        refine⟨k+1,D,C,ak,nS, ?_, ?_, ?_,j.out⟩
        .rw[PY]
        .rw[FY]
        .rw[PY];exact q.out
       case measure=>simp[intOf]<;>omega
     .have n10:((s:Int)==10)=false:=by simpa using z
      by_cases d:x=11
      .subst d
       have b:fw xs k=true:=by first|(unfold fw fO;rw[l.out,m.out,SE.out,a.out];simp;omega)|(unfold fw fO;rw[l.out,m.out,SE.out,a.out];simp[p,z])
       go_wp2_with (at_builtin;refine ca TC rfl (.tmp 50) (.tmp 55) rfl rfl (q.out.alloc _) rfl (news:=[ae aj ((vr xs k:Nat):Int),ae aj ((k:Int)+1)]) rfl (jF _ _ _ _) (oX _ _) QK (by have:=j.out.size;simp;omega) ?_;intro A2 d2 O uF f;have g:=j.out.alloc (by have:=j.out.size;omega) (.cells #[ae aj ((vr xs k:Nat):Int),ae aj ((k:Int)+1)] 64));have zQ:=g.trans f;have PY:=pC b;have FY:=pa b;clear b;go_roundw
       case rel=>exact QL
       case measure=>simp[intOf]<;>omega
      .have I:((x:Int)==11)=false:=by simpa using d
       have b:fw xs k=false:=by first|(unfold fw fO;rw[l.out,m.out,SE.out,a.out];simp;omega)|(unfold fw fO;rw[l.out,m.out,SE.out,a.out];simp[p,d,z])
       go_wp2;have PY:=tV b;have FY:=yr b;clear b;go_roundw
       case rel=>
        refine⟨k+1,D,C,ak,nS, ?_, ?_, ?_,j.out⟩
        .rw[PY]
        .rw[FY]
        .rw[PY];exact q.out
       case measure=>simp[intOf]<;>omega
    .have l1:¬(k:Int)+1<n:=by omega
     have S:((k:Int)==(n:Int)-1)=true:=cw;have P:((k:Int)+1==(n:Int))=true:=cw;have o:k+1=n:=ak;have B:=Lib.hid o;clear y;by_cases d:x=11
     .subst d
      clear o;have b:fw xs k=true:=by first|(unfold fw fO;rw[l.out,m.out,SE.out,a.out];simp;omega)|(unfold fw fO;rw[l.out,m.out,SE.out,a.out];simp[B.out])
      go_wp2_with (at_builtin;refine ca TC rfl (.tmp 50) (.tmp 55) rfl rfl (q.out.alloc _) rfl (news:=[ae aj ((vr xs k:Nat):Int),ae aj ((k:Int)+1)]) rfl (jF _ _ _ _) (oX _ _) QK (by have:=j.out.size;simp;omega) ?_;intro A2 d2 O uF f;have g:=j.out.alloc (by have:=j.out.size;omega) (.cells #[ae aj ((vr xs k:Nat):Int),ae aj ((k:Int)+1)] 64));have zQ:=g.trans f;have PY:=pC b;have FY:=pa b;clear b;go_roundw
      case rel=>exact QL
      case measure=>simp[intOf]<;>omega
     .have I:((x:Int)==11)=false:=by simpa using d
      clear o;have b:fw xs k=true:=by first|(unfold fw fO;rw[l.out,m.out,SE.out,a.out];simp;omega)|(unfold fw fO;rw[l.out,m.out,SE.out,a.out];simp[B.out])
      go_wp2_with (at_builtin;refine ca TC rfl (.tmp 50) (.tmp 55) rfl rfl (q.out.alloc _) rfl (news:=[ae aj ((vr xs k:Nat):Int),ae aj ((k:Int)+1)]) rfl (jF _ _ _ _) (oX _ _) QK (by have:=j.out.size;simp;omega) ?_;intro A2 d2 O uF f;have g:=j.out.alloc (by have:=j.out.size;omega) (.cells #[ae aj ((vr xs k:Nat):Int),ae aj ((k:Int)+1)] 64));have zQ:=g.trans f;have PY:=pC b;have FY:=pa b;clear b;go_roundw
      case rel=>exact QL
      case measure=>simp[intOf]<;>omega
   .have n13:((r:Int)==13)=false:=by simpa using J
    clear y;by_cases d:x=11
    .subst d
     have b:fw xs k=true:=by first|(unfold fw fO;rw[l.out,m.out,SE.out,a.out];simp;omega)|(unfold fw fO;rw[l.out,m.out,SE.out,a.out];simp[J])
     go_wp2_with (at_builtin;refine ca TC rfl (.tmp 50) (.tmp 55) rfl rfl (q.out.alloc _) rfl (news:=[ae aj ((vr xs k:Nat):Int),ae aj ((k:Int)+1)]) rfl (jF _ _ _ _) (oX _ _) QK (by have:=j.out.size;simp;omega) ?_;intro A2 d2 O uF f;have g:=j.out.alloc (by have:=j.out.size;omega) (.cells #[ae aj ((vr xs k:Nat):Int),ae aj ((k:Int)+1)] 64));have zQ:=g.trans f;have PY:=pC b;have FY:=pa b;clear b;go_roundw
     case rel=>exact QL
     case measure=>simp[intOf]<;>omega
    .have I:((x:Int)==11)=false:=by simpa using d
     by_cases o:k+1=n
     .have S:((k:Int)==(n:Int)-1)=true:=by simp;omega
      have P:((k:Int)+1==(n:Int))=true:=cw;have B:=Lib.hid o;clear o;have b:fw xs k=true:=by first|(unfold fw fO;rw[l.out,m.out,SE.out,a.out];simp;omega)|(unfold fw fO;rw[l.out,m.out,SE.out,a.out];simp[B.out])
      go_wp2_with (at_builtin;refine ca TC rfl (.tmp 50) (.tmp 55) rfl rfl (q.out.alloc _) rfl (news:=[ae aj ((vr xs k:Nat):Int),ae aj ((k:Int)+1)]) rfl (jF _ _ _ _) (oX _ _) QK (by have:=j.out.size;simp;omega) ?_;intro A2 d2 O uF f;have g:=j.out.alloc (by have:=j.out.size;omega) (.cells #[ae aj ((vr xs k:Nat):Int),ae aj ((k:Int)+1)] 64));have zQ:=g.trans f;have PY:=pC b;have FY:=pa b;clear b;go_roundw
      case rel=>exact QL
      case measure=>simp[intOf]<;>omega
     .have S:((k:Int)==(n:Int)-1)=false:=pI
      have P:((k:Int)+1==(n:Int))=false:=pI;have b:fw xs k=false:=by first|(unfold fw fO;rw[l.out,m.out,SE.out,a.out];simp;omega)|(unfold fw fO;rw[l.out,m.out,SE.out,a.out];simp[d,o])
      go_wp2;have PY:=tV b;have FY:=yr b;clear b;go_roundw
      case rel=>
       refine⟨k+1,D,C,ak,nS, ?_, ?_, ?_,j.out⟩
       .rw[PY]
       .rw[FY]
       .rw[PY];exact q.out
      case measure=>simp[intOf]<;>omega
  .obtain rfl:k=n:=by omega
   have M:rz xs=par xs k:=by unfold rz;rw[a.out]
   go_wp2;go_ret;exact⟨D,C,by rw[M];rfl,by rw[M];exact q.out.acB F,R.out.trans (T.out.mono F)⟩
end Go.Proofs.YtklncadpkniojaaGreatDoor
