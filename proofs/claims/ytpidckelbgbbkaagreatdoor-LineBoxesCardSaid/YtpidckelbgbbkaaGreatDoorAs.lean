/- Part of LineBoxes. -/
import Derived.Test.YtpidckelbgbbkaaGreatDoorAo
import Derived.Test.YtpidckelbgbbkaaGreatDoorAi
import Derived.Deep.RegionLaw
import Derived.IntWalk
namespace Go.Proofs.YtpidckelbgbbkaaGreatDoor
open Go.ChangeShapes Go.WideShapes Go.ChangeAt Go.RowKit Go.Proofs.Tryz
open Go.Value renaming int → ae
open Go.IntKind renaming i64 → aj
set_option linter.all false
set_option maxRecDepth 100000
set_option maxHeartbeats 16000000
variable{l:aE}{w:World}{B c n:Nat}{e:TypeId}
theorem TIg:aS prog 43 3 1 8:=bD underlying43 (z:=ae aj 0) aF rfl aq aq
theorem TCg:aS prog 53 60 2 16:=bD underlying53 (z:= .agg #[ae aj 0,ae aj 0]) aF rfl aq aq
theorem nj(l:aE)(k:Nat):J8 l (k:Int)=lT l k:=by simp[J8]
theorem FT{i:Int}(h:i<0):J8 l i=false:=by simp[J8];omega
theorem FO{i:Int}(h:(l.length:Int)<i):J8 l i=false:=by
 obtain⟨k,rfl⟩:∃k:Nat,i=k:=⟨i.toNat,aq⟩;rw[nj,Si aq]
theorem Ex(h:l.length=0)(i:Int):J8 l i=false:=by
 have:=List.eq_nil_of_length_eq_zero h;subst this;unfold J8;rw[R9];simp
def tf(w:World)(ps:List (Nat×Nat))(r:Ending)(a:World):Prop:=
 ∃(A:aC) (c:Nat),r= .returned (.slice A ps.length c)/\aB a w.heap.size 60 2 A ps.length c (dt ps)/\aA w a
theorem gA(w:World)(a b:Value)(t:TypeId):∀j u,[a,b][j]? =some u->(w.alloc (.cells #[a,b] t)).cell? ⟨w.heap.size,j,none⟩=some u:=by
 intro j u h;rw[cell_of_row _ _ _ _ _ _ (heap_alloc_new w _)];simpa using h
theorem kR(a b:Int):∀u∈[ae aj a,ae aj b],u.oneCell'=true:=by
 intro u c;simp at c;rcases c with rfl|rfl<;>rfl
theorem iJ{g:Nat}{k:IntKind}{xs:aE}(h:Own w B e k (some ⟨g,0,none⟩) n c xs){j:Nat}(hj:j<n):w.cell? ⟨g,j,none⟩=some (.int k (nth xs j)):=by
 rw[aB.cellAt h j aq];have:j<xs.length:=Hl;rw[List.getElem?_map,List.getElem?_eq_getElem this,dQ this];rfl
theorem CQ{b:Nat}{k:IntKind}{A:aC}{xs a:aE}(h:Own w B e k A n c xs)(d:xs=a)(f:n=b):Own w B e k A b c a:=by subst d;subst f;exact h
theorem Own.abr{a size:Nat}{A:aC}{vs:List Value}(h:aB w B e size A n c vs)(f:a<=B):aB w a e size A n c vs:=by
 refine⟨h.1, ?_⟩;rcases h.2 with d|⟨g,cap,cur,b,i,r⟩
 ·exact .inl d
 ·exact .inr ⟨g,cap,cur,b,aq,r⟩
theorem Ra(A:aC)(n c:Nat)(xs:aE)(i:Int)(w:World)(o:aL .i32 w A n c xs)(u:Laid w)(v:n<=140737488355328):
 Calls prog 198 #[.slice A n c,ae aj i] w fun e r=>e= .returned (.bool (J8 (ks xs) i))/\aA w r:=by
 have s:=Lib.hid o;have x:=Lib.hid u;have a:=Lib.hid o.at_.len;have g:=Lib.hid (nV xs);by_cases y:n=0
 ·subst y
  rw[Ex (by rw[g.out,a.out])]
  skip
  go_enter func198,ntmps198;go_wp2;go_ret;exact⟨rfl,Below.refl _ _⟩
 ·have B:((n:Int)==0)=false:=pM
  by_cases f:i<0
  ·rw[FT f]
   go_enter func198,ntmps198;go_wp2;go_ret;exact⟨rfl,Below.refl _ _⟩
  ·by_cases d:(n:Int)<i
   ·rw[FO (by rw[g.out,a.out];exact d)]
    go_enter func198,ntmps198;go_wp2;go_ret;exact⟨rfl,Below.refl _ _⟩
   ·obtain⟨k,rfl⟩:∃k:Nat,i=k:=⟨i.toNat,aq⟩
    rw[nj];by_cases l:k=0
    ·subst l
     rw[pw (by rw[g.out,a.out];omega)];have E:¬(n:Int)<0:=aq;go_enter func198,ntmps198;go_wp2;go_ret;exact⟨rfl,Below.refl _ _⟩
    ·by_cases j:k=n
     ·subst j
      have h:=xo (ks:=ks xs) (by rw[g.out,a.out];omega);rw[g.out,a.out]at h;rw[h];go_enter func198,ntmps198;go_wp2;go_ret;exact⟨rfl,Below.refl _ _⟩
     ·obtain⟨m,rfl⟩:∃m,k=m+1:=⟨k-1,aq⟩
      have p:m+1<n:=aq;rw[GP aq (by rw[g.out,a.out];exact p)];have h:((m+1:Nat):Int)=(m:Int)+1:=aq;rw[h]at f d⊢;have z:(((m:Int)+1)==0)=false:=ij;have C:(((m:Int)+1)==(n:Int))=false:=ij;have t:=Lib.hid (DD A n c xs m p w s.out x.out v);generalize kA (ks xs) (m+1)=b at*;go_enter func198,ntmps198;go_wp2_with fail;refine t.out.mono ?_;rintro e D ⟨rfl,q⟩;go_wp2;go_ret;exact⟨lW aD,q⟩
theorem NM(A:aC)(n c:Nat)(xs:aE)(k:Nat)(w:World)(a:aL .i32 w A n c xs)(b:Laid w)(d:n<=140737488355328):
 Calls prog 198 #[.slice A n c,ae aj (k:Int)] w fun e f=>e= .returned (.bool (lT (ks xs) k))/\aA w f:=by
 have h:=Ra A n c xs k w a b d;rw[nj]at h;exact h
theorem oT(A:aC)(n c:Nat)(xs:aE)(i:Int)(w:World)(o:aL .i32 w A n c xs)(s:n<=140737488355328):
 Calls prog 53 #[.slice A n c,ae aj i] w fun e u=>e= .returned (.bool (J8 (ks xs) i))/\aA w u:=by
 have v:=Lib.hid o;have a:=Lib.hid o.at_.len;have g:=Lib.hid (nV xs);by_cases t:n=0
 ·subst t
  rw[Ex (by rw[g.out,a.out])]
  skip
  go_enter func53,ntmps53;go_wp2;go_ret;exact⟨rfl,Below.refl _ _⟩
 ·have C:((n:Int)==0)=false:=pM
  by_cases f:i<0
  ·rw[FT f]
   go_enter func53,ntmps53;go_wp2;go_ret;exact⟨rfl,Below.refl _ _⟩
  ·by_cases d:(n:Int)<i
   ·rw[FO (by rw[g.out,a.out];exact d)]
    go_enter func53,ntmps53;go_wp2;go_ret;exact⟨rfl,Below.refl _ _⟩
   ·obtain⟨k,rfl⟩:∃k:Nat,i=k:=⟨i.toNat,aq⟩
    rw[nj];by_cases l:k=0
    ·subst l
     rw[pw (by rw[g.out,a.out];omega)];have B:¬(n:Int)<0:=aq;go_enter func53,ntmps53;go_wp2;go_ret;exact⟨rfl,Below.refl _ _⟩
    ·by_cases j:k=n
     ·subst j
      have h:=xo (ks:=ks xs) (by rw[g.out,a.out];omega);rw[g.out,a.out]at h;rw[h];go_enter func53,ntmps53;go_wp2;go_ret;exact⟨rfl,Below.refl _ _⟩
     ·obtain⟨m,rfl⟩:∃m,k=m+1:=⟨k-1,aq⟩
      have p:m+1<n:=aq;rw[GP aq (by rw[g.out,a.out];exact p)];have h:((m+1:Nat):Int)=(m:Int)+1:=aq;rw[h]at f d⊢;have z:(((m:Int)+1)==0)=false:=ij;have x:(((m:Int)+1)==(n:Int))=false:=ij;have q:=Lib.hid (Dr A n c xs m p w v.out s);generalize kA (ks xs) (m+1)=b at*;go_enter func53,ntmps53;go_wp2_with fail;refine q.out.mono ?_;rintro e y ⟨rfl,r⟩;go_wp2;go_ret;exact⟨lW aD,r⟩
theorem KY(A:aC)(n c:Nat)(xs:aE)(k:Nat)(w:World)(a:aL .i32 w A n c xs)(b:n<=140737488355328):
 Calls prog 53 #[.slice A n c,ae aj (k:Int)] w fun e d=>e= .returned (.bool (lT (ks xs) k))/\aA w d:=by
 have h:=oT A n c xs k w a b;rw[nj]at h;exact h
theorem ry(A:aC)(n c:Nat)(xs:aE)(w:World)(q:aL .i32 w A n c xs)(Q:(n+1)*8<=140737488355328):
 Calls prog 93 #[.slice A n c] w (fH w 3 .i64 (di (ks xs)).length (bounds (ks xs))):=by
 have G:=Lib.hid q;have f:=Lib.hid q.at_.len;have B:=Lib.hid (nV xs);have F:=Lib.hid (fun k x (p:aA w x)=>KY A n c xs k x (G.out.ar p) aq);clear q;go_enter func93,ntmps93;go_wp2;go_loopw [3,4] (fun u v wr=>∃(k:Nat) (m:aC) (c':Nat),k<=n+1/\v=ae aj k/\u= .slice m (fO (ks xs) k).length c'/\Own wr w.heap.size 3 .i64 m (fO (ks xs) k).length c' (Ei (ks xs) k)/\aA w wr) (fun _ v _=>n+1-(intOf v).toNat)
 case atStart=>exact⟨0,none,0,Nat.zero_le _,rfl,rfl,Own.nil _ _ _ _,Below.refl _ _⟩
 case round=>
  obtain⟨k,m,c',P,rfl,rfl,D,p⟩:=hrel;have s:=Lib.hid D;have j:=Lib.hid p;have L:=kN (ks xs) k;clear D p;by_cases H:k<n+1
  ·have J:(k:Int)<(n:Int)+1:=by omega
   have O:(k:Int)<=(n:Int):=aq;have R:k<=n:=aq;have o:=Lib.hid (F.out k);cases g:lT (ks xs) k
   ·rw[g]at o
    have d:=Lib.hid (xD g);have b:=vr (ks xs) k;rw[g]at b;simp only[Bool.false_eq_true,if_false]at b;have h:=Lib.hid b;clear g b;go_wp2_with fail;refine(o.out _ j.out).mono ?_;rintro e N ⟨rfl,l⟩;have a:=Lib.hid (j.out.trans (l.mono j.out.size));have i:=Lib.hid (s.out.ar l);clear l;go_wp2;go_roundw
    case rel=>exact⟨k+1,m,c',aq,aQ,by rw[d.out],by rw[d.out,h.out];exact i.out,a.out⟩
    case measure=>simp[intOf]<;>omega
   ·rw[g]at o
    have d:=Lib.hid (jP g);have b:=vr (ks xs) k;rw[g]at b;simp only[if_true]at b;have h:=Lib.hid b;clear g b;go_wp2_with fail;refine(o.out _ j.out).mono ?_;rintro e N ⟨rfl,l⟩;have a:=Lib.hid (j.out.trans (l.mono j.out.size));have i:=Lib.hid (s.out.ar l);clear l;go_wp2_with (at_builtin;refine dD TIg rfl (.tmp 14) (.tmp 16) rfl rfl (i.out.alloc _) rfl (y:=(k:Int)) (aX _ _ _) aq (by have:=a.out.size;simp;omega) ?_;intro I c4 M E K);have r:aA w M:=(a.out.alloc (by have:=a.out.size;omega) _).trans K;go_roundw
    case rel=>exact⟨k+1,I,c4,aq,aQ,by rw[d.out];simp,by rw[d.out,h.out];exact CQ E rfl (by simp),r⟩
    case measure=>simp[intOf]<;>omega
  ·obtain rfl:k=n+1:=by omega
   have J:¬((n:Int)+1<=(n:Int)):=aq;have C:di (ks xs)=fO (ks xs) (n+1):=by unfold di;rw[B.out,f.out]
   have z:bounds (ks xs)=Ei (ks xs) (n+1):=by unfold bounds;rw[B.out,f.out]
   have d:=Lib.hid C;have b:=Lib.hid z;have t:((n+1:Nat):Int)=(n:Int)+1:=aq;rw[t];clear C z t;go_wp2;go_ret;exact⟨m,c',by rw[d.out];rfl,by rw[d.out,b.out];exact s.out,j.out⟩
theorem vJ(A:aC)(n c:Nat)(xs:aE)(w:World)(z:aL .i32 w A n c xs)(Z:(n+1)*16<=140737488355328):
 Calls prog 44 #[.slice A n c] w (tf w (uy (ks xs))):=by
 have L:=Lib.hid (nV xs);have G:(ks xs).length=n:=by rw[L.out];exact z.at_.len
 have PB:=Lib.hid (ry A n c xs w z aq);have eB:fO (ks xs) (n+1)=fO (ks xs) (n+1):=rfl;obtain⟨d,b⟩:=eY (di (ks xs));have U:(fO (ks xs) (n+1)).length<=n+1:=kN _ _;have C:d.length<=n+1∨True:= .inr trivial;rw[Dd,b]at PB;unfold uy;rw[b];obtain⟨m,y⟩:=eY d.length;have N:=Lib.hid y;rw[y]at PB⊢;have I:m<=n+1:=by
  have:=kN (ks xs) ((ks xs).length+1);have O:fO (ks xs) ((ks xs).length+1)=d:=b;rw[O,y]at this;omega
 go_enter func44,ntmps44;go_wp2_with fail;refine PB.out.mono ?_;rintro e t ⟨X,Y,rfl,l,g⟩;have P:=Lib.hid l;have o:=Lib.hid g;have a:=g.size;go_wp2;go_loopw [3,5] (fun u v wr=>∃(k:Nat) (h:aC) (c':Nat),(k+1<=m∨k=0)/\v=ae aj ((k:Int)+1)/\u= .slice h k c'/\aB wr t.heap.size 60 2 h k c' (dt (ui d k))/\aA t wr) (fun _ v _=>m+1-(intOf v).toNat)
 case atStart=>exact⟨0,none,0, .inr rfl,rfl,rfl,aB.nil _ _ _ _,Below.refl _ _⟩
 case round=>
  obtain⟨k,h,c',W,rfl,rfl,Q,B⟩:=hrel;have i:=Lib.hid Q;have f:=Lib.hid B;by_cases r:k+1<m
  ·have x:=P.out.ar B
   obtain⟨V,rfl,_⟩:=aB.form x aq;have c0:=iJ x (j:=k) aq;have K:=iJ x (j:=k+1) r;rw[pF (by rw[N.out];omega)]at c0 K;have H:(k:Int)+1<(m:Int):=aq;have E:=Lib.hid (gW d k);generalize dx d k=p at*;generalize dx d (k+1)=q at*;go_wp2;have wk:IntKind.i64.wrap (k:Int)=(k:Int):=IntWalk.i64_in _ aq;have p0:=jB k;have S:=aR k m;have T:(0:Int)<=(k:Int)+1:=aq;go_region_law ((refine Db TCg aK (.tmp 14) (.tmp 25) aK aK ((by first|exact i.out.alloc _|exact aB.drew (i.out.alloc _)|exact aB.alloc (aB.drew i.out) _)) aK (news:=[ae aj (p:Int),ae aj (q:Int)]) rfl (by first|exact gA _ _ _ _|exact gA wr _ _ _) (kR _ _) aq (by have:=f.out.size;simp;omega) ?_;intro F c4 M D J;have s:aA t M:=Below.trans (by first|exact(f.out.drew).alloc (by have:=f.out.size;simp;omega) _|exact(f.out.alloc (by have:=f.out.size;omega) _).drew) J))
   all_goals
    go_wp2;go_roundw
    case rel=>
     refine⟨k+1,F,c4, .inl aq,aQ,rfl, ?_,s⟩;rw[E.out,mZ,we];exact D
    case measure=>simp[intOf]<;>omega
  ·have H:¬((k:Int)+1<(m:Int)):=by omega
   go_wp2;go_ret;have R:k=m-1:=aq;subst R;exact⟨h,c',by rw[iL];rfl,by rw[iL];exact Own.abr i.out a,o.out.trans (f.out.mono a)⟩
def pI(l:aE)(i:Int):Nat:=kG l (min i.toNat (l.length+1))
theorem Gy{k:Nat}(h:k<(di l).length):dx (di l) k<=l.length:=by
 have a:dx (di l) k∈di l:=sZ h;have b:=(pL (m:=l.length+1) a).1;omega
theorem Im(A:aC)(n c:Nat)(xs:aE)(i:Int)(w:World)(u:aL .i32 w A n c xs)(C:Laid w)(K:(n+1)*16<=140737488355328):
 Calls prog 126 #[.slice A n c,ae aj i] w fun e t=>e= .returned (ae aj ((pI (ks xs) i:Nat):Int))/\aA w t:=by
 have F:=Lib.hid u;have H:=Lib.hid C;have j:=Lib.hid u.at_.len;have D:=Lib.hid (nV xs);have z:=Lib.hid (fun k t (l:aA w t)=>NM A n c xs k t (F.out.ar l) (H.out.ar l) aq);clear u C;by_cases I:i<=0
 ·have E:pI (ks xs) i=0:=by unfold pI;rw[show min i.toNat ((ks xs).length+1)=0 by omega];rfl
  rw[E];go_enter func126,ntmps126;go_wp2;go_ret;exact⟨rfl,Below.refl _ _⟩
 ·by_cases B:(n:Int)+1<i
  ·have E:pI (ks xs) i=kG (ks xs) (n+1):=by unfold pI;rw[D.out,j.out,show min i.toNat (n+1)=n+1 by omega]
   have s:=Lib.hid E;clear E;go_enter func126,ntmps126;go_wp2;go_loopw [5] (fun v wr=>∃k:Nat,k<=n/\v=ae aj k/\kG (ks xs) (k+1)=kG (ks xs) (n+1)/\aA w wr) (fun v _=>(intOf v).toNat)
   case atStart=>exact⟨n,aq,by first|rfl|go_num,rfl,Below.refl _ _⟩
   case round=>
    obtain⟨k,G,rfl,f,l⟩:=hrel;have o:=Lib.hid f;have b:=Lib.hid l;clear f l;rcases Nat.eq_zero_or_pos k with p|p
    ·subst p
     have E:=Lib.hid (Ff (ks xs));have y:¬(0:Int)<((0:Nat):Int):=aq;go_wp2;go_ret;refine⟨yu ?_,b.out⟩;rw[s.out,<-o.out,E.out];rfl
    ·obtain⟨m,rfl⟩:∃m,k=m+1:=⟨k-1,aq⟩
     have q:((m+1:Nat):Int)=(m:Int)+1:=aq;have g:=Lib.hid (z.out (m+1) _ b.out);rw[q]at g⊢;have y:(0:Int)<(m:Int)+1:=aq;clear q;cases d:lT (ks xs) (m+1)
     ·rw[d]at g
      have E:=Lib.hid (qg d);clear d;go_wp2_with fail;refine g.out.mono ?_;rintro e x ⟨rfl,h⟩;have a:=Lib.hid (b.out.trans (h.mono b.out.size));clear h;go_wp2;go_roundw
      case rel=>exact⟨m,aq,by first|rfl|go_num,by rw[<-E.out];exact o.out,a.out⟩
      case measure=>simp[intOf]<;>omega
     ·rw[d]at g
      have E:=Lib.hid (mW d);clear d;go_wp2_with fail;refine g.out.mono ?_;rintro e x ⟨rfl,h⟩;have a:=Lib.hid (b.out.trans (h.mono b.out.size));clear h;go_wp2;go_ret;refine⟨yu ?_,a.out⟩;rw[s.out,<-o.out,E.out];omega
  ·obtain⟨r,rfl⟩:∃r:Nat,i=(r:Int)+1:=⟨(i-1).toNat,aq⟩
   have J:r<=n:=aq;have E:pI (ks xs) ((r:Int)+1)=kG (ks xs) (r+1):=by unfold pI;rw[D.out,j.out,show min ((r:Int)+1).toNat (n+1)=r+1 by omega]
   have s:=Lib.hid E;clear E;go_enter func126,ntmps126;go_wp2;go_loopw [5] (fun v wr=>∃k:Nat,k<=n/\v=ae aj k/\kG (ks xs) (k+1)=kG (ks xs) (r+1)/\aA w wr) (fun v _=>(intOf v).toNat)
   case atStart=>exact⟨r,aq,by first|rfl|go_num,rfl,Below.refl _ _⟩
   case round=>
    obtain⟨k,G,rfl,f,l⟩:=hrel;have o:=Lib.hid f;have b:=Lib.hid l;clear f l;rcases Nat.eq_zero_or_pos k with p|p
    ·subst p
     have E:=Lib.hid (Ff (ks xs));have y:¬(0:Int)<((0:Nat):Int):=aq;go_wp2;go_ret;refine⟨yu ?_,b.out⟩;rw[s.out,<-o.out,E.out];rfl
    ·obtain⟨m,rfl⟩:∃m,k=m+1:=⟨k-1,aq⟩
     have q:((m+1:Nat):Int)=(m:Int)+1:=aq;have g:=Lib.hid (z.out (m+1) _ b.out);rw[q]at g⊢;have y:(0:Int)<(m:Int)+1:=aq;clear q;cases d:lT (ks xs) (m+1)
     ·rw[d]at g
      have E:=Lib.hid (qg d);clear d;go_wp2_with fail;refine g.out.mono ?_;rintro e x ⟨rfl,h⟩;have a:=Lib.hid (b.out.trans (h.mono b.out.size));clear h;go_wp2;go_roundw
      case rel=>exact⟨m,aq,by first|rfl|go_num,by rw[<-E.out];exact o.out,a.out⟩
      case measure=>simp[intOf]<;>omega
     ·rw[d]at g
      have E:=Lib.hid (mW d);clear d;go_wp2_with fail;refine g.out.mono ?_;rintro e x ⟨rfl,h⟩;have a:=Lib.hid (b.out.trans (h.mono b.out.size));clear h;go_wp2;go_ret;refine⟨yu ?_,a.out⟩;rw[s.out,<-o.out,E.out];omega
end Go.Proofs.YtpidckelbgbbkaaGreatDoor
