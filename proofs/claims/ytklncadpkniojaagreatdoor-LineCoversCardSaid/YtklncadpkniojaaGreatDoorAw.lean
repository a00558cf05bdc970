/- Part of LineCovers. -/
import Derived.Test.YtklncadpkniojaaGreatDoorAp
import Derived.Test.YtklncadpkniojaaGreatDoorAj
import Derived.Deep.RegionLaw
import Derived.IntWalk
namespace Go.Proofs.YtklncadpkniojaaGreatDoor
open Go.ChangeShapes Go.WideShapes Go.ChangeAt Go.RowKit Go.Proofs.Tryz
open Go renaming World->ahh,Value->ahj,Calls->ahk,TypeId->ahm,Ending->ahn
open Go.Value renaming int->ae
open Go.IntKind renaming i64->aj
set_option linter.all false
set_option maxRecDepth 100000
set_option maxHeartbeats 16000000
variable{l:aC}{w:ahh}{B c n:Nat}{e:ahm}
theorem TIg:aR prog 39 3 1 8:=bu underlying39 (z:=ae aj 0) aF rfl ak ak
theorem TCg:aR prog 57 64 2 16:=bu underlying57 (z:=.agg #[ae aj 0,ae aj 0]) aF rfl ak ak
theorem pv(l:aC)(k:Nat):Ks l (k:Int)=mz l k:=by simp[Ks]
theorem FN{i:Int}(h:i<0):Ks l i=false:=by simp[Ks];omega
theorem FD{i:Int}(h:(l.length:Int)<i):Ks l i=false:=by
 obtain⟨k,rfl⟩:∃k:Nat,i=k:=⟨i.toNat,ak⟩;rw[pv,Te ak]
theorem GV(h:l.length=0)(i:Int):Ks l i=false:=by
 have:=List.eq_nil_of_length_eq_zero h;subst this;unfold Ks;rw[VF];simp
def uG(w:ahh)(ps:List (Nat×Nat))(r:ahn)(a:ahh):Prop:=
 ∃(A:aA) (c:Nat),r=.returned (.slice A ps.length c)/\aw a w.heap.size 64 2 A ps.length c (dx ps)/\az w a
theorem fX(w:ahh)(a b:ahj)(t:ahm):∀j u,[a,b][j]? =some u->(w.alloc (.cells #[a,b] t)).cell? ⟨w.heap.size,j,none⟩=some u:=by
 intro j u h;rw[cell_of_row _ _ _ _ _ _ (heap_alloc_new w _)];simpa using h
theorem lC(a b:Int):∀u∈[ae aj a,ae aj b],u.oneCell'=true:=by
 intro u c;simp at c;rcases c with rfl|rfl<;>rfl
theorem iB{g:Nat}{k:IntKind}{xs:aC}(h:Own w B e k (some ⟨g,0,none⟩) n c xs){j:Nat}(hj:j<n):w.cell? ⟨g,j,none⟩=some (.int k (nth xs j)):=by
 rw[aw.cellAt h j ak];have:j<xs.length:=Ij;rw[List.getElem?_map,List.getElem?_eq_getElem this,cB this];rfl
theorem D8{b:Nat}{k:IntKind}{A:aA}{xs a:aC}(h:Own w B e k A n c xs)(f:xs=a)(d:n=b):Own w B e k A b c a:=by subst f;subst d;exact h
theorem Own.acw{a size:Nat}{A:aA}{vs:List ahj}(h:aw w B e size A n c vs)(i:a<=B):aw w a e size A n c vs:=by
 refine⟨h.1, ?_⟩;rcases h.2 with d|⟨g,cap,cur,b,f,r⟩
 .exact .inl d
 .exact .inr ⟨g,cap,cur,b,ak,r⟩
theorem Wv(A:aA)(n c:Nat)(xs:aC)(i:Int)(w:ahh)(p:aM .i32 w A n c xs)(r:Laid w)(y:n<=140737488355328):
 ahk prog 257 #[.slice A n c,ae aj i] w fun e s=>e=.returned (.bool (Ks (ks xs) i))/\az w s:=by
 have u:=Lib.hid p;have q:=Lib.hid r;have a:=Lib.hid p.at_.len;have g:=Lib.hid (nY xs);by_cases x:n=0
 .subst x
  rw[GV (by rw[g.out,a.out])]
  skip
  go_enter func257,ntmps257;go_wp2;go_ret;exact⟨rfl,Below.refl _ _⟩
 .have B:((n:Int)==0)=false:=pI
  by_cases d:i<0
  .rw[FN d]
   go_enter func257,ntmps257;go_wp2;go_ret;exact⟨rfl,Below.refl _ _⟩
  .by_cases f:(n:Int)<i
   .rw[FD (by rw[g.out,a.out];exact f)]
    go_enter func257,ntmps257;go_wp2;go_ret;exact⟨rfl,Below.refl _ _⟩
   .obtain⟨k,rfl⟩:∃k:Nat,i=k:=⟨i.toNat,ak⟩
    rw[pv];by_cases j:k=0
    .subst j
     rw[oS (by rw[g.out,a.out];omega)];have C:¬(n:Int)<0:=ak;go_enter func257,ntmps257;go_wp2;go_ret;exact⟨rfl,Below.refl _ _⟩
    .by_cases l:k=n
     .subst l
      have h:=xK (ks:=ks xs) (by rw[g.out,a.out];omega);rw[g.out,a.out]at h;rw[h];go_enter func257,ntmps257;go_wp2;go_ret;exact⟨rfl,Below.refl _ _⟩
     .obtain⟨m,rfl⟩:∃m,k=m+1:=⟨k-1,ak⟩
      have o:m+1<n:=ak;rw[Fw ak (by rw[g.out,a.out];exact o)];have h:((m+1:Nat):Int)=(m:Int)+1:=ak;rw[h]at d f⊢;have E:(((m:Int)+1)==0)=false:=gZ;have z:(((m:Int)+1)==(n:Int))=false:=gZ;have v:=Lib.hid (CM A n c xs m o w u.out q.out y);generalize kK (ks xs) (m+1)=b at*;go_enter func257,ntmps257;go_wp2_with fail;refine v.out.mono ?_;rintro e D ⟨rfl,t⟩;go_wp2;go_ret;exact⟨mr aQ,t⟩
theorem Ln(A:aA)(n c:Nat)(xs:aC)(k:Nat)(w:ahh)(d:aM .i32 w A n c xs)(b:Laid w)(a:n<=140737488355328):
 ahk prog 257 #[.slice A n c,ae aj (k:Int)] w fun e f=>e=.returned (.bool (mz (ks xs) k))/\az w f:=by
 have h:=Wv A n c xs k w d b a;rw[pv]at h;exact h
theorem tf(A:aA)(n c:Nat)(xs:aC)(i:Int)(w:ahh)(p:aM .i32 w A n c xs)(s:n<=140737488355328):
 ahk prog 52 #[.slice A n c,ae aj i] w fun e q=>e=.returned (.bool (Ks (ks xs) i))/\az w q:=by
 have t:=Lib.hid p;have a:=Lib.hid p.at_.len;have g:=Lib.hid (nY xs);by_cases v:n=0
 .subst v
  rw[GV (by rw[g.out,a.out])]
  skip
  go_enter func52,ntmps52;go_wp2;go_ret;exact⟨rfl,Below.refl _ _⟩
 .have y:((n:Int)==0)=false:=pI
  by_cases d:i<0
  .rw[FN d]
   go_enter func52,ntmps52;go_wp2;go_ret;exact⟨rfl,Below.refl _ _⟩
  .by_cases f:(n:Int)<i
   .rw[FD (by rw[g.out,a.out];exact f)]
    go_enter func52,ntmps52;go_wp2;go_ret;exact⟨rfl,Below.refl _ _⟩
   .obtain⟨k,rfl⟩:∃k:Nat,i=k:=⟨i.toNat,ak⟩
    rw[pv];by_cases l:k=0
    .subst l
     rw[oS (by rw[g.out,a.out];omega)];have B:¬(n:Int)<0:=ak;go_enter func52,ntmps52;go_wp2;go_ret;exact⟨rfl,Below.refl _ _⟩
    .by_cases j:k=n
     .subst j
      have h:=xK (ks:=ks xs) (by rw[g.out,a.out];omega);rw[g.out,a.out]at h;rw[h];go_enter func52,ntmps52;go_wp2;go_ret;exact⟨rfl,Below.refl _ _⟩
     .obtain⟨m,rfl⟩:∃m,k=m+1:=⟨k-1,ak⟩
      have o:m+1<n:=ak;rw[Fw ak (by rw[g.out,a.out];exact o)];have h:((m+1:Nat):Int)=(m:Int)+1:=ak;rw[h]at d f⊢;have z:(((m:Int)+1)==0)=false:=gZ;have x:(((m:Int)+1)==(n:Int))=false:=gZ;have u:=Lib.hid (Dg A n c xs m o w t.out s);generalize kK (ks xs) (m+1)=b at*;go_enter func52,ntmps52;go_wp2_with fail;refine u.out.mono ?_;rintro e C ⟨rfl,r⟩;go_wp2;go_ret;exact⟨mr aQ,r⟩
theorem Nd(A:aA)(n c:Nat)(xs:aC)(k:Nat)(w:ahh)(b:aM .i32 w A n c xs)(a:n<=140737488355328):
 ahk prog 52 #[.slice A n c,ae aj (k:Int)] w fun e d=>e=.returned (.bool (mz (ks xs) k))/\az w d:=by
 have h:=tf A n c xs k w b a;rw[pv]at h;exact h
theorem rE(A:aA)(n c:Nat)(xs:aC)(w:ahh)(r:aM .i32 w A n c xs)(Q:(n+1)*8<=140737488355328):
 ahk prog 98 #[.slice A n c] w (lN w 3 .i64 (de (ks xs)).length (bounds (ks xs))):=by
 have H:=Lib.hid r;have g:=Lib.hid r.at_.len;have t:=Lib.hid (nY xs);have M:=Lib.hid (fun k x (p:az w x)=>Nd A n c xs k x (H.out.ar p) ak);clear r;go_enter func98,ntmps98;go_wp2;go_loopw [3,4] (fun u v wr=>∃(k:Nat) (m:aA) (c':Nat),k<=n+1/\v=ae aj k/\u=.slice m (fG (ks xs) k).length c'/\Own wr w.heap.size 3 .i64 m (fG (ks xs) k).length c' (DT (ks xs) k)/\az w wr) (fun _ v _=>n+1-(intOf v).toNat)
 case atStart=>exact⟨0,none,0,Nat.zero_le _,rfl,rfl,Own.nil _ _ _ _,Below.refl _ _⟩
 case round=>
  obtain⟨k,m,c',R,rfl,rfl,C,p⟩:=hrel;have q:=Lib.hid C;have l:=Lib.hid p;have F:=lB (ks xs) k;clear C p;by_cases K:k<n+1
  .have N:(k:Int)<(n:Int)+1:=by omega
   have P:(k:Int)<=(n:Int):=ak;have O:k<=n:=ak;have o:=Lib.hid (M.out k);cases f:mz (ks xs) k
   .rw[f]at o
    have d:=Lib.hid (ye f);have a:=wM (ks xs) k;rw[f]at a;simp only[Bool.false_eq_true,if_false]at a;have i:=Lib.hid a;clear f a;go_wp2_with fail;refine(o.out _ l.out).mono ?_;rintro e I ⟨rfl,j⟩;have b:=Lib.hid (l.out.trans (j.mono l.out.size));have h:=Lib.hid (q.out.ar j);clear j;go_wp2;go_roundw
    case rel=>exact⟨k+1,m,c',ak,nS,by rw[d.out],by rw[d.out,i.out];exact h.out,b.out⟩
    case measure=>simp[intOf]<;>omega
   .rw[f]at o
    have d:=Lib.hid (jP f);have a:=wM (ks xs) k;rw[f]at a;simp only[if_true]at a;have i:=Lib.hid a;clear f a;go_wp2_with fail;refine(o.out _ l.out).mono ?_;rintro e I ⟨rfl,j⟩;have b:=Lib.hid (l.out.trans (j.mono l.out.size));have h:=Lib.hid (q.out.ar j);clear j;go_wp2_with (at_builtin;refine kA TIg rfl (.tmp 14) (.tmp 16) rfl rfl (h.out.alloc _) rfl (y:=(k:Int)) (bh _ _ _) ak (by have:=b.out.size;simp;omega) ?_;intro J c4 G L E);have s:az w G:=(b.out.alloc (by have:=b.out.size;omega) _).trans E;go_roundw
    case rel=>exact⟨k+1,J,c4,ak,nS,by rw[d.out];simp,by rw[d.out,i.out];exact D8 L rfl (by simp),s⟩
    case measure=>simp[intOf]<;>omega
  .obtain rfl:k=n+1:=by omega
   have N:¬((n:Int)+1<=(n:Int)):=ak;have D:de (ks xs)=fG (ks xs) (n+1):=by unfold de;rw[t.out,g.out]
   have z:bounds (ks xs)=DT (ks xs) (n+1):=by unfold bounds;rw[t.out,g.out]
   have d:=Lib.hid D;have a:=Lib.hid z;have B:((n+1:Nat):Int)=(n:Int)+1:=ak;rw[B];clear D z B;go_wp2;go_ret;exact⟨m,c',by rw[d.out];rfl,by rw[d.out,a.out];exact q.out,l.out⟩
theorem wj(A:aA)(n c:Nat)(xs:aC)(w:ahh)(y:aM .i32 w A n c xs)(Y:(n+1)*16<=140737488355328):
 ahk prog 43 #[.slice A n c] w (uG w (uH (ks xs))):=by
 have D:=Lib.hid (nY xs);have M:(ks xs).length=n:=by rw[D.out];exact y.at_.len
 have PB:=Lib.hid (rE A n c xs w y ak);have eB:fG (ks xs) (n+1)=fG (ks xs) (n+1):=rfl;have⟨bs,b⟩:=eY (de (ks xs));have V:(fG (ks xs) (n+1)).length<=n+1:=lB _ _;have z:bs.length<=n+1∨True:=.inr trivial;rw[CG,b]at PB;unfold uH;rw[b];have⟨m,i⟩:=eY bs.length;have E:=Lib.hid i;rw[i]at PB⊢;have G:m<=n+1:=by
  have:=lB (ks xs) ((ks xs).length+1);have P:fG (ks xs) ((ks xs).length+1)=bs:=b;rw[P,i]at this;omega
 go_enter func43,ntmps43;go_wp2_with fail;refine PB.out.mono ?_;rintro e o ⟨W,U,rfl,l,f⟩;have J:=Lib.hid l;have s:=Lib.hid f;have a:=f.size;go_wp2;go_loopw [3,5] (fun u v wr=>∃(k:Nat) (h:aA) (c':Nat),(k+1<=m∨k=0)/\v=ae aj ((k:Int)+1)/\u=.slice h k c'/\aw wr o.heap.size 64 2 h k c' (dx (uj bs k))/\az o wr) (fun _ v _=>m+1-(intOf v).toNat)
 case atStart=>exact⟨0,none,0,.inr rfl,rfl,rfl,aw.nil _ _ _ _,Below.refl _ _⟩
 case round=>
  obtain⟨k,h,c',Z,rfl,rfl,L,B⟩:=hrel;have g:=Lib.hid L;have d:=Lib.hid B;by_cases r:k+1<m
  .have t:=J.out.ar B
   obtain⟨R,rfl,_⟩:=aw.form t ak;have c0:=iB t (j:=k) ak;have H:=iB t (j:=k+1) r;rw[oV (by rw[E.out];omega)]at c0 H;have O:(k:Int)+1<(m:Int):=ak;have Q:=Lib.hid (gO bs k);generalize cZ bs k=p at*;generalize cZ bs (k+1)=q at*;go_wp2;have wk:IntKind.i64.wrap (k:Int)=(k:Int):=IntWalk.i64_in _ ak;have T:=ie k;have S:=aU k m;have X:(0:Int)<=(k:Int)+1:=ak;go_region_law ((refine Ec TCg aB (.tmp 14) (.tmp 25) aB aB ((by first|exact g.out.alloc _|exact aw.drew (g.out.alloc _)|exact aw.alloc (aw.drew g.out) _)) aB (news:=[ae aj (p:Int),ae aj (q:Int)]) rfl (by first|exact fX _ _ _ _|exact fX wr _ _ _) (lC _ _) ak (by have:=d.out.size;simp;omega) ?_;intro K c4 F N C;have x:az o F:=Below.trans (by first|exact(d.out.drew).alloc (by have:=d.out.size;simp;omega) _|exact(d.out.alloc (by have:=d.out.size;omega) _).drew) C))
   all_goals
    go_wp2;go_roundw
    case rel=>
     refine⟨k+1,K,c4,.inl ak,nS,rfl, ?_,x⟩;rw[Q.out,ny,vH];exact N
    case measure=>simp[intOf]<;>omega
  .have O:¬((k:Int)+1<(m:Int)):=by omega
   go_wp2;go_ret;have I:k=m-1:=ak;subst I;exact⟨h,c',by rw[iJ];rfl,by rw[iJ];exact Own.acw g.out a,s.out.trans (d.out.mono a)⟩
def oZ(l:aC)(i:Int):Nat:=mQ l (min i.toNat (l.length+1))
theorem FG{k:Nat}(h:k<(de l).length):cZ (de l) k<=l.length:=by
 have a:cZ (de l) k∈de l:=sY h;have b:=(pG (m:=l.length+1) a).1;omega
theorem IL(A:aA)(n c:Nat)(xs:aC)(i:Int)(w:ahh)(x:aM .i32 w A n c xs)(z:Laid w)(K:(n+1)*16<=140737488355328):
 ahk prog 226 #[.slice A n c,ae aj i] w fun e t=>e=.returned (ae aj ((oZ (ks xs) i:Nat):Int))/\az w t:=by
 have H:=Lib.hid x;have G:=Lib.hid z;have l:=Lib.hid x.at_.len;have B:=Lib.hid (nY xs);have C:=Lib.hid (fun k t (j:az w t)=>Ln A n c xs k t (H.out.ar j) (G.out.ar j) ak);clear x z;by_cases J:i<=0
 .have E:oZ (ks xs) i=0:=by unfold oZ;rw[show min i.toNat ((ks xs).length+1)=0 by omega];rfl
  rw[E];go_enter func226,ntmps226;go_wp2;go_ret;exact⟨rfl,Below.refl _ _⟩
 .by_cases D:(n:Int)+1<i
  .have E:oZ (ks xs) i=mQ (ks xs) (n+1):=by unfold oZ;rw[B.out,l.out,show min i.toNat (n+1)=n+1 by omega]
   have p:=Lib.hid E;clear E;go_enter func226,ntmps226;go_wp2;go_loopw [5] (fun v wr=>∃k:Nat,k<=n/\v=ae aj k/\mQ (ks xs) (k+1)=mQ (ks xs) (n+1)/\az w wr) (fun v _=>(intOf v).toNat)
   case atStart=>exact⟨n,ak,by first|rfl|go_num,rfl,Below.refl _ _⟩
   case round=>
    obtain⟨k,I,rfl,g,j⟩:=hrel;have o:=Lib.hid g;have d:=Lib.hid j;clear g j;rcases Nat.eq_zero_or_pos k with q|q
    .subst q
     have E:=Lib.hid (Gp (ks xs));have u:¬(0:Int)<((0:Nat):Int):=ak;go_wp2;go_ret;refine⟨Aa ?_,d.out⟩;rw[p.out,<-o.out,E.out];rfl
    .obtain⟨m,rfl⟩:∃m,k=m+1:=⟨k-1,ak⟩
     have s:((m+1:Nat):Int)=(m:Int)+1:=ak;have f:=Lib.hid (C.out (m+1) _ d.out);rw[s]at f⊢;have u:(0:Int)<(m:Int)+1:=ak;clear s;cases b:mz (ks xs) (m+1)
     .rw[b]at f
      have E:=Lib.hid (uy b);clear b;go_wp2_with fail;refine f.out.mono ?_;rintro e y ⟨rfl,h⟩;have a:=Lib.hid (d.out.trans (h.mono d.out.size));clear h;go_wp2;go_roundw
      case rel=>exact⟨m,ak,by first|rfl|go_num,by rw[<-E.out];exact o.out,a.out⟩
      case measure=>simp[intOf]<;>omega
     .rw[b]at f
      have E:=Lib.hid (pd b);clear b;go_wp2_with fail;refine f.out.mono ?_;rintro e y ⟨rfl,h⟩;have a:=Lib.hid (d.out.trans (h.mono d.out.size));clear h;go_wp2;go_ret;refine⟨Aa ?_,a.out⟩;rw[p.out,<-o.out,E.out];omega
  .obtain⟨r,rfl⟩:∃r:Nat,i=(r:Int)+1:=⟨(i-1).toNat,ak⟩
   have F:r<=n:=ak;have E:oZ (ks xs) ((r:Int)+1)=mQ (ks xs) (r+1):=by unfold oZ;rw[B.out,l.out,show min ((r:Int)+1).toNat (n+1)=r+1 by omega]
   have p:=Lib.hid E;clear E;go_enter func226,ntmps226;go_wp2;go_loopw [5] (fun v wr=>∃k:Nat,k<=n/\v=ae aj k/\mQ (ks xs) (k+1)=mQ (ks xs) (r+1)/\az w wr) (fun v _=>(intOf v).toNat)
   case atStart=>exact⟨r,ak,by first|rfl|go_num,rfl,Below.refl _ _⟩
   case round=>
    obtain⟨k,I,rfl,g,j⟩:=hrel;have o:=Lib.hid g;have d:=Lib.hid j;clear g j;rcases Nat.eq_zero_or_pos k with q|q
    .subst q
     have E:=Lib.hid (Gp (ks xs));have u:¬(0:Int)<((0:Nat):Int):=ak;go_wp2;go_ret;refine⟨Aa ?_,d.out⟩;rw[p.out,<-o.out,E.out];rfl
    .obtain⟨m,rfl⟩:∃m,k=m+1:=⟨k-1,ak⟩
     have s:((m+1:Nat):Int)=(m:Int)+1:=ak;have f:=Lib.hid (C.out (m+1) _ d.out);rw[s]at f⊢;have u:(0:Int)<(m:Int)+1:=ak;clear s;cases b:mz (ks xs) (m+1)
     .rw[b]at f
      have E:=Lib.hid (uy b);clear b;go_wp2_with fail;refine f.out.mono ?_;rintro e y ⟨rfl,h⟩;have a:=Lib.hid (d.out.trans (h.mono d.out.size));clear h;go_wp2;go_roundw
      case rel=>exact⟨m,ak,by first|rfl|go_num,by rw[<-E.out];exact o.out,a.out⟩
      case measure=>simp[intOf]<;>omega
     .rw[b]at f
      have E:=Lib.hid (pd b);clear b;go_wp2_with fail;refine f.out.mono ?_;rintro e y ⟨rfl,h⟩;have a:=Lib.hid (d.out.trans (h.mono d.out.size));clear h;go_wp2;go_ret;refine⟨Aa ?_,a.out⟩;rw[p.out,<-o.out,E.out];omega
end Go.Proofs.YtklncadpkniojaaGreatDoor
