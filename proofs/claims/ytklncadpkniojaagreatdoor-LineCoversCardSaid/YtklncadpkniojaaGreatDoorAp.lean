/- Part of LineCovers. -/
import Derived.Test.YtklncadpkniojaaGreatDoorAm
import Derived.Test.YtklncadpkniojaaGreatDoorAf
namespace Go.Proofs.YtklncadpkniojaaGreatDoor
open Go.ChangeShapes Go.WideShapes Go.ChangeAt Go.RowKit Go.Proofs.Tryz
open Go renaming World->ahh,Calls->ahk
open Go.Value renaming int->ae
open Go.IntKind renaming i64->aj
set_option linter.all false
set_option maxRecDepth 100000
set_option maxHeartbeats 16000000
def iX(r:Int):Int:=(a7 r).bN
def ks(xs:aC):aC:=xs.map iX
theorem nY(xs:aC):(ks xs).length=xs.length:=by simp[ks]
theorem rW{xs:aC}{i:Nat}(h:i<xs.length):nth (ks xs) i=iX (nth xs i):=by
 unfold nth ks;simp[h]
theorem jI(r:Int)(b: -2147483648<=r)(f:r<=2147483647)(w:ahh)(c:Laid w):
 ahk prog 314 #[.int .i32 r] w fun e d=>e=.returned (ae aj (iX r))/\az w d:=by
 have O:=Lib.hid (lP r b f w c);go_enter func314,ntmps314;go_wp2_with fail;refine O.out.mono ?_;rintro e g ⟨rfl,a⟩;go_wp2;go_ret;exact⟨rfl,a⟩
theorem Iu(c:Int)(w:ahh):ahk prog 315 #[ae aj c] w fun e a=>e=.returned (.bool (jN c))/\az w a:=by
 go_enter func315,ntmps315;go_wp2
 all_goals go_ret
 all_goals refine⟨mr ?_,Below.refl _ _⟩
 all_goals try simp only[beq_iff_eq,beq_eq_false_iff_ne]at*
 all_goals simp_all[jN]
theorem No(a b:Int)(w:ahh):ahk prog 316 #[ae aj a,ae aj b] w fun e c=>e=.returned (.bool (um a b))/\az w c:=by
 go_enter func316,ntmps316;go_wp2
 all_goals go_ret
 all_goals refine⟨mr ?_,Below.refl _ _⟩
 all_goals try simp only[beq_iff_eq,beq_eq_false_iff_ne]at*
 all_goals simp_all[um]
theorem MU(A:aA)(n c:Nat)(xs:aC)(m:Nat)(K:m<n)(w:ahh)(r:aM .i32 w A n c xs)(B:Laid w)(hn:n<=140737488355328):
 ahk prog 317 #[.slice A n c,ae aj ((m:Int)+1)] w fun e x=>e=.returned (.bool (iX (nth xs m)==5&&ia (ks xs) m))/\az w x:=by
 have J:=Lib.hid r;have Q:=Lib.hid B;have t:=Lib.hid r.at_.len;obtain⟨Z,rfl,N,f⟩:=r.at_.2 ak;have F:=f m K;obtain⟨P,g2⟩:=bounds_i32 (r.dt K);have u:=Lib.hid (jI (nth xs m) P g2 w B);clear r B f P g2;by_cases z:iX (nth xs m)=5
 .rw[z]at u⊢
  clear z;go_enter func317,ntmps317;go_wp2_with fail;refine u.out.mono ?_;rintro e V ⟨rfl,y⟩;have U:=Lib.hid y;clear y u F;go_wp2;go_loopw [5] (fun v wr=>∃j:Nat,j<=m/\((j=0/\v=ae aj (-1))∨(0<j/\v=ae aj ((j-1:Nat):Int)))/\ia (ks xs) j=ia (ks xs) m/\az w wr) (fun v _=>(intOf v+1).toNat)
  case atStart=>
   refine⟨m,Nat.le_refl _, ?_,rfl,U.out⟩;rcases Nat.eq_zero_or_pos m with h|h
   .subst h;exact .inl ⟨rfl,nS⟩
   .exact .inr ⟨h,Ik⟩
  case round=>
   obtain⟨j,hj,b,g,s⟩:=hrel;have d:=Lib.hid g;have o:=Lib.hid s;clear g;rcases b with⟨rfl,rfl⟩|⟨R,rfl⟩
   .go_wp2
    go_ret;refine⟨mr ?_,o.out⟩;rw[<-d.out];simp[ia]
   .obtain⟨q,rfl⟩:∃q,j=q+1:=⟨j-1,ak⟩
    simp only[Nat.add_sub_cancel];have k:q<n:=ak;obtain⟨O,M⟩:=bounds_i32 (J.out.dt k);obtain⟨E,C,S,p⟩:=(J.out.at_.below s).2 ak;have T:=p q k;have D:=Lib.hid (fun x (s:az w x)=>jI (nth xs q) O M x (Q.out.ar s));have I:=rW (xs:=xs) (i:=q) (by rw[t.out];exact k);have l:ia (ks xs) (q+1)=if nth (ks xs) q==4 then ia (ks xs) q else nth (ks xs) q==14:=rfl
    rw[I]at l;rw[l]at d;generalize iX (nth xs q)=L at*;generalize nth xs q=rq at*;clear p O M I l s;obtain rfl:Z=E:=Option.some.inj C;by_cases H:L=4
    .subst H
     go_wp2_with fail;refine(D.out _ o.out).mono ?_;rintro e X ⟨rfl,b⟩;have a:=Lib.hid (o.out.trans (b.mono o.out.size));clear b;go_wp2;go_roundw
     case rel=>
      refine⟨q,ak, ?_,by have:=d.out;simpa using this,a.out⟩;rcases Nat.eq_zero_or_pos q with h|h
      .subst h;exact .inl ⟨rfl,nS⟩
      .exact .inr ⟨h,Ik⟩
     case measure=>simp[intOf]<;>omega
    .have W:((L:Int)==4)=false:=by simpa using H
     clear H;go_wp2_with fail;refine(D.out _ o.out).mono ?_;rintro e X ⟨rfl,b⟩;have a:=Lib.hid (o.out.trans (b.mono o.out.size));have pZ:=au T b;clear b;go_wp2_with fail;refine(D.out _ a.out).mono ?_;rintro e w3 ⟨rfl,b⟩;have G:=Lib.hid (a.out.trans (b.mono a.out.size));clear b;go_wp2;go_ret;refine⟨mr ?_,G.out⟩;rw[<-d.out,W];simp
 .have Y:((iX (nth xs m):Int)==5)=false:=by simpa using z
  rw[Y];clear z;generalize iX (nth xs m)=cm at*;go_enter func317,ntmps317;go_wp2_with fail;refine u.out.mono ?_;rintro e V ⟨rfl,y⟩;go_wp2;go_ret;exact⟨rfl,y⟩
theorem Qr(A:aA)(n c:Nat)(xs:aC)(i:Nat)(M:i<=n)(w:ahh)(p:aM .i32 w A n c xs)(u:Laid w)(R:n<=140737488355328):
 ahk prog 318 #[.slice A n c,ae aj (i:Int)] w fun e F=>e=.returned (.bool (mj (ks xs) i%2==1))/\az w F:=by
 have y:=Lib.hid p;have E:=Lib.hid u;have m:=Lib.hid p.at_.len;clear p u;go_enter func318,ntmps318;go_wp2;go_loopw [5] (fun v wr=>∃q:Nat,q<=i/\v=ae aj q/\mj (ks xs) i=q+mj (ks xs) (i-q)/\az w wr) (fun v _=>i-(intOf v).toNat)
 case atStart=>exact⟨0,Nat.zero_le _,rfl,aQ,Below.refl _ _⟩
 case round=>
  obtain⟨q,K,rfl,a,h⟩:=hrel;by_cases H:q<i
  .obtain⟨r,o⟩:∃r,i-q=r+1:=⟨i-q-1,ak⟩
   rw[o]at a;have d:r<n:=ak;have Q:(i:Int)-1-(q:Int)=(r:Int):=ak;have N:=aU q i;obtain⟨D,C⟩:=bounds_i32 (y.out.dt d);obtain⟨O,rfl,G,k⟩:=(y.out.at_.below h).2 ak;have L:=k r d;have z:=Lib.hid (jI (nth xs r) D C wr (E.out.ar h));have x:=rW (xs:=xs) (i:=r) (by rw[m.out];exact d);have g:mj (ks xs) (r+1)=if nth (ks xs) r==6 then mj (ks xs) r+1 else 0:=rfl
   rw[x]at g;rw[g]at a;have P:=Lib.hid o;generalize iX (nth xs r)=B at*;generalize nth xs r=rq at*;have j:=Lib.hid h;clear k D C x g h o;by_cases s:B=6
   .subst s
    simp only[beq_self_eq_true,if_true]at a;have b:=Lib.hid a;clear a;go_wp2_with fail;refine z.out.mono ?_;rintro e J ⟨rfl,l⟩;have f:=Lib.hid (j.out.trans (l.mono j.out.size));clear l;go_wp2;go_roundw
    case rel=>exact⟨q+1,ak,nS,by rw[b.out,show i-(q+1)=r by omega];omega,f.out⟩
    case measure=>simp[intOf]<;>omega
   .have I:((B:Int)==6)=false:=by simpa using s
    rw[I]at a;simp only[Bool.false_eq_true,if_false]at a;have b:=Lib.hid a;clear s a;go_wp2_with fail;refine z.out.mono ?_;rintro e J ⟨rfl,l⟩;have f:=Lib.hid (j.out.trans (l.mono j.out.size));clear l;go_wp2;go_ret;refine⟨mr ?_,f.out⟩;rw[b.out,Bool.eq_iff_iff];simp;omega
  .obtain rfl:q=i:=by omega
   rw[Nat.sub_self]at a;have t:mj (ks xs) 0=0:=rfl;rw[t]at a;have b:=Lib.hid a;have j:=Lib.hid h
   skip
   clear a t h;go_wp2;go_ret;refine⟨mr ?_,j.out⟩;rw[b.out,Bool.eq_iff_iff];simp;omega
theorem lV(r:Int)(b: -2147483648<=r)(d:r<=2147483647)(w:ahh):
 ahk prog 200 #[.int .i32 r] w fun e c=>e=.returned (ae aj (iX r))/\az w c:=by
 have O:=Lib.hid (fD r b d w);go_enter func200,ntmps200;go_wp2_with fail;refine O.out.mono ?_;rintro e f ⟨rfl,a⟩;go_wp2;go_ret;exact⟨rfl,a⟩
theorem Jt(c:Int)(w:ahh):ahk prog 202 #[ae aj c] w fun e a=>e=.returned (.bool (jN c))/\az w a:=by
 go_enter func202,ntmps202;go_wp2
 all_goals go_ret
 all_goals refine⟨mr ?_,Below.refl _ _⟩
 all_goals try simp only[beq_iff_eq,beq_eq_false_iff_ne]at*
 all_goals simp_all[jN]
theorem Pq(a b:Int)(w:ahh):ahk prog 201 #[ae aj a,ae aj b] w fun e c=>e=.returned (.bool (um a b))/\az w c:=by
 go_enter func201,ntmps201;go_wp2
 all_goals go_ret
 all_goals refine⟨mr ?_,Below.refl _ _⟩
 all_goals try simp only[beq_iff_eq,beq_eq_false_iff_ne]at*
 all_goals simp_all[um]
theorem NZ(A:aA)(n c:Nat)(xs:aC)(m:Nat)(P:m<=n)(w:ahh)(u:aM .i32 w A n c xs)(R:n<=140737488355328):
 ahk prog 203 #[.slice A n c,ae aj (m:Int)] w fun e r=>e=.returned (.bool (ia (ks xs) m))/\az w r:=by
 have C:=Lib.hid u;have p:=Lib.hid u.at_.len;have J:=Lib.hid (Below.refl w.heap.size w);clear u;go_enter func203,ntmps203;go_wp2;go_loopw [1] (fun v wr=>∃j:Nat,j<=m/\((j=0/\v=ae aj (-1))∨(0<j/\v=ae aj ((j-1:Nat):Int)))/\ia (ks xs) j=ia (ks xs) m/\az w wr) (fun v _=>(intOf v+1).toNat)
 case atStart=>
  refine⟨m,Nat.le_refl _, ?_,rfl,J.out⟩;rcases Nat.eq_zero_or_pos m with g|g
  .subst g;exact .inl ⟨rfl,nS⟩
  .exact .inr ⟨g,Ik⟩
 case round=>
  obtain⟨j,O,b,f,s⟩:=hrel;have d:=Lib.hid f;have l:=Lib.hid s;clear f;rcases b with⟨rfl,rfl⟩|⟨G,rfl⟩
  .go_wp2
   go_ret;refine⟨mr ?_,l.out⟩;rw[<-d.out];simp[ia]
  .obtain⟨q,rfl⟩:∃q,j=q+1:=⟨j-1,ak⟩
   simp only[Nat.add_sub_cancel];have h:q<n:=ak;obtain⟨F,E⟩:=bounds_i32 (C.out.dt h);obtain⟨M,t,H,o⟩:=(C.out.at_.below s).2 ak;have I:=o q h;have x:=Lib.hid (fun r (s:az w r)=>lV (nth xs q) F E r);have B:=rW (xs:=xs) (i:=q) (by rw[p.out];exact h);have k:ia (ks xs) (q+1)=if nth (ks xs) q==4 then ia (ks xs) q else nth (ks xs) q==14:=rfl
   rw[B]at k;rw[k]at d;generalize iX (nth xs q)=D at*;generalize nth xs q=rq at*;clear o F E B k s;subst t;by_cases z:D=4
   .subst z
    go_wp2_with fail;refine(x.out _ l.out).mono ?_;rintro e L ⟨rfl,b⟩;have a:=Lib.hid (l.out.trans (b.mono l.out.size));clear b;go_wp2;go_roundw
    case rel=>
     refine⟨q,ak, ?_,by have:=d.out;simpa using this,a.out⟩;rcases Nat.eq_zero_or_pos q with g|g
     .subst g;exact .inl ⟨rfl,nS⟩
     .exact .inr ⟨g,Ik⟩
    case measure=>simp[intOf]<;>omega
   .have K:((D:Int)==4)=false:=by simpa using z
    clear z;go_wp2_with fail;refine(x.out _ l.out).mono ?_;rintro e L ⟨rfl,b⟩;have a:=Lib.hid (l.out.trans (b.mono l.out.size));have N:=au I b;clear b;go_wp2_with fail;refine(x.out _ a.out).mono ?_;rintro e Q ⟨rfl,b⟩;have y:=Lib.hid (a.out.trans (b.mono a.out.size));clear b;go_wp2;go_ret;refine⟨mr ?_,y.out⟩;rw[<-d.out,K];simp
theorem Me(A:aA)(n c:Nat)(xs:aC)(i:Nat)(L:i<=n)(w:ahh)(p:aM .i32 w A n c xs)(Q:n<=140737488355328):
 ahk prog 204 #[.slice A n c,ae aj (i:Int)] w fun e D=>e=.returned (ae aj ((mj (ks xs) i:Nat):Int))/\az w D:=by
 have x:=Lib.hid p;have l:=Lib.hid p.at_.len;clear p;go_enter func204,ntmps204;go_wp2;go_loopw [5] (fun v wr=>∃q:Nat,q<=i/\v=ae aj q/\mj (ks xs) i=q+mj (ks xs) (i-q)/\az w wr) (fun v _=>i-(intOf v).toNat)
 case atStart=>exact⟨0,Nat.zero_le _,rfl,aQ,Below.refl _ _⟩
 case round=>
  obtain⟨q,J,rfl,a,m⟩:=hrel;by_cases G:q<i
  .obtain⟨r,o⟩:∃r,i-q=r+1:=⟨i-q-1,ak⟩
   rw[o]at a;have d:r<n:=ak;have P:(i:Int)-(q:Int)=(r:Int)+1:=ak;have M:(0:Int)<(r:Int)+1:=ak;obtain⟨C,B⟩:=bounds_i32 (x.out.dt d);obtain⟨N,rfl,E,j⟩:=(x.out.at_.below m).2 ak;have K:=j r d;have y:=Lib.hid (lV (nth xs r) C B wr);have u:=rW (xs:=xs) (i:=r) (by rw[l.out];exact d);have g:mj (ks xs) (r+1)=if nth (ks xs) r==6 then mj (ks xs) r+1 else 0:=rfl
   rw[u]at g;rw[g]at a;have O:=Lib.hid o;generalize iX (nth xs r)=z at*;generalize nth xs r=rq at*;have h:=Lib.hid m;clear j C B u g m o;by_cases s:z=6
   .subst s
    simp only[beq_self_eq_true,if_true]at a;have b:=Lib.hid a;clear a;go_wp2_with fail;refine y.out.mono ?_;rintro e I ⟨rfl,k⟩;have f:=Lib.hid (h.out.trans (k.mono h.out.size));clear k;go_wp2;go_roundw
    case rel=>exact⟨q+1,ak,nS,by rw[b.out,show i-(q+1)=r by omega];omega,f.out⟩
    case measure=>simp[intOf]<;>omega
   .have H:((z:Int)==6)=false:=by simpa using s
    rw[H]at a;simp only[Bool.false_eq_true,if_false]at a;have b:=Lib.hid a;clear s a;go_wp2_with fail;refine y.out.mono ?_;rintro e I ⟨rfl,k⟩;have f:=Lib.hid (h.out.trans (k.mono h.out.size));clear k;go_wp2;go_ret;refine⟨Aa ?_,f.out⟩;rw[b.out];simp
  .obtain rfl:q=i:=by omega
   rw[Nat.sub_self]at a;have t:mj (ks xs) 0=0:=rfl;rw[t]at a;have b:=Lib.hid a;have h:=Lib.hid m;have F:(q:Int)-(q:Int)=0:=ak;clear a t m;go_wp2;go_ret;refine⟨Aa ?_,h.out⟩;rw[b.out];simp
theorem CM(A:aA)(n c:Nat)(xs:aC)(m:Nat)(u:m+1<n)(w:ahh)(l:aM .i32 w A n c xs)(H:Laid w)(E:n<=140737488355328):
 ahk prog 294 #[.slice A n c,ae aj ((m:Int)+1)] w fun e g=>e=.returned (.bool (kK (ks xs) (m+1)))/\az w g:=by
 have t:=Lib.hid l;have r:=Lib.hid H;have f:=Lib.hid l.at_.len;obtain⟨C,rfl,J,k⟩:=l.at_.2 ak;have z:=k m ak;have j:=k (m+1) u;rw[add_succ]at j;obtain⟨P,g2⟩:=bounds_i32 (l.dt (i:=m) ak);obtain⟨F,M⟩:=bounds_i32 (l.dt u);have B:=Lib.hid (fun N:aG w=>jI (nth xs m) P g2 N.1 (r.out.ar N.2));have D:=Lib.hid (fun N:aG w=>jI (nth xs (m+1)) F M N.1 (r.out.ar N.2));have q:=Lib.hid (fun g (p:az w g)=>MU (some C) n c xs m ak g (t.out.ar p) (r.out.ar p) E);have h:=Lib.hid (fun g (p:az w g)=>Qr (some C) n c xs (m+1) ak g (t.out.ar p) (r.out.ar p) E);have O:((m+1:Nat):Int)=(m:Int)+1:=ak;rw[O]at h;have I:kK (ks xs) (m+1)=pO (iX (nth xs m)) (iX (nth xs (m+1))) (ia (ks xs) m) (mj (ks xs) (m+1)%2==1):=by
  unfold kK;rw[Nat.add_sub_cancel,rW (by rw[f.out];omega),rW (by rw[f.out];exact u)]
 rw[I];have K:=ie m;have y:(m:Int)+1<(n:Int):=ak;generalize iX (nth xs m)=a at*;generalize iX (nth xs (m+1))=b at*;generalize nth xs m=Q at*;generalize nth xs (m+1)=rb at*;generalize ia (ks xs) m=G at*;generalize mj (ks xs) (m+1)=R at*;have⟨k0,k1⟩:=lc2 z j;rw[<-Qz];go_enter func294,ntmps294;go_wp2;refine bQ aF aF ?_
 repeat(go_big_quiet_step ((first|(go_at_call 314;with_reducible exact dG (B.out _))|(go_at_call 314;with_reducible exact dG (D.out _)))))
 refine wpQuiet_nil ?_;intro _ s;obtain⟨L,o⟩:=s;subst o;have x:=L.2;go_wp2_with (first
  |(go_at_call 315;refine(Iu _ _).mono ?_;rintro e v ⟨rfl,d⟩;replace x:=x.trans (d.mono x.size);clear d)
  |(go_at_call 316;refine(No _ _ _).mono ?_;rintro e v ⟨rfl,d⟩;replace x:=x.trans (d.mono x.size);clear d)
  |(go_at_call 317;refine(q.out _ x).mono ?_;rintro e v ⟨rfl,d⟩;replace x:=x.trans (d.mono x.size);clear d)
  |(go_at_call 318;refine(h.out _ x).mono ?_;rintro e v ⟨rfl,d⟩;replace x:=x.trans (d.mono x.size);clear d))
 all_goals go_ret
 all_goals refine⟨mr ?_,x⟩
 all_goals clear x B D q h t f K y
 all_goals try simp only[beq_iff_eq,beq_eq_false_iff_ne]at*
 all_goals simp_all[Py]
theorem Dg(A:aA)(n c:Nat)(xs:aC)(m:Nat)(s:m+1<n)(w:ahh)(l:aM .i32 w A n c xs)(E:n<=140737488355328):
 ahk prog 116 #[.slice A n c,ae aj ((m:Int)+1)] w fun e g=>e=.returned (.bool (kK (ks xs) (m+1)))/\az w g:=by
 have r:=Lib.hid l;have f:=Lib.hid l.at_.len;obtain⟨C,rfl,I,k⟩:=l.at_.2 ak;have y:=k m ak;have j:=k (m+1) s;rw[add_succ]at j;obtain⟨O,g2⟩:=bounds_i32 (l.dt (i:=m) ak);obtain⟨F,L⟩:=bounds_i32 (l.dt s);have z:=Lib.hid (fun N:aG w=>lV (nth xs m) O g2 N.1);have D:=Lib.hid (fun N:aG w=>lV (nth xs (m+1)) F L N.1);have p:=Lib.hid (fun g (u:az w g)=>NZ (some C) n c xs m ak g (r.out.ar u) E);have h:=Lib.hid (fun g (u:az w g)=>Me (some C) n c xs (m+1) ak g (r.out.ar u) E);have M:((m+1:Nat):Int)=(m:Int)+1:=ak;rw[M]at h;have H:kK (ks xs) (m+1)=pO (iX (nth xs m)) (iX (nth xs (m+1))) (ia (ks xs) m) (mj (ks xs) (m+1)%2==1):=by
  unfold kK;rw[Nat.add_sub_cancel,rW (by rw[f.out];omega),rW (by rw[f.out];exact s)]
 rw[H];have J:=ie m;have t:(m:Int)+1<(n:Int):=ak;generalize iX (nth xs m)=a at*;generalize iX (nth xs (m+1))=b at*;generalize nth xs m=P at*;generalize nth xs (m+1)=rb at*;generalize ia (ks xs) m=G at*;generalize mj (ks xs) (m+1)=B at*;have⟨k0,k1⟩:=lc2 y j;have Q:(((B:Nat):Int)%2==1)=(B%2==1):=by rw[Bool.eq_iff_iff];simp;omega
 go_enter func116,ntmps116;go_wp2;refine bQ aF aF ?_
 repeat(go_big_quiet_step ((first|(go_at_call 200;with_reducible exact dG (z.out _))|(go_at_call 200;with_reducible exact dG (D.out _)))))
 refine wpQuiet_nil ?_;intro _ q;obtain⟨K,o⟩:=q;subst o;have x:=K.2;go_wp2_with (first
  |(go_at_call 202;refine(Jt _ _).mono ?_;rintro e v ⟨rfl,d⟩;replace x:=x.trans (d.mono x.size);clear d)
  |(go_at_call 201;refine(Pq _ _ _).mono ?_;rintro e v ⟨rfl,d⟩;replace x:=x.trans (d.mono x.size);clear d)
  |(go_at_call 203;refine(p.out _ x).mono ?_;rintro e v ⟨rfl,d⟩;replace x:=x.trans (d.mono x.size);clear d)
  |(go_at_call 204;refine(h.out _ x).mono ?_;rintro e v ⟨rfl,d⟩;replace x:=x.trans (d.mono x.size);clear d))
 all_goals go_ret
 all_goals refine⟨mr ?_,x⟩
 all_goals clear x z D p h r f J t
 all_goals try simp only[beq_iff_eq,beq_eq_false_iff_ne]at*
 all_goals simp_all[pO]
end Go.Proofs.YtklncadpkniojaaGreatDoor
