/- Part of LineBoxes. -/
import Derived.Test.YtpidckelbgbbkaaGreatDoorAl
import Derived.Test.YtpidckelbgbbkaaGreatDoorAe
namespace Go.Proofs.YtpidckelbgbbkaaGreatDoor
open Go.ChangeShapes Go.WideShapes Go.ChangeAt Go.RowKit Go.Proofs.Tryz
open Go.Value renaming int → ae
open Go.IntKind renaming i64 → aj
set_option linter.all false
set_option maxRecDepth 100000
set_option maxHeartbeats 16000000
def vo(r:Int):Int:=(aZ r).bM
def ks(xs:aE):aE:=xs.map vo
theorem nV(xs:aE):(ks xs).length=xs.length:=by simp[ks]
theorem ru{xs:aE}{i:Nat}(h:i<xs.length):nth (ks xs) i=vo (nth xs i):=by
 unfold nth ks;simp[h]
theorem jR(r:Int)(c: -2147483648<=r)(d:r<=2147483647)(w:World)(b:Laid w):
 Calls prog 291 #[.int .i32 r] w fun e f=>e= .returned (ae aj (vo r))/\aA w f:=by
 have O:=Lib.hid (xI r c d w b);go_enter func291,ntmps291;go_wp2_with fail;refine O.out.mono ?_;rintro e g ⟨rfl,a⟩;go_wp2;go_ret;exact⟨rfl,a⟩
theorem JD(c:Int)(w:World):Calls prog 292 #[ae aj c] w fun e a=>e= .returned (.bool (jN c))/\aA w a:=by
 go_enter func292,ntmps292;go_wp2
 all_goals go_ret
 all_goals refine⟨lW ?_,Below.refl _ _⟩
 all_goals try simp only[beq_iff_eq,beq_eq_false_iff_ne]at*
 all_goals simp_all[jN]
theorem MF(a b:Int)(w:World):Calls prog 293 #[ae aj a,ae aj b] w fun e c=>e= .returned (.bool (tT a b))/\aA w c:=by
 go_enter func293,ntmps293;go_wp2
 all_goals go_ret
 all_goals refine⟨lW ?_,Below.refl _ _⟩
 all_goals try simp only[beq_iff_eq,beq_eq_false_iff_ne]at*
 all_goals simp_all[tT]
theorem Mf(A:aC)(n c:Nat)(xs:aE)(m:Nat)(O:m<n)(w:World)(p:aL .i32 w A n c xs)(E:Laid w)(hn:n<=140737488355328):
 Calls prog 294 #[.slice A n c,ae aj ((m:Int)+1)] w fun e y=>e= .returned (.bool (vo (nth xs m)==5&&iz (ks xs) m))/\aA w y:=by
 have I:=Lib.hid p;have HL:=Lib.hid E;have r:=Lib.hid p.at_.len;obtain⟨U,rfl,P,g⟩:=p.at_.2 aq;have F:=g m O;obtain⟨L,g2⟩:=bounds_i32 (p.dF O);have z:=Lib.hid (jR (nth xs m) L g2 w E);clear p E g L g2;by_cases x:vo (nth xs m)=5
 ·rw[x]at z⊢
  clear x;go_enter func294,ntmps294;go_wp2_with fail;refine z.out.mono ?_;rintro e Z ⟨rfl,u⟩;have Y:=Lib.hid u;clear u z F;go_wp2;go_loopw [5] (fun v wr=>∃j:Nat,j<=m/\((j=0/\v=ae aj (-1))∨(0<j/\v=ae aj ((j-1:Nat):Int)))/\iz (ks xs) j=iz (ks xs) m/\aA w wr) (fun v _=>(intOf v+1).toNat)
  case atStart=>
   refine⟨m,Nat.le_refl _, ?_,rfl,Y.out⟩;rcases Nat.eq_zero_or_pos m with o|o
   ·subst o;exact .inl ⟨rfl,aQ⟩
   ·exact .inr ⟨o,Hm⟩
  case round=>
   obtain⟨j,hj,b,f,s⟩:=hrel;have d:=Lib.hid f;have l:=Lib.hid s;clear f;rcases b with⟨rfl,rfl⟩|⟨X,rfl⟩
   ·go_wp2
    go_ret;refine⟨lW ?_,l.out⟩;rw[<-d.out];simp[iz]
   ·obtain⟨q,rfl⟩:∃q,j=q+1:=⟨j-1,aq⟩
    simp only[Nat.add_sub_cancel];have h:q<n:=aq;obtain⟨N,K⟩:=bounds_i32 (I.out.dF h);obtain⟨G,D,Q,t⟩:=(I.out.at_.below s).2 aq;have R:=t q h;have C:=Lib.hid (fun y (s:aA w y)=>jR (nth xs q) N K y (HL.out.ar s));have M:=ru (xs:=xs) (i:=q) (by rw[r.out];exact h);have k:iz (ks xs) (q+1)=if nth (ks xs) q==4 then iz (ks xs) q else nth (ks xs) q==14:=rfl
    rw[M]at k;rw[k]at d;generalize vo (nth xs q)=J at*;generalize nth xs q=rq at*;clear t N K M k s;obtain rfl:U=G:=Option.some.inj D;by_cases H:J=4
    ·subst H
     go_wp2_with fail;refine(C.out _ l.out).mono ?_;rintro e S ⟨rfl,b⟩;have a:=Lib.hid (l.out.trans (b.mono l.out.size));clear b;go_wp2;go_roundw
     case rel=>
      refine⟨q,aq, ?_,by have:=d.out;simpa using this,a.out⟩;rcases Nat.eq_zero_or_pos q with o|o
      ·subst o;exact .inl ⟨rfl,aQ⟩
      ·exact .inr ⟨o,Hm⟩
     case measure=>simp[intOf]<;>omega
    ·have T:((J:Int)==4)=false:=by simpa using H
     clear H;go_wp2_with fail;refine(C.out _ l.out).mono ?_;rintro e S ⟨rfl,b⟩;have a:=Lib.hid (l.out.trans (b.mono l.out.size));have W:=au R b;clear b;go_wp2_with fail;refine(C.out _ a.out).mono ?_;rintro e w3 ⟨rfl,b⟩;have B:=Lib.hid (a.out.trans (b.mono a.out.size));clear b;go_wp2;go_ret;refine⟨lW ?_,B.out⟩;rw[<-d.out,T];simp
 ·have V:((vo (nth xs m):Int)==5)=false:=by simpa using x
  rw[V];clear x;generalize vo (nth xs m)=cm at*;go_enter func294,ntmps294;go_wp2_with fail;refine z.out.mono ?_;rintro e Z ⟨rfl,u⟩;go_wp2;go_ret;exact⟨rfl,u⟩
theorem KU(A:aC)(n c:Nat)(xs:aE)(i:Nat)(Q:i<=n)(w:World)(p:aL .i32 w A n c xs)(B:Laid w)(P:n<=140737488355328):
 Calls prog 295 #[.slice A n c,ae aj (i:Int)] w fun e I=>e= .returned (.bool (lX (ks xs) i%2==1))/\aA w I:=by
 have t:=Lib.hid p;have K:=Lib.hid B;have k:=Lib.hid p.at_.len;clear p B;go_enter func295,ntmps295;go_wp2;go_loopw [5] (fun v wr=>∃q:Nat,q<=i/\v=ae aj q/\lX (ks xs) i=q+lX (ks xs) (i-q)/\aA w wr) (fun v _=>i-(intOf v).toNat)
 case atStart=>exact⟨0,Nat.zero_le _,rfl,aD,Below.refl _ _⟩
 case round=>
  obtain⟨q,F,rfl,a,h⟩:=hrel;by_cases J:q<i
  ·obtain⟨r,o⟩:∃r,i-q=r+1:=⟨i-q-1,aq⟩
   rw[o]at a;have g:r<n:=aq;have L:(i:Int)-1-(q:Int)=(r:Int):=aq;have R:=aR q i;obtain⟨D,y⟩:=bounds_i32 (t.out.dF g);obtain⟨O,rfl,E,m⟩:=(t.out.at_.below h).2 aq;have M:=m r g;have u:=Lib.hid (jR (nth xs r) D y wr (K.out.ar h));have C:=ru (xs:=xs) (i:=r) (by rw[k.out];exact g);have d:lX (ks xs) (r+1)=if nth (ks xs) r==6 then lX (ks xs) r+1 else 0:=rfl
   rw[C]at d;rw[d]at a;have N:=Lib.hid o;generalize vo (nth xs r)=x at*;generalize nth xs r=rq at*;have j:=Lib.hid h;clear m D y C d h o;by_cases s:x=6
   ·subst s
    simp only[beq_self_eq_true,if_true]at a;have b:=Lib.hid a;clear a;go_wp2_with fail;refine u.out.mono ?_;rintro e G ⟨rfl,l⟩;have f:=Lib.hid (j.out.trans (l.mono j.out.size));clear l;go_wp2;go_roundw
    case rel=>exact⟨q+1,aq,aQ,by rw[b.out,show i-(q+1)=r by omega];omega,f.out⟩
    case measure=>simp[intOf]<;>omega
   ·have H:((x:Int)==6)=false:=by simpa using s
    rw[H]at a;simp only[Bool.false_eq_true,if_false]at a;have b:=Lib.hid a;clear s a;go_wp2_with fail;refine u.out.mono ?_;rintro e G ⟨rfl,l⟩;have f:=Lib.hid (j.out.trans (l.mono j.out.size));clear l;go_wp2;go_ret;refine⟨lW ?_,f.out⟩;rw[b.out,Bool.eq_iff_iff];simp;omega
  ·obtain rfl:q=i:=by omega
   rw[Nat.sub_self]at a;have z:lX (ks xs) 0=0:=rfl;rw[z]at a;have b:=Lib.hid a;have j:=Lib.hid h
   skip
   clear a z h;go_wp2;go_ret;refine⟨lW ?_,j.out⟩;rw[b.out,Bool.eq_iff_iff];simp;omega
theorem kX(r:Int)(b: -2147483648<=r)(c:r<=2147483647)(w:World):
 Calls prog 181 #[.int .i32 r] w fun e d=>e= .returned (ae aj (vo r))/\aA w d:=by
 have O:=Lib.hid (eZ r b c w);go_enter func181,ntmps181;go_wp2_with fail;refine O.out.mono ?_;rintro e f ⟨rfl,a⟩;go_wp2;go_ret;exact⟨rfl,a⟩
theorem Ix(c:Int)(w:World):Calls prog 183 #[ae aj c] w fun e a=>e= .returned (.bool (jN c))/\aA w a:=by
 go_enter func183,ntmps183;go_wp2
 all_goals go_ret
 all_goals refine⟨lW ?_,Below.refl _ _⟩
 all_goals try simp only[beq_iff_eq,beq_eq_false_iff_ne]at*
 all_goals simp_all[jN]
theorem MJ(a b:Int)(w:World):Calls prog 182 #[ae aj a,ae aj b] w fun e c=>e= .returned (.bool (tT a b))/\aA w c:=by
 go_enter func182,ntmps182;go_wp2
 all_goals go_ret
 all_goals refine⟨lW ?_,Below.refl _ _⟩
 all_goals try simp only[beq_iff_eq,beq_eq_false_iff_ne]at*
 all_goals simp_all[tT]
theorem N9(A:aC)(n c:Nat)(xs:aE)(m:Nat)(R:m<=n)(w:World)(u:aL .i32 w A n c xs)(O:n<=140737488355328):
 Calls prog 184 #[.slice A n c,ae aj (m:Int)] w fun e r=>e= .returned (.bool (iz (ks xs) m))/\aA w r:=by
 have B:=Lib.hid u;have o:=Lib.hid u.at_.len;have M:=Lib.hid (Below.refl w.heap.size w);clear u;go_enter func184,ntmps184;go_wp2;go_loopw [1] (fun v wr=>∃j:Nat,j<=m/\((j=0/\v=ae aj (-1))∨(0<j/\v=ae aj ((j-1:Nat):Int)))/\iz (ks xs) j=iz (ks xs) m/\aA w wr) (fun v _=>(intOf v+1).toNat)
 case atStart=>
  refine⟨m,Nat.le_refl _, ?_,rfl,M.out⟩;rcases Nat.eq_zero_or_pos m with l|l
  ·subst l;exact .inl ⟨rfl,aQ⟩
  ·exact .inr ⟨l,Hm⟩
 case round=>
  obtain⟨j,Q,b,f,s⟩:=hrel;have d:=Lib.hid f;have k:=Lib.hid s;clear f;rcases b with⟨rfl,rfl⟩|⟨L,rfl⟩
  ·go_wp2
   go_ret;refine⟨lW ?_,k.out⟩;rw[<-d.out];simp[iz]
  ·obtain⟨q,rfl⟩:∃q,j=q+1:=⟨j-1,aq⟩
   simp only[Nat.add_sub_cancel];have g:q<n:=aq;obtain⟨F,D⟩:=bounds_i32 (B.out.dF g);obtain⟨N,y,G,p⟩:=(B.out.at_.below s).2 aq;have H:=p q g;have x:=Lib.hid (fun r (s:aA w r)=>kX (nth xs q) F D r);have E:=ru (xs:=xs) (i:=q) (by rw[o.out];exact g);have h:iz (ks xs) (q+1)=if nth (ks xs) q==4 then iz (ks xs) q else nth (ks xs) q==14:=rfl
   rw[E]at h;rw[h]at d;generalize vo (nth xs q)=C at*;generalize nth xs q=rq at*;clear p F D E h s;subst y;by_cases z:C=4
   ·subst z
    go_wp2_with fail;refine(x.out _ k.out).mono ?_;rintro e I ⟨rfl,b⟩;have a:=Lib.hid (k.out.trans (b.mono k.out.size));clear b;go_wp2;go_roundw
    case rel=>
     refine⟨q,aq, ?_,by have:=d.out;simpa using this,a.out⟩;rcases Nat.eq_zero_or_pos q with l|l
     ·subst l;exact .inl ⟨rfl,aQ⟩
     ·exact .inr ⟨l,Hm⟩
    case measure=>simp[intOf]<;>omega
   ·have J:((C:Int)==4)=false:=by simpa using z
    clear z;go_wp2_with fail;refine(x.out _ k.out).mono ?_;rintro e I ⟨rfl,b⟩;have a:=Lib.hid (k.out.trans (b.mono k.out.size));have K:=au H b;clear b;go_wp2_with fail;refine(x.out _ a.out).mono ?_;rintro e P ⟨rfl,b⟩;have t:=Lib.hid (a.out.trans (b.mono a.out.size));clear b;go_wp2;go_ret;refine⟨lW ?_,t.out⟩;rw[<-d.out,J];simp
theorem NJ(A:aC)(n c:Nat)(xs:aE)(i:Nat)(P:i<=n)(w:World)(p:aL .i32 w A n c xs)(O:n<=140737488355328):
 Calls prog 185 #[.slice A n c,ae aj (i:Int)] w fun e H=>e= .returned (ae aj ((lX (ks xs) i:Nat):Int))/\aA w H:=by
 have t:=Lib.hid p;have j:=Lib.hid p.at_.len;clear p;go_enter func185,ntmps185;go_wp2;go_loopw [5] (fun v wr=>∃q:Nat,q<=i/\v=ae aj q/\lX (ks xs) i=q+lX (ks xs) (i-q)/\aA w wr) (fun v _=>i-(intOf v).toNat)
 case atStart=>exact⟨0,Nat.zero_le _,rfl,aD,Below.refl _ _⟩
 case round=>
  obtain⟨q,E,rfl,a,k⟩:=hrel;by_cases I:q<i
  ·obtain⟨r,o⟩:∃r,i-q=r+1:=⟨i-q-1,aq⟩
   rw[o]at a;have g:r<n:=aq;have K:(i:Int)-(q:Int)=(r:Int)+1:=aq;have Q:(0:Int)<(r:Int)+1:=aq;obtain⟨C,y⟩:=bounds_i32 (t.out.dF g);obtain⟨N,rfl,D,m⟩:=(t.out.at_.below k).2 aq;have L:=m r g;have u:=Lib.hid (kX (nth xs r) C y wr);have B:=ru (xs:=xs) (i:=r) (by rw[j.out];exact g);have d:lX (ks xs) (r+1)=if nth (ks xs) r==6 then lX (ks xs) r+1 else 0:=rfl
   rw[B]at d;rw[d]at a;have M:=Lib.hid o;generalize vo (nth xs r)=x at*;generalize nth xs r=rq at*;have h:=Lib.hid k;clear m C y B d k o;by_cases s:x=6
   ·subst s
    simp only[beq_self_eq_true,if_true]at a;have b:=Lib.hid a;clear a;go_wp2_with fail;refine u.out.mono ?_;rintro e F ⟨rfl,l⟩;have f:=Lib.hid (h.out.trans (l.mono h.out.size));clear l;go_wp2;go_roundw
    case rel=>exact⟨q+1,aq,aQ,by rw[b.out,show i-(q+1)=r by omega];omega,f.out⟩
    case measure=>simp[intOf]<;>omega
   ·have G:((x:Int)==6)=false:=by simpa using s
    rw[G]at a;simp only[Bool.false_eq_true,if_false]at a;have b:=Lib.hid a;clear s a;go_wp2_with fail;refine u.out.mono ?_;rintro e F ⟨rfl,l⟩;have f:=Lib.hid (h.out.trans (l.mono h.out.size));clear l;go_wp2;go_ret;refine⟨yu ?_,f.out⟩;rw[b.out];simp
  ·obtain rfl:q=i:=by omega
   rw[Nat.sub_self]at a;have z:lX (ks xs) 0=0:=rfl;rw[z]at a;have b:=Lib.hid a;have h:=Lib.hid k;have J:(q:Int)-(q:Int)=0:=aq;clear a z k;go_wp2;go_ret;refine⟨yu ?_,h.out⟩;rw[b.out];simp
theorem DD(A:aC)(n c:Nat)(xs:aE)(m:Nat)(z:m+1<n)(w:World)(j:aL .i32 w A n c xs)(L:Laid w)(D:n<=140737488355328):
 Calls prog 255 #[.slice A n c,ae aj ((m:Int)+1)] w fun e h=>e= .returned (.bool (kA (ks xs) (m+1)))/\aA w h:=by
 have s:=Lib.hid j;have r:=Lib.hid L;have d:=Lib.hid j.at_.len;obtain⟨B,rfl,F,q⟩:=j.at_.2 aq;have u:=q m aq;have k:=q (m+1) z;rw[add_succ]at k;obtain⟨J,g2⟩:=bounds_i32 (j.dF (i:=m) aq);obtain⟨H,K⟩:=bounds_i32 (j.dF z);have C:=Lib.hid (fun N:aI w=>jR (nth xs m) J g2 N.1 (r.out.ar N.2));have E:=Lib.hid (fun N:aI w=>jR (nth xs (m+1)) H K N.1 (r.out.ar N.2));have p:=Lib.hid (fun h (o:aA w h)=>Mf (some B) n c xs m aq h (s.out.ar o) (r.out.ar o) D);have g:=Lib.hid (fun h (o:aA w h)=>KU (some B) n c xs (m+1) aq h (s.out.ar o) (r.out.ar o) D);have P:((m+1:Nat):Int)=(m:Int)+1:=aq;rw[P]at g;have G:kA (ks xs) (m+1)=pY (vo (nth xs m)) (vo (nth xs (m+1))) (iz (ks xs) m) (lX (ks xs) (m+1)%2==1):=by
  unfold kA;rw[Nat.add_sub_cancel,ru (by rw[d.out];omega),ru (by rw[d.out];exact z)]
 rw[G];have I:=jB m;have t:(m:Int)+1<(n:Int):=aq;generalize vo (nth xs m)=a at*;generalize vo (nth xs (m+1))=b at*;generalize nth xs m=R at*;generalize nth xs (m+1)=rb at*;generalize iz (ks xs) m=M at*;generalize lX (ks xs) (m+1)=S at*;obtain⟨k0,Q⟩:=lc2 u k;rw[<-Mp];go_enter func255,ntmps255;go_wp2;refine br aF aF ?_
 repeat(go_big_quiet_step ((first|(go_at_call 291;with_reducible exact cD (C.out _))|(go_at_call 291;with_reducible exact cD (E.out _)))))
 refine wpQuiet_nil ?_;intro _ y;obtain⟨O,l⟩:=y;subst l;have x:=O.2;go_wp2_with (first
  |(go_at_call 292;refine(JD _ _).mono ?_;rintro e v ⟨rfl,f⟩;replace x:=x.trans (f.mono x.size);clear f)
  |(go_at_call 293;refine(MF _ _ _).mono ?_;rintro e v ⟨rfl,f⟩;replace x:=x.trans (f.mono x.size);clear f)
  |(go_at_call 294;refine(p.out _ x).mono ?_;rintro e v ⟨rfl,f⟩;replace x:=x.trans (f.mono x.size);clear f)
  |(go_at_call 295;refine(g.out _ x).mono ?_;rintro e v ⟨rfl,f⟩;replace x:=x.trans (f.mono x.size);clear f))
 all_goals go_ret
 all_goals refine⟨lW ?_,x⟩
 all_goals clear x C E p g s d I t
 all_goals try simp only[beq_iff_eq,beq_eq_false_iff_ne]at*
 all_goals simp_all[Mo]
theorem Dr(A:aC)(n c:Nat)(xs:aE)(m:Nat)(y:m+1<n)(w:World)(j:aL .i32 w A n c xs)(C:n<=140737488355328):
 Calls prog 111 #[.slice A n c,ae aj ((m:Int)+1)] w fun e h=>e= .returned (.bool (kA (ks xs) (m+1)))/\aA w h:=by
 have q:=Lib.hid j;have d:=Lib.hid j.at_.len;obtain⟨z,rfl,F,p⟩:=j.at_.2 aq;have t:=p m aq;have k:=p (m+1) y;rw[add_succ]at k;obtain⟨J,g2⟩:=bounds_i32 (j.dF (i:=m) aq);obtain⟨H,K⟩:=bounds_i32 (j.dF y);have B:=Lib.hid (fun N:aI w=>kX (nth xs m) J g2 N.1);have E:=Lib.hid (fun N:aI w=>kX (nth xs (m+1)) H K N.1);have o:=Lib.hid (fun h (s:aA w h)=>N9 (some z) n c xs m aq h (q.out.ar s) C);have g:=Lib.hid (fun h (s:aA w h)=>NJ (some z) n c xs (m+1) aq h (q.out.ar s) C);have O:((m+1:Nat):Int)=(m:Int)+1:=aq;rw[O]at g;have G:kA (ks xs) (m+1)=pY (vo (nth xs m)) (vo (nth xs (m+1))) (iz (ks xs) m) (lX (ks xs) (m+1)%2==1):=by
  unfold kA;rw[Nat.add_sub_cancel,ru (by rw[d.out];omega),ru (by rw[d.out];exact y)]
 rw[G];have I:=jB m;have r:(m:Int)+1<(n:Int):=aq;generalize vo (nth xs m)=a at*;generalize vo (nth xs (m+1))=b at*;generalize nth xs m=R at*;generalize nth xs (m+1)=rb at*;generalize iz (ks xs) m=L at*;generalize lX (ks xs) (m+1)=D at*;obtain⟨k0,P⟩:=lc2 t k;have Q:(((D:Nat):Int)%2==1)=(D%2==1):=by rw[Bool.eq_iff_iff];simp;omega
 go_enter func111,ntmps111;go_wp2;refine br aF aF ?_
 repeat(go_big_quiet_step ((first|(go_at_call 181;with_reducible exact cD (B.out _))|(go_at_call 181;with_reducible exact cD (E.out _)))))
 refine wpQuiet_nil ?_;intro _ u;obtain⟨M,l⟩:=u;subst l;have x:=M.2;go_wp2_with (first
  |(go_at_call 183;refine(Ix _ _).mono ?_;rintro e v ⟨rfl,f⟩;replace x:=x.trans (f.mono x.size);clear f)
  |(go_at_call 182;refine(MJ _ _ _).mono ?_;rintro e v ⟨rfl,f⟩;replace x:=x.trans (f.mono x.size);clear f)
  |(go_at_call 184;refine(o.out _ x).mono ?_;rintro e v ⟨rfl,f⟩;replace x:=x.trans (f.mono x.size);clear f)
  |(go_at_call 185;refine(g.out _ x).mono ?_;rintro e v ⟨rfl,f⟩;replace x:=x.trans (f.mono x.size);clear f))
 all_goals go_ret
 all_goals refine⟨lW ?_,x⟩
 all_goals clear x B E o g q d I r
 all_goals try simp only[beq_iff_eq,beq_eq_false_iff_ne]at*
 all_goals simp_all[pY]
end Go.Proofs.YtpidckelbgbbkaaGreatDoor
