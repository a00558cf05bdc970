/- Part of LineBoxes. -/
import Derived.Test.YtpidckelbgbbkaaGreatDoorAB
import Derived.Test.YtpidckelbgbbkaaGreatDoorAA
namespace Go.Proofs.YtpidckelbgbbkaaGreatDoor
open Go.ChangeShapes Go.WideShapes Go.ChangeAt Go.RowKit Go.Proofs.Tryz
open Go.Value renaming int → ae
open Go.IntKind renaming i64 → aj
set_option linter.all false
set_option maxRecDepth 100000
set_option maxHeartbeats 16000000
variable{ps:List il}{L g k n:Nat}{G:Prop}{Q':Exit->Act->World->Prop}{w:World}{cs:Array Value}{t:TypeId}
def fT(ts:aE)(ps:List il):Nat->Nat
 |0=>0
 |k+1=>if jU ts (dH ps k).f (dH ps k).t=(dH ps k).f then fT ts ps k else k+1
theorem Gz(ts:aE)(ps:List il):∀k,fT ts ps k<=k
 |0=>Nat.le_refl _
 |k+1=>by
  have:=Gz ts ps k;unfold fT;split<;>omega
def kr(ts:aE)(ps:List il)(k:Nat):List (Int×Int):=fI ts ps (fT ts ps k) (fT ts ps k+1) 0
theorem Gm{ts:aE}(h:jU ts (dH ps k).f (dH ps k).t=(dH ps k).f):fT ts ps (k+1)=fT ts ps k:=by
 rw[fT,if_pos h]
theorem EV{ts:aE}(h:¬jU ts (dH ps k).f (dH ps k).t=(dH ps k).f):fT ts ps (k+1)=k+1:=by
 rw[fT,if_neg h]
def fE(l:List (Int×Int)):aE:=l.map (·.1)
def qH(l:List (Int×Int)):aE:=l.map (·.2)
def PSl(w:World)(l:List (Int×Int))(e:Ending)(a:World):Prop:=∃(A:aC) (c:Nat) (C:aC) (d:Nat),e= .returned (.tuple #[.slice A l.length c, .slice C l.length d])/\Own a w.heap.size 3 .i64 A l.length c (fE l)/\Own a w.heap.size 3 .i64 C l.length d (qH l)/\aA w a
structure lQ(w wr:World)(l:List (Int×Int))(A:aC)(c:Nat)(C:aC)(d:Nat):Prop where
 o1:Own wr w.heap.size 3 .i64 A l.length c (fE l)
 o2:Own wr w.heap.size 3 .i64 C l.length d (qH l)
 ap:bO A C
 be:aA w wr
theorem lQ.nil(w:World):lQ w w [] none 0 none 0:=⟨Own.nil _ _ _ _,Own.nil _ _ _ _,iF _,Below.refl _ _⟩
theorem lQ.ar{w wr b:World}{l:List (Int×Int)}{A C:aC}{c d:Nat}(h:lQ w wr l A c C d)(a:aA wr b):lQ w b l A c C d:=⟨h.o1.ar a,h.o2.ar a,h.ap,h.be.trans (a.mono h.be.size)⟩
section
variable {w wr w1 w2 : World} {l : List (Int × Int)} {A A' C C' : aC} {c d c' d' : Nat} {x : Int × Int} {o1 o2 : Obj}
theorem lQ.step(h:lQ w wr l A c C d)(f:Own w1 w.heap.size 3 .i64 A' (l.length+1) c' (fE l++[x.1]))(e:(wr.alloc o1).grownBy w1 (Value.slice A l.length c).ownBlock)(b:∀g,A'=some ⟨g,0,none⟩->A=some ⟨g,0,none⟩∨(wr.alloc o1).heap.size<=g):Own w1 w.heap.size 3 .i64 C l.length d (qH l)/\bO A' C:=
 ⟨Own.kept (Own.alloc h.o2 _) e h.ap.symm (aB.dN h.o1),bO.grow (w:=wr.alloc o1) h.ap (fun g a=>by have:=h.o2;subst a;have:=(aB.sY this).2;simp;omega) b⟩
theorem lQ.push(h:lQ w wr l A c C d)(e:Own w1 w.heap.size 3 .i64 A' (l.length+1) c' (fE l++[x.1]))(i:Below w.heap.size (wr.alloc o1) w1)(a:Own w1 w.heap.size 3 .i64 C l.length d (qH l)/\bO A' C)
 (k:Own w2 w.heap.size 3 .i64 C' (l.length+1) d' (qH l++[x.2])) (n:Below w.heap.size (w1.alloc o2) w2) (g2:(w1.alloc o2).grownBy w2 (Value.slice C l.length d).ownBlock) (j:∀g,C'=some ⟨g,0,none⟩->C=some ⟨g,0,none⟩∨(w1.alloc o2).heap.size<=g):lQ w w2 (l++[x]) A' c' C' d':=by
 have o:fE (l++[x])=fE l++[x.1]:=by simp[fE]
 have p:qH (l++[x])=qH l++[x.2]:=by simp[qH]
 have m:=h.be.size;have b:aA w w1:=(h.be.alloc m o1).trans i;refine⟨?_, ?_, ?_,(b.alloc b.size o2).trans n⟩
 ·rw[o,List.length_append]
  exact Own.kept (Own.alloc e _) g2 a.2 (aB.dN a.1)
 ·rw[p,List.length_append]
  exact k
 ·exact(bO.grow (w:=w1.alloc o2) a.2.symm (fun g f=>by subst f;have:=(aB.sY e).2;simp;omega) j).symm
end
theorem Ey(ts:aE)(ps:List il)(k:Nat):(kr ts ps k).length<=k+1:=by
 have a:=vU (ts:=ts) (ps:=ps) (n:=fT ts ps k) (fT ts ps k+1) 0;have b:=Gz ts ps k;unfold kr;omega
theorem Fe{a d:Nat}(e:∀j,a<=j->j<a+d->(dH ps j).gQ=false)(g:a+d<=n)(b:a+d=n∨(dH ps (a+d)).gQ=true):jX ps a (n-a)=d:=
 sL (fun j f=>e (a+j) aq aq) aq (b.imp (fun h=>aq) id)
theorem acX(s:G:=by
 exact⟨i+1,i+1,f-1,l++[(s1,s2)],A4,c4,A5,c5,aq,aq,aq,aq,cA,aD,aD,aQ,aQ,⟨fun j h1 h2=>by omega⟩,LN2,T5⟩):G:=s
theorem Dk(xs:List eE)(k d:Nat)(A:aC)(T:aC)(n c:Nat)(ts:aE)(w:World)(h:qO w w.heap.size xs 0 k A)(hd:k<=d)(V:aL .i32 w T n c ts)(hk:k<=1000)(hn:n<=100000)(W:Ic xs)(hi:InT n xs):Calls prog 28 #[.slice T n c, .slice A k d] w (PSl w (kr ts (qs xs) k)):=by
 have R:=sH h;have TX:=sH V;have HG:=sH W;have IT:=sH hi;have Qq:=h.1;obtain⟨L,hL⟩:=eY (kr ts (qs xs) k);have HL0:=sH hL;rw[hL];clear h V W hi hL;go_enter func28,ntmps28;go_upto_block 0 with fail;go_cut [1] (fun v wx=>∃(m:Nat) (G:aC) (u:Nat),m<=k/\m<=u/\v= .slice G m u/\ak (fT ts (qs xs) k=m)/\ak (qO w w.heap.size xs 0 m G)/\ak (aA w wx))
 ·
  go_wp2;go_loopg [1] (k+1) (fun gg v wr=>∃(m:Nat) (G:aC) (u:Nat),m<gg/\m<=k/\m<=u/\v= .slice G m u/\ak (fT ts (qs xs) m=fT ts (qs xs) k)/\ak (qO w w.heap.size xs 0 m G)/\ak (aA w wr))
  ·exact⟨k,A,d,aq,aq,hd,rfl,⟨rfl⟩,R,cB⟩
  obtain⟨m,G,u,W,hm,q,rfl,X,H,Y⟩:=hrel;rcases Nat.eq_zero_or_pos m with h0|h0
  ·have Sx:decide (0<m)=false:=fC
   have E:ak (fT ts (qs xs) k=m):=⟨by rw[<-X.o,h0];rfl⟩;clear h0;go_wp2;refine mRl ?_;rintro _ ⟨nq,rfl⟩;have B2:=Y.t nq.2;go_wp2;go_meet;exact⟨m,G,u,hm,q,rfl,E,H,B2⟩
  obtain⟨j,hj⟩:∃j,j+1=m:=⟨m-1,aq⟩;have Fb:(m:Int)-1=(j:Int):=aq;have QC:decide (0<m)=true:=yy;have hjm:=aR j m;obtain⟨ad,x,hx,rfl,c0,c1,_⟩:=(H.o.Z Y.o Y.o.size).at (show j<m by omega);rw[Nat.zero_add]at hx;have EQ:ak (dH (qs xs) j=x.q):=⟨Es⟩;obtain⟨I,J⟩:=IT.o.ne j aq;rw[hx]at I J;obtain⟨f,hf⟩:=eY x.q.f;obtain⟨t,V⟩:=eY x.q.t;obtain⟨L0,L1⟩:=lc2 c0 c1;have K:ak (jU ts f t=f->fT ts (qs xs) j=fT ts (qs xs) k):=⟨fun h=>by rw[<-X.o,<-hj];exact(Gm (by rw[EQ.o,hf,V];exact h)).symm⟩;have NO:ak (¬jU ts f t=f->fT ts (qs xs) k=m):=⟨fun h=>by rw[<-X.o,<-hj];exact EV (by rw[EQ.o,hf,V];exact h)⟩;rw[hf]at L0 I;rw[V]at L1 I J;have CS:ak (∀n':aI wr,Calls prog 56 #[.slice T n c,ae aj (f:Int),ae aj (t:Int)] n'.1 (rX n'.1 (jU ts f t))):=⟨fun n'=>Hc T n c f t ts n'.1 ((TX.o.ar Y.o).ar n'.2) aq J hn⟩;unfold rX at CS;generalize jU ts f t=z at*;have HJ:=sH hj;clear hf V c0 c1 hx I J h0 hj;cases hb:((z:Int)==(f:Int))
  ·have E:ak (fT ts (qs xs) k=m):=⟨NO.o (by simp at hb;omega)⟩
   clear K NO;go_wp2;refine br aF aF ?_
   repeat(go_big_quiet_step (with_reducible exact cD (CS.o _)))
   refine wpQuiet_nil ?_;rintro _ ⟨nq,rfl⟩;have B2:=Y.t nq.2;go_wp2;go_meet;exact⟨m,_,u,hm,q,rfl,E,H,B2⟩
  ·have E:ak (fT ts (qs xs) j=fT ts (qs xs) k):=⟨K.o (by simp at hb;omega)⟩
   clear K NO;obtain⟨A3,M,s⟩:=Nn QE (some ad) m u j aq q (j:Int) rfl;have p:=s.run;have F:=sH (s.Xe H.o aq);have h3:=s.2.1;clear s;go_wp2;refine br aF aF ?_
   repeat(go_big_quiet_step (with_reducible exact cD (CS.o _)))
   refine wpQuiet_nil ?_;rintro _ ⟨nq,rfl⟩;have B2:=Y.t nq.2;go_wp2;have hjj:=HJ.o;go_roundg (m)
   ·exact⟨j,A3,M,aq,aq,h3,rfl,E,F,B2⟩
   omega
 obtain⟨m,G,u,hm,q,rfl,X,H,B1⟩:=hcut;have HL:ak (fI ts (qs xs) m (m+1) 0=L):=⟨by rw[<-HL0.o];unfold kr;rw[X.o]⟩;clear X;go_wp2;go_loopg [6,7,8,9,10,11] (m+2) (fun gg v6 v7 v8 v9 _ _ wr=>∃(i a f:Nat) (l:List (Int×Int)) (A2:aC) (c2:Nat) (C2:aC) (e2:Nat),m+1-i<gg/\i<=m+1/\a<=i/\m+1<=a+f/\l.length<=a/\v6= .slice A2 l.length c2/\v7= .slice C2 l.length e2/\v8=ae aj (a:Int)/\v9=ae aj (i:Int)/\ak (∀j,a<=j->j<i->(dH (qs xs) j).gQ=false)/\ak (l++(if i<=m then fI ts (qs xs) m f a else[])=L)/\ak (lQ w wr l A2 c2 C2 e2))
 ·exact⟨0,0,m+1,[],none,0,none,0,aq,aq,aq,aq,aD,rfl,rfl,rfl,rfl,⟨fun j h1 h2=>by omega⟩,⟨by rw[if_pos (by omega)];exact HL.o⟩,⟨Own.nil _ _ _ _,Own.nil _ _ _ _,iF _,B1.o⟩⟩
 obtain⟨i,a,f,l,A2,c2,C2,e2,W,DI,Z,hmf,Wn,rfl,rfl,rfl,rfl,NT,LE,b⟩:=hrel;have U:=b.o.be.size;have O:ak (m+1-i<gk):=⟨W⟩;clear W;by_cases r:i<=m;rotate_left
 ·have i4:¬(i:Int)<=(m:Int):=by omega
  have E:ak (l=L):=⟨by have:=LE.o;rw[if_neg r]at this;simpa using this⟩;clear r;go_wp2;go_ret2;rw[<-E.o];exact⟨A2,c2,C2,e2,rfl,b.o.o1,b.o.o2,b.o.be⟩
 have i4:(i:Int)<=(m:Int):=aq;have Q:ak (l++fI ts (qs xs) m f a=L):=⟨by have:=LE.o;rwa [if_pos r]at this⟩;by_cases P:i=m
 ·have e1:((i:Int)==(m:Int))=true:=by simp;omega
  have D:=Fe (ps:=qs xs) (n:=m) (a:=a) (d:=i-a) (fun j h1 h2=>NT.o j h1 aq) aq (.inl aq);obtain⟨f',B⟩:∃f',f=f'+1:=⟨f-1,aq⟩;have LN:ak (∀s1 s2,wS (qs xs) a (i-a) true=s1->pS ts (qs xs) a (i-a) true=s2->(l++[(s1,s2)])++(if i+1<=m then fI ts (qs xs) m (f-1) (i+1)else[])=L):=⟨fun s1 s2 h1 h2=>by
   rw[if_neg aq,List.append_nil,<-Q.o,B,vk D aq,h1,h2]⟩
  clear D B P r;obtain⟨A3,M,s⟩:=nt QE G m u a i Z aq q (a:Int) (i:Int) rfl rfl;have p:=s.run;have F:=s.Xe (H.o.Z b.o.be U) aq;rw[Nat.zero_add]at F;have F:=sH F;clear s;go_wp2_with fail;refine(wJ xs a (i-a) M A3 true T n c ts _ F.o (TX.o.ar b.o.be) aq hn HG.o IT.o).mono ?_;rintro e w3 ⟨rfl,rfl⟩;obtain⟨s1,o⟩:=eY (wS (qs xs) a (i-a) true);obtain⟨s2,g⟩:=eY (pS ts (qs xs) a (i-a) true);have LN2:=sH (LN.o s1 s2 o g);rw[o,g];clear o g LN p;go_wp2_with (first
   |(at_builtin;refine a7 nF rfl (.tmp 76) (.tmp 78) rfl rfl (b.o.o1.alloc _) rfl (aX _ _ _) aq cA ?_;intro A4 c4 w4 S N g4 n4;have O4:=sH S;have B4:=sH N;have S4:=sH (b.o.step (x:=(s1,s2)) S g4 n4);have Qn:w.heap.size<=w4.heap.size:=(by have:=N.size;simp at this;omega);clear S N g4 n4)
   |(at_builtin;refine a7 nF rfl (.tmp 80) (.tmp 82) rfl rfl (S4.o.1.alloc _) rfl (aX _ _ _) aq cA ?_;intro A5 c5 w5 o5 b5 g5 n5;have T5:ak (lQ w w5 (l++[(s1,s2)]) A4 c4 A5 c5):=⟨b.o.push O4.o B4.o S4.o o5 b5 g5 n5⟩;clear o5 b5 g5 n5))
  go_roundg (m+1-i)
  ·exact acX
  have:=O.o;omega
 obtain⟨ad,x,hx,rfl,c0,c1,aU,M,c4,c5,c6,c7,c8,rx⟩:=(H.o.Z b.o.be U).at (show i<m by omega);rw[Nat.zero_add]at hx;have hxk:=H.o.1;have EQ:ak (dH (qs xs) i=x.q):=⟨Es⟩;have e1:((i:Int)==(m:Int))=false:=pM;obtain⟨tb,y⟩:=eY x.q.gQ;rw[y]at c7;clear c0 c1 aU M c4 c5 c6 c8 rx hx;have sy:i<m:=aq;have i5:=aR i m;cases tb
 ·have NT2:ak (∀j,a<=j->j<i+1->(dH (qs xs) j).gQ=false):=⟨fun j h1 h2=>by
   rcases Nat.lt_or_ge j i with h3|h3
   ·exact NT.o j h1 h3
   ·obtain rfl:j=i:=by omega
    rw[EQ.o,y]⟩
  have LE3:ak (l++(if i+1<=m then fI ts (qs xs) m f a else[])=L):=⟨by rw[if_pos (by omega)];exact Q.o⟩;clear P r y;go_wp2;go_roundg (m+1-i)
  ·exact⟨i+1,a,f,l,A2,c2,C2,e2,aq,aq,aq,aq,Wn,rfl,rfl,rfl,aQ,NT2,LE3,b⟩
  have:=O.o;omega
 ·have D:=Fe (ps:=qs xs) (n:=m) (a:=a) (d:=i-a) (fun j h1 h2=>NT.o j h1 aq) aq (.inr (by rw[show a+(i-a)=i by omega,EQ.o,y]))
  obtain⟨f',B⟩:∃f',f=f'+1:=⟨f-1,aq⟩;have LN:ak (∀s1 s2,wS (qs xs) a (i-a) false=s1->pS ts (qs xs) a (i-a) false=s2->(l++[(s1,s2)])++(if i+1<=m then fI ts (qs xs) m (f-1) (i+1)else[])=L):=⟨fun s1 s2 h1 h2=>by
   rw[if_pos aq,<-Q.o,B,wu D aq,h1,h2,show a+(i-a)+1=i+1 by omega];simp⟩
  clear D B P r y;obtain⟨A3,M,s⟩:=nt QE (some ad) m u a i Z aq q (a:Int) (i:Int) rfl rfl;have p:=s.run;have F:=s.Xe (H.o.Z b.o.be U) aq;rw[Nat.zero_add]at F;have F:=sH F;clear s;go_wp2_with fail;refine(wJ xs a (i-a) M A3 false T n c ts _ F.o (TX.o.ar b.o.be) aq hn HG.o IT.o).mono ?_;rintro e w3 ⟨rfl,rfl⟩;obtain⟨s1,o⟩:=eY (wS (qs xs) a (i-a) false);obtain⟨s2,g⟩:=eY (pS ts (qs xs) a (i-a) false);have LN2:=sH (LN.o s1 s2 o g);rw[o,g];clear o g LN p;go_wp2_with (first
   |(at_builtin;refine a7 nF rfl (.tmp 76) (.tmp 78) rfl rfl (b.o.o1.alloc _) rfl (aX _ _ _) aq cA ?_;intro A4 c4 w4 S N g4 n4;have O4:=sH S;have B4:=sH N;have S4:=sH (b.o.step (x:=(s1,s2)) S g4 n4);have Qn:w.heap.size<=w4.heap.size:=(by have:=N.size;simp at this;omega);clear S N g4 n4)
   |(at_builtin;refine a7 nF rfl (.tmp 80) (.tmp 82) rfl rfl (S4.o.1.alloc _) rfl (aX _ _ _) aq cA ?_;intro A5 c5 w5 o5 b5 g5 n5;have T5:ak (lQ w w5 (l++[(s1,s2)]) A4 c4 A5 c5):=⟨b.o.push O4.o B4.o S4.o o5 b5 g5 n5⟩;clear o5 b5 g5 n5))
  go_roundg (m+1-i)
  ·exact acX
  have:=O.o;omega
theorem KW(x:eE)(w:World):Calls prog 59 #[.agg x.row] w fun e c=>e= .returned (.bool x.q.gQ)/\aA w c:=by
 obtain⟨b,aP⟩:=eX (w.alloc (.cells x.row 63));have a:ak (aA w b):=⟨lY⟩;have d:=LL aP 7 _ rfl;go_enter func59,ntmps59;go_upto_region 1 with fail;rw[<-aP];clear aP;go_wp2;go_ret;exact⟨rfl,a.o⟩
def PTi(w:World)(ps:List il)(a k:Nat)(e:Ending)(b:World):Prop:=∃z:Int,e= .returned (ae aj z)/\(z= -1/\jX ps a k=k∨z=(jX ps a k:Int)/\jX ps a k<k)/\aA w b
theorem H5(xs:List eE)(a k d:Nat)(A:aC)(w:World)(h:qO w w.heap.size xs a k A)(F:k<=1000):Calls prog 58 #[.slice A k d, .func (.func 59) #[] #[]] w (PTi w (qs xs) a k):=by
 have R:=sH h;clear h;have C:∀args w,(callFunc 59 args).run prog w= .ok (.enter 59 args) w:=fun args w=>by
  first|rfl|(simp[callFunc,go_sem])
 go_enter func58,ntmps58;go_wp2;go_loopg [8] (k+1) (fun gg v wr=>∃i:Nat,k-i<gg/\i<=k/\v=ae aj (i:Int)/\ak (∀j,j<i->(dH (qs xs) (a+j)).gQ=false)/\ak (aA w wr))
 ·exact⟨0,aq,aq,rfl,⟨fun j h=>by omega⟩,cB⟩
 obtain⟨i,D,G,rfl,f,e⟩:=hrel;by_cases c:i<k;rotate_left
 ·have q:=cF i k
  obtain rfl:i=k:=aq;have E:ak (jX (qs xs) a i=i):=⟨sL f.o aq (.inl rfl)⟩;go_wp2;go_ret;exact⟨_,rfl, .inl ⟨rfl,E.o⟩,e.o⟩
 have q:=aR i k;obtain⟨B,x,hx,rfl,c0,y,l,s,c4,c5,c6,p,c8,rx⟩:=(R.o.Z e.o e.o.size).at c;have t:=R.o.1;have m:ak (dH (qs xs) (a+i)=x.q):=⟨Es⟩;have u:=sH (KW x wr);clear rx hx;go_wp2_with fail;refine callK u.o e fun z r n=> ?_;clear r c0 y l s c4 c5 c6 p c8;cases b:x.q.gQ
 ·have g:ak (∀j,j<i+1->(dH (qs xs) (a+j)).gQ=false):=⟨fun j H=>by
   rcases Nat.lt_or_ge j i with o|o
   ·exact f.o j o
   ·obtain rfl:j=i:=by omega
    rw[m.o,b]⟩
  clear b;go_wp2;go_roundg (k-i)
  ·exact⟨i+1,aq,aq,aQ,g,n⟩
  omega
 ·have E:ak (jX (qs xs) a k=i):=⟨sL f.o aq (.inr (by rw[m.o,b]))⟩
  clear b;go_wp2;go_ret;exact⟨_,rfl, .inr ⟨mR,by rw[E.o];exact c⟩,n.o⟩
theorem UF(s a b:Int):wrap64 (wrap64 s-wrap64 (a-b))=wrap64 (s+(b-a)):=PJ
theorem IU(xs:List eE)(k d:Nat)(A:aC)(T:aC)(n c:Nat)(ts:aE)(w:World)(h:qO w w.heap.size xs 0 k A)(hd:k<=d)(ht:aL .i32 w T n c ts)(hL:Laid w)(hk:k<=1000)(hn:n<=100000)(hg:Ic xs)(hi:InT n xs)(hs:Dy (qs xs)):Calls prog 25 #[.slice T n c, .slice A k d] w (PSl w (kr ts (qs xs) k)):=by
 have R:=sH h;have TX:=sH ht;have LW:=sH hL;have HG:=sH hg;have IT:=sH hi;have SD:=sH hs;have Qq:=h.1;obtain⟨L,hL⟩:=eY (kr ts (qs xs) k);have HL0:=sH hL;rw[hL];clear h ht hg hi hL hs;go_enter func25,ntmps25;go_upto_block 0 with fail;go_cut [1] (fun v wx=>∃(m:Nat) (I:aC) (D:Nat),m<=k/\m<=D/\v= .slice I m D/\ak (fT ts (qs xs) k=m)/\ak (qO w w.heap.size xs 0 m I)/\ak (aA w wx))
 ·
  go_wp2;go_loopg [1] (k+1) (fun gg v wr=>∃(m:Nat) (I:aC) (D:Nat),m<gg/\m<=k/\m<=D/\v= .slice I m D/\ak (fT ts (qs xs) m=fT ts (qs xs) k)/\ak (qO w w.heap.size xs 0 m I)/\ak (aA w wr))
  ·exact⟨k,A,d,aq,aq,hd,rfl,⟨rfl⟩,R,cB⟩
  obtain⟨m,I,D,hg,hm,u,rfl,CN,Z,BE⟩:=hrel;rcases Nat.eq_zero_or_pos m with V|V
  ·have Sx:decide (0<m)=false:=fC
   have E:ak (fT ts (qs xs) k=m):=⟨by rw[<-CN.o,V];rfl⟩;clear V;go_wp2;go_meet;exact⟨m,I,D,hm,u,rfl,E,Z,BE⟩
  obtain⟨j,hj⟩:∃j,j+1=m:=⟨m-1,aq⟩;have Fb:(m:Int)-1=(j:Int):=aq;have QC:decide (0<m)=true:=yy;have hjm:=aR j m;obtain⟨ad,x,hx,rfl,c0,c1,aU,c3,c4,c5,c6,s,c8,rx⟩:=(Z.o.Z BE.o BE.o.size).at (show j<m by omega);rw[Nat.zero_add]at hx;have EQ:ak (dH (qs xs) j=x.q):=⟨Es⟩;obtain⟨nG,fJ⟩:=IT.o.ne j aq;rw[hx]at nG fJ;have CS:=sH (aay x T n c ts wr (TX.o.ar BE.o) (LW.o.ar BE.o) aq fJ hn);have Aj:ak (YQ ts x.q=true->fT ts (qs xs) j=fT ts (qs xs) k):=⟨fun h=>by rw[<-CN.o,<-hj];exact(Gm (by rw[EQ.o];simpa[YQ]using h)).symm⟩;have NO:ak (YQ ts x.q=false->fT ts (qs xs) k=m):=⟨fun h=>by rw[<-CN.o,<-hj];exact EV (by rw[EQ.o];simpa[YQ]using h)⟩;have HJ:=sH hj;clear rx hx nG fJ V hj;cases hb:YQ ts x.q
  ·have E:ak (fT ts (qs xs) k=m):=⟨NO.o hb⟩
   rw[hb]at CS;clear Aj NO hb;go_wp2_with fail;refine callK CS.o BE fun w2 b2 B2=> ?_;clear b2;go_wp2;go_meet;exact⟨m,_,D,hm,u,rfl,E,Z,B2⟩
  ·have E:ak (fT ts (qs xs) j=fT ts (qs xs) k):=⟨Aj.o hb⟩
   rw[hb]at CS;clear Aj NO hb;obtain⟨A3,vz,p⟩:=Nn QE (some ad) m D j aq u (j:Int) rfl;have i:=p.run;have R3:=sH (p.Xe Z.o aq);have h3:=p.2.1;clear p;go_wp2_with fail;refine callK CS.o BE fun w2 b2 B2=> ?_;clear b2 c0 c1 aU c3 c4 c5 c6 s c8;go_wp2;have hjj:=HJ.o;go_roundg (m)
   ·exact⟨j,A3,vz,aq,aq,h3,rfl,E,R3,B2⟩
   omega
 obtain⟨m,I,D,hm,u,rfl,CN,Z,B1⟩:=hcut;have HL:ak (fI ts (qs xs) m (m+1) 0=L):=⟨by rw[<-HL0.o];unfold kr;rw[CN.o]⟩;clear CN;go_wp2;go_loopg [6,7,8] (m+2) (fun gg v6 v7 v8 wr=>∃(a f:Nat) (l:List (Int×Int)) (A2:aC) (c2:Nat) (C2:aC) (e2:Nat),m+1-a<gg/\a<=m/\m+1<=a+f/\l.length<=a/\v6= .slice A2 l.length c2/\v7= .slice C2 l.length e2/\v8=ae aj (a:Int)/\ak (l++fI ts (qs xs) m f a=L)/\ak (lQ w wr l A2 c2 C2 e2))
 ·exact⟨0,m+1,[],none,0,none,0,aq,aq,aq,aD,rfl,rfl,rfl,⟨HL.o⟩,⟨Own.nil _ _ _ _,Own.nil _ _ _ _,iF _,B1.o⟩⟩
 obtain⟨a,f,l,A2,c2,C2,e2,hg,ham,hmf,Y,rfl,rfl,rfl,LE,TW⟩:=hrel;have hTs:=TW.o.be.size;have gI:ak (m+1-a<gk):=⟨hg⟩;have hkx:=Z.o.1;obtain⟨f',vL⟩:∃f',f=f'+1:=⟨f-1,aq⟩;have HF:=sH vL;obtain⟨A4,c4,p⟩:=Ud QE I m D a ham u (a:Int) rfl;have i:=p.run;have R4:=p.Xe (Z.o.Z TW.o.be hTs) aq;rw[Nat.zero_add]at R4;have R4:=sH R4;clear p hg vL;go_wp2_with fail;refine(H5 xs a (m-a) c4 A4 wr R4.o aq).mono ?_;rintro e w2 ⟨z,rfl,F,b2⟩;have U:=sH (TW.o.ar b2);clear b2 TW i;rcases F with⟨rfl,F⟩|⟨rfl,F⟩
 ·obtain⟨q,hq⟩:=eY (m-a)
  have hqi:(m:Int)-(a:Int)=(q:Int):=aq;have qT:jX (qs xs) a (m-a)=q:=aq;have X:ak (l++[(wS (qs xs) a q true,pS ts (qs xs) a q true)]=L):=⟨by rw[<-LE.o,HF.o,vk qT (by omega)]⟩;clear F qT hq;obtain⟨A5,c5,p⟩:=nt QE I m D a (a+q) aq aq u (a:Int) ((a:Int)+(q:Int)) rfl aq;rw[show a+q-a=q by omega]at p;have i:=p.run;have Q:=p.Xe (Z.o.Z U.o.be U.o.be.size) aq;rw[Nat.zero_add]at Q;have Q:=sH Q;clear p;go_wp2_with fail;refine(Au xs a q c5 A5 T n c ts _ Q.o (TX.o.ar U.o.be) aq hn HG.o IT.o SD.o).mono ?_;rintro e w3 ⟨z,b,rfl,F,b3⟩;have T3:=sH (U.o.ar b3);have R6:=sH (Q.o.Z b3 b3.size);obtain⟨S0,B⟩:=eY (nX (qs xs) a q);obtain⟨r,o⟩:=eY (wS (qs xs) a q true);obtain⟨g,C⟩:=eY (pS ts (qs xs) a q true);have HP:ak ((b=true->z=g)/\(b=false->r=g)):=⟨by
   rw[<-o,<-C];unfold pS;cases hd:jl ts (qs xs) a q with
   |some v=>have:=(kH hd).1 F;exact⟨fun _=>this.2,fun h=>Hq⟩
   |none=>have:=(kI hd).1 F;exact⟨fun h=>Hq,fun _=>rfl⟩⟩
  have HS:ak (r=wrap64 (S0+nQ (qs xs) a q true)):=⟨by rw[<-o,<-B];rfl⟩;rw[o,C]at X;rw[B];clear F b3 i U B o C;go_upto_if 61 with fail;go_cut [12] (fun v wx=>v=ae aj r/\ak (aA w3 wx))
  ·
   rcases Nat.eq_zero_or_pos q with V|V
   ·have Sx:decide (0<q)=false:=fC
    have E:ak (wrap64 S0=r):=⟨by rw[HS.o];unfold nQ;rw[if_neg (by omega),Int.add_zero]⟩;have H0:=sH V;clear V;go_wp2_with fail
    all_goals first
     |(exfalso;have:=H0.o;omega)
     |(go_meet;exact⟨mR,cB⟩)
   obtain⟨j,hj⟩:∃j,j+1=q:=⟨q-1,aq⟩;have UY:(q:Int)-1=(j:Int):=aq;have uK:decide (0<q)=true:=yy;have hjq:=aR j q;obtain⟨ad,x,hx,rfl,c0,c1,aU,c3,c4,uG,c6,s,c8,rx⟩:=R6.o.at (show j<q by omega);have hkx:=R6.o.1;have E:ak (wrap64 (wrap64 S0-wrap64 (x.q.wide-x.q.inner))=r):=⟨by
    rw[HS.o,UF];unfold nQ;rw[if_pos ⟨rfl,V⟩,show a+q-1=a+j by omega,nR aq,hx]⟩
   obtain⟨L4,L5⟩:=lc2 c4 uG;clear c0 c1 aU c3 c4 uG c6 s c8 rx hx V hj;go_wp2;refine mRl ?_;rintro _ ⟨nq,rfl⟩;go_wp2;go_meet;exact⟨mR,⟨nq.2⟩⟩
  obtain⟨rfl,BC⟩:=hcut;have t:=sH (T3.o.ar BC.o);have Qn:=t.o.be.size;cases b
  ·obtain rfl:g=r:=(HP.o.2 rfl).symm
   go_wp2_with (first
    |(at_builtin;refine a7 nF rfl (.tmp 80) (.tmp 82) rfl rfl (t.o.o1.alloc _) rfl (aX _ _ _) aq cA ?_;intro K c6 w6 y b6 N P;have O6:=sH y;have B6:=sH b6;have S:=sH (t.o.step (x:=(g,g)) y N P);have hz6:w.heap.size<=w6.heap.size:=VH;clear y b6 N P)
    |(at_builtin;refine a7 nF rfl (.tmp 84) (.tmp 86) rfl rfl (S.o.1.alloc _) rfl (aX _ _ _) aq cA ?_;intro O s w7 J G H M;have T7:ak (lQ w w7 (l++[(g,g)]) K c6 O s):=⟨t.o.push O6.o B6.o S.o J G H M⟩;clear J G H M))
   have W:=T7.o;rw[X.o]at W;have Y:l.length+1=L.length:=by rw[<-X.o];simp
   go_ret2;exact⟨K,c6,O,s,by rw[<-Y]<;>rfl,W.o1,W.o2,W.be⟩
  ·obtain rfl:g=z:=(HP.o.1 rfl).symm
   go_wp2_with (first
    |(at_builtin;refine a7 nF rfl (.tmp 80) (.tmp 82) rfl rfl (t.o.o1.alloc _) rfl (aX _ _ _) aq cA ?_;intro K c6 w6 y b6 N P;have O6:=sH y;have B6:=sH b6;have S:=sH (t.o.step (x:=(r,g)) y N P);have hz6:w.heap.size<=w6.heap.size:=VH;clear y b6 N P)
    |(at_builtin;refine a7 nF rfl (.tmp 84) (.tmp 86) rfl rfl (S.o.1.alloc _) rfl (aX _ _ _) aq cA ?_;intro O s w7 J G H M;have T7:ak (lQ w w7 (l++[(r,g)]) K c6 O s):=⟨t.o.push O6.o B6.o S.o J G H M⟩;clear J G H M))
   have W:=T7.o;rw[X.o]at W;have Y:l.length+1=L.length:=by rw[<-X.o];simp
   go_ret2;exact⟨K,c6,O,s,by rw[<-Y]<;>rfl,W.o1,W.o2,W.be⟩
 ·obtain⟨q,hq⟩:=eY (jX (qs xs) a (m-a))
  rw[hq]at F⊢;have X:ak ((l++[(wS (qs xs) a q false,pS ts (qs xs) a q false)])++fI ts (qs xs) m (f-1) (a+q+1)=L):=⟨by rw[<-LE.o,HF.o,wu hq (by omega)];simp⟩;clear hq;obtain⟨A5,c5,p⟩:=nt QE I m D a (a+q) aq aq u (a:Int) ((a:Int)+(q:Int)) rfl aq;rw[show a+q-a=q by omega]at p;have i:=p.run;have Q:=p.Xe (Z.o.Z U.o.be U.o.be.size) aq;rw[Nat.zero_add]at Q;have Q:=sH Q;clear p;go_wp2_with fail;refine(Au xs a q c5 A5 T n c ts _ Q.o (TX.o.ar U.o.be) aq hn HG.o IT.o SD.o).mono ?_;rintro e w3 ⟨z,b,rfl,F,b3⟩;have T3:=sH (U.o.ar b3);have R6:=sH (Q.o.Z b3 b3.size);obtain⟨S0,B⟩:=eY (nX (qs xs) a q);obtain⟨r,o⟩:=eY (wS (qs xs) a q false);obtain⟨g,C⟩:=eY (pS ts (qs xs) a q false);have HP:ak ((b=true->z=g)/\(b=false->r=g)):=⟨by
   rw[<-o,<-C];unfold pS;cases hd:jl ts (qs xs) a q with
   |some v=>have:=(kH hd).1 F;exact⟨fun _=>this.2,fun h=>Hq⟩
   |none=>have:=(kI hd).1 F;exact⟨fun h=>Hq,fun _=>rfl⟩⟩
  have HS:ak (r=wrap64 (S0+nQ (qs xs) a q false)):=⟨by rw[<-o,<-B];rfl⟩;rw[o,C]at X;rw[B];clear F b3 i U B o C;go_upto_if 61 with fail;go_cut [12] (fun v wx=>v=ae aj r/\ak (aA w3 wx))
  ·
   have E:ak (wrap64 S0=r):=⟨by rw[HS.o];unfold nQ;rw[if_neg (by simp),Int.add_zero]⟩;go_wp2;go_meet;exact⟨mR,cB⟩
  obtain⟨rfl,BC⟩:=hcut;have t:=sH (T3.o.ar BC.o);have Qn:=t.o.be.size;cases b
  ·obtain rfl:g=r:=(HP.o.2 rfl).symm
   go_wp2_with (first
    |(at_builtin;refine a7 nF rfl (.tmp 80) (.tmp 82) rfl rfl (t.o.o1.alloc _) rfl (aX _ _ _) aq cA ?_;intro K c6 w6 y b6 N P;have O6:=sH y;have B6:=sH b6;have S:=sH (t.o.step (x:=(g,g)) y N P);have hz6:w.heap.size<=w6.heap.size:=VH;clear y b6 N P)
    |(at_builtin;refine a7 nF rfl (.tmp 84) (.tmp 86) rfl rfl (S.o.1.alloc _) rfl (aX _ _ _) aq cA ?_;intro O s w7 J G H M;have T7:ak (lQ w w7 (l++[(g,g)]) K c6 O s):=⟨t.o.push O6.o B6.o S.o J G H M⟩;clear J G H M))
   go_roundg (m+1-a)
   ·exact⟨a+q+1,f-1,l++[(g,g)],K,c6,O,s,aq,aq,aq,cA,aD,aD,aQ,X,T7⟩
   have:=gI.o;omega
  ·obtain rfl:g=z:=(HP.o.1 rfl).symm
   go_wp2_with (first
    |(at_builtin;refine a7 nF rfl (.tmp 80) (.tmp 82) rfl rfl (t.o.o1.alloc _) rfl (aX _ _ _) aq cA ?_;intro K c6 w6 y b6 N P;have O6:=sH y;have B6:=sH b6;have S:=sH (t.o.step (x:=(r,g)) y N P);have hz6:w.heap.size<=w6.heap.size:=VH;clear y b6 N P)
    |(at_builtin;refine a7 nF rfl (.tmp 84) (.tmp 86) rfl rfl (S.o.1.alloc _) rfl (aX _ _ _) aq cA ?_;intro O s w7 J G H M;have T7:ak (lQ w w7 (l++[(r,g)]) K c6 O s):=⟨t.o.push O6.o B6.o S.o J G H M⟩;clear J G H M))
   go_roundg (m+1-a)
   ·exact⟨a+q+1,f-1,l++[(r,g)],K,c6,O,s,aq,aq,aq,cA,aD,aD,aQ,X,T7⟩
   have:=gI.o;omega
section
variable {P : Program} {ops : Array Oper} {md : Region.Mode} {C : World -> Prop} {T : Option Tmp -> Option Sat}
theorem dB{l:Array Bool}{i:Nat}(c:i<l.size)(a:l.getD i true=false)(b:l.getD i false=true):False:=by
 rw[Array.getD_eq_getD_getElem?,Array.getElem?_eq_getElem c]at a b;simp at a b;rw[b]at a;cases a
theorem xU(p:∀{b:Array Bool},b.size=ops.size->Region.ready .any ops b=[]->∀i,i<ops.size->b.getD i false=true)(A:L+2=ops.size)(t:jV ops (L+1) L=true):∀(fuel:Nat) (b:Array Bool) (a:Act) (w:World),b.size=ops.size->b.getD L true=false->b.getD (L+1) true=false->Region.ready .any ops ((b.setIfInBounds L true).setIfInBounds (L+1) true)=[]->wpOp P ops Q' L (fun a w=>wpOp P ops Q' (L+1) (fun a w=>Q' .normal a w) a w) a w->wpAny P .any ops Q' (fuel+2) b a w:=by
 intro fuel b a w hs u r m y;have all:=p oM m;refine⟨fun s=> ?_,fun i x=> ?_⟩
 ·exfalso
  exact dB aq u (p hs s L aq)
 ·obtain⟨n,o,k,e⟩:=mem_ready.1 x
  have c:=(Array.getElem?_eq_some_iff.1 k).1;obtain rfl:i=L:=by
   rcases Nat.decEq i L with h|h
   ·exfalso
    rcases Nat.decEq i (L+1)with h3|h3
    ·have d:=all i c
     rw[getD_set_ne false (Ne.symm h3),getD_set_ne false (Ne.symm h)]at d;exact dB aq n d
    ·subst h3
     exact dB aq u (fg k e t)
   ·exact h
  refine wpOp_mono (fun z v g=> ?_) y;have q:(b.setIfInBounds i true).getD (i+1) true=false:=by rw[getD_set_ne true (by omega)];exact r
  refine⟨fun s=> ?_,fun j l=> ?_⟩
  ·exfalso
   exact dB cA q (p oM s (i+1) aq)
  ·obtain⟨n,o,k,_⟩:=mem_ready.1 l
   have c:=(Array.getElem?_eq_some_iff.1 k).1;obtain rfl:j=i+1:=by
    rcases Nat.decEq j (i+1)with h|h
    ·exfalso
     have d:=all j c;rw[getD_set_ne false (Ne.symm h)]at d;exact dB cA n d
    ·exact h
   refine wpOp_mono (fun z v g=> ?_) g;cases fuel with
   |zero=>exact⟨m,g⟩
   |succ f=>exact⟨fun _=>g,fun j l=>by rw[m]at l;cases l⟩
theorem uS{Q:(World->Prop)->Act->Prop}(t:backward ops=true)(A:L+2=ops.size)(G:gE ops L=true)(s:gE ops (L+1)=true)(o:jV ops (L+1) L=true)
 (z:∀E a w,C w->E w->Q E a->wpOp P ops Q' L (fun a w=>wpOp P ops Q' (L+1) (fun a w=>Q' .normal a w) a w) a w):∀(fuel:Nat) (b:Array Bool) (E:World->Prop) (a:Act) (w:World),C w->E w->nx E->b.size=ops.size->b.getD L true=false->b.getD (L+1) true=false->Cl ops b->
 fQ P .any ops T C Q fuel ((b.setIfInBounds L true).setIfInBounds (L+1) true) E a->wpAny P .any ops Q' (fuel+2) b a w:=by
 intro fuel
 induction fuel with
 |zero=>intro b E a w q p n hs hl g f h;exact xU (ed t) A o 0 b a w hs hl g h.1 (z _ _ _ q p h.2)
 |succ fuel ih=>
  intro b E a w q p n hs hl g f h;cases r:Region.ready .any ops ((b.setIfInBounds L true).setIfInBounds (L+1) true)with
  |nil=>exact xU (ed t) A o (fuel+1) b a w hs hl g r (z _ _ _ q p (h.1 r))
  |cons i0 rest=>
   have H:i0∈Region.ready .any ops ((b.setIfInBounds L true).setIfInBounds (L+1) true):=by rw[r];simp
   obtain⟨vY,K,y,_⟩:=mem_ready.1 H;have k:=(Array.getElem?_eq_some_iff.1 y).1;have Vt:i0≠L+1:=fun e=>by
    subst e;simp[hs,k]at vY
   have CJ:i0≠L:=fun e=>by
    subst e;rw[getD_set_ne true (Ne.symm Vt)]at vY;simp[hs,k]at vY
   have c:b.getD i0 true=false:=acI;have v:∀i∈Region.ready .any ops b,i≠L:=fun i j e=>by
    subst e;exact dB aq c (sR G f j i0 aq)
   have m:∀i∈Region.ready .any ops b,i≠L+1:=fun i j e=>by
    subst e;exact dB aq c (sR s f j i0 aq)
   refine⟨fun F=> ?_,fun i j=> ?_⟩
   ·exfalso
    exact dB aq c (ed t hs F i0 k)
   ·have dX:=v i j
    have d:=m i j;refine dV q p n (fun B J D x u l I=>ih _ B J D x u l oM VO (by rw[getD_set_ne true d];exact g) (Er f j hs) ?_) (h.2 i (ready_mono (ready_mono j dX) d));rw[Array.setIfInBounds_comm _ _ dX,Array.setIfInBounds_comm _ _ d];exact I
theorem sf{z:Nat}{Q:Exit->Act->World->Prop}{a:Act}{lo:List Oper}(T:Option Tmp->Option Sat)(L:Nat)(hlen:lo.length=L+2)(J:P.follows .mixedOrders=true)
 (x:Region.noSelect lo.toArray=true) (B:backward lo.toArray=true) (f:(gE lo.toArray L&&gE lo.toArray (L+1)&&jV lo.toArray (L+1) L)=true) (I:Region.lexFrom .any lo.toArray L 0 (((Array.replicate lo.length false).setIfInBounds L true).setIfInBounds (L+1) true)=true) (hg:(lo[L]?).map (·.guard)=some none) (d:(lo[L+1]?).map (·.guard)=some none)
 (h:dh P lo.toArray T (fun b=>∃n:aI w,b=n.1) (fun E p=>∀n:aI w,E n.1->∀o s,lo[L]? =some o->lo[L+1]? =some s->o.wp P p n.1 (fun g q=>s.wp P g q (fun y F=>Q .normal y F) Q) Q) (lo.take L) (fun _=>True) a):(Code.region z lo.toArray true).wp P Q a w:=by
 have r:(fun b=>∃n:aI w,b=n.1) {w with drawn:=w.drawn+1}:=⟨⟨{w with drawn:=w.drawn+1},⟨rfl,rfl,rfl,Nat.le_refl _,fun _ _=>rfl⟩⟩,rfl⟩;have G:L<lo.length:=aq;have m:L+1<lo.length:=aq;have e:lo[L]? =some lo[L]:=List.getElem?_eq_getElem G;have i:lo[L+1]? =some lo[L+1]:=List.getElem?_eq_getElem m;rw[e]at hg;rw[i]at d;simp at hg d;simp only[Bool.and_eq_true]at f;refine wp_region_any J ?_;have c:(lo.take L).length=L:=cA;have t:=iR (md:= .any) ⟨_,r⟩ x (lo.take L) 0 (((Array.replicate lo.length false).setIfInBounds L true).setIfInBounds (L+1) true) (fun _=>True) a (fun j u=>by
  rw[c]at u;simp[List.getElem?_take,u]) (by rw[c];exact I) h
 rw[c]at t;have A:=uS (C:=fun b=>∃n:aI w,b=n.1) (Q':=Q) (L:=L) B wV f.1.1 f.1.2 f.2 (fun E p b l v H=>by
  obtain⟨n,rfl⟩:=l;unfold wpOp;simp only[List.getElem?_toArray,e,i];rw[if_pos Hp];have k:=H n v _ _ e i;refine .inl (Oper.wp_mono (fun p b D=> ?_) k);rw[if_pos (by simp[Region.wanted,d])];exact .inl D) L (Array.replicate lo.length false) (fun _=>True) a {w with drawn:=w.drawn+1} r trivial (fun _ _ _ _=>trivial) aD wV wV (fun j o K h=>by exfalso;rw[Array.getD_eq_getD_getElem?,Array.getElem?_replicate]at h;split at h<;>simp at h) t
 simpa[hlen]using A
end
section
variable {P : Program} {ops : Array Oper} {md : Region.Mode} {C : World -> Prop} {T : Option Tmp -> Option Sat}
def NH(ops:Array Oper)(L K:Nat):Bool:=(List.range L).all fun i=>i==K||jV ops L i||(List.range L).any fun j=>jV ops L j&&jV ops j i
theorem NI{a:Array Bool}{K:Nat}(p:NH ops L K=true)(g:Cl ops a)(n:L∈Region.ready .any ops a):∀i,i<L->i≠K->a.getD i false=true:=fun i h f=>by
 obtain⟨_,o,l,b⟩:=mem_ready.1 n;have c:=(List.all_eq_true.1 p) i (List.mem_range.2 h);simp only[Bool.or_eq_true,beq_iff_eq]at c;rcases c with(c|c)|c
 ·exact absurd c f
 ·exact fg l b c
 ·obtain⟨j,q,k⟩:=List.any_eq_true.1 c
  rw[Bool.and_eq_true]at k;have m:=fg l b k.1;have e:=k.2;cases d:ops[j]? with
  |none=>unfold jV at e;rw[d]at e;simp at e
  |some oj=>exact fg d (g j oj d m) e
theorem MZ(a:Act)(d:Tmp)(v:Value):∃u,(a.put (some d) v).put (some d) u=a:=by
 refine⟨a.tmps.getD d undef, ?_⟩;obtain⟨ts,ds⟩:=a;simp only[Act.put]
 congr 1
 apply Array.ext_getElem?;intro i;by_cases h:d=i
 ·subst h
  by_cases b:d<ts.size
  ·simp[b]
  ·simp[b]
 ·simp[h]
theorem all_nil{a:Array Bool}(h:∀i,i<ops.size->a.getD i false=true)(f:a.size=ops.size):Region.ready .any ops a=[]:=by
 rw[List.eq_nil_iff_forall_not_mem];intro i e;obtain⟨c,o,d,_⟩:=mem_ready.1 e;have b:=(Array.getElem?_eq_some_iff.1 d).1;exact dB aq c (h i b)
theorem xz{Q:(World->Prop)->Act->Prop}{K:Nat}{d:Tmp}{oK:Oper}(N:fG ops=true)(hL:L+2=ops.size)(hKL:K<L)(hd:NH ops L K=true)(J3:gE ops (L+1)=true)(S:jV ops (L+1) L=true)(Z:jV ops (L+1) K=true)
 (hoK:ops[K]? =some oK) (t:oK.dst=some d) (hgK:oK.guard=none) (hT:T (some d)=none)
 (W:∀E a w,C w->E w->Q E a->wpOp P ops Q' L (fun a w=>wpOp P ops Q' (L+1) (fun a w=>Q' .normal a w) a w) a w/\∀u,wpOp P ops Q' L (fun a w=>wpOp P ops Q' K (fun a w=>wpOp P ops Q' (L+1) (fun a w=>Q' .normal a w) a w) a w) (a.put (some d) u) w):
 ∀(fuel:Nat) (b:Array Bool) (E:World->Prop) (a:Act) (w:World),C w->E w->nx E->b.size=ops.size->b.getD L true=false->b.getD (L+1) true=false->Cl ops b->
 fQ P .any ops T C Q fuel ((b.setIfInBounds L true).setIfInBounds (L+1) true) E a->wpAny P .any ops Q' (fuel+2) b a w:=by
 have afx:K≠L:=aq;have afL:K≠L+1:=aq;intro fuel
 induction fuel with
 |zero=>intro b E a w R F O hs hl n r h;exact xU (gK N) hL S 0 b a w hs hl n h.1 (W _ _ _ R F h.2).1
 |succ fuel ih=>
  intro b E a w R F O hs hl n r h;cases V:Region.ready .any ops ((b.setIfInBounds L true).setIfInBounds (L+1) true)with
  |nil=>exact xU (gK N) hL S (fuel+1) b a w hs hl n V (W _ _ _ R F (h.1 V)).1
  |cons i0 rest=>
   have h0:i0∈Region.ready .any ops ((b.setIfInBounds L true).setIfInBounds (L+1) true):=by rw[V];simp
   obtain⟨vY,o0,YE,_⟩:=mem_ready.1 h0;have q:=(Array.getElem?_eq_some_iff.1 YE).1;have Vt:i0≠L+1:=fun e=>by
    subst e;simp[hs,q]at vY
   have CJ:i0≠L:=fun e=>by
    subst e;rw[getD_set_ne true (Ne.symm Vt)]at vY;simp[hs,q]at vY
   have g:b.getD i0 true=false:=acI;have J:∀i∈Region.ready .any ops b,i≠L+1:=fun i D e=>by
    subst e;exact dB aq g (sR J3 r D i0 aq)
   refine⟨fun M=> ?_,fun i D=> ?_⟩
   ·exfalso
    exact dB aq g (gK N hs M i0 q)
   ·have l:=J i D
    rcases Nat.decEq i L with dX|rfl
    ·refine dV R F O (fun E' a' w' jj Y H h'=>ih _ E' a' w' jj Y H oM VO (by rw[getD_set_ne true l];exact n) (Er r D hs) ?_) (h.2 i (ready_mono (ready_mono D dX) l))
     rw[Array.setIfInBounds_comm _ _ dX,Array.setIfInBounds_comm _ _ l];exact h'
    ·have s:=NI hd r D
     obtain rfl:i0=K:=by
      rcases Nat.decEq i0 K with p|p
      ·exfalso;exact dB aq g (s i0 aq p)
      ·exact p
     have k:=h.2 i0 h0;unfold fX at k;simp only[hoK]at k;rw[if_pos (by simp[Region.wanted,hgK])]at k;unfold fU at k;rw[t,hT]at k;obtain⟨_,v,_,hv⟩:=k;rw[t]at hv;have c:∀j,j<ops.size->(((b.setIfInBounds i true).setIfInBounds (i+1) true).setIfInBounds i0 true).getD j false=true:=fun j x=>by
      rcases Nat.decEq j i0 with p|rfl
      ·rcases Nat.decEq j (i+1)with h6|rfl
       ·rcases Nat.decEq j i with B|rfl
        ·exact getD_set_true (getD_set_true (getD_set_true (s j aq p)))
        ·simp[hs,x,Ne.symm p,Ne.symm h6]
       ·simp[hs,x,Ne.symm p]
      ·simp[hs,x]
     have y:=all_nil c oM;have hq:Q E (a.put (some d) v):=by
      cases fuel with
      |zero=>exact hv.2
      |succ f=>exact hv.1 y
     obtain⟨u,hu⟩:=MZ a d v;have I:=(W _ _ _ R F hq).2 u;rw[hu]at I;have hlK:b.getD i0 true=false:=g;refine wpOp_mono (fun a' w' h'=> ?_) I;have q1:(b.setIfInBounds i true).getD i0 true=false:=by rw[getD_set_ne true (Ne.symm CJ)];exact hlK
     have q2:(b.setIfInBounds i true).getD (i+1) true=false:=by rw[getD_set_ne true (by omega)];exact n
     refine⟨fun M=> ?_,fun j x=> ?_⟩
     ·exfalso
      exact dB cA q1 (gK N oM M i0 q)
     ·obtain⟨X,o,U,z⟩:=mem_ready.1 x
      have A:=(Array.getElem?_eq_some_iff.1 U).1;obtain rfl:j=i0:=by
       rcases Nat.decEq j i0 with p|p
       ·exfalso
        rcases Nat.decEq j (i+1)with h6|rfl
        ·have B:=c j A
         rw[getD_set_ne false (Ne.symm p),getD_set_ne false (Ne.symm h6)]at B;exact dB cA X B
        ·exact dB cA q1 (fg U z Z)
       ·exact p
      refine wpOp_mono (fun a2 w2 h2=> ?_) h';have q3:((b.setIfInBounds i true).setIfInBounds j true).getD (i+1) true=false:=by rw[getD_set_ne true (by omega)];exact q2
      refine⟨fun M=> ?_,fun m hm=> ?_⟩
      ·exfalso
       exact dB cA q3 (gK N oM M (i+1) aq)
      ·obtain⟨hmu,o,U,_⟩:=mem_ready.1 hm
       have A:=(Array.getElem?_eq_some_iff.1 U).1;obtain rfl:m=i+1:=by
        rcases Nat.decEq m (i+1)with h6|h6
        ·exfalso
         have B:=c m A;rw[Array.setIfInBounds_comm (xs:=b.setIfInBounds i true) true true (by omega:i+1≠j)]at B;rw[getD_set_ne false (Ne.symm h6)]at B;exact dB cA hmu B
        ·exact h6
       refine wpOp_mono (fun a3 w3 h3=> ?_) h2;have G:Region.ready .any ops (((b.setIfInBounds i true).setIfInBounds j true).setIfInBounds (i+1) true)=[]:=by
        rw[Array.setIfInBounds_comm _ _ (by omega:j≠i+1)];exact y
       cases fuel with
       |zero=>exact⟨G,h3⟩
       |succ f=>exact⟨fun _=>h3,fun j x=>by rw[G]at x;cases x⟩
theorem si{X:Nat}{Q:Exit->Act->World->Prop}{a:Act}{lo:List Oper}(T:Option Tmp->Option Sat)(L K:Nat)(d:Tmp)(hlen:lo.length=L+2)(hm:P.follows .mixedOrders=true)
 (S:Region.noSelect lo.toArray=true) (hb:fG lo.toArray=true) (I:(NH lo.toArray L K&&gE lo.toArray (L+1)&&jV lo.toArray (L+1) L&&jV lo.toArray (L+1) K&&decide (K<L))=true) (hB:Region.lexFrom .any lo.toArray L 0 (((Array.replicate lo.length false).setIfInBounds L true).setIfInBounds (L+1) true)=true) (hg:(lo[L]?).map (·.guard)=some none) (c:(lo[L+1]?).map (·.guard)=some none)
 (l:(lo[K]?).map (fun o=>(o.dst,o.guard))=some (some d,none)) (hT:T (some d)=none)
 (h:dh P lo.toArray T (fun b=>∃n:aI w,b=n.1) (fun E g=>∀n:aI w,E n.1->∀o y H,lo[L]? =some o->lo[L+1]? =some y->lo[K]? =some H->o.wp P g n.1 (fun p B=>y.wp P p B (fun r A=>Q .normal r A) Q) Q/\∀u,o.wp P (g.put (some d) u) n.1 (fun U V=>H.wp P U V (fun r A=>y.wp P r A (fun W w4=>Q .normal W w4) Q) Q) Q) (lo.take L) (fun _=>True) a):(Code.region X lo.toArray true).wp P Q a w:=by
 have D:(fun b=>∃n:aI w,b=n.1) {w with drawn:=w.drawn+1}:=⟨⟨{w with drawn:=w.drawn+1},⟨rfl,rfl,rfl,Nat.le_refl _,fun _ _=>rfl⟩⟩,rfl⟩;simp only[Bool.and_eq_true,decide_eq_true_eq]at I;obtain⟨⟨⟨⟨t,x⟩,v⟩,s⟩,q⟩:=I;have e:lo[L]? =some (lo[L]' aq):=List.getElem?_eq_getElem aq;have G:lo[L+1]? =some (lo[L+1]' aq):=List.getElem?_eq_getElem aq;have F:lo[K]? =some (lo[K]' aq):=List.getElem?_eq_getElem aq;rw[e]at hg;rw[G]at c;rw[F]at l;simp at hg c l;refine wp_region_any hm ?_;have f:(lo.take L).length=L:=cA;have O:=iR (md:= .any) ⟨_,D⟩ S (lo.take L) 0 (((Array.replicate lo.length false).setIfInBounds L true).setIfInBounds (L+1) true) (fun _=>True) a (fun j N=>by
  rw[f]at N;simp[List.getElem?_take,N]) (by rw[f];exact hB) h
 rw[f]at O;have k:∀{o:Oper} {i:Nat} {a:Act} {w:World} {M:Act->World->Prop},lo.toArray[i]? =some o->o.guard=none->o.wp P a w M Q->wpOp P lo.toArray Q i M a w:=fun J hg h=>by
  unfold wpOp;rw[J];simp only;rw[if_pos Hp];exact .inl h
 have Y:=xz (C:=fun b=>∃n:aI w,b=n.1) (Q':=Q) (L:=L) (K:=K) (d:=d) (oK:=lo[K]' aq) hb wV q t x v s aD l.1 l.2 hT (fun E g b z R hq=>by
  obtain⟨n,rfl⟩:=z;obtain⟨Z,g2⟩:=hq n R _ _ _ e G F;exact⟨k aD hg (Oper.wp_mono (fun g b m=>k aD c m) Z),fun u=>k aD hg (Oper.wp_mono (fun g b m=>k aD l.2 (Oper.wp_mono (fun g b m=>k aD c m) m)) (g2 u))⟩) L (Array.replicate lo.length false) (fun _=>True) a {w with drawn:=w.drawn+1} D trivial (fun _ _ _ _=>trivial) aD wV wV (fun j o J h=>by exfalso;rw[Array.getD_eq_getD_getElem?,Array.getElem?_replicate]at h;split at h<;>simp at h) O
 simpa[hlen]using Y
end
def isJ(v:Value):Bool:=match v with| ae aj _=>true|_=>false
theorem Sz(h:cs.toList.all isJ=true){j:Nat}(hj:j<cs.toList.length):∃z:Int,cs[j]? =some (ae aj z):=by
 have a:=(List.all_eq_true.1 h) (cs[j]' uB) aD;rw[Array.getElem?_eq_getElem uB];generalize cs[j]' uB=v at*;unfold isJ at a;split at a
 ·exact⟨_,rfl⟩
 ·cases a
def Lt(w:World)(g n:Nat):Prop:=∃cs t a,w.heap[g]? =some (.cells cs t a)/\cs.toList.all isJ=true/\n=cs.toList.length
theorem Lt.ar{b:World}(h:Lt w g n)(c:aA w b):Lt b g n:=by
 obtain⟨cs,t,d,a,e⟩:=h;exact⟨cs,t,d,(c.block _ (Array.getElem?_eq_some_iff.1 a).1).trans a,e⟩
theorem Lt.new(w:World)(cs:Array Value)(t:TypeId)(n N:Nat)(b:w.heap.size=N)(h:cs.toList.all isJ=true)(a:n=cs.toList.length):Lt (w.alloc (.cells cs t)) N n:=by
 subst b;exact⟨cs,t,_,heap_alloc_new _ _,h,a⟩
def PB0(w:World)(e:Ending)(a:World):Prop:=(∃b:Bool,e= .returned (.bool b))/\a=w
theorem oh(z:Int)(g n k:Nat)(w:World)(h:Lt w g n)(p:n<=100):Calls prog 99 #[ae aj z, .slice (some ⟨g,0,none⟩) n k] w (PB0 w):=by
 have H:=sH h;go_enter func99,ntmps99;go_wp2;go_loopg [5] (n+1) (fun gg d wr=>∃(i:Nat),n-i<gg/\i<=n/\d=ae aj (i:Int)/\wr=w)
 ·exact⟨0,aq,aq,rfl,rfl⟩
 obtain⟨i,m,r,rfl,rfl⟩:=hrel;by_cases b:i<n;rotate_left
 ·have a:=cF i n
  go_wp2;go_ret;exact⟨⟨_,rfl⟩,rfl⟩
 have a:=aR i n;obtain⟨u,o⟩:∃u:Int,wr.cell? ⟨g,i,none⟩=some (ae aj u):=by
  obtain⟨cs,t,l,f,e,q⟩:=H.o;obtain⟨u,c⟩:=Sz e (j:=i) aq;exact⟨u,by rw[cell_of_row _ _ _ _ _ _ f];exact c⟩
 cases s:(u==z)
 ·go_wp2
  go_roundg (n-i)
  ·exact⟨i+1,aq,aq,aQ,rfl⟩
  omega
 ·go_wp2
  go_ret;exact⟨⟨_,rfl⟩,rfl⟩
theorem wY(z:Int)(w:World):Calls prog 98 #[ae aj z] w (PB0 w):=by
 go_enter func98,ntmps98;cases a:(z==8)
 ·go_wp2
  go_ret;exact⟨⟨_,rfl⟩,rfl⟩
 ·go_wp2
  go_ret;exact⟨⟨_,rfl⟩,rfl⟩
theorem Pa(s:G:=by
 skip
 all_goals go_wp2_with fail
 repeat' (go_at_call 99;refine(oh _ _ _ _ _ VV bQ).mono ?_;rintro e w9 ⟨⟨b,rfl⟩,rfl⟩;cases b<;>go_wp2_with fail)
 all_goals
  go_meet;exact⟨⟨_,rfl⟩,⟨by repeat(first|exact BE.o|exact Below.alloc BE.o BE.o.size _|refine Below.alloc ?_ Bf _)⟩⟩):G:=s
theorem Pd(s:G:=by
 go_wp2
 go_ret;exact⟨_,rfl,BE.o⟩):G:=s
theorem Io(a b:Int)(w:World):Calls prog 103 #[ae aj a,ae aj b] w (PB w):=by
 have BE:ak (aA w w):=cB;go_enter func103,ntmps103;go_upto_region 1 with fail;go_cut [13] (fun v d=>(∃b:Bool,v= .bool b)/\ak (aA w d))
 case first=>exact Pa
 case rest=>
 obtain⟨⟨b,rfl⟩,c⟩:=hcut;clear BE;have BE:=c;clear c
 rename World=>d
 cases b;rotate_left
 ·exact Pd
 go_upto_region 3 with fail;go_cut [21] (fun v d=>(∃b:Bool,v= .bool b)/\ak (aA w d))
 case first=>exact Pa
 case rest=>
 obtain⟨⟨b,rfl⟩,c⟩:=hcut;clear BE;have BE:=c;clear c
 rename World=>d
 cases b;rotate_left
 ·exact Pd
 go_upto_region 5 with fail;go_cut [28] (fun v d=>(∃b:Bool,v= .bool b)/\ak (aA w d))
 case first=>exact Pa
 case rest=>
 obtain⟨⟨b,rfl⟩,c⟩:=hcut;clear BE;have BE:=c;clear c
 rename World=>d
 cases b;rotate_left
 ·exact Pd
 go_upto_region 7 with fail;go_cut [35] (fun v d=>(∃b:Bool,v= .bool b)/\ak (aA w d))
 case first=>
  cases j:(a==30)
  all_goals go_wp2_with fail
  repeat' (go_at_call 99;refine(oh _ _ _ _ _ VV bQ).mono ?_;rintro e w9 ⟨⟨b,rfl⟩,rfl⟩;cases b<;>go_wp2_with fail)
  all_goals
   go_meet;exact⟨⟨_,rfl⟩,⟨by repeat(first|exact BE.o|exact Below.alloc BE.o BE.o.size _|refine Below.alloc ?_ Bf _)⟩⟩
 case rest=>
 obtain⟨⟨b,rfl⟩,c⟩:=hcut;clear BE;have BE:=c;clear c
 rename World=>d
 cases b;rotate_left
 ·exact Pd
 go_upto_region 9 with fail;go_cut [52] (fun v d=>(∃b:Bool,v= .bool b)/\ak (aA w d))
 case first=>exact Pa
 case rest=>
 obtain⟨⟨b,rfl⟩,c⟩:=hcut;clear BE;have BE:=c;clear c
 rename World=>d
 cases b;rotate_left
 ·exact Pd
 have L0:=Lt.new d #[ae aj 30,ae aj 31,ae aj 32,ae aj 33,ae aj 34] 3 5 _ rfl rfl rfl;have g:=BE.o.alloc BE.o.size (.cells #[ae aj 30,ae aj 31,ae aj 32,ae aj 33,ae aj 34] 3);go_upto_region 12 with fail;generalize d.alloc (.cells #[ae aj 30,ae aj 31,ae aj 32,ae aj 33,ae aj 34] 3)=f at*;have LT:=sH L0;have h:=sH g;clear BE L0 g;have BE:ak (aA f f):=cB;cases k:(a==23)<;>cases i:(b==22)
 all_goals go_wp2_with fail
 repeat' (go_at_call 99;refine(oh _ _ _ _ _ VV bQ).mono ?_;rintro e w9 ⟨⟨b,rfl⟩,rfl⟩;cases b<;>go_wp2_with fail)
 all_goals
  go_ret;exact⟨_,rfl,h.o⟩
theorem Iz(a b:Int)(w:World):Calls prog 104 #[ae aj a,ae aj b] w (PB w):=by
 have L0:=Lt.new w #[ae aj 0,ae aj 28] 3 2 _ rfl rfl rfl;have h:=av w (.cells #[ae aj 0,ae aj 28] 3);go_enter func104,ntmps104;go_upto_region 2 with fail;generalize w.alloc (.cells #[ae aj 0,ae aj 28] 3)=g at*;have LT:=sH L0;have d:=sH h;clear L0 h;have BE:ak (aA g g):=cB;go_upto_region 2 with fail;go_cut [18] (fun v f=>(∃b:Bool,v= .bool b)/\ak (aA g f))
 case first=>
  cases j:(a==20)
  all_goals go_wp2_with fail
  repeat' (go_at_call 99;refine(oh _ _ _ _ _ VV bQ).mono ?_;rintro e w9 ⟨⟨b,rfl⟩,rfl⟩;cases b<;>go_wp2_with fail)
  all_goals
   go_meet;exact⟨⟨_,rfl⟩,⟨by repeat(first|exact BE.o|exact Below.alloc BE.o BE.o.size _|refine Below.alloc ?_ Bf _)⟩⟩
 case rest=>
 obtain⟨⟨b,rfl⟩,c⟩:=hcut;clear BE;have BE:=c;clear c
 rename World=>f
 cases b;rotate_left
 ·go_wp2
  go_ret;exact⟨_,rfl,d.o.trans (BE.o.mono d.o.size)⟩
 go_upto_region 4 with fail;go_cut [25] (fun v f=>(∃b:Bool,v= .bool b)/\ak (aA g f))
 case first=>exact Pa
 case rest=>
 obtain⟨⟨b,rfl⟩,c⟩:=hcut;clear BE;have BE:=c;clear c
 rename World=>f
 cases b;rotate_left
 ·go_wp2
  go_ret;exact⟨_,rfl,d.o.trans (BE.o.mono d.o.size)⟩
 cases k:(a==14)<;>cases i:(a==26)
 all_goals go_wp2_with fail
 repeat' (go_at_call 99;refine(oh _ _ _ _ _ VV bQ).mono ?_;rintro e w9 ⟨⟨b,rfl⟩,rfl⟩;cases b<;>go_wp2_with fail)
 all_goals
  go_ret;exact⟨_,rfl,by repeat(first|exact d.o.trans (BE.o.mono d.o.size)|refine Below.alloc ?_ (by have:=BE.o.size;have:=d.o.size;simp<;>omega) _)⟩
theorem Bx.p9{b:Nat}{g c i j f a d k e:Value}(h:Bx w b #[g,c,i,j,f,a,d,k,e]):w.cell? ⟨b,0,none⟩=some g/\w.cell? ⟨b,1,none⟩=some c/\w.cell? ⟨b,2,none⟩=some i/\w.cell? ⟨b,3,none⟩=some j/\w.cell? ⟨b,4,none⟩=some f/\w.cell? ⟨b,5,none⟩=some a/\w.cell? ⟨b,6,none⟩=some d/\w.cell? ⟨b,7,none⟩=some k/\w.cell? ⟨b,8,none⟩=some e:=⟨h.cell 0,h.cell 1,h.cell 2,h.cell 3,h.cell 4,h.cell 5,h.cell 6,h.cell 7,h.cell 8⟩
def Tx(w:World)(g:Nat)(cs:Array Value)(t:TypeId):Prop:=w.heap[g]? =some (.cells cs t (0,0))
theorem Tx.bx(h:Tx w g cs t):Bx w g cs:=⟨t,h⟩
theorem Tx.ar{a:World}(h:Tx w g cs t)(b:aA w a):Tx a g cs t:=(b.block g h.bx.lt).trans h
theorem Tx.apart{B c:Nat}{e:TypeId}{A:aC}{vs:List Value}(h:Tx w g cs t)(o:aB w B e k A n c vs)(d:e≠t):bO A (some ⟨g,0,none⟩):=fun j f b=>by
 subst f;injection b with b
 injection b with b
 subst b;obtain⟨cur,i,a⟩:=aB.typ o;rw[h]at a;injection a with a
 injection a with _ a
 exact d a.symm
theorem Tx.row(h:Tx w g cs t)(ds:Array Value):Tx (w.setRow g ds) g ds t:=setRow_heap _ _ _ ds _ _ h
def ZT(N:Nat)(cs:Array Value)(t:TypeId):Sat:=⟨fun v w=>∃g:Nat,v= .pointer (some ⟨g,0,none⟩)/\N<=g/\Tx w g cs t,fun _ _ _ ⟨g,c,d,b⟩ a=>⟨g,c,d,b.ar a⟩⟩
theorem ye{w0:World}(n:aI w0)(cs:Array Value)(t:TypeId):(ZT w0.heap.size cs t).p (.pointer (some ⟨n.1.heap.size,0,none⟩)) (n.1.alloc (.cells cs t))/\(∃m:aI w0,n.1.alloc (.cells cs t)=m.1)/\Below n.1.heap.size n.1 (n.1.alloc (.cells cs t)):=
 ⟨⟨_,rfl,n.2.size,heap_alloc_new _ _⟩,⟨⟨_,n.2.trans ((av _ _).mono n.2.size)⟩,rfl⟩,av _ _⟩
theorem ZT.get{N:Nat}(h:(ZT N cs t).p (.pointer (some ⟨g,0,none⟩)) w):Tx w g cs t:=by
 obtain⟨a,e,_,h⟩:=h;injection e with e
 injection e with e
 injection e with e
 subst e;exact h
end Go.Proofs.YtpidckelbgbbkaaGreatDoor
