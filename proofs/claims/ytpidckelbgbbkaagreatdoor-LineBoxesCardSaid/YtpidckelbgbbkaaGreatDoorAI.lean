/- Part of LineBoxes. -/
import Derived.Test.YtpidckelbgbbkaaGreatDoorAG
namespace Go.Proofs.YtpidckelbgbbkaaGreatDoor
open Go.ChangeShapes Go.WideShapes Go.ChangeAt Go.RowKit Go.Proofs.Tryz
open Go.Value renaming int → ae
open Go.IntKind renaming i64 → aj
set_option linter.all false
set_option maxRecDepth 100000
set_option maxHeartbeats 16000000
variable{w:World}{n:Nat}{kind lo:Int}{G:Prop}{T:aC}
theorem Yw(f:db)(s:Sb)(w:World)(h:ca w w.heap.size f)(E:nD w w.heap.size s):Calls prog 273 #[f.v,s.v] w (PB w):=by
 obtain⟨U,u,d,q,H⟩:=box2 w f.row 82 s.row 141;have R:=sH (h.Z d.o d.o.size);have RS:=sH (E.Z d.o d.o.size);have JT:=E.rC.bd;have qT:=E.rL.bd;obtain⟨c0,C,a,r,c4,c5⟩:=q.o.f6;obtain⟨y,K,b,_⟩:=H.o.mS;clear h E;go_enter func273,ntmps273;go_wp2_with fail;rw[<-u];clear u;go_wp2_with fail;refine(oQ f s.C s.cn s.cc U R.o RS.o.rC).mono ?_;rintro e w2 ⟨z,rfl,l⟩;have V:=sH l;have y:=au y l;have b:=au b l
 clear l c0 C a r c4 c5 K;have W:=d.t V.o;cases z
 ·go_wp2
  go_ret;exact⟨_,rfl,W.o⟩
 by_cases hq:s.ln=s.cn;rotate_left
 ·have A:((s.ln:Int) !=(s.cn:Int))=true:=by simp;omega
  clear hq;go_wp2;go_ret;exact⟨_,rfl,W.o⟩
 have A:((s.ln:Int) !=(s.cn:Int))=false:=cA;clear hq;go_wp2;go_loopg [5,6,7,8] (s.ln+1) (fun gg v5 v6 _ _ wr=>∃(i:Nat) (z:Int),s.ln-i<gg/\i<=s.ln/\v5=ae aj z/\v6=ae aj (i:Int)/\ak (aA U wr))
 ·exact⟨0,0,aq,aq,rfl,rfl,V⟩
 obtain⟨i,z,hg,wZ,rfl,rfl,c⟩:=hrel;clear y b A;have BG:=d.t c.o;obtain⟨y,K,b,_⟩:=(H.o.ar c.o H.o.lt).mS;clear y K;by_cases M:i<s.ln;rotate_left
 ·have i4:¬(i:Int)<(s.ln:Int):=by omega
  go_wp2;go_ret;exact⟨_,rfl,BG.o⟩
 have i4:(i:Int)<(s.ln:Int):=aq;obtain⟨ad,A2,n,k2,J,O,B⟩:=fi (RS.o.Z c.o c.o.size).rL M;rw[J]at b;have Y:=sH O;have EL:=sH J;have pP:=O.bd;clear J O;go_wp2;obtain⟨wo,o⟩:=eX wr;rw[<-o]at Y c BG b B;rw[<-o];clear o;have E0:=sH B;have D2:=sH b;have m:=c.o.size;clear EL b B;generalize wrap64 (z+(n:Int))=z2;go_loopg [7,8] (n+1) (fun gg v7 _ wr=>∃(k:Nat),n-k<gg/\k<=n/\v7=ae aj (k:Int)/\ak (aA wo wr))
 ·exact⟨0,aq,aq,rfl,cB⟩
 obtain⟨k,fL,hk,rfl,p⟩:=hrel;have B:=au E0.o p.o;have b:=au D2.o p.o;have BX:=sH (c.o.trans (p.o.mono m));by_cases Q:k<n;rotate_left
 ·have i5:=cF k n
  go_wp2;go_roundg (s.ln-i)
  ·exact⟨i+1,_,aq,aq,rfl,aQ,BX⟩
  omega
 have i5:=aR k n;obtain⟨qx,x,eA,N,g0,g1⟩:=WW (Y.o.Z p.o p.o.size) Q;subst eA;have zB:=N.rP.bd;obtain⟨F,cd⟩:=eX (wr.alloc (.cells #[.slice x.P x.pn x.pc,ae aj x.gl] 311));have l:aA wr F:=jT;have I:ak (Bx F wr.heap.size #[.slice x.P x.pn x.pc,ae aj x.gl]):=⟨oJ⟩;have t:=p.t l;have g:=sH (c.o.trans (t.o.mono m));have P:=d.t g.o;have RP:=sH (N.rP.Z l l.size);clear l N;go_wp2_with fail;refine(cK _ _ _ _).mono ?_;rintro e _ ⟨z,rfl,_,Z⟩;rw[<-Z,<-cd];clear Z cd B b g0 g1;have p0:F.cell? ⟨wr.heap.size,0,none⟩=some (.slice x.P x.pn x.pc):=I.o.cell 0;obtain⟨c0,C,a,r,c4,c5⟩:=(q.o.ar g.o q.o.lt).f6;cases z
 ·go_wp2
  go_ret;exact⟨_,rfl,P.o⟩
 go_wp2_with fail;refine(Lq f x.P x.pn x.pc F (R.o.Z g.o g.o.size) RP.o).mono ?_;rintro e X ⟨z,rfl,L⟩;have D:=t.t L;have j:=sH (c.o.trans (D.o.mono m));have G:=d.t j.o;have p1:X.cell? ⟨wr.heap.size,1,none⟩=some (ae aj x.gl):=(I.o.ar L I.o.lt).cell 1;clear L p0 c0 C a r c4 c5;cases z
 ·go_wp2
  go_ret;exact⟨_,rfl,G.o⟩
 obtain⟨c0,C,a,r,c4,c5⟩:=(q.o.ar j.o q.o.lt).f6;go_wp2_with fail;refine(gX f x.gl X (R.o.Z j.o j.o.size)).mono ?_;rintro e w4 ⟨z,rfl,T⟩;have v:=D.t T;have S:=sH (d.o.trans ((c.o.trans (v.o.mono m)).mono d.o.size));clear T p1 c0 C a r c4 c5;cases z
 ·go_wp2
  go_ret;exact⟨_,rfl,S.o⟩
 go_wp2;go_roundg (n-k)
 ·exact⟨k+1,aq,aq,aQ,v⟩
 omega
theorem yb(k:Int)(w:World):Calls prog 222 #[ae aj k] w (PZ w):=by
 go_enter func222,ntmps222;go_wp2_with fail;refine(cK _ _ _ _).mono ?_;rintro e _ ⟨z,rfl,_,rfl⟩;cases z;rotate_left
 ·go_wp2
  go_ret;exact⟨_,rfl,rfl⟩
 go_wp2_with fail;refine(cK _ _ _ _).mono ?_;rintro e _ ⟨z,rfl,_,rfl⟩;cases z
 ·go_wp2
  go_ret;exact⟨_,rfl,rfl⟩
 ·go_wp2
  go_ret;exact⟨_,rfl,rfl⟩
def arT(a b:Int)(d:Option Tmp):Option (Value->Prop):=if d=some 52 then some SB else if d=some 61 then some (SW a 0 b)else if d=some 72 then some SI else if d=some 75 then some SI else none
theorem PWi.pb{a:World}{n b:Int}{e:Ending}(h:PWi w n lo b e a):PB w e a:=by
 obtain⟨z,c,_,rfl⟩:=h;exact⟨z,c,Below.refl _ _⟩
theorem PZ.pi{a:World}{e:Ending}(h:PZ w e a):PI w e a:=by
 obtain⟨z,b,rfl⟩:=h;exact⟨z,b,Below.refl _ _⟩
theorem acH(s:G:=by
 simp[Act.put]
 refine mSk ?_;intro nq;obtain⟨w6,bq⟩:=nq;have BX:=B2.t bq;have BZ:=B1.t BX.o
 try dsimp only
 clear bq wk L0 L1 L2 L3 L4 L5 D0 D1 D2 D3;go_wp2;go_ret;exact⟨_,rfl,BZ.o⟩):G:=s
theorem aaR(s:G:=by
 go_wp2
 go_ret;exact⟨_,rfl,B1.o.trans (B5.o.mono B1.o.size)⟩):G:=s
theorem zZ(f:db)(k:Lk)(s:Sb)(w:World)(h:ca w w.heap.size f)(C:nD w w.heap.size s):Calls prog 274 #[f.v,k.v,s.v] w (PB w):=by
 obtain⟨u,y⟩:=eX (((w.alloc (.cells f.row 82)).alloc (.cells k.row 132)).alloc (.cells s.row 141));obtain⟨S,g,Y,Q,jg⟩:=pX y;have B1:=sH S;have p:=sH g;have K:=sH Y;have l:=sH Q;clear g Y Q;have R:ak (ca u u.heap.size f):=⟨h.Z B1.o B1.o.size⟩;have D:ak (nD u u.heap.size s):=⟨C.Z B1.o B1.o.size⟩;have hjn:=C.rJ.bd;have ZV:=C.rN.bd;have qT:=h.rL.bd;have B5:ak (aA u u):=cB;obtain⟨c0,o,a,n,c4,c5⟩:=p.o.f6;obtain⟨_,_,_,r,d,q,m,_⟩:=l.o.mS;clear h C S;go_enter func274,ntmps274;go_wp2_with fail;rw[<-y];clear y;go_wp2_with fail;refine(mu f s.J s.jn s.jc 1 u R.o D.o.rJ).mono ?_;rintro e T ⟨z,rfl,v⟩;have x:=B5.t v;clear v B5 c0 o a n c4 c5 r d q m;have B5:=sH x.o;clear x;obtain⟨c0,o,a,n,c4,c5⟩:=(p.o.ar B5.o p.o.lt).f6;obtain⟨_,_,_,r,d,q,m,_⟩:=(l.o.ar B5.o l.o.lt).mS;cases z
 ·exact aaR
 go_wp2_with fail;refine(mu f s.B s.bn s.bc 0 _ (R.o.Z B5.o B5.o.size) (D.o.Z B5.o B5.o.size).rB).mono ?_;rintro e T ⟨z,rfl,v⟩;have x:=B5.t v;clear v B5 c0 o a n c4 c5 r d q m;have B5:=sH x.o;clear x;obtain⟨c0,o,a,n,c4,c5⟩:=(p.o.ar B5.o p.o.lt).f6;obtain⟨_,_,_,r,d,q,m,_⟩:=(l.o.ar B5.o l.o.lt).mS;cases z
 ·exact aaR
 go_wp2_with fail;refine(mu f s.A s.an s.ac 0 _ (R.o.Z B5.o B5.o.size) (D.o.Z B5.o B5.o.size).rA).mono ?_;rintro e T ⟨z,rfl,v⟩;have x:=B5.t v;clear v B5 c0 o a n c4 c5 r d q m;have B5:=sH x.o;clear x;obtain⟨c0,o,a,n,c4,c5⟩:=(p.o.ar B5.o p.o.lt).f6;obtain⟨_,_,_,r,d,q,m,_⟩:=(l.o.ar B5.o l.o.lt).mS;cases z
 ·exact aaR
 by_cases Z:s.nn<=16;rotate_left
 ·have B:(16:Int)<(s.nn:Int):=by omega
  go_wp2;go_ret;exact⟨_,rfl,B1.o.trans (B5.o.mono B1.o.size)⟩
 have B:¬(16:Int)<(s.nn:Int):=aq;go_wp2;go_loopg [7,8] (s.nn+1) (fun gg v7 _ wr=>∃(i:Nat),s.nn-i<gg/\i<=s.nn/\v7=ae aj (i:Int)/\ak (aA u wr))
 ·exact⟨0,aq,aq,rfl,B5⟩
 obtain⟨i,hg,wZ,rfl,A⟩:=hrel;clear c0 o a n c4 c5 r d q m B5;obtain⟨_,_,_,r,d,q,m,_⟩:=(l.o.ar A.o l.o.lt).mS;by_cases I:i<s.nn;rotate_left
 ·have i4:¬(i:Int)<(s.nn:Int):=by omega
  go_wp2;go_ret;exact⟨_,rfl,B1.o.trans (A.o.mono B1.o.size)⟩
 have i4:(i:Int)<(s.nn:Int):=aq;obtain⟨ad,F,g,U,e0,e1⟩:=yt (D.o.Z A.o A.o.size).rN I;rw[U]at m;obtain⟨E,cd⟩:=eX (wr.alloc (.cells #[ae aj F,ae aj g] 313));have X:aA wr E:=jT;have N:ak (Bx E wr.heap.size #[ae aj F,ae aj g]):=⟨oJ⟩;have B2:=A.t X;clear U X;go_wp2;rw[<-cd];clear cd e0 e1 r d q m;obtain⟨c0,o,a,n,c4,c5⟩:=(p.o.ar B2.o p.o.lt).f6;obtain⟨_,_,_,_,d,_,_,_⟩:=(l.o.ar B2.o l.o.lt).mS;obtain⟨k0,k1,k2,k3⟩:=(K.o.ar B2.o K.o.lt).k4;have W:E.cell? ⟨wr.heap.size,0,none⟩=some (ae aj F):=N.o.cell 0;have L:E.cell? ⟨wr.heap.size,1,none⟩=some (ae aj g):=N.o.cell 1;have wk:IntKind.i64.wrap ((f.ln:Int)-1)=(f.ln:Int)-1:=IntWalk.i64_in _ aq;obtain⟨L0,L1,L2,L3,L4,L5,D0,D1⟩:=lc8 c0 o a n c4 c5 d k0;obtain⟨D2,D3⟩:=lc2 W L;clear c0 o a n c4 c5 d k0 k1 k2 k3 W L;refine aG (arT g ((f.ln:Int)-1)) aF aF ?_;refine mSk ?_;refine lsA SB (fun nq=> ?_) (fun H c=> ?_)
 ·go_simp
  exact bj ((cK _ _ _ nq.1).mono fun _ _ h=>h.pb)
 obtain⟨b,rfl⟩:=c;cases b
 ·exact acH
 simp[Act.put];refine mSk ?_;refine lsA (SW g 0 ((f.ln:Int)-1)) (fun nq=> ?_) (fun H c=> ?_)
 ·go_simp
  exact yS (cK g 0 ((f.ln:Int)-1) nq.1)
 obtain⟨b,rfl,V⟩:=c;have O:=sH V;clear V;cases b
 ·exact acH
 obtain⟨G,J⟩:=O.o rfl;obtain⟨j,rfl⟩:∃j:Nat,g=(j:Int):=⟨g.toNat,aq⟩;have hj:j<f.ln:=aq;have hj':(j:Int)<(f.ln:Int):=aq;obtain⟨adL,kk,M,_,P,_⟩:=rl (R.o.Z B2.o B2.o.size).rL hj;have Q0:=aw P;simp only[M]at L3;clear O G J P M;simp[Act.put];refine mSk ?_;refine lsA SI (fun nq=> ?_) (fun H c=> ?_)
 ·go_simp
  exact eh ((yb _ nq.1).mono fun _ _ h=>h.pi)
 obtain⟨y1,rfl⟩:=c;simp[Act.put];refine mSk ?_;refine lsA SI (fun nq=> ?_) (fun H c=> ?_)
 ·go_simp
  exact eh ((yb _ nq.1).mono fun _ _ h=>h.pi)
 obtain⟨y2,rfl⟩:=c;simp[Act.put];refine mSk ?_;intro nq;obtain⟨w6,bq⟩:=nq;have BX:=B2.t bq;have BZ:=B1.t BX.o
 try dsimp only
 clear bq wk L0 L1 L2 L3 L4 L5 D0 D1 D2 D3;go_wp2_with fail
 all_goals first
  |(go_roundg (s.nn-i)<;>first|omega|exact⟨i+1,aq,aq,aQ,BX⟩)
  |(go_ret;exact⟨_,rfl,BZ.o⟩)
theorem Bx.WM{b:Nat}{f c g i e a d j:Value}(h:Bx w b #[f,c,g,i,e,a,d,j]):w.cell? ⟨b,0,none⟩=some f/\w.cell? ⟨b,1,none⟩=some c/\w.cell? ⟨b,2,none⟩=some g/\w.cell? ⟨b,3,none⟩=some i/\w.cell? ⟨b,4,none⟩=some e/\w.cell? ⟨b,5,none⟩=some a/\w.cell? ⟨b,6,none⟩=some d/\w.cell? ⟨b,7,none⟩=some j:=⟨h.cell 0,h.cell 1,h.cell 2,h.cell 3,h.cell 4,h.cell 5,h.cell 6,h.cell 7⟩
theorem VW(s:G:=by
 go_wp2
 go_ret;exact⟨_,rfl,B1.o.trans (B2.o.mono B1.o.size)⟩):G:=s
theorem UQ(f:db)(A:aC)(n c:Nat)(w:World)(h:ca w w.heap.size f)(W:cM w w.heap.size Gl A n c):Calls prog 277 #[f.v, .slice A n c] w (PB w):=by
 obtain⟨W1,t,B1,j⟩:=box1 w f.row 82;have R:=sH (h.Z B1.o B1.o.size);have V:=sH (W.Z B1.o B1.o.size);have hn:=W.bd;go_enter func277,ntmps277;go_wp2;rw[<-t];clear t;go_loopg [5,6] (n+1) (fun gg Z _ wr=>∃(i:Nat),n-i<gg/\i<=n/\Z=ae aj (i:Int)/\ak (aA W1 wr))
 ·exact⟨0,aq,aq,rfl,cB⟩
 obtain⟨i,hg,hi,rfl,C⟩:=hrel;by_cases O:i<n;rotate_left
 ·have Y:=cF i n
  go_wp2;go_ret;exact⟨_,rfl,B1.o.trans (C.o.mono B1.o.size)⟩
 have Y:=aR i n;obtain⟨ad,m,I,S,K,L,M,N,J,rfl,e0,e1,e2,e3,e4,e5,e6,e7⟩:=xL (V.o.Z C.o C.o.size) O;obtain⟨X,cd⟩:=eX (wr.alloc (.cells #[ae aj m,ae aj I,ae aj S,ae aj K,ae aj L,ae aj M,ae aj N,ae aj J] 315));have b2:aA wr X:=jT;have a:ak (Bx X wr.heap.size #[ae aj m,ae aj I,ae aj S,ae aj K,ae aj L,ae aj M,ae aj N,ae aj J]):=⟨oJ⟩;have B2:=C.t b2;obtain⟨c0,F,l,B,c4,c5⟩:=(j.o.ar B2.o j.o.lt).f6;obtain⟨u,s,x,H,E,y,G,D⟩:=a.o.WM;go_upto_region 5 with fail;rw[<-cd];clear cd;go_wp2_with fail;refine(gX f m _ (R.o.Z B2.o B2.o.size)).mono ?_;rintro e P ⟨z,rfl,b⟩;have p:=B2.t b;have o:=sH (a.o.ar b a.o.lt);have B2:=sH p.o;have a:=sH o.o;obtain⟨c0,F,l,B,c4,c5⟩:=(j.o.ar B2.o j.o.lt).f6;obtain⟨u,s,x,H,E,y,G,D⟩:=a.o.WM;cases z
 ·exact VW
 go_wp2_with fail;refine(gX f I _ (R.o.Z B2.o B2.o.size)).mono ?_;rintro e P ⟨z,rfl,b⟩;have p:=B2.t b;have o:=sH (a.o.ar b a.o.lt);have B2:=sH p.o;have a:=sH o.o;obtain⟨c0,F,l,B,c4,c5⟩:=(j.o.ar B2.o j.o.lt).f6;obtain⟨u,s,x,H,E,y,G,D⟩:=a.o.WM;cases z
 ·exact VW
 go_wp2_with fail;refine(yi S K L _).mono ?_;rintro e P ⟨z,rfl,b⟩;have p:=B2.t b;have o:=sH (a.o.ar b a.o.lt);have B2:=sH p.o;have a:=sH o.o;obtain⟨c0,F,l,B,c4,c5⟩:=(j.o.ar B2.o j.o.lt).f6;obtain⟨u,s,x,H,E,y,G,D⟩:=a.o.WM;cases z
 ·exact VW
 go_wp2_with fail;refine(yi M N J _).mono ?_;rintro e P ⟨z,rfl,b⟩;have p:=B2.t b;have o:=sH (a.o.ar b a.o.lt);have B2:=sH p.o;have a:=sH o.o;obtain⟨c0,F,l,B,c4,c5⟩:=(j.o.ar B2.o j.o.lt).f6;obtain⟨u,s,x,H,E,y,G,D⟩:=a.o.WM;cases z
 ·exact VW
 obtain⟨P0,P1⟩:=lc2 u s;rcases i with _|k
 ·go_wp2
  refine aG (fun _=>none) aF aF ?_;refine mSk ?_
  first
   |(intro (q:aI _);obtain⟨r,d⟩:=q)
   |(rintro r ⟨⟨_,d⟩,rfl⟩)
  have g:=B2.t d
  try dsimp only
  go_wp2;go_roundg (n-0)
  ·exact⟨0+1,aq,aq,aQ,g⟩
  omega
 ·obtain⟨gP,v,y1,_,_,_,_,_,_,T,g0,g1,_⟩:=xL (V.o.Z B2.o B2.o.size) (show k<n by omega)
  injection T with T
  subst T;have wk:IntKind.i64.wrap ((k:Int)+1-1)=(k:Int):=yA;have k0:=jB k;have k1:=aR k n;obtain⟨G0,G1⟩:=lc2 g0 g1;by_cases q0:m<v
  ·go_wp2
   refine aG (fun _=>none) aF aF ?_;refine mSk ?_
   first
    |(intro (q:aI _);obtain⟨r,d⟩:=q)
    |(rintro r ⟨⟨_,d⟩,rfl⟩)
   have g:=B2.t d
   try dsimp only
   go_wp2_with fail
   all_goals first
    |(go_roundg (n-(k+1))<;>first|omega|exact⟨k+1+1,aq,aq,aQ,g⟩)
    |(go_ret;exact⟨_,rfl,B1.o.trans (g.o.mono B1.o.size)⟩)
  have q0':decide (m<v)=false:=by simpa using q0
  by_cases U:m=v
  ·have Q:(m==v)=true:=by simp[U]
   go_wp2;refine aG (fun _=>none) aF aF ?_;refine mSk ?_
   first
    |(intro (q:aI _);obtain⟨r,d⟩:=q)
    |(rintro r ⟨⟨_,d⟩,rfl⟩)
   have g:=B2.t d
   try dsimp only
   go_wp2_with fail
   all_goals first
    |(go_roundg (n-(k+1))<;>first|omega|exact⟨k+1+1,aq,aq,aQ,g⟩)
    |(go_ret;exact⟨_,rfl,B1.o.trans (g.o.mono B1.o.size)⟩)
  ·have Q:(m==v)=false:=by simp[U]
   go_wp2;refine aG (fun _=>none) aF aF ?_;refine mSk ?_
   first
    |(intro (q:aI _);obtain⟨r,d⟩:=q)
    |(rintro r ⟨⟨_,d⟩,rfl⟩)
   have g:=B2.t d
   try dsimp only
   go_wp2_with fail
   all_goals first
    |(go_roundg (n-(k+1))<;>first|omega|exact⟨k+1+1,aq,aq,aQ,g⟩)
    |(go_ret;exact⟨_,rfl,B1.o.trans (g.o.mono B1.o.size)⟩)
def cuT(d:Option Tmp):Option (Value->Prop):=if d=some 20 then some SB else if d=some 27 then some SB else if d=some 35 then some SB else none
theorem JK(s:G:=by
 simp[Act.put]
 refine mSk ?_
 first
  |(intro (nq:aI _);obtain⟨w6,bq⟩:=nq)
  |(rintro w6 ⟨⟨_,bq⟩,rfl⟩)
 have BX:=B2.t bq
 try dsimp only
 go_wp2;go_ret;exact⟨_,rfl,B1.o.trans (BX.o.mono B1.o.size)⟩):G:=s
theorem ZM(f:db)(A:aC)(n c:Nat)(w:World)(h:ca w w.heap.size f)(E:cM w w.heap.size Fm A n c):Calls prog 278 #[f.v, .slice A n c] w (PB w):=by
 obtain⟨I,j,B1,B⟩:=box1 w f.row 82;have R:=sH (h.Z B1.o B1.o.size);have D:=sH (E.Z B1.o B1.o.size);have V:=E.bd;go_enter func278,ntmps278;go_wp2;rw[<-j];clear j;go_loopg [5,6] (n+1) (fun gg H _ wr=>∃(i:Nat),n-i<gg/\i<=n/\H=ae aj (i:Int)/\ak (aA I wr))
 ·exact⟨0,aq,aq,rfl,cB⟩
 obtain⟨i,hg,Z,rfl,r⟩:=hrel;by_cases u:i<n;rotate_left
 ·have F:=cF i n
  go_wp2;go_ret;exact⟨_,rfl,B1.o.trans (r.o.mono B1.o.size)⟩
 have F:=aR i n;obtain⟨N,g,l,q,x,y,o,p,rfl,e0,X,O,e3,P,e5,T⟩:=ym (D.o.Z r.o r.o.size) u;obtain⟨d,cd⟩:=eX (wr.alloc (.cells #[ae aj g, .bool l, .bool q,ae aj x,ae aj y,ae aj o,ae aj p] 319));have v:aA wr d:=jT;have e:ak (Bx d wr.heap.size #[ae aj g, .bool l, .bool q,ae aj x,ae aj y,ae aj o,ae aj p]):=⟨oJ⟩;have B2:=r.t v;have C:=sH (R.o.Z B2.o B2.o.size);obtain⟨c0,L,s,G,c4,c5⟩:=(B.o.ar B2.o B.o.lt).f6;obtain⟨L0,L1,L2,L3,Y,Q,P0,S⟩:=lc8 c0 L s G c4 c5 (show d.cell? ⟨wr.heap.size,0,none⟩=some (ae aj g)from e.o.cell 0) (show d.cell? ⟨wr.heap.size,1,none⟩=some (.bool l)from e.o.cell 1);obtain⟨P2,P3,P4,P5,P6⟩:=lc5 (show d.cell? ⟨wr.heap.size,2,none⟩=some (.bool q)from e.o.cell 2) (show d.cell? ⟨wr.heap.size,3,none⟩=some (ae aj x)from e.o.cell 3) (show d.cell? ⟨wr.heap.size,4,none⟩=some (ae aj y)from e.o.cell 4) (show d.cell? ⟨wr.heap.size,5,none⟩=some (ae aj o)from e.o.cell 5) (show d.cell? ⟨wr.heap.size,6,none⟩=some (ae aj p)from e.o.cell 6);go_wp2_with fail;rw[<-cd];clear cd;rcases i with _|k
 ·refine aG cuT aF aF ?_
  refine mSk ?_;refine lsA SB (fun nq=> ?_) (fun m a=> ?_)
  ·go_simp
   exact bj (gX f g nq.1 (C.o.Z nq.2 nq.2.size))
  obtain⟨b,rfl⟩:=a;cases b
  ·exact JK
  simp[Act.put];refine mSk ?_;refine lsA SB (fun nq=> ?_) (fun m a=> ?_)
  ·go_simp
   exact bj (jK x y l nq.1)
  obtain⟨b,rfl⟩:=a;cases b
  ·exact JK
  simp[Act.put];refine mSk ?_;refine lsA SB (fun nq=> ?_) (fun m a=> ?_)
  ·go_simp
   exact bj (jK o p q nq.1)
  obtain⟨b,rfl⟩:=a;cases b
  ·exact JK
  simp[Act.put];refine mSk ?_
  first
   |(intro (nq:aI _);obtain⟨w6,bq⟩:=nq)
   |(rintro w6 ⟨⟨_,bq⟩,rfl⟩)
  have BX:=B2.t bq
  try dsimp only
  go_wp2;go_roundg (n-0)
  ·exact⟨0+1,aq,aq,aQ,BX⟩
  omega
 ·obtain⟨K,W,_,_,_,_,_,_,z,J,_⟩:=ym (D.o.Z B2.o B2.o.size) (show k<n by omega)
  injection z with z
  subst z;have U:IntKind.i64.wrap ((k:Int)+1-1)=(k:Int):=yA;have k0:=jB k;have M:=aR k n;have G0:=aw J;refine aG cuT aF aF ?_;refine mSk ?_;refine lsA SB (fun nq=> ?_) (fun m a=> ?_)
  ·go_simp
   exact bj (gX f g nq.1 (C.o.Z nq.2 nq.2.size))
  obtain⟨b,rfl⟩:=a;cases b
  ·exact JK
  simp[Act.put];refine mSk ?_;refine lsA SB (fun nq=> ?_) (fun m a=> ?_)
  ·go_simp
   exact bj (jK x y l nq.1)
  obtain⟨b,rfl⟩:=a;cases b
  ·exact JK
  simp[Act.put];refine mSk ?_;refine lsA SB (fun nq=> ?_) (fun m a=> ?_)
  ·go_simp
   exact bj (jK o p q nq.1)
  obtain⟨b,rfl⟩:=a;cases b
  ·exact JK
  simp[Act.put];refine mSk ?_
  first
   |(intro (nq:aI _);obtain⟨w6,bq⟩:=nq)
   |(rintro w6 ⟨⟨_,bq⟩,rfl⟩)
  have BX:=B2.t bq
  try dsimp only
  go_wp2_with fail
  all_goals first
   |(go_roundg (n-(k+1))<;>first|omega|exact⟨k+1+1,aq,aq,aQ,BX⟩)
   |(go_ret;exact⟨_,rfl,B1.o.trans (BX.o.mono B1.o.size)⟩)
def mkT(d:Option Tmp):Option (Value->Prop):=if d=some 39 then some SB else if d=some 44 then some SB else if d=some 50 then some SB else if d=some 87 then some SB else if d=some 94 then some SB else if d=some 155 then some SB else none
theorem JF(s:G:=by
 simp[Act.put]
 refine mSk ?_
 first
  |(intro (nq:aI _);obtain⟨w6,bq⟩:=nq)
  |(rintro w6 ⟨⟨_,bq⟩,rfl⟩)
 have BX:=B2.t bq
 try dsimp only
 clear bq L0 L1 L2 L3 L4 L5;go_wp2;go_ret;exact⟨_,rfl,B1.o.trans (BX.o.mono B1.o.size)⟩):G:=s
theorem VT(s:G:=by
 simp[Act.put]
 refine mSk ?_
 first
  |(intro (nq:aI _);obtain⟨w6,bq⟩:=nq)
  |(rintro w6 ⟨⟨_,bq⟩,rfl⟩)
 have BX:=sH bq
 try dsimp only
 clear bq L0 L1 L2 L3 L4 L5;go_step;go_step;go_meet;exact⟨⟨_,rfl⟩,BX⟩):G:=s
theorem UL(f:db)(k:Lk)(s:Sb)(w:World)(h:ca w w.heap.size f)(M:nD w w.heap.size s):Calls prog 279 #[f.v,k.v,s.v] w (PB w):=by
 obtain⟨W1,l⟩:=eX (((w.alloc (.cells f.row 82)).alloc (.cells k.row 132)).alloc (.cells s.row 141));obtain⟨b1,x1,x2,x3,jg⟩:=pX l;have B1:=sH b1;have X1:=sH x1;have X2:=sH x2;have U:=sH x3;clear x1 x2 x3;have R:=sH (h.Z B1.o B1.o.size);have RS:=sH (M.Z B1.o B1.o.size);have Ws:=M.rM.bd;have hhn:=M.rH.bd;obtain⟨_,_,_,_,_,_,_,_,_,_,e,g⟩:=U.o.mS;clear h M b1;by_cases q1:s.mn<=4096;rotate_left
 ·have Q:(4096:Int)<(s.mn:Int):=by omega
  go_enter func279,ntmps279;go_wp2_with fail;rw[<-l];clear l;go_wp2;go_ret;exact⟨_,rfl,B1.o⟩
 by_cases q2:s.hn<=4096;rotate_left
 ·have Q:¬(4096:Int)<(s.mn:Int):=by omega
  have q2':(4096:Int)<(s.hn:Int):=aq;go_enter func279,ntmps279;go_wp2_with fail;rw[<-l];clear l;go_wp2;go_ret;exact⟨_,rfl,B1.o⟩
 have Q:¬(4096:Int)<(s.mn:Int):=aq;have q2':¬(4096:Int)<(s.hn:Int):=aq;go_enter func279,ntmps279;go_upto_region 3 with fail;rw[<-l];clear l;go_wp2;go_loopg [7,8] (s.mn+1) (fun gg v7 _ wr=>∃(i:Nat),s.mn-i<gg/\i<=s.mn/\v7=ae aj (i:Int)/\ak (aA W1 wr))
 ·exact⟨0,aq,aq,rfl,cB⟩
 obtain⟨i,hg,hi,rfl,o⟩:=hrel;clear e g;obtain⟨_,_,_,_,_,_,_,_,_,_,e,g⟩:=(U.o.ar o.o U.o.lt).mS;by_cases aH:i<s.mn;rotate_left
 ·have i4:¬(i:Int)<(s.mn:Int):=by omega
  go_wp2;clear e g;obtain⟨wo,F⟩:=eX wr;rw[<-F]at o;rw[<-F];clear F;go_loopg [9,10,11,12,13] (s.hn+1) (fun gg p _ _ _ _ wr=>∃(i:Nat),s.hn-i<gg/\i<=s.hn/\p=ae aj (i:Int)/\ak (aA W1 wr))
  ·exact⟨0,aq,aq,rfl,o⟩
  clear o;obtain⟨m,fL,hm,rfl,o⟩:=hrel;obtain⟨_,_,_,_,_,_,_,_,_,_,e,g⟩:=(U.o.ar o.o U.o.lt).mS;clear e;by_cases hlm:m<s.hn;rotate_left
  ·have i5:¬(m:Int)<(s.hn:Int):=by omega
   go_wp2;go_ret;exact⟨_,rfl,B1.o.trans (o.o.mono B1.o.size)⟩
  have i5:(m:Int)<(s.hn:Int):=aq;obtain⟨ad,x,eH,hx,C,e1⟩:=Kq (RS.o.Z o.o o.o.size).rH hlm;rw[eH]at g;have SH:=sH eH;clear eH;obtain⟨n,cd⟩:=eX (wr.alloc (.cells #[ae aj x.gl, .slice x.S x.sn x.sc] 325));have d:aA wr n:=jT;have B:ak (Bx n wr.heap.size #[ae aj x.gl, .slice x.S x.sn x.sc]):=⟨oJ⟩;have B2:=o.t d;have RX:=sH (hx.rS.Z d d.size);have AA:=hx.rS.bd;have N:=sH (R.o.Z B2.o B2.o.size);have u:=au g d;obtain⟨T,_⟩:=(X2.o.ar B2.o X2.o.lt).k4;go_upto_region 14 with fail;rw[<-cd];clear d cd hx C e1 g;go_upto_if 83 with fail;go_cut [11] (fun v wx=>(∃z:Int,v=ae aj z)/\n=wx)
  ·
   go_wp2_with fail
   all_goals
    go_meet;exact⟨⟨_,rfl⟩,rfl⟩
  obtain⟨⟨z,rfl⟩,rfl⟩:=hcut;go_upto_region 16 with fail;go_cut [112] (fun v wx=>(∃b:Bool,v= .bool b)/\ak (aA n wx))
  ·
   obtain⟨c0,S,r,V,c4,c5⟩:=(X1.o.ar B2.o X1.o.lt).f6;obtain⟨L0,L1,L2,L3,L4⟩:=lc5 c0 S r V c4;obtain⟨L5,P0,P1,DA⟩:=lc4 c5 (show n.cell? ⟨wr.heap.size,0,none⟩=some (ae aj x.gl)from B.o.cell 0) (show n.cell? ⟨wr.heap.size,1,none⟩=some (.slice x.S x.sn x.sc)from B.o.cell 1) u;clear c0 S r V c4 c5 u T;rcases m with _|j
   ·refine aG mkT aF aF ?_
    refine mSk ?_;refine lsA SB (fun nq=> ?_) (fun p c=> ?_)
    ·go_simp
     exact bj (gX f x.gl nq.1 (N.o.Z nq.2 nq.2.size))
    obtain⟨b,rfl⟩:=c;cases b
    ·exact VT
    simp[Act.put];refine mSk ?_;refine lsA SB (fun nq=> ?_) (fun p c=> ?_)
    ·go_simp
     exact bj ((cK _ _ _ nq.1).mono fun _ _ h=>h.pb)
    obtain⟨b,rfl⟩:=c;cases b
    ·exact VT
    simp[Act.put];refine mSk ?_
    first
     |(intro (nq:aI _);obtain⟨w6,bq⟩:=nq)
     |(rintro w6 ⟨⟨_,bq⟩,rfl⟩)
    have BX:=sH bq
    try dsimp only
    clear bq L0 L1 L2 L3 L4 L5;go_step;go_step;go_meet;exact⟨⟨_,rfl⟩,BX⟩
   ·obtain⟨gP,y,D,_,E,_⟩:=Kq (RS.o.Z B2.o B2.o.size).rH (show j<s.hn by omega)
    rw[SH.o]at D;injection D with D
    subst D;have wk:IntKind.i64.wrap ((j:Int)+1-1)=(j:Int):=yA;have k0:=jB j;have k1:(j:Int)<(s.hn:Int):=aq;have G0:=aw E;clear E;refine aG mkT aF aF ?_;refine mSk ?_;refine lsA SB (fun nq=> ?_) (fun p c=> ?_)
    ·go_simp
     exact bj (gX f x.gl nq.1 (N.o.Z nq.2 nq.2.size))
    obtain⟨b,rfl⟩:=c;cases b
    ·exact VT
    simp[Act.put];refine mSk ?_;refine lsA SB (fun nq=> ?_) (fun p c=> ?_)
    ·go_simp
     exact bj ((cK _ _ _ nq.1).mono fun _ _ h=>h.pb)
    obtain⟨b,rfl⟩:=c;cases b
    ·exact VT
    simp[Act.put];refine mSk ?_
    first
     |(intro (nq:aI _);obtain⟨w6,bq⟩:=nq)
     |(rintro w6 ⟨⟨_,bq⟩,rfl⟩)
    have BX:=sH bq
    try dsimp only
    clear bq L0 L1 L2 L3 L4 L5;go_step;go_step;go_meet;exact⟨⟨_,rfl⟩,BX⟩
  obtain⟨⟨b,rfl⟩,L⟩:=hcut;obtain⟨wa,J⟩:=eX wc;rw[<-J]at L;rw[<-J];clear J;have BA:=B2.t L.o;have ZA:=sH (B.o.ar L.o B.o.lt);have RA:=sH (RX.o.Z L.o L.o.size);have hza:=ZA.o.lt;clear u T L RX N;cases b;rotate_left
  ·go_wp2
   go_ret;exact⟨_,rfl,B1.o.trans (BA.o.mono B1.o.size)⟩
  go_wp2;go_loopg [12,13] (x.sn+1) (fun gg ny _ I=>∃(a:Nat),x.sn-a<gg/\a<=x.sn/\ny=ae aj (a:Int)/\ak (aA wa I))
  ·exact⟨0,aq,aq,rfl,cB⟩
  obtain⟨a,zY,ha,rfl,H⟩:=hrel;obtain⟨wb,K⟩:=eX wr;rw[<-K]at H;rw[<-K];clear K;have BJ:=BA.t H.o;have G:=(ZA.o.ar H.o ZA.o.lt).cell 1;simp at G;by_cases hla:a<x.sn;rotate_left
  ·have i6:¬(a:Int)<(x.sn:Int):=by omega
   go_wp2;go_roundg (s.hn-m)
   ·exact⟨m+1,aq,aq,aQ,BJ⟩
   omega
  have i6:(a:Int)<(x.sn:Int):=aq;obtain⟨ve,A2,A,k2,eS,h2,C⟩:=fi (RA.o.Z H.o H.o.size) hla;rw[eS]at G;by_cases h16:A<=16;rotate_left
  ·have Y:=aR 16 A
   go_wp2;go_ret;exact⟨_,rfl,B1.o.trans (BJ.o.mono B1.o.size)⟩
  have Y:=cF 16 A;have S1:=sH G;have E0:=sH C;have R2:=sH h2;clear h2 eS;go_wp2;clear G C;go_loopg [13] (A+1) (fun gg jr I=>∃(b:Nat),A-b<gg/\b<=A/\jr=ae aj (b:Int)/\ak (aA wb I))
  ·exact⟨0,aq,aq,rfl,cB⟩
  obtain⟨b,Sl,hb,rfl,O⟩:=hrel;have G:=au S1.o O.o;have C:=au E0.o O.o;by_cases hlb:b<A;rotate_left
  ·have i7:=cF b A
   go_wp2;go_roundg (x.sn-a)
   ·exact⟨a+1,aq,aq,aQ,⟨H.o.trans (O.o.mono H.o.size)⟩⟩
   omega
  have i7:=aR b A;obtain⟨adB,M,z1,z2,eB,E,g1,g2⟩:=Gd (R2.o.Z O.o O.o.size) hlb;subst eB;obtain⟨L0,L1,L2,L3,L4⟩:=lc5 G C E g1 g2;go_wp2;clear G C E g1 g2;refine aG mkT aF aF ?_;refine mSk ?_;refine lsA SB (fun nq=> ?_) (fun p c=> ?_)
  ·go_simp
   exact bj (jK z1 z2 M nq.1)
  obtain⟨q,rfl⟩:=c;simp[Act.put];refine mSk ?_
  first
   |(intro (nq:aI _);obtain⟨w6,bq⟩:=nq)
   |(rintro w6 ⟨⟨_,bq⟩,rfl⟩)
  have BX:=O.t bq
  try dsimp only
  clear bq L0 L1 L2 L3 L4;cases q
  ·go_wp2
   go_ret;exact⟨_,rfl,B1.o.trans ((BJ.o.trans (BX.o.mono BJ.o.size)).mono B1.o.size)⟩
  ·go_wp2
   go_roundg (A-b)
   ·exact⟨b+1,aq,aq,aQ,BX⟩
   omega
 have i4:(i:Int)<(s.mn:Int):=aq;obtain⟨ad,X,P,W,Z,eM,C,e1,e2,e3⟩:=xm (RS.o.Z o.o o.o.size).rM aH;rw[eM]at e;have SM:=sH eM;clear eM;obtain⟨n,cd⟩:=eX (wr.alloc (.cells #[ae aj X,ae aj P,ae aj W,ae aj Z] 322));have d:aA wr n:=jT;have B:ak (Bx n wr.heap.size #[ae aj X,ae aj P,ae aj W,ae aj Z]):=⟨oJ⟩;have B2:=o.t d;have N:=sH (R.o.Z B2.o B2.o.size);obtain⟨c0,S,r,V,c4,c5⟩:=(X1.o.ar B2.o X1.o.lt).f6;obtain⟨L0,L1,L2,L3,L4,L5,P0,P1⟩:=lc8 c0 S r V c4 c5 (show n.cell? ⟨wr.heap.size,0,none⟩=some (ae aj X)from B.o.cell 0) (show n.cell? ⟨wr.heap.size,1,none⟩=some (ae aj P)from B.o.cell 1);obtain⟨P2,P3,DA⟩:=lc3 (show n.cell? ⟨wr.heap.size,2,none⟩=some (ae aj W)from B.o.cell 2) (show n.cell? ⟨wr.heap.size,3,none⟩=some (ae aj Z)from B.o.cell 3) (au e d);clear g;go_wp2_with fail;rw[<-cd];clear d cd C e1 e2 e3 c0 S r V c4 c5 e;rcases i with _|j
 ·refine aG mkT aF aF ?_
  refine mSk ?_;refine lsA SB (fun nq=> ?_) (fun p c=> ?_)
  ·go_simp
   exact bj (gX f X nq.1 (N.o.Z nq.2 nq.2.size))
  obtain⟨b,rfl⟩:=c;cases b
  ·exact JF
  simp[Act.put];refine mSk ?_;refine lsA SB (fun nq=> ?_) (fun p c=> ?_)
  ·go_simp
   exact bj ((cK P 0 15 nq.1).mono fun _ _ h=>h.pb)
  obtain⟨b,rfl⟩:=c;cases b
  ·exact JF
  simp[Act.put];refine mSk ?_;refine lsA SB (fun nq=> ?_) (fun p c=> ?_)
  ·go_simp
   exact bj (jK W Z true nq.1)
  obtain⟨b,rfl⟩:=c;cases b
  ·exact JF
  simp[Act.put];refine mSk ?_
  first
   |(intro (nq:aI _);obtain⟨w6,bq⟩:=nq)
   |(rintro w6 ⟨⟨_,bq⟩,rfl⟩)
  have BX:=B2.t bq
  try dsimp only
  clear bq L0 L1 L2 L3 L4 L5;clear P0 P1 P2 P3 DA;go_wp2;go_roundg (s.mn-0)
  ·exact⟨0+1,aq,aq,aQ,BX⟩
  omega
 ·obtain⟨gP,z0,_,_,_,D,E,_⟩:=xm (RS.o.Z B2.o B2.o.size).rM (show j<s.mn by omega)
  rw[SM.o]at D;injection D with D
  subst D;have wk:IntKind.i64.wrap ((j:Int)+1-1)=(j:Int):=yA;have k0:=jB j;have k1:(j:Int)<(s.mn:Int):=aq;have G0:=aw E;clear E;refine aG mkT aF aF ?_;refine mSk ?_;refine lsA SB (fun nq=> ?_) (fun p c=> ?_)
  ·go_simp
   exact bj (gX f X nq.1 (N.o.Z nq.2 nq.2.size))
  obtain⟨b,rfl⟩:=c;cases b
  ·exact JF
  simp[Act.put];refine mSk ?_;refine lsA SB (fun nq=> ?_) (fun p c=> ?_)
  ·go_simp
   exact bj ((cK P 0 15 nq.1).mono fun _ _ h=>h.pb)
  obtain⟨b,rfl⟩:=c;cases b
  ·exact JF
  simp[Act.put];refine mSk ?_;refine lsA SB (fun nq=> ?_) (fun p c=> ?_)
  ·go_simp
   exact bj (jK W Z true nq.1)
  obtain⟨b,rfl⟩:=c;cases b
  ·exact JF
  simp[Act.put];refine mSk ?_
  first
   |(intro (nq:aI _);obtain⟨w6,bq⟩:=nq)
   |(rintro w6 ⟨⟨_,bq⟩,rfl⟩)
  have BX:=B2.t bq
  try dsimp only
  clear bq L0 L1 L2 L3 L4 L5;clear P0 P1 P2 P3 DA;go_wp2_with fail
  all_goals first
   |(go_roundg (s.mn-(j+1))<;>first|omega|exact⟨j+1+1,aq,aq,aQ,BX⟩)
   |(go_ret;exact⟨_,rfl,B1.o.trans (BX.o.mono B1.o.size)⟩)
def ri:Prop:=∀(k:Int) (s:Sb) (w:World),nD w w.heap.size s->Calls prog 271 #[ae aj k,s.v] w (PB w)
def PSu(w:World)(kind:Int)(s:Sb)(e:Ending)(a:World):Prop:=∃z:Bool,e= .returned (.bool z)/\(z=true->JU kind->s.tn=s.cn/\yN w w.heap.size kind s.T s.tn)/\aA w a
theorem CG{e:Nat}{d:Int}(h:∀i,i<e->ToL w T lo d i)(l:d<=16)(m:kind=2∨1<=lo):yN w w.heap.size kind T e:=fun i b=>by
 obtain⟨a,A,n,c,g,j,f,k,o⟩:=h i b;exact⟨a,A,n,c,g,j,f,aq,aq⟩
theorem ToL.back{e:World}{j t i:Nat}{g:Int}(d:cM w w.heap.size (.arr ew) T j t)(l:aA w e)(b:i<j)(h:ToL e T lo g i):ToL w T lo g i:=by
 obtain⟨a,A,n,c,f,_,m,q,u⟩:=h;obtain⟨o,p,v,r,f1,_,f3⟩:=fi d b;obtain⟨s,k,g2,_⟩:=d.2.2.2 aq;rw[f1]at f k;obtain rfl:=Option.some.inj f;obtain rfl:=Option.some.inj k;have:=au f3 l;rw[m]at this;injection this with this
 injection this with h1 h2 h3
 subst h2;exact⟨o,p,n,r,f1,g2,f3,q,u⟩
theorem ab1(hB:ri)(f:db)(k:Lk)(s:Sb)(w:World)(h:ca w w.heap.size f)(S:nD w w.heap.size s):Calls prog 223 #[f.v,k.v,s.v] w (PSu w k.kind s):=by
 obtain⟨W1,M⟩:=eX (((w.alloc (.cells f.row 82)).alloc (.cells k.row 132)).alloc (.cells s.row 141));obtain⟨b1,x1,x2,x3,jg⟩:=pX M;have Q:=sH b1;have T:=sH x1;have U:=sH x2;have P:=sH x3;clear x1 x2 x3;have HB:=sH hB;have R:=sH (h.Z Q.o Q.o.size);have RS:=sH (S.Z Q.o Q.o.size);have W:=sH S;have hvn:=S.rV.bd;have JT:=S.rC.bd;obtain⟨e0,_⟩:=U.o.k4;obtain⟨g0,g1,g2,g3,g4,g5,g6,g7,g8,g9,Y',V⟩:=P.o.mS;clear h S b1 hB;have Z:k.kind=1∨k.kind=2∨k.kind=3∨k.kind=4∨k.kind=12∨k.kind=5∨k.kind=6∨k.kind=7∨k.kind=8∨((k.kind==1)=false/\(k.kind==2)=false/\(k.kind==3)=false/\(k.kind==4)=false/\(k.kind==12)=false/\(k.kind==5)=false/\(k.kind==6)=false/\(k.kind==7)=false/\(k.kind==8)=false):=cA;obtain⟨kk,X,st,Y,N,O⟩:=k;dsimp only at*;rcases Z with rfl|rfl|rfl|rfl|rfl|rfl|rfl|rfl|rfl|⟨n1,n2,n3,n4,n5,n6,n7,n8,n9⟩
 all_goals
  go_enter func223,ntmps223;go_wp2_with fail;rw[<-M];clear M;go_wp2_with fail;refine(HB.o _ s W1 RS.o).mono ?_;rintro e G ⟨z,rfl,H⟩;have B2:=sH H;have o:=Q.t H;have C:=sH (R.o.Z H H.size);have A:=sH (RS.o.Z H H.size);obtain⟨c0,q,b,n,c4,c5⟩:=(T.o.ar H T.o.lt).f6;obtain⟨k0,D,F,E⟩:=(U.o.ar H U.o.lt).k4;obtain⟨p,r,v,m,x,l,u,j,t,y,d,c⟩:=(P.o.ar H P.o.lt).mS;clear H e0 g0 g1 g2 g3 g4 g5 g6 g7 g8 g9 Y' V;cases z
  ·go_wp2
   go_ret;exact⟨_,rfl,uA,o.o⟩
  go_wp2_with fail
 ·refine(aav f s 1 1 G C.o A.o).mono ?_
  rintro e B ⟨z,rfl,L,a⟩;have g:=o.t a;have K:=sH L;clear L a c0 q b n c4 c5 k0 D F E p r v m x l u j t y d c;go_wp2;go_ret;exact⟨_,rfl,fun h _=>⟨(K.o h).1,CG (fun i J=>((K.o h).2 i J).back W.o.rT o.o J) aq (.inr aq)⟩,g.o⟩
 ·refine(aav f s 0 16 G C.o A.o).mono ?_
  rintro e B ⟨z,rfl,L,a⟩;have g:=o.t a;have K:=sH L;clear L a c0 q b n c4 c5 k0 D F E p r v m x l u j t y d c;go_wp2;go_ret;exact⟨_,rfl,fun h _=>⟨(K.o h).1,CG (fun i J=>((K.o h).2 i J).back W.o.rT o.o J) aq (.inl rfl)⟩,g.o⟩
 ·refine(Yw f s G C.o A.o).mono ?_
  rintro e B ⟨z,rfl,a⟩;have g:=o.t a;clear a c0 q b n c4 c5 k0 D F E p r v m x l u j t y d c;go_wp2;go_ret;exact⟨_,rfl,uA,g.o⟩
 ·refine(zZ f ⟨4,X,st,Y,N,O⟩ s G C.o A.o).mono ?_
  rintro e B ⟨z,rfl,a⟩;have g:=o.t a;clear a c0 q b n c4 c5 k0 D F E p r v m x l u j t y d c;go_wp2;go_ret;exact⟨_,rfl,uA,g.o⟩
 ·refine(zZ f ⟨12,X,st,Y,N,O⟩ s G C.o A.o).mono ?_
  rintro e B ⟨z,rfl,a⟩;have g:=o.t a;clear a c0 q b n c4 c5 k0 D F E p r v m x l u j t y d c;go_wp2;go_ret;exact⟨_,rfl,uA,g.o⟩
 ·refine(aav f s 1 1 G C.o A.o).mono ?_
  rintro e B ⟨z,rfl,L,a⟩;have K:=sH L;have g:=o.t a;have R3:=sH (C.o.Z a a.size);have S3:=sH (A.o.Z a a.size);have c0:=au c0 a;have q:=au q a;have b:=au b a;have n:=au n a;have c4:=au c4 a;have c5:=au c5 a
  have m:=au m a;have l:=au l a;have k0:=au k0 a;have p:=au p a;have r:=au r a;have j:=au j a
  clear L a D F E v x u t y d c;cases z
  ·go_wp2
   go_ret;exact⟨_,rfl,uA,g.o⟩
  have HK:=sH (K.o rfl);clear K;go_wp2_with fail;refine(mu f s.B s.bn s.bc 0 B R3.o S3.o.rB).mono ?_;rintro e w4 ⟨z,rfl,a⟩;have B4:=g.t a;have R4:=sH (R3.o.Z a a.size);have S4:=sH (S3.o.Z a a.size);have c0:=au c0 a;have q:=au q a;have b:=au b a;have n:=au n a;have c4:=au c4 a;have c5:=au c5 a
  have m:=au m a;have l:=au l a
  clear a;cases z
  ·go_wp2
   go_ret;exact⟨_,rfl,uA,B4.o⟩
  go_wp2_with fail;refine(mu f s.A s.an s.ac 0 w4 R4.o S4.o.rA).mono ?_;rintro e w5 ⟨z,rfl,a⟩;have B5:=B4.t a;clear a c0 q b n c4 c5 k0 p r m l j;go_wp2;go_ret;exact⟨_,rfl,fun _ _=>⟨HK.o.1,CG (fun i J=>(HK.o.2 i J).back W.o.rT o.o J) aq (.inr aq)⟩,B5.o⟩
 ·clear k0 D F E c0 q b n c4 c5 p j
  go_loopg [7] (s.vn+1) (fun gg v7 wr=>∃(i:Nat),s.vn-i<gg/\i<=s.vn/\v7=ae aj (i:Int)/\ak (aA G wr))
  ·exact⟨0,aq,aq,rfl,cB⟩
  obtain⟨i,hg,J,rfl,I⟩:=hrel;have BG:=o.t I.o;have BV:=B2.t I.o;clear r v m x l u t y d c;obtain⟨p,r,v,m,x,l,u,j,t,y,d,c⟩:=(P.o.ar BV.o P.o.lt).mS;by_cases aH:i<s.vn;rotate_left
  ·have i4:¬(i:Int)<(s.vn:Int):=by omega
   obtain⟨c0,q,b,n,c4,c5⟩:=(T.o.ar BV.o T.o.lt).f6;go_wp2_with fail;refine(oQ f s.C s.cn s.cc wr (C.o.Z I.o I.o.size) (A.o.Z I.o I.o.size).rC).mono ?_;rintro e B ⟨z,rfl,a⟩;have g:=BG.t a;have p:=au p a;have j:=au j a
   clear a c0 q b n c4 c5 r v m x l u t y d c;cases z
   ·go_wp2
    go_ret;exact⟨_,rfl,uA,g.o⟩
   ·go_wp2
    go_ret;exact⟨_,rfl,uA,g.o⟩
  have i4:(i:Int)<(s.vn:Int):=aq;obtain⟨ad,y0,y1,y2,eV,q0,q1,q2⟩:=Ly (A.o.Z I.o I.o.size).rV aH;rw[eV]at j;clear eV p r v m x l u t y d c;go_wp2_with fail;refine(yi y0 y1 y2 wr).mono ?_;rintro e B ⟨z,rfl,a⟩;have g:=I.t a;clear a q0 q1 q2 j;cases z
  ·go_wp2
   go_ret;exact⟨_,rfl,uA,o.o.trans (g.o.mono o.o.size)⟩
  go_wp2;go_roundg (s.vn-i)
  ·exact⟨i+1,aq,aq,aQ,g⟩
  omega
 ·refine(UQ f s.P s.pn s.pc G C.o A.o.rP).mono ?_
  rintro e B ⟨z,rfl,a⟩;have g:=o.t a;clear a c0 q b n c4 c5 k0 D F E p r v m x l u j t y d c;go_wp2;go_ret;exact⟨_,rfl,uA,g.o⟩
 ·refine(ZM f s.U s.un s.uc G C.o A.o.rU).mono ?_
  rintro e B ⟨z,rfl,a⟩;have g:=o.t a;clear a c0 q b n c4 c5 k0 D F E p r v m x l u j t y d c;go_wp2;go_ret;exact⟨_,rfl,uA,g.o⟩
 ·have hk:¬JU kk:=by unfold JU;simp at n1 n2 n6;omega
  refine(UL f ⟨kk,X,st,Y,N,O⟩ s G C.o A.o).mono ?_;rintro e B ⟨z,rfl,a⟩;have g:=o.t a;clear a c0 q b n c4 c5 k0 D F E p r v m x l u j t y d c;go_wp2;go_ret;exact⟨_,rfl,fun _ h=>absurd h hk,g.o⟩
theorem yN.back{f:World}{l:Nat}{d t:Nat}(e:cM w w.heap.size (.arr ew) T d t)(k:aA w f)(h:yN f l kind T d):yN w w.heap.size kind T d:=fun i b=>by
 obtain⟨a,A,n,c,g,_,m,q⟩:=h i b;obtain⟨o,p,u,r,f1,_,f3⟩:=fi e b;obtain⟨s,j,g2,_⟩:=e.2.2.2 aq;rw[f1]at g j;obtain rfl:=Option.some.inj g;obtain rfl:=Option.some.inj j;have:=au f3 k;rw[m]at this;injection this with this
 injection this with h1 h2 h3
 subst h2;exact⟨o,p,n,r,f1,g2,f3,q⟩
def SSu(w:World)(kind:Int)(s:Sb)(v:Value):Prop:=∃z:Bool,v= .bool z/\(z=true->JU kind->s.tn=s.cn/\yN w w.heap.size kind s.T s.tn)
theorem IN{w0:World}{n:aI w0}{f:FuncId}{args:Array Value}{s:Sb}(d:cM w w.heap.size (.arr ew) s.T s.tn s.tc)(c:aA w n.1)(h:Calls prog f args n.1 (PSu n.1 kind s)):Calls prog f args n.1 fun e a=>∃v,e= .returned v/\SSu w kind s v/\∃m:aI w0,a=m.1:=
 h.mono fun e a ⟨z,i,b,g⟩=>⟨_,i,⟨z,rfl,fun e k=>⟨(b e k).1,(b e k).2.back d c⟩⟩,⟨⟨a,n.2.trans (g.mono n.2.size)⟩,rfl⟩⟩
def PLs(w:World)(f:db)(e:Ending)(a:World):Prop:=∃z:Bool,e= .returned (.bool z)/\(z=true->J0 w w.heap.size f)/\aA w a
def abA(w:World)(f:db)(j:Nat):Prop:=∃(a:Addr) (k:Lk),f.L=some a/\a.block<w.heap.size/\w.cell? (a.add (j*4))=some (ae aj k.kind)/\w.cell? (bW (a.add (j*4)) 1)=some (ae aj k.flags)/\w.cell? (bW (a.add (j*4)) 2)=some (ae aj k.set)/\w.cell? (bW (a.add (j*4)) 3)=some (.slice k.S k.sn k.sc)/\zI w w.heap.size k
def aca(w:World)(k:Lk)(j:Nat):Prop:=JU k.kind->∃(a:Addr) (C:aC) (b c:Nat) (T:aC) (d:Nat),k.S=some a/\a.block<w.heap.size/\w.cell? (a.add (j*12))=some (.slice C b c)/\w.cell? (bW (a.add (j*12)) 1)=some (.slice T b d)/\yN w w.heap.size k.kind T b
theorem Ji(hB:ri)(f:db)(w:World)(h:ca w w.heap.size f):Calls prog 144 #[f.v] w (PLs w f):=by
 obtain⟨W1,o,C,B⟩:=box1 w f.row 82;have HB:=sH hB;have R0:=sH h;have R:=sH (h.Z C.o C.o.size);have E:=h.rL.bd;have nL:=h.rS.bd;obtain⟨c0,x,c,r,c4,c5⟩:=B.o.f6;clear h hB;by_cases q1:f.ln<=64;rotate_left
 ·have Iv:(64:Int)<(f.ln:Int):=by omega
  go_enter func144,ntmps144;go_wp2_with fail;rw[<-o];clear o;go_wp2;go_ret;exact⟨_,rfl,aD,C.o⟩
 have Iv:¬(64:Int)<(f.ln:Int):=aq;go_enter func144,ntmps144;go_upto_region 3 with fail;rw[<-o];clear o;go_wp2;go_loopg [3,4,5] (f.ln+1) (fun gg v3 _ _ wr=>∃(i:Nat),f.ln-i<gg/\i<=f.ln/\v3=ae aj (i:Int)/\ak (aA W1 wr)/\ak (∀j,j<i->abA w f j))
 ·exact⟨0,aq,aq,rfl,cB,⟨fun j Y=>by omega⟩⟩
 obtain⟨i,hg,hi,rfl,BE,LA⟩:=hrel;clear c0 x c r c4 c5;have K:=C.t BE.o;obtain⟨c0,x,c,r,c4,c5⟩:=(B.o.ar BE.o B.o.lt).f6;by_cases aH:i<f.ln;rotate_left
 ·have i4:¬(i:Int)<(f.ln:Int):=by omega
  go_wp2;go_ret;exact⟨_,rfl,fun _ j Y=>LA.o j aq,K.o⟩
 have i4:(i:Int)<(f.ln:Int):=aq;obtain⟨ad,k,eL,y,e0,X,e2,e3⟩:=rl R0.o.rL aH;have L:ad.block<w.heap.size:=by
  obtain⟨gS,H,hl,_⟩:=R0.o.rL.2.2.2 aq;rw[eL]at H;obtain rfl:=Option.some.inj H;exact hl
 have LI:ak (zI w w.heap.size k->abA w f i):=⟨fun h=>⟨ad,k,eL,L,e0,X,e2,e3,h⟩⟩;have e0:=au e0 K.o;have X:=au X K.o;have e2:=au e2 K.o;have e3:=au e3 K.o
 rw[eL]at r;have SK:=sH y.rS;have lZ:=y.rS.bd;clear eL L y;obtain⟨t,Q,st,S,a,g⟩:=k;dsimp only at*;obtain⟨O,cd⟩:=eX (wr.alloc (.cells (Lk.row ⟨t,Q,st,S,a,g⟩) 132));have M:aA wr O:=jT;have Z2:ak (Bx O wr.heap.size (Lk.row ⟨t,Q,st,S,a,g⟩)):=⟨oJ⟩;have B2:=BE.t M;have u:=C.t B2.o;have fA:=Z2.o.lt;obtain⟨k0,F,J,P⟩:=Z2.o.k4;go_upto_region 7 with fail;rw[<-cd];clear M cd e0 X e2 e3 c0 x c r c4 c5;go_cut [50] (fun v wx=>(∃b:Bool,v= .bool b)/\O=wx)
 ·
  go_wp2_with fail;refine(yb _ _).mono ?_;rintro e _ ⟨q,rfl,rfl⟩;by_cases hq:q=0
  ·have UY:(q==0)=true:=by simp[hq]
   clear hq;go_wp2;go_meet;exact⟨⟨_,rfl⟩,rfl⟩
  have UY:(q==0)=false:=by simp[hq]
  clear hq;go_wp2_with fail;refine(cK _ _ _ _).mono ?_;rintro e _ ⟨z,rfl,_,rfl⟩;cases z
  ·go_wp2
   go_meet;exact⟨⟨_,rfl⟩,rfl⟩
  go_wp2_with fail
  all_goals
   go_meet;exact⟨⟨_,rfl⟩,rfl⟩
 obtain⟨⟨b,rfl⟩,rfl⟩:=hcut;cases b;rotate_left
 ·go_wp2
  go_ret;exact⟨_,rfl,aD,u.o⟩
 obtain⟨c0,x,c,r,c4,c5⟩:=(B.o.ar B2.o B.o.lt).f6;go_upto_region 9 with fail;go_cut [77] (fun v wx=>(∃b:Bool,v= .bool b)/\O=wx)
 ·
  go_wp2_with fail
  all_goals first
   |(refine(cK _ _ _ _).mono ?_;rintro e _ ⟨z,rfl,_,rfl⟩;cases z<;>(go_wp2_with fail;all_goals(go_meet;exact⟨⟨_,rfl⟩,rfl⟩)))
   |(go_meet;exact⟨⟨_,rfl⟩,rfl⟩)
 obtain⟨⟨b,rfl⟩,rfl⟩:=hcut;cases b;rotate_left
 ·go_wp2
  go_ret;exact⟨_,rfl,aD,u.o⟩
 go_wp2;clear c0 x c r c4 c5 k0 F J P;go_loopg [5] (a+1) (fun gg v5 HU=>∃(n:Nat),a-n<gg/\n<=a/\v5=ae aj (n:Int)/\ak (aA O HU)/\ak (∀j,j<n->aca w ⟨t,Q,st,S,a,g⟩ j))
 ·exact⟨0,aq,aq,rfl,cB,⟨fun j Y=>by omega⟩⟩
 obtain⟨n,fL,hn,rfl,BK,LN⟩:=hrel;obtain⟨wq,A⟩:=eX wr;rw[<-A]at BK;rw[<-A];clear A;have BX:=B2.t BK.o;have d:=C.t BX.o;obtain⟨k0,F,J,P⟩:=(Z2.o.ar BK.o fA).k4;dsimp only at k0 F J P;by_cases E:n<a;rotate_left
 ·have i5:=cF n a
  have LF:=sH (LI.o fun y j Y=>LN.o j (by have:j<a:=Y;omega) y);go_wp2;go_roundg (f.ln-i)
  ·exact⟨i+1,aq,aq,aQ,BX,⟨mD LA.o LF.o⟩⟩
  omega
 have i5:=aR n a;obtain⟨m,s,T,hs,G,D,g2,g3,g4,W,g6,V,Z,g9,p,l⟩:=jh SK.o E;have I:m.block<w.heap.size:=by
  obtain⟨gS,H,hl,_⟩:=SK.o.2.2.2 aq;rw[T]at H;obtain rfl:=Option.some.inj H;exact hl
 have LB:ak ((JU t->s.tn=s.cn/\yN w w.heap.size t s.T s.tn)->aca w ⟨t,Q,st,S,a,g⟩ n):=⟨fun h y=>by
  obtain⟨h1,h2⟩:=h y;rw[h1]at h2 D;exact⟨m,s.C,s.cn,s.cc,s.T,s.tc,T,I,G,D,h2⟩⟩
 have HT:=sH hs.rT;have HS:=sH hs;have G:=au G d.o;have D:=au D d.o;have g2:=au g2 d.o;have g3:=au g3 d.o;have g4:=au g4 d.o;have W:=au W d.o;have g6:=au g6 d.o;have V:=au V d.o;have Z:=au Z d.o;have g9:=au g9 d.o;have p:=au p d.o;have l:=au l d.o
 clear hs I;have T:S=some m:=T;subst T;obtain⟨c0,x,c,r,c4,c5⟩:=(B.o.ar BX.o B.o.lt).f6;go_wp2;obtain⟨L0,L1,L2,L3,L4,L5,K0,K1⟩:=lc8 c0 x c r c4 c5 k0 F;obtain⟨K2,K3,G0,G1,G2,G3,G4,G5⟩:=lc8 J P G D g2 g3 g4 W;obtain⟨G6,G7,G8,G9,G10,G11⟩:=lc6 g6 V Z g9 p l;clear c0 x c r c4 c5 k0 F J P G D g2 g3 g4 W g6 V Z g9 p l;refine aG (mj 92 (SSu w t s)) aF aF ?_;refine mSk ?_;refine lsA (SSu w t s) (fun N=> ?_) (fun v9 aV=> ?_)
 ·go_simp
  have U:aA w N.1:=d.o.trans (N.2.mono d.o.size);exact IN HT.o U (ab1 HB.o f ⟨t,Q,st,some m,a,g⟩ s N.1 (R0.o.Z U U.size) (HS.o.Z U U.size))
 obtain⟨z,rfl,hz⟩:=aV;have HZ:=sH hz;clear hz;simp[Act.put];refine mSk ?_
 first
  |(intro (N:aI _);obtain⟨w6,bq⟩:=N)
  |(rintro w6 ⟨⟨_,bq⟩,rfl⟩)
 have BY:=BK.t bq
 try dsimp only
 clear bq L0 L1 L2 L3 L4 L5 K0 K1 K2 K3 G0 G1 G2 G3 G4 G5 G6 G7 G8 G9 G10 G11;cases z
 ·go_wp2
  go_ret;exact⟨_,rfl,aD,u.o.trans (BY.o.mono u.o.size)⟩
 ·have LX:=sH (LB.o (HZ.o rfl))
  go_wp2;go_roundg (a-n)
  ·exact⟨n+1,aq,aq,aQ,BY,⟨mD LN.o LX.o⟩⟩
  omega
def PFt(w:World)(f:db)(e:Ending)(a:World):Prop:=∃z:Bool,e= .returned (.bool z)/\(z=true->Qt w w.heap.size f)/\aA w a
def aby(w:World)(f:db)(j:Nat):Prop:=∃(a:Addr) (A:aC) (n c:Nat),f.F=some a/\a.block<w.heap.size/\w.cell? (bW (a.add (j*3)) 2)=some (.slice A n c)/\n<=64
theorem Us{b:Nat}{z:ByteArray}{x:Int}{A:aC}{c:Nat}(h:Bx w b (pq z x A n c)):w.cell? ⟨b,0,none⟩=some (.string z)/\w.cell? ⟨b,1,none⟩=some (ae aj x)/\w.cell? ⟨b,2,none⟩=some (.slice A n c):=⟨h.cell 0,h.cell 1,h.cell 2⟩
theorem Vj(f:db)(w:World)(h:ca w w.heap.size f):Calls prog 145 #[f.v] w (PFt w f):=by
 obtain⟨W1,o,B1,D⟩:=box1 w f.row 82;have R0:=sH h;have W9:=h.rF.bd;have qT:=h.rL.bd;obtain⟨c0,u,a,s,c4,c5⟩:=D.o.f6;clear h;by_cases q1:f.fn<=64;rotate_left
 ·have Iv:(64:Int)<(f.fn:Int):=by omega
  go_enter func145,ntmps145;go_wp2_with fail;rw[<-o];clear o;go_wp2;go_ret;exact⟨_,rfl,aD,B1.o⟩
 have Iv:¬(64:Int)<(f.fn:Int):=aq;go_enter func145,ntmps145;go_upto_region 3 with fail;rw[<-o];clear o;go_wp2;go_loopg [3,4,5,6,7] (f.fn+1) (fun gg v3 _ _ _ _ wr=>∃(i:Nat),f.fn-i<gg/\i<=f.fn/\v3=ae aj (i:Int)/\ak (aA W1 wr)/\ak (∀j,j<i->aby w f j))
 ·exact⟨0,aq,aq,rfl,cB,⟨fun j hj=>by omega⟩⟩
 obtain⟨i,hg,hi,rfl,BE,LA⟩:=hrel;clear c0 u a s c4 c5;have S:=B1.t BE.o;obtain⟨c0,u,a,s,c4,c5⟩:=(D.o.ar BE.o D.o.lt).f6;by_cases aH:i<f.fn;rotate_left
 ·have i4:¬(i:Int)<(f.fn:Int):=by omega
  go_wp2;go_ret;exact⟨_,rfl,fun _=>⟨q1,fun j hj=>LA.o j aq⟩,S.o⟩
 have i4:(i:Int)<(f.fn:Int):=aq;obtain⟨ad,z,x1,r,b,W,J,hL,t,G,T⟩:=s' R0.o.rF aH;have M:ad.block<w.heap.size:=by
  obtain⟨gS,e',hl,_⟩:=R0.o.rF.2.2.2 aq;rw[J]at e';obtain rfl:=Option.some.inj e';exact hl
 have LI:ak (b<=64->aby w f i):=⟨fun h=>⟨ad,r,b,W,J,M,T,h⟩⟩;have EF:=sH J;have t:=au t S.o;have G:=au G S.o;have T:=au T S.o
 rw[J]at c4;have SK:=sH hL;have lZ:=hL.bd;clear J M hL;obtain⟨W2,cd⟩:=eX (wr.alloc (.cells (pq z x1 r b W) 238));have N:aA wr W2:=jT;have X:ak (Bx W2 wr.heap.size (pq z x1 r b W)):=⟨oJ⟩;have B2:=BE.t N;have c:=B1.t B2.o;have Y:=X.o.lt;obtain⟨k0,l,p⟩:=Us X.o;go_upto_region 7 with fail;rw[<-cd];clear N cd t G T c0 u a s c4 c5;by_cases h4:z.size=4;rotate_left
 ·have Va:((z.size:Int) !=4)=true:=by simp;omega
  clear h4;go_wp2;go_ret;exact⟨_,rfl,aD,c.o⟩
 have Va:((z.size:Int) !=4)=false:=cA;have H4:=sH h4;clear h4;go_wp2_with fail;refine(cK _ _ _ _).mono ?_;rintro e _ ⟨q,rfl,_,rfl⟩;cases q
 ·go_wp2
  go_ret;exact⟨_,rfl,aD,c.o⟩
 by_cases h64:b<=64;rotate_left
 ·have R:=aR 64 b
  go_wp2;go_ret;exact⟨_,rfl,aD,c.o⟩
 have R:=cF 64 b;have LX:=sH (LI.o h64);go_wp2_with fail;refine(wW r b W W2 (SK.o.Z c.o c.o.size)).mono ?_;rintro e w3 ⟨q,rfl,U⟩;have BK:=sH U;have H:=c.t U;have L:=sH (X.o.ar U Y);clear U k0 l p;cases q
 ·go_wp2
  go_ret;exact⟨_,rfl,aD,H.o⟩
 obtain⟨k0,l,p⟩:=Us L.o;have Qn:=H4.o;go_wp2;go_loopg [5] 5 (fun gg v5 g=>∃(n:Nat),4-n<gg/\n<=4/\v5=ae aj (n:Int)/\g=w3)
 ·exact⟨0,aq,aq,rfl,rfl⟩
 obtain⟨n,fL,hn,rfl,rfl⟩:=hrel;by_cases hn4:n<4
 ·have i5:(n:Int)<4:=by omega
  have i6:n<z.size:=aq;go_wp2_with fail
  all_goals first
   |(go_roundg (4-n)<;>first|omega|exact⟨n+1,aq,aq,aQ,rfl⟩)
   |(go_ret;exact⟨_,rfl,aD,H.o⟩)
 ·have i5:¬(n:Int)<4:=by omega
  go_wp2;obtain⟨w4,E⟩:=eX wr;rw[<-E]at BK H L;rw[<-E];clear E k0 l p Qn;have I:=L.o.lt;have B3:=B2.t BK.o;go_loopg [6] (b+1) (fun gg v6 g=>∃(m:Nat),b-m<gg/\m<=b/\v6=ae aj (m:Int)/\ak (aA w4 g))
  ·exact⟨0,aq,aq,rfl,cB⟩
  obtain⟨m,zY,hm,rfl,x⟩:=hrel;have d:=H.t x.o;have B:=B3.t x.o;obtain⟨k0,l,p⟩:=Us (L.o.ar x.o I);obtain⟨c0,u,a,s,c4,c5⟩:=(D.o.ar B.o D.o.lt).f6;by_cases Z:m<b
  ·have i6:=aR m b
   obtain⟨qx,y,rfl,t⟩:=ie (SK.o.Z d.o d.o.size) Z;go_wp2;have wk:IntKind.i64.wrap ((f.ln:Int)-1)=(f.ln:Int)-1:=IntWalk.i64_in _ aq;obtain⟨L0,L1,V⟩:=lc3 p t s;clear c0 u a s c4 c5 k0 l p t;refine aG (mj 78 SB) aF aF ?_;refine mSk ?_;refine lsA SB (fun v=> ?_) (fun v9 F=> ?_)
   ·go_simp
    exact bj ((cK _ _ _ v.1).mono fun _ _ h=>h.pb)
   obtain⟨q,rfl⟩:=F;simp[Act.put];refine mSk ?_
   first
    |(intro (v:aI _);obtain⟨P,k⟩:=v)
    |(rintro P ⟨⟨_,k⟩,rfl⟩)
   have C:=x.t k
   try dsimp only
   clear k wk L0 L1 V;cases q
   ·go_wp2
    go_ret;exact⟨_,rfl,aD,H.o.trans (C.o.mono H.o.size)⟩
   ·go_wp2
    go_roundg (b-m)
    ·exact⟨m+1,aq,aq,aQ,C⟩
    omega
  ·have i6:=cF m b
   go_wp2;obtain⟨w5,A⟩:=eX wr;rw[<-A]at x d B;rw[<-A];clear A c0 u a s c4 c5 k0 l p;go_loopg [7] (i+1) (fun gg v7 g=>∃(j:Nat),i-j<gg/\j<=i/\v7=ae aj (j:Int)/\ak (aA w5 g))
   ·exact⟨0,aq,aq,rfl,cB⟩
   obtain⟨j,Sl,hj,rfl,Q⟩:=hrel;have O:=B.t Q.o;have K:=d.t Q.o;by_cases Sf:j<i;rotate_left
   ·have i7:=cF j i
    go_wp2;go_roundg (f.fn-i)
    ·exact⟨i+1,aq,aq,aQ,O,⟨mD LA.o LX.o⟩⟩
    omega
   have i7:=aR j i;have i8:(j:Int)<(f.fn:Int):=aq;obtain⟨k0,l,p⟩:=Us ((L.o.ar x.o I).ar Q.o (by have:=x.o.size;omega));obtain⟨c0,u,a,s,c4,c5⟩:=(D.o.ar O.o D.o.lt).f6;obtain⟨Qh,z3,x3,_,_,_,eA,_,t,G,_⟩:=s' (R0.o.Z K.o K.o.size).rF (show j<f.fn by omega);rw[eA]at c4;clear eA;go_wp2;obtain⟨L0,L1,V,L3,L4⟩:=lc5 k0 l c4 t G;clear c0 u a s c4 c5 k0 l p t G;refine aG (mj 93 SB) aF aF ?_;refine mSk ?_;refine lsA SB (fun v=> ?_) (fun v9 F=> ?_)
   ·go_simp
    exact⟨_,rfl⟩
   obtain⟨q,rfl⟩:=F;cases q
   ·simp[Act.put]
    refine mSk ?_
    first
     |(intro (v:aI _);obtain⟨P,k⟩:=v)
     |(rintro P ⟨⟨_,k⟩,rfl⟩)
    have C:=Q.t k
    try dsimp only
    clear k L0 L1 V L3 L4;go_wp2;go_roundg (i-j)
    ·exact⟨j+1,aq,aq,aQ,C⟩
    omega
   ·simp[Act.put]
    refine mSk ?_
    first
     |(intro (v:aI _);obtain⟨P,k⟩:=v)
     |(rintro P ⟨⟨_,k⟩,rfl⟩)
    have C:=Q.t k
    try dsimp only
    clear k L0 L1 V L3 L4;go_wp2_with fail
    all_goals first
     |(go_roundg (i-j)<;>first|omega|exact⟨j+1,aq,aq,aQ,C⟩)
     |(go_ret;exact⟨_,rfl,aD,d.o.trans (C.o.mono d.o.size)⟩)
def PCk(w:World)(f:db)(e:Ending)(a:World):Prop:=∃z:Int,e= .returned (ae aj z)/\(z=0->FOk w w.heap.size f)/\aA w a
theorem Qt.back{b:World}{f:db}(d:cM w w.heap.size Fi f.F f.fn f.fc)(k:aA w b)(h:Qt b b.heap.size f):Qt w w.heap.size f:=⟨h.1,fun j e=>by
 obtain⟨a,A,n,c,g,_,o,r⟩:=h.2 j e;obtain⟨l,z,s,m,t,p,f1,_,_,_,f2⟩:=s' d e;obtain⟨q,i,g2,_⟩:=d.2.2.2 aq;rw[f1]at g i;obtain rfl:=Option.some.inj g;obtain rfl:=Option.some.inj i;have:=au f2 k;rw[o]at this;injection this with this
 injection this with _ h5 _
 subst h5;exact⟨l,m,n,p,f1,g2,f2,r⟩⟩
theorem J0.back{t:World}{f:db}(H:cM w w.heap.size zW f.L f.ln f.lc)(e:aA w t)(h:J0 t t.heap.size f):J0 w w.heap.size f:=fun j F=>by
 obtain⟨a,k,G,_,h3,h4,h5,L,Z⟩:=h j F;obtain⟨J,x,f1,A,f2,f3,f4,f5⟩:=rl H F;obtain⟨R,D,g2,_⟩:=H.2.2.2 aq;rw[f1]at G D;obtain rfl:=Option.some.inj G;obtain rfl:=Option.some.inj D;refine⟨J,x,f1,g2,f2,f3,f4,f5,fun M i q=> ?_⟩;have p:=au f2 e;have v:=au f5 e
 rw[h3]at p;rw[L]at v;obtain⟨kk,fl,st,S,sn,sc⟩:=x;obtain⟨kk',N,U,o,d,sc'⟩:=k;simp at p v;obtain⟨P,K,X⟩:=v;subst p;subst P;subst K;subst X
 obtain⟨z,C,Y,cc,T,tc,g,_,Q,O,B⟩:=Z M i q;obtain⟨r,s,l,I,y,E,_⟩:=jh A.rS q;obtain⟨b,m,V,_⟩:=A.rS.2.2.2 (by have:i<d:=q;show 0<d;omega);have g:o=some z:=g;have l:o=some r:=l;have m:o=some b:=m;rw[g]at l m;obtain rfl:=Option.some.inj l;obtain rfl:=Option.some.inj m;have n:=au y e;have u:=au E e
 rw[Q]at n;rw[O]at u;simp at n u;obtain⟨u1,u2,u3⟩:=n;obtain⟨W,v2,v3⟩:=u;refine⟨z,s.C,Y,s.cc,s.T,s.tc,g,V,by rw[y,u2],by rw[E,v2], ?_⟩;rw[W]at B;have c:=I.rT;rw[<-v2]at c;exact B.back c e
theorem VM(s:G:=by
 go_wp2
 go_ret;exact⟨_,rfl,aD,B1.o⟩):G:=s
theorem Rc(x:ri)(f:db)(w:World)(h:ca w w.heap.size f):Calls prog 78 #[f.v] w (PCk w f):=by
 obtain⟨p,k,B1,o⟩:=box1 w f.row 82;have r:=sH x;have i:=sH h;obtain⟨c0,d,b,c,c4,c5⟩:=o.o.f6;go_enter func78,ntmps78;go_wp2_with fail;rw[<-k];clear k;go_wp2_with fail;refine(Mb f p (i.o.Z B1.o B1.o.size)).mono ?_;rintro e n ⟨z,rfl,j,a⟩;have v:=sH j;have g:=B1.t a;have c0:=au c0 a;have d:=au d a;have b:=au b a;have c:=au c a;have c4:=au c4 a;have c5:=au c5 a
 have B1:=sH g.o;cases z
 ·exact VM
 go_wp2_with fail;refine(XL f n (i.o.Z B1.o B1.o.size)).mono ?_;rintro e u ⟨z,rfl,a⟩;have g:=B1.t a;have c0:=au c0 a;have d:=au d a;have b:=au b a;have c:=au c a;have c4:=au c4 a;have c5:=au c5 a
 have B1:=sH g.o;cases z
 ·exact VM
 go_wp2_with fail;have m:=sH B1.o;refine(Ji r.o f u (i.o.Z B1.o B1.o.size)).mono ?_;rintro e s ⟨z,rfl,j,a⟩;have t:=sH j;have g:=B1.t a;have c0:=au c0 a;have d:=au d a;have b:=au b a;have c:=au c a;have c4:=au c4 a;have c5:=au c5 a
 have B1:=sH g.o;cases z
 ·exact VM
 go_wp2_with fail;have l:=sH B1.o;refine(Vj f s (i.o.Z B1.o B1.o.size)).mono ?_;rintro e y ⟨z,rfl,j,a⟩;have q:=sH j;have g:=B1.t a;have c0:=au c0 a;have d:=au d a;have b:=au b a;have c:=au c a;have c4:=au c4 a;have c5:=au c5 a
 have B1:=sH g.o;cases z
 ·exact VM
 go_wp2;go_ret;exact⟨_,rfl,fun _=>⟨v.o trivial,(q.o trivial).back i.o.rF l.o,(t.o trivial).back i.o.rL m.o⟩,B1.o⟩
theorem TJ(f:db)(w:World)(h:ca w w.heap.size f):Calls prog 37 #[f.v] w (PB w):=by
 obtain⟨y,g,d,m⟩:=box1 w f.row 82;have R:=sH (h.Z d.o d.o.size);have h1:=h.rG.bd;have h2:=h.rM.bd;have h3:=h.rL.bd;have h4:=h.rF.bd;have h5:=h.rS.bd
 obtain⟨c0,S,o,u,c4,c5⟩:=m.o.f6;go_enter func37,ntmps37;go_upto_region 1 with fail;rw[<-g];clear g;go_cut [34] (fun v T=>(∃b:Bool,v= .bool b)/\y=T)
 ·
  go_wp2_with fail
  all_goals
   go_meet;exact⟨⟨_,rfl⟩,rfl⟩
 obtain⟨⟨b,rfl⟩,rfl⟩:=hcut;cases b;rotate_left
 ·go_wp2
  go_ret;exact⟨_,rfl,d.o⟩
 go_wp2;go_loopg [3,4,5,6] (f.ln+1) (fun gg v3 _ _ _ wr=>∃(i:Nat),f.ln-i<gg/\i<=f.ln/\v3=ae aj (i:Int)/\ak (aA y wr))
 ·exact⟨0,aq,aq,rfl,cB⟩
 obtain⟨i,hg,hi,rfl,c⟩:=hrel;obtain⟨c0,S,o,u,c4,c5⟩:=(m.o.ar c.o m.o.lt).f6;by_cases q:i<f.ln;rotate_left
 ·have C:¬(i:Int)<(f.ln:Int):=by omega
  go_wp2;go_ret;exact⟨_,rfl,d.o.trans (c.o.mono d.o.size)⟩
 have C:(i:Int)<(f.ln:Int):=aq;obtain⟨Y,k,F,x,e0,e1,e2,e3⟩:=rl (R.o.Z c.o c.o.size).rL q;rw[F]at u;have z:=sH x.rS;have N:=x.rS.bd;by_cases q1:k.sn<=10;rotate_left
 ·have r:(10:Int)<(k.sn:Int):=by omega
  go_wp2;go_ret;exact⟨_,rfl,d.o.trans (c.o.mono d.o.size)⟩
 have r:¬(10:Int)<(k.sn:Int):=aq;go_wp2;obtain⟨K,e⟩:=eX wr;rw[<-e]at c z;rw[<-e];clear e;go_loopg [5,6] (k.sn+1) (fun gg I _ p=>∃(n:Nat),k.sn-n<gg/\n<=k.sn/\I=ae aj (n:Int)/\ak (aA K p))
 ·exact⟨0,aq,aq,rfl,cB⟩
 obtain⟨n,Q,hn,rfl,j⟩:=hrel;have H:=c.t j.o;by_cases l:n<k.sn;rotate_left
 ·have V:¬(n:Int)<(k.sn:Int):=by omega
  go_wp2;go_roundg (f.ln-i)
  ·exact⟨i+1,aq,aq,aQ,H⟩
  omega
 have V:(n:Int)<(k.sn:Int):=aq;obtain⟨E,s,L,a,g0,g1,g2,g3,g4,g5,g6,X,g8,g9,U,D⟩:=jh (z.o.Z j.o j.o.size) l;have SE:=sH L;obtain⟨B,cd⟩:=eX (wr.alloc (.cells s.row 141));have t:aA wr B:=jT;have G:ak (Bx B wr.heap.size s.row):=⟨oJ⟩;have A:=j.t t;have j0:=a.rC.bd;have j1:=a.rT.bd;have j2:=a.rL.bd;have j3:=a.rB.bd;have j4:=a.rJ.bd;have j5:=a.rA.bd;have j6:=a.rN.bd;have j7:=a.rV.bd;have Z:=a.rP.bd;have j9:=a.rU.bd;have P:=a.rM.bd;have M:=a.rH.bd
 obtain⟨d0,d1,d2,d3,d4,d5,d6,d7,W,d9,O,J⟩:=G.o.mS;go_upto_region 13 with fail;rw[<-cd];clear cd;go_wp2_with fail
 all_goals first
  |(go_roundg (k.sn-n)<;>first|omega|exact⟨n+1,aq,aq,aQ,A⟩)
  |(go_ret;exact⟨_,rfl,d.o.trans ((c.o.trans (A.o.mono c.o.size)).mono d.o.size)⟩)
theorem fu(n lo a:Int)(w:World):Calls prog 146 #[ae aj n,ae aj lo,ae aj a] w (PWi w n lo a):=by
 go_enter func146,ntmps146;go_wp2_with fail
 all_goals
  go_ret;exact⟨_,rfl,ij,rfl⟩
def uU(ts:aE)(n i:Nat):Prop:=∀k,k<i->k+1<n->(aZ (nth ts k)).iZ=11->k+2=n/\nth ts k=13/\nth ts (k+1)=10
theorem uU.snoc{ts:aE}{i:Nat}(h:uU ts n i)(d:(aZ (nth ts i)).iZ=11->i+2=n/\nth ts i=13/\nth ts (i+1)=10):uU ts n (i+1):=fun k e c a=>by
 rcases Nat.lt_or_ge k i with b|b
 ·exact h k b c a
 ·obtain rfl:k=i:=by omega
  exact d a
def PO1(w:World)(ts:aE)(n:Nat)(e:Ending)(a:World):Prop:=∃z:Bool,e= .returned (.bool z)/\(z=true->uU ts n n)/\aA w a
theorem abK(A:aC)(n c:Nat)(ts:aE)(w:World)(h:aL .i32 w A n c ts)(K:n<=100000):Calls prog 148 #[.slice A n c] w (PO1 w ts n):=by
 have m:=sH h;go_enter func148,ntmps148;go_wp2;go_loopg [3] (n+1) (fun gg v3 wr=>∃(i:Nat),n-i<gg/\i<=n/\v3=ae aj (i:Int)/\ak (aA w wr)/\ak (uU ts n i))
 ·exact⟨0,aq,aq,rfl,cB,⟨fun k J=>by omega⟩⟩
 obtain⟨i,I,M,rfl,l,v⟩:=hrel;by_cases C:i+1<n;rotate_left
 ·have y:¬(i:Int)+1<(n:Int):=by omega
  have x:ak (uU ts n n):=⟨fun k h1 h2=>v.o k aq h2⟩;go_wp2;go_ret;exact⟨_,rfl,fun _=>x.o,l.o⟩
 have y:(i:Int)+1<(n:Int):=aq;have L:=aR i n;obtain⟨H,rfl,u⟩:=(m.o.ar l.o).gj (show i<n by omega);obtain⟨q,g⟩:=uW (m.o.dF (show i<n by omega));have D:=sH (eZ (nth ts i) q g wr);have t:=sH v.o.snoc;generalize nth ts i=z at*;go_wp2_with fail;refine callK D.o l fun G B a=> ?_;have u:=au u B;obtain⟨F,f,E⟩:=(m.o.ar a.o).gj (show i+1<n by omega);injection f with f
 subst f;rw[add_succ]at E;generalize nth ts (i+1)=o at*;generalize(aZ z).iZ=bd at*;by_cases h1:bd=11;rotate_left
 ·have d:(bd==11)=false:=by simp[h1]
  have e:=sH (t.o fun h=>absurd h h1);go_wp2;go_roundg (n-i)
  ·exact⟨i+1,aq,aq,aQ,a,e⟩
  omega
 have d:(bd==11)=true:=nU;by_cases h2:(i:Int)+2=(n:Int);rotate_left
 ·have s:((i:Int)+2==(n:Int))=false:=by simp[h2]
  go_wp2;go_ret;exact⟨_,rfl,aD,a.o⟩
 have s:((i:Int)+2==(n:Int))=true:=pO;by_cases p:z=13;rotate_left
 ·have j:(z==13)=false:=by simp[p]
  go_wp2;go_ret;exact⟨_,rfl,aD,a.o⟩
 have j:(z==13)=true:=by simp[p]
 by_cases r:o=10;rotate_left
 ·have b:(o==10)=false:=by simp[r]
  go_wp2;go_ret;exact⟨_,rfl,aD,a.o⟩
 have b:(o==10)=true:=by simp[r]
 have e:=sH (t.o fun _=>⟨aq,p,r⟩);go_wp2;go_roundg (n-i)
 ·exact⟨i+1,aq,aq,aQ,a,e⟩
 omega
def whT(d:Option Tmp):Option (Value->Prop):=if d=some 21 then some SB else if d=some 29 then some SB else none
theorem VJ(s:G:=by
 simp[Act.put]
 refine mSk ?_
 first
  |(intro (nq:aI _);obtain⟨w6,bq⟩:=nq)
  |(rintro w6 ⟨⟨_,bq⟩,rfl⟩)
 have BX:=BE.t bq
 try dsimp only
 go_wp2;go_ret;exact⟨_,rfl,BX.o⟩):G:=s
theorem Sy(A:aC)(n c:Nat)(m:Int)(w:World)(h:cM w w.heap.size vu A n c):Calls prog 149 #[.slice A n c,ae aj m] w (PB w):=by
 have f:=sH h;have M:=h.bd;by_cases Q:m<0
 ·go_enter func149,ntmps149
  go_wp2;go_ret;exact⟨_,rfl,Below.refl _ _⟩
 go_enter func149,ntmps149;go_wp2;go_loopg [5,6] (n+1) (fun gg s r wr=>∃(i:Nat) (z:Int),n-i<gg/\i<=n/\s=ae aj z/\r=ae aj (i:Int)/\ak (aA w wr))
 ·exact⟨0,0,aq,aq,rfl,rfl,cB⟩
 obtain⟨i,z,G,O,rfl,rfl,BE⟩:=hrel;by_cases d:i<n;rotate_left
 ·have p:=cF i n
  go_wp2;go_ret;exact⟨_,rfl,BE.o⟩
 have p:=aR i n;obtain⟨F,D,C,R,rfl,v,x,q⟩:=kj (f.o.Z BE.o BE.o.size) d;go_wp2_with fail;obtain⟨L0,L1,u⟩:=lc3 v x q;rcases i with _|k
 ·rw[Nat.zero_mul,eQ]at L0 L1 u
  refine aG whT aF aF ?_;refine mSk ?_;refine lsA SB (fun nq=> ?_) (fun g a=> ?_)
  ·go_simp
   exact⟨_,rfl⟩
  obtain⟨b,rfl⟩:=a;cases b;rotate_left
  ·exact VJ
  simp[Act.put];refine mSk ?_;refine lsA SB (fun nq=> ?_) (fun g a=> ?_)
  ·go_simp
   exact⟨_,rfl⟩
  obtain⟨b,rfl⟩:=a;cases b;rotate_left
  ·exact VJ
  simp[Act.put];refine mSk ?_
  first
   |(intro (nq:aI _);obtain⟨w6,bq⟩:=nq)
   |(rintro w6 ⟨⟨_,bq⟩,rfl⟩)
  have BX:=BE.t bq
  try dsimp only
  obtain⟨j,_,y,_,e,_,l,_⟩:=kj (f.o.Z BX.o BX.o.size) d;injection e with e
  subst e
  try rw[Nat.zero_mul,eQ]at l
  go_wp2_with fail
  all_goals first
   |(go_roundg (n-(0))<;>first|omega|exact⟨0+1,_,aq,aq,rfl,aQ,BX⟩)
   |(go_ret;exact⟨_,rfl,BX.o⟩)
 ·obtain⟨B,N,I,H,o,K,J,g2⟩:=kj (f.o.Z BE.o BE.o.size) (show k<n by omega)
  injection o with o
  subst o;have L:IntKind.i64.wrap ((k:Int)+1-1)=(k:Int):=yA;have k0:=jB k;have E:=aR k n;have P:=aw g2;refine aG whT aF aF ?_;refine mSk ?_;refine lsA SB (fun nq=> ?_) (fun g a=> ?_)
  ·go_simp
   exact⟨_,rfl⟩
  obtain⟨b,rfl⟩:=a;cases b;rotate_left
  ·exact VJ
  simp[Act.put];refine mSk ?_;refine lsA SB (fun nq=> ?_) (fun g a=> ?_)
  ·go_simp
   exact⟨_,rfl⟩
  obtain⟨b,rfl⟩:=a;cases b;rotate_left
  ·exact VJ
  simp[Act.put];refine mSk ?_
  first
   |(intro (nq:aI _);obtain⟨w6,bq⟩:=nq)
   |(rintro w6 ⟨⟨_,bq⟩,rfl⟩)
  have BX:=BE.t bq
  try dsimp only
  obtain⟨j,_,y,_,e,_,l,_⟩:=kj (f.o.Z BX.o BX.o.size) d;injection e with e
  subst e
  try rw[Nat.zero_mul,eQ]at l
  go_wp2_with fail
  all_goals first
   |(go_roundg (n-(k+1))<;>first|omega|exact⟨k+1+1,_,aq,aq,rfl,aQ,BX⟩)
   |(go_ret;exact⟨_,rfl,BX.o⟩)
theorem xg{B c j:Nat}{A:aC}(h:cM w B .str A n c)(i:j<n):∃(a:Addr) (z:ByteArray),A=some a/\a.block<B/\w.cell? (a.add j)=some (.string z)/\z.size<=maxLen:=by
 obtain⟨a,e,d,g⟩:=h.2.2.2 aq;obtain⟨l,⟨z,rfl,f⟩,k⟩:=g j i;have b:=k 0 _ rfl;rw[eQ]at b;simp[Ty.n]at b;exact⟨a,z,e,d,b,f⟩
def rk(w:World)(s:cX)(j:Nat):Prop:=∀a z,s.P=some a->w.cell? (a.add j)=some (.string z)->z.size<=200
def Ca(w:World)(s:cX)(p:jW):Prop:=p.tn<=60/\p.sn<=60/\p.bn<=40/\s.fn<=10/\s.yn<=70/\s.pn<=60/\∀j,j<s.pn->rk w s j
def PSm(w:World)(s:cX)(p:jW)(e:Ending)(a:World):Prop:=∃z:Bool,e= .returned (.bool z)/\(z=true->Ca w s p)/\aA w a
theorem Fw(s:cX)(p:jW)(ts:aE)(w:World)(h:ix w w.heap.size s)(n:mx w p ts):Calls prog 15 #[s.v,p.v] w (PSm w s p):=by
 obtain⟨U,a,c,v,N⟩:=box2 w s.row 26 p.row 31;obtain⟨c0,t,b,o,c4⟩:=v.o.c5;obtain⟨d0,d1,X,d3,d4,d5,Q,d7⟩:=N.o.c8;have I:=sH h;have h1:=h.rF.bd;have h2:=h.rY.bd;have h3:=h.rP.bd
 have h4:=Nat.le_trans n.rT.le n.rT.cap;have h5:=n.rS.bd;have h6:=n.rB.bd
 clear h n;by_cases q1:p.tn<=60;rotate_left
 ·have l:(60:Int)<(p.tn:Int):=by omega
  go_enter func15,ntmps15;go_wp2_with fail;rw[<-a];clear a;go_wp2;go_ret;exact⟨_,rfl,aD,c.o⟩
 have Iv:¬(60:Int)<(p.tn:Int):=aq;by_cases Z:p.sn<=60;rotate_left
 ·have l:(60:Int)<(p.sn:Int):=by omega
  go_enter func15,ntmps15;go_wp2_with fail;rw[<-a];clear a;go_wp2;go_ret;exact⟨_,rfl,aD,c.o⟩
 have J:¬(60:Int)<(p.sn:Int):=aq;by_cases q3:p.bn<=40;rotate_left
 ·have l:(40:Int)<(p.bn:Int):=by omega
  go_enter func15,ntmps15;go_wp2_with fail;rw[<-a];clear a;go_wp2;go_ret;exact⟨_,rfl,aD,c.o⟩
 have M:¬(40:Int)<(p.bn:Int):=aq;by_cases q4:s.fn<=10;rotate_left
 ·have l:(10:Int)<(s.fn:Int):=by omega
  go_enter func15,ntmps15;go_wp2_with fail;rw[<-a];clear a;go_wp2;go_ret;exact⟨_,rfl,aD,c.o⟩
 have q4':¬(10:Int)<(s.fn:Int):=aq;by_cases q5:s.yn<=70;rotate_left
 ·have l:(70:Int)<(s.yn:Int):=by omega
  go_enter func15,ntmps15;go_wp2_with fail;rw[<-a];clear a;go_wp2;go_ret;exact⟨_,rfl,aD,c.o⟩
 have q5':¬(70:Int)<(s.yn:Int):=aq;by_cases P:s.pn<=60;rotate_left
 ·have l:(60:Int)<(s.pn:Int):=by omega
  go_enter func15,ntmps15;go_wp2_with fail;rw[<-a];clear a;go_wp2;go_ret;exact⟨_,rfl,aD,c.o⟩
 have L:¬(60:Int)<(s.pn:Int):=aq;go_enter func15,ntmps15;go_upto_region 3 with fail;rw[<-a];clear a d0 d1 X d3 d4 d5 Q d7 t o c4;go_wp2;go_loopg [5] (s.fn+1) (fun gg T wr=>∃(i:Nat),s.fn-i<gg/\i<=s.fn/\T=ae aj (i:Int)/\ak (aA U wr))
 ·exact⟨0,aq,aq,rfl,cB⟩
 obtain⟨i,hg,hi,rfl,q⟩:=hrel;have k:=c.t q.o;clear c0 b;obtain⟨c0,t,b,o,c4⟩:=(v.o.ar q.o v.o.lt).c5;by_cases B:i<s.fn
 ·have K:(i:Int)<(s.fn:Int):=by omega
  obtain⟨O,f,D,G,e0,r,d,e3,S,e5⟩:=qd (I.o.Z k.o k.o.size).rF B;rw[D]at c0;have Y:=sH G;clear D G;go_wp2_with fail;refine(TJ f wr Y.o).mono ?_;rintro e w3 ⟨z,rfl,H⟩;have E:=q.t H;clear H e0 r d e3 S e5 c0 t b o c4;cases z
  ·go_wp2
   go_ret;exact⟨_,rfl,aD,c.o.trans (E.o.mono c.o.size)⟩
  go_wp2;go_roundg (s.fn-i)
  ·exact⟨i+1,aq,aq,aQ,E⟩
  omega
 have K:¬(i:Int)<(s.fn:Int):=aq;go_wp2;obtain⟨wo,g⟩:=eX wr;rw[<-g]at q k b;rw[<-g];clear g c0 t o c4;go_loopg [6] (s.pn+1) (fun gg R wr=>∃(j:Nat),s.pn-j<gg/\j<=s.pn/\R=ae aj (j:Int)/\wr=wo/\ak (∀m,m<j->rk w s m))
 ·exact⟨0,aq,aq,rfl,rfl,⟨fun m hm=>by omega⟩⟩
 obtain⟨j,fL,hj,rfl,rfl,F⟩:=hrel;by_cases C:j<s.pn;rotate_left
 ·have i5:¬(j:Int)<(s.pn:Int):=by omega
  have SX:ak (Ca w s p):=⟨⟨q1,Z,q3,q4,q5,P,fun m hm=>F.o m aq⟩⟩;go_wp2;go_ret;exact⟨_,rfl,fun _=>SX.o,k.o⟩
 have i5:(j:Int)<(s.pn:Int):=aq;obtain⟨V,z,A,_,x,hz⟩:=xg I.o.rP C;have W:ak (z.size<=200->rk w s j):=⟨fun h O z2 r d=>by
  rw[A]at r;obtain rfl:=Option.some.inj r;rw[x]at d;injection d with d
  injection d with d
  subst d;exact h⟩
 have x:=au x k.o;rw[A]at b;unfold maxLen at hz;clear A;by_cases y:z.size<=200
 ·have u:¬(200:Int)<(z.size:Int):=by omega
  have SK:=sH (W.o y);go_wp2;go_roundg (s.pn-j)
  ·exact⟨j+1,aq,aq,aQ,rfl,⟨mD F.o SK.o⟩⟩
  omega
 ·have u:(200:Int)<(z.size:Int):=by omega
  go_wp2;go_ret;exact⟨_,rfl,aD,k.o⟩
end Go.Proofs.YtpidckelbgbbkaaGreatDoor
