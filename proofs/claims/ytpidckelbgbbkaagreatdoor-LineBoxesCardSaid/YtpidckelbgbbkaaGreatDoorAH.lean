/- Part of LineBoxes. -/
import Derived.Test.YtpidckelbgbbkaaGreatDoorAG
namespace Go.Proofs.YtpidckelbgbbkaaGreatDoor
open Go.ChangeShapes Go.WideShapes Go.ChangeAt Go.RowKit Go.Proofs.Tryz
open Go.Value renaming int → ae
open Go.IntKind renaming i64 → aj
set_option linter.all false
set_option maxRecDepth 100000
set_option maxHeartbeats 16000000
variable{B c m:Nat}{A:aC}{ts:aE}{w:World}{a:List bP}
theorem IM(gs:List aE)(A:aC)(n c:Nat)(w:World)(h:Rx w w.heap.size 10 gs A n)(hn:n<=100000):
 Calls prog 63 #[.slice A n c] w (tf w (eU (bY gs) n)):=by
 have R:ak _:=⟨h.Kk⟩;have Y:ak (∀j,j<n->nth (bY gs) j=nth (fW gs j) 1):=⟨fun j I=>oW Bl⟩;clear h;generalize bY gs=a at*;go_enter func63,ntmps63;go_wp2;go_loopg [2,3,4,7] (n+1) (fun gg v2 _ _ v7 wr=>∃(i m:Nat) (N:aC) (v:Nat),n-i<gg/\i<=n/\m<=i/\v2= .slice N m v/\v7=ae aj (i:Int)/\ak ((eU a i).length=m)/\ak (Bv wr w.heap.size (eU a i) N m v)/\ak (aA w wr))
 ·exact⟨0,0,none,0,aq,aq,aq,rfl,rfl,⟨rfl⟩,⟨aB.nil _ _ _ _⟩,cB⟩
 obtain⟨i,m,N,v,hg,hi,hm,rfl,rfl,ML,J,E⟩:=hrel;by_cases F:i<n;rotate_left
 ·have i4:=cF i n
  obtain rfl:i=n:=aq;go_wp2;go_ret;exact⟨N,v,by rw[ML.o];rfl,by rw[ML.o];exact J.o,E.o⟩
 have i4:=aR i n;obtain⟨ad,x0,P,x2,x3,x4,x5,x6,x7,x8,x9,H,b,c0,c1,T,c3,c4,c5,c6,c7,c8,c9⟩:=(R.o.Z E.o E.o.size).ba F;subst H;rw[Nat.zero_add]at b;have f:nth a i=P:=by rw[Y.o i F,b];rfl
 have t:ak (n-i<gk):=⟨hg⟩;clear b hg;obtain⟨O,cd⟩:∃O,O=(wr:World).alloc (.cells #[ae aj x0,ae aj P,ae aj x2,ae aj x3,ae aj x4,ae aj x5,ae aj x6,ae aj x7,ae aj x8,ae aj x9] 108):=⟨_,rfl⟩;obtain⟨S,_⟩:=ya cd;have u:ak (aA wr O):=⟨jT⟩;have r:ak (aA w O):=⟨E.o.trans (u.o.mono E.o.size)⟩;go_upto_region 4 with fail;rw[<-cd];clear cd c0 c1 T c3 c4 c5 c6 c7 c8 c9;have L1:=aw S;rcases Nat.eq_zero_or_pos i with M|M
 ·have W:decide (0<i)=false:=fC
  have hni:¬0<i:=aq;have PH:ak _:=⟨oU a i aq⟩;clear S M;go_wp2;refine br aF aF ?_
  repeat(go_big_quiet_step (fail))
  refine wpQuiet_nil ?_;rintro _ ⟨d,rfl⟩;have s:ak (aA w d.1):=⟨r.o.trans (d.2.mono r.o.size)⟩;have o:ak _:=⟨J.o.ar (Below.trans u.o (d.2.mono u.o.size))⟩;have l:=s.o.size;clear f L1;go_wp2_with (at_builtin;refine cz TCu rfl (.tmp 33) (.tmp 38) rfl rfl (aB.alloc o.o _) rfl (news:=pW (i,i+1)) rfl (gA _ _ _ _) (kR _ _) aq cA ?_;intro C c8 D B G;have O8:ak _:=⟨B⟩;have x:ak (aA w D):=⟨(s.o.alloc l _).trans G⟩;clear B G);have e:ak ((eU a (i+1)).length=m+1):=⟨Vw⟩;have y:ak (Bv D w.heap.size (eU a (i+1)) C (m+1) c8):=⟨Vu⟩;go_roundg (n-i)
  case measure=>have:=t.o;omega
  case rel=>exact⟨i+1,m+1,C,c8,aq,aq,aq,rfl,aQ,e,y,x⟩
 obtain⟨j,I⟩:∃j,j+1=i:=⟨i-1,aq⟩;have W:decide (0<i)=true:=yy;have Fb:(i:Int)-1=(j:Int):=aq;have j4:=aR j n;obtain⟨U,y0,y1,y2,y3,y4,y5,y6,y7,y8,y9,H,b,d0,Z,_⟩:=(R.o.Z r.o r.o.size).ba (show j<n by omega);obtain rfl:ad=U:=by injection H
 rw[Nat.zero_add]at b;have k:nth a j=y1:=by rw[Y.o j (by omega),b];rfl
 have K1:=aw Z;have HJ:ak _:=⟨I⟩;clear S d0 Z b H;cases L:(y1==P)
 ·have PH:ak _:=⟨oU a i (by intro h;obtain⟨_,h⟩:=h;rw[show i-1=j by omega,f,k]at h;simp[h]at L)⟩
  clear f k I;go_wp2;refine br aF aF ?_
  repeat(go_big_quiet_step (fail))
  refine wpQuiet_nil ?_;rintro _ ⟨d,rfl⟩;have s:ak (aA w d.1):=⟨r.o.trans (d.2.mono r.o.size)⟩;have o:ak _:=⟨J.o.ar (Below.trans u.o (d.2.mono u.o.size))⟩;have l:=s.o.size;clear K1 L1 L;go_wp2_with (at_builtin;refine cz TCu rfl (.tmp 33) (.tmp 38) rfl rfl (aB.alloc o.o _) rfl (news:=pW (i,i+1)) rfl (gA _ _ _ _) (kR _ _) aq cA ?_;intro C c8 D B G;have O8:ak _:=⟨B⟩;have x:ak (aA w D):=⟨(s.o.alloc l _).trans G⟩;clear B G);have e:ak ((eU a (i+1)).length=m+1):=⟨Vw⟩;have y:ak (Bv D w.heap.size (eU a (i+1)) C (m+1) c8):=⟨Vu⟩;go_roundg (n-i)
  case measure=>have:=t.o;omega
  case rel=>exact⟨i+1,m+1,C,c8,aq,aq,aq,rfl,aQ,e,y,x⟩
 ·have PM:ak _:=⟨Ai a i ⟨M,by rw[show i-1=j by omega,f,k];simpa using L⟩⟩
  have z:0<m:=by have:=ly a i M;have:=lD a i;have:=ML.o;omega
  clear f k I;go_wp2;refine br aF aF ?_
  repeat(go_big_quiet_step (fail))
  refine wpQuiet_nil ?_;rintro _ ⟨d,rfl⟩;have s:ak (aA w d.1):=⟨r.o.trans (d.2.mono r.o.size)⟩;have o:ak _:=⟨J.o.ar (Below.trans u.o (d.2.mono u.o.size))⟩;have l:=s.o.size;clear K1 L1 L;obtain⟨q,hq⟩:∃q,q+1=m:=⟨m-1,aq⟩;obtain⟨g,rfl,Q,fL⟩:=aB.form o.o z;have V:=qD (eU a i) q (i+1) (by rw[ML.o];omega);have K:=PM.o;rw[ML.o,show m-1=q by omega]at K;rw[<-K]at V;have cq:=aB.cellAt o.o (q*2+1) aq;rw[(jI (eU a i) q (by rw[ML.o];omega)).2]at cq;have fq:=aB.frozenAt o.o (q*2+1);have st:=(World.ownsRow.stored (cap:=v) o.o (q*2+1) (ae aj ((i+1:Nat):Int))).1;rw[V]at st;have e:ak ((eU a (i+1)).length=m):=⟨by rw[K,List.length_set];exact ML.o⟩;have y:ak (Bv (d.1.setCell ⟨g,q*2+1,none⟩ (ae aj ((i+1:Nat):Int))) w.heap.size (eU a (i+1)) (some ⟨g,0,none⟩) m v):=⟨st⟩;have x:ak (aA w (d.1.setCell ⟨g,q*2+1,none⟩ (ae aj ((i+1:Nat):Int)))):=⟨Below.setCell s.o (p:=⟨g,q*2+1,none⟩) Q _⟩;have q1:(m:Int)-1=(q:Int):=aq;have q2:=aR q m;have q3:=jB q;have HQ:ak _:=⟨hq⟩;clear V K st hq z;have X:(((i+1:Nat):Int))=(i:Int)+1:=aq;rw[X]at y x;clear X;go_wp2;go_roundg (n-i)
  case measure=>have:=t.o;omega
  case rel=>exact⟨i+1,m,_,v,aq,aq,aq,rfl,aQ,e,y,x⟩
theorem Zw(x:eE)(r:Rn)(f t:Int)(a b:Nat)(w:World)(hr:Rx w w.heap.size 10 x.q.gs x.G x.q.gs.length)(iN:a<=b)(hb:b<=x.q.gs.length)(hn:x.q.gs.length<=100000):Calls prog 71 #[.agg x.row, .agg r.row,ae aj f,ae aj t,ae aj (a:Int),ae aj (b:Int)] w (PGb w (ib f t r.lv r.fo x.q.gs a b)):=by
 obtain⟨⟨qf,qt,qr,qw,qi,qb,gs⟩,U,v,qe,P0,pn,pc⟩:=x;dsimp only[eE.row]at hr hb hn⊢;have R:=sH hr.Kk;obtain⟨n,sj⟩:=eY gs.length;rw[sj]at R hb hn⊢;obtain⟨m,hm⟩:=eY (b-a);have HB:ak (b=a+m):=⟨aq⟩;obtain⟨L,hL⟩:=eY (tg gs a m (sq r.lv));have HL:=sH hL;have HLn:ak (L.length=m):=⟨by rw[<-hL];exact zr _ _ _ _⟩;obtain⟨P,hP⟩:∃P:Nat->List gN,ti r.fo gs a m (sq r.lv)=P:=⟨_,rfl⟩;have HP:ak (∀k,P (k+1)=P k++[⟨r.fo,nth (fW gs (a+k)) 0,wrap64 (nth L k+nth (fW gs (a+k)) 3),nth (fW gs (a+k)) 4⟩]):=⟨fun k=>by rw[<-hP,tI,<-hL];rfl⟩;have WH:ak (∀k,(P k).length=k):=⟨fun k=>by rw[<-hP];exact vN _ _ _ _ _ _⟩;have HP0:ak (P 0=[]):=⟨by rw[<-hP];rfl⟩;have HE:ak (ib f t r.lv r.fo gs a b=⟨f,t,r.lv,0,wrap64 (qA gs a m),P m⟩):=⟨by unfold ib;rw[hm,<-hP];rfl⟩;rw[HE.o];have OC:=sH (fun W (h:Dv W W.heap.size gs 0 n U)=>KQ gs U n v a b r.lv W h iN hb hn);rw[hm,HL.o]at OC;clear hr hP hL HL HE sj;obtain⟨M,aP⟩:=eX ((((w.alloc (.cells #[ae aj (qf:Int),ae aj (qt:Int),ae aj (qr:Int), .slice U n v,ae aj qw,ae aj qi,ae aj qe, .bool qb, .slice P0 pn pc] 63)).alloc (.cells r.row 58)).alloc (.cells #[ae aj 0,ae aj 0,ae aj 0,ae aj 0,ae aj 0, .slice none 0 0] 50)).alloc (.cells #[ae aj f,ae aj t,ae aj r.lv,ae aj 0,ae aj 0, .slice none 0 0] 50));obtain⟨l,nd⟩:∃p,w.heap.size=p:=⟨_,rfl⟩;have X0:ak (Bx M l #[ae aj (qf:Int),ae aj (qt:Int),ae aj (qr:Int), .slice U n v,ae aj qw,ae aj qi,ae aj qe, .bool qb, .slice P0 pn pc]):=⟨by rw[aP,<-nd];exact((((Bx.new _ _ _).ar (av _ _) (by simp)).ar (av _ _) (by simp<;>omega)).ar (av _ _) (by simp<;>omega))⟩;have X1:ak (Bx M (l+1) r.row):=⟨by rw[aP,<-nd];exact(((Bx.jt _ _ _ (by simp)).ar (av _ _) (by simp)).ar (av _ _) (by simp<;>omega))⟩;have X2:ak (jZ M (l+1+1) (ae aj 0) (ae aj 0) (ae aj 0) (ae aj 0) (ae aj 0) (.slice none 0 0)):=⟨by rw[aP,<-nd];exact jZ.alloc (oS _ _ _ _ _ _ _ _ (by simp)) _⟩;have X3:ak (Bx M (l+1+1+1) #[ae aj f,ae aj t,ae aj r.lv,ae aj 0,ae aj 0, .slice none 0 0]):=⟨Pz⟩;have B1:ak (Below w.heap.size w M):=⟨by rw[aP];exact((((av w _).alloc (by simp) _).alloc (by simp<;>omega) _).alloc (by simp<;>omega) _)⟩;have Z1:ak (M.heap.size=l+1+1+1+1):=⟨by rw[aP,<-nd];simp⟩;go_enter func71,ntmps71;go_upto_region 2 with fail;rw[<-aP];clear aP;have HP5:=sH nd;clear nd;have J:M.cell? ⟨l,3,none⟩=some (.slice U n v):=X0.o.cell 3;obtain⟨_,_,d2,_⟩:=X1.o.c6;have Z:=sH (OC.o M (R.o.Z B1.o B1.o.size));go_wp2_with fail;refine Z.o.mono ?_;rintro e z ⟨A,c,rfl,o2,O⟩;have Q2:=sH (GQ.new X3.o O o2);have fK:=O.size;have Y0:ak (Bx z l #[ae aj (qf:Int),ae aj (qt:Int),ae aj (qr:Int), .slice U n v,ae aj qw,ae aj qi,ae aj qe, .bool qb, .slice P0 pn pc]):=⟨X0.o.ar O Bj⟩;have Y1:ak (Bx z (l+1) r.row):=⟨X1.o.ar O Bj⟩;have Y2:ak (jZ z (l+1+1) (ae aj 0) (ae aj 0) (ae aj 0) (ae aj 0) (ae aj 0) (.slice none 0 0)):=⟨X2.o.ar O Bj⟩;have B2:=B1.t O;have Z2:ak (l+1+1+1<z.heap.size):=⟨by have:=Z1.o;omega⟩;clear o2 O OC Z X0 X1 X2 X3 J d2 fK;go_wp2;go_loopg [15,16] (m+1) (fun gg mw _ wr=>∃(k:Nat) (X:Int) (G:aC) (F:Nat),m-k<gg/\k<=m/\mw=ae aj ((a:Int)+k)/\ak (X=wrap64 (qA gs a k))/\ak (GQ (l+1+1+1) z wr f t r.lv X (P k) G F A L))
 ·exact⟨0,0,none,0,aq,aq,aD,⟨vP.symm⟩,⟨by rw[HP0.o];exact Q2.o⟩⟩
 obtain⟨k,X,G,F,hg,hk,rfl,HX,Q⟩:=hrel;have BW:ak (Below l z wr):=⟨Q.o.be.mono aq⟩;by_cases aH:k<m;rotate_left
 ·have i4:¬((a:Int)+k<(b:Int)):=by have:=HB.o;omega
  obtain rfl:k=m:=aq;obtain⟨q0,q1,q2,q3,q4,q5⟩:=Q.o.bx.lN;have R2:=sH (Y2.o.ar Q.o.be aq);have HR:ak (∀W':World,Below w.heap.size w W'->aB W' z.heap.size 86 4 G (P k).length F ((P k).flatMap iV)->PGb w ⟨f,t,r.lv,0,wrap64 (qA gs a k),P k⟩ (.returned (.agg #[ae aj f,ae aj t,ae aj r.lv,ae aj 0,ae aj X, .slice G (P k).length F])) W'):=⟨fun W' h1 h2=>⟨G,F,by rw[HX.o],aB.dU h2 (B2.o.size),h1⟩⟩;have O2:=sH Q.o.own;have BE:ak (Below w.heap.size w wr):=⟨B2.o.trans (BW.o.mono Bo)⟩;clear HX Q hg;go_wp2_with (refine wpList_store_row rfl 50 (.tmp 12) (.tmp 67) rfl (l+1+1) _ rfl rfl 50 _ R2.o mT aK (pJ _ _ _ _ _ _ _ _) ?_);refine bodyPost_ret (results_cell_row results71 _ _ (l+1+1) 50 _ (0,0) _ aK (setRow_heap _ _ _ _ _ _ R2.o) underlying50 rfl (by rw[mT];rfl)) rfl ?_;exact HR.o _ (below_setRow BE.o Bo _) (aB.ia O2.o (by have:=Z2.o;omega) _)
 have i4:(a:Int)+k<(b:Int):=vi;have BE:ak (Below w.heap.size w wr):=⟨B2.o.trans (BW.o.mono Bo)⟩;obtain⟨ad,B,x1,S,u,D,x5,x6,x7,x8,x9,eG,I,c0,c1,c2,J,c4,c5,c6,c7,c8,c9⟩:=(R.o.Z BE.o BE.o.size).ba (j:=a+k) vi;subst eG;rw[Nat.zero_add]at I;have zB:a+k<n:=vi;obtain⟨p,hp⟩:=eY (a+k);have pe:(a:Int)+(k:Int)=(p:Int):=aq;have HPk:ak (P (k+1)=P k++[⟨r.fo,B,wrap64 (nth L k+u),D⟩]):=⟨by rw[HP.o,I];rfl⟩;have HXk:ak (wrap64 (X+S)=wrap64 (qA gs a (k+1))):=⟨by show _=wrap64 (qA gs a k+nth (fW gs (a+k)) 2);rw[I,HX.o,lB];rfl⟩;rw[hp]at c0 c1 c2 J c4 c5 c6 c7 c8 c9 zB;have gI:=sH hg;have HPn:=sH hp;have hpa:(p:Int)-(a:Int)=(k:Int):=aq;clear I hg hp HX;obtain⟨W3,qY⟩:=eX ((wr:World).alloc (.cells #[ae aj B,ae aj x1,ae aj S,ae aj u,ae aj D,ae aj x5,ae aj x6,ae aj x7,ae aj x8,ae aj x9] 108));obtain⟨g0,_,g2,g3,g4,_⟩:=Bx.yh (qY▸Bx.new wr #[ae aj B,ae aj x1,ae aj S,ae aj u,ae aj D,ae aj x5,ae aj x6,ae aj x7,ae aj x8,ae aj x9] 108);have Q3:ak (GQ (l+1+1+1) z W3 f t r.lv X (P k) G F A L):=⟨by rw[qY];exact Q.o.ar (av _ _)⟩;have d3:wr.cell? ⟨l,3,none⟩=some (.slice (some ad) n v):=(Y0.o.ar Q.o.be aq).cell 3;go_upto_region 7 with fail;rw[<-qY];have Q4:=sH (Q3.o.ae5 (wrap64 (X+S)));have G3:ak (Bx W3 wr.heap.size #[ae aj B,ae aj x1,ae aj S,ae aj u,ae aj D,ae aj x5,ae aj x6,ae aj x7,ae aj x8,ae aj x9]):=⟨OJ⟩;have hgb:wr.heap.size≠l+1+1+1:=by have:=Z2.o;have:=Q.o.be.size;omega
 have G4:=sH (G3.o.iA hgb 4 (ae aj (wrap64 (X+S))));obtain⟨_,_,_,_,e4,_⟩:=Q3.o.bx.lN;have f4:=Q3.o.bx.fz 4;clear qY c0 c1 c2 J c4 c5 c6 c7 c8 c9 d3 g0 g3 g4 Q Q3 G3 hgb;go_upto_region 8 with fail;obtain⟨T,Jw⟩:=eY (W3.setCell ⟨l+1+1+1,4,none⟩ (ae aj (wrap64 (X+S))));rw[Jw]at Q4 G4⊢;clear e4 f4 g2 Jw;obtain⟨c0,_,_,J,c4,_⟩:=G4.o.yh;obtain⟨ga,eA,WX,_,e9⟩:=Q4.o.at_ k (by rw[HLn.o];exact aH);subst eA;have e1:T.cell? ⟨l+1+1+1,5,none⟩=some (.slice G k F):=ac';have e3:T.cell? ⟨l+1,4,none⟩=some (ae aj r.fo):=(Y1.o.ar Q4.o.be aq).cell 4;have OV:ak (aB T z.heap.size 86 4 G k F ((P k).flatMap iV)):=⟨by have:=Q4.o.own;rwa [WH.o k]at this⟩;have HPp:ak (iV ⟨r.fo,B,wrap64 (nth L k+u),D⟩=[ae aj r.fo,ae aj B,ae aj (wrap64 (nth L k+u)),ae aj D]):=⟨rfl⟩;have i6:=aR k m;generalize nth L k=y at*;generalize uJ:wr.heap.size=gq at*;clear uJ;have hk6:k<=100000:=aq;have yK:decide (p<b)=true:=by simp;have:=HB.o;have:=HPn.o;omega
 rw[pe,yK];have HPE:=sH pe;clear pe yK i4;refine ju (N:=21) (k0:=46) (m:=21) [some (.pointer (some ⟨l+1+1+1,5,none⟩)),some (.slice G k F),some (.pointer (some ⟨l+1,4,none⟩)),some (ae aj r.fo),some (.pointer (some ⟨gq,0,none⟩)),some (ae aj B),some (.slice (some ⟨ga,0,none⟩) m c),some (ae aj (p:Int)),some (ae aj (a:Int)),some (ae aj (k:Int)),some (.pointer (some ⟨ga,k,none⟩)),some (ae aj y),some (.pointer (some ⟨gq,3,none⟩)),some (ae aj u),some (ae aj (wrap64 (y+u))),some (.pointer (some ⟨gq,4,none⟩)),some (ae aj D),some (.agg #[ae aj r.fo,ae aj B,ae aj (wrap64 (y+u)),ae aj D]),none,none,some (.pointer (some ⟨l+1+1+1,5,none⟩))] 18 19 k [ae aj r.fo,ae aj B,ae aj (wrap64 (y+u)),ae aj D] T (fun A c W=>∃Wp,Below T.heap.size T Wp/\aB W z.heap.size 86 4 A (k+1) c ((P k).flatMap iV++iV ⟨r.fo,B,wrap64 (y+u),D⟩)/\Below z.heap.size Wp W) rfl aF rfl aF aq (Below.refl _ _) ?_ ?_
 ·intro j o Lf bu W hj ho q g i d a' ha K hK
  simp only[dm,fa,List.setIfInBounds_toArray,List.set_cons_succ,List.set_cons_zero,Nat.reduceAdd,Nat.add_zero]at ha;subst ha;have hj:j=0∨j=1∨j=2∨j=3∨j=4∨j=5∨j=6∨j=7∨j=8∨j=9∨j=10∨j=11∨j=12∨j=13∨j=14∨j=15∨j=16∨j=17∨j=18∨j=19∨j=20:=aq;have d0:=d.cI 0 _ rfl;have d1:=d.cI 1 _ rfl;have d2:=d.cI 2 _ rfl;have d3:=d.cI 3 _ rfl;have d4:=d.cI 4 _ rfl;have d5:=d.cI 5 _ rfl;have d6:=d.cI 6 _ rfl;have d7:=d.cI 7 _ rfl;have V:=d.cI 8 _ rfl;have d9:=d.cI 9 _ rfl;have d10:=d.cI 10 _ rfl;have d11:=d.cI 11 _ rfl;have d12:=d.cI 12 _ rfl;have Y:=d.cI 13 _ rfl;have d14:=d.cI 14 _ rfl;have d15:=d.cI 15 _ rfl;have d16:=d.cI 16 _ rfl;have H:=d.cI 17 _ rfl
  have v1:IntKind.i64.wrap (k:Int)=(k:Int):=by rw[IntKind.wrap_i64];omega
  have v2:IntKind.i64.wrap (y+u)=wrap64 (y+u):=XD;rcases hj with rfl|rfl|rfl|rfl|rfl|rfl|rfl|rfl|rfl|rfl|rfl|rfl|rfl|rfl|rfl|rfl|rfl|rfl|rfl|rfl|rfl
  all_goals(injection ho with ho;subst ho)
  all_goals(simp[Region.binds]at g)
  case' inr.inr.inr.inr.inr.inr.inr.inr.inr.inr.inr.inr.inr.inr.inr.inr.inr.inr.inr.inl=>
   obtain⟨b,eb,hc⟩:=d.box g.2 q;have BB:=d.pre q;have OV2:=aB.ar OV.o BB;have gM:z.heap.size<=W.heap.size:=by have:=BB.size;have:=Q4.o.be.size;omega
   simp only[d1 g.1,eb];refine wpOp_step rfl (fun K9 s=> ?_);refine jL (news:=[ae aj r.fo,ae aj B,ae aj (wrap64 (y+u)),ae aj D]) aao rfl (.tmp 47) (.tmp 64) rfl rfl OV2 rfl rfl hc (by rw[<-HPp.o];exact tp _) aq gM ?_;intro A5 c5 w5 o5 b5 g5 t5;refine s _ _ ?_;change K (Act.put _ (some 65) _) _;have E:=hK _ _ (d.app rfl ⟨W,BB,o5,b5⟩);simp only[Nat.reduceAdd,Act.put,List.setIfInBounds_toArray,List.set_cons_succ,List.set_cons_zero]at E
   try simp only[d1 g.1,eb]at E
   try simp only[Act.put,List.setIfInBounds_toArray,List.set_cons_succ,List.set_cons_zero]
   exact E
  case' inr.inr.inr.inr.inr.inr.inr.inr.inr.inr.inr.inr.inr.inr.inr.inr.inr.inr.inl=>
   have hp:=i.no (a:=19) q aF;simp only[H g];refine wpOp_step rfl (fun K9 s=> ?_);go_simp;refine s _ _ ?_
   skip
   have E:=hK _ _ (d.lay 86 rfl rfl bQ hp);simp only[Nat.reduceAdd,Act.put,List.setIfInBounds_toArray,List.set_cons_succ,List.set_cons_zero]at E
   try simp only[H g]at E
   try simp only[Act.put,List.setIfInBounds_toArray,List.set_cons_succ,List.set_cons_zero]
   exact E
  case' inr.inl=>
   have e1:=au e1 (d.pre (i.no (a:=19) q aF))
  case' inr.inr.inr.inl=>
   have e3:=au e3 (d.pre (i.no (a:=19) (i.no (a:=17) q aF) aF))
  case' inr.inr.inr.inr.inr.inl=>
   have c0:=au c0 (d.pre (i.no (a:=19) (i.no (a:=17) q aF) aF))
  case' inr.inr.inr.inr.inr.inr.inr.inr.inr.inr.inr.inl=>
   have e9:=au e9 (d.pre (i.no (a:=19) (i.no (a:=17) q aF) aF))
  case' inr.inr.inr.inr.inr.inr.inr.inr.inr.inr.inr.inr.inr.inl=>
   have J:=au J (d.pre (i.no (a:=19) (i.no (a:=17) q aF) aF))
  case' inr.inr.inr.inr.inr.inr.inr.inr.inr.inr.inr.inr.inr.inr.inr.inr.inl=>
   have c4:=au c4 (d.pre (i.no (a:=19) (i.no (a:=17) q aF) aF))
  all_goals
   try simp only[d0,d1,d2,d3,d4,d5,d6,d7,V,d9,d10,d11,d12,Y,d14,d15,d16,H,g]
   refine wpOp_step rfl (fun K9 s=> ?_);go_simp
   try rw[v1]
   try rw[v2]
   refine s _ _ ?_
   skip
   have E:=hK _ _ (d.pure rfl bQ bQ);simp only[Nat.reduceAdd,Act.put,List.setIfInBounds_toArray,List.set_cons_succ,List.set_cons_zero]at E
   try simp only[d0,d1,d2,d3,d4,d5,d6,d7,V,d9,d10,d11,d12,Y,d14,d15,d16,H,g]at E
   try simp only[Act.put,List.setIfInBounds_toArray,List.set_cons_succ,List.set_cons_zero]
   exact E
 ·intro Lf bu W C d a' ha
  simp only[dm,fa,List.setIfInBounds_toArray,List.set_cons_succ,List.set_cons_zero,Nat.reduceAdd,Nat.add_zero]at ha;subst ha;obtain⟨A5,c5,xq,Wp,bp,o5,b5⟩:=d.post (C 19 aq);have V:=d.cI 20 _ rfl (C 20 aq);simp only[V,xq];have Q5:=sH (Q4.o.push bp (by rw[WH.o k];exact o5) b5);rw[WH.o k,<-HPk.o]at Q5;have BX:=(Q4.o.ar bp).bx.ar b5 Q4.o.lt;have r5:=BX.cell 5;have f5:=BX.fz 5;clear BX bp o5 b5 V xq C d c0 e1 e3 J c4 e9;have pe1:(p:Int)+1=(a:Int)+((k+1:Nat):Int):=by have:=HPE.o;omega
  refine wpOp_step rfl (fun K9 s=> ?_);go_simp;refine s _ _ ?_;go_wp2;go_roundg (m-k)
  ·exact⟨k+1,_,A5,c5,aq,aq,aQ,HXk,Q5⟩
  have:=gI.o;omega
def ZEq(u:Value):Sat:=⟨fun v _=>v=u,fun v w a h _=>h⟩
theorem Lo(gs:List aE)(Y:aC)(m U a:Nat)(r:Rn)(w:World)(h:Dv w w.heap.size gs a m Y)(hn:m<=100000)(S:a<=100000)(ht:aar gs a m):Calls prog 64 #[.slice Y m U,ae aj (a:Int), .agg r.row] w (PGb w (ib 0 0 r.lv r.fo gs a (a+m))):=by
 have R:=sH h;obtain⟨L,hL⟩:=eY (tg gs a m (sq r.lv));have HL:=sH hL;have HLn:ak (L.length=m):=⟨by rw[<-hL];exact zr _ _ _ _⟩;obtain⟨P,hP⟩:∃P:Nat->List gN,ti r.fo gs a m (sq r.lv)=P:=⟨_,rfl⟩;have HP:ak (∀k,P (k+1)=P k++[⟨r.fo,nth (fW gs (a+k)) 0,wrap64 (nth L k+nth (fW gs (a+k)) 3),nth (fW gs (a+k)) 4⟩]):=⟨fun k=>by rw[<-hP,tI,<-hL];rfl⟩;have WH:ak (∀k,(P k).length=k):=⟨fun k=>by rw[<-hP];exact vN _ _ _ _ _ _⟩;have HP0:ak (P 0=[]):=⟨by rw[<-hP];rfl⟩;obtain⟨X,hX⟩:=eY (wrap64 (qA gs a m));have HE:ak (ib 0 0 r.lv r.fo gs a (a+m)=⟨0,0,r.lv,0,X,P m⟩):=⟨by unfold ib;rw[Nat.add_sub_cancel_left,<-hP,hX];rfl⟩;rw[HE.o];have OC:=sH (fun W (h:Dv W W.heap.size gs a m Y)=>NC gs Y m U a r.lv W h hn S ht);have WC:=sH (fun W (h:Dv W W.heap.size gs a m Y)=>TP gs Y m U a W h hn);rw[hX]at WC;rw[HL.o]at OC;clear h ht hP hL HL HE hX;obtain⟨F,aP⟩:=eX ((w.alloc (.cells r.row 58)).alloc (.cells #[ae aj 0,ae aj 0,ae aj 0,ae aj 0,ae aj 0, .slice none 0 0] 50));obtain⟨u,nd⟩:∃p,w.heap.size=p:=⟨_,rfl⟩;have X1:ak (Bx F u r.row):=⟨Pg⟩;have X2:ak (jZ F (u+1) (ae aj 0) (ae aj 0) (ae aj 0) (ae aj 0) (ae aj 0) (.slice none 0 0)):=⟨by rw[aP,<-nd];exact oS _ _ _ _ _ _ _ _ (by simp)⟩;have B1:ak (Below w.heap.size w F):=⟨JH⟩;have Z1:ak (F.heap.size=u+1+1):=⟨by rw[aP,<-nd];simp⟩;go_enter func64,ntmps64;go_upto_region 1 with fail;rw[<-aP];clear aP;have HP5:=sH nd;clear nd;obtain⟨_,_,O,_⟩:=X1.o.c6;have K0:=aw O;have WC1:=sH (fun x:aI F=>WC.o x.1 ((R.o.Z B1.o B1.o.size).Z x.2 x.2.size));clear O;refine aT (fun d=>if d=some 14 then some (ZEq (ae aj X))else if d=some 7 then some (ZX F.heap.size #[ae aj 0,ae aj 0,ae aj 0,ae aj 0,ae aj 0, .slice none 0 0])else none) 6 rfl aF aF aF aF aF rfl ?_;refine mLw ?_;refine lwA (ZEq (ae aj X)) (fun x=> ?_) (fun v9 V=> ?_)
 ·go_simp
  exact aW (ZEq (ae aj X)) ((WC1.o x).mono fun e w5 ⟨h1,h2⟩=>⟨_,h1,rfl,h2⟩)
 obtain⟨_,_,rfl⟩:=V;simp[Act.put];refine mLw ?_;refine lwA (ZX F.heap.size #[ae aj 0,ae aj 0,ae aj 0,ae aj 0,ae aj 0, .slice none 0 0]) (fun x=> ?_) (fun v9 V=> ?_)
 ·go_simp
  exact DG x _ _
 obtain⟨_,_,g,rfl,ef,_⟩:=V;simp[Act.put];intro x hE;have T:=ZX.get hE.2;obtain⟨ee,zO⟩:=T.heap;clear hE K0;refine wp_store_row 50 (.tmp 7) (.tmp 15) rfl g _ rfl rfl ee _ zO aF rfl dK ?_;have X3:=sH (T.row (ds:= #[ae aj 0,ae aj 0,ae aj r.lv,ae aj 0,ae aj X, .slice none 0 0]));obtain⟨w3,H⟩:=eX (x.1.setRow g #[ae aj 0,ae aj 0,ae aj r.lv,ae aj 0,ae aj X, .slice none 0 0]);have B3:ak (Below F.heap.size F w3):=⟨by rw[H];exact below_setRow x.2 ef _⟩;rw[<-H]at X3;rw[<-H];clear H T zO;have hgp:u+1<g:=by have:=Z1.o;omega
 have J4:=B3.o.size;have M:=B1.t B3.o;have X5:ak (Bx w3 u r.row):=⟨X1.o.ar B3.o Bj⟩;have X6:ak (jZ w3 (u+1) (ae aj 0) (ae aj 0) (ae aj 0) (ae aj 0) (ae aj 0) (.slice none 0 0)):=⟨X2.o.ar B3.o Bj⟩;have OC1:=sH (OC.o w3 (R.o.Z M.o M.o.size));obtain⟨_,_,O,_⟩:=X5.o.c6;clear J4 OC WC WC1 X1 X2 B1 ef B3 Z1;go_wp2_with fail;refine OC1.o.mono ?_;rintro e J ⟨A,c,rfl,o2,b2⟩;have Q2:=sH (GQ.new X3.o b2 o2);have Y1:=sH (X5.o.ar b2 X5.o.lt);have Y2:=sH (X6.o.ar b2 X6.o.lt);have B2:=M.t b2;have Z2:=sH Q2.o.lt;clear o2 b2 OC1 X3 X5 X6 O M;go_wp2;go_loopg [9,10,23] (m+1) (fun gg _ _ v23 wr=>∃(k:Nat) (G:aC) (C:Nat),m-k<gg/\k<=m/\v23=ae aj (k:Int)/\ak (GQ g J wr 0 0 r.lv X (P k) G C A L))
 ·exact⟨0,none,0,aq,aq,rfl,⟨by rw[HP0.o];exact Q2.o⟩⟩
 obtain⟨k,G,C,hg,hk,rfl,Q⟩:=hrel;have BW:ak (Below u J wr):=⟨Q.o.be.mono aq⟩;have BE:ak (Below w.heap.size w wr):=⟨B2.o.trans (BW.o.mono Bo)⟩;by_cases aH:k<m;rotate_left
 ·have i4:=cF k m
  obtain rfl:k=m:=aq;obtain⟨q0,q1,q2,q3,q4,q5⟩:=Q.o.bx.lN;have R2:=sH (Y2.o.ar Q.o.be aq);have HR:ak (∀W':World,Below w.heap.size w W'->aB W' J.heap.size 86 4 G (P k).length C ((P k).flatMap iV)->PGb w ⟨0,0,r.lv,0,X,P k⟩ (.returned (.agg #[ae aj 0,ae aj 0,ae aj r.lv,ae aj 0,ae aj X, .slice G (P k).length C])) W'):=⟨fun W' h1 h2=>⟨G,C,rfl,aB.dU h2 (B2.o.size),h1⟩⟩;have O2:=sH Q.o.own;clear Q hg;go_wp2_with (refine wpList_store_row rfl 50 (.tmp 6) (.tmp 48) rfl (u+1) _ rfl rfl 50 _ R2.o mT aK (pJ _ _ _ _ _ _ _ _) ?_);refine bodyPost_ret (results_cell_row results64 _ _ (u+1) 50 _ (0,0) _ aK (setRow_heap _ _ _ _ _ _ R2.o) underlying50 rfl (by rw[mT];rfl)) rfl ?_;exact HR.o _ (below_setRow BE.o Bo _) (aB.ia O2.o (by have:=Z2.o;omega) _)
 have i6:=aR k m;obtain⟨ad,z,x1,x2,s,B,x5,x6,x7,x8,x9,eG,iy,c0,c1,c2,c3,c4,c5,c6,c7,c8,c9⟩:=(R.o.Z BE.o BE.o.size).ba aH;subst eG;have HPk:ak (P (k+1)=P k++[⟨r.fo,z,wrap64 (nth L k+s),B⟩]):=⟨by rw[HP.o,iy];rfl⟩;have gI:=sH hg;clear iy hg;obtain⟨I,D⟩:=eX ((wr:World).alloc (.cells #[ae aj z,ae aj x1,ae aj x2,ae aj s,ae aj B,ae aj x5,ae aj x6,ae aj x7,ae aj x8,ae aj x9] 108));have Q4:ak (GQ g J I 0 0 r.lv X (P k) G C A L):=⟨by rw[D];exact Q.o.ar (av _ _)⟩;have G4:ak (Bx I wr.heap.size #[ae aj z,ae aj x1,ae aj x2,ae aj s,ae aj B,ae aj x5,ae aj x6,ae aj x7,ae aj x8,ae aj x9]):=⟨by rw[D];exact Bx.new _ _ _⟩;go_upto_region 6 with fail;rw[<-D];clear D c0 c1 c2 c3 c4 c5 c6 c7 c8 c9 Q;obtain⟨c0,_,_,c3,c4,_⟩:=G4.o.yh;obtain⟨ga,eA,WX,_,e9⟩:=Q4.o.at_ k (by rw[HLn.o];exact aH);subst eA;have e1:I.cell? ⟨g,5,none⟩=some (.slice G k C):=ac';have e3:I.cell? ⟨u,4,none⟩=some (ae aj r.fo):=(Y1.o.ar Q4.o.be aq).cell 4;have OV:ak (aB I J.heap.size 86 4 G k C ((P k).flatMap iV)):=⟨by have:=Q4.o.own;rwa [WH.o k]at this⟩;have HPp:ak (iV ⟨r.fo,z,wrap64 (nth L k+s),B⟩=[ae aj r.fo,ae aj z,ae aj (wrap64 (nth L k+s)),ae aj B]):=⟨rfl⟩;generalize nth L k=y at*;generalize uJ:wr.heap.size=gq at*;clear uJ;have hk6:k<=100000:=aq;refine ju (N:=19) (k0:=28) (m:=19) [some (.pointer (some ⟨g,5,none⟩)),some (.slice G k C),some (.pointer (some ⟨u,4,none⟩)),some (ae aj r.fo),some (.pointer (some ⟨gq,0,none⟩)),some (ae aj z),some (.slice (some ⟨ga,0,none⟩) m c),some (ae aj (k:Int)),some (.pointer (some ⟨ga,k,none⟩)),some (ae aj y),some (.pointer (some ⟨gq,3,none⟩)),some (ae aj s),some (ae aj (wrap64 (y+s))),some (.pointer (some ⟨gq,4,none⟩)),some (ae aj B),some (.agg #[ae aj r.fo,ae aj z,ae aj (wrap64 (y+s)),ae aj B]),none,none,some (.pointer (some ⟨g,5,none⟩))] 16 17 k [ae aj r.fo,ae aj z,ae aj (wrap64 (y+s)),ae aj B] I (fun A c W=>∃Wp,Below I.heap.size I Wp/\aB W J.heap.size 86 4 A (k+1) c ((P k).flatMap iV++iV ⟨r.fo,z,wrap64 (y+s),B⟩)/\Below J.heap.size Wp W) rfl aF rfl aF aq (Below.refl _ _) ?_ ?_
 ·intro j o Lf bu W hj ho n i l f a' S K hK
  simp only[dm,fa,List.setIfInBounds_toArray,List.set_cons_succ,List.set_cons_zero,Nat.reduceAdd,Nat.add_zero]at S;subst S;have hj:j=0∨j=1∨j=2∨j=3∨j=4∨j=5∨j=6∨j=7∨j=8∨j=9∨j=10∨j=11∨j=12∨j=13∨j=14∨j=15∨j=16∨j=17∨j=18:=aq;have d0:=f.cI 0 _ rfl;have d1:=f.cI 1 _ rfl;have O:=f.cI 2 _ rfl;have d3:=f.cI 3 _ rfl;have d4:=f.cI 4 _ rfl;have d5:=f.cI 5 _ rfl;have d6:=f.cI 6 _ rfl;have d7:=f.cI 7 _ rfl;have Z:=f.cI 8 _ rfl;have d9:=f.cI 9 _ rfl;have d10:=f.cI 10 _ rfl;have d11:=f.cI 11 _ rfl;have d12:=f.cI 12 _ rfl;have d13:=f.cI 13 _ rfl;have d14:=f.cI 14 _ rfl;have E:=f.cI 15 _ rfl
  have v2:IntKind.i64.wrap (y+s)=wrap64 (y+s):=XD;rcases hj with rfl|rfl|rfl|rfl|rfl|rfl|rfl|rfl|rfl|rfl|rfl|rfl|rfl|rfl|rfl|rfl|rfl|rfl|rfl
  all_goals(injection ho with ho;subst ho)
  all_goals(simp[Region.binds]at i)
  case' inr.inr.inr.inr.inr.inr.inr.inr.inr.inr.inr.inr.inr.inr.inr.inr.inr.inl=>
   obtain⟨b,eb,hc⟩:=f.box i.2 n;have BB:=f.pre n;have OV2:=aB.ar OV.o BB;have gM:J.heap.size<=W.heap.size:=by have:=BB.size;have:=Q4.o.be.size;omega
   simp only[d1 i.1,eb];refine wpOp_step rfl (fun K9 q=> ?_);refine jL (news:=[ae aj r.fo,ae aj z,ae aj (wrap64 (y+s)),ae aj B]) aao rfl (.tmp 29) (.tmp 44) rfl rfl OV2 rfl rfl hc (by rw[<-HPp.o];exact tp _) aq gM ?_;intro A5 c5 w5 o5 b5 g5 t5;refine q _ _ ?_;change K (Act.put _ (some 45) _) _;have v:=hK _ _ (f.app rfl ⟨W,BB,o5,b5⟩);simp only[Nat.reduceAdd,Act.put,List.setIfInBounds_toArray,List.set_cons_succ,List.set_cons_zero]at v
   try simp only[d1 i.1,eb]at v
   try simp only[Act.put,List.setIfInBounds_toArray,List.set_cons_succ,List.set_cons_zero]
   exact v
  case' inr.inr.inr.inr.inr.inr.inr.inr.inr.inr.inr.inr.inr.inr.inr.inr.inl=>
   have hp:=l.no (a:=17) n aF;simp only[E i];refine wpOp_step rfl (fun K9 q=> ?_);go_simp;refine q _ _ ?_
   skip
   have v:=hK _ _ (f.lay 86 rfl rfl bQ hp);simp only[Nat.reduceAdd,Act.put,List.setIfInBounds_toArray,List.set_cons_succ,List.set_cons_zero]at v
   try simp only[E i]at v
   try simp only[Act.put,List.setIfInBounds_toArray,List.set_cons_succ,List.set_cons_zero]
   exact v
  case' inr.inl=>
   have e1:=au e1 (f.pre (l.no (a:=17) n aF))
  case' inr.inr.inr.inl=>
   have e3:=au e3 (f.pre (l.no (a:=17) (l.no (a:=15) n aF) aF))
  case' inr.inr.inr.inr.inr.inl=>
   have c0:=au c0 (f.pre (l.no (a:=17) (l.no (a:=15) n aF) aF))
  case' inr.inr.inr.inr.inr.inr.inr.inr.inr.inl=>
   have e9:=au e9 (f.pre (l.no (a:=17) (l.no (a:=15) n aF) aF))
  case' inr.inr.inr.inr.inr.inr.inr.inr.inr.inr.inr.inl=>
   have c3:=au c3 (f.pre (l.no (a:=17) (l.no (a:=15) n aF) aF))
  case' inr.inr.inr.inr.inr.inr.inr.inr.inr.inr.inr.inr.inr.inr.inl=>
   have c4:=au c4 (f.pre (l.no (a:=17) (l.no (a:=15) n aF) aF))
  all_goals
   try simp only[d0,d1,O,d3,d4,d5,d6,d7,Z,d9,d10,d11,d12,d13,d14,E,i]
   refine wpOp_step rfl (fun K9 q=> ?_);go_simp
   try rw[v2]
   refine q _ _ ?_
   skip
   have v:=hK _ _ (f.pure rfl bQ bQ);simp only[Nat.reduceAdd,Act.put,List.setIfInBounds_toArray,List.set_cons_succ,List.set_cons_zero]at v
   try simp only[d0,d1,O,d3,d4,d5,d6,d7,Z,d9,d10,d11,d12,d13,d14,E,i]at v
   try simp only[Act.put,List.setIfInBounds_toArray,List.set_cons_succ,List.set_cons_zero]
   exact v
 ·intro Lf bu W t f a' S
  simp only[dm,fa,List.setIfInBounds_toArray,List.set_cons_succ,List.set_cons_zero,Nat.reduceAdd,Nat.add_zero]at S;subst S;obtain⟨A5,c5,xq,Wp,bp,o5,b5⟩:=f.post (t 17 aq);have Z:=f.cI 18 _ rfl (t 18 aq);simp only[Z,xq];have Q5:=sH (Q4.o.push bp (by rw[WH.o k];exact o5) b5);rw[WH.o k,<-HPk.o]at Q5;have M:=(Q4.o.ar bp).bx.ar b5 Q4.o.lt;have r5:=M.cell 5;have f5:=M.fz 5;clear M bp o5 b5 Z xq t f c0 e1 e3 c3 c4 e9;refine wpOp_step rfl (fun K9 q=> ?_);go_simp;refine q _ _ ?_;go_wp2;go_roundg (m-k)
  ·exact⟨k+1,A5,c5,aq,aq,aQ,Q5⟩
  have:=gI.o;omega
section
variable {P : Program} {w : World} {o : Oper} {a : Act} {R : Exit -> Act -> World -> Prop} {t e : TypeId} {size bytes : Nat}
theorem Ar{K:Act->World->Prop}(T:aS P t e size bytes)(s x:Operand)
 (X:o.op= .call {callee:= .builtin .append,args:= #[s,x],argTypes:= #[t,t]}) {B:Nat} {A:aC} {n c:Nat} {vs:List Value} (M:a.eval s= .slice A n c) (f:aB w B e size A n c vs)
 {C:aC} {m d:Nat} {news:List Value} (O:a.eval x= .slice C m d) (V:ph w C m news) (hl:news.length=m*size) (h1:∀u∈news,u.oneCell'=true)
 (hn:(n+m)*bytes<=140737488355328) (Z:B<=w.heap.size)
 (h:∀r c' q,aB q B e size r (n+m) c' (vs++news)->Below B w q->(q=w∨w.grownBy q (Value.slice A n c).ownBlock)->K (a.put o.dst (.slice r (n+m) c')) q):o.wp P a w K R:=by
 obtain⟨i,z,Y,hz,y,H,J⟩:=T.info;have E:=T.zG;have tD:n+m<=140737488355328:=by
  have h2:(n+m)*1<=(n+m)*bytes:=Nat.mul_le_mul_left _ E;omega
 cases C with
 |none=>
  obtain rfl:m=0:=by
   rcases Nat.eq_zero_or_pos m with l|l
   ·exact l
   ·obtain⟨_,D,_⟩:=V l;cases D
  obtain rfl:news=[]:=List.eq_nil_of_length_eq_zero Be;have v:=run_append_nothing (P:=P) w t t o.type e i T.ht Y A n c (aB.le f) (.slice none 0 d) (Src.ofNil (size:=i.size) (w:=w) T.ht d);unfold Oper.wp execOp;simp only[X,resolve,invoke,builtin,Sem.run_bind,Sem.run_pure,Result.andThen_ok,List.map_toArray,List.map_cons,List.map_nil,M,O,v];have:=h A c w (by simpa using f) (Below.refl _ _) (.inl rfl);simp only[Nat.add_zero]at this;exact this
 |some ad=>
  obtain⟨v',q,hr,k,U,_,_⟩:=run_append_own_at (P:=P) w B t o.type e i z size bytes T.ht Y hz y H J T.pos (.slice A n c) n _ f ad m d news hl (fun j u N=>by
   have hj:=(List.getElem?_eq_some_iff.1 N).1;obtain⟨I,D,hc⟩:=V (by
    rcases Nat.eq_zero_or_pos m with l|l
    ·subst l;omega
    ·exact l)
   obtain rfl:ad=I:=Option.some.inj D;exact hc j u N) h1 pN hn Z
  unfold Oper.wp execOp;simp only[X,resolve,invoke,builtin,Sem.run_bind,Sem.run_pure,Result.andThen_ok,List.map_toArray,List.map_cons,List.map_nil,M,O,hr];obtain⟨r,c',rfl⟩:∃r c',v'= .slice r (n+m) c':=by
   rcases k.2 with⟨G,l⟩|⟨g,cap,cur,G,_⟩
   ·exact⟨none,0,by rw[G,l]⟩
   ·exact⟨_,_,G⟩
  exact h r c' q k (aB.dq f U Z) (.inr U)
end
theorem iD.abw{w f:World}{c n c':Nat}{m i:aC}{ps qs:List BoxM}(h:iD w B A c ps)(k:iD w B m n qs)(l:aB f B 50 6 i (ps.length+qs.length) c' (ps.flatMap jD++qs.flatMap jD))(g:f=w∨w.grownBy f (Value.slice A ps.length c).ownBlock):iD f B i c' (ps++qs):=by
 refine⟨?_,fun q d=> ?_⟩
 ·rw[List.length_append,List.flatMap_append]
  exact l
 ·have j:∀q:BoxM,gv w B q.2.1 q.2.2 q.1.gs->gv f B q.2.1 q.2.2 q.1.gs:=fun q k=>by
   rcases g with rfl|g
   ·exact k
   ·exact aB.kept k g (bZ k h.row bQ) (aB.dN h.row)
  rw[List.mem_append]at d;rcases d with d|d
  ·exact j q (h.gl q d)
  ·exact j q (k.gl q d)
theorem iH(p:BoxM):∀u∈jD p,u.oneCell'=true:=by
 intro u d;simp[jD]at d;rcases d with rfl|rfl|rfl|rfl|rfl|rfl<;>rfl
theorem aB.FB{w:World}{n c size:Nat}{e:TypeId}{vs:List Value}(h:aB w B e size A n c vs):ph w A n vs:=fun f=>by
 obtain⟨g,rfl,_,_⟩:=aB.form h f;refine⟨_,rfl,fun j u d=> ?_⟩;have i:=(List.getElem?_eq_some_iff.1 d).1;rw[bB,aB.cellAt h j (by rw[<-h.1];exact i),d]
def Cf(w:World)(d:List bP)(e:Ending)(f:World):Prop:=∃(A:aC) (c:Nat) (ps:List BoxM),e= .returned (.slice A d.length c)/\iD f w.heap.size A c ps/\ps.map (·.1)=d/\aA w f
variable {P : Program} {ops : Array Oper} {Q : Exit -> Act -> World -> Prop}
structure yx(T:List (Option Value))(c b p:Nat)(S:Value->World->Prop)(R:Value->List Value)(w2:World)(F:Value->World->Prop)(L:Nat->Bool)(bu:Nat->Value)(W:World):Prop where
 cI:∀k v,T[k]? =some (some v)->L k=true->bu k=v
 pre:L p=false->aA w2 W
 cal:L c=true->L p=false->S (bu c) W
 box:L b=true->L p=false->∃d:Nat,bu b= .slice (some ⟨d,0,none⟩) 1 1/\∀j u,(R (bu c))[j]? =some u->W.cell? ⟨d,j,none⟩=some u
 post:L p=true->F (bu p) W
section
variable {T : List (Option Value)} {c b p : Nat} {S : Value -> World -> Prop} {R : Value -> List Value} {w2 W W' : World} {F : Value -> World -> Prop} {L : Nat -> Bool} {bu : Nat -> Value}
theorem iY{i k:Nat}{v:Value}(h:k≠i):nE bu i v k=bu k:=by unfold nE;rw[if_neg h]
theorem qB{i:Nat}{v:Value}:nE bu i v i=v:=by unfold nE;rw[if_pos rfl]
theorem yx.start(h:aA w2 W):yx T c b p S R w2 F (fun _=>false) bu W:=⟨fun _ _ _ h=>gO,fun _=>h,fun h=>gO,fun h=>gO,fun h=>gO⟩
theorem yx.pure(h:yx T c b p S R w2 F L bu W){i:Nat}{v:Value}(q:T[i]? =some (some v))(j:i≠c)(m:i≠b)(n:i≠p):yx T c b p S R w2 F (fun k=>k==i||L k) (nE bu i v) W:=by
 have s:(c==i)=false:=by simpa using Ne.symm j
 have r:(b==i)=false:=by simpa using Ne.symm m
 have g:(p==i)=false:=by simpa using Ne.symm n
 refine⟨fun k u f hk=> ?_,fun d=>h.pre (by simpa[g]using d),fun d l=> ?_,fun d l=> ?_,fun d=> ?_⟩
 ·by_cases nB:k=i
  ·subst nB
   rw[qB];rw[q]at f;injection f with f
   injection f
  ·rw[iY nB]
   have:(k==i)=false:=yE;exact h.cI k u f yz
 ·rw[iY (Ne.symm j)]
  exact h.cal (by simpa[s]using d) (by simpa[g]using l)
 ·rw[iY (Ne.symm m),iY (Ne.symm j)]
  exact h.box (by simpa[r]using d) (by simpa[g]using l)
 ·rw[iY (Ne.symm n)]
  exact h.post (by simpa[g]using d)
theorem yx.call(h:yx T c b p S R w2 F L bu W){v:Value}(r:T[c]? =some none)(l:c≠b)(i:c≠p)(g:L b=false)(d:L p=false)(n:S v W')(m:aA W W'):yx T c b p S R w2 F (fun k=>k==c||L k) (nE bu c v) W':=by
 have q:(b==c)=false:=by simpa using Ne.symm l
 have s:(p==c)=false:=by simpa using Ne.symm i
 refine⟨fun k u j hk=> ?_,fun f=>(h.pre d).trans (m.mono (h.pre d).size),fun _ _=> ?_,fun f=> ?_,fun f=> ?_⟩
 ·by_cases nB:k=c
  ·subst nB;rw[r]at j;simp at j
  ·rw[iY nB]
   have:(k==c)=false:=yE;exact h.cI k u j yz
 ·rw[qB];exact n
 ·rw[q,g]at f;cases f
 ·rw[s,d]at f;cases f
theorem yx.lay(h:yx T c b p S R w2 F L bu W)(q:∀v W W',S v W->aA W W'->S v W'){cs:Array Value}(t:TypeId)(i:cs=(R (bu c)).toArray)(s:T[b]? =some none)(f:c≠b)(l:b≠p)(m:L c=true)(g:L p=false):yx T c b p S R w2 F (fun k=>k==b||L k) (nE bu b (.slice (some ⟨W.heap.size,0,none⟩) 1 1)) (W.alloc (.cells cs t)):=by
 have r:(p==b)=false:=by simpa using Ne.symm l
 refine⟨fun k u d hk=> ?_,fun n=>(h.pre g).alloc (h.pre g).size _,fun _ _=> ?_,fun _ _=>⟨_,qB,fun j u d=> ?_⟩,fun n=>by rw[r,g]at n;cases n⟩
 ·by_cases nB:k=b
  ·subst nB;rw[s]at d;simp at d
  ·rw[iY nB]
   have:(k==b)=false:=yE;exact h.cI k u d yz
 ·rw[iY f]
  exact q _ _ _ (h.cal m g) (av _ _)
 ·rw[iY f]at d
  rw[cell_of_row _ _ _ _ _ _ (heap_alloc_new W _),i];simpa using d
theorem yx.app(h:yx T c b p S R w2 F L bu W){v:Value}(j:T[p]? =some none)(g:F v W'):yx T c b p S R w2 F (fun k=>k==p||L k) (nE bu p v) W':=by
 refine⟨fun k u d hk=> ?_,fun i=>by simp at i,fun _ f=>by simp at f,fun _ f=>by simp at f,fun _=>by rw[qB];exact g⟩;by_cases nB:k=p
 ·subst nB;rw[j]at d;simp at d
 ·rw[iY nB]
  have:(k==p)=false:=yE;exact h.cI k u d yz
theorem kz{s N k0:Nat}{a:Act}{w:World}(T:List (Option Value))(c b p:Nat)(S:Value->World->Prop)(R:Value->List Value)(w2:World)(F:Value->World->Prop)(D:P.follows .mixedOrders=true)(x:fG ops=true)(r:ops.size=N+1)(u:gE ops N=true)(y:N<=m)(z:aA w2 w)
 (f:∀i o L bu W,i<N->ops[i]? =some o->L i=false->o.after.all (fun e=> !Region.binds .any e||L e.on)=true->JQ ops L->yx T c b p S R w2 F L bu W->∀d,d=dm a k0 m bu->∀K:Act->World->Prop,(∀v W',yx T c b p S R w2 F (fun k=>k==i||L k) (nE bu i v) W'->K (d.put (some (k0+i)) v) W')->wpOp P ops Q i K d W)
 (h:∀L bu W,(∀i,i<N->L i=true)->yx T c b p S R w2 F L bu W->∀d,d=dm a k0 m bu->wpOp P ops Q N (fun a w=>Q .normal a w) d W):(Code.region s ops true).wp P Q a w:=by
 refine jJ D x r u (fun L d W=>∃bu,yx T c b p S R w2 F L bu W/\d=dm a k0 m bu) ⟨fun k=>a.tmps.getD (k0+k) undef,yx.start z.drew, ?_⟩ ?_ ?_
 ·unfold dm
  rw[lC]
 ·rintro i o L d W B A n j l ⟨bu,q,ha⟩
  exact f i o L bu W B A n j l q d ha _ fun v W' C=>⟨_,C,Ph⟩
 ·rintro L d W g ⟨bu,q,ha⟩
  exact h L bu W g q d ha
end
theorem tS(l:aE):∀z,kG l z<=z
 |0=>by rw[po];omega
 |z+1=>by
  cases h:lT l z
  ·rw[qg h];have:=tS l z;omega
  ·rw[mW h];omega
theorem tL(l:aE){z:Nat}(h:0<z):kG l z<z:=by
 obtain⟨k,rfl⟩:∃k,z=k+1:=⟨z-1,aq⟩;cases h:lT l k
 ·rw[qg h];have:=tS l k;omega
 ·rw[mW h];omega
theorem mY(ts:aE)(f:Int)(m z:Nat)(a:z<=m):hU ts f m z=if(kG (ks ts) z:Int)<=f then z else if gu ts (kG (ks ts) z) (z-kG (ks ts) z)=true then z else hU ts f (m-1) (kG (ks ts) z):=by
 cases m with
 |zero=>
  obtain rfl:z=0:=aq;show 0=_;rw[po];split
  ·rfl
  ·simp[gu,hU]
 |succ m=>rfl
theorem sW(ts:aE)(f:Int):∀m z,hU ts f m z<=z
 |0,z=>Nat.le_refl _
 |m+1,z=>by
  unfold hU;split
  ·exact Nat.le_refl _
  ·split
   ·exact Nat.le_refl _
   ·exact Nat.le_trans (sW ts f m _) (tS _ _)
theorem yf{ts:aE}{k:Nat}:∀{m n:Nat},m<=n->gu ts k m=true->gu ts k n=true
 |0,_,_,h=>by simp[gu]at h
 |m+1,0,h,_=>by omega
 |m,n+1,h,e=>by
  rcases Nat.eq_or_lt_of_le h with rfl|h
  ·exact e
  ·unfold gu;rw[yf (m:=m) (n:=n) aq e];rfl
theorem Aq{ts:aE}{f t:Nat}:∀{k:Nat},f+k<=t->gu ((ts.take t).drop f) 0 k=gu ts f k
 |0,_=>rfl
 |k+1,h=>by
  unfold gu;rw[Aq (k:=k) aq]
  congr 2
  unfold nth;simp only[List.getD_eq_getElem?_getD,List.getElem?_drop,List.getElem?_take];rw[if_pos aq,Nat.zero_add]
def aco(w:World)(b:Bool)(e:Ending)(a:World):Prop:=∃z:Int,e= .returned (ae aj z)/\decide (0<=z)=b/\aA w a
theorem zN(A:aC)(n c:Nat)(xs:aE)(w:World)(h:aL .i32 w A n c xs)(q:Laid w)(D:n<=100000):Calls prog 256 #[.slice A n c, .func (.func 200) #[] #[]] w (aco w (gu xs 0 n)):=by
 have R:=sH h;have r:=sH q;have x:∀args w,(callFunc 200 args).run prog w= .ok (.enter 200 args) w:=fun args w=>by
  first|rfl|(simp[callFunc,go_sem])
 go_enter func256,ntmps256;go_wp2;go_loopg [8] (n+1) (fun gg v wr=>∃i:Nat,n-i<gg/\i<=n/\v=ae aj (i:Int)/\ak (gu xs 0 i=false)/\ak (aA w wr))
 ·exact⟨0,aq,aq,rfl,⟨rfl⟩,cB⟩
 obtain⟨i,B,E,rfl,k,b⟩:=hrel;by_cases a:i<n;rotate_left
 ·have m:=cF i n
  obtain rfl:i=n:=aq;go_wp2;go_ret;exact⟨_,rfl,by rw[k.o];rfl,b.o⟩
 have m:=aR i n;obtain⟨z,rfl,C⟩:=(R.o.ar b.o).ce a;obtain⟨g,e⟩:=bounds_i32 (R.o.dF a);have f:ak (gu xs 0 (i+1)=kY (nth xs i)):=⟨by rw[gu,k.o,Nat.zero_add];rfl⟩;have s:ak (gu xs 0 (i+1)=true->gu xs 0 n=true):=⟨yf aq⟩;have j:=sH (DB (nth xs i) g e wr (r.o.ar b.o));obtain⟨o,d⟩:=eY (kY (nth xs i));rw[d]at f j;generalize nth xs i=y at*;go_wp2_with fail;refine callK j.o b fun t u l=> ?_;cases o
 ·go_wp2
  go_roundg (n-i)
  ·exact⟨i+1,aq,aq,aQ,f,l⟩
  omega
 ·have p:=sH (s.o f.o)
  go_wp2;go_ret;exact⟨_,rfl,by rw[p.o];simp,l.o⟩
theorem ab0(A:aC)(n c:Nat)(xs:aE)(w:World)(h:aL .i32 w A n c xs)(a:Laid w)(j:n<=100000):Calls prog 127 #[.slice A n c] w fun e d=>e= .returned (.bool (!gu xs 0 n))/\aA w d:=by
 have m:ak (∀W,aL .i32 W A n c xs->Laid W->Calls prog 199 #[.slice A n c, .func (.func 200) #[] #[]] W fun e d=>e= .returned (.bool (gu xs 0 n))/\aA W d):=⟨fun W h a=>by
  have f:=sH (zN A n c xs W h a j);go_enter func199,ntmps199;go_wp2_with fail;refine f.o.mono ?_;rintro e k ⟨z,rfl,i,g⟩;have b:=sH g;have l:=sH i;go_wp2;go_ret;exact⟨by rw[<-l.o];rfl,b.o⟩⟩
 have f:=sH (m.o w h a);go_enter func127,ntmps127;go_wp2_with fail;refine f.o.mono ?_;rintro e k ⟨rfl,g⟩;have b:=sH g;go_wp2;go_ret;exact⟨rfl,b.o⟩
theorem KO{l:aE}{z:Nat}(h:z<=l.length):pI l (z:Int)=kG l z:=by
 unfold pI;rw[Int.toNat_natCast,Nat.min_eq_left aq]
theorem Kl(A:aC)(n c:Nat)(ts:aE)(f t:Nat)(w:World)(h:aL .i32 w A n c ts)(M:Laid w)(Y:n<=100000)(ht:t<=n):Calls prog 65 #[.slice A n c,ae aj (f:Int),ae aj (t:Int)] w fun e P=>e= .returned (ae aj (hU ts f t t:Int))/\aA w P:=by
 have R:ak _:=⟨h⟩;have H:ak _:=⟨M⟩;have hlen:=h.at_.1;obtain⟨L,G⟩:∃L,hU ts f t t=L:=⟨_,rfl⟩;have T:ak _:=⟨G⟩;rw[G];clear h M G;go_enter func65,ntmps65;go_wp2;go_loopg [2,7] (t+1) (fun gg v2 _ wr=>∃(z:Nat),z<gg/\z<=t/\v2=ae aj (z:Int)/\ak (∃m,z<=m/\hU ts f m z=L)/\ak (aA w wr))
 ·exact⟨t,aq,Nat.le_refl _,rfl,⟨t,Nat.le_refl _,T.o⟩,cB⟩
 obtain⟨z,K,Z,rfl,I,g⟩:=hrel;have o:ak _:=⟨Im A n c ts (z:Int) wr (R.o.ar g.o) (H.o.ar g.o) aq⟩;rw[KO (by rw[nV];omega)]at o;have r:=tS (ks ts) z;have D:ak (0<z->kG (ks ts) z<z):=⟨tL _⟩;have i:ak (L=if(kG (ks ts) z:Int)<=(f:Int)then z else if gu ts (kG (ks ts) z) (z-kG (ks ts) z)=true then z else L):=⟨by
  obtain⟨m,C,e⟩:=I.o;have:=mY ts f m z C;rw[e]at this;split
  ·rename_i a;rw[if_pos a]at this;exact this
  ·split
   ·rename_i a j;rw[if_neg a,if_pos j]at this;exact this
   ·rfl⟩
 have F:ak (¬(kG (ks ts) z:Int)<=(f:Int)->¬gu ts (kG (ks ts) z) (z-kG (ks ts) z)=true->∃m,kG (ks ts) z<=m/\hU ts f m (kG (ks ts) z)=L):=⟨fun a j=>by
  obtain⟨m,C,e⟩:=I.o;have:=mY ts f m z C;rw[if_neg a,if_neg j,e]at this;have:=tL (ks ts) (z:=z) aq;exact⟨m-1,aq,aq⟩⟩
 generalize kG (ks ts) z=p at*;have v:ak (z<gk):=⟨K⟩;clear K;go_wp2_with fail;refine o.o.mono ?_;rintro e J ⟨rfl,N⟩;have b:ak (aA w J):=⟨g.o.trans (N.mono g.o.size)⟩;clear N o;by_cases a:(p:Int)<=(f:Int)
 ·have E:ak (L=z):=⟨by have:=i.o;rw[if_pos a]at this;exact this⟩
  have j:decide ((p:Int)<=(f:Int))=true:=yy;have V:decide (p<=f)=true:=yy;have Q:p<=f:=aq;clear i F;go_wp2;go_ret;exact⟨yD,b.o⟩
 have V:decide (p<=f)=false:=fC;have Q:¬p<=f:=aq;have X:p<z:=D.o aq;obtain⟨U,W,u⟩:=mQ abm A n c p z r aq R.o.le (p:Int) (z:Int) rfl rfl;have O:=u.run;have S:ak _:=⟨u.jv (R.o.ar b.o)⟩;have B:ak _:=⟨ab0 U (z-p) W _ J S.o (H.o.ar b.o) aq⟩;rw[Aq aq]at B;have s:ak (L=if gu ts p (z-p)=true then z else L):=⟨by have:=i.o;rwa [if_neg a]at this⟩;have k:ak _:=⟨F.o aq⟩;generalize gu ts p (z-p)=q at*;clear i F u a;cases q
 ·have x:ak _:=⟨k.o aD⟩
  go_wp2_with fail;refine B.o.mono ?_;rintro e y ⟨rfl,d⟩;have l:ak (aA w y):=⟨b.o.trans (d.mono b.o.size)⟩;clear d;go_wp2;go_roundg z
  case measure=>have:=v.o;omega
  case rel=>exact⟨p,aq,aq,rfl,x,l⟩
 ·have E:ak (L=z):=⟨by have:=s.o;rw[if_pos rfl]at this;exact this⟩
  go_wp2_with fail;refine B.o.mono ?_;rintro e y ⟨rfl,d⟩;have l:ak (aA w y):=⟨b.o.trans (d.mono b.o.size)⟩;clear d;go_wp2;go_ret;exact⟨yD,l.o⟩
theorem Vi(A:aC)(n c:Nat)(ts:aE)(f t:Nat)(w:World)(h:aL .i32 w A n c ts)(hn:n<=100000)(ht:t<=n):Calls prog 70 #[.slice A n c,ae aj (f:Int),ae aj (t:Int)] w fun e w'=>e= .returned (ae aj (hU ts f t t:Int))/\aA w w':=by
 have R:ak _:=⟨h⟩;have hlen:=h.at_.1;obtain⟨L,hL⟩:∃L,hU ts f t t=L:=⟨_,rfl⟩;have HL:ak _:=⟨hL⟩;rw[hL];clear h hL;go_enter func70,ntmps70;go_wp2;go_loopg [2,7,8] (t+1) (fun gg v2 _ _ wr=>∃(z:Nat),z<gg/\z<=t/\v2=ae aj (z:Int)/\ak (∃m,z<=m/\hU ts f m z=L)/\ak (aA w wr))
 ·exact⟨t,aq,Nat.le_refl _,rfl,⟨t,Nat.le_refl _,HL.o⟩,cB⟩
 obtain⟨z,g,hz,rfl,X,BE⟩:=hrel;have I:ak (0<z->kG (ks ts) z<z):=⟨tL _⟩;have ES:ak (∀p,kG (ks ts) z=p->L=if p<=f then z else if gu ts p (z-p)=true then z else L):=⟨by
  rintro p rfl;obtain⟨m,W,e⟩:=X.o;have:=mY ts f m z W;rw[e]at this;split
  ·rename_i r;rw[if_pos aq]at this;exact this
  ·split
   ·rename_i r h2;rw[if_neg aq,if_pos h2]at this;exact this
   ·rfl⟩
 have EN:ak (∀p,kG (ks ts) z=p->f<p->gu ts p (z-p)=false->∃m,p<=m/\hU ts f m p=L):=⟨by
  rintro p rfl r h2;obtain⟨m,W,e⟩:=X.o;have:=mY ts f m z W;rw[if_neg aq,if_neg pO,e]at this;have h5:=tS (ks ts) z;have:=tL (ks ts) (z:=z) aq;exact⟨m-1,aq,aq⟩⟩
 obtain⟨p,J⟩:∃p,kG (ks ts) z=p:=⟨_,rfl⟩;have b:ak _:=⟨ES.o p J⟩;have o:ak _:=⟨EN.o p J⟩;have HP:ak _:=⟨J⟩;rw[J]at I;have U:ak (z<gk):=⟨g⟩;clear g ES EN J X;go_upto_block 2 with fail;go_cut [7] (fun v wx=>∃q:Int,v=ae aj q/\q<z/\-1<=q/\ak ((q<=(f:Int)/\p<=f)∨((f:Int)<q/\q=(p:Int)))/\ak (aA w wx))
 ·
  go_wp2;go_loopg [7] (z+1) (fun gg v7 wr=>∃(q:Nat),q<gg/\q<=z/\v7=ae aj ((q:Int)-1)/\ak (kG (ks ts) q=p)/\ak (aA w wr))
  ·exact⟨z,aq,Nat.le_refl _,rfl,HP,BE⟩
  obtain⟨q,g,hq,rfl,k,a⟩:=hrel;by_cases r:(f:Int)<(q:Int)-1;rotate_left
  ·have h2:decide ((f:Int)<(q:Int)-1)=false:=fC
   have E:ak (p<=f):=⟨by
    have:=k.o;rcases Nat.eq_zero_or_pos q with h0|h0
    ·subst h0;rw[po]at this;omega
    ·have:=tL (ks ts) h0;omega⟩
   have E2:ak ((q:Int)-1<=f):=⟨aq⟩;go_wp2;go_meet;exact⟨_,rfl,aq,aq,⟨.inl ⟨E2.o,E.o⟩⟩,a⟩
  ·obtain⟨j,rfl⟩:∃j,q=j+1:=⟨q-1,aq⟩
   have N:((j+1:Nat):Int)-1=(j:Int):=aq;rw[N]at r⊢;have h2:decide ((f:Int)<(j:Int))=true:=yy;have h3:f<j:=aq;have K:ak _:=⟨oT A n c ts (j:Int) wr (R.o.ar a.o) aq⟩;rw[nj]at K;have s:ak (j+1<gk):=⟨g⟩;clear N r g;cases B:lT (ks ts) j
   ·have u:ak (kG (ks ts) j=p):=⟨by rw[<-k.o,qg B]⟩
    rw[B]at K;clear B;go_wp2_with fail;refine K.o.mono ?_;rintro e H ⟨rfl,d⟩;have x:ak (aA w H):=⟨a.o.trans (d.mono a.o.size)⟩;clear d;go_wp2;go_roundg (j+1)
    case measure=>have:=s.o;omega
    case rel=>exact⟨j,aq,aq,rfl,u,x⟩
   ·have u:ak (j=p):=⟨by rw[<-k.o,mW B]⟩
    rw[B]at K;clear B;go_wp2_with fail;refine K.o.mono ?_;rintro e H ⟨rfl,d⟩;have x:ak (aA w H):=⟨a.o.trans (d.mono a.o.size)⟩;clear d;go_wp2;go_meet;exact⟨_,rfl,aq,aq,⟨.inr ⟨aq,by have:=u.o;omega⟩⟩,x⟩
 obtain⟨q,rfl,Y,S,k,a⟩:=hcut;by_cases r:q<=(f:Int)
 ·have E:ak (L=z):=⟨by
   have:=b.o;rw[if_pos (by rcases k.o with h|h<;>omega)]at this;exact this⟩
  clear k b o;go_wp2;go_ret;exact⟨yD,a.o⟩
 ·have C:=k.o
  obtain⟨Z,rfl⟩:f<p/\q=(p:Int):=by rcases C with h|h<;>omega
  have T:ak (L=if gu ts p (z-p)=true then z else L):=⟨by have:=b.o;rwa [if_neg (by omega)]at this⟩;have Q:ak _:=⟨o.o Z⟩;have hpz:p<z:=aq;have h3:¬p<=f:=aq;clear k C b o r Y S I HP;go_wp2;go_loopg [8] (z+1) (fun gg v8 wr=>∃(i:Nat),z-i<gg/\p<=i/\i<=z/\v8=ae aj (i:Int)/\ak (gu ts p (i-p)=false)/\ak (aA w wr))
  ·exact⟨p,aq,Nat.le_refl _,aq,rfl,⟨by rw[Nat.sub_self];rfl⟩,a⟩
  obtain⟨i,g,hpi,hi,rfl,DN,O⟩:=hrel;by_cases aH:i<z;rotate_left
  ·have i4:=cF i z
   obtain rfl:i=z:=aq;have V:ak _:=⟨Q.o DN.o⟩;go_wp2;go_roundg i
   case measure=>have:=U.o;omega
   case rel=>exact⟨p,aq,aq,rfl,V,O⟩
  have i4:=aR i z;have i5:=aR i n;obtain⟨ad,rfl,e0⟩:=(R.o.ar O.o).ce (show i<n by omega);obtain⟨M,F⟩:=bounds_i32 (R.o.dF (show i<n by omega));have G:p+(i-p)=i:=aq;have l:ak (gu ts p (i+1-p)=kY (nth ts i)):=⟨by rw[show i+1-p=(i-p)+1 by omega,gu,DN.o,G];rfl⟩;have UP:ak (gu ts p (i+1-p)=true->gu ts p (z-p)=true):=⟨yf aq⟩;have CN:ak _:=⟨oz (nth ts i) M F wr⟩;obtain⟨P,D⟩:∃P,kY (nth ts i)=P:=⟨_,rfl⟩;rw[D]at l CN;have s:ak (z-i<gk):=⟨g⟩;generalize nth ts i=y at*;clear D g M F G;go_wp2_with fail;refine CN.o.mono ?_;rintro e H ⟨rfl,d⟩;have x:ak (aA w H):=⟨O.o.trans (d.mono O.o.size)⟩;clear d e0;cases P
  ·go_wp2
   go_roundg (z-i)
   case measure=>have:=s.o;omega
   case rel=>exact⟨i+1,aq,aq,aq,aQ,l,x⟩
  ·have E:ak (L=z):=⟨by have:=T.o;rw[if_pos (UP.o l.o)]at this;exact this⟩
   go_wp2;go_ret;exact⟨yD,x.o⟩
theorem vE(a:aE):∀i,0<i->dx (lu a i) 0=0
 |0,h=>by omega
 |1,_=>by simp[lu,dx]
 |i+2,_=>by
  have ih:=vE a (i+1) aq;rw[lu];split
  ·exact ih
  ·rw[cE (ly a (i+1) aq),ih]
theorem Fg(b:aE)(n:Nat):0<(eU b n).length↔0<n:=by
 rw[lD];constructor
 ·intro h
  rcases Nat.eq_zero_or_pos n with a|a
  ·subst a;simp[lu]at h
  ·exact a
 ·exact ly b n
theorem vx(a:aE)(n:Nat)(h:0<n):(nk (eU a n) 0).1=0:=by
 have c:=vE a n h;have b:=ly a n h;unfold eU;rw[na _ _ _ b,cE b,c]
structure KK(w:World)(T:aC)(tn c:Nat)(ts:aE)(x:eE):Prop where
 tx:aL .i32 w T tn c ts
 rx:Rx w w.heap.size 10 x.q.gs x.G x.q.gs.length
 cl:∀j,j<x.q.gs.length->(x.q.f:Int)<=nth (bY x.q.gs) j/\nth (bY x.q.gs) j<x.q.t
 ne:x.q.f<x.q.t
 tl:x.q.t<=tn
 gl:x.q.gs.length<=100000
 tol:aar x.q.gs 0 x.q.gs.length
 tm:tn<=100000
 cap:x.q.gs.length<=x.gc
theorem KK.Z{d:World}{T:aC}{b:Nat}{x:eE}(h:KK w T b c ts x)(a:aA w d):KK d T b c ts x:=⟨h.tx.ar a,h.rx.Z a a.size,h.cl,h.ne,h.tl,h.gl,h.tol,h.tm,h.cap⟩
def Zc(ts:aE)(q:il)(g:Nat)(lv e:Int)(c:List (Nat×Nat))(i:Nat):Prop:=∃a b f t:Nat,nk c i=(a,b)/\a<b/\b<=q.gs.length/\nth (bY q.gs) a=(f:Int)/\t<=g/\
 gY ts q lv e c (i+1)=gY ts q lv e c i++(ib f (hU ts f t t:Nat) lv e q.gs a b::if hU ts f t t<t then[dv (hU ts f t t:Nat) t lv]else[])/\
 (i+1<c.length->∃d h:Nat,nk c (i+1)=(d,h)/\d<q.gs.length/\nth (bY q.gs) d=(t:Int))/\(¬i+1<c.length->t=q.t)
theorem KK.eU{T:aC}{l:Nat}{x:eE}(h:KK w T l c ts x)(lv n:Int){i:Nat}(q:i<(eU (bY x.q.gs) x.q.gs.length).length):Zc ts x.q l lv n (eU (bY x.q.gs) x.q.gs.length) i:=by
 obtain⟨u,v,y⟩:=Ck (bY x.q.gs) x.q.gs.length i q;have m:∀j,j<x.q.gs.length->∃f:Nat,nth (bY x.q.gs) j=(f:Int)/\f<x.q.t:=fun j s=>by
  have:=h.cl j s;exact⟨(nth (bY x.q.gs) j).toNat,aq,aq⟩
 have a:i+1<(Go.Proofs.YtpidckelbgbbkaaGreatDoor.eU (bY x.q.gs) x.q.gs.length).length->(nk (Go.Proofs.YtpidckelbgbbkaaGreatDoor.eU (bY x.q.gs) x.q.gs.length) (i+1)).1<x.q.gs.length:=fun h=>by
  have:=Ck (bY x.q.gs) x.q.gs.length (i+1) h;omega
 obtain⟨f,o,r⟩:=m _ (show(nk (Go.Proofs.YtpidckelbgbbkaaGreatDoor.eU (bY x.q.gs) x.q.gs.length) i).1<x.q.gs.length by omega);have p:=h.tl;obtain⟨t,k,g⟩:∃t:Nat,Wb x.q (Go.Proofs.YtpidckelbgbbkaaGreatDoor.eU (bY x.q.gs) x.q.gs.length) i=(t:Int)/\t<=l:=by
  unfold Wb;split
  ·rename_i b
   obtain⟨t,e,_⟩:=m _ (a b);exact⟨t,e,aq⟩
  ·exact⟨x.q.t,rfl,aq⟩
 refine⟨_,_,f,t,rfl,u,v,o,g, ?_,fun b=>⟨_,_,rfl,a b, ?_⟩,fun b=> ?_⟩
 ·show _++vB ts x.q lv n _ i=_
  congr 1
  unfold vB;have d:nth (bY x.q.gs) ((Go.Proofs.YtpidckelbgbbkaaGreatDoor.eU (bY x.q.gs) x.q.gs.length).getD i (0,0)).1=(f:Int):=o;simp only[d,k,Int.toNat_natCast]
  congr 1
  split
  ·rename_i h;rw[if_pos aq]
  ·rename_i h;rw[if_neg aq]
 ·rw[<-k];unfold Wb;rw[if_pos b];rfl
 ·have:=k;unfold Wb at this;rw[if_neg b]at this;omega
def zv(w:World)(B:Nat)(b:List (Nat×Nat))(A:aC):Prop:=∀i,i<b.length->∃a,A=some ⟨a,0,none⟩/\a<B/\w.cell? ⟨a,i*2,none⟩=some (ae aj (nk b i).1)/\w.cell? ⟨a,i*2+1,none⟩=some (ae aj (nk b i).2)
theorem zv.of{a:List (Nat×Nat)}(h:Bv w B a A a.length c):zv w w.heap.size a A:=fun i b=>by
 obtain⟨e,rfl,_,d⟩:=aB.form h aq;obtain⟨f,g⟩:=jI a i b;exact⟨e,rfl,d,(aB.cellAt h _ aq).trans f,(aB.cellAt h _ aq).trans g⟩
theorem zv.ar{d:World}{b:List (Nat×Nat)}(h:zv w B b A)(c:Below B w d):zv d B b A:=fun i f=>by
 obtain⟨j,e,a,g,k⟩:=h i f;exact⟨j,e,a,(c.cell a).trans g,(c.cell a).trans k⟩
structure kW(w:World)(B:Nat)(A:aC)(m c:Nat)(bs:List bP)(ps:List BoxM):Prop where
 own:iD w B A c ps
 eq:ps.map (·.1)=bs
 len:ps.length=m
theorem kW.nil(w:World)(B:Nat):kW w B none 0 0 [] []:=⟨iD.nil _ _,rfl,rfl⟩
theorem kW.ar{b:World}{ps:List BoxM}(h:kW w B A m c a ps)(d:aA w b):kW b B A m c a ps:=⟨h.own.ar d,h.eq,h.len⟩
theorem kW.row{ps:List BoxM}(h:kW w B A m c a ps):aB w B 50 6 A m c (ps.flatMap jD):=by have:=h.own.row;rwa [h.len]at this
theorem kW.push{a:World}{c':Nat}{d:aC}{b:List bP}{ps:List BoxM}(h:kW w B A m c b ps)(p:BoxM)(e:aB a B 50 6 d (m+1) c' (ps.flatMap jD++jD p))(f:w.grownBy a (Value.slice A m c).ownBlock)(g:gv w B p.2.1 p.2.2 p.1.gs):kW a B d (m+1) c' (b++[p.1]) (ps++[p]):=
 ⟨h.own.push (by rw[h.len];exact e) (by rw[h.len];exact f) g,by rw[List.map_append,h.eq];rfl,by rw[List.length_append,h.len];rfl⟩
theorem kW.done{w0:World}{ps:List BoxM}(h:kW w B A m c a ps)(d:w0.heap.size<=B)(b:aA w0 w):Cf w0 a (.returned (.slice A m c)) w:=
 ⟨A,c,ps,by rw[<-h.eq,List.length_map,h.len],h.own.dU d,h.eq,b⟩
theorem Nl(f t lv:Int):jD (dv f t lv,none,0)=[ae aj f,ae aj t,ae aj lv,ae aj 0,ae aj 0, .slice none 0 0]:=rfl
theorem Ka(w:World)(e:TypeId){size:Nat}(cs:List Value)(h:cs.length=size):aB (w.alloc (.cells cs.toArray e)) w.heap.size e size (some ⟨w.heap.size,0,none⟩) 1 1 cs:=by
 refine⟨by rw[h];omega, .inr ⟨w.heap.size,1,cs.toArray,rfl,Nat.le_refl _,heap_alloc_new w _,Nat.le_refl _,pN,by simp[h], ?_⟩⟩;simp[h,List.take_of_length_le (Nat.le_of_eq h)]
def ZBx(B:Nat)(g:bP)(v:Value)(w:World):Prop:=∃G a,v= .agg (jD (g,G,a)).toArray/\gv w B G a g.gs
theorem ZBx.ar(B:Nat)(g:bP)(v:Value)(w a:World)(h:ZBx B g v w)(b:aA w a):ZBx B g v a:=by
 obtain⟨G,c,e,h⟩:=h;exact⟨G,c,e,h.ar b⟩
def Uw:Value->List Value
 | .agg cs=>cs.toList
 |_=>[]
theorem Mj(x:eE)(r:Rn)(T:aC)(tn c:Nat)(ts:aE)(w:World)(h:KK w T tn c ts x):Calls prog 30 #[.slice T tn c, .agg x.row, .agg r.row] w (Cf w (fR ts x.q r.lv r.fo)):=by
 have iy:=h.gl;have htm:=h.tm;have hG:∀i,i<(eU (bY x.q.gs) x.q.gs.length).length->Zc ts x.q tn r.lv r.fo (eU (bY x.q.gs) x.q.gs.length) i:=fun i hi=>h.eU _ _ hi
 have Y:=Fg (bY x.q.gs) x.q.gs.length;have Cn:=vx (bY x.q.gs) x.q.gs.length;have Ci:(eU (bY x.q.gs) x.q.gs.length).length<=x.q.gs.length:=VL;have J:fR ts x.q r.lv r.fo=kP x.q r.lv++gY ts x.q r.lv r.fo (eU (bY x.q.gs) x.q.gs.length) (eU (bY x.q.gs) x.q.gs.length).length:=rfl;have JO:=fun W (B:Rx W W.heap.size 10 x.q.gs x.G x.q.gs.length) f t a b (h1:a<=b) (h2:b<=x.q.gs.length)=>Zw x r f t a b W B h1 h2 iy
 have Rl:=fun W (B:Rx W W.heap.size 10 x.q.gs x.G x.q.gs.length)=>Ao x.q.gs x.G x.q.gs.length x.gc W B iy
 have TX:=sH h.tx;have RX:=sH h.rx;have d:=h.cl;have dX:=h.ne;have htl:=h.tl;clear h;obtain⟨⟨s,F,qr,qw,qi,qb,gs⟩,G0,I,qe,P0,pn,pc⟩:=x;dsimp only[eE.row]at*;obtain⟨n,sj⟩:=eY gs.length;have JT:∀j,j<n->∃f:Nat,nth (bY gs) j=(f:Int)/\(fW gs j).length=10:=fun j hj=>⟨(nth (bY gs) j).toNat,by have:=d j (by omega);omega,acR⟩
 have HD:ak (0<n->∃f:Nat,nth (bY gs) 0=(f:Int)/\s<=f/\kP ⟨s,F,qr,qw,qi,qb,gs⟩ r.lv=if s<f then[dv s f r.lv]else[]):=⟨fun h=>by
  have:=d 0 aq;obtain⟨f,hf⟩:∃f:Nat,nth (bY gs) 0=(f:Int):=⟨(nth (bY gs) 0).toNat,aq⟩;refine⟨f,hf,aq, ?_⟩;unfold kP;dsimp only;rw[if_neg aq,hf];split
  ·rename_i h;rw[if_pos aq]
  ·rename_i h;rw[if_neg aq]⟩
 have HD0:ak (n=0->fR ts ⟨s,F,qr,qw,qi,qb,gs⟩ r.lv r.fo=[dv s F r.lv]):=⟨fun h=>by
  rw[J];unfold kP;dsimp only;rw[if_pos aq,sj,h];rfl⟩
 rw[sj]at iy hG Y Cn Ci J JO Rl RX⊢;obtain⟨gr,hgr⟩:=eY (eU (bY gs) n);rw[hgr]at hG Y Cn Ci J Rl;obtain⟨u,KF⟩:=eY gr.length;have M:=sH KF;have HGR:=sH hG;have su:=sH Cn;rw[KF]at Y Ci J;have CK:ak (∀j,j<n->nth (bY gs) j=nth (fW gs j) 1):=⟨fun j hj=>oW aq⟩;have HPS:=sH J;have RG:=sH Rl;have RB:=sH JO;have HQN:=sH sj;have HNE:=sH dX;generalize fR ts ⟨s,F,qr,qw,qi,qb,gs⟩ r.lv r.fo=L at*;generalize kP ⟨s,F,qr,qw,qi,qb,gs⟩ r.lv=H at*;generalize Yj:gY ts ⟨s,F,qr,qw,qi,qb,gs⟩ r.lv r.fo gr=U at*;clear hG Cn J JO Rl d JT hgr sj;obtain⟨W1,aP⟩:=eX ((w.alloc (.cells #[ae aj (s:Int),ae aj (F:Int),ae aj (qr:Int), .slice G0 n I,ae aj qw,ae aj qi,ae aj qe, .bool qb, .slice P0 pn pc] 63)).alloc (.cells r.row 58));obtain⟨p0,nd⟩:∃p,w.heap.size=p:=⟨_,rfl⟩;have O:ak (Bx W1 p0 #[ae aj (s:Int),ae aj (F:Int),ae aj (qr:Int), .slice G0 n I,ae aj qw,ae aj qi,ae aj qe, .bool qb, .slice P0 pn pc]):=⟨Pg⟩;have X1:ak (Bx W1 (p0+1) r.row):=⟨Pz⟩;have B1:ak (aA w W1):=⟨JH⟩;go_enter func30,ntmps30;go_upto_region 1 with fail;rw[<-aP];clear aP;have HP5:=sH nd;clear nd;have c3:W1.cell? ⟨p0,3,none⟩=some (.slice G0 n I):=O.o.cell 3;have RG1:=sH (RG.o W1 (RX.o.Z B1.o B1.o.size));go_wp2_with fail;refine RG1.o.mono ?_;rintro e C ⟨A,c2,e2,o2,b2⟩;rw[M.o]at e2;subst e2;have CT:=sH (zv.of o2);have Y0:=sH (O.o.ar b2 O.o.lt);have Y1:=sH (X1.o.ar b2 X1.o.lt);have P:=B1.t b2;clear o2 b2 RG1 RG O X1 B1 c3;obtain⟨y0,y1,_,y3,_⟩:=Y0.o.p9;obtain⟨_,_,z2,_⟩:=Y1.o.c6;rcases Nat.eq_zero_or_pos n with h0|h0
 ·obtain rfl:u=0:=by omega
  have HL:=sH (HD0.o h0);subst h0;have HW:ak (∀(W:World),W=C.alloc (.cells #[ae aj (s:Int),ae aj (F:Int),ae aj r.lv,ae aj 0,ae aj 0, .slice none 0 0] 50)->Cf w L (.returned (.slice (some ⟨C.heap.size,0,none⟩) 1 1)) W):=⟨fun W e=>by
   rw[HL.o,e];exact⟨_,1,[(dv s F r.lv,none,0)],rfl,⟨aB.dU (Ka C 50 (jD (dv s F r.lv,none,0)) rfl) P.o.size,fun p hp=>by obtain rfl:=List.mem_singleton.1 hp;exact gv.nil _ _⟩,rfl,P.o.alloc P.o.size _⟩⟩
  clear HD HD0 HL Y Ci;go_wp2;go_ret;exact HW.o _ rfl
 have hgp:0<u:=Y.2 h0;have hg9:(u==0)=false:=pM;obtain⟨f0,Xb,hqf,hhs⟩:=HD.o h0;have SY:=sH hhs;have hn9:=aR 0 n;obtain⟨ad,x0,x1,x2,x3,x4,x5,x6,x7,x8,x9,eG,Q,c0,Z,_⟩:=(RX.o.Z P.o P.o.size).Kk.ba h0;have E:x1=(f0:Int):=by rw[<-Xb,CK.o 0 h0];rw[Nat.zero_add]at Q;rw[Q];rfl
 subst eG;rw[E,Nat.zero_mul,pK]at Z;clear Q c0 E Xb hhs HD HD0;go_upto_region 5 with fail;go_upto_if 36 with fail;go_cut [8] (fun v8 wx=>∃(X:aC) (m c':Nat),v8= .slice X m c'/\m<=1/\ak (∃ps,kW wx C.heap.size X m c' H ps)/\ak (aA C wx))
 ·
  by_cases hq:s<f0
  ·have HL:ak (H=[]++[dv s f0 r.lv]):=⟨by rw[SY.o,if_pos hq];rfl⟩
   have uK:=aR s f0;have S0:=sH (kW.nil C C.heap.size);have D:=sH (Below.refl C.heap.size C);clear SY;go_upto_region 7 with fail;have OR:=sH S0.o.row;have Wo:=D.o.size;go_wp2_with (at_builtin;refine bk rW rfl (.tmp 37) (.tmp 44) rfl rfl (aB.alloc OR.o _) rfl (news:=[ae aj s,ae aj f0,ae aj r.lv,ae aj 0,ae aj 0, .slice none 0 0]) rfl (fh _ _ _ _ _ _ _ _ _ aD) VD aq ij ?_;intro A4 c4 w4 o4 b4 g4 _;have O4:=sH o4;have B4:=sH b4;have G4:=sH g4;clear o4 b4 g4);have S4:=sH ((S0.o.ar (av _ _)).push (dv s f0 r.lv,none,0) Hf G4.o (gv.nil _ _));have B5:=sH ((D.o.alloc D.o.size _).trans B4.o);clear OR O4 B4 G4;go_meet;exact⟨A4,1,c4,rfl,aq,⟨_,Ht⟩,B5⟩
  ·have HL:ak (H=[]):=⟨by rw[SY.o,if_neg hq]⟩
   have uK:=cF s f0;go_wp2;go_meet;exact⟨none,0,0,rfl,aq,⟨[],by rw[HL.o];exact kW.nil _ _⟩,cB⟩
 obtain⟨X,m,c',rfl,hm,SS,D⟩:=hcut;obtain⟨ps0,S0⟩:=SS.o;have G0S:ak (H++U 0=H):=⟨by rw[<-Yj];exact List.append_nil _⟩;have SI0:ak (∃ps,kW wc C.heap.size X m c' (H++U 0) ps):=⟨ps0,by rw[G0S.o];exact S0⟩;have Y9:ak (∀i,i<u->∃a b f t:Nat,nk gr i=(a,b)/\a<b/\b<=n/\nth (bY gs) a=(f:Int)/\t<=tn/\
  U (i+1)=U i++(ib f (hU ts f t t:Nat) r.lv r.fo gs a b::if hU ts f t t<t then[dv (hU ts f t t:Nat) t r.lv]else[])/\
  (i+1<u->∃a2 b2:Nat,nk gr (i+1)=(a2,b2)/\a2<n/\nth (bY gs) a2=(t:Int))/\(¬i+1<u->t=F)):=⟨fun i hi=>by
  obtain⟨a,b,f,t,h1,h2,h3,h4,h5,h6,h7,h8⟩:=HGR.o i (by rw[M.o];exact hi);dsimp only at h3 h4 h7 h8;rw[M.o,HQN.o]at h7;rw[M.o]at h8;rw[HQN.o]at h3;exact⟨a,b,f,t,h1,h2,h3,h4,h5,by rw[<-Yj];exact h6,h7,h8⟩⟩
 clear S0 SS G0S HGR Yj y0 y1 y3 z2 Z SY;go_wp2;go_loopg [8,10,11,12,13] (u+1) (fun gg v8 v10 _ _ _ wr=>∃(i:Nat) (X:aC) (m c':Nat),u-i<gg/\i<=u/\m<=2*i+1/\v8= .slice X m c'/\v10=ae aj (i:Int)/\ak (∃ps,kW wr C.heap.size X m c' (H++U i) ps)/\ak (aA C wr))
 ·exact⟨0,X,m,c',aq,aq,aq,rfl,rfl,SI0,D⟩
 clear SI0 D hm;obtain⟨i,X,m,c',hg,hi,hm,rfl,rfl,SS,BE⟩:=hrel;by_cases aH:i<u;rotate_left
 ·have i4:=cF i u
  obtain rfl:i=u:=aq;have HW:ak (Cf w L (.returned (.slice X m c')) wr):=⟨by
   obtain⟨ps,S⟩:=SS.o;rw[HPS.o];exact S.done P.o.size (P.o.trans (BE.o.mono P.o.size))⟩
  go_wp2;go_ret;exact HW.o
 have i4:=aR i u;obtain⟨a,b,f,t,yL,iN,yJ,ZF,fJ,hGi,XV,Wq⟩:=Y9.o i aH;obtain⟨ps,S⟩:=SS.o;have SO:=sH S;have Tf:=sH hGi;have gI:=sH hg;have BW:=P.t BE.o;obtain⟨ga,eA,WX,k0,k1⟩:=(CT.o.ar BE.o) i (by rw[M.o];exact aH);subst eA;rw[yL]at k0 k1;dsimp only at k0 k1;have HK0:=sH ((BE.o.cell WX).symm.trans k0);have HK1:=sH ((BE.o.cell WX).symm.trans k1);obtain⟨y0,y1,y2,y3,y4,y5,y6,y7,y8⟩:=(Y0.o.ar BE.o Y0.o.lt).p9;have O:=sH (Y0.o.ar BE.o Y0.o.lt);have X1:=sH (Y1.o.ar BE.o Y1.o.lt);clear SS S hGi hg yL y0 y1 y2 y3 y4 y5 y6 y7 y8;have y1:wr.cell? ⟨p0,1,none⟩=some (ae aj (F:Int)):=O.o.cell 1;have y3:wr.cell? ⟨p0,3,none⟩=some (.slice (some ad) n I):=O.o.cell 3;go_upto_if 58 with fail;go_cut [11] (fun v wx=>v=ae aj (t:Int)/\ak (aA wr wx))
 ·
  by_cases h1:i+1<u
  ·obtain⟨a2,b2',uh,IE,lI⟩:=XV h1
   obtain⟨j,hj⟩:=eY (i+1);rw[hj]at h1 uh;have pe:(i:Int)+1=(j:Int):=aq;have h3:decide (j<u)=true:=by simp;exact h1
   have h4:=aR j u;obtain⟨ga',eA,_,k2,_⟩:=(CT.o.ar BE.o) j (by rw[M.o];exact h1);obtain rfl:ga=ga':=by injection eA with eA;injection eA
   rw[uh]at k2;dsimp only at k2;obtain⟨gS,x0,x1,x2,x3,x4,x5,x6,x7,x8,x9,eG,q,c0,Z,_⟩:=(RX.o.Z BW.o BW.o.size).Kk.ba IE;obtain rfl:ad=gS:=(by injection eG);have E:x1=(t:Int):=by rw[<-lI,CK.o a2 IE];rw[Nat.zero_add]at q;rw[q];rfl
   rw[E]at Z;have a24:=aR a2 n;obtain⟨K2,C1,Y3⟩:=lc3 k2 Z y3;clear q c0 E k2 Z eG eA XV Wq ZF lI k0 k1 y1 y3;go_wp2;refine mRl ?_;rintro _ ⟨nq,rfl⟩;go_wp2;go_meet;exact⟨rfl,⟨nq.2⟩⟩
  ·have e:=sH (Wq h1)
   have h3:¬(i:Int)+1<(u:Int):=aq;clear XV Wq ZF k0 k1;go_wp2;go_meet;exact⟨by rw[e.o],cB⟩
 obtain⟨rfl,BC⟩:=hcut;have BEc:=BE.t BC.o;have BWc:=P.t BEc.o;obtain⟨gS,x0,x1,x2,x3,x4,x5,x6,x7,x8,x9,eG,q,c0,Z,_⟩:=(RX.o.Z BWc.o BWc.o.size).Kk.ba (show a<n by omega);obtain rfl:ad=gS:=by injection eG
 have E:x1=(f:Int):=by rw[<-ZF,CK.o a (by omega)];rw[Nat.zero_add]at q;rw[q];rfl
 rw[E]at Z;have a4:=aR a n;obtain⟨K0,C1,Y3⟩:=lc3 ((au k0 BC.o)) Z (au y3 BC.o);clear q c0 E Z eG XV Wq ZF k0 k1 y1 y3 O X1;go_wp2;refine mRl ?_;rintro _ ⟨nq,rfl⟩;have B5:=BEc.t nq.2;have Qg:=BC.t nq.2;clear K0 C1 Y3 BEc BWc BC;generalize nq.1=w5 at*;have Bw:=P.t B5.o;have EC:=sH (Vi T tn c ts f t w5 (TX.o.ar Bw.o) htm fJ);obtain⟨e,he⟩:=eY (hU ts f t t);rw[he]at EC Tf;have het:e<=t:=by rw[<-he];exact sW _ _ _ _
 clear he;go_wp2_with fail;refine EC.o.mono ?_;rintro e6 w6 ⟨rfl,b6⟩;have B6:=B5.t b6;have BR6:=Qg.t b6;have B6w:=P.t B6.o;have S6:=sH (SO.o.ar BR6.o);clear b6 EC B5 Qg Bw SO;go_upto_region 16 with fail;obtain⟨_,_,k0,k1⟩:True/\True/\w6.cell? ⟨ga,i*2,none⟩=some (ae aj (a:Int))/\w6.cell? ⟨ga,i*2+1,none⟩=some (ae aj (b:Int)):=⟨trivial,trivial,(B6.o.cell WX).trans HK0.o,(B6.o.cell WX).trans HK1.o⟩;have O:=sH (Y0.o.ar B6.o Y0.o.lt);have X1:=sH (Y1.o.ar B6.o Y1.o.lt);obtain⟨g,hg⟩:=eY (ib f (e:Int) r.lv r.fo gs a b);have RB6:ak (∀W,aA w6 W->Calls prog 71 #[.agg #[ae aj (s:Int),ae aj (F:Int),ae aj (qr:Int), .slice (some ad) n I,ae aj qw,ae aj qi,ae aj qe, .bool qb, .slice P0 pn pc], .agg r.row,ae aj (f:Int),ae aj (e:Int),ae aj (a:Int),ae aj (b:Int)] W (PGb W g)):=⟨fun W hW=>by
  have hb:=B6w.o.trans (hW.mono B6w.o.size);rw[<-hg];exact RB.o W (RX.o.Z hb hb.size) f e a b aq yJ⟩
 rw[hg]at Tf;clear hg HK0 HK1;have OR6:=sH S6.o.row;refine kz (N:=18) (k0:=84) (m:=18) [some (.slice X m c'),some (.agg #[ae aj (s:Int),ae aj (F:Int),ae aj (qr:Int), .slice (some ad) n I,ae aj qw,ae aj qi,ae aj qe, .bool qb, .slice P0 pn pc]),some (.agg r.row),some (ae aj (f:Int)),some (ae aj (e:Int)),some (.slice (some ⟨ga,0,none⟩) u c2),some (ae aj (i:Int)),some (.pointer (some ⟨ga,i*2,none⟩)),some (.pointer (some ⟨ga,i*2,none⟩)),some (ae aj (a:Int)),some (.slice (some ⟨ga,0,none⟩) u c2),some (ae aj (i:Int)),some (.pointer (some ⟨ga,i*2,none⟩)),some (.pointer (some ⟨ga,i*2+1,none⟩)),some (ae aj (b:Int)),none,none,none] 15 16 17 (ZBx C.heap.size g) Uw w6 (fun v W=>∃A c G R,v= .slice A (m+1) c/\kW W C.heap.size A (m+1) c (H++U i++[g]) (ps++[(g,G,R)])/\Below C.heap.size w6 W) rfl aF rfl aF aq (Below.refl _ _) ?_ ?_
 ·intro j o Lf bu W hj ho y k d l a' ha K hK
  simp only[dm,fa,List.setIfInBounds_toArray,List.set_cons_succ,List.set_cons_zero,Nat.reduceAdd,Nat.add_zero]at ha;subst ha;have hj:j=0∨j=1∨j=2∨j=3∨j=4∨j=5∨j=6∨j=7∨j=8∨j=9∨j=10∨j=11∨j=12∨j=13∨j=14∨j=15∨j=16∨j=17:=aq;have d0:=l.cI 0 _ rfl;have d1:=l.cI 1 _ rfl;have d2:=l.cI 2 _ rfl;have d3:=l.cI 3 _ rfl;have d4:=l.cI 4 _ rfl;have d5:=l.cI 5 _ rfl;have d6:=l.cI 6 _ rfl;have d7:=l.cI 7 _ rfl;have d8:=l.cI 8 _ rfl;have d9:=l.cI 9 _ rfl;have d10:=l.cI 10 _ rfl;have d11:=l.cI 11 _ rfl;have d12:=l.cI 12 _ rfl;have d13:=l.cI 13 _ rfl;have d14:=l.cI 14 _ rfl
  rcases hj with rfl|rfl|rfl|rfl|rfl|rfl|rfl|rfl|rfl|rfl|rfl|rfl|rfl|rfl|rfl|rfl|rfl|rfl
  all_goals(injection ho with ho;subst ho)
  all_goals(simp[Region.binds]at k)
  case' inr.inr.inr.inr.inr.inr.inr.inr.inr.inr.inr.inr.inr.inr.inr.inl=>
   obtain⟨q1,q2,q3,q4,q9,q14⟩:=k;have XQ:=d.no (a:=16) y aF;have V:=d.no (a:=17) XQ aF;have D:=l.pre V;simp only[d1 q1,d2 q2,d3 q3,d4 q4,d9 q9,d14 q14];refine wpOp_step rfl (fun K9 z=> ?_);go_simp;refine(RB6.o W D).mono ?_;rintro e7 w7 ⟨G,R,rfl,og,b7⟩;have og2:gv w7 C.heap.size G R g.gs:=aB.dU og (by have:=D.size;have:=B6.o.size;omega);dsimp only;refine z _ _ ?_
   skip
   have B:=hK _ _ (l.call (v:= .agg (jD (g,G,R)).toArray) rfl bQ bQ XQ V ⟨G,R,rfl,og2⟩ b7);simp only[Nat.reduceAdd,Act.put,List.setIfInBounds_toArray,List.set_cons_succ,List.set_cons_zero]at B
   try simp only[d1 q1,d2 q2,d3 q3,d4 q4,d9 q9,d14 q14]at B
   try simp only[Act.put,List.setIfInBounds_toArray,List.set_cons_succ,List.set_cons_zero]
   exact B
  case' inr.inr.inr.inr.inr.inr.inr.inr.inr.inr.inr.inr.inr.inr.inr.inr.inr=>
   have h15:=k.2.2;obtain⟨G,R,ev,og⟩:=l.cal h15 y;obtain⟨b,eb,hc⟩:=l.box k.2.1 y;have D:=l.pre y;rw[ev]at hc;have SW:=S6.o.ar D;have gM:C.heap.size<=W.heap.size:=by have:=D.size;have:=B6.o.size;omega
   simp only[d0 k.1,eb];refine wpOp_step rfl (fun K9 z=> ?_);refine jL (news:=jD (g,G,R)) rW rfl (.tmp 84) (.tmp 100) rfl rfl SW.row rfl rfl (by simpa[Uw]using hc) (iH _) aq gM ?_;intro A5 c5 w5 o5 b5 g5 t5;refine z _ _ ?_;change K (Act.put _ (some 101) _) _;have B:=hK _ _ (l.app rfl ⟨A5,c5,G,R,rfl,SW.push (g,G,R) o5 g5 og,(D.mono B6.o.size).trans b5⟩);simp only[Nat.reduceAdd,Act.put,List.setIfInBounds_toArray,List.set_cons_succ,List.set_cons_zero]at B
   try simp only[d0 k.1,eb]at B
   try simp only[Act.put,List.setIfInBounds_toArray,List.set_cons_succ,List.set_cons_zero]
   exact B
  case' inr.inr.inr.inr.inr.inr.inr.inr.inr.inr.inr.inr.inr.inr.inr.inr.inl=>
   have V:=d.no (a:=17) y aF;obtain⟨G,R,ev,og⟩:=l.cal k V;simp only[ev];refine wpOp_step rfl (fun K9 z=> ?_);go_simp;refine z _ _ ?_
   skip
   have B:=hK _ _ (l.lay (ZBx.ar _ _) 50 (by rw[ev]) rfl bQ bQ k V);simp only[Nat.reduceAdd,Act.put,List.setIfInBounds_toArray,List.set_cons_succ,List.set_cons_zero]at B
   try simp only[ev]at B
   try simp only[Act.put,List.setIfInBounds_toArray,List.set_cons_succ,List.set_cons_zero]
   exact B
  case' inr.inl=>
   obtain⟨y0,y1,y2,y3,y4,y5,y6,y7,y8⟩:=(O.o.ar (l.pre (d.no (a:=17) (d.no (a:=16) (d.no (a:=15) y aF) aF) aF)) O.o.lt).p9
  case' inr.inr.inl=>
   obtain⟨y0,y1,y2,y3,y4,y5⟩:=(X1.o.ar (l.pre (d.no (a:=17) (d.no (a:=16) (d.no (a:=15) y aF) aF) aF)) X1.o.lt).c6
  case' inr.inr.inr.inr.inr.inr.inr.inr.inr.inl=>
   have k0:=au k0 (l.pre (d.no (a:=17) (d.no (a:=16) (d.no (a:=15) y aF) aF) aF))
  case' inr.inr.inr.inr.inr.inr.inr.inr.inr.inr.inr.inr.inr.inr.inl=>
   have k1:=au k1 (l.pre (d.no (a:=17) (d.no (a:=16) (d.no (a:=15) y aF) aF) aF))
  all_goals
   try simp only[d0,d1,d2,d3,d4,d5,d6,d7,d8,d9,d10,d11,d12,d13,d14,k]
   refine wpOp_step rfl (fun K9 z=> ?_);go_simp;refine z _ _ ?_
   skip
   have B:=hK _ _ (l.pure rfl bQ bQ bQ);simp only[Nat.reduceAdd,Act.put,List.setIfInBounds_toArray,List.set_cons_succ,List.set_cons_zero]at B
   try simp only[d0,d1,d2,d3,d4,d5,d6,d7,d8,d9,d10,d11,d12,d13,d14,k]at B
   try simp only[Act.put,List.setIfInBounds_toArray,List.set_cons_succ,List.set_cons_zero]
   exact B
 ·intro Lf bu W cC l a' ha
  simp only[dm,fa,List.setIfInBounds_toArray,List.set_cons_succ,List.set_cons_zero,Nat.reduceAdd,Nat.add_zero]at ha;subst ha;obtain⟨A5,c5,G,R,xq,s7,b7⟩:=l.post (cC 17 aq);simp only[xq];have S7:=sH s7;have B7:=sH (B6.o.trans b7);clear xq cC l k0 k1 O X1 RB6 OR6 S6 s7 b7 B6 BR6;refine wpOp_step rfl (fun K9 z=> ?_);go_simp;refine z _ _ ?_;have RX7:ak (∃ps,kW W C.heap.size A5 (m+1) c5 (H++U i++[g]) ps):=⟨_,S7.o⟩;have z2:W.cell? ⟨p0+1,2,none⟩=some (ae aj r.lv):=(Y1.o.ar B7.o Y1.o.lt).cell 2;clear S7;by_cases hq:e<t
  ·have HL:ak (H++U (i+1)=H++U i++[g]++[dv e t r.lv]):=⟨by rw[Tf.o,if_pos hq];simp⟩
   have uK:=aR e t;obtain⟨ps7,s7⟩:=RX7.o;have S7:=sH s7;have D:=sH B7.o;clear s7;go_upto_region 18 with fail;have OR:=sH S7.o.row;have Wo:=D.o.size;go_wp2_with (at_builtin;refine bk rW rfl (.tmp 105) (.tmp 111) rfl rfl (aB.alloc OR.o _) rfl (news:=[ae aj e,ae aj t,ae aj r.lv,ae aj 0,ae aj 0, .slice none 0 0]) rfl (fh _ _ _ _ _ _ _ _ _ aD) VD aq ij ?_;intro A4 c4 w4 o4 b4 g4 _;have O4:=sH o4;have B4:=sH b4;have G4:=sH g4;clear o4 b4 g4);have S4:=sH ((S7.o.ar (av _ _)).push (dv e t r.lv,none,0) Hf G4.o (gv.nil _ _));have B5:=sH ((D.o.alloc D.o.size _).trans B4.o);clear OR O4 B4 G4;go_roundg (u-i)
   ·exact⟨i+1,A4,m+1+1,c4,aq,aq,aq,rfl,aQ,⟨_,Ht⟩,B5⟩
   have:=gI.o;omega
  ·have HL:ak (H++U (i+1)=H++U i++[g]):=⟨by rw[Tf.o,if_neg hq];simp⟩
   have uK:=cF e t;go_wp2;go_roundg (u-i)
   ·exact⟨i+1,A5,m+1,c5,aq,aq,aq,rfl,aQ,⟨by rw[HL.o];exact RX7.o⟩,B7⟩
   have:=gI.o;omega
end Go.Proofs.YtpidckelbgbbkaaGreatDoor
