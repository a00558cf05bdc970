/- Part of LineFills. -/
import Derived.Test.YtijcgdkpconjcaaGreatDoorAr
import Derived.Test.YtijcgdkpconjcaaGreatDoorAj
namespace Go.Proofs.YtijcgdkpconjcaaGreatDoor
open Go.ChangeShapes Go.WideShapes Go.ChangeAt Go.RowKit Go.Proofs.Tryz
open Go renaming World->EE,Value->EN,Calls->GK,TypeId->IQ,Ending->IS,Program->I3
open Go.RowKit renaming Below->EI,wrap64->IK
open Option renaming some->OH,none->OJ
open Bool renaming true->OX,false->OZ
open Go.Value renaming slice->Pl,bool->PF,pointer->PK,agg->Q4
open Go.Ending renaming returned->RE
open Go.Obj renaming cells->RM
open Go.Value renaming int->ae
open Go.IntKind renaming i64->aj
set_option linter.all false
set_option maxRecDepth 100000
set_option maxHeartbeats 16000000
variable{B c i m:Nat}{A:aB}{ts:aC}{w:EE}{bs:List bj}{q:fX}{fo lv:Int}
def JD(gs:List aC)(A:aB)(n c:Nat)(w:EE)(h:Rx w w.heap.size 10 gs A n)(hn:n<=100000):
 GK prog 98 #[Pl A n c] w (uO w (dI (aM gs) n)):=by
 have R:ak _:=⟨h.gxs⟩;have KL:ak (∀j,j<n->nth (aM gs) j=nth (dS gs j) 1):=⟨λj M=>gK Dc⟩;clear h;generalize aM gs=a at*;go_enter func98,ntmps98;go_wp2;go_loopg[2,3,4,7](n+1)(λgg v2 _ _ v7 wr=>∃(i m:Nat) (N:aB) (v:Nat),n-i<gg/\i<=n/\m<=i/\v2=Pl N m v/\v7=ae aj (i:Int)/\ak ((dI a i).length=m)/\ak (Dl wr w.heap.size (dI a i) N m v)/\ak (az w wr))
 .exact⟨0,0,OJ,0,aq,aq,aq,rfl,rfl,⟨rfl⟩,⟨aA.nil _ _ _ _⟩,cJ⟩
 obtain⟨i,m,N,v,Y,hi,hm,rfl,rfl,ML,O,F⟩:=hrel;by_cases C:i<n;rotate_left
 .have i4:=cI i n
  obtain rfl:i=n:=aq;go_wp2;go_ret;exact⟨N,v,by rw[ML.o];rfl,by rw[ML.o];exact O.o,F.o⟩
 have i4:=aU i n;obtain⟨ad,x0,T,x2,x3,x4,x5,x6,x7,x8,x9,H,b,c0,c1,S,c3,c4,c5,c6,c7,c8,c9⟩:=(R.o.Z F.o F.o.size).bK C;subst H;rw[Nat.zero_add]at b;have e:nth a i=T:=by rw[KL.o i C,b];rfl
 have t:ak (n-i<gk):=⟨Y⟩;clear b Y;have⟨J,cg⟩:∃J,J=(wr:EE).alloc (RM #[ae aj x0,ae aj T,ae aj x2,ae aj x3,ae aj x4,ae aj x5,ae aj x6,ae aj x7,ae aj x8,ae aj x9] 126):=⟨_,rfl⟩;obtain⟨P,_⟩:=zg cg;have u:ak (az wr J):=⟨jT⟩;have r:ak (az w J):=⟨F.o.trans (u.o.mono F.o.size)⟩;go_upto_region 4 with fail;rw[<-cg];clear cg c0 c1 S c3 c4 c5 c6 c7 c8 c9;have L1:=au P;rcases Nat.eq_zero_or_pos i with L|L
 .have W:decide (0<i)=OZ:=ji
  have hni:¬0<i:=aq;have PH:ak _:=⟨pq a i aq⟩;clear P L;go_wp2;refine bS aF aF ?_
  repeat(go_big_quiet_step (fail))
  refine wpQuiet_nil ?_;rintro _ ⟨d,rfl⟩;have o:ak (az w d.1):=⟨r.o.trans (d.2.mono r.o.size)⟩;have s:ak _:=⟨O.o.ar (Below.trans u.o (d.2.mono u.o.size))⟩;have k:=o.o.size;clear e L1;go_wp2_with (at_builtin;refine cG TY rfl (.tmp 33) (.tmp 38) rfl rfl (aA.alloc s.o _) rfl (news:=qF (i,i+1)) rfl (gM _ _ _ _) (lq _ _) aq br ?_;intro E c8 z D B;have O8:ak _:=⟨D⟩;have x:ak (az w z):=⟨(o.o.alloc k _).trans B⟩;clear D B);have f:ak ((dI a (i+1)).length=m+1):=⟨Yv⟩;have y:ak (Dl z w.heap.size (dI a (i+1)) E (m+1) c8):=⟨YQ⟩;go_roundg(n-i)
  case measure=>have:=t.o;omega
  case rel=>exact⟨i+1,m+1,E,c8,aq,aq,aq,rfl,aV,f,y,x⟩
 obtain⟨j,M⟩:∃j,j+1=i:=⟨i-1,aq⟩;have W:decide (0<i)=OX:=Je;have Ja:(i:Int)-1=(j:Int):=aq;have j4:=aU j n;obtain⟨V,y0,X,y2,y3,y4,y5,y6,y7,y8,y9,H,b,d0,d1,_⟩:=(R.o.Z r.o r.o.size).bK (show j<n by omega);obtain rfl:ad=V:=by injection H
 rw[Nat.zero_add]at b;have l:nth a j=X:=by rw[KL.o j (by omega),b];rfl
 have Z:=au d1;have HJ:ak _:=⟨M⟩;clear P d0 d1 b H;cases K:(X==T)
 .have PH:ak _:=⟨pq a i (by intro h;obtain⟨_,h⟩:=h;rw[show i-1=j by omega,e,l]at h;simp[h]at K)⟩
  clear e l M;go_wp2;refine bS aF aF ?_
  repeat(go_big_quiet_step (fail))
  refine wpQuiet_nil ?_;rintro _ ⟨d,rfl⟩;have o:ak (az w d.1):=⟨r.o.trans (d.2.mono r.o.size)⟩;have s:ak _:=⟨O.o.ar (Below.trans u.o (d.2.mono u.o.size))⟩;have k:=o.o.size;clear Z L1 K;go_wp2_with (at_builtin;refine cG TY rfl (.tmp 33) (.tmp 38) rfl rfl (aA.alloc s.o _) rfl (news:=qF (i,i+1)) rfl (gM _ _ _ _) (lq _ _) aq br ?_;intro E c8 z D B;have O8:ak _:=⟨D⟩;have x:ak (az w z):=⟨(o.o.alloc k _).trans B⟩;clear D B);have f:ak ((dI a (i+1)).length=m+1):=⟨Yv⟩;have y:ak (Dl z w.heap.size (dI a (i+1)) E (m+1) c8):=⟨YQ⟩;go_roundg(n-i)
  case measure=>have:=t.o;omega
  case rel=>exact⟨i+1,m+1,E,c8,aq,aq,aq,rfl,aV,f,y,x⟩
 .have PM:ak _:=⟨Av a i ⟨L,by rw[show i-1=j by omega,e,l];simpa using K⟩⟩
  have G:0<m:=by have:=lI a i L;have:=kH a i;have:=ML.o;omega
  clear e l M;go_wp2;refine bS aF aF ?_
  repeat(go_big_quiet_step (fail))
  refine wpQuiet_nil ?_;rintro _ ⟨d,rfl⟩;have o:ak (az w d.1):=⟨r.o.trans (d.2.mono r.o.size)⟩;have s:ak _:=⟨O.o.ar (Below.trans u.o (d.2.mono u.o.size))⟩;have k:=o.o.size;clear Z L1 K;obtain⟨q,hq⟩:∃q,q+1=m:=⟨m-1,aq⟩;obtain⟨g,rfl,Q,dV⟩:=aA.form s.o G;have U:=qI (dI a i) q (i+1) (by rw[ML.o];omega);have I:=PM.o;rw[ML.o,show m-1=q by omega]at I;rw[<-I]at U;have cq:=aA.cellAt s.o (q*2+1) aq;rw[(jY (dI a i) q (by rw[ML.o];omega)).2]at cq;have fq:=aA.frozenAt s.o (q*2+1);have st:=(World.ownsRow.stored (cap:=v) s.o (q*2+1) (ae aj ((i+1:Nat):Int))).1;rw[U]at st;have f:ak ((dI a (i+1)).length=m):=⟨by rw[I,List.length_set];exact ML.o⟩;have y:ak (Dl (d.1.setCell ⟨g,q*2+1,OJ⟩ (ae aj ((i+1:Nat):Int))) w.heap.size (dI a (i+1)) (OH ⟨g,0,OJ⟩) m v):=⟨st⟩;have x:ak (az w (d.1.setCell ⟨g,q*2+1,OJ⟩ (ae aj ((i+1:Nat):Int)))):=⟨Below.setCell o.o (p:=⟨g,q*2+1,OJ⟩) Q _⟩;have q1:(m:Int)-1=(q:Int):=aq;have q2:=aU q m;have q3:=gT q;have HQ:ak _:=⟨hq⟩;clear U I st hq G;have e2:(((i+1:Nat):Int))=(i:Int)+1:=aq;rw[e2]at y x;clear e2;go_wp2;go_roundg(n-i)
  case measure=>have:=t.o;omega
  case rel=>exact⟨i+1,m,_,v,aq,aq,aq,rfl,aV,f,y,x⟩
def ZEq(u:EN):Sat:=⟨λv _=>v=u,λv w a h _=>h⟩
def QE(gs:List aC)(G0:aB)(m V a:Nat)(r:Rn)(w:EE)(h:JP w w.heap.size gs a m G0)(hn:m<=100000)(U:a<=100000)(ht:bA gs a m):GK prog 99 #[Pl G0 m V,ae aj (a:Int),Q4 r.row] w (PGb w (lO 0 0 r.lv r.fo gs a (a+m))):=by
 have R:=sH h;have⟨L,hL⟩:=eY (FT gs a m (Am r.lv));have HL:=sH hL;have HLn:ak (L.length=m):=⟨by rw[<-hL];exact Rs _ _ _ _⟩;have⟨P,hP⟩:∃P:Nat->List gF,xr r.fo gs a m (Am r.lv)=P:=⟨_,rfl⟩;have HP:ak (∀k,P (k+1)=P k++[⟨r.fo,nth (dS gs (a+k)) 0,IK (nth L k+nth (dS gs (a+k)) 3),nth (dS gs (a+k)) 4⟩]):=⟨λk=>by rw[<-hP,Fc,<-hL];rfl⟩;have C:ak (∀k,(P k).length=k):=⟨λk=>by rw[<-hP];exact Jw _ _ _ _ _ _⟩;have HP0:ak (P 0=[]):=⟨by rw[<-hP];rfl⟩;have⟨X,hX⟩:=eY (IK (pR gs a m));have HE:ak (lO 0 0 r.lv r.fo gs a (a+m)=⟨0,0,r.lv,0,X,P m⟩):=⟨by unfold lO;rw[Nat.add_sub_cancel_left,<-hP,hX];rfl⟩;rw[HE.o];have OC:=sH (λW (h:JP W W.heap.size gs a m G0)=>Rr gs G0 m V a r.lv W h hn U ht);have WC:=sH (λW (h:JP W W.heap.size gs a m G0)=>Uw gs G0 m V a W h hn);rw[hX]at WC;rw[HL.o]at OC;clear h ht hP hL HL HE hX;have⟨E,aP⟩:=eX ((w.alloc (RM r.row 68)).alloc (RM #[ae aj 0,ae aj 0,ae aj 0,ae aj 0,ae aj 0,Pl OJ 0 0] 55));have⟨t,Di⟩:∃p,w.heap.size=p:=⟨_,rfl⟩;have X1:ak (Bx E t r.row):=⟨r9⟩;have X2:ak (mg E (t+1) (ae aj 0) (ae aj 0) (ae aj 0) (ae aj 0) (ae aj 0) (Pl OJ 0 0)):=⟨by rw[aP,<-Di];exact Ak _ _ _ _ _ _ _ _ (by simp)⟩;have B1:ak (EI w.heap.size w E):=⟨YW⟩;have Z1:ak (E.heap.size=t+1+1):=⟨by rw[aP,<-Di];simp⟩;go_enter func99,ntmps99;go_upto_region 1 with fail;rw[<-aP];clear aP;have HP5:=sH Di;clear Di;have⟨_,_,T,_⟩:=X1.o.c6;have K0:=au T;have WC1:=sH (λz:aI E=>WC.o z.1 ((R.o.Z B1.o B1.o.size).Z z.2 z.2.size));clear T;refine aQ (λd=>if d=OH 14 then OH (ZEq (ae aj X))else if d=OH 7 then OH (ZX E.heap.size #[ae aj 0,ae aj 0,ae aj 0,ae aj 0,ae aj 0,Pl OJ 0 0])else OJ) 6 rfl aF aF aF aF aF rfl ?_;refine mLw ?_;refine lwA (ZEq (ae aj X)) (λz=> ?_) (λv9 Y=> ?_)
 .go_simp
  exact aZ (ZEq (ae aj X)) ((WC1.o z).mono λe w5 ⟨h1,h2⟩=>⟨_,h1,rfl,h2⟩)
 obtain⟨_,_,rfl⟩:=Y;simp[Act.put];refine mLw ?_;refine lwA (ZX E.heap.size #[ae aj 0,ae aj 0,ae aj 0,ae aj 0,ae aj 0,Pl OJ 0 0]) (λz=> ?_) (λv9 Y=> ?_)
 .go_simp
  exact tL z _ _
 obtain⟨_,_,g,rfl,eU,_⟩:=Y;simp[Act.put];intro z hE;have Z:=ZX.get hE.2;obtain⟨fg,zR⟩:=Z.heap;clear hE K0;refine wp_store_row 55 (.tmp 7) (.tmp 15) rfl g _ rfl rfl fg _ zR aF rfl ed ?_;have X3:=sH (Z.row (ds:=#[ae aj 0,ae aj 0,ae aj r.lv,ae aj 0,ae aj X,Pl OJ 0 0]));have⟨w3,D⟩:=eX (z.1.setRow g #[ae aj 0,ae aj 0,ae aj r.lv,ae aj 0,ae aj X,Pl OJ 0 0]);have B3:ak (EI E.heap.size E w3):=⟨by rw[D];exact below_setRow z.2 eU _⟩;rw[<-D]at X3;rw[<-D];clear D Z zR;have hgp:t+1<g:=by have:=Z1.o;omega
 have It:=B3.o.size;have M:=B1.t B3.o;have X5:ak (Bx w3 t r.row):=⟨X1.o.ar B3.o (by rw[Z1.o];omega)⟩;have X6:ak (mg w3 (t+1) (ae aj 0) (ae aj 0) (ae aj 0) (ae aj 0) (ae aj 0) (Pl OJ 0 0)):=⟨X2.o.ar B3.o (by rw[Z1.o];omega)⟩;have OC1:=sH (OC.o w3 (R.o.Z M.o M.o.size));have⟨_,_,T,_⟩:=X5.o.c6;clear It OC WC WC1 X1 X2 B1 eU B3 Z1;go_wp2_with fail;refine OC1.o.mono ?_;rintro e J ⟨A,c,rfl,o2,b2⟩;have⟨Q2,Y1,Y2⟩:=MO (GQ.new X3.o b2 o2) (X5.o.ar b2 X5.o.lt) (X6.o.ar b2 X6.o.lt);have B2:=M.t b2;have Z2:=sH Q2.o.lt;clear o2 b2 OC1 X3 X5 X6 T M;go_wp2;go_loopg[9,10,23](m+1)(λgg _ _ v23 wr=>∃(k:Nat) (G:aB) (F:Nat),m-k<gg/\k<=m/\v23=ae aj (k:Int)/\ak (GQ g J wr 0 0 r.lv X (P k) G F A L))
 .exact⟨0,OJ,0,aq,aq,rfl,⟨by rw[HP0.o];exact Q2.o⟩⟩
 obtain⟨k,G,F,hg,hk,rfl,Q⟩:=hrel;have BW:ak (EI t J wr):=⟨Q.o.be.mono aq⟩;have BE:ak (EI w.heap.size w wr):=⟨B2.o.trans (BW.o.mono (by have:=HP5.o;omega))⟩;by_cases aG:k<m;rotate_left
 .have i4:=cI k m
  obtain rfl:k=m:=aq;have⟨q0,q1,q2,q3,q4,q5⟩:=Q.o.bx.kV;have R2:=sH (Y2.o.ar Q.o.be aq);have HR:ak (∀W':EE,EI w.heap.size w W'->aA W' J.heap.size 107 4 G (P k).length F ((P k).flatMap kx)->PGb w ⟨0,0,r.lv,0,X,P k⟩ (RE (Q4 #[ae aj 0,ae aj 0,ae aj r.lv,ae aj 0,ae aj X,Pl G (P k).length F])) W'):=⟨λW' h1 h2=>⟨G,F,rfl,aA.gW h2 (B2.o.size),h1⟩⟩;have O2:=sH Q.o.own;clear Q hg;go_wp2_with (refine wpList_store_row rfl 55 (.tmp 6) (.tmp 48) rfl (t+1) _ rfl rfl 55 _ R2.o tB aD (uB _ _ _ _ _ _ _ _) ?_);refine bodyPost_ret (results_cell_row results99 _ _ (t+1) 55 _ (0,0) _ aD (setRow_heap _ _ _ _ _ _ R2.o) underlying55 rfl (by rw[tB];rfl)) rfl ?_;exact HR.o _ (below_setRow BE.o (by have:=HP5.o;omega) _) (aA.iA O2.o (by have:=Z2.o;omega) _)
 have i6:=aU k m;obtain⟨ad,B,x1,x2,s,x,x5,x6,x7,x8,x9,eG,mU,c0,c1,c2,c3,c4,c5,c6,c7,c8,c9⟩:=(R.o.Z BE.o BE.o.size).bK aG;subst eG;have HPk:ak (P (k+1)=P k++[⟨r.fo,B,IK (nth L k+s),x⟩]):=⟨by rw[HP.o,mU];rfl⟩;have jL:=sH hg;clear mU hg;have⟨O,H⟩:=eX ((wr:EE).alloc (RM #[ae aj B,ae aj x1,ae aj x2,ae aj s,ae aj x,ae aj x5,ae aj x6,ae aj x7,ae aj x8,ae aj x9] 126));have S:ak (GQ g J O 0 0 r.lv X (P k) G F A L):=⟨by rw[H];exact Q.o.ar (aw _ _)⟩;have G4:ak (Bx O wr.heap.size #[ae aj B,ae aj x1,ae aj x2,ae aj s,ae aj x,ae aj x5,ae aj x6,ae aj x7,ae aj x8,ae aj x9]):=⟨by rw[H];exact Bx.new _ _ _⟩;go_upto_region 6 with fail;rw[<-H];clear H c0 c1 c2 c3 c4 c5 c6 c7 c8 c9 Q;have⟨c0,_,_,c3,c4,_⟩:=G4.o.Gs;obtain⟨ga,eA,hga,_,e9⟩:=S.o.at_ k (by rw[HLn.o];exact aG);subst eA;have e1:O.cell? ⟨g,5,OJ⟩=OH (Pl G k F):=by have:=S.o.bx.cell 5;rw[C.o k]at this;exact this
 have e3:O.cell? ⟨t,4,OJ⟩=OH (ae aj r.fo):=(Y1.o.ar S.o.be aq).cell 4;have OV:ak (aA O J.heap.size 107 4 G k F ((P k).flatMap kx)):=⟨by have:=S.o.own;rwa [C.o k]at this⟩;have HPp:ak (kx ⟨r.fo,B,IK (nth L k+s),x⟩=[ae aj r.fo,ae aj B,ae aj (IK (nth L k+s)),ae aj x]):=⟨rfl⟩;generalize nth L k=y at*;generalize Lx:wr.heap.size=gq at*;clear Lx;have hk6:k<=100000:=aq;refine jS (N:=19) (k0:=28) (m:=19) [OH (PK (OH ⟨g,5,OJ⟩)),OH (Pl G k F),OH (PK (OH ⟨t,4,OJ⟩)),OH (ae aj r.fo),OH (PK (OH ⟨gq,0,OJ⟩)),OH (ae aj B),OH (Pl (OH ⟨ga,0,OJ⟩) m c),OH (ae aj (k:Int)),OH (PK (OH ⟨ga,k,OJ⟩)),OH (ae aj y),OH (PK (OH ⟨gq,3,OJ⟩)),OH (ae aj s),OH (ae aj (IK (y+s))),OH (PK (OH ⟨gq,4,OJ⟩)),OH (ae aj x),OH (Q4 #[ae aj r.fo,ae aj B,ae aj (IK (y+s)),ae aj x]),OJ,OJ,OH (PK (OH ⟨g,5,OJ⟩))] 16 17 k [ae aj r.fo,ae aj B,ae aj (IK (y+s)),ae aj x] O (λA c W=>∃Wp,EI O.heap.size O Wp/\aA W J.heap.size 107 4 A (k+1) c ((P k).flatMap kx++kx ⟨r.fo,B,IK (y+s),x⟩)/\EI J.heap.size Wp W) rfl aF rfl aF aq (Below.refl _ _) ?_ ?_
 .intro j o Lf bu W hj ho n i l f a' U K hK
  simp only[cN,fV,List.setIfInBounds_toArray,List.set_cons_succ,List.set_cons_zero,Nat.reduceAdd,Nat.add_zero]at U;subst U;have hj:j=0∨j=1∨j=2∨j=3∨j=4∨j=5∨j=6∨j=7∨j=8∨j=9∨j=10∨j=11∨j=12∨j=13∨j=14∨j=15∨j=16∨j=17∨j=18:=aq;have d0:=f.dY 0 _ rfl;have d1:=f.dY 1 _ rfl;have T:=f.dY 2 _ rfl;have d3:=f.dY 3 _ rfl;have d4:=f.dY 4 _ rfl;have d5:=f.dY 5 _ rfl;have d6:=f.dY 6 _ rfl;have d7:=f.dY 7 _ rfl;have d8:=f.dY 8 _ rfl;have d9:=f.dY 9 _ rfl;have d10:=f.dY 10 _ rfl;have d11:=f.dY 11 _ rfl;have d12:=f.dY 12 _ rfl;have d13:=f.dY 13 _ rfl;have d14:=f.dY 14 _ rfl;have I:=f.dY 15 _ rfl
  have v2:IntKind.i64.wrap (y+s)=IK (y+s):=by rw[IntKind.wrap_i64];unfold IK;omega
  rcases hj with rfl|rfl|rfl|rfl|rfl|rfl|rfl|rfl|rfl|rfl|rfl|rfl|rfl|rfl|rfl|rfl|rfl|rfl|rfl
  all_goals(injection ho with ho;subst ho)
  all_goals(simp[Region.binds]at i)
  case' inr.inr.inr.inr.inr.inr.inr.inr.inr.inr.inr.inr.inr.inr.inr.inr.inr.inl=>
   obtain⟨b,eb,hc⟩:=f.box i.2 n;have BB:=f.pre n;have OV2:=aA.ar OV.o BB;have ib:J.heap.size<=W.heap.size:=by have:=BB.size;have:=S.o.be.size;omega
   simp only[d1 i.1,eb];refine wpOp_step rfl (λK9 q=> ?_);refine lG (news:=[ae aj r.fo,ae aj B,ae aj (IK (y+s)),ae aj x]) adV rfl (.tmp 29) (.tmp 44) rfl rfl OV2 rfl rfl hc (by rw[<-HPp.o];exact AW _) aq ib ?_;intro A5 c5 w5 o5 b5 g5 t5;refine q _ _ ?_;change K (Act.put _ (OH 45) _) _;have u:=hK _ _ (f.app rfl ⟨W,BB,o5,b5⟩);simp only[Nat.reduceAdd,Act.put,List.setIfInBounds_toArray,List.set_cons_succ,List.set_cons_zero]at u
   try simp only[d1 i.1,eb]at u
   try simp only[Act.put,List.setIfInBounds_toArray,List.set_cons_succ,List.set_cons_zero]
   exact u
  case' inr.inr.inr.inr.inr.inr.inr.inr.inr.inr.inr.inr.inr.inr.inr.inr.inl=>
   have hp:=l.no (a:=17) n aF;simp only[I i];refine wpOp_step rfl (λK9 q=> ?_);go_simp;refine q _ _ ?_
   skip
   have u:=hK _ _ (f.lay 107 rfl rfl cF hp);simp only[Nat.reduceAdd,Act.put,List.setIfInBounds_toArray,List.set_cons_succ,List.set_cons_zero]at u
   try simp only[I i]at u
   try simp only[Act.put,List.setIfInBounds_toArray,List.set_cons_succ,List.set_cons_zero]
   exact u
  case' inr.inl=>
   have e1:=av e1 (f.pre (l.no (a:=17) n aF))
  case' inr.inr.inr.inl=>
   have e3:=av e3 (f.pre (l.no (a:=17) (l.no (a:=15) n aF) aF))
  case' inr.inr.inr.inr.inr.inl=>
   have c0:=av c0 (f.pre (l.no (a:=17) (l.no (a:=15) n aF) aF))
  case' inr.inr.inr.inr.inr.inr.inr.inr.inr.inl=>
   have e9:=av e9 (f.pre (l.no (a:=17) (l.no (a:=15) n aF) aF))
  case' inr.inr.inr.inr.inr.inr.inr.inr.inr.inr.inr.inl=>
   have c3:=av c3 (f.pre (l.no (a:=17) (l.no (a:=15) n aF) aF))
  case' inr.inr.inr.inr.inr.inr.inr.inr.inr.inr.inr.inr.inr.inr.inl=>
   have c4:=av c4 (f.pre (l.no (a:=17) (l.no (a:=15) n aF) aF))
  all_goals
   try simp only[d0,d1,T,d3,d4,d5,d6,d7,d8,d9,d10,d11,d12,d13,d14,I,i]
   refine wpOp_step rfl (λK9 q=> ?_);go_simp
   try rw[v2]
   refine q _ _ ?_
   skip
   have u:=hK _ _ (f.pure rfl cF cF);simp only[Nat.reduceAdd,Act.put,List.setIfInBounds_toArray,List.set_cons_succ,List.set_cons_zero]at u
   try simp only[d0,d1,T,d3,d4,d5,d6,d7,d8,d9,d10,d11,d12,d13,d14,I,i]at u
   try simp only[Act.put,List.setIfInBounds_toArray,List.set_cons_succ,List.set_cons_zero]
   exact u
 .intro Lf bu W v f a' U
  simp only[cN,fV,List.setIfInBounds_toArray,List.set_cons_succ,List.set_cons_zero,Nat.reduceAdd,Nat.add_zero]at U;subst U;obtain⟨A5,c5,Ey,Wp,bp,o5,b5⟩:=f.post (v 17 aq);have d8:=f.dY 18 _ rfl (v 18 aq);simp only[d8,Ey];have Q5:=sH (S.o.push bp (by rw[C.o k];exact o5) b5);rw[C.o k,<-HPk.o]at Q5;have M:=(S.o.ar bp).bx.ar b5 S.o.lt;have r5:=M.cell 5;have f5:=M.fz 5;clear M bp o5 b5 d8 Ey v f c0 e1 e3 c3 c4 e9;refine wpOp_step rfl (λK9 q=> ?_);go_simp;refine q _ _ ?_;go_wp2;go_roundg(m-k)
  .exact⟨k+1,A5,c5,aq,aq,aV,Q5⟩
  have:=jL.o;omega
section
variable{P:I3}{w:EE}{o:Oper}{a:Act}{R:Exit -> Act -> EE -> Prop}{t e:IQ}{size bytes:Nat}
def Si{K:Act->EE->Prop}(T:aS P t e size bytes)(s x:Operand)
 (Y:o.op=.call {callee:=.builtin .append,args:=#[s,x],argTypes:=#[t,t]}) {B:Nat} {A:aB} {n c:Nat} {vs:List EN} (N:a.eval s=Pl A n c) (f:aA w B e size A n c vs)
 {C:aB} {m d:Nat} {news:List EN} (X:a.eval x=Pl C m d) (U:nu w C m news) (hl:news.length=m*size) (h1:∀u∈news,u.oneCell'=OX)
 (hn:(n+m)*bytes<=140737488355328) (O:B<=w.heap.size)
 (h:∀r c' q,aA q B e size r (n+m) c' (vs++news)->EI B w q->(q=w∨w.grownBy q (Value.slice A n c).ownBlock)->K (a.put o.dst (Pl r (n+m) c')) q):o.wp P a w K R:=by
 obtain⟨i,z,hi,Z,J,E,H⟩:=T.info;have y:=T.Aw;have tS:n+m<=140737488355328:=by
  have h2:(n+m)*1<=(n+m)*bytes:=Nat.mul_le_mul_left _ y;omega
 cases C with
 |none=>
  obtain rfl:m=0:=by
   rcases Nat.eq_zero_or_pos m with l|l
   .exact l
   .obtain⟨_,G,_⟩:=U l;cases G
  obtain rfl:news=[]:=List.eq_nil_of_length_eq_zero Cr;have v:=run_append_nothing (P:=P) w t t o.type e i T.ht hi A n c (aA.le f) (Pl OJ 0 d) (Src.ofNil (size:=i.size) (w:=w) T.ht d);unfold Oper.wp execOp;simp only[Y,resolve,invoke,builtin,Sem.run_bind,Sem.run_pure,Result.andThen_ok,List.map_toArray,List.map_cons,List.map_nil,N,X,v];have:=h A c w (by simpa using f) (Below.refl _ _) (.inl rfl);simp only[Nat.add_zero]at this;exact this
 |some ad=>
  obtain⟨v',q,hr,k,M,_,_⟩:=run_append_own_at (P:=P) w B t o.type e i z size bytes T.ht hi Z J E H T.pos (Pl A n c) n _ f ad m d news hl (λj u V=>by
   have hj:=(List.getElem?_eq_some_iff.1 V).1;obtain⟨D,G,hc⟩:=U (by
    rcases Nat.eq_zero_or_pos m with l|l
    .subst l;omega
    .exact l)
   obtain rfl:ad=D:=Option.some.inj G;exact hc j u V) h1 ri hn O
  unfold Oper.wp execOp;simp only[Y,resolve,invoke,builtin,Sem.run_bind,Sem.run_pure,Result.andThen_ok,List.map_toArray,List.map_cons,List.map_nil,N,X,hr];obtain⟨r,c',rfl⟩:∃r c',v'=Pl r (n+m) c':=by
   rcases k.2 with⟨I,l⟩|⟨g,cap,cur,I,_⟩
   .exact⟨OJ,0,by rw[I,l]⟩
   .exact⟨_,_,I⟩
  exact h r c' q k (aA.dF f M O) (.inr M)
end
def fZ.ag8{w f:EE}{c l c':Nat}{j i:aB}{ps qs:List BoxM}(h:fZ w B A c ps)(k:fZ w B j l qs)(m:aA f B 55 6 i (ps.length+qs.length) c' (ps.flatMap iI++qs.flatMap iI))(g:f=w∨w.grownBy f (Value.slice A ps.length c).ownBlock):fZ f B i c' (ps++qs):=by
 refine⟨?_,λq d=> ?_⟩
 .rw[List.length_append,List.flatMap_append]
  exact m
 .have go:∀q:BoxM,iF w B q.2.1 q.2.2 q.1.gs->iF f B q.2.1 q.2.2 q.1.gs:=λq k=>by
   rcases g with rfl|g
   .exact k
   .exact aA.kept k g (ca k h.row cF) (aA.dU h.row)
  rw[List.mem_append]at d;rcases d with d|d
  .exact go q (h.gl q d)
  .exact go q (k.gl q d)
def lj(p:BoxM):∀u∈iI p,u.oneCell'=OX:=by
 intro u d;simp[iI]at d;rcases d with rfl|rfl|rfl|rfl|rfl|rfl<;>rfl
def aA.VK{w:EE}{n c size:Nat}{e:IQ}{vs:List EN}(h:aA w B e size A n c vs):nu w A n vs:=λi=>by
 obtain⟨g,rfl,_,_⟩:=aA.form h i;refine⟨_,rfl,λj u d=> ?_⟩;have f:=(List.getElem?_eq_some_iff.1 d).1;rw[bC,aA.cellAt h j (by rw[<-h.1];exact f),d]
def Xb(w:EE)(bs:List bj)(e:IS)(d:EE):Prop:=∃(A:aB) (c:Nat) (ps:List BoxM),e=RE (Pl A bs.length c)/\fZ d w.heap.size A c ps/\ps.map (·.1)=bs/\az w d
variable{P:I3}{ops:Array Oper}{Q:Exit -> Act -> EE -> Prop}
structure zi(T:List (Option EN))(c b p:Nat)(S:EN->EE->Prop)(R:EN->List EN)(w2:EE)(F:EN->EE->Prop)(L:Nat->Bool)(bu:Nat->EN)(W:EE):Prop where
 dY:∀k v,T[k]? =OH (OH v)->L k=OX->bu k=v
 pre:L p=OZ->az w2 W
 cal:L c=OX->L p=OZ->S (bu c) W
 box:L b=OX->L p=OZ->∃d:Nat,bu b=Pl (OH ⟨d,0,OJ⟩) 1 1/\∀j u,(R (bu c))[j]? =OH u->W.cell? ⟨d,j,OJ⟩=OH u
 post:L p=OX->F (bu p) W
section
variable{T:List (Option EN)}{c b p:Nat}{S:EN -> EE -> Prop}{R:EN -> List EN}{w2 W W':EE}{F:EN -> EE -> Prop}{L:Nat -> Bool}{bu:Nat -> EN}
def kO{k:Nat}{v:EN}(h:k≠i):oa bu i v k=bu k:=by unfold oa;rw[if_neg h]
def yM{v:EN}:oa bu i v i=v:=by unfold oa;rw[if_pos rfl]
def zi.start(h:az w2 W):zi T c b p S R w2 F (λ_=>OZ) bu W:=⟨λ_ _ _ h=>fD,λ_=>h,λh=>fD,λh=>fD,λh=>fD⟩
def zi.pure(h:zi T c b p S R w2 F L bu W){i:Nat}{v:EN}(r:T[i]? =OH (OH v))(j:i≠c)(n:i≠b)(m:i≠p):zi T c b p S R w2 F (λk=>k==i||L k) (oa bu i v) W:=by
 have q:(c==i)=OZ:=by simpa using Ne.symm j
 have s:(b==i)=OZ:=by simpa using Ne.symm n
 have g:(p==i)=OZ:=by simpa using Ne.symm m
 refine⟨λk u f hk=> ?_,λd=>h.pre (by simpa[g]using d),λd l=> ?_,λd l=> ?_,λd=> ?_⟩
 .by_cases ph:k=i
  .subst ph
   rw[yM];rw[r]at f;injection f with f
   injection f
  .rw[kO ph]
   have:(k==i)=OZ:=CV;exact h.dY k u f CY
 .rw[kO (Ne.symm j)]
  exact h.cal (by simpa[q]using d) (by simpa[g]using l)
 .rw[kO (Ne.symm n),kO (Ne.symm j)]
  exact h.box (by simpa[s]using d) (by simpa[g]using l)
 .rw[kO (Ne.symm m)]
  exact h.post (by simpa[g]using d)
def zi.call(h:zi T c b p S R w2 F L bu W){v:EN}(s:T[c]? =OH OJ)(i:c≠b)(g:c≠p)(j:L b=OZ)(d:L p=OZ)(m:S v W')(q:az W W'):zi T c b p S R w2 F (λk=>k==c||L k) (oa bu c v) W':=by
 have r:(b==c)=OZ:=by simpa using Ne.symm i
 have n:(p==c)=OZ:=by simpa using Ne.symm g
 refine⟨λk u l hk=> ?_,λf=>(h.pre d).trans (q.mono (h.pre d).size),λ_ _=> ?_,λf=> ?_,λf=> ?_⟩
 .by_cases ph:k=c
  .subst ph;rw[s]at l;simp at l
  .rw[kO ph]
   have:(k==c)=OZ:=CV;exact h.dY k u l CY
 .rw[yM];exact m
 .rw[r,j]at f;cases f
 .rw[n,d]at f;cases f
def zi.lay(h:zi T c b p S R w2 F L bu W)(q:∀v W W',S v W->az W W'->S v W'){cs:Array EN}(t:IQ)(n:cs=(R (bu c)).toArray)(s:T[b]? =OH OJ)(f:c≠b)(m:b≠p)(i:L c=OX)(g:L p=OZ):zi T c b p S R w2 F (λk=>k==b||L k) (oa bu b (Pl (OH ⟨W.heap.size,0,OJ⟩) 1 1)) (W.alloc (RM cs t)):=by
 have r:(p==b)=OZ:=by simpa using Ne.symm m
 refine⟨λk u d hk=> ?_,λl=>(h.pre g).alloc (h.pre g).size _,λ_ _=> ?_,λ_ _=>⟨_,yM,λj u d=> ?_⟩,λl=>by rw[r,g]at l;cases l⟩
 .by_cases ph:k=b
  .subst ph;rw[s]at d;simp at d
  .rw[kO ph]
   have:(k==b)=OZ:=CV;exact h.dY k u d CY
 .rw[kO f]
  exact q _ _ _ (h.cal i g) (aw _ _)
 .rw[kO f]at d
  rw[cell_of_row _ _ _ _ _ _ (heap_alloc_new W _),n];simpa using d
def zi.app(h:zi T c b p S R w2 F L bu W){v:EN}(j:T[p]? =OH OJ)(i:F v W'):zi T c b p S R w2 F (λk=>k==p||L k) (oa bu p v) W':=by
 refine⟨λk u f hk=> ?_,λg=>by simp at g,λ_ d=>by simp at d,λ_ d=>by simp at d,λ_=>by rw[yM];exact i⟩;by_cases ph:k=p
 .subst ph;rw[j]at f;simp at f
 .rw[kO ph]
  have:(k==p)=OZ:=CV;exact h.dY k u f CY
def vu{C N k0:Nat}{a:Act}{w:EE}(T:List (Option EN))(c b p:Nat)(S:EN->EE->Prop)(R:EN->List EN)(w2:EE)(F:EN->EE->Prop)(A:P.follows .mixedOrders=OX)(u:fT ops=OX)(z:ops.size=N+1)(s:ij ops N=OX)(B:N<=m)(y:az w2 w)
 (f:∀i o L bu W,i<N->ops[i]? =OH o->L i=OZ->o.after.all (λe=> !Region.binds .any e||L e.on)=OX->RQ ops L->zi T c b p S R w2 F L bu W->∀d,d=cN a k0 m bu->∀K:Act->EE->Prop,(∀v W',zi T c b p S R w2 F (λk=>k==i||L k) (oa bu i v) W'->K (d.put (OH (k0+i)) v) W')->wpOp P ops Q i K d W)
 (h:∀L bu W,(∀i,i<N->L i=OX)->zi T c b p S R w2 F L bu W->∀d,d=cN a k0 m bu->wpOp P ops Q N (λa w=>Q .normal a w) d W):(Code.region C ops OX).wp P Q a w:=by
 refine nk A u z s (λL d W=>∃bu,zi T c b p S R w2 F L bu W/\d=cN a k0 m bu) ⟨λk=>a.tmps.getD (k0+k) undef,zi.start y.drew, ?_⟩ ?_ ?_
 .unfold cN
  rw[ke]
 .rintro i o L d W hi D q j r ⟨bu,n,l⟩
  exact f i o L bu W hi D q j r n d l _ λv W' x=>⟨_,x,by rw[uU (by omega),l]⟩
 .rintro L d W g ⟨bu,n,l⟩
  exact h L bu W g n d l
end
def xQ(l:aC):∀z,mQ l z<=z
 |0=>by rw[uk];omega
 |z+1=>by
  cases h:mC l z
  .rw[uj h];have:=xQ l z;omega
  .rw[pk h];omega
def NG(l:aC){z:Nat}(h:0<z):mQ l z<z:=by
 obtain⟨k,rfl⟩:∃k,z=k+1:=⟨z-1,aq⟩;cases h:mC l k
 .rw[uj h];have:=xQ l k;omega
 .rw[pk h];omega
def wQ(ts:aC)(f:Int)(m z:Nat)(a:z<=m):jP ts f m z=if(mQ (ks ts) z:Int)<=f then z else if jZ ts (mQ (ks ts) z) (z-mQ (ks ts) z)=OX then z else jP ts f (m-1) (mQ (ks ts) z):=by
 cases m with
 |zero=>
  obtain rfl:z=0:=aq;show 0=_;rw[uk];split
  .rfl
  .simp[jZ,jP]
 |succ m=>rfl
def tD(ts:aC)(f:Int):∀m z,jP ts f m z<=z
 |0,z=>Nat.le_refl _
 |m+1,z=>by
  unfold jP;split
  .exact Nat.le_refl _
  .split
   .exact Nat.le_refl _
   .exact Nat.le_trans (tD ts f m _) (xQ _ _)
def Gl{ts:aC}{k:Nat}:∀{m n:Nat},m<=n->jZ ts k m=OX->jZ ts k n=OX
 |0,_,_,h=>by simp[jZ]at h
 |m+1,0,h,_=>by omega
 |m,n+1,h,e=>by
  rcases Nat.eq_or_lt_of_le h with rfl|h
  .exact e
  .unfold jZ;rw[Gl (m:=m) (n:=n) aq e];rfl
def AQ{ts:aC}{f t:Nat}:∀{k:Nat},f+k<=t->jZ ((ts.take t).drop f) 0 k=jZ ts f k
 |0,_=>rfl
 |k+1,h=>by
  unfold jZ;rw[AQ (k:=k) aq]
  congr 2
  unfold nth;simp only[List.getD_eq_getElem?_getD,List.getElem?_drop,List.getElem?_take];rw[if_pos aq,Nat.zero_add]
def aeo(w:EE)(b:Bool)(e:IS)(a:EE):Prop:=∃z:Int,e=RE (ae aj z)/\decide (0<=z)=b/\az w a
def Ay(A:aB)(n c:Nat)(xs:aC)(w:EE)(h:aJ .i32 w A n c xs)(p:Laid w)(B:n<=100000):GK prog 284 #[Pl A n c,.func (.func 244) #[] #[]] w (aeo w (jZ xs 0 n)):=by
 have⟨R,r⟩:=K' h p;have z:∀args w,(callFunc 244 args).run prog w=.ok (.enter 244 args) w:=λargs w=>by
  first|rfl|(simp[callFunc,go_sem])
 go_enter func284,ntmps284;go_wp2;go_loopg[8](n+1)(λgg v wr=>∃i:Nat,n-i<gg/\i<=n/\v=ae aj (i:Int)/\ak (jZ xs 0 i=OZ)/\ak (az w wr))
 .exact⟨0,aq,aq,rfl,⟨rfl⟩,cJ⟩
 obtain⟨i,x,hi,rfl,l,b⟩:=hrel;by_cases a:i<n;rotate_left
 .have q:=cI i n
  obtain rfl:i=n:=aq;go_wp2;go_ret;exact⟨_,rfl,by rw[l.o];rfl,b.o⟩
 have q:=aU i n;obtain⟨u,rfl,t⟩:=(R.o.ar b.o).ce a;obtain⟨f,g⟩:=bounds_i32 (R.o.cZ a);have e:ak (jZ xs 0 (i+1)=oI (nth xs i)):=⟨by rw[jZ,l.o,Nat.zero_add];rfl⟩;have m:ak (jZ xs 0 (i+1)=OX->jZ xs 0 n=OX):=⟨Gl aq⟩;have k:=sH (Fi (nth xs i) f g wr (r.o.ar b.o));have⟨o,d⟩:=eY (oI (nth xs i));rw[d]at e k;generalize nth xs i=y at*;go_wp2_with fail;refine callK k.o b λC D j=> ?_;cases o
 .go_wp2
  go_roundg(n-i)
  .exact⟨i+1,aq,aq,aV,e,j⟩
  omega
 .have s:=sH (m.o e.o)
  go_wp2;go_ret;exact⟨_,rfl,by rw[s.o];simp,j.o⟩
def adH(A:aB)(n c:Nat)(xs:aC)(w:EE)(h:aJ .i32 w A n c xs)(d:Laid w)(l:n<=100000):GK prog 173 #[Pl A n c] w λe f=>e=RE (PF (!jZ xs 0 n))/\az w f:=by
 have j:ak (∀W,aJ .i32 W A n c xs->Laid W->GK prog 243 #[Pl A n c,.func (.func 244) #[] #[]] W λe f=>e=RE (PF (jZ xs 0 n))/\az W f):=⟨λW h d=>by
  have b:=sH (Ay A n c xs W h d l);go_enter func243,ntmps243;go_wp2_with fail;refine b.o.mono ?_;rintro e m ⟨z,rfl,i,g⟩;have⟨a,k⟩:=K' g i;go_wp2;go_ret;exact⟨by rw[<-k.o];rfl,a.o⟩⟩
 have b:=sH (j.o w h d);go_enter func173,ntmps173;go_wp2_with fail;refine b.o.mono ?_;rintro e m ⟨rfl,g⟩;have a:=sH g;go_wp2;go_ret;exact⟨rfl,a.o⟩
def RT{l:aC}{z:Nat}(h:z<=l.length):po l (z:Int)=mQ l z:=by
 unfold po;rw[Int.toNat_natCast,Nat.min_eq_left aq]
def ND(A:aB)(n c:Nat)(ts:aC)(f t:Nat)(w:EE)(h:aJ .i32 w A n c ts)(I:Laid w)(hn:n<=100000)(Z:t<=n):GK prog 100 #[Pl A n c,ae aj (f:Int),ae aj (t:Int)] w λe S=>e=RE (ae aj (jP ts f t t:Int))/\az w S:=by
 have R:ak _:=⟨h⟩;have J:ak _:=⟨I⟩;have hlen:=h.at_.1;have⟨L,u⟩:∃L,jP ts f t t=L:=⟨_,rfl⟩;have T:ak _:=⟨u⟩;rw[u];clear h I u;go_enter func100,ntmps100;go_wp2;go_loopg[2,7](t+1)(λgg v2 _ wr=>∃(z:Nat),z<gg/\z<=t/\v2=ae aj (z:Int)/\ak (∃m,z<=m/\jP ts f m z=L)/\ak (az w wr))
 .exact⟨t,aq,Nat.le_refl _,rfl,⟨t,Nat.le_refl _,T.o⟩,cJ⟩
 obtain⟨z,H,Y,rfl,O,j⟩:=hrel;have l:ak _:=⟨JE A n c ts (z:Int) wr (R.o.ar j.o) (J.o.ar j.o) aq⟩;rw[RT (by rw[oH];omega)]at l;have o:=xQ (ks ts) z;have x:ak (0<z->mQ (ks ts) z<z):=⟨NG _⟩;have i:ak (L=if(mQ (ks ts) z:Int)<=(f:Int)then z else if jZ ts (mQ (ks ts) z) (z-mQ (ks ts) z)=OX then z else L):=⟨by
  obtain⟨m,B,e⟩:=O.o;have:=wQ ts f m z B;rw[e]at this;split
  .rename_i a;rw[if_pos a]at this;exact this
  .split
   .rename_i a g;rw[if_neg a,if_pos g]at this;exact this
   .rfl⟩
 have y:ak (¬(mQ (ks ts) z:Int)<=(f:Int)->¬jZ ts (mQ (ks ts) z) (z-mQ (ks ts) z)=OX->∃m,mQ (ks ts) z<=m/\jP ts f m (mQ (ks ts) z)=L):=⟨λa g=>by
  obtain⟨m,B,e⟩:=O.o;have:=wQ ts f m z B;rw[if_neg a,if_neg g,e]at this;have:=NG (ks ts) (z:=z) aq;exact⟨m-1,aq,aq⟩⟩
 generalize mQ (ks ts) z=p at*;have v:ak (z<gk):=⟨H⟩;clear H;go_wp2_with fail;refine l.o.mono ?_;rintro e K ⟨rfl,M⟩;have b:ak (az w K):=⟨j.o.trans (M.mono j.o.size)⟩;clear M l;by_cases a:(p:Int)<=(f:Int)
 .have E:ak (L=z):=⟨by have:=i.o;rw[if_pos a]at this;exact this⟩
  have g:decide ((p:Int)<=(f:Int))=OX:=Je;have U:decide (p<=f)=OX:=Je;have P:p<=f:=aq;clear i y;go_wp2;go_ret;exact⟨zp,b.o⟩
 have U:decide (p<=f)=OZ:=ji;have P:¬p<=f:=aq;have X:p<z:=x.o aq;obtain⟨V,W,r⟩:=jC aeI A n c p z o aq R.o.le (p:Int) (z:Int) rfl rfl;have N:=r.run;have Q:ak _:=⟨r.gI (R.o.ar b.o)⟩;have s:ak _:=⟨adH V (z-p) W _ K Q.o (J.o.ar b.o) aq⟩;rw[AQ aq]at s;have D:ak (L=if jZ ts p (z-p)=OX then z else L):=⟨by have:=i.o;rwa [if_neg a]at this⟩;have C:ak _:=⟨y.o aq⟩;generalize jZ ts p (z-p)=q at*;clear i y r a;cases q
 .have F:ak _:=⟨C.o aT⟩
  go_wp2_with fail;refine s.o.mono ?_;rintro e G ⟨rfl,d⟩;have k:ak (az w G):=⟨b.o.trans (d.mono b.o.size)⟩;clear d;go_wp2;go_roundg z
  case measure=>have:=v.o;omega
  case rel=>exact⟨p,aq,aq,rfl,F,k⟩
 .have E:ak (L=z):=⟨by have:=D.o;rw[if_pos rfl]at this;exact this⟩
  go_wp2_with fail;refine s.o.mono ?_;rintro e G ⟨rfl,d⟩;have k:ak (az w G):=⟨b.o.trans (d.mono b.o.size)⟩;clear d;go_wp2;go_ret;exact⟨zp,k.o⟩
def wM(a:aC):∀i,0<i->dw (jy a i) 0=0
 |0,h=>by omega
 |1,_=>by simp[jy,dw]
 |i+2,_=>by
  have ih:=wM a (i+1) aq;rw[jy];split
  .exact ih
  .rw[cA (lI a (i+1) aq),ih]
def Jc(b:aC)(n:Nat):0<(dI b n).length↔0<n:=by
 rw[kH];constructor
 .intro h
  rcases Nat.eq_zero_or_pos n with a|a
  .subst a;simp[jy]at h
  .exact a
 .exact lI b n
def xA(a:aC)(n:Nat)(h:0<n):(cV (dI a n) 0).1=0:=by
 have c:=wM a n h;have b:=lI a n h;unfold dI;rw[kN _ _ _ b,cA b,c]
structure Ws(w:EE)(T:aB)(tn c:Nat)(ts:aC)(x:fv):Prop where
 tx:aJ .i32 w T tn c ts
 rx:Rx w w.heap.size 10 x.q.gs x.G x.q.gs.length
 cl:∀j,j<x.q.gs.length->(x.q.f:Int)<=nth (aM x.q.gs) j/\nth (aM x.q.gs) j<x.q.t
 ne:x.q.f<x.q.t
 tl:x.q.t<=tn
 gl:x.q.gs.length<=100000
 tol:bA x.q.gs 0 x.q.gs.length
 tm:tn<=100000
 cap:x.q.gs.length<=x.gc
def Ws.Z{b:EE}{T:aB}{d:Nat}{x:fv}(h:Ws w T d c ts x)(a:az w b):Ws b T d c ts x:=⟨h.tx.ar a,h.rx.Z a a.size,h.cl,h.ne,h.tl,h.gl,h.tol,h.tm,h.cap⟩
def ac'(ts:aC)(q:fX)(g:Nat)(lv fo:Int)(c:List (Nat×Nat))(i:Nat):Prop:=∃a b f t:Nat,cV c i=(a,b)/\a<b/\b<=q.gs.length/\nth (aM q.gs) a=(f:Int)/\t<=g/\
 gH ts q lv fo c (i+1)=gH ts q lv fo c i++(lO f (jP ts f t t:Nat) lv fo q.gs a b::if jP ts f t t<t then[jH (jP ts f t t:Nat) t lv]else[])/\
 (i+1<c.length->∃d e:Nat,cV c (i+1)=(d,e)/\d<q.gs.length/\nth (aM q.gs) d=(t:Int))/\(¬i+1<c.length->t=q.t)
def Ws.dI{T:aB}{l:Nat}{x:fv}(h:Ws w T l c ts x)(lv fo:Int){i:Nat}(hi:i<(dI (aM x.q.gs) x.q.gs.length).length):ac' ts x.q l lv fo (dI (aM x.q.gs) x.q.gs.length) i:=by
 obtain⟨r,s,u⟩:=mV (aM x.q.gs) x.q.gs.length i hi;have m:∀j,j<x.q.gs.length->∃f:Nat,nth (aM x.q.gs) j=(f:Int)/\f<x.q.t:=λj p=>by
  have:=h.cl j p;exact⟨(nth (aM x.q.gs) j).toNat,aq,aq⟩
 have a:i+1<(Go.Proofs.YtijcgdkpconjcaaGreatDoor.dI (aM x.q.gs) x.q.gs.length).length->(cV (Go.Proofs.YtijcgdkpconjcaaGreatDoor.dI (aM x.q.gs) x.q.gs.length) (i+1)).1<x.q.gs.length:=λh=>by
  have:=mV (aM x.q.gs) x.q.gs.length (i+1) h;omega
 obtain⟨f,n,o⟩:=m _ (show(cV (Go.Proofs.YtijcgdkpconjcaaGreatDoor.dI (aM x.q.gs) x.q.gs.length) i).1<x.q.gs.length by omega);have q:=h.tl;obtain⟨t,k,g⟩:∃t:Nat,qW x.q (Go.Proofs.YtijcgdkpconjcaaGreatDoor.dI (aM x.q.gs) x.q.gs.length) i=(t:Int)/\t<=l:=by
  unfold qW;split
  .rename_i b
   obtain⟨t,e,_⟩:=m _ (a b);exact⟨t,e,aq⟩
  .exact⟨x.q.t,rfl,aq⟩
 refine⟨_,_,f,t,rfl,r,s,n,g, ?_,λb=>⟨_,_,rfl,a b, ?_⟩,λb=> ?_⟩
 .show _++mL ts x.q lv fo _ i=_
  congr 1
  unfold mL;have d:nth (aM x.q.gs) ((Go.Proofs.YtijcgdkpconjcaaGreatDoor.dI (aM x.q.gs) x.q.gs.length).getD i (0,0)).1=(f:Int):=n;simp only[d,k,Int.toNat_natCast]
  congr 1
  split
  .rename_i h;rw[if_pos aq]
  .rename_i h;rw[if_neg aq]
 .rw[<-k];unfold qW;rw[if_pos b];rfl
 .have:=k;unfold qW at this;rw[if_neg b]at this;omega
def KI(w:EE)(B:Nat)(b:List (Nat×Nat))(A:aB):Prop:=∀i,i<b.length->∃a,A=OH ⟨a,0,OJ⟩/\a<B/\w.cell? ⟨a,i*2,OJ⟩=OH (ae aj (cV b i).1)/\w.cell? ⟨a,i*2+1,OJ⟩=OH (ae aj (cV b i).2)
def KI.of{a:List (Nat×Nat)}(h:Dl w B a A a.length c):KI w w.heap.size a A:=λi hi=>by
 obtain⟨b,rfl,_,d⟩:=aA.form h aq;obtain⟨e,f⟩:=jY a i hi;exact⟨b,rfl,d,(aA.cellAt h _ aq).trans e,(aA.cellAt h _ aq).trans f⟩
def KI.ar{d:EE}{c:List (Nat×Nat)}(h:KI w B c A)(b:EI B w d):KI d B c A:=λi hi=>by
 obtain⟨f,e,a,g,j⟩:=h i hi;exact⟨f,e,a,(b.cell a).trans g,(b.cell a).trans j⟩
structure rQ(w:EE)(B:Nat)(A:aB)(m c:Nat)(bs:List bj)(ps:List BoxM):Prop where
 own:fZ w B A c ps
 eq:ps.map (·.1)=bs
 len:ps.length=m
def rQ.nil(w:EE)(B:Nat):rQ w B OJ 0 0 [] []:=⟨fZ.nil _ _,rfl,rfl⟩
def rQ.ar{a:EE}{ps:List BoxM}(h:rQ w B A m c bs ps)(b:az w a):rQ a B A m c bs ps:=⟨h.own.ar b,h.eq,h.len⟩
def rQ.row{ps:List BoxM}(h:rQ w B A m c bs ps):aA w B 55 6 A m c (ps.flatMap iI):=by have:=h.own.row;rwa [h.len]at this
def rQ.push{a:EE}{c':Nat}{b:aB}{ps:List BoxM}(h:rQ w B A m c bs ps)(p:BoxM)(d:aA a B 55 6 b (m+1) c' (ps.flatMap iI++iI p))(e:w.grownBy a (Value.slice A m c).ownBlock)(f:iF w B p.2.1 p.2.2 p.1.gs):rQ a B b (m+1) c' (bs++[p.1]) (ps++[p]):=
 ⟨h.own.push (by rw[h.len];exact d) (by rw[h.len];exact e) f,by rw[List.map_append,h.eq];rfl,by rw[List.length_append,h.len];rfl⟩
def rQ.done{w0:EE}{ps:List BoxM}(h:rQ w B A m c bs ps)(b:w0.heap.size<=B)(a:az w0 w):Xb w0 bs (RE (Pl A m c)) w:=
 ⟨A,c,ps,by rw[<-h.eq,List.length_map,h.len],h.own.gW b,h.eq,a⟩
def xW(f t lv:Int):iI (jH f t lv,OJ,0)=[ae aj f,ae aj t,ae aj lv,ae aj 0,ae aj 0,Pl OJ 0 0]:=rfl
def EW(a:aC):∀i k,0<k->k<(jy a i).length->nth a (dw (jy a i) k-1)≠nth a (dw (jy a i) k)
 |0,k,_,h=>by simp[jy]at h
 |i+1,k,hk,h=>by
  unfold jy at h⊢;split at h
  .rename_i b;rw[if_pos b];exact EW a i k hk h
  .rename_i b
   rw[if_neg b];rcases Nat.lt_or_ge k (jy a i).length with d|d
   .rw[cA d];exact EW a i k hk d
   .simp at h
    have e:k=(jy a i).length:=aq;subst e;rw[iE];intro f;refine b ⟨?_,f⟩;rcases Nat.eq_zero_or_pos i with c|c
    .subst c;simp[jy]at hk
    .exact c
def aaL{lo hi:Int}{a:aC}(h:CS lo hi a){n k:Nat}(g:n<=a.length)(b:k+1<(dI a n).length):nth a (cV (dI a n) k).1<nth a (cV (dI a n) (k+1)).1:=by
 rw[kH]at b;have e:=EW a n (k+1) aq b;have f:=ya a n k b;have c:=qy a n (k+1) b;unfold dI;rw[kN _ _ _ aq,kN _ _ _ b,cA aq,cA b];have l:=h.le (i:=dw (jy a n) k) (j:=dw (jy a n) (k+1)-1) aq aq;have d:=h.le (i:=dw (jy a n) (k+1)-1) (j:=dw (jy a n) (k+1)) aq aq;show nth a (dw (jy a n) k)<nth a (dw (jy a n) (k+1));omega
def lB:List bj->Int->Int->Prop
 |[],a,b=>a=b
 |x::l,a,b=>x.f=a/\x.f<x.t/\lB l x.t b
def lB.app:∀{l m:List bj} {a b c:Int},lB l a b->lB m b c->lB (l++m) a c
 |[],_,_,_,_,h,k=>by obtain rfl:_=_:=h;exact k
 |x::l,m,a,b,c,h,k=>⟨h.1,h.2.1,lB.app h.2.2 k⟩
def lB.one{x:bj}{a b:Int}(c:x.f=a)(d:x.t=b)(e:a<b):lB [x] a b:=⟨c,aq,d⟩
def Hk(ts:aC)(f:Int):∀m (z:Nat),f<(z:Int)->f<(jP ts f m z:Nat)
 |0,z,h=>h
 |m+1,z,h=>by
  unfold jP;split
  .exact h
  .split
   .exact h
   .exact Hk ts f m _ aq
def zM{a:List (Nat×Nat)}(h:nth (aM q.gs) (a.getD i (0,0)).1<qW q a i)(d:0<=qW q a i):lB (mL ts q lv fo a i) (nth (aM q.gs) (a.getD i (0,0)).1) (qW q a i):=by
 unfold mL;have c:=Hk ts (nth (aM q.gs) (a.getD i (0,0)).1) (qW q a i).toNat (qW q a i).toNat aq;have f:=tD ts (nth (aM q.gs) (a.getD i (0,0)).1) (qW q a i).toNat (qW q a i).toNat;dsimp only;generalize jP ts (nth (aM q.gs) (a.getD i (0,0)).1) (qW q a i).toNat (qW q a i).toNat=e at*;refine⟨rfl,c, ?_⟩;split
 .rename_i b
  exact lB.one rfl rfl b
 .rename_i b
  show(e:Int)=_;omega
def uC{ts:aC}{q:fX}{lv fo:Int}{a:List (Nat×Nat)}(c:0<a.length)(b:∀i,i<a.length->nth (aM q.gs) (a.getD i (0,0)).1<qW q a i/\0<=qW q a i):∀i,i+1<=a.length->lB (gH ts q lv fo a (i+1)) (nth (aM q.gs) (a.getD 0 (0,0)).1) (qW q a i)
 |0,h=>by
  show lB ([]++mL ts q lv fo a 0) _ _;exact zM (b 0 c).1 (b 0 c).2
 |i+1,h=>by
  have ih:=uC (ts:=ts) (lv:=lv) (fo:=fo) c b i aq;have d:=zM (ts:=ts) (lv:=lv) (fo:=fo) (b (i+1) aq).1 (b (i+1) aq).2;have e:qW q a i=nth (aM q.gs) (a.getD (i+1) (0,0)).1:=by unfold qW;rw[if_pos (by omega)]
  rw[e]at ih;exact ih.app d
def JO(h:CS q.f q.t (aM q.gs))(x:q.f<q.t):lB (fu ts q lv fo) q.f q.t:=by
 unfold fu mE;have w:=dK q.gs;by_cases a:q.gs.length=0
 .rw[if_pos a]
  have e:dI (aM q.gs) q.gs.length=[]:=by rw[a];rfl
  rw[e];exact lB.one rfl rfl (by show(q.f:Int)<q.t;omega)
 .rw[if_neg a]
  have b:0<(dI (aM q.gs) q.gs.length).length:=(Jc _ _).2 aq;have s:=xA (aM q.gs) q.gs.length aq;have f:∀i,i<(dI (aM q.gs) q.gs.length).length->(cV (dI (aM q.gs) q.gs.length) i).1<(aM q.gs).length:=λi hi=>by
   have:=mV (aM q.gs) q.gs.length i hi;omega
  have g:∀i,i<(dI (aM q.gs) q.gs.length).length->nth (aM q.gs) ((dI (aM q.gs) q.gs.length).getD i (0,0)).1<qW q (dI (aM q.gs) q.gs.length) i/\0<=qW q (dI (aM q.gs) q.gs.length) i:=λi hi=>by
   have o:=h.at_ (f i hi);unfold qW;split
   .rename_i d
    have k:=aaL h (n:=q.gs.length) aq d;exact⟨k,by have v:=h.at_ (f _ d);show 0<=nth _ (cV _ _).1;omega⟩
   .exact⟨o.2,aq⟩
  obtain⟨m,p⟩:∃m,(dI (aM q.gs) q.gs.length).length=m+1:=⟨_,(Nat.succ_pred_eq_of_pos b).symm⟩;have key:=uC (ts:=ts) (lv:=lv) (fo:=fo) b g m aq;have l:((dI (aM q.gs) q.gs.length).getD 0 (0,0)).1=0:=s;have r:qW q (dI (aM q.gs) q.gs.length) m=q.t:=by unfold qW;rw[if_neg (by omega)]
  rw[l,r,<-p]at key;split
  .rename_i c
   exact(lB.one rfl rfl c).app key
  .rename_i c
   have u:=h.at_ (j:=0) aq;have t:nth (aM q.gs) 0=q.f:=aq;rw[t]at key;exact key
def Xt{rn:List (Int×Int)}{W Bg:aC}{ps:List fX}(h:∀i,i<ps.length->CS (cW ps i).f (cW ps i).t (aM (cW ps i).gs)/\(cW ps i).f<(cW ps i).t)(c:∀i,i+1<ps.length->(cW ps i).t=(cW ps (i+1)).f):∀i,i+1<=ps.length->lB (eE ts rn W Bg ps (i+1)).1 (cW ps 0).f (cW ps i).t:=by
 have step:∀i,i<ps.length->∃m,(eE ts rn W Bg ps (i+1)).1=(eE ts rn W Bg ps i).1++m/\lB m (cW ps i).f (cW ps i).t:=λi hi=>by
  obtain⟨d,f⟩:=h i hi;by_cases b:(cW ps i).iX=OX
  .refine⟨[⟨(cW ps i).f,(cW ps i).t,(rn.getD (cW ps i).run (0,0)).1,0,if(eE ts rn W Bg ps i).2+1<Bg.length then IK (IK (nth Bg ((eE ts rn W Bg ps i).2+1)-nth Bg (eE ts rn W Bg ps i).2)-nth W (eE ts rn W Bg ps i).2)else 0,[]⟩], ?_,lB.one rfl rfl (by show((cW ps i).f:Int)<(cW ps i).t;omega)⟩
   rw[eE];exact congrArg Prod.fst (if_pos b)
  .refine⟨fu ts (cW ps i) (rn.getD (cW ps i).run (0,0)).1 (rn.getD (cW ps i).run (0,0)).2, ?_,JO d f⟩
   rw[eE];exact congrArg Prod.fst (if_neg b)
 intro i
 induction i with
 |zero=>
  intro hi;obtain⟨m,e,a⟩:=step 0 aq;rw[e];exact a
 |succ i ih=>
  intro hi;obtain⟨m,e,a⟩:=step (i+1) aq;rw[e];have:=ih aq;rw[c i aq]at this;exact this.app a
def ZBx(B:Nat)(g:bj)(v:EN)(w:EE):Prop:=∃G a,v=Q4 (iI (g,G,a)).toArray/\iF w B G a g.gs
def ZBx.ar(B:Nat)(g:bj)(v:EN)(w a:EE)(h:ZBx B g v w)(b:az w a):ZBx B g v a:=by
 obtain⟨G,c,e,h⟩:=h;exact⟨G,c,e,h.ar b⟩
def agt:EN->List EN
 | Q4 cs=>cs.toList
 |_=>[]
def afV{G:Prop}(s:G:=by
 have aG:=h.lt;have h':w.heap[b]=RM #[x0,x1,x2,x3,x4,x5] 55 (0,0):=by unfold mg at h;simpa[Array.getElem?_eq_getElem aG]using h
 show(w.heap.modify b _)[b]? =_;rw[Array.getElem?_eq_getElem CG,Array.getElem_modify_self,h'];rfl):G:=s
def mg.Vq{b:Nat}{x0 x1 x2 x3 x4 x5:EN}(h:mg w b x0 x1 x2 x3 x4 x5)(v:EN):mg (w.setCell ⟨b,0,OJ⟩ v) b v x1 x2 x3 x4 x5:=by
 exact afV
def mg.QM{b:Nat}{x0 x1 x2 x3 x4 x5:EN}(h:mg w b x0 x1 x2 x3 x4 x5)(v:EN):mg (w.setCell ⟨b,1,OJ⟩ v) b x0 v x2 x3 x4 x5:=by
 exact afV
structure Km(w0 W:EE)(g:Nat)(b:bj)(f t:Int)(G:aB)(gc:Nat):Prop where
 kV:mg W g (ae aj f) (ae aj t) (ae aj b.lv) (ae aj b.x) (ae aj b.wd) (Pl G b.gs.length gc)
 own:iF W w0.heap.size G gc b.gs
 be:az w0 W
 le:w0.heap.size<=g
section
variable{w0 W W':EE}{g:Nat}{b:bj}{f t:Int}{G:aB}{gc:Nat}
def Km.ar(h:Km w0 W g b f t G gc)(a:az W W'):Km w0 W' g b f t G gc:=⟨h.kV.ar a h.kV.lt,h.own.ar a,h.be.trans (a.mono h.be.size),h.le⟩
def Km.Vq(h:Km w0 W g b f t G gc)(y:Int):Km w0 (W.setCell ⟨g,0,OJ⟩ (ae aj y)) g b y t G gc:=⟨h.kV.Vq _,aA.mj h.own (kR h.own h.kV cF) _,Below.setCell h.be (p:=⟨g,0,OJ⟩) h.le _,h.le⟩
def Km.QM(h:Km w0 W g b f t G gc)(y:Int):Km w0 (W.setCell ⟨g,1,OJ⟩ (ae aj y)) g b f y G gc:=⟨h.kV.QM _,aA.mj h.own (kR h.own h.kV cF) _,Below.setCell h.be (p:=⟨g,1,OJ⟩) h.le _,h.le⟩
end
def ZGb(B:Nat)(g:bj):Sat:=⟨λv w=>∃G gc,v=Q4 #[ae aj g.f,ae aj g.t,ae aj g.lv,ae aj g.x,ae aj g.wd,Pl G g.gs.length gc]/\iF w B G gc g.gs,λv w c ⟨G,gc,e,h⟩ a=>⟨G,gc,e,h.ar a⟩⟩
def ZGb.get{g:bj}{c a v2 v3 v4:EN}{G:aB}{gc:Nat}(h:(ZGb B g).p (Q4 #[c,a,v2,v3,v4,Pl G m gc]) w):iF w B G gc g.gs:=by
 obtain⟨i,d,e,h⟩:=h;simp at e;obtain⟨_,_,_,_,_,rfl,_,rfl⟩:=e;exact h
def Nd(x:fv)(r:Rn)(T:aB)(tn c:Nat)(ts:aC)(w:EE)(h:Ws w T tn c ts x)(hl:Laid w):GK prog 38 #[Pl T tn c,Q4 x.row,Q4 r.row] w (Xb w (fu ts x.q r.lv r.fo)):=by
 have mU:=h.gl;have htm:=h.tm;have hG:∀i,i<(dI (aM x.q.gs) x.q.gs.length).length->ac' ts x.q tn r.lv r.fo (dI (aM x.q.gs) x.q.gs.length) i:=λi hi=>h.dI _ _ hi
 have l:=Jc (aM x.q.gs) x.q.gs.length;have Ul:=xA (aM x.q.gs) x.q.gs.length;have Ph:(dI (aM x.q.gs) x.q.gs.length).length<=x.q.gs.length:=Tz;have Q:fu ts x.q r.lv r.fo=mE x.q r.lv++gH ts x.q r.lv r.fo (dI (aM x.q.gs) x.q.gs.length) (dI (aM x.q.gs) x.q.gs.length).length:=rfl;have hrb:=h.tol;have aeQ:=h.cap;have hrg:=λW (hx:Rx W W.heap.size 10 x.q.gs x.G x.q.gs.length)=>JD x.q.gs x.G x.q.gs.length x.gc W hx mU
 have⟨TX,LW,RX⟩:=MO h.tx hl h.rx;have fC:=h.cl;have fh:=h.ne;have yf:=h.tl;clear h hl;obtain⟨⟨B,K,qr,qw,qi,qb,gs⟩,G0,D,qe,P0,pn,pc⟩:=x;dsimp only[fv.row]at*;have⟨n,wj⟩:=eY gs.length;have TZ:∀j,j<n->∃f:Nat,nth (aM gs) j=(f:Int)/\(dS gs j).length=10:=λj hj=>⟨(nth (aM gs) j).toNat,by have:=fC j (by omega);omega,by obtain⟨_,_,h,_⟩:=RX.o.at_ (show j<gs.length by omega);exact h⟩
 have HD:ak (∃H:Nat,(n=0->H=K)/\(0<n->nth (aM gs) 0=(H:Int))/\mE ⟨B,K,qr,qw,qi,qb,gs⟩ r.lv=if B<H then[jH B H r.lv]else[]):=⟨by
  unfold mE;dsimp only;rcases Nat.eq_zero_or_pos n with V|V
  .exact⟨K,λ_=>rfl,λh=>by omega,by rw[if_pos (by omega),if_pos fh]⟩
  .have:=fC 0 aq
   obtain⟨f,hf⟩:∃f:Nat,nth (aM gs) 0=(f:Int):=⟨(nth (aM gs) 0).toNat,aq⟩;refine⟨f,λh=>by omega,λ_=>hf, ?_⟩;rw[if_neg aq,hf];split
   .rename_i h;rw[if_pos aq]
   .rename_i h;rw[if_neg aq]⟩
 rw[wj]at mU hG l Ul Ph Q hrb hrg RX aeQ⊢;have⟨gr,hgr⟩:=eY (dI (aM gs) n);rw[hgr]at hG l Ul Ph Q hrg;have⟨z,adI⟩:=eY gr.length;have⟨C,HGR,te⟩:=MO adI hG Ul;rw[adI]at l Ph Q;have CK:ak (∀j,j<n->nth (aM gs) j=nth (dS gs j) 1):=⟨λj hj=>gK aq⟩;have⟨HPS,RG,TO,HQN,HNE⟩:=MR Q hrg hrb wj fh;generalize fu ts ⟨B,K,qr,qw,qi,qb,gs⟩ r.lv r.fo=L at*;generalize mE ⟨B,K,qr,qw,qi,qb,gs⟩ r.lv=I at*;generalize hGS:gH ts ⟨B,K,qr,qw,qi,qb,gs⟩ r.lv r.fo gr=O at*;clear hG Ul Q hrb hrg fC TZ hgr wj;have⟨W1,aP⟩:=eX ((w.alloc (RM #[ae aj (B:Int),ae aj (K:Int),ae aj (qr:Int),Pl G0 n D,ae aj qw,ae aj qi,ae aj qe,PF qb,Pl P0 pn pc] 44)).alloc (RM r.row 68));have⟨U,Di⟩:∃p,w.heap.size=p:=⟨_,rfl⟩;have X0:ak (Bx W1 U #[ae aj (B:Int),ae aj (K:Int),ae aj (qr:Int),Pl G0 n D,ae aj qw,ae aj qi,ae aj qe,PF qb,Pl P0 pn pc]):=⟨r9⟩;have X1:ak (Bx W1 (U+1) r.row):=⟨by rw[aP,<-Di];exact Bx.iR _ _ _ (by simp)⟩;have B1:ak (EI w.heap.size w W1):=⟨YW⟩;go_enter func38,ntmps38;go_upto_region 1 with fail;rw[<-aP];clear aP;have HP5:=sH Di;clear Di;have c3:W1.cell? ⟨U,3,OJ⟩=OH (Pl G0 n D):=X0.o.cell 3;have RG1:=sH (RG.o W1 (RX.o.Z B1.o B1.o.size));go_wp2_with fail;refine RG1.o.mono ?_;rintro e F ⟨A,c2,e2,o2,b2⟩;rw[C.o]at e2;subst e2;have⟨CT,P,Y1⟩:=MO (KI.of o2) (X0.o.ar b2 X0.o.lt) (X1.o.ar b2 X1.o.lt);have B2:=B1.t b2;clear o2 b2 RG1 RG X0 X1 B1 c3;have⟨y0,y1,_,y3,_⟩:=P.o.p9;have⟨_,_,z2,_⟩:=Y1.o.c6;obtain⟨H,Y,X,hhs⟩:=HD.o;have HHS:=sH hhs;clear hhs HD;go_upto_region 2 with fail;go_upto_if 21 with fail;go_cut[8](λv wx=>v=ae aj (H:Int)/\ak (EI F.heap.size F wx))
 ·
  rcases Nat.eq_zero_or_pos n with V|V
  .have h7:¬0<n:=by omega
   have h8:decide (0<n)=OZ:=ji;have e:=sH (Y V);clear Y X V l;go_wp2;go_meet;exact⟨by rw[e.o],cJ⟩
  .have hgp:0<z:=l.2 V
   have hf0:=X V;have hn9:=aU 0 n;have hn8:=aU 0 z;obtain⟨ad,x0,x1,x2,x3,x4,x5,x6,x7,x8,x9,eG,R,c0,c1,_⟩:=(RX.o.Z B2.o B2.o.size).gxs.bK V;have y:x1=(H:Int):=by rw[<-hf0,CK.o 0 V];rw[Nat.zero_add]at R;rw[R];rfl
   subst eG;rw[y,Nat.zero_mul,oZ]at c1;obtain⟨ga,eA,_,k0,_⟩:=CT.o 0 (by rw[C.o];exact hgp);subst eA;rw[te.o V,Nat.zero_mul]at k0;have⟨K0,C1,Y3⟩:=lc3 k0 c1 y3;clear R c0 y hf0 c1 k0 Y X l y0 y1 y3 z2;go_upto_region 4 with fail;refine mRl ?_;rintro _ ⟨u,rfl⟩;go_wp2;go_meet;exact⟨rfl,⟨u.2⟩⟩
 obtain⟨rfl,B3⟩:=hcut;have y0:wc.cell? ⟨U,0,OJ⟩=OH (ae aj (B:Int)):=(P.o.ar B3.o P.o.lt).cell 0;have z2:wc.cell? ⟨U+1,2,OJ⟩=OH (ae aj r.lv):=(Y1.o.ar B3.o Y1.o.lt).cell 2;go_upto_if 34 with fail;go_cut[9](λv8 wx=>∃(N:aB) (m c':Nat),v8=Pl N m c'/\m<=1/\ak (∃ps,rQ wx F.heap.size N m c' I ps)/\ak (EI F.heap.size F wx))
 ·
  by_cases hq:B<H
  .have HL:ak (I=[]++[jH B H r.lv]):=⟨by rw[HHS.o,if_pos hq];rfl⟩
   have qA:=aU B H;have S0:=sH (rQ.nil wc F.heap.size);clear HHS;go_upto_region 7 with fail;have OR:=sH S0.o.row;have hsB:=B3.o.size;go_wp2_with (at_builtin;refine bE yI rfl (.tmp 35) (.tmp 42) rfl rfl (aA.alloc OR.o _) rfl (news:=[ae aj B,ae aj H,ae aj r.lv,ae aj 0,ae aj 0,Pl OJ 0 0]) rfl (kA _ _ _ _ _ _ _ _ _ aT) (by rw[<-xW];exact lj _) aq iY ?_;intro A4 c4 w4 o4 b4 g4 _;have O4:=sH o4;have B4:=sH b4;have G4:=sH g4;clear o4 b4 g4);have S4:=sH ((S0.o.ar (aw _ _)).push (jH B H r.lv,OJ,0) (by rw[xW];exact O4.o) G4.o (iF.nil _ _));have B5:=sH ((B3.o.alloc B3.o.size _).trans B4.o);clear OR O4 B4 G4;go_meet;exact⟨A4,1,c4,rfl,aq,⟨_,by rw[HL.o];exact S4.o⟩,B5⟩
  .have HL:ak (I=[]):=⟨by rw[HHS.o,if_neg hq]⟩
   have qA:=cI B H;go_wp2;go_meet;exact⟨OJ,0,0,rfl,aq,⟨[],by rw[HL.o];exact rQ.nil _ _⟩,B3⟩
 obtain⟨N,m,c',rfl,hm,SS,BB⟩:=hcut;obtain⟨ps0,S0⟩:=SS.o;have G0S:ak (I++O 0=I):=⟨by rw[<-hGS];exact List.append_nil _⟩;have SI0:ak (∃ps,rQ wc F.heap.size N m c' (I++O 0) ps):=⟨ps0,by rw[G0S.o];exact S0⟩;have agv:ak (∀i,i<z->∃a b f t:Nat,cV gr i=(a,b)/\a<b/\b<=n/\nth (aM gs) a=(f:Int)/\t<=tn/\
  O (i+1)=O i++(lO f (jP ts f t t:Nat) r.lv r.fo gs a b::if jP ts f t t<t then[jH (jP ts f t t:Nat) t r.lv]else[])/\
  (i+1<z->∃a2 b2:Nat,cV gr (i+1)=(a2,b2)/\a2<n/\nth (aM gs) a2=(t:Int))/\(¬i+1<z->t=K)):=⟨λi hi=>by
  obtain⟨a,b,f,t,h1,h2,h3,h4,h5,h6,h7,h8⟩:=HGR.o i (by rw[C.o];exact hi);dsimp only at h3 h4 h7 h8;rw[C.o,HQN.o]at h7;rw[C.o]at h8;rw[HQN.o]at h3;exact⟨a,b,f,t,h1,h2,h3,h4,h5,by rw[<-hGS];exact h6,h7,h8⟩⟩
 clear S0 SS G0S HGR hGS y0 z2 HHS y1 y3 B3;go_wp2;go_loopg[9,10,11,12,13,46](z+1)(λgg v9 _ _ _ _ v46 wr=>∃(i:Nat) (N:aB) (m c':Nat),z-i<gg/\i<=z/\m<=2*i+1/\v9=Pl N m c'/\v46=ae aj (i:Int)/\ak (∃ps,rQ wr F.heap.size N m c' (I++O i) ps)/\ak (EI F.heap.size F wr))
 .exact⟨0,N,m,c',aq,aq,aq,rfl,rfl,SI0,BB⟩
 clear SI0 BB hm;obtain⟨i,N,m,c',hg,hi,hm,rfl,rfl,SS,BE⟩:=hrel;by_cases aG:i<z;rotate_left
 .have i4:=cI i z
  obtain rfl:i=z:=aq;have HW:ak (Xb w L (RE (Pl N m c')) wr):=⟨by
   obtain⟨ps,S⟩:=SS.o;rw[HPS.o];exact S.done B2.o.size (B2.o.trans (BE.o.mono B2.o.size))⟩
  go_wp2;go_ret;exact HW.o
 have i4:=aU i z;have aee:0<n:=l.1 aq;obtain⟨a,b,f,t,rW,ja,zr,hcf,iG,hGi,hnx,hnl⟩:=agv.o i aG;obtain⟨ps,S⟩:=SS.o;have⟨SO,HGi,HNX,HNL,HCF,jL⟩:=NT S hGi hnx hnl hcf hg;have BW:=B2.t BE.o;obtain⟨ga,eA,hga,k0,k1⟩:=(CT.o.ar BE.o) i (by rw[C.o];exact aG);subst eA;rw[rW]at k0 k1;dsimp only at k0 k1;obtain⟨ad,eG,_⟩:=RX.o.2.2 aee;subst eG;clear SS S hGi hg rW hnx hnl hcf l Y X aee;have⟨E,Z⟩:=eX ((wr:EE).alloc (RM #[ae aj (a:Int),ae aj (b:Int)] 57));have BR3:ak (EI wr.heap.size wr E):=⟨by rw[Z];exact aw _ _⟩;have X3:ak (Bx E wr.heap.size #[ae aj (a:Int),ae aj (b:Int)]):=⟨by rw[Z];exact Bx.new _ _ _⟩;go_upto_region 11 with fail;rw[<-Z];clear Z k0 k1;obtain⟨A2,g2,CR⟩:=tq pT (OH ad) n D a b aq zr aeQ (a:Int) (b:Int) rfl rfl;have fB:=CR.run;have⟨k,hk⟩:=eY (b-a);have HK:ak (a+k=b):=⟨aq⟩;rw[hk]at CR fB;have BW3:=BW.t BR3.o;have J:=BE.t BR3.o;have⟨g,hgE⟩:=eY (lO 0 0 r.lv r.fo gs a b);have GC:ak (∀u:aI E,GK prog 99 #[Pl A2 k g2,ae aj (a:Int),Q4 r.row] u.1 (PGb u.1 g)):=⟨λu=>by
  have hx:=((RX.o.Z BW3.o BW3.o.size).Z u.2 u.2.size).gxs;have sC:=CR.gxs hx aq;rw[Nat.zero_add]at sC;have:=QE gs A2 k g2 a r u.1 sC aq aq (λj hj=>by have:=TO.o (a+j) (by omega);rwa [Nat.zero_add]at this);rw[HK.o,hgE]at this;exact this⟩
 have y3:E.cell? ⟨U,3,OJ⟩=OH (Pl (OH ad) n D):=(P.o.ar J.o P.o.lt).cell 3;have Y3:=au y3;have k0:E.cell? ⟨wr.heap.size,0,OJ⟩=OH (ae aj (a:Int)):=X3.o.cell 0;have k1:E.cell? ⟨wr.heap.size,1,OJ⟩=OH (ae aj (b:Int)):=X3.o.cell 1;have⟨K0,K1⟩:=lc2 k0 k1;have⟨z0,z1,z2,z3,z4,z5⟩:=(Y1.o.ar J.o Y1.o.lt).c6;have⟨Z0,Z1,Z2,Z3,Z4,Z5⟩:=lc6 z0 z1 z2 z3 z4 z5;clear CR y3 k0 k1 z0 z1 z2 z3 z4 z5;have HGE:=sH hgE;clear hgE;have SP:ak (∀W,EI wr.heap.size wr W->rQ W F.heap.size N m c' (I++O i) ps):=⟨λW h=>SO.o.ar h⟩;have hgw:F.heap.size<=wr.heap.size:=BE.o.size;have AP:ak (∀g,wr.heap.size<=g->bR N (OH ⟨g,0,OJ⟩)):=⟨λg hg=>aA.gX SO.o.row hg⟩;have HA:=sH (aA.dU SO.o.row);generalize Lx:wr.heap.size=gq at*;have HGQ:=sH Lx;clear Lx;refine aQ (λd=>if d=OH 61 then OH (ZGb E.heap.size g)else if d=OH 12 then OH (ZT E.heap.size #[ae aj 0,ae aj 0,ae aj 0,ae aj 0,ae aj 0,Pl OJ 0 0] 55)else OJ) 12 rfl aF aF aF aF aF rfl ?_;refine mLw ?_;refine lwA (ZGb E.heap.size g) (λu=> ?_) (λv9 aX=> ?_)
 .go_simp
  refine aZ (ZGb E.heap.size g) ((GC.o u).mono ?_);rintro e w5 ⟨G,o,rfl,og,hb⟩;exact⟨_,rfl,⟨G,o,rfl,aA.gW og u.2.size⟩,hb⟩
 obtain⟨_,_,G,o,rfl,_⟩:=aX;simp[Act.put];refine lwA (ZT E.heap.size #[ae aj 0,ae aj 0,ae aj 0,ae aj 0,ae aj 0,Pl OJ 0 0] 55) (λu=> ?_) (λv9 aX=> ?_)
 .go_simp
  exact Fq u _ _
 obtain⟨_,_,M,rfl,l,_⟩:=aX;simp[Act.put];intro u hE;have hp:=ZGb.get hE.1;have hx:=ZT.get hE.2;clear hE GC Y3 K0 K1 Z0 Z1 Z2 Z3 Z4 Z5 fB;refine wp_store_row 55 (.tmp 12) (.tmp 61) rfl M _ rfl rfl 55 _ hx aF rfl ed ?_;have Q5:ak (Km E (u.1.setRow M #[ae aj g.f,ae aj g.t,ae aj g.lv,ae aj g.x,ae aj g.wd,Pl G g.gs.length o]) M g g.f g.t G o):=⟨⟨hx.row _,aA.NY hp (hx.apart hp cF) _,below_setRow u.2 l _,l⟩⟩;generalize u.1.setRow M #[ae aj g.f,ae aj g.t,ae aj g.lv,ae aj g.x,ae aj g.wd,Pl G g.gs.length o]=w5 at*;clear hx hp l;have B5:=J.t Q5.o.be;have ZL:=B2.t B5.o;have X5:=sH (X3.o.ar Q5.o.be X3.o.lt);have k0:w5.cell? ⟨gq,0,OJ⟩=OH (ae aj (a:Int)):=X5.o.cell 0;have y3:w5.cell? ⟨U,3,OJ⟩=OH (Pl (OH ad) n D):=(P.o.ar B5.o P.o.lt).cell 3;have y1:w5.cell? ⟨U,1,OJ⟩=OH (ae aj (K:Int)):=(P.o.ar B5.o P.o.lt).cell 1;obtain⟨jo,x0,x1,x2,x3,x4,x5,x6,x7,x8,x9,eG,q,c0,c1,_⟩:=(RX.o.Z ZL.o ZL.o.size).gxs.bK (show a<n by omega);obtain rfl:ad=jo:=by injection eG
 have y:x1=(f:Int):=by rw[<-HCF.o,CK.o a (by omega)];rw[Nat.zero_add]at q;rw[q];rfl
 rw[y]at c1;have a4:=aU a n;obtain⟨_,_,_,_,_,_⟩:=Q5.o.kV.cs;have f0:=Q5.o.kV.f 0;have f1:=(Q5.o.Vq (f:Int)).kV.f 1;have Q6:=sH ((Q5.o.Vq (f:Int)).QM (K:Int));clear q c0 y eG
 try dsimp only
 try simp only[Act.put]
 go_upto_region 12 with fail;go_cut[12](λv wx=>v=PK (OH ⟨M,0,OJ⟩)/\ak (Km E wx M g (f:Int) (K:Int) G o))
 ·
  go_region
  all_goals go_wp2_with fail
  all_goals go_meet
  all_goals exact⟨rfl,⟨Q6.o.ar (bJ (Below.refl _ _))⟩⟩
 obtain⟨rfl,Q7⟩:=hcut;clear Q5 Q6 f0 f1 c1 y1 y3 k0 X5 B5 ZL;go_upto_if 77 with fail;go_cut[12](λv wx=>v=PK (OH ⟨M,0,OJ⟩)/\ak (Km E wx M g (f:Int) (t:Int) G o))
 ·
  by_cases h1:i+1<z
  .obtain⟨a2,b2',xi,AO,mu⟩:=HNX.o h1
   have⟨j,hj⟩:=eY (i+1);rw[hj]at h1 xi;have pe:(i:Int)+1=(j:Int):=aq;have h4:=aU j z;have B7:=J.t Q7.o.be;have B7w:=B2.t B7.o;obtain⟨ga',eA,_,k2,_⟩:=(CT.o.ar B7.o) j (by rw[C.o];exact h1);obtain rfl:ga=ga':=by injection eA with eA;injection eA
   rw[xi]at k2;dsimp only at k2;obtain⟨jo,x0,x1,x2,x3,x4,x5,x6,x7,x8,x9,eG,q,c0,c1,_⟩:=(RX.o.Z B7w.o B7w.o.size).gxs.bK AO;obtain rfl:ad=jo:=(by injection eG);have y:x1=(t:Int):=by rw[<-mu,CK.o a2 AO];rw[Nat.zero_add]at q;rw[q];rfl
   rw[y]at c1;have a24:=aU a2 n;have y3:wc.cell? ⟨U,3,OJ⟩=OH (Pl (OH ad) n D):=(P.o.ar B7.o P.o.lt).cell 3;obtain⟨_,_,_,_,_,_⟩:=Q7.o.kV.cs;have f1:=Q7.o.kV.f 1;have Q8:=sH (Q7.o.QM (t:Int));clear q c0 y eG eA mu;go_upto_region 14 with fail;go_region
   all_goals go_wp2_with fail
   all_goals go_meet
   all_goals exact⟨rfl,⟨Q8.o.ar (bJ (Below.refl _ _))⟩⟩
  .have e:=sH (HNL.o h1)
   have h3:¬(i:Int)+1<(z:Int):=aq;go_wp2;go_meet;exact⟨rfl,by rw[e.o];exact Q7⟩
 obtain⟨rfl,Q8⟩:=hcut;have B8:=J.t Q8.o.be;have B8w:=B2.t B8.o;have EC:=sH (λW (hb:EI wc.heap.size wc W)=>ND T tn c ts f t W ((TX.o.ar B8w.o).ar hb) ((LW.o.ar B8w.o).ar hb) htm iG);have⟨e,he⟩:=eY (jP ts f t t);rw[he]at HGi;have EC2:ak (∀W (hb:EI wc.heap.size wc W),GK prog 100 #[Pl T tn c,ae aj (f:Int),ae aj (t:Int)] W λe' w'=>e'=RE (ae aj (e:Int))/\EI W.heap.size W w'):=⟨λW hb=>by rw[<-he];exact EC.o W hb⟩;have het:e<=t:=by rw[<-he];exact tD _ _ _ _
 obtain⟨s0,s1,s2,s3,s4,s5⟩:=Q8.o.kV.cs;have EC3:=sH (EC2.o wc (Below.refl _ _));clear he EC EC2;go_wp2_with fail;refine EC3.o.mono ?_;rintro e6 w6 ⟨rfl,b6⟩;have Q9:=sH (Q8.o.ar b6);have f1:=Q9.o.kV.f 1;obtain⟨r0,r1,r2,r3,r4,r5⟩:=Q9.o.kV.cs;have s:=sH (Q9.o.QM (e:Int));clear s0 s1 s2 s3 s4 s5 b6 EC3 Q8;go_upto_region 17 with fail;have⟨w7,zv⟩:=eY (w6.setCell ⟨M,1,OJ⟩ (ae aj (e:Int)));rw[zv]at s⊢;clear zv Q9 f1 r0 r1 r2 r3 r4 r5;obtain⟨r0,r1,r2,r3,r4,r5⟩:=s.o.kV.cs;have sQ:gq<=E.heap.size:=by have:=BR3.o.size;have:=HGQ.o;omega
 have S7:=sH (SP.o w7 (BR3.o.trans (s.o.be.mono sQ)));have B7:=J.t s.o.be;have hbg:=s.o.le;have AP7:=sH (AP.o M aq);have X7:ak (Bx w7 M _):=⟨⟨_,s.o.kV⟩⟩;have OG:ak (iF w7 F.heap.size G o g.gs):=⟨aA.gW s.o.own aq⟩;have OR:=sH S7.o.row;have hsB:=B7.o.size;have HPC:ak (iI (({g with f:=(f:Int),t:=(e:Int)}:bj),G,o)=[ae aj (f:Int),ae aj (e:Int),ae aj g.lv,ae aj g.x,ae aj g.wd,Pl G g.gs.length o]):=⟨rfl⟩;clear B8 B8w hbg sQ;go_upto_region 18 with(at_builtin;refine bE yI rfl (.tmp 98) (.tmp 100) rfl rfl (aA.alloc OR.o _) rfl (news:=[ae aj (f:Int),ae aj (e:Int),ae aj g.lv,ae aj g.x,ae aj g.wd,Pl G g.gs.length o]) rfl (kA _ _ _ _ _ _ _ _ _ aT) (by rw[<-HPC.o];exact lj _) aq iY ?_;intro A4 c4 w4 o4 b4 g4 _;have O4:=sH o4;have B4:=sH b4;have G4:=sH g4;have x4:=((X7.o.ar (aw _ _) X7.o.lt).kept g4 AP7.o HA.o).cell 1;clear o4 b4 g4)
 have S8:ak (rQ w4 F.heap.size A4 (m+1) c4 (I++O i++[({g with f:=(f:Int),t:=(e:Int)}:bj)]) _):=⟨(S7.o.ar (aw _ _)).push ({g with f:=(f:Int),t:=(e:Int)},G,o) (by rw[HPC.o];exact O4.o) G4.o (aA.alloc OG.o _)⟩;have B9:=sH ((B7.o.alloc hsB _).trans B4.o);have x5:w4.cell? ⟨M,1,OJ⟩=OH (ae aj (e:Int)):=x4;have hgg:ak (lO (f:Int) (e:Int) r.lv r.fo gs a b={g with f:=(f:Int),t:=(e:Int)}):=⟨by rw[<-HGE.o];rfl⟩;have z2:w4.cell? ⟨U+1,2,OJ⟩=OH (ae aj r.lv):=(Y1.o.ar B9.o Y1.o.lt).cell 2;clear r0 r1 r2 r3 r4 r5 x4 O4 B4 G4 OR OG X7 AP7 HPC hsB B7 S7 s;rw[hgg.o]at HGi;generalize({g with f:=(f:Int),t:=(e:Int)}:bj)=g1 at*;by_cases hq:e<t
 .have HL:ak (I++O (i+1)=I++O i++[g1]++[jH e t r.lv]):=⟨by rw[HGi.o,if_pos hq];simp⟩
  have qA:=aU e t;go_upto_region 19 with fail;have OR:=sH S8.o.row;have hsB:=B9.o.size;go_wp2_with (at_builtin;refine bE yI rfl (.tmp 106) (.tmp 113) rfl rfl (aA.alloc OR.o _) rfl (news:=[ae aj e,ae aj t,ae aj r.lv,ae aj 0,ae aj 0,Pl OJ 0 0]) rfl (kA _ _ _ _ _ _ _ _ _ aT) (by rw[<-xW];exact lj _) aq iY ?_;intro A4 c4 w4 o4 b4 g4 _;have O4:=sH o4;have B4:=sH b4;have G4:=sH g4;clear o4 b4 g4);have S4:=sH ((S8.o.ar (aw _ _)).push (jH e t r.lv,OJ,0) (by rw[xW];exact O4.o) G4.o (iF.nil _ _));have B5:=sH ((B9.o.alloc B9.o.size _).trans B4.o);clear OR O4 B4 G4;go_roundg(z-i)
  .exact⟨i+1,A4,m+1+1,c4,aq,aq,aq,rfl,aV,⟨_,by rw[HL.o];exact S4.o⟩,B5⟩
  have:=jL.o;omega
 .have HL:ak (I++O (i+1)=I++O i++[g1]):=⟨by rw[HGi.o,if_neg hq];simp⟩
  have qA:=cI e t;go_wp2;go_roundg(z-i)
  .exact⟨i+1,A4,m+1,c4,aq,aq,aq,rfl,aV,⟨_,by rw[HL.o];exact S8.o⟩,B9⟩
  have:=jL.o;omega
