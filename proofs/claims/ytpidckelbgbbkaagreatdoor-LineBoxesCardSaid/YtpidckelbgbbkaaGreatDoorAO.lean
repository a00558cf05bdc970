/- Part of LineBoxes. -/
import Derived.Test.YtpidckelbgbbkaaGreatDoorAL
namespace Go.Proofs.YtpidckelbgbbkaaGreatDoor
open Go.ChangeShapes Go.WideShapes Go.ChangeAt Go.RowKit Go.Proofs.Tryz
open Go.Value renaming int → ae
open Go.IntKind renaming i64 → aj
set_option linter.all false
set_option maxRecDepth 100000
set_option maxHeartbeats 16000000
variable{B a c i m n:Nat}{w:World}{A R:aC}{xs:List eE}{s:cX}{p:jW}{Bg W ts:aE}{ps:List il}{G:Prop}
theorem Km(s:cX)(p:jW)(ts:aE)(l:List (Int×Int))(xs:List eE)(A:aC)(m c:Nat)(rs:List aE)(R:aC)(rm rc:Nat)(w:World)(h:Qs w s p ts l xs A m c rs R rm)(hi:InT p.tn xs)(hL:Laid w):Calls prog 7 #[.agg s.row, .agg p.row, .slice R rm rc, .slice A m c] w (Cf w (uY s ts l rs xs m m).1):=by
 have hml:=h.ml;have SC:ak (∀W,Below w.heap.size w W->Calls prog 25 #[.slice p.T p.tn p.tc, .slice A m c] W (PSl W (kr ts (qs xs) m))):=⟨fun W n=>IU xs m c A p.T p.tn p.tc ts W (h.px.Z n n.size) h.mc (h.tx.ar n) (hL.ar n) aq h.tn h.gs hi h.sd⟩;have hsl:=Ey ts (qs xs) m;obtain⟨S,hS⟩:=eY (kr ts (qs xs) m);have SIN:ak (∀i,i<S.length->-9223372036854775808<=nth (fE S) i/\nth (fE S) i<=9223372036854775807):=⟨fun i hi=>by rw[<-hS]at hi⊢;exact Ha hi⟩;rw[hS]at SC hsl;obtain⟨Bg,P⟩:=eY ((fv l s.ev (fE S) (qH S) S.length).1);have xP:Bg.length=S.length:=by rw[<-P];exact pC _ _ _ _ _
 have LC:ak (∀W,Below w.heap.size w W->∀A1 Z A2 c2,bh W W.heap.size .i64 A1 S.length (fE S)->bh W W.heap.size .i64 A2 S.length (qH S)->Calls prog 26 #[.slice p.B p.bn p.bc,ae aj s.ev, .slice A1 S.length Z, .slice A2 S.length c2] W (PLy W Bg S.length)):=⟨fun W n A1 Z A2 c2 Q h2=>by rw[<-P];exact aas l p.B p.bn p.bc s.ev _ _ A1 A2 S.length Z c2 W ⟨h.tb.Z n n.size,h.tl,h.bl,Q,h2,SIN.o,aq⟩⟩;have AS:ak (∀i,uY s ts l rs xs m i=kB ts (W7 rs) (fE S) Bg (qs xs) i):=⟨fun i=>by unfold uY;rw[hS,P]⟩;have I:=sH h;rw[AS.o];generalize hN:kB ts (W7 rs) (fE S) Bg (qs xs)=N at*;have HLN:ak (∀i,(N i).1.length<=i*(2*100000+1)):=⟨fun i=>by
  rw[<-hN];refine pg (fun j=> ?_) i;by_cases H:j<xs.length
  ·rw[nR H];exact h.gs j H
  ·have:dH (qs xs) j=default:=by simp[dH,qs,Nat.not_lt.1 H]
   rw[this];exact Nat.zero_le _⟩
 have HNK:ak (∀i,(N i).2<=i):=⟨fun i=>by rw[<-hN];exact tU i⟩;have LW:=sH hL;clear h hS P hL;obtain⟨W1,aP⟩:=eX ((w.alloc (.cells s.row 26)).alloc (.cells p.row 31));obtain⟨p0,nd⟩:∃p,w.heap.size=p:=⟨_,rfl⟩;have X0:ak (Bx W1 p0 s.row):=⟨Pg⟩;have X1:ak (Bx W1 (p0+1) p.row):=⟨Pz⟩;have B1:ak (Below w.heap.size w W1):=⟨JH⟩;go_enter func7,ntmps7;go_upto_region 1 with fail;rw[<-aP];clear aP;have HP5:=sH nd;clear nd;obtain⟨a0,_,a2,_⟩:=X1.o.c8;obtain⟨_,_,_,a3,_⟩:=X0.o.c5;have SC1:=sH (SC.o W1 B1.o);go_wp2_with fail;refine SC1.o.mono ?_;rintro e w2 ⟨A1,Z,A2,c2,rfl,o1,o2,b2⟩;have B2:=B1.t b2;have Y0:=sH (X0.o.ar b2 X0.o.lt);have Y1:=sH (X1.o.ar b2 X1.o.lt);have LC1:=sH (LC.o w2 B2.o A1 Z A2 c2 (Own.ints o1) (Own.ints o2));have O1:=sH o1;clear o1 o2 b2 SC1 SC LC X0 X1 B1 a0 a2 a3;obtain⟨_,_,a2,_⟩:=Y1.o.c8;obtain⟨_,_,_,a3,_⟩:=Y0.o.c5;generalize nL:S.length=sn at*;go_wp2_with fail;refine LC1.o.mono ?_;rintro e G ⟨A3,c3,rfl,o3,b3⟩;have B3:=B2.t b3;have WI:=sH (Own.ints (O1.o.ar b3));have BI:=sH (Own.ints o3);have Z1:=sH (Y1.o.ar b3 Y1.o.lt);have hp3:=sH Z1.o.lt;clear o3 b3 LC1 Y0 Y1 O1 a2 a3 B2;go_wp2;have hN0:ak (N 0=([],0)):=⟨by rw[<-hN];rfl⟩;go_loopg [12,13,15,16,33] (m+1) (fun gg ny jr _ _ uZ wr=>∃(i:Nat) (A':aC) (z c':Nat),m-i<gg/\i<=m/\ny= .slice A' z c'/\jr=ae aj ((N i).2:Int)/\uZ=ae aj (i:Int)/\ak (∃ps,kW wr G.heap.size A' z c' (N i).1 ps)/\ak (Below G.heap.size G wr))
 ·exact⟨0,none,0,0,aq,aq,rfl,by rw[hN0.o];rfl,rfl,⟨[],by rw[hN0.o];exact kW.nil _ _⟩,cB⟩
 obtain⟨i,A',z,c',hg,hi,rfl,rfl,rfl,SS,BE⟩:=hrel;have BW:=B3.t BE.o;by_cases O:i<m;rotate_left
 ·have i4:=cF i m
  obtain rfl:i=m:=aq;have HW:ak (Cf w (N i).1 (.returned (.slice A' z c')) wr):=⟨by
   obtain⟨ps,S⟩:=SS.o;exact S.done B3.o.size BW.o⟩
  go_wp2;go_ret;exact HW.o
 have i4:=aR i m;have gI:=sH hg;obtain⟨ad,x,hx,eA,c0,Z,aU,vz,c4,c5,c6,c7,c8,_⟩:=(I.o.px.Z BW.o BW.o.size).at O;subst eA;rw[Nat.zero_add]at hx;clear hg;obtain⟨F,hW5,Qg,T⟩:=box1 wr x.row 63;go_upto_region 8 with fail;rw[<-hW5];clear hW5 c0 Z aU vz c4 c5 c6 c7 c8;have yO:F.cell? ⟨wr.heap.size,7,none⟩=some (.bool x.q.gQ):=T.o.cell 7;have B5:=BE.t Qg.o;have M:=B3.t B5.o;have hxl:=I.o.xl;have HQ:ak (dH (qs xs) i=x.q):=⟨Es⟩;obtain⟨r,y,eR,JO,hy,hcy⟩:=NG (I.o.rx.Z M.o M.o.size) (show x.q.run<rm by have:=I.o.rn i O;rwa [hx]at this);have HY:=sH hy;have C:=sH hcy;subst eR;have hrm:(x.q.run:Int)<(rm:Int):=by have:=I.o.rn i O;rw[hx]at this;omega
 obtain⟨ps,S0⟩:=SS.o;have SO:=sH S0;have PQ:ak (KK w p.T p.tn p.tc ts x):=⟨by have:=I.o.ql i O;rwa [hx]at this⟩;clear hx hy hcy S0 SS;generalize J:wr.heap.size=gq at*;cases n:x.q.gQ
 ·have t:ak (N (i+1)=((N i).1++fR ts x.q y.lv y.fo,(N i).2)):=⟨by rw[<-hN,oR (by rw[HQ.o,n]),HQ.o,HY.o]⟩
  have HB:=sH n;rw[n]at yO;clear n;go_upto_region 9 with fail;obtain⟨L,hL⟩:=eY (fR ts x.q y.lv y.fo);have PC:ak (∀W,Below F.heap.size F W->Calls prog 27 #[.slice p.T p.tn p.tc, .agg x.row, .agg y.row] W (Cf W L)):=⟨fun W hW=>by
   have n:=M.o.trans (hW.mono M.o.size);rw[<-hL];exact On x y p.T p.tn p.tc ts W (PQ.o.Z n) (LW.o.ar n)⟩
  have HLl:ak (L.length<=200001):=⟨adu⟩;rw[hL]at t;have S5:ak (kW F G.heap.size A' z c' (N i).1 ps):=⟨SO.o.ar Qg.o⟩;have Z5:=sH (Z1.o.ar B5.o hp3.o);have XM:=sH J;have XZ:ak (z<=1000*200001):=⟨by
   have Q:=SO.o.len;have h2:=congrArg List.length SO.o.eq;rw[List.length_map]at h2;have h3:=HLN.o i;have h4:i*(2*100000+1)<=1000*(2*100000+1):=Nat.mul_le_mul_right _ aq;omega⟩
  clear hL J yO SO;refine kz (N:=11) (k0:=40) (m:=11) [some (.slice A' z c'),some (.pointer (some ⟨p0+1,0,none⟩)),some (.slice p.T p.tn p.tc),some (.agg x.row),some (.slice (some r) rm rc),some (.pointer (some ⟨gq,2,none⟩)),some (ae aj (x.q.run:Int)),some (.pointer (some (r.add (x.q.run*6)))),some (.agg y.row),none,none] 9 10 10 (ZPx G.heap.size L) Uw F (fun v W=>∃A c ps,v= .slice A (z+L.length) c/\kW W G.heap.size A (z+L.length) c ((N i).1++L) ps/\Below G.heap.size G W) rfl aF rfl aF aq (Below.refl _ _) ?_ ?_
  ·intro j o Lf bu W H ho B b g f a' ha K hK
   simp only[dm,fa,List.setIfInBounds_toArray,List.set_cons_succ,List.set_cons_zero,Nat.reduceAdd,Nat.add_zero]at ha;subst ha;have H:j=0∨j=1∨j=2∨j=3∨j=4∨j=5∨j=6∨j=7∨j=8∨j=9∨j=10:=aq;have d0:=f.cI 0 _ rfl;have d1:=f.cI 1 _ rfl;have d2:=f.cI 2 _ rfl;have d3:=f.cI 3 _ rfl;have d4:=f.cI 4 _ rfl;have d5:=f.cI 5 _ rfl;have d6:=f.cI 6 _ rfl;have d7:=f.cI 7 _ rfl;have d8:=f.cI 8 _ rfl
   rcases H with rfl|rfl|rfl|rfl|rfl|rfl|rfl|rfl|rfl|rfl|rfl
   all_goals(injection ho with ho;subst ho)
   all_goals(simp[Region.binds]at b)
   case' inr.inr.inr.inr.inr.inr.inr.inr.inr.inr=>
    obtain⟨A5,c5,qs5,ev,oq,eq⟩:=f.cal b.2 B;have BB:=f.pre B;have SW:=S5.o.ar BB;have gM:G.heap.size<=W.heap.size:=VN;have IF:qs5.length=L.length:=Qe;have hmm:=XZ.o;have Wn:=HLl.o;have Y:=oq.row;rw[IF]at Y;simp only[d0 b.1,ev];refine wpOp_step rfl (fun K9 D=> ?_);rw[if_pos (by simp[Region.wanted])];refine Ar rW (.tmp 40) (.tmp 49) rfl rfl SW.row rfl (aB.FB Y) Y.1 (fun u hu=>by
     obtain⟨q,_,hu⟩:=List.mem_flatMap.1 hu;exact iH q u hu) aq gM ?_
    intro A6 c6 w6 o6 b6 g6;have S6:kW w6 G.heap.size A6 (z+L.length) c6 ((N i).1++L) (ps++qs5):=⟨SW.own.abw oq (by rw[SW.len,IF];exact o6) (by rw[SW.len];exact g6),by rw[List.map_append,SW.eq,eq],by rw[List.length_append,SW.len,IF]⟩;refine D _ _ ?_;change K (Act.put _ (some 50) _) _;have hx:=hK _ _ (f.app rfl ⟨A6,c6,_,rfl,S6,(B5.o.trans (BB.mono B5.o.size)).trans b6⟩);simp only[Nat.reduceAdd,Act.put,List.setIfInBounds_toArray,List.set_cons_succ,List.set_cons_zero]at hx
    try simp only[d0 b.1,ev]at hx
    try simp only[Act.put,List.setIfInBounds_toArray,List.set_cons_succ,List.set_cons_zero]
    exact hx
   case' inr.inr.inr.inr.inr.inr.inr.inr.inr.inl=>
    obtain⟨q2,q3,q8⟩:=b;have AD:=g.no (a:=10) B aF;have BB:=f.pre AD;simp only[d2 q2,d3 q3,d8 q8];refine wpOp_step rfl (fun K9 D=> ?_);go_simp;refine(PC.o W BB).mono ?_;rintro e7 w7 ⟨A7,c7,ps7,rfl,og,eq,b7⟩;have og2:iD w7 G.heap.size A7 c7 ps7:=og.dU VN;dsimp only;refine D _ _ ?_
    skip
    have hx:=hK _ _ (f.call (v:= .slice A7 L.length c7) rfl bQ bQ AD AD ⟨A7,c7,ps7,rfl,og2,eq⟩ b7);simp only[Nat.reduceAdd,Act.put,List.setIfInBounds_toArray,List.set_cons_succ,List.set_cons_zero]at hx
    try simp only[d2 q2,d3 q3,d8 q8]at hx
    try simp only[Act.put,List.setIfInBounds_toArray,List.set_cons_succ,List.set_cons_zero]
    exact hx
   case' inr.inr.inl=>
    have x0:W.cell? ⟨p0+1,0,none⟩=some (.slice p.T p.tn p.tc):=(Z5.o.ar (f.pre (g.no (a:=10) (g.no (a:=9) B aF) aF)) Z5.o.lt).cell 0
   case' inr.inr.inr.inl=>
    obtain⟨x0,x1,x2,x3,x4,x5,x6,x7,x8⟩:=(T.o.ar (f.pre (g.no (a:=10) (g.no (a:=9) B aF) aF)) T.o.lt).p9
   case' inr.inr.inr.inr.inr.inr.inl=>
    have x2:W.cell? ⟨gq,2,none⟩=some (ae aj (x.q.run:Int)):=(T.o.ar (f.pre (g.no (a:=10) (g.no (a:=9) (g.no (a:=8) B aF) aF) aF)) T.o.lt).cell 2
   case' inr.inr.inr.inr.inr.inr.inr.inr.inl=>
    have BB:=(f.pre (g.no (a:=10) (g.no (a:=9) B aF) aF));have x0:=au (C.o 0 _ rfl) BB;have x1:W.cell? (bW (r.add (x.q.run*6)) 1)=some (ae aj y.t):=au (C.o 1 _ rfl) BB;have x2:W.cell? (bW (r.add (x.q.run*6)) 2)=some (ae aj y.lv):=au (C.o 2 _ rfl) BB;have x3:W.cell? (bW (r.add (x.q.run*6)) 3)=some (ae aj y.sp):=au (C.o 3 _ rfl) BB;have x4:W.cell? (bW (r.add (x.q.run*6)) 4)=some (ae aj y.fo):=au (C.o 4 _ rfl) BB;have x5:W.cell? (bW (r.add (x.q.run*6)) 5)=some (ae aj y.st):=au (C.o 5 _ rfl) BB;rw[pK]at x0
   all_goals
    try simp only[d0,d1,d2,d3,d4,d5,d6,d7,d8,b]
    refine wpOp_step rfl (fun K9 D=> ?_);go_simp;refine D _ _ ?_
    skip
    have hx:=hK _ _ (f.pure rfl bQ bQ bQ);simp only[Nat.reduceAdd,Act.put,List.setIfInBounds_toArray,List.set_cons_succ,List.set_cons_zero]at hx
    try simp only[d0,d1,d2,d3,d4,d5,d6,d7,d8,b]at hx
    try simp only[Act.put,List.setIfInBounds_toArray,List.set_cons_succ,List.set_cons_zero]
    exact hx
  ·intro Lf bu W X f a' ha
   simp only[dm,fa,List.setIfInBounds_toArray,List.set_cons_succ,List.set_cons_zero,Nat.reduceAdd,Nat.add_zero]at ha;subst ha;obtain⟨A6,c6,ps6,xq,s6,b6⟩:=f.post (X 10 aq);simp only[xq];have S6:ak (∃ps,kW W G.heap.size A6 (z+L.length) c6 (N (i+1)).1 ps):=⟨ps6,by rw[t.o];exact s6⟩;have B6:=sH b6;have pP:ak ((N (i+1)).2=(N i).2):=⟨by rw[t.o]⟩;clear xq X f s6 b6;refine wpOp_step rfl (fun K9 D=> ?_);go_simp;refine D _ _ ?_;go_wp2;go_roundg (m-i)
   ·exact⟨i+1,A6,z+L.length,c6,aq,aq,rfl,by rw[pP.o],aQ,S6,B6⟩
   have:=gI.o;omega
 ·have HB:=sH n
  rw[n]at yO;clear n;have z0:F.cell? ⟨gq,0,none⟩=some (ae aj (x.q.f:Int)):=T.o.cell 0;have z1:F.cell? ⟨gq,1,none⟩=some (ae aj (x.q.t:Int)):=T.o.cell 1;have z2:F.cell? ⟨gq,2,none⟩=some (ae aj (x.q.run:Int)):=T.o.cell 2;have z3:F.cell? (bW (r.add (x.q.run*6)) 2)=some (ae aj y.lv):=C.o 2 _ rfl;have XM:=sH J;clear J;go_upto_region 10 with fail;obtain⟨Z0,Z2,Z4,Z6⟩:=lc4 z0 z1 z2 z3;clear z0 z1 z2 z3;refine aT (fun d=>if d=some 16 then some (ZT F.heap.size #[ae aj 0,ae aj 0,ae aj 0,ae aj 0,ae aj 0, .slice none 0 0] 50)else none) 12 rfl aF aF aF aF aF rfl ?_;refine mLw ?_;refine lwA (ZT F.heap.size #[ae aj 0,ae aj 0,ae aj 0,ae aj 0,ae aj 0, .slice none 0 0] 50) (fun nq=> ?_) (fun v9 aV=> ?_)
  ·go_simp
   exact ye nq _ _
  obtain⟨_,_,V,rfl,ef,_⟩:=aV;simp[Act.put];intro nq hE;have hx:=ZT.get hE;clear hE Z0 Z2 Z4 Z6;refine wp_store_row 50 (.tmp 16) (.tmp 61) rfl V _ rfl rfl 50 _ hx aF rfl dK ?_;have U:ak (FV F (nq.1.setRow V #[ae aj (x.q.f:Int),ae aj (x.q.t:Int),ae aj y.lv,ae aj 0,ae aj 0, .slice none 0 0]) V (dv x.q.f x.q.t y.lv) x.q.f x.q.t none 0):=⟨⟨hx.row _,aB.nil _ _ _ _,below_setRow nq.2 ef _,ef⟩⟩;generalize nq.1.setRow V #[ae aj (x.q.f:Int),ae aj (x.q.t:Int),ae aj y.lv,ae aj 0,ae aj 0, .slice none 0 0]=w6 at*;clear hx ef
  try dsimp only
  try simp only[Act.put]
  have t:ak (N (i+1)=((N i).1++[⟨x.q.f,x.q.t,y.lv,0,if(N i).2+1<sn then wrap64 (wrap64 (nth Bg ((N i).2+1)-nth Bg (N i).2)-nth (fE S) (N i).2)else 0,[]⟩],(N i).2+1)):=⟨by rw[<-hN,mF (by rw[HQ.o,HB.o]),HQ.o,HY.o,xP]⟩;have hkb:(N i).2<=i:=HNK.o i;generalize(N i).2=k at*;obtain⟨j,H⟩:=eY (k+1);have pe:(k:Int)+1=(j:Int):=aq;go_upto_if 67 with fail;obtain⟨v,hv⟩:=eY (if k+1<sn then wrap64 (wrap64 (nth Bg (k+1)-nth Bg k)-nth (fE S) k)else 0);have HV:=sH hv;rw[hv]at t;clear hv;go_cut [16] (fun u wx=>u= .pointer (some ⟨V,0,none⟩)/\ak (jZ wx V (ae aj (x.q.f:Int)) (ae aj (x.q.t:Int)) (ae aj y.lv) (ae aj 0) (ae aj v) (.slice none 0 0))/\ak (Below F.heap.size F wx))
  ·
   by_cases Q:k+1<sn
   ·have E:ak (v=wrap64 (wrap64 (nth Bg (k+1)-nth Bg k)-nth (fE S) k)):=⟨by rw[<-HV.o,if_pos Q]⟩
    have pj:(j:Int)-1=(k:Int):=aq;have B6:=B5.t U.o.be;obtain⟨Qh,e3,J4,MD⟩:=BI.o.2 aq;obtain⟨ad1,e1,cT,l4⟩:=WI.o.2 aq;have r1:=(B6.o.cell Wa).trans (MD j aq);have r2:=(B6.o.cell Wa).trans (MD k aq);have r3:=(B6.o.cell (by rw[aO];exact cT)).trans (l4 k aq);rw[H]at E Q;subst e3;subst e1;have k4:=aR k sn;have j4:=aR j sn;obtain⟨_,_,_,_,q4,_⟩:=U.o.lN.cs;have f4:=U.o.lN.f 4;generalize nth Bg j=u1 at*;generalize nth Bg k=u2 at*;generalize nth (fE S) k=u3 at*;clear MD l4 H pe;go_upto_region 13 with fail;have S3:=U.o.lN.aa2 (ae aj (wrap64 (wrap64 (u1-u2)-u3)));have S4:=sH (S3.ar (bL (Below.refl (w6.setCell ⟨V,4,none⟩ (ae aj (wrap64 (wrap64 (u1-u2)-u3)))).heap.size _)) S3.lt);clear S3;have B4:=sH (((Below.setCell U.o.be (p:=⟨V,4,none⟩) U.o.le (ae aj (wrap64 (wrap64 (u1-u2)-u3)))).drew));go_region
    all_goals go_wp2_with fail
    all_goals go_meet
    all_goals exact⟨rfl,by rw[E.o];exact S4,B4⟩
   ·have E:ak (v=0):=⟨by rw[<-HV.o,if_neg Q]⟩
    have h5:¬j<sn:=by rw[<-H];exact Q
    clear Q H pe;go_wp2;go_meet;exact⟨rfl,by rw[E.o];exact⟨U.o.lN⟩,⟨U.o.be⟩⟩
  obtain⟨rfl,Q7,B7⟩:=hcut;have B8:=B5.t B7.o;have S8:ak (kW wc G.heap.size A' z c' (N i).1 ps):=⟨SO.o.ar (Qg.o.trans (B7.o.mono Qg.o.size))⟩;have XZ:ak (z<=1000*200001):=⟨by
   have Q:=SO.o.len;have h2:=congrArg List.length SO.o.eq;rw[List.length_map]at h2;have h3:=HLN.o i;have h4:i*(2*100000+1)<=1000*(2*100000+1):=Nat.mul_le_mul_right _ aq;omega⟩
  have hmm:=XZ.o;obtain⟨_,_,_,_,_,_⟩:=Q7.o.cs;have OR:=sH S8.o.row;have Wo:=B8.o.size;have WK:ak ((N (i+1)).2=j):=⟨by rw[t.o];exact H⟩;go_wp2_with (at_builtin;refine bk rW rfl (.tmp 85) (.tmp 87) rfl rfl (aB.alloc OR.o _) rfl (news:=[ae aj (x.q.f:Int),ae aj (x.q.t:Int),ae aj y.lv,ae aj 0,ae aj v, .slice none 0 0]) rfl (fh _ _ _ _ _ _ _ _ _ aD) (iH (⟨x.q.f,x.q.t,y.lv,0,v,[]⟩,none,0)) aq ij ?_;intro A4 c4 w4 o4 b4 g4 _;have O4:=sH o4;have B4:=sH b4;have G4:=sH g4;clear o4 b4 g4);have S9:=sH ((S8.o.ar (av _ _)).push (⟨x.q.f,x.q.t,y.lv,0,v,[]⟩,none,0) O4.o G4.o (gv.nil _ _));have B9:=sH ((B8.o.alloc B8.o.size _).trans B4.o);go_roundg (m-i)
  ·exact⟨i+1,A4,z+1,c4,aq,aq,rfl,by rw[WK.o],aQ,⟨_,by rw[t.o];exact S9.o⟩,B9⟩
  have:=gI.o;omega
end Go.Proofs.YtpidckelbgbbkaaGreatDoor
