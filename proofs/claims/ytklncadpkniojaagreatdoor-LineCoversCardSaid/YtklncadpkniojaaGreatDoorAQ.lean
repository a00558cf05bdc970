/- Part of LineCovers. -/
import Derived.Test.YtklncadpkniojaaGreatDoorAN
import Derived.Test.YtklncadpkniojaaGreatDoorAO
import Derived.Test.YtklncadpkniojaaGreatDoorAP
namespace Go.Proofs.YtklncadpkniojaaGreatDoor
open Go.ChangeShapes Go.WideShapes Go.ChangeAt Go.RowKit Go.Proofs.Tryz
open Go renaming World->ahh,Value->ahj,Calls->ahk,TypeId->ahm,Ending->ahn,Program->aho
open Go.RowKit renaming Below->ahi,wrap64->ahl
open Go.Value renaming int->ae
open Go.IntKind renaming i64->aj
set_option linter.all false
set_option maxRecDepth 100000
set_option maxHeartbeats 16000000
variable{a w:ahh}{A:aA}{B c f g n t:Nat}{xs:List aZ}{ts:aC}
theorem Lx(s:cN)(p:jA)(ts:aC)(l:List (Int×Int))(xs:List fp)(A:aA)(m c:Nat)(rs:List aC)(R:aA)(rm rc:Nat)(w:ahh)(h:UZ w s p ts l xs A m c rs R rm)(hi:InT p.tn xs)(V:Laid w):ahk prog 28 #[.agg s.row,.agg p.row,.slice R rm rc,.slice A m c] w (PBx w (Jb s ts l rs xs m m).1):=by
 have hml:=h.ml;have SC:aq (∀W,ahi w.heap.size w W->ahk prog 75 #[.slice p.T p.tn p.tc,.slice A m c] W (PSl W (lE ts (qs xs) m))):=⟨fun W n=>JY xs m c A p.T p.tn p.tc ts W (h.px.Z n n.size) h.mc (h.tx.ar n) (V.ar n) ak h.tn h.gs hi h.sd⟩;have hsl:=UL ts (qs xs) m;have⟨S,hS⟩:=eY (lE ts (qs xs) m);have SIN:aq (∀i,i<S.length->-9223372036854775808<=nth (jh S) i/\nth (jh S) i<=9223372036854775807):=⟨fun i hi=>by rw[<-hS]at hi⊢;exact Uw hi⟩;rw[hS]at SC hsl;have⟨Bg,O⟩:=eY ((gI l s.ev (jh S) (se S) S.length).1);have xT:Bg.length=S.length:=by rw[<-O];exact tS _ _ _ _ _
 have LC:aq (∀W,ahi w.heap.size w W->∀A1 c1 A2 c2,bH W W.heap.size .i64 A1 S.length (jh S)->bH W W.heap.size .i64 A2 S.length (se S)->ahk prog 76 #[.slice p.B p.bn p.bc,ae aj s.ev,.slice A1 S.length c1,.slice A2 S.length c2] W (PLy W Bg S.length)):=⟨fun W n A1 c1 A2 c2 T h2=>by rw[<-O];exact abe l p.B p.bn p.bc s.ev _ _ A1 A2 S.length c1 c2 W ⟨h.tb.Z n n.size,h.tl,h.bl,T,h2,SIN.o,ak⟩⟩;have AS:aq (∀i,Jb s ts l rs xs m i=gX ts (lfS rs) (jh S) Bg (qs xs) i):=⟨fun i=>by unfold Jb;rw[hS,O]⟩;have I:=sH h;rw[AS.o];generalize hN:gX ts (lfS rs) (jh S) Bg (qs xs)=N at*;have HLN:aq (∀i,(N i).1.length<=i*(2*100000+1)):=⟨fun i=>by
  rw[<-hN];refine zu (fun j=> ?_) i;by_cases J:j<xs.length
  .rw[nO J];exact h.gs j J
  .have:dD (qs xs) j=default:=by simp[dD,qs,Nat.not_lt.1 J]
   rw[this];exact Nat.zero_le _⟩
 have HNK:aq (∀i,(N i).2<=i):=⟨fun i=>by rw[<-hN];exact Ax i⟩;have LW:=sH V;clear h hS O V;have⟨W1,aP⟩:=eX ((w.alloc (.cells s.row 26)).alloc (.cells p.row 31));have⟨p0,Cd⟩:∃p,w.heap.size=p:=⟨_,rfl⟩;have X0:aq (Bx W1 p0 s.row):=⟨abN⟩;have X1:aq (Bx W1 (p0+1) p.row):=⟨by rw[aP,<-Cd];exact Bx.gY _ _ _ (by simp)⟩;have B1:aq (ahi w.heap.size w W1):=⟨abM⟩;go_enter func28,ntmps28;go_upto_region 1 with fail;rw[<-aP];clear aP;have HP5:=sH Cd;clear Cd;have⟨a0,_,a2,_⟩:=X1.o.c8;have⟨_,_,_,a3,_⟩:=X0.o.c5;have SC1:=sH (SC.o W1 B1.o);go_wp2_with fail;refine SC1.o.mono ?_;rintro e w2 ⟨A1,c1,A2,c2,rfl,o1,o2,b2⟩;have B2:=B1.t b2;have Y0:=sH (X0.o.ar b2 X0.o.lt);have Y1:=sH (X1.o.ar b2 X1.o.lt);have LC1:=sH (LC.o w2 B2.o A1 c1 A2 c2 (Own.ints o1) (Own.ints o2));have O1:=sH o1;clear o1 o2 b2 SC1 SC LC X0 X1 B1 a0 a2 a3;have⟨_,_,a2,_⟩:=Y1.o.c8;have⟨_,_,_,a3,_⟩:=Y0.o.c5;generalize ox:S.length=sn at*;go_wp2_with fail;refine LC1.o.mono ?_;rintro e H ⟨A3,c3,rfl,o3,b3⟩;have B3:=B2.t b3;have WI:=sH (Own.ints (O1.o.ar b3));have BI:=sH (Own.ints o3);have Z1:=sH (Y1.o.ar b3 Y1.o.lt);have hp3:=sH Z1.o.lt;clear o3 b3 LC1 Y0 Y1 O1 a2 a3 B2;go_wp2;have hN0:aq (N 0=([],0)):=⟨by rw[<-hN];rfl⟩;go_loopg[12,13,15,16,33](m+1)(fun gg mN ko _ _ yS wr=>∃(i:Nat) (A':aA) (B c':Nat),m-i<gg/\i<=m/\mN=.slice A' B c'/\ko=ae aj ((N i).2:Int)/\yS=ae aj (i:Int)/\aq (∃ps,qZ wr H.heap.size A' B c' (N i).1 ps)/\aq (ahi H.heap.size H wr))
 .exact⟨0,none,0,0,ak,ak,rfl,by rw[hN0.o];rfl,rfl,⟨[],by rw[hN0.o];exact qZ.nil _ _⟩,cA⟩
 obtain⟨i,A',B,c',hg,hi,rfl,rfl,rfl,SS,BE⟩:=hrel;have BW:=B3.t BE.o;by_cases Q:i<m;rotate_left
 .have i4:=cv i m
  obtain rfl:i=m:=ak;have HW:aq (PBx w (N i).1 (.returned (.slice A' B c')) wr):=⟨by
   obtain⟨ps,S⟩:=SS.o;exact S.done B3.o.size BW.o⟩
  go_wp2;go_ret;exact HW.o
 have i4:=aU i m;have jG:=sH hg;obtain⟨ad,x,hx,eA,c0,c1,aW,wV,c4,c5,c6,c7,c8,_⟩:=(I.o.px.Z BW.o BW.o.size).at Q;subst eA;rw[Nat.zero_add]at hx;clear hg;have⟨F,YC,P,X5⟩:=box1 wr x.row 48;go_upto_region 8 with fail;rw[<-YC];clear YC c0 c1 aW wV c4 c5 c6 c7 c8;have Kv:F.cell? ⟨wr.heap.size,7,none⟩=some (.bool x.q.iF):=X5.o.cell 7;have X:=BE.t P.o;have U:=B3.t X.o;have Ul:=I.o.xl;have HQ:aq (dD (qs xs) i=x.q):=⟨H9⟩;obtain⟨r,y,eR,hrb,hy,hcy⟩:=aau (I.o.rx.Z U.o U.o.size) (show x.q.run<rm by have:=I.o.rn i Q;rwa [hx]at this);have HY:=sH hy;have z:=sH hcy;subst eR;have hrm:(x.q.run:Int)<(rm:Int):=by have:=I.o.rn i Q;rw[hx]at this;omega
 obtain⟨ps,S0⟩:=SS.o;have SO:=sH S0;have PQ:aq (UQ w p.T p.tn p.tc ts x):=⟨by have:=I.o.ql i Q;rwa [hx]at this⟩;clear hx hy hcy S0 SS;generalize M:wr.heap.size=gq at*;cases n:x.q.iF
 .have C:aq (N (i+1)=((N i).1++iq ts x.q y.lv y.fo,(N i).2)):=⟨by rw[<-hN,sK (by rw[HQ.o,n]),HQ.o,HY.o]⟩
  have HB:=sH n;rw[n]at Kv;clear n;go_upto_region 9 with fail;have⟨L,V⟩:=eY (iq ts x.q y.lv y.fo);have PC:aq (∀W,ahi F.heap.size F W->ahk prog 77 #[.slice p.T p.tn p.tc,.agg x.row,.agg y.row] W (PBx W L)):=⟨fun W hW=>by
   have n:=U.o.trans (hW.mono U.o.size);rw[<-V];exact Qj x y p.T p.tn p.tc ts W (PQ.o.Z n) (LW.o.ar n)⟩
  have HLl:aq (L.length<=200001):=⟨by have:=uu ts x.q y.lv y.fo;have:=PQ.o.gl;rw[<-V];omega⟩;rw[V]at C;have S5:aq (qZ F H.heap.size A' B c' (N i).1 ps):=⟨SO.o.ar P.o⟩;have Z5:=sH (Z1.o.ar X.o hp3.o);have HGQ:=sH M;have HMM:aq (B<=1000*200001):=⟨by
   have T:=SO.o.len;have h2:=congrArg List.length SO.o.eq;rw[List.length_map]at h2;have h3:=HLN.o i;have h4:i*(2*100000+1)<=1000*(2*100000+1):=Nat.mul_le_mul_right _ ak;omega⟩
  clear V M Kv SO;refine ve (N:=11) (k0:=40) (m:=11) [some (.slice A' B c'),some (.pointer (some ⟨p0+1,0,none⟩)),some (.slice p.T p.tn p.tc),some (.agg x.row),some (.slice (some r) rm rc),some (.pointer (some ⟨gq,2,none⟩)),some (ae aj (x.q.run:Int)),some (.pointer (some (r.add (x.q.run*6)))),some (.agg y.row),none,none] 9 10 10 (ZPx H.heap.size L) ago F (fun v W=>∃A c ps,v=.slice A (B+L.length) c/\qZ W H.heap.size A (B+L.length) c ((N i).1++L) ps/\ahi H.heap.size H W) rfl aF rfl aF ak (Below.refl _ _) ?_ ?_
  .intro j o Lf bm W J ho D b g f a' ha K hK
   simp only[cH,gv,List.setIfInBounds_toArray,List.set_cons_succ,List.set_cons_zero,Nat.reduceAdd,Nat.add_zero]at ha;subst ha;have J:j=0∨j=1∨j=2∨j=3∨j=4∨j=5∨j=6∨j=7∨j=8∨j=9∨j=10:=ak;have d0:=f.fv 0 _ rfl;have d1:=f.fv 1 _ rfl;have d2:=f.fv 2 _ rfl;have d3:=f.fv 3 _ rfl;have d4:=f.fv 4 _ rfl;have d5:=f.fv 5 _ rfl;have d6:=f.fv 6 _ rfl;have d7:=f.fv 7 _ rfl;have d8:=f.fv 8 _ rfl
   rcases J with rfl|rfl|rfl|rfl|rfl|rfl|rfl|rfl|rfl|rfl|rfl
   all_goals(injection ho with ho;subst ho)
   all_goals(simp[Region.binds]at b)
   case' inr.inr.inr.inr.inr.inr.inr.inr.inr.inr=>
    obtain⟨A5,c5,qs5,ev,oq,eq⟩:=f.cal b.2 D;have G:=f.pre D;have SW:=S5.o.ar G;have gH:H.heap.size<=W.heap.size:=by have:=G.size;have:=X.o.size;omega
    have Wu:qs5.length=L.length:=(by rw[<-eq,List.length_map]);have hmm:=HMM.o;have hll:=HLl.o;have oqr:=oq.row;rw[Wu]at oqr;simp only[d0 b.1,ev];refine wpOp_step rfl (fun K9 t=> ?_);rw[if_pos QO];refine Mp zv (.tmp 40) (.tmp 49) rfl rfl SW.row rfl (aw.Wi oqr) oqr.1 (fun u hu=>by
     obtain⟨q,_,hu⟩:=List.mem_flatMap.1 hu;exact lr q u hu) ak gH ?_
    intro A6 c6 w6 o6 b6 g6;have S6:qZ w6 H.heap.size A6 (B+L.length) c6 ((N i).1++L) (ps++qs5):=⟨SW.own.afL oq (by rw[SW.len,Wu];exact o6) (by rw[SW.len];exact g6),by rw[List.map_append,SW.eq,eq],by rw[List.length_append,SW.len,Wu]⟩;refine t _ _ ?_;change K (Act.put _ (some 50) _) _;have hx:=hK _ _ (f.app rfl ⟨A6,c6,_,rfl,S6,(X.o.trans (G.mono X.o.size)).trans b6⟩);simp only[Nat.reduceAdd,Act.put,List.setIfInBounds_toArray,List.set_cons_succ,List.set_cons_zero]at hx
    try simp only[d0 b.1,ev]at hx
    try simp only[Act.put,List.setIfInBounds_toArray,List.set_cons_succ,List.set_cons_zero]
    exact hx
   case' inr.inr.inr.inr.inr.inr.inr.inr.inr.inl=>
    obtain⟨q2,q3,q8⟩:=b;have hLp:=g.no (a:=10) D aF;have G:=f.pre hLp;simp only[d2 q2,d3 q3,d8 q8];refine wpOp_step rfl (fun K9 t=> ?_);go_simp;refine(PC.o W G).mono ?_;rintro e7 w7 ⟨A7,c7,ps7,rfl,og,eq,b7⟩;have og2:fa w7 H.heap.size A7 c7 ps7:=og.gF (by have:=G.size;have:=X.o.size;omega);dsimp only;refine t _ _ ?_
    skip
    have hx:=hK _ _ (f.call (v:=.slice A7 L.length c7) rfl cr cr hLp hLp ⟨A7,c7,ps7,rfl,og2,eq⟩ b7);simp only[Nat.reduceAdd,Act.put,List.setIfInBounds_toArray,List.set_cons_succ,List.set_cons_zero]at hx
    try simp only[d2 q2,d3 q3,d8 q8]at hx
    try simp only[Act.put,List.setIfInBounds_toArray,List.set_cons_succ,List.set_cons_zero]
    exact hx
   case' inr.inr.inl=>
    have x0:W.cell? ⟨p0+1,0,none⟩=some (.slice p.T p.tn p.tc):=(Z5.o.ar (f.pre (g.no (a:=10) (g.no (a:=9) D aF) aF)) Z5.o.lt).cell 0
   case' inr.inr.inr.inl=>
    have⟨x0,x1,x2,x3,x4,x5,x6,x7,x8⟩:=(X5.o.ar (f.pre (g.no (a:=10) (g.no (a:=9) D aF) aF)) X5.o.lt).p9
   case' inr.inr.inr.inr.inr.inr.inl=>
    have x2:W.cell? ⟨gq,2,none⟩=some (ae aj (x.q.run:Int)):=(X5.o.ar (f.pre (g.no (a:=10) (g.no (a:=9) (g.no (a:=8) D aF) aF) aF)) X5.o.lt).cell 2
   case' inr.inr.inr.inr.inr.inr.inr.inr.inl=>
    have G:=(f.pre (g.no (a:=10) (g.no (a:=9) D aF) aF));have x0:=au (z.o 0 _ rfl) G;have x1:W.cell? (bP (r.add (x.q.run*6)) 1)=some (ae aj y.t):=au (z.o 1 _ rfl) G;have x2:W.cell? (bP (r.add (x.q.run*6)) 2)=some (ae aj y.lv):=au (z.o 2 _ rfl) G;have x3:W.cell? (bP (r.add (x.q.run*6)) 3)=some (ae aj y.sp):=au (z.o 3 _ rfl) G;have x4:W.cell? (bP (r.add (x.q.run*6)) 4)=some (ae aj y.fo):=au (z.o 4 _ rfl) G;have x5:W.cell? (bP (r.add (x.q.run*6)) 5)=some (ae aj y.st):=au (z.o 5 _ rfl) G;rw[ri]at x0
   all_goals
    try simp only[d0,d1,d2,d3,d4,d5,d6,d7,d8,b]
    refine wpOp_step rfl (fun K9 t=> ?_);go_simp;refine t _ _ ?_
    skip
    have hx:=hK _ _ (f.pure rfl cr cr cr);simp only[Nat.reduceAdd,Act.put,List.setIfInBounds_toArray,List.set_cons_succ,List.set_cons_zero]at hx
    try simp only[d0,d1,d2,d3,d4,d5,d6,d7,d8,b]at hx
    try simp only[Act.put,List.setIfInBounds_toArray,List.set_cons_succ,List.set_cons_zero]
    exact hx
  .intro Lf bm W Z f a' ha
   simp only[cH,gv,List.setIfInBounds_toArray,List.set_cons_succ,List.set_cons_zero,Nat.reduceAdd,Nat.add_zero]at ha;subst ha;obtain⟨A6,c6,ps6,Qx,s6,b6⟩:=f.post (Z 10 ak);simp only[Qx];have S6:aq (∃ps,qZ W H.heap.size A6 (B+L.length) c6 (N (i+1)).1 ps):=⟨ps6,by rw[C.o];exact s6⟩;have B6:=sH b6;have sj:aq ((N (i+1)).2=(N i).2):=⟨by rw[C.o]⟩;clear Qx Z f s6 b6;refine wpOp_step rfl (fun K9 t=> ?_);go_simp;refine t _ _ ?_;go_wp2;go_roundg(m-i)
   .exact⟨i+1,A6,B+L.length,c6,ak,ak,rfl,by rw[sj.o],aT,S6,B6⟩
   have:=jG.o;omega
 .have HB:=sH n
  rw[n]at Kv;clear n;have z0:F.cell? ⟨gq,0,none⟩=some (ae aj (x.q.f:Int)):=X5.o.cell 0;have z1:F.cell? ⟨gq,1,none⟩=some (ae aj (x.q.t:Int)):=X5.o.cell 1;have z2:F.cell? ⟨gq,2,none⟩=some (ae aj (x.q.run:Int)):=X5.o.cell 2;have z3:F.cell? (bP (r.add (x.q.run*6)) 2)=some (ae aj y.lv):=z.o 2 _ rfl;have HGQ:=sH M;clear M;go_upto_region 10 with fail;have⟨Z0,Z2,Z4,Z6⟩:=lc4 z0 z1 z2 z3;clear z0 z1 z2 z3;refine aS (fun d=>if d=some 16 then some (ZT F.heap.size #[ae aj 0,ae aj 0,ae aj 0,ae aj 0,ae aj 0,.slice none 0 0] 51)else none) 12 rfl aF aF aF aF aF rfl ?_;refine mLw ?_;refine lwA (ZT F.heap.size #[ae aj 0,ae aj 0,ae aj 0,ae aj 0,ae aj 0,.slice none 0 0] 51) (fun nq=> ?_) (fun v9 aV=> ?_)
  .go_simp
   exact Cv nq _ _
  obtain⟨_,_,Y,rfl,dW,_⟩:=aV;simp[Act.put];intro nq hE;have hx:=ZT.get hE;clear hE Z0 Z2 Z4 Z6;refine wp_store_row 51 (.tmp 16) (.tmp 61) rfl Y _ rfl rfl 51 _ hx aF rfl dJ ?_;have Q6:aq (II F (nq.1.setRow Y #[ae aj (x.q.f:Int),ae aj (x.q.t:Int),ae aj y.lv,ae aj 0,ae aj 0,.slice none 0 0]) Y (ja x.q.f x.q.t y.lv) x.q.f x.q.t none 0):=⟨⟨hx.row _,aw.nil _ _ _ _,below_setRow nq.2 dW _,dW⟩⟩;generalize nq.1.setRow Y #[ae aj (x.q.f:Int),ae aj (x.q.t:Int),ae aj y.lv,ae aj 0,ae aj 0,.slice none 0 0]=w6 at*;clear hx dW
  try dsimp only
  try simp only[Act.put]
  have C:aq (N (i+1)=((N i).1++[⟨x.q.f,x.q.t,y.lv,0,if(N i).2+1<sn then ahl (ahl (nth Bg ((N i).2+1)-nth Bg (N i).2)-nth (jh S) (N i).2)else 0,[]⟩],(N i).2+1)):=⟨by rw[<-hN,pw (by rw[HQ.o,HB.o]),HQ.o,HY.o,xT]⟩;have hkb:(N i).2<=i:=HNK.o i;generalize(N i).2=k at*;have⟨j,J⟩:=eY (k+1);have pe:(k:Int)+1=(j:Int):=ak;go_upto_if 67 with fail;have⟨v,hv⟩:=eY (if k+1<sn then ahl (ahl (nth Bg (k+1)-nth Bg k)-nth (jh S) k)else 0);have HV:=sH hv;rw[hv]at C;clear hv;go_cut[16](fun u wx=>u=.pointer (some ⟨Y,0,none⟩)/\aq (na wx Y (ae aj (x.q.f:Int)) (ae aj (x.q.t:Int)) (ae aj y.lv) (ae aj 0) (ae aj v) (.slice none 0 0))/\aq (ahi F.heap.size F wx))
  ·
   by_cases T:k+1<sn
   .have E:aq (v=ahl (ahl (nth Bg (k+1)-nth Bg k)-nth (jh S) k)):=⟨by rw[<-HV.o,if_pos T]⟩
    have pj:(j:Int)-1=(k:Int):=ak;have B6:=X.t Q6.o.be;obtain⟨Ut,e3,Fz,Zx⟩:=BI.o.2 ak;obtain⟨ad1,e1,cM,rr⟩:=WI.o.2 ak;have r1:=(B6.o.cell (by rw[aO];exact Fz)).trans (Zx j ak);have r2:=(B6.o.cell (by rw[aO];exact Fz)).trans (Zx k ak);have r3:=(B6.o.cell (by rw[aO];exact cM)).trans (rr k ak);rw[J]at E T;subst e3;subst e1;have k4:=aU k sn;have j4:=aU j sn;obtain⟨_,_,_,_,q4,_⟩:=Q6.o.kN.cs;have f4:=Q6.o.kN.f 4;generalize nth Bg j=u1 at*;generalize nth Bg k=u2 at*;generalize nth (jh S) k=u3 at*;clear Zx rr J pe;go_upto_region 13 with fail;have S3:=Q6.o.kN.agw (ae aj (ahl (ahl (u1-u2)-u3)));have S4:=sH (S3.ar (bC (Below.refl (w6.setCell ⟨Y,4,none⟩ (ae aj (ahl (ahl (u1-u2)-u3)))).heap.size _)) S3.lt);clear S3;have B4:=sH (((Below.setCell Q6.o.be (p:=⟨Y,4,none⟩) Q6.o.le (ae aj (ahl (ahl (u1-u2)-u3)))).drew));go_region
    all_goals go_wp2_with fail
    all_goals go_meet
    all_goals exact⟨rfl,by rw[E.o];exact S4,B4⟩
   .have E:aq (v=0):=⟨by rw[<-HV.o,if_neg T]⟩
    have h5:¬j<sn:=by rw[<-J];exact T
    clear T J pe;go_wp2;go_meet;exact⟨rfl,by rw[E.o];exact⟨Q6.o.kN⟩,⟨Q6.o.be⟩⟩
  obtain⟨rfl,Q7,B7⟩:=hcut;have B8:=X.t B7.o;have S8:aq (qZ wc H.heap.size A' B c' (N i).1 ps):=⟨SO.o.ar (by show ahi _ _ _;exact P.o.trans (B7.o.mono (by have:=P.o.size;have:=HGQ.o;omega)))⟩;have HMM:aq (B<=1000*200001):=⟨by
   have T:=SO.o.len;have h2:=congrArg List.length SO.o.eq;rw[List.length_map]at h2;have h3:=HLN.o i;have h4:i*(2*100000+1)<=1000*(2*100000+1):=Nat.mul_le_mul_right _ ak;omega⟩
  have hmm:=HMM.o;obtain⟨_,_,_,_,_,_⟩:=Q7.o.cs;have OR:=sH S8.o.row;have hsB:=B8.o.size;have HN2:aq ((N (i+1)).2=j):=⟨by rw[C.o];exact J⟩;go_wp2_with (at_builtin;refine br zv rfl (.tmp 85) (.tmp 87) rfl rfl (aw.alloc OR.o _) rfl (news:=[ae aj (x.q.f:Int),ae aj (x.q.t:Int),ae aj y.lv,ae aj 0,ae aj v,.slice none 0 0]) rfl (jY _ _ _ _ _ _ _ _ _ aQ) (lr (⟨x.q.f,x.q.t,y.lv,0,v,[]⟩,none,0)) ak gZ ?_;intro A4 c4 w4 o4 b4 g4 _;have O4:=sH o4;have B4:=sH b4;have G4:=sH g4;clear o4 b4 g4);have S9:=sH ((S8.o.ar (av _ _)).push (⟨x.q.f,x.q.t,y.lv,0,v,[]⟩,none,0) O4.o G4.o (iD.nil _ _));have B9:=sH ((B8.o.alloc B8.o.size _).trans B4.o);go_roundg(m-i)
  .exact⟨i+1,A4,B+1,c4,ak,ak,rfl,by rw[HN2.o],aT,⟨_,by rw[C.o];exact S9.o⟩,B9⟩
  have:=jG.o;omega
def LnV(ts:aC)(f t:Nat)(v:ahj)(w:ahh):Prop:=∃(bs:List aZ) (sh base b x a:Int) (C:aA) (c:Nat),v=.agg #[ae aj (f:Int),ae aj (t:Int),ae aj base,ae aj b,ae aj x,ae aj a,.bool false,.slice C bs.length c]/\iY bs (f:Int) (t:Int)/\a=ahl (du bs (dE ts bs bs.length))/\db w w.heap.size C bs.length (lz bs (fF bs) sh bs.length)
abbrev zL:Array ahj:=#[ae aj 0,ae aj 0,ae aj 0,ae aj 0,ae aj 0,ae aj 0,.bool false,.slice none 0 0]
abbrev jL(f t:Nat)(base a x c:Int)(b:ahj):Array ahj:=#[ae aj (f:Int),ae aj (t:Int),ae aj base,ae aj a,ae aj x,ae aj c,.bool false,b]
theorem tF:(prog.info? 44).map (·.size)=some 8:=by kernel_rfl
theorem Mx(f t:Nat)(base a x b:Int)(A:aA)(n c:Nat):(jL f t base a x b (.slice A n c)).all (·.oneCell')=true:=dJ
def PLn(w:ahh)(ts:aC)(f t:Nat)(e:ahn)(a:ahh):Prop:=∃v,e=.returned v/\LnV ts f t v a/\az w a
theorem Mv(s:cN)(p:jA)(ts:aC)(L:List aZ)(xs:List fp)(A:aA)(m c:Nat)(R:aA)(rm rc:Nat)(V:aA)(vc:Nat)(base:Int)(f t:Nat)(last:Bool)(w:ahh)(hp:lh w p ts)(hL:Laid w)(hx:vl w w.heap.size xs 0 m A)(hm:0<m)(hm4:m<=40)(hV:Iw w w.heap.size .i64 aH V p.tn)(hvc:p.tn<=vc)(hch:iY L (f:Int) (t:Int))(zQ:∀b∈L,NV p.tn b)(qh:f<t)(ht:t<=p.tn)(fZ:p.tn<=40)
 (hPC:∀W,az w W->ahk prog 28 #[.agg s.row,.agg p.row,.slice R rm rc,.slice A m c] W (PBx W L)):
 ahk prog 8 #[.agg s.row,.agg p.row,.slice R rm rc,.slice A m c,.slice V p.tn vc,ae aj base,ae aj (f:Int),ae aj (t:Int),.bool false,.bool last] w (PLn w ts f t):=by
 have P:=sH hp;have LW:=sH hL;have PX:=sH hx;have RV:=sH hV;have CH:=sH hch;have BW:=sH zQ;have PC:=sH hPC;clear hp hL hx hV hch zQ hPC;go_enter func8,ntmps8;go_upto_region 2 with fail;have⟨d,n⟩:=eX ((((w.alloc (.cells s.row 26)).alloc (.cells p.row 31)).alloc (.cells #[ae aj 0,ae aj 0,ae aj 0,ae aj 0,ae aj 0,ae aj 0,.bool false,.slice none 0 0] 44)).alloc (.cells #[ae aj (f:Int),ae aj (t:Int),ae aj base,ae aj 2,ae aj 0,ae aj 0,.bool false,.slice none 0 0] 44));have⟨N,hN⟩:=eY w.heap.size;have B1:aq (az w d):=⟨by rw[n];exact(((av w _).alloc (by simp) _).alloc (by simp<;>omega) _).alloc (by simp<;>omega) _⟩;have X0:aq (Bx d N s.row):=⟨by rw[n,<-hN];exact((((Bx.new w s.row 26).ar (av _ _) (by simp)).ar (av _ _) (by simp<;>omega)).ar (av _ _) (by simp<;>omega))⟩;have X1:aq (Bx d (N+1) p.row):=⟨by rw[n,<-hN];exact(((Bx.gY (w.alloc (.cells s.row 26)) p.row 31 (by simp)).ar (av _ _) (by simp)).ar (av _ _) (by simp<;>omega))⟩;have X2:aq (uT d (N+2) zL 44):=⟨by rw[n,<-hN];exact(uT.gY _ _ _ (by simp)).ar (av _ _) (by simp)⟩;have X3:aq (Bx d (N+3) #[ae aj (f:Int),ae aj (t:Int),ae aj base,ae aj 2,ae aj 0,ae aj 0,.bool false,.slice none 0 0]):=⟨by rw[n,<-hN];exact Bx.gY _ _ _ (by simp)⟩;have HW4:aq (d.heap.size=N+4):=⟨by rw[n,<-hN];simp⟩;rw[<-n];have HN:=sH hN;rw[hN];clear n hN;have⟨c0,c1,aW,c3,c4⟩:=X0.o.c5;have⟨d0,d1,d2,d3,d4,d5,d6,d7⟩:=X1.o.c8;have PC1:=sH (PC.o d B1.o);go_wp2_with fail;refine PC1.o.mono ?_;rintro e w2 ⟨A2,h,ps,rfl,ob,eq,Z⟩;have B2:=B1.t Z;have hn:ps.length=L.length:=by rw[<-eq,List.length_map]
 have OB:aq (fa w2 d.heap.size A2 h ps):=⟨ob⟩;have EQ:=sH eq;have Y1:aq (Bx w2 (N+1) p.row):=⟨X1.o.ar Z X1.o.lt⟩;have LC:=sH (UX p.T p.tn p.tc ts V vc base f t w2 (P.o.rT.ar B2.o) (LW.o.ar B2.o) (RV.o.Z B2.o B2.o.size) hvc qh ht ak);have⟨d0,_⟩:=Y1.o.c8;clear c0 c1 aW c3 c4 ob eq PC1;go_wp2_with fail;refine LC.o.mono ?_;rintro e w3 ⟨V2,v2,rfl,o3,b3⟩;have O3:=sH o3;have B3:aq (az w2 w3):=⟨b3⟩;clear o3 LC;have we:0<ps.length:=by
  rcases Nat.eq_zero_or_pos L.length with h0|h0
  .have:=CH.o
   obtain rfl:L=[]:=List.eq_nil_of_length_eq_zero h0;have h1:(f:Int)=(t:Int):=this;omega
  .omega
 obtain⟨g,rfl,dW,dw⟩:=aw.form OB.o.row we;obtain⟨g9,rfl,hh1,hh2⟩:=O3.o.form (show 0<t-f by omega);have KV:aq (∀q,q<t-f->∃z,w3.cell? ⟨g9,q,none⟩=some (ae aj z)):=⟨fun q hq=>by obtain⟨z,_,e⟩:=O3.o.get hq;exact⟨z,e⟩⟩;have HG9:aq (d.heap.size<=g/\g<w2.heap.size/\w2.heap.size<=g9/\g9<w3.heap.size):=⟨dW,dw,hh1,hh2⟩;have OW3:aq (cX w3 d.heap.size (some ⟨g,0,none⟩) h ps/\dS L (ps.map (·.1))):=⟨(OB.o.ar B3.o).wk,by rw[EQ.o];exact dS.refl _⟩;have BB3:aq (az d w3):=⟨Z.trans (B3.o.mono Z.size)⟩;have⟨o,hnb⟩:=eY L.length;have S:aq (ps.length=o/\L.length=o/\0<o/\o<=40):=⟨by have:=CH.o.few;omega⟩;rw[hnb];clear dW dw hh1 hh2 hn hnb we O3 OB Z b3;go_wp2;go_loopg[24,48](o+1)(fun gg _ v48 wr=>∃(i:Nat) (qs:List BoxM),o-i<gg/\i<=o/\v48=ae aj (i:Int)/\aq (cX wr d.heap.size (some ⟨g,0,none⟩) h qs/\dS L (qs.map (·.1)))/\aq (KP w2.heap.size w3 wr)/\aq (az d wr))
 .exact⟨0,ps,ak,ak,rfl,OW3,⟨KP.refl _ _⟩,BB3⟩
 obtain⟨i,qs,hg,hi,rfl,OQ,KK,BQ⟩:=hrel;have Wu:qs.length=o:=by have:=OQ.o.2.len;rw[List.length_map]at this;have:=S.o;omega
 by_cases aK:i<o
 .have i4:=aU i o
  obtain⟨h1,h2,h3⟩:=CH.o.within (show i<L.length by have:=S.o;omega);obtain⟨G,gc,c0,-,clv,-,-,-,cf,-,-⟩:=OQ.o.1.kN (show i<qs.length by omega);rw[(OQ.o.2.at_ i).1]at c0;have cf2:=cf 2 ak;obtain⟨q,hq⟩:∃q:Nat,(aJ L i).f-(f:Int)=(q:Int):=⟨((aJ L i).f-(f:Int)).toNat,ak⟩;have hqm:q<t-f:=ak;obtain⟨z,ez⟩:=KV.o q hqm;obtain⟨n1,n2,n3,n4⟩:=HG9.o;have ez:=KK.o.cell n3 n4 ez;have q0:=ie q;have q1:(q:Int)<((t-f:Nat):Int):=ak;have k0:=ie i;obtain⟨vh,o4,e4⟩:=OQ.o.1.lev (show i<qs.length by omega) z;have O5:aq (cX (wr.setCell ⟨g,i*6+2,none⟩ (ae aj z)) d.heap.size (some ⟨g,0,none⟩) h vh/\dS L (vh.map (·.1))):=⟨o4,OQ.o.2.trans (zq e4).1⟩;have K5:aq (KP w2.heap.size w3 (wr.setCell ⟨g,i*6+2,none⟩ (ae aj z))):=⟨KK.o.set n2 _⟩;have B5:aq (az d (wr.setCell ⟨g,i*6+2,none⟩ (ae aj z))):=⟨Below.setCell BQ.o (p:=⟨g,i*6+2,none⟩) n1 _⟩;have HG5:aq (o-i<gk/\i<o/\o<=40):=⟨hg,aK,S.o.2.2.2⟩;generalize(aJ L i).f=bf at*;clear cf o4 e4 h1 h2 h3 n1 n2 n3 n4 hqm hg;go_wp2;have Mf:=HG5.o;go_roundg(o-i)
  .exact⟨i+1,vh,ak,ak,by first|go_num|(rw[IntWalk.wrap64_in _ (by omega)];rfl),O5,K5,B5⟩
  omega
 have i4:=cv i o;have Owr:=sH OQ.o;have Pwr:aq (Bx wr (N+1) p.row):=⟨X1.o.ar BQ.o X1.o.lt⟩;have Rwr:aq (uT wr (N+2) zL 44):=⟨X2.o.ar BQ.o X2.o.bx.lt⟩;have Qwr:aq (Bx wr (N+3) #[ae aj (f:Int),ae aj (t:Int),ae aj base,ae aj 2,ae aj 0,ae aj 0,.bool false,.slice none 0 0]):=⟨X3.o.ar BQ.o X3.o.lt⟩;have Bwr:=B1.t BQ.o;have Hx:=aU 0 m;obtain⟨j,hj⟩:∃j,j+1=m:=⟨m-1,ak⟩;have DD:(m:Int)-1=(j:Int):=ak;obtain⟨ad,x,-,rfl,-,-,-,-,-,-,cE,-⟩:=(PX.o.Z Bwr.o Bwr.o.size).at (show j<m by omega);have ti:i=o:=ak;subst ti;have I:aq (L.length=i/\0<i/\i<=40):=⟨by have:=S.o;omega⟩;have HX:aq (d.heap.size=N+4):=⟨HW4.o⟩;have⟨l,Nb⟩:=eY (dE ts L i);have HT:aq (dE ts L i=l/\l<=i):=⟨Nb,by rw[<-Nb];exact oT _ _ _⟩;have BWL:=sH (Sm BW.o);have hic:i<=h:=by have h1:=aw.le OQ.o.1.row;have h2:=OQ.o.2.len;rw[List.length_map]at h2;have:=I.o;omega
 have CU:=wy zv (some ⟨g,0,none⟩) i h l HT.o.2 hic;clear KK KV OQ OW3 BB3 HG9 X0 X1 X2 X3 Nb hg hi PX BW HW4 S;have⟨WA,y⟩:∃W,W=wr.setCell ⟨N+3,3,none⟩ (ae aj x.en):=⟨_,rfl⟩;have Y:aq (cX WA d.heap.size (some ⟨g,0,none⟩) h qs/\dS L (qs.map (·.1))):=⟨by rw[y];exact Owr.o.1.low (by rw[HX.o];omega) _ _,Owr.o.2⟩;have PWA:aq (Bx WA (N+1) p.row):=⟨by rw[y];exact Pwr.o.fE (by omega) _ _⟩;have RWA:aq (uT WA (N+2) zL 44):=⟨by rw[y];exact Rwr.o.fE (by omega) _ _⟩;have QWA:aq (Bx WA (N+3) (jL f t base x.en 0 0 (.slice none 0 0))):=⟨by rw[y];exact Qwr.o.jR 3 _⟩;have Q:aq (az w WA):=⟨by rw[y];exact Below.setCell Bwr.o (p:=⟨N+3,3,none⟩) (by have:=HN.o;show w.heap.size<=N+3;omega) _⟩;have y3:wr.cell? ⟨N+3,3,none⟩=some (ae aj 2):=Qwr.o.cell 3;have f3:=Qwr.o.fz 3;clear Owr Pwr Rwr Qwr Bwr;go_upto_region 17 with fail;rw[<-y];clear y y3 f3 cE;have z3:WA.cell? ⟨N+3,3,none⟩=some (ae aj x.en):=QWA.o.cell 3;have d0:WA.cell? ⟨N+1,0,none⟩=some (.slice p.T p.tn p.tc):=PWA.o.cell 0;have TC:aq _:=⟨by
  obtain⟨b1,uX,-,-,sN⟩:=Y.o.1.read Y.o.2 I.o.1;have:=Tb p.T p.tn p.tc ts (some ⟨g,0,none⟩) i h b1 WA (P.o.rT.ar Q.o) (LW.o.ar Q.o) sN (fun j hj=>Lp BWL.o.1 uX j (by rw[I.o.1];exact hj)) (by have:=I.o;omega) ak;rw[oF uX,HT.o.1]at this;exact this⟩
 go_wp2_with fail;refine TC.o.mono ?_;rintro e w6 ⟨rfl,b6⟩;have M:aq (cX w6 d.heap.size (some ⟨g,0,none⟩) h qs/\dS L (qs.map (·.1))):=⟨Y.o.1.ar b6,Y.o.2⟩;have Pw6:aq (Bx w6 (N+1) p.row):=⟨PWA.o.ar b6 PWA.o.lt⟩;have Rw6:aq (uT w6 (N+2) zL 44):=⟨RWA.o.ar b6 RWA.o.bx.lt⟩;have Qw6:aq (Bx w6 (N+3) (jL f t base x.en 0 0 (.slice none 0 0))):=⟨QWA.o.ar b6 QWA.o.lt⟩;have Bw6:aq (az w w6):=⟨Q.o.trans ((b6).mono Q.o.size)⟩;clear Y PWA RWA QWA Q;obtain⟨Z,ED,-,-,uR⟩:=M.o.1.read M.o.2 I.o.1;have⟨sw,hsw⟩:=eY (ahl (du (Z.take l) l));have SU:aq (∀nq:aG w6,ahk prog 32 #[.slice (some ⟨g,0,none⟩) l h] nq.1 fun e w'=>e=.returned (ae aj sw)/\ahi nq.1.heap.size nq.1 w'):=⟨fun nq=>by rw[<-hsw];exact yb (some ⟨g,0,none⟩) l h (Z.take l) nq.1 ((uR.Z nq.2).take HT.o.2) (by have:=I.o;have:=HT.o;omega)⟩;have d4:w6.cell? ⟨N+1,4,none⟩=some (ae aj p.wd):=Pw6.o.cell 4;have D4:=aE d4;clear ED uR hsw b6 z3 d0 TC d4;go_wp2;refine aD (kF 127 (·=ae aj sw)) aF aF ?_
 repeat(refine cF aB aB aB ?_;intro K9 di;go_big_quiet_op;go_big_quiet_on)
 refine lsA (·=ae aj sw) (fun nq=> ?_) (fun v9 aV=> ?_)
 .go_simp
  exact(SU.o nq).mono fun e w' ⟨he,hb⟩=>⟨_,he,rfl,⟨w',nq.2.trans (hb.mono nq.2.size)⟩,rfl⟩
 have aV:v9=ae aj sw:=aV;subst aV;simp[Act.put]
 repeat(refine cF aB aB aB ?_;intro K9 di;go_big_quiet_op;go_big_quiet_on)
 intro nq;obtain⟨E,b7⟩:=nq
 try dsimp only
 have C:aq (cX E d.heap.size (some ⟨g,0,none⟩) h qs/\dS L (qs.map (·.1))):=⟨M.o.1.ar b7,M.o.2⟩;have Pw7:aq (Bx E (N+1) p.row):=⟨Pw6.o.ar b7 Pw6.o.lt⟩;have Rw7:aq (uT E (N+2) zL 44):=⟨Rw6.o.ar b7 Rw6.o.bx.lt⟩;have Qw7:aq (Bx E (N+3) (jL f t base x.en 0 0 (.slice none 0 0))):=⟨Qw6.o.ar b7 Qw6.o.lt⟩;have D:aq (az w E):=⟨Bw6.o.trans ((b7).mono Bw6.o.size)⟩;clear M Pw6 Rw6 Qw6 Bw6;clear b7 D4 SU;generalize ahl (p.wd-sw)=ex;have d5:E.cell? ⟨N+1,5,none⟩=some (ae aj p.al):=Pw7.o.cell 5;have d0:E.cell? ⟨N+1,0,none⟩=some (.slice p.T p.tn p.tc):=Pw7.o.cell 0;go_upto_region 22 with fail;go_cut[143](fun v J=>(∃b:Bool,v=.bool b)/\E=J)
 ·
  have⟨b1,h1⟩:=eY (p.al==3);have⟨Z,h2⟩:=eY (x.en==2);have⟨b3,h3⟩:=eY (decide (0<ex));cases b1<;>cases Z<;>cases b3<;>cases last
  all_goals(go_wp2_with fail;go_meet;exact⟨⟨_,rfl⟩,rfl⟩)
 obtain⟨⟨b,rfl⟩,rfl⟩:=hcut;clear d5;go_upto_if 143 with fail;go_cut[143](fun _ J=>aq (∃k:List BoxM,cX J d.heap.size (some ⟨g,0,none⟩) h k/\dS L (k.map (·.1)))/\aq (ahi d.heap.size E J))
 ·
  cases b
  .go_wp2
   go_meet;exact⟨⟨qs,C.o⟩,cA⟩
  .have D0:=aE d0
   have gH:d.heap.size<=E.heap.size:=by have:=Qw7.o.lt;have:=HX.o;omega
   have CHq:=iY.Z7 C.o.2 CH.o;have hlen:(qs.map (·.1)).length=i:=(by rw[C.o.2.len,I.o.1]);have FI:aq (FiB (qs.map (·.1)) l f t):=⟨⟨fun a b ha hb e=>CHq.Wo Ic Ic e,fun j hj=>CHq.within Ic⟩⟩;have FC:aq (∀nq:aG E,_):=⟨fun nq=>UO p.T p.tn p.tc ts d.heap.size g h l qs f t ex nq.1 (P.o.rT.ar (D.o.trans (nq.2.mono D.o.size))) (LW.o.ar (D.o.trans (nq.2.mono D.o.size))) (C.o.1.ar nq.2) Bw (by rw[List.length_map]at hlen;have:=HT.o;omega) FI.o ht fZ (by have:=HT.o;have:=I.o;omega)⟩;have HSZ:=sH gH;clear d0 CHq hlen FI gH;go_wp2;refine aS (fun _=>none) 8 rfl aF aF aF aF aF rfl ?_;refine mLw ?_;intro nq _;go_simp;refine(FC.o nq).mono ?_;rintro e w8 ⟨rfl,k,o8,l8,b8⟩;have O8:aq (∃k:List BoxM,cX w8 d.heap.size (some ⟨g,0,none⟩) h k/\dS L (k.map (·.1))):=⟨k,o8,C.o.2.trans l8⟩;have B8:aq (ahi d.heap.size E w8):=⟨(nq.2.mono HSZ.o).trans b8⟩;clear o8 l8 b8 D0 FC;go_wp2;go_meet;exact⟨O8,B8⟩
 obtain⟨HO,b8⟩:=hcut;obtain⟨k,o8,l8⟩:=HO.o;have O:aq (cX wc d.heap.size (some ⟨g,0,none⟩) h k/\dS L (k.map (·.1))):=⟨o8,l8⟩;have Pwc:aq (Bx wc (N+1) p.row):=⟨Pw7.o.ar b8.o (by rw[HX.o];omega)⟩;have Rwc:aq (uT wc (N+2) zL 44):=⟨Rw7.o.ar b8.o (by rw[HX.o];omega)⟩;have Qwc:aq (Bx wc (N+3) (jL f t base x.en 0 0 (.slice none 0 0))):=⟨Qw7.o.ar b8.o (by rw[HX.o];omega)⟩;have Bwc:aq (az w wc):=⟨D.o.trans (b8.o.mono B1.o.size)⟩;have⟨H,hwd⟩:=eY (ahl (du (k.map (·.1)) l));have HW:=sH hwd;have SW:aq (ahk prog 32 #[.slice (some ⟨g,0,none⟩) l h] wc fun e w'=>e=.returned (ae aj H)/\az wc w'):=⟨by
  obtain⟨b3,-,dZ,-,hx3⟩:=O.o.1.read O.o.2 I.o.1;have:=yb (some ⟨g,0,none⟩) l h (b3.take l) wc (hx3.take HT.o.2) (by have:=I.o;have:=HT.o;omega);rw[oC b3 l l bW,dZ l,hwd]at this;exact this⟩
 clear hwd C Pw7 Rw7 Qw7 D HO b8 o8 l8 d0;go_wp2_with fail;refine SW.o.mono ?_;rintro e w9 ⟨rfl,b9⟩;have Ow9:aq (cX w9 d.heap.size (some ⟨g,0,none⟩) h k/\dS L (k.map (·.1))):=⟨O.o.1.ar b9,O.o.2⟩;have Pw9:aq (Bx w9 (N+1) p.row):=⟨Pwc.o.ar b9 Pwc.o.lt⟩;have Rw9:aq (uT w9 (N+2) zL 44):=⟨Rwc.o.ar b9 Rwc.o.bx.lt⟩;have Qw9:aq (Bx w9 (N+3) (jL f t base x.en 0 0 (.slice none 0 0))):=⟨Qwc.o.ar b9 Qwc.o.lt⟩;have Bw9:aq (az w w9):=⟨Bwc.o.trans ((b9).mono Bwc.o.size)⟩;clear O Pwc Rwc Qwc Bwc;clear b9 SW;have⟨WB,r⟩:∃W,W=w9.setCell ⟨N+3,5,none⟩ (ae aj H):=⟨_,rfl⟩;have OWB:aq (cX WB d.heap.size (some ⟨g,0,none⟩) h k/\dS L (k.map (·.1))):=⟨by rw[r];exact Ow9.o.1.low (by rw[HX.o];omega) _ _,Ow9.o.2⟩;have U:aq (Bx WB (N+1) p.row):=⟨by rw[r];exact Pw9.o.fE (by omega) _ _⟩;have RWB:aq (uT WB (N+2) zL 44):=⟨by rw[r];exact Rw9.o.fE (by omega) _ _⟩;have QWB:aq (Bx WB (N+3) (jL f t base x.en 0 H (.slice none 0 0))):=⟨by rw[r];exact Qw9.o.jR 5 _⟩;have BWB:aq (az w WB):=⟨by rw[r];exact Below.setCell Bw9.o (p:=⟨N+3,5,none⟩) (by have:=HN.o;show w.heap.size<=N+3;omega) _⟩;have y3:w9.cell? ⟨N+3,5,none⟩=some (ae aj 0):=Qw9.o.cell 5;have f3:=Qw9.o.fz 5;clear Ow9 Pw9 Rw9 Qw9 Bw9;go_upto_region 25 with fail;rw[<-r];clear r y3 f3;have z5:WB.cell? ⟨N+3,5,none⟩=some (ae aj H):=QWB.o.cell 5;have d4:WB.cell? ⟨N+1,4,none⟩=some (ae aj p.wd):=U.o.cell 4;have d5:WB.cell? ⟨N+1,5,none⟩=some (ae aj p.al):=U.o.cell 5;go_wp2_with fail;refine(Nk _ _ _ WB).mono ?_;rintro e J ⟨X,rfl,bx⟩;have Owx:aq (cX J d.heap.size (some ⟨g,0,none⟩) h k/\dS L (k.map (·.1))):=⟨OWB.o.1.ar bx,OWB.o.2⟩;have Pwx:aq (Bx J (N+1) p.row):=⟨U.o.ar bx U.o.lt⟩;have Rwx:aq (uT J (N+2) zL 44):=⟨RWB.o.ar bx RWB.o.bx.lt⟩;have Qwx:aq (Bx J (N+3) (jL f t base x.en 0 H (.slice none 0 0))):=⟨QWB.o.ar bx QWB.o.lt⟩;have Bwx:aq (az w J):=⟨BWB.o.trans ((bx).mono BWB.o.size)⟩;clear OWB U RWB QWB BWB;clear bx z5 d4 d5;have⟨WC,u⟩:∃W,W=J.setCell ⟨N+3,4,none⟩ (ae aj X):=⟨_,rfl⟩;have OWC:aq (cX WC d.heap.size (some ⟨g,0,none⟩) h k/\dS L (k.map (·.1))):=⟨by rw[u];exact Owx.o.1.low (by rw[HX.o];omega) _ _,Owx.o.2⟩;have PWC:aq (Bx WC (N+1) p.row):=⟨by rw[u];exact Pwx.o.fE (by omega) _ _⟩;have RWC:aq (uT WC (N+2) zL 44):=⟨by rw[u];exact Rwx.o.fE (by omega) _ _⟩;have QWC:aq (Bx WC (N+3) (jL f t base x.en X H (.slice none 0 0))):=⟨by rw[u];exact Qwx.o.jR 4 _⟩;have BWC:aq (az w WC):=⟨by rw[u];exact Below.setCell Bwx.o (p:=⟨N+3,4,none⟩) (by have:=HN.o;show w.heap.size<=N+3;omega) _⟩;have y3:J.cell? ⟨N+3,4,none⟩=some (ae aj 0):=Qwx.o.cell 4;have f3:=Qwx.o.fz 4;clear Owx Pwx Rwx Qwx Bwx;go_upto_region 26 with fail;rw[<-u];clear u y3 f3;have z4:WC.cell? ⟨N+3,4,none⟩=some (ae aj X):=QWC.o.cell 4;obtain⟨T,Yi,kX,hl4,hx4⟩:=OWC.o.1.read OWC.o.2 I.o.1;have PT:=sH (Hd (some ⟨g,0,none⟩) i h T l base X WC hx4 (by have:=I.o;omega) HT.o.2 hic (fun j=>by rw[(Yi.at_ j).2.2];exact BWL.o.2 j));have HA:aq (iY T (f:Int) (t:Int)/\H=ahl (du T (dE ts T T.length))/\T.length=i):=⟨iY.Z7 Yi CH.o,by rw[hl4,oF Yi,HT.o.1,kX,HW.o],hl4⟩;generalize mY T (fF T) l (tt base) X=sh at PT;have K:N+3<WC.heap.size:=QWC.o.lt;clear Yi kX hl4 hx4;go_wp2_with fail;refine PT.o.mono ?_;rintro e wp ⟨A2,cc,ps2,rfl,ob,eq,bp⟩;have EQ:aq (ps2.map (·.1)=lz T (fF T) sh i/\ps2.length=i):=⟨eq,by have:=congrArg List.length eq;rw[List.length_map,tT]at this;exact this⟩;have Qp:aq (Bx wp (N+3) (jL f t base x.en X H (.slice none 0 0))):=⟨QWC.o.ar bp K⟩;have Bp:=BWC.t bp;have⟨F,B⟩:∃W,W=wp.setCell ⟨N+3,7,none⟩ (.slice A2 i cc):=⟨_,rfl⟩;have OD:aq (fa F WC.heap.size A2 cc ps2):=⟨by rw[B];exact ob.low K _ _⟩;have QD:aq (Bx F (N+3) (jL f t base x.en X H (.slice A2 i cc))):=⟨by rw[B];exact Qp.o.jR 7 _⟩;have RD:aq (uT F (N+2) zL 44):=⟨by rw[B];exact(RWC.o.ar bp (by omega)).fE (by omega) _ _⟩;have hNw:w.heap.size<=N:=by have:=HN.o;omega
 have BD:aq (az w F):=⟨by rw[B];exact Below.setCell Bp.o (p:=⟨N+3,7,none⟩) (by show w.heap.size<=N+3;omega) _⟩;have y7:wp.cell? ⟨N+3,7,none⟩=some (.slice none 0 0):=Qp.o.cell 7;have f7:=Qp.o.fz 7;have HL3:aq (N+2<WC.heap.size/\w.heap.size<=N+2):=⟨ak,ak⟩;clear ob eq bp z4 PT K hNw Qp Bp OWC PWC RWC QWC BWC;go_upto_region 27 with fail;rw[<-B];clear B y7 f7;have qc:=QD.o.cell;have q0:F.cell? ⟨N+3,0,none⟩=some (ae aj (f:Int)):=qc 0;have q1:F.cell? ⟨N+3,1,none⟩=some (ae aj (t:Int)):=qc 1;have k:F.cell? ⟨N+3,2,none⟩=some (ae aj base):=qc 2;have q3:F.cell? ⟨N+3,3,none⟩=some (ae aj x.en):=qc 3;have q4:F.cell? ⟨N+3,4,none⟩=some (ae aj X):=qc 4;have q5:F.cell? ⟨N+3,5,none⟩=some (ae aj H):=qc 5;have q6:F.cell? ⟨N+3,6,none⟩=some (.bool false):=qc 6;have q7:F.cell? ⟨N+3,7,none⟩=some (.slice A2 i cc):=qc 7;clear qc;go_wp2_with (refine wpList_store_row rfl 44 (.tmp 20) (.tmp 175) rfl (N+2) _ rfl rfl 44 _ RD.o tF aB (Mx _ _ _ _ _ _ _ _ _) ?_);refine bodyPost_ret (results_cell_row results8 _ _ (N+2) 44 _ (0,0) _ aB (setRow_heap _ _ _ _ _ _ RD.o) underlying44 rfl (by rw[tF];rfl)) rfl ?_;obtain⟨h1,h2,h3⟩:=HA.o;refine⟨_,rfl,⟨T,sh,base,x.en,X,H,A2,cc,by rw[h3],h1,h2, ?_⟩,below_setRow BD.o HL3.o.2 _⟩;have h4:=(OD.o.aaf HL3.o.1 (jL f t base x.en X H (.slice A2 i cc))).boxes;rw[EQ.o.1,EQ.o.2]at h4;rw[h3];exact h4
theorem cK.ints{k:IntKind}(h:cK w w.heap.size (.num k) A n c):∃xs,aM k w A n c xs:=by
 rcases Nat.eq_zero_or_pos n with rfl|o
 .exact⟨[],⟨⟨rfl,fun h=>absurd h ak⟩,h.1,h.2.1,aQ⟩⟩
 obtain⟨f,l,d,p⟩:=h.2.2.2 o;have a:∀j:Fin n,∃z:Int,(Lit.int k z).wf=true/\w.cell? (f.add j.1)=some (.int k z):=fun j=>by
  obtain⟨s,⟨z,rfl,m⟩,r⟩:=p j.1 j.2;have i:=r 0 _ rfl;rw[ri,show j.1*(Ty.num k).n=j.1 from Nat.mul_one _]at i;exact⟨z,m,i⟩
 let F:Fin n->Int:=fun j=>(a j).choose
 have g:=fun j=>(a j).choose_spec
 refine⟨List.ofFn F,⟨⟨aQ,fun _=>⟨f,l,d,fun j b=> ?_⟩⟩,h.1,h.2.1,fun x q=> ?_⟩⟩
 .have e:nth (List.ofFn F) j=F ⟨j,b⟩:=by simp[nth,b]
  rw[e];exact(g ⟨j,b⟩).2
 .obtain⟨j,rfl⟩:=List.mem_ofFn.1 q
  exact(g j).1
theorem ae6{a:List ahj}(h:Rd w w.heap.size YV a):∃(x:jA) (ts:aC),a=x.row.toList/\lh w x ts:=by
 obtain⟨_,_,rfl,⟨l,m,c0,rfl,r⟩,⟨_,_,rfl,⟨p,k,q,rfl,f⟩,⟨_,_,rfl,⟨c,g,i,rfl,s⟩,⟨_,_,rfl,⟨e,rfl,_⟩,⟨_,_,rfl,⟨b,rfl,_⟩,⟨_,_,rfl,⟨d,rfl,_⟩,⟨_,_,rfl,⟨n,rfl,_⟩,⟨j,rfl⟩⟩⟩⟩⟩⟩⟩⟩:=h;obtain⟨ts,o⟩:=cK.ints r;exact⟨⟨l,m,c0,p,k,q,c,g,i,e,b,d,n,j⟩,ts,rfl,⟨o,f,s⟩⟩
theorem jd.chain{n a:Nat}{xs:List fp}(h:jd n a xs):∀i,i<xs.length->(kR xs 0).q.f<(kR xs i).q.t/\(kR xs i).q.t<=n
 |0,hi=>h.ne _ (ju hi)
 |i+1,hi=>by
  have b:=jd.chain h i ak;have d:=h.ad i hi;have c:=h.ne _ (ju hi);omega
theorem jd.chb{xs:List fp}(h:jd n c xs)(s:cN)(ts:aC)(l:List (Int×Int))(b:List aC)(j:Nat)(d:xs.length=j+1):iY (Jb s ts l b xs (j+1) (j+1)).1 ((kR xs 0).q.f:Int) ((kR xs j).q.t:Int):=by
 have f:(qs xs).length=j+1:=by simp[qs,d]
 have:=Vi (ts:=ts) (rn:=lfS b) (W:=jh (lE ts (qs xs) (j+1))) (Bg:=(gI l s.ev (jh (lE ts (qs xs) (j+1))) (se (lE ts (qs xs) (j+1))) (lE ts (qs xs) (j+1)).length).1) (ps:=qs xs) (fun i e=>by
  have a:i<xs.length:=by omega
  rw[nO a];exact⟨(h.gl _ (ju a)).2.2.1,(h.ne _ (ju a)).1⟩) (fun i e=>by
  rw[nO ak,nO ak];exact h.ad i ak) j ak
 rw[nO ak,nO ak]at this;exact this
theorem T6{s:cN}{p:jA}{xs:List fp}{r:List aC}{R V:aA}{m u z:Nat}{base:Int}{last:Bool}(F:lh w p ts)(D:Laid w)(n:vl w w.heap.size xs 0 m A)(h:xs.length=m)(O:0<m)(o:m<=c)(C:m<=40)(N:Rx w w.heap.size 6 r R g)(k:jd p.tn g xs)(P:Iw w w.heap.size .i64 aH V p.tn)(B:p.tn<=z)(v:p.tn<=40)(L:p.bn<=40):
 ∃f t:Nat,f<t/\t<=p.tn/\(∃e d,A=some e/\d=e.add ((m-1)*9)/\w.cell? (e.add (0*9))=some (ae aj (f:Int))/\w.cell? (bP d 1)=some (ae aj (t:Int)))/\∀W,az w W->ahk prog 8 #[.agg s.row,.agg p.row,.slice R g u,.slice A m c,.slice V p.tn z,ae aj base,ae aj (f:Int),ae aj (t:Int),.bool false,.bool last] W (PLn W ts f t):=by
 obtain⟨l,K⟩:=k.bxi (s:=s) F ak ak n h o ak N;obtain⟨j,rfl⟩:∃j,m=j+1:=⟨m-1,ak⟩;obtain⟨J,G⟩:=k.chain j ak;have q:=k.chb s ts l r j h;obtain⟨e,x,E,H,c0,-⟩:=n.at (show 0<j+1 by omega);obtain⟨d,y,I,a,-,M,-⟩:=n.at (show j<j+1 by omega);rw[Nat.zero_add]at E I;refine⟨_,_,J,G,⟨e,_,H,rfl,by rw[E];exact c0, ?_⟩,fun W b=> ?_⟩
 .rw[H]at a
  injection a with a
  subst a;rw[I];exact M
 .exact Mv s p ts _ xs A (j+1) c R g u V z base _ _ last W (F.ar b) (D.ar b) (n.Z b b.size) O C (P.Z b b.size) B q (K.bw _ bW) J G v fun Q i=>Lx s p ts l xs A (j+1) c r R g u Q ((K.Z b).Z i) k.inT ((D.ar b).ar i)
theorem LnV.Z{v:ahj}(h:LnV ts f t v w)(g:az w a):LnV ts f t v a:=by
 obtain⟨bs,sh,base,b,x,j,C,e,c,k,d,i⟩:=h;exact⟨bs,sh,base,b,x,j,C,e,c,k,d,i.Z g⟩
def ZLn(ts:aC)(f t:Nat):Sat:=⟨fun v w=>LnV ts f t v w,fun _ _ _ h a=>h.Z a⟩
theorem PLn.x{e:ahn}(h:PLn w ts f t e a):∃v,e=.returned v/\(ZLn ts f t).p v a/\az w a:=h
theorem ZLn.get{l:Nat}{base p x k:Int}{C:aA}(h:(ZLn ts f t).p (.agg (jL f t base p x k (.slice C n l))) w):∃(xs:List aZ) (e:Nat->Int),db w w.heap.size C n xs/\Cov xs n (f:Int) (t:Int) (gG ts f t:Int) k e/\n<=t:=by
 obtain⟨bs,sh,c,u,y,g,r,j,b,o,q,v⟩:=h;injection b with b
 have i:ae aj k=ae aj g:=congrArg (fun a:Array ahj=>a[5]!) b;have d:Value.slice C n l=.slice r bs.length j:=congrArg (fun a:Array ahj=>a[7]!) b;injection i with _ i
 injection d with d e8 e9
 subst i d e8;have m:=Va (ts:=ts) (s:=sh) o rfl ak;rw[Int.toNat_natCast,Int.toNat_natCast,<-q]at m;exact⟨_,_,v,m,by have:=o.few;omega⟩
def uA(w:ahh)(B:Nat)(A:aA)(n:Nat)(xs:List aZ):Prop:=0<n->∃a,A=some a/\a.block<B/\∀j,j<n->∃(G:aA) (b:Nat),w.cell? (a.add (j*6))=some (ae aj (aJ xs j).f)/\w.cell? (bP (a.add (j*6)) 1)=some (ae aj (aJ xs j).t)/\w.cell? (bP (a.add (j*6)) 2)=some (ae aj (aJ xs j).lv)/\w.cell? (bP (a.add (j*6)) 3)=some (ae aj (aJ xs j).x)/\w.cell? (bP (a.add (j*6)) 4)=some (ae aj (aJ xs j).wd)/\w.cell? (bP (a.add (j*6)) 5)=some (.slice G (aJ xs j).gs.length b)
theorem db.r(h:db w B A n xs):uA w B A n xs:=fun f=>by
 obtain⟨b,e,a,g⟩:=h.2 f;refine⟨b,e,a,fun j d=> ?_⟩;obtain⟨G,c,i,_⟩:=VE (g j d);exact⟨G,c,i⟩
theorem uA.jS{b:ahh}(h:uA w B A n xs)(u:B<=c)(r:∀a,A=some a->0<n->∀q:Addr,q.block=a.block->b.cell? q=w.cell? q):uA b c A n xs:=fun f=>by
 obtain⟨a,e,t,m⟩:=h f;refine⟨a,e,ak,fun j l=> ?_⟩;obtain⟨G,i,c0,p,g,s,c4,c5⟩:=m j l;have k:=r a e f;have d:(a.add (j*6)).block=a.block:=aO _ _;have k2:∀o,b.cell? {block:=(a.add (j*6)).block,off:=(a.add (j*6)).off+o}=w.cell? {block:=(a.add (j*6)).block,off:=(a.add (j*6)).off+o}:=fun o=>k _ (by exact d)
 exact⟨G,i,(k _ d).trans c0,(k2 1).trans p,(k2 2).trans g,(k2 3).trans s,(k2 4).trans c4,(k2 5).trans c5⟩
theorem uA.Z{c:ahh}{b:Nat}(h:uA w B A n xs)(j:ahi B w c)(i:B<=b):uA c b A n xs:=h.jS i fun l e k q d=>by
 obtain⟨g,a,f,_⟩:=h k;rw[e]at a;injection a with a
 subst a;exact j.cell (by rw[d];exact f)
theorem uA.row(h:uA w B A n xs)(d:Bx w g zL)(cs:Array ahj):uA (w.setRow g cs) B A n xs:=h.jS bW fun c e f q i=>by
 obtain⟨j,b,p,m⟩:=h f;rw[e]at b;injection b with b
 subst b;refine nP (setRow_other _ _ _ _ fun o=> ?_);obtain⟨G,k,-,-,-,-,c4,c5⟩:=m 0 f;have l:(c.add (0*6)).block=g:=by rw[aO,<-i,o]
 generalize c.add (0*6)=r at*;obtain⟨rb,a,rx⟩:=r;subst l;have c4:zL[a+4]? =some (ae aj (aJ xs 0).wd):=(d.cell (a+4)).symm.trans c4;have c5:zL[a+5]? =some (.slice G (aJ xs 0).gs.length k):=(d.cell (a+5)).symm.trans c5
 match a with
 |0=>cases c5
 |1=>cases c5
 |2=>cases c4
 |q+3=>cases c5
def DW(w:ahh)(B:Nat)(A:aA)(n c:Nat):Prop:=∃bs:List Bool,aw w B 4 1 A n c (bs.map Value.bool)
theorem TBn:aR prog 106 4 1 1:=bu underlying106 (z:=.bool false) aF rfl ak ak
theorem DW.ar(h:DW w B A n c)(b:az w a):DW a B A n c:=by
 obtain⟨bs,h⟩:=h;exact⟨bs,aw.ar h b⟩
theorem DW.at{j:Nat}(h:DW w B (some ⟨g,0,none⟩) n c)(a:j<n):(B<=g/\g<w.heap.size)/\w.frozen? ⟨g,j,none⟩=false/\∃b:Bool,w.cell? ⟨g,j,none⟩=some (.bool b):=by
 obtain⟨bs,h⟩:=h;have d:bs.length=n:=by have:=h.1;simpa using this
 refine⟨aw.xD h,aw.frozenAt h j,bs[j], ?_⟩;rw[aw.cellAt h j ak,List.getElem?_map,List.getElem?_eq_getElem ak];rfl
theorem DW.set(h:DW w B (some ⟨g,0,none⟩) n c)(j:Nat)(b:Bool):DW (w.setCell ⟨g,j,none⟩ (.bool b)) B (some ⟨g,0,none⟩) n c:=by
 obtain⟨bs,h⟩:=h;refine⟨bs.set j b, ?_⟩;rw[List.map_set];exact(World.ownsRow.stored (cap:=c) h j (.bool b)).1
theorem pz{P:aho}{ops:Array Oper}{rest:List Oper}{o:Oper}{a:Act}{Q:Exit->Act->ahh->Prop}{t:ahm}(T:aR P t 4 1 1)(b:(P.info? 4).map (·.zero)=some (some (.bool false)))(f:o.guard=none)(l c:Operand)
 (G:o.op=.makeSlice t l c) {p r:IntKind} {L C:Int} (n:Nat) (y:a.eval l=.int p L) (D:a.eval c=.int r C) (x:L=(n:Int)) (A:C=(n:Int)) (J:n<=140737488355328) (B:Nat) (v:B<=w.heap.size)
 (h:∀g d,DW d B (some ⟨g,0,none⟩) n n->ahi B w d->wpList P ops Q rest (a.put o.dst (.slice (some ⟨g,0,none⟩) n n)) d):wpList P ops Q (o::rest) a w:=by
 obtain⟨i,z,s,q,j,e,F⟩:=T.info;have m:z=.bool false:=by
  rw[s]at b;simp[q]at b;exact b
 refine wpList_make_full w f l c t G B 4 i z 1 T.ht s q j p r L C n y D x A (by rw[e];omega) qT v fun d u E=>
  h _ d ⟨List.replicate n false, ?_⟩ ((Below.refl B w).grown E v (fun k H=>by cases H))
 subst m;unfold aw;have I:(madeCells (Value.bool false).cells (n*1)).toList=(List.replicate n false).map Value.bool:=by
  rw[Nat.mul_one,List.map_replicate];exact toList_madeCells_one _ _
 rw[I]at u;exact u
structure YN where
 A:aA
 n:Nat
 c:Nat
 C:aA
 m:Nat
 d:Nat
def YN.F(r:YN):List ahj:=[.slice r.A r.n r.c,.slice r.C r.m r.d]
def PtI(B N:Nat)(w:ahh)(r:YN):Prop:=TM w B N r.A r.n r.c r.C r.m r.d
theorem td(B N:Nat):Kpt 193 (PtI B N):=⟨fun w e r h d=>⟨h.1,h.2.1,h.2.2.1.ar d,h.2.2.2.ar d⟩,fun w e r B g A n c vs h k b=>⟨h.1,h.2.1,h.2.2.1.kept b (by obtain⟨xs,a,f⟩:=h.2.2.1;exact bS a k (by decide)) (aw.dK k),h.2.2.2.kept b (by obtain⟨xs,a,f⟩:=h.2.2.2;exact bS a k (by decide)) (aw.dK k)⟩⟩
abbrev GnP(w:ahh)(B N:Nat)(a:List YN)(A:aA)(n c:Nat):Prop:=Gn w B 193 2 YN.F (PtI B N) a A n c
def Dy(w:ahh)(B N:Nat)(A:aA)(k:Nat):Prop:=∀j,j<k->∃(a:Addr) (r:YN),A=some a/\a.block<B/\w.cell? (a.add (j*2))=some (.slice r.A r.n r.c)/\w.cell? (bP (a.add (j*2)) 1)=some (.slice r.C r.m r.d)/\r.n<=N/\r.m=r.n+1/\Iw w B .i32 (Wf .i32) r.A r.n/\Iw w B .i64 aH r.C r.m
theorem Dy.Z{d:ahh}{b N k:Nat}(h:Dy w B N A k)(a:ahi B w d)(e:B<=b):Dy d b N A k:=fun j n=>by
 obtain⟨c,r,g,h2,i,m,l,p,f,o⟩:=h j n;exact⟨c,r,g,ak,(a.cell yD).trans i,(a.cell (by show(c.add (j*2)).block<B;rw[aO];exact h2)).trans m,l,p,f.Z a e,o.Z a e⟩
theorem My{N:Nat}{i:List YN}(h:GnP w B N i A n c):Dy w w.heap.size N A n:=fun j f=>by
 obtain⟨g,r,rfl,d,a,b⟩:=Gn.at h (fun _=>rfl) f;have e:(⟨g,0,none⟩:Addr).add (j*2)=⟨g,j*2,none⟩:=bj _ _;exact⟨_,r,rfl,d,by rw[e];exact b 0 _ rfl,by rw[e];exact b 1 _ rfl,a.1,a.2.1,a.2.2.1.iw,a.2.2.2.iw⟩
def PNw(w:ahh)(N k:Nat)(e:ahn)(a:ahh):Prop:=∃(A:aA) (n c:Nat) (t z:Int),e=.returned (.tuple #[.slice A n c,ae aj t,ae aj z])/\n<=k/\Dy a a.heap.size N A n/\az w a
def PBz(w:ahh)(e:ahn)(a:ahh):Prop:=(∃b:Bool,e=.returned (.bool b))/\az w a
theorem VG(A C:aA)(n m c d:Nat)(w:ahh)(h:Iw w w.heap.size .i32 (Wf .i32) A n)(k:Iw w w.heap.size .i32 (Wf .i32) C m)(z:n<=100000):ahk prog 114 #[.slice A n c,.slice C m d] w (PBz w):=by
 have X:=sH h;have Y:=sH k;by_cases j:n=m;rotate_left
 .have s:((n:Int) !=(m:Int))=true:=by simp;omega
  go_enter func114,ntmps114;go_wp2;go_ret;exact⟨⟨_,rfl⟩,Below.refl _ _⟩
 subst j;go_enter func114,ntmps114;go_wp2;go_loopg[5](n+1)(fun gg v wr=>∃i:Nat,n-i<gg/\i<=n/\v=ae aj (i:Int)/\aq (az w wr))
 .exact⟨0,ak,ak,rfl,cA⟩
 obtain⟨i,q,r,rfl,a⟩:=hrel;by_cases b:i<n;rotate_left
 .have o:=cv i n
  go_wp2;go_ret;exact⟨⟨_,rfl⟩,a.o⟩
 have o:=aU i n;obtain⟨t,x,rfl,_,f⟩:=(X.o.Z a.o a.o.size).get b;obtain⟨l,y,rfl,_,p⟩:=(Y.o.Z a.o a.o.size).get b;have⟨L0,L1⟩:=lc2 f p;cases u:(x !=y)
 .go_wp2
  refine mRl ?_;rintro _ ⟨e,rfl⟩;have g:=a.t e.2;go_wp2;go_roundg(n-i)
  .exact⟨i+1,ak,ak,aT,g⟩
  omega
 .go_wp2
  refine mRl ?_;rintro _ ⟨e,rfl⟩;go_wp2;go_ret;exact⟨⟨_,rfl⟩,a.o.trans (e.2.mono a.o.size)⟩
theorem afQ:aR prog 111 193 2 48:=bu underlying111 (z:=.agg #[.slice none 0 0,.slice none 0 0]) aF rfl ak ak
theorem aay(s:cN)(w:ahh)(h:cK w w.heap.size .str s.P s.pn s.pc)(hl:∀j,j<s.pn->rR w s j)(hn:s.pn<=60):ahk prog 50 #[.slice s.P s.pn s.pc] w (PNw w 200 s.pn):=by
 have X:=sH h;have Q:=sH hl;have⟨n,x⟩:=eY s.pn;have HN:=sH x;have⟨P,t⟩:=eY s.P;have F:=sH t;rw[x]at hn X Q⊢;rw[t]at X⊢;go_enter func50,ntmps50;go_wp2;go_loopg[5,6](n+1)(fun gg v5 v6 wr=>∃(i m:Nat) (A:aA) (c:Nat) (W:List YN),n-i<gg/\i<=n/\m<=i/\v5=.slice A m c/\v6=ae aj (i:Int)/\aq (GnP wr w.heap.size 200 W A m c)/\aq (az w wr))
 .exact⟨0,0,none,0,[],ak,ak,ak,rfl,rfl,⟨Gn.nil _ _ _ _ _ _⟩,cA⟩
 obtain⟨i,m,A,c,W,V,hi,hm,rfl,rfl,G,B⟩:=hrel;by_cases q:i<n;rotate_left
 .have i4:=cv i n
  go_wp2;go_ret3;exact⟨_,_,_,_,_,rfl,ak,My G.o,B.o⟩
 have i4:=aU i n;obtain⟨S,z,O,jB,E,_⟩:=yy X.o q;have hz:z.size<=200:=Q.o i q S z (F.o.trans O) E;have E:=(B.o.cell Bq).trans E;subst O;go_wp2_with fail;refine(zM z ak wr).mono ?_;rintro e N ⟨a,o,f,d,l,g,b,rfl,y,H⟩;have Y:=B.t H;have G1:=sH (G.o.ar (td _ _) H);cases b
 .clear y H E
  go_wp2;go_ret3;exact⟨none,0,0,_,_,rfl,ak,fun j h=>by omega,Y.o⟩
 have p:aq (TM N w.heap.size 200 a f d o l g):=⟨⟨by have:=(y rfl).1;omega,(y rfl).2.1,(y rfl).2.2.1.cJ B.o.size,(y rfl).2.2.2.cJ B.o.size⟩⟩;have HG:=sH V;go_wp2;go_loopg[10](m+1)(fun gg v wr=>∃k:Nat,m-k<gg/\k<=m/\v=ae aj (k:Int)/\aq (az N wr))
 .exact⟨0,ak,ak,rfl,cA⟩
 obtain⟨k,V,hk,rfl,C⟩:=hrel;have J:=Y.t C.o;have U:=sH (G1.o.ar (td _ _) C.o);have D:aq (TM wr w.heap.size 200 a f d o l g):=⟨⟨p.o.1,p.o.2.1,p.o.2.2.1.ar C.o,p.o.2.2.2.ar C.o⟩⟩;have K:=J.o.size;have qM:=p.o.1;by_cases I:k<m
 .have i5:=aU k m
  obtain⟨S,r,rfl,_,q0,q1,hr,_,ir,_⟩:=My U.o k I;have IR:=sH ir;go_wp2_with fail;refine(VG r.A a r.n f r.c d wr IR.o D.o.2.2.1.iw ak).mono ?_;rintro e w3 ⟨⟨b,rfl⟩,b3⟩;have B3:=J.t b3;have B4:=C.t b3;cases b
  .go_wp2
   go_roundg(m-k)
   .exact⟨k+1,ak,ak,aT,B4⟩
   omega
  .go_wp2
   go_ret3;exact⟨none,0,0,_,_,rfl,ak,fun j h=>by omega,B3.o⟩
 .have i5:=cv k m
  have Z:=sH (U.o.ar (td _ _) (av wr (.cells #[.slice a f d,.slice o l g] 193)));have PA:aq (PtI w.heap.size 200 (wr.alloc (.cells #[.slice a f d,.slice o l g] 193)) ⟨a,f,d,o,l,g⟩):=⟨⟨D.o.1,D.o.2.1,D.o.2.2.1.alloc _,D.o.2.2.2.alloc _⟩⟩;go_wp2_with (at_builtin;refine br afQ rfl (.tmp 46) (.tmp 50) rfl rfl Z.o.own rfl (news:=[.slice a f d,.slice o l g]) rfl (fun j u h=>by rw[cell_of_row _ _ _ _ _ _ (heap_alloc_new wr _)];simpa using h) (fun u M=>by simp at M;rcases M with rfl|rfl<;>rfl) ak cw ?_;intro A5 c5 w5 R L T _;have G5:=sH (Z.o.push (td _ _) PA.o R T);have B5:=sH ((J.o.alloc K _).trans L);clear R L T);go_roundg(n-i)
  .exact⟨i+1,m+1,A5,c5,_,ak,ak,ak,rfl,aT,G5,B5⟩
  have:=HG.o;omega
end Go.Proofs.YtklncadpkniojaaGreatDoor
