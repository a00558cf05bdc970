/- Part of LineBoxes. -/
import Derived.Test.YtpidckelbgbbkaaGreatDoorAD
import Derived.Test.YtpidckelbgbbkaaGreatDoorAE
import Derived.Test.YtpidckelbgbbkaaGreatDoorAC
import Derived.Deep.RegionHeld3
namespace Go.Proofs.YtpidckelbgbbkaaGreatDoor
open Go.ChangeShapes Go.WideShapes Go.ChangeAt Go.RowKit Go.Proofs.Tryz
open Go.Value renaming int → ae
open Go.IntKind renaming i64 → aj
set_option linter.all false
set_option maxRecDepth 100000
set_option maxHeartbeats 16000000
variable{G:Prop}{w:World}{B b c g k n:Nat}{e:TypeId}{P:Int->Prop}{A:aC}
theorem acQ(s:G:=by
 have HQ:ak (P=max (wrap64 (v-hv)) x):=⟨by rw[HP.o,if_neg h1,if_pos h2]⟩
 have b2:(k==2)=true:=pO;clear h1 h2 HP;go_wp2_with fail;refine(CD.o _).mono ?_;rintro e w2 ⟨rfl,e2⟩;subst w2;go_wp2_with fail
 all_goals go_ret
 all_goals exact⟨Pb,B1.o⟩):G:=s
theorem acS(s:G:=by
 have HQ:ak (P=max (wrap64 (v-lL)) x):=⟨by rw[HP.o,if_neg h1,if_neg h2,if_pos h3]⟩
 have b3:(k==3)=true:=by simp[h3]
 clear h1 h2 h3 HP;go_wp2_with fail
 all_goals go_ret
 all_goals exact⟨Pb,B1.o⟩):G:=s
theorem adR(s:G:=by
 have HQ:ak (P=max (wrap64 (v-wide)) x):=⟨by rw[HP.o,if_pos h1]⟩
 have b1:(k==1)=true:=nU;clear h1 HP;go_wp2_with fail
 all_goals go_ret
 all_goals exact⟨Pb,B1.o⟩):G:=s
theorem Mq(k v x wide lL:Int)(c: -9223372036854775808<=wide/\wide<=9223372036854775807)(w:World):Calls prog 61 #[.agg #[ae aj v,ae aj k],ae aj x,ae aj wide,ae aj lL] w fun e d=>e= .returned (ae aj (kD (v,k) x wide lL))/\aA w d:=by
 obtain⟨a,aP⟩:∃a,a=w.alloc (.cells #[ae aj v,ae aj k] 116):=⟨_,rfl⟩;obtain⟨g,f⟩:=xK aP;have B1:ak (aA w a):=⟨lY⟩;have CD:ak _:=⟨fun W=>Nj wide c W⟩;obtain⟨P,b⟩:∃P,kD (v,k) x wide lL=P:=⟨_,rfl⟩;have HP:ak (P=max (if k=1 then wrap64 (v-wide)else if k=2 then wrap64 (v-kS wide)else if k=3 then wrap64 (v-lL)else v) x):=⟨b.symm⟩;rw[b];clear b c;generalize kS wide=hv at*;go_enter func61,ntmps61;go_upto_region 1 with fail;rw[<-aP];clear aP;by_cases h1:k=1
 ·exact adR
 have b1:(k==1)=false:=nU;by_cases h2:k=2
 ·exact acQ
 have b2:(k==2)=false:=pO;by_cases h3:k=3
 ·exact acS
 have HQ:ak (P=max v x):=⟨by rw[HP.o,if_neg h1,if_neg h2,if_neg h3]⟩;have b3:(k==3)=false:=by simp[h3]
 clear h1 h2 h3 HP;go_wp2_with fail
 all_goals go_ret
 all_goals exact⟨Pb,B1.o⟩
theorem NY(k v x wide lL:Int)(c: -9223372036854775808<=wide/\wide<=9223372036854775807)(w:World):Calls prog 67 #[.agg #[ae aj v,ae aj k],ae aj x,ae aj wide,ae aj lL] w fun e d=>e= .returned (ae aj (kD (v,k) x wide lL))/\aA w d:=by
 obtain⟨a,aP⟩:∃a,a=w.alloc (.cells #[ae aj v,ae aj k] 116):=⟨_,rfl⟩;obtain⟨g,f⟩:=xK aP;have B1:ak (aA w a):=⟨lY⟩;have CD:ak _:=⟨fun W=>No wide c W⟩;obtain⟨P,b⟩:∃P,kD (v,k) x wide lL=P:=⟨_,rfl⟩;have HP:ak (P=max (if k=1 then wrap64 (v-wide)else if k=2 then wrap64 (v-kS wide)else if k=3 then wrap64 (v-lL)else v) x):=⟨b.symm⟩;rw[b];clear b c;generalize kS wide=hv at*;go_enter func67,ntmps67;go_upto_region 1 with fail;rw[<-aP];clear aP;by_cases h1:k=1
 ·exact adR
 have b1:(k==1)=false:=nU;by_cases h2:k=2
 ·exact acQ
 have b2:(k==2)=false:=pO;by_cases h3:k=3
 ·exact acS
 have HQ:ak (P=max v x):=⟨by rw[HP.o,if_neg h1,if_neg h2,if_neg h3]⟩;have b3:(k==3)=false:=by simp[h3]
 clear h1 h2 h3 HP;go_wp2_with fail
 all_goals go_ret
 all_goals exact⟨Pb,B1.o⟩
theorem Tw(l:aE)(k:Nat)(x:Int):(l++List.replicate (k+1) 0).set l.length x=(l++[x])++List.replicate k 0:=by
 rw[List.set_append_right _ _ cr,Nat.sub_self,List.replicate_succ,List.set_cons_zero];simp
theorem Uo(l:aE)(x:Int)(r:aE):nth ((l++[x])++r) l.length=x:=wR
theorem Lj(l:aE)(k:Nat):nth (l++List.replicate (k+1) 0) l.length=0:=wR
structure LyI(w:World)(l:List (Int×Int))(B:aC)(bn:Nat)(W Q:aE)(A C:aC)(m:Nat):Prop where
 tb:WO w w.heap.size l B
 tl:l.length=bn
 bl:bn<=1000
 wi:bh w w.heap.size .i64 A m W
 qi:bh w w.heap.size .i64 C m Q
 wr:∀i,i<m->-9223372036854775808<=nth W i/\nth W i<=9223372036854775807
 ml:m<=1000
def PLy(w:World)(L:aE)(m:Nat)(e:Ending)(a:World):Prop:=∃(A:aC) (c:Nat),e= .returned (.slice A m c)/\Own a w.heap.size 3 .i64 A m c L/\aA w a
theorem vv(l:List (Int×Int))(every:Int)(W Q:aE){i:Nat}(b:i<Q.length)(x:Int)(a:x=if i=0 then 0 else kD (gV l every (fv l every W Q i).2) (fv l every W Q i).2 (nth W i) (nth Q i)):fv l every W Q (i+1)=((fv l every W Q i).1++[x],wrap64 (x+nth W i)):=by
 rw[a,fv];simp only[b,if_true]
theorem tq(l:List (Int×Int))(every x:Int):∃v k,gV l every x=(v,k):=⟨_,_,rfl⟩
theorem Yo(l:List (Int×Int))(B:aC)(p N:Nat)(every:Int)(W Q:aE)(A C:aC)(m c d:Nat)(w:World)(h:LyI w l B p W Q A C m):Calls prog 29 #[.slice B p N,ae aj every, .slice A m c, .slice C m d] w (PLy w (fv l every W Q m).1 m):=by
 have I:=sH h;have hm:=h.ml;have IF:=h.qi.len;clear h;obtain⟨L,P⟩:=eY ((fv l every W Q m).1);have HL:=sH P;rw[P];clear P;go_enter func29,ntmps29;go_wp2;go_loopg [9,10,11,12] (m+1) (fun gg v9 v10 J _ wr=>∃(i:Nat) (r:aC) (s:Nat) (X:Int),m-i<gg/\i<=m/\v9= .slice r i s/\v10=ae aj X/\J=ae aj (i:Int)/\ak (X=(fv l every W Q i).2)/\ak (Own wr w.heap.size 3 .i64 r i s (fv l every W Q i).1)/\ak (aA w wr))
 ·exact⟨0,none,0,0,aq,aq,rfl,rfl,rfl,⟨rfl⟩,⟨Own.nil _ _ _ _⟩,cB⟩
 obtain⟨i,r,s,X,hg,hi,rfl,rfl,rfl,HX,O2,g⟩:=hrel;have k:=g.o.size;by_cases f:i<m;rotate_left
 ·have R:=cF i m
  obtain rfl:i=m:=aq;go_wp2;go_ret;exact⟨r,s,rfl,by rw[<-HL.o];exact O2.o,g.o⟩
 have R:=aR i m;obtain⟨ad,eA,iN,o⟩:=I.o.wi.2 aq;obtain⟨gP,eC,_,n⟩:=(I.o.qi.Z g.o).2 aq;subst eA;subst eC;have V:ak (∀H,aA w H->H.cell? (ad.add i)=some (ae aj (nth W i))):=⟨fun H hb=>(hb.cell yF).trans (o i f)⟩;have e0:=V.o _ g.o;have e1:=n i f;have K:=I.o.wr i f;have S:ak (∀x,(x=if i=0 then 0 else kD (gV l every X) X (nth W i) (nth Q i))->fv l every W Q (i+1)=((fv l every W Q i).1++[x],wrap64 (x+nth W i))):=⟨fun x b=>vv l every W Q aq x (by rw[b,HX.o])⟩;generalize nth W i=y at*;generalize nth Q i=z at*;have D:=sH hg;clear o n hg iN;obtain⟨x,b⟩:∃x,(if i=0 then 0 else kD (gV l every X) X y z)=x:=⟨_,rfl⟩;have j:=sH (S.o x b.symm);clear S;go_upto_if 20 with fail;go_cut [10,12] (fun v _ wx=>v=ae aj x/\ak (aA wr wx))
 ·
  rcases Nat.eq_zero_or_pos i with q|q
  ·have O:decide (0<i)=false:=fC
   have E:ak (X=x):=⟨by rw[<-b,if_pos q,HX.o,q];rfl⟩;have hni:¬0<i:=aq;clear q b;go_wp2;go_meet;exact⟨mR,cB⟩
  ·have O:decide (0<i)=true:=yy
   rw[if_neg aq]at b;obtain⟨M,F,G⟩:=tq l every X;have CN:ak (∀a:aI wr,Calls prog 68 #[.slice B p N,ae aj every,ae aj X] a.1 fun e u=>e= .returned (.agg #[ae aj M,ae aj F])/\Below a.1.heap.size a.1 u):=⟨fun a=>by
    have:=Un l B p N every X a.1 ((I.o.tb.Z g.o k).Z a.2 a.2.size) I.o.tl I.o.bl;unfold PNt at this;rw[G]at this;exact this⟩
   rw[G]at b;have CP:ak (∀a:aI wr,Calls prog 67 #[.agg #[ae aj M,ae aj F],ae aj X,ae aj y,ae aj z] a.1 fun e u=>e= .returned (ae aj x)/\Below a.1.heap.size a.1 u):=⟨fun a=>by rw[<-b];exact NY F M X y z K a.1⟩;have L0:=aw e0;have i5:(i:Int)<(m:Int):=R;clear b G;go_wp2;refine br aF aF ?_
   repeat(go_big_quiet_step (with_reducible first|exact cD (CN.o _)|exact cD (CP.o _)))
   refine wpQuiet_nil ?_;rintro _ ⟨nq,rfl⟩;go_wp2;go_meet;exact⟨rfl,⟨nq.2⟩⟩
 obtain⟨rfl,Y⟩:=hcut;have T:=sH (g.o.trans (Y.o.mono k));have O3:=sH (O2.o.ar Y.o);have t:=T.o.size;clear e0 e1 b;go_wp2_with (at_builtin;refine a7 nF rfl (.tmp 44) (.tmp 46) rfl rfl (O3.o.alloc _) rfl (aX _ _ _) aq cA ?_;intro A4 c4 w4 Z U _ _;have O4:=sH Z;have B4:=sH ((T.o.alloc t _).trans U);have e5:=V.o _ B4.o;clear Z U);go_roundg (m-i)
 ·exact⟨i+1,A4,c4,_,aq,aq,rfl,rfl,aQ,⟨by rw[j.o]⟩,⟨by rw[j.o];exact O4.o⟩,B4⟩
 have:=D.o;omega
theorem ZJ(l:aE)(k:Nat):l++List.replicate (k+1) 0=(l++[0])++List.replicate k 0:=by rw[List.replicate_succ];simp
theorem aas(l:List (Int×Int))(B:aC)(H bc:Nat)(every:Int)(W Q:aE)(A C:aC)(m c d:Nat)(w:World)(h:LyI w l B H W Q A C m):Calls prog 26 #[.slice B H bc,ae aj every, .slice A m c, .slice C m d] w (PLy w (fv l every W Q m).1 m):=by
 have I:=sH h;have hm:=h.ml;have IF:=h.qi.len;clear h;have zz:ak ((prog.info? 3).map (·.zero)=some (some (ae aj 0))):=⟨aF⟩;obtain⟨L,Z⟩:=eY ((fv l every W Q m).1);have HL:=sH Z;rw[Z];clear Z;go_enter func26,ntmps26;go_wp2_with (at_make;refine dw nF zz.o rfl _ _ rfl m rfl rfl rfl rfl aq w.heap.size cr ?_;intro g w1 o1 b1;have O1:=sH o1;have B1:=sH b1;clear o1 b1);go_loopg [10,11,12,13,19] (m+1) (fun gg v10 _ _ _ U wr=>∃(i:Nat) (X:Int),m-i<gg/\i<=m/\v10=ae aj X/\U=ae aj (i:Int)/\ak (X=(fv l every W Q i).2)/\ak (Own wr w.heap.size 3 .i64 (some ⟨g,0,none⟩) m m ((fv l every W Q i).1++List.replicate (m-i) 0))/\ak (aA w wr))
 ·exact⟨0,0,aq,aq,rfl,rfl,⟨rfl⟩,⟨O1.o⟩,B1⟩
 obtain⟨i,X,hg,hi,rfl,rfl,HX,P,n⟩:=hrel;have k:=n.o.size;by_cases a:i<m;rotate_left
 ·have i4:=cF i m
  obtain rfl:i=m:=aq;have s:ak (Own wr w.heap.size 3 .i64 (some ⟨g,0,none⟩) i i L):=⟨by have:=P.o;rw[Nat.sub_self,List.replicate_zero,List.append_nil,HL.o]at this;exact this⟩;go_wp2;go_ret;exact⟨_,i,rfl,s.o,n.o⟩
 have i4:=aR i m;obtain⟨ad,eA,iN,r⟩:=I.o.wi.2 aq;obtain⟨gP,eC,_,q⟩:=(I.o.qi.Z n.o).2 aq;subst eA;subst eC;have e0:=(n.o.cell yF).trans (r i a);have e1:=q i a;have N:=I.o.wr i a;have ST:ak (∀x,(x=if i=0 then 0 else kD (gV l every X) X (nth W i) (nth Q i))->fv l every W Q (i+1)=((fv l every W Q i).1++[x],wrap64 (x+nth W i))):=⟨fun x b=>vv l every W Q aq x (by rw[b,HX.o])⟩;generalize nth W i=y at*;generalize nth Q i=z at*;have J:=sH hg;clear r q hg iN;obtain⟨x,b⟩:∃x,(if i=0 then 0 else kD (gV l every X) X y z)=x:=⟨_,rfl⟩;have f:=sH (ST.o x b.symm);have u:=pC l every W Q i;have O5:ak (∀M v,Own M w.heap.size 3 .i64 (some ⟨g,0,none⟩) m m ((fv l every W Q i).1++List.replicate (m-i) 0)->v=x->Own (M.setCell ⟨g,i,none⟩ (ae aj v)) w.heap.size 3 .i64 (some ⟨g,0,none⟩) m m ((fv l every W Q (i+1)).1++List.replicate (m-(i+1)) 0)):=⟨fun M v h hv=>by
  have T:=Own.nY h i v;rw[show m-i=(m-(i+1))+1 by omega]at T;have o:=Tw (fv l every W Q i).1 (m-(i+1)) v;rw[u]at o;rw[o]at T;rw[f.o,<-hv];exact T⟩
 have N0:ak (nth ((fv l every W Q i).1++List.replicate (m-i) 0) i=0):=⟨by
  have o:=Lj (fv l every W Q i).1 (m-(i+1));rw[u]at o;rwa [show m-i=(m-(i+1))+1 by omega]⟩
 have N1:ak (nth ((fv l every W Q (i+1)).1++List.replicate (m-(i+1)) 0) i=x):=⟨by
  have o:=Uo (fv l every W Q i).1 x (List.replicate (m-(i+1)) 0);rw[u]at o;rw[f.o];exact o⟩
 clear ST u;go_upto_if 25 with fail;go_cut [13] (fun _ wx=>ak (Own wx w.heap.size 3 .i64 (some ⟨g,0,none⟩) m m ((fv l every W Q (i+1)).1++List.replicate (m-(i+1)) 0))/\ak (aA w wx))
 ·
  rcases Nat.eq_zero_or_pos i with V|V
  ·rw[if_pos V]at b
   have E:ak ((fv l every W Q i).1++List.replicate (m-i) 0=(fv l every W Q (i+1)).1++List.replicate (m-(i+1)) 0):=⟨by
    rw[f.o,<-b,show m-i=(m-(i+1))+1 by omega];exact ZJ _ _⟩
   have s:=sH P.o;rw[E.o]at s;have hni:¬0<i:=aq;clear V b;go_wp2;go_meet;exact⟨s,n⟩
  ·rw[if_neg aq]at b
   obtain⟨tv,tk,hT⟩:=tq l every X;have G:=sH (Uz l B H bc every X wr (I.o.tb.Z n.o k) I.o.tl I.o.bl);unfold PNt at G;rw[hT]at G b;have R:=sH b;have CP:=sH (fun W=>Mq tk tv X y z N W);clear b hT;go_wp2_with fail;refine G.o.mono ?_;rintro e w2 ⟨rfl,D⟩;go_wp2_with fail;refine(CP.o _).mono ?_;rintro e w3 ⟨rfl,K⟩;have t:=sH ((P.o.ar D).ar K);have B4:=sH ((n.o.trans (D.mono k)).trans (K.mono (Nat.le_trans k D.size)));have Y:=(aB.sY t.o).1;have f1:=aB.frozenAt t.o i;have O:=bI t.o (j:=i) a;rw[N0.o]at O;rw[R.o];clear D K e0 e1;have F:=sH (O5.o w3 x t.o rfl);have S:=sH (Below.setCell B4.o (p:=⟨g,i,none⟩) Y (ae aj x));go_wp2;go_meet;exact⟨F,S⟩
 obtain⟨F,S⟩:=hcut;have O:=bI F.o (j:=i) a;rw[N1.o]at O;clear e0 e1 b;go_wp2;go_roundg (m-i)
 ·exact⟨i+1,_,aq,aq,rfl,aQ,⟨by rw[f.o]⟩,F,S⟩
 have:=J.o;omega
theorem acD(s:G:=by
 rcases hb with rfl|rfl|⟨h3,h4⟩
 ·go_wp2
  (go_roundg (n-j)<;>first|omega|exact⟨j+1,aq,aq,aQ,O,BE⟩|exact⟨j+1,aq,aq,aQ,⟨O2.o _⟩,⟨B2.o _⟩⟩)
 ·go_wp2
  (go_roundg (n-j)<;>first|omega|exact⟨j+1,aq,aq,aQ,O,BE⟩|exact⟨j+1,aq,aq,aQ,⟨O2.o _⟩,⟨B2.o _⟩⟩)
 have h3:(b==5)=false:=Eu;have h4:(b==8)=false:=Hu;go_wp2
 (go_roundg (n-j)<;>first|omega|exact⟨j+1,aq,aq,aQ,O,BE⟩|exact⟨j+1,aq,aq,aQ,⟨O2.o _⟩,⟨B2.o _⟩⟩)):G:=s
theorem aeh(C:aC)(n d:Nat)(w:World)(k:Iw w w.heap.size .i64 aN C n)(E:n<=10000):Calls prog 233 #[.slice C n d] w (Nw w 3 .i64 aN n):=by
 have K:=sH k;go_enter func233,ntmps233;go_wp2_with fail;refine(tF C n d w K.o E).mono ?_;rintro e P ⟨A,c,rfl,o1,t⟩;have O:=sH o1;have s:=sH t;go_wp2;go_loopg [4] (n+1) (fun gg v4 wr=>∃(j:Nat),n-j<gg/\j<=n/\v4=ae aj ((j:Int)+1)/\ak (Ow wr w.heap.size 3 .i64 aN A n c)/\ak (aA w wr))
 ·exact⟨0,aq,aq,rfl,O,s⟩
 obtain⟨j,M,Q,rfl,O,BE⟩:=hrel;by_cases z:j+2<n;rotate_left
 ·have u:¬(j:Int)+1+1<(n:Int):=by omega
  go_wp2;go_ret;exact⟨_,_,rfl,O.o,BE.o⟩
 have u:(j:Int)+1+1<(n:Int):=aq;obtain⟨g,rfl,i,B⟩:=O.o.form aq;obtain⟨a,_,o⟩:=O.o.get (show j<n by omega);obtain⟨b,_,r⟩:=O.o.get (show j+1<n by omega);obtain⟨e,_,I⟩:=O.o.get (show j+1+1<n by omega);have N:wrap64 (j:Int)=(j:Int):=IntWalk.wrap64_in _ aq;have k0:=jB j;have L:=aR j n;have J:(j:Int)+1<(n:Int):=aq;go_upto_region 5 with fail;go_cut [24] (fun v F=>(∃b:Bool,v= .bool b)/\ak (aA wr F))
 case first=>
  obtain⟨L0,L1⟩:=lc2 o I;by_cases f:a=e
  ·subst f
   refine aG (fun _=>none) aF aF ?_;refine mSk ?_
   first
    |(intro (l:aI _);obtain⟨m,h⟩:=l)
    |(rintro m ⟨⟨_,h⟩,rfl⟩)
   try dsimp only
   go_wp2;go_meet;exact⟨⟨_,rfl⟩,⟨h⟩⟩
  have f:(a !=e)=true:=by simpa using f
  refine aG (fun _=>none) aF aF ?_;refine mSk ?_
  first
   |(intro (l:aI _);obtain⟨m,h⟩:=l)
   |(rintro m ⟨⟨_,h⟩,rfl⟩)
  try dsimp only
  go_wp2;go_meet;exact⟨⟨_,rfl⟩,⟨h⟩⟩
 case rest=>
 obtain⟨⟨x,rfl⟩,q⟩:=hcut;have D:=sH (O.o.ar q.o);have H:=BE.t q.o
 rename World=>wr
 have O:=D;have BE:ak (aA w wr):=H;cases x;rotate_left
 ·go_wp2
  (go_roundg (n-j)<;>first|omega|exact⟨j+1,aq,aq,aQ,O,BE⟩|exact⟨j+1,aq,aq,aQ,⟨O2.o _⟩,⟨B2.o _⟩⟩)
 obtain⟨a,_,o⟩:=O.o.get (show j<n by omega);obtain⟨b,_,r⟩:=O.o.get (show j+1<n by omega);have f1:=O.o.fz (j+1);have O2:ak (∀y:Int,Ow (wr.setCell ⟨g,j+1,none⟩ (ae aj y)) w.heap.size 3 .i64 aN (some ⟨g,0,none⟩) n c):=⟨fun y=>O.o.set (j+1) trivial⟩;have B2:ak (∀y:Int,aA w (wr.setCell ⟨g,j+1,none⟩ (ae aj y))):=⟨fun y=>Below.setCell BE.o (p:=⟨g,j+1,none⟩) i _⟩;have G:a=4∨a=7∨(a≠4/\a≠7):=aq;have hb:b=5∨b=8∨(b≠5/\b≠8):=aq;rcases G with rfl|rfl|⟨h1,h2⟩
 ·exact acD
 ·exact acD
 have h1:(a==4)=false:=wU;have h2:(a==7)=false:=yB;go_wp2
 (go_roundg (n-j)<;>first|omega|exact⟨j+1,aq,aq,aQ,O,BE⟩|exact⟨j+1,aq,aq,aQ,⟨O2.o _⟩,⟨B2.o _⟩⟩)
theorem adw(s:G:=by
 go_wp2
 (go_roundg (n-i)<;>first|omega|exact⟨i+1,aq,aq,aQ,O,BE⟩|exact⟨i+1,aq,aq,aQ,⟨O2.o _⟩,⟨B2.o _⟩⟩)):G:=s
theorem aer(C:aC)(n d:Nat)(w:World)(k:Iw w w.heap.size .i64 aN C n)(R:n<=10000):Calls prog 232 #[.slice C n d] w (Nw w 3 .i64 aN n):=by
 have K:=sH k;go_enter func232,ntmps232;go_wp2_with fail;refine(tF C n d w K.o R).mono ?_;rintro e V ⟨A,c,rfl,o1,J⟩;have O:=sH o1;have I:=sH J;go_wp2;go_loopg [4,5,6] (n+1) (fun gg v4 _ _ wr=>∃(i:Nat),n-i<gg/\i<=n/\v4=ae aj (i:Int)/\ak (Ow wr w.heap.size 3 .i64 aN A n c)/\ak (aA w wr))
 ·exact⟨0,aq,aq,rfl,O,I⟩
 obtain⟨i,U,W,rfl,O,BE⟩:=hrel;by_cases r:i<n;rotate_left
 ·have L:=cF i n
  go_wp2;go_ret;exact⟨_,_,rfl,O.o,BE.o⟩
 have L:=aR i n;obtain⟨g,rfl,B,N⟩:=O.o.form aq;obtain⟨u,_,u0⟩:=O.o.get r;have f0:=O.o.fz i;have q:=sH (K.o.Z BE.o BE.o.size);obtain⟨adc,x,rfl,_,T⟩:=q.o.get r;have O2:ak (∀y:Int,Ow (wr.setCell ⟨g,i,none⟩ (ae aj y)) w.heap.size 3 .i64 aN (some ⟨g,0,none⟩) n c):=⟨fun y=>O.o.set i trivial⟩;have B2:ak (∀y:Int,aA w (wr.setCell ⟨g,i,none⟩ (ae aj y))):=⟨fun y=>Below.setCell BE.o (p:=⟨g,i,none⟩) B _⟩;by_cases s:(x==6)=true;rotate_left
 ·have s:(x !=6)=true:=by simpa using s
  go_wp2
  (go_roundg (n-i)<;>first|omega|exact⟨i+1,aq,aq,aQ,O,BE⟩|exact⟨i+1,aq,aq,aQ,⟨O2.o _⟩,⟨B2.o _⟩⟩)
 have s:(x !=6)=false:=by simpa using s
 go_upto_block 2 with fail;go_cut [5] (fun v h=>(∃k:Nat,v=ae aj ((k:Int)-1)/\k<=i+1)/\wr=h)
 case first=>
  go_wp2;go_loopg [5] (i+2) (fun gg v h=>∃k:Nat,k<gg/\v=ae aj ((k:Int)-1)/\k<=i+1/\h=wr)
  ·exact⟨i+1,aq,aD,aq,rfl⟩
  obtain⟨k,F,rfl,Q,rfl⟩:=hrel;rcases k with _|k
  ·go_wp2
   go_meet;exact⟨⟨0,aD,aq⟩,rfl⟩
  have E:(((k+1:Nat):Int)-1)=(k:Int):=aq;rw[E];obtain⟨_,y,f,_,G⟩:=q.o.get (show k<n by omega);injection f with f
  subst f;have D:=aR k n;by_cases j:(y==6)=true
  ·go_wp2
   go_roundg (k+1)
   ·exact⟨k,aq,ke,aq,rfl⟩
   omega
  have j:(y==6)=false:=by simpa using j
  go_wp2;go_meet;exact⟨⟨k+1,aD,aq⟩,rfl⟩
 case rest=>
 obtain⟨⟨o,rfl,H⟩,rfl⟩:=hcut;go_upto_block 4 with fail;go_cut [6] (fun v h=>(∃k:Nat,v=ae aj (k:Int)/\k<=n)/\wr=h)
 case first=>
  go_wp2;go_loopg [6] (n+1) (fun gg v h=>∃k:Nat,n-k<gg/\v=ae aj (k:Int)/\k<=n/\h=wr)
  ·exact⟨i,aq,rfl,aq,rfl⟩
  obtain⟨k,F,rfl,Q,rfl⟩:=hrel;by_cases a:k<n;rotate_left
  ·have D:=cF k n
   go_wp2;go_meet;exact⟨⟨k,rfl,aq⟩,rfl⟩
  obtain⟨_,y,f,_,G⟩:=q.o.get a;injection f with f
  subst f;have D:=aR k n;by_cases j:(y==6)=true
  ·go_wp2
   go_roundg (n-k)
   ·exact⟨k+1,aq,aQ,aq,rfl⟩
   omega
  have j:(y==6)=false:=by simpa using j
  go_wp2;go_meet;exact⟨⟨k,rfl,aq⟩,rfl⟩
 case rest=>
 obtain⟨⟨m,rfl,M⟩,rfl⟩:=hcut;go_upto_region 11 with fail;go_cut [5,67] (fun P v h=>(∃z:Int,P=ae aj z)/\(∃b:Bool,v= .bool b)/\wr=h)
 case first=>
  rcases o with _|o
  ·by_cases a:m<n
   rotate_left
   ·have t:=cF m n
    go_wp2;go_meet;exact⟨⟨_,rfl⟩,⟨_,rfl⟩,rfl⟩
   obtain⟨_,z,l,_,S⟩:=q.o.get a;injection l with l
   subst l;have t:=aR m n;go_wp2;go_meet;exact⟨⟨_,rfl⟩,⟨_,rfl⟩,rfl⟩
  have E:(((o+1:Nat):Int)-1)=(o:Int):=aq;rw[E];obtain⟨_,y,f,_,G⟩:=q.o.get (show o<n by omega);injection f with f
  subst f;have D:=aR o n;by_cases j:(y==4)=true
  ·go_wp2
   go_meet;exact⟨⟨_,rfl⟩,⟨_,rfl⟩,rfl⟩
  have j:(y==4)=false:=by simpa using j
  by_cases a:m<n;rotate_left
  ·have t:=cF m n
   go_wp2;go_meet;exact⟨⟨_,rfl⟩,⟨_,rfl⟩,rfl⟩
  obtain⟨_,z,l,_,S⟩:=q.o.get a;injection l with l
  subst l;have t:=aR m n;go_wp2;go_meet;exact⟨⟨_,rfl⟩,⟨_,rfl⟩,rfl⟩
 case rest=>
 obtain⟨⟨_,rfl⟩,⟨b,rfl⟩,rfl⟩:=hcut;cases b
 ·exact adw
 ·exact adw
theorem XY(C:aC)(n d:Nat)(a:Int)(w:World)(k:Iw w w.heap.size .i64 aN C n)(l:n<=4000):Calls prog 165 #[.slice C n d,ae aj a] w (Nw w 3 .i64 aN n):=by
 have K:=sH k;go_enter func165,ntmps165;go_wp2_with fail;refine(aeY C n d a w K.o aq).mono ?_;rintro e V ⟨c,b,rfl,o1,v⟩;have O1:=sH o1;have u:=sH v;obtain⟨h,R,_⟩:=o1;have Q:=sH (Zv w.heap.size c n b h V R l);go_wp2_with fail;refine Q.o.mono ?_;rintro e B ⟨g,rfl,N,F⟩;have P2:=sH (aae w.heap.size c n b g B N l);have U:=sH (u.o.trans F);go_wp2_with fail;refine P2.o.mono ?_;rintro e r ⟨T,rfl,X,Y⟩;have D:ak (Ow r w.heap.size 3 .i64 aN c n b):=⟨⟨_,X,fun _ _=>trivial⟩⟩;have J:=sH (U.o.trans Y);go_wp2_with fail;refine(aeh c n b r D.o.iw aq).mono ?_;rintro e p ⟨L,c4,rfl,s,S⟩;have I:=sH s;have o:=J.t S;go_wp2_with fail;refine(aer L n c4 p I.o.iw aq).mono ?_;rintro e M ⟨i,c5,rfl,z,x⟩;have Z:=o.t x;have f:=o.o.size;obtain⟨j,t,_⟩:=z.cN (show w.heap.size<=p.heap.size from f);have P:=sH (Z' w.heap.size i n c5 j M t l);go_wp2_with fail;refine P.o.mono ?_;rintro e q ⟨G,rfl,E,H⟩;have W:ak (Ow q w.heap.size 3 .i64 aN i n c5):=⟨⟨_,E,fun _ _=>trivial⟩⟩;have m:=sH (Z.o.trans H);go_wp2_with fail;refine(aeK i n c5 w.heap.size a q W.o m.o.size aq).mono ?_;rintro e w7 ⟨rfl,o7,A⟩;have y:=sH o7;have O:=sH (m.o.trans A);go_wp2;go_ret;exact⟨_,_,rfl,y.o,O.o⟩
theorem U9(f:db)(s:Int)(Q:aE->Prop)(r:∀j h D u x m p k l q a b c,Q [j,h,D,u,x,m,p,k,l,q]->Q [j,h,a,b,c,m,p,k,l,q])(A:aC)(n c:Nat)(w:World)(v:1<=f.em)(z:f.em<=16384)(U:gi w Q A n)(hn:n<=50000):
 Calls prog 120 #[f.v,ae aj s, .slice A n c] w (Qz w Q n):=by
 obtain⟨G,t,g,F⟩:=box1 w f.row 82;have R:=sH (U.Z g.o g.o.size);have S:=sH r;go_enter func120,ntmps120;go_wp2;rw[<-t];go_loopg [7,8,9] (n+1) (fun gg v7 L _ wr=>∃(i:Nat) (B:aC) (C:Nat),n-i<gg/\i<=n/\v7= .slice B i C/\L=ae aj (i:Int)/\ak (fM wr G.heap.size Q B i C)/\ak (aA G wr))
 ·exact⟨0,none,0,aq,aq,rfl,rfl,⟨Oq.nil _ _ _ _ _⟩,cB⟩
 obtain⟨i,B,C,hg,hi,rfl,rfl,I,d⟩:=hrel;by_cases y:i<n;rotate_left
 ·obtain rfl:i=n:=by omega
  go_wp2;go_ret;exact⟨_,_,rfl,I.o.cN g.o.size,g.o.trans (d.o.mono g.o.size)⟩
 obtain⟨Z,j,h,D,u,x,m,p,k,l,q,rfl,M,e0,e1,e2,e3,e4,e5,e6,e7,e8,e9⟩:=(R.o.Z d.o d.o.size).ba y;have X:=sH M;have Y:=aR i n;have P:=d.o.size;obtain⟨c0,c1,O,c3,c4,c5⟩:=(F.o.ar d.o F.o.lt).f6;have d0:=fun o=>aJ c0 o
 go_wp2_with fail;refine(xO D s f.em _ v z).mono ?_;rintro e _ ⟨H,rfl,rfl⟩;go_wp2_with fail;refine(xO u s f.em _ v z).mono ?_;rintro e _ ⟨J,rfl,rfl⟩;go_wp2_with fail;refine(xO x s f.em _ v z).mono ?_;rintro e _ ⟨q4,rfl,rfl⟩;have V:=sH (S.o _ _ _ _ _ _ _ _ _ _ H J q4 X.o);go_wp2_with (at_builtin;refine bU mf rfl (.tmp 41) (.tmp 43) rfl rfl ((I.o.alloc _).alloc _) rfl [j,h,H,J,q4,m,p,k,l,q] rfl (cJ _ _ _ _ _ aD rfl) V.o aq cA ?_;intro N c8 w8 E K;have T:=sH E;have W:=sH ((d.o.trans ((eJ wr _ _).mono P)).trans K);clear E K);go_roundg (n-i)
 ·exact⟨i+1,N,c8,aq,aq,rfl,aQ,T,W⟩
 omega
theorem Ow.head{k:IntKind}(h:Ow w B e k P A n c):A=none∨∃g,A=some ⟨g,0,none⟩:=by
 obtain⟨xs,a,b⟩:=h;exact aB.dN a
theorem Ow.kept{a:World}{m d:Nat}{k:IntKind}{C:aC}(h:Ow w B e k P A n c)(f:w.grownBy a (Value.slice C m d).ownBlock)(l:bO A C)(b:C=none∨∃g,C=some ⟨g,0,none⟩):Ow a B e k P A n c:=by
 obtain⟨xs,i,j⟩:=h;exact⟨xs,aB.kept i f l b,j⟩
theorem mr{m d:Nat}{b:TypeId}{q:IntKind}{Q:aE->Prop}{C:aC}(h:Oq w B e k Q A n c)(j:Ow w g b q P C m d)(a:e≠b):bO A C:=by
 obtain⟨gs,l,p,f⟩:=h;obtain⟨xs,i,o⟩:=j;exact bZ f i a
theorem dE{P:Program}{ops:Array Oper}{rest:List Oper}{o:Oper}{a:Act}{K:Exit->Act->World->Prop}{t:TypeId}{bytes:Nat}(T:aS P t e 1 bytes)(m:o.guard=none)(s x:Operand)
 (G:o.op= .call {callee:= .builtin .append,args:= #[s,x],argTypes:= #[t,t]}) {B:Nat} {k:IntKind} {p:Int->Prop} {A:aC} {n c:Nat} (r:a.eval s= .slice A n c) (i:Ow w B e k p A n c)
 {g:Nat} (C:a.eval x= .slice (some ⟨g,0,none⟩) 1 1) {y:Int} (q:w.cell? ⟨g,0,none⟩=some (.int k y)) (E:p y)
 (F:(n+1)*bytes<=140737488355328) (I:B<=w.heap.size)
 (h:∀l c' f,Ow f B e k p l (n+1) c'->Below B w f->w.grownBy f (Value.slice A n c).ownBlock->wpList P ops K rest (a.put o.dst (.slice l (n+1) c')) f):wpList P ops K (o::rest) a w:=by
 obtain⟨xs,H,D⟩:=i;refine bk T m s x G r H C (news:=[.int k y]) rfl (fun j u hu=> ?_) (fun u hu=>Hg) F I fun l c' f o b v J=>h l c' f ⟨xs++[y],by unfold Own;rw[List.map_append];exact o,fun z d=> ?_⟩ b v
 ·match j with
  |0=>simp at hu;subst hu;exact q
  |j+1=>simp at hu
 ·rw[List.mem_append]at d
  rcases d with d|d
  ·exact D z d
  ·simp at d;subst d;exact E
def PKp(w:World)(Q:aE->Prop)(n:Nat)(e:Ending)(a:World):Prop:=∃m,m<=n/\Qz w Q m e a
theorem aaM(s:G:=by
 exact⟨i+1,m+1,A9,c9,_,c8,aq,aq,aq,rfl,rfl,aQ,O9,P9,B9⟩):G:=s
theorem Zo(Q:aE->Prop)(V:∀E D S H J x5 L F I M a,-1<=a->a<=50000->Q [E,D,S,H,J,x5,L,F,I,M]->Q [E,D,S,H,J,a,L,F,I,M])(A:aC)(n c:Nat)(w:World)(hl:gi w Q A n)(hn:n<=50000):
 Calls prog 121 #[.slice A n c] w (PKp w Q n):=by
 have GL:=sH hl;have QQ:=sH V;have g:108≠3:=bQ;go_enter func121,ntmps121;go_wp2;go_loopg [3,4,5,6] (n+1) (fun gg v3 v4 v5 _ wr=>∃(i m:Nat) (P:aC) (R:Nat) (A3:aC) (W:Nat),n-i<gg/\i<=n/\m<=i/\v3= .slice P m R/\v4= .slice A3 i W/\v5=ae aj (i:Int)/\ak (fM wr w.heap.size Q P m R)/\ak (Ow wr w.heap.size 3 .i64 (fun z=> -1<=z/\z<=50000) A3 i W)/\ak (aA w wr))
 ·exact⟨0,0,none,0,none,0,aq,aq,aq,rfl,rfl,rfl,⟨Oq.nil _ _ _ _ _⟩,⟨Ow.nil _ _ _ _ _⟩,cB⟩
 obtain⟨i,m,P,R,A3,W,hg,hi,hm,rfl,rfl,rfl,d,O3,G⟩:=hrel;by_cases B:i<n;rotate_left
 ·obtain rfl:i=n:=by omega
  go_wp2;go_ret;exact⟨m,hm,_,_,rfl,d.o,G.o⟩
 obtain⟨ad,E,D,S,H,J,x5,L,F,I,M,rfl,Y,e0,e1,e2,e3,e4,e5,e6,e7,e8,e9⟩:=(GL.o.Z G.o G.o.size).ba B;have QX:=sH Y;have i4:=aR i n;go_wp2_with fail;refine(Yy E D S H J x5 L F I M wr).mono ?_;rintro e w2 ⟨b,rfl,b2⟩;have B2:=G.t b2;have K:=sH (d.o.ar b2);have u:=sH (O3.o.ar b2);have x:=B2.o.size;cases b;rotate_left
 ·go_wp2_with (at_builtin;refine dE nA rfl (.tmp 18) (.tmp 19) rfl rfl (u.o.alloc _) rfl (aX _ _ _) ⟨aq,aq⟩ aq cA ?_;intro A8 c8 s v C y;have k:=sH v;have r:=sH ((B2.o.alloc x _).trans C);have d:=sH ((K.o.alloc _).kept y (mr K.o u.o g) u.o.head);clear v C y)
  go_roundg (n-i)
  ·exact⟨i+1,m,P,R,A8,c8,aq,aq,aq,rfl,rfl,aQ,d,k,r⟩
  omega
 go_upto_region 9 with(at_builtin;refine dE nA rfl (.tmp 21) (.tmp 24) rfl rfl (u.o.alloc _) rfl (aX _ _ _) ⟨aq,aq⟩ aq cA ?_;intro A8 c8 s v C y;have k:=sH v;have r:=sH ((B2.o.alloc x _).trans C);have d:=sH ((K.o.alloc _).kept y (mr K.o u.o g) u.o.head);clear v C y)
 obtain⟨Z,y0,y1,X,y3,y4,f,U,y7,y8,y9,T,Y,e0,e1,e2,e3,e4,e5,e6,e7,e8,e9⟩:=(GL.o.Z r.o r.o.size).ba B;obtain rfl:ad=Z:=by injection T
 have QY:=sH Y;have t:=r.o.size;by_cases hT:0<=f/\f<i
 ·obtain⟨j,rfl⟩:∃j:Nat,f=(j:Int):=⟨f.toNat,aq⟩
  have kF:j<i:=aq;have j1:=aR j i;have j2:(j:Int)<(i:Int)+1:=aq;obtain⟨l,rfl,_⟩:=k.o.form aq;obtain⟨z,⟨iE,fA⟩,ez⟩:=k.o.get (show j<i+1 by omega);have ez:=fun o=>aJ ez o
  have O:=sH (QQ.o _ _ _ _ _ _ _ _ _ _ z iE fA QY.o);go_wp2_with (at_builtin;refine dI mf rfl (.tmp 45) (.tmp 47) rfl rfl (d.o.ar (eJ _ _ _)) rfl [y0,y1,X,y3,y4,z,U,y7,y8,y9] rfl (cJ _ _ _ _ _ aD rfl) O.o aq cA ?_;intro A9 c9 w9 p q l _;have O9:=sH p;have B9:=sH ((r.o.trans ((eJ s _ _).mono t)).trans q);have P9:=sH ((k.o.ar (eJ s _ _)).kept l (mr d.o k.o g).symm d.o.head);clear p q l);go_roundg (n-i)
  ·exact aaM
  omega
 ·have N:decide (0<=f)=false∨(decide (0<=f)=true/\decide (f<(i:Int))=false):=by
   rcases Int.lt_or_le f 0 with h|h
   ·left;simp;omega
   ·right;simp;omega
  have O:=sH QY.o;rcases N with N|⟨N,J3⟩
  ·clear hT
   go_wp2_with (at_builtin;refine dI mf rfl (.tmp 45) (.tmp 47) rfl rfl (d.o.ar (eJ _ _ _)) rfl [y0,y1,X,y3,y4,f,U,y7,y8,y9] rfl (cJ _ _ _ _ _ aD rfl) O.o aq cA ?_;intro A9 c9 w9 p q l _;have O9:=sH p;have B9:=sH ((r.o.trans ((eJ s _ _).mono t)).trans q);have P9:=sH ((k.o.ar (eJ s _ _)).kept l (mr d.o k.o g).symm d.o.head);clear p q l);go_roundg (n-i)
   ·exact aaM
   omega
  ·obtain⟨j,rfl⟩:∃j:Nat,f=(j:Int):=⟨f.toNat,by simp at N;omega⟩
   have hd3:decide (j<i)=false:=by simp at J3⊢;omega
   go_wp2_with (at_builtin;refine dI mf rfl (.tmp 45) (.tmp 47) rfl rfl (d.o.ar (eJ _ _ _)) rfl [y0,y1,X,y3,y4,(j:Int),U,y7,y8,y9] rfl (cJ _ _ _ _ _ aD rfl) O.o aq cA ?_;intro A9 c9 w9 p q l _;have O9:=sH p;have B9:=sH ((r.o.trans ((eJ s _ _).mono t)).trans q);have P9:=sH ((k.o.ar (eJ s _ _)).kept l (mr d.o k.o g).symm d.o.head);clear p q l);go_roundg (n-i)
   ·exact aaM
   omega
def PSd(w:World)(B:Nat)(Q:aE->Prop)(A:aC)(n c:Nat)(e:Ending)(a:World):Prop:=e= .returned (.slice A n c)/\fM a B Q A n c/\Below B w a
theorem Oq.rx{Q:aE->Prop}(h:Oq w B e k Q A n c)(a:0<k):∃gs,Rx w w.heap.size k gs A n/\∀g∈gs,Q g:=(h.rq a).rx
theorem Bv.at_{ps:List (Nat×Nat)}(h:Bv w B ps (some ⟨g,0,none⟩) n c)(d:ps.length=n)(e:k<n):w.cell? ⟨g,k*2,none⟩=some (ae aj ((nk ps k).1:Int))/\w.cell? ⟨g,k*2+1,none⟩=some (ae aj ((nk ps k).2:Int)):=by
 obtain⟨a,b⟩:=jI ps k aq;exact⟨(aB.cellAt h (k*2) aq).trans a,(aB.cellAt h (k*2+1) aq).trans b⟩
theorem Kn(Q:aE->Prop)(j:∀x:aE,x.length=10->Q x->∀v,Q (x.set 2 v))(A:aC)(n c:Nat)(s:Int)(B:Nat)(w:World)(hB:B<=w.heap.size)(I:fM w B Q A n c)(hn:n<=50000):
 Calls prog 119 #[.slice A n c,ae aj s] w (PSd w B Q A n c):=by
 obtain⟨gs,D,_⟩:=I.rx aq;have t:=Ck (bY gs) n;have F:(eU (bY gs) n).length<=n:=VL;have S:=sH (Ao gs A n c w D aq);have L:=sH t;have R:=sH I;have QQ:=sH j;clear I j D t;generalize eU (bY gs) n=ps at*;go_enter func119,ntmps119;go_wp2_with fail;refine S.o.mono ?_;rintro e w1 ⟨AC,K,rfl,O,C⟩;have J:=sH O;have P:=sH (R.o.ar C);have N:=sH (C.mono hB);obtain⟨m,z⟩:=eY ps.length;rw[z]at J L F;rw[z];have LM:=sH z;have jg:=C.size;clear O C S z;go_wp2;go_loopg [6,7] (m+1) (fun gg W _ wr=>∃(i:Nat),m-i<gg/\i<=m/\W=ae aj (i:Int)/\ak (fM wr B Q A n c)/\ak (Bv wr w.heap.size ps AC m K)/\ak (Below B w wr))
 ·exact⟨0,aq,aq,rfl,P,J,N⟩
 clear P J N;obtain⟨i,hg,hi,rfl,f,h,y⟩:=hrel;by_cases o:i<m;rotate_left
 ·obtain rfl:i=m:=by omega
  go_wp2;go_ret;exact⟨rfl,f.o,y.o⟩
 have i4:=aR i m;obtain⟨U,rfl,M,T⟩:=aB.form h.o aq;obtain⟨V,k2⟩:=Bv.at_ h.o LM.o o;obtain⟨r1,r2,_⟩:=L.o i o;generalize(nk ps i).1=a at*;generalize(nk ps i).2=b at*;obtain⟨g,rfl,G,fL⟩:=f.o.form aq;obtain⟨wo,d⟩:=eX wr;rw[<-d]at f h y V k2;rw[<-d];clear d;go_wp2;go_loopg [7] (b+1) (fun gg v7 wr=>∃(q:Nat),q<gg/\a<=q/\q<=b/\v7=ae aj ((q:Int)-1)/\wr=wo)
 ·exact⟨b,aq,aq,aq,aQ,rfl⟩
 obtain⟨q,uJ,UY,Z,rfl,rfl⟩:=hrel;by_cases Y:a<q;rotate_left
 ·have h1:decide ((a:Int)<=(q:Int)-1)=false:=fC
  have h2:¬((a:Int)<=(q:Int)-1):=aq;go_wp2;go_roundg (m-i)
  ·exact⟨i+1,aq,aq,aQ,f,h,y⟩
  omega
 obtain⟨k,rfl⟩:∃k,q=k+1:=⟨q-1,aq⟩;have r:(((k+1:Nat):Int)-1)=(k:Int):=aq;rw[r];clear r;have h1:(a:Int)<=(k:Int):=aq;have h2:=aR k n;have l:k<n:=aq;obtain⟨y0,y1,y2,y3,y4,E,y6,y7,y8,y9,_,e0,e1,e2,e3,e4,e5,e6,e7,e8,e9⟩:=f.o.ba l;by_cases u:E= -1
 ·have H:(E != -1)=false:=by simp[u]
  have f2:=f.o.fz (k*10+2);have X:ak (∀v,fM (wr.setCell ⟨g,k*10+2,none⟩ (ae aj v)) B Q (some ⟨g,0,none⟩) n c):=⟨fun v=>f.o.set l aq v fun x D hq=>QQ.o x D hq v⟩;have S3:ak (∀v,Bv (wr.setCell ⟨g,k*10+2,none⟩ (ae aj v)) w.heap.size ps (some ⟨U,0,none⟩) m K):=⟨fun v=>aB.mE h.o (aB.nW h.o R.o.lt.2) _⟩;have S4:ak (∀v,Below B w (wr.setCell ⟨g,k*10+2,none⟩ (ae aj v))):=⟨fun v=>Below.setCell y.o (p:=⟨g,k*10+2,none⟩) G _⟩;clear u;go_wp2;generalize wrap64 _=v;go_roundg (m-i)
  ·exact⟨i+1,aq,aq,aQ,⟨X.o v⟩,⟨S3.o v⟩,⟨S4.o v⟩⟩
  omega
 ·have H:(E != -1)=true:=by simp[u]
  clear u;go_wp2;go_roundg (k+1)
  ·exact⟨k,aq,aq,aq,rfl,rfl⟩
  omega
theorem Oi(r:Int)(w:World):Calls prog 141 #[.int .i32 r] w (PBe w):=by
 have h:(0<=r/\r<55296)∨(r<0/\¬57343<r)∨(55296<=r/\0<=r/\¬57343<r)∨(57343<r/\0<=r/\55296<=r):=aq;rcases h with⟨a,b⟩|⟨a,b⟩|⟨a,b,c⟩|⟨a,b,c⟩
 all_goals
  go_enter func141,ntmps141;go_wp2;go_ret;exact⟨_,rfl,rfl⟩
theorem Up(A:aC)(n c:Nat)(w:World)(h:Iw w w.heap.size .i32 (Wf .i32) A n)(f:n<=1000000000):Calls prog 77 #[.slice A n c] w (PBe w):=by
 have R:=sH h;go_enter func77,ntmps77;go_wp2;go_loopg [3] (n+1) (fun gg v3 wr=>∃(i:Nat),n-i<gg/\i<=n/\v3=ae aj (i:Int)/\wr=w)
 ·exact⟨0,aq,aq,rfl,rfl⟩
 obtain⟨i,j,k,rfl,rfl⟩:=hrel;by_cases a:i<n;rotate_left
 ·have d:=cF i n
  go_wp2;go_ret;exact⟨_,rfl,rfl⟩
 have d:=aR i n;obtain⟨g,z,rfl,_,l⟩:=R.o.get a;go_wp2_with fail;refine(Oi z _).mono ?_;rintro e _ ⟨b,rfl,rfl⟩;cases b
 ·go_wp2
  go_ret;exact⟨_,rfl,rfl⟩
 ·go_wp2
  go_roundg (n-i)
  ·exact⟨i+1,aq,aq,aQ,rfl⟩
  omega
structure jW where
 T:aC
 tn:Nat
 tc:Nat
 S:aC
 sn:Nat
 sc:Nat
 B:aC
 bn:Nat
 bc:Nat
 dir:Int
 wd:Int
 al:Int
 md:Int
 hy:Bool
abbrev jW.row(x:jW):Array Value:= #[.slice x.T x.tn x.tc, .slice x.S x.sn x.sc, .slice x.B x.bn x.bc,ae aj x.dir,ae aj x.wd,ae aj x.al,ae aj x.md, .bool x.hy]
abbrev jW.v(x:jW):Value:= .agg x.row
abbrev cX.row(x:cX):Array Value:= #[.slice x.F x.fn x.fc, .slice x.Y x.yn x.yc, .slice x.P x.pn x.pc,ae aj x.ev,ae aj x.ld]
structure mx(w:World)(x:jW)(ts:aE):Prop where
 rT:aL .i32 w x.T x.tn x.tc ts
 rS:cM w w.heap.size vu x.S x.sn x.sc
 rB:cM w w.heap.size aac x.B x.bn x.bc
theorem mx.ar{b:World}{x:jW}{ts:aE}(h:mx w x ts)(a:aA w b):mx b x ts:=⟨h.rT.ar a,h.rS.Z a a.size,h.rB.Z a a.size⟩
structure Rn where
 f:Int
 t:Int
 lv:Int
 sp:Int
 fo:Int
 st:Int
abbrev Rn.row(x:Rn):Array Value:= #[ae aj x.f,ae aj x.t,ae aj x.lv,ae aj x.sp,ae aj x.fo,ae aj x.st]
theorem Bx.c8{x:jW}(h:Bx w b x.row):w.cell? ⟨b,0,none⟩=some (.slice x.T x.tn x.tc)/\w.cell? ⟨b,1,none⟩=some (.slice x.S x.sn x.sc)/\w.cell? ⟨b,2,none⟩=some (.slice x.B x.bn x.bc)/\w.cell? ⟨b,3,none⟩=some (ae aj x.dir)/\w.cell? ⟨b,4,none⟩=some (ae aj x.wd)/\w.cell? ⟨b,5,none⟩=some (ae aj x.al)/\w.cell? ⟨b,6,none⟩=some (ae aj x.md)/\w.cell? ⟨b,7,none⟩=some (.bool x.hy):=⟨h.cell 0,h.cell 1,h.cell 2,h.cell 3,h.cell 4,h.cell 5,h.cell 6,h.cell 7⟩
theorem Bx.c5{x:cX}(h:Bx w b x.row):w.cell? ⟨b,0,none⟩=some (.slice x.F x.fn x.fc)/\w.cell? ⟨b,1,none⟩=some (.slice x.Y x.yn x.yc)/\w.cell? ⟨b,2,none⟩=some (.slice x.P x.pn x.pc)/\w.cell? ⟨b,3,none⟩=some (ae aj x.ev)/\w.cell? ⟨b,4,none⟩=some (ae aj x.ld):=⟨h.cell 0,h.cell 1,h.cell 2,h.cell 3,h.cell 4⟩
theorem Bx.c6{x:Rn}(h:Bx w b x.row):w.cell? ⟨b,0,none⟩=some (ae aj x.f)/\w.cell? ⟨b,1,none⟩=some (ae aj x.t)/\w.cell? ⟨b,2,none⟩=some (ae aj x.lv)/\w.cell? ⟨b,3,none⟩=some (ae aj x.sp)/\w.cell? ⟨b,4,none⟩=some (ae aj x.fo)/\w.cell? ⟨b,5,none⟩=some (ae aj x.st):=⟨h.cell 0,h.cell 1,h.cell 2,h.cell 3,h.cell 4,h.cell 5⟩
def PWr(w:World)(s:cX)(r:Rn)(e:Ending)(a:World):Prop:=∃z:Int,e= .returned (ae aj z)/\(z=0->(0<=r.fo/\r.fo<s.fn)/\0<=r.st/\r.st<s.yn)/\aA w a
theorem OT(s:G:=by
 go_wp2
 go_ret;exact⟨_,rfl,aD,B1.o⟩):G:=s
theorem aaE(s:G:=by
 go_wp2
 go_ret;exact⟨_,rfl,fun _=>HH.o,B1.o⟩):G:=s
theorem Ta(s:cX)(p:jW)(ts:aE)(B:aC)(u:Nat)(r:Rn)(a b:Nat)(w:World)(h:ix w w.heap.size s)(j:mx w p ts)(m:a<=b)(W:b<=p.tn)(P:p.tn<=100000):
 Calls prog 112 #[s.v,p.v, .slice B p.tn u, .agg r.row,ae aj (a:Int),ae aj (b:Int)] w (PWr w s r):=by
 obtain⟨K,c⟩:=eX (((w.alloc (.cells s.row 26)).alloc (.cells p.row 31)).alloc (.cells r.row 58));obtain⟨g,d,i,f,_⟩:=pX c;have B1:=sH g;have I:=sH d;have F:=sH i;have G:=sH f;have TI:=sH ((j.ar g).rT.iw);have n:=h.rF.bd;have l:=h.rY.bd;obtain⟨c0,X,t,J,c4⟩:=d.c5;obtain⟨R,Q,N,Y,O,T,H,S⟩:=i.c8;obtain⟨D,v,o,A,q,E⟩:=f.c6;obtain⟨f0,f1,f2,f3,f4,f5⟩:=r;dsimp only at D v o A q E;clear h j g d i f;go_enter func112,ntmps112;go_wp2_with fail;rw[<-c];clear c;go_wp2_with fail;refine(Up _ _ _ _ TI.o aq).mono ?_;rintro e _ ⟨C,rfl,rfl⟩;have k:¬((b:Int)<(a:Int)):=aq;have x:¬((p.tn:Int)<(b:Int)):=aq;have z:¬((a:Int)<0):=aq;have y:decide ((a:Int)<0)=false:=aD;cases C
 ·exact OT
 by_cases M:f4<0
 ·exact OT
 by_cases g2:(s.fn:Int)<=f4
 ·exact OT
 by_cases U:f5<0
 ·exact OT
 by_cases V:(s.yn:Int)<=f5
 ·exact OT
 have HH:ak ((0<=f4/\f4<s.fn)/\0<=f5/\f5<s.yn):=⟨aq⟩;by_cases L:(a:Int)<f0
 ·exact aaE
 by_cases Z:f1<(b:Int)
 ·exact aaE
 ·exact aaE
def laT(d:Option Tmp):Option (Value->Prop):=if d=some 41 then some SB else if d=some 49 then some SI else none
theorem YO(f:db)(I:aC)(a F:Nat)(ts:aE)(N:aC)(fc:Nat)(lv:Int)(o:Nat)(w:World)(h:ca w w.heap.size f)(ht:aL .i32 w I a F ts)(hf:Iw w w.heap.size .i64 aN N a)(hn:a<=5000)(Zt:o<=100000):
 Calls prog 115 #[f.v, .slice I a F, .slice N a fc,ae aj lv,ae aj (o:Int)] w (Qz w (bV o (o+a)) a):=by
 obtain⟨Y,G,d,X⟩:=box1 w f.row 82;have R:=sH (h.Z d.o d.o.size);have TS:=sH (ht.ar d.o);have FS9:=sH (hf.Z d.o d.o.size);go_enter func115,ntmps115;go_wp2;rw[<-G];go_loopg [11,12] (a+1) (fun gg L O wr=>∃(i:Nat) (B:aC) (C:Nat),a-i<gg/\i<=a/\L= .slice B i C/\O=ae aj (i:Int)/\ak (Ow wr Y.heap.size 3 .i64 aN B i C)/\ak (aA Y wr))
 ·exact⟨0,none,0,aq,aq,rfl,rfl,⟨Ow.nil _ _ _ _ _⟩,cB⟩
 obtain⟨i,B,C,hg,hi,rfl,rfl,O2,c⟩:=hrel;have hs:=c.o.size;by_cases j:i<a
 ·have U:=aR i a
  go_wp2_with (at_builtin;refine bS nA rfl (.tmp 22) (.tmp 24) rfl rfl (O2.o.alloc _) rfl (aX _ _ _) trivial aq cA ?_;intro A8 c8 w8 V b8;have O8:=sH V;have B8:=sH ((c.o.alloc hs _).trans b8);clear V b8);go_roundg (a-i)
  ·exact⟨i+1,A8,c8,aq,aq,rfl,aQ,O8,B8⟩
  omega
 have U:=cF i a;go_wp2_with fail;refine(Vh I a F ts B i C wr (TS.o.ar c.o) (O2.o.imp fun _ _=>trivial).iw aq aq).mono ?_;rintro e r ⟨A3,c3,rfl,o3,b3⟩;have u:=sH (c.o.trans (b3.mono hs));obtain⟨cs,P⟩:=o3.sl;have Z:=sH P;go_wp2_with fail;refine(Vg N a fc r (FS9.o.Z u.o u.o.size) aq).mono ?_;rintro e w3 ⟨W,c4,rfl,o4,b4⟩;have B4:=sH b4;have O4:=sH o4;have E:=u.o.size;go_wp2;go_loopg [15] (a+1) (fun gg Q wr=>∃(i:Nat),a-i<gg/\i<=a/\Q=ae aj (i:Int)/\ak (Ow wr r.heap.size 3 .i64 aN W a c4)/\ak (aA r wr))
 ·exact⟨0,aq,aq,rfl,O4,B4⟩
 obtain⟨i,hg,hi,rfl,x,c⟩:=hrel;have m:=sH (u.o.trans (c.o.mono E));have n:=c.o.size;obtain⟨c0,c1,H,D,K,c5⟩:=(X.o.ar m.o X.o.lt).f6;by_cases j:i<a;rotate_left
 ·obtain rfl:i=a:=by omega
  obtain⟨ms,M,_⟩:=x.o.iw;have NW:=sH (acg f A3 i c3 cs o W i c4 ms wr (R.o.Z m.o m.o.size) (Z.o.ar c.o) M aq aq aq);go_wp2_with fail;refine NW.o.mono ?_;rintro e w5 ⟨A6,c6,rfl,o6,b6⟩;have O6:=sH o6;have B6:=sH b6;go_wp2;go_ret;exact⟨_,_,rfl,O6.o.cN (by have:=d.o.size;omega),(d.o.trans (m.o.mono d.o.size)).trans (B6.o.mono (by have:=d.o.size;omega))⟩
 have U:=aR i a;obtain⟨Qh,z,rfl,hz,e0⟩:=(Z.o.ar c.o).iw.get j;obtain⟨A,rfl,_,_⟩:=x.o.form aq;obtain⟨S,J⟩:=uW hz;obtain⟨L0,L1,L2,L3,L4,L5,M0⟩:=lc7 c0 c1 H D K c5 e0;have RW:=sH (R.o.Z m.o m.o.size);go_wp2;refine aG laT aF aF ?_;refine mSk ?_;refine lsA SB (fun g=> ?_) (fun v9 l=> ?_)
 ·go_simp
  exact bj ((oz z S J g.1).mono fun e w' ⟨h1,h2⟩=>⟨_,h1,h2⟩)
 obtain⟨b,rfl⟩:=l;cases b;rotate_left
 ·simp[Act.put]
  refine mSk ?_;intro g;obtain⟨T,s⟩:=g;have t:=sH (c.o.trans (s.mono n));have k:=sH (x.o.ar s)
  try dsimp only
  go_wp2;go_roundg (a-i)
  ·exact⟨i+1,aq,aq,aQ,k,t⟩
  omega
 simp[Act.put];refine mSk ?_;refine lsA SI (fun g=> ?_) (fun v9 l=> ?_)
 ·go_simp
  exact eh (sG f z g.1 (RW.o.Z g.2 g.2.size))
 obtain⟨q,rfl⟩:=l;simp[Act.put];refine mSk ?_;intro g;obtain⟨T,s⟩:=g;have t:=sH (c.o.trans (s.mono n));have k:=sH (x.o.ar s)
 try dsimp only
 obtain⟨y,_,ey⟩:=k.o.get j;have fy:=k.o.fz i;have OS:ak (∀v,Ow (T.setCell ⟨A,i,none⟩ (ae aj v)) r.heap.size 3 .i64 aN (some ⟨A,0,none⟩) a c4):=⟨fun v=>k.o.set i trivial⟩;have BS:ak (∀v,aA r (T.setCell ⟨A,i,none⟩ (ae aj v))):=⟨fun v=>Below.setCell t.o (p:=⟨A,i,none⟩) k.o.lt.1 _⟩;go_wp2_with fail
 ·generalize wrap64 _=v
  go_roundg (a-i)
  ·exact⟨i+1,aq,aq,aQ,⟨OS.o v⟩,⟨BS.o v⟩⟩
  omega
 ·go_roundg (a-i)
  case measure=>omega
  case rel=>exact⟨i+1,aq,aq,aQ,k,t⟩
def DK(w:World)(a:Addr)(j:Nat)(x:db):Prop:=w.cell? (a.add (j*6))=some (ae aj x.em)/\w.cell? (bW (a.add (j*6)) 1)=some (.slice x.G x.gn x.gc)/\w.cell? (bW (a.add (j*6)) 2)=some (.slice x.M x.mn x.mc)/\w.cell? (bW (a.add (j*6)) 3)=some (.slice x.L x.ln x.lc)/\w.cell? (bW (a.add (j*6)) 4)=some (.slice x.F x.fn x.fc)/\w.cell? (bW (a.add (j*6)) 5)=some (.slice x.S x.sn x.sc)
def FOk(w:World)(B:Nat)(x:db):Prop:=(1<=x.em/\x.em<=16384)/\Qt w B x/\J0 w B x
def Qi(w:World)(B:Nat)(s:cX):Prop:=∀j,j<s.fn->∀a,s.F=some a->a.block<B/\∀x,DK w a j x->FOk w B x
theorem Qi.Z{d:World}{s:cX}(h:Qi w B s)(c:Below B w d)(i:B<=k):Qi d k s:=fun j n b u=>by
 obtain⟨o,q⟩:=h j n b u;refine⟨aq,fun x ⟨c0,e,g,f,c4,c5⟩=> ?_⟩;have key:∀p:Addr,p.block=b.block->d.cell? p=w.cell? p:=fun p t=>c.cell (by rw[t];exact o)
 have a:(b.add (j*6)).block=b.block:=aO _ _;rw[key _ a]at c0;rw[key _ (by exact a)]at e g f c4 c5;obtain⟨m,r,l⟩:=q x ⟨c0,e,g,f,c4,c5⟩;exact⟨m,r.Z c i,l.Z c i⟩
abbrev Sk:=Int×Int×Int×Int
abbrev Sk.row(y:Sk):Array Value:= #[ae aj y.1,ae aj y.2.1,ae aj y.2.2.1,ae aj y.2.2.2]
def PPt(w:World)(a b:Nat)(e:Ending)(d:World):Prop:=∃(A:aC) (n c:Nat) (z:Int),e= .returned (.tuple #[.slice A n c,ae aj z])/\n<=c/\n<=20000/\fM d w.heap.size (kC a b) A n c/\aA w d
abbrev ZY:Array Value:= #[ae aj 0, .slice none 0 0, .slice none 0 0, .slice none 0 0, .slice none 0 0, .slice none 0 0]
abbrev YK:Array Value:= #[ae aj 0,ae aj 0,ae aj 0,ae aj 0]
theorem Ue:(prog.info? 82).map (·.size)=some 6:=by kernel_rfl
theorem UG:(prog.info? 161).map (·.size)=some 4:=by kernel_rfl
theorem Bx.c4{y:Sk}(h:Bx w b y.row):w.cell? ⟨b,0,none⟩=some (ae aj y.1)/\w.cell? ⟨b,1,none⟩=some (ae aj y.2.1)/\w.cell? ⟨b,2,none⟩=some (ae aj y.2.2.1)/\w.cell? ⟨b,3,none⟩=some (ae aj y.2.2.2):=⟨h.cell 0,h.cell 1,h.cell 2,h.cell 3⟩
structure I4(N:Nat)(Ju Wv:Addr)(s:cX)(f:db)(y:Sk)(j q:Nat)(w2:World)(L:Nat->Bool)(mw sE wD vl wj wP wH vS vD uF vA vO wh wK:Value)(W:World):Prop where
 be:aA w2 W
 f0:L 0=true->wD= .pointer (some ⟨N,0,none⟩)
 f1:L 1=true->vl= .slice (some Ju) s.fn s.fc
 f2:L 2=true->wj= .pointer (some ⟨N+1+1,4,none⟩)
 f3:L 3=true->wP=ae aj (j:Int)
 f4:L 4=true->wH= .pointer (some (Ju.add (j*6)))
 f5:L 5=true->vS=f.v
 f6:L 6=true->vD= .pointer (some ⟨N,1,none⟩)
 f7:L 7=true->uF= .slice (some Wv) s.yn s.yc
 f8:L 8=true->vA= .pointer (some ⟨N+1+1,5,none⟩)
 f9:L 9=true->vO=ae aj (q:Int)
 f10:L 10=true->wh= .pointer (some (Wv.add (q*4)))
 f11:L 11=true->wK= .agg y.row
 f12:L 12=true->∃g,mw= .pointer (some ⟨g,0,none⟩)/\w2.heap.size<=g/\Bx W g (if L 14 then f.row else ZY)
 f13:L 13=true->∃g,sE= .pointer (some ⟨g,0,none⟩)/\w2.heap.size<=g/\Bx W g (if L 15 then y.row else YK)
 f14:L 14=true->L 12=true
 f15:L 15=true->L 13=true
theorem Bx.WD{cs ds:Array Value}(h:Bx w b cs)(k:Bx w b ds):cs.size=ds.size:=by
 obtain⟨t,h⟩:=h;obtain⟨u,k⟩:=k;rw[h]at k;injection k with k
 injection k with k
 rw[k]
theorem Nh(b:Bool)(f:db):(if b then f.row else ZY).size=6:=by cases b<;>rfl
theorem KA(b:Bool)(y:Sk):(if b then y.row else YK).size=4:=by cases b<;>rfl
theorem Bx.zt{cs:Array Value}(h:Bx w b cs)(a:b≠g)(ds:Array Value):Bx (w.setRow g ds) b cs:=by
 obtain⟨t,h⟩:=h;exact⟨t,(setRow_other _ _ _ _ a).trans h⟩
theorem YJ(s:cX)(p:jW)(ts:aE)(FA:aC)(fc:Nat)(r:Rn)(a b:Nat)(w:World)(h:ix w w.heap.size s)(hp:mx w p ts)(hf:Iw w w.heap.size .i64 aN FA p.tn)(hc:Qi w w.heap.size s)(hfc:p.tn<=fc)(iN:a<=b)(hb:b<=p.tn)(hn:p.tn<=5000):
 Calls prog 54 #[s.v,p.v, .slice FA p.tn fc, .agg r.row,ae aj (a:Int),ae aj (b:Int)] w (PPt w a b):=by
 obtain⟨W1,aP⟩:=eX (((w.alloc (.cells s.row 26)).alloc (.cells p.row 31)).alloc (.cells r.row 58));obtain⟨b1,x1,x2,x3,jg⟩:=pX aP;have B1:=sH b1;have X1:=sH x1;have X2:=sH x2;have X3:=sH x3;have RS:=sH (h.Z b1 b1.size);have RP:=sH (hp.ar b1);have RF:=sH (hf.Z b1 b1.size);have RC:=sH (hc.Z b1 b1.size);have W9:=h.rF.bd;have Fj:=h.rY.bd;obtain⟨c0,V,J,c3,c4⟩:=x1.c5;obtain⟨d0,d1,d2,d3,d4,d5,d6,d7⟩:=x2.c8;obtain⟨e0,e1,e2,e3,e4,e5⟩:=x3.c6;have WC:=sH (Ta s p ts FA fc r a b W1 RS.o RP.o iN hb aq);clear h hp hf hc b1 x1 x2 x3;go_enter func54,ntmps54;go_wp2_with fail;rw[<-aP];clear aP;go_wp2_with fail;refine WC.o.mono ?_;rintro e w2 ⟨z,rfl,hz,b2⟩;have HZ:=sH hz;have Q:=sH b2;clear hz b2 WC c0 V J c3 c4 d0 d1 d2 d3 d4 d5 d6 d7 e0 e1 e2 e3 e4 e5;by_cases ur:z=0;rotate_left
 ·have iE:(z !=0)=true:=by simp[ur]
  clear ur;go_wp2;go_ret2;exact⟨none,0,0,z,rfl,aq,aq,Oq.nil _ _ _ _ _,B1.o.trans (Q.o.mono B1.o.size)⟩
 subst ur;obtain⟨⟨g1,g2⟩,g3,g4⟩:=HZ.o rfl;clear HZ;obtain⟨f0,f1,f2,f3,f4,f5⟩:=r;dsimp only at g1 g2 g3 g4;obtain⟨j,rfl⟩:∃j:Nat,f4=(j:Int):=⟨f4.toNat,aq⟩;obtain⟨q,rfl⟩:∃q:Nat,f5=(q:Int):=⟨f5.toNat,aq⟩;have hj:j<s.fn:=aq;have hq:q<s.yn:=aq;have iq:=Q.o.size;obtain⟨c0,V,J,c3,c4⟩:=(X1.o.ar Q.o X1.o.lt).c5;obtain⟨e0,e1,e2,e3,e4,e5⟩:=(X3.o.ar Q.o X3.o.lt).c6;obtain⟨U,f,eF,hf,h0,X,Z,h3,h4,h5⟩:=qd (RS.o.Z Q.o Q.o.size).rF hj;obtain⟨Y,y0,y1,y2,y3,eY,k0,k1,k2,k3⟩:=zg (RS.o.Z Q.o Q.o.size).rY hq;obtain⟨_,fo⟩:=(RC.o.Z Q.o Q.o.size) j hj U eF;obtain⟨⟨aeb,ae'⟩,nG,hls⟩:=fo f ⟨h0,X,Z,h3,h4,h5⟩;rw[eF]at c0;rw[eY]at V;have HF:=sH hf;have HT:=sH nG;have HL:=sH hls;clear J c3 c4 e0 e1 e2 e3 fo hf nG hls eF eY RS RC;go_wp2;refine my aF aF (fun L a' W=>∃G F C l y B A k E t n D m u:Value,I4 w.heap.size U Y s f (y0,y1,y2,y3) j q w2 L G F C l y B A k E t n D m u W/\a'=⟨#[s.v,p.v, .slice FA p.tn fc, .agg (Rn.row ⟨f0,f1,f2,f3,(j:Int),(q:Int)⟩),ae aj (a:Int),ae aj (b:Int), .pointer (some ⟨w.heap.size,0,none⟩), .pointer (some ⟨w.heap.size+1,0,none⟩),undef, .pointer (some ⟨w.heap.size+1+1,0,none⟩),undef,undef, .slice none 0 0,ae aj 0,ae aj 0,G,F,undef,undef,undef,undef, .agg #[.slice s.F s.fn s.fc, .slice s.Y s.yn s.yc, .slice s.P s.pn s.pc,ae aj s.ev,ae aj s.ld], .agg #[.slice p.T p.tn p.tc, .slice p.S p.sn p.sc, .slice p.B p.bn p.bc,ae aj p.dir,ae aj p.wd,ae aj p.al,ae aj p.md, .bool p.hy], .slice FA p.tn fc, .agg #[ae aj f0,ae aj f1,ae aj f2,ae aj f3,ae aj (j:Int),ae aj (q:Int)],ae aj (a:Int),ae aj (b:Int),ae aj 0,ae aj 0, .bool false,undef,C,l,y,B,A,k,E,t,n,D,m,u,undef,undef,undef,undef,undef,undef,undef,undef,undef,undef,undef,undef,undef,undef,undef,undef,undef,undef,undef,undef,undef,undef,undef,undef,undef,undef,undef,undef,undef,undef,undef,undef,undef,undef,undef,undef,undef,undef,undef,undef,undef,undef,undef,undef,undef,undef,undef,undef,undef,undef,undef,undef,undef,undef,undef,undef,undef,undef,undef],[]⟩) ?_ ?_ ?_
 ·exact⟨undef,undef,undef,undef,undef,undef,undef,undef,undef,undef,undef,undef,undef,undef,{be:=aM (Below.refl _ _) 1,f0:=fun h=>gO,f1:=fun h=>gO,f2:=fun h=>gO,f3:=fun h=>gO,f4:=fun h=>gO,f5:=fun h=>gO,f6:=fun h=>gO,f7:=fun h=>gO,f8:=fun h=>gO,f9:=fun h=>gO,f10:=fun h=>gO,f11:=fun h=>gO,f12:=fun h=>gO,f13:=fun h=>gO,f14:=fun h=>gO,f15:=fun h=>gO},rfl⟩
 ·rintro i o L a' W ho fp d ⟨G,F,C,l,y,B,A,k,E,t,n,D,m,u,c,rfl⟩
  have hi:i<16:=by
   have:=(Array.getElem?_eq_some_iff.1 ho).1;simpa using this
  have xR:i=0∨i=1∨i=2∨i=3∨i=4∨i=5∨i=6∨i=7∨i=8∨i=9∨i=10∨i=11∨i=12∨i=13∨i=14∨i=15:=aq;rcases xR with rfl|rfl|rfl|rfl|rfl|rfl|rfl|rfl|rfl|rfl|rfl|rfl|rfl|rfl|rfl|rfl
  all_goals(injection ho with ho;subst ho)
  all_goals(simp[Region.binds]at d)
  ·refine wpOp_step rfl (fun K hK=> ?_)
   go_simp;exact hK _ _ ⟨G,F,(.pointer (some ⟨w.heap.size,0,none⟩)),l,y,B,A,k,E,t,n,D,m,u,{c with f0:=fun _=>rfl},rfl⟩
  ·obtain rfl:=c.f0 d
   have c0:=au c0 c.be;refine wpOp_step rfl (fun K hK=> ?_);go_simp;exact hK _ _ ⟨G,F,(.pointer (some ⟨w.heap.size,0,none⟩)),(.slice (some U) s.fn s.fc),y,B,A,k,E,t,n,D,m,u,{c with f1:=fun _=>rfl},rfl⟩
  ·refine wpOp_step rfl (fun K hK=> ?_)
   go_simp;exact hK _ _ ⟨G,F,C,l,(.pointer (some ⟨w.heap.size+1+1,4,none⟩)),B,A,k,E,t,n,D,m,u,{c with f2:=fun _=>rfl},rfl⟩
  ·obtain rfl:=c.f2 d
   have e4:=au e4 c.be;refine wpOp_step rfl (fun K hK=> ?_);go_simp;exact hK _ _ ⟨G,F,C,l,(.pointer (some ⟨w.heap.size+1+1,4,none⟩)),(ae aj (j:Int)),A,k,E,t,n,D,m,u,{c with f3:=fun _=>rfl},rfl⟩
  ·obtain rfl:=c.f1 d.1
   obtain rfl:=c.f3 d.2;refine wpOp_step rfl (fun K hK=> ?_);go_simp;exact hK _ _ ⟨G,F,C,(.slice (some U) s.fn s.fc),y,(ae aj (j:Int)),(.pointer (some (U.add (j*6)))),k,E,t,n,D,m,u,{c with f4:=fun _=>rfl},rfl⟩
  ·obtain rfl:=c.f4 d
   have h0:=au h0 c.be;have X:=au X c.be;have Z:=au Z c.be;have h3:=au h3 c.be;have h4:=au h4 c.be;have h5:=au h5 c.be;refine wpOp_step rfl (fun K hK=> ?_);go_simp;exact hK _ _ ⟨G,F,C,l,y,B,(.pointer (some (U.add (j*6)))),f.v,E,t,n,D,m,u,{c with f5:=fun _=>rfl},rfl⟩
  ·refine wpOp_step rfl (fun K hK=> ?_)
   go_simp;exact hK _ _ ⟨G,F,C,l,y,B,A,k,(.pointer (some ⟨w.heap.size,1,none⟩)),t,n,D,m,u,{c with f6:=fun _=>rfl},rfl⟩
  ·obtain rfl:=c.f6 d
   have V:=au V c.be;refine wpOp_step rfl (fun K hK=> ?_);go_simp;exact hK _ _ ⟨G,F,C,l,y,B,A,k,(.pointer (some ⟨w.heap.size,1,none⟩)),(.slice (some Y) s.yn s.yc),n,D,m,u,{c with f7:=fun _=>rfl},rfl⟩
  ·refine wpOp_step rfl (fun K hK=> ?_)
   go_simp;exact hK _ _ ⟨G,F,C,l,y,B,A,k,E,t,(.pointer (some ⟨w.heap.size+1+1,5,none⟩)),D,m,u,{c with f8:=fun _=>rfl},rfl⟩
  ·obtain rfl:=c.f8 d
   have e5:=au e5 c.be;refine wpOp_step rfl (fun K hK=> ?_);go_simp;exact hK _ _ ⟨G,F,C,l,y,B,A,k,E,t,(.pointer (some ⟨w.heap.size+1+1,5,none⟩)),(ae aj (q:Int)),m,u,{c with f9:=fun _=>rfl},rfl⟩
  ·obtain rfl:=c.f7 d.1
   obtain rfl:=c.f9 d.2;refine wpOp_step rfl (fun K hK=> ?_);go_simp;exact hK _ _ ⟨G,F,C,l,y,B,A,k,E,(.slice (some Y) s.yn s.yc),n,(ae aj (q:Int)),(.pointer (some (Y.add (q*4)))),u,{c with f10:=fun _=>rfl},rfl⟩
  ·obtain rfl:=c.f10 d
   have k0:=au k0 c.be;have k1:=au k1 c.be;have k2:=au k2 c.be;have k3:=au k3 c.be;refine wpOp_step rfl (fun K hK=> ?_);go_simp;exact hK _ _ ⟨G,F,C,l,y,B,A,k,E,t,n,D,(.pointer (some (Y.add (q*4)))),(.agg (Sk.row (y0,y1,y2,y3))),{c with f11:=fun _=>rfl},rfl⟩
  ·refine wpOp_step rfl (fun K hK=> ?_)
   go_simp;have l14:L 14=false:=by cases h:L 14 with|false=>rfl|true=>(have:=c.f14 h;rw[fp]at this;cases this)
   have bn:=av W (.cells ZY 82);exact hK _ _ ⟨.pointer (some ⟨W.heap.size,0,none⟩),F,C,l,y,B,A,k,E,t,n,D,m,u,{c with be:=c.be.trans (bn.mono c.be.size),f12:=fun _=>⟨_,rfl,c.be.size,by show Bx _ _ (if L 14 then _ else _);rw[l14];exact Bx.new _ _ _⟩,f13:=fun h=>(by obtain⟨g,X,Z,h3⟩:=c.f13 h;exact⟨g,X,Z,h3.ar bn h3.lt⟩),f14:=fun _=>rfl},rfl⟩
  ·refine wpOp_step rfl (fun K hK=> ?_)
   go_simp;have l15:L 15=false:=by cases h:L 15 with|false=>rfl|true=>(have:=c.f15 h;rw[fp]at this;cases this)
   have bn:=av W (.cells YK 161);exact hK _ _ ⟨G, .pointer (some ⟨W.heap.size,0,none⟩),C,l,y,B,A,k,E,t,n,D,m,u,{c with be:=c.be.trans (bn.mono c.be.size),f13:=fun _=>⟨_,rfl,c.be.size,by show Bx _ _ (if L 15 then _ else _);rw[l15];exact Bx.new _ _ _⟩,f12:=fun h=>(by obtain⟨g,X,Z,h3⟩:=c.f12 h;exact⟨g,X,Z,h3.ar bn h3.lt⟩),f15:=fun _=>rfl},rfl⟩
  ·have hp5:=c.f5 d.2.1
   subst hp5;obtain⟨H,rfl,tD,M⟩:=c.f12 d.1;obtain⟨n2,rfl,pP,I⟩:=c.f13 d.2.2.2.2.2.2.2.2.2;have dX:n2≠H:=fun e=>by subst e;have:=M.WD I;rw[Nh,KA]at this;omega
   obtain⟨ty,hg⟩:=M;have hr:=setRow_heap _ _ _ f.row _ _ hg;refine wpOp_step rfl (fun K hK=> ?_);refine wp_store_row 82 (.tmp 15) (.tmp 36) rfl H f.row rfl rfl ty _ hg Ue (by rw[Nh];rfl) dK ?_;exact hK _ _ ⟨_,_,C,l,y,B,A,f.v,E,t,n,D,m,u,{c with be:=below_setRow c.be tD _,f12:=fun _=>⟨H,rfl,tD,⟨ty,hr⟩⟩,f13:=fun _=>⟨n2,rfl,pP,I.zt dX _⟩,f14:=fun _=>d.1},rfl⟩
  ·have hp5:=c.f11 d.2.1
   subst hp5;obtain⟨H,rfl,tD,M⟩:=c.f12 d.2.2.2.2.2.2.2.2.2.2.2.2.2.2.2.1;obtain⟨n2,rfl,pP,I⟩:=c.f13 d.1;have dX:H≠n2:=fun e=>by subst e;have:=M.WD I;rw[Nh,KA]at this;omega
   obtain⟨ty,hg⟩:=I;have hr:=setRow_heap _ _ _ (Sk.row (y0,y1,y2,y3)) _ _ hg;refine wpOp_step rfl (fun K hK=> ?_);refine wp_store_row 161 (.tmp 16) (.tmp 42) rfl n2 (Sk.row (y0,y1,y2,y3)) rfl rfl ty _ hg UG (by rw[KA];rfl) dK ?_;exact hK _ _ ⟨_,_,C,l,y,B,A,k,E,t,n,D,m,(.agg (Sk.row (y0,y1,y2,y3))),{c with be:=below_setRow c.be pP _,f13:=fun _=>⟨n2,rfl,pP,⟨ty,hr⟩⟩,f12:=fun _=>⟨H,rfl,tD,M.zt dX _⟩,f15:=fun _=>d.1},rfl⟩
 rintro L a' W P ⟨G,F,C,l,y,B,A,k,E,t,n,D,m,u,c,rfl⟩;have l12:=P 12 aD;have l13:=P 13 aD;have l14:=P 14 aD;have l15:=P 15 aD;clear P;obtain⟨H,rfl,tD,M⟩:=c.f12 l12;obtain⟨n2,rfl,pP,I⟩:=c.f13 l13;rw[if_pos l14]at M;rw[if_pos l15]at I;have be:=c.be;have B5:ak (aA w W):=⟨B1.o.trans ((Q.o.trans (be.mono iq)).mono B1.o.size)⟩;have Y1:=sH M;have Y2:=sH I;have Y3:=sH ((X2.o.ar Q.o X2.o.lt).ar be (by have:=X2.o.lt;omega));have Y4:=sH ((X3.o.ar Q.o X3.o.lt).ar be (by have:=X3.o.lt;omega));have RF5:=sH (HF.o.Z be be.size);have RT5:=sH (HT.o.Z be be.size);have RL5:=sH (HL.o.Z be be.size);have RP5:=sH ((RP.o.ar Q.o).ar be);have RG5:=sH ((RF.o.Z Q.o iq).Z be be.size);have sM:=be.size;clear c l12 l13 l14 l15 M I be c0 V e4 e5 h0 X Z h3 h4 h5 k0 k1 k2 k3 X1 X2 X3 B1 Q HF HT HL RP RF;dsimp only;obtain⟨c0,V,J,c3,c4,c5⟩:=Y1.o.f6;obtain⟨e0,e1,e2,e3,e4,e5⟩:=Y4.o.c6;obtain⟨k0,k1,k2,k3⟩:=Y2.o.c4;dsimp only at e0 e1 e2 e3 e4 e5 k0 k1 k2 k3;have OC:=sH (aes f f3 y3 W RF5.o RT5.o);go_wp2_with fail;refine OC.o.mono ?_;rintro e w6 ⟨A1,m1,d1,A2,m2,d2,rfl,Fb,QC,o1,o2,_,b6⟩;have bx:aA W (w6.alloc (.cells (cV A1 m1 d1 A2 m2 d2) 179)):=b6.alloc b6.size _;have Z5:ak (Bx (w6.alloc (.cells (cV A1 m1 d1 A2 m2 d2) 179)) w6.heap.size (cV A1 m1 d1 A2 m2 d2)):=⟨Bx.new _ _ _⟩;have S1:=sH ((o1.alloc (.cells (cV A1 m1 d1 A2 m2 d2) 179)).rq aq);have S2:=sH ((o2.alloc (.cells (cV A1 m1 d1 A2 m2 d2) 179)).rq aq);generalize IJ:w6.alloc (.cells (cV A1 m1 d1 A2 m2 d2) 179)=w7 at*;have B7:=B5.t bx;have Z1:=sH (Y1.o.ar bx Y1.o.lt);have Z2:=sH (Y2.o.ar bx Y2.o.lt);have Z3:=sH (Y3.o.ar bx Y3.o.lt);have Z4:=sH (Y4.o.ar bx Y4.o.lt);have RF7:=sH (RF5.o.Z bx bx.size);have RL7:=sH (RL5.o.Z bx bx.size);have RP7:=sH (RP5.o.ar bx);have RG7:=sH (RG5.o.Z bx bx.size);have HW7:=sH IJ;clear o1 o2 b6 bx c0 V J c3 c4 c5 e0 e1 e2 e3 e4 e5 k0 k1 k2 k3 OC Y1 Y2 Y3 Y4 RF5 RT5 RL5 RP5 RG5 IJ;go_wp2_with fail;rw[HW7.o];clear HW7;obtain⟨AT,ct,CT⟩:=mQ UR p.T p.tn p.tc a b iN hb RP7.o.rT.le (a:Int) (b:Int) rfl rfl;obtain⟨AF,cf,CF⟩:=mQ nA FA p.tn fc a b iN hb hfc (a:Int) (b:Int) rfl rfl;have rt:=CT.run;have rf:=CF.run;have TT:=sH (CT.jv RP7.o.rT);have TF:ak (Iw w7 w7.heap.size .i64 aN AF (b-a)):=⟨by obtain⟨xs,X,Z⟩:=RG7.o;exact⟨_,CF.at_ X,fun _ _=>trivial⟩⟩;clear CT CF;have ecl:(a:Int)+((b-a:Nat):Int)=(b:Int):=aq;have LD:ak (∀W',aA w7 W'->Calls prog 115 #[f.v, .slice AT (b-a) ct, .slice AF (b-a) cf,ae aj f2,ae aj (a:Int)] W' (Qz W' (bV a b) (b-a))):=⟨fun W' hb=>by
  have h:=YO f AT (b-a) ct _ AF cf f2 a W' (RF7.o.Z hb hb.size) (TT.o.ar hb) (TF.o.Z hb hb.size) aq aq;rwa [ecl]at h⟩
 clear ecl;have CF7:=sH (And.intro Z1.o.f6 (And.intro (Z5.o.cell 0) (And.intro (Z3.o.cell 0) (Z4.o.cell 2))));go_region_held3 (fun N=>(N.cell? ⟨H,0,none⟩=some (ae aj f.em)/\N.cell? ⟨H,1,none⟩=some (.slice f.G f.gn f.gc)/\N.cell? ⟨H,2,none⟩=some (.slice f.M f.mn f.mc)/\N.cell? ⟨H,3,none⟩=some (.slice f.L f.ln f.lc)/\N.cell? ⟨H,4,none⟩=some (.slice f.F f.fn f.fc)/\N.cell? ⟨H,5,none⟩=some (.slice f.S f.sn f.sc))/\N.cell? ⟨w6.heap.size,0,none⟩=some (.slice A1 m1 d1)/\N.cell? ⟨w.heap.size+1,0,none⟩=some (.slice p.T p.tn p.tc)/\N.cell? ⟨w.heap.size+1+1,2,none⟩=some (ae aj f2))
  (first|exact CF9.o|exact CF8.o|exact CF7.o)
  (first
   |(go_at_call 115;refine(LD.o _ (aM (Below.refl _ _) 1)).mono ?_;rintro e w8 ⟨A8,c8,rfl,o8,b8⟩;have GL8:=sH (o8.rq aq);have hc8:=o8.le;have O:ak (aA w7 w8):=⟨(aM (Below.refl _ _) 1).trans b8⟩;have CF8:=sH (And.intro (Z1.o.ar O.o Z1.o.lt).f6 (And.intro ((Z5.o.ar O.o Z5.o.lt).cell 0) (And.intro ((Z3.o.ar O.o Z3.o.lt).cell 0) ((Z4.o.ar O.o Z4.o.lt).cell 2))));clear o8 b8 LD)
   |(go_at_call 114;refine(abD f (a:Int) (b:Int) A1 m1 d1 A8 (b-a) c8 _ (RF7.o.Z O.o O.o.size) (RL7.o.Z O.o O.o.size) GL8.o aq aq (S1.o.Z O.o O.o.size) aq).mono ?_;rintro e w9 ⟨A9,m9,c9,rfl,g9,hc9,hm9,b9⟩;have GL9:=sH g9;have R:=O.t b9;have CF9:=sH (And.intro (Z1.o.ar R.o Z1.o.lt).f6 (And.intro ((Z5.o.ar R.o Z5.o.lt).cell 0) (And.intro ((Z3.o.ar R.o Z3.o.lt).cell 0) ((Z4.o.ar R.o Z4.o.lt).cell 2))));clear g9 b9))
 have hs9:=R.o.size;have BT:=B7.t R.o;have V1:=sH (Z1.o.ar R.o Z1.o.lt);have V2:=sH (Z2.o.ar R.o Z2.o.lt);have V5:=sH (Z5.o.ar R.o Z5.o.lt);have RF9:=sH (RF7.o.Z R.o R.o.size);have S9:=sH (S2.o.Z R.o R.o.size);clear CF7 CF8 CF9 R O B7 Z1 Z2 Z3 Z4 Z5 RF7 RL7 RP7 RG7 TT TF S1 S2 GL8 rt rf;go_wp2_with (at_builtin;refine cw mf rfl (.tmp 67) (.tmp 68) rfl rfl (Oq.nil w9 w9.heap.size _ _ (bV a b)) rfl GL9.o aq cr ?_;intro A0 k0 w0 o0 b0;have O0:=sH o0;have B0:ak (aA w9 w0):=⟨b0⟩;clear o0 b0);rw[Nat.zero_add]at*;go_loopg [20] (m9+1) (fun gg v20 wr=>∃(i:Nat),m9-i<gg/\i<=m9/\v20=ae aj (i:Int)/\ak (fM wr w9.heap.size (bV a b) A0 m9 k0)/\ak (aA w9 wr))
 ·exact⟨0,aq,aq,rfl,O0,B0⟩
 clear O0 B0;obtain⟨i,hg,hi,rfl,OE,BE⟩:=hrel;have hsr:=BE.o.size;obtain⟨c0,V,J,c3,c4,c5⟩:=(V1.o.ar BE.o V1.o.lt).f6;have RR:=sH (RF9.o.Z BE.o BE.o.size);by_cases aH:i<m9
 ·have i4:=aR i m9
  obtain⟨g,rfl,ef,fL⟩:=OE.o.form aq;obtain⟨x0,x1,x2,x3,x4,x5,x6,x7,x8,x9,_,e0,_⟩:=OE.o.ba aH;obtain⟨L0,L1,L2,L3,L4,L5,LE⟩:=lc7 c0 V J c3 c4 c5 e0;clear c0 V J c3 c4 c5 e0;go_wp2;refine aT (jd 84 ZI) 11 rfl aF aF aF aF aF rfl ?_;refine mLw ?_;refine lwA ZI (fun nq=> ?_) (fun v9 aV=> ?_)
  ·go_simp
   refine aW ZI ((abf f x0 nq.1 (RR.o.Z nq.2 nq.2.size)).mono ?_);rintro e w5 ⟨z,rfl,hb⟩;exact⟨_,rfl,⟨z,rfl⟩,hb⟩
  obtain⟨_,_,z,rfl⟩:=aV;simp[Act.put];refine mLw ?_;intro nq hE;have O4:=sH (OE.o.ar nq.2);have B4:ak (aA w9 nq.1):=⟨BE.o.trans (nq.2.mono hsr)⟩;obtain⟨_,_,y2,_,_,_,_,_,_,_,_,_,_,e2,_⟩:=O4.o.ba aH;have f2':=O4.o.fz (i*10+2);have O6:ak (fM (nq.1.setCell ⟨g,i*10+2,none⟩ (ae aj z)) w9.heap.size (bV a b) (some ⟨g,0,none⟩) m9 k0):=⟨O4.o.set aH aq z fun x hx hq=>cL aq hq⟩;have B6:ak (aA w9 (nq.1.setCell ⟨g,i*10+2,none⟩ (ae aj z))):=⟨Below.setCell B4.o (p:=⟨g,i*10+2,none⟩) O4.o.lt.1 _⟩;clear hE L0 L1 L2 L3 L4 L5 LE;go_simp;go_wp2;go_roundg (m9-i)
  ·exact⟨i+1,aq,aq,aQ,O6,B6⟩
  omega
 obtain rfl:i=m9:=aq;have p1:wr.cell? ⟨w6.heap.size,1,none⟩=some (.slice A2 m2 d2):=(V5.o.ar BE.o V5.o.lt).cell 1;have lM:i<=k0:=OE.o.le;go_wp2_with fail;refine(abQ f (a:Int) (b:Int) A2 m2 d2 A0 i k0 wr RR.o (OE.o.rq aq) lM aq (S9.o.Z BE.o BE.o.size) aq).mono ?_;rintro e w3 ⟨A3,k3,rfl,hk3,g3,b3⟩;have G3:=sH g3;have B3:ak (aA w9 w3):=⟨BE.o.trans (b3.mono hsr)⟩;clear g3 b3 c0 V J c3 c4 c5 p1 RR;go_wp2_with fail;refine(Ld (a:Int) (b:Int) A3 i k3 w3 G3.o aq).mono ?_;rintro e w4 ⟨A4,k4,rfl,o4,b4⟩;have G4:ak (gi w4 (kC a b) A4 i):=⟨o4.rq aq⟩;have B4:=B3.t b4;have U1:=sH (V1.o.ar B4.o V1.o.lt);have S:=sH (V2.o.ar B4.o V2.o.lt);have IY:=B4.o.size;clear o4 b4 V1 V2 V5;go_wp2;have CF7:=sH (And.intro U1.o.f6 (And.intro (S.o.cell 1) (S.o.cell 2)));go_region_held3 (fun N=>(N.cell? ⟨H,0,none⟩=some (ae aj f.em)/\N.cell? ⟨H,1,none⟩=some (.slice f.G f.gn f.gc)/\N.cell? ⟨H,2,none⟩=some (.slice f.M f.mn f.mc)/\N.cell? ⟨H,3,none⟩=some (.slice f.L f.ln f.lc)/\N.cell? ⟨H,4,none⟩=some (.slice f.F f.fn f.fc)/\N.cell? ⟨H,5,none⟩=some (.slice f.S f.sn f.sc))/\N.cell? ⟨n2,1,none⟩=some (ae aj y1)/\N.cell? ⟨n2,2,none⟩=some (ae aj y2))
  (first|exact aeX.o|exact CF9.o|exact CF8.o|exact CF7.o)
  (first
   |(go_at_call 121;refine(Zo (kC a b) (fun _ _ _ _ _ _ _ _ _ _ _ X Z h=>⟨h.1,X,Z⟩) A4 i k4 _ (G4.o.Z (aM (Below.refl _ _) 1) cr) aq).mono ?_;rintro e w5 ⟨m5,hm5,A5,c5,rfl,o5,b5⟩;have G5:=sH (o5.rq aq);have T:ak (aA w4 w5):=⟨(aM (Below.refl _ _) 1).trans b5⟩;have CF8:=sH (And.intro (U1.o.ar T.o U1.o.lt).f6 (And.intro ((S.o.ar T.o S.o.lt).cell 1) ((S.o.ar T.o S.o.lt).cell 2)));clear o5 b5)
   |(go_at_call 120;refine(U9 f y1 (kC a b) (fun _ _ _ _ _ _ _ _ _ _ _ _ _ h=>h) A5 m5 c5 _ aeb ae' G5.o aq).mono ?_;rintro e w8 ⟨A8',WM,rfl,o8,b8⟩;have O8:=sH o8;have O:=T.t b8;have HB8:=sH b8.size;have CF9:=sH (And.intro (U1.o.ar O.o U1.o.lt).f6 (And.intro ((S.o.ar O.o S.o.lt).cell 1) ((S.o.ar O.o S.o.lt).cell 2)));clear o8 b8)
   |(go_at_call 119;refine(Kn (kC a b) (fun x hx hq v=>Ig hq) A8' m5 WM y2 w5.heap.size _ HB8.o O8.o aq).mono ?_;rintro e w10 ⟨rfl,o10,b10⟩;have G10:=sH o10;have HB5:=T.o.size;have ae9:=o10.le;have Sn:ak (aA w4 w10):=⟨O.o.trans (b10.mono T.o.size)⟩;have aeX:=sH (And.intro (U1.o.ar Sn.o U1.o.lt).f6 (And.intro ((S.o.ar Sn.o S.o.lt).cell 1) ((S.o.ar Sn.o S.o.lt).cell 2)));clear o10 b10))
 go_wp2;go_ret2;exact⟨A8',m5,WM,0,rfl,ae9,aq,G10.o.cN (by have:=BT.o.size;omega),BT.o.trans ((B4.o.trans (Sn.o.mono IY)).mono BT.o.size)⟩
theorem gL(n:Int)(w:World):Calls prog 147 #[ae aj n] w (PBe w):=by
 go_enter func147,ntmps147;go_wp2_with fail
 all_goals
  go_ret;exact⟨_,rfl,rfl⟩
def PWi(w:World)(n lo a:Int)(e:Ending)(b:World):Prop:=∃z:Bool,e= .returned (.bool z)/\(z=true->lo<=n/\n<=a)/\w=b
theorem cK(n lo a:Int)(w:World):Calls prog 218 #[ae aj n,ae aj lo,ae aj a] w (PWi w n lo a):=by
 go_enter func218,ntmps218;go_wp2_with fail
 all_goals
  go_ret;exact⟨_,rfl,ij,rfl⟩
theorem gX(f:db)(g:Int)(w:World)(h:ca w w.heap.size f):Calls prog 220 #[f.v,ae aj g] w (PB w):=by
 have a:=h.rG.bd;go_enter func220,ntmps220;go_wp2_with fail
 all_goals
  go_ret;exact⟨_,rfl,av _ _⟩
theorem Lq(f:db)(A:aC)(n c:Nat)(w:World)(h:ca w w.heap.size f)(q:cM w w.heap.size ew A n c):Calls prog 270 #[f.v, .slice A n c] w (PB w):=by
 obtain⟨x,e,a,p⟩:=box1 w f.row 82;have R:=sH (h.Z a.o a.o.size);have t:=sH (q.Z a.o a.o.size);have L:=q.bd;go_enter func270,ntmps270;go_wp2;rw[<-e];clear e;go_loopg [5] (n+1) (fun gg v wr=>∃(i:Nat),n-i<gg/\i<=n/\v=ae aj (i:Int)/\ak (aA x wr))
 ·exact⟨0,aq,aq,rfl,cB⟩
 obtain⟨i,H,O,rfl,d⟩:=hrel;by_cases j:i<n;rotate_left
 ·have s:=cF i n
  go_wp2;go_ret;exact⟨_,rfl,a.o.trans (d.o.mono a.o.size)⟩
 have s:=aR i n;obtain⟨c0,C,l,u,c4,c5⟩:=(p.o.ar d.o p.o.lt).f6;obtain⟨G,z,rfl,y⟩:=ie (t.o.Z d.o d.o.size) j;have B:=sH (R.o.Z d.o d.o.size);obtain⟨L0,L1,J,E,N,K⟩:=lc6 c0 C l u c4 c5;have I:=aw y;go_wp2;refine aG (mj 17 SB) aF aF ?_
 repeat(refine du aK aK aK ?_;intro r k;go_big_quiet_op;go_big_quiet_on)
 refine lsA SB (fun g=> ?_) (fun F m=> ?_)
 ·go_simp
  exact bj (gX f z g.1 (B.o.Z g.2 g.2.size))
 obtain⟨b,rfl⟩:=m;simp[Act.put]
 repeat(refine du aK aK aK ?_;intro r k;go_big_quiet_op;go_big_quiet_on)
 intro g;obtain⟨M,D⟩:=g;have o:=d.t D
 try dsimp only
 cases b
 ·go_wp2
  go_ret;exact⟨_,rfl,a.o.trans (o.o.mono a.o.size)⟩
 ·go_wp2
  go_roundg (n-i)
  ·exact⟨i+1,aq,aq,aQ,o⟩
  omega
theorem wW(A:aC)(n c:Nat)(w:World)(h:cM w w.heap.size ew A n c):Calls prog 219 #[.slice A n c] w (PB w):=by
 have g:=sH h;have t:=h.bd;go_enter func219,ntmps219;go_wp2;go_loopg [3] (n+1) (fun gg v3 wr=>∃(i:Nat),n-i<gg/\1<=i/\v3=ae aj (i:Int)/\ak (aA w wr))
 ·exact⟨1,aq,aq,rfl,cB⟩
 obtain⟨i,r,x,rfl,a⟩:=hrel;by_cases d:i<n;rotate_left
 ·have j:=cF i n
  go_wp2;go_ret;exact⟨_,rfl,a.o⟩
 have j:=aR i n;obtain⟨q,z,rfl,l⟩:=ie (g.o.Z a.o a.o.size) d;obtain⟨k,rfl⟩:∃k,i=k+1:=⟨i-1,aq⟩;obtain⟨o,y,e,v⟩:=ie (g.o.Z a.o a.o.size) (show k<n by omega);injection e with e
 subst e;rw[add_succ]at l;have s:IntKind.i64.wrap ((k:Int)+1-1)=(k:Int):=yA;have u:=jB k;have p:=aR k n;go_wp2;go_quiet (fail);generalize b:wr.drewN _=m;have f:ak (aA w m):=⟨by rw[<-b];exact aM a.o _⟩;clear b;go_wp2_with fail
 ·go_ret
  exact⟨_,rfl,f.o⟩
 ·go_roundg (n-(k+1))
  case measure=>omega
  case rel=>exact⟨k+1+1,aq,aq,aQ,f⟩
theorem oQ(f:db)(A:aC)(n c:Nat)(w:World)(h:ca w w.heap.size f)(l:cM w w.heap.size ew A n c):Calls prog 221 #[f.v, .slice A n c] w (PB w):=by
 obtain⟨t,d,a,r⟩:=box1 w f.row 82;have R:=sH (h.Z a.o a.o.size);have p:=sH (l.Z a.o a.o.size);obtain⟨c0,m,j,o,c4,c5⟩:=r.o.f6;have u:=l.bd;by_cases x:n<=4096;rotate_left
 ·have k:¬(n:Int)<=4096:=by omega
  go_enter func221,ntmps221;go_wp2_with fail;rw[<-d];clear d;go_wp2;go_ret;exact⟨_,rfl,a.o⟩
 have k:(n:Int)<=4096:=aq;go_enter func221,ntmps221;go_wp2_with fail;rw[<-d];clear d;go_wp2_with fail;refine(wW A n c t p.o).mono ?_;rintro e q ⟨b,rfl,i⟩;have g:=sH i;have c0:=au c0 i;have m:=au m i;have j:=au j i;have o:=au o i;have c4:=au c4 i;have c5:=au c5 i
 cases b
 ·go_wp2
  go_ret;exact⟨_,rfl,a.o.trans (g.o.mono a.o.size)⟩
 ·go_wp2_with fail
  refine(Lq f A n c q (R.o.Z g.o g.o.size) (p.o.Z g.o g.o.size)).mono ?_;rintro e v ⟨b,rfl,s⟩;go_wp2;go_ret;exact⟨_,rfl,a.o.trans ((g.o.trans (s.mono g.o.size)).mono a.o.size)⟩
theorem PBe.pb{a:World}{e:Ending}(h:PBe w e a):PB w e a:=by
 obtain⟨z,b,rfl⟩:=h;exact⟨z,b,Below.refl _ _⟩
theorem mu(f:db)(A:aC)(n c:Nat)(lo:Int)(w:World)(h:ca w w.heap.size f)(r:cM w w.heap.size (.arr ew) A n c):Calls prog 275 #[f.v, .slice A n c,ae aj lo] w (PB w):=by
 obtain⟨u,j,a,q⟩:=box1 w f.row 82;have R:=sH (h.Z a.o a.o.size);have C:=sH (r.Z a.o a.o.size);have M:=r.bd;go_enter func275,ntmps275;go_wp2;rw[<-j];clear j;go_loopg [7] (n+1) (fun gg v7 wr=>∃(i:Nat),n-i<gg/\i<=n/\v7=ae aj (i:Int)/\ak (aA u wr))
 ·exact⟨0,aq,aq,rfl,cB⟩
 obtain⟨i,S,O,rfl,d⟩:=hrel;by_cases m:i<n;rotate_left
 ·have s:=cF i n
  go_wp2_with fail;refine(cK _ _ _ _).mono ?_;rintro e _ ⟨z,rfl,_,rfl⟩;go_wp2;go_ret;exact⟨_,rfl,a.o.trans (d.o.mono a.o.size)⟩
 have s:=aR i n;obtain⟨c0,F,l,t,c4,c5⟩:=(q.o.ar d.o q.o.lt).f6;obtain⟨J,I,G,B,rfl,D,E⟩:=fi (C.o.Z d.o d.o.size) m;have v:=sH (R.o.Z d.o d.o.size);have x:=sH D;obtain⟨L0,L1,T,P,N,L⟩:=lc6 c0 F l t c4 c5;have K:=aw E;go_wp2;refine aG (mj 19 SB) aF aF ?_
 repeat(refine du aK aK aK ?_;intro y k;go_big_quiet_op;go_big_quiet_on)
 refine lsA SB (fun g=> ?_) (fun Q o=> ?_)
 ·go_simp
  exact bj (oQ f I G B g.1 (v.o.Z g.2 g.2.size) (x.o.Z g.2 g.2.size))
 obtain⟨b,rfl⟩:=o;simp[Act.put]
 repeat(refine du aK aK aK ?_;intro y k;go_big_quiet_op;go_big_quiet_on)
 intro g;obtain⟨U,H⟩:=g;have p:=d.t H
 try dsimp only
 cases b
 ·go_wp2
  go_ret;exact⟨_,rfl,a.o.trans (p.o.mono a.o.size)⟩
 ·go_wp2
  go_roundg (n-i)
  ·exact⟨i+1,aq,aq,aQ,p⟩
  omega
def PGy(w:World)(f:db)(e:Ending)(a:World):Prop:=∃z:Bool,e= .returned (.bool z)/\(z=true->1<=f.em/\f.em<=16384)/\aA w a
theorem adb(s:G:=by
 have i5:¬(k:Int)<(x.kn:Int):=by omega
 go_wp2;go_roundg (n-i)
 ·exact⟨i+1,aq,aq,aQ,B3⟩
 omega):G:=s
theorem Mb(f:db)(w:World)(h:ca w w.heap.size f):Calls prog 142 #[f.v] w (PGy w f):=by
 obtain⟨U,y,g,H⟩:=box1 w f.row 82;have R:=sH (h.Z g.o g.o.size);have hn:=h.rG.bd;obtain⟨n,p⟩:=eY f.gn;have M:=sH p;obtain⟨c0,u,m,I,c4,c5⟩:=H.o.f6;rw[p]at hn;clear h p;go_enter func142,ntmps142;go_wp2_with fail;rw[<-y];clear y;go_wp2_with fail;refine(cK _ _ _ _).mono ?_;rintro e _ ⟨z,rfl,c,rfl⟩;cases z
 ·go_wp2
  go_ret;exact⟨_,rfl,aD,g.o⟩
 have HE:=sH (c rfl);clear c;go_wp2_with fail;refine(cK _ _ _ _).mono ?_;rintro e _ ⟨z,rfl,_,rfl⟩;cases z
 ·go_wp2
  go_ret;exact⟨_,rfl,aD,g.o⟩
 rw[M.o]at u;go_wp2;go_loopg [3,4,5] (n+1) (fun gg v3 _ _ wr=>∃(i:Nat),n-i<gg/\i<=n/\v3=ae aj (i:Int)/\ak (aA U wr))
 ·exact⟨0,aq,aq,rfl,cB⟩
 obtain⟨i,hg,hi,rfl,t⟩:=hrel;clear c0 u m I c4 c5;obtain⟨c0,u,m,I,c4,c5⟩:=(H.o.ar t.o H.o.lt).f6;rw[M.o]at u;have hs:=t.o.size;by_cases N:i<n;rotate_left
 ·have i4:=cF i n
  go_wp2;go_ret;exact⟨_,rfl,fun _=>HE.o,g.o.trans (t.o.mono g.o.size)⟩
 have i4:=aR i n;obtain⟨adG,x,T,O,Y,e1,e2,e3⟩:=Wg (R.o.Z t.o t.o.size).rG (by rw[M.o];exact N);rw[T]at u;have Z:=sH O.rK;have kV:=O.rK.bd;clear T O;obtain⟨j,cd⟩:=eX (wr.alloc (.cells #[ae aj x.Yq,ae aj x.kind,ae aj x.att, .slice x.K x.kn x.kc] 248));have E:aA wr j:=jT;have l:ak (Bx j wr.heap.size #[ae aj x.Yq,ae aj x.kind,ae aj x.att, .slice x.K x.kn x.kc]):=⟨oJ⟩;have V:=sH (t.o.trans (E.mono hs));have s:=sH (Z.o.Z E E.size);have iq:=E.size;have S:wr.heap.size<j.heap.size:=l.o.lt;have d0:j.cell? ⟨wr.heap.size,0,none⟩=some (ae aj x.Yq):=l.o.cell 0;have W:j.cell? ⟨wr.heap.size,1,none⟩=some (ae aj x.kind):=l.o.cell 1;have d2:j.cell? ⟨wr.heap.size,2,none⟩=some (ae aj x.att):=l.o.cell 2;have Q:j.cell? ⟨wr.heap.size,3,none⟩=some (.slice x.K x.kn x.kc):=l.o.cell 3;have d:=g.t V.o;clear Z E;go_wp2_with fail;refine(gL _ _).mono ?_;rintro e _ ⟨z,rfl,c⟩;rw[<-c,<-cd];clear c cd Y e1 e2 e3 c0 u m I c4 c5;cases z
 ·go_wp2
  go_ret;exact⟨_,rfl,aD,d.o⟩
 go_wp2_with fail;refine(cK _ _ _ _).mono ?_;rintro e _ ⟨z,rfl,_,rfl⟩;cases z
 ·go_wp2
  go_ret;exact⟨_,rfl,aD,d.o⟩
 go_wp2_with fail;refine(cK _ _ _ _).mono ?_;rintro e _ ⟨z,rfl,_,rfl⟩;cases z
 ·go_wp2
  go_ret;exact⟨_,rfl,aD,d.o⟩
 by_cases h15:x.kn<=15;rotate_left
 ·have v:(15:Int)<(x.kn:Int):=by omega
  go_wp2;go_ret;exact⟨_,rfl,aD,d.o⟩
 have v:¬(15:Int)<(x.kn:Int):=aq;go_wp2_with fail;refine(wW x.K x.kn x.kc j s.o).mono ?_;rintro e A ⟨z,rfl,B⟩;have B3:ak (aA U A):=⟨V.o.trans (B.mono aq)⟩;have o:=g.t B3.o;have G:=sH (l.o.ar B S);have L:=sH (s.o.Z B B.size);clear B d0 W d2 Q l s;have W:A.cell? ⟨wr.heap.size,1,none⟩=some (ae aj x.kind):=G.o.cell 1;have Q:A.cell? ⟨wr.heap.size,3,none⟩=some (.slice x.K x.kn x.kc):=G.o.cell 3;cases z
 ·go_wp2
  go_ret;exact⟨_,rfl,aD,o.o⟩
 by_cases D:0<x.kn/\x.kind≠2
 ·have F:decide (0<x.kn)=true:=yy
  have q2:(x.kind !=2)=true:=cA;clear D;go_wp2;go_ret;exact⟨_,rfl,aD,o.o⟩
 have r:(decide (0<x.kn)&&(x.kind !=2))=false:=by
  rcases Nat.eq_zero_or_pos x.kn with h|h
  ·simp[h]
  ·have:x.kind=2:=by omega
   simp[this]
 clear D;obtain⟨kd,C⟩:=eY x.kn;have afB:=G.o.lt;rcases Nat.eq_zero_or_pos x.kn with c|c
 ·have F:decide (0<x.kn)=false:=by simp[c]
  clear r C;go_wp2;obtain⟨K,a⟩:=eX A;rw[<-a];clear F;go_loopg [5] (x.kn+1) (fun gg J wr=>∃(k:Nat),x.kn-k<gg/\k<=x.kn/\J=ae aj (k:Int)/\wr=K)
  ·exact⟨0,aq,aq,rfl,rfl⟩
  obtain⟨k,P,hk,rfl,rfl⟩:=hrel;subst a;by_cases q:k<x.kn;rotate_left
  ·exact adb
  exact absurd q aq
 ·have F:decide (0<x.kn)=true:=by simp[c]
  have q2:(x.kind !=2)=false:=by simpa[c]using r
  clear r C;go_wp2;obtain⟨K,a⟩:=eX A;rw[<-a];clear F;go_loopg [5] (x.kn+1) (fun gg J wr=>∃(k:Nat),x.kn-k<gg/\k<=x.kn/\J=ae aj (k:Int)/\wr=K)
  ·exact⟨0,aq,aq,rfl,rfl⟩
  obtain⟨k,P,hk,rfl,rfl⟩:=hrel;subst a;by_cases q:k<x.kn;rotate_left
  ·exact adb
  have i5:(k:Int)<(x.kn:Int):=aq;obtain⟨adk,z,X,Y⟩:=ie L.o q;rw[X]at Q;clear X;go_wp2_with fail;refine(gL _ _).mono ?_;rintro e _ ⟨b,rfl,rfl⟩;cases b
  ·go_wp2
   go_ret;exact⟨_,rfl,aD,o.o⟩
  ·go_wp2
   go_roundg (x.kn-k)
   ·exact⟨k+1,aq,aq,aQ,rfl⟩
   omega
theorem Pp(s:G:=by
 go_wp2
 go_ret;exact⟨_,rfl,av _ _⟩):G:=s
theorem yi(x y z:Int)(w:World):Calls prog 276 #[.agg #[ae aj x,ae aj y,ae aj z]] w (PB w):=by
 go_enter func276,ntmps276;go_wp2_with fail;refine(gL _ _).mono ?_;rintro e _ ⟨z,rfl,rfl⟩;cases z
 ·exact Pp
 go_wp2_with fail;refine(gL _ _).mono ?_;rintro e _ ⟨z,rfl,rfl⟩;cases z
 ·exact Pp
 go_wp2_with fail;refine(gL _ _).mono ?_;rintro e _ ⟨z,rfl,rfl⟩;go_wp2;go_ret;exact⟨_,rfl,av _ _⟩
theorem jK(x y:Int)(h:Bool)(w:World):Calls prog 299 #[.agg #[ae aj x,ae aj y], .bool h] w (PB w):=by
 go_enter func299,ntmps299;go_wp2_with fail;refine(gL _ _).mono ?_;rintro e _ ⟨z,rfl,rfl⟩;cases z
 ·exact Pp
 go_wp2_with fail;refine(gL _ _).mono ?_;rintro e _ ⟨z,rfl,rfl⟩;cases z
 ·exact Pp
 cases h
 ·by_cases a:x=0
  ·have b:(x==0)=true:=by simp[a]
   go_wp2;go_ret;exact⟨_,rfl,av _ _⟩
  ·have b:(x==0)=false:=by simp[a]
   go_wp2;go_ret;exact⟨_,rfl,av _ _⟩
 ·exact Pp
def maT(d:Option Tmp):Option (Value->Prop):=if d=some 30 then some SB else if d=some 36 then some SB else none
theorem Vy(s:G:=by
 simp[Act.put]
 refine mSk ?_;intro nq;obtain⟨w6,bq⟩:=nq;have BX:=B2.t bq
 try dsimp only
 go_wp2;go_ret;exact⟨_,rfl,B1.o.trans (BX.o.mono B1.o.size)⟩):G:=s
theorem acv(s:G:=by
 go_simp
 exact bj (gX ⟨em,G,gn,gc,some adM,n,mc,L,ln,lc,F,fn,fc,S,m,sc⟩ x1 nq.1 (RR.o.Z nq.2 nq.2.size))):G:=s
theorem XL(f:db)(w:World)(h:ca w w.heap.size f):Calls prog 143 #[f.v] w (PB w):=by
 obtain⟨I,d,B1,A⟩:=box1 w f.row 82;have R:=sH (h.Z B1.o B1.o.size);have hn:=h.rM.bd;have hm:=h.rS.bd;obtain⟨em,G,gn,gc,M,n,mc,L,ln,lc,F,fn,fc,S,m,sc⟩:=f;dsimp only at*;by_cases q1:4096<n
 ·have N:=aR 4096 n
  go_enter func143,ntmps143;go_wp2_with fail;rw[<-d];clear d;go_wp2;go_ret;exact⟨_,rfl,B1.o⟩
 have N:=cF 4096 n;by_cases q2:16<m
 ·have D:=aR 16 m
  go_enter func143,ntmps143;go_wp2_with fail;rw[<-d];clear d;go_wp2;go_ret;exact⟨_,rfl,B1.o⟩
 have D:=cF 16 m;go_enter func143,ntmps143;go_wp2_with fail;rw[<-d];clear d;go_wp2;go_loopg [3,4] (n+1) (fun gg v3 _ wr=>∃(i:Nat),n-i<gg/\i<=n/\v3=ae aj (i:Int)/\ak (aA I wr))
 ·exact⟨0,aq,aq,rfl,cB⟩
 obtain⟨i,hg,hi,rfl,c⟩:=hrel;obtain⟨c0,y,e,s,c4,c5⟩:=(A.o.ar c.o A.o.lt).f6;dsimp only at c0 y e s c4 c5;have hs:=c.o.size;by_cases J:i<n;rotate_left
 ·have i4:=cF i n
  go_wp2;obtain⟨wo,g⟩:=eX wr;have BO:ak (aA I wo):=⟨by rw[g];exact c.o⟩;rw[<-g];clear g;go_loopg [5] (m+1) (fun gg v5 wr=>∃(j:Nat),m-j<gg/\j<=m/\v5=ae aj (j:Int)/\ak (aA I wr))
  ·exact⟨0,aq,aq,rfl,BO⟩
  obtain⟨j,fL,hj,rfl,c⟩:=hrel;obtain⟨c0,y,e,s,c4,c5⟩:=(A.o.ar c.o A.o.lt).f6;dsimp only at c0 y e s c4 c5;by_cases O:j<m;rotate_left
  ·have i5:=cF j m
   go_wp2;go_ret;exact⟨_,rfl,B1.o.trans (c.o.mono B1.o.size)⟩
  have i5:=aR j m;obtain⟨E,A2,n2,k2,Y,h2,K⟩:=fi (R.o.Z c.o c.o.size).rS O;dsimp only at Y;subst Y;have RR:=sH (R.o.Z c.o c.o.size);have R2:=sH h2;go_wp2;obtain⟨L0,L1,L2,X,W,T⟩:=lc6 c0 y e s c4 c5;have LE:=aw K;refine aG (mj 68 SB) aF aF ?_
  repeat(refine du aK aK aK ?_;intro K9 H;go_big_quiet_op;go_big_quiet_on)
  refine lsA SB (fun nq=> ?_) (fun B a=> ?_)
  ·go_simp
   exact bj (oQ ⟨em,G,gn,gc,M,n,mc,L,ln,lc,F,fn,fc,some E,m,sc⟩ A2 n2 k2 nq.1 (RR.o.Z nq.2 nq.2.size) (R2.o.Z nq.2 nq.2.size))
  obtain⟨b,rfl⟩:=a;simp[Act.put]
  repeat(refine du aK aK aK ?_;intro K9 H;go_big_quiet_op;go_big_quiet_on)
  intro nq;obtain⟨w6,bq⟩:=nq;have BX:=c.t bq
  try dsimp only
  cases b
  ·go_wp2
   go_ret;exact⟨_,rfl,B1.o.trans (BX.o.mono B1.o.size)⟩
  ·go_wp2
   go_roundg (m-j)
   ·exact⟨j+1,aq,aq,aQ,BX⟩
   omega
 have i4:=aR i n;obtain⟨adM,q,x1,Z,K,e1⟩:=yr (R.o.Z c.o c.o.size).rM J;dsimp only at Z;subst Z;obtain⟨C,cd⟩:=eX (wr.alloc (.cells #[.int .i32 q,ae aj x1] 265));have o:aA wr C:=jT;have P:ak (Bx C wr.heap.size #[.int .i32 q,ae aj x1]):=⟨oJ⟩;have B2:=sH (c.o.trans (o.mono hs));have BB2:=B1.t B2.o;have V:C.cell? ⟨wr.heap.size,0,none⟩=some (.int .i32 q):=P.o.cell 0;have U:C.cell? ⟨wr.heap.size,1,none⟩=some (ae aj x1):=P.o.cell 1;have RR:=sH (R.o.Z B2.o B2.o.size);have p:=au c0 o;have u:=au y o;have x:=au e o;have r:=au s o;have v:=au c4 o;have z:=au c5 o
 rcases i with _|k
 ·rw[Nat.zero_mul,eQ]at K e1
  go_wp2;rw[<-cd];clear cd;have wk:decide ((0:Int)<0)=false:=bQ;obtain⟨L0,L1,L2,X,W,T,D0,D1⟩:=lc8 p u x r v z V U;refine aG maT aF aF ?_;refine mSk ?_;refine lsA SB (fun nq=> ?_) (fun B a=> ?_)
  ·go_simp
   exact bj ((Oi q nq.1).mono fun _ _ h=>h.pb)
  obtain⟨b,rfl⟩:=a;cases b
  ·exact Vy
  simp[Act.put];refine mSk ?_;refine lsA SB (fun nq=> ?_) (fun B a=> ?_)
  ·exact acv
  obtain⟨b,rfl⟩:=a;cases b
  ·exact Vy
  simp[Act.put];refine mSk ?_;intro nq;obtain⟨w6,bq⟩:=nq;have BX:=B2.t bq
  try dsimp only
  go_wp2_with fail
  all_goals first
   |(go_roundg (n-(0))<;>first|omega|exact⟨0+1,aq,aq,aQ,BX⟩)
   |(go_ret;exact⟨_,rfl,B1.o.trans (BX.o.mono B1.o.size)⟩)
 ·obtain⟨Q,y0,y1,l,g0,g1⟩:=yr (R.o.Z B2.o B2.o.size).rM (show k<n by omega)
  injection l with l
  subst l;go_wp2;rw[<-cd];clear cd;have wk:IntKind.i64.wrap ((k:Int)+1-1)=(k:Int):=yA;have p0:=jB k;have p1:=aR k n;have G0:=aw g0;obtain⟨L0,L1,L2,X,W,T,D0,D1⟩:=lc8 p u x r v z V U;refine aG maT aF aF ?_;refine mSk ?_;refine lsA SB (fun nq=> ?_) (fun B a=> ?_)
  ·go_simp
   exact bj ((Oi q nq.1).mono fun _ _ h=>h.pb)
  obtain⟨b,rfl⟩:=a;cases b
  ·exact Vy
  simp[Act.put];refine mSk ?_;refine lsA SB (fun nq=> ?_) (fun B a=> ?_)
  ·exact acv
  obtain⟨b,rfl⟩:=a;cases b
  ·exact Vy
  simp[Act.put];refine mSk ?_;intro nq;obtain⟨w6,bq⟩:=nq;have BX:=B2.t bq
  try dsimp only
  go_wp2_with fail
  all_goals first
   |(go_roundg (n-(k+1))<;>first|omega|exact⟨k+1+1,aq,aq,aQ,BX⟩)
   |(go_ret;exact⟨_,rfl,B1.o.trans (BX.o.mono B1.o.size)⟩)
theorem mD{P:Nat->Prop}{i:Nat}(h:∀k,k<i->P k)(a:P i):∀k,k<i+1->P k:=fun k b=>by
 by_cases e:k=i
 ·subst e;exact a
 ·exact h k aq
theorem acb{W:World}{a d:Array Value}{b f:TypeId}(h:W=(w.alloc (.cells a b)).alloc (.cells d f)):aA w W/\Bx W w.heap.size a/\Bx W (w.heap.size+1) d:=by
 have e:(w.alloc (.cells a b)).heap.size=w.heap.size+1:=aD;have c:Below (w.alloc (.cells a b)).heap.size (w.alloc (.cells a b)) W:=JE;exact⟨(av _ _).trans (c.mono aq),(Bx.new _ _ _).ar c aq,by rw[h];exact Bx.jt _ _ _ e⟩
def SW(n lo a:Int)(v:Value):Prop:=∃z:Bool,v= .bool z/\(z=true->lo<=n/\n<=a)
theorem yS{w0:World}{n:aI w0}{P:Program}{f:FuncId}{args:Array Value}{x lo b:Int}(h:Calls P f args n.1 (PWi n.1 x lo b)):Calls P f args n.1 fun e a=>∃v,e= .returned v/\SW x lo b v/\∃m:aI w0,a=m.1:=
 h.mono fun e a ⟨z,d,g,c⟩=>⟨_,d,⟨z,rfl,g⟩,n,c.symm⟩
def toT(n lo a:Int)(d:Option Tmp):Option (Value->Prop):=if d=some 39 then some (SW n lo a)else if d=some 48 then some SB else none
def ToL(w:World)(T:aC)(lo b:Int)(i:Nat):Prop:=∃(a:Addr) (A:aC) (n c:Nat),T=some a/\a.block<w.heap.size/\w.cell? (a.add i)=some (.slice A n c)/\lo<=n/\n<=b
def aed(w:World)(s:Sb)(lo a:Int)(e:Ending)(b:World):Prop:=∃z:Bool,e= .returned (.bool z)/\(z=true->s.tn=s.cn/\∀i,i<s.tn->ToL w s.T lo a i)/\aA w b
theorem acV(s:G:=by
 simp[Act.put]
 refine mSk ?_;intro nq;obtain⟨w6,bq⟩:=nq;have BX:=BE.t bq;have BZ:=B1.t BX.o
 try dsimp only
 clear bq L0 L1 L2 L3 L4 L5 LE LD;go_wp2;go_ret;exact⟨_,rfl,aD,BZ.o⟩):G:=s
theorem aav(f:db)(s:Sb)(lo c:Int)(w:World)(h:ca w w.heap.size f)(o:nD w w.heap.size s):Calls prog 272 #[f.v,s.v,ae aj lo,ae aj c] w (aed w s lo c):=by
 obtain⟨I,l,B1,B,A⟩:=box2 w f.row 82 s.row 141;have R:=sH (h.Z B1.o B1.o.size);have RS:=sH (o.Z B1.o B1.o.size);have P:=sH o.rT;have JT:=o.rC.bd;have Y:=o.rT.bd;obtain⟨c0,x,a,u,c4,c5⟩:=B.o.f6;obtain⟨m,d,_⟩:=A.o.mS;clear h o;go_enter func272,ntmps272;go_wp2_with fail;rw[<-l];clear l;go_wp2_with fail;refine(oQ f s.C s.cn s.cc I R.o RS.o.rC).mono ?_;rintro e w2 ⟨z,rfl,y⟩;have K:=sH y;have m:=au m y;have d:=au d y
 clear y c0 x a u c4 c5;have L:=B1.t K.o;cases z
 ·go_wp2
  go_ret;exact⟨_,rfl,aD,L.o⟩
 by_cases G:s.tn=s.cn;rotate_left
 ·have C:((s.tn:Int) !=(s.cn:Int))=true:=by simp;omega
  clear G;go_wp2;go_ret;exact⟨_,rfl,aD,L.o⟩
 have HQ:=sH G;have C:((s.tn:Int) !=(s.cn:Int))=false:=cA;clear G;go_wp2;obtain⟨n,M⟩:=eY s.tn;have HN:=sH M;clear M;go_loopg [9] (s.tn+1) (fun gg D wr=>∃(i:Nat),s.tn-i<gg/\i<=s.tn/\D=ae aj (i:Int)/\ak (aA I wr)/\ak (∀k,k<i->ToL w s.T lo c k))
 ·exact⟨0,aq,aq,rfl,K,⟨fun k V=>by omega⟩⟩
 obtain⟨i,hg,wZ,rfl,BE,N⟩:=hrel;clear m d;have v:=B1.t BE.o;obtain⟨m,d,_⟩:=(A.o.ar BE.o A.o.lt).mS;by_cases E:i<s.tn;rotate_left
 ·have U:¬(i:Int)<(s.tn:Int):=by omega
  go_wp2;go_ret;exact⟨_,rfl,fun _=>⟨HQ.o,fun k V=>N.o k aq⟩,v.o⟩
 have U:(i:Int)<(s.tn:Int):=aq;obtain⟨c0,x,a,u,c4,c5⟩:=(B.o.ar BE.o B.o.lt).f6;obtain⟨H,S,g,O,r,F,p⟩:=fi P.o E;have q:H.block<w.heap.size:=by
  obtain⟨Z,J,hl,_⟩:=P.o.2.2.2 aq;rw[r]at J;obtain rfl:=Option.some.inj J;exact hl
 have TI:ak (lo<=(g:Int)/\(g:Int)<=c->ToL w s.T lo c i):=⟨fun h=>⟨H,S,g,O,r,q,p,h.1,h.2⟩⟩;rw[r]at d;have p:=au p v.o;have W:=sH (R.o.Z BE.o BE.o.size);have R2:=sH (F.Z v.o v.o.size);have T:=F.bd;clear r F q m;go_wp2;obtain⟨L0,L1,L2,L3,L4,L5⟩:=lc6 c0 x a u c4 c5;clear c0 x a u c4 c5;obtain⟨LE,LD⟩:=lc2 p d;clear p d;refine aG (toT g lo c) aF aF ?_;refine mSk ?_;refine lsA (SW g lo c) (fun nq=> ?_) (fun D j=> ?_)
 ·go_simp
  exact yS (cK g lo c nq.1)
 obtain⟨b,rfl,Q⟩:=j;have X:=sH Q;clear Q;cases b
 ·exact acV
 have TK:=sH (TI.o (X.o rfl));simp[Act.put];refine mSk ?_;refine lsA SB (fun nq=> ?_) (fun D j=> ?_)
 ·go_simp
  exact bj (Lq f S g O nq.1 (W.o.Z nq.2 nq.2.size) (R2.o.Z nq.2 nq.2.size))
 obtain⟨b,rfl⟩:=j;cases b
 ·exact acV
 simp[Act.put];refine mSk ?_;intro nq;obtain⟨w6,bq⟩:=nq;have BX:=BE.t bq;have BZ:=B1.t BX.o
 try dsimp only
 clear bq L0 L1 L2 L3 L4 L5 LE LD;go_wp2;go_roundg (s.tn-i)
 ·exact⟨i+1,aq,aq,aQ,BX,⟨mD N.o TK.o⟩⟩
 omega
end Go.Proofs.YtpidckelbgbbkaaGreatDoor
