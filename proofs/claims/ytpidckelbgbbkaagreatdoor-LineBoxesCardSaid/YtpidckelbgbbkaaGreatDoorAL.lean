/- Part of LineBoxes. -/
import Derived.Test.YtpidckelbgbbkaaGreatDoorAH
import Derived.Test.YtpidckelbgbbkaaGreatDoorAJ
import Derived.Test.YtpidckelbgbbkaaGreatDoorAI
namespace Go.Proofs.YtpidckelbgbbkaaGreatDoor
open Go.ChangeShapes Go.WideShapes Go.ChangeAt Go.RowKit Go.Proofs.Tryz
open Go.Value renaming int → ae
open Go.IntKind renaming i64 → aj
set_option linter.all false
set_option maxRecDepth 100000
set_option maxHeartbeats 16000000
variable{B a c i m n:Nat}{w:World}{A R:aC}{xs:List eE}{s:cX}{p:jW}{Bg W ts:aE}{ps:List il}{G:Prop}
section
variable {P : Program} {ops : Array Oper} {Q : Exit -> Act -> World -> Prop}
structure Cj(T:List (Option Value))(S:Nat->Sat)(w2:World)(L:Nat->Bool)(bu:Nat->Value)(W:World):Prop where
 cI:∀k v,T[k]? =some (some v)->L k=true->bu k=v
 be:aA w2 W
 sat:∀k,T[k]? =some none->L k=true->(S k).p (bu k) W
variable {T : List (Option Value)} {S : Nat -> Sat} {w2 W W' : World} {L : Nat -> Bool} {bu : Nat -> Value}
theorem Cj.step(h:Cj T S w2 L bu W){i:Nat}{v:Value}(b:aA W W')(c:∀u,T[i]? =some (some u)->v=u)(d:T[i]? =some none->(S i).p v W'):Cj T S w2 (fun k=>k==i||L k) (nE bu i v) W':=by
 refine⟨fun k u a hk=> ?_,h.be.trans (b.mono h.be.size),fun k a hk=> ?_⟩
 ·by_cases nB:k=i
  ·subst nB;rw[qB];exact c u a
  ·rw[iY nB]
   have:(k==i)=false:=yE;exact h.cI k u a yz
 ·by_cases nB:k=i
  ·subst nB;rw[qB];exact d a
  ·rw[iY nB]
   have:(k==i)=false:=yE;exact(S k).st _ _ _ (h.sat k a yz) b
theorem Cj.call(h:Cj T S w2 L bu W){i:Nat}{v:Value}(b:T[i]? =some (some v))(c:aA W W'):Cj T S w2 (fun k=>k==i||L k) (nE bu i v) W':=
 h.step c (fun u a=>by rw[b]at a;injection a with a;injection a) (fun a=>by rw[b]at a;simp at a)
theorem Cj.pure(h:Cj T S w2 L bu W){i:Nat}{v:Value}(a:T[i]? =some (some v)):Cj T S w2 (fun k=>k==i||L k) (nE bu i v) W:=h.call a (Below.refl _ _)
theorem Cj.any(h:Cj T S w2 L bu W){i:Nat}{v:Value}(d:T[i]? =some none)(c:(S i).p v W')(b:aA W W'):Cj T S w2 (fun k=>k==i||L k) (nE bu i v) W':=
 h.step b (fun u a=>by rw[d]at a;simp at a) (fun _=>c)
theorem uO{q N k0:Nat}{a:Act}(T:List (Option Value))(S:Nat->Sat)(w2:World)(A:P.follows .mixedOrders=true)(s:fG ops=true)(p:ops.size=N+1)(r:gE ops N=true)(t:N<=m)(u:aA w2 w)
 (c:∀i o L bu W,i<N->ops[i]? =some o->L i=false->o.after.all (fun e=> !Region.binds .any e||L e.on)=true->JQ ops L->Cj T S w2 L bu W->∀b,b=dm a k0 m bu->∀K:Act->World->Prop,(∀v W',Cj T S w2 (fun k=>k==i||L k) (nE bu i v) W'->K (b.put (some (k0+i)) v) W')->wpOp P ops Q i K b W)
 (f:∀L bu W,(∀i,i<N->L i=true)->Cj T S w2 L bu W->∀b,b=dm a k0 m bu->wpOp P ops Q N (fun a w=>Q .normal a w) b W):(Code.region q ops true).wp P Q a w:=by
 refine jJ A s p r (fun L b W=>∃bu,Cj T S w2 L bu W/\b=dm a k0 m bu) ⟨fun k=>a.tmps.getD (k0+k) undef,⟨fun _ _ _ h=>gO,u.drew,fun _ _ h=>gO⟩, ?_⟩ ?_ ?_
 ·unfold dm
  rw[lC]
 ·rintro i o L b W y x l g j ⟨bu,n,ha⟩
  exact c i o L bu W y x l g j n b ha _ fun v W' z=>⟨_,z,Ph⟩
 ·rintro L b W d ⟨bu,n,ha⟩
  exact f L bu W d n b ha
end
theorem ade{G:Prop}(s:G:=by
 have aH:=h.lt;have h':w.heap[b]= .cells #[x0,x1,x2,x3,x4,x5] 50 (0,0):=by unfold jZ at h;simpa[Array.getElem?_eq_getElem aH]using h
 show(w.heap.modify b _)[b]? =_;rw[Array.getElem?_eq_getElem Ew,Array.getElem_modify_self,h'];rfl):G:=s
theorem jZ.QT{b:Nat}{x0 x1 x2 x3 x4 x5:Value}(h:jZ w b x0 x1 x2 x3 x4 x5)(v:Value):jZ (w.setCell ⟨b,0,none⟩ v) b v x1 x2 x3 x4 x5:=by
 exact ade
theorem jZ.N4{b:Nat}{x0 x1 x2 x3 x4 x5:Value}(h:jZ w b x0 x1 x2 x3 x4 x5)(v:Value):jZ (w.setCell ⟨b,1,none⟩ v) b x0 v x2 x3 x4 x5:=by
 exact ade
theorem aB.aa0{g size:Nat}{e:TypeId}{xs:List Value}(h:aB w B e size A n c xs)(m:bO A (some ⟨g,0,none⟩))(cs:Array Value):aB (w.setRow g cs) B e size A n c xs:=by
 refine⟨h.1, ?_⟩;rcases h.2 with l|⟨d,cap,cur,a,j,k,r⟩
 ·exact .inl l
 ·have i:d≠g:=fun e=>by
   injection a with a
   subst e;exact m d a rfl
  exact .inr ⟨d,cap,cur,a,j,by rw[setRow_other w g d cs i];exact k,r⟩
structure FV(w0 W:World)(g:Nat)(b:bP)(f t:Int)(G:aC)(gc:Nat):Prop where
 lN:jZ W g (ae aj f) (ae aj t) (ae aj b.lv) (ae aj b.x) (ae aj b.wd) (.slice G b.gs.length gc)
 own:gv W w0.heap.size G gc b.gs
 be:aA w0 W
 le:w0.heap.size<=g
section
variable {w0 W W' : World} {g : Nat} {b : bP} {f t : Int} {G : aC} {gc : Nat}
theorem FV.ar(h:FV w0 W g b f t G gc)(a:aA W W'):FV w0 W' g b f t G gc:=⟨h.lN.ar a h.lN.lt,h.own.ar a,h.be.trans (a.mono h.be.size),h.le⟩
theorem FV.QT(h:FV w0 W g b f t G gc)(y:Int):FV w0 (W.setCell ⟨g,0,none⟩ (ae aj y)) g b y t G gc:=⟨h.lN.QT _,aB.mE h.own (kt h.own h.lN bQ) _,Below.setCell h.be (p:=⟨g,0,none⟩) h.le _,h.le⟩
theorem FV.N4(h:FV w0 W g b f t G gc)(y:Int):FV w0 (W.setCell ⟨g,1,none⟩ (ae aj y)) g b f y G gc:=⟨h.lN.N4 _,aB.mE h.own (kt h.own h.lN bQ) _,Below.setCell h.be (p:=⟨g,1,none⟩) h.le _,h.le⟩
end
def ZGb(B:Nat)(g:bP):Sat:=⟨fun v w=>∃G gc,v= .agg #[ae aj g.f,ae aj g.t,ae aj g.lv,ae aj g.x,ae aj g.wd, .slice G g.gs.length gc]/\gv w B G gc g.gs,fun v w c ⟨G,gc,e,h⟩ a=>⟨G,gc,e,h.ar a⟩⟩
theorem ZGb.get{g:bP}{d c v2 v3 v4:Value}{G:aC}{gc:Nat}(h:(ZGb B g).p (.agg #[d,c,v2,v3,v4, .slice G m gc]) w):gv w B G gc g.gs:=by
 obtain⟨i,a,e,h⟩:=h;simp at e;obtain⟨_,_,_,_,_,rfl,_,rfl⟩:=e;exact h
theorem On(x:eE)(r:Rn)(T:aC)(tn c:Nat)(ts:aE)(w:World)(h:KK w T tn c ts x)(hl:Laid w):Calls prog 27 #[.slice T tn c, .agg x.row, .agg r.row] w (Cf w (fR ts x.q r.lv r.fo)):=by
 have iy:=h.gl;have htm:=h.tm;have hG:∀i,i<(eU (bY x.q.gs) x.q.gs.length).length->Zc ts x.q tn r.lv r.fo (eU (bY x.q.gs) x.q.gs.length) i:=fun i hi=>h.eU _ _ hi
 have q:=Fg (bY x.q.gs) x.q.gs.length;have Y:=vx (bY x.q.gs) x.q.gs.length;have Ci:(eU (bY x.q.gs) x.q.gs.length).length<=x.q.gs.length:=VL;have U:fR ts x.q r.lv r.fo=kP x.q r.lv++gY ts x.q r.lv r.fo (eU (bY x.q.gs) x.q.gs.length) (eU (bY x.q.gs) x.q.gs.length).length:=rfl;have JO:=h.tol;have abU:=h.cap;have Rl:=fun W (hx:Rx W W.heap.size 10 x.q.gs x.G x.q.gs.length)=>IM x.q.gs x.G x.q.gs.length x.gc W hx iy
 have TX:ak _:=⟨h.tx⟩;have LW:ak _:=⟨hl⟩;have RX:ak _:=⟨h.rx⟩;have cU:=h.cl;have dX:=h.ne;have htl:=h.tl;clear h hl;obtain⟨⟨F,H,qr,qw,qi,qb,gs⟩,G0,C,qe,P0,pn,pc⟩:=x;dsimp only[eE.row]at*;obtain⟨n,sj⟩:∃n,gs.length=n:=⟨_,rfl⟩;have JT:∀j,j<n->∃f:Nat,nth (bY gs) j=(f:Int)/\(fW gs j).length=10:=fun j hj=>⟨(nth (bY gs) j).toNat,by have:=cU j (by omega);omega,acR⟩
 have HD:ak (∃J:Nat,(n=0->J=H)/\(0<n->nth (bY gs) 0=(J:Int))/\kP ⟨F,H,qr,qw,qi,qb,gs⟩ r.lv=if F<J then[dv F J r.lv]else[]):=⟨by
  unfold kP;dsimp only;rcases Nat.eq_zero_or_pos n with X|X
  ·exact⟨H,fun _=>rfl,fun h=>by omega,by rw[if_pos (by omega),if_pos dX]⟩
  ·have:=cU 0 aq
   obtain⟨f,hf⟩:∃f:Nat,nth (bY gs) 0=(f:Int):=⟨(nth (bY gs) 0).toNat,aq⟩;refine⟨f,fun h=>by omega,fun _=>hf, ?_⟩;rw[if_neg aq,hf];split
   ·rename_i h;rw[if_pos aq]
   ·rename_i h;rw[if_neg aq]⟩
 rw[sj]at iy hG q Y Ci U JO Rl RX abU⊢;obtain⟨gr,hgr⟩:∃gr,eU (bY gs) n=gr:=⟨_,rfl⟩;rw[hgr]at hG q Y Ci U Rl;obtain⟨y,KF⟩:∃y,gr.length=y:=⟨_,rfl⟩;have I:ak _:=⟨KF⟩;have HGR:ak _:=⟨hG⟩;have su:ak _:=⟨Y⟩;rw[KF]at q Ci U;have CK:ak (∀j,j<n->nth (bY gs) j=nth (fW gs j) 1):=⟨fun j hj=>oW aq⟩;have HPS:ak _:=⟨U⟩;have RG:ak _:=⟨Rl⟩;have TO:ak _:=⟨JO⟩;have HQN:ak _:=⟨sj⟩;have HNE:ak _:=⟨dX⟩;generalize fR ts ⟨F,H,qr,qw,qi,qb,gs⟩ r.lv r.fo=L at*;generalize kP ⟨F,H,qr,qw,qi,qb,gs⟩ r.lv=M at*;generalize Yj:gY ts ⟨F,H,qr,qw,qi,qb,gs⟩ r.lv r.fo gr=R at*;clear hG Y U JO Rl cU JT hgr sj;obtain⟨W1,aP⟩:∃W1,W1=(w.alloc (.cells #[ae aj (F:Int),ae aj (H:Int),ae aj (qr:Int), .slice G0 n C,ae aj qw,ae aj qi,ae aj qe, .bool qb, .slice P0 pn pc] 63)).alloc (.cells r.row 58):=⟨_,rfl⟩;obtain⟨O,nd⟩:∃p,w.heap.size=p:=⟨_,rfl⟩;have X0:ak (Bx W1 O #[ae aj (F:Int),ae aj (H:Int),ae aj (qr:Int), .slice G0 n C,ae aj qw,ae aj qi,ae aj qe, .bool qb, .slice P0 pn pc]):=⟨Pg⟩;have X1:ak (Bx W1 (O+1) r.row):=⟨Pz⟩;have B1:ak (Below w.heap.size w W1):=⟨JH⟩;go_enter func27,ntmps27;go_upto_region 1 with fail;rw[<-aP];clear aP;have HP5:ak _:=⟨nd⟩;clear nd;have c3:W1.cell? ⟨O,3,none⟩=some (.slice G0 n C):=X0.o.cell 3;have RG1:ak _:=⟨RG.o W1 (RX.o.Z B1.o B1.o.size)⟩;go_wp2_with fail;refine RG1.o.mono ?_;rintro e l ⟨A,c2,e2,o2,b2⟩;rw[I.o]at e2;subst e2;have CT:ak (zv l l.heap.size gr A):=⟨zv.of o2⟩;have V:ak (Bx l O #[ae aj (F:Int),ae aj (H:Int),ae aj (qr:Int), .slice G0 n C,ae aj qw,ae aj qi,ae aj qe, .bool qb, .slice P0 pn pc]):=⟨X0.o.ar b2 X0.o.lt⟩;have Y1:ak (Bx l (O+1) r.row):=⟨X1.o.ar b2 X1.o.lt⟩;have N:ak (Below w.heap.size w l):=⟨B1.o.trans (b2.mono B1.o.size)⟩;clear o2 b2 RG1 RG X0 X1 B1 c3;obtain⟨y0,y1,_,y3,_⟩:=V.o.p9;obtain⟨_,_,z2,_⟩:=Y1.o.c6;obtain⟨J,Z,he1,hhs⟩:=HD.o;have SY:ak _:=⟨hhs⟩;clear hhs HD;go_upto_region 2 with fail;go_upto_if 21 with fail;go_cut [8] (fun v wx=>v=ae aj (J:Int)/\ak (Below l.heap.size l wx))
 ·
  rcases Nat.eq_zero_or_pos n with X|X
  ·have h7:¬0<n:=by omega
   have h8:decide (0<n)=false:=fC;have e:ak (J=H):=⟨Z X⟩;clear Z he1 X q;go_wp2;go_meet;exact⟨by rw[e.o],cB⟩
  ·have hgp:0<y:=q.2 X
   have Xb:=he1 X;have hn9:=aR 0 n;have hn8:=aR 0 y;obtain⟨ad,x0,x1,x2,x3,x4,x5,x6,x7,x8,x9,eG,Q,c0,c1,_⟩:=(RX.o.Z N.o N.o.size).Kk.ba X;have E:x1=(J:Int):=by rw[<-Xb,CK.o 0 X];rw[Nat.zero_add]at Q;rw[Q];rfl
   subst eG;rw[E,Nat.zero_mul,pK]at c1;obtain⟨ga,eA,_,k0,_⟩:=CT.o 0 (by rw[I.o];exact hgp);subst eA;rw[su.o X,Nat.zero_mul]at k0;have K0:=aw k0;have C1:=aw c1;have Y3:=aw y3;clear Q c0 E Xb c1 k0 Z he1 q y0 y1 y3 z2;go_upto_region 4 with fail;refine br aF aF ?_
   repeat(go_big_quiet_step (fail))
   refine wpQuiet_nil ?_;rintro _ ⟨D,rfl⟩;go_wp2;go_meet;exact⟨rfl,⟨D.2⟩⟩
 obtain⟨rfl,B3⟩:=hcut;have y0:wc.cell? ⟨O,0,none⟩=some (ae aj (F:Int)):=(V.o.ar B3.o V.o.lt).cell 0;have z2:wc.cell? ⟨O+1,2,none⟩=some (ae aj r.lv):=(Y1.o.ar B3.o Y1.o.lt).cell 2;go_upto_if 34 with fail;go_cut [9] (fun v8 wx=>∃(K:aC) (m c':Nat),v8= .slice K m c'/\m<=1/\ak (∃ps,kW wx l.heap.size K m c' M ps)/\ak (Below l.heap.size l wx))
 ·
  by_cases hq:F<J
  ·have HL:ak (M=[]++[dv F J r.lv]):=⟨by rw[SY.o,if_pos hq];rfl⟩
   have uK:=aR F J;have S0:ak _:=⟨kW.nil wc l.heap.size⟩;clear SY;go_upto_region 7 with fail;have OR:ak _:=⟨S0.o.row⟩;have Wo:=B3.o.size;go_wp2_with (at_builtin;refine bk rW rfl (.tmp 35) (.tmp 42) rfl rfl (aB.alloc OR.o _) rfl (news:=[ae aj F,ae aj J,ae aj r.lv,ae aj 0,ae aj 0, .slice none 0 0]) rfl (fh _ _ _ _ _ _ _ _ _ aD) VD aq ij ?_;intro A4 c4 w4 o4 b4 g4 _;have O4:ak _:=⟨o4⟩;have B4:ak _:=⟨b4⟩;have G4:ak _:=⟨g4⟩;clear o4 b4 g4);have S4:ak _:=⟨(S0.o.ar (av _ _)).push (dv F J r.lv,none,0) Hf G4.o (gv.nil _ _)⟩;have B5:ak _:=⟨(B3.o.alloc B3.o.size _).trans B4.o⟩;clear OR O4 B4 G4;go_meet;exact⟨A4,1,c4,rfl,aq,⟨_,Ht⟩,B5⟩
  ·have HL:ak (M=[]):=⟨by rw[SY.o,if_neg hq]⟩
   have uK:=cF F J;go_wp2;go_meet;exact⟨none,0,0,rfl,aq,⟨[],by rw[HL.o];exact kW.nil _ _⟩,B3⟩
 obtain⟨K,m,c',rfl,hm,SS,BB⟩:=hcut;obtain⟨ps0,S0⟩:=SS.o;have G0S:ak (M++R 0=M):=⟨by rw[<-Yj];exact List.append_nil _⟩;have SI0:ak (∃ps,kW wc l.heap.size K m c' (M++R 0) ps):=⟨ps0,by rw[G0S.o];exact S0⟩;have Y9:ak (∀i,i<y->∃a b f t:Nat,nk gr i=(a,b)/\a<b/\b<=n/\nth (bY gs) a=(f:Int)/\t<=tn/\
  R (i+1)=R i++(ib f (hU ts f t t:Nat) r.lv r.fo gs a b::if hU ts f t t<t then[dv (hU ts f t t:Nat) t r.lv]else[])/\
  (i+1<y->∃a2 b2:Nat,nk gr (i+1)=(a2,b2)/\a2<n/\nth (bY gs) a2=(t:Int))/\(¬i+1<y->t=H)):=⟨fun i hi=>by
  obtain⟨a,b,f,t,h1,h2,h3,h4,h5,h6,h7,h8⟩:=HGR.o i (by rw[I.o];exact hi);dsimp only at h3 h4 h7 h8;rw[I.o,HQN.o]at h7;rw[I.o]at h8;rw[HQN.o]at h3;exact⟨a,b,f,t,h1,h2,h3,h4,h5,by rw[<-Yj];exact h6,h7,h8⟩⟩
 clear S0 SS G0S HGR Yj y0 z2 SY y1 y3 B3;go_wp2;go_loopg [9,10,11,12,13,46] (y+1) (fun gg v9 _ _ _ _ v46 wr=>∃(i:Nat) (K:aC) (m c':Nat),y-i<gg/\i<=y/\m<=2*i+1/\v9= .slice K m c'/\v46=ae aj (i:Int)/\ak (∃ps,kW wr l.heap.size K m c' (M++R i) ps)/\ak (Below l.heap.size l wr))
 ·exact⟨0,K,m,c',aq,aq,aq,rfl,rfl,SI0,BB⟩
 clear SI0 BB hm;obtain⟨i,K,m,c',hg,hi,hm,rfl,rfl,SS,BE⟩:=hrel;by_cases aH:i<y;rotate_left
 ·have i4:=cF i y
  obtain rfl:i=y:=aq;have HW:ak (Cf w L (.returned (.slice K m c')) wr):=⟨by
   obtain⟨ps,S⟩:=SS.o;rw[HPS.o];exact S.done N.o.size (N.o.trans (BE.o.mono N.o.size))⟩
  go_wp2;go_ret;exact HW.o
 have i4:=aR i y;have aa9:0<n:=q.1 aq;obtain⟨a,b,f,t,yL,iN,yJ,ZF,fJ,hGi,XV,Wq⟩:=Y9.o i aH;obtain⟨ps,S⟩:=SS.o;have SO:ak _:=⟨S⟩;have Tf:ak _:=⟨hGi⟩;have HNX:ak _:=⟨XV⟩;have HNL:ak _:=⟨Wq⟩;have HCF:ak _:=⟨ZF⟩;have gI:ak (y-i<gk):=⟨hg⟩;have BW:ak (Below w.heap.size w wr):=⟨N.o.trans (BE.o.mono N.o.size)⟩;obtain⟨ga,eA,WX,k0,k1⟩:=(CT.o.ar BE.o) i (by rw[I.o];exact aH);subst eA;rw[yL]at k0 k1;dsimp only at k0 k1;obtain⟨ad,eG,_⟩:=RX.o.2.2 aa9;subst eG;clear SS S hGi hg yL XV Wq ZF q Z he1 aa9;obtain⟨z,qY⟩:∃z,z=(wr:World).alloc (.cells #[ae aj (a:Int),ae aj (b:Int)] 60):=⟨_,rfl⟩;have BR3:ak (Below wr.heap.size wr z):=⟨Pl⟩;have X3:ak (Bx z wr.heap.size #[ae aj (a:Int),ae aj (b:Int)]):=⟨OJ⟩;go_upto_region 11 with fail;rw[<-qY];clear qY k0 k1;obtain⟨A2,g2,CR⟩:=nt mf (some ad) n C a b aq yJ abU (a:Int) (b:Int) rfl rfl;have fe:=CR.run;obtain⟨k,hk⟩:∃k,b-a=k:=⟨_,rfl⟩;have HK:ak (a+k=b):=⟨aq⟩;rw[hk]at CR fe;have Gr:ak (Below w.heap.size w z):=⟨BW.o.trans (BR3.o.mono BW.o.size)⟩;have u:ak (Below l.heap.size l z):=⟨BE.o.trans (BR3.o.mono BE.o.size)⟩;obtain⟨g,hgE⟩:∃g:bP,ib 0 0 r.lv r.fo gs a b=g:=⟨_,rfl⟩;have GC:ak (∀D:aI z,Calls prog 64 #[.slice A2 k g2,ae aj (a:Int), .agg r.row] D.1 (PGb D.1 g)):=⟨fun D=>by
  have hx:=((RX.o.Z Gr.o Gr.o.size).Z D.2 D.2.size).Kk;have pA:=CR.Kk hx aq;rw[Nat.zero_add]at pA;have:=Lo gs A2 k g2 a r D.1 pA aq aq (fun j hj=>by have:=TO.o (a+j) (by omega);rwa [Nat.zero_add]at this);rw[HK.o,hgE]at this;exact this⟩
 have y3:z.cell? ⟨O,3,none⟩=some (.slice (some ad) n C):=(V.o.ar u.o V.o.lt).cell 3;have Y3:=aw y3;have k0:z.cell? ⟨wr.heap.size,0,none⟩=some (ae aj (a:Int)):=X3.o.cell 0;have k1:z.cell? ⟨wr.heap.size,1,none⟩=some (ae aj (b:Int)):=X3.o.cell 1;have K0:=aw k0;have K1:=aw k1;obtain⟨z0,z1,z2,z3,z4,z5⟩:=(Y1.o.ar u.o Y1.o.lt).c6;have Z0:=aw z0;have Z1:=aw z1;have Z2:=aw z2;have Z3:=aw z3;have Z4:=aw z4;have Z5:=aw z5
 clear CR y3 k0 k1 z0 z1 z2 z3 z4 z5;have HGE:ak _:=⟨hgE⟩;clear hgE;have SP:ak (∀W,Below wr.heap.size wr W->kW W l.heap.size K m c' (M++R i) ps):=⟨fun W h=>SO.o.ar h⟩;have hgw:l.heap.size<=wr.heap.size:=BE.o.size;have AP:ak (∀g,wr.heap.size<=g->bO K (some ⟨g,0,none⟩)):=⟨fun g hg=>aB.jy SO.o.row hg⟩;have HA:ak (K=none∨∃g,K=some ⟨g,0,none⟩):=⟨aB.dN SO.o.row⟩;generalize uJ:wr.heap.size=gq at*;have XM:ak _:=⟨uJ⟩;clear uJ;refine aT (fun d=>if d=some 61 then some (ZGb z.heap.size g)else if d=some 12 then some (ZT z.heap.size #[ae aj 0,ae aj 0,ae aj 0,ae aj 0,ae aj 0, .slice none 0 0] 50)else none) 12 rfl aF aF aF aF aF rfl ?_
 repeat(refine bR aK aK aK ?_;intro K9 cg;go_big_quiet_op;go_big_quiet_on)
 refine cG (ZGb z.heap.size g) aK aK (fun w9 cv=> ?_) (fun v9 aV=> ?_)
 ·obtain⟨D,rfl⟩:=cv
  go_simp;refine aW (ZGb z.heap.size g) ((GC.o D).mono ?_);rintro e w5 ⟨G,o,rfl,og,hb⟩;exact⟨_,rfl,⟨G,o,rfl,aB.dU og D.2.size⟩,hb⟩
 obtain⟨_,_,G,o,rfl,_⟩:=aV;simp[Act.put];refine cG (ZT z.heap.size #[ae aj 0,ae aj 0,ae aj 0,ae aj 0,ae aj 0, .slice none 0 0] 50) aK aK (fun w9 cv=> ?_) (fun v9 aV=> ?_)
 ·obtain⟨D,rfl⟩:=cv
  go_simp;exact ye D _ _
 obtain⟨_,_,P,rfl,q,_⟩:=aV;simp[Act.put];intro D hE;have hp:=ZGb.get hE.1;have hx:=ZT.get hE.2;clear hE GC Y3 K0 K1 Z0 Z1 Z2 Z3 Z4 Z5 fe;refine wp_store_row 50 (.tmp 12) (.tmp 61) rfl P _ rfl rfl 50 _ hx aF rfl dK ?_;have Q5:ak (FV z (D.1.setRow P #[ae aj g.f,ae aj g.t,ae aj g.lv,ae aj g.x,ae aj g.wd, .slice G g.gs.length o]) P g g.f g.t G o):=⟨⟨hx.row _,aB.aa0 hp (hx.apart hp bQ) _,below_setRow D.2 q _,q⟩⟩;generalize D.1.setRow P #[ae aj g.f,ae aj g.t,ae aj g.lv,ae aj g.x,ae aj g.wd, .slice G g.gs.length o]=w5 at*;clear hx hp q;have B5:ak (Below l.heap.size l w5):=⟨u.o.trans (Q5.o.be.mono u.o.size)⟩;have Bw:ak (Below w.heap.size w w5):=⟨N.o.trans (B5.o.mono N.o.size)⟩;have X5:ak (Bx w5 gq _):=⟨X3.o.ar Q5.o.be X3.o.lt⟩;have k0:w5.cell? ⟨gq,0,none⟩=some (ae aj (a:Int)):=X5.o.cell 0;have y3:w5.cell? ⟨O,3,none⟩=some (.slice (some ad) n C):=(V.o.ar B5.o V.o.lt).cell 3;have y1:w5.cell? ⟨O,1,none⟩=some (ae aj (H:Int)):=(V.o.ar B5.o V.o.lt).cell 1;obtain⟨gS,x0,x1,x2,x3,x4,x5,x6,x7,x8,x9,eG,s,c0,c1,_⟩:=(RX.o.Z Bw.o Bw.o.size).Kk.ba (show a<n by omega);obtain rfl:ad=gS:=by injection eG
 have E:x1=(f:Int):=by rw[<-HCF.o,CK.o a (by omega)];rw[Nat.zero_add]at s;rw[s];rfl
 rw[E]at c1;have a4:=aR a n;obtain⟨_,_,_,_,_,_⟩:=Q5.o.lN.cs;have f0:=Q5.o.lN.f 0;have f1:=(Q5.o.QT (f:Int)).lN.f 1;have Q6:ak _:=⟨(Q5.o.QT (f:Int)).N4 (H:Int)⟩;clear s c0 E eG
 try dsimp only
 try simp only[Act.put]
 go_upto_region 12 with fail;go_cut [12] (fun v wx=>v= .pointer (some ⟨P,0,none⟩)/\ak (FV z wx P g (f:Int) (H:Int) G o))
 ·
  go_region
  all_goals go_wp2_with fail
  all_goals go_meet
  all_goals exact⟨rfl,⟨Q6.o.ar (bL (Below.refl _ _))⟩⟩
 obtain⟨rfl,Q7⟩:=hcut;clear Q5 Q6 f0 f1 c1 y1 y3 k0 X5 B5 Bw;go_upto_if 77 with fail;go_cut [12] (fun v wx=>v= .pointer (some ⟨P,0,none⟩)/\ak (FV z wx P g (f:Int) (t:Int) G o))
 ·
  by_cases h1:i+1<y
  ·obtain⟨a2,b2',uh,IE,lI⟩:=HNX.o h1
   obtain⟨j,hj⟩:∃j,i+1=j:=⟨_,rfl⟩;rw[hj]at h1 uh;have pe:(i:Int)+1=(j:Int):=aq;have h4:=aR j y;have B7:ak (Below l.heap.size l wc):=⟨u.o.trans (Q7.o.be.mono u.o.size)⟩;have B7w:ak (Below w.heap.size w wc):=⟨N.o.trans (B7.o.mono N.o.size)⟩;obtain⟨ga',eA,_,k2,_⟩:=(CT.o.ar B7.o) j (by rw[I.o];exact h1);obtain rfl:ga=ga':=by injection eA with eA;injection eA
   rw[uh]at k2;dsimp only at k2;obtain⟨gS,x0,x1,x2,x3,x4,x5,x6,x7,x8,x9,eG,s,c0,c1,_⟩:=(RX.o.Z B7w.o B7w.o.size).Kk.ba IE;obtain rfl:ad=gS:=(by injection eG);have E:x1=(t:Int):=by rw[<-lI,CK.o a2 IE];rw[Nat.zero_add]at s;rw[s];rfl
   rw[E]at c1;have a24:=aR a2 n;have y3:wc.cell? ⟨O,3,none⟩=some (.slice (some ad) n C):=(V.o.ar B7.o V.o.lt).cell 3;obtain⟨_,_,_,_,_,_⟩:=Q7.o.lN.cs;have f1:=Q7.o.lN.f 1;have Q8:ak _:=⟨Q7.o.N4 (t:Int)⟩;clear s c0 E eG eA lI;go_upto_region 14 with fail;go_region
   all_goals go_wp2_with fail
   all_goals go_meet
   all_goals exact⟨rfl,⟨Q8.o.ar (bL (Below.refl _ _))⟩⟩
  ·have e:ak (t=H):=⟨HNL.o h1⟩
   have h3:¬(i:Int)+1<(y:Int):=aq;go_wp2;go_meet;exact⟨rfl,by rw[e.o];exact Q7⟩
 obtain⟨rfl,Q8⟩:=hcut;have B8:ak (Below l.heap.size l wc):=⟨u.o.trans (Q8.o.be.mono u.o.size)⟩;have B8w:ak (Below w.heap.size w wc):=⟨N.o.trans (B8.o.mono N.o.size)⟩;have EC:ak _:=⟨fun W (hb:Below wc.heap.size wc W)=>Kl T tn c ts f t W ((TX.o.ar B8w.o).ar hb) ((LW.o.ar B8w.o).ar hb) htm fJ⟩;obtain⟨e,he⟩:∃e,hU ts f t t=e:=⟨_,rfl⟩;rw[he]at Tf;have EC2:ak (∀W (hb:Below wc.heap.size wc W),Calls prog 65 #[.slice T tn c,ae aj (f:Int),ae aj (t:Int)] W fun e' w'=>e'= .returned (ae aj (e:Int))/\Below W.heap.size W w'):=⟨fun W hb=>by rw[<-he];exact EC.o W hb⟩;have het:e<=t:=by rw[<-he];exact sW _ _ _ _
 obtain⟨s0,s1,s2,s3,s4,s5⟩:=Q8.o.lN.cs;have EC3:ak _:=⟨EC2.o wc (Below.refl _ _)⟩;clear he EC EC2;go_wp2_with fail;refine EC3.o.mono ?_;rintro e6 w6 ⟨rfl,b6⟩;have Q9:ak _:=⟨Q8.o.ar b6⟩;have f1:=Q9.o.lN.f 1;obtain⟨r0,r1,r2,r3,r4,r5⟩:=Q9.o.lN.cs;have B:ak _:=⟨Q9.o.N4 (e:Int)⟩;clear s0 s1 s2 s3 s4 s5 b6 EC3 Q8;go_upto_region 17 with fail;obtain⟨w7,IJ⟩:∃w7,w6.setCell ⟨P,1,none⟩ (ae aj (e:Int))=w7:=⟨_,rfl⟩;rw[IJ]at B⊢;clear IJ Q9 f1 r0 r1 r2 r3 r4 r5;obtain⟨r0,r1,r2,r3,r4,r5⟩:=B.o.lN.cs;have pR:gq<=z.heap.size:=by have:=BR3.o.size;have:=XM.o;omega
 have S7:ak _:=⟨SP.o w7 (BR3.o.trans (B.o.be.mono pR))⟩;have B7:ak (Below l.heap.size l w7):=⟨u.o.trans (B.o.be.mono u.o.size)⟩;have hbg:=B.o.le;have AP7:ak _:=⟨AP.o P aq⟩;have X7:ak (Bx w7 P _):=⟨⟨_,B.o.lN⟩⟩;have OG:ak (gv w7 l.heap.size G o g.gs):=⟨aB.dU B.o.own aq⟩;have OR:ak _:=⟨S7.o.row⟩;have Wo:=B7.o.size;have HPC:ak (jD (({g with f:=(f:Int),t:=(e:Int)}:bP),G,o)=[ae aj (f:Int),ae aj (e:Int),ae aj g.lv,ae aj g.x,ae aj g.wd, .slice G g.gs.length o]):=⟨rfl⟩;clear B8 B8w hbg pR;go_upto_region 18 with(at_builtin;refine bk rW rfl (.tmp 98) (.tmp 100) rfl rfl (aB.alloc OR.o _) rfl (news:=[ae aj (f:Int),ae aj (e:Int),ae aj g.lv,ae aj g.x,ae aj g.wd, .slice G g.gs.length o]) rfl (fh _ _ _ _ _ _ _ _ _ aD) (by rw[<-HPC.o];exact iH _) aq ij ?_;intro A4 c4 w4 o4 b4 g4 _;have O4:ak _:=⟨o4⟩;have B4:ak _:=⟨b4⟩;have G4:ak _:=⟨g4⟩;have x4:=((X7.o.ar (av _ _) X7.o.lt).kept g4 AP7.o HA.o).cell 1;clear o4 b4 g4)
 have S8:ak (kW w4 l.heap.size A4 (m+1) c4 (M++R i++[({g with f:=(f:Int),t:=(e:Int)}:bP)]) _):=⟨(S7.o.ar (av _ _)).push ({g with f:=(f:Int),t:=(e:Int)},G,o) (by rw[HPC.o];exact O4.o) G4.o (aB.alloc OG.o _)⟩;have B9:ak (Below l.heap.size l w4):=⟨(B7.o.alloc Wo _).trans B4.o⟩;have x5:w4.cell? ⟨P,1,none⟩=some (ae aj (e:Int)):=x4;have hgg:ak (ib (f:Int) (e:Int) r.lv r.fo gs a b={g with f:=(f:Int),t:=(e:Int)}):=⟨by rw[<-HGE.o];rfl⟩;have z2:w4.cell? ⟨O+1,2,none⟩=some (ae aj r.lv):=(Y1.o.ar B9.o Y1.o.lt).cell 2;clear r0 r1 r2 r3 r4 r5 x4 O4 B4 G4 OR OG X7 AP7 HPC Wo B7 S7 B;rw[hgg.o]at Tf;generalize({g with f:=(f:Int),t:=(e:Int)}:bP)=g1 at*;by_cases hq:e<t
 ·have HL:ak (M++R (i+1)=M++R i++[g1]++[dv e t r.lv]):=⟨by rw[Tf.o,if_pos hq];simp⟩
  have uK:=aR e t;go_upto_region 19 with fail;have OR:ak _:=⟨S8.o.row⟩;have Wo:=B9.o.size;go_wp2_with (at_builtin;refine bk rW rfl (.tmp 106) (.tmp 113) rfl rfl (aB.alloc OR.o _) rfl (news:=[ae aj e,ae aj t,ae aj r.lv,ae aj 0,ae aj 0, .slice none 0 0]) rfl (fh _ _ _ _ _ _ _ _ _ aD) VD aq ij ?_;intro A4 c4 w4 o4 b4 g4 _;have O4:ak _:=⟨o4⟩;have B4:ak _:=⟨b4⟩;have G4:ak _:=⟨g4⟩;clear o4 b4 g4);have S4:ak _:=⟨(S8.o.ar (av _ _)).push (dv e t r.lv,none,0) Hf G4.o (gv.nil _ _)⟩;have B5:ak _:=⟨(B9.o.alloc B9.o.size _).trans B4.o⟩;clear OR O4 B4 G4;go_roundg (y-i)
  case measure=>have:=gI.o;omega
  case rel=>exact⟨i+1,A4,m+1+1,c4,aq,aq,aq,rfl,aQ,⟨_,Ht⟩,B5⟩
 ·have HL:ak (M++R (i+1)=M++R i++[g1]):=⟨by rw[Tf.o,if_neg hq];simp⟩
  have uK:=cF e t;go_wp2;go_roundg (y-i)
  case measure=>have:=gI.o;omega
  case rel=>exact⟨i+1,A4,m+1,c4,aq,aq,aq,rfl,aQ,⟨_,by rw[HL.o];exact S8.o⟩,B9⟩
structure Qs(w:World)(s:cX)(p:jW)(ts:aE)(l:List (Int×Int))(xs:List eE)(A:aC)(m c:Nat)(rs:List aE)(R:aC)(rm:Nat):Prop where
 tx:aL .i32 w p.T p.tn p.tc ts
 tn:p.tn<=100000
 px:qO w w.heap.size xs 0 m A
 mc:m<=c
 ml:m<=900
 xl:xs.length=m
 rx:Rx w w.heap.size 6 rs R rm
 ql:∀j,j<m->KK w p.T p.tn p.tc ts (oO xs j)
 rn:∀j,j<m->(oO xs j).q.run<rm
 tb:WO w w.heap.size l p.B
 tl:l.length=p.bn
 bl:p.bn<=1000
 sd:Dy (qs xs)
theorem Qs.gs{l:List (Int×Int)}{b:List aE}(h:Qs w s p ts l xs A m c b R a):Ic xs:=fun i d=>(h.ql i (by rw[<-h.xl];exact d)).gl
def W7(a:List aE):List (Int×Int):=a.map fun r=>(nth r 2,nth r 4)
def uY(s:cX)(ts:aE)(l:List (Int×Int))(a:List aE)(xs:List eE)(m i:Nat):List bP×Nat:=kB ts (W7 a) (fE (kr ts (qs xs) m)) (fv l s.ev (fE (kr ts (qs xs) m)) (qH (kr ts (qs xs) m)) (kr ts (qs xs) m).length).1 (qs xs) i
theorem zp{ts:aE}{ps:List il}{n:Nat}:∀m a,∀x∈fI ts ps n m a,-9223372036854775808<=x.1/\x.1<=9223372036854775807
 |0,a,x,h=>by simp[fI]at h
 |m+1,a,x,h=>by
  unfold fI at h;split at h
  ·rcases List.mem_cons.1 h with rfl|h
   ·show _<=wrap64 _/\wrap64 _<=_;unfold wrap64;omega
   ·exact zp m _ x h
  ·obtain rfl:=List.mem_singleton.1 h
   show _<=wrap64 _/\wrap64 _<=_;unfold wrap64;omega
theorem Ha{k:Nat}(h:i<(kr ts ps k).length): -9223372036854775808<=nth (fE (kr ts ps k)) i/\nth (fE (kr ts ps k)) i<=9223372036854775807:=by
 have e:nth (fE (kr ts ps k)) i=(kr ts ps k)[i].1:=by simp[fE,nth,h]
 rw[e];exact zp _ _ _ (List.getElem_mem h)
theorem rE(ts:aE)(q:il)(lv b:Int)(a:List (Nat×Nat)):∀i,(gY ts q lv b a i).length<=2*i
 |0=>Nat.le_refl _
 |i+1=>by
  have:=rE ts q lv b a i;have c:(vB ts q lv b a i).length<=2:=by
   unfold vB;simp only[List.length_cons];split<;>simp
  show(gY ts q lv b a i++vB ts q lv b a i).length<=_;rw[List.length_append];omega
theorem ua(ts:aE)(q:il)(lv a:Int):(fR ts q lv a).length<=2*q.gs.length+1:=by
 have c:=rE ts q lv a (eU (bY q.gs) q.gs.length) (eU (bY q.gs) q.gs.length).length;have d:(eU (bY q.gs) q.gs.length).length<=q.gs.length:=VL;have b:(kP q lv).length<=1:=by
  unfold kP;split
  ·simp
  ·split<;>simp
 unfold fR;rw[List.length_append];omega
theorem mF{rn:List (Int×Int)}(h:(dH ps i).gQ=true):kB ts rn W Bg ps (i+1)=((kB ts rn W Bg ps i).1++[⟨(dH ps i).f,(dH ps i).t,(rn.getD (dH ps i).run (0,0)).1,0,if(kB ts rn W Bg ps i).2+1<Bg.length then wrap64 (wrap64 (nth Bg ((kB ts rn W Bg ps i).2+1)-nth Bg (kB ts rn W Bg ps i).2)-nth W (kB ts rn W Bg ps i).2)else 0,[]⟩],(kB ts rn W Bg ps i).2+1):=by
 rw[kB];exact if_pos h
theorem oR{rn:List (Int×Int)}(h:(dH ps i).gQ=false):kB ts rn W Bg ps (i+1)=((kB ts rn W Bg ps i).1++fR ts (dH ps i) (rn.getD (dH ps i).run (0,0)).1 (rn.getD (dH ps i).run (0,0)).2,(kB ts rn W Bg ps i).2):=by
 rw[kB];exact if_neg (by simp[h])
theorem pg{ts:aE}{rn:List (Int×Int)}{W Bg:aE}{ps:List il}{g:Nat}(a:∀i,(dH ps i).gs.length<=g):∀i,(kB ts rn W Bg ps i).1.length<=i*(2*g+1)
 |0=>by simp[kB]
 |i+1=>by
  have ih:=pg (ts:=ts) (rn:=rn) (W:=W) (Bg:=Bg) a i;have d:(i+1)*(2*g+1)=i*(2*g+1)+(2*g+1):=by rw[Nat.add_mul,Nat.one_mul]
  cases h:(dH ps i).gQ
  ·rw[oR h]
   have b:=ua ts (dH ps i) (rn.getD (dH ps i).run (0,0)).1 (rn.getD (dH ps i).run (0,0)).2;have c:=a i;simp only[List.length_append];omega
  ·rw[mF h]
   simp only[List.length_append,List.length_singleton];omega
theorem NG{a:List aE}(h:Rx w B 6 a R n){j:Nat}(r:j<n):∃(b:Addr) (y:Rn),R=some b/\b.block<B/\(W7 a).getD j (0,0)=(y.lv,y.fo)/\∀q u,y.row[q]? =some u->w.cell? ((b.add (j*6)).add q)=some u:=by
 obtain⟨b,e,x,_,v⟩:=h.at_ r;obtain⟨m,o,z,_⟩:=h.2.2 aq;obtain rfl:b=m:=by rw[e]at o;injection o
 have t:j<a.length:=by rw[h.1];exact r
 obtain⟨f,d,l,g,i,c,p⟩:∃f d l g i c:Int,fW a j=[f,d,l,g,i,c]:=by
  match fW a j,x with
  |[f,d,l,g,i,c],_=>exact⟨f,d,l,g,i,c,rfl⟩
 refine⟨b,⟨f,d,l,g,i,c⟩,e,z, ?_,fun q u s=> ?_⟩
 ·have:(W7 a).getD j (0,0)=(nth (fW a j) 2,nth (fW a j) 4):=by simp[W7,fW,t]
  rw[this,p];rfl
 ·have k:q<6:=(Array.getElem?_eq_some_iff.1 s).1
  rw[v q k,p,<-s]
  match q,k with
  |0,_=>rfl
  |1,_=>rfl
  |2,_=>rfl
  |3,_=>rfl
  |4,_=>rfl
  |5,_=>rfl
def Ui(n:Nat)(b:bP):Prop:=0<=b.f/\0<=b.t/\b.t<=n/\b.gs.length<=100000
theorem ZU{T:aC}{g:Nat}{x:eE}(h:KK w T g c ts x)(lv e:Int):∀b∈fR ts x.q lv e,Ui g b:=by
 intro b d;have j:=h.tl;rcases List.mem_append.1 d with d|d
 ·unfold kP at d
  split at d
  ·obtain rfl:=List.mem_singleton.1 d
   exact⟨by show(0:Int)<=(x.q.f:Int);omega,by show(0:Int)<=(x.q.t:Int);omega,by show(x.q.t:Int)<=_;omega,Nat.zero_le _⟩
  ·split at d
   ·obtain rfl:=List.mem_singleton.1 d
    have:=h.cl 0 aq;exact⟨by show(0:Int)<=(x.q.f:Int);omega,by show(0:Int)<=nth (bY x.q.gs) 0;omega,by show nth (bY x.q.gs) 0<=_;omega,Nat.zero_le _⟩
   ·cases d
 ·have key:∀i,i<=(eU (bY x.q.gs) x.q.gs.length).length->∀b∈gY ts x.q lv e (eU (bY x.q.gs) x.q.gs.length) i,Ui g b:=by
   intro i
   induction i with
   |zero=>intro _ b d;cases d
   |succ i ih=>
    intro p b d;obtain⟨a,n,f,t,_,_,o,_,m,l,_⟩:=h.eU lv e (i:=i) aq;have k:=h.gl;have q:=sW ts f t t;rw[l]at d;rcases List.mem_append.1 d with d|d
    ·exact ih aq b d
    ·rcases List.mem_cons.1 d with rfl|d
     ·exact⟨by show(0:Int)<=(f:Int);omega,by show(0:Int)<=((hU ts f t t:Nat):Int);omega,by show((hU ts f t t:Nat):Int)<=_;omega,by simp only[ib,List.length_map,List.length_range];omega⟩
     ·split at d
      ·obtain rfl:=List.mem_singleton.1 d
       exact⟨by show(0:Int)<=((hU ts f t t:Nat):Int);omega,by show(0:Int)<=(t:Int);omega,by show(t:Int)<=_;omega,Nat.zero_le _⟩
      ·cases d
  exact key _ cr b d
theorem Qs.bw{l:List (Int×Int)}{d:List aE}(h:Qs w s p ts l xs A m c d R n):∀i,i<=m->∀b∈(uY s ts l d xs m i).1,Ui p.tn b:=by
 intro i;have k:=h.xl
 induction i with
 |zero=>intro _ b a;cases a
 |succ i ih=>
  intro o b a;have g:=h.ql i aq;have j:=g.tl;have e:dH (qs xs) i=(oO xs i).q:=nR aq;unfold uY at a ih;cases f:(oO xs i).q.gQ
  ·rw[oR (by rw[e];exact f),e]at a
   rcases List.mem_append.1 a with a|a
   ·exact ih aq b a
   ·exact ZU g _ _ b a
  ·rw[mF (by rw[e];exact f),e]at a
   rcases List.mem_append.1 a with a|a
   ·exact ih aq b a
   ·obtain rfl:=List.mem_singleton.1 a
    exact⟨by show(0:Int)<=((oO xs i).q.f:Int);omega,by show(0:Int)<=((oO xs i).q.t:Int);omega,by show((oO xs i).q.t:Int)<=_;omega,Nat.zero_le _⟩
theorem xC(ts:aE)(a:Nat):∀t,a<=t->(jU ts a t=a↔∀j,a<=j->j<t->(aZ (nth ts j)).word=7)
 |0,h=>by
  obtain rfl:a=0:=aq;exact⟨fun _ j _ h=>absurd h aq,fun _=>rfl⟩
 |t+1,h=>by
  have hle:=Ks ts a t;unfold jU;by_cases f:a<t+1
  ·by_cases c:(aZ (nth ts t)).word=7
   ·rw[if_pos ⟨f,c⟩,xC ts a t aq]
    refine⟨fun k j b d=> ?_,fun k j b d=>k j b aq⟩;rcases Nat.lt_or_ge j t with e|e
    ·exact k j b e
    ·obtain rfl:j=t:=by omega
     exact c
   ·rw[if_neg (fun k=>c k.2)]
    exact⟨fun k=>absurd k aq,fun k=>absurd (k t aq aq) c⟩
  ·rw[if_neg (fun k=>f k.1)]
   exact⟨fun _ j b d=>absurd d aq,fun _=>by omega⟩
def Fs(ts:aE)(f t:Nat):Bool:=decide (f<t/\jU ts f t=f)
def Oo(ts:aE)(b:bP):Bool:=Fs ts b.f.toNat b.t.toNat
def dS(ts:aE)(a:List bP):Nat->Nat
 |0=>0
 |n+1=>if Oo ts (bN a n)=true then dS ts a n else n+1
theorem vF{a:List bP}(h:Oo ts (bN a n)=true):dS ts a (n+1)=dS ts a n:=if_pos h
theorem Af{a:List bP}(h:Oo ts (bN a n)=false):dS ts a (n+1)=n+1:=if_neg (by rw[h];simp)
theorem Uy(A:aC)(n c:Nat)(ts:aE)(f t:Nat)(lv x C:Int)(G:aC)(u s:Nat)(w:World)(h:aL .i32 w A n c ts)(ht:t<=n)(hn:n<=100000):Calls prog 36 #[.slice A n c, .agg #[ae aj (f:Int),ae aj (t:Int),ae aj lv,ae aj x,ae aj C, .slice G u s]] w (PWh w (Fs ts f t)):=by
 have R:=sH h;obtain⟨i,aP⟩:=eX (w.alloc (.cells #[ae aj (f:Int),ae aj (t:Int),ae aj lv,ae aj x,ae aj C, .slice G u s] 50));obtain⟨m,a⟩:∃p,w.heap.size=p:=⟨_,rfl⟩;have J:ak (aA w i):=⟨lY⟩;have d:ak (Bx i m #[ae aj (f:Int),ae aj (t:Int),ae aj lv,ae aj x,ae aj C, .slice G u s]):=⟨by rw[aP,<-a];exact Bx.new _ _ _⟩;go_enter func36,ntmps36;go_upto_region 1 with fail;rw[<-aP];clear aP;have X:=sH a;have L:i.cell? ⟨m,0,none⟩=some (ae aj (f:Int)):=d.o.cell 0;go_wp2;go_loopg [5] (t+1) (fun gg v wr=>∃(k:Nat),t-k<gg/\f<=k/\(k<=t∨k=f)/\v=ae aj (k:Int)/\ak (∀j,f<=j->j<k->(aZ (nth ts j)).word=7)/\ak (aA i wr))
 ·exact⟨f,aq,aq, .inr rfl,rfl,⟨fun j r g=>absurd g aq⟩,cB⟩
 obtain⟨k,hg,P,U,rfl,H,o⟩:=hrel;have l:=J.t o.o;have L:wr.cell? ⟨m,0,none⟩=some (ae aj (f:Int)):=(d.o.ar o.o d.o.lt).cell 0;have W:wr.cell? ⟨m,1,none⟩=some (ae aj (t:Int)):=(d.o.ar o.o d.o.lt).cell 1;by_cases B:k<t;rotate_left
 ·have K:=cF k t
  by_cases e:f<t
  ·have V:=aR f t
   have E:ak (Fs ts f t=true):=⟨by
    unfold Fs;rw[decide_eq_true_eq];exact⟨e,(xC ts f t aq).2 fun j r g=>H.o j r aq⟩⟩
   go_wp2;go_ret;exact⟨by rw[E.o];try simp,l.o⟩
  ·have V:=cF f t
   have E:ak (Fs ts f t=false):=⟨by
    unfold Fs;rw[decide_eq_false_iff_not];exact fun h=>e h.1⟩
   go_wp2;go_ret;exact⟨by rw[E.o];try simp,l.o⟩
 have K:=aR k t;have k0:=jB k;have Z:=aR k n;obtain⟨ad,rfl,e0⟩:=(R.o.ar l.o).ce (show k<n by omega);obtain⟨D,y⟩:=bounds_i32 (R.o.dF (show k<n by omega));have T:=sH (eZ (nth ts k) D y wr);have Q:ak ((aZ (nth ts k)).word=7->∀j,f<=j->j<k+1->(aZ (nth ts j)).word=7):=⟨fun h j r g=>by
  rcases Nat.lt_or_ge j k with I|I
  ·exact H.o j r I
  ·obtain rfl:j=k:=by omega
   exact h⟩
 have O:ak (¬(aZ (nth ts k)).word=7->Fs ts f t=false):=⟨fun h=>by
  unfold Fs;rw[decide_eq_false_iff_not];exact fun g=>h ((xC ts f t aq).1 g.2 k P B)⟩
 generalize nth ts k=z at*;go_wp2_with fail;refine callK T.o l fun Y M N=> ?_;have S:=o.t M;generalize(aZ z).word=q at*;by_cases b:q=7
 ·have F:=sH (Q.o b)
  subst b;go_wp2;go_roundg (t-k)
  ·exact⟨k+1,aq,aq,aq,aQ,F,S⟩
  omega
 ·have F:=sH (O.o b)
  have b:(q==7)=false:=by simpa using b
  go_wp2;go_ret;exact⟨by rw[F.o];rfl,N.o⟩
theorem Td(T:aC)(d l:Nat)(ts:aE)(A:aC)(m c:Nat)(a:List bP)(w:World)(h:aL .i32 w T d l ts)(U:cZ w w.heap.size A m a)(W:∀j,j<m->Ui d (bN a j))(hm:m<=4000000)(J:d<=100000):Calls prog 14 #[.slice T d l, .slice A m c] w (rX w (dS ts a m)):=by
 have I:=sH h;have D:=sH U;have L:=sH W;go_enter func14,ntmps14;go_wp2;go_loopg [5] (m+1) (fun gg v wr=>∃(k:Nat),k<gg/\k<=m/\v=ae aj (k:Int)/\ak (dS ts a k=dS ts a m)/\ak (aA w wr))
 ·exact⟨m,aq,aq,rfl,⟨rfl⟩,cB⟩
 obtain⟨k,hg,hk,rfl,r,g⟩:=hrel;rcases Nat.eq_zero_or_pos k with y|y
 ·have V:decide (0<k)=false:=fC
  have E:ak (dS ts a m=k):=⟨by rw[<-r.o,y];rfl⟩;go_wp2;go_ret;exact⟨yD,g.o⟩
 obtain⟨j,i⟩:∃j,j+1=k:=⟨k-1,aq⟩;have X:(k:Int)-1=(j:Int):=aq;have N:decide (0<k)=true:=yy;have F:=aR j m;have S:=jB j;obtain⟨ad,rfl,_,P⟩:=(D.o.Z g.o).2 aq;obtain⟨Q,H,⟨M,G,Z,a3,a4,a5⟩,B⟩:=J7 (P j aq);obtain⟨O,C,o,_⟩:=L.o j aq;have e:ak (Oo ts (bN a j)=true->dS ts a j=dS ts a m):=⟨fun h=>by rw[<-r.o,<-i,vF h]⟩;have z:ak (Oo ts (bN a j)=false->dS ts a m=k):=⟨fun h=>by rw[<-r.o,<-i,Af h]⟩;obtain⟨f,u⟩:∃f:Nat,(bN a j).f=(f:Int):=⟨(bN a j).f.toNat,aq⟩;obtain⟨t,x⟩:∃t:Nat,(bN a j).t=(t:Int):=⟨(bN a j).t.toNat,aq⟩;have p:Oo ts (bN a j)=Fs ts f t:=by unfold Oo;rw[u,x];rfl
 rw[p]at e z;rw[u]at M;rw[x]at G o;have K:=sH i;have s:=sH (Uy T d l ts f t (bN a j).lv (bN a j).x (bN a j).wd Q (bN a j).gs.length H wr (I.o.ar g.o) aq J);generalize(bN a j).gs.length=gn at*;generalize bN a j=b at*;generalize hq:Fs ts f t=q at*;cases q
 ·have E:ak (dS ts a m=k):=⟨z.o rfl⟩
  go_wp2_with fail;refine callK s.o g fun R Y n=> ?_;go_wp2;go_ret;exact⟨yD,n.o⟩
 ·have E:ak (dS ts a j=dS ts a m):=⟨e.o rfl⟩
  go_wp2_with fail;refine callK s.o g fun R Y n=> ?_;go_wp2;have i:=K.o;go_roundg (k)
  ·exact⟨j,aq,aq,rfl,E,n⟩
  omega
theorem Ro(T:aC)(l o:Nat)(ts:aE)(A:aC)(m c:Nat)(a:List bP)(w:World)(h:aL .i32 w T l o ts)(hL:Laid w)(Y:cZ w w.heap.size A m a)(hw:∀j,j<m->Ui l (bN a j))(hm:m<=4000000)(P:l<=100000):Calls prog 13 #[.slice T l o, .slice A m c] w (rX w (dS ts a m)):=by
 have L:=sH h;have K:=sH Y;have R:=sH hw;have O:=sH hL;go_enter func13,ntmps13;go_wp2;go_loopg [5] (m+1) (fun gg v wr=>∃(k:Nat),k<gg/\k<=m/\v=ae aj (k:Int)/\ak (dS ts a k=dS ts a m)/\ak (aA w wr))
 ·exact⟨m,aq,aq,rfl,⟨rfl⟩,cB⟩
 obtain⟨k,hg,hk,rfl,s,e⟩:=hrel;rcases Nat.eq_zero_or_pos k with G|G
 ·have Z:decide (0<k)=false:=fC
  have E:ak (dS ts a m=k):=⟨by rw[<-s.o,G];rfl⟩;go_wp2;refine mRl ?_;rintro _ ⟨i,rfl⟩;have d:=e.t i.2;go_wp2;go_ret;exact⟨yD,d.o⟩
 obtain⟨j,p⟩:∃j,j+1=k:=⟨k-1,aq⟩;have BP:(k:Int)-1=(j:Int):=aq;have S:decide (0<k)=true:=yy;have J:=aR j m;have X:=jB j;obtain⟨ad,rfl,_,V⟩:=(K.o.Z e.o).2 aq;obtain⟨G1,g1,⟨C,x,a2,a3,a4,a5⟩,H⟩:=J7 (V j aq);obtain⟨U,I,q,_⟩:=R.o j aq;have n:ak (Oo ts (bN a j)=true->dS ts a j=dS ts a m):=⟨fun h=>by rw[<-s.o,<-p,vF h]⟩;have u:ak (Oo ts (bN a j)=false->dS ts a m=k):=⟨fun h=>by rw[<-s.o,<-p,Af h]⟩;obtain⟨f,B⟩:∃f:Nat,(bN a j).f=(f:Int):=⟨(bN a j).f.toNat,aq⟩;obtain⟨t,F⟩:∃t:Nat,(bN a j).t=(t:Int):=⟨(bN a j).t.toNat,aq⟩;have r:Oo ts (bN a j)=Fs ts f t:=by unfold Oo;rw[B,F];rfl
 rw[r]at n u;rw[B]at C;rw[F]at x q;have Q:=sH p;have M:ak (f<t->∀N:aI wr,Calls prog 35 #[.slice T l o,ae aj (f:Int),ae aj (t:Int)] N.1 (rX N.1 (jU ts f t))):=⟨fun h N=>Ms T l o f t ts N.1 ((L.o.ar e.o).ar N.2) ((O.o.ar e.o).ar N.2) aq aq P⟩;obtain⟨L0,L1⟩:=lc2 C x;by_cases b:f<t;rotate_left
 ·have i5:decide ((f:Int)<(t:Int))=false:=fC
  have W:decide (f<t)=false:=fC;have E:ak (dS ts a m=k):=⟨u.o (by unfold Fs;rw[decide_eq_false_iff_not];exact fun h=>b h.1)⟩;go_wp2;refine mRl ?_;rintro _ ⟨i,rfl⟩;have d:=e.t i.2;go_wp2;go_ret;exact⟨yD,d.o⟩
 have i5:decide ((f:Int)<(t:Int))=true:=yy;have W:decide (f<t)=true:=yy;have g:=sH (M.o b);have y:ak (Fs ts f t=decide (jU ts f t=f)):=⟨by unfold Fs;simp[b]⟩;unfold rX at g;generalize jU ts f t=z at*;by_cases D:z=f
 ·have E:ak (dS ts a j=dS ts a m):=⟨n.o (by rw[y.o];simpa using D)⟩
  have i7:((z:Int)==(f:Int))=true:=cA;go_wp2;refine br aF aF ?_
  repeat(go_big_quiet_step (with_reducible exact cD (g.o _)))
  refine wpQuiet_nil ?_;rintro _ ⟨i,rfl⟩;have d:=e.t i.2;go_wp2;have p:=Q.o;go_roundg (k)
  ·exact⟨j,aq,aq,rfl,E,d⟩
  omega
 ·have E:ak (dS ts a m=k):=⟨u.o (by rw[y.o];simpa using D)⟩
  have i7:((z:Int)==(f:Int))=false:=pM;go_wp2;refine br aF aF ?_
  repeat(go_big_quiet_step (with_reducible exact cD (g.o _)))
  refine wpQuiet_nil ?_;rintro _ ⟨i,rfl⟩;have d:=e.t i.2;go_wp2;go_ret;exact⟨yD,d.o⟩
def ZPx(B:Nat)(L:List bP)(v:Value)(w:World):Prop:=∃A c ps,v= .slice A L.length c/\iD w B A c ps/\ps.map (·.1)=L
theorem ZPx.ar(B:Nat)(L:List bP)(v:Value)(w a:World)(h:ZPx B L v w)(b:aA w a):ZPx B L v a:=by
 obtain⟨A,c,ps,e,d,f⟩:=h;exact⟨A,c,ps,e,d.ar b,f⟩
theorem jZ.aa2{b:Nat}{d c e f g a:Value}(h:jZ w b d c e f g a)(v:Value):jZ (w.setCell ⟨b,4,none⟩ v) b d c e f v a:=by
 have aH:=h.lt;have i:w.heap[b]= .cells #[d,c,e,f,g,a] 50 (0,0):=by unfold jZ at h;simpa[Array.getElem?_eq_getElem aH]using h
 show(w.heap.modify b _)[b]? =_;rw[Array.getElem?_eq_getElem Ew,Array.getElem_modify_self,i];rfl
theorem tU{ts:aE}{rn:List (Int×Int)}{W Bg:aE}{ps:List il}:∀i,(kB ts rn W Bg ps i).2<=i
 |0=>Nat.le_refl _
 |i+1=>by
  have ih:=tU (ts:=ts) (rn:=rn) (W:=W) (Bg:=Bg) (ps:=ps) i;cases h:(dH ps i).gQ
  ·rw[oR h];show _<=i+1;omega
  ·rw[mF h];show _+1<=i+1;omega
theorem Na(s:cX)(p:jW)(ts:aE)(l:List (Int×Int))(xs:List eE)(A:aC)(m c:Nat)(rs:List aE)(R:aC)(rm rc:Nat)(w:World)(h:Qs w s p ts l xs A m c rs R rm)(hi:InT p.tn xs):Calls prog 8 #[.agg s.row, .agg p.row, .slice R rm rc, .slice A m c] w (Cf w (uY s ts l rs xs m m).1):=by
 have hml:=h.ml;have SC:ak (∀W,Below w.heap.size w W->Calls prog 28 #[.slice p.T p.tn p.tc, .slice A m c] W (PSl W (kr ts (qs xs) m))):=⟨fun W B=>Dk xs m c A p.T p.tn p.tc ts W (h.px.Z B B.size) h.mc (h.tx.ar B) aq h.tn h.gs hi⟩;have hsl:=Ey ts (qs xs) m;obtain⟨S,hS⟩:∃S,kr ts (qs xs) m=S:=⟨_,rfl⟩;have SIN:ak (∀i,i<S.length->-9223372036854775808<=nth (fE S) i/\nth (fE S) i<=9223372036854775807):=⟨fun i hi=>by rw[<-hS]at hi⊢;exact Ha hi⟩;rw[hS]at SC hsl;obtain⟨Bg,Q⟩:∃Bg,(fv l s.ev (fE S) (qH S) S.length).1=Bg:=⟨_,rfl⟩;have xP:Bg.length=S.length:=by rw[<-Q];exact pC _ _ _ _ _
 have LC:ak (∀W,Below w.heap.size w W->∀A1 c1 A2 c2,bh W W.heap.size .i64 A1 S.length (fE S)->bh W W.heap.size .i64 A2 S.length (qH S)->Calls prog 29 #[.slice p.B p.bn p.bc,ae aj s.ev, .slice A1 S.length c1, .slice A2 S.length c2] W (PLy W Bg S.length)):=⟨fun W B A1 c1 A2 c2 T h2=>by rw[<-Q];exact Yo l p.B p.bn p.bc s.ev _ _ A1 A2 S.length c1 c2 W ⟨h.tb.Z B B.size,h.tl,h.bl,T,h2,SIN.o,aq⟩⟩;have AS:ak (∀i,uY s ts l rs xs m i=kB ts (W7 rs) (fE S) Bg (qs xs) i):=⟨fun i=>by unfold uY;rw[hS,Q]⟩;have I:ak _:=⟨h⟩;rw[AS.o];generalize hN:kB ts (W7 rs) (fE S) Bg (qs xs)=N at*;have HLN:ak (∀i,(N i).1.length<=i*(2*100000+1)):=⟨fun i=>by
  rw[<-hN];refine pg (fun j=> ?_) i;by_cases M:j<xs.length
  ·rw[nR M];exact h.gs j M
  ·have:dH (qs xs) j=default:=by simp[dH,qs,Nat.not_lt.1 M]
   rw[this];exact Nat.zero_le _⟩
 have HNK:ak (∀i,(N i).2<=i):=⟨fun i=>by rw[<-hN];exact tU i⟩;clear h hS Q;obtain⟨W1,aP⟩:∃W1,W1=(w.alloc (.cells s.row 26)).alloc (.cells p.row 31):=⟨_,rfl⟩;obtain⟨P,nd⟩:∃p,w.heap.size=p:=⟨_,rfl⟩;have X0:ak (Bx W1 P s.row):=⟨Pg⟩;have X1:ak (Bx W1 (P+1) p.row):=⟨Pz⟩;have B1:ak (Below w.heap.size w W1):=⟨JH⟩;go_enter func8,ntmps8;go_upto_region 1 with fail;rw[<-aP];clear aP;have HP5:ak _:=⟨nd⟩;clear nd;obtain⟨a0,_,a2,_⟩:=X1.o.c8;obtain⟨_,_,_,a3,_⟩:=X0.o.c5;have SC1:ak _:=⟨SC.o W1 B1.o⟩;go_wp2_with fail;refine SC1.o.mono ?_;rintro e w2 ⟨A1,c1,A2,c2,rfl,o1,o2,b2⟩;have B2:ak (Below w.heap.size w w2):=⟨B1.o.trans (b2.mono B1.o.size)⟩;have Y0:ak (Bx w2 P s.row):=⟨X0.o.ar b2 X0.o.lt⟩;have Y1:ak (Bx w2 (P+1) p.row):=⟨X1.o.ar b2 X1.o.lt⟩;have LC1:ak _:=⟨LC.o w2 B2.o A1 c1 A2 c2 (Own.ints o1) (Own.ints o2)⟩;have O1:ak _:=⟨o1⟩;clear o1 o2 b2 SC1 SC LC X0 X1 B1 a0 a2 a3;obtain⟨_,_,a2,_⟩:=Y1.o.c8;obtain⟨_,_,_,a3,_⟩:=Y0.o.c5;generalize nL:S.length=Z at*;go_wp2_with fail;refine LC1.o.mono ?_;rintro e b ⟨A3,c3,rfl,o3,b3⟩;have B3:ak (Below w.heap.size w b):=⟨B2.o.trans (b3.mono B2.o.size)⟩;have WI:ak (bh b b.heap.size .i64 A1 Z (fE S)):=⟨Own.ints (O1.o.ar b3)⟩;have BI:ak (bh b b.heap.size .i64 A3 Z Bg):=⟨Own.ints o3⟩;have Z1:ak (Bx b (P+1) p.row):=⟨Y1.o.ar b3 Y1.o.lt⟩;have hp3:ak (P+1<b.heap.size):=⟨Z1.o.lt⟩;clear o3 b3 LC1 Y0 Y1 O1 a2 a3 B2;go_wp2;have hN0:ak (N 0=([],0)):=⟨by rw[<-hN];rfl⟩;go_loopg [12,13,14,15,16] (m+1) (fun gg ny jr uZ _ _ wr=>∃(i:Nat) (A':aC) (D c':Nat),m-i<gg/\i<=m/\ny= .slice A' D c'/\jr=ae aj ((N i).2:Int)/\uZ=ae aj (i:Int)/\ak (∃ps,kW wr b.heap.size A' D c' (N i).1 ps)/\ak (Below b.heap.size b wr))
 ·exact⟨0,none,0,0,aq,aq,rfl,by rw[hN0.o];rfl,rfl,⟨[],by rw[hN0.o];exact kW.nil _ _⟩,cB⟩
 obtain⟨i,A',D,c',hg,hi,rfl,rfl,rfl,SS,BE⟩:=hrel;have BW:ak (Below w.heap.size w wr):=⟨B3.o.trans (BE.o.mono B3.o.size)⟩;by_cases O:i<m;rotate_left
 ·have i4:=cF i m
  obtain rfl:i=m:=aq;have HW:ak (Cf w (N i).1 (.returned (.slice A' D c')) wr):=⟨by
   obtain⟨ps,S⟩:=SS.o;exact S.done B3.o.size BW.o⟩
  go_wp2;go_ret;exact HW.o
 have i4:=aR i m;have gI:ak (m-i<gk):=⟨hg⟩;obtain⟨ad,x,hx,eA,c0,c1,aU,vz,c4,c5,c6,c7,c8,_⟩:=(I.o.px.Z BW.o BW.o.size).at O;subst eA;rw[Nat.zero_add]at hx;clear hg;obtain⟨r,U⟩:∃r,r=(wr:World).alloc (.cells x.row 63):=⟨_,rfl⟩;have Qg:ak (Below wr.heap.size wr r):=⟨by rw[U];exact av _ _⟩;have V:ak (Bx r wr.heap.size x.row):=⟨by rw[U];exact Bx.new _ _ _⟩;go_upto_region 9 with fail;rw[<-U];clear U c0 c1 aU vz c4 c5 c6 c7 c8;have yO:r.cell? ⟨wr.heap.size,7,none⟩=some (.bool x.q.gQ):=V.o.cell 7;have B5:ak (Below b.heap.size b r):=⟨BE.o.trans (Qg.o.mono BE.o.size)⟩;have J:ak (Below w.heap.size w r):=⟨B3.o.trans (B5.o.mono B3.o.size)⟩;have hxl:=I.o.xl;have HQ:ak (dH (qs xs) i=x.q):=⟨Es⟩;obtain⟨z,y,eR,JO,hy,hcy⟩:=NG (I.o.rx.Z J.o J.o.size) (show x.q.run<rm by have:=I.o.rn i O;rwa [hx]at this);have HY:ak _:=⟨hy⟩;have G:ak _:=⟨hcy⟩;subst eR;have hrm:(x.q.run:Int)<(rm:Int):=by have:=I.o.rn i O;rw[hx]at this;omega
 obtain⟨ps,S0⟩:=SS.o;have SO:ak _:=⟨S0⟩;have PQ:ak (KK w p.T p.tn p.tc ts x):=⟨by have:=I.o.ql i O;rwa [hx]at this⟩;clear hx hy hcy S0 SS;generalize H:wr.heap.size=gq at*;cases B:x.q.gQ
 ·have C:ak (N (i+1)=((N i).1++fR ts x.q y.lv y.fo,(N i).2)):=⟨by rw[<-hN,oR (by rw[HQ.o,B]),HQ.o,HY.o]⟩
  have HB:ak _:=⟨B⟩;rw[B]at yO;clear B;go_upto_region 15 with fail;obtain⟨L,hL⟩:∃L,fR ts x.q y.lv y.fo=L:=⟨_,rfl⟩;have PC:ak (∀W,Below r.heap.size r W->Calls prog 30 #[.slice p.T p.tn p.tc, .agg x.row, .agg y.row] W (Cf W L)):=⟨fun W hW=>by
   have B:=J.o.trans (hW.mono J.o.size);rw[<-hL];exact Mj x y p.T p.tn p.tc ts W (PQ.o.Z B)⟩
  have HLl:ak (L.length<=200001):=⟨adu⟩;rw[hL]at C;have S5:ak (kW r b.heap.size A' D c' (N i).1 ps):=⟨SO.o.ar (by show Below _ _ _;rw[H];exact Qg.o)⟩;have Z5:ak (Bx r (P+1) p.row):=⟨Z1.o.ar B5.o hp3.o⟩;have XM:ak _:=⟨H⟩;have XZ:ak (D<=1000*200001):=⟨by
   have T:=SO.o.len;have h2:=congrArg List.length SO.o.eq;rw[List.length_map]at h2;have h3:=HLN.o i;have h4:i*(2*100000+1)<=1000*(2*100000+1):=Nat.mul_le_mul_right _ aq;omega⟩
  clear hL H yO SO;refine kz (N:=11) (k0:=81) (m:=11) [some (.slice A' D c'),some (.pointer (some ⟨P+1,0,none⟩)),some (.slice p.T p.tn p.tc),some (.agg x.row),some (.slice (some z) rm rc),some (.pointer (some ⟨gq,2,none⟩)),some (ae aj (x.q.run:Int)),some (.pointer (some (z.add (x.q.run*6)))),some (.agg y.row),none,none] 9 10 10 (ZPx b.heap.size L) Uw r (fun v W=>∃A c ps,v= .slice A (D+L.length) c/\kW W b.heap.size A (D+L.length) c ((N i).1++L) ps/\Below b.heap.size b W) rfl aF rfl aF aq (Below.refl _ _) ?_ ?_
  ·intro j o Lf bu W M ho F f n g a' ha K hK
   simp only[dm,fa,List.setIfInBounds_toArray,List.set_cons_succ,List.set_cons_zero,Nat.reduceAdd,Nat.add_zero]at ha;subst ha;have M:j=0∨j=1∨j=2∨j=3∨j=4∨j=5∨j=6∨j=7∨j=8∨j=9∨j=10:=aq;have d0:=g.cI 0 _ rfl;have d1:=g.cI 1 _ rfl;have d2:=g.cI 2 _ rfl;have d3:=g.cI 3 _ rfl;have d4:=g.cI 4 _ rfl;have d5:=g.cI 5 _ rfl;have d6:=g.cI 6 _ rfl;have d7:=g.cI 7 _ rfl;have d8:=g.cI 8 _ rfl
   rcases M with rfl|rfl|rfl|rfl|rfl|rfl|rfl|rfl|rfl|rfl|rfl
   all_goals(injection ho with ho;subst ho)
   all_goals(simp[Region.binds]at f)
   case' inr.inr.inr.inr.inr.inr.inr.inr.inr.inr=>
    obtain⟨A5,c5,qs5,ev,oq,eq⟩:=g.cal f.2 F;have BB:=g.pre F;have SW:=S5.o.ar BB;have gM:b.heap.size<=W.heap.size:=VN;have IF:qs5.length=L.length:=Qe;have hmm:=XZ.o;have Wn:=HLl.o;have Yl:=oq.row;rw[IF]at Yl;simp only[d0 f.1,ev];refine wpOp_step rfl (fun K9 t=> ?_);rw[if_pos (by simp[Region.wanted])];refine Ar rW (.tmp 81) (.tmp 90) rfl rfl SW.row rfl (aB.FB Yl) Yl.1 (fun u hu=>by
     obtain⟨q,_,hu⟩:=List.mem_flatMap.1 hu;exact iH q u hu) aq gM ?_
    intro A6 c6 w6 o6 b6 g6;have S6:kW w6 b.heap.size A6 (D+L.length) c6 ((N i).1++L) (ps++qs5):=⟨SW.own.abw oq (by rw[SW.len,IF];exact o6) (by rw[SW.len];exact g6),by rw[List.map_append,SW.eq,eq],by rw[List.length_append,SW.len,IF]⟩;refine t _ _ ?_;change K (Act.put _ (some 91) _) _;have hx:=hK _ _ (g.app rfl ⟨A6,c6,_,rfl,S6,(B5.o.trans (BB.mono B5.o.size)).trans b6⟩);simp only[Nat.reduceAdd,Act.put,List.setIfInBounds_toArray,List.set_cons_succ,List.set_cons_zero]at hx
    try simp only[d0 f.1,ev]at hx
    try simp only[Act.put,List.setIfInBounds_toArray,List.set_cons_succ,List.set_cons_zero]
    exact hx
   case' inr.inr.inr.inr.inr.inr.inr.inr.inr.inl=>
    obtain⟨q2,q3,q8⟩:=f;have AD:=n.no (a:=10) F aF;have BB:=g.pre AD;simp only[d2 q2,d3 q3,d8 q8];refine wpOp_step rfl (fun K9 t=> ?_);go_simp;refine(PC.o W BB).mono ?_;rintro e7 w7 ⟨A7,c7,ps7,rfl,og,eq,b7⟩;have og2:iD w7 b.heap.size A7 c7 ps7:=og.dU VN;dsimp only;refine t _ _ ?_
    skip
    have hx:=hK _ _ (g.call (v:= .slice A7 L.length c7) rfl bQ bQ AD AD ⟨A7,c7,ps7,rfl,og2,eq⟩ b7);simp only[Nat.reduceAdd,Act.put,List.setIfInBounds_toArray,List.set_cons_succ,List.set_cons_zero]at hx
    try simp only[d2 q2,d3 q3,d8 q8]at hx
    try simp only[Act.put,List.setIfInBounds_toArray,List.set_cons_succ,List.set_cons_zero]
    exact hx
   case' inr.inr.inl=>
    have x0:W.cell? ⟨P+1,0,none⟩=some (.slice p.T p.tn p.tc):=(Z5.o.ar (g.pre (n.no (a:=10) (n.no (a:=9) F aF) aF)) Z5.o.lt).cell 0
   case' inr.inr.inr.inl=>
    obtain⟨x0,x1,x2,x3,x4,x5,x6,x7,x8⟩:=(V.o.ar (g.pre (n.no (a:=10) (n.no (a:=9) F aF) aF)) V.o.lt).p9
   case' inr.inr.inr.inr.inr.inr.inl=>
    have x2:W.cell? ⟨gq,2,none⟩=some (ae aj (x.q.run:Int)):=(V.o.ar (g.pre (n.no (a:=10) (n.no (a:=9) (n.no (a:=8) F aF) aF) aF)) V.o.lt).cell 2
   case' inr.inr.inr.inr.inr.inr.inr.inr.inl=>
    have BB:=(g.pre (n.no (a:=10) (n.no (a:=9) F aF) aF));have x0:=au (G.o 0 _ rfl) BB;have x1:W.cell? (bW (z.add (x.q.run*6)) 1)=some (ae aj y.t):=au (G.o 1 _ rfl) BB;have x2:W.cell? (bW (z.add (x.q.run*6)) 2)=some (ae aj y.lv):=au (G.o 2 _ rfl) BB;have x3:W.cell? (bW (z.add (x.q.run*6)) 3)=some (ae aj y.sp):=au (G.o 3 _ rfl) BB;have x4:W.cell? (bW (z.add (x.q.run*6)) 4)=some (ae aj y.fo):=au (G.o 4 _ rfl) BB;have x5:W.cell? (bW (z.add (x.q.run*6)) 5)=some (ae aj y.st):=au (G.o 5 _ rfl) BB;rw[pK]at x0
   all_goals
    try simp only[d0,d1,d2,d3,d4,d5,d6,d7,d8,f]
    refine wpOp_step rfl (fun K9 t=> ?_);go_simp;refine t _ _ ?_
    skip
    have hx:=hK _ _ (g.pure rfl bQ bQ bQ);simp only[Nat.reduceAdd,Act.put,List.setIfInBounds_toArray,List.set_cons_succ,List.set_cons_zero]at hx
    try simp only[d0,d1,d2,d3,d4,d5,d6,d7,d8,f]at hx
    try simp only[Act.put,List.setIfInBounds_toArray,List.set_cons_succ,List.set_cons_zero]
    exact hx
  ·intro Lf bu W cC g a' ha
   simp only[dm,fa,List.setIfInBounds_toArray,List.set_cons_succ,List.set_cons_zero,Nat.reduceAdd,Nat.add_zero]at ha;subst ha;obtain⟨A6,c6,ps6,xq,s6,b6⟩:=g.post (cC 10 aq);simp only[xq];have S6:ak (∃ps,kW W b.heap.size A6 (D+L.length) c6 (N (i+1)).1 ps):=⟨ps6,by rw[C.o];exact s6⟩;have B6:ak _:=⟨b6⟩;have pP:ak ((N (i+1)).2=(N i).2):=⟨by rw[C.o]⟩;clear xq cC g s6 b6;refine wpOp_step rfl (fun K9 t=> ?_);go_simp;refine t _ _ ?_;go_wp2;go_roundg (m-i)
   case measure=>have:=gI.o;omega
   case rel=>exact⟨i+1,A6,D+L.length,c6,aq,aq,rfl,by rw[pP.o],aQ,S6,B6⟩
 ·have HB:ak _:=⟨B⟩
  rw[B]at yO;clear B;have z0:r.cell? ⟨gq,0,none⟩=some (ae aj (x.q.f:Int)):=V.o.cell 0;have z1:r.cell? ⟨gq,1,none⟩=some (ae aj (x.q.t:Int)):=V.o.cell 1;have z2:r.cell? ⟨gq,2,none⟩=some (ae aj (x.q.run:Int)):=V.o.cell 2;have z3:r.cell? (bW (z.add (x.q.run*6)) 2)=some (ae aj y.lv):=G.o 2 _ rfl;have XM:ak _:=⟨H⟩;clear H;go_upto_region 10 with fail;have Z0:=aw z0;have Z2:=aw z1;have Z4:=aw z2;have Z6:=aw z3
  clear z0 z1 z2 z3;refine aT (fun d=>if d=some 16 then some (ZT r.heap.size #[ae aj 0,ae aj 0,ae aj 0,ae aj 0,ae aj 0, .slice none 0 0] 50)else none) 12 rfl aF aF aF aF aF rfl ?_
  repeat(refine bR aK aK aK ?_;intro K9 t;go_big_quiet_op;go_big_quiet_on)
  refine cG (ZT r.heap.size #[ae aj 0,ae aj 0,ae aj 0,ae aj 0,ae aj 0, .slice none 0 0] 50) aK aK (fun w9 cv=> ?_) (fun v9 aV=> ?_)
  ·obtain⟨nq,rfl⟩:=cv
   go_simp;exact ye nq _ _
  obtain⟨_,_,Y,rfl,ef,_⟩:=aV;simp[Act.put];intro nq hE;have hx:=ZT.get hE;clear hE Z0 Z2 Z4 Z6;refine wp_store_row 50 (.tmp 16) (.tmp 53) rfl Y _ rfl rfl 50 _ hx aF rfl dK ?_;have X:ak (FV r (nq.1.setRow Y #[ae aj (x.q.f:Int),ae aj (x.q.t:Int),ae aj y.lv,ae aj 0,ae aj 0, .slice none 0 0]) Y (dv x.q.f x.q.t y.lv) x.q.f x.q.t none 0):=⟨⟨hx.row _,aB.nil _ _ _ _,below_setRow nq.2 ef _,ef⟩⟩;generalize nq.1.setRow Y #[ae aj (x.q.f:Int),ae aj (x.q.t:Int),ae aj y.lv,ae aj 0,ae aj 0, .slice none 0 0]=w6 at*;clear hx ef
  try dsimp only
  try simp only[Act.put]
  have C:ak (N (i+1)=((N i).1++[⟨x.q.f,x.q.t,y.lv,0,if(N i).2+1<Z then wrap64 (wrap64 (nth Bg ((N i).2+1)-nth Bg (N i).2)-nth (fE S) (N i).2)else 0,[]⟩],(N i).2+1)):=⟨by rw[<-hN,mF (by rw[HQ.o,HB.o]),HQ.o,HY.o,xP]⟩;have hkb:(N i).2<=i:=HNK.o i;generalize(N i).2=k at*;go_upto_if 58 with fail;obtain⟨v,hv⟩:∃v,(if k+1<Z then wrap64 (wrap64 (nth Bg (k+1)-nth Bg k)-nth (fE S) k)else 0)=v:=⟨_,rfl⟩;have HV:ak _:=⟨hv⟩;rw[hv]at C;clear hv;go_cut [16] (fun u wx=>u= .pointer (some ⟨Y,0,none⟩)/\ak (jZ wx Y (ae aj (x.q.f:Int)) (ae aj (x.q.t:Int)) (ae aj y.lv) (ae aj 0) (ae aj v) (.slice none 0 0))/\ak (Below r.heap.size r wx))
  ·
   by_cases T:k+1<Z
   ·have E:ak (v=wrap64 (wrap64 (nth Bg (k+1)-nth Bg k)-nth (fE S) k)):=⟨by rw[<-HV.o,if_pos T]⟩
    obtain⟨j,M⟩:∃j,k+1=j:=⟨_,rfl⟩;have B6:ak (Below b.heap.size b w6):=⟨B5.o.trans (X.o.be.mono B5.o.size)⟩;obtain⟨Qh,e3,J4,MD⟩:=BI.o.2 aq;obtain⟨ad1,e1,cT,l4⟩:=WI.o.2 aq;have r1:=(B6.o.cell Wa).trans (MD j aq);have r2:=(B6.o.cell Wa).trans (MD k aq);have r3:=(B6.o.cell (by rw[aO];exact cT)).trans (l4 k aq);rw[M]at E T;subst e3;subst e1;have pe:(k:Int)+1=(j:Int):=aq;have k4:=aR k Z;have j4:=aR j Z;obtain⟨_,_,_,_,q4,_⟩:=X.o.lN.cs;have f4:=X.o.lN.f 4;generalize nth Bg j=u1 at*;generalize nth Bg k=u2 at*;generalize nth (fE S) k=u3 at*;clear MD l4 M;go_upto_region 12 with fail;have S3:=X.o.lN.aa2 (ae aj (wrap64 (wrap64 (u1-u2)-u3)));have S4:ak _:=⟨S3.ar (bL (Below.refl (w6.setCell ⟨Y,4,none⟩ (ae aj (wrap64 (wrap64 (u1-u2)-u3)))).heap.size _)) S3.lt⟩;clear S3;have B4:ak _:=⟨((Below.setCell X.o.be (p:=⟨Y,4,none⟩) X.o.le (ae aj (wrap64 (wrap64 (u1-u2)-u3)))).drew)⟩;go_region
    all_goals go_wp2_with fail
    all_goals go_meet
    all_goals exact⟨rfl,by rw[E.o];exact S4,B4⟩
   ·have E:ak (v=0):=⟨by rw[<-HV.o,if_neg T]⟩
    have h5:¬k+1<Z:=T;clear T;go_wp2;go_meet;exact⟨rfl,by rw[E.o];exact⟨X.o.lN⟩,⟨X.o.be⟩⟩
  obtain⟨rfl,Q7,B7⟩:=hcut;have B8:ak (Below b.heap.size b wc):=⟨B5.o.trans (B7.o.mono B5.o.size)⟩;have S8:ak (kW wc b.heap.size A' D c' (N i).1 ps):=⟨SO.o.ar (by show Below _ _ _;rw[XM.o];exact Qg.o.trans (B7.o.mono (by have:=Qg.o.size;have:=XM.o;omega)))⟩;have XZ:ak (D<=1000*200001):=⟨by
   have T:=SO.o.len;have h2:=congrArg List.length SO.o.eq;rw[List.length_map]at h2;have h3:=HLN.o i;have h4:i*(2*100000+1)<=1000*(2*100000+1):=Nat.mul_le_mul_right _ aq;omega⟩
  have hmm:=XZ.o;obtain⟨_,_,_,_,_,_⟩:=Q7.o.cs;have OR:ak _:=⟨S8.o.row⟩;have Wo:=B8.o.size;have WK:ak ((N (i+1)).2=k+1):=⟨by rw[C.o]⟩;go_wp2_with (at_builtin;refine bk rW rfl (.tmp 75) (.tmp 77) rfl rfl (aB.alloc OR.o _) rfl (news:=[ae aj (x.q.f:Int),ae aj (x.q.t:Int),ae aj y.lv,ae aj 0,ae aj v, .slice none 0 0]) rfl (fh _ _ _ _ _ _ _ _ _ aD) (iH (⟨x.q.f,x.q.t,y.lv,0,v,[]⟩,none,0)) aq ij ?_;intro A4 c4 w4 o4 b4 g4 _;have O4:ak _:=⟨o4⟩;have B4:ak _:=⟨b4⟩;have G4:ak _:=⟨g4⟩;clear o4 b4 g4);have S9:ak _:=⟨(S8.o.ar (av _ _)).push (⟨x.q.f,x.q.t,y.lv,0,v,[]⟩,none,0) O4.o G4.o (gv.nil _ _)⟩;have B9:ak _:=⟨(B8.o.alloc B8.o.size _).trans B4.o⟩;go_roundg (m-i)
  case measure=>have:=gI.o;omega
  case rel=>exact⟨i+1,A4,D+1,c4,aq,aq,rfl,by rw[WK.o];go_num,aQ,⟨_,by rw[C.o];exact S9.o⟩,B9⟩
theorem cM.tbs(h:cM w B aac A n c):∃l,l.length=n/\WO w B l A:=by
 rcases Nat.eq_zero_or_pos n with rfl|m
 ·exact⟨[],rfl,fun j hj=>absurd hj aD⟩
 obtain⟨d,r,f,o⟩:=h.2.2.2 m;have b:∀j:Fin n,∃p:Int×Int,w.cell? (d.add (j.1*2))=some (ae aj p.1)/\w.cell? (bW (d.add (j.1*2)) 1)=some (ae aj p.2):=fun j=>by
  obtain⟨s,⟨_,_,rfl,⟨x,rfl,_⟩,⟨y,rfl,_⟩⟩,k⟩:=o j.1 j.2;have i:=k 0 _ rfl;have q:=k 1 _ rfl;rw[pK]at i;exact⟨(x,y),i,q⟩
 let F:Fin n->Int×Int:=fun j=>(b j).choose
 have g:=fun j=>(b j).choose_spec
 refine⟨List.ofFn F,aD,fun j hj=> ?_⟩;have a:j<n:=uB;have e:fS (List.ofFn F) j=F ⟨j,a⟩:=by simp[fS,a]
 rw[e];exact⟨d,r,f,(g ⟨j,a⟩).1,(g ⟨j,a⟩).2⟩
theorem qO.drop{k:Nat}(h:qO w B xs a k A):qO w B ((xs.drop a).take k) 0 k A:=⟨by rw[List.length_take,List.length_drop];have:=h.1;omega,fun j b=>by
 have e:oO ((xs.drop a).take k) (0+j)=oO xs (a+j):=by
  have:=h.1;rw[pZ Xt,pZ aq];simp
 rw[e];exact h.2 j b⟩
theorem ky.part{d:Nat}(h:ky n d xs)(a k:Nat):ky n d ((xs.drop a).take k):=by
 have c:∀x∈(xs.drop a).take k,x∈xs:=fun x b=>List.mem_of_mem_drop (List.mem_of_mem_take b)
 exact⟨fun x b=>h.run x (c x b),fun x b=>h.ne x (c x b),fun x b=>h.gl x (c x b),h.up.sublist ((List.take_sublist _ _).trans (List.drop_sublist _ _))⟩
theorem ky.inT(h:ky n a xs):InT n xs:=⟨fun i b=>h.ne _ (ng b)⟩
theorem Gw{gs:List aE}{j:Nat}(a:j<gs.length):fW gs j∈gs:=by
 have e:fW gs j=gs[j]:=by simp[fW,a]
 rw[e];exact List.getElem_mem a
theorem ky.side{l:Nat}(h:ky n l xs):Dy (qs xs):=by
 have e:∀i,i<(qs xs).length->i<xs.length/\dH (qs xs) i=(oO xs i).q/\oO xs i∈xs:=fun i c=>by
  have a:i<xs.length:=by simpa[qs]using c
  exact⟨a,nR a,ng a⟩
 refine⟨fun i c j d=> ?_,fun i j f d=> ?_,fun i c=> ?_⟩
 ·obtain⟨_,b,m⟩:=e i c
  rw[b]at d⊢;exact((h.gl _ m).2.2 _ (Gw d)).1
 ·obtain⟨g,b,_⟩:=e i aq
  obtain⟨k,o,_⟩:=e j d;rw[b,o,pZ g,pZ k];exact List.pairwise_iff_getElem.1 h.up i j g k f
 ·obtain⟨_,b,m⟩:=e i c
  rw[b];exact(h.ne _ m).1
theorem ky.bxi{f:Nat}{t:List aE}(h:ky p.tn f xs)(e:mx w p ts)(d:p.tn<=100000)(g:p.bn<=1000)(r:qO w w.heap.size xs 0 m A)(D:xs.length=m)(o:m<=c)(F:m<=900)(z:Rx w w.heap.size 6 t R f):∃l,Qs w s p ts l xs A m c t R f:=by
 obtain⟨l,n,C⟩:=e.rB.tbs;refine⟨l,e.rT,d,r,o,F,D,z,fun j u=> ?_,fun j u=> ?_,C,n,g,h.side⟩
 ·have b:=ng (xs:=xs) (i:=j) aq
  obtain⟨B,g2,y⟩:=h.gl _ b;obtain⟨x,E⟩:=h.ne _ b;obtain⟨G,_,_,_,v⟩:=r.2 j u;rw[Nat.zero_add]at v;have q:∀k,k<(oO xs j).q.gs.length->kC (oO xs j).q.f (oO xs j).q.t (fW (oO xs j).q.gs k):=fun k a=>y _ (Gw a)
  exact⟨e.rT,v,fun k a=>by rw[oW a];exact(q k a).1,x,E,aq,fun k a=>by rw[Nat.zero_add];have:=(q k a).2;omega,d,B⟩
 ·exact h.run _ (ng aq)
theorem Qs.Z{b:World}{l:List (Int×Int)}{d:List aE}{e:Nat}(h:Qs w s p ts l xs A m c d R e)(a:aA w b):Qs b s p ts l xs A m c d R e:=
 ⟨h.tx.ar a,h.tn,h.px.Z a a.size,h.mc,h.ml,h.xl,h.rx.Z a a.size,fun j f=>(h.ql j f).Z a,h.rn,h.tb.Z a a.size,h.tl,h.bl,h.sd⟩
theorem WJ{s:Sb}(h:nD w B s):s.jn*24<=140737488351232/\s.nn*16<=140737488351232/\s.bn*24<=140737488351232/\s.an*24<=140737488351232/\s.mn*32<=140737488351232/\s.hn*32<=140737488351232/\s.cn<=9223372036854775807/\s.tn<=9223372036854775807/\s.ln<=9223372036854775807/\s.vn<=9223372036854775807/\s.pn<=9223372036854775807/\s.un<=9223372036854775807:=
 ⟨h.rJ.rb,h.rN.rb,h.rB.rb,h.rA.rb,h.rM.rb,h.rH.rb,h.rC.bd,h.rT.bd,h.rL.bd,h.rV.bd,h.rP.bd,h.rU.bd⟩
theorem acu(s:G:=by
 obtain⟨r1,r2,r3,r4,r5,r6,h1,h2,h3,h8,h9,sD⟩:=WJ h;clear h;obtain⟨W1,aP,B1,X1⟩:=box1 w s.row 141;obtain⟨d0,d1,d2,d3,d4,d5,d6,d7,d8,d9,d10,d11⟩:=X1.o.mS;go_enter func271,ntmps271;go_upto_region 5 with fail;rw[<-aP];clear aP;go_cut [94] (fun v wx=>(∃b:Bool,v= .bool b)/\W1=wx)
 ·
  by_cases p:0<s.ln
  ·go_wp2
   go_meet;exact⟨⟨_,rfl⟩,rfl⟩
  ·have pln:decide (0<s.ln)=false:=by simpa using p
   clear p;by_cases p:0<s.jn+s.nn
   ·have pjn:(0:Int)<(s.jn:Int)+(s.nn:Int):=by omega
    go_wp2;go_meet;exact⟨⟨_,rfl⟩,rfl⟩
   ·have pjn:decide ((0:Int)<(s.jn:Int)+(s.nn:Int))=false:=fC
    clear p;go_wp2;go_meet;exact⟨⟨_,rfl⟩,rfl⟩
 obtain⟨⟨Ek,rfl⟩,rfl⟩:=hcut;cases Ek;rotate_left
 ·go_wp2
  go_ret;exact⟨_,rfl,B1.o⟩
 go_upto_region 7 with fail;go_cut [130] (fun v wx=>(∃b:Bool,v= .bool b)/\W1=wx)
 ·
  by_cases p:0<s.bn+s.an
  ·have Xc:(0:Int)<(s.bn:Int)+(s.an:Int):=by omega
   go_wp2;go_meet;exact⟨⟨_,rfl⟩,rfl⟩
  ·have Xc:decide ((0:Int)<(s.bn:Int)+(s.an:Int))=false:=fC
   clear p;by_cases p:0<s.vn
   ·go_wp2
    go_meet;exact⟨⟨_,rfl⟩,rfl⟩
   ·have pvn:decide (0<s.vn)=false:=by simpa using p
    clear p;by_cases p:0<s.pn
    ·go_wp2
     go_meet;exact⟨⟨_,rfl⟩,rfl⟩
    ·have ppn:decide (0<s.pn)=false:=by simpa using p
     clear p;go_wp2;go_meet;exact⟨⟨_,rfl⟩,rfl⟩
 obtain⟨⟨nZ,rfl⟩,rfl⟩:=hcut;cases nZ;rotate_left
 ·go_wp2
  go_ret;exact⟨_,rfl,B1.o⟩
 by_cases q:s.un=0
 ·have q1:((s.un:Int)==0)=true:=by simp[q]
  clear q;go_wp2;go_ret;exact⟨_,rfl,B1.o⟩
 ·have q1:((s.un:Int)==0)=false:=pM
  clear q;go_wp2;go_ret;exact⟨_,rfl,B1.o⟩):G:=s
theorem Nu(s:Sb)(w:World)(h:nD w w.heap.size s):Calls prog 271 #[ae aj 1,s.v] w (PB w):=by
 exact acu
theorem Kv(s:Sb)(w:World)(h:nD w w.heap.size s):Calls prog 271 #[ae aj 2,s.v] w (PB w):=by
 exact acu
theorem kT(s:G:=by
 go_wp2
 go_meet;exact⟨⟨_,rfl⟩,rfl⟩):G:=s
theorem Xw(s:G:=by
 by_cases p:0<s.bn+s.an
 ·have Xc:(0:Int)<(s.bn:Int)+(s.an:Int):=by omega
  go_wp2;go_meet;exact⟨⟨_,rfl⟩,rfl⟩
 ·have Xc:decide ((0:Int)<(s.bn:Int)+(s.an:Int))=false:=fC
  clear p;by_cases p:0<s.vn
  ·exact kT
  ·have pvn:decide (0<s.vn)=false:=by simpa using p
   clear p;by_cases p:0<s.pn
   ·exact kT
   ·have ppn:decide (0<s.pn)=false:=by simpa using p
    clear p;go_wp2;go_meet;exact⟨⟨_,rfl⟩,rfl⟩):G:=s
theorem nT(s:G:=by
 go_wp2
 go_ret;exact⟨_,rfl,B1.o⟩):G:=s
theorem Hi(s:G:=by
 have q1:((s.un:Int)==0)=true:=by simp[q]
 clear q;go_wp2;go_ret;exact⟨_,rfl,B1.o⟩):G:=s
theorem Ho(s:G:=by
 have q1:((s.un:Int)==0)=false:=pM
 clear q;go_wp2;go_ret;exact⟨_,rfl,B1.o⟩):G:=s
theorem NV(s:Sb)(w:World)(h:nD w w.heap.size s):Calls prog 271 #[ae aj 3,s.v] w (PB w):=by
 obtain⟨u,r,F,L,B,y,K,z,I,M,A,l⟩:=WJ h;clear h;obtain⟨g,c,B1,k⟩:=box1 w s.row 141;obtain⟨H,G,C,D,E,o,x,n,t,J,j,m⟩:=k.o.mS;go_enter func271,ntmps271;go_upto_region 5 with fail;rw[<-c];clear c;go_cut [94] (fun v d=>(∃b:Bool,v= .bool b)/\g=d)
 ·
  by_cases p:0<s.tn
  ·exact kT
  ·have i:decide (0<s.tn)=false:=by simpa using p
   clear p;by_cases p:0<s.jn+s.nn
   ·have e:(0:Int)<(s.jn:Int)+(s.nn:Int):=by omega
    go_wp2;go_meet;exact⟨⟨_,rfl⟩,rfl⟩
   ·have e:decide ((0:Int)<(s.jn:Int)+(s.nn:Int))=false:=fC
    clear p;go_wp2;go_meet;exact⟨⟨_,rfl⟩,rfl⟩
 obtain⟨⟨f,rfl⟩,rfl⟩:=hcut;cases f;rotate_left
 ·exact nT
 go_upto_region 7 with fail;go_cut [130] (fun v d=>(∃b:Bool,v= .bool b)/\g=d)
 ·exact Xw
 obtain⟨⟨a,rfl⟩,rfl⟩:=hcut;cases a;rotate_left
 ·exact nT
 by_cases q:s.un=0
 ·exact Hi
 ·exact Ho
theorem Xr(s:G:=by
 obtain⟨r1,r2,r3,r4,r5,r6,h1,h2,h3,h8,h9,sD⟩:=WJ h;clear h;obtain⟨W1,aP,B1,X1⟩:=box1 w s.row 141;obtain⟨d0,d1,d2,d3,d4,d5,d6,d7,d8,d9,d10,d11⟩:=X1.o.mS;go_enter func271,ntmps271;go_upto_region 5 with fail;rw[<-aP];clear aP;go_cut [94] (fun v wx=>(∃b:Bool,v= .bool b)/\W1=wx)
 ·
  by_cases p:0<s.cn
  ·go_wp2
   go_meet;exact⟨⟨_,rfl⟩,rfl⟩
  ·have pcn:decide (0<s.cn)=false:=by simpa using p
   clear p;by_cases p:0<s.tn
   ·go_wp2
    go_meet;exact⟨⟨_,rfl⟩,rfl⟩
   ·have ptn:decide (0<s.tn)=false:=by simpa using p
    clear p;by_cases p:0<s.ln
    ·go_wp2
     go_meet;exact⟨⟨_,rfl⟩,rfl⟩
    ·have pln:decide (0<s.ln)=false:=by simpa using p
     clear p;go_wp2;go_meet;exact⟨⟨_,rfl⟩,rfl⟩
 obtain⟨⟨Ek,rfl⟩,rfl⟩:=hcut;cases Ek;rotate_left
 ·go_wp2
  go_ret;exact⟨_,rfl,B1.o⟩
 go_upto_region 7 with fail;go_cut [130] (fun v wx=>(∃b:Bool,v= .bool b)/\W1=wx)
 ·
  by_cases p:0<s.vn
  ·go_wp2
   go_meet;exact⟨⟨_,rfl⟩,rfl⟩
  ·have pvn:decide (0<s.vn)=false:=by simpa using p
   clear p;by_cases p:0<s.pn
   ·go_wp2
    go_meet;exact⟨⟨_,rfl⟩,rfl⟩
   ·have ppn:decide (0<s.pn)=false:=by simpa using p
    clear p;go_wp2;go_meet;exact⟨⟨_,rfl⟩,rfl⟩
 obtain⟨⟨nZ,rfl⟩,rfl⟩:=hcut;cases nZ;rotate_left
 ·go_wp2
  go_ret;exact⟨_,rfl,B1.o⟩
 by_cases q:s.un=0
 ·have q1:((s.un:Int)==0)=true:=by simp[q]
  clear q;go_wp2;go_ret;exact⟨_,rfl,B1.o⟩
 ·have q1:((s.un:Int)==0)=false:=pM
  clear q;go_wp2;go_ret;exact⟨_,rfl,B1.o⟩):G:=s
theorem Mh(s:Sb)(w:World)(h:nD w w.heap.size s):Calls prog 271 #[ae aj 4,s.v] w (PB w):=by
 exact Xr
theorem Qc(s:G:=by
 have pln:decide (0<s.ln)=false:=by simpa using p
 clear p;by_cases p:0<s.jn+s.nn
 ·have pjn:(0:Int)<(s.jn:Int)+(s.nn:Int):=by omega
  go_wp2;go_meet;exact⟨⟨_,rfl⟩,rfl⟩
 ·have pjn:decide ((0:Int)<(s.jn:Int)+(s.nn:Int))=false:=fC
  clear p;go_wp2;go_meet;exact⟨⟨_,rfl⟩,rfl⟩):G:=s
theorem Xz(s:G:=by
 have ppn:decide (0<s.pn)=false:=by simpa using p
 clear p;go_wp2;go_meet;exact⟨⟨_,rfl⟩,rfl⟩):G:=s
theorem N6(s:Sb)(w:World)(h:nD w w.heap.size s):Calls prog 271 #[ae aj 5,s.v] w (PB w):=by
 obtain⟨t,o,E,K,A,x,J,y,H,L,z,j⟩:=WJ h;clear h;obtain⟨f,c,B1,i⟩:=box1 w s.row 141;obtain⟨G,F,B,C,D,n,u,m,r,I,g,l⟩:=i.o.mS;go_enter func271,ntmps271;go_upto_region 5 with fail;rw[<-c];clear c;go_cut [94] (fun v d=>(∃b:Bool,v= .bool b)/\f=d)
 ·
  by_cases p:0<s.ln
  ·exact kT
  ·exact Qc
 obtain⟨⟨e,rfl⟩,rfl⟩:=hcut;cases e;rotate_left
 ·exact nT
 go_upto_region 7 with fail;go_cut [130] (fun v d=>(∃b:Bool,v= .bool b)/\f=d)
 ·
  by_cases p:0<s.vn
  ·exact kT
  ·have k:decide (0<s.vn)=false:=by simpa using p
   clear p;by_cases p:0<s.pn
   ·exact kT
   ·exact Xz
 obtain⟨⟨a,rfl⟩,rfl⟩:=hcut;cases a;rotate_left
 ·exact nT
 by_cases q:s.un=0
 ·exact Hi
 ·exact Ho
theorem Xi(s:G:=by
 have Xc:(0:Int)<(s.bn:Int)+(s.an:Int):=by omega
 go_wp2;go_meet;exact⟨⟨_,rfl⟩,rfl⟩):G:=s
theorem NR(s:Sb)(w:World)(h:nD w w.heap.size s):Calls prog 271 #[ae aj 6,s.v] w (PB w):=by
 obtain⟨t,o,E,K,A,x,J,y,H,L,z,k⟩:=WJ h;clear h;obtain⟨f,c,B1,j⟩:=box1 w s.row 141;obtain⟨G,F,B,C,D,n,u,m,r,I,i,l⟩:=j.o.mS;go_enter func271,ntmps271;go_upto_region 5 with fail;rw[<-c];clear c;go_cut [94] (fun v d=>(∃b:Bool,v= .bool b)/\f=d)
 ·
  by_cases p:0<s.tn
  ·exact kT
  ·have g:decide (0<s.tn)=false:=by simpa using p
   clear p;by_cases p:0<s.ln
   ·exact kT
   ·exact Qc
 obtain⟨⟨e,rfl⟩,rfl⟩:=hcut;cases e;rotate_left
 ·exact nT
 go_upto_region 7 with fail;go_cut [130] (fun v d=>(∃b:Bool,v= .bool b)/\f=d)
 ·
  by_cases p:0<s.bn+s.an
  ·exact Xi
  ·have Xc:decide ((0:Int)<(s.bn:Int)+(s.an:Int))=false:=fC
   clear p;by_cases p:0<s.pn
   ·exact kT
   ·exact Xz
 obtain⟨⟨a,rfl⟩,rfl⟩:=hcut;cases a;rotate_left
 ·exact nT
 by_cases q:s.un=0
 ·exact Hi
 ·exact Ho
theorem Xs(s:G:=by
 by_cases p:0<s.cn
 ·exact kT
 ·have pcn:decide (0<s.cn)=false:=by simpa using p
  clear p;by_cases p:0<s.tn
  ·exact kT
  ·have ptn:decide (0<s.tn)=false:=by simpa using p
   clear p;by_cases p:0<s.ln
   ·exact kT
   ·exact Qc):G:=s
theorem Og(s:Sb)(w:World)(h:nD w w.heap.size s):Calls prog 271 #[ae aj 7,s.v] w (PB w):=by
 obtain⟨t,o,E,K,A,x,J,y,H,L,z,j⟩:=WJ h;clear h;obtain⟨f,c,B1,i⟩:=box1 w s.row 141;obtain⟨G,F,B,C,D,n,u,m,r,I,g,l⟩:=i.o.mS;go_enter func271,ntmps271;go_upto_region 5 with fail;rw[<-c];clear c;go_cut [94] (fun v d=>(∃b:Bool,v= .bool b)/\f=d)
 ·exact Xs
 obtain⟨⟨e,rfl⟩,rfl⟩:=hcut;cases e;rotate_left
 ·exact nT
 go_upto_region 7 with fail;go_cut [130] (fun v d=>(∃b:Bool,v= .bool b)/\f=d)
 ·
  by_cases p:0<s.bn+s.an
  ·exact Xi
  ·have Xc:decide ((0:Int)<(s.bn:Int)+(s.an:Int))=false:=fC
   clear p;by_cases p:0<s.vn
   ·exact kT
   ·have k:decide (0<s.vn)=false:=by simpa using p
    clear p;go_wp2;go_meet;exact⟨⟨_,rfl⟩,rfl⟩
 obtain⟨⟨a,rfl⟩,rfl⟩:=hcut;cases a;rotate_left
 ·exact nT
 by_cases q:s.un=0
 ·exact Hi
 ·exact Ho
theorem Le(s:Sb)(w:World)(h:nD w w.heap.size s):Calls prog 271 #[ae aj 8,s.v] w (PB w):=by
 obtain⟨q,n,C,I,y,t,H,u,F,J,x,j⟩:=WJ h;clear h;obtain⟨f,c,B1,i⟩:=box1 w s.row 141;obtain⟨E,D,z,A,B,m,r,l,o,G,g,k⟩:=i.o.mS;go_enter func271,ntmps271;go_upto_region 5 with fail;rw[<-c];clear c;go_cut [94] (fun v d=>(∃b:Bool,v= .bool b)/\f=d)
 ·exact Xs
 obtain⟨⟨e,rfl⟩,rfl⟩:=hcut;cases e;rotate_left
 ·exact nT
 go_upto_region 7 with fail;go_cut [130] (fun v d=>(∃b:Bool,v= .bool b)/\f=d)
 ·exact Xw
 obtain⟨⟨a,rfl⟩,rfl⟩:=hcut;cases a;rotate_left
 ·exact nT
 go_wp2;go_ret;exact⟨_,rfl,B1.o⟩
theorem VG(s:G:=by
 obtain⟨r1,r2,r3,r4,r5,r6,h1,h2,h3,h8,h9,sD⟩:=WJ h;clear h;obtain⟨W1,aP,B1,X1⟩:=box1 w s.row 141;obtain⟨d0,d1,d2,d3,d4,d5,d6,d7,d8,d9,d10,d11⟩:=X1.o.mS;go_enter func271,ntmps271;go_upto_region 5 with fail;rw[<-aP];clear aP;go_cut [94] (fun v wx=>(∃b:Bool,v= .bool b)/\W1=wx)
 ·
  by_cases p:0<s.cn
  ·go_wp2
   go_meet;exact⟨⟨_,rfl⟩,rfl⟩
  ·have pcn:decide (0<s.cn)=false:=by simpa using p
   clear p;by_cases p:0<s.tn
   ·go_wp2
    go_meet;exact⟨⟨_,rfl⟩,rfl⟩
   ·have ptn:decide (0<s.tn)=false:=by simpa using p
    clear p;by_cases p:0<s.ln
    ·go_wp2
     go_meet;exact⟨⟨_,rfl⟩,rfl⟩
    ·have pln:decide (0<s.ln)=false:=by simpa using p
     clear p;by_cases p:0<s.jn+s.nn
     ·have pjn:(0:Int)<(s.jn:Int)+(s.nn:Int):=by omega
      go_wp2;go_meet;exact⟨⟨_,rfl⟩,rfl⟩
     ·have pjn:decide ((0:Int)<(s.jn:Int)+(s.nn:Int))=false:=fC
      clear p;go_wp2;go_meet;exact⟨⟨_,rfl⟩,rfl⟩
 obtain⟨⟨Ek,rfl⟩,rfl⟩:=hcut;cases Ek;rotate_left
 ·go_wp2
  go_ret;exact⟨_,rfl,B1.o⟩
 go_upto_region 7 with fail;go_cut [130] (fun v wx=>(∃b:Bool,v= .bool b)/\W1=wx)
 ·
  by_cases p:0<s.bn+s.an
  ·have Xc:(0:Int)<(s.bn:Int)+(s.an:Int):=by omega
   go_wp2;go_meet;exact⟨⟨_,rfl⟩,rfl⟩
  ·have Xc:decide ((0:Int)<(s.bn:Int)+(s.an:Int))=false:=fC
   clear p;by_cases p:0<s.vn
   ·go_wp2
    go_meet;exact⟨⟨_,rfl⟩,rfl⟩
   ·have pvn:decide (0<s.vn)=false:=by simpa using p
    clear p;by_cases p:0<s.pn
    ·go_wp2
     go_meet;exact⟨⟨_,rfl⟩,rfl⟩
    ·have ppn:decide (0<s.pn)=false:=by simpa using p
     clear p;go_wp2;go_meet;exact⟨⟨_,rfl⟩,rfl⟩
 obtain⟨⟨nZ,rfl⟩,rfl⟩:=hcut;cases nZ;rotate_left
 ·go_wp2
  go_ret;exact⟨_,rfl,B1.o⟩
 by_cases q:s.un=0
 ·have q1:((s.un:Int)==0)=true:=by simp[q]
  clear q;go_wp2;go_ret;exact⟨_,rfl,B1.o⟩
 ·have q1:((s.un:Int)==0)=false:=pM
  clear q;go_wp2;go_ret;exact⟨_,rfl,B1.o⟩):G:=s
theorem Ng(s:Sb)(w:World)(h:nD w w.heap.size s):Calls prog 271 #[ae aj 9,s.v] w (PB w):=by
 exact VG
theorem I6(s:Sb)(w:World)(h:nD w w.heap.size s):Calls prog 271 #[ae aj 10,s.v] w (PB w):=by
 exact VG
theorem IX(s:Sb)(w:World)(h:nD w w.heap.size s):Calls prog 271 #[ae aj 11,s.v] w (PB w):=by
 exact VG
theorem JB(s:Sb)(w:World)(h:nD w w.heap.size s):Calls prog 271 #[ae aj 12,s.v] w (PB w):=by
 exact Xr
theorem Lh(k:Int)(i:(k==1)=false)(j:(k==2)=false)(f:(k==3)=false)(n:(k==4)=false)(u:(k==5)=false)(e:(k==6)=false)(t:(k==8)=false)(o:(k==9)=false)(c:(k==10)=false)(d:(k==11)=false)(a:(k==12)=false)(m:(k !=3)=true)(r:(k !=5)=true)(l:(k !=6)=true)(g:(k !=7)=true)(s:Sb)(w:World)(h:nD w w.heap.size s):Calls prog 271 #[ae aj k,s.v] w (PB w):=by
 exact VG
theorem N8:ri:=by
 intro k s w h;by_cases h1:k=1
 ·subst h1;exact Nu s w h
 by_cases h2:k=2
 ·subst h2;exact Kv s w h
 by_cases h3:k=3
 ·subst h3;exact NV s w h
 by_cases h4:k=4
 ·subst h4;exact Mh s w h
 by_cases d:k=5
 ·subst d;exact N6 s w h
 by_cases e:k=6
 ·subst e;exact NR s w h
 by_cases f:k=7
 ·subst f;exact Og s w h
 by_cases i:k=8
 ·subst i;exact Le s w h
 by_cases g:k=9
 ·subst g;exact Ng s w h
 by_cases a:k=10
 ·subst a;exact I6 s w h
 by_cases c:k=11
 ·subst c;exact IX s w h
 by_cases b:k=12
 ·subst b;exact JB s w h
 exact Lh k wU yB Eu Hu (by simpa using d) (by simpa using e) (by simpa using i) (by simpa using g) (by simpa using a) (by simpa using c) (by simpa using b) Eu (by simpa using d) (by simpa using e) (by simpa using f) s w h
theorem cM.ints{k:IntKind}(h:cM w w.heap.size (.num k) A n c):∃xs,aL k w A n c xs:=by
 rcases Nat.eq_zero_or_pos n with rfl|m
 ·exact⟨[],⟨⟨rfl,fun h=>absurd h aq⟩,h.1,h.2.1,aD⟩⟩
 obtain⟨i,r,b,o⟩:=h.2.2.2 m;have a:∀j:Fin n,∃z:Int,(Lit.int k z).wf=true/\w.cell? (i.add j.1)=some (.int k z):=fun j=>by
  obtain⟨s,⟨z,rfl,l⟩,p⟩:=o j.1 j.2;have g:=p 0 _ rfl;rw[pK,show j.1*(Ty.num k).n=j.1 from Nat.mul_one _]at g;exact⟨z,l,g⟩
 let F:Fin n->Int:=fun j=>(a j).choose
 have f:=fun j=>(a j).choose_spec
 refine⟨List.ofFn F,⟨⟨aD,fun _=>⟨i,r,b,fun j d=> ?_⟩⟩,h.1,h.2.1,fun x q=> ?_⟩⟩
 ·have e:nth (List.ofFn F) j=F ⟨j,d⟩:=by simp[nth,d]
  rw[e];exact(f ⟨j,d⟩).2
 ·obtain⟨j,rfl⟩:=List.mem_ofFn.1 q
  exact(f j).1
end Go.Proofs.YtpidckelbgbbkaaGreatDoor
