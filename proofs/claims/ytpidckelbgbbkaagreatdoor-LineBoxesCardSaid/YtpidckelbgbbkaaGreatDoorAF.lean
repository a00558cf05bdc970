/- Part of LineBoxes. -/
import Derived.Test.YtpidckelbgbbkaaGreatDoorAD
namespace Go.Proofs.YtpidckelbgbbkaaGreatDoor
open Go.ChangeShapes Go.WideShapes Go.ChangeAt Go.RowKit Go.Proofs.Tryz
open Go.Value renaming int → ae
open Go.IntKind renaming i64 → aj
set_option linter.all false
set_option maxRecDepth 100000
set_option maxHeartbeats 16000000
variable{B c m n:Nat}{G:Prop}{A:aC}{lv v x y:Int}{w w0:World}
@[go_sem] theorem ael(a b : Int)(c : Bool)(w : World) : (Instr.field 210 (.agg #[ae aj a,ae aj b, .bool c]) 0).run prog w = .ok (ae aj a) w := by kernel_rfl
@[go_sem] theorem afk(a b : Int)(c : Bool)(w : World) : (Instr.field 210 (.agg #[ae aj a,ae aj b, .bool c]) 1).run prog w = .ok (ae aj b) w := by kernel_rfl
@[go_sem] theorem afd(a b : Int)(c : Bool)(w : World) : (Instr.field 210 (.agg #[ae aj a,ae aj b, .bool c]) 2).run prog w = .ok (.bool c) w := by kernel_rfl
theorem FM{W:World}{b:Nat}{c a d e:Value}(h:Bx W b #[c,a,d,e])(u:Value):Bx (W.setCell ⟨b,0,none⟩ u) b #[u,a,d,e]/\Bx (W.setCell ⟨b,1,none⟩ u) b #[c,u,d,e]/\Bx (W.setCell ⟨b,2,none⟩ u) b #[c,a,u,e]/\Bx (W.setCell ⟨b,3,none⟩ u) b #[c,a,d,u]:=⟨by simpa using h.kJ 0 u,by simpa using h.kJ 1 u,by simpa using h.kJ 2 u,by simpa using h.kJ 3 u⟩
theorem TY(A:aC)(n c N:Nat)(i a v cl:Int)(w:World)(h:uD w N A n c v)(hN':N<=100000):Calls prog 156 #[.agg (me A n c i a v),ae aj cl] w (Mx w (N+1)):=by
 obtain⟨y,aP⟩:=eX ((w.alloc (.cells #[.slice A n c,ae aj i,ae aj a,ae aj v] 207)).alloc (.cells #[.slice none 0 0,ae aj 0,ae aj 0,ae aj 0] 207));have W:=Av aP;have I:=sH W.1;have iE:w.heap.size+2<=y.heap.size:=oL;have T:=sH W.2.1;have X2:=sH W.2.2;obtain⟨hN,FH,hcm,s,Qr,TN⟩:=h;have C:=sH Qr;have V:=sH TN;have r:0<n:=Qd;obtain⟨c0,c1,t,U⟩:=T.o.q4;go_enter func156,ntmps156;go_upto_region 1 with fail;rw[<-aP];clear aP;go_cut [5] (fun v L=>(∃z:Int,v=ae aj z)/\ak (Below y.heap.size y L))
 case first=>
  by_cases q1:(cl==17)=true
  ·go_wp2_with fail
   refine(oI A n c i a v s y (C.o.Z I.o I.o.size) r aq).mono ?_;rintro e J ⟨x0,x1,x2,_,rfl,Z⟩;have k:=sH Z;go_wp2_with fail;refine(Ds _ _ _).mono ?_;rintro e B ⟨z,rfl,l⟩;have P:=k.t l;go_wp2;go_meet;exact⟨⟨_,rfl⟩,P⟩
  ·have q1:(cl==17)=false:=by simpa using q1
   go_wp2_with fail;refine(oI A n c i a v s y (C.o.Z I.o I.o.size) r aq).mono ?_;rintro e J ⟨x0,x1,x2,_,rfl,Z⟩;have k:=sH Z;go_wp2_with fail;refine(Ds _ _ _).mono ?_;rintro e B ⟨z,rfl,l⟩;have P:=k.t l;go_wp2;go_meet;exact⟨⟨_,rfl⟩,P⟩
 case rest=>
 obtain⟨⟨z,rfl⟩,k⟩:=hcut;have R:=sH (T.o.ar k.o T.o.lt);have X4:=sH (X2.o.ar k.o X2.o.lt);have BG:=I.t k.o;have fA:=k.o.size;generalize y.heap.size=S1 at*
 rename World=>J
 obtain⟨c0,c1,t,U⟩:=R.o.q4;go_upto_if 18 with fail;go_cut [6] (fun v L=>(∃z:Int,v=ae aj z)/\J=L)
 case first=>
  go_wp2_with fail
  all_goals
   go_meet;exact⟨⟨_,rfl⟩,rfl⟩
 case rest=>
 obtain⟨⟨o,rfl⟩,rfl⟩:=hcut;go_upto_if 20 with fail;go_cut [6] (fun v L=>(∃z:Int,v=ae aj z)/\J=L)
 case first=>
  go_wp2_with fail
  all_goals
   go_meet;exact⟨⟨_,rfl⟩,rfl⟩
 case rest=>
 obtain⟨⟨o,rfl⟩,rfl⟩:=hcut;go_wp2_with fail;refine(ND A n c i a v z J).mono ?_;rintro e B ⟨b,rfl,l⟩;have P:=sH l;have m:=BG.t l;have E:=sH (R.o.ar l R.o.lt);have u:=sH (X4.o.ar l X4.o.lt);obtain⟨c0,c1,t,U⟩:=E.o.q4;cases b
 ·by_cases q:(i==0)=true
  ·have f2:=E.o.fz 2
   have G:=(FM E.o (ae aj (wrap64 (a+1)))).2.2.1;have M:Bx (B.setCell ⟨w.heap.size,2,none⟩ (ae aj (wrap64 (a+1)))) (w.heap.size+1) _:=u.o.iA aq 2 _;have BI:Below w.heap.size w (B.setCell ⟨w.heap.size,2,none⟩ (ae aj (wrap64 (a+1)))):=m.o.setCell (p:=⟨w.heap.size,2,none⟩) cr _;obtain⟨k0,k1,k2,k3⟩:=G.q4;obtain⟨d,H⟩:=(M).heap;have K:=(M).row (ds:= #[.slice A n c,ae aj i,ae aj (wrap64 (a+1)),ae aj v]);obtain⟨j,f⟩:=K.heap;go_wp2_with (refine wpList_store_row rfl 207 (.tmp 4) (.tmp 38) rfl (w.heap.size+1) #[.slice A n c,ae aj i,ae aj (wrap64 (a+1)),ae aj v] rfl aK d _ H aF aK dK ?_);refine bodyPost_ret (results_cell_row results156 _ _ (w.heap.size+1) j _ (0,0) _ aK f underlying207 rfl aF) rfl ?_;exact⟨_,_,_,_,_,_,rfl,⟨aq,aq,aq,s,C.o.Z (below_setRow (BI) aq _) Vx,V.o⟩,below_setRow (BI) aq _⟩
  ·have q:(i==0)=false:=by simpa using q
   obtain⟨d,H⟩:=(u.o).heap;have K:=(u.o).row (ds:= #[.slice A n c,ae aj i,ae aj a,ae aj v]);obtain⟨j,f⟩:=K.heap;go_wp2_with (refine wpList_store_row rfl 207 (.tmp 4) (.tmp 38) rfl (w.heap.size+1) #[.slice A n c,ae aj i,ae aj a,ae aj v] rfl aK d _ H aF aK dK ?_);refine bodyPost_ret (results_cell_row results156 _ _ (w.heap.size+1) j _ (0,0) _ aK f underlying207 rfl aF) rfl ?_;exact⟨_,_,_,_,_,_,rfl,⟨aq,aq,aq,s,C.o.Z (below_setRow (m.o) aq _) (by have:=(m.o).size;simpa using this),V.o⟩,below_setRow (m.o) aq _⟩
 have HA:=sH (fun x=>Wl A n c x s B (C.o.Z m.o m.o.size) aq);go_wp2_with fail;refine(HA.o (z,o,false)).mono ?_;rintro e w5 ⟨D,F,rfl,Q,Y⟩;have BI:=m.t Y;have hz5:=aB.le Q;have hy5:=aB.wL Q
 have hle:(s++[(z,o,false)]).length=n+1:=by have:=C.o.1;simp[this]
 have pR:=m.o.size;have HO:ak (∀O,(∀g:Nat,B.heap.size<=g->O.heap[g]? =w5.heap[g]?)->yM O O.heap.size D (n+1) (s++[(z,o,false)])):=⟨fun O hk=>AQ Q hle hk⟩;have HQ:=sH (V.o.add (z,o,false));have G:=E.o.ar Y E.o.lt;have S:=u.o.ar Y u.o.lt;have Tr:=u.o.lt;have f0:=G.fz 0;have X:=(FM G (.slice D (n+1) F)).1;have M:Bx (w5.setCell ⟨w.heap.size,0,none⟩ (.slice D (n+1) F)) (w.heap.size+1) _:=S.iA aq 0 _;have BJ:Below w.heap.size w (w5.setCell ⟨w.heap.size,0,none⟩ (.slice D (n+1) F)):=BI.o.setCell (p:=⟨w.heap.size,0,none⟩) cr _;obtain⟨c0,c1,t,U⟩:=G.q4;obtain⟨k0,k1,k2,k3⟩:=X.q4;obtain⟨d,H⟩:=(M).heap;have K:=(M).row (ds:= #[.slice D (n+1) F,ae aj i,ae aj a,ae aj v]);obtain⟨j,f⟩:=K.heap;go_wp2_with (refine wpList_store_row rfl 207 (.tmp 4) (.tmp 38) rfl (w.heap.size+1) #[.slice D (n+1) F,ae aj i,ae aj a,ae aj v] rfl aK d _ H aF aK dK ?_);refine bodyPost_ret (results_cell_row results156 _ _ (w.heap.size+1) j _ (0,0) _ aK f underlying207 rfl aF) rfl ?_;exact⟨_,_,_,_,_,_,rfl,⟨aq,aq,aq,_,HO.o _ fun g hg=>AN _ aq _ _ _ aq,HQ.o⟩,below_setRow BJ aq _⟩
theorem vq(A:aC)(n c N:Nat)(i k v:Int)(U:Bool)(w:World)(h:uD w N A n c v)(hN':N<=100000):Calls prog 157 #[.agg (me A n c i k v), .bool U] w (Mx w (N+1)):=by
 obtain⟨W1,aP⟩:=eX ((w.alloc (.cells #[.slice A n c,ae aj i,ae aj k,ae aj v] 207)).alloc (.cells #[.slice none 0 0,ae aj 0,ae aj 0,ae aj 0] 207));have Q:=Av aP;have T:=sH Q.1;have iE:w.heap.size+2<=W1.heap.size:=oL;have P:=sH Q.2.1;have X2:=sH Q.2.2;obtain⟨hN,FH,hcm,y,Qr,TN⟩:=h;have G:=sH Qr;have K:=sH TN;have E:0<n:=Qd;obtain⟨c0,L,f,J⟩:=P.o.q4;go_enter func157,ntmps157;go_upto_region 1 with fail;rw[<-aP];clear aP;go_wp2_with fail;refine(oI A n c i k v y W1 (G.o.Z T.o T.o.size) E aq).mono ?_;rintro e w2 ⟨x0,x1,x2,_,rfl,b2⟩;have B2:=sH b2;go_wp2_with fail;refine(Ds _ _ _).mono ?_;rintro e w4 ⟨z,rfl,C⟩;have Y:=B2.t C;have BG:=T.t Y.o;have O:=sH (P.o.ar Y.o P.o.lt);have X4:=sH (X2.o.ar Y.o X2.o.lt);obtain⟨c0,L,f,J⟩:=O.o.q4;go_wp2_with fail;refine(ND A n c i k v z w4).mono ?_;rintro e j ⟨b,rfl,C⟩;have o:=BG.t C;have d:=sH (O.o.ar C O.o.lt);have s:=sH (X4.o.ar C X4.o.lt);obtain⟨c0,L,f,J⟩:=d.o.q4;cases b
 ·have f1:=d.o.fz 1
  have B:=(FM d.o (ae aj (wrap64 (i+1)))).2.1;have H:Bx (j.setCell ⟨w.heap.size,1,none⟩ (ae aj (wrap64 (i+1)))) (w.heap.size+1) _:=s.o.iA aq 1 _;have BI:aA w (j.setCell ⟨w.heap.size,1,none⟩ (ae aj (wrap64 (i+1)))):=o.o.setCell (p:=⟨w.heap.size,1,none⟩) cr _;obtain⟨k0,k1,k2,k3⟩:=B.q4;obtain⟨l,S⟩:=(H).heap;have X:=(H).row (ds:= #[.slice A n c,ae aj (wrap64 (i+1)),ae aj k,ae aj v]);obtain⟨q,m⟩:=X.heap;go_wp2_with (refine wpList_store_row rfl 207 (.tmp 4) (.tmp 28) rfl (w.heap.size+1) #[.slice A n c,ae aj (wrap64 (i+1)),ae aj k,ae aj v] rfl aK l _ S aF aK dK ?_);refine bodyPost_ret (results_cell_row results157 _ _ (w.heap.size+1) q _ (0,0) _ aK m underlying207 rfl aF) rfl ?_;exact⟨_,_,_,_,_,_,rfl,⟨aq,aq,aq,y,G.o.Z (below_setRow (BI) aq _) Vx,K.o⟩,below_setRow (BI) aq _⟩
 have hv:0<=v/\v<=100000:=by
  have h1:=K.o.abd;have h2:=G.o.1;have h3:=K.o.2.1
  omega
 have f3:=d.o.fz 3;have F:=(FM d.o (ae aj (v+1))).2.2.2;have a:Bx (j.setCell ⟨w.heap.size,3,none⟩ (ae aj (v+1))) (w.heap.size+1) _:=s.o.iA aq 3 _;have D:ak (aA w (j.setCell ⟨w.heap.size,3,none⟩ (ae aj (v+1)))):=⟨o.o.setCell (p:=⟨w.heap.size,3,none⟩) cr _⟩;have wv:wrap64 (v+1)=v+1:=IntWalk.wrap64_in _ aq;go_upto_region 4 with fail;obtain⟨j,r⟩:∃w6,w6=j.setCell ⟨w.heap.size,3,none⟩ (ae aj (v+1)):=⟨_,rfl⟩;rw[<-r]at F a D;rw[<-r];clear r;have d:=sH F;have s:=sH a;have o:=D;obtain⟨c0,L,f,J⟩:=d.o.q4;have HA:=sH (fun x=>Wl A n c x y j (G.o.Z o.o o.o.size) aq);go_wp2_with fail;refine(HA.o (z,0,true)).mono ?_;rintro e W ⟨t,u,rfl,M,V⟩;have BI:=o.t V;have hz5:=aB.le M;have hy5:=aB.wL M
 have hle:(y++[(z,0,true)]).length=n+1:=by have:=G.o.1;simp[this]
 have pR:=o.o.size;have HO:ak (∀I,(∀g:Nat,j.heap.size<=g->I.heap[g]? =W.heap[g]?)->yM I I.heap.size t (n+1) (y++[(z,0,true)])):=⟨fun I hk=>AQ M hle hk⟩;have HQ:=sH (K.o.aeR z 0);have B:=d.o.ar V d.o.lt;have a:=s.o.ar V s.o.lt;have Z:=s.o.lt;have f0:=B.fz 0;have R:=(FM B (.slice t (n+1) u)).1;have H:Bx (W.setCell ⟨w.heap.size,0,none⟩ (.slice t (n+1) u)) (w.heap.size+1) _:=a.iA aq 0 _;have BJ:aA w (W.setCell ⟨w.heap.size,0,none⟩ (.slice t (n+1) u)):=BI.o.setCell (p:=⟨w.heap.size,0,none⟩) cr _;obtain⟨c0,L,f,J⟩:=B.q4;obtain⟨k0,k1,k2,k3⟩:=R.q4;obtain⟨l,S⟩:=(H).heap;have X:=(H).row (ds:= #[.slice t (n+1) u,ae aj i,ae aj k,ae aj (v+1)]);obtain⟨q,m⟩:=X.heap;go_wp2_with (refine wpList_store_row rfl 207 (.tmp 4) (.tmp 28) rfl (w.heap.size+1) #[.slice t (n+1) u,ae aj i,ae aj k,ae aj (v+1)] rfl aK l _ S aF aK dK ?_);refine bodyPost_ret (results_cell_row results157 _ _ (w.heap.size+1) q _ (0,0) _ aK m underlying207 rfl aF) rfl ?_;exact⟨_,_,_,_,_,_,rfl,⟨aq,aq,aq,_,HO.o _ fun g hg=>AN _ aq _ _ _ aq,HQ.o⟩,below_setRow BJ aq _⟩
theorem ab4(A:aC)(n c N:Nat)(i t v:Int)(w:World)(h:uD w N A n c v)(hN':N<=100000):Calls prog 159 #[.agg (me A n c i t v)] w (Mx w N):=by
 obtain⟨q,aP⟩:=eX ((w.alloc (.cells #[.slice A n c,ae aj i,ae aj t,ae aj v] 207)).alloc (.cells #[.slice none 0 0,ae aj 0,ae aj 0,ae aj 0] 207));have M:=Av aP;have D:=sH M.1;have iE:w.heap.size+2<=q.heap.size:=oL;have x:=sH M.2.1;have G:=sH M.2.2;obtain⟨hN,R,hcm,z,Qr,TN⟩:=h;have o:=sH Qr;have s:=sH TN;have W:0<n:=Qd;obtain⟨c0,X,B,S⟩:=x.o.q4;go_enter func159,ntmps159;go_upto_region 1 with fail;rw[<-aP];clear aP;by_cases hi:0<i
 ·have f1:=x.o.fz 1
  have O:=(FM x.o (ae aj (wrap64 (i-1)))).2.1;have F:Bx (q.setCell ⟨w.heap.size,1,none⟩ (ae aj (wrap64 (i-1)))) (w.heap.size+1) _:=G.o.iA aq 1 _;have BI:aA w (q.setCell ⟨w.heap.size,1,none⟩ (ae aj (wrap64 (i-1)))):=D.o.setCell (p:=⟨w.heap.size,1,none⟩) cr _;obtain⟨k0,k1,k2,k3⟩:=O.q4;obtain⟨a,C⟩:=(F).heap;have E:=(F).row (ds:= #[.slice A n c,ae aj (wrap64 (i-1)),ae aj t,ae aj v]);obtain⟨e,d⟩:=E.heap;go_wp2_with (refine wpList_store_row rfl 207 (.tmp 2) (.tmp 11) rfl (w.heap.size+1) #[.slice A n c,ae aj (wrap64 (i-1)),ae aj t,ae aj v] rfl aK a _ C aF aK dK ?_);refine bodyPost_ret (results_cell_row results159 _ _ (w.heap.size+1) e _ (0,0) _ aK d underlying207 rfl aF) rfl ?_;exact⟨_,_,_,_,_,_,rfl,⟨aq,aq,aq,z,o.o.Z (below_setRow (BI) aq _) Vx,s.o⟩,below_setRow (BI) aq _⟩
 by_cases f:(v==0)=true
 ·obtain⟨a,C⟩:=(G.o).heap
  have E:=(G.o).row (ds:= #[.slice A n c,ae aj i,ae aj t,ae aj v]);obtain⟨e,d⟩:=E.heap;go_wp2_with (refine wpList_store_row rfl 207 (.tmp 2) (.tmp 15) rfl (w.heap.size+1) #[.slice A n c,ae aj i,ae aj t,ae aj v] rfl aK a _ C aF aK dK ?_);refine bodyPost_ret (results_cell_row results159 _ _ (w.heap.size+1) e _ (0,0) _ aK d underlying207 rfl aF) rfl ?_;exact⟨_,_,_,_,_,_,rfl,⟨aq,aq,aq,z,o.o.Z (below_setRow (D.o) aq _) (by have:=(D.o).size;simpa using this),s.o⟩,below_setRow (D.o) aq _⟩
 have Y:0<v/\v<=100000:=by
  have h1:=s.o.abd;have h2:=o.o.1;have h3:=s.o.2.1
  have h4:v≠0:=by simpa using f
  omega
 have f:(v==0)=false:=by simpa using f
 have f2:=x.o.fz 2;have H:=sH ((FM x.o (ae aj 0)).2.2.1);have V:ak (Bx (q.setCell ⟨w.heap.size,2,none⟩ (ae aj 0)) (w.heap.size+1) _):=⟨G.o.iA aq 2 _⟩;have I:ak (aA w (q.setCell ⟨w.heap.size,2,none⟩ (ae aj 0))):=⟨D.o.setCell (p:=⟨w.heap.size,2,none⟩) cr _⟩;go_upto_region 7 with fail;obtain⟨J,g⟩:=eX (q.setCell ⟨w.heap.size,2,none⟩ (ae aj 0));rw[<-g]at H V I;rw[<-g];clear g;obtain⟨c0,X,B,S⟩:=H.o.q4;go_wp2;go_loopg [3] (n+1) (fun gg v3 wr=>∃(m:Nat),m<gg/\v3=ae aj (m:Int)/\ak (tO z m)/\wr=J)
 ·exact⟨n,aq,rfl,⟨by have:=tO.start z;rwa [o.o.1]at this⟩,rfl⟩
 obtain⟨m,hg,rfl,K,rfl⟩:=hrel;have Cg:=K.o.pos s.o Y.1;have Ws:m<=n:=by have:=K.o.1;have:=o.o.1;omega
 obtain⟨k,rfl⟩:∃k,m=k+1:=⟨m-1,aq⟩;obtain⟨ad,y,eA,U,e0,e1,e2⟩:=(o.o.Z I.o I.o.size).at (j:=k) aq;have ES:=sH (K.o.step U);have EZ:=sH (K.o.stop s.o Y.1 U);have wk:wrap64 (k:Int)=(k:Int):=IntWalk.wrap64_in _ aq;have k0:=jB k;have k1:=aR k n;obtain⟨u,r,Z,uH,J3,hcut⟩:=yM.cut (P:=prog) (A:=A) (n:=n) Ry (c:=c) (j:=k) aq R (k:Int) rfl;have HC:=sH (hcut w w.heap.size z o.o);subst eA;generalize y.2.2=b at*;cases b
 ·have E2:=sH (ES.o rfl)
  go_wp2;go_roundg (k+1)
  ·exact⟨k,aq,ke,E2,rfl⟩
  omega
 have GZ:=sH (EZ.o rfl);have f0:=H.o.fz 0;have L:=(FM H.o (.slice u k r)).1;have T:Bx (wr.setCell ⟨w.heap.size,0,none⟩ (.slice u k r)) (w.heap.size+1) _:=V.o.iA aq 0 _;have BI:ak (aA w (wr.setCell ⟨w.heap.size,0,none⟩ (.slice u k r))):=⟨I.o.setCell (p:=⟨w.heap.size,0,none⟩) cr _⟩;go_upto_region 11 with fail;obtain⟨J,l⟩:=eX (wr.setCell ⟨w.heap.size,0,none⟩ (.slice u k r));rw[<-l]at L T BI;rw[<-l];clear l;obtain⟨c0,X,B,S⟩:=L.q4;have f3:=L.fz 3;have wv:wrap64 (v-1)=v-1:=IntWalk.wrap64_in _ aq;have O:=(FM L (ae aj (v-1))).2.2.2;have F:Bx (J.setCell ⟨w.heap.size,3,none⟩ (ae aj (v-1))) (w.heap.size+1) _:=T.iA aq 3 _;have Q:aA w (J.setCell ⟨w.heap.size,3,none⟩ (ae aj (v-1))):=BI.o.setCell (p:=⟨w.heap.size,3,none⟩) cr _;obtain⟨k0',k1',k2',k3'⟩:=O.q4;obtain⟨a,C⟩:=(F).heap;have E:=(F).row (ds:= #[.slice u k r,ae aj i,ae aj 0,ae aj (v-1)]);obtain⟨e,d⟩:=E.heap;go_wp2_with (refine wpList_store_row rfl 207 (.tmp 2) (.tmp 40) rfl (w.heap.size+1) #[.slice u k r,ae aj i,ae aj 0,ae aj (v-1)] rfl aK a _ C aF aK dK ?_);refine bodyPost_ret (results_cell_row results159 _ _ (w.heap.size+1) e _ (0,0) _ aK d underlying207 rfl aF) rfl ?_;exact⟨_,_,_,_,_,_,rfl,⟨aq,aq,aq,_,HC.o.Z (below_setRow Q aq _) (by have:=Q.size;simpa using this),GZ.o⟩,below_setRow Q aq _⟩
theorem aaK(s:G:=by
 obtain⟨ee,hX⟩:=(X4.o).heap
 have X9:=(X4.o).row (ds:= #[.slice A n c,ae aj i,ae aj em,ae aj v]);obtain⟨fB,de⟩:=X9.heap;go_wp2_with (refine wpList_store_row rfl 207 (.tmp 2) (.tmp 34) rfl (w.heap.size+1) #[.slice A n c,ae aj i,ae aj em,ae aj v] rfl aK ee _ hX aF aK dK ?_);refine bodyPost_ret (results_cell_row results155 _ _ (w.heap.size+1) fB _ (0,0) _ aK de underlying207 rfl aF) rfl ?_;exact⟨_,_,_,_,_,_,rfl,⟨aq,aq,aq,es,HE.o.Z (below_setRow (B2.o) aq _) afn,HG.o⟩,below_setRow (B2.o) aq _⟩):G:=s
theorem abk(A:aC)(n c N:Nat)(i em v:Int)(w:World)(h:uD w N A n c v)(T:N<=100000):Calls prog 155 #[.agg (me A n c i em v)] w (Mx w N):=by
 obtain⟨r,aP⟩:=eX ((w.alloc (.cells #[.slice A n c,ae aj i,ae aj em,ae aj v] 207)).alloc (.cells #[.slice none 0 0,ae aj 0,ae aj 0,ae aj 0] 207));have u:=Av aP;have a:=sH u.1;have X:w.heap.size+2<=r.heap.size:=oL;have d:=sH u.2.1;have b:=sH u.2.2;obtain⟨hN,z,Q,es,Qr,TN⟩:=h;have HE:=sH Qr;have HG:=sH TN;have l:0<n:=Qd;obtain⟨c0,V,t,J⟩:=d.o.q4;go_enter func155,ntmps155;go_upto_region 1 with fail;rw[<-aP];clear aP;by_cases hi:0<i
 ·obtain⟨ee,hX⟩:=(b.o).heap
  have X9:=(b.o).row (ds:= #[.slice A n c,ae aj i,ae aj em,ae aj v]);obtain⟨fB,de⟩:=X9.heap;go_wp2_with (refine wpList_store_row rfl 207 (.tmp 2) (.tmp 34) rfl (w.heap.size+1) #[.slice A n c,ae aj i,ae aj em,ae aj v] rfl aK ee _ hX aF aK dK ?_);refine bodyPost_ret (results_cell_row results155 _ _ (w.heap.size+1) fB _ (0,0) _ aK de underlying207 rfl aF) rfl ?_;exact⟨_,_,_,_,_,_,rfl,⟨aq,aq,aq,es,HE.o.Z (below_setRow (a.o) aq _) (by have:=(a.o).size;simpa using this),HG.o⟩,below_setRow (a.o) aq _⟩
 by_cases he:0<em
 ·have f2:=d.o.fz 2
  have x:=(FM d.o (ae aj (wrap64 (em-1)))).2.2.1;have q:Bx (r.setCell ⟨w.heap.size,2,none⟩ (ae aj (wrap64 (em-1)))) (w.heap.size+1) _:=b.o.iA aq 2 _;have BI:aA w (r.setCell ⟨w.heap.size,2,none⟩ (ae aj (wrap64 (em-1)))):=a.o.setCell (p:=⟨w.heap.size,2,none⟩) cr _;obtain⟨k0,H,k2,k3⟩:=x.q4;obtain⟨ee,hX⟩:=(q).heap;have X9:=(q).row (ds:= #[.slice A n c,ae aj i,ae aj (wrap64 (em-1)),ae aj v]);obtain⟨fB,de⟩:=X9.heap;go_wp2_with (refine wpList_store_row rfl 207 (.tmp 2) (.tmp 34) rfl (w.heap.size+1) #[.slice A n c,ae aj i,ae aj (wrap64 (em-1)),ae aj v] rfl aK ee _ hX aF aK dK ?_);refine bodyPost_ret (results_cell_row results155 _ _ (w.heap.size+1) fB _ (0,0) _ aK de underlying207 rfl aF) rfl ?_;exact⟨_,_,_,_,_,_,rfl,⟨aq,aq,aq,es,HE.o.Z (below_setRow (BI) aq _) Vx,HG.o⟩,below_setRow (BI) aq _⟩
 go_wp2_with fail;refine(oI A n c i em v es r (HE.o.Z a.o a.o.size) l aq).mono ?_;rintro e C ⟨Z,Y,D,S,rfl,B⟩;have B2:=a.t B;have s:=sH (d.o.ar B d.o.lt);have X4:=sH (b.o.ar B b.o.lt);have R:=sH S;obtain⟨c0,V,t,J⟩:=s.o.q4;by_cases O:1<n;rotate_left
 ·have g:=cF 1 n
  cases D
  ·exact aaK
  ·exact aaK
 cases D;rotate_left
 ·exact aaK
 have g:=aR 1 n;obtain⟨k,rfl⟩:∃k,n=k+1:=⟨n-1,aq⟩;have F:=sH (HG.o.pop (m:=k) HE.o.1 aq (by simpa using R.o) rfl);have wk:wrap64 (k:Int)=(k:Int):=IntWalk.wrap64_in _ aq;have k0:=jB k;have H:(k:Int)<(k:Int)+1:=aq;obtain⟨o,f,E,I,U,hcut⟩:=yM.cut (P:=prog) (A:=A) (n:=k+1) Ry (c:=c) (j:=k) aq z (k:Int) rfl;have M:=sH (hcut w w.heap.size es HE.o);have f0:=s.o.fz 0;have x:=(FM s.o (.slice o k f)).1;have q:Bx (C.setCell ⟨w.heap.size,0,none⟩ (.slice o k f)) (w.heap.size+1) _:=X4.o.iA aq 0 _;have y:aA w (C.setCell ⟨w.heap.size,0,none⟩ (.slice o k f)):=B2.o.setCell (p:=⟨w.heap.size,0,none⟩) cr _;obtain⟨W,G,K,L⟩:=x.q4;obtain⟨ee,hX⟩:=(q).heap;have X9:=(q).row (ds:= #[.slice o k f,ae aj i,ae aj em,ae aj v]);obtain⟨fB,de⟩:=X9.heap;go_wp2_with (refine wpList_store_row rfl 207 (.tmp 2) (.tmp 34) rfl (w.heap.size+1) #[.slice o k f,ae aj i,ae aj em,ae aj v] rfl aK ee _ hX aF aK dK ?_);refine bodyPost_ret (results_cell_row results155 _ _ (w.heap.size+1) fB _ (0,0) _ aK de underlying207 rfl aF) rfl ?_;exact⟨_,_,_,_,_,_,rfl,⟨aq,aq,aq,_,M.o.Z (below_setRow y aq _) (by have:=y.size;simpa using this),F.o⟩,below_setRow y aq _⟩
theorem abE(A:aC)(n c N:Nat)(i b v t:Int)(w:World)(h:uD w N A n c v)(x:N<=100000):Calls prog 154 #[.agg (me A n c i b v),ae aj t] w (PI w):=by
 obtain⟨l,aP⟩:=eX (w.alloc (.cells #[.slice A n c,ae aj i,ae aj b,ae aj v] 207));have j:ak (aA w l):=⟨lY⟩;have k:ak (Bx l w.heap.size #[.slice A n c,ae aj i,ae aj b,ae aj v]):=⟨qR⟩;obtain⟨c0,B,m,z⟩:=k.o.q4;obtain⟨F,C,r,o,Qr,TN⟩:=h;have p:=sH Qr;have a:0<n:=Qd;go_enter func154,ntmps154;go_upto_region 1 with fail;rw[<-aP];clear aP;go_wp2_with fail;refine(oI A n c i b v o l (p.o.Z j.o j.o.size) a aq).mono ?_;rintro e s ⟨E,g,J,_,rfl,d⟩;have f:=j.t d;obtain⟨c0,B,m,z⟩:=(k.o.ar d k.o.lt).q4;by_cases q:(g==0)=true
 ·have y:(g !=0)=false:=by simpa using q
  go_wp2;go_ret;exact⟨_,rfl,f.o⟩
 ·have y:(g !=0)=true:=by simpa using q
  go_wp2_with fail;refine(oI A n c i b v o s (p.o.Z f.o f.o.size) a aq).mono ?_;rintro e H ⟨G,I,D,_,rfl,d⟩;have u:=f.t d;go_wp2;go_ret;exact⟨_,rfl,u.o⟩
theorem acT(s:G:=by
 go_enter func158,ntmps158
 go_wp2_with fail;refine(FQ A n c _ _ w R.o hc hn).mono ?_;rintro e w2 ⟨x,rfl,b2⟩;have B2:=sH b2;go_wp2_with fail
 all_goals
  go_ret;exact⟨_,rfl,B2.o⟩):G:=s
theorem Tm(A C:aC)(n c m d j:Nat)(w:World)(h:Iw w w.heap.size .i64 aN A n)(k:Iw w w.heap.size .i64 aN C m)(hc:n<=c)(hn:n<=100000)(a:j<m):Calls prog 158 #[.slice A n c, .slice C m d,ae aj (j:Int)] w (PB w):=by
 obtain⟨f,z,rfl,_,i⟩:=k.get a;have R:=sH h;have g:=jB j;have j1:=aR j m;by_cases b:z<0
 ·exact acT
 ·exact acT
section
variable {w0 w w' : World} {N B0 M M' n8 c8 n9 c9 : Nat} {A8 A9 : aC}
theorem uD.grown{C:aC}{d E:Nat}{e:TypeId}{vs:List Value}(h:uD w M A n c v)(k:aB w B e E C m d vs)(i:e≠210)(x:w.grownBy w' (Value.slice C m d).ownBlock)(O:w.heap.size<=w'.heap.size):uD w' M A n c v:=by
 obtain⟨K,D,J,G,⟨L,y⟩,r⟩:=h;refine⟨K,D,J,G,⟨L,fun I=> ?_⟩,r⟩;obtain⟨f,F,H,⟨cur,q,o⟩,s⟩:=y I;have key:w'.heap[f.block]? =w.heap[f.block]? :=x.block _ H (by
  rcases aB.dN k with rfl|⟨g,rfl⟩
  ·simp[Value.ownBlock]
  ·intro b
   simp only[Value.ownBlock]at b;injection b with b
   obtain⟨l,p,a⟩:=aB.typ k;rw[<-b,o]at a;injection a with a
   injection a with _ a
   exact i a.symm)
 refine⟨f,F,aq,⟨cur,q,key.trans o⟩,fun j e i=> ?_⟩;obtain⟨u,t,z⟩:=s j e i;exact⟨(World.cell?_of_block JN).trans u,(World.cell?_of_block JN).trans t,(World.cell?_of_block JN).trans z⟩
theorem uD.put{N:Nat}{cs ds:Array Value}(h:uD w M A n c v)(bx:w.heap[N]? =some (.cells cs 207 (0,0))):uD (w.setRow N ds) M A n c v:=by
 obtain⟨x,p,u,s,⟨y,o⟩,f⟩:=h;refine⟨x,p,u,s,⟨y,fun t=> ?_⟩,f⟩;obtain⟨b,r,hl,⟨cur,d,a⟩,i⟩:=o t;have key:(w.setRow N ds).heap[b.block]? =w.heap[b.block]? :=setRow_other _ _ _ _ (fun l=>by
  rw[l,bx]at a;injection a with a
  injection a with _ a
  revert a;decide)
 refine⟨b,r,Be,⟨cur,d,key.trans a⟩,fun j e m=> ?_⟩;obtain⟨k,g,q⟩:=i j e m;exact⟨(World.cell?_of_block JN).trans k,(World.cell?_of_block JN).trans g,(World.cell?_of_block JN).trans q⟩
structure yH(w0 w:World)(N B0 M:Nat)(A8:aC)(n8 c8:Nat)(A9:aC)(n9 c9:Nat):Prop where
 be:aA w0 w
 lo:w0.heap.size<=N
 nb:N<B0
 hB:B0<=w.heap.size
 bx:∃(A:aC) (n c:Nat) (i em v:Int),w.heap[N]? =some (.cells (me A n c i em v) 207 (0,0))/\uD w M A n c v
 l8:Ow w B0 3 .i64 aN A8 n8 c8
 l9:Ow w B0 3 .i64 aN A9 n9 c9
 ap:bO A8 A9
theorem Iw.put{P:Int->Prop}(h:Iw w N .i64 P A n)(cs:Array Value):Iw (w.setRow N cs) N .i64 P A n:=by
 obtain⟨xs,a,b⟩:=h;exact⟨xs,a.mC fun p c=>World.cell?_of_block (setRow_other _ _ _ _ aq),b⟩
theorem yH.ar(h:yH w0 w N B0 M A8 n8 c8 A9 n9 c9)(a:aA w w'):yH w0 w' N B0 M A8 n8 c8 A9 n9 c9:=by
 obtain⟨A,n,c,i,d,v,b,e⟩:=h.bx;have f:=a.size;have:=h.hB;have:=h.be.size;exact⟨h.be.trans (a.mono aq),h.lo,h.nb,aq,⟨A,n,c,i,d,v,(a.block _ (Array.getElem?_eq_some_iff.1 b).1).trans b,e.ar a⟩,h.l8.ar a,h.l9.ar a,h.ap⟩
theorem yH.more(h:yH w0 w N B0 M A8 n8 c8 A9 n9 c9)(a:M<=M'):yH w0 w N B0 M' A8 n8 c8 A9 n9 c9:=by
 obtain⟨A,n,c,i,b,v,d,e⟩:=h.bx;exact⟨h.be,h.lo,h.nb,h.hB,⟨A,n,c,i,b,v,d,e.more a⟩,h.l8,h.l9,h.ap⟩
theorem yH.swap(h:yH w0 w N B0 M A8 n8 c8 A9 n9 c9):yH w0 w N B0 M A9 n9 c9 A8 n8 c8:=⟨h.be,h.lo,h.nb,h.hB,h.bx,h.l9,h.l8,h.ap.symm⟩
theorem Ow.acm{g:Nat}{e:TypeId}(h:Ow w B e .i64 aN A n c)(l:g<B)(cs:Array Value):Ow (w.setRow g cs) B e .i64 aN A n c:=by
 obtain⟨xs,b,j⟩:=h;refine⟨xs,⟨b.1, ?_⟩,j⟩;rcases b.2 with k|⟨i,cap,cur,d,a,f,r⟩
 ·exact .inl k
 ·exact .inr ⟨i,cap,cur,d,a,by rw[setRow_other _ _ _ _ (by omega)];exact f,r⟩
theorem yH.put(h:yH w0 w N B0 M A8 n8 c8 A9 n9 c9){A:aC}{n c:Nat}{v:Int}(i a:Int)(e:uD w M' A n c v):yH w0 (w.setRow N (me A n c i a v)) N B0 M' A8 n8 c8 A9 n9 c9:=by
 obtain⟨g,f,c',j,d,k,b,l⟩:=h.bx;exact⟨below_setRow h.be h.lo _,h.lo,h.nb,by have:=h.hB;simpa using this,⟨A,n,c,i,a,v,setRow_heap _ _ _ _ _ _ b,e.put b⟩,h.l8.acm h.nb _,h.l9.acm h.nb _,h.ap⟩
theorem yH.push(h:yH w0 w N B0 M A8 n8 c8 A9 n9 c9){xs j:aE}(k:Own w B0 3 .i64 A8 n8 c8 xs){d:aC}{c':Nat}(o:Own w' B0 3 .i64 d (n8+1) c' j)(a:Below B0 w w')(f:w.grownBy w' (Value.slice A8 n8 c8).ownBlock)(b:∀g,d=some ⟨g,0,none⟩->A8=some ⟨g,0,none⟩∨w.heap.size<=g):yH w0 w' N B0 M d (n8+1) c' A9 n9 c9:=by
 obtain⟨A,n,c,i,r,v,s,t⟩:=h.bx;have m:=a.size;have x:=h.hB;have z:=h.be.size;have l:=h.nb;have y:=h.lo
 obtain⟨q,e,u⟩:=h.l9;refine⟨h.be.trans (a.mono aq),h.lo,h.nb,aq,⟨A,n,c,i,r,v,(a.block _ l).trans s,t.grown k bQ f m⟩,⟨j,o,fun _ _=>trivial⟩,⟨q,Own.kept e f h.ap.symm (aB.dN k),u⟩, ?_⟩;exact h.ap.grow (fun g p=>by rw[p]at e;exact(aB.sY e).2) b
end
def PL2(w:World)(n:Nat)(e:Ending)(w':World):Prop:=∃(A C:aC) (c d:Nat),e= .returned (.tuple #[.slice A n c, .slice C n d])/\Ow w' w.heap.size 3 .i64 aN A n c/\Ow w' w.heap.size 3 .i64 aN C n d/\aA w w'
def SE(v:Value):Prop:=∃(l o:Int) (b:Bool),v= .agg #[ae aj l,ae aj o, .bool b]
def lvT(a b:Nat)(d:Option Tmp):Option (Value->Prop):=if d=some a then some SE else if d=some b then some SI else none
def ZBo:Sat:=⟨fun v _=>∃b:Bool,v= .bool b,fun _ _ _ h _=>h⟩
def ZSt(M:Nat):Sat:=⟨fun u w=>∃(A:aC) (n c:Nat) (i a v:Int),u= .agg (me A n c i a v)/\uD w M A n c v,fun _ _ _ ⟨A,n,c,i,a,v,d,e⟩ b=>⟨A,n,c,i,a,v,d,e.ar b⟩⟩
theorem ZSt.o{M:Nat}{i j:Int}{w:World}(h:(ZSt M).p (.agg (me A n c i j v)) w):uD w M A n c v:=by
 obtain⟨m,l,c',o,b,p,a,k⟩:=h;simp at a;obtain⟨⟨e,f,d⟩,_,_,g⟩:=a;rw[e,f,d,g];exact k
def fsT(M:Nat)(d:Option Tmp):Option Sat:=if d=some 72 then some ZBo else if d=some 73 then some (ZSt M)else none
theorem ac7(s:G:=by
 obtain⟨A,m,d,i,em,v,bx,hs⟩:=(L3.o).bx
 have BX:ak (Bx _ N (me A m d i em v)):=⟨⟨_,bx⟩⟩;have HS:ak _:=⟨hs⟩;obtain⟨c0,c1,aU,c3⟩:=BX.o.q4;have hM0:m<=_:=hs.1;clear bx hs;go_wp2_with fail;refine(vq A m d _ i em v _ w4 HS.o aq).mono ?_;rintro e w5 ⟨A',n',d',i',e',v',rfl,sM,b5⟩;have L4:ak _:=⟨L3.o.ar b5⟩;have Je:ak (Iw w5 N .i64 aN MA n):=⟨Bc.o.Z (b5.mono Et) cr⟩;have L5:ak _:=⟨(L4.o.put i' e' sM).more (M':=j+2) aq⟩;obtain⟨A6,m6,d6,i6,em6,v6,hX,_⟩:=L4.o.bx;have GM:ak (Iw (w5.setRow N (me A' n' d' i' e' v')) N .i64 aN MA n):=⟨Je.o.put _⟩;clear b5 sM;go_wp2_with (refine wpList_store_row rfl 207 (.tmp 7) (.tmp 64) rfl N (me A' n' d' i' e' v') rfl aK 207 _ hX aF aK dK ?_);go_meet;exact⟨⟨_,rfl⟩,⟨_,rfl⟩,L5,GM⟩):G:=s
theorem adN(s:G:=by
 obtain⟨nq,rfl⟩:=cv
 go_simp;obtain⟨k1,k2,k3,es,k4,k5⟩:=HL.o nq.1 nq.2;refine(oI A m d i em v es nq.1 k4 (by rw[<-k4.1];exact k5.len) aq).mono ?_;rintro e w5 ⟨l,o,b,_,rfl,hb⟩;exact⟨_,rfl,⟨l,o,b,rfl⟩,⟨⟨w5,nq.2.trans (hb.mono nq.2.size)⟩,rfl⟩⟩):G:=s
theorem acC(s:G:=by
 obtain⟨nq,rfl⟩:=cv
 go_simp;refine(abE A m d _ i em v _ nq.1 (HL.o nq.1 nq.2) aq).mono ?_;rintro e w5 ⟨z,rfl,hb⟩;exact⟨_,rfl,⟨z,rfl⟩,⟨⟨w5,nq.2.trans (hb.mono nq.2.size)⟩,rfl⟩⟩):G:=s
theorem Mm(A:aC)(n c:Nat)(base:Int)(w:World)(h:Iw w w.heap.size .i64 aN A n)(hc:n<=c)(hn:n<=10000):Calls prog 86 #[.slice A n c,ae aj base] w (PL2 w n):=by
 have R:ak _:=⟨h⟩;obtain⟨xs,hx,_⟩:=h;have PM:ak _:=⟨oe A n c xs w hx aq⟩;clear hx;go_enter func86,ntmps86;go_wp2_with fail;refine PM.o.mono ?_;rintro e w1 ⟨MA,mc,rfl,om,b1⟩;have Q:ak (Iw w1 w1.heap.size .i64 aN MA n):=⟨⟨_,om.ints,fun _ _=>trivial⟩⟩;have Y:ak _:=⟨b1⟩;clear om b1 PM;go_wp2_with fail;refine(Fl base w1).mono ?_;rintro e I ⟨A2,n2,c2,V,e2,v2,rfl,O,T⟩;have S:ak (aA w I):=⟨Y.o.trans (T.mono Y.o.size)⟩;have p:ak _:=⟨Q.o.Z T T.size⟩;obtain⟨N,s⟩:∃N,N=I.heap.size:=⟨_,rfl⟩;have H:ak (yH w (I.alloc (.cells (me A2 n2 c2 V e2 v2) 207)) N (N+1) 1 none 0 0 none 0 0):=⟨⟨S.o.alloc S.o.size _,by rw[s];exact S.o.size,aq,by simp[s],⟨_,_,_,_,_,_,by rw[s];exact heap_alloc_new _ _,O.ar (av _ _)⟩,Ow.nil _ _ _ _ _,Ow.nil _ _ _ _ _,ud _⟩⟩;have Bc:ak (Iw (I.alloc (.cells (me A2 n2 c2 V e2 v2) 207)) N .i64 aN MA n):=⟨by rw[s];exact p.o.Z (av _ _) cr⟩;clear T O Q p Y S;go_upto_region 3 with fail;have Je:ak _:=⟨Bc⟩;rw[s]at H;obtain⟨r,D⟩:∃r,r=I.alloc (.cells (me A2 n2 c2 V e2 v2) 207):=⟨_,rfl⟩;rw[<-D]at H Bc;have q:=D;dsimp only[me]at q;rw[<-q];rw[<-s]at H;clear D q Je;go_wp2;rw[<-s];clear s;go_loopg [8,9,10,11,12,13] (n+1) (fun gg v8 C v10 _ _ _ wr=>∃(j:Nat) (A8:aC) (c8:Nat) (A9:aC) (c9:Nat),n-j<gg/\j<=n/\v8= .slice A8 j c8/\C= .slice A9 j c9/\v10=ae aj (j:Int)/\ak (yH w wr N (N+1) (j+1) A8 j c8 A9 j c9)/\ak (Iw wr N .i64 aN MA n))
 ·exact⟨0,none,0,none,0,aq,aq,rfl,rfl,rfl,H,Bc⟩
 clear H Bc;obtain⟨j,A8,c8,A9,c9,hg,hj,rfl,rfl,rfl,L,Q⟩:=hrel;by_cases J:j<n;rotate_left
 ·have i4:=cF j n
  obtain rfl:j=n:=aq;have l5:=L.o.lo;go_wp2;go_ret2;exact⟨_,_,_,_,rfl,L.o.l8.cN aq,L.o.l9.cN aq,L.o.be⟩
 have i4:=aR j n;obtain⟨ad,g,rfl,_,e0⟩:=(R.o.Z L.o.be L.o.be.size).get J;go_upto_region 8 with fail;obtain⟨A,m,d,i,em,v,bx,hs⟩:=((L).o).bx;have BX:ak (Bx _ N (me A m d i em v)):=⟨⟨_,bx⟩⟩;have HS:ak _:=⟨hs⟩;obtain⟨c0,c1,aU,c3⟩:=BX.o.q4;have hM0:m<=_:=hs.1;clear bx hs;have L0:=aw c0;have L1:=aw c1;have L3:=aw aU;have L4:=aw c3
 have HL:ak _:=⟨fun(W:World) (hb:Below (wr).heap.size (wr) W)=>HS.o.ar hb⟩;clear c0 c1 aU c3;refine aG (lvT 29 33) aF aF ?_;refine ak.o ?_
 repeat first
  |(refine lf aK aK aK ?_;intro E a;go_big_quiet_op;refine a _ ?_)
  |(refine jG aK ?_;simp[Act.put])
 refine⟨?_⟩;refine iW SE aK aK (fun K cv=> ?_) (fun C f=> ?_)
 ·exact adN
 obtain⟨l,o,b,rfl⟩:=f;simp[Act.put];refine ak.o ?_
 repeat first
  |(refine lf aK aK aK ?_;intro E a;go_big_quiet_op;refine a _ ?_)
  |(refine jG aK ?_;simp[Act.put])
 refine⟨?_⟩;refine iW SI aK aK (fun K cv=> ?_) (fun C f=> ?_)
 ·exact acC
 obtain⟨z,rfl⟩:=f;simp[Act.put];refine ak.o ?_
 repeat first
  |(refine lf aK aK aK ?_;intro E a;go_big_quiet_op;refine a _ ?_)
  |(refine jG aK ?_;simp[Act.put])
 refine⟨?_⟩
 first
  |(intro (nq:aI _);obtain⟨r,t⟩:=nq)
  |(rintro r ⟨⟨_,t⟩,rfl⟩)
 have G:ak _:=⟨(L).o.ar t⟩
 try dsimp only
 clear L0 L1 L3 L4 HL BX HS;have p:ak (Iw r N .i64 aN MA n):=⟨Q.o.Z (t.mono (by have:=L.o.hB;omega)) cr⟩;clear t Q L;go_upto_block 2 with fail;go_cut [12,13] (fun Z X U=>(∃z:Int,Z=ae aj z)/\(∃z:Int,X=ae aj z)/\ak (yH w U N (N+1) (j+2) (A8) j c8 A9 j c9)/\ak (Iw U N .i64 aN MA n))
 case first=>
  go_wp2_with fail;refine(kM g r).mono ?_;rintro e w4 ⟨b,rfl,b3⟩;have L3:ak _:=⟨G.o.ar b3⟩;have Bc:ak (Iw w4 N .i64 aN MA n):=⟨p.o.Z (b3.mono (by have:=G.o.hB;omega)) cr⟩;clear b3 G p e0;cases b
  ·by_cases P:(g==20)=true
   ·exact ac7
   have P:(g==20)=false:=(by simpa using P);by_cases u:(g==21)=true
   ·exact ac7
   have u:(g==21)=false:=(by simpa using u);by_cases q3:(g==22)=true
   ·obtain⟨A,m,d,i,em,v,bx,hs⟩:=(L3.o).bx
    have BX:ak (Bx _ N (me A m d i em v)):=⟨⟨_,bx⟩⟩;have HS:ak _:=⟨hs⟩;obtain⟨c0,c1,aU,c3⟩:=BX.o.q4;have hM0:m<=_:=hs.1;clear bx hs;go_upto_region 20 with fail;have P0:=aw c0;have P1:=aw c1;have P2:=aw aU;have P3:=aw c3
    clear c0 c1 aU c3;have RI:ak _:=⟨R.o.Z L3.o.be L3.o.be.size⟩;have MW:ak (Iw w4 w4.heap.size .i64 aN MA n):=⟨Bc.o.Z (Below.refl _ _) Et⟩;refine aT (fsT (j+2)) 6 rfl aF aF aF aF aF rfl ?_
    repeat(refine bR aK aK aK ?_;intro E a;go_big_quiet_op;go_big_quiet_on)
    refine cG ZBo aK aK (fun K cv=> ?_) (fun C f=> ?_)
    ·obtain⟨nq,rfl⟩:=cv
     go_simp;refine aW ZBo ((Tm (some ad) MA n c n mc j nq.1 (RI.o.Z nq.2 nq.2.size) (MW.o.Z nq.2 nq.2.size) hc aq J).mono ?_);rintro e w5 ⟨b,rfl,hb⟩;exact⟨_,rfl,⟨b,rfl⟩,hb⟩
    obtain⟨_,_,b,rfl⟩:=f;simp[Act.put];refine cG (ZSt (j+2)) aK aK (fun K cv=> ?_) (fun C f=> ?_)
    ·obtain⟨nq,rfl⟩:=cv
     go_simp;refine aW (ZSt (j+2)) ((vq A m d _ i em v b nq.1 (HS.o.ar nq.2) aq).mono ?_);rintro e w5 ⟨A',n',d',i',e',v',rfl,sM,hb⟩;exact⟨_,rfl,⟨_,_,_,_,_,_,rfl,sM⟩,hb⟩
    obtain⟨_,_,A',n',d',i',e',v',rfl,_⟩:=f;simp[Act.put];intro nq hE;have sM:=ZSt.o hE.2;clear hE;obtain⟨w5,b5⟩:=nq;dsimp only at sM⊢;have L4:ak _:=⟨L3.o.ar b5⟩;have Je:ak (Iw w5 N .i64 aN MA n):=⟨Bc.o.Z (b5.mono Et) cr⟩;have L5:ak _:=⟨(L4.o.put i' e' sM).more (M':=j+2) aq⟩;obtain⟨A6,m6,d6,i6,em6,v6,hX,_⟩:=L4.o.bx;have GM:ak (Iw (w5.setRow N (me A' n' d' i' e' v')) N .i64 aN MA n):=⟨Je.o.put _⟩;clear b5 sM;clear P0 P1 P2 P3;refine wp_store_row 207 (.tmp 7) (.tmp 73) rfl N (me A' n' d' i' e' v') rfl rfl 207 _ hX aF rfl dK ?_;go_wp2;go_meet;exact⟨⟨_,rfl⟩,⟨_,rfl⟩,L5,GM⟩
   have q3:(g==22)=false:=(by simpa using q3);by_cases q4:(g==23)=true
   ·obtain⟨A,m,d,i,em,v,bx,hs⟩:=(L3.o).bx
    have BX:ak (Bx _ N (me A m d i em v)):=⟨⟨_,bx⟩⟩;have HS:ak _:=⟨hs⟩;obtain⟨c0,c1,aU,c3⟩:=BX.o.q4;have hM0:m<=_:=hs.1;clear bx hs;go_wp2_with fail;refine(ab4 A m d _ i em v w4 HS.o aq).mono ?_;rintro e w5 ⟨A',n',d',i',e',v',rfl,sM,b5⟩;have L4:ak _:=⟨L3.o.ar b5⟩;have Je:ak (Iw w5 N .i64 aN MA n):=⟨Bc.o.Z (b5.mono Et) cr⟩;have L5:ak _:=⟨(L4.o.put i' e' sM).more (M':=j+2) aq⟩;obtain⟨A6,m6,d6,i6,em6,v6,hX,_⟩:=L4.o.bx;have GM:ak (Iw (w5.setRow N (me A' n' d' i' e' v')) N .i64 aN MA n):=⟨Je.o.put _⟩;clear b5 sM;go_upto_region 23 with(refine wpList_store_row rfl 207 (.tmp 7) (.tmp 78) rfl N (me A' n' d' i' e' v') rfl aK 207 _ hX aF aK dK ?_)
    obtain⟨F,B⟩:∃F,F=w5.setRow N (me A' n' d' i' e' v'):=⟨_,rfl⟩;rw[<-B]at L5 GM;rw[<-B];clear B c0 c1 aU c3 BX HS hX;simp only[Act.put];obtain⟨A,m,d,i,em,v,bx,hs⟩:=((L5).o).bx;have BX:ak (Bx _ N (me A m d i em v)):=⟨⟨_,bx⟩⟩;have HS:ak _:=⟨hs⟩;obtain⟨c0,c1,aU,c3⟩:=BX.o.q4;have hM0:m<=_:=hs.1;clear bx hs;have L0:=aw c0;have L1:=aw c1;have L3:=aw aU;have L4:=aw c3
    have HL:ak _:=⟨fun(W:World) (hb:Below (F).heap.size (F) W)=>HS.o.ar hb⟩;clear c0 c1 aU c3;refine aG (lvT 80 84) aF aF ?_;refine ak.o ?_
    repeat first
     |(refine lf aK aK aK ?_;intro E a;go_big_quiet_op;refine a _ ?_)
     |(refine jG aK ?_;simp[Act.put])
    refine⟨?_⟩;refine iW SE aK aK (fun K cv=> ?_) (fun C f=> ?_)
    ·exact adN
    obtain⟨l,o,b,rfl⟩:=f;simp[Act.put];refine ak.o ?_
    repeat first
     |(refine lf aK aK aK ?_;intro E a;go_big_quiet_op;refine a _ ?_)
     |(refine jG aK ?_;simp[Act.put])
    refine⟨?_⟩;refine iW SI aK aK (fun K cv=> ?_) (fun C f=> ?_)
    ·exact acC
    obtain⟨z,rfl⟩:=f;simp[Act.put];refine ak.o ?_
    repeat first
     |(refine lf aK aK aK ?_;intro E a;go_big_quiet_op;refine a _ ?_)
     |(refine jG aK ?_;simp[Act.put])
    refine⟨?_⟩
    first
     |(intro (nq:aI _);obtain⟨r,t⟩:=nq)
     |(rintro r ⟨⟨_,t⟩,rfl⟩)
    have G:ak _:=⟨(L5).o.ar t⟩
    try dsimp only
    clear L0 L1 L3 L4 HL BX HS;have x:ak (Iw r N .i64 aN MA n):=⟨GM.o.Z (t.mono (by have:=L5.o.hB;omega)) cr⟩;go_wp2;go_meet;exact⟨⟨_,rfl⟩,⟨_,rfl⟩,G,x⟩
   have q4:(g==23)=false:=(by simpa using q4);by_cases q5:(g==11)=true
   ·go_wp2_with fail
    refine(Fl base w4).mono ?_;rintro e w5 ⟨A',n',d',i',e',v',rfl,sM,b5⟩;have L4:ak _:=⟨L3.o.ar b5⟩;have Je:ak (Iw w5 N .i64 aN MA n):=⟨Bc.o.Z (b5.mono Et) cr⟩;have L5:ak _:=⟨(L4.o.put i' e' sM).more (M':=j+2) aq⟩;obtain⟨A6,m6,d6,i6,em6,v6,hX,_⟩:=L4.o.bx;have GM:ak (Iw (w5.setRow N (me A' n' d' i' e' v')) N .i64 aN MA n):=⟨Je.o.put _⟩;clear b5 sM;go_wp2_with (refine wpList_store_row rfl 207 (.tmp 7) (.tmp 91) rfl N (me A' n' d' i' e' v') rfl aK 207 _ hX aF aK dK ?_);go_meet;exact⟨⟨_,rfl⟩,⟨_,rfl⟩,L5,GM⟩
   have q5:(g==11)=false:=(by simpa using q5);go_wp2;go_meet;exact⟨⟨_,rfl⟩,⟨_,rfl⟩,⟨L3.o.more aq⟩,Bc⟩
  go_upto_if 39 with fail;go_cut [12] (fun v U=>(∃z:Int,v=ae aj z)/\w4=U)
  case first=>
   rcases j with _|k
   ·go_wp2
    go_meet;exact⟨⟨_,rfl⟩,rfl⟩
   ·obtain⟨ad8,y,rfl,_,y0⟩:=L3.o.l8.iw.get (show k<k+1 by omega)
    have wk:wrap64 (k:Int)=(k:Int):=IntWalk.wrap64_in _ aq;have k0:=jB k;have k1:(k:Int)<(k:Int)+1:=aq;have k2:(0:Int)<(k:Int)+1:=aq;go_wp2;go_meet;exact⟨⟨_,rfl⟩,rfl⟩
  case rest=>
  obtain⟨⟨z,rfl⟩,rfl⟩:=hcut;by_cases P:(g==19)=true
  ·obtain⟨A,m,d,i,em,v,bx,hs⟩:=(L3.o).bx
   have BX:ak (Bx _ N (me A m d i em v)):=⟨⟨_,bx⟩⟩;have HS:ak _:=⟨hs⟩;obtain⟨c0,c1,aU,c3⟩:=BX.o.q4;have hM0:m<=_:=hs.1;clear bx hs;go_wp2_with fail;refine(abk A m d _ i em v w4 HS.o aq).mono ?_;rintro e w5 ⟨A',n',d',i',e',v',rfl,sM,b5⟩;have L4:ak _:=⟨L3.o.ar b5⟩;have Je:ak (Iw w5 N .i64 aN MA n):=⟨Bc.o.Z (b5.mono Et) cr⟩;have L5:ak _:=⟨(L4.o.put i' e' sM).more (M':=j+2) aq⟩;obtain⟨A6,m6,d6,i6,em6,v6,hX,_⟩:=L4.o.bx;have GM:ak (Iw (w5.setRow N (me A' n' d' i' e' v')) N .i64 aN MA n):=⟨Je.o.put _⟩;clear b5 sM;go_wp2_with (refine wpList_store_row rfl 207 (.tmp 7) (.tmp 48) rfl N (me A' n' d' i' e' v') rfl aK 207 _ hX aF aK dK ?_);go_meet;exact⟨⟨_,rfl⟩,⟨_,rfl⟩,L5,GM⟩
  have P:(g==19)=false:=by simpa using P
  by_cases u:(g==10)=true
  ·have u:(g !=10)=false:=by simpa using u
   go_wp2;go_meet;exact⟨⟨_,rfl⟩,⟨_,rfl⟩,⟨L3.o.more aq⟩,Bc⟩
  have u:(g !=10)=true:=by simpa using u
  obtain⟨A,m,d,i,em,v,bx,hs⟩:=(L3.o).bx;have BX:ak (Bx _ N (me A m d i em v)):=⟨⟨_,bx⟩⟩;have HS:ak _:=⟨hs⟩;obtain⟨c0,c1,aU,c3⟩:=BX.o.q4;have hM0:m<=_:=hs.1;clear bx hs;go_wp2_with fail;refine(TY A m d _ i em v g w4 HS.o aq).mono ?_;rintro e w5 ⟨A',n',d',i',e',v',rfl,sM,b5⟩;have L4:ak _:=⟨L3.o.ar b5⟩;have Je:ak (Iw w5 N .i64 aN MA n):=⟨Bc.o.Z (b5.mono Et) cr⟩;have L5:ak _:=⟨(L4.o.put i' e' sM).more (M':=j+2) aq⟩;obtain⟨A6,m6,d6,i6,em6,v6,hX,_⟩:=L4.o.bx;have GM:ak (Iw (w5.setRow N (me A' n' d' i' e' v')) N .i64 aN MA n):=⟨Je.o.put _⟩;clear b5 sM;go_wp2_with (refine wpList_store_row rfl 207 (.tmp 7) (.tmp 53) rfl N (me A' n' d' i' e' v') rfl aK 207 _ hX aF aK dK ?_);go_meet;exact⟨⟨_,rfl⟩,⟨_,rfl⟩,L5,GM⟩
 case rest=>
 obtain⟨⟨z1,rfl⟩,⟨z2,rfl⟩,L3,Bc⟩:=hcut;obtain⟨xs8,o8,_⟩:=L3.o.l8;have O8:ak _:=⟨o8⟩;have hB3:=L3.o.hB;clear o8 G p e0;go_upto_region 28 with(at_builtin;refine a7 nA rfl (.tmp 92) (.tmp 94) rfl rfl (O8.o.alloc _) rfl (aX _ _ _) aq cA ?_;intro A5 c5 w5 o5 b5 g5 t5;have L5:ak _:=⟨(L3.o.ar (av _ _)).push (O8.o.alloc _) o5 b5 g5 t5⟩;have GM:ak (Iw w5 N .i64 aN MA n):=⟨(Bc.o.Z ((av _ _).mono aq) cr).Z (b5.mono aq) cr⟩;clear o5 b5 g5 t5)
 obtain⟨xs9,o9,_⟩:=L5.o.l9;have O9:ak _:=⟨o9⟩;have hB5:=L5.o.hB;clear o9 L3 Bc O8;go_wp2_with (at_builtin;refine a7 nA rfl (.tmp 96) (.tmp 98) rfl rfl (O9.o.alloc _) rfl (aX _ _ _) aq cA ?_;intro A6 c6 F o6 b6 g6 t6;have L6:ak _:=⟨(((L5.o.swap).ar (av _ _)).push (O9.o.alloc _) o6 b6 g6 t6).swap⟩;have x:ak (Iw F N .i64 aN MA n):=⟨(GM.o.Z ((av _ _).mono aq) cr).Z (b6.mono aq) cr⟩;clear o6 b6 g6 t6);go_roundg (n-j)
 case measure=>omega
 case rel=>exact⟨j+1,A5,c5,A6,c6,aq,aq,rfl,rfl,aQ,L6,x⟩
def lg(n:Nat)(z:Int):Prop:=0<=z/\z<n
theorem rO(z:Int)(w:World):Calls prog 161 #[ae aj z] w (PB w):=by
 go_enter func161,ntmps161;by_cases a:(z==20)=true
 ·go_wp2
  go_ret;exact⟨_,rfl,Below.refl _ _⟩
 have a:(z==20)=false:=by simpa using a
 by_cases b:(z==21)=true
 ·go_wp2
  go_ret;exact⟨_,rfl,Below.refl _ _⟩
 have b:(z==21)=false:=by simpa using b
 go_wp2;go_ret;exact⟨_,rfl,Below.refl _ _⟩
theorem Wz(a b:Int)(w:World):Calls prog 163 #[ae aj a,ae aj b] w (PI w):=by
 go_enter func163,ntmps163;go_wp2_with fail
 all_goals
  go_ret;exact⟨_,rfl,Below.refl _ _⟩
def abj(w:World)(n:Nat)(e:Ending)(a:World):Prop:=∃(A:aC) (m c:Nat),m<=n/\e= .returned (.slice A m c)/\Ow a w.heap.size 3 .i64 (lg n) A m c/\aA w a
theorem Zq(A:aC)(n c:Nat)(w:World)(h:Iw w w.heap.size .i64 aN A n)(F:n<=10000):Calls prog 229 #[.slice A n c] w (abj w n):=by
 have R:=sH h;go_enter func229,ntmps229;go_wp2;go_loopg [3,4] (n+1) (fun gg v3 v4 wr=>∃(j m:Nat) (C:aC) (d:Nat),n-j<gg/\j<=n/\m<=j/\v3= .slice C m d/\v4=ae aj (j:Int)/\ak (Ow wr w.heap.size 3 .i64 (lg n) C m d)/\ak (aA w wr))
 ·exact⟨0,0,none,0,aq,aq,aq,rfl,rfl,⟨Ow.nil _ _ _ _ _⟩,cB⟩
 obtain⟨j,m,C,d,D,G,H,rfl,rfl,o,a⟩:=hrel;by_cases f:j<n;rotate_left
 ·have r:=cF j n
  go_wp2;go_ret;exact⟨_,_,_,aq,rfl,o.o,a.o⟩
 have r:=aR j n;obtain⟨B,z,rfl,_,E⟩:=(R.o.Z a.o a.o.size).get f;go_wp2_with fail;refine(kM z wr).mono ?_;rintro e y ⟨b,rfl,k⟩;have g:=a.t k;have l:=sH (o.o.ar k);have s:=g.o.size;have q:ak (lg n (j:Int)):=⟨⟨aq,aq⟩⟩;cases b
 ·go_wp2_with (at_builtin;refine bS nA rfl (.tmp 17) (.tmp 19) rfl rfl (l.o.alloc _) rfl (aX _ _ _) q.o aq cA ?_;intro t c8 v i p;have u:=sH i;have x:ak (aA w v):=⟨(g.o.alloc aq _).trans p⟩;clear i p)
  go_roundg (n-j)
  ·exact⟨j+1,m+1,t,c8,aq,aq,aq,rfl,aQ,u,x⟩
  omega
 ·go_wp2
  go_roundg (n-j)
  ·exact⟨j+1,m,C,d,aq,aq,aq,rfl,aQ,l,g⟩
  omega
theorem adn(s:G:=by
 obtain⟨gP,y,rfl,_,e1⟩:=(S.o.Z B2.o B2.o.size).get (show i<n by omega)
 go_wp2;go_ret;exact⟨_,rfl,B2.o⟩):G:=s
theorem VA(s:G:=by
 go_wp2
 go_ret;exact⟨_,rfl,BE.o⟩):G:=s
theorem zu(A C:aC)(n c d:Nat)(at_:Nat)(a base:Int)(w:World)(h:Iw w w.heap.size .i64 aN A n)(k:Iw w w.heap.size .i64 aN C n)(B:n<=10000)(D:at_<n)(s:a=1∨a= -1):Calls prog 164 #[.slice A n c, .slice C n d,ae aj (at_:Int),ae aj a,ae aj base] w (PI w):=by
 have R:=sH h;have S:=sH k;rcases s with rfl|rfl
 ·go_enter func164,ntmps164
  have v:wrap64 ((at_:Int)+1)=(at_:Int)+1:=IntWalk.wrap64_in _ aq;go_wp2;go_loopg [11] (n+2) (fun gg f wr=>∃(x:Int),f=ae aj x/\-1<=x/\x<=n/\((n:Int)-x).toNat<gg/\ak (aA w wr))
  ·exact⟨_,rfl,aq,aq,aq,cB⟩
  obtain⟨x,rfl,u,q,p,BE⟩:=hrel;by_cases t:0<=x;rotate_left
  ·exact VA
  by_cases j:x<n;rotate_left
  ·exact VA
  obtain⟨i,rfl⟩:∃i:Nat,x=i:=⟨x.toNat,aq⟩;obtain⟨m,z,rfl,_,r⟩:=(R.o.Z BE.o BE.o.size).get (show i<n by omega);go_wp2_with fail;refine(kM z wr).mono ?_;rintro e l ⟨b,rfl,g⟩;have B2:=BE.t g;cases b
  ·exact adn
  ·have o:wrap64 ((i:Int)+1)=(i:Int)+1:=IntWalk.wrap64_in _ aq
   go_wp2;go_roundg (gk-1)
   ·exact⟨_,rfl,aq,aq,aq,B2⟩
   omega
 ·go_enter func164,ntmps164
  have v:wrap64 ((at_:Int)+(-1))=(at_:Int)+(-1):=IntWalk.wrap64_in _ aq;go_wp2;go_loopg [11] (n+2) (fun gg f wr=>∃(x:Int),f=ae aj x/\-1<=x/\x<=n/\(x+1).toNat<gg/\ak (aA w wr))
  ·exact⟨_,rfl,aq,aq,aq,cB⟩
  obtain⟨x,rfl,u,q,p,BE⟩:=hrel;by_cases t:0<=x;rotate_left
  ·exact VA
  by_cases j:x<n;rotate_left
  ·exact VA
  obtain⟨i,rfl⟩:∃i:Nat,x=i:=⟨x.toNat,aq⟩;obtain⟨m,z,rfl,_,r⟩:=(R.o.Z BE.o BE.o.size).get (show i<n by omega);go_wp2_with fail;refine(kM z wr).mono ?_;rintro e l ⟨b,rfl,g⟩;have B2:=BE.t g;cases b
  ·exact adn
  ·have o:wrap64 ((i:Int)+(-1))=(i:Int)+(-1):=IntWalk.wrap64_in _ aq
   go_wp2;go_roundg (gk-1)
   ·exact⟨_,rfl,aq,aq,aq,B2⟩
   omega
def abn(w:World)(B n M:Nat)(e:Ending)(c:World):Prop:=c=w/\∃(a:aC) (m b:Nat),e= .returned (.slice a m b)/\m<=M/\Iw w B .i64 (lg n) a m
theorem Yr(A:aC)(k c n M B:Nat)(at_:Int)(w:World)(h:DF w B (lg n) M A k)(C:k<=10000)(G:M<=10000):Calls prog 162 #[.slice A k c,ae aj at_] w (abn w B n M):=by
 have R:=sH h;go_enter func162,ntmps162;go_wp2;go_loopg [5,6] (k+1) (fun gg r _ wr=>∃(i:Nat),k-i<gg/\i<=k/\r=ae aj (i:Int)/\wr=w)
 ·exact⟨0,aq,aq,rfl,rfl⟩
 obtain⟨i,y,H,rfl,rfl⟩:=hrel;by_cases d:i<k;rotate_left
 ·have o:=cF i k
  go_wp2;go_ret;exact⟨rfl,none,0,0,rfl,aq,[],bh.nil,aD⟩
 have o:=aR i k;obtain⟨x,F,m,I,rfl,_,D,l,b,t⟩:=R.o i d;have j:=sH t;go_wp2;go_loopg [6] (m+1) (fun gg p a=>∃(q:Nat),m-q<gg/\q<=m/\p=ae aj (q:Int)/\a=wr)
 ·exact⟨0,aq,aq,rfl,rfl⟩
 obtain⟨q,s,J,rfl,rfl⟩:=hrel;by_cases f:q<m;rotate_left
 ·have u:=cF q m
  go_wp2;go_roundg (k-i)
  ·exact⟨i+1,aq,aq,aQ,rfl⟩
  omega
 have u:=aR q m;obtain⟨v,z,rfl,_,E⟩:=j.o.get f;by_cases g:z=at_
 ·have e:(z==at_)=true:=by simp[g]
  go_wp2;go_ret;exact⟨rfl,_,_,_,rfl,b,j.o⟩
 ·have e:(z==at_)=false:=by simp[g]
  go_wp2;go_roundg (m-q)
  ·exact⟨q+1,aq,aq,aQ,rfl⟩
  omega
theorem TII:aS prog 80 43 1 24:=bD underlying80 (z:= .slice none 0 0) aF rfl aq aq
def PRu(w:World)(n:Nat)(e:Ending)(a:World):Prop:=∃(A:aC) (k c:Nat),k<=n/\e= .returned (.slice A k c)/\DF a a.heap.size (lg n) n A k/\aA w a
theorem Nt{k M:Nat}{i d:TypeId}{P:Int->Prop}{b:List Rw}(h:vQ w B i d P M b A (k+1) c):∃a r g,b=a++[r]/\A=some ⟨g,0,none⟩/\B<=g/\w.cell? ⟨g,k,none⟩=some (Sq r)/\w.frozen? ⟨g,k,none⟩=false:=by
 have hl:=h.len;obtain⟨a,r,rfl⟩:∃a r,b=a++[r]:=by
  rcases List.eq_nil_or_concat b with rfl|⟨l,x,h⟩
  ·simp at hl
  ·exact⟨l,x,wT⟩
 obtain⟨g,rfl,f,_⟩:=aB.form h.own aq;have e:a.length=k:=Be;refine⟨a,r,g,rfl,rfl,f, ?_,aB.frozenAt h.own _⟩;rw[aB.cellAt h.own k aq];simp[e]
theorem Mk(w:World)(e:TypeId)(k:IntKind)(y:Int)(B:Nat)(a:B<=w.heap.size):Own (w.alloc (.cells #[.int k y] e)) B e k (some ⟨w.heap.size,0,none⟩) 1 1 [y]:=by
 refine⟨rfl, .inr ⟨w.heap.size,1,#[.int k y],rfl,a,heap_alloc_new w _, ?_⟩⟩;simp[maxLen]
theorem Cx(w:World)(v:Value)(t:TypeId)(N:Nat)(a:w.heap.size=N):∀j u,[v][j]? =some u->(w.alloc (.cells #[v] t)).cell? ⟨N,j,none⟩=some u:=by
 intro j u h;subst a;rw[cell_of_row _ _ _ _ _ _ (heap_alloc_new w _)];simpa using h
theorem Zr(A C:aC)(n c d:Nat)(w:World)(h:Iw w w.heap.size .i64 aN A n)(k:Iw w w.heap.size .i64 aN C n)(hn:n<=10000):Calls prog 160 #[.slice A n c, .slice C n d] w (PRu w n):=by
 have R:=sH h;have S:=sH k;go_enter func160,ntmps160;go_wp2_with fail;refine(Zq A n c w R.o hn).mono ?_;rintro e E ⟨L,m,ld,hm,rfl,o1,b1⟩;have O1:=sH o1;have B1:=sH b1;go_wp2;go_loopg [5,7] (m+1) (fun gg v5 v7 wr=>∃(i q:Nat) (D:aC) (e:Nat) (rs:List Rw),m-i<gg/\i<=m/\q<=i/\(0<i->0<q)/\v5= .slice D q e/\v7=ae aj (i:Int)/\ak (vQ wr E.heap.size 43 3 (lg n) i rs D q e)/\ak (aA E wr))
 ·exact⟨0,0,none,0,[],aq,aq,aq,aq,rfl,rfl,⟨vQ.nil _ _ _ _ _ _⟩,cB⟩
 obtain⟨i,q,D,e,rs,hg,hi,hq,hq0,rfl,rfl,NS,BE⟩:=hrel;have BG:=B1.t BE.o;by_cases aH:i<m;rotate_left
 ·have i4:=cF i m
  go_wp2;go_ret;exact⟨_,_,_,aq,rfl,(NS.o.more aq).rd,BG.o⟩
 have i4:=aR i m;have LI:=sH (O1.o.iw.Z BE.o BE.o.size);obtain⟨H,y,rfl,hy,U⟩:=LI.o.get aH;have HY:=sH hy;go_upto_region 6 with fail;go_cut [35] (fun v wx=>(∃b:Bool,v= .bool b/\(b=true->0<i))/\ak (aA wr wx))
 case first=>
  rcases i with _|i
  ·refine aG (fun _=>none) aF aF ?_
   refine mSk ?_
   first
    |(intro (nq:aI _);obtain⟨w6,M⟩:=nq)
    |(rintro w6 ⟨⟨_,M⟩,rfl⟩)
   try dsimp only
   go_wp2;go_meet;exact⟨⟨_,rfl,aD⟩,⟨M⟩⟩
  obtain⟨afS,y0,ea,hy0,e1⟩:=LI.o.get (show i<m by omega);injection ea with ea
  subst ea;obtain⟨hy1,Fv⟩:=hy;obtain⟨hy3,hy4⟩:=hy0;obtain⟨Z,rfl⟩:∃Z:Nat,y=Z:=⟨y.toNat,aq⟩;obtain⟨y0n,rfl⟩:∃Z:Nat,y0=Z:=⟨y0.toNat,aq⟩;obtain⟨adc,l1,rfl,_,g1⟩:=(S.o.Z BG.o BG.o.size).get (show Z<n by omega);obtain⟨Jq,l0,ec,_,g0⟩:=(S.o.Z BG.o BG.o.size).get (show y0n<n by omega);injection ec with ec
  subst ec;have wk:wrap64 (i:Int)=(i:Int):=IntWalk.wrap64_in _ aq;have k0:=jB i;have k1:=aR i m;have k2:(0:Int)<(i:Int)+1:=aq;have U:wr.cell? {block:=H.block,off:=H.off+(i+1)}=some (ae aj (Z:Int)):=U;obtain⟨L0,L1,L2,L3⟩:=lc4 U e1 g0 g1;by_cases hl:l0=l1
  ·subst hl
   refine aG (fun _=>none) aF aF ?_;refine mSk ?_
   first
    |(intro (nq:aI _);obtain⟨w6,M⟩:=nq)
    |(rintro w6 ⟨⟨_,M⟩,rfl⟩)
   try dsimp only
   go_wp2;go_meet;exact⟨⟨_,rfl,aD⟩,⟨M⟩⟩
  have hl:(l0==l1)=false:=Be;refine aG (fun _=>none) aF aF ?_;refine mSk ?_
  first
   |(intro (nq:aI _);obtain⟨w6,M⟩:=nq)
   |(rintro w6 ⟨⟨_,M⟩,rfl⟩)
  try dsimp only
  go_wp2;go_meet;exact⟨⟨_,rfl,aD⟩,⟨M⟩⟩
 case rest=>
 obtain⟨⟨b,rfl,hb⟩,BQ⟩:=hcut
 rename World=>w2
 have J:=sH (NS.o.ar BQ.o);have B2:=BE.t BQ.o;have U:=au U BQ.o;have HB:=sH hb;have Q:=B2.o.size;cases b
 ·have hls:=J.o.len
  have N3:=sH ((J.o.ar ((av w2 (.cells #[ae aj y] 3)).trans ((av _ (.cells #[.slice (some ⟨w2.heap.size,0,none⟩) 1 1] 43)).mono aD))).more (show i<=i+1 by omega));have L3:ak (Ow ((w2.alloc (.cells #[ae aj y] 3)).alloc (.cells #[.slice (some ⟨w2.heap.size,0,none⟩) 1 1] 43)) E.heap.size 3 .i64 (lg n) (some ⟨w2.heap.size,0,none⟩) 1 1):=⟨⟨[y],(Mk w2 3 .i64 y _ Q).ar (av _ _),by simpa using HY.o⟩⟩;have AP:ak (∀s∈rs,bO s.1 (some ⟨w2.heap.size,0,none⟩)):=⟨fun s hs=>by
   obtain⟨xs,k1,_⟩:=(J.o.each s hs).2.2;exact aB.jy k1 cr⟩
  have B3:ak (aA E ((w2.alloc (.cells #[ae aj y] 3)).alloc (.cells #[.slice (some ⟨w2.heap.size,0,none⟩) 1 1] 43))):=⟨(B2.o.alloc Q _).alloc cA _⟩;go_wp2_with (at_builtin;refine bk TII rfl (.tmp 53) (.tmp 59) rfl rfl N3.o.own rfl (news:=[.slice (some ⟨w2.heap.size,0,none⟩) 1 1]) rfl (Cx _ _ _ _ aD) (fun u hu=>Hg) aq cA ?_;intro X c5 w5 V Y O t5;have N5:=sH (N3.o.push (r:=(some ⟨w2.heap.size,0,none⟩,1,1)) (show 0<1 by omega) (show 1<=i+1 by omega) L3.o AP.o V O bQ);have B5:=sH (B3.o.trans Y);clear V Y O t5);go_roundg (m-i)
  ·exact⟨i+1,q+1,X,c5,_,aq,aq,aq,aq,rfl,aQ,N5,B5⟩
  omega
 have h0:=HB.o rfl;obtain⟨q,rfl⟩:∃q',q=q'+1:=⟨q-1,by have:=hq0 h0;omega⟩;obtain⟨WN,⟨IA,F,ic⟩,x,rfl,rfl,lR,r0,f0⟩:=Nt J.o;obtain⟨ei1,ei2,xs,o1,p1⟩:=J.o.each (IA,F,ic) aD;have OI:=sH o1;have PI1:=sH p1;simp only at ei1 ei2;simp only[Sq]at r0;have WQ:ak (IntKind.i64.wrap (q:Int)=(q:Int)):=⟨IntWalk.i64_in _ aq⟩;have wq:wrap64 (q:Int)=(q:Int):=IntWalk.wrap64_in _ aq;have q0:(0:Int)<=(q:Int):=Int.natCast_nonneg q;have q1:(q:Int)<(q:Int)+1:=Int.lt_succ _;have NO:=sH J.o.own;have HC:=sH (aB.dN o1);have AP:ak (bO (some ⟨x,0,none⟩) IA):=⟨(bZ o1 J.o.own bQ).symm⟩;have o1v:=o1;have OV:=sH o1v;go_upto_region 7 with fail;refine ju (N:=17) (k0:=36) (m:=17) [some (.slice (some ⟨x,0,none⟩) (q+1) e),some (.slice (some ⟨x,0,none⟩) (q+1) e),some (ae aj ((q:Int)+1)),some (ae aj (q:Int)),some (.slice (some ⟨x,0,none⟩) (q+1) e),some (.slice (some ⟨x,0,none⟩) (q+1) e),some (ae aj ((q:Int)+1)),some (ae aj (q:Int)),some (.pointer (some ⟨x,q,none⟩)),some (.slice IA F ic),some (.slice (some H) m ld),some (ae aj (i:Int)),some (.pointer (some (H.add i))),some (ae aj y),none,none,some (.pointer (some ⟨x,q,none⟩))] 14 15 F [ae aj y] w2 (fun A c W=>∃Wp,aA w2 Wp/\aB W E.heap.size 3 1 A (F+1) c (xs.map (ae aj)++[ae aj y])/\Below E.heap.size Wp W/\Wp.grownBy W (Value.slice IA F ic).ownBlock/\∀g,A=some ⟨g,0,none⟩->IA=some ⟨g,0,none⟩∨Wp.heap.size<=g) rfl aF rfl aF aq (Below.refl _ _) ?_ ?_
 ·intro k o L bu W hk ho t f T j a' ha K hK
  have hk:k=0∨k=1∨k=2∨k=3∨k=4∨k=5∨k=6∨k=7∨k=8∨k=9∨k=10∨k=11∨k=12∨k=13∨k=14∨k=15∨k=16:=aq;simp only[dm,fa,List.setIfInBounds_toArray,List.set_cons_succ,List.set_cons_zero,Nat.reduceAdd,Nat.add_zero]at ha;subst ha;have d0:=j.cI 0 _ rfl;have d1:=j.cI 1 _ rfl;have d2:=j.cI 2 _ rfl;have d3:=j.cI 3 _ rfl;have d4:=j.cI 4 _ rfl;have d5:=j.cI 5 _ rfl;have d6:=j.cI 6 _ rfl;have d7:=j.cI 7 _ rfl;have d8:=j.cI 8 _ rfl;have d9:=j.cI 9 _ rfl;have d10:=j.cI 10 _ rfl;have d11:=j.cI 11 _ rfl;have d12:=j.cI 12 _ rfl;have G:=j.cI 13 _ rfl
  rcases hk with rfl|rfl|rfl|rfl|rfl|rfl|rfl|rfl|rfl|rfl|rfl|rfl|rfl|rfl|rfl|rfl|rfl
  all_goals(injection ho with ho;subst ho)
  all_goals(simp[Region.binds]at f)
  case' inr.inr.inr.inr.inr.inr.inr.inr.inr.inr.inr.inr.inr.inr.inr.inl=>
   obtain⟨b,eb,hc⟩:=j.box f.2 t;have P:=j.pre t;have OV2:aB W E.heap.size 3 1 IA F ic (xs.map (ae aj)):=aB.ar OV.o P;have gM:E.heap.size<=W.heap.size:=by have:=P.size;omega
   simp only[d9 f.1,eb];refine wpOp_step rfl (fun K9 l=> ?_);refine jL (news:=[ae aj y]) nA rfl (.tmp 45) (.tmp 50) rfl rfl OV2 rfl rfl hc (fun u hu=>Hg) aq gM ?_;intro X c5 w5 V Y O t5;refine l _ _ ?_;change K (Act.put _ (some 51) _) _;have B:=hK _ _ (j.app rfl ⟨W,P,V,Y,O,t5⟩);simp only[Nat.reduceAdd,Act.put,List.setIfInBounds_toArray,List.set_cons_succ,List.set_cons_zero]at B
   try simp only[d9 f.1,eb]at B
   try simp only[Act.put,List.setIfInBounds_toArray,List.set_cons_succ,List.set_cons_zero]
   exact B
  case' inr.inr.inr.inr.inr.inr.inr.inr.inr.inr.inr.inr.inr.inr.inl=>
   have hp:=T.no (a:=15) t aF;simp only[G f];refine wpOp_step rfl (fun K9 l=> ?_);go_simp;refine l _ _ ?_
   skip
   have B:=hK _ _ (j.lay 3 rfl rfl bQ hp);simp only[Nat.reduceAdd,Act.put,List.setIfInBounds_toArray,List.set_cons_succ,List.set_cons_zero]at B
   try simp only[G f]at B
   try simp only[Act.put,List.setIfInBounds_toArray,List.set_cons_succ,List.set_cons_zero]
   exact B
  case' inr.inr.inr.inr.inr.inr.inr.inr.inr.inl=>
   have P:=j.pre (T.no (a:=15) t aF);have r0:=au r0 P
  case' inr.inr.inr.inr.inr.inr.inr.inr.inr.inr.inr.inr.inr.inl=>
   have P:=j.pre (T.no (a:=15) t aF);have U:=au U P
  all_goals have wq2:=WQ.o
  all_goals
   try simp only[d0,d1,d2,d3,d4,d5,d6,d7,d8,d9,d10,d11,d12,G,f]
   refine wpOp_step rfl (fun K9 l=> ?_);go_simp;refine l _ _ ?_
   skip
   have B:=hK _ _ (j.pure rfl bQ bQ);simp only[Nat.reduceAdd,Act.put,List.setIfInBounds_toArray,List.set_cons_succ,List.set_cons_zero]at B
   try simp only[d0,d1,d2,d3,d4,d5,d6,d7,d8,d9,d10,d11,d12,G,f]at B
   try simp only[Act.put,List.setIfInBounds_toArray,List.set_cons_succ,List.set_cons_zero]
   exact B
 ·clear wq
  intro L bu W I j a' ha;simp only[dm,fa,List.setIfInBounds_toArray,List.set_cons_succ,List.set_cons_zero,Nat.reduceAdd,Nat.add_zero]at ha;subst ha;obtain⟨X,c5,xq,Wp,bp,V,Y,O,t5⟩:=j.post (I 15 aq);have d16:=j.cI 16 _ rfl (I 16 aq);simp only[d16,xq];have NN:=aB.kept (aB.ar NO.o bp) O AP.o HC.o;have r5:=(aB.cellAt NN q aq).trans ((aB.cellAt NO.o q aq).symm.trans r0);have f5:=aB.frozenAt NN q;have N5:ak (vQ (W.setCell ⟨x,q,none⟩ (.slice X (F+1) c5)) E.heap.size 43 3 (lg n) (i+1) (WN++[(X,F+1,c5)]) (some ⟨x,0,none⟩) (q+1) e):=⟨((J.o.ar bp).more (Nat.le_succ i)).grow (c':=e) ⟨xs++[y],by unfold Own;rw[List.map_append];exact V,fun z hz=>by
   rcases List.mem_append.1 hz with hz|hz
   ·exact PI1.o z hz
   ·obtain rfl:=List.mem_singleton.1 hz;exact HY.o⟩ (Nat.succ_pos _) aq O t5 bQ⟩
  have B5:ak (aA E (W.setCell ⟨x,q,none⟩ (.slice X (F+1) c5))):=⟨Below.setCell ((B2.o.trans (bp.mono Q)).trans Y) (p:=⟨x,q,none⟩) lR _⟩;refine wpOp_step rfl (fun K9 l=> ?_);go_simp;refine l _ _ ?_;go_wp2;go_roundg (m-i)
  ·exact⟨i+1,q+1,_,e,_,aq,aq,aq,aq,rfl,aQ,N5,B5⟩
  omega
theorem oD(z:Int)(w:World):Calls prog 238 #[ae aj z] w (PB w):=by
 have e:z=11∨z=12∨z=13∨z=14∨z=20∨z=21∨z=22∨(z≠11/\z≠12/\z≠13/\z≠14/\z≠20/\z≠21/\z≠22):=aq;rcases e with rfl|rfl|rfl|rfl|rfl|rfl|rfl|⟨c,h2,h3,h4,b,d,a⟩
 rotate_right
 ·have c:(z==11)=false:=by simpa using c
  have h2:(z==12)=false:=yB;have h3:(z==13)=false:=Eu;have h4:(z==14)=false:=Hu;have b:(z==20)=false:=by simpa using b
  have d:(z==21)=false:=by simpa using d
  have a:(z==22)=false:=by simpa using a
  go_enter func238,ntmps238;go_wp2;go_ret;exact⟨_,rfl,Below.refl _ _⟩
 all_goals
  go_enter func238,ntmps238;go_wp2;go_ret;exact⟨_,rfl,Below.refl _ _⟩
theorem abM(z:Int)(w:World):Calls prog 240 #[ae aj z] w (PI w):=by
 have b:z=2∨z=3∨z=4∨(z≠2/\z≠3/\z≠4):=aq;rcases b with rfl|rfl|rfl|⟨a,h2,h3⟩
 rotate_right
 ·have a:(z==2)=false:=by simpa using a
  have h2:(z==3)=false:=yB;have h3:(z==4)=false:=Eu;go_enter func240,ntmps240;go_wp2_with fail
  all_goals
   go_ret;exact⟨_,rfl,Below.refl _ _⟩
 all_goals
  go_enter func240,ntmps240;go_wp2;go_ret;exact⟨_,rfl,Below.refl _ _⟩
theorem Ul(z:Int)(w:World):Calls prog 241 #[ae aj z] w (PI w):=by
 go_enter func241,ntmps241;go_wp2_with fail
 all_goals
  go_ret;exact⟨_,rfl,Below.refl _ _⟩
theorem Lb(z:Int)(w:World):Calls prog 239 #[ae aj z] w (PI w):=by
 go_enter func239,ntmps239;go_wp2_with fail
 all_goals
  go_ret;exact⟨_,rfl,Below.refl _ _⟩
theorem ac3(s:G:=by
 go_wp2_with fail
 refine(abM z3 _).mono ?_;rintro e w8 ⟨b,rfl,b3⟩;have B8:=B7.t b3;have O8:=sH (O7.o.ar b3);go_wp2;go_meet;exact⟨⟨_,rfl⟩,O8,B8⟩):G:=s
theorem adI(s:G:=by
 have i4:=cF i n
 obtain rfl:i=n:=aq;go_wp2;go_ret;exact⟨_,_,rfl,OE.o,BE.o⟩):G:=s
theorem Jy(A:aC)(n c:Nat)(lv F I:Int)(w:World)(h:Iw w w.heap.size .i64 aN A n)(hn:n<=10000):Calls prog 167 #[.slice A n c,ae aj lv,ae aj F,ae aj I] w (Nw w 3 .i64 aN n):=by
 have R:=sH h;have H:ak ((prog.info? 3).map (·.zero)=some (some (ae aj 0))):=⟨aF⟩;go_enter func167,ntmps167;go_wp2_with (refine dY (p:=aN) nA H.o trivial rfl (.tmp 16) (.tmp 16) rfl n rfl rfl rfl rfl aq w.heap.size cr ?_;intro g w1 o1 Q;have O1:=sH o1;have Y:=sH Q;clear o1 Q);go_loopg [10,11,12,13,14] (n+1) (fun gg v10 _ _ _ _ wr=>∃(i:Nat),n-i<gg/\i<=n/\v10=ae aj (i:Int)/\ak (Ow wr w.heap.size 3 .i64 aN (some ⟨g,0,none⟩) n n)/\ak (aA w wr))
 ·exact⟨0,aq,aq,rfl,O1,Y⟩
 obtain⟨i,hg,hi,rfl,OE,BE⟩:=hrel;by_cases d:i<n;rotate_left
 ·exact adI
 have i4:=aR i n;obtain⟨ad,z,rfl,_,r⟩:=(R.o.Z BE.o BE.o.size).get d;obtain⟨O,_,N⟩:=OE.o.get d;have f1:=OE.o.fz i;have m:ak (aA w ((wr).setCell ⟨g,i,none⟩ (ae aj (z)))):=⟨Below.setCell (BE.o) (p:=⟨g,i,none⟩) (OE.o).lt.1 _⟩;have s:=sH ((OE.o).set (P:=aN) i (y:=z) trivial);go_upto_region 6 with fail;obtain⟨Z,o⟩:=eX (wr.setCell ⟨g,i,none⟩ (ae aj z));rw[<-o]at m s;rw[<-o];clear o;obtain⟨W,z2,f,_,r⟩:=(R.o.Z m.o m.o.size).get d;injection f with f
 subst f;go_wp2_with fail;refine(oD z2 Z).mono ?_;rintro e w3 ⟨b,rfl,b3⟩;have S:=m.t b3;have L:=sH (s.o.ar b3);cases b
 ·go_wp2
  go_roundg (n-i)
  ·exact⟨i+1,aq,aq,aQ,L,S⟩
  omega
 go_wp2_with fail;refine(Lb _ _).mono ?_;rintro e w4 ⟨x,rfl,b3⟩;have X:=S.t b3;have V:=sH (L.o.ar b3);go_wp2_with fail;refine(Lb _ _).mono ?_;rintro e w5 ⟨y,rfl,b3⟩;have u:=X.t b3;have l:=sH (V.o.ar b3);go_upto_region 8 with fail;go_upto_block 2 with fail;go_cut [11,13] (fun a _ D=>(∃z:Int,a=ae aj z)/\ak (Ow D w.heap.size 3 .i64 aN (some ⟨g,0,none⟩) n n)/\ak (aA w D))
 case first=>
  go_wp2;go_loopg [11,13] (i+2) (fun gg a q wr=>∃(k:Nat) (z:Int),k<gg/\k<=i/\a=ae aj z/\q=ae aj ((k:Int)-1)/\ak (Ow wr w.heap.size 3 .i64 aN (some ⟨g,0,none⟩) n n)/\ak (aA w wr))
  ·exact⟨i,x,aq,aq,rfl,rfl,l,u⟩
  obtain⟨k,H,K,U,rfl,rfl,C,j⟩:=hrel;rcases k with _|k
  ·go_wp2
   go_meet;exact⟨⟨_,rfl⟩,C,j⟩
  have ei:(((k+1:Nat):Int)-1)=(k:Int):=aq;rw[ei];obtain⟨J,z3,f,_,r⟩:=(R.o.Z j.o j.o.size).get (show k<n by omega);injection f with f
  subst f;go_wp2_with fail;refine(oD z3 _).mono ?_;rintro e G ⟨b,rfl,b3⟩;have B7:=j.t b3;have O7:=sH (C.o.ar b3);have r:=au r b3;cases b
  ·exact ac3
  ·go_wp2
   go_roundg (k+1)
   ·exact⟨k,_,aq,aq,rfl,aQ,O7,B7⟩
   omega
 case rest=>
 obtain⟨⟨E,rfl⟩,l,u⟩:=hcut;go_upto_block 4 with fail;go_cut [12,14] (fun a _ D=>(∃z:Int,a=ae aj z)/\ak (Ow D w.heap.size 3 .i64 aN (some ⟨g,0,none⟩) n n)/\ak (aA w D))
 case first=>
  go_wp2;go_loopg [12,14] (n+1) (fun gg a q wr=>∃(k:Nat) (z:Int),n-k<gg/\k<=n/\a=ae aj z/\q=ae aj (k:Int)/\ak (Ow wr w.heap.size 3 .i64 aN (some ⟨g,0,none⟩) n n)/\ak (aA w wr))
  ·exact⟨i+1,y,aq,aq,rfl,ke,l,u⟩
  obtain⟨k,H,K,U,rfl,rfl,C,j⟩:=hrel;by_cases T:k<n;rotate_left
  ·have i5:=cF k n
   go_wp2;go_meet;exact⟨⟨_,rfl⟩,C,j⟩
  have i5:=aR k n;obtain⟨J,z3,f,_,r⟩:=(R.o.Z j.o j.o.size).get (show k<n by omega);injection f with f
  subst f;go_wp2_with fail;refine(oD z3 _).mono ?_;rintro e G ⟨b,rfl,b3⟩;have B7:=j.t b3;have O7:=sH (C.o.ar b3);have r:=au r b3;cases b
  ·exact ac3
  ·go_wp2
   go_roundg (n-k)
   ·exact⟨k+1,_,aq,aq,rfl,aQ,O7,B7⟩
   omega
 case rest=>
 obtain⟨⟨M,rfl⟩,l,u⟩:=hcut
 rename World=>w6
 obtain⟨O,_,N⟩:=l.o.get d;have f1:=l.o.fz i;by_cases B:(E==M)=true
 ·have m:ak (aA w ((w6).setCell ⟨g,i,none⟩ (ae aj (E)))):=⟨Below.setCell (u.o) (p:=⟨g,i,none⟩) (l.o).lt.1 _⟩
  have s:=sH ((l.o).set (P:=aN) i (y:=E) trivial);go_wp2;go_roundg (n-i)
  ·exact⟨i+1,aq,aq,aQ,s,m⟩
  omega
 have B:(E==M)=false:=by simpa using B
 go_wp2_with fail;refine(Ul lv _).mono ?_;rintro e G ⟨v,rfl,b3⟩;have B7:=u.t b3;have O7:=sH (l.o.ar b3);obtain⟨O,_,N⟩:=O7.o.get d;have f1:=O7.o.fz i;have m:ak (aA w ((G).setCell ⟨g,i,none⟩ (ae aj (v)))):=⟨Below.setCell (B7.o) (p:=⟨g,i,none⟩) (O7.o).lt.1 _⟩;have s:=sH ((O7.o).set (P:=aN) i (y:=v) trivial);go_wp2;go_roundg (n-i)
 ·exact⟨i+1,aq,aq,aQ,s,m⟩
 omega
theorem Dj(A:aC)(n c:Nat)(lv:Int)(w:World)(h:Iw w w.heap.size .i64 aN A n)(G:n<=10000):Calls prog 168 #[.slice A n c,ae aj lv] w (Nw w 3 .i64 aN n):=by
 have R:=sH h;have B:ak ((prog.info? 3).map (·.zero)=some (some (ae aj 0))):=⟨aF⟩;go_enter func168,ntmps168;go_wp2_with (refine dY (p:=aN) nA B.o trivial rfl (.tmp 9) (.tmp 9) rfl n rfl rfl rfl rfl aq w.heap.size cr ?_;intro g H o1 f;have u:=sH o1;have r:=sH f;clear o1 f);go_loopg [6,7] (n+1) (fun gg t _ wr=>∃(i:Nat),n-i<gg/\i<=n/\t=ae aj (i:Int)/\ak (Ow wr w.heap.size 3 .i64 aN (some ⟨g,0,none⟩) n n)/\ak (aA w wr))
 ·exact⟨0,aq,aq,rfl,u,r⟩
 obtain⟨i,E,I,rfl,OE,BE⟩:=hrel;by_cases b:i<n;rotate_left
 ·exact adI
 have i4:=aR i n;obtain⟨D,z,rfl,_,F⟩:=(R.o.Z BE.o BE.o.size).get b;obtain⟨C,_,x⟩:=OE.o.get b;have f1:=OE.o.fz i;have l:ak (aA w ((wr).setCell ⟨g,i,none⟩ (ae aj (lv)))):=⟨Below.setCell (BE.o) (p:=⟨g,i,none⟩) (OE.o).lt.1 _⟩;have j:=sH ((OE.o).set (P:=aN) i (y:=lv) trivial);go_upto_region 7 with fail;obtain⟨k,a⟩:=eX (wr.setCell ⟨g,i,none⟩ (ae aj lv));rw[<-a]at l j;rw[<-a];clear a;have d:=j;have e:=l;obtain⟨C,_,x⟩:=d.o.get b;have f1:=d.o.fz i;have m:ak (∀v:Int,Ow (k.setCell ⟨g,i,none⟩ (ae aj v)) w.heap.size 3 .i64 aN (some ⟨g,0,none⟩) n n):=⟨fun v=>d.o.set i trivial⟩;have q:ak (∀v:Int,aA w (k.setCell ⟨g,i,none⟩ (ae aj v))):=⟨fun v=>Below.setCell e.o (p:=⟨g,i,none⟩) d.o.lt.1 _⟩;have s:z=1∨z=2∨z=4∨z=7∨(z≠1/\z≠2/\z≠4/\z≠7):=aq;rcases s with rfl|rfl|rfl|rfl|⟨o,h2,h3,h4⟩
 rotate_right
 ·have o:(z==1)=false:=by simpa using o
  have h2:(z==2)=false:=yB;have h3:(z==4)=false:=Eu;have h4:(z==7)=false:=Hu;go_wp2_with fail
  all_goals
   (go_roundg (n-i)<;>first|omega|exact⟨i+1,aq,aq,aQ,d,e⟩|exact⟨i+1,aq,aq,aQ,⟨m.o _⟩,⟨q.o _⟩⟩)
 all_goals
  go_wp2_with fail
  all_goals
   (go_roundg (n-i)<;>first|omega|exact⟨i+1,aq,aq,aQ,d,e⟩|exact⟨i+1,aq,aq,aQ,⟨m.o _⟩,⟨q.o _⟩⟩)
structure SqD where
 A:aC
 m:Nat
 c:Nat
 lv:Int
 so:Int
 eo:Int
def sqF(s:SqD):List Value:=[.slice s.A s.m s.c,ae aj s.lv,ae aj s.so,ae aj s.eo]
def Sv(B n:Nat)(w:World)(s:SqD):Prop:=Ow w B 3 .i64 (lg n) s.A s.m s.c/\s.m<=4000
theorem Sv.kpt(B n:Nat):Kpt 153 (Sv B n):=⟨fun _ _ _ h d=>⟨h.1.ar d,h.2⟩,fun w j s i k A g c vs h a e=>by
 obtain⟨xs,b,f⟩:=h.1;exact⟨⟨xs,aB.kept b e (bZ b a bQ) (aB.dN a),f⟩,h.2⟩⟩
def PSs(w:World)(n:Nat)(e:Ending)(a:World):Prop:=∃(D:aC) (q b B:Nat) (c:List SqD),q<=n/\e= .returned (.slice D q b)/\w.heap.size<=B/\Gn a B 153 4 sqF (Sv B n) c D q b/\aA w a
structure xJ(w0 w:World)(n:Nat)(lv x y:Int)(A:aC)(m c:Nat):Prop where
 be:aA w0 w
 bx:Bx w w0.heap.size #[.slice A m c,ae aj lv,ae aj x,ae aj y]
 ow:Ow w (w0.heap.size+1) 3 .i64 (lg n) A m c
theorem xJ.ar{b:World}(h:xJ w0 w n lv x y A m c)(a:aA w b):xJ w0 b n lv x y A m c:=⟨h.be.trans (a.mono h.be.size),h.bx.ar a h.bx.lt,h.ow.ar a⟩
theorem xJ.new(w0:World)(n:Nat)(lv:Int):xJ w0 (w0.alloc (.cells #[.slice none 0 0,ae aj lv,ae aj 0,ae aj 0] 153)) n lv 0 0 none 0 0:=⟨av _ _,Bx.new _ _ _,Ow.nil _ _ _ _ _⟩
theorem xJ.put{W:World}{a d:Nat}{b:aC}(h:xJ w0 w n lv x y A m c)(e:Below (w0.heap.size+1) w W)(g:Ow W (w0.heap.size+1) 3 .i64 (lg n) b a d):xJ w0 (W.setCell ⟨w0.heap.size,0,none⟩ (.slice b a d)) n lv x y b a d:=by
 refine⟨Below.setCell (h.be.trans (e.mono aq)) (p:=⟨w0.heap.size,0,none⟩) cr _,(FM (h.bx.ar e aq) _).1, ?_⟩;obtain⟨xs,f,i⟩:=g;exact⟨xs,Own.mE f (aB.nW f (Nat.lt_succ_self _)) _,i⟩
theorem xJ.aeG(h:xJ w0 w n lv x y A m c)(z:Int):xJ w0 (w.setCell ⟨w0.heap.size,2,none⟩ (ae aj z)) n lv z y A m c:=by
 obtain⟨xs,a,b⟩:=h.ow;exact⟨Below.setCell h.be (p:=⟨w0.heap.size,2,none⟩) cr _,(FM h.bx _).2.2.1,⟨xs,Own.mE a (aB.nW a (Nat.lt_succ_self _)) _,b⟩⟩
theorem xJ.ae2(h:xJ w0 w n lv x y A m c)(z:Int):xJ w0 (w.setCell ⟨w0.heap.size,3,none⟩ (ae aj z)) n lv x z A m c:=by
 obtain⟨xs,a,b⟩:=h.ow;exact⟨Below.setCell h.be (p:=⟨w0.heap.size,3,none⟩) cr _,(FM h.bx _).2.2.2,⟨xs,Own.mE a (aB.nW a (Nat.lt_succ_self _)) _,b⟩⟩
theorem TSq:aS prog 149 153 4 48:=bD underlying149 (z:= .agg #[.slice none 0 0,ae aj 0,ae aj 0,ae aj 0]) aF rfl aq aq
theorem acO(s:G:=by
 obtain⟨c0,c1,aU,vz⟩:=V8.o.bx.q4
 go_wp2_with fail;refine(Wz lv _ w7).mono ?_;rintro e w8 ⟨z8,rfl,b8⟩;have V9:ak _:=⟨V8.o.ar b8⟩;clear b8 V8 c0 c1 aU vz;obtain⟨c0,c1,aU,vz⟩:=V9.o.bx.q4;have f3:=V9.o.bx.fz 3;have W0:ak _:=⟨V9.o.ae2 z8⟩;clear V9;go_upto_region 29 with fail;obtain⟨w9,cv⟩:∃w9,w9=w8.setCell ⟨wr.heap.size,3,none⟩ (ae aj z8):=⟨_,rfl⟩;rw[<-cv]at W0;rw[<-cv];clear cv c0 c1 aU vz f3;obtain⟨c0,c1,aU,vz⟩:=W0.o.bx.q4;have gM:=W0.o.be.size;have hse:=BE.o.size;have GA:ak (Gn (w9.alloc (.cells #[.slice (some ⟨gD,0,none⟩) m3 c3,ae aj lv,ae aj z2,ae aj z8] 153)) w2.heap.size 153 4 sqF (Sv w2.heap.size n) ss D m dc):=⟨(GE.o.ar (Sv.kpt _ _) W0.o.be).ar (Sv.kpt _ _) (av _ _)⟩;have IA:ak (Sv w2.heap.size n (w9.alloc (.cells #[.slice (some ⟨gD,0,none⟩) m3 c3,ae aj lv,ae aj z2,ae aj z8] 153)) ⟨some ⟨gD,0,none⟩,m3,c3,lv,z2,z8⟩):=⟨⟨(W0.o.ow.cN aq).alloc _,hm4⟩⟩;have BA:ak (aA w2 (w9.alloc (.cells #[.slice (some ⟨gD,0,none⟩) m3 c3,ae aj lv,ae aj z2,ae aj z8] 153))):=⟨(BE.o.trans (W0.o.be.mono hse)).alloc aq _⟩;go_wp2_with (at_builtin;refine bk TSq rfl (.tmp 156) (.tmp 158) rfl rfl GA.o.own rfl (news:=sqF ⟨some ⟨gD,0,none⟩,m3,c3,lv,z2,z8⟩) rfl (fun j u hu=>afo) (fun u hu=>afp) aq cA ?_;intro A5 c5 w10 o5 b5 g5 t5;have N5:ak _:=⟨GA.o.push (Sv.kpt _ _) IA.o o5 g5⟩;have B5:ak (aA w2 w10):=⟨BA.o.trans b5⟩;clear o5 b5 g5 t5);go_roundg (q-i)
 case measure=>omega
 case rel=>exact⟨i+1,m+1,A5,c5,_,aq,aq,aq,rfl,aQ,N5,B5⟩):G:=s
theorem aeg(A C:aC)(n c d:Nat)(base:Int)(w:World)(h:Iw w w.heap.size .i64 aN A n)(k:Iw w w.heap.size .i64 aN C n)(hn:n<=60):Calls prog 87 #[.slice A n c, .slice C n d,ae aj base] w (PSs w n):=by
 have R:ak _:=⟨h⟩;have S:ak _:=⟨k⟩;obtain⟨xs,E,_⟩:=h;have XS:ak _:=⟨E⟩;clear E k;go_enter func87,ntmps87;go_wp2_with fail;refine(Zr A C n c d w R.o S.o aq).mono ?_;rintro e w1 ⟨L,q,lc,hq,rfl,l1,b1⟩;have L1:ak _:=⟨l1⟩;have B1:ak _:=⟨b1⟩;have PM:ak _:=⟨oe A n c xs w1 (XS.o.Z b1) aq⟩;clear l1 b1 XS;go_wp2_with fail;refine PM.o.mono ?_;rintro e w2 ⟨MA,mc,rfl,om,b2⟩;have MI:ak (Iw w2 w2.heap.size .i64 aN MA n):=⟨⟨_,om.ints,fun _ _=>trivial⟩⟩;have B2:ak (aA w w2):=⟨B1.o.trans (b2.mono B1.o.size)⟩;have L2:ak (DF w2 w2.heap.size (lg n) n L q):=⟨L1.o.Z b2 b2.size⟩;clear om b2 PM L1 B1;go_wp2;go_loopg [7,10,11,12,13,14,15,16,17] (q+1) (fun gg v7 v10 _ _ _ _ _ _ _ wr=>∃(i m:Nat) (D:aC) (dc:Nat) (ss:List SqD),q-i<gg/\i<=q/\m<=i/\v7= .slice D m dc/\v10=ae aj (i:Int)/\ak (Gn wr w2.heap.size 153 4 sqF (Sv w2.heap.size n) ss D m dc)/\ak (aA w2 wr))
 ·exact⟨0,0,none,0,[],aq,aq,aq,rfl,rfl,⟨Gn.nil _ _ _ _ _ _⟩,cB⟩
 obtain⟨i,m,D,dc,ss,hg,hi,hm,rfl,rfl,GE,BE⟩:=hrel;by_cases aH:i<q;rotate_left
 ·have i4:=cF i q
  go_wp2;go_ret;exact⟨_,_,_,_,_,aq,rfl,B2.o.size,GE.o,B2.o.trans (BE.o.mono B2.o.size)⟩
 have i4:=aR i q;have H:ak (aA w wr):=⟨B2.o.trans (BE.o.mono B2.o.size)⟩;obtain⟨qx,A2,m2,c2,rfl,_,e0,Cg,hmM,I2⟩:=L2.o.Z BE.o BE.o.size i aH;obtain⟨gP,x,rfl,px,G⟩:=I2.get Cg;rw[eQ]at G;obtain⟨xn,rfl⟩:∃k:Nat,x=k:=⟨x.toNat,Bk⟩;have T:xn<n:=Bn;have Nc:=aR xn n;have m0:=aR 0 m2;obtain⟨adA,cl,rfl,_,e2⟩:=(R.o.Z H.o H.o.size).get T;obtain⟨adC,lv,rfl,_,e3⟩:=(S.o.Z H.o H.o.size).get T;obtain⟨adM,z,rfl,_,e4⟩:=(MI.o.Z BE.o BE.o.size).get T;clear px I2;go_upto_region 9 with fail;go_cut [55] (fun v wx=>(∃b:Bool,v= .bool b)/\wr=wx)
 case first=>
  cases q1:(cl==23)
  ·go_wp2
   go_meet;exact⟨⟨_,rfl⟩,rfl⟩
  ·go_wp2
   go_meet;exact⟨⟨_,rfl⟩,rfl⟩
 case rest=>
 obtain⟨⟨b,rfl⟩,rfl⟩:=hcut;cases b;rotate_left
 ·go_wp2
  go_roundg (q-i)
  case measure=>omega
  case rel=>exact⟨i+1,m,D,dc,ss,aq,aq,aq,rfl,aQ,GE,BE⟩
 have V:ak _:=⟨xJ.new wr n lv⟩;go_upto_region 11 with fail;obtain⟨w3,U⟩:∃w3,w3=wr.alloc (.cells #[.slice none 0 0,ae aj lv,ae aj 0,ae aj 0] 153):=⟨_,rfl⟩;rw[<-U]at V;rw[<-U];have e0:=au e0 (show aA wr w3 by rw[U];exact av _ _);clear U G e2 e3 e4 T Nc m0;go_upto_block 2 with fail;go_cut [12,13,14,15] (fun _ _ _ _ wx=>∃(m3:Nat) (Z:aC) (c3:Nat),0<m3/\m3<=4000/\ak (xJ wr wx n lv 0 0 Z m3 c3))
 case first=>
  clear e0;obtain⟨l,rfl⟩:∃l,l=wr:=⟨_,rfl⟩;have I2:ak (Iw w3 l.heap.size .i64 (lg n) (some gP) m2):=⟨by
   obtain⟨a1,a2,a3,a4,h1,_,h2,_,_,h3⟩:=L2.o.Z (BE.o.trans (V.o.be.mono BE.o.size)) BE.o.size i aH;injection h1 with h1
   subst h1;have G:=au e0 V.o.be;rw[h2]at G;simp at G;obtain⟨r1,r2,r3⟩:=G;rw[r1,r2]at h3;exact h3⟩
  go_wp2;go_loopg [12,13,14,15] (q+2) (fun gg ny jr _ _ wr=>∃(t m3 rn rc:Nat) (Z rA:aC) (c3:Nat),q+1-t<gg/\t<=q+1/\rn<=60/\m3<=t*60/\(0<m3∨(t=0/\0<rn))/\ny= .slice rA rn rc/\jr=ae aj (t:Int)/\ak (xJ l wr n lv 0 0 Z m3 c3)/\ak (Iw wr l.heap.size .i64 (lg n) rA rn))
  ·exact⟨0,0,m2,c2,none,some gP,0,aq,aq,aq,aq, .inr ⟨rfl,Cg⟩,rfl,rfl,V,I2⟩
  obtain⟨t,m3,rn,rc,Z,rA,c3,fL,ht,Qv,hm3,M,rfl,rfl,V,IR⟩:=hrel;by_cases htq:t<=q;rotate_left
  ·have i5:¬(t:Int)<=(q:Int):=by omega
   have hq3:0<m3:=aq;clear M;go_wp2;go_meet;exact⟨m3,Z,c3,hq3,aq,V⟩
  have i5:(t:Int)<=(q:Int):=aq;rcases Nat.eq_zero_or_pos rn with h0|h0
  ·subst h0
   have hq3:0<m3:=aq;clear M;go_wp2;go_meet;exact⟨m3,Z,c3,hq3,aq,V⟩
  have i6:=aR 0 rn;clear M;go_wp2;go_loopg [14] (rn+1) (fun gg uZ wr=>∃(k:Nat) (D4:aC) (c4:Nat),rn-k<gg/\k<=rn/\uZ=ae aj (k:Int)/\ak (xJ l wr n lv 0 0 D4 (m3+k) c4)/\ak (Iw wr l.heap.size .i64 (lg n) rA rn))
  ·exact⟨0,Z,c3,aq,aq,rfl,V,IR⟩
  clear V IR;obtain⟨k,D4,c4,Bt,hk,rfl,V,IR⟩:=hrel;by_cases hkr:k<rn
  ·have k4:=aR k rn
   obtain⟨Q,y,rfl,P,G⟩:=IR.o.get hkr;have PY:ak _:=⟨P⟩;obtain⟨ys,o1,p1⟩:=V.o.ow;have OV:ak _:=⟨o1⟩;have PO:ak _:=⟨p1⟩;obtain⟨c0,_,_,_⟩:=V.o.bx.q4;have hsw:=V.o.bx.lt;clear P o1 p1;go_upto_region 18 with fail;refine ju (N:=9) (k0:=87) (m:=9) [some (.pointer (some ⟨l.heap.size,0,none⟩)),some (.slice D4 (m3+k) c4),some (.slice (some Q) rn rc),some (ae aj (k:Int)),some (.pointer (some (Q.add k))),some (ae aj y),none,none,some (.pointer (some ⟨l.heap.size,0,none⟩))] 6 7 (m3+k) [ae aj y] wr (fun A c W=>∃Wp,aA wr Wp/\aB W (l.heap.size+1) 3 1 A (m3+k+1) c (ys.map (ae aj)++[ae aj y])/\Below (l.heap.size+1) Wp W) rfl aF rfl aF aq (Below.refl _ _) ?_ ?_
   ·intro j o L bu W hj ho I f cU r a' ha K hK
    simp only[dm,fa,List.setIfInBounds_toArray,List.set_cons_succ,List.set_cons_zero,Nat.reduceAdd,Nat.add_zero]at ha;subst ha;have hj:j=0∨j=1∨j=2∨j=3∨j=4∨j=5∨j=6∨j=7∨j=8:=aq;have d0:=r.cI 0 _ rfl;have d1:=r.cI 1 _ rfl;have d2:=r.cI 2 _ rfl;have d3:=r.cI 3 _ rfl;have d4:=r.cI 4 _ rfl;have d5:=r.cI 5 _ rfl
    rcases hj with rfl|rfl|rfl|rfl|rfl|rfl|rfl|rfl|rfl
    all_goals(injection ho with ho;subst ho)
    all_goals(simp[Region.binds]at f)
    case' inr.inr.inr.inr.inr.inr.inr.inl=>
     obtain⟨b,eb,hc⟩:=r.box f.2 I;have BB:=r.pre I;have OV2:aB W (l.heap.size+1) 3 1 D4 (m3+k) c4 (ys.map (ae aj)):=aB.ar OV.o BB;have gM:l.heap.size+1<=W.heap.size:=by have:=BB.size;omega
     simp only[d1 f.1,eb];refine wpOp_step rfl (fun K9 g=> ?_);refine jL (news:=[ae aj y]) nA rfl (.tmp 88) (.tmp 93) rfl rfl OV2 rfl rfl hc (fun u hu=>Hg) aq gM ?_;intro A5 c5 w5 o5 b5 g5 t5;refine g _ _ ?_;change K (Act.put _ (some 94) _) _;have E:=hK _ _ (r.app rfl ⟨W,BB,o5,b5⟩);simp only[Nat.reduceAdd,Act.put,List.setIfInBounds_toArray,List.set_cons_succ,List.set_cons_zero]at E
     try simp only[d1 f.1,eb]at E
     try simp only[Act.put,List.setIfInBounds_toArray,List.set_cons_succ,List.set_cons_zero]
     exact E
    case' inr.inr.inr.inr.inr.inr.inl=>
     have hp:=cU.no (a:=7) I aF;simp only[d5 f];refine wpOp_step rfl (fun K9 g=> ?_);go_simp;refine g _ _ ?_
     skip
     have E:=hK _ _ (r.lay 3 rfl rfl bQ hp);simp only[Nat.reduceAdd,Act.put,List.setIfInBounds_toArray,List.set_cons_succ,List.set_cons_zero]at E
     try simp only[d5 f]at E
     try simp only[Act.put,List.setIfInBounds_toArray,List.set_cons_succ,List.set_cons_zero]
     exact E
    case' inr.inl=>
     have BB:=r.pre (cU.no (a:=7) I aF);have c0:=au c0 BB
    case' inr.inr.inr.inr.inr.inl=>
     have BB:=r.pre (cU.no (a:=7) I aF);have G:=au G BB
    all_goals
     try simp only[d0,d1,d2,d3,d4,d5,f]
     refine wpOp_step rfl (fun K9 g=> ?_);go_simp;refine g _ _ ?_
     skip
     have E:=hK _ _ (r.pure rfl bQ bQ);simp only[Nat.reduceAdd,Act.put,List.setIfInBounds_toArray,List.set_cons_succ,List.set_cons_zero]at E
     try simp only[d0,d1,d2,d3,d4,d5,f]at E
     try simp only[Act.put,List.setIfInBounds_toArray,List.set_cons_succ,List.set_cons_zero]
     exact E
   ·intro L bu W J r a' ha
    simp only[dm,fa,List.setIfInBounds_toArray,List.set_cons_succ,List.set_cons_zero,Nat.reduceAdd,Nat.add_zero]at ha;subst ha;obtain⟨A5,c5,xq,Wp,bp,o5,b5⟩:=r.post (J 7 aq);have d8:=r.cI 8 _ rfl (J 8 aq);simp only[d8,xq];have VP:=V.o.ar bp;have BX:=VP.bx.ar b5 (Nat.lt_succ_self _);obtain⟨r5,_,_,_⟩:=BX.q4;have f5:=BX.fz 0;have V5:ak (xJ l (W.setCell ⟨l.heap.size,0,none⟩ (.slice A5 (m3+k+1) c5)) n lv 0 0 A5 (m3+(k+1)) c5):=⟨VP.put b5 ⟨ys++[y],by unfold Own;rw[List.map_append];exact o5,fun z hz=>by
     rcases List.mem_append.1 hz with hz|hz
     ·exact PO.o z hz
     ·obtain rfl:=List.mem_singleton.1 hz;exact PY.o⟩⟩
    have IR5:ak (Iw (W.setCell ⟨l.heap.size,0,none⟩ (.slice A5 (m3+k+1) c5)) l.heap.size .i64 (lg n) (some Q) rn):=⟨IR.o.Z (Below.setCell ((bp.mono aq).trans (b5.mono (Nat.le_succ _))) (p:=⟨l.heap.size,0,none⟩) cr _) cr⟩;clear VP BX bp o5 b5 d8 xq J r c0 G;refine wpOp_step rfl (fun K9 g=> ?_);go_simp;refine g _ _ ?_;go_wp2;go_roundg (rn-k)
    case measure=>omega
    case rel=>exact⟨k+1,A5,c5,aq,aq,aQ,V5,IR5⟩
  obtain rfl:k=rn:=aq;obtain⟨j,hj⟩:∃j,j+1=k:=⟨k-1,aq⟩;obtain⟨Q,y,rfl,P,G⟩:=IR.o.get (show j<k by omega);obtain⟨yn,rfl⟩:∃k:Nat,y=k:=⟨y.toNat,by have:=P.1;omega⟩;have F:yn<n:=by have:=P.2;omega
  have Y:=aR yn n;have X:ak (aA w wr):=⟨H.o.trans (V.o.be.mono H.o.size)⟩;have BS:ak (aA w2 wr):=⟨BE.o.trans (V.o.be.mono BE.o.size)⟩;have j1:(k:Int)-1=(j:Int):=aq;have j2:=aR j k;have j3:(0:Int)<=(j:Int):=Int.natCast_nonneg _;have i7:=cF k k;clear hj hkr;clear P;go_upto_region 21 with fail;clear j1 j2 j3 i7 G;go_cut [113] (fun v wx=>(∃b:Bool,v= .bool b)/\ak (aA wr wx))
  case first=>
   obtain⟨adX,cl2,s,_,e2⟩:=(R.o.Z X.o X.o.size).get F;injection s with s
   subst s;go_wp2_with fail;refine(rO cl2 wr).mono ?_;rintro e w6 ⟨b,rfl,b6⟩;have B:ak _:=⟨b6⟩;clear b6 e2;cases b
   ·go_wp2
    go_meet;exact⟨⟨_,rfl⟩,B⟩
   obtain⟨ack,z2,s,_,e4⟩:=(MI.o.Z (BS.o.trans (B.o.mono BS.o.size)) (BS.o.trans (B.o.mono BS.o.size)).size).get F;injection s with s
   subst s;go_wp2;go_meet;exact⟨⟨_,rfl⟩,B⟩
  case rest=>
  obtain⟨⟨b,rfl⟩,B⟩:=hcut
  rename World=>w6
  have V6:ak _:=⟨V.o.ar B.o⟩;have B7:ak (aA w2 w6):=⟨BS.o.trans (B.o.mono BS.o.size)⟩;clear V IR X BS B;cases b
  ·go_wp2
   go_roundg (q+1-t)
   case measure=>omega
   case rel=>exact⟨t+1,m3+k,0,0,D4,none,c4,aq,aq,aq,aq, .inl aq,rfl,aQ,V6,⟨⟨[],bh.nil,aD⟩⟩⟩
  obtain⟨ack,z2,s,_,e4⟩:=(MI.o.Z B7.o B7.o.size).get F;injection s with s
  subst s;have LW:ak _:=⟨L2.o.Z B7.o BE.o.size⟩;go_wp2_with fail;refine(Yr (some qx) q lc n n l.heap.size z2 w6 LW.o aq aq).mono ?_;rintro e w9 ⟨rfl,A9,m9,c9,rfl,h9,i9⟩;have I9:ak _:=⟨i9⟩;clear i9 e4;go_wp2;go_roundg (q+1-t)
  case measure=>omega
  case rel=>exact⟨t+1,m3+k,m9,c9,D4,A9,c4,aq,aq,aq,aq, .inl aq,rfl,aQ,V6,I9⟩
 case rest=>
 obtain⟨m3,Z,c3,hm3,hm4,V3⟩:=hcut
 rename World=>w4
 clear V e0;obtain⟨j,hj⟩:∃j,j+1=m3:=⟨m3-1,aq⟩;obtain⟨gD,rfl,_,_⟩:=V3.o.ow.form hm3;obtain⟨y,P,y0⟩:=V3.o.ow.get (show j<m3 by omega);obtain⟨yn,rfl⟩:∃k:Nat,y=k:=⟨y.toNat,by have:=P.1;omega⟩;have F:yn<n:=by have:=P.2;omega
 have Y:=aR yn n;obtain⟨c0,c1,aU,vz⟩:=V3.o.bx.q4;have j1:(m3:Int)-1=(j:Int):=aq;have j2:=aR j m3;have j3:(0:Int)<=(j:Int):=Int.natCast_nonneg _;clear P hj;go_upto_region 24 with fail;clear j1 j2 j3 y0;obtain⟨u,pu,u0⟩:=V3.o.ow.get hm3;obtain⟨un,rfl⟩:∃k:Nat,u=k:=⟨u.toNat,by have:=pu.1;omega⟩;have J6:un<n:=by have:=pu.2;omega
 have h3:=aR 0 m3;have X:ak (aA w w4):=⟨H.o.trans (V3.o.be.mono H.o.size)⟩;have RW:ak _:=⟨R.o.Z X.o X.o.size⟩;have SW:ak _:=⟨S.o.Z X.o X.o.size⟩;have L0:=aw c0;have L1x:=aw c1;have L3:=aw u0
 clear c0 c1 aU vz u0 pu;refine aT (fun d=>if d=some 137 then some ZI else if d=some 138 then some ZI else none) 12 rfl aF aF aF aF aF rfl ?_
 repeat(refine bR aK aK aK ?_;intro K9 g;go_big_quiet_op;go_big_quiet_on)
 refine cG ZI aK aK (fun w9 cv=> ?_) (fun v9 aV=> ?_)
 ·obtain⟨O,rfl⟩:=cv
  go_simp;refine aW ZI ((zu (some adA) (some adC) n c d un (-1) base O.1 (RW.o.Z O.2 O.2.size) (SW.o.Z O.2 O.2.size) aq J6 (.inr rfl)).mono ?_);rintro e w5 ⟨z,rfl,hb⟩;exact⟨_,rfl,⟨z,rfl⟩,hb⟩
 obtain⟨_,_,z1,rfl⟩:=aV;simp[Act.put];refine cG ZI aK aK (fun w9 cv=> ?_) (fun v9 aV=> ?_)
 ·obtain⟨O,rfl⟩:=cv
  go_simp;refine aW ZI ((Wz lv z1 O.1).mono ?_);rintro e w5 ⟨z,rfl,hb⟩;exact⟨_,rfl,⟨z,rfl⟩,hb⟩
 obtain⟨_,_,z2,rfl⟩:=aV;simp[Act.put]
 repeat(refine bR aK aK aK ?_;intro K9 g;go_big_quiet_op;go_big_quiet_on)
 intro O hE;have V5:ak _:=⟨V3.o.ar O.2⟩;obtain⟨c0,c1,aU,vz⟩:=V5.o.bx.q4;have f2:=V5.o.bx.fz 2;have V6:ak _:=⟨V5.o.aeG z2⟩;clear hE L0 L1x L3 RW SW X V5 V3;go_simp;obtain⟨w5,zA⟩:∃w5,w5=O.1.setCell ⟨wr.heap.size,2,none⟩ (ae aj z2):=⟨_,rfl⟩;rw[<-zA]at V6;rw[<-zA];clear zA c0 c1 aU vz f2;have B:ak (aA w w5):=⟨H.o.trans (V6.o.be.mono H.o.size)⟩;have RW:ak _:=⟨R.o.Z B.o B.o.size⟩;have SW:ak _:=⟨S.o.Z B.o B.o.size⟩;go_wp2_with fail;refine(zu (some adA) (some adC) n c d yn 1 base w5 RW.o SW.o aq F (.inl rfl)).mono ?_;rintro e w6 ⟨z5,rfl,b6⟩;have V7:ak _:=⟨V6.o.ar b6⟩;clear b6 V6 B RW SW;have B7:ak (aA w w6):=⟨H.o.trans (V7.o.be.mono H.o.size)⟩;obtain⟨adX,cl2,s,_,e2⟩:=(R.o.Z B7.o B7.o.size).get F;injection s with s
 subst s;go_wp2_with fail;refine(rO cl2 w6).mono ?_;rintro e w7 ⟨b,rfl,b7⟩;have V8:ak _:=⟨V7.o.ar b7⟩;clear b7 V7 B7 e2 Y;cases b
 ·exact acO
 ·exact acO
end Go.Proofs.YtpidckelbgbbkaaGreatDoor
