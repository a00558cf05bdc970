/- Part of LineBoxes. -/
import Derived.Test.YtpidckelbgbbkaaGreatDoorAv
import Derived.Test.YtpidckelbgbbkaaGreatDoorAs
import Derived.OwnWalk
namespace Go.Proofs.YtpidckelbgbbkaaGreatDoor
open Go.ChangeShapes Go.WideShapes Go.ChangeAt Go.RowKit Go.Proofs.Tryz
open Go.Value renaming int → ae
open Go.IntKind renaming i64 → aj
set_option linter.all false
set_option maxRecDepth 100000
set_option maxHeartbeats 16000000
variable{w:World}{B N at_ b c g k m n:Nat}{cs:Array Value}{a:Act}{P:Program}{Q:Exit->Act->World->Prop}{lo:List Oper}{A:aC}{xs:aE}{G:Prop}{o:Oper}
def ZB(N:Nat):Sat:=⟨fun v w=>∃g:Nat,v= .pointer (some ⟨g,0,none⟩)/\N<=g/\Bx w g #[ae aj 0,ae aj 0,ae aj 0,ae aj 0,ae aj 0,ae aj 0,ae aj 0,ae aj 0,ae aj 0,ae aj 0],fun v w e ⟨g,c,d,a⟩ b=>⟨g,c,d,a.ar b a.lt⟩⟩
def ZI:Sat:=⟨fun v _=>∃z:Int,v=ae aj z,fun _ _ _ h _=>h⟩
def ZG(a:Int):Sat:=⟨fun v _=>∃z:Int,v= .agg #[ae aj z,ae aj a,ae aj 0,ae aj 0,ae aj 0,ae aj (-1),ae aj (-1),ae aj 0,ae aj 0,ae aj 0],fun _ _ _ h _=>h⟩
theorem Bx.fz(h:Bx w b cs)(o:Nat):w.frozen? ⟨b,o,none⟩=false:=by
 obtain⟨t,h⟩:=h;simp[World.frozen?,h]
theorem Bx.row{ds:Array Value}(h:Bx w b cs):Bx (w.setRow b ds) b ds:=by
 obtain⟨t,h⟩:=h;exact⟨t,setRow_heap w b cs ds t (0,0) h⟩
theorem Bx.yh{i c j k g a e l f d:Value}(h:Bx w b #[i,c,j,k,g,a,e,l,f,d]):w.cell? ⟨b,0,none⟩=some i/\w.cell? ⟨b,1,none⟩=some c/\w.cell? ⟨b,2,none⟩=some j/\w.cell? ⟨b,3,none⟩=some k/\w.cell? ⟨b,4,none⟩=some g/\w.cell? ⟨b,5,none⟩=some a/\w.cell? ⟨b,6,none⟩=some e/\w.cell? ⟨b,7,none⟩=some l/\w.cell? ⟨b,8,none⟩=some f/\w.cell? ⟨b,9,none⟩=some d:=
 ⟨h.cell 0,h.cell 1,h.cell 2,h.cell 3,h.cell 4,h.cell 5,h.cell 6,h.cell 7,h.cell 8,h.cell 9⟩
theorem Bx.heap(h:Bx w b cs):∃t,w.heap[b]? =some (.cells cs t (0,0)):=h
theorem nf{P:Program}{ops:Array Oper}{T:Option Tmp->Option Sat}{C:World->Prop}{Q Q':(World->Prop)->Act->Prop}(h:∀E a,Q E a->Q' E a):∀(l:List Oper) (E:World->Prop) (a:Act),dh P ops T C Q l E a->dh P ops T C Q' l E a
 |[],_,_,hh=>h _ _ hh
 |o::rest,E,a,hh=>by
  unfold dh at*;split
  ·rename_i b;simp only[b,if_true]at hh;exact nh (fun E a=>nf h rest E a) hh
  ·rename_i b;simp only[b]at hh;exact nf h rest _ _ hh
theorem je{p:Nat}(T:Option Tmp->Option Sat)(L:Nat)(hlen:lo.length=L+1)(s:P.follows .mixedOrders=true)
 (k:Region.noSelect lo.toArray=true) (i:backward lo.toArray=true) (t:Ny lo.toArray L=true) (r:Region.lexFrom .any lo.toArray L 0 ((Array.replicate lo.length false).setIfInBounds L true)=true) (f:(lo[L]?).map (·.guard)=some none)
 (h:dh P lo.toArray T (fun m=>∃n:aI w,m=n.1) (fun E d=>∀n:aI w,E n.1->∀o,lo[L]? =some o->o.wp P d n.1 (fun b c=>Q .normal b c) Q) (lo.take L) (fun _=>True) a):(Code.region p lo.toArray true).wp P Q a w:=by
 have g:L<lo.length:=aq;have e:lo[L]? =some lo[L]:=List.getElem?_eq_getElem g;refine uk (l:=lo.take L) (o:=lo[L]) T L ?_ cA s k i t r ?_ ?_
 ·rw[List.take_append_getElem g,List.take_of_length_le aq]
 ·rw[e]at f;simpa using f
 ·exact nf (fun E d q=>fun n j=>q n j _ e) _ _ _ h
theorem aL.FU{k:IntKind}{a:World}(h:aL k w A n c xs)(b:aA w a):aL k a A n c xs:=⟨h.at_.Z b,h.le,h.cap,h.wf⟩
theorem bh.gj{k:IntKind}(h:bh w B k A n xs){i:Nat}(b:i<n):∃a,A=some a/\w.cell? (a.add i)=some (.int k (nth xs i)):=by
 obtain⟨a,e,_,c⟩:=h.2 aq;exact⟨a,e,c i b⟩
theorem aL.gj{k:IntKind}(h:aL k w A n c xs){i:Nat}(b:i<n):∃a,A=some a/\w.cell? (a.add i)=some (.int k (nth xs i)):=h.at_.gj b
theorem aW{w0:World}{n:aI w0}{f:FuncId}{args:Array Value}(S:Sat)(h:Calls P f args n.1 fun e a=>∃v,e= .returned v/\S.p v a/\Below n.1.heap.size n.1 a):Calls P f args n.1 fun e a=>∃v,e= .returned v/\S.p v a/\(∃m:aI w0,a=m.1)/\Below n.1.heap.size n.1 a:=
 h.mono fun e a ⟨v,c,d,b⟩=>⟨v,c,d,⟨⟨a,n.2.trans (b.mono n.2.size)⟩,rfl⟩,b⟩
theorem Da{w0:World}(n:aI w0)(t:TypeId):(ZB w0.heap.size).p (.pointer (some ⟨n.1.heap.size,0,none⟩)) (n.1.alloc (.cells #[ae aj 0,ae aj 0,ae aj 0,ae aj 0,ae aj 0,ae aj 0,ae aj 0,ae aj 0,ae aj 0,ae aj 0] t))/\
 (∃m:aI w0,n.1.alloc (.cells #[ae aj 0,ae aj 0,ae aj 0,ae aj 0,ae aj 0,ae aj 0,ae aj 0,ae aj 0,ae aj 0,ae aj 0] t)=m.1)/\Below n.1.heap.size n.1 (n.1.alloc (.cells #[ae aj 0,ae aj 0,ae aj 0,ae aj 0,ae aj 0,ae aj 0,ae aj 0,ae aj 0,ae aj 0,ae aj 0] t)):=
 ⟨⟨_,rfl,n.2.size,Bx.new _ _ _⟩,⟨⟨_,n.2.trans ((av _ _).mono n.2.size)⟩,rfl⟩,av _ _⟩
theorem ZB.zb(h:(ZB N).p (.pointer (some ⟨g,0,none⟩)) w):Bx w g #[ae aj 0,ae aj 0,ae aj 0,ae aj 0,ae aj 0,ae aj 0,ae aj 0,ae aj 0,ae aj 0,ae aj 0]:=by
 obtain⟨a,e,_,h⟩:=h;injection e with e
 injection e with e
 injection e with e
 subst e;exact h
def aa8(N:Nat)(a:Int)(d:Option Tmp):Option Sat:=if d=some 28 then some ZI else if d=some 32 then some (ZG a)else if d=some 12 then some (ZB N)else none
theorem acN(s:G:=by
 obtain⟨nq,rfl⟩:=cv
 go_simp;refine aW ZI ((sG f _ nq.1 (R.o.Z (B2.o.trans (nq.2.mono B2.o.size)) (B2.o.trans (nq.2.mono B2.o.size)).size)).mono ?_);rintro e w5 ⟨z,rfl,hb⟩;exact⟨_,rfl,⟨z,rfl⟩,hb⟩):G:=s
theorem acg(f:db)(Z:aC)(k Y:Nat)(ts:aE)(j:Nat)(MA:aC)(u mc:Nat)(B:aE)(w:World)(h:ca w w.heap.size f)(ht:aL .i32 w Z k Y ts)(hm:bh w w.heap.size .i64 MA u B)(fJ:k<=5000)(Ws:u<=9000000)(Zt:j<=100000):
 Calls prog 192 #[f.v, .slice Z k Y,ae aj (j:Int), .slice MA u mc] w (Qz w (bV j (j+k)) k):=by
 obtain⟨d,aP⟩:=eX (w.alloc (.cells f.row 82));have G:ak (aA w d):=⟨lY⟩;have X1:ak (Bx d w.heap.size f.row):=⟨qR⟩;have R:ak (ca d d.heap.size f):=⟨h.Z G.o G.o.size⟩;have TS:ak (aL .i32 d Z k Y ts):=⟨ht.ar G.o⟩;have MS:ak (bh d d.heap.size .i64 MA u B):=⟨hm.Z G.o⟩;clear h ht hm;go_enter func192,ntmps192;go_wp2;rw[<-aP];clear aP;go_loopg [9,10,11,12] (k+1) (fun gg H v10 v11 _ wr=>∃(i a:Nat) (U:aC) (V:Nat),k-i<gg/\i<=k/\a<=i/\H= .slice U i V/\v10=ae aj (a:Int)/\v11=ae aj (i:Int)/\ak (fM wr d.heap.size (bV j (j+k)) U i V)/\ak (aA d wr))
 ·exact⟨0,0,none,0,aq,aq,aq,rfl,rfl,rfl,⟨Oq.nil _ _ _ _ _⟩,cB⟩
 obtain⟨i,a,U,V,hg,hi,hai,rfl,rfl,rfl,O2,P⟩:=hrel;by_cases T:i<k
 ·go_wp2_with fail
  refine(oT Z k Y ts (i:Int) wr (TS.o.FU P.o) aq).mono ?_;rintro e I ⟨rfl,b2⟩;have B2:ak (aA d I):=⟨P.o.trans (b2.mono P.o.size)⟩;have W:ak _:=⟨O2.o.ar b2⟩;obtain⟨c0,c1,x,X,c4,c5⟩:=(X1.o.ar B2.o X1.o.lt).f6;obtain⟨adt,rfl,ct⟩:=(TS.o.FU B2.o).gj T;clear b2 O2;generalize J8 (ks ts) (i:Int)=b;cases b
  ·go_wp2
   obtain⟨L0,L1,L2,L3,L4,L5,LT⟩:=lc7 c0 c1 x X c4 c5 ct;clear c0 c1 x X c4 c5 ct;have i1:=aR i k;refine je (aa8 I.heap.size ((j:Int)+(a:Int))) 11 rfl aF aF aF aF aF rfl ?_
   repeat(refine bR aK aK aK ?_;intro K9 C;go_big_quiet_op;go_big_quiet_on)
   refine cG ZI aK aK (fun S cv=> ?_) (fun H c=> ?_)
   ·exact acN
   obtain⟨_,_,z,rfl⟩:=c;simp[Act.put]
   repeat(refine bR aK aK aK ?_;intro K9 C;go_big_quiet_op;go_big_quiet_on)
   refine cG (ZG ((j:Int)+(a:Int))) aK aK (fun S cv=> ?_) (fun H c=> ?_)
   ·obtain⟨nq,rfl⟩:=cv
    go_simp;refine aW (ZG ((j:Int)+(a:Int))) ((sQ z ((j:Int)+(a:Int)) nq.1).mono ?_);rintro e w5 ⟨rfl,hb⟩;exact⟨_,rfl,⟨z,rfl⟩,hb⟩
   obtain⟨_,_,A,rfl⟩:=c;simp[Act.put];refine cG (ZB I.heap.size) aK aK (fun S cv=> ?_) (fun H c=> ?_)
   ·obtain⟨nq,rfl⟩:=cv
    go_simp;exact Da nq _
   obtain⟨_,_,g,rfl,r,_⟩:=c;simp[Act.put];intro n Q;have o:Bx n.1 g #[ae aj 0,ae aj 0,ae aj 0,ae aj 0,ae aj 0,ae aj 0,ae aj 0,ae aj 0,ae aj 0,ae aj 0]:=ZB.zb Q.2;obtain⟨F,s⟩:=o.heap;clear Q L0 L1 L2 L3 L4 L5 LT;refine wp_store_row 108 (.tmp 12) (.tmp 32) rfl g _ rfl rfl F _ s aF rfl dK ?_;have v:ak _:=⟨o.row (ds:= #[ae aj A,ae aj ((j:Int)+(a:Int)),ae aj 0,ae aj 0,ae aj 0,ae aj (-1),ae aj (-1),ae aj 0,ae aj 0,ae aj 0])⟩;obtain⟨y,m⟩:=eX (n.1.setRow g #[ae aj A,ae aj ((j:Int)+(a:Int)),ae aj 0,ae aj 0,ae aj 0,ae aj (-1),ae aj (-1),ae aj 0,ae aj 0,ae aj 0]);have K:ak (aA I y):=⟨by rw[m];exact below_setRow n.2 r _⟩;rw[<-m]at v;rw[<-m];clear m o s;have O6:ak _:=⟨W.o.ar K.o⟩;have l:ak (aA d y):=⟨B2.o.trans (K.o.mono B2.o.size)⟩;have Qj:=l.o.size;have iq:=B2.o.size;clear P;by_cases J:i<u
   ·have i2:=aR i u
    obtain⟨adm,rfl,cm⟩:=(MS.o.Z l.o).gj J;obtain⟨e0,e1,e2,e3,e4,e5,e6,e7,e8,e9⟩:=v.o.yh;have f9:=v.o.fz 9;have L:ak (fM (y.setCell ⟨g,9,none⟩ (ae aj (nth B i))) d.heap.size _ U i V):=⟨W.o.ar (Below.setCell K.o (p:=⟨g,9,none⟩) r _)⟩;have O:ak (aA d (y.setCell ⟨g,9,none⟩ (ae aj (nth B i)))):=⟨Below.setCell l.o (p:=⟨g,9,none⟩) (by show d.heap.size<=g;omega) _⟩;go_wp2_with (at_builtin;refine bU mf rfl (.tmp 42) (.tmp 44) rfl rfl (L.o.alloc _) rfl [A,(j:Int)+(a:Int),0,0,0,-1,-1,0,0,nth B i] rfl (cJ _ _ _ _ _ aD rfl) ⟨sF,sF⟩ aq cA ?_;intro D c8 E q t;have M:ak _:=⟨q⟩;have N:ak (aA d E):=⟨(O.o.alloc Hj _).trans t⟩;clear q t);go_roundg (k-i)
    ·exact⟨i+1,a,D,c8,aq,aq,aq,rfl,ke,aQ,M,N⟩
    omega
   ·have i2:=cF i u
    obtain⟨e0,e1,e2,e3,e4,e5,e6,e7,e8,e9⟩:=v.o.yh;have L:=O6;have O:=l;go_wp2_with (at_builtin;refine bU mf rfl (.tmp 42) (.tmp 44) rfl rfl (L.o.alloc _) rfl [A,(j:Int)+(a:Int),0,0,0,-1,-1,0,0,0] rfl (cJ _ _ _ _ _ aD rfl) ⟨sF,sF⟩ aq cA ?_;intro D c8 E q t;have M:ak _:=⟨q⟩;have N:ak (aA d E):=⟨(O.o.alloc Hj _).trans t⟩;clear q t);go_roundg (k-i)
    ·exact⟨i+1,a,D,c8,aq,aq,aq,rfl,ke,aQ,M,N⟩
    omega
  ·go_wp2
   obtain⟨L0,L1,L2,L3,L4,L5,LT⟩:=lc7 c0 c1 x X c4 c5 ct;clear c0 c1 x X c4 c5 ct;have i1:=aR i k;refine je (aa8 I.heap.size ((j:Int)+(i:Int))) 11 rfl aF aF aF aF aF rfl ?_
   repeat(refine bR aK aK aK ?_;intro K9 C;go_big_quiet_op;go_big_quiet_on)
   refine cG ZI aK aK (fun S cv=> ?_) (fun H c=> ?_)
   ·exact acN
   obtain⟨_,_,z,rfl⟩:=c;simp[Act.put]
   repeat(refine bR aK aK aK ?_;intro K9 C;go_big_quiet_op;go_big_quiet_on)
   refine cG (ZG ((j:Int)+(i:Int))) aK aK (fun S cv=> ?_) (fun H c=> ?_)
   ·obtain⟨nq,rfl⟩:=cv
    go_simp;refine aW (ZG ((j:Int)+(i:Int))) ((sQ z ((j:Int)+(i:Int)) nq.1).mono ?_);rintro e w5 ⟨rfl,hb⟩;exact⟨_,rfl,⟨z,rfl⟩,hb⟩
   obtain⟨_,_,A,rfl⟩:=c;simp[Act.put];refine cG (ZB I.heap.size) aK aK (fun S cv=> ?_) (fun H c=> ?_)
   ·obtain⟨nq,rfl⟩:=cv
    go_simp;exact Da nq _
   obtain⟨_,_,g,rfl,r,_⟩:=c;simp[Act.put];intro n Q;have o:Bx n.1 g #[ae aj 0,ae aj 0,ae aj 0,ae aj 0,ae aj 0,ae aj 0,ae aj 0,ae aj 0,ae aj 0,ae aj 0]:=ZB.zb Q.2;obtain⟨F,s⟩:=o.heap;clear Q L0 L1 L2 L3 L4 L5 LT;refine wp_store_row 108 (.tmp 12) (.tmp 32) rfl g _ rfl rfl F _ s aF rfl dK ?_;have v:ak _:=⟨o.row (ds:= #[ae aj A,ae aj ((j:Int)+(i:Int)),ae aj 0,ae aj 0,ae aj 0,ae aj (-1),ae aj (-1),ae aj 0,ae aj 0,ae aj 0])⟩;obtain⟨y,m⟩:=eX (n.1.setRow g #[ae aj A,ae aj ((j:Int)+(i:Int)),ae aj 0,ae aj 0,ae aj 0,ae aj (-1),ae aj (-1),ae aj 0,ae aj 0,ae aj 0]);have K:ak (aA I y):=⟨by rw[m];exact below_setRow n.2 r _⟩;rw[<-m]at v;rw[<-m];clear m o s;have O6:ak _:=⟨W.o.ar K.o⟩;have l:ak (aA d y):=⟨B2.o.trans (K.o.mono B2.o.size)⟩;have Qj:=l.o.size;have iq:=B2.o.size;clear P;by_cases J:i<u
   ·have i2:=aR i u
    obtain⟨adm,rfl,cm⟩:=(MS.o.Z l.o).gj J;obtain⟨e0,e1,e2,e3,e4,e5,e6,e7,e8,e9⟩:=v.o.yh;have f9:=v.o.fz 9;have L:ak (fM (y.setCell ⟨g,9,none⟩ (ae aj (nth B i))) d.heap.size _ U i V):=⟨W.o.ar (Below.setCell K.o (p:=⟨g,9,none⟩) r _)⟩;have O:ak (aA d (y.setCell ⟨g,9,none⟩ (ae aj (nth B i)))):=⟨Below.setCell l.o (p:=⟨g,9,none⟩) (by show d.heap.size<=g;omega) _⟩;go_wp2_with (at_builtin;refine bU mf rfl (.tmp 42) (.tmp 44) rfl rfl (L.o.alloc _) rfl [A,(j:Int)+(i:Int),0,0,0,-1,-1,0,0,nth B i] rfl (cJ _ _ _ _ _ aD rfl) ⟨sF,sF⟩ aq cA ?_;intro D c8 E q t;have M:ak _:=⟨q⟩;have N:ak (aA d E):=⟨(O.o.alloc Hj _).trans t⟩;clear q t);go_roundg (k-i)
    ·exact⟨i+1,i,D,c8,aq,aq,aq,rfl,ke,aQ,M,N⟩
    omega
   ·have i2:=cF i u
    obtain⟨e0,e1,e2,e3,e4,e5,e6,e7,e8,e9⟩:=v.o.yh;have L:=O6;have O:=l;go_wp2_with (at_builtin;refine bU mf rfl (.tmp 42) (.tmp 44) rfl rfl (L.o.alloc _) rfl [A,(j:Int)+(i:Int),0,0,0,-1,-1,0,0,0] rfl (cJ _ _ _ _ _ aD rfl) ⟨sF,sF⟩ aq cA ?_;intro D c8 E q t;have M:ak _:=⟨q⟩;have N:ak (aA d E):=⟨(O.o.alloc Hj _).trans t⟩;clear q t);go_roundg (k-i)
    ·exact⟨i+1,i,D,c8,aq,aq,aq,rfl,ke,aQ,M,N⟩
    omega
 ·obtain rfl:i=k:=by omega
  clear T;go_wp2;go_ret;exact⟨_,_,rfl,O2.o.cN G.o.size,G.o.trans (P.o.mono G.o.size)⟩
abbrev Sb.row(x:Sb):Array Value:= #[.slice x.C x.cn x.cc, .slice x.T x.tn x.tc, .slice x.L x.ln x.lc, .slice x.B x.bn x.bc, .slice x.J x.jn x.jc, .slice x.A x.an x.ac, .slice x.N x.nn x.nc, .slice x.V x.vn x.vc, .slice x.P x.pn x.pc, .slice x.U x.un x.uc, .slice x.M x.mn x.mc, .slice x.H x.hn x.hc]
def PTo(w:World)(e:Ending)(a:World):Prop:=∃(A:aC) (m c:Nat) (b:Bool),e= .returned (.tuple #[.slice A m c, .bool b])/\(b=true->m<=16/\cM a a.heap.size ew A m c)/\aA w a
theorem UH{j:Nat}(h:cM w B ew A n c)(k:j<n):∃(b:Addr) (a:Int),A=some b/\w.cell? (b.add j)=some (ae aj a)/\(Lit.int .i64 a).wf=true:=by
 obtain⟨b,e,_,f⟩:=h.2.2.2 aq;obtain⟨m,i,l⟩:=f j k;obtain⟨a,rfl,g⟩:=i;have d:=l 0 _ rfl;rw[eQ]at d;rw[show ew.n=1 from rfl,Nat.mul_one]at d;exact⟨b,a,e,d,g⟩
theorem Bx.mS{x:Sb}(h:Bx w b x.row):w.cell? ⟨b,0,none⟩=some (.slice x.C x.cn x.cc)/\w.cell? ⟨b,1,none⟩=some (.slice x.T x.tn x.tc)/\w.cell? ⟨b,2,none⟩=some (.slice x.L x.ln x.lc)/\w.cell? ⟨b,3,none⟩=some (.slice x.B x.bn x.bc)/\w.cell? ⟨b,4,none⟩=some (.slice x.J x.jn x.jc)/\w.cell? ⟨b,5,none⟩=some (.slice x.A x.an x.ac)/\w.cell? ⟨b,6,none⟩=some (.slice x.N x.nn x.nc)/\w.cell? ⟨b,7,none⟩=some (.slice x.V x.vn x.vc)/\w.cell? ⟨b,8,none⟩=some (.slice x.P x.pn x.pc)/\w.cell? ⟨b,9,none⟩=some (.slice x.U x.un x.uc)/\w.cell? ⟨b,10,none⟩=some (.slice x.M x.mn x.mc)/\w.cell? ⟨b,11,none⟩=some (.slice x.H x.hn x.hc):=
 ⟨h.cell 0,h.cell 1,h.cell 2,h.cell 3,h.cell 4,h.cell 5,h.cell 6,h.cell 7,h.cell 8,h.cell 9,h.cell 10,h.cell 11⟩
theorem sT{x:Sb}{a:World}(c:nD w w.heap.size x)(h:a=w.alloc (.cells x.row 141)):aA w a/\Bx a w.heap.size x.row/\nD a a.heap.size x:=by
 have b:aA w a:=JE;exact⟨b,by rw[h];exact Bx.new _ _ _,c.Z b b.size⟩
theorem acE(s:G:=by
 obtain⟨ad,x,ea,hx,e0,e1,e2,e3,e4,e5,e6,e7,e8,e9,re,rI⟩:=jh RR.rS aH
 have HT:ak (x.tn=x.cn):=⟨(RCC.at hkt aH ea e0 e1).1⟩;have HC0:ak (yN wr wr.heap.size _ x.T x.tn):=⟨(RCC.at hkt aH ea e0 e1).2⟩;obtain⟨W2,cd⟩:=eX (wr.alloc (.cells x.row 141));obtain⟨b2,x2,r2⟩:=sT hx cd;have HC:ak (yN W2 W2.heap.size _ x.T x.tn):=⟨HC0.o.Z b2 b2.size⟩;have B2:ak (aA W1 W2):=⟨BE.o.trans (b2.mono BE.o.size)⟩;have X2:ak _:=⟨x2⟩;have R2:ak _:=⟨r2⟩;have JT:=r2.rC.bd;clear HC0 b2 x2 r2 hx;rw[ea]at d3;clear ea;go_wp2;rw[<-cd];clear cd e0 e1 e2 e3 e4 e5 e6 e7 e8 e9 re rI d0 d1 d2 d3;go_loopg [8,9,10] (x.cn+1) (fun gg v8 _ _ wr=>∃j:Nat,x.cn-j<gg/\j<=x.cn/\v8=ae aj (j:Int)/\ak (aA W2 wr))
 ·exact⟨0,aq,aq,rfl,cB⟩
 obtain⟨j,Wi,hj,rfl,BS⟩:=hrel;obtain⟨c0,c1,c2,c3,c4,c5,c6,c7,c8,c9,yh,c11⟩:=(X2.o.ar BS.o X2.o.lt).mS;have B3:ak (aA W1 wr):=⟨B2.o.trans (BS.o.mono B2.o.size)⟩;by_cases R':j<x.cn
 ·obtain⟨ady,y,ey,dy⟩:=ie (R2.o.rC.Z BS.o BS.o.size) R'
  obtain⟨adT,A3,n3,vz,eT,hA3,dT⟩:=fi (R2.o.rT.Z BS.o BS.o.size) (j:=j) (by rw[HT.o];exact R');have hn3:=((HC.o.Z BS.o BS.o.size).at (by rw[HT.o];exact R') eT dT).1;have RA:ak _:=⟨hA3⟩;rw[HT.o,eT]at c1;rw[ey]at c0;clear hA3 ey eT;by_cases hy:y=g
  ·go_wp2
   clear c0 c2 c3 c4 c5 c6 c7 c8 c9 yh c11 dy;obtain⟨w3,eD⟩:=eX wr;rw[<-eD]at BS B3 RA c1 dT;rw[<-eD];clear eD;go_loopg [9,10] (n3+1) (fun gg v9 v10 wr=>∃(q:Nat) (A4:aC) (c4:Nat) (xs:aE),n3-q<gg/\q<=n3/\v9= .slice A4 q c4/\v10=ae aj (q:Int)/\ak (Own wr w3.heap.size 3 .i64 A4 q c4 xs)/\ak (∀x∈xs,(Lit.int .i64 x).wf=true)/\ak (aA w3 wr))
   ·exact⟨0,none,0,[],aq,aq,rfl,rfl,⟨Own.nil _ _ _ _⟩,⟨aD⟩,cB⟩
   obtain⟨q,A4,c4,xs,uJ,hq,rfl,rfl,O4,F4,B4⟩:=hrel;have d1:=au c1 B4.o;have d2:=au dT B4.o;have BQ:ak (aA W1 wr):=⟨B3.o.trans (B4.o.mono B3.o.size)⟩;have IY:=B4.o.size;by_cases IF:q<n3
   ·obtain⟨adz,z,ez,dz,wz⟩:=UH (RA.o.Z B4.o B4.o.size) IF
    have WZ:ak _:=⟨wz⟩;clear wz;rw[ez]at d2;clear ez;go_wp2_with (at_builtin;refine a7 IW rfl (.tmp 62) (.tmp 71) rfl rfl (O4.o.alloc _) rfl (fF _ _ _ _ rfl) aq cA ?_;intro A5 c5 w5 o5 b5 _ _;have O5:ak _:=⟨o5⟩;have B5:ak (aA w3 w5):=⟨(B4.o.alloc aq _).trans b5⟩;clear o5 b5);go_roundg (n3-q)
    case measure=>omega
    case rel=>exact⟨q+1,A5,c5,_,aq,aq,rfl,aQ,O5,⟨fun x hx=>by
     rcases List.mem_append.1 hx with hx|hx
     ·exact F4.o x hx
     ·simp at hx;subst hx;exact WZ.o⟩,B5⟩
   ·obtain rfl:q=n3:=by omega
    go_wp2;go_ret2;exact⟨_,_,_,_,rfl,fun _=>⟨hn3,(Yp O4.o F4.o aq)⟩,B1.o.trans (BQ.o.mono B1.o.size)⟩
  ·have hy':(y==g)=false:=by simp[hy]
   go_wp2;go_roundg (x.cn-j)
   ·exact⟨j+1,aq,aq,aQ,BS⟩
   omega
 ·go_wp2
  go_roundg (sn-i)
  ·exact⟨i+1,aq,aq,aQ,B3⟩
  omega):G:=s
theorem ae4(k:Lk)(g:Int)(w:World)(h:lS w w.heap.size k)(m:zI w w.heap.size k):Calls prog 314 #[k.v,ae aj g] w (PTo w):=by
 obtain⟨W1,aP⟩:=eX (w.alloc (.cells k.row 132));have B1:ak (aA w W1):=⟨lY⟩;have d:ak (Bx W1 w.heap.size k.row):=⟨qR⟩;have R:ak (lS W1 W1.heap.size k):=⟨h.Z B1.o B1.o.size⟩;have B:ak (zI W1 W1.heap.size k):=⟨m.Z B1.o B1.o.size⟩;have s:=h.rS.bd;clear h m;obtain⟨d0,d1,d2,d3⟩:=d.o.k4;by_cases t:k.kind=1∨k.kind=2;rotate_left
 ·have l:(k.kind !=1)=true:=by simp;omega
  have n:(k.kind !=2)=true:=cA;go_enter func314,ntmps314;go_wp2;go_ret2;rw[<-aP];exact⟨_,_,_,_,rfl,aD,B1.o⟩
 have hkt:JU k.kind:=by rcases t with h|h<;>simp[JU,h]
 have C:ak (aA w W1):=⟨B1.o⟩;have o:∀(wr:World),aA W1 wr->lS wr wr.heap.size k/\zI wr wr.heap.size k/\Bx wr w.heap.size k.row/\aA w wr:=fun wr a=>⟨R.o.Z a a.size,B.o.Z a a.size,d.o.ar a d.o.lt,B1.o.trans (a.mono B1.o.size)⟩
 have b:=Lib.hid o;clear o;have main:(k.kind=1∨((k.kind !=1)=true/\k.kind=2)):=by by_cases h:k.kind=1;exact .inl h;exact .inr ⟨by simp;omega,by omega⟩
 rcases main with l|⟨l,n⟩
 all_goals clear d0 d1 d2 d3
 ·obtain⟨u,v,st,S,sn,r⟩:=k
  dsimp only at*;subst l;go_enter func314,ntmps314;go_wp2;rw[<-aP];clear aP;go_loopg [6,7,8,9,10] (sn+1) (fun gg c _ _ _ _ wr=>∃i:Nat,sn-i<gg/\i<=sn/\c=ae aj (i:Int)/\ak (aA W1 wr))
  ·exact⟨0,aq,aq,rfl,cB⟩
  obtain⟨i,p,A,rfl,BE⟩:=hrel;obtain⟨RR,RCC,e,f⟩:=b.out wr BE.o;obtain⟨d0,d1,d2,d3⟩:=e.k4;by_cases aH:i<sn
  ·exact acE
  ·go_wp2
   go_ret2;exact⟨_,_,_,_,rfl,aD,f⟩
 ·obtain⟨u,v,st,S,sn,r⟩:=k
  dsimp only at*;subst n;go_enter func314,ntmps314;go_wp2;rw[<-aP];clear aP;go_loopg [6,7,8,9,10] (sn+1) (fun gg c _ _ _ _ wr=>∃i:Nat,sn-i<gg/\i<=sn/\c=ae aj (i:Int)/\ak (aA W1 wr))
  ·exact⟨0,aq,aq,rfl,cB⟩
  obtain⟨i,p,A,rfl,BE⟩:=hrel;obtain⟨RR,RCC,e,f⟩:=b.out wr BE.o;obtain⟨d0,d1,d2,d3⟩:=e.k4;by_cases aH:i<sn
  ·exact acE
  ·go_wp2
   go_ret2;exact⟨_,_,_,_,rfl,aD,f⟩
section
variable {P : Program} {ops : Array Oper} {md : Region.Mode} {C : World -> Prop} {T : Option Tmp -> Option Sat}
def jV(ops:Array Oper)(a b:Nat):Bool:=((ops[a]?).map (·.after.any fun e=>Region.binds .any e&&e.on==b)).getD false
def gE(ops:Array Oper)(L:Nat):Bool:=(List.range L).all fun i=>jV ops L i||(List.range L).any fun j=>jV ops L j&&jV ops j i
def Cl(ops:Array Oper)(a:Array Bool):Prop:=∀j o,ops[j]? =some o->a.getD j false=true->∀e∈o.after,Region.binds .any e=true->a.getD e.on false=true
theorem fg{c:Array Bool}{a:Nat}(g:ops[a]? =some o)(d:∀e∈o.after,Region.binds .any e=true->c.getD e.on false=true)(h:jV ops a b=true):c.getD b false=true:=by
 unfold jV at h;rw[g]at h;simp only[Option.map_some,Option.getD_some,Array.any_eq_true]at h;obtain⟨k,j,f⟩:=h;rw[Bool.and_eq_true]at f;have i:=d _ (Array.getElem_mem j) f.1;rwa [show(o.after[k]).on=b by simpa using f.2]at i
theorem sR{a:Array Bool}{L:Nat}(n:gE ops L=true)(f:Cl ops a)(m:L∈Region.ready .any ops a):∀i,i<L->a.getD i false=true:=fun i g=>by
 obtain⟨_,o,k,b⟩:=mem_ready.1 m;have d:=(List.all_eq_true.1 n) i (List.mem_range.2 g);rw[Bool.or_eq_true]at d;rcases d with d|d
 ·exact fg k b d
 ·obtain⟨j,p,h⟩:=List.any_eq_true.1 d
  rw[Bool.and_eq_true]at h;have l:=fg k b h.1;have e:=h.2;cases c:ops[j]? with
  |none=>unfold jV at e;rw[c]at e;simp at e
  |some oj=>exact fg c (f j oj c l) e
theorem Er{a:Array Bool}{i:Nat}(f:Cl ops a)(m:i∈Region.ready .any ops a)(p:a.size=ops.size):Cl ops (a.setIfInBounds i true):=fun j o k h e l g=>by
 by_cases c:i=j
 ·subst c
  obtain⟨_,n,d,b⟩:=mem_ready.1 m;rw[k]at d;obtain rfl:=Option.some.inj d;exact getD_set_true (b e l g)
 ·rw[getD_set_ne false c]at h
  exact getD_set_true (f j o k h e l g)
theorem yj{Q:(World->Prop)->Act->Prop}{Q':Exit->Act->World->Prop}{L:Nat}(z:backward ops=true)(V:L+1=ops.size)(O:gE ops L=true)
 (I:∀E a w,C w->E w->Q E a->wpOp P ops Q' L (fun a w=>Q' .normal a w) a w):∀(fuel:Nat) (b:Array Bool) (E:World->Prop) (a:Act) (w:World),C w->E w->nx E->b.size=ops.size->b.getD L true=false->Cl ops b->
 fQ P .any ops T C Q fuel (b.setIfInBounds L true) E a->wpAny P .any ops Q' (fuel+1) b a w:=by
 have fin:∀(fuel:Nat) (b:Array Bool) (a:Act) (w:World),b.size=ops.size->b.getD L true=false->Region.ready .any ops (b.setIfInBounds L true)=[]->wpOp P ops Q' L (fun a w=>Q' .normal a w) a w->wpAny P .any ops Q' (fuel+1) b a w:=by
  intro fuel b a w hs hl g S;have all:=ed z oM g;refine⟨fun D=> ?_,fun i k=> ?_⟩
  ·exfalso
   have:=ed z hs D L aq;rw[Array.getD_eq_getD_getElem?,Array.getElem?_eq_getElem aq]at this hl;simp at this hl;rw[this]at hl;cases hl
  ·obtain⟨s,o,R,_⟩:=mem_ready.1 k
   have y:=(Array.getElem?_eq_some_iff.1 R).1;obtain rfl:i=L:=by
    rcases Nat.decEq i L with h|h
    ·exfalso
     have t:=all i y;rw[getD_set_ne false (Ne.symm h)]at t;rw[Array.getD_eq_getD_getElem?,Array.getElem?_eq_getElem aq]at t s;simp at t s;rw[t]at s;cases s
    ·exact h
   refine wpOp_mono (fun K H v=> ?_) S;cases fuel with
   |zero=>exact⟨g,v⟩
   |succ f=>exact⟨fun _=>v,fun j J=>by rw[g]at J;cases J⟩
 intro fuel
 induction fuel with
 |zero=>intro b E a w u r p hs hl d h;exact fin 0 b a w hs hl h.1 (I _ _ _ u r h.2)
 |succ fuel ih=>
  intro b E a w u r p hs hl d h;cases g:Region.ready .any ops (b.setIfInBounds L true)with
  |nil=>exact fin (fuel+1) b a w hs hl g (I _ _ _ u r (h.1 g))
  |cons i0 rest=>
   have D:i0∈Region.ready .any ops (b.setIfInBounds L true):=by rw[g];simp
   obtain⟨m,U,G,_⟩:=mem_ready.1 D;have n:=(Array.getElem?_eq_some_iff.1 G).1;have q:i0≠L:=fun e=>by
    subst e;simp[hs,n]at m
   have c:b.getD i0 true=false:=(by rwa [getD_set_ne true (Ne.symm q)]at m);have B:∀i∈Region.ready .any ops b,i≠L:=fun i k e=>by
    subst e;have x:=sR O d k i0 aq;rw[Array.getD_eq_getD_getElem?,Array.getElem?_eq_getElem aq]at x c;simp at x c;rw[x]at c;cases c
   refine⟨fun N=> ?_,fun i k=> ?_⟩
   ·exfalso
    have:=ed z hs N i0 n;rw[Array.getD_eq_getD_getElem?,Array.getElem?_eq_getElem aq]at this c;simp at this c;rw[this]at c;cases c
   ·have dX:=B i k
    refine dV u r p (fun M K H F A l v=>ih _ M K H F A l oM VO (Er d k hs) ?_) (h.2 i (ready_mono k dX));rw[Array.setIfInBounds_comm _ _ dX];exact v
theorem sC{s:Nat}{l:List Oper}(T:Option Tmp->Option Sat)(L:Nat)(b:lo=l++[o])(hlen:l.length=L)(A:P.follows .mixedOrders=true)
 (r:Region.noSelect lo.toArray=true) (v:backward lo.toArray=true) (u:gE lo.toArray L=true) (z:Region.lexFrom .any lo.toArray L 0 ((Array.replicate lo.length false).setIfInBounds L true)=true) (hg:o.guard=none)
 (h:dh P lo.toArray T (fun d=>∃n:aI w,d=n.1) (fun E p=>∀n:aI w,E n.1->o.wp P p n.1 (fun e i=>Q .normal e i) Q) l (fun _=>True) a):(Code.region s lo.toArray true).wp P Q a w:=by
 have k:(fun d=>∃n:aI w,d=n.1) {w with drawn:=w.drawn+1}:=⟨⟨{w with drawn:=w.drawn+1},⟨rfl,rfl,rfl,Nat.le_refl _,fun _ _=>rfl⟩⟩,rfl⟩;have c:lo.length=L+1:=by rw[b];simp[hlen]
 have f:lo.toArray[L]? =some o:=by rw[b,<-hlen];simp
 refine wp_region_any A ?_;have m:=iR (md:= .any) ⟨_,k⟩ r l 0 ((Array.replicate lo.length false).setIfInBounds L true) (fun _=>True) a (fun j x=>by
  rw[b];simp[List.getElem?_append_left x]) (by rw[hlen];exact z) h
 rw[hlen]at m;have t:=yj (C:=fun d=>∃n:aI w,d=n.1) (Q':=Q) (L:=L) v (by simp[c]) u (fun E p d g q y=>by
  obtain⟨n,rfl⟩:=g;unfold wpOp;simp only[f];rw[if_pos Hp];exact .inl (y n q)) L (Array.replicate lo.length false) (fun _=>True) a {w with drawn:=w.drawn+1} k trivial (fun _ _ _ _=>trivial) aD (by simp[c]) (fun j o B h=>by exfalso;rw[Array.getD_eq_getD_getElem?,Array.getElem?_replicate]at h;split at h<;>simp at h) m
 simpa[c]using t
theorem aT{p:Nat}(T:Option Tmp->Option Sat)(L:Nat)(hlen:lo.length=L+1)(s:P.follows .mixedOrders=true)
 (k:Region.noSelect lo.toArray=true) (i:backward lo.toArray=true) (t:gE lo.toArray L=true) (r:Region.lexFrom .any lo.toArray L 0 ((Array.replicate lo.length false).setIfInBounds L true)=true) (f:(lo[L]?).map (·.guard)=some none)
 (h:dh P lo.toArray T (fun m=>∃n:aI w,m=n.1) (fun E d=>∀n:aI w,E n.1->∀o,lo[L]? =some o->o.wp P d n.1 (fun b c=>Q .normal b c) Q) (lo.take L) (fun _=>True) a):(Code.region p lo.toArray true).wp P Q a w:=by
 have g:L<lo.length:=aq;have e:lo[L]? =some lo[L]:=List.getElem?_eq_getElem g;refine sC (l:=lo.take L) (o:=lo[L]) T L ?_ cA s k i t r ?_ ?_
 ·rw[List.take_append_getElem g,List.take_of_length_le aq]
 ·rw[e]at f;simpa using f
 ·exact nf (fun E d q=>fun n j=>q n j _ e) _ _ _ h
end
def ZTo:Sat:=⟨fun v w=>∃(A:aC) (m c:Nat) (b:Bool),v= .tuple #[.slice A m c, .bool b]/\(b=true->m<=16/\cM w w.heap.size ew A m c),fun v w g ⟨A,m,c,b,f,d⟩ a=>⟨A,m,c,b,f,fun e=>⟨(d e).1,(d e).2.Z a a.size⟩⟩⟩
theorem ZTo.get{b:Bool}(h:ZTo.p (.tuple #[.slice A m c, .bool b]) w):b=true->m<=16/\cM w w.heap.size ew A m c:=by
 obtain⟨f,a,c',d,e,h⟩:=h;simp at e;obtain⟨⟨rfl,rfl,rfl⟩,rfl⟩:=e;exact h
def jd(t:Nat)(S:Sat)(d:Option Tmp):Option Sat:=if d=some t then some S else none
def PAp(w:World)(B:Nat)(Q:aE->Prop)(N:Nat)(e:Ending)(a:World):Prop:=∃(A:aC) (m c x:Nat) (b:Bool),e= .returned (.tuple #[.slice A m c,ae aj (x:Int), .bool b])/\(b=true->m<=N/\x<=1000000/\fM a B Q A m c)/\aA w a
theorem Oq.le{e:TypeId}{Q:aE->Prop}(h:Oq w B e k Q A n c):n<=c:=by
 obtain⟨gs,b,d,a⟩:=h;exact aB.le a
theorem Fq(f:db)(k:Lk)(lo l:Int)(A:aC)(n c at_:Nat)(w:World)(h:ca w w.heap.size f)(D:lS w w.heap.size k)(J:zI w w.heap.size k)(N:gi w (bV lo l) A n)(hn:n<=50000)(I:at_<n)(y:n<=c):
 Calls prog 300 #[f.v,k.v, .slice A n c,ae aj (at_:Int)] w (PAp w w.heap.size (bV lo l) (n+16)):=by
 obtain⟨W1,j,b,X1,P⟩:=box2 w f.row 82 k.row 132;have R:=sH (D.Z b.o b.o.size);have X:=sH (J.Z b.o b.o.size);have L:=sH (N.Z b.o b.o.size);clear h D J N;have i1:¬((n:Int)<=(at_:Int)):=aq;have i3:=aR at_ n;obtain⟨H,F,E,O⟩:=P.o.k4;obtain⟨C,T,x1,x2,x3,x4,x5,x6,x7,x8,x9,rfl,W,M,_⟩:=L.o.ba I;clear W;go_enter func300,ntmps300;go_wp2;rw[<-j];clear j;obtain⟨M0,M1,M2,U,E0⟩:=lc5 H F E O M;clear H F E O M;refine aY (jd 31 ZTo) aF aF ?_;refine mLw ?_;refine lwA ZTo (fun d=> ?_) (fun v9 z=> ?_)
 ·go_simp
  refine aW ZTo ((ae4 k T d.1 (R.o.Z d.2 d.2.size) (X.o.Z d.2 d.2.size)).mono ?_);rintro e w5 ⟨u,p,c5,v,rfl,Z,hb⟩;exact⟨_,rfl,⟨u,p,c5,v,rfl,Z⟩,hb⟩
 obtain⟨_,_,u,p,c5,v,rfl,_⟩:=z;simp[Act.put];refine mLw ?_;intro d B;have a:=ZTo.get B;have i:=sH d.2;have t:=sH (L.o.Z d.2 d.2.size);obtain⟨K,g⟩:=eX d.1;rw[<-g]at i t a;rw[<-g];clear g B E0 M0 M1 M2 U;cases v
 ·clear a
  go_wp2_with fail;refine(Dt (bV lo l) (some C) n c K t.o aq).mono ?_;rintro e G ⟨x,s,rfl,o,m⟩;have r:=sH (b.o.trans ((i.o.trans (m.mono i.o.size)).mono b.o.size));clear o m;go_wp2;go_ret3;exact⟨_,_,_,at_,_,rfl,aD,r.o⟩
 ·have Q:=sH ((a rfl).2)
  have hm:=(a rfl).1;clear a;go_wp2_with fail;refine(II lo l (some C) n c at_ u p c5 K t.o Q.o aq aq I y).mono ?_;rintro e G ⟨q,hq,x,s,rfl,o,m⟩;have V:=i.o.size;have Y:=b.o.size;have r:=sH (b.o.trans ((i.o.trans (m.mono i.o.size)).mono b.o.size));have S:ak (fM G w.heap.size (bV lo l) x q s):=⟨o.cN aq⟩;clear o m;go_wp2;go_ret3;exact⟨x,q,s,at_+p,true,rfl,fun _=>⟨aq,aq,S.o⟩,r.o⟩
section
open Ty
theorem Xf{k:Nat}:∀(l:List (List Value)) (h:∀g∈l,g.length=k) (q i:Nat) (g:List Value),l[q]? =some g->i<k->l.flatten[q*k+i]? =g[i]?
 |[],_,q,i,g,h,_=>by simp at h
 |y::l,hl,0,i,g,h,hi=>by
  simp at h;subst h;have:=hl y aD;rw[List.flatten_cons,List.getElem?_append_left aq];simp
 |y::l,hl,q+1,i,g,h,hi=>by
  simp at h;have a:=hl y aD;rw[List.flatten_cons,List.getElem?_append_right (by rw[a,Nat.add_mul];omega),a,show(q+1)*k+i-k=q*k+i by rw[Nat.add_mul];omega];exact Xf l (fun g b=>hl g (by simp[b])) q i g h hi
theorem vp(l:List (List Value))(h:∀g∈l,g.length=k):l.flatten.length=l.length*k:=by
 induction l with
 |nil=>simp
 |cons y l ih=>
  rw[List.flatten_cons,List.length_append,ih fun g a=>h g (by simp[a]),List.length_cons,Nat.add_mul,h y aD];omega
theorem Rd.one{w:World}{B:Nat}:∀{t:Ty} {vs:List Value},Rd w B t vs->∀u∈vs,u.oneCell'=true
 | .num _,_,⟨_,e,_⟩=>by rw[e];simp[Value.oneCell']
 | .Vo,_,⟨_,e⟩=>by rw[e];simp[Value.oneCell']
 | .str,_,⟨_,e,_⟩=>by rw[e];simp[Value.oneCell']
 | .arr _,_,⟨_,_,_,e,_⟩=>by rw[e];simp[Value.oneCell']
 | .two a b,_,⟨us,ws,e,h1,h2⟩=>fun u c=>by
   rw[e]at c;rcases List.mem_append.1 c with c|c
   ·exact Rd.one h1 u c
   ·exact Rd.one h2 u c
theorem cM.less{e:Ty}(h:cM w B e A n c)(a:m<=n):cM w B e A m c:=
 ⟨Nat.le_trans a h.1,h.2.1,Nat.le_trans (Nat.mul_le_mul_right _ a) h.2.2.1,fun i=>by
  obtain⟨b,e,d,f⟩:=h.2.2.2 aq;exact⟨b,e,d,fun j g=>f j aq⟩⟩
theorem cM.rows{w:World}{B:Nat}{e:Ty}{A:aC}{c:Nat}:∀{n:Nat},cM w B e A n c->∃a:List (List Value),a.length=n/\(∀r∈a,Rd w B e r)/\ph w A n a.flatten
 |0,_=>⟨[],rfl,aD,fun h=>absurd h aq⟩
 |n+1,h=>by
  obtain⟨a,h1,m,y⟩:=cM.rows (h.less (Nat.le_succ n));obtain⟨l,o,_,q⟩:=h.2.2.2 aq;obtain⟨r,g2,s⟩:=q n aq;have v:∀r∈a,r.length=e.n:=fun r t=>(m r t).len
  refine⟨a++[r],nU,fun x d=> ?_,fun _=>⟨l,o,fun j u b=> ?_⟩⟩
  ·rcases List.mem_append.1 d with d|d
   ·exact m x d
   ·simp at d;subst d;exact g2
  ·have hlen:=vp a v
   rw[List.flatten_append]at b;rcases Nat.lt_or_ge j a.flatten.length with f|f
   ·rw[List.getElem?_append_left f]at b
    obtain⟨i,p,k⟩:=y (by
     rcases Nat.eq_zero_or_pos n with g|g
     ·subst g;rw[hlen,h1]at f;omega
     ·exact g)
    obtain rfl:l=i:=by rw[o]at p;exact Option.some.inj p
    exact k j u b
   ·rw[List.getElem?_append_right f]at b
    simp only[List.flatten_cons,List.flatten_nil,List.append_nil]at b;have:=s _ u b;rw[bm,hlen,h1]at this;rwa [show n*e.n+(j-n*e.n)=j by rw[hlen,h1]at f;omega]at this
theorem Rt{t:TypeId}{e:Ty}{a:List (List Value)}(h:aB w B t e.n A n c a.flatten)(x:a.length=n)(k:∀r∈a,Rd w w.heap.size e r)(y:0<e.n)(f:n*e.lb<=140737488351232):cM w w.heap.size e A n c:=
 ⟨aB.le h,aB.wL h,f,fun s=>by
  obtain⟨g,rfl,_,d⟩:=aB.form h s;refine⟨_,rfl,d,fun j v=> ?_⟩;have m:∀r∈a,r.length=e.n:=fun r f=>(k r f).len
  have i:a[j]? =some a[j]:=List.getElem?_eq_getElem aq;have o:a[j]∈a:=List.getElem_mem _;refine⟨a[j],k _ o,fun q u l=> ?_⟩;have b:=(List.getElem?_eq_some_iff.1 l).1;rw[m _ o]at b;have p:j*e.n+q<n*e.n:=by
   have:=Nat.mul_le_mul_right e.n (show j+1<=n by omega);rw[Nat.add_mul]at this;omega
  rw[bm,bB,aB.cellAt h (j*e.n+q) p,Xf a m j q _ i b,l]⟩
theorem TLg:aS prog 309 311 2 32:=bD underlying309 (z:= .agg #[.slice none 0 0,ae aj 0]) aF rfl aq aq
theorem Sc(k:Lk)(g:Int)(w:World)(h:lS w w.heap.size k):Calls prog 335 #[k.v,ae aj g] w (PRd w wX):=by
 obtain⟨X,s,q,H⟩:=box1 w k.row 132;have R:=sH (h.Z q.o q.o.size);have W:=h.rS.bd;go_enter func335,ntmps335;go_wp2;rw[<-s];go_loopg [5,6,7,8] (k.sn+1) (fun gg V _ _ _ wr=>∃i:Nat,k.sn-i<gg/\i<=k.sn/\V=ae aj (i:Int)/\ak (aA X wr))
 ·exact⟨0,aq,aq,rfl,cB⟩
 obtain⟨i,hg,hi,rfl,j⟩:=hrel;obtain⟨d0,d1,d2,N⟩:=(H.o.ar j.o H.o.lt).k4;have BW:=q.t j.o;by_cases A:i<k.sn
 ·obtain⟨ad,x,ea,M,e0,_,U,_⟩:=jh (R.o.rS.Z j.o j.o.size) A
  have L:=sH M;rw[ea]at N;have JT:=M.rC.bd;go_wp2_with fail;refine(Rr x.C x.cn x.cc g wr L.o.rC).mono ?_;rintro e O ⟨z,b,rfl,ur,iE,p⟩;have K:=j.t p;have t:=q.t K.o;have o:=sH (L.o.Z p p.size);have D3:=au N p;have E2:=au U p;cases b
  ·go_wp2
   go_roundg (k.sn-i)
   ·exact⟨i+1,aq,aq,aQ,K⟩
   omega
  ·obtain⟨a,rfl⟩:∃a:Nat,z=(a:Int):=⟨z.toNat,aq⟩
   have T:=o.o.rL.bd;by_cases F:a<x.ln
   ·obtain⟨Q,A2,n2,c2,S,c,dL⟩:=fi o.o.rL F
    have HL:=sH c;obtain⟨I,C,l,E⟩:=c.rows;have y:∀r∈I,r.length=2:=fun r d=>(l r d).len
    have n:=sH C;have m:=sH l;have v:=sH E;have Z:=sH y;have f:=c.rb;rw[S]at E2;have i1:¬((x.ln:Int)<=(a:Int)):=aq;go_wp2_with (at_builtin;refine wpList_plain rfl fun _ hK=>tW TLg (.tmp 38) (.tmp 47) rfl rfl (aB.nil O O.heap.size _ _) rfl v.o (by rw[vp I Z.o,n.o]) (fun u B=>by obtain⟨r,d,B⟩:=List.mem_flatten.1 B;exact Rd.one (m.o r d) u B) (by simp[Ty.lb]at f;omega) cr ?_;intro Y c8 w8 G P;have O8:=sH G;have D:=sH P;clear G P);go_ret;have J:=O8.o;simp only[Nat.zero_add,List.nil_append]at J;exact⟨Y,n2,c8,rfl,Rt (e:=wX) J n.o (fun r d=>(m.o r d).Z D.o D.o.size) (by simp[Ty.n]) f,t.o.trans (D.o.mono t.o.size)⟩
   ·have i1:((x.ln:Int)<=(a:Int)):=by omega
    go_wp2;go_ret;exact⟨_,_,_,rfl,cM.nil _ _ _,t.o⟩
 ·go_wp2
  go_ret;exact⟨_,_,_,rfl,cM.nil _ _ _,BW.o⟩
end
abbrev Lg.row(x:Lg):Array Value:= #[.slice x.P x.pn x.pc,ae aj x.gl]
theorem Bx.g2{x:Lg}(h:Bx w b x.row):w.cell? ⟨b,0,none⟩=some (.slice x.P x.pn x.pc)/\w.cell? ⟨b,1,none⟩=some (ae aj x.gl):=⟨h.cell 0,h.cell 1⟩
def It(w:World)(B:Nat)(at_ n:Nat)(A:aC)(m c:Nat):Prop:=∃xs:aE,1<=m/\m<=n/\Own w B 3 .i64 A m c xs/\nth xs 0=at_/\∀x∈xs,(at_:Int)<=x/\x<n
def PFo(w:World)(at_ n:Nat)(e:Ending)(a:World):Prop:=∃(A:aC) (m c:Nat) (b:Bool),e= .returned (.tuple #[.slice A m c, .bool b])/\(b=true->It a w.heap.size at_ n A m c)/\aA w a
theorem FZ(w:World)(x:Int):Own (w.alloc (.cells #[ae aj x] 3)) w.heap.size 3 .i64 (some ⟨w.heap.size,0,none⟩) 1 1 [x]:=
 ⟨aD, .inr ⟨w.heap.size,1,#[ae aj x],rfl,Nat.le_refl _,heap_alloc_new w _,aq,pN,aD,aD⟩⟩
theorem Lv{a:aE}(h:k<xs.length):nth (xs++a) k=nth xs k:=by simp[nth,List.getElem?_append_left h]
theorem Js(f:db)(k:Lk)(Q:aE->Prop)(A:aC)(n c at_:Nat)(x:Lg)(w:World)(h:ca w w.heap.size f)(hl:gi w Q A n)(j:Z9 w w.heap.size x)(hn:n<=50000)(ha:at_<n):
 Calls prog 336 #[f.v,k.v, .slice A n c,ae aj (at_:Int),x.v] w (PFo w at_ n):=by
 obtain⟨o,aP⟩:=eX ((w.alloc (.cells f.row 82)).alloc (.cells k.row 132));have q:=fD aP;have F:ak (aA w o):=⟨q.1⟩;have v:ak (Bx o w.heap.size f.row):=⟨q.2.1⟩;have s:ak (Bx o (w.heap.size+1) k.row):=⟨q.2.2⟩;clear q;obtain⟨d,cd⟩:=eX (o.alloc (.cells x.row 311));have r:aA o d:=jT;have hN:o.heap.size=w.heap.size+2:=oL;have g:ak (aA w d):=⟨F.o.trans (r.mono F.o.size)⟩;have p:ak (Bx d (w.heap.size+2) x.row):=⟨OU⟩;have X4:ak (Bx d w.heap.size f.row):=⟨v.o.ar r v.o.lt⟩;have U:ak (Bx d (w.heap.size+1) k.row):=⟨s.o.ar r s.o.lt⟩;have u:d.heap.size=w.heap.size+3:=Bh;rw[aP]at cd;clear r hN aP v s F;have R:ak (ca d d.heap.size f):=⟨h.Z g.o g.o.size⟩;have GL:ak (gi d Q A n):=⟨hl.Z g.o g.o.size⟩;have RX:ak (Z9 d d.heap.size x):=⟨j.Z g.o g.o.size⟩;have zB:=j.rP.bd;clear h hl j;go_enter func336,ntmps336;go_wp2;rw[<-cd];clear cd;go_loopg [3,12,13] (x.pn+1) (fun gg v3 I B wr=>∃(i a:Nat) (L:aC) (M:Nat) (xs:aE),x.pn-i<gg/\i<=x.pn/\at_+i<=a/\a<n/\v3=ae aj (a:Int)/\I= .slice L (i+1) M/\B=ae aj (i:Int)/\ak (Own wr d.heap.size 3 .i64 L (i+1) M xs)/\ak (nth xs 0=at_)/\ak (∀x∈xs,(at_:Int)<=x/\x<n)/\ak (aA d wr))
 ·exact⟨0,at_,some ⟨d.heap.size,0,none⟩,1,[(at_:Int)],aq,aq,aq,ha,rfl,by simp[u],rfl,⟨FZ d at_⟩,⟨rfl⟩,⟨fun x j=>by simp at j;omega⟩,⟨av _ _⟩⟩
 obtain⟨i,a,L,M,xs,hg,hi,hia,E,rfl,rfl,rfl,H,O,FX,l⟩:=hrel;obtain⟨c0,c1,D,c3,c4,c5⟩:=(X4.o.ar l.o X4.o.lt).f6;obtain⟨d0,d1,d2,d3⟩:=(U.o.ar l.o U.o.lt).k4;obtain⟨C,W⟩:=(p.o.ar l.o p.o.lt).g2;have BW:ak (aA w wr):=⟨g.o.trans (l.o.mono g.o.size)⟩;by_cases G:i<x.pn
 ·have NX:ak _:=⟨xN f k Q A n c a wr (R.o.Z l.o l.o.size) (GL.o.Z l.o l.o.size) aq E⟩
  go_wp2_with fail;refine NX.o.mono ?_;rintro e w1 ⟨z,rfl,hz,J⟩;have m:ak (aA d w1):=⟨l.o.trans (J.mono l.o.size)⟩;have X:ak _:=⟨H.o.ar J⟩;have Y:ak (aA w w1):=⟨g.o.trans (m.o.mono g.o.size)⟩;clear NX c0 c1 D c3 c4 c5 d0 d1 d2 d3 C W H;obtain⟨C,W⟩:=(p.o.ar m.o p.o.lt).g2;obtain⟨adp,y,T,dp⟩:=ie (RX.o.rP.Z m.o m.o.size) G;rw[T]at C;clear J T;rcases hz with rfl|⟨iE,fA⟩
  ·go_wp2
   go_quiet (fail);go_wp2;go_ret2;exact⟨_,_,_,_,rfl,aD,aM Y.o _⟩
  ·obtain⟨b,rfl⟩:∃b:Nat,z=(b:Int):=⟨z.toNat,aq⟩
   obtain⟨ad,t,x1,x2,x3,x4,x5,x6,x7,x8,x9,rfl,hQ,e0,_⟩:=(GL.o.Z m.o m.o.size).ba (show b<n by omega);clear hQ;have S:¬((b:Int)<0):=aq;have N:((b:Int)<(n:Int)):=aq;by_cases V:t=y
   ·have K:(t !=y)=false:=by simp[V]
    go_wp2;go_quiet (fail);have sM:=m.o.size;go_wp2_with (at_builtin;refine a7 IW rfl (.tmp 43) (.tmp 45) rfl rfl ((Own.drewN X.o _).alloc _) rfl (fF _ _ _ _ rfl) aq cA ?_;intro A5 c5 w5 P Z _ _;have O6:ak _:=⟨P⟩;have B6:ak (aA d w5):=⟨((aM m.o _).alloc cA _).trans Z⟩;clear P Z);go_roundg (x.pn-i)
    case measure=>omega
    case rel=>exact⟨i+1,b,A5,c5,xs++[(b:Int)],aq,aq,aq,aq,rfl,rfl,aQ,O6,⟨by rw[Lv (by have:=X.o.len;omega)];exact O.o⟩,⟨fun x j=>by
     rcases List.mem_append.1 j with j|j
     ·exact FX.o x j
     ·simp at j;omega⟩,B6⟩
   ·have K:(t !=y)=true:=by simp[V]
    go_wp2;go_quiet (fail);go_wp2;go_ret2;exact⟨_,_,_,_,rfl,aD,aM Y.o _⟩
 ·obtain rfl:i=x.pn:=by omega
  go_wp2;go_ret2;exact⟨_,_,_,_,rfl,fun _=>⟨xs,aq,aq,H.o.dU g.o.size,O.o,FX.o⟩,BW.o⟩
def QF(e:Ty):Sat:=⟨fun v w=>∃(A:aC) (n c:Nat),v= .slice A n c/\cM w w.heap.size e A n c,fun v w f ⟨A,n,c,b,d⟩ a=>⟨A,n,c,b,d.Z a a.size⟩⟩
theorem QF.get{e:Ty}(h:(QF e).p (.slice A n c) w):cM w w.heap.size e A n c:=by
 obtain⟨b,a,c',e,h⟩:=h;simp at e;obtain⟨rfl,rfl,rfl⟩:=e;exact h
theorem It.ar{a:World}(h:It w B at_ n A m c)(b:aA w a):It a B at_ n A m c:=by
 obtain⟨xs,e,f,d,g⟩:=h;exact⟨xs,e,f,d.ar b,g⟩
theorem It.cN{a:Nat}(h:It w B at_ n A m c)(b:a<=B):It w a at_ n A m c:=by
 obtain⟨xs,e,f,d,g⟩:=h;exact⟨xs,e,f,d.dU b,g⟩
theorem aB.aex{size:Nat}{e:TypeId}{vs:List Value}(h:aB w B e size A n c vs)(k:g<B)(cs:Array Value):aB (w.setRow g cs) B e size A n c vs:=by
 obtain⟨j,b⟩:=h;refine⟨j, ?_⟩;rcases b with b|⟨i,cap,cur,d,a,f,r⟩
 ·exact .inl b
 ·exact .inr ⟨i,cap,cur,d,a,by rw[setRow_other _ _ _ _ (by omega)];exact f,r⟩
theorem It.row(h:It w B at_ n A m c)(a:g<B)(cs:Array Value):It (w.setRow g cs) B at_ n A m c:=by
 obtain⟨xs,d,e,b,f⟩:=h;exact⟨xs,d,e,aB.aex b a cs,f⟩
def ZPl(N at_ n:Nat):Sat:=⟨fun v w=>∃(A:aC) (m c:Nat) (b:Bool),v= .tuple #[.slice A m c, .bool b]/\(b=true->It w N at_ n A m c),fun v w g ⟨A,m,c,b,d,f⟩ a=>⟨A,m,c,b,d,fun e=>(f e).ar a⟩⟩
theorem ZPl.get{b:Bool}(h:(ZPl N at_ n).p (.tuple #[.slice A m c, .bool b]) w):b=true->It w N at_ n A m c:=by
 obtain⟨f,a,c',d,e,h⟩:=h;simp at e;obtain⟨⟨rfl,rfl,rfl⟩,rfl⟩:=e;exact h
theorem adf(s:G:=by
 have hp':tmps[p]?.getD undef= .pointer (some ⟨g,0,none⟩):=Pk;simp[results,h,hp',asAddr,run_loadVar_row w g t ty cs fr d hg hu hd hi]):G:=s
theorem nS{c:Func}{p a b:Tmp}{ty:TypeId}(h:c.results= #[.cell p ty, .tmp a, .tmp b])(tmps:Array Value)(w:World)(g:Nat)(t:TypeId)(cs:Array Value)(fr:Nat×Nat)(d:TypeDesc)
 (hp:tmps.getD p undef= .pointer (some ⟨g,0,none⟩)) (hg:w.heap[g]? =some (.cells cs t fr))
 (hu:P.underlying ty=some d) (hd:(match d with| .struct _| .array _ _=>true|_=>false)=true) (hi:(P.info? ty).map (·.size)=some cs.size):
 (results c tmps).run P w= .ok (.tuple #[.agg cs,tmps.getD a undef,tmps.getD b undef]) w:=by
 exact adf
theorem bT{b:Func}{p a:Tmp}{ty:TypeId}(h:b.results= #[.cell p ty, .tmp a])(tmps:Array Value)(w:World)(g:Nat)(t:TypeId)(cs:Array Value)(fr:Nat×Nat)(d:TypeDesc)
 (hp:tmps.getD p undef= .pointer (some ⟨g,0,none⟩)) (hg:w.heap[g]? =some (.cells cs t fr))
 (hu:P.underlying ty=some d) (hd:(match d with| .struct _| .array _ _=>true|_=>false)=true) (hi:(P.info? ty).map (·.size)=some cs.size):
 (results b tmps).run P w= .ok (.tuple #[.agg cs,tmps.getD a undef]) w:=by
 exact adf
def PFi(w:World)(at_ n:Nat)(e:Ending)(a:World):Prop:=∃(x:Lg) (A:aC) (m c:Nat) (b:Bool),e= .returned (.tuple #[x.v, .slice A m c, .bool b])/\(b=true->It a w.heap.size at_ n A m c)/\aA w a
theorem Zm(f:db)(k:Lk)(Q:aE->Prop)(A:aC)(n c at_:Nat)(w:World)(h:ca w w.heap.size f)(hk:lS w w.heap.size k)(hl:gi w Q A n)(hn:n<=50000)(ha:at_<n):
 Calls prog 316 #[f.v,k.v, .slice A n c,ae aj (at_:Int)] w (PFi w at_ n):=by
 obtain⟨P,aP,B1,N,K⟩:=box2 w f.row 82 k.row 132;obtain⟨W2,cd⟩:=eX (P.alloc (.cells #[.slice none 0 0,ae aj 0] 311));have G:aA P W2:=jT;have hN:P.heap.size=w.heap.size+2:=oL;have m:=B1.t G;have C:ak (Bx W2 (w.heap.size+2) #[.slice none 0 0,ae aj 0]):=⟨OU⟩;have W:=sH (N.o.ar G N.o.lt);have O:=sH (K.o.ar G K.o.lt);have ED:W2.heap.size=w.heap.size+3:=Bh;rw[aP]at cd;clear G hN aP N K B1;have R:=sH (h.Z m.o m.o.size);have RK:=sH (hk.Z m.o m.o.size);have GL:=sH (hl.Z m.o m.o.size);clear h hl hk;have i1:¬((n:Int)<=(at_:Int)):=aq;have i3:=aR at_ n;obtain⟨c0,I,d,D,c4,c5⟩:=W.o.f6;obtain⟨v,u,t,B⟩:=O.o.k4;obtain⟨ad,x0,x1,x2,x3,x4,x5,x6,x7,x8,x9,rfl,hQ,e0,_⟩:=GL.o.ba ha;clear hQ;go_enter func316,ntmps316;go_wp2;rw[<-cd];clear cd;obtain⟨Z,X,V,M,E0⟩:=lc5 v u t B e0;clear c0 I d D c4 c5 v u t B e0;refine aY (jd 30 (QF wX)) aF aF ?_;refine mLw ?_;refine lwA (QF wX) (fun a=> ?_) (fun v9 r=> ?_)
 ·go_simp
  refine aW (QF wX) ((Sc k x0 a.1 (RK.o.Z a.2 a.2.size)).mono ?_);rintro e w5 ⟨A5,j,c5,rfl,h5,Y⟩;exact⟨_,rfl,⟨A5,j,c5,rfl,h5⟩,Y⟩
 obtain⟨_,_,A5,j,c5,rfl,z⟩:=r;have hm5:=z.bd;clear z;simp[Act.put];refine mLw ?_;intro a s;have RL:=sH (QF.get s);have BN:=sH a.2;obtain⟨w2,l⟩:=eX a.1;rw[<-l]at BN RL;rw[<-l];clear l s E0 Z X V M;go_wp2;go_loopg [12,13,14] (j+1) (fun gg T _ _ wr=>∃(i:Nat),j-i<gg/\i<=j/\T=ae aj (i:Int)/\ak (aA w2 wr))
 ·exact⟨0,aq,aq,rfl,cB⟩
 obtain⟨i,hg,hi,rfl,H⟩:=hrel;have g:=BN.t H.o;obtain⟨c0,I,d,D,c4,c5⟩:=(W.o.ar g.o W.o.lt).f6;obtain⟨v,u,t,B⟩:=(O.o.ar g.o O.o.lt).k4;have BW:=m.t g.o;by_cases S:i<j
 ·obtain⟨adp,x,rfl,hx,F,E⟩:=WW (RL.o.Z H.o H.o.size) S
  have HX:=sH hx;clear hx;have i4:=aR i j;go_wp2;obtain⟨L0,L1,L2,L3,L4,L5,Z,X⟩:=lc8 c0 I d D c4 c5 v u;obtain⟨V,M,G0,G1⟩:=lc4 t B F E;clear c0 I d D c4 c5 v u t B F E;refine aY (jd 46 (ZPl wr.heap.size at_ n)) aF aF ?_;refine mLw ?_;refine lwA (ZPl wr.heap.size at_ n) (fun a=> ?_) (fun v9 r=> ?_)
  ·go_simp
   have J:=g.o.trans (a.2.mono g.o.size);refine aW (ZPl wr.heap.size at_ n) ((Js f k Q (some ad) n c at_ x a.1 (R.o.Z J J.size) (GL.o.Z J J.size) (HX.o.Z a.2 a.2.size) hn ha).mono ?_);rintro e w5 ⟨A6,m6,c6,L,rfl,h6,Y⟩;exact⟨_,rfl,⟨A6,m6,c6,L,rfl,fun e=>(h6 e).cN a.2.size⟩,Y⟩
  obtain⟨_,_,A6,m6,c6,L,rfl,_⟩:=r;simp[Act.put];refine mLw ?_;intro a s;have PL:=sH (ZPl.get s);have BM:=H.t a.2;have BV:=BW.t a.2;have XN:=sH (C.o.ar (g.o.trans (a.2.mono g.o.size)) C.o.lt);have F:=G0 a;have E:=G1 a;have gM:=BW.o.size;have afy:=g.o.size;obtain⟨w3,p⟩:=eX a.1;rw[<-p]at BM BV PL XN F E;rw[<-p];clear p s L0 L1 L2 L3 L4 L5 Z X V M G0 G1;cases L
  ·go_wp2
   go_roundg (j-i)
   ·exact⟨i+1,aq,aq,aQ,BM⟩
   omega
  ·obtain⟨b,y⟩:=XN.o.heap
   go_wp2_with (refine wpList_store_row rfl 311 (.tmp 8) (.tmp 53) rfl (w.heap.size+2) x.row rfl rfl b _ y aF aK dK ?_;have U:Bx (w3.setRow (w.heap.size+2) x.row) (w.heap.size+2) x.row:=⟨b,setRow_heap _ _ _ _ _ _ y⟩);obtain⟨q,o⟩:=U.heap;refine bodyPost_ret (nS results316 _ _ (w.heap.size+2) q x.row (0,0) _ aK o underlying311 rfl aF) rfl ?_;exact⟨x,_,_,_,_,rfl,fun _=>((PL.o aD).row aq _).cN aq,below_setRow BV.o aq _⟩
 ·obtain⟨b,y⟩:=(C.o.ar g.o C.o.lt).heap
  go_wp2_with (refine wpList_store_row rfl 311 (.tmp 8) (.tmp 55) rfl (w.heap.size+2) #[.slice none 0 0,ae aj 0] rfl aK b _ y aF aK dK ?_;have U:Bx (wr.setRow (w.heap.size+2) #[.slice none 0 0,ae aj 0]) (w.heap.size+2) #[.slice none 0 0,ae aj 0]:=⟨b,setRow_heap _ _ _ _ _ _ y⟩);obtain⟨q,o⟩:=U.heap;refine bodyPost_ret (nS results316 _ _ (w.heap.size+2) q _ (0,0) _ aK o underlying311 rfl aF) rfl ?_;exact⟨⟨none,0,0,0⟩,_,_,_,_,rfl,aD,below_setRow BW.o aq _⟩
section
variable {w w' : World} {B k n c g : Nat} {e : TypeId} {Q : aE -> Prop} {A : aC}
theorem Oq.mE(h:Oq w B e k Q A n c)(d:bO A (some ⟨g,0,none⟩))(j:Nat)(u:Value):Oq (w.setCell ⟨g,j,none⟩ u) B e k Q A n c:=by
 obtain⟨gs,b,f,a⟩:=h;exact⟨gs,b,f,aB.mE a d u⟩
theorem Oq.ia(h:Oq w B e k Q A n c)(l:bO A (some ⟨g,0,none⟩))(cs:Array Value):Oq (w.setRow g cs) B e k Q A n c:=by
 obtain⟨gs,b,m,f⟩:=h;refine⟨gs,b,m,f.1, ?_⟩;rcases f.2 with o|⟨i,cap,cur,d,a,j,r⟩
 ·exact .inl o
 ·refine .inr ⟨i,cap,cur,d,a, ?_,r⟩
  rw[setRow_other _ _ _ _ (fun e=> ?_)]
  ·exact j
  ·injection d with b
   exact l i b (by rw[e])
theorem Oq.jy(h:Oq w B e k Q A n c)(a:w.heap.size<=g):bO A (some ⟨g,0,none⟩):=by
 obtain⟨gs,d,f,b⟩:=h;exact aB.jy b a
theorem Bx.kept(h:Bx w b cs)(d:w.grownBy w' (Value.slice A n c).ownBlock)(i:bO A (some ⟨b,0,none⟩))(f:A=none∨∃g,A=some ⟨g,0,none⟩):Bx w' b cs:=by
 have a:=h.lt;obtain⟨t,h⟩:=h;refine⟨t,(d.block b a fun e=> ?_).trans h⟩;rcases f with rfl|⟨g,rfl⟩
 ·simp[Value.ownBlock]at e
 ·simp[Value.ownBlock]at e
  subst e;exact i _ rfl rfl
theorem Oq.head(h:Oq w B e k Q A n c):A=none∨∃g,A=some ⟨g,0,none⟩:=by
 obtain⟨gs,b,d,a⟩:=h;exact aB.dN a
theorem Bx.kJ(h:Bx w b cs)(o:Nat)(v:Value):Bx (w.setCell ⟨b,o,none⟩ v) b (cs.setIfInBounds o v):=by
 obtain⟨t,h⟩:=h;refine⟨t, ?_⟩;have aH:=(Array.getElem?_eq_some_iff.1 h).1;have a:w.heap[b]= .cells cs t (0,0):=(Array.getElem?_eq_some_iff.1 h).2;unfold World.setCell;rw[Array.getElem?_eq_getElem Ew,Array.getElem_modify];simp[a]
end
theorem dI{w:World}{ops:Array Oper}{rest:List Oper}{K:Exit->Act->World->Prop}{t e:TypeId}{k bytes:Nat}(T:aS P t e k bytes)(i:o.guard=none)(s x:Operand)
 (E:o.op= .call {callee:= .builtin .append,args:= #[s,x],argTypes:= #[t,t]}) {B:Nat} {Q:aE->Prop} {A:aC} {n c:Nat} (q:a.eval s= .slice A n c) (f:Oq w B e k Q A n c)
 {b:Nat} (v:a.eval x= .slice (some ⟨b,0,none⟩) 1 1) (g:aE) (l:g.length=k) (p:∀j u,(dZ g)[j]? =some u->w.cell? ⟨b,j,none⟩=some u) (z:Q g)
 (D:(n+1)*bytes<=140737488355328) (H:B<=w.heap.size)
 (h:∀d c' w',Oq w' B e k Q d (n+1) c'->Below B w w'->w.grownBy w' (Value.slice A n c).ownBlock->(∀g,d=some ⟨g,0,none⟩->A=some ⟨g,0,none⟩∨w.heap.size<=g)->wpList P ops K rest (a.put o.dst (.slice d (n+1) c')) w'):wpList P ops K (o::rest) a w:=by
 obtain⟨gs,G,C,F⟩:=f;exact bk T i s x E q F v (by simp[dZ,l]) p (fun u hu=>XI) D H fun d c' w' o b r m=>h d c' w' (Oq.more G C l z o) b r m
theorem Zu(Q:aE->Prop)(A:aC)(n c:Nat)(w:World)(h:gi w Q A n)(s:n<=100000):Calls prog 318 #[.slice A n c] w (abb w):=by
 have R:=sH h;go_enter func318,ntmps318;go_wp2;go_loopg [3,4] (n+1) (fun gg v3 v4 wr=>∃(i:Nat) (z:Int),n-i<gg/\i<=n/\v3=ae aj z/\v4=ae aj (i:Int)/\wr=w)
 ·exact⟨0,0,aq,aq,rfl,rfl,rfl⟩
 obtain⟨i,z,m,v,rfl,rfl,rfl⟩:=hrel;by_cases a:i<n
 ·obtain⟨l,t,q,o,u,x,d,j,b,y,r,rfl,p,_,_,_,_,_,_,_,D,_⟩:=R.o.ba a
  have f:=aR i n;by_cases C:b>z
  ·go_wp2
   go_roundg (n-i)
   ·exact⟨i+1,_,aq,aq,rfl,aQ,rfl⟩
   omega
  ·go_wp2
   go_roundg (n-i)
   ·exact⟨i+1,_,aq,aq,rfl,aQ,rfl⟩
   omega
 ·go_wp2
  go_ret;exact⟨_,rfl,rfl⟩
def Gx(w:World)(g:Nat):Prop:=∃cs:Array Value,cs.size=10/\Bx w g cs
theorem Fu{b:World}{o:Obj}(h:Gx w g)(d:(w.alloc o).grownBy b (Value.slice A n c).ownBlock)(i:bO A (some ⟨g,0,none⟩))(f:A=none∨∃g,A=some ⟨g,0,none⟩):Gx b g:=by
 obtain⟨cs,e,a⟩:=h;exact⟨cs,e,(a.ar (av _ _) a.lt).kept d i f⟩
theorem FP{c:aC}(f:bO A (some ⟨g,0,none⟩))(h:∀g,c=some ⟨g,0,none⟩->A=some ⟨g,0,none⟩∨N<=g)(a:Gx w g)(i:w.heap.size<=N):bO c (some ⟨g,0,none⟩):=fun b d e=>by
 injection e with e
 injection e with e
 subst e;obtain⟨cs,_,a⟩:=a;have:=a.lt;rcases h _ d with h|h
 ·exact f _ h rfl
 ·omega
def apT(N:Nat)(a:Int)(d:Option Tmp):Option Sat:=if d=some 57 then some (ZG a)else if d=some 17 then some (ZB N)else none
theorem Ut(f:db)(k:Lk)(lo a:Int)(A:aC)(n c at_:Nat)(w:World)(h:ca w w.heap.size f)(hk:lS w w.heap.size k)(hl:gi w (bV lo a) A n)(hn:n<=50000)(ha:at_<n)(FH:n<=c):
 Calls prog 302 #[f.v,k.v, .slice A n c,ae aj (at_:Int)] w (PAp w w.heap.size (bV lo a) n):=by
 obtain⟨l,I⟩:=eX ((w.alloc (.cells f.row 82)).alloc (.cells k.row 132));have BB:=fD I;have E:ak (aA w l):=⟨BB.1⟩;have X1:ak (Bx l w.heap.size f.row):=⟨BB.2.1⟩;have X2:ak (Bx l (w.heap.size+1) k.row):=⟨BB.2.2⟩;clear BB;have R:ak (ca l l.heap.size f):=⟨h.Z E.o E.o.size⟩;have RK:ak (lS l l.heap.size k):=⟨hk.Z E.o E.o.size⟩;have GL:ak (gi l (bV lo a) A n):=⟨hl.Z E.o E.o.size⟩;clear h hk hl;obtain⟨c0,c1,aU,c3,c4,c5⟩:=X1.o.f6;obtain⟨d0,d1,d2,d3⟩:=X2.o.k4;go_enter func302,ntmps302;go_wp2_with fail;rw[<-I];clear I;refine(Zm f k (bV lo a) A n c at_ l R.o RK.o GL.o hn ha).mono ?_;rintro e T ⟨x,P,m,pc,b,rfl,hp,hb⟩;have BF:ak (aA l T):=⟨hb⟩;have G1:ak (gi T (bV lo a) A n):=⟨GL.o.Z hb hb.size⟩;clear c0 c1 aU c3 c4 c5 d0 d1 d2 d3 hb R RK GL;obtain⟨G,qY⟩:=eX (T.alloc (.cells x.row 311));have B3:ak (aA T G):=⟨Pl⟩;have X3:ak (Bx G T.heap.size x.row):=⟨OJ⟩;have BV:ak (aA w G):=⟨E.o.trans ((BF.o.trans (B3.o.mono BF.o.size)).mono E.o.size)⟩;have G3:ak (gi G (bV lo a) A n):=⟨G1.o.Z B3.o B3.o.size⟩;cases b
 ·clear hp
  go_wp2;go_ret3;rw[<-qY];exact⟨_,_,_,0,_,rfl,aD,BV.o⟩
 obtain⟨xs,Fb,Ws,hO,hx0,hx⟩:=hp rfl;clear hp;have hxl:=hO.len;obtain⟨L,hL⟩:∃L:Nat,nth xs (m-1)=L:=⟨(nth xs (m-1)).toNat,by
  have:=hx (nth xs (m-1)) Bi;omega⟩
 have hL2:at_<=L/\L<n:=by
  have:=hx (nth xs (m-1)) Bi;omega
 obtain⟨gp,rfl,ad7,aey⟩:=aB.form hO aq;have p0:=bI hO (show m-1<m by omega);rw[hL]at p0;have p1:=fun o=>aJ p0 o
 have OP:ak (Own G l.heap.size 3 .i64 (some ⟨gp,0,none⟩) m pc xs):=⟨hO.ar B3.o⟩;have F0:ak _:=⟨hx0⟩;have FX:ak _:=⟨hx⟩;have FL:ak _:=⟨hL⟩;have xi:=B3.o.size;have hsf:=BF.o.size;have MG:ak _:=⟨Uv lo a A n c at_ L G G3.o aq aq aq FH⟩;clear hO hx hx0 hL p0;have em:(((m:Int)-1)=((m-1:Nat):Int)):=aq;have i4:((m-1:Nat):Int)<(m:Int):=aq;go_wp2_with fail;rw[<-qY];clear qY p1;refine MG.o.mono ?_;rintro e U ⟨A3,c3,rfl,o3,b3⟩;have B4:ak (aA G U):=⟨b3⟩;have O3:ak (fM U G.heap.size (bV lo a) A3 n c3):=⟨o3⟩;have X4:ak (Bx U T.heap.size x.row):=⟨X3.o.ar b3 X3.o.lt⟩;have OP4:ak (Own U l.heap.size 3 .i64 (some ⟨gp,0,none⟩) m pc xs):=⟨OP.o.ar b3⟩;have BV4:ak (aA w U):=⟨BV.o.trans (b3.mono BV.o.size)⟩;have G4:ak (gi U (bV lo a) A3 n):=⟨o3.rq aq⟩;have MD:=o3.le;have IY:=b3.size;clear MG OP o3 b3 G3 G1;go_wp2_with fail;refine(Zu (bV lo a) A3 n c3 U G4.o aq).mono ?_;rintro e d ⟨z,rfl,rfl⟩;obtain⟨A6,c6,H⟩:=KE mf A3 n c3 at_ aq MD (at_:Int) rfl;have r6:=H.run;have G6:ak _:=⟨H.rq G4.o⟩;clear H;go_wp2_with (at_builtin;refine cw mf rfl (.tmp 45) (.tmp 48) rfl rfl (Oq.nil d d.heap.size _ _ _) rfl G6.o aq cr ?_;intro A7 c7 Y o7 b7;have O7:ak _:=⟨o7⟩;have B7:ak (aA d Y):=⟨b7⟩;clear o7 b7);rw[Nat.zero_add]at O7;have X7:ak (Bx Y T.heap.size x.row):=⟨X4.o.ar B7.o X4.o.lt⟩;obtain⟨g0,g1⟩:=X7.o.g2;have G7:ak (gi Y (bV lo a) A3 n):=⟨G4.o.Z B7.o B7.o.size⟩;obtain⟨ad,y0,v,y2,y3,y4,y5,y6,y7,y8,y9,rfl,hQ,_,e1,_,_,_,_,_,_,_,D⟩:=G7.o.ba ha;have QY:ak (lo<=v/\v<a):=⟨hQ⟩;have i3:=aR at_ n;obtain⟨LG0,LG1,LE1,LE9⟩:=lc4 g0 g1 e1 D;clear r6 G6 g0 g1 e1 D hQ;refine je (apT Y.heap.size v) 9 rfl aF aF aF aF aF rfl ?_
 repeat(refine bR aK aK aK ?_;intro K9 cg;go_big_quiet_op;go_big_quiet_on)
 refine cG (ZG v) aK aK (fun K J=> ?_) (fun v9 V=> ?_)
 ·obtain⟨F,rfl⟩:=J
  go_simp;refine aW (ZG v) ((sQ x.gl v F.1).mono ?_);rintro e d ⟨rfl,hb⟩;exact⟨_,rfl,⟨x.gl,rfl⟩,hb⟩
 obtain⟨_,_,W,rfl⟩:=V;simp[Act.put];refine cG (ZB Y.heap.size) aK aK (fun K J=> ?_) (fun v9 V=> ?_)
 ·obtain⟨F,rfl⟩:=J
  go_simp;exact Da F _
 obtain⟨_,_,g,rfl,ef,_⟩:=V;simp[Act.put];intro F hE;have S:Bx F.1 g #[ae aj 0,ae aj 0,ae aj 0,ae aj 0,ae aj 0,ae aj 0,ae aj 0,ae aj 0,ae aj 0,ae aj 0]:=ZB.zb hE.2;obtain⟨ee,zO⟩:=S.heap;have D:=LE9 F;clear hE LG0 LG1 LE1 LE9;refine wp_store_row 108 (.tmp 17) (.tmp 57) rfl g _ rfl rfl ee _ zO aF rfl dK ?_;have X8:ak _:=⟨S.row (ds:= #[ae aj W,ae aj v,ae aj 0,ae aj 0,ae aj 0,ae aj (-1),ae aj (-1),ae aj 0,ae aj 0,ae aj 0])⟩;obtain⟨M,u⟩:=eX (F.1.setRow g #[ae aj W,ae aj v,ae aj 0,ae aj 0,ae aj 0,ae aj (-1),ae aj (-1),ae aj 0,ae aj 0,ae aj 0]);have B8:ak (aA Y M):=⟨by rw[u];exact below_setRow F.2 ef _⟩;rw[<-u]at X8;rw[<-u];clear u S zO D;have O8:ak _:=⟨O7.o.ar B8.o⟩;have j:ak (bO A7 (some ⟨g,0,none⟩)):=⟨O7.o.jy ef⟩;have hs7:=B7.o.size;have r:ak (aA d M):=⟨B7.o.trans (B8.o.mono hs7)⟩;have Wy:=r.o.size;have D:=(G4.o.Z r.o r.o.size).ba ha;obtain⟨Q,_,_,_,_,_,_,_,_,_,y9,e2,_,_,_,_,_,_,_,_,_,_,D⟩:=D;obtain rfl:ad=Q:=Option.some.inj e2;clear e2;obtain⟨q0,q1,q2,q3,q4,q5,q6,q7,q8,q9⟩:=X8.o.yh;have f9:=X8.o.fz 9;have f7:=X8.o.fz 7;have t:d.heap.size<=g:=aq;have Z:ak (fM ((M.setCell ⟨g,9,none⟩ (ae aj y9)).setCell ⟨g,7,none⟩ (ae aj z)) d.heap.size (bV lo a) A7 at_ c7):=⟨(O8.o.mE j.o 9 _).mE j.o 7 _⟩;have BS:ak (aA d ((M.setCell ⟨g,9,none⟩ (ae aj y9)).setCell ⟨g,7,none⟩ (ae aj z))):=⟨Below.setCell (Below.setCell r.o (p:=⟨g,9,none⟩) t _) (p:=⟨g,7,none⟩) t _⟩;have XS:ak (Gx ((M.setCell ⟨g,9,none⟩ (ae aj y9)).setCell ⟨g,7,none⟩ (ae aj z)) g):=⟨⟨_,aD,(X8.o.kJ 9 _).kJ 7 _⟩⟩;go_wp2_with (at_builtin;refine dI mf rfl (.tmp 66) (.tmp 68) rfl rfl (Z.o.alloc _) rfl [W,v,0,0,0,-1,-1,z,0,y9] rfl (cJ _ _ _ _ _ aD rfl) QY.o aq cA ?_;intro A9 c9 K o9 b9 r9 a9;have O9:ak _:=⟨o9⟩;have B9:ak (aA d K):=⟨(BS.o.alloc cA _).trans b9⟩;have X9:ak (Gx K g):=⟨Fu XS.o r9 j.o Z.o.head⟩;have C:ak (bO A9 (some ⟨g,0,none⟩)):=⟨FP j.o a9 XS.o aD⟩;clear o9 b9 r9 a9);have NA:ak (nth xs 0<((at_+1:Nat):Int)):=⟨by rw[F0.o];omega⟩;clear Z BS XS r X8 q0 q1 q2 q3 q4 q5 q6 q7 q8 q9 f7 f9 D X7 O8 B8 j O7 G7;go_loopg [16,18,19] (L+2) (fun gg sE v18 v19 wr=>∃(i p q:Nat) (A:aC) (c:Nat),L+1-i<gg/\at_<i/\i<=L+1/\q+p=i/\p<m/\sE= .slice A q c/\v18=ae aj (p:Int)/\v19=ae aj (i:Int)/\ak (nth xs p<(i:Int))/\ak (fM wr d.heap.size (bV lo a) A q c)/\ak (bO A (some ⟨g,0,none⟩))/\ak (Gx wr g)/\ak (aA d wr))
 ·exact⟨at_+1,0,at_+1,A9,c9,aq,aq,aq,aq,aq,rfl,rfl,aQ,NA,O9,C,X9,B9⟩
 obtain⟨i,p,q,A,cc,hg,hai,hiL,hqp,hpm,rfl,rfl,rfl,NP,OG,j,XG,B⟩:=hrel;clear O9 C X9 B9 NA;have hse:=B.o.size;by_cases aH:i<=L
 ·have uX:p+1<m:=by
   rcases Nat.lt_or_ge (p+1) m with h|h
   ·exact h
   ·exfalso
    have e:p=m-1:=aq;have h1:=NP.o;rw[e,FL.o]at h1;omega
  have cp:=au (bI OP4.o uX) B.o;have i5:(i:Int)<=(L:Int):=aq;have i6:(p:Int)+1<(m:Int):=aq;by_cases hy:(i:Int)=nth xs (p+1)
  ·have O:ak (nth xs (p+1)<((i+1:Nat):Int)):=⟨aq⟩
   rw[<-hy]at cp;go_wp2;go_roundg (L+1-i)
   ·exact⟨i+1,p+1,q,A,cc,aq,aq,aq,aq,aq,rfl,aQ,aQ,O,OG,j,XG,B⟩
   omega
  ·have O:ak (nth xs p<((i+1:Nat):Int)):=⟨by have:=NP.o;omega⟩
   have Fv:((i:Int)==nth xs (p+1))=false:=(by simp[hy]);generalize nth xs (p+1)=y at*;obtain⟨Q,z0,z1,W,z3,z4,z5,z6,z7,z8,z9,e2,hQ,e0,e1,e2',e3,e4,e5,e6,e7,e8,D⟩:=(G4.o.Z B.o B.o.size).ba (show i<n by omega);obtain rfl:ad=Q:=Option.some.inj e2;have QZ:ak (lo<=z1/\z1<a):=⟨hQ⟩;clear e2 hQ;obtain⟨cs,xR,hB⟩:=XG.o;obtain⟨fB,hB2⟩:=hB.heap;have Dq:=aR i n;obtain⟨w6,s⟩:=eX (wr.setRow g #[ae aj z0,ae aj z1,ae aj W,ae aj z3,ae aj z4,ae aj z5,ae aj z6,ae aj z7,ae aj z8,ae aj z9]);have X:=hB.row (ds:= #[ae aj z0,ae aj z1,ae aj W,ae aj z3,ae aj z4,ae aj z5,ae aj z6,ae aj z7,ae aj z8,ae aj z9]);rw[<-s]at X;have O6:ak (fM w6 d.heap.size (bV lo a) A q cc):=⟨by rw[s];exact OG.o.ia j.o _⟩;have B6:ak (aA d w6):=⟨by rw[s];exact below_setRow B.o t _⟩;obtain⟨q0,q1,q2,q3,q4,q5,q6,q7,q8,q9⟩:=X.yh;have f8:=X.fz 8;have f7:=X.fz 7;have Z:ak (fM ((w6.setCell ⟨g,7,none⟩ (ae aj z)).setCell ⟨g,8,none⟩ (ae aj (p:Int))) d.heap.size (bV lo a) A q cc):=⟨(O6.o.mE j.o 7 _).mE j.o 8 _⟩;have BS:ak (aA d ((w6.setCell ⟨g,7,none⟩ (ae aj z)).setCell ⟨g,8,none⟩ (ae aj (p:Int)))):=⟨Below.setCell (Below.setCell B6.o (p:=⟨g,7,none⟩) t _) (p:=⟨g,8,none⟩) t _⟩;have XS:ak (Gx ((w6.setCell ⟨g,7,none⟩ (ae aj z)).setCell ⟨g,8,none⟩ (ae aj (p:Int))) g):=⟨⟨_,aD,(X.kJ 7 _).kJ 8 _⟩⟩;have Qj:=B6.o.size;clear hB X B6 O6;go_wp2_with (first
    |(refine wpList_store_row rfl 108 (.tmp 17) (.tmp 89) rfl g _ rfl rfl fB _ hB2 aF (by simpa using xR) dK ?_;rw[<-s];clear s)
    |(at_builtin;refine dI mf rfl (.tmp 94) (.tmp 96) rfl rfl (Z.o.alloc _) rfl [z0,z1,W,z3,z4,z5,z6,z,(p:Int),z9] rfl (cJ _ _ _ _ _ aD rfl) QZ.o aq cA ?_;intro A9 c9 K o9 b9 r9 a9;have O9:ak _:=⟨o9⟩;have B9:ak (aA d K):=⟨(BS.o.alloc cA _).trans b9⟩;have X9:ak (Gx K g):=⟨Fu XS.o r9 j.o Z.o.head⟩;have C:ak (bO A9 (some ⟨g,0,none⟩)):=⟨FP j.o a9 XS.o aD⟩;clear o9 b9 r9 a9))
   go_roundg (L+1-i)
   ·exact⟨i+1,p,q+1,A9,c9,aq,aq,aq,aq,aq,rfl,rfl,aQ,O,O9,C,X9,B9⟩
   omega
 ·obtain rfl:i=L+1:=by omega
  have i5:¬((L+1:Nat):Int)<=(L:Int):=aq;obtain⟨A6,c6,H⟩:=La mf (some ad) n c3 (L+1) aq MD ((L:Int)+1) aD;have r6:=H.run;have G6:ak _:=⟨H.rq (G4.o.Z B.o B.o.size)⟩;clear H;obtain⟨N,hN⟩:=eX (q+(n-(L+1)));have ED:N<=n:=aq;have hsv:=BV4.o.size;go_wp2_with (at_builtin;refine cw mf rfl (.tmp 100) (.tmp 104) rfl rfl OG.o rfl G6.o aq aq ?_;intro A8 c8 M o8 b8;rw[<-hN]at o8;rw[<-hN];have O8:ak _:=⟨o8.cN hsv⟩;have B8:ak (aA w M):=⟨BV4.o.trans ((B.o.trans b8).mono hsv)⟩;clear o8 b8 hN);go_ret3;exact⟨A8,N,c8,q,true,rfl,fun _=>⟨ED,aq,O8.o⟩,B8.o⟩
theorem Sa(A:aC)(n c:Nat)(xs:aE)(at_ a now:Nat)(w:World)(h:bh w w.heap.size .i64 A n xs)(z:n<=100000)(E:at_<=100000)(B:a<=100000)(m:now<=100000):
 Calls prog 337 #[.slice A n c,ae aj (at_:Int),ae aj (a:Int),ae aj (now:Int)] w (Zy w n):=by
 have R:=sH h;go_enter func337,ntmps337;go_wp2;go_loopg [10,11,12] (n+1) (fun gg v10 g _ wr=>∃(i:Nat) (e:aC) (f:Nat) (o:aE),n-i<gg/\i<=n/\v10= .slice e i f/\g=ae aj (i:Int)/\ak (Own wr w.heap.size 3 .i64 e i f o)/\ak (aA w wr))
 ·exact⟨0,none,0,[],aq,aq,rfl,rfl,⟨Own.nil _ _ _ _⟩,cB⟩
 obtain⟨i,e,f,o,y,D,rfl,rfl,l,b⟩:=hrel;by_cases d:i<n
 ·obtain⟨x,rfl,C⟩:=(R.o.Z b.o).gj d
  have v:=b.o.size;have u:=aR i n;generalize nth xs i=p at*;go_wp2_with (at_builtin;refine a7 IW rfl (.tmp 47) (.tmp 49) rfl rfl (l.o.alloc _) rfl (fF _ _ _ _ rfl) aq cA ?_;intro s c5 q k j _ _;have t:=sH k;have r:ak (aA w q):=⟨(b.o.alloc aq _).trans j⟩;clear k j)
  all_goals(go_roundg (n-i)<;>first|omega|exact⟨i+1,s,c5,_,aq,aq,rfl,aQ,t,r⟩)
 ·obtain rfl:i=n:=by omega
  go_wp2;go_ret;exact⟨_,_,_,rfl,l.o,b.o⟩
end Go.Proofs.YtpidckelbgbbkaaGreatDoor
