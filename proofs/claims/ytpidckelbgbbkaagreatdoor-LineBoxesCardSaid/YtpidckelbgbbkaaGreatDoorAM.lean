/- Part of LineBoxes. -/
import Derived.Test.YtpidckelbgbbkaaGreatDoorAK
import Derived.Test.YtpidckelbgbbkaaGreatDoorAq
import Derived.Test.YtpidckelbgbbkaaGreatDoorAO
namespace Go.Proofs.YtpidckelbgbbkaaGreatDoor
open Go.ChangeShapes Go.WideShapes Go.ChangeAt Go.RowKit Go.Proofs.Tryz
open Go.Value renaming int → ae
open Go.IntKind renaming i64 → aj
set_option linter.all false
set_option maxRecDepth 100000
set_option maxHeartbeats 16000000
variable{ts:aE}{B a b c e f g k m n r:Nat}{w wr:World}{p:jW}{Q:aE->Prop}{G:Prop}{A:aC}{L:List bP}
theorem Hd{ts:aE}{n:Nat}(h:uU ts n n)(d:ts.length=n):∀k,k+1<=n->par ts k=[]
 |0,_=>rfl
 |k+1,hk=>by
  have b:ff ts k=false:=by
   unfold ff;rw[Bool.or_eq_false_iff];refine⟨?_,cA⟩;by_cases a:tz ts k=11
   ·obtain⟨f,e,c⟩:=h k aq aq a
    have:fY ts k=true:=by unfold fY;simp[e,c];omega
    simp[this]
   ·simp[a]
  rw[tC b];exact Hd h d k aq
theorem Jv(h:uU ts n n)(a:ts.length=n):(rD ts).length<=1:=by
 unfold rD;rw[a];rcases n with _|n
 ·simp[par]
 ·have:=Hd h a n aq
  simp only[par,this];split<;>simp
def aff(w:World)(n:Nat)(e:Ending)(a:World):Prop:=∃(A:aC) (c:Nat) (b:Int),e= .returned (.tuple #[.slice A n c,ae aj b,ae aj 0])/\Ow a w.heap.size 3 .i64 aN A n c/\aA w a
theorem UX(s:SqD):(sqF s).length=4:=rfl
theorem aei(A:aC)(n c:Nat)(dir:Int)(ts:aE)(w:World)(h:aL .i32 w A n c ts)(hn:n<=60)(hr:Jx ts n)(hd:0<=dir/\dir<=2)(ho:uU ts n n):Calls prog 40 #[.slice A n c,ae aj dir] w (aff w n):=by
 have hp:=Jv ho h.at_.len;have R:=sH h;have HR:=sH hr;obtain⟨uH,J3⟩:=hd;have i1:decide (dir<0)=false:=ij;have i2:decide (2<dir)=false:=ij;have i3:decide ((4096:Int)<(n:Int))=false:=ij;have i3b:decide (4096<n)=false:=ij;have I:=sH hp;clear h hr ho hp;go_enter func40,ntmps40;go_wp2_with fail;refine(As A n c ts w R.o aq).mono ?_;rintro e _ ⟨z,rfl,hz,rfl⟩;obtain rfl:z=true:=hz.2 HR.o;clear hz;go_wp2_with fail;have Y:=Du A n c ts _ R.o aq;unfold GY at Y;refine Y.mono ?_;clear Y;rintro e w1 ⟨D0,d0,rfl,_,O⟩;have B1:=sH O;have Q:=sH (R.o.ar O);have p1:decide ((1:Int)<((rD ts).length:Int))=false:=by have:=I.o;simp<;>omega
 have L:decide (1<(rD ts).length)=false:=by have:=I.o;simp<;>omega
 clear O I;generalize(rD ts).length=pl at*;go_wp2_with fail;refine(CL A n c ts w1 Q.o aq).mono ?_;rintro e w2 ⟨OA,oc,rfl,T,U⟩;have P:=T.le.1;have B2:=B1.t U;have R2:=sH (Q.o.ar U);have C2:=sH T.iw;clear T U B1 Q p1 L;go_wp2_with fail;refine(Zf A n c dir ts w2 R2.o aq).mono ?_;rintro e w3 ⟨base,rfl,E⟩;have B3:=B2.t E;have W:=sH (C2.o.Z E E.size);clear E B2 R2 C2;go_wp2_with fail;refine(Mm OA n oc base w3 W.o P aq).mono ?_;rintro e w4 ⟨LA,CA,lc,cc,rfl,ol,x,C⟩;have B4:=B3.t C;have X:=sH (W.o.Z C C.size);have M:=sH ol.iw;have K4:=sH x.iw;clear ol x C W B3;go_wp2_with fail;refine(aeg OA LA n oc lc base w4 X.o M.o hn).mono ?_;rintro e k ⟨D,q,dc,B,ss,hq,rfl,hB,gs,m⟩;have F:=B4.t m;have C5:=sH (X.o.Z m m.size);have K5:=sH (K4.o.Z m m.size);have GS:=sH gs;obtain⟨xs,hx,_⟩:=M.o.Z m m.size;have XS:=sH hx;clear m gs hx X M K4 B4 hB;have R5:=sH (R.o.ar F.o);go_wp2_with (at_builtin;refine gT nA rfl (.tmp 47) (.tmp 48) rfl rfl (Own.nil k k.heap.size 3 .i64) rfl XS.o aq cr ?_;intro s u w6 o1 b6;have O6:ak (Ow w6 k.heap.size 3 .i64 aN s n u):=⟨⟨_,by simpa using o1,fun _ _=>trivial⟩⟩;have B6:=sH b6;clear o1 b6 XS);go_loopg [12,13] (q+1) (fun gg S J wr=>∃(i:Nat),q-i<gg/\i<=q/\S= .slice s n u/\J=ae aj (i:Int)/\ak (Ow wr k.heap.size 3 .i64 aN s n u)/\ak (aA k wr))
 ·exact⟨0,aq,aq,by first|rfl|simp,rfl,O6,B6⟩
 clear O6 B6;obtain⟨i,hg,hi,rfl,rfl,j,d⟩:=hrel;by_cases f:i<q
 ·have i4:=aR i q
  obtain⟨g,r,rfl,iy,H,v⟩:=GS.o.at UX f;have G:=au (v 0 _ rfl) d.o;have e1:=au (v 1 _ rfl) d.o;have e2:=au (v 2 _ rfl) d.o;have e3:=au (v 3 _ rfl) d.o;rw[Nat.add_zero]at G;have SQ:ak _:=⟨aa3 A CA r.A s n c cc r.m r.c u k.heap.size r.lv r.so r.eo ts wr (R5.o.ar d.o) (K5.o.Z d.o d.o.size) (H.1.iw.Z d.o d.o.size) j.o d.o.size aq H.2 (fun g2 h2 ad h3 h4=>by
   obtain⟨g3,h5,_,h6⟩:=H.1.form h4;rw[h5]at h3;obtain rfl:=Option.some.inj h3;have h7:=j.o;rw[h2]at h7;have:=h7.lt.1;show g3≠g2;omega)⟩
  clear v H;go_wp2_with fail;refine SQ.o.mono ?_;rintro e K ⟨rfl,o7,o⟩;have l:=sH o7;have t:=sH (d.o.trans o);clear o7 o SQ G e1 e2 e3;go_wp2;go_roundg (q-i)
  ·exact⟨i+1,aq,aq,rfl,aQ,l,t⟩
  omega
 have i4:=cF i q;go_wp2;go_loopg [14,15] (n+1) (fun gg N Z wr=>∃(i:Nat) (a:Int),n-i<gg/\i<=n/\N=ae aj a/\Z=ae aj (i:Int)/\ak (Ow wr k.heap.size 3 .i64 aN s n u)/\ak (aA k wr))
 ·exact⟨0,base,aq,aq,rfl,rfl,j,d⟩
 clear j d;obtain⟨i,a,hg,hi,rfl,rfl,j,d⟩:=hrel;by_cases f:i<n;rotate_left
 ·have i5:=cF i n
  go_wp2;go_ret3;exact⟨_,_,_,rfl,j.o.cN F.o.size,F.o.trans (d.o.mono F.o.size)⟩
 have i5:=aR i n;obtain⟨ado,z,rfl,_,G⟩:=(C5.o.Z d.o d.o.size).get f;obtain⟨V,rfl,_,_⟩:=j.o.form aq;go_wp2_with fail;refine(kM z wr).mono ?_;rintro e K ⟨b,rfl,o⟩;have l:=sH (j.o.ar o);have t:=d.t o;clear o G j d;obtain⟨y,_,y0⟩:=l.o.get f;cases b
 ·go_wp2
  go_roundg (n-i)
  ·exact⟨i+1,_,aq,aq,rfl,aQ,l,t⟩
  omega
 have f0:=l.o.fz i;have O8:=sH (l.o.set i (y:=a) trivial);have B8:ak (aA k (K.setCell ⟨V,i,none⟩ (ae aj a))):=⟨Below.setCell t.o (p:=⟨V,i,none⟩) l.o.lt.1 _⟩;go_upto_region 25 with fail;generalize K.setCell ⟨V,i,none⟩ (ae aj a)=w8 at*;clear y0 f0 l t;obtain⟨y,_,y0⟩:=O8.o.get f;go_wp2;go_roundg (n-i)
 ·exact⟨i+1,_,aq,aq,rfl,aQ,O8,B8⟩
 omega
theorem TD(A:aC)(n c:Nat)(ts:aE)(w:World)(h:aL .i32 w A n c ts)(q:n<=100000):Calls prog 44 #[.slice A n c] w fun e f=>∃(a:List Nat) (m:Nat) (D:aC) (d:Nat),e= .returned (.slice D m d)/\aB f w.heap.size 60 2 D m d (dt (ui a m))/\(∀i,i<m->dx a i<dx a (i+1)/\dx a (i+1)<=n)/\(0<n->0<m/\dx a 0=0/\dx a m=n)/\m<=n/\aA w f:=by
 refine(vJ A n c ts w h aq).mono ?_;rintro e f ⟨D,d,rfl,o,b⟩;have g:(ks ts).length=n:=Px;have j:(uy (ks ts)).length=(di (ks ts)).length-1:=by unfold uy;rw[iL]
 rw[j]at o⊢;have p:(di (ks ts)).length<=n+1:=by
  have:=kN (ks ts) ((ks ts).length+1);unfold di;omega
 refine⟨di (ks ts),(di (ks ts)).length-1,D,d,rfl,o,fun i s=>⟨qc aq,by have:=Gy (l:=ks ts) (k:=i+1) (by omega);omega⟩,fun r=>⟨by have:=KH (ks:=ks ts) (by omega);omega,(ox aq).1,by rw[(qN (by omega)).2,g]⟩,aq,b⟩
def Za(n:Nat)(r:aE):Prop:=(0<=nth r 0/\nth r 0<=n)/\(0<=nth r 1/\nth r 1<=n)
def lK(w:World)(A:aC)(m t:Nat):Prop:=0<m/\∃g,A=some ⟨g,0,none⟩/\w.cell? ⟨g,(m-1)*6+1,none⟩=some (ae aj (t:Int))
def PRn(w:World)(s:cX)(p:jW)(ts:aE)(e:Ending)(a:World):Prop:=∃(A:aC) (m c:Nat) (z:Int),e= .returned (.tuple #[.slice A m c,ae aj z])/\(z=0->Wj w a s p ts/\m<=p.tn/\Oq a w.heap.size 58 6 (Za p.tn) A m c/\(0<p.tn->lK a A m p.tn))/\aA w a
theorem Wj.Z{b c:World}{s:cX}(h:Wj w b s p ts)(a:aA b c):Wj w c s p ts:=⟨h.1.Z a a.size,h.2⟩
def YM(N:Nat)(P:Int->Prop):Sat:=⟨fun v w=>∃(A:aC) (m c:Nat),v= .slice A m c/\m<=N/\Kc w w.heap.size P A m,fun _ _ _ ⟨A,m,c,d,e,b⟩ a=>⟨A,m,c,d,e,b.Z a a.size⟩⟩
theorem Oq.aaz{e:TypeId}(h:Oq w B e 6 Q (some ⟨g,0,none⟩) n c){j:Nat}(i:j<n):∃x:Rn,Q [x.f,x.t,x.lv,x.sp,x.fo,x.st]/\w.cell? ⟨g,j*6,none⟩=some (ae aj x.f)/\w.cell? ⟨g,j*6+1,none⟩=some (ae aj x.t)/\w.cell? ⟨g,j*6+2,none⟩=some (ae aj x.lv)/\w.cell? ⟨g,j*6+3,none⟩=some (ae aj x.sp)/\w.cell? ⟨g,j*6+4,none⟩=some (ae aj x.fo)/\w.cell? ⟨g,j*6+5,none⟩=some (ae aj x.st):=by
 obtain⟨d,e,_,b⟩:=h.rq aq aq;obtain rfl:(⟨g,0,none⟩:Addr)=d:=Bm;obtain⟨r,a,k,l⟩:=b j i;have key:∀q x,r[q]? =some x->w.cell? ⟨g,j*6+q,none⟩=some (ae aj x):=fun q x f=>by
  have:=l q x f;rwa [bm,bB]at this
 match r,a with
 |[x0,x1,x2,x3,x4,x5],_=>exact⟨⟨x0,x1,x2,x3,x4,x5⟩,k,key 0 _ rfl,key 1 _ rfl,key 2 _ rfl,key 3 _ rfl,key 4 _ rfl,key 5 _ rfl⟩
theorem nI{P:Program}{ops:Array Oper}{rest:List Oper}{o:Oper}{a:Act}{K:Exit->Act->World->Prop}{t e:TypeId}{bytes:Nat}(T:aS P t e b bytes)(C:o.guard=none)(s x:Operand)
 (U:o.op= .call {callee:= .builtin .append,args:= #[s,x],argTypes:= #[t,t]}) {B:Nat} {Q:aE->Prop} {A:aC} {n c:Nat} (I:a.eval s= .slice A n c) (p:Oq w B e b Q A n c)
 {g:Nat} (L:a.eval x= .slice (some ⟨g,0,none⟩) 1 1) (r:aE) (f:r.length=b) (H:∀j u,(dZ r)[j]? =some u->w.cell? ⟨g,j,none⟩=some u) (W:Q r)
 (R:(n+1)*bytes<=140737488355328) (X:B<=w.heap.size)
 (h:∀k c' d,Oq d B e b Q k (n+1) c'->(∀D,k=some ⟨D,0,none⟩->∀q u,r[q]? =some u->d.cell? ⟨D,n*b+q,none⟩=some (ae aj u))->Below B w d->wpList P ops K rest (a.put o.dst (.slice k (n+1) c')) d):wpList P ops K (o::rest) a w:=by
 obtain⟨gs,h1,F,V⟩:=p;refine bk T C s x U I V L (news:=dZ r) (by simp[dZ,f]) H (fun u m=> ?_) R X fun k c' d E J _ _=>h k c' d ⟨gs++[r],nU,fun z i=> ?_,by rw[List.flatMap_append];simpa using E⟩ (fun D S q u m=> ?_) J
 ·simp only[dZ,List.mem_map]at m
  obtain⟨z,_,rfl⟩:=m;rfl
 ·rcases List.mem_append.1 i with i|i
  ·exact F z i
  ·obtain rfl:=List.mem_singleton.1 i
   exact⟨f,W⟩
 ·subst S
  have N:q<b:=by rw[<-f];exact(List.getElem?_eq_some_iff.1 m).1
  have G:n*b+q<(n+1)*b:=by rw[Nat.add_mul];omega
  have M:∀l:List aE,(∀g∈l,g.length=b)->(l.flatMap dZ).length=l.length*b:=fun l=>by
   induction l with
   |nil=>simp
   |cons y l ih=>
    intro f;rw[List.flatMap_cons,List.length_append,ih (fun g v=>f g (by simp[v])),List.length_cons,Nat.add_mul];have:=f y aD;simp[dZ,this];omega
  have O:(gs.flatMap dZ).length=n*b:=by rw[M gs (fun g v=>(F g v).1),h1]
  rw[aB.cellAt E _ G,List.getElem?_append_right aq,O,Nat.add_sub_cancel_left];simp[dZ,m]
theorem TRn:aS prog 35 58 6 48:=bD underlying35 (z:= .agg #[ae aj 0,ae aj 0,ae aj 0,ae aj 0,ae aj 0,ae aj 0]) aF rfl aq aq
theorem adE(s:G:=by
 exact⟨i+1,m+1,A12,c12,aq,aq,aq,rfl,aQ,O12,⟨fun _=>by rw[HBE.o];exact SF.o⟩,B12⟩):G:=s
theorem XW(hB:ri)(hP:qI)(s:cX)(p:jW)(ts:aE)(w:World)(h:ix w w.heap.size s)(hp:mx w p ts)(hs:Ca w s p):Calls prog 18 #[s.v,p.v] w (PRn w s p ts):=by
 obtain⟨W1,aP,B1,X1,X2⟩:=box2 w s.row 26 p.row 31;obtain⟨c0,c1,W,c3,c4⟩:=X1.o.c5;obtain⟨H,r,G,F,C,E,B,I⟩:=X2.o.c8;have R0:=sH h;have P0:=sH hp;have S0:=sH hs;have ht:p.tn<=60:=hs.1;have nL:p.sn<=60:=hs.2.1;have W9:s.fn<=10:=hs.2.2.2.1;clear h hp hs;go_enter func18,ntmps18;go_upto_region 1 with fail;rw[<-aP];clear aP;go_wp2_with fail;refine(xw hB hP s p ts W1 (R0.o.Z B1.o B1.o.size) (P0.o.ar B1.o) (S0.o.ar R0.o B1.o)).mono ?_;rintro e w3 ⟨z,rfl,hz,b3⟩;have BH:=B1.t b3;have XA:=sH (X1.o.ar b3 X1.o.lt);have XB:=sH (X2.o.ar b3 X2.o.lt);have HZ:ak (z=0->Wj w w3 s p ts):=⟨fun h=>⟨(hz h).1,(hz h).2.1,(hz h).2.2.1,(hz h).2.2.2.back B1.o⟩⟩;clear hz b3 c0 c1 W c3 c4 H r G F C E B I X1 X2;by_cases h0:z=0;rotate_left
 ·have CB:(z !=0)=true:=by simp[h0]
  clear h0;have h0:ak (z≠0):=⟨by simpa using CB⟩;go_wp2;go_ret2;exact⟨_,_,_,_,rfl,fun h=>absurd h h0.o,BH.o⟩
 have CB:(z !=0)=false:=by simp[h0]
 have CH:=sH (HZ.o h0);clear h0 HZ;obtain⟨H,r,G,F,C,E,B,I⟩:=XB.o.c8;go_wp2_with fail;refine(aei p.T p.tn p.tc p.dir ts w3 (P0.o.ar BH.o).rT ht CH.o.2.2.1 CH.o.2.2.2.2.2.1 CH.o.2.2.2.2.1).mono ?_;rintro e w4 ⟨LA,lc,base,rfl,ol,b4⟩;have B4:=BH.t b4;have L4:=sH ol.iw;have Y4:=sH (XB.o.ar b4 XB.o.lt);have X4:=sH (XA.o.ar b4 XA.o.lt);have C4:=sH (CH.o.Z b4);clear ol b4 XA XB CH BH H r G F C E B I;obtain⟨H,r,G,F,C,E,B,I⟩:=Y4.o.c8;go_wp2_with fail;refine(I7 p.T p.tn p.tc ts w4 (P0.o.ar B4.o).rT aq).mono ?_;rintro e w5 ⟨SA,sc,rfl,os,b5⟩;have B5:=B4.t b5;have L5:=sH (L4.o.Z b5 b5.size);have S5:=sH os.iw;have Y5:=sH (Y4.o.ar b5 Y4.o.lt);have X5:=sH (X4.o.ar b5 X4.o.lt);have C5:=sH (C4.o.Z b5);clear os b5 L4 X4 Y4 C4 B4 H r G F C E B I;obtain⟨c0,c1,W,c3,c4⟩:=X5.o.c5;obtain⟨H,r,G,F,C,E,B,I⟩:=Y5.o.c8;go_wp2;have SW5:=sH (S0.o.ar R0.o B5.o);have X:=sH (R0.o.Z B5.o B5.o.size);have PW5:=sH (P0.o.ar B5.o);obtain⟨K0,K1,K2,K3,K4,L0,L1,L2⟩:=lc8 c0 c1 W c3 c4 H r G;obtain⟨L3,L4,L6,L7,L8⟩:=lc5 F C E B I;clear c0 c1 W c3 c4 H r G F C E B I;refine sf (jd 42 (YM p.tn aN)) 7 rfl aF aF aF aF aF rfl rfl ?_;refine mLw ?_;refine lwA (YM p.tn aN) (fun f=> ?_) (fun v9 l=> ?_)
 ·go_simp
  refine aW (YM p.tn aN) ((Nv hB hP s p ts f.1 (X.o.Z f.2 f.2.size) (PW5.o.ar f.2) (SW5.o.ar X.o f.2)).mono ?_);rintro e w6 ⟨A6,m6,c6,hm6,rfl,o6,b6⟩;exact⟨_,rfl,⟨A6,m6,c6,rfl,hm6,o6.jU (fun _ _=>trivial)⟩,b6⟩
 obtain⟨_,_,A6,m6,c6,rfl,hm6,_⟩:=l;simp[Act.put];intro f hE;obtain⟨A7,m7,c7,e7,_,sp6⟩:=hE;simp at e7;obtain⟨r1,r2,_⟩:=e7;rw[<-r1,<-r2]at sp6;have SP:=sH sp6;have B6:=B5.t f.2;have RW6:=sH ((X.o.Z f.2 f.2.size).rF);have PW6:=sH ((PW5.o.ar f.2).rT);have Y6:=sH (Y5.o.ar f.2 Y5.o.lt);have L9:=sH (L5.o.Z f.2 f.2.size);have S6:=sH (S5.o.Z f.2 f.2.size);have C6:=sH (C5.o.Z f.2);have Xb:=C5.o.2.1.2;clear sp6 r1 r2 K0 K1 K2 K3 K4 L0 L1 L2 L3 L4 L6 L7 L8 SW5 X PW5 X5 Y5 L5 S5 C5 B5;generalize f.1=w6 at*;clear f;go_simp;refine(aeA s.F s.fn s.fc p.T p.tn p.tc ts A6 m6 _ w6 RW6.o PW6.o SP.o aq aq aq aq).mono ?_;rintro e w7 ⟨FA,fm,fc,hfm,rfl,of,Y⟩;have B7:=B6.t Y;have FS9:ak (Kc w7 w7.heap.size (uQ s.fn) FA fm):=⟨of.jU (fun _ h=>h)⟩;have Y7:=sH (Y6.o.ar Y Y6.o.lt);have L7:=sH (L9.o.Z Y Y.size);have S7:=sH (S6.o.Z Y Y.size);have C7:=sH (C6.o.Z Y);clear of Y RW6 PW6 Y6 L9 S6 C6 B6 SP;go_simp;obtain⟨H,r,G,F,C,E,B,I⟩:=Y7.o.c8;go_wp2_with fail;refine(TD p.T p.tn p.tc ts w7 (P0.o.ar B7.o).rT aq).mono ?_;rintro e w8 ⟨bs,k,D,dd,rfl,oc,Sh,UJ,hk,U⟩;have OC:=sH oc;have B8:=B7.t U;have F8:=sH (FS9.o.Z U U.size);have Y8:=sH (Y7.o.ar U Y7.o.lt);have L8:=sH (L7.o.Z U U.size);have S8:=sH (S7.o.Z U U.size);have C8:=sH (C7.o.Z U);have HB:=sH Sh;have H0:=sH UJ;clear oc U FS9 Y7 L7 S7 C7 B7 Sh UJ H r G F C E B I;obtain rfl:z=0:=by simpa using CB
 go_wp2;go_loopg [7,14,15,16,17] (k+1) (fun gg v7 uZ _ _ _ wr=>∃(i m:Nat) (A:aC) (c:Nat),k-i<gg/\i<=k/\m<=i/\v7= .slice A m c/\uZ=ae aj (i:Int)/\ak (Oq wr w8.heap.size 58 6 (Za p.tn) A m c)/\ak (0<i->lK wr A m (dx bs i))/\ak (aA w8 wr))
 ·exact⟨0,0,none,0,aq,aq,aq,rfl,rfl,⟨Oq.nil _ _ _ _ _⟩,⟨fun h=>absurd h aq⟩,cB⟩
 obtain⟨i,m,A,c,hg,hi,hm,rfl,rfl,OE,LT,BE⟩:=hrel;by_cases aH:i<k;rotate_left
 ·have i4:=cF i k
  obtain rfl:i=k:=aq;go_wp2;go_ret2;exact⟨_,_,_,_,rfl,fun _=>⟨C8.o.Z BE.o,aq,OE.o.cN B8.o.size,fun h=>by have:=LT.o (H0.o h).1;rwa [(H0.o h).2.2]at this⟩,B8.o.trans (BE.o.mono B8.o.size)⟩
 have i4:=aR i k;obtain⟨gD,rfl,_,_⟩:=aB.form OC.o aq;have q0:=(aB.cellAt OC.o (i*2) aq).trans (jI (ui bs k) i (by rw[iL];omega)).1;have q1:=(aB.cellAt OC.o (i*2+1) aq).trans (jI (ui bs k) i (by rw[iL];omega)).2;rw[na _ _ _ aH]at q0 q1;have q0:=au q0 BE.o;have q1:=au q1 BE.o;dsimp only at q0 q1;obtain⟨a,ha⟩:=eY (dx bs i);obtain⟨b,hb⟩:=eY (dx bs (i+1));have iN:=HB.o i aH;rw[ha,hb]at iN;rw[ha]at q0;rw[hb]at q1;have HBE:=sH hb;clear ha hb LT;obtain⟨w9,O⟩:=eX (wr.alloc (.cells #[ae aj (a:Int),ae aj (b:Int)] 60));have T:ak (aA w8 w9):=⟨by rw[O];exact BE.o.alloc BE.o.size _⟩;have O9:ak (Oq w9 w8.heap.size 58 6 (Za p.tn) A m c):=⟨by rw[O];exact OE.o.ar (av _ _)⟩;have X9:ak (Bx w9 wr.heap.size #[ae aj (a:Int),ae aj (b:Int)]):=⟨by rw[O];exact Bx.new _ _ _⟩;go_upto_region 13 with fail;rw[<-O];clear O q0 q1 OE BE;have BG:=B8.t T.o;obtain⟨qx,lv,rfl,_,e0⟩:=(L8.o.Z T.o T.o.size).get (show a<p.tn by omega);obtain⟨ads,L,rfl,_,e1⟩:=(S8.o.Z T.o T.o.size).get (show a<p.tn by omega);have x0:w9.cell? ⟨wr.heap.size,0,none⟩=some (ae aj (a:Int)):=X9.o.cell 0;have x1:w9.cell? ⟨wr.heap.size,1,none⟩=some (ae aj (b:Int)):=X9.o.cell 1;obtain⟨H,r,G,F,C,E,B,I⟩:=(Y8.o.ar T.o Y8.o.lt).c8;have F9:=sH (F8.o.Z T.o T.o.size);have PS:=sH (Kc.of (P:=aN) (P0.o.ar BG.o).rS (fun _ _ _ _ _ _=>trivial));have i5:(a:Int)<(p.tn:Int):=aq;obtain⟨K0,K1,K2,K3,K4⟩:=lc5 x0 x1 e0 e1 r;clear x0 x1 e0 e1 H r G F C E B I;refine aT (fun d=>if d=some 74 then some ZI else if d=some 79 then some ZI else if d=some 16 then some (ZX w9.heap.size #[ae aj 0,ae aj 0,ae aj 0,ae aj 0,ae aj 0,ae aj 0])else none) 25 rfl aF aF aF aF aF rfl ?_;refine mLw ?_;refine lwA ZI (fun f=> ?_) (fun v9 l=> ?_)
 ·go_simp
  refine aW ZI ((Ln FA fm fc _ (uQ s.fn) f.1 (F9.o.Z f.2 f.2.size) aq).mono ?_);rintro e w6 ⟨z,rfl,_,hb⟩;exact⟨_,rfl,⟨z,rfl⟩,hb⟩
 obtain⟨_,_,z1,rfl⟩:=l;simp[Act.put];refine mLw ?_;refine lwA ZI (fun f=> ?_) (fun v9 l=> ?_)
 ·go_simp
  refine aW ZI ((Ln p.S p.sn p.sc _ aN f.1 (PS.o.Z f.2 f.2.size) aq).mono ?_);rintro e w6 ⟨z,rfl,_,hb⟩;exact⟨_,rfl,⟨z,rfl⟩,hb⟩
 obtain⟨_,_,z2,rfl⟩:=l;simp[Act.put];refine mLw ?_;refine lwA (ZX w9.heap.size #[ae aj 0,ae aj 0,ae aj 0,ae aj 0,ae aj 0,ae aj 0]) (fun f=> ?_) (fun v9 l=> ?_)
 ·go_simp
  exact DG f _ _
 obtain⟨_,_,g,rfl,ef,_⟩:=l;simp[Act.put];intro f hE;have lP:=ZX.get hE.2;obtain⟨ee,zO⟩:=lP.heap;clear hE K0 K1 K2 K3 K4 F9 PS;refine wp_store_row 58 (.tmp 16) (.tmp 80) rfl g _ rfl rfl ee _ zO aF rfl dK ?_;have Z:=sH (lP.row (ds:=(⟨a,b,lv,L,z1,z2⟩:Rn).row));obtain⟨w10,o⟩:=eX (f.1.setRow g (⟨a,b,lv,L,z1,z2⟩:Rn).row);have V:ak (aA w9 w10):=⟨by rw[o];exact below_setRow f.2 ef _⟩;rw[<-o]at Z;rw[<-o];clear o lP zO;have u:=sH (O9.o.ar V.o);have q:=sH (X9.o.ar V.o X9.o.lt);have BX:=T.t V.o;clear O9 X9 T V BG;go_wp2_with fail;rcases Nat.eq_zero_or_pos m with Cg|Cg
 ·have QC:decide (0<m)=false:=fC
  clear Cg;refine aG (fun _=>none) aF aF ?_;refine mSk ?_
  first
   |(intro (f:aI _);obtain⟨N,J⟩:=f)
   |(rintro N ⟨⟨_,J⟩,rfl⟩)
  try dsimp only
  have n:=sH (u.o.ar J);have X11:=sH (q.o.ar J q.o.lt);have R:=sH (Z.o.ar J Z.o.lt);have t:=BX.t J;obtain⟨g0,g1,g2,g3,g4,g5⟩:=R.o.c6;have M:=t.o.size;clear J u q Z BX;go_step;go_wp2_with (at_builtin;refine nI TRn rfl (.tmp 101) (.tmp 103) rfl rfl (n.o.alloc _) rfl [(a:Int),(b:Int),lv,L,z1,z2] rfl (cJ _ _ _ _ _ aD rfl) ⟨⟨wR,sF⟩,wR,sF⟩ aq cA ?_;intro A12 c12 w12 K S Q;have O12:=sH K;have T12:=sH S;have B12:=sH ((t.o.alloc M _).trans Q);clear K S Q);have SF:ak (lK w12 A12 (m+1) b):=⟨by
   obtain⟨v,rfl,_,_⟩:=O12.o.form aq;exact⟨aq,v,rfl,T12.o v rfl 1 _ rfl⟩⟩
  go_roundg (k-i)
  ·exact adE
  omega
 ·obtain⟨j,hj⟩:∃j,j+1=m:=⟨m-1,aq⟩
  have Fb:(m:Int)-1=(j:Int):=aq;have QC:decide (0<m)=true:=yy;have hjm:=aR j m;have hj0:=jB j;obtain⟨v,rfl,_,_⟩:=u.o.form aq;obtain⟨x,_,e0,e1,e2,e3,e4,e5⟩:=u.o.aaz (show j<m by omega);obtain⟨g0,g1,g2,g3,g4,g5⟩:=Z.o.c6;obtain⟨K0,K1,K2,K3,K4,K5,L0,L1⟩:=lc8 e0 e1 e2 e3 e4 e5 g0 g1;obtain⟨L2,L3,L4,L5⟩:=lc4 g2 g3 g4 g5;have HJ:=sH hj;clear e0 e1 e2 e3 e4 e5 g0 g1 g2 g3 g4 g5 hj Cg;refine aG (mj 92 SB) aF aF ?_;refine mSk ?_;refine lsA SB (fun f=> ?_) (fun v9 l=> ?_)
  ·go_simp
   exact bj (XJ x ⟨a,b,lv,L,z1,z2⟩ f.1)
  obtain⟨b9,rfl⟩:=l;simp[Act.put];refine mSk ?_;intro f;obtain⟨N,J⟩:=f
  try dsimp only
  clear K0 K1 K2 K3 K4 K5 L0 L1 L2 L3 L4 L5;have n:=sH (u.o.ar J);have X11:=sH (q.o.ar J q.o.lt);have R:=sH (Z.o.ar J Z.o.lt);have t:=BX.t J;obtain⟨g0,g1,g2,g3,g4,g5⟩:=R.o.c6;have M:=t.o.size;clear J u q Z BX;cases b9
  ·go_step
   go_wp2_with (at_builtin;refine nI TRn rfl (.tmp 101) (.tmp 103) rfl rfl (n.o.alloc _) rfl [(a:Int),(b:Int),lv,L,z1,z2] rfl (cJ _ _ _ _ _ aD rfl) ⟨⟨wR,sF⟩,wR,sF⟩ aq cA ?_;intro A12 c12 w12 K S Q;have O12:=sH K;have T12:=sH S;have B12:=sH ((t.o.alloc M _).trans Q);clear K S Q);have SF:ak (lK w12 A12 (m+1) b):=⟨by
    obtain⟨v,rfl,_,_⟩:=O12.o.form aq;exact⟨aq,v,rfl,T12.o v rfl 1 _ rfl⟩⟩
   go_roundg (k-i)
   ·exact adE
   omega
  ·clear g0 g1 g2 g3 g4 g5
   obtain⟨y,hQ,_,e1,_⟩:=n.o.aaz (show j<m by have:=HJ.o;omega);have f1:=n.o.fz (j*6+1);have ae0:=n.o.lt;have x1:=(X11.o.cell 1);have O12:ak (Oq (N.setCell ⟨v,j*6+1,none⟩ (ae aj (b:Int))) w8.heap.size 58 6 (Za p.tn) (some ⟨v,0,none⟩) m c):=⟨n.o.set JI aq (b:Int) fun x hx hq=>by
    unfold Za nth at*;simp[List.getElem?_set,hx]at hq⊢;exact⟨hq.1,aq⟩⟩
   have B12:ak (aA w8 (N.setCell ⟨v,j*6+1,none⟩ (ae aj (b:Int)))):=⟨Below.setCell t.o (p:=⟨v,j*6+1,none⟩) ae0.1 _⟩;have SF:ak (lK (N.setCell ⟨v,j*6+1,none⟩ (ae aj (b:Int))) (some ⟨v,0,none⟩) m b):=⟨⟨JI,v,rfl,by
    rw[show m-1=j by have:=HJ.o;omega];exact World.cell?_setCell_same' _ _ _ (by rw[e1];rfl)⟩⟩
   go_step;go_wp2;go_roundg (k-i)
   ·exact⟨i+1,m,_,c,aq,aq,aq,rfl,aQ,O12,⟨fun _=>by rw[HBE.o];exact SF.o⟩,B12⟩
   omega
theorem Ma(r:Int)(h:Wf .i32 r)(w:World):Calls prog 179 #[.int .i32 r] w (abI w):=by
 have H:=sH h;obtain⟨a,d⟩:=wf_i32 r h;by_cases b:65<=r
 ·by_cases c:r<=90
  ·go_enter func179,ntmps179
   go_wp2;go_ret;exact⟨_,by simp[Wf,Lit.wf,IntKind.min,IntKind.max,IntKind.signed,IntKind.bits];omega,rfl,rfl⟩
  ·go_enter func179,ntmps179
   go_wp2;go_ret;exact⟨_,H.o,rfl,rfl⟩
 ·go_enter func179,ntmps179
  go_wp2;go_ret;exact⟨_,H.o,rfl,rfl⟩
def aen(w:World)(n m a:Nat)(e:Ending)(c:World):Prop:=∃b:Bool,e= .returned (.bool b)/\(b=true->a+n<=m)/\aA w c
theorem Jn(A C:aC)(n m c d a:Nat)(w:World)(h:Iw w w.heap.size .i32 (Wf .i32) A n)(k:Iw w w.heap.size .i32 (Wf .i32) C m)(G:n<=100000)(K:m<=100000)(I:a<=100000):Calls prog 180 #[.slice A n c, .slice C m d,ae aj (a:Int)] w (aen w n m a):=by
 have X:=sH h;have Y:=sH k;by_cases j:m<a+n
 ·have p:(m:Int)<(a:Int)+(n:Int):=by omega
  go_enter func180,ntmps180;go_wp2;go_ret;exact⟨_,rfl,aD,Below.refl _ _⟩
 have p:¬(m:Int)<(a:Int)+(n:Int):=aq;go_enter func180,ntmps180;go_wp2;go_loopg [7] (n+1) (fun gg v wr=>∃i:Nat,n-i<gg/\i<=n/\v=ae aj (i:Int)/\ak (aA w wr))
 ·exact⟨0,aq,aq,rfl,cB⟩
 obtain⟨i,D,H,rfl,b⟩:=hrel;by_cases e:i<n;rotate_left
 ·have l:=cF i n
  go_wp2;go_ret;exact⟨_,rfl,fun _=>by omega,b.o⟩
 have l:=aR i n;obtain⟨q,J⟩:=eY (a+i);have f:q<m:=aq;obtain⟨B,x,rfl,_,r⟩:=(X.o.Z b.o b.o.size).get e;obtain⟨u,y,rfl,_,t⟩:=(Y.o.Z b.o b.o.size).get f;obtain⟨L0,L1⟩:=lc2 r t;have F:(a:Int)+(i:Int)=(q:Int):=aq;have z:=jB q;have o:=aR q m;cases E:(y !=x)
 ·go_wp2
  refine mRl ?_;rintro _ ⟨g,rfl⟩;have s:=b.t g.2;go_wp2;go_roundg (n-i)
  ·exact⟨i+1,aq,aq,aQ,s⟩
  omega
 ·go_wp2
  refine mRl ?_;rintro _ ⟨g,rfl⟩;go_wp2;go_ret;exact⟨_,rfl,aD,b.o.trans (g.2.mono b.o.size)⟩
def PPo(w:World)(n:Nat)(e:Ending)(a:World):Prop:=∃(A:aC) (m c:Nat),e= .returned (.slice A m c)/\m<=n/\Ow a w.heap.size 3 .i64 (fun x=>0<=x/\x<=n) A m c/\aA w a
theorem YR:(prog.info? 3).map (·.zero)=some (some (ae aj 0)):=by kernel_rfl
structure Gc(w wr:World)(A:aC)(m c g k:Nat):Prop where
 ot:Ow wr w.heap.size 21 .i32 (Wf .i32) A m c
 om:Ow wr w.heap.size 3 .i64 aN (some ⟨g,0,none⟩) k k
 be:aA w wr
theorem Gc.ar{b:World}(h:Gc w wr A m c g k)(a:aA wr b):Gc w b A m c g k:=⟨h.ot.ar a,h.om.ar a,h.be.trans (a.mono h.be.size)⟩
theorem Gc.set(h:Gc w wr A m c g k)(j:Nat)(x:Int):Gc w (wr.setCell ⟨g,j,none⟩ (ae aj x)) A m c g k:=⟨by
 obtain⟨xs,a,d⟩:=h.ot;obtain⟨e,b,f⟩:=h.om;exact⟨xs,aB.mE a (bZ a b bQ) _,d⟩,h.om.set j trivial,Below.setCell h.be (p:=⟨g,j,none⟩) h.om.lt.1 _⟩
theorem Gc.drew(h:Gc w wr A m c g k):Gc w wr.drew A m c g k:=h.ar (aM (Below.refl _ _) 1)
theorem acW(s:G:=by
 go_wp2
 go_still_tail 20,aF;change wpList _ _ _ _ _ wr.drew;go_wp2;go_roundg (r.m-i)
 case measure=>omega
 case rel=>exact⟨i+1,aq,aq,aQ,⟨UN.o _⟩⟩):G:=s
theorem Ih(P:aC)(a pc:Nat)(A:aC)(n c:Nat)(w:World)(h:D8 w w.heap.size 200 P a)(k:Iw w w.heap.size .i32 (Wf .i32) A n)(hp:a<=1000):Calls prog 110 #[.slice P a pc, .slice A n c] w (PPo w n):=by
 have PR:ak _:=⟨h⟩;have X:ak _:=⟨k⟩;clear h k;by_cases h64:64<n
 ·have C:=aR 64 n
  go_enter func110,ntmps110;go_wp2;go_ret;exact⟨none,0,0,rfl,aq,Ow.nil _ _ _ _ _,Below.refl _ _⟩
 have C:=cF 64 n;go_enter func110,ntmps110;go_wp2;go_loopg [6,7] (n+1) (fun gg v6 v7 wr=>∃(k:Nat) (S:aC) (c1:Nat),n-k<gg/\k<=n/\v6= .slice S (k+1) c1/\v7=ae aj (k:Int)/\ak (Ow wr w.heap.size 21 .i32 (Wf .i32) S (k+1) c1)/\ak (aA w wr))
 ·exact⟨0,_,1,aq,aq,rfl,rfl,⟨[46],⟨aD, .inr ⟨w.heap.size,1,#[.int .i32 46],rfl,Nat.le_refl _,heap_alloc_new w _,aq,pN,aD,aD⟩⟩,by simp[Wf];decide⟩,⟨av w _⟩⟩
 obtain⟨k,S,c1,hg,hk,rfl,rfl,O1,v⟩:=hrel;have hz:=v.o.size;by_cases l:k<n
 ·have i4:=aR k n
  obtain⟨ad,x,rfl,hx,e0⟩:=(X.o.Z v.o v.o.size).get l;have HX:ak _:=⟨hx⟩;clear hx;go_wp2_with fail;refine(Ma x HX.o _).mono ?_;rintro e w2 ⟨y,hy,rfl,rfl⟩;have HY:ak _:=⟨hy⟩;clear hy;go_wp2_with (at_builtin;refine bS UR rfl (.tmp 24) (.tmp 30) rfl rfl (O1.o.alloc _) rfl (aX _ _ _) HY.o aq cA ?_;intro f g K u F;have j:ak _:=⟨u⟩;have d:ak (aA w K):=⟨(v.o.alloc hz _).trans F⟩;clear u F);go_roundg (n-k)
  case measure=>omega
  case rel=>exact⟨k+1,f,g,aq,aq,rfl,aQ,j,d⟩
 have i4:=cF k n;obtain rfl:k=n:=aq;have W46:ak (Wf .i32 46):=⟨bQ⟩;go_wp2_with (first
  |(at_builtin;refine bS UR rfl (.tmp 32) (.tmp 33) rfl rfl (O1.o.alloc _) rfl (aX _ _ _) W46.o aq cA ?_;intro f g K u F;have j:ak _:=⟨u⟩;have d:ak (aA w K):=⟨(v.o.alloc hz _).trans F⟩;have z3:=d.o.size;clear u F)
  |(at_make;refine dY nA YR (p:=aN) trivial rfl _ _ rfl (k+3) rfl rfl aq aq aq K.heap.size cr ?_;intro s w4 o4 b4;have M4:ak (Gc w w4 f (k+2) g s (k+3)):=⟨⟨j.o.ar b4,o4.cN z3,d.o.trans (b4.mono z3)⟩⟩;clear o4 b4))
 go_loopg [9,10,11] (a+1) (fun gg v9 _ _ wr=>∃q:Nat,a-q<gg/\q<=a/\v9=ae aj (q:Int)/\ak (Gc w wr f (k+2) g s (k+3)))
 ·exact⟨0,aq,aq,rfl,M4⟩
 obtain⟨q,I,hq,rfl,H⟩:=hrel;obtain⟨G,rfl⟩:∃G:World,G=wr:=⟨_,rfl⟩;by_cases T:q<a
 ·have q4:=aR q a
  have gI:ak (a-q<gk):=⟨I⟩;obtain⟨pad,r,rfl,iN,p0,p1,Qv,hrm,pi,pj⟩:=PR.o q T;have PQ:ak (∀W,aA w W->W.cell? (pad.add (q*2))=some (.slice r.A r.n r.c)/\W.cell? (bW (pad.add (q*2)) 1)=some (.slice r.C r.m r.d)/\Iw W w.heap.size .i32 (Wf .i32) r.A r.n/\Iw W w.heap.size .i64 aN r.C r.m):=⟨fun W M=>⟨(M.cell yF).trans p0,(M.cell (by show(pad.add (q*2)).block<_;rw[aO];exact iN)).trans p1,pi.Z M cr,pj.Z M cr⟩⟩;clear I iN p0 p1 pi pj;go_wp2;go_loopg [10,11] (k+3) (fun gg v10 _ wr=>∃m:Nat,k+2-m<gg/\m<=k+2/\v10=ae aj (m:Int)/\ak (Gc w wr f (k+2) g s (k+3)))
  ·exact⟨0,aq,aq,rfl,H⟩
  obtain⟨m,o,hm,rfl,V⟩:=hrel;obtain⟨wp,rfl⟩:∃wp:World,wp=wr:=⟨_,rfl⟩;by_cases E:m<k+2;rotate_left
  ·have i5:¬(m:Int)<(k:Int)+2:=by omega
   go_wp2;go_roundg (a-q)
   case measure=>have:=gI.o;omega
   case rel=>exact⟨q+1,aq,aq,aQ,V⟩
  have i5:(m:Int)<(k:Int)+2:=aq;have B:ak (k+2-m<gk):=⟨o⟩;obtain⟨d1,d2,ir,_⟩:=PQ.o _ V.o.be;have IR:ak _:=⟨ir⟩;clear o ir;go_wp2_with fail;refine(Jn r.A f r.n (k+2) r.c g m wp (IR.o.Z (Below.refl _ _) V.o.be.size) V.o.ot.iw aq aq aq).mono ?_;rintro e w5 ⟨b,rfl,J,b5⟩;have V5:ak _:=⟨V.o.ar b5⟩;clear b5 d1 d2;cases b
  ·go_wp2
   go_roundg (k+2-m)
   case measure=>exact B.o
   case rel=>exact⟨m+1,aq,aq,aQ,V5⟩
  have hml:=J rfl;clear J;go_wp2;go_loopg [11] (r.m+1) (fun gg v11 wr=>∃i:Nat,r.m-i<gg/\i<=r.m/\v11=ae aj (i:Int)/\ak (Gc w wr f (k+2) g s (k+3)))
  ·exact⟨0,aq,aq,rfl,V5⟩
  obtain⟨i,Sl,hi,rfl,U⟩:=hrel;obtain⟨_,d2,_,R⟩:=PQ.o _ U.o.be;by_cases Y:i<r.m;rotate_left
  ·have i6:¬(i:Int)<(r.m:Int):=by omega
   clear R;go_wp2;go_roundg (k+2-m)
   case measure=>exact B.o
   case rel=>exact⟨m+1,aq,aq,aQ,U⟩
  have i6:(i:Int)<(r.m:Int):=aq;obtain⟨ad,x,hC,_,e1⟩:=R.get Y;rw[hC]at d2;obtain⟨t,ht⟩:∃t,m+i=t:=⟨_,rfl⟩;obtain⟨y,_,e2⟩:=U.o.om.get (show t<k+3 by omega);have f2:=U.o.om.fz t;have iy:=U.o.om.lt.2;have es:(m:Int)+(i:Int)=(t:Int):=aq;have hwr:IntKind.i64.wrap (t:Int)=(t:Int):=by rw[IntWalk.i64_in _ (by omega)]
  have hq0:=jB t;have UY:(t:Int)<(k:Int)+3:=aq;have UN:ak (∀z,Gc w (wr.setCell ⟨s,t,none⟩ (ae aj z)).drew f (k+2) g s (k+3)):=⟨fun z=>(U.o.set t z).drew⟩;clear hC R ht;by_cases QC:y<x
  ·exact acW
  ·exact acW
 have q4:=cF q a;go_wp2;go_loopg [12,13] (k+1) (fun gg Z Q wr=>∃(i m:Nat) (N:aC) (L:Nat),k-i<gg/\2<=i/\(i<=2∨i+2<=k)/\m+2<=i/\Z= .slice N m L/\Q=ae aj (i:Int)/\ak (Ow wr G.heap.size 3 .i64 (fun x=>0<=x/\x<=k) N m L)/\ak (aA G wr))
 ·exact⟨2,0,none,0,aq,aq,aq,aq,rfl,rfl,⟨Ow.nil _ _ _ _ _⟩,cB⟩
 obtain⟨i,m,N,L,o,uN,D,hmi,rfl,rfl,j,d⟩:=hrel;have O:=d.o.size;by_cases l:(i:Int)<=(k:Int)-3
 ·obtain⟨y,_,e2⟩:=(H.o.ar d.o).om.get (show i+1<k+3 by omega)
  have ei:(i:Int)+1<(k:Int)+3:=aq;have afJ:i<k:=aq;have HI:ak ((0:Int)<=(i:Int)/\(i:Int)<=k):=⟨aq⟩;clear D;cases J:(y.tmod 2==1)
  ·go_wp2
   clear J;go_roundg (k-i)
   case measure=>omega
   case rel=>exact⟨i+1,m,N,L,aq,aq,aq,aq,rfl,aQ,j,d⟩
  ·go_wp2_with (at_builtin;refine bS nA rfl (.tmp 102) (.tmp 104) rfl rfl (j.o.alloc _) rfl (aX _ _ _) HI.o aq cA ?_;intro A4 c4 w6 o6 b6;have O6:ak _:=⟨o6⟩;have B6:ak (aA G w6):=⟨(d.o.alloc O _).trans b6⟩;clear o6 b6)
   clear J;go_roundg (k-i)
   case measure=>omega
   case rel=>exact⟨i+1,m+1,A4,c4,aq,aq,aq,aq,rfl,aQ,O6,B6⟩
 ·have xj:decide ((i:Int)<=(k:Int)-3)=false:=by simpa using l
  have E:m<=k:=aq;clear D;go_wp2;go_ret;exact⟨_,_,_,rfl,E,j.o.cN H.o.be.size,H.o.be.trans (d.o.mono H.o.be.size)⟩
def PPz(w:World)(n:Nat)(e:Ending)(a:World):Prop:=∃(A:aC) (m c:Nat),e= .returned (.slice A m c)/\m<=n+1/\Ow a w.heap.size 3 .i64 aN A m c/\aA w a
theorem aa7(P:aC)(S pc:Nat)(A:aC)(n c:Nat)(ts:aE)(w:World)(h:D8 w w.heap.size 200 P S)(k:aL .i32 w A n c ts)(hp:S<=1000)(hn:n<=10000):Calls prog 52 #[.slice P S pc, .slice A n c] w (PPz w n):=by
 have PR:=sH h;have I:=sH k;have zz:ak ((prog.info? 4).map (·.zero)=some (some (.bool false))):=⟨aF⟩;clear h k;go_enter func52,ntmps52;go_wp2_with (refine pt TBn zz.o rfl (.tmp 16) (.tmp 16) rfl (n+1) rfl rfl aQ aQ aq w.heap.size cr ?_;intro u w1 o1 b1;have O1:=sH o1;have B1:=sH b1;clear o1 b1);go_loopg [6] (n+1) (fun g v wr=>∃k:Nat,n-k<g/\k<=n/\v=ae aj (k:Int)/\ak (DH wr w.heap.size (some ⟨u,0,none⟩) (n+1) (n+1))/\ak (aA w wr))
 ·exact⟨0,aq,aq,rfl,O1,B1⟩
 obtain⟨k,hg,hk,rfl,N,C⟩:=hrel;have hwz:=C.o.size;by_cases Z:k<n
 ·have i4:=aR k n
  obtain⟨ad,z,rfl,_,e0⟩:=(I.o.ar C.o).iw.get Z;by_cases h1:z=173
  ·subst h1
   by_cases h2:k+1<n
   ·obtain⟨⟨ef,s⟩,f1,b,Q⟩:=N.o.at (show k+1<n+1 by omega)
    have i5:(k:Int)+1<(n:Int):=aq;have i6:(k:Int)+1<(n:Int)+1:=aq;have O2:=sH (N.o.set (k+1) true);have B2:=sH (Below.setCell C.o (p:=⟨u,k+1,none⟩) ef (.bool true));go_wp2;go_roundg (n-k)
    ·exact⟨k+1,aq,aq,aQ,O2,B2⟩
    omega
   ·have i5:decide ((k:Int)+1<(n:Int))=false:=fC
    go_wp2;go_roundg (n-k)
    ·exact⟨k+1,aq,aq,aQ,N,C⟩
    omega
  ·have hb:(z==173)=false:=by simpa using h1
   clear h1;go_wp2;go_roundg (n-k)
   ·exact⟨k+1,aq,aq,aQ,N,C⟩
   omega
 obtain rfl:k=n:=aq;go_wp2;go_loopg [7] (k+2) (fun g v wr=>∃a:Nat,k+1-a<g/\a<=k+1/\v=ae aj (a:Int)/\ak (DH wr w.heap.size (some ⟨u,0,none⟩) (k+1) (k+1))/\ak (aA w wr))
 ·exact⟨0,aq,aq,rfl,N,C⟩
 obtain⟨a,s,ha,rfl,OA,K⟩:=hrel;have G:=K.o.size;by_cases sy:a<k
 ·have i1:=aR a k
  obtain⟨wi,rfl⟩:=eX wr;go_upto_block 4 with fail;go_cut [8] (fun v wx=>∃j:Nat,a<=j/\j<=k/\v=ae aj (j:Int)/\ak (aA wi wx))
  ·
   go_wp2;go_loopg [8] (k+1) (fun g v wr=>∃j:Nat,k-j<g/\a<=j/\j<=k/\v=ae aj (j:Int)/\ak (aA wi wr))
   ·exact⟨a,aq,aq,aq,rfl,cB⟩
   obtain⟨j,zY,i,f,rfl,E⟩:=hrel;have B:=sH (K.o.trans (E.o.mono G));by_cases hj:j<k
   ·have i2:=aR j k
    obtain⟨ad,z,rfl,hz,e0⟩:=(I.o.ar B.o).iw.get hj;obtain⟨z1,z2⟩:=wf_i32 z hz;have OF:=sH (eZ z z1 z2 wr);clear hz z1 z2;go_wp2_with fail;refine OF.o.mono ?_;rintro e w4 ⟨rfl,b4⟩;have B4:=E.t b4;clear b4 OF e0;generalize(aZ z).word=x at*;by_cases F:x=1
    ·subst F
     go_wp2;go_roundg (k-j)
     ·exact⟨j+1,aq,aq,aq,aQ,B4⟩
     omega
    ·have pA:(x==1)=false:=by simpa using F
     clear F;go_wp2;go_meet;exact⟨j,i,f,rfl,B4⟩
   ·have i2:decide (j<k)=false:=fC
    go_wp2;go_meet;exact⟨j,i,f,rfl,E⟩
  obtain⟨j,i,f,rfl,E⟩:=hcut;have B:=sH (K.o.trans (E.o.mono G));obtain⟨A5,c5,X⟩:=mQ UR A k c a j i f I.o.le (a:Int) (j:Int) rfl rfl;have fe:=X.run;have XC:=sH ((X.jv (I.o.ar B.o)).iw);have H:=B.o.size;have M:=sH (OA.o.ar E.o);have gI:=sH s;clear X s;go_wp2_with fail;refine(Ih P S pc A5 (j-a) c5 wc (PR.o.Z B.o H) XC.o hp).mono ?_;rintro e w6 ⟨A6,m,c6,rfl,T,o6,b6⟩;have O6:=sH (M.o.ar b6);have P6:=sH o6;have B6:=sH (B.o.trans (b6.mono H));clear o6 b6 M;go_wp2;go_loopg [10] (m+1) (fun g v wr=>∃q:Nat,m-q<g/\q<=m/\v=ae aj (q:Int)/\ak (DH wr w.heap.size (some ⟨u,0,none⟩) (k+1) (k+1))/\ak (Ow wr wc.heap.size 3 .i64 (fun x=>0<=x/\x<=(j-a:Nat)) A6 m c6)/\ak (aA w wr))
  ·exact⟨0,aq,aq,rfl,O6,P6,B6⟩
  obtain⟨q,zY,hq,rfl,r,PQ,l⟩:=hrel;by_cases hlq:q<m
  ·have i7:=aR q m
   obtain⟨gp,rfl,_⟩:=PQ.o.form aq;obtain⟨y,⟨y0,y1⟩,Q⟩:=PQ.o.get hlq;obtain⟨x,F⟩:∃x:Nat,(a:Int)+y=(x:Int):=⟨((a:Int)+y).toNat,aq⟩;obtain⟨⟨hh1,hh2⟩,f1,b,e2⟩:=r.o.at (show x<k+1 by omega);have O:=sH (r.o.set x true);have P7:ak (Ow (wr.setCell ⟨u,x,none⟩ (.bool true)) wc.heap.size 3 .i64 (fun x=>0<=x/\x<=(j-a:Nat)) (some ⟨gp,0,none⟩) m c6):=⟨by
    obtain⟨xs,u1,u2⟩:=PQ.o;obtain⟨Y,u3⟩:=r.o;exact⟨xs,aB.mE u1 (bZ u1 u3 bQ) _,u2⟩⟩
   have J:=sH (Below.setCell l.o (p:=⟨u,x,none⟩) hh1 (.bool true));have i8:(x:Int)<(k:Int)+1:=aq;go_wp2;go_roundg (m-q)
   ·exact⟨q+1,aq,aq,aQ,O,P7,J⟩
   omega
  ·have i7:=cF q m
   go_wp2;go_roundg (k+1-a)
   ·exact⟨j+1,aq,aq,aQ,r,l⟩
   exact gI.o
 ·have i1:=cF a k
  go_wp2_with fail;refine(zE A k c ts wr (I.o.ar K.o) aq).mono ?_;rintro e w7 ⟨Y,D,d,rfl,o7,_,hle,_,xP,V⟩;have J:=K.t V;have O:=sH o7;have O8:=sH (OA.o.ar V);obtain⟨m,T⟩:=eY Y.length;rw[T]at O hle xP⊢;have HM:=sH T;have LE:=sH hle;clear o7 V T hle;go_wp2;go_loopg [12,13] (m+1) (fun g ny W wr=>∃(q t:Nat) (R:aC) (U:Nat),m-q<g/\q<=m/\t<=q/\W=ae aj (q:Int)/\ny= .slice R t U/\ak (Ow wr w7.heap.size 3 .i64 aN R t U)/\ak (aA w7 wr))
  ·exact⟨0,0,none,0,aq,aq,aq,rfl,rfl,⟨Ow.nil _ _ _ _ _⟩,cB⟩
  obtain⟨q,t,R,U,Sl,hq,htq,rfl,rfl,r,l⟩:=hrel;have hzq:=l.o.size;by_cases o:q<m
  ·have i7:=aR q m
   have ob:=O.o.ar l.o;obtain⟨gb,rfl,_⟩:=aB.form ob aq;have Q:=iJ ob (j:=q) o;rw[pF (by rw[HM.o];omega)]at Q;have F:=LE.o q o;obtain⟨x,L⟩:=eY (dx Y q);rw[L]at Q F;obtain⟨_,_,b,e2⟩:=(O8.o.ar l.o).at (show x<k+1 by omega);have i8:(x:Int)<(k:Int)+1:=aq;clear ob L;cases b
   ·go_wp2
    go_roundg (m-q)
    ·exact⟨q+1,t,R,U,aq,aq,aq,aQ,rfl,r,l⟩
    omega
   ·go_wp2_with (at_builtin;refine bS nA rfl (.tmp 97) (.tmp 102) rfl rfl (r.o.alloc _) rfl (aX _ _ _) trivial aq cA ?_;intro A9 c9 w9 o9 b9;have O9:=sH o9;have B9:=sH ((l.o.alloc hzq _).trans b9);clear o9 b9)
    go_roundg (m-q)
    ·exact⟨q+1,t+1,A9,c9,aq,aq,aq,aQ,rfl,O9,B9⟩
    omega
  ·have i7:=cF q m
   go_wp2;go_ret;exact⟨_,_,_,rfl,aq,r.o.cN J.o.size,J.o.trans (l.o.mono J.o.size)⟩
theorem Om(a:List Nat)(m i:Nat)(h:a.length=m+1):ui (a++[i]) (m+1)=ui a m++[(dx a m,i)]:=by
 rw[gW];have b:dx (a++[i]) (m+1)=i:=by rw[<-h];exact iQ a i
 rw[cE aq,b,xe (a++[i]) a m fun k c=>cE aq]
structure My(w:World)(B:Nat)(bs:List Nat)(m f n:Nat)(A:aC)(c:Nat):Prop where
 len:bs.length=m+1
 own:aB w B 60 2 A m c (dt (ui bs m))
 up:∀i,i<m->dx bs i<dx bs (i+1)/\dx bs (i+1)<=n
 la:dx bs m=f
theorem My.nil(w:World)(B n:Nat):My w B [0] 0 0 n none 0:=⟨rfl,aB.nil _ _ _ _,fun i h=>by omega,rfl⟩
theorem My.ar{b:World}{a:List Nat}(h:My w B a m f n A c)(d:aA w b):My b B a m f n A c:=⟨h.len,aB.ar h.own d,h.up,h.la⟩
theorem My.push{b:World}{c' i:Nat}{a:List Nat}{d:aC}(h:My w B a m f n A c)(l:f<i)(j:i<=n)(o:aB b B 60 2 d (m+1) c' (dt (ui a m)++pW (f,i))):My b B (a++[i]) (m+1) i n d c':=by
 have e:dx (a++[i]) (m+1)=i:=by rw[<-h.len];exact iQ a i
 refine⟨rQ, ?_,fun k p=> ?_,e⟩
 ·rw[Om _ _ _ h.len,mZ,h.la]
  exact o
 ·rcases Nat.lt_or_ge k m with g|g
  ·rw[cE Hk,cE Hk]
   exact h.up k g
  ·obtain rfl:k=m:=by omega
   rw[cE Hk,e,h.la];exact⟨l,j⟩
theorem Rq.acd{j:Nat}(h:Rq w B 6 Q A m)(i:j<m):∃(a:Addr) (g:aE),A=some a/\Q g/\w.cell? (a.add (j*6))=some (ae aj (nth g 0))/\w.cell? (bW (a.add (j*6)) 1)=some (ae aj (nth g 1)):=by
 obtain⟨a,e,_,f⟩:=h aq;obtain⟨g,d,k,c⟩:=f j i
 match g,d with
 |[x0,x1,x2,x3,x4,x5],_=>
  have b:=c 0 _ rfl;rw[eQ]at b;exact⟨a,_,e,k,b,c 1 _ rfl⟩
def PCu(w:World)(n:Nat)(e:Ending)(a:World):Prop:=∃(b:List Nat) (m f:Nat) (A:aC) (c:Nat),e= .returned (.slice A m c)/\m<=n/\My a w.heap.size b m f n A c/\aA w a
theorem Rz(A:aC)(n c:Nat)(ts:aE)(R:aC)(x rc:Nat)(w:World)(h:aL .i32 w A n c ts)(k:Rq w w.heap.size 6 (Za n) R x)(hn:n<=1000)(hr:x<=1000):Calls prog 19 #[.slice A n c, .slice R x rc] w (PCu w n):=by
 have HX:=sH h;have RX:=sH k;have zz:ak ((prog.info? 4).map (·.zero)=some (some (.bool false))):=⟨aF⟩;go_enter func19,ntmps19;go_wp2_with fail;refine(abe A n c ts w HX.o aq).mono ?_;rintro e D ⟨km,J,K,kc,rfl,ok,b1⟩;have C:=sH b1;have OK:=sH ok.iw;have HK:=sH J;have L:=b1.size;go_wp2_with (refine pt TBn zz.o rfl (.tmp 17) (.tmp 17) rfl (n+1) rfl rfl aQ aQ aq D.heap.size cr ?_;intro u w2 o2 b2;have O2:=sH o2;have B2:=sH b2;clear o2 b2);go_loopg [7] (n+2) (fun g v wr=>∃k:Nat,n+1-k<g/\1<=k/\k<=n+1/\v=ae aj (k:Int)/\ak (DH wr D.heap.size (some ⟨u,0,none⟩) (n+1) (n+1))/\ak (aA D wr))
 ·exact⟨1,aq,aq,aq,rfl,O2,B2⟩
 obtain⟨k,Z,BP,hk,rfl,l,j⟩:=hrel;by_cases aH:k<=n
 ·have i4:(k:Int)<=(n:Int):=by omega
  have J:=HK.o aq;obtain⟨T,z,rfl,_,M⟩:=(OK.o.Z j.o j.o.size).get (show k<km by omega);obtain⟨⟨I,h2⟩,f1,b,H⟩:=l.o.at (show k<n+1 by omega);have i5:(k:Int)<(n:Int)+1:=aq;have S:=aR k km;have o:=sH (fun b=>l.o.set k b);have r:=sH (fun b=>Below.setCell j.o (p:=⟨u,k,none⟩) I (.bool b));go_wp2;go_roundg (n+1-k)
  ·exact⟨k+1,aq,aq,aq,aQ,⟨o.o _⟩,⟨r.o _⟩⟩
  omega
 have i4:¬(k:Int)<=(n:Int):=aq;go_wp2;go_loopg [8] (x+1) (fun g v wr=>∃i:Nat,x-i<g/\i<=x/\v=ae aj (i:Int)/\ak (DH wr D.heap.size (some ⟨u,0,none⟩) (n+1) (n+1))/\ak (aA D wr))
 ·exact⟨0,aq,aq,rfl,l,j⟩
 obtain⟨i,Z,hi,rfl,l,j⟩:=hrel;by_cases y:i<x
 ·have i5:=aR i x
  obtain⟨T,g,rfl,F,M,_⟩:=(RX.o.Z C.o C.o.size|>.Z j.o j.o.size).acd y;obtain⟨a,ha⟩:∃a:Nat,nth g 0=(a:Int):=⟨(nth g 0).toNat,by have:=F.1.1;omega⟩;have han:a<=n:=by have:=F.1.2;omega
  rw[ha]at M;obtain⟨⟨I,h2⟩,f1,b,H⟩:=l.o.at (show a<n+1 by omega);have S:(a:Int)<(n:Int)+1:=aq;have o:=l.o.set a true;have r:=Below.setCell j.o (p:=⟨u,a,none⟩) I (.bool true);go_upto_region 11 with fail;obtain⟨w5,s⟩:=eX (wr.setCell ⟨u,a,none⟩ (.bool true));rw[<-s]at o r⊢;clear s;have o:=sH o;have r:=sH r;obtain⟨X,g,ea,F,_,M⟩:=(RX.o.Z C.o C.o.size|>.Z r.o r.o.size).acd y;obtain rfl:T=X:=by injection ea
  obtain⟨d,hd⟩:∃d:Nat,nth g 1=(d:Int):=⟨(nth g 1).toNat,by have:=F.2.1;omega⟩;have hdn:d<=n:=by have:=F.2.2;omega
  rw[hd]at M;obtain⟨⟨h3,h4⟩,f1,b,H⟩:=o.o.at (show d<n+1 by omega);have S:(d:Int)<(n:Int)+1:=aq;have U:=sH (o.o.set d true);have B4:=sH (Below.setCell r.o (p:=⟨u,d,none⟩) h3 (.bool true));go_wp2;go_roundg (x-i)
  ·exact⟨i+1,aq,aq,aQ,U,B4⟩
  omega
 have i5:=cF i x;go_wp2;go_loopg [9] (n+1) (fun g v wr=>∃q:Nat,n-q<g/\q<=n/\v=ae aj (q:Int)/\ak (DH wr D.heap.size (some ⟨u,0,none⟩) (n+1) (n+1))/\ak (aA D wr))
 ·exact⟨0,aq,aq,rfl,l,j⟩
 obtain⟨q,Z,hq,rfl,l,j⟩:=hrel;by_cases E:q<n
 ·have S:=aR q n
  obtain⟨T,z,rfl,_,M⟩:=((HX.o.ar C.o).ar j.o).iw.get E;by_cases hz:z=9;rotate_left
  ·have fA:(z==9)=false:=by simpa using hz
   go_wp2;go_roundg (n-q)
   ·exact⟨q+1,aq,aq,aQ,l,j⟩
   omega
  subst hz;obtain⟨⟨I,h2⟩,f1,b,H⟩:=l.o.at (show q<n+1 by omega);have i7:(q:Int)<(n:Int)+1:=aq;have o:=l.o.set q true;have r:=Below.setCell j.o (p:=⟨u,q,none⟩) I (.bool true);go_upto_region 17 with fail;obtain⟨w5,s⟩:=eX (wr.setCell ⟨u,q,none⟩ (.bool true));rw[<-s]at o r⊢;clear s;obtain⟨⟨h3,h4⟩,f1,b,H⟩:=o.at (show q+1<n+1 by omega);have i7:(q:Int)+1<(n:Int)+1:=aq;have U:=sH (o.set (q+1) true);have B4:=sH (Below.setCell r (p:=⟨u,q+1,none⟩) h3 (.bool true));go_wp2;go_roundg (n-q)
  ·exact⟨q+1,aq,aq,aQ,U,B4⟩
  omega
 have S:=cF q n;obtain⟨w4,rfl⟩:=eX wr;go_wp2;go_loopg [10,11,12] (n+2) (fun g v10 Y ny wr=>∃(t m f:Nat) (Q:List Nat) (O:aC) (P:Nat),n+1-t<g/\1<=t/\t<=n+1/\f<t/\m<=f/\f<=n/\v10= .slice O m P/\Y=ae aj (f:Int)/\ny=ae aj (t:Int)/\ak (My wr w4.heap.size Q m f n O P)/\ak (aA w4 wr))
 ·exact⟨1,0,0,_,none,0,aq,aq,aq,aq,aq,aq,rfl,rfl,rfl,⟨My.nil _ _ _⟩,cB⟩
 obtain⟨t,m,f,Q,O,P,Z,ht1,fJ,V,hmf,W9,rfl,rfl,rfl,B,N⟩:=hrel;have IY:=N.o.size;by_cases G:t<=n
 ·have i7:(t:Int)<=(n:Int):=by omega
  have i8:(t:Int)<(n:Int)+1:=aq;obtain⟨_,_,b,H⟩:=(l.o.ar N.o).at (show t<n+1 by omega);cases b
  ·go_wp2
   go_roundg (n+1-t)
   ·exact⟨t+1,m,f,Q,O,P,aq,aq,aq,aq,aq,aq,rfl,rfl,aQ,B,N⟩
   omega
  ·go_wp2_with (at_builtin;refine cz TCu rfl (.tmp 81) (.tmp 85) rfl rfl (aB.alloc B.o.own _) rfl (news:=pW (f,t)) rfl (gA _ _ _ _) (kR _ _) aq cA ?_;intro A8 c8 w8 o8 b8;have C8:=sH (B.o.push V G o8);have B8:=sH ((N.o.alloc IY _).trans b8);clear o8 b8)
   go_roundg (n+1-t)
   ·exact⟨t+1,m+1,t,_,A8,c8,aq,aq,aq,aq,aq,aq,rfl,rfl,aQ,C8,B8⟩
   omega
 have i7:¬(t:Int)<=(n:Int):=aq;have L:=C.o.size;have W:=j.o.size;go_wp2;go_ret;exact⟨Q,m,f,O,P,rfl,aq,⟨B.o.len,aB.aaj B.o.own aq,B.o.up,B.o.la⟩,C.o.trans ((j.o.trans (N.o.mono W)).mono L)⟩
theorem Jp(s:cX)(p:jW)(ts:aE)(w:World)(h:ix w w.heap.size s)(hp:mx w p ts)(C:Ca w s p):Calls prog 22 #[s.v,p.v] w (PPz w p.tn):=by
 obtain⟨W1,o,a,X1,l⟩:=box2 w s.row 26 p.row 31;obtain⟨c0,c1,aU,c3,c4⟩:=X1.o.c5;obtain⟨y,P,L,T,O,R,J,B⟩:=l.o.c8;have R0:=sH (h.Z a.o a.o.size);have V:=sH (hp.ar a.o);have S0:=sH (C.ar h a.o);have ht:p.tn<=60:=C.1;have G:s.pn<=60:=C.2.2.2.2.2.1;go_enter func22,ntmps22;go_upto_region 1 with fail;rw[<-o];clear o;obtain⟨hy,t⟩:=eY p.hy;rw[t]at B;cases hy
 ·go_wp2
  go_ret;exact⟨none,0,0,rfl,aq,Ow.nil _ _ _ _ _,a.o⟩
 go_wp2_with fail;refine(aaf s W1 R0.o.rP S0.o.2.2.2.2.2.2 G).mono ?_;rintro e w2 ⟨N,nn,nc,t1,z1,rfl,ZV,pr,W⟩;have M:=sH W;have PR:=sH pr;obtain⟨y,P,L,T,O,R,J,B⟩:=(l.o.ar W l.o.lt).c8;go_wp2_with fail;refine(aa7 N nn nc p.T p.tn p.tc ts w2 PR.o (V.o.ar M.o).rT aq aq).mono ?_;rintro e Q ⟨D,m,d,rfl,hm,X,b3⟩;have I:=M.t b3;have Z:=sH X.iw;go_wp2;go_loopg [9,10] (m+1) (fun g v9 v10 wr=>∃(i k:Nat) (A:aC) (c:Nat),m-i<g/\i<=m/\k<=i/\v9= .slice A k c/\v10=ae aj (i:Int)/\ak (Ow wr Q.heap.size 3 .i64 aN A k c)/\ak (aA Q wr))
 ·exact⟨0,0,none,0,aq,aq,aq,rfl,rfl,⟨Ow.nil _ _ _ _ _⟩,cB⟩
 obtain⟨i,k,A,c,hg,hi,hk,rfl,rfl,x,f⟩:=hrel;have q:=f.o.size;have v:=I.t f.o;by_cases E:i<m;rotate_left
 ·have Y:=cF i m
  go_wp2;go_ret;exact⟨A,k,c,rfl,aq,x.o.cN (by have:=a.o.size;have:=I.o.size;omega),a.o.trans (v.o.mono a.o.size)⟩
 have Y:=aR i m;obtain⟨ad,z,rfl,_,e0⟩:=(Z.o.Z f.o f.o.size).get E;obtain⟨y,P,L,T,O,R,J,B⟩:=(l.o.ar v.o l.o.lt).c8;have HT:=sH ((V.o.ar v.o).rT);obtain⟨L0,L1⟩:=lc2 e0 y;obtain⟨b,S⟩:=eY (J8 (ks ts) z);have U:ak (∀n:aI wr,Calls prog 53 #[.slice p.T p.tn p.tc,ae aj z] n.1 fun e w'=>e= .returned (.bool b)/\Below n.1.heap.size n.1 w'):=⟨fun n=>by rw[<-S];exact oT p.T p.tn p.tc ts z n.1 (HT.o.ar n.2) aq⟩;clear S;cases b
 ·go_wp2
  refine br aF aF ?_
  repeat(go_big_quiet_step (with_reducible exact cD (U.o _)))
  refine wpQuiet_nil ?_;rintro _ ⟨j,rfl⟩;have u:=sH (x.o.ar j.2);have r:=sH (f.o.trans (j.2.mono q));go_wp2;go_roundg (m-i)
  ·exact⟨i+1,k,A,c,aq,aq,aq,rfl,aQ,u,r⟩
  omega
 ·go_wp2
  refine br aF aF ?_
  repeat(go_big_quiet_step (with_reducible exact cD (U.o _)))
  refine wpQuiet_nil ?_;rintro _ ⟨j,rfl⟩;have u:=sH (x.o.ar j.2);have r:=sH (f.o.trans (j.2.mono q));have F:=r.o.size;have e1:=L0 j;go_wp2_with (at_builtin;refine bS nA rfl (.tmp 38) (.tmp 43) rfl rfl (u.o.alloc _) rfl (aX _ _ _) trivial aq cA ?_;intro A9 c9 w9 H K;have O9:=sH H;have B9:=sH ((r.o.alloc F _).trans K);clear H K);go_roundg (m-i)
  ·exact⟨i+1,k+1,A9,c9,aq,aq,aq,rfl,aQ,O9,B9⟩
  omega
def PWd(w:World)(e:Ending)(a:World):Prop:=∃z:Int,e= .returned (ae aj z)/\w=a
theorem aab(Q:aE->Prop)(A:aC)(n c:Nat)(w:World)(h:gi w Q A n)(p:n<=100000):Calls prog 55 #[.slice A n c] w (PWd w):=by
 have R:=sH h;go_enter func55,ntmps55;go_wp2;go_loopg [3,4] (n+1) (fun gg v3 v4 wr=>∃(i:Nat) (z:Int),n-i<gg/\i<=n/\v3=ae aj z/\v4=ae aj (i:Int)/\wr=w)
 ·exact⟨0,_,aq,aq,rfl,rfl,rfl⟩
 obtain⟨i,z,l,r,rfl,rfl,rfl⟩:=hrel;by_cases a:i<n
 ·have b:=aR i n
  obtain⟨j,g,e,u,q,t,d,f,o,s,m,rfl,_,_,_,k,_⟩:=R.o.ba a;go_wp2;go_roundg (n-i)
  ·exact⟨i+1,_,aq,aq,rfl,aQ,rfl⟩
  omega
 ·have b:=cF i n
  go_wp2;go_ret;exact⟨_,rfl,rfl⟩
abbrev jb(f t r:Int)(G:aC)(n c:Nat)(e a b:Int)(gQ:Bool)(P:aC)(m d:Nat):Array Value:= #[ae aj f,ae aj t,ae aj r, .slice G n c,ae aj e,ae aj a,ae aj b, .bool gQ, .slice P m d]
def ZPt(B a b:Nat):Sat:=⟨fun v w=>∃(A:aC) (n c:Nat) (z:Int),v= .tuple #[.slice A n c,ae aj z]/\n<=c/\n<=20000/\fM w B (kC a b) A n c,fun _ _ _ ⟨A,n,c,z,f,g,e,h⟩ d=>⟨A,n,c,z,f,g,e,h.ar d⟩⟩
structure Qo where
 f:Int
 t:Int
 r:Int
 G:aC
 n:Nat
 c:Nat
 wd:Int
 rR:Int
 en:Int
 gQ:Bool
 P:aC
 m:Nat
 d:Nat
abbrev Qo.row(y:Qo):Array Value:=jb y.f y.t y.r y.G y.n y.c y.wd y.rR y.en y.gQ y.P y.m y.d
def Jg(w:World)(B a b r:Nat)(c:Int)(y:Qo):Prop:=y.f=(a:Int)/\y.t=(b:Int)/\y.r=(r:Int)/\y.en=c/\y.P=none/\y.m=0/\y.d=0/\y.n<=y.c/\y.n<=20000/\fM w B (kC a b) y.G y.n y.c
theorem Jg.ar{d:World}{e:Int}{y:Qo}(h:Jg w B a b r e y)(f:aA w d):Jg d B a b r e y:=by
 obtain⟨k,m,i,o,g,l,j,p,n,c⟩:=h;exact⟨k,m,i,o,g,l,j,p,n,c.ar f⟩
theorem Jg.cN{d:Int}{y:Qo}(h:Jg w B a b r d y)(n:e<=B):Jg w e a b r d y:=by
 obtain⟨j,l,g,o,f,k,i,p,m,c⟩:=h;exact⟨j,l,g,o,f,k,i,p,m,c.cN n⟩
def PPc(w:World)(a b r:Nat)(d:Int)(e:Ending)(c:World):Prop:=∃(y:Qo) (z:Int),e= .returned (.tuple #[.agg y.row,ae aj z])/\(z=0->Jg c w.heap.size a b r d y)/\aA w c
theorem abi{j:Nat}(h:Rq w B 6 Q A m)(i:j<m):∃(a:Addr) (x:Rn),A=some a/\Q [x.f,x.t,x.lv,x.sp,x.fo,x.st]/\w.cell? (a.add (j*6))=some (ae aj x.f)/\w.cell? (bW (a.add (j*6)) 1)=some (ae aj x.t)/\w.cell? (bW (a.add (j*6)) 2)=some (ae aj x.lv)/\w.cell? (bW (a.add (j*6)) 3)=some (ae aj x.sp)/\w.cell? (bW (a.add (j*6)) 4)=some (ae aj x.fo)/\w.cell? (bW (a.add (j*6)) 5)=some (ae aj x.st):=by
 obtain⟨a,e,_,f⟩:=h aq;obtain⟨g,d,k,b⟩:=f j i
 match g,d with
 |[x0,x1,x2,x3,x4,x5],_=>
  have c:=b 0 _ rfl;rw[eQ]at c;exact⟨a,⟨x0,x1,x2,x3,x4,x5⟩,e,k,c,b 1 _ rfl,b 2 _ rfl,b 3 _ rfl,b 4 _ rfl,b 5 _ rfl⟩
structure JW(w0 w:World)(N2 N3 B:Nat)(row:Array Value)(p:jW)(a b:Nat)(A:aC)(n c:Nat):Prop where
 x3:Bx w N3 row
 x2:Bx w N2 (jb 0 0 0 none 0 0 0 0 0 false none 0 0)
 xp:Bx w (w0.heap.size+1) p.row
 be:aA w0 w
 gl:fM w B (kC a b) A n c
 n2:N2≠N3
 np:w0.heap.size+1≠N3
 lo:w0.heap.size<=N3
 hi:N3<B
theorem JW.set{w0:World}{d:Nat}{row:Array Value}(h:JW w0 w e d B row p a b A n c)(q:Nat)(v:Value):JW w0 (w.setCell ⟨d,q,none⟩ v) e d B (row.setIfInBounds q v) p a b A n c:=
 ⟨h.x3.kJ q v,h.x2.iA h.n2 q v,h.xp.iA h.np q v,Below.setCell h.be (p:=⟨d,q,none⟩) h.lo v,h.gl.mE (by obtain⟨gs,g,i,f⟩:=h.gl;exact aB.nW f h.hi) q v,h.n2,h.np,h.lo,h.hi⟩
theorem JW.ar{w0 g:World}{row:Array Value}(h:JW w0 w e f B row p a b A n c)(d:aA w g):JW w0 g e f B row p a b A n c:=
 ⟨h.x3.ar d h.x3.lt,h.x2.ar d h.x2.lt,h.xp.ar d h.xp.lt,h.be.trans (d.mono h.be.size),h.gl.ar d,h.n2,h.np,h.lo,h.hi⟩
theorem Lr(s:cX)(p:jW)(ts:aE)(FA:aC)(fc:Nat)(R:aC)(rm rc r a b:Nat)(k:Int)(w:World)(h:ix w w.heap.size s)(hp:mx w p ts)(hf:Iw w w.heap.size .i64 aN FA p.tn)(hc:Qi w w.heap.size s)(hfc:p.tn<=fc)(hR:Rq w w.heap.size 6 (Za p.tn) R rm)(hr:r<rm)(iN:a<b)(hb:b<=p.tn)(hn:p.tn<=60):
 Calls prog 23 #[s.v,p.v, .slice FA p.tn fc, .slice R rm rc,ae aj (r:Int),ae aj (a:Int),ae aj (b:Int),ae aj k] w (PPc w a b r k):=by
 obtain⟨W2,P⟩:=eX ((w.alloc (.cells s.row 26)).alloc (.cells p.row 31));have BB:=acb P;have b2:aA w W2:=BB.1;have M:W2.heap.size=w.heap.size+2:=by rw[P];simp
 obtain⟨W3,qY⟩:=eX (W2.alloc (.cells (jb 0 0 0 none 0 0 0 0 0 false none 0 0) 63));have x3:Bx W3 (w.heap.size+2) (jb 0 0 0 none 0 0 0 0 0 false none 0 0):=by rw[qY];exact Bx.jt _ _ _ M
 have b3:aA W2 W3:=Pl;have V:W3.heap.size=w.heap.size+3:=by rw[qY];simp[M]
 obtain⟨d,J⟩:=eX (W3.alloc (.cells (jb a b r none 0 0 0 0 k false none 0 0) 63));have b4:aA W3 d:=by rw[J];exact av _ _
 have Z:ak (Bx d (w.heap.size+3) (jb a b r none 0 0 0 0 k false none 0 0)):=⟨by rw[J];exact Bx.jt _ _ _ V⟩;have X3:ak (Bx d (w.heap.size+2) (jb 0 0 0 none 0 0 0 0 0 false none 0 0)):=⟨x3.ar b4 aq⟩;have Q:aA W2 d:=b3.trans (b4.mono b3.size);have X1:ak (Bx d w.heap.size s.row):=⟨BB.2.1.ar Q aq⟩;have X2:ak (Bx d (w.heap.size+1) p.row):=⟨BB.2.2.ar Q aq⟩;have L:ak (aA w d):=⟨b2.trans (Q.mono b2.size)⟩;have Qn:d.heap.size=w.heap.size+4:=by rw[J];simp[V]
 have R0:=sH (h.Z L.o L.o.size);have P0:=sH (hp.ar L.o);have HP:=sH hp;have F0:=sH (hf.Z L.o L.o.size);have C0:=sH (hc.Z L.o L.o.size);have RR:=sH (hR.Z L.o L.o.size);have hW:d=(((w.alloc (.cells s.row 26)).alloc (.cells p.row 31)).alloc (.cells (jb 0 0 0 none 0 0 0 0 0 false none 0 0) 63)).alloc (.cells (jb a b r none 0 0 0 0 k false none 0 0) 63):=by rw[J,qY,P]
 clear h hp hf hc hR BB b2 b3 b4 Q x3 P qY J M V;obtain⟨m,ED⟩:=eY (w.heap.size+1+1);obtain⟨f,hN3⟩:=eY (m+1);rw[show w.heap.size+2=m by omega]at X3;rw[show w.heap.size+3=f by omega]at Z;have X:m≠f:=aq;have HZ4:=sH Qn;have N:=sH ED;have O:=sH hN3;clear Qn;go_enter func23,ntmps23;go_upto_region 2 with fail;rw[<-hW];clear hW;obtain⟨adT,eT,e0⟩:=P0.o.rT.ce (show a<p.tn by omega);obtain⟨T,d1,d2,d3,d4,d5,d6,d7⟩:=X2.o.c8;rw[eT]at T;have i4:(a:Int)<(p.tn:Int):=aq;generalize nth ts a=z at*;clear eT d1 d2 d3 d4 d5 d6 d7;by_cases hz:z=9
 ·subst hz
  have X5:ak (Bx (d.setCell ⟨f,7,none⟩ (.bool true)) f (jb a b r none 0 0 0 0 k true none 0 0)):=⟨Z.o.kJ 7 (.bool true)⟩;have U:ak (Bx (d.setCell ⟨f,7,none⟩ (.bool true)) m (jb 0 0 0 none 0 0 0 0 0 false none 0 0)):=⟨X3.o.iA X 7 _⟩;have B5:ak (aA w (d.setCell ⟨f,7,none⟩ (.bool true))):=⟨Below.setCell L.o (p:=⟨f,7,none⟩) (by show w.heap.size<=f;omega) _⟩;obtain⟨t,y,q,E,q4,D,u,C,F⟩:=Z.o.p9;have f7:=Z.o.fz 7;go_upto_region 4 with fail;generalize d.setCell ⟨f,7,none⟩ (.bool true)=W5 at*;clear t y q E q4 D u C F f7 T e0;obtain⟨t,y,q,E,q4,D,u,C,F⟩:=X5.o.p9;obtain⟨H,hX⟩:=U.o.heap;go_wp2_with (refine wpList_store_row rfl 63 (.tmp 16) (.tmp 35) rfl m (jb a b r none 0 0 0 0 k true none 0 0) rfl aK H _ hX aF aK dK ?_;have X9:=U.o.row (ds:=jb a b r none 0 0 0 0 k true none 0 0));obtain⟨I,K⟩:=X9.heap;refine bodyPost_ret (bT results23 _ _ m I _ (0,0) _ aK K underlying63 rfl aF) rfl ?_;exact⟨⟨a,b,r,none,0,0,0,0,k,true,none,0,0⟩,0,rfl,fun _=>⟨rfl,rfl,rfl,rfl,rfl,rfl,rfl,aD,aD,Oq.nil _ _ _ _ _⟩,below_setRow B5.o aq _⟩
 have M:(z==9)=false:=by simpa using hz
 clear hz;go_upto_region 5 with fail;clear T e0;obtain⟨c0,c1,aU,c3,c4⟩:=X1.o.c5;obtain⟨T,d1,d2,d3,d4,d5,d6,d7⟩:=X2.o.c8;obtain⟨ad6,x,rfl,_,e0,e1,e2,e3,e4,e5⟩:=abi RR.o hr;obtain⟨K0,K1,K2,K3,K4,L0,L1,L2⟩:=lc8 c0 c1 aU c3 c4 T d1 d2;obtain⟨L3,L4,L6,L7,L8,M0,M1,M2⟩:=lc8 d3 d4 d5 d6 d7 e0 e1 e2;obtain⟨M3,M4,M5⟩:=lc3 e3 e4 e5;have i5:=aR r rm;clear c0 c1 aU c3 c4 T d1 d2 d3 d4 d5 d6 d7 e0 e1 e2 e3 e4 e5;refine aY (jd 46 (ZPt d.heap.size a b)) aF aF ?_;refine mLw ?_;refine lwA (ZPt d.heap.size a b) (fun j=> ?_) (fun v9 aV=> ?_)
 ·go_simp
  refine aW (ZPt d.heap.size a b) ((YJ s p ts FA fc x a b j.1 (R0.o.Z j.2 j.2.size) (P0.o.ar j.2) (F0.o.Z j.2 j.2.size) (C0.o.Z j.2 j.2.size) hfc aq hb aq).mono ?_);rintro e w5 ⟨A,n,c,z,rfl,h1,h2,h3,hb⟩;exact⟨_,rfl,⟨A,n,c,z,rfl,h1,h2,h3.cN j.2.size⟩,hb⟩
 obtain⟨_,_,A,n,c,z5,rfl,FH,pP,_⟩:=aV;simp[Act.put];refine mLw ?_;intro j hE;obtain⟨A7,n7,c7,z7,e7,_,_,o7⟩:=hE;simp at e7;obtain⟨⟨r1,r2,r3⟩,r4⟩:=e7;subst r1 r2 r3 r4;have O5:=sH o7;have B5:ak (aA d j.1):=⟨j.2⟩;have X5:=sH (Z.o.ar j.2 Z.o.lt);have U:=sH (X3.o.ar j.2 X3.o.lt);have U5:=sH (X2.o.ar j.2 X2.o.lt);have B6:=L.t j.2;clear o7 K0 K1 K2 K3 K4 L0 L1 L2 L3 L4 L6 L7 L8 M0 M1 M2 M3 M4 M5 X1 X2 X3 Z;generalize j.1=w5 at*;clear j;go_step;by_cases h0:z5=0;rotate_left
 ·have CB:(z5 !=0)=true:=by simp[h0]
  have H0:=sH h0;clear h0;obtain⟨H,hX⟩:=U.o.heap;go_wp2_with (refine wpList_store_row rfl 63 (.tmp 16) (.tmp 51) rfl m (jb 0 0 0 none 0 0 0 0 0 false none 0 0) rfl aK H _ hX aF aK dK ?_;have X9:=U.o.row (ds:=jb 0 0 0 none 0 0 0 0 0 false none 0 0));obtain⟨I,K⟩:=X9.heap;refine bodyPost_ret (bT results23 _ _ m I _ (0,0) _ aK K underlying63 rfl aF) rfl ?_;exact⟨⟨0,0,0,none,0,0,0,0,0,false,none,0,0⟩,_,rfl,fun h=>absurd h H0.o,below_setRow B6.o aq _⟩
 have P5:ak (JW w w5 m f d.heap.size (jb a b r none 0 0 0 0 k false none 0 0) p a b A n c):=⟨⟨X5.o,U.o,U5.o,B6.o,O5.o,X,by have:=N.o;have:=O.o;omega,by have:=N.o;have:=O.o;omega,by have:=N.o;have:=O.o;have:=HZ4.o;omega⟩⟩;have HI:ak (w.heap.size<=m):=⟨by have:=N.o;omega⟩;have HB4:ak (w.heap.size<=d.heap.size):=⟨by have:=HZ4.o;omega⟩;clear ED hN3 X5 U U5 B6 B5 O5 X;subst h0;obtain⟨t,y,q,E,q4,D,u,C,F⟩:=P5.o.x3.p9;have fq:=P5.o.x3.fz 3;have S:JW w ((w5:World).setCell ⟨f,3,none⟩ (.slice A n c)) m f d.heap.size (jb a b r A n c 0 0 k false none 0 0) p a b A n c:=P5.o.set 3 (.slice A n c);go_upto_region 9 with fail;obtain⟨w6,l⟩:∃wz,wz=(w5:World).setCell ⟨f,3,none⟩ (.slice A n c):=⟨_,rfl⟩;rw[<-l]at S⊢;have S:=sH S;clear l t y q E q4 D u C F fq;go_wp2_with fail;refine(aab (kC a b) A n c w6 (S.o.gl.rq aq) aq).mono ?_;rintro e w7 ⟨o,rfl,e7⟩;subst w7;obtain⟨t,y,q,E,q4,D,u,C,F⟩:=S.o.x3.p9;have fq:=S.o.x3.fz 4;have Y:JW w ((w6:World).setCell ⟨f,4,none⟩ (ae aj o)) m f d.heap.size (jb a b r A n c o 0 k false none 0 0) p a b A n c:=S.o.set 4 (ae aj o);go_upto_region 10 with fail;obtain⟨w7,l⟩:∃wz,wz=(w6:World).setCell ⟨f,4,none⟩ (ae aj o):=⟨_,rfl⟩;rw[<-l]at Y⊢;have Y:=sH Y;clear l t y q E q4 D u C F fq;clear P5 S;obtain⟨t,y,q,E,q4,D,u,C,F⟩:=Y.o.x3.p9;have fq:=Y.o.x3.fz 5;have W:JW w ((w7:World).setCell ⟨f,5,none⟩ (ae aj o)) m f d.heap.size (jb a b r A n c o o k false none 0 0) p a b A n c:=Y.o.set 5 (ae aj o);go_upto_region 11 with fail;obtain⟨w8,l⟩:∃wz,wz=(w7:World).setCell ⟨f,5,none⟩ (ae aj o):=⟨_,rfl⟩;rw[<-l]at W⊢;have W:=sH W;clear l t y q E q4 D u C F fq;clear Y;obtain⟨T,d1,d2,d3,d4,d5,d6,d7⟩:=W.o.xp.c8;go_wp2_with fail;refine(Hc p.T p.tn p.tc a b ts w8 (HP.o.ar W.o.be).rT aq hb aq).mono ?_;rintro e w9 ⟨rfl,b9⟩;have P9:=sH (W.o.ar b9);obtain⟨sp,hsp⟩:=eY (jU ts a b);rw[hsp];clear b9 W T d1 d2 d3 d4 d5 d6 d7 hsp;go_wp2;go_loopg [22] (n+1) (fun gg v wr=>∃(i:Nat) (B:Int),n-i<gg/\i<=n/\v=ae aj (i:Int)/\ak (JW w wr m f d.heap.size (jb a b r A n c o B k false none 0 0) p a b A n c))
 ·exact⟨0,o,aq,aq,rfl,P9⟩
 clear P9;obtain⟨i,B,hg,hi,rfl,G⟩:=hrel;by_cases aH:i<n;rotate_left
 ·have i5:=cF i n
  obtain⟨t,y,q,E,q4,D,u,C,F⟩:=G.o.x3.p9;obtain⟨H,hX⟩:=G.o.x2.heap;go_wp2_with (refine wpList_store_row rfl 63 (.tmp 16) (.tmp 88) rfl m (jb a b r A n c o B k false none 0 0) rfl aK H _ hX aF aK dK ?_;have X9:=G.o.x2.row (ds:=jb a b r A n c o B k false none 0 0));obtain⟨I,K⟩:=X9.heap;refine bodyPost_ret (bT results23 _ _ m I _ (0,0) _ aK K underlying63 rfl aF) rfl ?_;exact⟨⟨a,b,r,A,n,c,o,B,k,false,none,0,0⟩,_,rfl,fun _=>⟨rfl,rfl,rfl,rfl,rfl,rfl,rfl,FH,pP,(G.o.gl.ia (by obtain⟨gs,h1,h2,h3⟩:=G.o.gl;exact aB.nW h3 (by have:=O.o;have:=G.o.hi;omega)) _).cN HB4.o⟩,below_setRow G.o.be HI.o _⟩
 have i5:=aR i n;obtain⟨g,rfl,_⟩:=G.o.gl.form aq;obtain⟨x0,x1,x2,x3,x4,x5,x6,x7,x8,x9,_,g0,g1,g2,_⟩:=G.o.gl.ba aH;by_cases hs:(sp:Int)<=x1;rotate_left
 ·go_wp2
  go_roundg (n-i)
  ·exact⟨i+1,B,aq,aq,aQ,G⟩
  omega
 obtain⟨t,y,q,E,q4,D,u,C,F⟩:=G.o.x3.p9;go_upto_region 16 with fail;obtain⟨K5,L2⟩:=lc2 D g2;clear t y q E q4 D u C F g0 g1 g2;refine aT (fun _=>none) 9 rfl aF aF aF aF aF rfl ?_;refine mLw ?_;intro j hE;have p6:=G.o.ar j.2;obtain⟨t,y,q,E,q4,D,u,C,F⟩:=p6.x3.p9;have fq:=p6.x3.fz 5;have PN:ak (∀v:Int,JW w (j.1.setCell ⟨f,5,none⟩ (ae aj v)) m f d.heap.size (jb a b r (some ⟨g,0,none⟩) n c o v k false none 0 0) p a b (some ⟨g,0,none⟩) n c):=⟨fun v=>p6.set 5 (ae aj v)⟩;clear hE K5 L2 p6 t y q E q4 u C F;go_simp;go_wp2;go_roundg (n-i)
 ·exact⟨i+1,_,aq,aq,aQ,⟨PN.o _⟩⟩
 omega
theorem NZ:qI:=fun z w g=>(zF z aq w).mono fun e h ⟨A,C,n,c,m,d,b,f,_,a⟩=>⟨A,C,n,c,m,d,b,f,a⟩
def POf(w:World)(p:jW)(e:Ending)(a:World):Prop:=∃(A:aC) (m c:Nat) (R:aC) (b d:Nat) (z:Int),e= .returned (.tuple #[.slice A m c, .slice R b d,ae aj z])/\(z=0->∃(xs:List eE) (f:List aE),xs.length=m/\m<=c/\m<=p.tn/\b<=p.tn/\qO a a.heap.size xs 0 m A/\Rx a a.heap.size 6 f R b/\ky p.tn b xs)/\aA w a
def ZPc(B a b r:Nat)(c:Int):Sat:=⟨fun v w=>∃(y:Qo) (z:Int),v= .tuple #[.agg y.row,ae aj z]/\(z=0->Jg w B a b r c y),fun _ _ _ ⟨y,z,f,g⟩ d=>⟨y,z,f,fun e=>(g e).ar d⟩⟩
theorem lK.Z{a:World}{t:Nat}(h:lK w A m t)(b:aA w a):lK a A m t:=by
 obtain⟨d,g,e,c⟩:=h;exact⟨d,g,e,au c b⟩
theorem Jg.row{d:Int}{y:Qo}{cs:Array Value}(h:Jg w B a b r d y)(f:Tx w g cs 63)(ds:Array Value):Jg (w.setRow g ds) B a b r d y:=by
 obtain⟨k,n,i,p,e,l,j,q,o,c⟩:=h;exact⟨k,n,i,p,e,l,j,q,o,c.ia (by obtain⟨gs,t,s,m⟩:=c;exact f.apart m (by decide)) ds⟩
theorem ZPc.get{j:Int}{y:Qo}{z:Int}(h:(ZPc B a b r j).p (.tuple #[.agg y.row,ae aj z]) w):z=0->Jg w B a b r j y:=by
 obtain⟨⟨f2,G,H,U,O,R,s,C,p,t,W,L,N⟩,V,e,h⟩:=h;obtain⟨f1,S,K,J,I,P,l,E,v,x,M,T,Q⟩:=y;simp at e;obtain⟨⟨A,n,m,⟨o,q,u⟩,F,k,D,f,g,c,d⟩,i⟩:=e;subst A n m o q u F k D f g c d i;exact h
def ZWn(B N:Nat):Sat:=⟨fun v w=>∃(A:aC) (k c:Nat),v= .slice A k c/\k<=N/\Ow w B 3 .i64 aN A k c,fun _ _ _ ⟨A,k,c,d,e,b⟩ a=>⟨A,k,c,d,e,b.ar a⟩⟩
theorem ZWn.get{N:Nat}(h:(ZWn B N).p (.slice A k c) w):Ow w B 3 .i64 aN A k c:=by
 obtain⟨a,d,b,e,_,h⟩:=h;injection e with e1 e2 e3
 subst e1 e2 e3;exact h
theorem Xj(s:G:=by
 refine wp_store_row 63 (.tmp 16) (.tmp 84) rfl g y.row rfl rfl 63 _ hx aF rfl dK ?_
 clear hx;go_simp;go_step;go_meet;exact⟨g,y,z,rfl,rfl,HG1,⟨HX.o.row _⟩,⟨fun h=>(HP.o h).row HX.o _⟩,⟨below_setRow HN.o HG1.o _⟩⟩):G:=s
theorem afl(s:cX)(p:jW)(ts:aE)(w:World)(h:ix w w.heap.size s)(hp:mx w p ts)(hs:Ca w s p):Calls prog 6 #[s.v,p.v] w (POf w p):=by
 obtain⟨W1,aP⟩:∃W1,W1=(w.alloc (.cells s.row 26)).alloc (.cells p.row 31):=⟨_,rfl⟩;have BB:=acb aP;have B1:ak (aA w W1):=⟨BB.1⟩;have X1:ak (Bx W1 w.heap.size s.row):=⟨BB.2.1⟩;have X2:ak (Bx W1 (w.heap.size+1) p.row):=⟨BB.2.2⟩;clear BB;obtain⟨c0,c1,H,c3,c4⟩:=X1.o.c5;obtain⟨Z,O,Y,T,V,S,L,U⟩:=X2.o.c8;have R0:ak _:=⟨h.Z B1.o B1.o.size⟩;have P0:ak _:=⟨hp.ar B1.o⟩;have S0:ak _:=⟨hs.ar h B1.o⟩;have ht:p.tn<=60:=hs.1;clear h hp hs;go_enter func6,ntmps6;go_upto_region 1 with fail;rw[<-aP];clear aP;go_wp2_with fail;refine(XW N8 NZ s p ts W1 R0.o P0.o S0.o).mono ?_;rintro e w2 ⟨R,o,rc,z,rfl,hz,b2⟩;have E:ak _:=⟨b2⟩;clear b2 c0 c1 H c3 c4 Z O Y T V S L U;by_cases h0:z=0;rotate_left
 ·have CB:(z !=0)=true:=by simp[h0]
  have H0:ak _:=⟨h0⟩;clear h0 hz;go_wp2;go_ret3;exact⟨none,0,0,none,0,0,_,rfl,fun h=>absurd h H0.o,B1.o.trans (E.o.mono B1.o.size)⟩
 obtain⟨ch,hrm,oq,lt⟩:=hz h0;have C2:ak _:=⟨ch.1⟩;have O2:ak _:=⟨oq⟩;have L2:ak _:=⟨lt⟩;clear hz ch oq lt;subst h0;obtain⟨Z,O,Y,T,V,S,L,U⟩:=(X2.o.ar E.o X2.o.lt).c8;go_wp2_with fail;refine(Rz p.T p.tn p.tc ts R o rc w2 (P0.o.ar E.o).rT (O2.o.rq aq) aq aq).mono ?_;rintro e w3 ⟨bs,k,f9,C,cc,rfl,hk,cu,b3⟩;have B3:ak (aA W1 w3):=⟨E.o.trans (b3.mono E.o.size)⟩;have C3:ak _:=⟨C2.o.Z b3 b3.size⟩;have O3:ak _:=⟨O2.o.ar b3⟩;have L3:ak (0<p.tn->lK w3 R o p.tn):=⟨fun h=>(L2.o h).Z b3⟩;have CU:ak _:=⟨cu⟩;clear b3 cu Z O Y T V S L U C2 O2 L2;obtain⟨Z,O,Y,T,V,S,L,U⟩:=(X2.o.ar B3.o X2.o.lt).c8;go_wp2_with fail;refine(abe p.T p.tn p.tc ts w3 (P0.o.ar B3.o).rT aq).mono ?_;rintro e w4 ⟨km,Xd,K,kc,rfl,ok,b4⟩;have B4:ak (aA W1 w4):=⟨B3.o.trans (b4.mono B3.o.size)⟩;have C4:ak _:=⟨C3.o.Z b4 b4.size⟩;have O4:ak _:=⟨O3.o.ar b4⟩;have L4:ak (0<p.tn->lK w4 R o p.tn):=⟨fun h=>(L3.o h).Z b4⟩;have U4:ak _:=⟨CU.o.ar b4⟩;have K4:ak _:=⟨ok.iw⟩;have HK:ak (0<p.tn->km=p.tn+1):=⟨Xd⟩;clear b4 ok Z O Y T V S L U C3 O3 L3 CU Xd;obtain⟨Z,O,Y,T,V,S,L,U⟩:=(X2.o.ar B4.o X2.o.lt).c8;go_wp2_with fail;refine(Tp p.T p.tn p.tc ts w4 (P0.o.ar B4.o).rT aq).mono ?_;rintro e w5 ⟨F,fc,rfl,of,b5⟩;have B5:ak (aA W1 w5):=⟨B4.o.trans (b5.mono B4.o.size)⟩;have C5:ak _:=⟨C4.o.Z b5 b5.size⟩;have O5:ak _:=⟨O4.o.ar b5⟩;have L5:ak (0<p.tn->lK w5 R o p.tn):=⟨fun h=>(L4.o h).Z b5⟩;have U5:ak _:=⟨U4.o.ar b5⟩;have K5:ak _:=⟨K4.o.Z b5 b5.size⟩;have F5:ak _:=⟨of.iw⟩;have hfc:p.tn<=fc:=of.le.1;clear b5 of Z O Y T V S L U C4 O4 L4 U4 K4;obtain⟨Z,O,Y,T,V,S,L,U⟩:=(X2.o.ar B5.o X2.o.lt).c8;obtain⟨c0,c1,H,c3,c4⟩:=(X1.o.ar B5.o X1.o.lt).c5;go_wp2_with fail;refine(Jp s p ts w5 (R0.o.Z B5.o B5.o.size) (P0.o.ar B5.o) (S0.o.ar R0.o B5.o)).mono ?_;rintro e X ⟨M,mm,mc,rfl,hmm,om,b6⟩;have B6:ak (aA W1 X):=⟨B5.o.trans (b6.mono B5.o.size)⟩;have C6:ak _:=⟨C5.o.Z b6 b6.size⟩;have O6:ak _:=⟨O5.o.ar b6⟩;have L6:ak (0<p.tn->lK X R o p.tn):=⟨fun h=>(L5.o h).Z b6⟩;have U6:ak _:=⟨U5.o.ar b6⟩;have K6:ak _:=⟨K5.o.Z b6 b6.size⟩;have F6:ak _:=⟨F5.o.Z b6 b6.size⟩;have M6:ak _:=⟨om.iw⟩;have Bp:ak _:=⟨X1.o.ar B6.o X1.o.lt⟩;have X26:ak _:=⟨X2.o.ar B6.o X2.o.lt⟩;have R6:ak _:=⟨R0.o.Z B6.o B6.o.size⟩;have P6:ak _:=⟨P0.o.ar B6.o⟩;have BW:ak (aA w X):=⟨B1.o.trans (B6.o.mono B1.o.size)⟩;clear b6 om Z O Y T V S L U c0 c1 H c3 c4 C5 O5 L5 U5 K5 F5 E B3 B4 B5 X1 X2 R0 P0 S0;go_wp2;go_loopg [13,14,15,16,17] (k+1) (fun gg jr uZ mw _ _ wr=>∃(i at_:Nat) (A:aC) (c:Nat) (xs:List eE),k-i<gg/\i<=k/\jr= .slice A i c/\uZ=ae aj (at_:Int)/\mw=ae aj (i:Int)/\(0<k->at_<o)/\ak (PcO wr X.heap.size xs A i c)/\ak (ky p.tn o xs/\∀x∈xs,x.q.t<=dx bs i)/\ak (aA X wr))
 ·exact⟨0,0,none,0,[],aq,aq,rfl,rfl,rfl,fun h=>(L6.o aq).1,⟨Gn.nil _ _ _ _ _ _⟩,⟨ky.nil _ _,aD⟩,cB⟩
 obtain⟨i,at_,A,c,xs,hg,hi,rfl,rfl,rfl,vI,PO,OK,BE⟩:=hrel;have wg:=BE.o.size;by_cases aH:i<k;rotate_left
 ·have i4:=cF i k
  obtain rfl:i=k:=aq;have hx:xs.length=i:=PO.o.len;obtain⟨rs,hrx,_⟩:=((O6.o.ar BE.o).rq aq).rx;have RX:ak _:=⟨hrx⟩;have hle:=aB.le PO.o.own;clear hrx;go_wp2;go_ret3;exact⟨A,i,c,R,o,rc,0,rfl,fun _=>⟨xs,rs,hx,hle,hk,hrm,PO.o.rd,RX.o,OK.o.1⟩,BW.o.trans (BE.o.mono BW.o.size)⟩
 have i4:=aR i k;have vI:=vI aq;obtain⟨iN,yJ⟩:=U6.o.up i aH;obtain⟨gC,rfl,_,_⟩:=aB.form U6.o.own aq;obtain⟨q,r⟩:=Bv.at_ (aB.ar U6.o.own BE.o) (iL _ _) aH;rw[na _ _ _ aH]at q r;dsimp only at q r;obtain⟨a,ha⟩:∃a,dx bs i=a:=⟨_,rfl⟩;obtain⟨b,hb⟩:∃b,dx bs (i+1)=b:=⟨_,rfl⟩;rw[ha]at q iN OK;rw[hb]at r iN yJ;have HB:ak _:=⟨hb⟩;have HA:ak _:=⟨ha⟩;have HG:ak (k-i<gk):=⟨hg⟩;clear ha hb hg;obtain⟨gR,hR,_⟩:=O6.o.form aq;subst hR;obtain⟨wo,rfl⟩:∃wo:World,wo=wr:=⟨_,rfl⟩;have Q0:ak (∀W,aA wo W->W.cell? ⟨gC,i*2,none⟩=some (ae aj (a:Int))/\W.cell? ⟨gC,i*2+1,none⟩=some (ae aj (b:Int))):=⟨fun W hW=>⟨au q hW,au r hW⟩⟩;clear q r;go_wp2;go_loopg [14] (o+1) (fun g v wx=>∃t:Nat,o-t<g/\t<o/\v=ae aj (t:Int)/\ak (aA wo wx))
 ·exact⟨at_,aq,vI,rfl,cB⟩
 obtain⟨t,hgt,htr,rfl,BT⟩:=hrel;have D:ak (aA X wr):=⟨BE.o.trans (BT.o.mono wg)⟩;obtain⟨x,_,e0,e1,_⟩:=(O6.o.ar D.o).aaz htr;obtain⟨_,g',eg,ec⟩:=(L6.o aq).Z D.o;have LT:ak (t+1=o->x.t=(p.tn:Int)):=⟨fun h=>by
  injection eg with eg
  injection eg with eg
  subst eg;rw[show o-1=t by omega,e1]at ec;injection ec with ec
  injection ec⟩
 obtain⟨q,r⟩:=Q0.o _ BT.o;have K1:=aw e1;have K2:=aw q;have t4:=aR t o;clear e0 e1 eg ec q r;by_cases hx:x.t<=(a:Int)
 ·have dX:t+1<o:=by
   rcases Nat.lt_or_ge (t+1) o with h1|h1
   ·exact h1
   ·have:=LT.o aq;omega
  go_wp2;refine br aF aF ?_
  repeat(go_big_quiet_step (fail))
  refine wpQuiet_nil ?_;rintro _ ⟨f,rfl⟩;have E:ak (aA wo f.1):=⟨BT.o.trans (f.2.mono BT.o.size)⟩;go_wp2;go_roundg (o-t)
  case measure=>omega
  case rel=>exact⟨t+1,aq,dX,aQ,E⟩
 go_wp2;refine br aF aF ?_
 repeat(go_big_quiet_step (fail))
 refine wpQuiet_nil ?_;rintro _ ⟨f,rfl⟩;have E:ak (aA wo f.1):=⟨BT.o.trans (f.2.mono BT.o.size)⟩;generalize f.1=wv at*;clear f K1 K2 LT BT D;have D:ak (aA X wv):=⟨BE.o.trans (E.o.mono wg)⟩;have I:=D.o.size;go_upto_region 15 with fail;clear hx;obtain⟨adK,en,eK,_,ek⟩:=(K6.o.Z D.o I).get (show b<km by have:=HK.o aq;omega);have b4:(b:Int)<(km:Int):=by have:=HK.o (by omega);omega
 subst eK;obtain⟨c0,c1,H,c3,c4⟩:=(Bp.o.ar D.o Bp.o.lt).c5;obtain⟨Z,O,Y,T,V,S,L,U⟩:=(X26.o.ar D.o X26.o.lt).c8;obtain⟨q,r⟩:=Q0.o _ E.o;have RW:ak _:=⟨R6.o.Z D.o I⟩;have PW:ak _:=⟨P6.o.ar D.o⟩;have FW:ak _:=⟨F6.o.Z D.o I⟩;have CW:ak _:=⟨C6.o.Z D.o I⟩;have OW:ak _:=⟨(O6.o.ar D.o).rq aq⟩;have MW:ak _:=⟨M6.o.Z D.o I⟩;have t4:=aR t o;go_cut [16,17] (fun sE v17 wx=>∃(g:Nat) (y:Qo) (z:Int),sE= .pointer (some ⟨g,0,none⟩)/\v17=ae aj z/\ak (wv.heap.size<=g)/\ak (Tx wx g y.row 63)/\ak (z=0->Jg wx wv.heap.size a b t en y)/\ak (aA wv wx))
 ·
  have K0:=aw c0;have K1:=aw c1;have K2:=aw H;have K3:=aw c3;have K4:=aw c4
  have L0:=aw Z;have L1:=aw O;have L2:=aw Y;have L3:=aw T;have L4:=aw V;have L6:=aw S;have L7:=aw L;have L8:=aw U
  have M0:=aw q;have M1:=aw r;have M2:=aw ek
  clear c0 c1 H c3 c4 Z O Y T V S L U q r ek;refine si (fun d=>if d=some 83 then some (ZPc wv.heap.size a b t en)else if d=some 16 then some (ZT wv.heap.size (jb 0 0 0 none 0 0 0 0 0 false none 0 0) 63)else none) 28 26 85 rfl aF aF aF aF aF rfl rfl rfl rfl ?_
  repeat(refine bR aK aK aK ?_;intro K9 cg;go_big_quiet_op;go_big_quiet_on)
  refine cG (ZPc wv.heap.size a b t en) aK aK (fun w9 cv=> ?_) (fun v9 aV=> ?_)
  ·obtain⟨f,rfl⟩:=cv
   go_simp;refine aW (ZPc wv.heap.size a b t en) ((Lr s p ts F fc _ o rc t a b en f.1 (RW.o.Z f.2 f.2.size) (PW.o.ar f.2) (FW.o.Z f.2 f.2.size) (CW.o.Z f.2 f.2.size) hfc (OW.o.Z f.2 f.2.size) htr iN yJ ht).mono ?_);rintro e w9 ⟨y,z,rfl,h1,hb⟩;exact⟨_,rfl,⟨y,z,rfl,fun h=>(h1 h).cN f.2.size⟩,hb⟩
  obtain⟨_,_,y,z,rfl,_⟩:=aV;simp[Act.put]
  repeat(refine bR aK aK aK ?_;intro K9 cg;go_big_quiet_op;go_big_quiet_on)
  refine cG (ZT wv.heap.size (jb 0 0 0 none 0 0 0 0 0 false none 0 0) 63) aK aK (fun w9 cv=> ?_) (fun v9 aV=> ?_)
  ·obtain⟨f,rfl⟩:=cv
   go_simp;exact ye f _ _
  obtain⟨_,_,g,rfl,ef,_⟩:=aV;simp[Act.put];intro f hE;have hp:=ZPc.get hE.1;have hx:=ZT.get hE.2;have HP:ak _:=⟨hp⟩;have HX:ak _:=⟨hx⟩;have HG1:ak _:=⟨ef⟩;have HN:ak _:=⟨f.2⟩;clear hE hp K0 K1 K2 K3 K4 L0 L1 L2 L3 L4 L6 L7 L8 M0 M1 M2 ef;refine⟨?_,fun u=> ?_⟩
  ·exact Xj
  ·exact Xj
 clear c0 c1 H c3 c4 Z O Y T V S L U q r ek;obtain⟨g,y,z,rfl,rfl,HG1,TXc,PG,BC⟩:=hcut;have BY:ak (aA X wc):=⟨D.o.trans (BC.o.mono I)⟩;have POc:ak _:=⟨(PO.o.ar (gU _) E.o).ar (gU _) BC.o⟩;have B3:ak (aA wo wc):=⟨E.o.trans (BC.o.mono E.o.size)⟩;by_cases h0:z=0;rotate_left
 ·have CB:(z !=0)=true:=by simp[h0]
  have H0:ak _:=⟨h0⟩;clear h0;go_wp2;go_ret3;exact⟨none,0,0,none,0,0,_,rfl,fun h=>absurd h H0.o,BW.o.trans (BY.o.mono BW.o.size)⟩
 subst h0;obtain⟨f',t',r',G,n,c',J,l,m,gQ,P',m',d'⟩:=y;obtain⟨h1,h2,h3,h4,h5,h6,h7,h8,h9,gs,k1,k2,k3⟩:=PG.o rfl;dsimp only at h1 h2 h3 h4 h5 h6 h7 h8 h9 k1 k2 k3;subst h1 h2 h3 h4 h5 h6 h7 k1;have TX0:ak (Tx wc g (eE.row ⟨⟨a,b,t,J,l,gQ,gs⟩,G,c',m,none,0,0⟩) 63):=⟨TXc.o⟩;have PI0:ak (PcI X.heap.size wc ⟨⟨a,b,t,J,l,gQ,gs⟩,G,c',m,none,0,0⟩):=⟨⟨fun g hg=>(k2 g hg).1,aB.aaj k3 I,Ow.nil _ _ _ _ _⟩⟩;have GL:ak (gs.length<=c'/\gs.length<=20000/\∀g∈gs,kC a b g):=⟨⟨h8,h9,fun g hg=>(k2 g hg).2⟩⟩;clear TXc PG h8 h9 k2 k3;obtain⟨q,r,q2,q3,q4,q5,q6,q7,q8⟩:=TX0.o.bx.p9;cases gQ;rotate_left
 ·go_upto_region 20 with fail
  have GA:ak _:=⟨POc.o.ar (gU _) (av wc (.cells (eE.row ⟨⟨a,b,t,J,l,true,gs⟩,G,c',m,none,0,0⟩) 63))⟩;have PA:ak _:=⟨(gU _).b _ _ _ PI0.o (av wc (.cells (eE.row ⟨⟨a,b,t,J,l,true,gs⟩,G,c',m,none,0,0⟩) 63))⟩;have hz9:=B3.o.size;go_wp2_with (at_builtin;refine bk QE rfl (.tmp 105) (.tmp 107) rfl rfl GA.o.own rfl (news:=eE.F ⟨⟨a,b,t,J,l,true,gs⟩,G,c',m,none,0,0⟩) rfl (fun j u h=>ac9) (fun u hu=>acP) aq cA ?_;intro A8 c8 w8 o8 b8 g8 _;have PO8:ak _:=⟨GA.o.push (gU _) PA.o o8 g8⟩;have B8:ak (aA X w8):=⟨BE.o.trans (((B3.o.alloc hz9 _).mono wg).trans b8)⟩;clear o8 b8 g8);have OK8:ak (ky p.tn o (xs++[⟨⟨a,b,t,J,l,true,gs⟩,G,c',m,none,0,0⟩])/\∀x∈(xs++[⟨⟨a,b,t,J,l,true,gs⟩,G,c',m,none,0,0⟩]:List eE),x.q.t<=dx bs (i+1)):=⟨OK.o.1.more htr ⟨iN,yJ⟩ GL.o OK.o.2,fun x hx=>by
   rw[HB.o];rcases List.mem_append.1 hx with hx|hx
   ·have:=OK.o.2 x hx;omega
   ·obtain rfl:=List.mem_singleton.1 hx;exact Nat.le_refl _⟩
  go_roundg (k-i)
  case measure=>have:=HG.o;omega
  case rel=>exact⟨i+1,t,A8,c8,_,aq,aq,rfl,rfl,aQ,fun _=>htr,PO8,OK8,B8⟩
 go_upto_region 19 with fail;obtain⟨r0,r1⟩:=Q0.o _ B3.o;have K0:=aw r0;have K1:=aw r1;have MC:ak _:=⟨MW.o.Z BC.o BC.o.size⟩;clear q r q2 q3 q4 q5 q6 q7 q8 r0 r1;refine aT (jd 103 (ZWn wc.heap.size mm)) 13 rfl aF aF aF aF aF rfl ?_
 repeat(refine bR aK aK aK ?_;intro K9 cg;go_big_quiet_op;go_big_quiet_on)
 refine cG (ZWn wc.heap.size mm) aK aK (fun w9 cv=> ?_) (fun v9 aV=> ?_)
 ·obtain⟨f,rfl⟩:=cv
  go_simp;refine aW (ZWn wc.heap.size mm) ((Ou M mm mc _ _ f.1 (MC.o.Z f.2 f.2.size) aq).mono ?_);rintro e w9 ⟨A9,Q,P,h1,rfl,o9,hb⟩;exact⟨_,rfl,⟨A9,Q,P,rfl,h1,o9.cN f.2.size⟩,hb⟩
 obtain⟨_,_,A9,Q,P,rfl,hk9,_⟩:=aV;simp[Act.put]
 repeat(refine bR aK aK aK ?_;intro K9 cg;go_big_quiet_op;go_big_quiet_on)
 intro f hE;have o9:=ZWn.get (B:=wc.heap.size) (N:=mm) hE;have tx:=TX0.o.ar f.2;obtain⟨q,r,q2,q3,q4,q5,q6,q7,q8⟩:=tx.bx.p9;have f8:=tx.bx.fz 8;have pi:=(gU _).b _ _ _ PI0.o f.2;have Qm:ak _:=⟨(POc.o.ar (gU _) f.2)⟩;have X9:ak (Bx (f.1.setCell ⟨g,8,none⟩ (.slice A9 Q P)) g (eE.row ⟨⟨a,b,t,J,l,false,gs⟩,G,c',m,A9,Q,P⟩)):=⟨tx.bx.kJ 8 _⟩;have PI9:ak (PcI X.heap.size (f.1.setCell ⟨g,8,none⟩ (.slice A9 Q P)) ⟨⟨a,b,t,J,l,false,gs⟩,G,c',m,A9,Q,P⟩):=⟨⟨pi.1,aB.mE pi.2.1 (tx.apart pi.2.1 bQ) _,by
  obtain⟨xs9,u1,u2⟩:=o9.cN (show X.heap.size<=wc.heap.size from BY.o.size);exact⟨xs9,aB.mE u1 (tx.apart u1 bQ) _,u2⟩⟩⟩
 have hgB:wo.heap.size<=g:=Nat.le_trans E.o.size HG1.o;have B9:ak (aA wo (f.1.setCell ⟨g,8,none⟩ (.slice A9 Q P))):=⟨Below.setCell (B3.o.trans (f.2.mono B3.o.size)) (p:=⟨g,8,none⟩) hgB _⟩;have POs:ak _:=⟨PO.o.ar (gU _) B9.o⟩;clear hE K0 K1 o9 pi q r q2 q3 q4 q5 q6 q7 MC tx;go_simp;clear q8 f8;generalize f.1.setCell ⟨g,8,none⟩ (.slice A9 Q P)=wz at*;obtain⟨q,r,q2,q3,q4,q5,q6,q7,q8⟩:=X9.o.p9;go_step;go_upto_region 20 with fail;have GA:ak _:=⟨POs.o.ar (gU _) (av wz (.cells (eE.row ⟨⟨a,b,t,J,l,false,gs⟩,G,c',m,A9,Q,P⟩) 63))⟩;have PA:ak _:=⟨(gU _).b _ _ _ PI9.o (av wz (.cells (eE.row ⟨⟨a,b,t,J,l,false,gs⟩,G,c',m,A9,Q,P⟩) 63))⟩;have hz9:=B9.o.size;go_wp2_with (at_builtin;refine bk QE rfl (.tmp 105) (.tmp 107) rfl rfl GA.o.own rfl (news:=eE.F ⟨⟨a,b,t,J,l,false,gs⟩,G,c',m,A9,Q,P⟩) rfl (fun j u h=>ac9) (fun u hu=>acP) aq cA ?_;intro A8 c8 w8 o8 b8 g8 _;have PO8:ak _:=⟨GA.o.push (gU _) PA.o o8 g8⟩;have B8:ak (aA X w8):=⟨BE.o.trans (((B9.o.alloc hz9 _).mono wg).trans b8)⟩;clear o8 b8 g8);have OK8:ak (ky p.tn o (xs++[⟨⟨a,b,t,J,l,false,gs⟩,G,c',m,A9,Q,P⟩])/\∀x∈(xs++[⟨⟨a,b,t,J,l,false,gs⟩,G,c',m,A9,Q,P⟩]:List eE),x.q.t<=dx bs (i+1)):=⟨OK.o.1.more htr ⟨iN,yJ⟩ GL.o OK.o.2,fun x hx=>by
  rw[HB.o];rcases List.mem_append.1 hx with hx|hx
  ·have:=OK.o.2 x hx;omega
  ·obtain rfl:=List.mem_singleton.1 hx;exact Nat.le_refl _⟩
 go_roundg (k-i)
 case measure=>have:=HG.o;omega
 case rel=>exact⟨i+1,t,A8,c8,_,aq,aq,rfl,rfl,aQ,fun _=>htr,PO8,OK8,B8⟩
def aeU(w:World)(s:cX)(p:jW)(e:Ending)(a:World):Prop:=∃z:Bool,e= .returned (.bool z)/\(z=true->Ca a s p/\p.tn<=40)/\aA w a
theorem Tu(s:cX)(p:jW)(ts:aE)(w:World)(h:ix w w.heap.size s)(D:mx w p ts):Calls prog 4 #[s.v,p.v] w (aeU w s p):=by
 obtain⟨K,f,a,m,d⟩:=box2 w s.row 26 p.row 31;obtain⟨c0,t,c,n,c4⟩:=m.o.c5;obtain⟨i,x,q,u,v,k,l,j⟩:=d.o.c8;have o:=sH (h.Z a.o a.o.size);have E:=sH (D.ar a.o);clear h D;go_enter func4,ntmps4;go_upto_region 1 with fail;rw[<-f];clear f;go_wp2_with fail;refine(Fw s p ts K o.o E.o).mono ?_;rintro e B ⟨z,rfl,A,C⟩;have b:=sH C;have H:=sH A;clear C A c0 t c n c4 i x q u v k l j;cases z with
 |false=>
  go_wp2;go_ret;exact⟨false,rfl,aD,a.o.trans (b.o.mono a.o.size)⟩
 |true=>
  have I:ak (Ca B s p):=⟨(H.o rfl).ar o.o b.o⟩;have F:=sH (o.o.Z b.o b.o.size);have M:=sH (E.o.ar b.o);obtain⟨c0,t,c,n,c4⟩:=(m.o.ar b.o m.o.lt).c5;obtain⟨i,x,q,u,v,k,l,j⟩:=(d.o.ar b.o d.o.lt).c8;go_wp2_with fail;refine(abZ N8 NZ s p ts B F.o M.o).mono ?_;rintro e L ⟨z,rfl,_,y⟩;have g:=b.t y;have J:=sH (I.o.ar F.o y);clear y c0 t c n c4 i x q u v k l j;have i:L.cell? ⟨w.heap.size+1,0,none⟩=some (.slice p.T p.tn p.tc):=(d.o.ar g.o d.o.lt).cell 0;cases z with
  |false=>
   go_wp2;go_ret;exact⟨false,rfl,aD,a.o.trans (g.o.mono a.o.size)⟩
  |true=>
   by_cases r:p.tn<=40
   ·have G:(p.tn:Int)<=40:=by omega
    go_wp2;go_ret;exact⟨true,ij,fun _=>⟨J.o,r⟩,a.o.trans (g.o.mono a.o.size)⟩
   ·have G:¬(p.tn:Int)<=40:=by omega
    go_wp2;go_ret;exact⟨false,ij,aD,a.o.trans (g.o.mono a.o.size)⟩
def Kr(L:List bP):Sat:=⟨fun v w=>∃A c,v= .slice A L.length c/\cZ w w.heap.size A L.length L,fun _ _ _ ⟨A,c,b,d⟩ a=>⟨A,c,b,d.Z a⟩⟩
theorem Kr.get(h:(Kr L).p (.slice A n c) w):cZ w w.heap.size A L.length L:=by
 obtain⟨a,b,e,h⟩:=h;injection e with e1 e2 e3
 subst e1;exact h
def ZNI(n:Nat)(o:aE):Sat:=⟨fun v w=>∃A c,v= .slice A n c/\bh w w.heap.size .i64 A n o,fun _ _ _ ⟨A,c,b,d⟩ a=>⟨A,c,b,d.Z a⟩⟩
theorem Cf.x{a:World}{e:Ending}(h:Cf w L e a):∃v,e= .returned v/\(Kr L).p v a/\aA w a:=by
 obtain⟨A,c,ps,rfl,g,eq,b⟩:=h;refine⟨_,rfl,⟨A,c,rfl, ?_⟩,b⟩;have d:=g.boxes;have f:ps.length=L.length:=Qe;rw[eq,f]at d;exact d
theorem Vc(h:∀b∈L,Ui n b):(∀j,j<L.length->Ui n (bN L j))/\∀j,(bN L j).gs.length<=4000000:=by
 have c:∀j,j<L.length->Ui n (bN L j):=fun j a=>by rw[xW a];exact h _ (List.getElem_mem a)
 refine⟨c,fun j=> ?_⟩;by_cases a:j<L.length
 ·have:=(c j a).2.2.2
  omega
 ·have:bN L j=default:=by
   unfold bN;rw[List.getD_eq_getElem?_getD,List.getElem?_eq_none aq];rfl
  rw[this];decide
theorem ky.YN{xs:List eE}(h:ky n b xs):∀i,(dH (qs xs) i).gs.length<=20000:=fun i=>by
 by_cases a:i<xs.length
 ·rw[nR a]
  exact(h.gl _ (ng a)).2.1
 ·have:dH (qs xs) i=default:=by simp[dH,qs,Nat.not_lt.1 a]
  rw[this];exact Nat.zero_le _
theorem LineBoxes_walk(s:cX)(p:jW)(ts:aE)(a:Int)(_:(Lit.int .i64 a).wf=true)(b:Int)(_:(Lit.int .i64 b).wf=true)(w:World)(h:ix w w.heap.size s)(hp:mx w p ts)(hL:Laid w):Calls prog 3 #[s.v,p.v,ae aj a,ae aj b] w fun e w'=>e= .returned (.bool true)/\aA w w':=by
 obtain⟨W1,aP,B1,X1,V⟩:=box2 w s.row 26 p.row 31;obtain⟨c0,c1,B,c3,c4⟩:=X1.o.c5;obtain⟨O,H,M,J,G,d5,F,d7⟩:=V.o.c8;have R0:=sH (h.Z B1.o B1.o.size);have P0:=sH (hp.ar B1.o);have L0:=sH (hL.ar B1.o);clear h hp hL;go_enter func3,ntmps3;go_upto_region 1 with fail;rw[<-aP];clear aP;go_wp2_with fail;refine(Tu s p ts W1 R0.o P0.o).mono ?_;rintro e w2 ⟨z,rfl,C,b2⟩;have Y:=sH b2;have Ch:=B1.t b2;have HZ:=sH C;clear b2 C c0 c1 B c3 c4 O H M J G d5 F d7;cases z with
 |false=>
  go_wp2_with fail;refine(jx _).mono ?_;rintro e wA ⟨rfl,P⟩;go_wp2;go_ret;exact⟨rfl,Ch.o.trans (P.mono Ch.o.size)⟩
 |true=>
  obtain⟨sm,h40⟩:=HZ.o rfl;have S2:=sH sm;have yJ:p.bn<=40:=sm.2.2.1;have R2:=sH (R0.o.Z Y.o Y.o.size);have P2:=sH (P0.o.ar Y.o);obtain⟨c0,c1,B,c3,c4⟩:=(X1.o.ar Y.o X1.o.lt).c5;obtain⟨O,H,M,J,G,d5,F,d7⟩:=(V.o.ar Y.o V.o.lt).c8;clear sm HZ;go_wp2_with fail;refine(afl s p ts w2 R2.o P2.o S2.o).mono ?_;rintro e w3 ⟨A,m,c,R,rm,rc,z,rfl,C,b3⟩;have S:=Y.t b3;have n:=B1.t S.o;have HZ:=sH C;clear b3 C c0 c1 B c3 c4 O H M J G d5 F d7;by_cases h0:z=0;rotate_left
  ·have CB:(z !=0)=true:=by simp[h0]
   clear h0 HZ;go_wp2_with fail;refine(jx _).mono ?_;rintro e wA ⟨rfl,P⟩;go_wp2;go_ret;exact⟨rfl,n.o.trans (P.mono n.o.size)⟩
  have C:=HZ.o h0;subst h0;have D:=sH C;clear HZ C;by_cases t1:a<0
  ·clear D
   go_wp2_with fail;refine(jx _).mono ?_;rintro e wA ⟨rfl,P⟩;go_wp2;go_ret;exact⟨rfl,n.o.trans (P.mono n.o.size)⟩
  obtain⟨a,rfl⟩:=Int.eq_ofNat_of_zero_le (show 0<=a by omega);have i2:decide ((a:Int)<0)=false:=fC;by_cases t2:b<(a:Int)
  ·clear D t1
   go_wp2_with fail;refine(jx _).mono ?_;rintro e wA ⟨rfl,P⟩;go_wp2;go_ret;exact⟨rfl,n.o.trans (P.mono n.o.size)⟩
  obtain⟨b,rfl⟩:=Int.eq_ofNat_of_zero_le (show 0<=b by omega);have i3:decide ((b:Int)<(a:Int))=false:=fC;have i3b:decide (b<a)=false:=fC;by_cases t3:(m:Int)<(b:Int)
  ·clear D t1 t2
   go_wp2_with fail;refine(jx _).mono ?_;rintro e wA ⟨rfl,P⟩;go_wp2;go_ret;exact⟨rfl,n.o.trans (P.mono n.o.size)⟩
  have i4:decide ((m:Int)<(b:Int))=false:=fC;have i4b:decide (m<b)=false:=fC;have P3:=sH (P0.o.ar S.o);have LW:=sH (L0.o.ar S.o);obtain⟨U,Q,k,hck,hkt,fe,LQ⟩:∃(U:aC) (Q k:Nat),k<=Q/\k<=40/\(∀W:World,(Instr.slice 34 (.slice A m c) (some (ae aj (a:Int))) (some (ae aj (b:Int))) none).run prog W= .ok (.slice U k Q) W)/\∃L:List bP,L.length<=4000000/\(∀x∈L,Ui p.tn x)/\∀W,aA w3 W->Calls prog 7 #[.agg s.row, .agg p.row, .slice R rm rc, .slice U k Q] W (Cf W L)/\Calls prog 8 #[.agg s.row, .agg p.row, .slice R rm rc, .slice U k Q] W (Cf W L):=by
   obtain⟨xs,rs,hxl,hmc,hmt,hrt,px,rx,ok⟩:=D.o;obtain⟨U,Q,CR⟩:=nt QE A m c a b aq aq hmc (a:Int) (b:Int) rfl rfl;have px2:=(CR.Xe px aq).drop;rw[Nat.zero_add]at px2;have I:=ok.part a (b-a);have hyl:((xs.drop a).take (b-a)).length=b-a:=Xt;obtain⟨l,bi⟩:=I.bxi (s:=s) P3.o aq aq px2 hyl CR.2.1 aq rx;refine⟨U,Q,b-a,CR.2.1,aq,CR.run,(uY s ts l rs ((xs.drop a).take (b-a)) (b-a) (b-a)).1, ?_,bi.bw _ cr,fun W g=>⟨?_, ?_⟩⟩
   ·have h1:(uY s ts l rs ((xs.drop a).take (b-a)) (b-a) (b-a)).1.length<=(b-a)*(2*20000+1):=pg I.YN _
    have h2:(b-a)*(2*20000+1)<=40*(2*20000+1):=Nat.mul_le_mul_right _ aq;omega
   ·exact Km s p ts l _ U (b-a) Q rs R rm rc W (bi.Z g) I.inT (LW.o.ar g)
   ·exact Na s p ts l _ U (b-a) Q rs R rm rc W (bi.Z g) I.inT
  obtain⟨L,r,XQ,Z⟩:=LQ;have PC:=sH (fun W g=>(Z W g).1);have RC:=sH (fun W g=>(Z W g).2);have HB:=sH (Vc XQ);clear Z XQ D t1 t2 t3;obtain⟨c0,c1,B,c3,c4⟩:=(X1.o.ar S.o X1.o.lt).c5;obtain⟨O,H,M,J,G,d5,F,d7⟩:=(V.o.ar S.o V.o.lt).c8;go_wp2;obtain⟨C0,C1,C2,C3,C4,D0,D1,D2⟩:=lc8 c0 c1 B c3 c4 O H M;obtain⟨D3,D4,D5,D6,D7⟩:=lc5 J G d5 F d7;clear c0 c1 B c3 c4 O H M J G d5 F d7;refine aY (fun d=>if d=some 51 then some (Kr L)else if d=some 59 then some (Kr L)else none) aF aF ?_;refine mLw ?_;refine lwA (Kr L) (fun T=> ?_) (fun v9 aV=> ?_)
  ·go_simp
   exact aW (Kr L) ((PC.o T.1 T.2).mono fun _ _ h=>h.x)
  obtain⟨_,_,A5,c5,rfl,_⟩:=aV;simp[Act.put];refine mLw ?_;refine lwA (Kr L) (fun T=> ?_) (fun v9 aV=> ?_)
  ·go_simp
   exact aW (Kr L) ((RC.o T.1 T.2).mono fun _ _ h=>h.x)
  obtain⟨_,_,u,c6,rfl,_⟩:=aV;simp[Act.put];refine mLw ?_;intro T hE;have E5:=sH (Kr.get hE.1);have X:=sH (Kr.get hE.2);obtain⟨W6,hW6⟩:=eX T.1;have B6:ak (aA w3 W6):=⟨by rw[hW6];exact T.2⟩;rw[<-hW6]at E5 X⊢;clear hE hW6 C0 C1 C2 C3 C4 D0 D1 D2 D3 D4 D5 D6 D7 fe PC RC;have JP:=n.t B6.o;have X6:=sH (V.o.ar (S.o.trans (B6.o.mono S.o.size)) V.o.lt);have T6:=sH (P3.o.rT.ar B6.o);have L6:=sH (LW.o.ar B6.o);obtain⟨q,Yd⟩:=eY L.length;rw[Yd]at E5 X r HB⊢;obtain⟨o,ho⟩:=eY (nC L);obtain⟨z,C⟩:=eY (dS ts L q);have AL:ak (∀W,aA W6 W->_):=⟨fun W g=>QO A5 q c5 L r HB.o.2 u c6 W (E5.o.Z g) (X.o.Z g)⟩;have OR:ak (∀W,aA W6 W->Calls prog 11 #[.slice u q c6] W (fH W 3 .i64 q o)):=⟨fun W g=>by rw[<-ho];exact vK u q c6 L W (X.o.Z g) r⟩;have RO:ak (∀W,aA W6 W->Calls prog 12 #[.slice u q c6] W (fH W 3 .i64 q o)):=⟨fun W g=>by rw[<-ho];exact Ej u q c6 L W (X.o.Z g) r⟩;have PT:ak (∀W,aA W6 W->Calls prog 13 #[.slice p.T p.tn p.tc, .slice u q c6] W (rX W z)):=⟨fun W g=>by rw[<-C];exact Ro p.T p.tn p.tc ts u q c6 L W (T6.o.ar g) (L6.o.ar g) (X.o.Z g) HB.o.1 r aq⟩;have RT:ak (∀W,aA W6 W->Calls prog 14 #[.slice p.T p.tn p.tc, .slice u q c6] W (rX W z)):=⟨fun W g=>by rw[<-C];exact Td p.T p.tn p.tc ts u q c6 L W (T6.o.ar g) (X.o.Z g) HB.o.1 r aq⟩;have HLN:=sH r;obtain⟨p1,uX⟩:=eY (w.heap.size+1);rw[uX]at X6⊢;clear uX C ho Yd r E5 X T6 L6 HB X1 V B1 R0 P0 L0 Y S2 R2 P2 S P3 LW B6
  try dsimp only
  go_wp2;refine uO (N:=24) (k0:=60) (m:=24) [some (.slice A5 q c5),some (.slice u q c6),some (.bool true),some (.bool true),some (.slice u q c6),none,some (.slice u q c6),none,some (.bool true),some (.bool true),some (.bool true),some (.pointer (some ⟨p1,0,none⟩)),some (.slice p.T p.tn p.tc),some (.slice u q c6),some (ae aj (z:Int)),some (.pointer (some ⟨p1,0,none⟩)),some (.slice p.T p.tn p.tc),some (.slice u q c6),some (ae aj (z:Int)),some (.bool true),some (.bool true),some (.bool true),some (.bool true),some (.bool true)] (fun _=>ZNI q o) W6 aK aF aK aF aq (Below.refl _ _) ?_ ?_
  ·intro j o' Lf bu W hj ho' fp t cU f a' ha K hK
   simp only[dm,fa,List.setIfInBounds_toArray,List.set_cons_succ,List.set_cons_zero,Nat.reduceAdd,Nat.add_zero]at ha;subst ha;have hj:j=0∨j=1∨j=2∨j=3∨j=4∨j=5∨j=6∨j=7∨j=8∨j=9∨j=10∨j=11∨j=12∨j=13∨j=14∨j=15∨j=16∨j=17∨j=18∨j=19∨j=20∨j=21∨j=22∨j=23:=aq;have O:=f.cI 0 _ rfl;have H:=f.cI 1 _ rfl;have M:=f.cI 2 _ rfl;have J:=f.cI 3 _ rfl;have G:=f.cI 4 _ rfl;have F:=f.cI 6 _ rfl;have d8:=f.cI 8 _ rfl;have d9:=f.cI 9 _ rfl;have d10:=f.cI 10 _ rfl;have d11:=f.cI 11 _ rfl;have d12:=f.cI 12 _ rfl;have d13:=f.cI 13 _ rfl;have d14:=f.cI 14 _ rfl;have d15:=f.cI 15 _ rfl;have d16:=f.cI 16 _ rfl;have d17:=f.cI 17 _ rfl;have d18:=f.cI 18 _ rfl;have d19:=f.cI 19 _ rfl;have d20:=f.cI 20 _ rfl;have d21:=f.cI 21 _ rfl;have d22:=f.cI 22 _ rfl;have d23:=f.cI 23 _ rfl
   have s5:=f.sat 5 rfl;have s7:=f.sat 7 rfl
   rcases hj with rfl|rfl|rfl|rfl|rfl|rfl|rfl|rfl|rfl|rfl|rfl|rfl|rfl|rfl|rfl|rfl|rfl|rfl|rfl|rfl|rfl|rfl|rfl|rfl
   all_goals(injection ho' with ho';subst ho')
   all_goals(simp[Region.binds]at t)
   case' inr.inr.inr.inr.inr.inr.inr.inr.inl=>
    obtain⟨A7,c7,ea,i7⟩:=s5 t.1;obtain⟨A8,c8,eb,i8⟩:=s7 t.2.1;simp only[ea,eb]
   all_goals
    have x0:W.cell? ⟨p1,0,none⟩=some (.slice p.T p.tn p.tc):=(X6.o.ar f.be X6.o.lt).cell 0;have BB:=f.be
    try simp only[O,H,M,J,G,F,d8,d9,d10,d11,d12,d13,d14,d15,d16,d17,d18,d19,d20,d21,d22,d23,t]
    refine wpOp_step rfl (fun K9 i=> ?_);go_simp
    first
     |(refine i _ _ ?_;have E:=hK _ _ (f.pure rfl))
     |(refine(AL.o W BB).mono ?_;rintro e7 w7 ⟨rfl,y⟩;dsimp only;refine i _ _ ?_;have E:=hK _ _ (f.call (v:= .bool true) rfl y))
     |(refine(OR.o W BB).mono ?_;rintro e7 w7 ⟨A7,c7,rfl,o7,y⟩;dsimp only;refine i _ _ ?_;have E:=hK _ _ (f.any rfl ⟨A7,c7,rfl,o7.ints⟩ y))
     |(refine(RO.o W BB).mono ?_;rintro e7 w7 ⟨A7,c7,rfl,o7,y⟩;dsimp only;refine i _ _ ?_;have E:=hK _ _ (f.any rfl ⟨A7,c7,rfl,o7.ints⟩ y))
     |(refine(Lp _ _ _ o HLN.o _ _ W i7 i8).mono ?_;rintro e9 w9 ⟨rfl,y⟩;dsimp only;refine i _ _ ?_;have E:=hK _ _ (f.call (v:= .bool true) rfl y))
     |(refine(PT.o W BB).mono ?_;rintro e7 w7 ⟨rfl,y⟩;dsimp only;refine i _ _ ?_;have E:=hK _ _ (f.call (v:=ae aj (z:Int)) rfl y))
     |(refine(RT.o W BB).mono ?_;rintro e7 w7 ⟨rfl,y⟩;dsimp only;refine i _ _ ?_;have E:=hK _ _ (f.call (v:=ae aj (z:Int)) rfl y))
     |(refine(jx W).mono ?_;rintro e7 w7 ⟨rfl,y⟩;dsimp only;refine i _ _ ?_;have E:=hK _ _ (f.call (v:= .bool true) rfl y))
    simp only[Nat.reduceAdd,Act.put,List.setIfInBounds_toArray,List.set_cons_succ,List.set_cons_zero]at E
    try simp only[O,H,M,J,G,F,d8,d9,d10,d11,d12,d13,d14,d15,d16,d17,d18,d19,d20,d21,d22,d23,t]at E
    try simp only[ea,eb]at E
    try simp only[Act.put,List.setIfInBounds_toArray,List.set_cons_succ,List.set_cons_zero]
    exact E
  ·intro Lf bu W cC f a' ha
   simp only[dm,fa,List.setIfInBounds_toArray,List.set_cons_succ,List.set_cons_zero,Nat.reduceAdd,Nat.add_zero]at ha;subst ha;have e23:=f.cI 23 _ rfl (cC 23 aq);have g:=f.be;simp only[e23];refine wpOp_step rfl (fun K9 i=> ?_);go_simp;refine i _ _ ?_;go_wp2;go_ret;exact⟨rfl,JP.o.trans (g.mono JP.o.size)⟩
end Go.Proofs.YtpidckelbgbbkaaGreatDoor
