/- Part of LineBoxes. -/
import Derived.Test.YtpidckelbgbbkaaGreatDoorAx
namespace Go.Proofs.YtpidckelbgbbkaaGreatDoor
open Go.ChangeShapes Go.WideShapes Go.ChangeAt Go.RowKit Go.Proofs.Tryz
open Go.Value renaming int → ae
open Go.IntKind renaming i64 → aj
set_option linter.all false
set_option maxRecDepth 100000
set_option maxHeartbeats 16000000
variable{B N c g m n u:Nat}{A:aC}{b:Bool}{a w:World}{f:db}{G:Prop}{Q:aE->Prop}{at_:Int}
def xV(n:Nat):Sat:=⟨fun v w=>∃(A:aC) (m c:Nat) (b:Bool),v= .tuple #[.slice A m c, .bool b]/\(b=true->m<=n/\∃xs,bh w w.heap.size .i64 A m xs/\∀x∈xs,0<=x/\x<n),fun v w g ⟨A,m,c,b,f,a⟩ d=>⟨A,m,c,b,f,fun e=>⟨(a e).1,(a e).2.choose,(a e).2.choose_spec.1.Z d,(a e).2.choose_spec.2⟩⟩⟩
theorem xV.get(h:(xV n).p (.tuple #[.slice A m c, .bool b]) w):b=true->m<=n/\∃xs,bh w w.heap.size .i64 A m xs/\∀x∈xs,0<=x/\x<n:=by
 obtain⟨f,a,c',d,e,h⟩:=h;simp at e;obtain⟨⟨rfl,rfl,rfl⟩,rfl⟩:=e;exact h
theorem Ga{w0:World}{n:aI w0}{P:Program}{f:FuncId}{args:Array Value}(h:Calls P f args n.1 (U0 n.1 N)):Calls P f args n.1 fun e a=>∃v,e= .returned v/\(xV N).p v a/\(∃m:aI w0,a=m.1)/\Below n.1.heap.size n.1 a:=
 aW (xV N) (h.mono fun e a ⟨A,m,c,b,i,d,g⟩=>⟨_,i,⟨A,m,c,b,rfl,fun e=>⟨(d e).1,(d e).2.choose,(d e).2.choose_spec.1.ints,(d e).2.choose_spec.2⟩⟩,g⟩)
def Gs(w:World)(B n:Nat)(A:aC)(m c:Nat):Prop:=∃xs:aE,1<=m/\m<=n+1/\Own w B 3 .i64 A m c xs/\∀x∈xs,0<=x/\x<n
theorem Gs.ar(h:Gs w B n A m c)(b:aA w a):Gs a B n A m c:=by
 obtain⟨xs,e,f,d,g⟩:=h;exact⟨xs,e,f,d.ar b,g⟩
theorem Gs.cN{a:Nat}(h:Gs w B n A m c)(b:a<=B):Gs w a n A m c:=by
 obtain⟨xs,e,f,d,g⟩:=h;exact⟨xs,e,f,d.dU b,g⟩
def PSt(w:World)(n:Nat)(e:Ending)(a:World):Prop:=∃(A:aC) (m c:Nat) (b:Bool),e= .returned (.tuple #[.slice A m c, .bool b])/\(b=true->Gs a w.heap.size n A m c)/\aA w a
theorem yR{k:Lk}{x:Sb}{b:World}(h:b=((w.alloc (.cells f.row 82)).alloc (.cells k.row 132)).alloc (.cells x.row 141)):aA w b/\Bx b w.heap.size f.row/\Bx b (w.heap.size+1) k.row/\Bx b (w.heap.size+2) x.row:=by
 obtain⟨i,a⟩:=eX ((w.alloc (.cells f.row 82)).alloc (.cells k.row 132));obtain⟨e,d,g⟩:=fD a;rw[<-a]at h;have c:aA i b:=JE;exact⟨e.trans (c.mono e.size),d.ar c d.lt,g.ar c g.lt,by rw[h];exact Bx.jt _ _ _ (by rw[a];simp)⟩
theorem TLi:aS prog 80 43 1 24:=bD underlying80 (z:= .slice none 0 0) aF rfl aq aq
theorem Yn{P:Program}{t o:TypeId}{bytes:Nat}{e:Ty}(T:aS P t o e.n bytes){w:World}{B:Nat}{A:aC}{n c:Nat}(h:cM w B e A n c)(i:Nat)(z:i<=n)(l:Int)(m:l=i):
 ∃b d,(∀w:World,(Instr.slice t (.slice A n c) (some (ae aj l)) none none).run P w= .ok (.slice b (n-i) d) w)/\cM w B e b (n-i) d:=by
 subst m;have v:=h.1;have f:=h.2.1;refine⟨if c=i then A else A.map (·.add (i*e.n)),c-i,fun w=> ?_,aq,aq,Nat.le_trans (Nat.mul_le_mul_right _ aq) h.2.2.1,fun y=> ?_⟩
 ·rw[run_slice_l w t A n c (cP T) .i64 i aq aq,cQ T]
  simp[Result.andThen,sliced]
 ·obtain⟨g,rfl,hb,a⟩:=h.2.2.2 aq
  rw[if_neg aq];refine⟨g.add (i*e.n),rfl,Pe,fun j C=> ?_⟩;obtain⟨p,s,r⟩:=a (i+j) aq;refine⟨p,s,fun q x k=> ?_⟩;have u:=r q x k;rw[bm]at u;rw[bm,bm];rwa [show i*e.n+(j*e.n+q)=(i+j)*e.n+q by rw[Nat.add_mul];omega]
theorem Od(f:db)(k:Lk)(x:Sb)(Q:aE->Prop)(A:aC)(n c at_:Nat)(w:World)(h:ca w w.heap.size f)(s:nD w w.heap.size x)(hl:gi w Q A n)(hn:n<=50000)(ha:at_<n):
 Calls prog 309 #[f.v,k.v,x.v, .slice A n c,ae aj (at_:Int)] w (PSt w n):=by
 obtain⟨r,m⟩:=eX (((w.alloc (.cells f.row 82)).alloc (.cells k.row 132)).alloc (.cells x.row 141));obtain⟨bb,U,X,Y⟩:=yR m;have j:ak _:=⟨bb⟩;have O:ak _:=⟨U⟩;have N:ak _:=⟨X⟩;have B:ak _:=⟨Y⟩;have R:ak (ca r r.heap.size f):=⟨h.Z j.o j.o.size⟩;have T:ak (nD r r.heap.size x):=⟨s.Z j.o j.o.size⟩;have GL:ak (gi r Q A n):=⟨hl.Z j.o j.o.size⟩;clear h s hl bb U X Y;have i3:=aR at_ n;have hjn:=T.o.rJ.bd;obtain⟨e0,e1,e2,e3,M,e5,e6,e7,e8,e9,re,rI⟩:=B.o.mS;by_cases hj:x.jn=0
 ·have sB:((x.jn:Int)==0)=true:=by simp[hj]
  clear hj;go_enter func309,ntmps309;go_wp2;rw[<-m];clear m;go_quiet (fail);go_wp2;go_ret2;exact⟨_,_,_,_,rfl,aD,aM j.o _⟩
 have sB:((x.jn:Int)==0)=false:=by simp[hj]
 obtain⟨adj,J,jn0,jc0,ej,hJ,dj⟩:=fi T.o.rJ (show 0<x.jn by omega);have RJ:ak _:=⟨hJ⟩;rw[eQ]at dj;rw[ej]at M;obtain⟨ad,x0,x1,x2,x3,x4,x5,x6,x7,x8,x9,rfl,hQ,q0,_⟩:=GL.o.ba ha;clear hQ hJ ej;obtain⟨LJ,LQ,S⟩:=lc3 dj q0 M;clear e0 e1 e2 e3 e5 e6 e7 e8 e9 re rI;go_enter func309,ntmps309;go_wp2;rw[<-m];clear m dj q0 M;refine aG (mj 33 SB) aF aF ?_
 repeat(refine du aK aK aK ?_;intro W l;go_big_quiet_op;go_big_quiet_on)
 refine iW SB aK aK (fun w9 o=> ?_) (fun v9 p=> ?_)
 ·obtain⟨d,rfl⟩:=o
  go_simp;exact bj (Zg J jn0 jc0 x0 d.1 (RJ.o.Z d.2 d.2.size))
 obtain⟨b,rfl⟩:=p;simp[Act.put]
 repeat(refine du aK aK aK ?_;intro W l;go_big_quiet_op;go_big_quiet_on)
 intro d;obtain⟨w2,g⟩:=d;have BN:ak (aA r w2):=⟨g⟩;have BM:ak (aA w w2):=⟨j.o.trans (g.mono j.o.size)⟩
 try dsimp only
 clear g LJ LQ S;cases b
 ·go_wp2
  go_ret2;exact⟨_,_,_,_,rfl,aD,BM.o⟩
 have a:=BN.o;obtain⟨c0,v,i,D,c4,c5⟩:=(O.o.ar a O.o.lt).f6;obtain⟨H,u,E,y⟩:=(N.o.ar a N.o.lt).k4;obtain⟨_,_,_,_,M,_⟩:=(B.o.ar a B.o.lt).mS;obtain⟨L0,L1,L2,L3,S,L5,M0,M1⟩:=lc8 c0 v i D c4 c5 H u;obtain⟨M2,M3,E4⟩:=lc3 E y M;clear c0 v i D c4 c5 H u E y M a;obtain⟨J2,jc2,rJ,sJ⟩:=Yn TLi T.o.rJ 1 aq 1 rfl;have SJ:ak _:=⟨sJ⟩;clear sJ;go_wp2;refine aY (jd 44 (xV n)) aF aF ?_
 repeat(refine bR aK aK aK ?_;intro W l;go_big_quiet_op;go_big_quiet_on)
 refine cG (xV n) aK aK (fun w9 o=> ?_) (fun v9 p=> ?_)
 ·obtain⟨d,rfl⟩:=o
  go_simp;have g:=BN.o.trans (d.2.mono BN.o.size);exact Ga (Kj f k Q (some ad) n c at_ J2 (x.jn-1) jc2 d.1 (R.o.Z g g.size) (GL.o.Z g g.size) (SJ.o.Z g g.size) aq ha)
 obtain⟨_,_,A5,q,c5,b5,rfl,_⟩:=p;simp[Act.put]
 repeat(refine bR aK aK aK ?_;intro W l;go_big_quiet_op;go_big_quiet_on)
 intro d hE;have PR:ak _:=⟨xV.get hE⟩;have F:ak (aA r d.1):=⟨BN.o.trans (d.2.mono BN.o.size)⟩;have Z:ak (aA w d.1):=⟨BM.o.trans (d.2.mono BM.o.size)⟩;obtain⟨P,I⟩:=eX d.1;rw[<-I]at F Z PR
 try dsimp only
 rw[<-I];clear I hE L0 L1 L2 L3 S L5 M0 M1 M2 M3 E4 rJ;cases b5
 ·go_wp2
  go_ret2;exact⟨_,_,_,_,rfl,aD,Z.o⟩
 obtain⟨hm5,xs,V,s⟩:=PR.o rfl;have XS:ak (bh P P.heap.size .i64 A5 q xs):=⟨V⟩;have HX:ak _:=⟨s⟩;clear V s PR;have AX:ak (∀x∈(at_:Int)::xs,0<=x/\x<n):=⟨fun x s=>by
  rcases List.mem_cons.1 s with rfl|s
  ·omega
  ·exact HX.o x s⟩
 have O3:=FZ P (at_:Int);have OS:ak _:=⟨O3⟩;clear O3;have xi:=F.o.size;go_wp2_with (at_builtin;refine ue IW rfl (.tmp 51) (.tmp 52) rfl rfl OS.o rfl (XS.o.Z (av _ _)) (q+1) aq aq aD ?_;intro A7 c7 w7 o7 b7;have O7:ak (Own w7 P.heap.size 3 .i64 A7 (q+1) c7 ((at_:Int)::xs)):=⟨o7⟩;have B7:ak (aA r w7):=⟨F.o.trans (((av P _).trans b7).mono xi)⟩;have a:=B7.o;obtain⟨c0,v,i,D,c4,t⟩:=(O.o.ar a O.o.lt).f6;obtain⟨H,u,E,y⟩:=(N.o.ar a N.o.lt).k4;obtain⟨_,_,_,e3,_⟩:=(B.o.ar a B.o.lt).mS;clear o7 b7 a);have a:=B7.o;refine(Np f k Q (some ad) n c at_ x.B x.bn x.bc w7 (R.o.Z a a.size) (GL.o.Z a a.size) (T.o.rB.Z a a.size) aq ha).mono ?_;rintro e w8 ⟨A8,m8,c8,b8,rfl,_,G⟩;have B8:ak (aA r w8):=⟨a.trans (G.mono a.size)⟩;have C:ak (aA w w8):=⟨j.o.trans (B8.o.mono j.o.size)⟩;have O8:ak _:=⟨O7.o.ar G⟩;clear a G c0 v i D c4 t H u E y e3 O7 B7;cases b8
 ·go_wp2
  go_ret2;exact⟨_,_,_,_,rfl,aD,C.o⟩
 obtain⟨g7,rfl,hg7,Kf⟩:=aB.form O8.o aq;have p0:=bI O8.o (show q<q+1 by omega);obtain⟨L,hL,JZ⟩:∃L:Nat,nth ((at_:Int)::xs) q=L/\L<n:=by
  have hl:=O8.o.len;have:=AX.o (nth ((at_:Int)::xs) q) Bi;exact⟨(nth ((at_:Int)::xs) q).toNat,aq,aq⟩
 rw[hL]at p0;have a:=B8.o;obtain⟨c0,v,i,D,c4,t⟩:=(O.o.ar a O.o.lt).f6;obtain⟨H,u,E,y⟩:=(N.o.ar a N.o.lt).k4;obtain⟨_,_,_,_,_,e5,_⟩:=(B.o.ar a B.o.lt).mS;obtain⟨L0,L1,L2,L3,S,L5,M0,M1⟩:=lc8 c0 v i D c4 t H u;obtain⟨M2,M3,E5,P0⟩:=lc4 E y e5 p0;clear c0 v i D c4 t H u E y e5 a p0 hL;go_wp2;refine aY (jd 78 (xV n)) aF aF ?_
 repeat(refine bR aK aK aK ?_;intro W l;go_big_quiet_op;go_big_quiet_on)
 refine cG (xV n) aK aK (fun w9 o=> ?_) (fun v9 p=> ?_)
 ·obtain⟨d,rfl⟩:=o
  go_simp;have g:=B8.o.trans (d.2.mono B8.o.size);exact Ga (Kj f k Q (some ad) n c L x.A x.an x.ac d.1 (R.o.Z g g.size) (GL.o.Z g g.size) (T.o.rA.Z g g.size) aq JZ)
 obtain⟨_,_,A9,m9,c9,b9,rfl,_⟩:=p;simp[Act.put]
 repeat(refine bR aK aK aK ?_;intro W l;go_big_quiet_op;go_big_quiet_on)
 intro d hE;have z:ak (aA w d.1):=⟨C.o.trans (d.2.mono C.o.size)⟩;have jg:=j.o.size;have O9:ak (Own d.1 w.heap.size 3 .i64 (some ⟨g7,0,none⟩) (q+1) c7 ((at_:Int)::xs)):=⟨(O8.o.ar d.2).dU aq⟩;obtain⟨w4,K⟩:=eX d.1;rw[<-K]at z O9
 try dsimp only
 rw[<-K];clear K hE L0 L1 L2 L3 S L5 M0 M1 M2 M3 E5 P0;cases b9
 ·go_wp2
  go_ret2;exact⟨_,_,_,_,rfl,aD,z.o⟩
 ·go_wp2
  go_ret2;exact⟨_,_,_,_,rfl,fun _=>⟨_,aq,aq,O9.o,AX.o⟩,z.o⟩
def ZPs(N n:Nat):Sat:=⟨fun v w=>∃(A:aC) (m c:Nat) (b:Bool),v= .tuple #[.slice A m c, .bool b]/\(b=true->Gs w N n A m c),fun v w g ⟨A,m,c,b,d,f⟩ a=>⟨A,m,c,b,d,fun e=>(f e).ar a⟩⟩
theorem ZPs.get(h:(ZPs N n).p (.tuple #[.slice A m c, .bool b]) w):b=true->Gs w N n A m c:=by
 obtain⟨f,a,c',d,e,h⟩:=h;simp at e;obtain⟨⟨rfl,rfl,rfl⟩,rfl⟩:=e;exact h
def PMa(w:World)(n d:Nat)(e:Ending)(a:World):Prop:=∃(i:Nat) (A:aC) (m c:Nat) (b:Bool),e= .returned (.tuple #[ae aj (i:Int), .slice A m c, .bool b])/\(b=true->i<d/\Gs a w.heap.size n A m c)/\aA w a
theorem Ft(f:db)(k:Lk)(Q:aE->Prop)(A:aC)(n c at_:Nat)(w:World)(h:ca w w.heap.size f)(v:lS w w.heap.size k)(hl:gi w Q A n)(hn:n<=50000)(ha:at_<n):
 Calls prog 288 #[f.v,k.v, .slice A n c,ae aj (at_:Int)] w (PMa w n k.sn):=by
 obtain⟨W1,l,g,N,J⟩:=box2 w f.row 82 k.row 132;have R:=sH (h.Z g.o g.o.size);have RK:=sH (v.Z g.o g.o.size);have GL:=sH (hl.Z g.o g.o.size);have u:=v.rS.bd;obtain⟨kk,fl,st,S,d,O⟩:=k;dsimp only at u⊢;clear h hl v;have i1:¬((n:Int)<=(at_:Int)):=aq;go_enter func288,ntmps288;go_wp2;rw[<-l];clear l;go_loopg [11,12,13] (d+1) (fun gg D _ _ wr=>∃(i:Nat),d-i<gg/\i<=d/\D=ae aj (i:Int)/\ak (aA W1 wr))
 ·exact⟨0,aq,aq,rfl,cB⟩
 obtain⟨i,hg,hi,rfl,b⟩:=hrel;obtain⟨c0,c1,m,P,c4,c5⟩:=(N.o.ar b.o N.o.lt).f6;obtain⟨B,z,y,F⟩:=(J.o.ar b.o J.o.lt).k4;dsimp only at B z y F;have G:=g.t b.o;by_cases o:i<d
 ·obtain⟨ad,x,rfl,hx,e0,W,K,Z,L,e5,T,e7,Y,e9,p,q⟩:=jh (A:=S) (n:=d) (c:=O) (RK.o.rS.Z b.o b.o.size) o
  have HX:=sH hx;clear hx;have i4:=aR i d;go_wp2;obtain⟨L0,L1,L2,L3,L4,L5,M0,M1⟩:=lc8 c0 c1 m P c4 c5 B z;obtain⟨M2,M3,E0,E1,E2,E3,E4,E5⟩:=lc8 y F e0 W K Z L e5;obtain⟨E6,E7,E8,E9,E,C⟩:=lc6 T e7 Y e9 p q;clear c0 c1 m P c4 c5 B z y F e0 W K Z L e5 T e7 Y e9 p q;refine aY (jd 39 (ZPs wr.heap.size n)) aF aF ?_;refine mLw ?_;refine lwA (ZPs wr.heap.size n) (fun a=> ?_) (fun v9 H=> ?_)
  ·go_simp
   have r:=b.o.trans (a.2.mono b.o.size);refine aW (ZPs wr.heap.size n) ((Od f ⟨kk,fl,st,some ad,d,O⟩ x Q A n c at_ a.1 (R.o.Z r r.size) (HX.o.Z a.2 a.2.size) (GL.o.Z r r.size) hn ha).mono ?_);rintro e w5 ⟨A6,U,c6,t,rfl,h6,hb⟩;exact⟨_,rfl,⟨A6,U,c6,t,rfl,fun e=>(h6 e).cN a.2.size⟩,hb⟩
  obtain⟨_,_,A6,U,c6,t,rfl,_⟩:=H;simp[Act.put];refine mLw ?_;intro a I;have V:=sH (ZPs.get I);have M:=b.t a.2;have X:=G.t a.2;have s:=G.o.size;obtain⟨w3,j⟩:=eX a.1;rw[<-j]at M X V
  try dsimp only
  rw[<-j];clear j I L0 L1 L2 L3 L4 L5 M0 M1 M2 M3 E0 E1 E2 E3 E4 E5 E6 E7 E8 E9 E C;cases t
  ·go_wp2
   go_roundg (d-i)
   ·exact⟨i+1,aq,aq,aQ,M⟩
   omega
  ·go_wp2
   go_ret3;exact⟨i,_,_,_,true,rfl,fun _=>⟨o,(V.o aD).cN s⟩,X.o⟩
 ·go_wp2
  go_ret3;exact⟨0,_,_,_,false,rfl,aD,G.o⟩
def QL(w:World)(B:Nat)(C:aC)(n:Nat)(g:Int):Prop:=∃(j:Nat) (a:Addr),j<n/\C=some a/\a.block<B/\w.cell? (a.add j)=some (ae aj g)
theorem QL.Z{b:Nat}{C:aC}{g:Int}(h:QL w B C n g)(c:Below B w a)(l:B<=b):QL a b C n g:=by
 obtain⟨j,d,f,i,e,k⟩:=h;exact⟨j,d,f,i,aq,(c.cell (by rw[aO];exact e)).trans k⟩
def PPl(w:World)(C:aC)(n:Nat)(g:Int)(e:Ending)(a:World):Prop:=∃z:Int,e= .returned (ae aj z)/\-1<=z/\z<n/\(0<=z->QL w w.heap.size C n g)/\(z<0->¬QL w w.heap.size C n g)/\a=w
theorem FK(A:aC)(n c:Nat)(g:Int)(w:World)(h:cM w w.heap.size ew A n c):Calls prog 321 #[.slice A n c,ae aj g] w (PPl w A n g):=by
 have G:=h.bd;have R:ak _:=⟨h⟩;clear h;go_enter func321,ntmps321;go_wp2;go_loopg [5] (n+1) (fun gg u wr=>∃i:Nat,n-i<gg/\i<=n/\u=ae aj (i:Int)/\ak (∀(j:Nat) (a:Addr),j<i->A=some a->w.cell? (a.add j)≠some (ae aj g))/\wr=w)
 ·exact⟨0,aq,aq,rfl,⟨fun j a C=>by omega⟩,rfl⟩
 obtain⟨i,F,I,rfl,s,rfl⟩:=hrel;by_cases d:i<n
 ·obtain⟨a,e,r,b⟩:=R.o.2.2.2 aq
  have x:ak _:=⟨r⟩;obtain⟨p,y,m,t⟩:=ie R.o d;obtain rfl:a=p:=by rw[e]at m;exact Option.some.inj m
  have q:ak _:=⟨e⟩;clear m r b;by_cases l:y=g
  ·subst l
   have z:ak (QL wr wr.heap.size A n y):=⟨⟨i,a,d,q.o,x.o,t⟩⟩;rw[e]at*;clear e;go_wp2;go_ret;exact⟨_,rfl,aq,aq,fun _=>z.o,fun h=>by omega,rfl⟩
  ·have B:(y==g)=false:=by simp[l]
   have f:ak (∀(j:Nat) (a:Addr),j<i+1->A=some a->wr.cell? (a.add j)≠some (ae aj g)):=⟨fun j o C k=>by
    rcases Nat.lt_or_ge j i with h|h
    ·exact s.o j o h k
    ·obtain rfl:j=i:=by omega
     rw[q.o]at k;obtain rfl:=Option.some.inj k;rw[t];intro h;injection h with h
     injection h with _ h
     exact l h⟩
   obtain rfl:=e;go_wp2;go_roundg (n-i)
   ·exact⟨i+1,aq,aq,aQ,f,rfl⟩
   omega
 ·obtain rfl:i=n:=by omega
  go_wp2;go_ret;exact⟨_,rfl,aq,aq,fun h=>by omega,fun _ ⟨j,a,D,v,H,E⟩=>s.o j a D v E,rfl⟩
def ZHt(C:aC)(n:Nat)(g:Int):Sat:=⟨fun v w=>∃z:Int,v=ae aj z/\-1<=z/\z<n/\(0<=z->QL w w.heap.size C n g),fun v w f ⟨z,c,d,b,e⟩ a=>⟨z,c,d,b,fun h=>(e h).Z a a.size⟩⟩
theorem ZHt.get{C:aC}{g z:Int}(h:(ZHt C n g).p (ae aj z) w): -1<=z/\z<n/\(0<=z->QL w w.heap.size C n g):=by
 obtain⟨a,e,h⟩:=h;injection e with _ e
 subst e;exact h
def Ml(w:World)(S:aC)(i:Nat)(g:Int):Prop:=∃(b:Addr) (C:aC) (a c:Nat),S=some b/\w.cell? (b.add (i*12))=some (.slice C a c)/\QL w w.heap.size C a g
def PHo(w:World)(k:Lk)(g:Int)(e:Ending)(a:World):Prop:=∃(i:Nat) (b:Bool),e= .returned (.tuple #[ae aj (i:Int), .bool b])/\(b=true->k.kind=5/\i<k.sn/\Ml a k.S i g)/\aA w a
theorem ac4(s:G:=by
 simp[Act.put]
 repeat first
  |(refine bR aK aK aK ?_;intro K9 cg;go_big_quiet_op;go_big_quiet_on)
  |(refine sO aK ?_;simp[Act.put])
 intro nq hE;have BM:=B71.t nq.2;obtain⟨w3,eD⟩:=eX nq.1;rw[<-eD]at BM
 try dsimp only
 rw[<-eD];clear eD hE LQ LE;go_wp2;go_roundg (sn-i)
 ·exact⟨i+1,aq,aq,aQ,BM⟩
 omega):G:=s
theorem Ua(f:db)(k:Lk)(Q:aE->Prop)(A:aC)(n c at_:Nat)(g:Int)(w:World)(h:ca w w.heap.size f)(U:lS w w.heap.size k)(hl:gi w Q A n)(hg:∃s,A=some s/\w.cell? (s.add (at_*10))=some (ae aj g))(hn:n<=50000)(ha:at_<n):
 Calls prog 320 #[f.v,k.v, .slice A n c,ae aj (at_:Int)] w (PHo w k g):=by
 obtain⟨W1,r,b,M,F⟩:=box2 w f.row 82 k.row 132;have R:=sH (h.Z b.o b.o.size);have RK:=sH (U.Z b.o b.o.size);have GL:=sH (hl.Z b.o b.o.size);have T:=U.rS.bd;obtain⟨kk,fl,st,S,sn,sc⟩:=k;obtain⟨H,rfl,q⟩:=hg;have C:=au q b.o;dsimp only at T⊢;clear h hl U q;have i1:¬((n:Int)<=(at_:Int)):=aq;have i2:((at_:Int)<(n:Int)):=aq;obtain⟨p,j,m,l⟩:=F.o.k4;by_cases G:kk=5;rotate_left
 ·have h5:(kk !=5)=true:=by simp[G]
  go_enter func320,ntmps320;go_wp2;go_ret2;rw[<-r];exact⟨0,false,rfl,aD,b.o⟩
 subst G;go_enter func320,ntmps320;go_wp2;rw[<-r];clear r p j m l;have HG:=sH C;clear C;go_loopg [10,11,12,13,14,15] (sn+1) (fun gg v10 _ _ _ _ _ wr=>∃(i:Nat),sn-i<gg/\i<=sn/\v10=ae aj (i:Int)/\ak (aA W1 wr))
 ·exact⟨0,aq,aq,rfl,cB⟩
 obtain⟨i,hg,hi,rfl,y⟩:=hrel;obtain⟨c0,K,d,N,c4,c5⟩:=(M.o.ar y.o M.o.lt).f6;obtain⟨p,j,m,l⟩:=(F.o.ar y.o F.o.lt).k4;dsimp only at p j m l;have BW:=b.t y.o;by_cases D:i<sn
 ·obtain⟨s,x,rfl,hx,J,e1,e2,e3,e4,W,e6,e7,e8,e9,X,Y⟩:=jh (A:=S) (n:=sn) (c:=sc) (RK.o.rS.Z y.o y.o.size) D
  have E0:=sH J;obtain⟨W2,v⟩:=eX (wr.alloc (.cells x.row 141));obtain⟨Z,x2,r2⟩:=sT hx v;have V:=y.t Z;have B:=sH Z;have L:=sH x2;have R2:=sH r2;have i4:=aR i sn;clear hx x2 r2;have C0:=fun o=>aJ c0 o;have C1:=fun o=>aJ K o;have C2:=fun o=>aJ d o;have C3:=fun o=>aJ N o;have C4:=fun o=>aJ c4 o;have C5:=fun o=>aJ c5 o
  have D0:=fun o=>aJ p o;have D1:=fun o=>aJ j o;have D2:=fun o=>aJ m o;have D3:=fun o=>aJ l o
  have a:=V.o;have BK:=sH (Np f ⟨5,fl,st,some s,sn,sc⟩ Q (some H) n c at_ x.B x.bn x.bc W2 (R.o.Z a a.size) (GL.o.Z a a.size) R2.o.rB aq ha);clear a Z;go_wp2_with fail;rw[<-v];clear v C0 C1 C2 C3 C4 C5 D0 D1 D2 D3 c0 K d N c4 c5 p j m l J e1 e2 e3 e4 W e6 e7 e8 e9 X Y;refine BK.o.mono ?_;rintro e w8 ⟨A8,m8,c8,b8,rfl,_,u⟩;have P:=sH u;have B81:=V.t u;clear u BK;have a:=B81.o;have RW:=sH (Kj f ⟨5,fl,st,some s,sn,sc⟩ Q (some H) n c at_ x.A x.an x.ac w8 (R.o.Z a a.size) (GL.o.Z a a.size) (R2.o.rA.Z P.o P.o.size) aq ha);obtain⟨c0,K,d,N,c4,c5⟩:=(M.o.ar a M.o.lt).f6;obtain⟨p,j,m,l⟩:=(F.o.ar a F.o.lt).k4;dsimp only at p j m l;obtain⟨_,_,_,_,_,W,_⟩:=(L.o.ar P.o L.o.lt).mS;clear a;go_wp2_with fail;refine RW.o.mono ?_;rintro e w7 ⟨A7,m7,c7,b7,rfl,_,I⟩;have E:=P.t I;have B71:=V.t E.o;clear I RW c0 K d N c4 c5 p j m l W;obtain⟨J,_⟩:=(L.o.ar E.o L.o.lt).mS;have q0:=au HG.o B71.o;have EC:=au E0.o (B.o.trans (E.o.mono B.o.size));have ECS:=sH EC;clear EC;go_wp2;obtain⟨LQ,LE⟩:=lc2 q0 J;clear q0 J;refine aY (jd 68 (ZHt x.C x.cn g)) aF aF ?_;refine mLw ?_;refine lwA (ZHt x.C x.cn g) (fun nq=> ?_) (fun v9 aV=> ?_)
  ·go_simp
   have bq:=E.o.trans (nq.2.mono E.o.size);refine aW (ZHt x.C x.cn g) ((FK x.C x.cn x.cc g nq.1 (R2.o.rC.Z bq bq.size)).mono ?_);rintro e w5 ⟨z,rfl,h1,h2,h3,_,rfl⟩;exact⟨_,rfl,⟨z,rfl,h1,h2,h3⟩,Below.refl _ _⟩
  obtain⟨_,_,z,rfl,_,_,_⟩:=aV;have O:z<0∨0<=z:=aq;rcases O with O|O
  ·have fA:¬0<=z:=by omega
   simp[Act.put]
   repeat first
    |(refine bR aK aK aK ?_;intro K9 cg;go_big_quiet_op;go_big_quiet_on)
    |(refine sO aK ?_;simp[Act.put])
   intro nq hE;have BM:=B71.t nq.2;obtain⟨w3,eD⟩:=eX nq.1;rw[<-eD]at BM
   try dsimp only
   rw[<-eD];clear eD hE LQ LE;go_wp2;go_roundg (sn-i)
   ·exact⟨i+1,aq,aq,aQ,BM⟩
   omega
  ·cases b8
   ·exact ac4
   ·cases b7
    ·exact ac4
    ·simp[Act.put]
     repeat first
      |(refine bR aK aK aK ?_;intro K9 cg;go_big_quiet_op;go_big_quiet_on)
      |(refine sO aK ?_;simp[Act.put])
     intro nq hE;have HH:ak (Ml nq.1 (some s) i g):=⟨⟨s,x.C,x.cn,x.cc,rfl,au ECS.o nq.2,(ZHt.get hE).2.2 O⟩⟩;have BV:=sH (b.o.trans ((B71.o.trans (nq.2.mono B71.o.size)).mono b.o.size));obtain⟨w3,eD⟩:=eX nq.1;rw[<-eD]at BV HH
     try dsimp only
     rw[<-eD];clear eD hE LQ LE;go_wp2;go_ret2;exact⟨i,true,rfl,fun _=>⟨rfl,D,HH.o⟩,BV.o⟩
 ·go_wp2
  go_ret2;exact⟨0,false,rfl,aD,BW.o⟩
def ZIn(n:Nat):Sat:=⟨fun v _=>∃q:Nat,v=ae aj (q:Int)/\q<n,fun _ _ _ h _=>h⟩
def PRp(w:World)(B:Nat)(Q:aE->Prop)(n:Nat)(e:Ending)(a:World):Prop:=∃(A:aC) (c:Nat) (b:Bool),e= .returned (.tuple #[.slice A n c, .bool b])/\fM a B Q A n c/\aA w a
theorem Tk(f:db)(k:Lk)(lo o:Int)(A:aC)(n c at_:Nat)(w:World)(h:ca w w.heap.size f)(hk:lS w w.heap.size k)(hc:zI w w.heap.size k)(hl:gi w (bV lo o) A n)(hn:n<=50000)(ha:at_<n):
 Calls prog 304 #[f.v,k.v, .slice A n c,ae aj (at_:Int)] w (PRp w w.heap.size (bV lo o) n):=by
 obtain⟨a,u⟩:=eX ((w.alloc (.cells f.row 82)).alloc (.cells k.row 132));have W:=fD u;have d:ak (aA w a):=⟨W.1⟩;have X1:ak (Bx a w.heap.size f.row):=⟨W.2.1⟩;have Z:ak (Bx a (w.heap.size+1) k.row):=⟨W.2.2⟩;clear W;have R:ak (ca a a.heap.size f):=⟨h.Z d.o d.o.size⟩;have RK:ak (lS a a.heap.size k):=⟨hk.Z d.o d.o.size⟩;have RC:ak (zI a a.heap.size k):=⟨hc.Z d.o d.o.size⟩;have GL:ak (gi a (bV lo o) A n):=⟨hl.Z d.o d.o.size⟩;have nL:=hk.rS.bd;clear h hl hk hc;go_enter func304,ntmps304;go_wp2_with fail;rw[<-u];clear u;refine(Dt (bV lo o) A n c a GL.o aq).mono ?_;rintro e Y ⟨A2,H,rfl,o2,m⟩;have B2:ak (aA a Y):=⟨m⟩;have O2:ak (fM Y a.heap.size (bV lo o) A2 n H):=⟨o2⟩;have Q:ak (gi Y (bV lo o) A n):=⟨GL.o.Z m m.size⟩;clear o2;obtain⟨ad,x0,x1,x2,x3,x4,x5,x6,x7,x8,x9,rfl,hQ,G,_⟩:=Q.o.ba ha;have HO:ak _:=⟨Ua f k (bV lo o) (some ad) n c at_ x0 Y (R.o.Z m m.size) (RK.o.Z m m.size) Q.o ⟨ad,rfl,G⟩ hn ha⟩;have Q0:ak _:=⟨G⟩;obtain⟨c0,c1,aU,c3,c4,c5⟩:=(X1.o.ar m X1.o.lt).f6;obtain⟨d0,V,d2,J⟩:=(Z.o.ar m Z.o.lt).k4;clear hQ m G;go_wp2_with fail;refine HO.o.mono ?_;rintro e s ⟨i,b,rfl,hb,b3⟩;have B3:ak (aA a s):=⟨B2.o.trans (b3.mono B2.o.size)⟩;have BV:ak (aA w s):=⟨d.o.trans (B3.o.mono d.o.size)⟩;have O3:ak (fM s w.heap.size (bV lo o) A2 n H):=⟨(O2.o.ar b3).cN d.o.size⟩;have G:=au Q0.o b3;clear HO c0 c1 aU c3 c4 c5 d0 V d2 J b3;cases b
 ·go_wp2
  go_ret2;exact⟨A2,H,false,rfl,O3.o,BV.o⟩
 obtain⟨B,T,ve,C,cn,cc,eS,eC,hH⟩:=hb rfl;have l:=B3.o;obtain⟨K,x,v,hx,r,X,_⟩:=jh (RK.o.rS.Z l l.size) T;obtain rfl:ve=K:=by rw[eS]at v;exact Option.some.inj v
 obtain⟨E,P⟩:=(RC.o.Z l l.size).at (by simp[JU,B]) T eS r X;have t:x.C=C/\x.cn=cn/\x.cc=cc:=by rw[eC]at r;simp at r;exact⟨r.1.symm,r.2.1.symm,r.2.2.symm⟩
 obtain⟨d0,V,d2,J⟩:=(Z.o.ar l Z.o.lt).k4;have HT:ak (x.tn=x.cn):=⟨E⟩;have HC:ak (yN s s.heap.size k.kind x.T x.tn):=⟨P⟩;have K5:ak (k.kind=5):=⟨B⟩;have HX:ak (nD s s.heap.size x):=⟨hx⟩;have HI:ak (QL s s.heap.size x.C x.cn x0):=⟨by rw[t.1,t.2.1];exact hH⟩;have L:0<x.cn:=by obtain⟨j,_,hj,_⟩:=hH;rw[t.2.1];omega
 obtain⟨I,eT,_,_⟩:=hx.rT.2.2.2 (by rw[E];exact L);have ET:ak (x.T=some I):=⟨eT⟩;have AA:=hx.rT.bd;rw[eS]at J;rw[eT]at X;obtain⟨g2,rfl,fL,zY⟩:=O3.o.form aq;have i3:=aR at_ n;have i4:(i:Int)<(k.sn:Int):=aq;obtain⟨LQ,LE0,LE1,M0,M1,M2,M3⟩:=lc7 G r X d0 V d2 J;clear hb B eS eC hH hx v E P t L eT G r X d0 V d2 J;go_wp2;refine aT (jd 45 (ZIn x.cn)) 26 rfl aF aF aF aF aF rfl ?_
 repeat(refine bR aK aK aK ?_;intro K9 cg;go_big_quiet_op;go_big_quiet_on)
 refine cG (ZIn x.cn) aK aK (fun w9 cv=> ?_) (fun v9 aV=> ?_)
 ·obtain⟨g,rfl⟩:=cv
  go_simp;refine aW (ZIn x.cn) ((FK x.C x.cn x.cc x0 g.1 (HX.o.rC.Z g.2 g.2.size)).mono ?_);rintro e w5 ⟨z,rfl,h1,h2,h3,h4,rfl⟩;have hz:0<=z:=by
   rcases Int.lt_or_le z 0 with h|h
   ·exact absurd (HI.o.Z g.2 g.2.size) (h4 h)
   ·exact h
  exact⟨_,rfl,⟨z.toNat,by rw[Int.toNat_of_nonneg hz],aq⟩,Below.refl _ _⟩
 obtain⟨_,_,z,rfl,O⟩:=aV;obtain⟨N,A5,m5,c5,D,S,dT⟩:=fi HX.o.rT (j:=z) (by rw[HT.o];exact O);have M:=HC.o.at (by rw[HT.o];exact O) D dT;obtain rfl:I=N:=by have:=ET.o;rw[D]at this;exact(Option.some.inj this).symm
 have Fb:1<=m5:=by have:=K5.o;rcases M.2 with h|h;omega;exact h
 have Cg:=aR 0 m5;obtain⟨ady,y,rfl,dy⟩:=ie S (show 0<m5 by omega);rw[eQ]at dy;have hzt:(z:Int)<(x.tn:Int):=by have:=HT.o;omega
 obtain⟨LT,LY⟩:=lc2 dT dy;clear D S dT M dy;simp[Act.put]
 repeat(refine bR aK aK aK ?_;intro K9 cg;go_big_quiet_op;go_big_quiet_on)
 intro g hE;have U:ak (fM g.1 w.heap.size (bV lo o) (some ⟨g2,0,none⟩) n H):=⟨O3.o.ar g.2⟩;have BN:ak (aA w g.1):=⟨BV.o.trans (g.2.mono BV.o.size)⟩;obtain⟨y0,y1,y2,y3,y4,y5,y6,y7,y8,y9,_,r,_⟩:=U.o.ba ha;have f0:=U.o.fz (at_*10);obtain⟨w4,F⟩:=eX g.1;rw[<-F]at BN U r f0
 try dsimp only
 rw[<-F];clear F hE LQ LE0 LE1 M0 M1 M2 M3 LT LY;have O5:ak (fM (w4.setCell ⟨g2,at_*10,none⟩ (ae aj y)) w.heap.size (bV lo o) (some ⟨g2,0,none⟩) n H):=⟨by
  have:=U.o.set ha (q:=0) aq y (fun x hl h=>cL aq h);simpa using this⟩
 have B5:ak (aA w (w4.setCell ⟨g2,at_*10,none⟩ (ae aj y))):=⟨Below.setCell BN.o (p:=⟨g2,at_*10,none⟩) fL _⟩;go_simp;go_wp2;go_ret2;exact⟨some ⟨g2,0,none⟩,H,true,rfl,O5.o,B5.o⟩
abbrev afe(f:db)(u:Nat):Array Value:= #[ae aj f.em, .slice f.G f.gn f.gc, .slice f.M f.mn f.mc, .slice f.L f.ln f.lc, .slice f.F f.fn f.fc, .slice f.S f.sn f.sc,ae aj (u:Int)]
structure Mc(w:World)(g:Nat)(f:db)(u:Nat):Prop where
 bx:Bx w g (afe f u)
 fr:ca w g f
 ls:J0 w g f
 hu:u<=65536
section
variable {w w' : World} {g : Nat} {f : db} {u : Nat}
theorem Mc.Z(h:Mc w g f u)(a:aA w w'):Mc w' g f u:=
 have:=h.bx.lt
 ⟨h.bx.ar a h.bx.lt,h.fr.Z (a.mono aq) cr,h.ls.Z (a.mono aq) cr,h.hu⟩
theorem Mc.fnt(h:Mc w g f u):ca w w.heap.size f:=h.fr.Z (Below.refl _ _) (Nat.le_of_lt h.bx.lt)
theorem Mc.set(h:Mc w g f u)(a:u<65536):Mc (w.setCell ⟨g,6,none⟩ (ae aj ((u:Int)+1))) g f (u+1):=
 have b:Below g w (w.setCell ⟨g,6,none⟩ (ae aj ((u:Int)+1))):=Below.setCell (Below.refl _ _) (p:=⟨g,6,none⟩) (Nat.le_refl g) _
 ⟨h.bx.kJ 6 _,h.fr.Z b cr,h.ls.Z b cr,aq⟩
theorem Mc.m7(h:Mc w g f u):w.cell? ⟨g,0,none⟩=some (ae aj f.em)/\w.cell? ⟨g,1,none⟩=some (.slice f.G f.gn f.gc)/\w.cell? ⟨g,2,none⟩=some (.slice f.M f.mn f.mc)/\w.cell? ⟨g,3,none⟩=some (.slice f.L f.ln f.lc)/\w.cell? ⟨g,4,none⟩=some (.slice f.F f.fn f.fc)/\w.cell? ⟨g,5,none⟩=some (.slice f.S f.sn f.sc)/\w.cell? ⟨g,6,none⟩=some (ae aj (u:Int)):=
 ⟨h.bx.cell 0,h.bx.cell 1,h.bx.cell 2,h.bx.cell 3,h.bx.cell 4,h.bx.cell 5,h.bx.cell 6⟩
theorem Bx.kE{b:Nat}{cs:Array Value}(h:Bx w b cs)(d:b≠g)(c:cW g w w'):Bx w' b cs:=by
 have a:=h.lt;obtain⟨t,h⟩:=h;exact⟨t,(c.block b a d).trans h⟩
theorem bh.kE{k:IntKind}{xs:aE}(h:bh w w.heap.size k A n xs)(l:nN g A n)(b:cW g w w'):bh w' w'.heap.size k A n xs:=⟨h.1,fun c=>by
 obtain⟨a,d,e,m⟩:=h.2 c;have:=b.size;exact⟨a,d,aq,fun j i=>b.cell (m j i) (by rw[aO];exact l c a d)⟩⟩
theorem Own.zV{e:TypeId}{k:IntKind}{xs:aE}(h:Own w B e k A n c xs)(o:g<B):nN g A n:=fun d m a=>by
 obtain⟨b,j,l,_⟩:=aB.form h d;rw[j]at a;have i:=Option.some.inj a;rw[<-i];show b≠g;omega
end
structure Bu(w:World)(g:Nat)(Q:aE->Prop)(A:aC)(n c:Nat):Prop where
 gl:gi w Q A n
 ni:nN g A n
 nc:n<=c
 nn:n<=16384
theorem Bu.kE{w w':World}{g:Nat}(h:Bu w g Q A n c)(a:cW g w w'):Bu w' g Q A n c:=⟨h.gl.kE h.ni a,h.ni,h.nc,h.nn⟩
theorem Bu.own{w:World}{g:Nat}(h:fM w B Q A n c)(b:g<B)(a:n<=16384):Bu w g Q A n c:=⟨h.rq aq,h.zV b,h.le,a⟩
def PCo(w:World)(g:Nat)(u:Nat)(A:aC)(n c:Nat)(x:Int)(b:Bool)(e:Ending)(w':World):Prop:=
 (b=true/\n<=16384/\e= .returned (.tuple #[.slice A n c,ae aj x, .bool true])/\w'=w.setCell ⟨g,6,none⟩ (ae aj ((u:Int)+1)))∨(e= .returned (.tuple #[.slice none 0 0,ae aj 0, .bool false])/\w'=w)
theorem mU(g:Nat)(f:db)(u:Nat)(A:aC)(n c:Nat)(x:Int)(b:Bool)(w:World)(h:Mc w g f u):Calls prog 301 #[.pointer (some ⟨g,0,none⟩), .slice A n c,ae aj x, .bool b] w (PCo w g u A n c x b):=by
 obtain⟨k,p,l,j,e,o,i⟩:=h.m7;have m:=h.hu;have f6:=h.bx.fz 6;cases b
 ·go_enter func301,ntmps301
  go_wp2;go_ret3;exact .inr ⟨rfl,rfl⟩
 ·by_cases d:n<=16384
  ·have a:¬((16384:Int)<(n:Int)):=by omega
   go_enter func301,ntmps301;go_wp2;go_ret3;exact .inl ⟨rfl,d,rfl,rfl⟩
  ·have a:((16384:Int)<(n:Int)):=by omega
   go_enter func301,ntmps301;go_wp2;go_ret3;exact .inr ⟨rfl,rfl⟩
def Qm(w:World)(g:Nat)(f:db)(u:Nat)(Q:aE->Prop)(n:Nat)(at_:Int)(d:Prop)(e:Ending)(w':World):Prop:=∃(A:aC) (m c x:Nat) (b:Bool) (a:Nat),e= .returned (.tuple #[.slice A m c,ae aj (x:Int), .bool b])/\u<=a/\Mc w' g f a/\cW g w w'/\
 (b=true->u<a/\Bu w' g Q A m c/\(d->m=n)/\x<=1000000/\0<=at_/\at_<n)
def Yf(w:World)(f:db)(c:Int):Prop:=∀(j:Nat) (b:Addr) (a:Int),c=j->j<f.ln->f.L=some b->w.cell? (b.add (j*4))=some (ae aj a)->a=5
def te(d:Nat):Prop:=∀(g:Nat) (f:db) (u:Nat) (lo a:Int) (b at_:Int) (A:aC) (n c:Nat) (e:Prop) (w:World),Mc w g f u->Bu w g (bV lo a) A n c->(e->Yf w f b)->
 Calls prog 286 #[.pointer (some ⟨g,0,none⟩),ae aj b, .slice A n c,ae aj at_,ae aj (d:Int)] w (Qm w g f u (bV lo a) n at_ e)
def PNe(w:World)(g:Nat)(f:db)(u:Nat)(Q:aE->Prop)(e:Ending)(w':World):Prop:=∃(A:aC) (m c a:Nat),e= .returned (.slice A m c)/\u<=a/\Mc w' g f a/\cW g w w'/\Bu w' g Q A m c
theorem R7(d:Nat)(H:te (d+1))(g:Nat)(f:db)(u:Nat)(lo D:Int)(A:aC)(n c:Nat)(NA:aC)(j T:Nat)(P:aC)(m k:Nat)(xs:aE)(w:World)(h:Mc w g f u)(hl:Bu w g (bV lo D) A n c)(V:cM w g AO NA j T)(hP:bh w w.heap.size .i64 P m xs)(G:nN g P m)(hm:m<=60000)(hd:d<=8):
 Calls prog 319 #[.pointer (some ⟨g,0,none⟩), .slice A n c, .slice NA j T, .slice P m k,ae aj (d:Int)] w (PNe w g f u (bV lo D)):=by
 have HO:=sH H;have M:=sH h;have l:=sH hl;have RN:=sH V;have t:=sH hP;have s:=sH G;have ZV:=V.bd;have Kp:=h.bx.lt;go_enter func319,ntmps319;go_wp2;go_loopg [1,3,11,12,13,14,15] (j+1) (fun gg v1 v3 J _ _ _ _ wr=>∃(i:Nat) (A:aC) (n c o:Nat) (P:aC) (k:Nat) (xs:aE),j-i<gg/\i<=j/\v1= .slice A n c/\v3= .slice P m k/\J=ae aj (i:Int)/\u<=o/\ak (Mc wr g f o)/\ak (cW g w wr)/\ak (Bu wr g (bV lo D) A n c)/\ak (bh wr wr.heap.size .i64 P m xs)/\ak (nN g P m))
 ·exact⟨0,A,n,c,u,P,k,xs,aq,aq,rfl,rfl,rfl,aq,M,⟨cW.refl _ _⟩,l,t,s⟩
 obtain⟨i,A,n,c,o,P,k,xs,hg,Vm,rfl,rfl,rfl,r,M,B,l,t,s⟩:=hrel;by_cases L:i<j
 ·obtain⟨ad,y,z,rfl,e0,e1⟩:=yt (RN.o.Z (B.o.below cr aq) cr) L
  have i4:=aR i j;by_cases hy0:y<0
  ·go_wp2
   go_roundg (j-i)
   ·exact⟨i+1,A,n,c,o,P,k,xs,aq,aq,rfl,rfl,aQ,r,M,B,l,t,s⟩
   omega
  obtain⟨a,rfl⟩:∃a:Nat,y=(a:Int):=⟨y.toNat,aq⟩;by_cases F:a<m;rotate_left
  ·have h1:((m:Int)<=(a:Int)):=by omega
   go_wp2;go_roundg (j-i)
   ·exact⟨i+1,A,n,c,o,P,k,xs,aq,aq,rfl,rfl,aQ,r,M,B,l,t,s⟩
   omega
  have h1:¬((m:Int)<=(a:Int)):=aq;have h2:((a:Int)<(m:Int)):=aq;obtain⟨x,rfl,p0⟩:=t.o.gj F;generalize nth xs a=p at*;go_wp2_with fail;refine(HO.o g f o lo D z p A n c False wr M.o l.o (fun h=>h.elim)).mono ?_;rintro e w1 ⟨A1,W,c1,x1,b,u1,rfl,hu1,hM,E,Y⟩;have O:=sH hM;have X:=sH (B.o.trans E);have N:=sH (l.o.kE E);have v:=sH (t.o.kE s.o E);cases b
  ·clear Y E
   go_wp2;go_roundg (j-i)
   ·exact⟨i+1,A,n,c,u1,some x,k,xs,aq,aq,rfl,rfl,aQ,aq,O,X,N,v,s⟩
   omega
  ·obtain⟨hu2,C,_,_,nd,zB⟩:=Y rfl
   have Q:=sH C;obtain⟨q,rfl⟩:∃q:Nat,p=(q:Int):=⟨p.toNat,aq⟩;have U:=l.o.nn;have Fb:=C.nn;go_wp2_with fail;refine(Sa (some x) m k xs q n W w1 v.o aq aq aq aq).mono ?_;rintro e w2 ⟨A2,c2,ys,rfl,Z,K⟩;have M2:=sH (O.o.Z K);have B2:=sH (X.o.trans (cW.of K));have S:=sH (Q.o.kE (cW.of K));have R:=sH Z.ints;have I:=sH (Z.zV O.o.bx.lt);go_wp2;go_roundg (j-i)
   ·exact⟨i+1,A1,W,c1,u1,A2,c2,ys,aq,aq,rfl,rfl,aQ,aq,M2,B2,S,R,I⟩
   omega
 ·go_wp2
  go_ret;exact⟨_,_,_,o,rfl,r,M.o,B.o,l.o⟩
def ZMa(N n g:Nat):Sat:=⟨fun v w=>∃(i:Nat) (A:aC) (m c:Nat) (b:Bool),v= .tuple #[ae aj (i:Int), .slice A m c, .bool b]/\(b=true->i<g/\Gs w N n A m c),fun v w h ⟨i,A,m,c,b,f,a⟩ d=>⟨i,A,m,c,b,f,fun e=>⟨(a e).1,(a e).2.ar d⟩⟩⟩
theorem ZMa.get{d i:Nat}(h:(ZMa N n d).p (.tuple #[ae aj (i:Int), .slice A m c, .bool b]) w):b=true->i<d/\Gs w N n A m c:=by
 obtain⟨j,q,o,c',p,e,h⟩:=h;simp at e;obtain⟨r,⟨g,f,k⟩,l⟩:=e;have a:i=j:=aq;subst a;subst g;subst f;subst k;subst l
 exact h
theorem lS.more{a:Nat}{k:Lk}(h:lS w B k)(b:B<=a):lS w a k:=h.Z (Below.refl _ _) b
theorem Iq(d:Nat)(H:te (d+1))(g:Nat)(f:db)(u:Nat)(k:Lk)(lo F:Int)(A:aC)(n c at_:Nat)(w:World)(h:Mc w g f u)(hk:lS w g k)(T:Bu w g (bV lo F) A n c)(ha:at_<n)(hd:d<=8)(hu:u<65536):
 Calls prog 303 #[.pointer (some ⟨g,0,none⟩),k.v, .slice A n c,ae aj (at_:Int),ae aj (d:Int)] w (Qm w g f u (bV lo F) n (at_:Int) False):=by
 obtain⟨q,aP⟩:=eX (w.alloc (.cells k.row 132));have K:ak (aA w q):=⟨lY⟩;have U:ak (Bx q w.heap.size k.row):=⟨qR⟩;have HO:ak _:=⟨H⟩;have M:ak (Mc q g f u):=⟨h.Z K.o⟩;have RK:ak (lS q g k):=⟨hk.Z (K.o.mono (Nat.le_of_lt h.bx.lt)) cr⟩;have BL:ak (Bu q g (bV lo F) A n c):=⟨T.kE (cW.of K.o)⟩;have Kp:=h.bx.lt;have jg:=K.o.size;have hn:=T.nn;have G:w.heap.size+1=q.heap.size:=oL;obtain⟨m0,m1,m2,m3,m4,m5,b⟩:=M.o.m7;obtain⟨d0,Z,d2,E⟩:=U.o.k4;clear H h hk T;go_enter func303,ntmps303;go_wp2;rw[<-aP];clear aP;obtain⟨L0,L1,L2,L3,L4,L5,M0,M1⟩:=lc8 m0 m1 m2 m3 m4 m5 d0 Z;obtain⟨M2,V⟩:=lc2 d2 E;clear m0 m1 m2 m3 m4 m5 b d0 Z d2 E;refine aY (jd 26 (ZMa q.heap.size n k.sn)) aF aF ?_
 repeat(refine bR aK aK aK ?_;intro K9 W;go_big_quiet_op;go_big_quiet_on)
 refine cG (ZMa q.heap.size n k.sn) aK aK (fun w9 cv=> ?_) (fun v9 aV=> ?_)
 ·obtain⟨a,rfl⟩:=cv
  go_simp;have bq:=cW.of (g:=g) a.2;refine aW (ZMa q.heap.size n k.sn) ((Ft f k (bV lo F) A n c at_ a.1 (M.o.Z a.2).fnt ((RK.o.more aq).Z a.2 a.2.size) (BL.o.kE bq).gl aq ha).mono ?_);rintro e w5 ⟨i,A6,b,c6,b6,rfl,h6,hb⟩;exact⟨_,rfl,⟨i,A6,b,c6,b6,rfl,fun e=>⟨(h6 e).1,(h6 e).2.cN a.2.size⟩⟩,hb⟩
 obtain⟨_,_,i,A6,b,c6,b6,rfl,_⟩:=aV;simp[Act.put]
 repeat(refine bR aK aK aK ?_;intro K9 W;go_big_quiet_op;go_big_quiet_on)
 intro a hE;have r:=ZMa.get hE;have I:ak (Mc a.1 g f u):=⟨M.o.Z a.2⟩;have BN:ak (cW g w a.1):=⟨(cW.of K.o).trans (cW.of a.2)⟩;have N:ak _:=⟨BL.o.kE (cW.of (g:=g) a.2)⟩;have J:ak (lS a.1 g k):=⟨RK.o.Z (a.2.mono aq) cr⟩;have XN:ak (Bx a.1 w.heap.size k.row):=⟨U.o.ar a.2 U.o.lt⟩;have X:q.heap.size<=a.1.heap.size:=a.2.size;obtain⟨w2,v⟩:=eX a.1;rw[<-v]at I BN N r J XN X
 try dsimp only
 rw[<-v];clear v hE L0 L1 L2 L3 L4 L5 M0 M1 M2 V M BL U RK;cases b6
 ·clear r
  go_wp2;go_ret3;exact⟨none,0,0,0,false,u,rfl,Nat.le_refl _,I.o,BN.o,aD⟩
 obtain⟨uN,xs,Fb,QC,y,B⟩:=r rfl;obtain⟨D,rfl,ad7,aey⟩:=aB.form y aq;obtain⟨L,hL,JZ⟩:∃L:Nat,nth xs (b-1)=L/\L<n:=by
  have T:=y.len;have:=B (nth xs (b-1)) Bi;exact⟨(nth xs (b-1)).toNat,aq,aq⟩
 have R:=bI y (show b-1<b by omega);rw[hL]at R;have em:(((b:Int)-1)=((b-1:Nat):Int)):=aq;have i4:((b-1:Nat):Int)<(b:Int):=aq;obtain⟨q0,q1,q2,q3,q4,q5,q6⟩:=I.o.m7;have f6:=I.o.bx.fz 6;obtain⟨m,z⟩:=eX (w2.setCell ⟨g,6,none⟩ (ae aj ((u:Int)+1)));have t:cW g w2 m:=by rw[z];exact(cW.refl _ _).set 6 _
 have V:ak (Mc m g f (u+1)):=⟨by rw[z];exact I.o.set hu⟩;have B3:ak (cW g w m):=⟨BN.o.trans t⟩;have Fp:ak _:=⟨N.o.kE t⟩;have IP:ak (bh m m.heap.size .i64 (some ⟨D,0,none⟩) b xs):=⟨y.ints.kE (y.zV aq) t⟩;have NP:ak (nN g (some ⟨D,0,none⟩) b):=⟨y.zV aq⟩;have Ss:ak (lS m g k):=⟨J.o.Z (t.below cr aq) cr⟩;have X3:ak (Bx m w.heap.size k.row):=⟨XN.o.kE aq t⟩;have p3:=t.cell R (by show D≠g;omega);have xi:=t.size;have p00:ak _:=⟨R⟩;clear r y B hL t q0 q1 q2 q3 q4 q5 R p3;have hsl:(0:Int)<=(L:Int)/\(L:Int)<n/\(n:Int)<=16384:=aq;have KX:ak (∀j,aA m j->∃(l:Addr) (x:Sb),nD j g x/\j.cell? ⟨w.heap.size,3,none⟩=some (.slice (some l) k.sn k.sc)/\j.cell? (bW (l.add (i*12)) 6)=some (.slice x.N x.nn x.nc)):=⟨fun j C=>by
  obtain⟨d0,Z,d2,E⟩:=(X3.o.ar C X3.o.lt).k4;have Tv:lS j g k:=Ss.o.Z (C.mono aq) cr;obtain⟨l,x,eS,B,_,_,_,_,_,_,e6,_⟩:=jh Tv.rS uN;rw[eS]at E;exact⟨l,x,B,E,e6⟩⟩
 have i5:(i:Int)<(k.sn:Int):=aq;have dX:¬D=g:=aq;have Q:¬g=D:=aq;have R:=p00.o;clear G hsl Q;go_wp2_with (at_builtin;rw[<-z];refine cw mf rfl (.tmp 50) (.tmp 51) rfl rfl (Oq.nil m m.heap.size _ _ _) rfl Fp.o.gl aq cr ?_;intro A7 c7 j o7 C;have O7:ak _:=⟨o7⟩;have B7:ak (aA m j):=⟨C⟩;obtain⟨l,x,B,E,e6⟩:=KX.o j C;have HX:ak _:=⟨B⟩;clear o7 C B);have M7:ak (Mc j g f (u+1)):=⟨V.o.Z B7.o⟩;have BL7:ak (Bu j g (bV lo F) A7 n c7):=⟨by
  have o:=O7.o;rw[Nat.zero_add]at o;exact Bu.own o aq hn⟩
 have Y:ak (cW g w j):=⟨B3.o.trans (cW.of B7.o)⟩;have IP7:ak _:=⟨IP.o.Z B7.o⟩;refine(R7 d HO.o g f (u+1) lo F A7 n c7 x.N x.nn x.nc (some ⟨D,0,none⟩) b c6 xs j M7.o BL7.o HX.o.rN IP7.o NP.o aq hd).mono ?_;rintro e w8 ⟨A8,s,c8,u8,rfl,hu8,O,S,p⟩;have M8:ak _:=⟨O⟩;have B8:ak (cW g w w8):=⟨Y.o.trans S⟩;have P:ak _:=⟨p⟩;have hn8:=p.nn;clear O S p;by_cases hmx:(at_:Int)<(s:Int)-((n:Int)-(L:Int)-1)
 ·go_wp2
  go_ret3;exact⟨A8,s,c8,s-(n-L-1),true,u8,by show Ending.returned (.tuple #[.slice A8 s c8,ae aj ((s:Int)-((n:Int)-(L:Int)-1)), .bool true])=_;rw[show((s-(n-L-1):Nat):Int)=(s:Int)-((n:Int)-(L:Int)-1) by omega],aq,M8.o,B8.o,fun _=>⟨aq,P.o,fun h=>h.elim,aq,aq,aq⟩⟩
 ·go_wp2
  go_ret3;exact⟨A8,s,c8,at_,true,u8,rfl,aq,M8.o,B8.o,fun _=>⟨aq,P.o,fun h=>h.elim,aq,aq,aq⟩⟩
def Ge(B:Nat)(Q:aE->Prop)(N:Nat):Sat:=⟨fun v w=>∃(A:aC) (m c x:Nat) (b:Bool),v= .tuple #[.slice A m c,ae aj (x:Int), .bool b]/\(b=true->m<=N/\x<=1000000/\fM w B Q A m c),fun v w g ⟨A,m,c,x,b,f,a⟩ d=>⟨A,m,c,x,b,f,fun e=>⟨(a e).1,(a e).2.1,(a e).2.2.ar d⟩⟩⟩
theorem Ge.get{x:Nat}(h:(Ge B Q N).p (.tuple #[.slice A m c,ae aj (x:Int), .bool b]) w):b=true->m<=N/\x<=1000000/\fM w B Q A m c:=by
 obtain⟨n,k,c',d,l,e,h⟩:=h;simp at e;obtain⟨⟨g,f,i⟩,o,j⟩:=e;have a:x=d:=aq;subst a;subst g;subst f;subst i;subst j
 exact h
def ZRp(B:Nat)(Q:aE->Prop)(n:Nat):Sat:=⟨fun v w=>∃(A:aC) (c:Nat) (b:Bool),v= .tuple #[.slice A n c, .bool b]/\fM w B Q A n c,fun v w f ⟨A,c,b,d,e⟩ a=>⟨A,c,b,d,e.ar a⟩⟩
theorem ZRp.get(h:(ZRp B Q n).p (.tuple #[.slice A n c, .bool b]) w):fM w B Q A n c:=by
 obtain⟨i,c',g,e,h⟩:=h;simp at e;obtain⟨⟨f,a⟩,d⟩:=e;subst f;subst a;subst d
 exact h
theorem Qm.imp{i rv':Prop}{e:Ending}{d:World}(h:Qm w g f u Q n at_ i e d)(j:rv'->i):Qm w g f u Q n at_ rv' e d:=by
 obtain⟨A,m,c,x,b,o,l,p,k,q,a⟩:=h;exact⟨A,m,c,x,b,o,l,p,k,q,fun e=>⟨(a e).1,(a e).2.1,fun r=>(a e).2.2.1 (j r),(a e).2.2.2⟩⟩
theorem Qm.Z{i:Prop}{e:Ending}{d:World}(h:Qm a g f u Q n at_ i e d)(j:cW g w a):Qm w g f u Q n at_ i e d:=by
 obtain⟨A,m,c,x,b,p,o,q,l,r,k⟩:=h;exact⟨A,m,c,x,b,p,o,q,l,j.trans r,k⟩
theorem lh{c:Prop}(h:Mc a g f u)(b:cW g w a):Qm w g f u Q n at_ c (.returned (.tuple #[.slice none 0 0,ae aj 0, .bool false])) a:=
 ⟨none,0,0,0,false,u,rfl,Nat.le_refl _,h,b,aD⟩
theorem aaH(s:G:=by
 have hx6:=(OE.o rfl).2.1
 have BU:=(Bu.own (OE.o rfl).2.2 aq hm).kE ((cW.refl g w4).set 6 (ae aj ((u:Int)+1)));have BS:ak _:=⟨BU⟩;clear BU;go_wp2;go_ret3;exact⟨A6,m6,c6,x6,true,u+1,rfl,aq,MN.o.set h6,B4.o.set 6 _,fun _=>⟨aq,BS.o,fun r=>by have:=HK5.o r;omega,hx6,aq,aq⟩⟩):G:=s
theorem VX(s:G:=by
 go_wp2
 go_ret3;exact lh MN.o B4.o):G:=s
theorem kx(d:Nat)(hd:d<=9)(H:d<=8->te (d+1)):te d:=by
 intro g f u lo I lk at_ A n c rv w h hl hr;have HO:ak _:=⟨H⟩;have M:ak _:=⟨h⟩;have BL:ak _:=⟨hl⟩;have RV:ak _:=⟨hr⟩;have hn:=hl.nn;have Kp:=h.bx.lt;have hu:=h.hu;have qT:=h.fr.rL.bd;clear H h hl hr;obtain⟨m0,m1,m2,m3,m4,m5,m6⟩:=M.o.m7;by_cases h1:lk<0
 ·go_enter func286,ntmps286
  go_wp2;go_ret3;exact lh M.o (cW.refl _ _)
 obtain⟨j,rfl⟩:∃j:Nat,lk=(j:Int):=⟨lk.toNat,aq⟩;by_cases h2:j<f.ln;rotate_left
 ·have Dg:(f.ln:Int)<=(j:Int):=by omega
  go_enter func286,ntmps286;go_wp2;go_ret3;exact lh M.o (cW.refl _ _)
 have Dg:¬(f.ln:Int)<=(j:Int):=aq;by_cases h3:at_<0
 ·go_enter func286,ntmps286
  go_wp2;go_ret3;exact lh M.o (cW.refl _ _)
 obtain⟨a,rfl⟩:∃a:Nat,at_=(a:Int):=⟨at_.toNat,aq⟩;by_cases h4:a<n;rotate_left
 ·have Va:(n:Int)<=(a:Int):=by omega
  go_enter func286,ntmps286;go_wp2;go_ret3;exact lh M.o (cW.refl _ _)
 have Va:¬(n:Int)<=(a:Int):=aq;by_cases h5:d<=8;rotate_left
 ·have h5':=aR 8 d
  go_enter func286,ntmps286;go_wp2;go_ret3;exact lh M.o (cW.refl _ _)
 have h5':=cF 8 d;by_cases h6:u<65536;rotate_left
 ·have h6':(65536:Int)<=(u:Int):=by omega
  go_enter func286,ntmps286;go_wp2;go_ret3;exact lh M.o (cW.refl _ _)
 have h6':¬(65536:Int)<=(u:Int):=aq;clear h1 h3;obtain⟨N,k,eL,hk,e0,e1,e2,e3⟩:=rl M.o.fr.rL h2;have KC:ak (zI w g k):=⟨M.o.ls.at h2 eL e0 e1 e2 e3⟩;have RK:ak (lS w g k):=⟨hk⟩;have HK5:ak (rv->k.kind=5):=⟨fun r=>RV.o r j N k.kind rfl h2 eL e0⟩;obtain⟨em,G,Z,T,MM,U,X,L,J,lc,F,fn,V,S,W,Y⟩:=f;obtain⟨O,fl,st,KS,s,t⟩:=k;dsimp only at*;subst eL;obtain⟨W2,cd⟩:=eX (w.alloc (.cells (Lk.row ⟨O,fl,st,KS,s,t⟩) 132));have B2:ak (aA w W2):=⟨jT⟩;have X2:ak (Bx W2 w.heap.size (Lk.row ⟨O,fl,st,KS,s,t⟩)):=⟨oJ⟩;have iq:W2.heap.size=w.heap.size+1:=by rw[cd];simp
 have M2:ak _:=⟨M.o.Z B2.o⟩;have Su:ak _:=⟨BL.o.kE (cW.of B2.o)⟩;have sy:=aR j J;have Hz:=aR a n;go_enter func286,ntmps286;go_wp2;rw[<-cd];clear cd m0 m1 m2 m3 m4 m5 m6 e0 e1 e2 e3;obtain⟨m0,m1,m2,m3,m4,m5,m6⟩:=M2.o.m7;obtain⟨q,m,p,o⟩:=X2.o.k4;dsimp only at m0 m1 m2 m3 m4 m5 m6 q m p o;obtain⟨qx,x0,x1,x2,x3,x4,x5,x6,x7,x8,x9,rfl,hQ,B,_⟩:=Su.o.gl.ba h4;obtain⟨L0,L1,L2,L3,L4,L5,M0,M1⟩:=lc8 m0 m1 m2 m3 m4 m5 q m;obtain⟨v,M3,LQ⟩:=lc3 p o B;clear m0 m1 m2 m3 m4 m5 m6 q m p o B hQ;refine aG (mj 73 SB) aF aF ?_
 repeat(refine du aK aK aK ?_;intro K9 x;go_big_quiet_op;go_big_quiet_on)
 refine iW SB aK aK (fun w9 y=> ?_) (fun v9 z=> ?_)
 ·obtain⟨nq,rfl⟩:=y
  go_simp;exact bj (pv ⟨em,G,Z,T,MM,U,X,some N,J,lc,F,fn,V,S,W,Y⟩ ⟨O,fl,st,KS,s,t⟩ x0 nq.1 (M2.o.Z nq.2).fnt)
 obtain⟨b,rfl⟩:=z;simp[Act.put]
 repeat(refine du aK aK aK ?_;intro K9 x;go_big_quiet_op;go_big_quiet_on)
 intro nq;obtain⟨C,bq⟩:=nq;have l:ak _:=⟨M2.o.Z bq⟩;have B3:ak (cW g w C):=⟨(cW.of B2.o).trans (cW.of bq)⟩;have D:ak _:=⟨Su.o.kE (cW.of (g:=g) bq)⟩;have X3:ak _:=⟨X2.o.ar bq X2.o.lt⟩;have xi:=bq.size;have Ss:ak (lS C g ⟨O,fl,st,KS,s,t⟩):=⟨RK.o.Z (B3.o.below cr aq) cr⟩;have KC3:ak (zI C g ⟨O,fl,st,KS,s,t⟩):=⟨KC.o.Z (B3.o.below cr aq) cr⟩
 try dsimp only
 clear bq L0 L1 L2 L3 L4 L5 M0 M1 v M3 LQ M2 Su X2 RK KC;cases b;rotate_left
 ·go_wp2
  go_ret3;exact lh l.o B3.o
 have Gi:O=1∨O=2∨O=3∨O=4∨O=5∨((O==1)=false/\(O==2)=false/\(O==3)=false/\(O==4)=false/\(O==5)=false):=cA;have hn3:w.heap.size+1<=C.heap.size:=aq;rcases Gi with rfl|rfl|rfl|rfl|rfl|⟨k1,k2,k3,k4,k5⟩
 ·obtain⟨B,P,K,R,q4,Q,q6⟩:=l.o.m7
  obtain⟨q,m,p,o⟩:=X3.o.k4;dsimp only at B P K R q4 Q q6 q m p o;go_wp2;obtain⟨L0,L1,L2,L3,L4,L5,M0,M1⟩:=lc8 B P K R q4 Q q m;obtain⟨v,M3⟩:=lc2 p o;clear B P K R q4 Q q6 q m p o;refine aY (jd 87 (Ge C.heap.size (bV lo I) (n+16))) aF aF ?_
  repeat(refine bR aK aK aK ?_;intro K9 x;go_big_quiet_op;go_big_quiet_on)
  refine cG (Ge C.heap.size (bV lo I) (n+16)) aK aK (fun w9 y=> ?_) (fun v9 z=> ?_)
  ·obtain⟨nq,rfl⟩:=y
   go_simp;refine aW (Ge C.heap.size (bV lo I) (n+16)) ((Fq ⟨em,G,Z,T,MM,U,X,some N,J,lc,F,fn,V,S,W,Y⟩ ⟨1,fl,st,KS,s,t⟩ lo I (some qx) n c a nq.1 (l.o.Z nq.2).fnt ((Ss.o.Z (nq.2.mono aq) cr).more Ev) ((KC3.o.Z (nq.2.mono aq) cr).Z (Below.refl _ _) Ev) (D.o.kE (cW.of (g:=g) nq.2)).gl aq h4 D.o.nc).mono ?_);rintro e w5 ⟨A6,m6,c6,x6,E,rfl,h6,hb⟩;exact⟨_,rfl,⟨A6,m6,c6,x6,E,rfl,fun e=>⟨by have:=(h6 e).1;omega,(h6 e).2.1,(h6 e).2.2.cN nq.2.size⟩⟩,hb⟩
  obtain⟨_,_,A6,m6,c6,x6,E,rfl,_⟩:=z;simp[Act.put]
  repeat(refine bR aK aK aK ?_;intro K9 x;go_big_quiet_op;go_big_quiet_on)
  intro nq hE;have OE:ak _:=⟨Ge.get hE⟩;have MN:ak (Mc nq.1 g ⟨em,G,Z,T,MM,U,X,some N,J,lc,F,fn,V,S,W,Y⟩ u):=⟨l.o.Z nq.2⟩;have B4:ak (cW g w nq.1):=⟨B3.o.trans (cW.of nq.2)⟩;obtain⟨w4,i⟩:=eX nq.1;rw[<-i]at MN B4 OE
  try dsimp only
  rw[<-i];clear i hE L0 L1 L2 L3 L4 L5 M0 M1 v M3;go_wp2_with fail;refine(mU g ⟨em,G,Z,T,MM,U,X,some N,J,lc,F,fn,V,S,W,Y⟩ u A6 m6 c6 (x6:Int) E w4 MN.o).mono ?_;rintro e w5 (⟨rfl,hm,rfl,rfl⟩|⟨rfl,rfl⟩)
  ·exact aaH
  ·exact VX
 ·obtain⟨B,P,K,R,q4,Q,q6⟩:=l.o.m7
  obtain⟨q,m,p,o⟩:=X3.o.k4;dsimp only at B P K R q4 Q q6 q m p o;go_wp2;obtain⟨L0,L1,L2,L3,L4,L5,M0,M1⟩:=lc8 B P K R q4 Q q m;obtain⟨v,M3⟩:=lc2 p o;clear B P K R q4 Q q6 q m p o;refine aY (jd 87 (Ge C.heap.size (bV lo I) (n+16))) aF aF ?_
  repeat(refine bR aK aK aK ?_;intro K9 x;go_big_quiet_op;go_big_quiet_on)
  refine cG (Ge C.heap.size (bV lo I) (n+16)) aK aK (fun w9 y=> ?_) (fun v9 z=> ?_)
  ·obtain⟨nq,rfl⟩:=y
   go_simp;refine aW (Ge C.heap.size (bV lo I) (n+16)) ((Fq ⟨em,G,Z,T,MM,U,X,some N,J,lc,F,fn,V,S,W,Y⟩ ⟨2,fl,st,KS,s,t⟩ lo I (some qx) n c a nq.1 (l.o.Z nq.2).fnt ((Ss.o.Z (nq.2.mono aq) cr).more Ev) ((KC3.o.Z (nq.2.mono aq) cr).Z (Below.refl _ _) Ev) (D.o.kE (cW.of (g:=g) nq.2)).gl aq h4 D.o.nc).mono ?_);rintro e w5 ⟨A6,m6,c6,x6,E,rfl,h6,hb⟩;exact⟨_,rfl,⟨A6,m6,c6,x6,E,rfl,fun e=>⟨by have:=(h6 e).1;omega,(h6 e).2.1,(h6 e).2.2.cN nq.2.size⟩⟩,hb⟩
  obtain⟨_,_,A6,m6,c6,x6,E,rfl,_⟩:=z;simp[Act.put]
  repeat(refine bR aK aK aK ?_;intro K9 x;go_big_quiet_op;go_big_quiet_on)
  intro nq hE;have OE:ak _:=⟨Ge.get hE⟩;have MN:ak (Mc nq.1 g ⟨em,G,Z,T,MM,U,X,some N,J,lc,F,fn,V,S,W,Y⟩ u):=⟨l.o.Z nq.2⟩;have B4:ak (cW g w nq.1):=⟨B3.o.trans (cW.of nq.2)⟩;obtain⟨w4,i⟩:=eX nq.1;rw[<-i]at MN B4 OE
  try dsimp only
  rw[<-i];clear i hE L0 L1 L2 L3 L4 L5 M0 M1 v M3;go_wp2_with fail;refine(mU g ⟨em,G,Z,T,MM,U,X,some N,J,lc,F,fn,V,S,W,Y⟩ u A6 m6 c6 (x6:Int) E w4 MN.o).mono ?_;rintro e w5 (⟨rfl,hm,rfl,rfl⟩|⟨rfl,rfl⟩)
  ·exact aaH
  ·exact VX
 ·obtain⟨B,P,K,R,q4,Q,q6⟩:=l.o.m7
  obtain⟨q,m,p,o⟩:=X3.o.k4;dsimp only at B P K R q4 Q q6 q m p o;go_wp2;obtain⟨L0,L1,L2,L3,L4,L5,M0,M1⟩:=lc8 B P K R q4 Q q m;obtain⟨v,M3⟩:=lc2 p o;clear B P K R q4 Q q6 q m p o;refine aY (jd 109 (Ge C.heap.size (bV lo I) (n+16))) aF aF ?_
  repeat(refine bR aK aK aK ?_;intro K9 x;go_big_quiet_op;go_big_quiet_on)
  refine cG (Ge C.heap.size (bV lo I) (n+16)) aK aK (fun w9 y=> ?_) (fun v9 z=> ?_)
  ·obtain⟨nq,rfl⟩:=y
   go_simp;refine aW (Ge C.heap.size (bV lo I) (n+16)) ((Ut ⟨em,G,Z,T,MM,U,X,some N,J,lc,F,fn,V,S,W,Y⟩ ⟨3,fl,st,KS,s,t⟩ lo I (some qx) n c a nq.1 (l.o.Z nq.2).fnt ((Ss.o.Z (nq.2.mono aq) cr).more Ev) (D.o.kE (cW.of (g:=g) nq.2)).gl aq h4 D.o.nc).mono ?_);rintro e w5 ⟨A6,m6,c6,x6,E,rfl,h6,hb⟩;exact⟨_,rfl,⟨A6,m6,c6,x6,E,rfl,fun e=>⟨by have:=(h6 e).1;omega,(h6 e).2.1,(h6 e).2.2.cN nq.2.size⟩⟩,hb⟩
  obtain⟨_,_,A6,m6,c6,x6,E,rfl,_⟩:=z;simp[Act.put]
  repeat(refine bR aK aK aK ?_;intro K9 x;go_big_quiet_op;go_big_quiet_on)
  intro nq hE;have OE:ak _:=⟨Ge.get hE⟩;have MN:ak (Mc nq.1 g ⟨em,G,Z,T,MM,U,X,some N,J,lc,F,fn,V,S,W,Y⟩ u):=⟨l.o.Z nq.2⟩;have B4:ak (cW g w nq.1):=⟨B3.o.trans (cW.of nq.2)⟩;obtain⟨w4,i⟩:=eX nq.1;rw[<-i]at MN B4 OE
  try dsimp only
  rw[<-i];clear i hE L0 L1 L2 L3 L4 L5 M0 M1 v M3;go_wp2_with fail;refine(mU g ⟨em,G,Z,T,MM,U,X,some N,J,lc,F,fn,V,S,W,Y⟩ u A6 m6 c6 (x6:Int) E w4 MN.o).mono ?_;rintro e w5 (⟨rfl,hm,rfl,rfl⟩|⟨rfl,rfl⟩)
  ·exact aaH
  ·exact VX
 ·have CX:ak _:=⟨Iq d (HO.o h5) g ⟨em,G,Z,T,MM,U,X,some N,J,lc,F,fn,V,S,W,Y⟩ u ⟨4,fl,st,KS,s,t⟩ lo I (some qx) n c a C l.o Ss.o D.o h4 h5 h6⟩
  obtain⟨q,m,p,o⟩:=X3.o.k4;dsimp only at q m p o;go_wp2_with fail;refine CX.o.mono ?_;rintro e w5 hp;have hp2:=(hp.Z B3.o).imp (rv':=rv) (fun r=>by have:=HK5.o r;omega);obtain⟨A6,m6,c6,x6,E,u6,rfl,g1,g2,g3,g4⟩:=hp2;have PP:ak _:=⟨g2⟩;have PB:ak _:=⟨g3⟩;have PC:ak _:=⟨g4⟩;clear hp g2 g3 g4 CX;go_wp2;go_ret3;exact⟨A6,m6,c6,x6,E,u6,rfl,g1,PP.o,PB.o,PC.o⟩
 ·obtain⟨B,P,K,R,q4,Q,q6⟩:=l.o.m7
  obtain⟨q,m,p,o⟩:=X3.o.k4;dsimp only at B P K R q4 Q q6 q m p o;go_wp2;obtain⟨L0,L1,L2,L3,L4,L5,M0,M1⟩:=lc8 B P K R q4 Q q m;obtain⟨v,M3⟩:=lc2 p o;clear B P K R q4 Q q6 q m p o;refine aY (jd 142 (ZRp C.heap.size (bV lo I) n)) aF aF ?_
  repeat(refine bR aK aK aK ?_;intro K9 x;go_big_quiet_op;go_big_quiet_on)
  refine cG (ZRp C.heap.size (bV lo I) n) aK aK (fun w9 y=> ?_) (fun v9 z=> ?_)
  ·obtain⟨nq,rfl⟩:=y
   go_simp;refine aW (ZRp C.heap.size (bV lo I) n) ((Tk ⟨em,G,Z,T,MM,U,X,some N,J,lc,F,fn,V,S,W,Y⟩ ⟨5,fl,st,KS,s,t⟩ lo I (some qx) n c a nq.1 (l.o.Z nq.2).fnt ((Ss.o.Z (nq.2.mono aq) cr).more Ev) ((KC3.o.Z (nq.2.mono aq) cr).Z (Below.refl _ _) Ev) (D.o.kE (cW.of (g:=g) nq.2)).gl aq h4).mono ?_);rintro e w5 ⟨A6,c6,E,rfl,h6,hb⟩;exact⟨_,rfl,⟨A6,c6,E,rfl,h6.cN nq.2.size⟩,hb⟩
  obtain⟨_,_,A6,c6,E,rfl,_⟩:=z;simp[Act.put]
  repeat(refine bR aK aK aK ?_;intro K9 x;go_big_quiet_op;go_big_quiet_on)
  intro nq hE;have OE:ak _:=⟨ZRp.get hE⟩;have MN:ak (Mc nq.1 g ⟨em,G,Z,T,MM,U,X,some N,J,lc,F,fn,V,S,W,Y⟩ u):=⟨l.o.Z nq.2⟩;have B4:ak (cW g w nq.1):=⟨B3.o.trans (cW.of nq.2)⟩;obtain⟨w4,i⟩:=eX nq.1;rw[<-i]at MN B4 OE
  try dsimp only
  rw[<-i];clear i hE L0 L1 L2 L3 L4 L5 M0 M1 v M3;go_wp2_with fail;refine(mU g ⟨em,G,Z,T,MM,U,X,some N,J,lc,F,fn,V,S,W,Y⟩ u A6 n c6 ((a:Int)+1) E w4 MN.o).mono ?_;rintro e w5 (⟨rfl,hm,rfl,rfl⟩|⟨rfl,rfl⟩)
  ·have BU:=(Bu.own OE.o aq hm).kE ((cW.refl g w4).set 6 (ae aj ((u:Int)+1)))
   have BS:ak _:=⟨BU⟩;clear BU;go_wp2;go_ret3;exact⟨A6,n,c6,a+1,true,u+1,rfl,aq,MN.o.set h6,B4.o.set 6 _,fun _=>⟨aq,BS.o,fun _=>rfl,aq,aq,aq⟩⟩
  ·exact VX
 ·obtain⟨q,m,p,o⟩:=X3.o.k4
  dsimp only at q m p o;go_wp2;go_ret3;exact lh l.o B3.o
theorem Ah:te 0:=
 kx 0 aq fun _=>kx 1 aq fun _=>kx 2 aq fun _=>kx 3 aq fun _=>kx 4 aq fun _=>kx 5 aq fun _=>kx 6 aq fun _=>kx 7 aq fun _=>kx 8 aq fun _=>kx 9 aq fun h=>absurd h aq
theorem Yf.kE{e:World}{m:Int}(h:Yf w f m)(l:Mc w g f u)(o:cW g w e):Yf e f m:=fun j i n p q d k=>by
 obtain⟨b,c,a,_⟩:=l.fr.rL.2.2.2 aq;obtain rfl:i=b:=by rw[d]at c;exact Option.some.inj c
 have r:=l.bx.lt;rw[(o.below (Nat.le_refl g) aq).cell (by rw[aO];exact a)]at k;exact h j i n p q d k
theorem Mu(g:Nat)(f:db)(u:Nat)(lo k:Int)(d q:Int)(A:aC)(n c:Nat)(w:World)(h:Mc w g f u)(C:Bu w g (bV lo k) A n c)(F:Yf w f d):
 Calls prog 285 #[.pointer (some ⟨g,0,none⟩), .agg #[ae aj d,ae aj q], .slice A n c] w (PNe w g f u (bV lo k)):=by
 obtain⟨a,aP⟩:=eX (w.alloc (.cells #[ae aj d,ae aj q] 253));have o:aA w a:=lY;have L:ak (Bx a w.heap.size #[ae aj d,ae aj q]):=⟨qR⟩;have M:ak (Mc a g f u):=⟨h.Z o⟩;have j:ak (Bu a g (bV lo k) A n c):=⟨C.kE (cW.of o)⟩;have T:ak (cW g w a):=⟨cW.of o⟩;have U:ak (Yf a f d):=⟨F.kE h (cW.of o)⟩;have P:=h.bx.lt;have hn:=C.nn;clear h C F o;go_enter func285,ntmps285;go_wp2;rw[<-aP];clear aP;go_loopg [2,7,8,9,10] (n+1) (fun gg v2 v7 _ _ _ wr=>∃(i:Nat) (A:aC) (c l:Nat),i<gg/\i<=n/\v2= .slice A n c/\v7=ae aj ((i:Int)-1)/\u<=l/\ak (Mc wr g f l)/\ak (cW g a wr)/\ak (Bu wr g (bV lo k) A n c))
 ·exact⟨n,A,c,u,aq,aq,rfl,aQ,aq,M,⟨cW.refl _ _⟩,j⟩
 obtain⟨i,A,c,l,hg,V,rfl,rfl,z,v,m,j⟩:=hrel;have Q:ak (cW g w wr):=⟨T.o.trans m.o⟩;rcases i with _|i
 ·go_wp2
  go_ret;exact⟨_,_,_,l,rfl,z,v.o,Q.o,j.o⟩
 ·have J:(((i+1:Nat):Int)-1)=(i:Int):=by omega
  rw[J];clear J;have x:i<n:=aq;have i4:=aR i n;have i5:=jB i;have G:ak (Bx wr w.heap.size #[ae aj d,ae aj q]):=⟨L.o.kE aq m.o⟩;have Y:wr.cell? ⟨w.heap.size,0,none⟩=some (ae aj d):=G.o.cell 0;have S:wr.cell? ⟨w.heap.size,1,none⟩=some (ae aj q):=G.o.cell 1;obtain⟨t,x0,x1,x2,x3,x4,x5,x6,x7,x8,x9,rfl,N,_,_,_,_,_,_,_,_,_,Z⟩:=j.o.gl.ba x;clear N;go_wp2;go_quiet (fail);go_wp2_with fail
  ·refine(Ah g f l lo k d (i:Int) (some t) n c True _ (v.o.Z (aM (Below.refl _ _) _)) (j.o.kE (cW.of (aM (Below.refl _ _) _))) (fun _=>(U.o.kE M.o m.o).kE v.o (cW.of (aM (Below.refl _ _) _)))).mono ?_
   rintro e I ⟨R,m1,X,y1,b,u1,rfl,O,K,E,B⟩;have H:ak _:=⟨K⟩;have s:ak (cW g a I):=⟨m.o.trans ((cW.of (aM (Below.refl _ _) _)).trans E)⟩;have y:ak (Bu I g (bV lo k) (some t) n c):=⟨j.o.kE ((cW.of (aM (Below.refl _ _) _)).trans E)⟩;clear K E Y S Z;cases b
   ·clear B
    go_wp2;go_roundg (i+1)
    ·exact⟨i,some t,c,u1,aq,aq,rfl,aQ,aq,H,s,y⟩
    omega
   ·obtain⟨W,r,p,_⟩:=B rfl
    obtain rfl:=p trivial;have D:ak _:=⟨r⟩;clear B r p;go_wp2;go_roundg (i+1)
    ·exact⟨i,R,X,u1,aq,aq,rfl,aQ,aq,H,s,D⟩
    omega
  ·go_roundg (i+1)
   case measure=>omega
   case rel=>exact⟨i,some t,c,l,aq,aq,rfl,aQ,aq,⟨v.o.Z (aM (Below.refl _ _) _)⟩,⟨m.o.trans (cW.of (aM (Below.refl _ _) _))⟩,⟨j.o.kE (cW.of (aM (Below.refl _ _) _))⟩⟩
theorem Kw(g:Nat)(f:db)(u:Nat)(lo B:Int)(x C:Int)(A:aC)(n c:Nat)(w:World)(h:Mc w g f u)(W:Bu w g (bV lo B) A n c):
 Calls prog 248 #[.pointer (some ⟨g,0,none⟩), .agg #[ae aj x,ae aj C], .slice A n c] w (PNe w g f u (bV lo B)):=by
 obtain⟨l,aP⟩:=eX (w.alloc (.cells #[ae aj x,ae aj C] 253));have P:aA w l:=lY;have Q:ak (Bx l w.heap.size #[ae aj x,ae aj C]):=⟨qR⟩;have M:ak (Mc l g f u):=⟨h.Z P⟩;have o:ak (Bu l g (bV lo B) A n c):=⟨W.kE (cW.of P)⟩;have I:ak (cW g w l):=⟨cW.of P⟩;have Kp:=h.bx.lt;have hn:=W.nn;have qT:=h.fr.rL.bd;have y:l.cell? ⟨w.heap.size,0,none⟩=some (ae aj x):=Q.o.cell 0;have H:l.cell? ⟨w.heap.size,1,none⟩=some (ae aj C):=Q.o.cell 1;obtain⟨q0,q1,q2,N,q4,q5,q6⟩:=M.o.m7;clear h W P;by_cases h1:x<0
 ·go_enter func248,ntmps248
  go_wp2;rw[<-aP];clear aP;go_quiet (fail);go_wp2;go_ret;exact⟨_,_,_,u,rfl,Nat.le_refl _,M.o.Z (aM (Below.refl _ _) _),I.o.trans (cW.of (aM (Below.refl _ _) _)),o.o.kE (cW.of (aM (Below.refl _ _) _))⟩
 obtain⟨j,rfl⟩:∃j:Nat,x=(j:Int):=⟨x.toNat,aq⟩;by_cases h2:j<f.ln;rotate_left
 ·have O:(f.ln:Int)<=(j:Int):=by omega
  go_enter func248,ntmps248;go_wp2;rw[<-aP];clear aP;go_quiet (fail);go_wp2;go_ret;exact⟨_,_,_,u,rfl,Nat.le_refl _,M.o.Z (aM (Below.refl _ _) _),I.o.trans (cW.of (aM (Below.refl _ _) _)),o.o.kE (cW.of (aM (Below.refl _ _) _))⟩
 have O:¬(f.ln:Int)<=(j:Int):=aq;have L:(j:Int)<(f.ln:Int):=aq;obtain⟨ad,k,Y,hk,D,_⟩:=rl M.o.fr.rL h2;have EL:ak _:=⟨Y⟩;have E0:ak _:=⟨D⟩;rw[Y]at N;clear Y hk h1;by_cases v:k.kind=5
 ·rw[v]at D
  go_enter func248,ntmps248;go_wp2;rw[<-aP];clear aP;go_quiet (fail);go_wp2;generalize kL:l.drewN _=J;have i:aA l J:=Xq;have z:=au N i;have t:=au D i;have s:=au y i;clear kL;go_quiet (fail);generalize m:J.drewN _=q;have d:aA l q:=by rw[<-m];exact aM i _
  clear m z t s i;have G:Yf q f (j:Int):=fun j2 gP kk f1 f2 f3 f4=>by
   obtain rfl:j=j2:=aq;rw[EL.o]at f3;obtain rfl:=Option.some.inj f3;have:=au D d;rw[this]at f4;injection f4 with f4
   injection f4 with _ f4
   exact f4.symm
  have BH:ak _:=⟨Mu g f u lo B (j:Int) C A n c q (M.o.Z d) (o.o.kE (cW.of d)) G⟩;have D3:ak (aA l q):=⟨d⟩;have y:=au y d;have H:=au H d;clear d G D q0 q1 q2 N q4 q5 q6;go_wp2_with fail;refine BH.o.mono ?_;rintro e w5 ⟨A6,m6,c6,u6,rfl,g1,g2,g3,g4⟩;have G2:ak _:=⟨g2⟩;have G3:ak (cW g w w5):=⟨(I.o.trans (cW.of D3.o)).trans g3⟩;have G4:ak _:=⟨g4⟩;clear g2 g3 g4 BH;go_wp2;go_ret;exact⟨_,_,_,u6,rfl,g1,G2.o,G3.o,G4.o⟩
 ·have Z:(k.kind==5)=false:=by simp[v]
  go_enter func248,ntmps248;go_wp2;rw[<-aP];clear aP;go_quiet (fail);go_wp2;generalize kL:l.drewN _=J;have i:aA l J:=Xq;have z:=au N i;have t:=au D i;have s:=au y i;clear kL;go_quiet (fail);generalize m:J.drewN _=q;have d:aA l q:=by rw[<-m];exact aM i _
  clear m z t s i;have M3:ak _:=⟨M.o.Z d⟩;have B3:ak (cW g w q):=⟨I.o.trans (cW.of d)⟩;have X:ak _:=⟨o.o.kE (cW.of (g:=g) d)⟩;have X3:ak _:=⟨Q.o.ar d Q.o.lt⟩;have xi:=d.size;have jg:w.heap.size<=l.heap.size:=I.o.size;clear d D q0 q1 q2 N q4 q5 q6 y H;go_wp2;have F:decide (f.ln<=j)=false:=fC;simp only[F,Bool.or_false];clear h2 O L v Z F;go_loopg [2,7,8,9,10] (65536*20000+20000) (fun gg v2 v7 _ _ _ wr=>∃(a:Nat) (A:aC) (n c p:Nat),(65536-p)*20000+(n-a)<gg/\v2= .slice A n c/\v7=ae aj (a:Int)/\a<=1000000/\u<=p/\ak (Mc wr g f p)/\ak (cW g q wr)/\ak (Bu wr g (bV lo B) A n c))
  ·exact⟨0,A,n,c,u,aq,rfl,rfl,aq,aq,M3,⟨cW.refl _ _⟩,X⟩
  obtain⟨a,A,n,c,p,hg,rfl,rfl,ha,V,S,R,o⟩:=hrel;have B2:ak (cW g w wr):=⟨B3.o.trans R.o⟩;have hu':=S.o.hu;by_cases T:a<n;rotate_left
  ·have i4:=cF a n
   go_wp2;go_ret;exact⟨_,_,_,p,rfl,V,S.o,B2.o,o.o⟩
  have i4:=aR a n;have hn3:=o.o.nn;have XR:ak (Bx wr w.heap.size #[ae aj (j:Int),ae aj C]):=⟨X3.o.kE aq R.o⟩;have y:wr.cell? ⟨w.heap.size,0,none⟩=some (ae aj (j:Int)):=XR.o.cell 0;have H:wr.cell? ⟨w.heap.size,1,none⟩=some (ae aj C):=XR.o.cell 1;obtain⟨r,x0,x1,x2,x3,x4,x5,x6,x7,x8,x9,rfl,hQ,_,_,_,_,_,_,_,_,_,e9⟩:=o.o.gl.ba T;clear hQ;go_wp2;go_quiet (fail);go_wp2_with fail
  ·refine(Ah g f p lo B (j:Int) (a:Int) (some r) n c False _ (S.o.Z (aM (Below.refl _ _) _)) (o.o.kE (cW.of (aM (Below.refl _ _) _))) (fun h=>h.elim)).mono ?_
   rintro e w1 ⟨A1,m1,c1,y1,b,u1,rfl,hu1,hM,hB,hb⟩;have M1:ak _:=⟨hM⟩;have K:ak (cW g q w1):=⟨R.o.trans ((cW.of (aM (Below.refl _ _) _)).trans hB)⟩;have U:ak (Bu w1 g (bV lo B) (some r) n c):=⟨o.o.kE ((cW.of (aM (Below.refl _ _) _)).trans hB)⟩;have afC:=hM.hu;clear hM hB y H e9;cases b
   ·clear hb
    go_wp2;go_roundg ((65536-p)*20000+(n-a))
    ·exact⟨a+1,some r,n,c,u1,aq,rfl,aQ,aq,aq,M1,K,U⟩
    omega
   ·obtain⟨hu2,E,_,hy1,_⟩:=hb rfl
    have Su:ak _:=⟨E⟩;have Fb:=E.nn;clear hb E;go_wp2;go_roundg ((65536-p)*20000+(n-a))
    ·exact⟨y1,A1,m1,c1,u1,aq,rfl,rfl,aq,aq,M1,K,Su⟩
    omega
  ·go_roundg ((65536-p)*20000+(n-a))
   case measure=>omega
   case rel=>exact⟨a+1,some r,n,c,p,aq,rfl,aQ,aq,aq,⟨S.o.Z (aM (Below.refl _ _) _)⟩,⟨R.o.trans (cW.of (aM (Below.refl _ _) _))⟩,⟨o.o.kE (cW.of (aM (Below.refl _ _) _))⟩⟩
theorem Rq.abC(h:Rq w B 2 Q A n){j:Nat}(l:j<n):∃(a:Addr) (c b:Int),A=some a/\Q [c,b]/\w.cell? (a.add (j*2))=some (ae aj c)/\w.cell? (bW (a.add (j*2)) 1)=some (ae aj b):=by
 obtain⟨a,e,_,k⟩:=h aq;obtain⟨g,i,m,f⟩:=k j l
 match g,i with
 |[c,b],_=>
  have d:=f 0 _ rfl;rw[eQ]at d;exact⟨a,c,b,e,m,d,f 1 _ rfl⟩
abbrev J9(_:aE):Prop:=True
theorem aak(g:Nat)(f:db)(u:Nat)(lo j:Int)(o:aC)(a C:Nat)(A:aC)(n c:Nat)(w:World)(h:Mc w g f u)(F:Bu w g (bV lo j) A n c)(r:Rq w g 2 J9 o a)(D:a<=1000000000):
 Calls prog 189 #[.pointer (some ⟨g,0,none⟩), .slice o a C, .slice A n c] w (PNe w g f u (bV lo j)):=by
 have M:=sH h;have d:=sH F;have s:=sH r;have G:=h.bx.lt;go_enter func189,ntmps189;go_wp2;go_loopg [2,7] (a+1) (fun gg v2 v7 wr=>∃(i:Nat) (A:aC) (n c b:Nat),a-i<gg/\i<=a/\v2= .slice A n c/\v7=ae aj (i:Int)/\u<=b/\ak (Mc wr g f b)/\ak (cW g w wr)/\ak (Bu wr g (bV lo j) A n c))
 ·exact⟨0,A,n,c,u,aq,aq,rfl,rfl,aq,M,⟨cW.refl _ _⟩,d⟩
 obtain⟨i,A,n,c,b,N,B,rfl,rfl,l,p,m,d⟩:=hrel;by_cases k:i<a
 ·obtain⟨L,x,y,rfl,_,P,R⟩:=(s.o.Z (m.o.below cr aq) cr).abC k
  have K:=aR i a;have H:=sH (Kw g f b lo j x y A n c wr p.o d.o);go_wp2_with fail;refine H.o.mono ?_;rintro e O ⟨v,I,c6,u6,rfl,Q,g2,z,E⟩;have J:=sH g2;have q:=sH (m.o.trans z);have t:=sH E;go_wp2;go_roundg (a-i)
  ·exact⟨i+1,v,I,c6,u6,aq,aq,rfl,aQ,aq,J,q,t⟩
  omega
 ·go_wp2
  go_ret;exact⟨_,_,_,b,rfl,l,p.o,m.o,d.o⟩
def PGl(w:World)(Q:aE->Prop)(e:Ending)(a:World):Prop:=∃(A:aC) (m c:Nat),e= .returned (.slice A m c)/\gi a Q A m/\m<=c/\m<=16384/\aA w a
theorem abD(f:db)(lo j:Int)(i:aC)(d p:Nat)(A:aC)(n c:Nat)(w:World)(h:ca w w.heap.size f)(o:J0 w w.heap.size f)(q:gi w (bV lo j) A n)(m:n<=c)(G:n<=16384)(u:Rq w w.heap.size 2 J9 i d)(l:d<=1000000000):
 Calls prog 114 #[f.v, .slice i d p, .slice A n c] w (PGl w (bV lo j)):=by
 obtain⟨b,aP⟩:=eX ((w.alloc (.cells f.row 82)).alloc (.cells #[ae aj f.em, .slice f.G f.gn f.gc, .slice f.M f.mn f.mc, .slice f.L f.ln f.lc, .slice f.F f.fn f.fc, .slice f.S f.sn f.sc,ae aj 0] 243));have a:aA w b:=Xv;have F:ak (Mc b (w.heap.size+1) f 0):=⟨⟨by rw[aP];exact Bx.jt _ _ _ (by simp),h.Z a aq,o.Z a aq,aq⟩⟩;have C:ak (Bu b (w.heap.size+1) (bV lo j) A n c):=⟨⟨q.Z a a.size,fun H L E=>by
  obtain⟨I,g,x,_⟩:=q H;rw[E]at g;obtain rfl:=Option.some.inj g;omega,m,G⟩⟩
 have v:ak (Rq b (w.heap.size+1) 2 J9 i d):=⟨u.Z a aq⟩;have s:=sH a;have B:=sH (aak (w.heap.size+1) f 0 lo j i d p A n c b F.o C.o v.o l);have J:=a.size;have r:b.heap.size=w.heap.size+2:=oL;go_enter func114,ntmps114;go_wp2_with fail;rw[<-aP];refine B.o.mono ?_;rintro e z ⟨K,N,c6,u6,rfl,M,g2,y,D⟩;have t:ak (aA w z):=⟨s.o.trans (y.below aq aq)⟩;have k:=sH D;go_wp2;go_ret;exact⟨_,_,_,rfl,k.o.gl,k.o.nc,k.o.nn,t.o⟩
end Go.Proofs.YtpidckelbgbbkaaGreatDoor
